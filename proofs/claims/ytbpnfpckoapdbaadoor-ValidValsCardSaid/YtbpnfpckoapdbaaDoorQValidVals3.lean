/- The law ValidVals holds for every input that the row lets in (text 4 of 6; some of it the words and functions that the kit's print and this claim's programs wrote) -/
import Derived.Test.YtbpnfpckoapdbaaDoorQValidVals2
section
namespace Go.Proofs.YtbpnfpckoapdbaaDoor.PV20
open Go.RowKit Go.Proofs.YtbpnfpckoapdbaaDoor.M Go.Proofs.YtbpnfpckoapdbaaDoor.KD Go.Proofs.YtbpnfpckoapdbaaDoor Go.Proofs.YtbpnfpckoapdbaaDoorW.PrintWords Go.Proofs.YtbpnfpckoapdbaaDoorW.PrintLast Go.Proofs.YtbpnfpckoapdbaaDoorW.PrintMore
attribute [local go_sem] max2_int min2_int max_two min_two max_three min_three max_four min_four   -- for this text's walks alone
set_option linter.unusedVariables false
set_option linter.unusedSimpArgs false
def ecdysisref02_Fits.f (a0 : Int) : Option (Bool) := if a0 ≥ (-2147483648) then (some (decide (a0 ≤ 2147483647))) else (some false)
set_option maxHeartbeats 8000000 in
set_option maxRecDepth 100000 in
theorem ecdysisref02_Fits.calls (a0 : Int) (r : Bool) (w : World) (h : ecdysisref02_Fits.f a0 = some r) :
   Calls Tryd.prog 45 #[.int .i64 a0] w fun e w' => e = .returned (.bool r) ∧ Drawn0 w w' := by
 have H : (if a0 ≥ (-2147483648) then (some (decide (a0 ≤ 2147483647))) else (some false)) = some r := h
 clear h
 by_cases c2 : a0 ≥ (-2147483648)
 · rw [if_pos c2] at H
   have c2b0 : decide ((-2147483648) ≤ a0) = true := decide_eq_true c2
   clear c2
   obtain rfl := Option.some.inj H
   go_enter Tryd.func45, Tryd.ntmps45
   go_wp2
   go_ret
   exact ⟨by first | rfl , by repeat (first | exact Drawn0.refl _ )⟩
 · rw [if_neg c2] at H
   have c2b0 : decide ((-2147483648) ≤ a0) = false := decide_eq_false c2
   clear c2
   obtain rfl := Option.some.inj H
   go_enter Tryd.func45, Tryd.ntmps45
   go_wp2
   go_ret
   exact ⟨by first | rfl , by repeat (first | exact Drawn0.refl _ )⟩
mutual
def ecdysisref11_May.j0 : Nat → Int → Int → Bool → Option (Bool)
 | 0, _, _, _ => none
 | k + 1, x0, x1, x10 => if x10 = true then (some false) else ((ecdysisref11_Wide.f x0).bind fun t196 => (if t196 = true then (some true) else ((ecdysisref11_Signed.f x0).bind fun t197 => (if t197 = true then ((ecdysisref02_Fits.f (wrap64 (x1))).bind fun t198 => (some t198)) else (if x0 = 3 then (ecdysisref11_May.j1 k x0 x1 true) else (ecdysisref11_May.j1 k x0 x1 (x0 == 8)))))))
def ecdysisref11_May.j1 : Nat → Int → Int → Bool → Option (Bool)
 | 0, _, _, _ => none
 | k + 1, x0, x1, x23 => if x23 = true then (some (decide (x1 < 4294967296))) else (if x0 = 7 then (some (decide (x1 < 2))) else (some (x1 == 0)))
end
def ecdysisref11_May.f (k : Nat) (a0 : Int) (a1 : Int) : Option (Bool) := if a0 < 1 then (ecdysisref11_May.j0 k a0 a1 true) else (ecdysisref11_May.j0 k a0 a1 (decide (a0 > 15)))
set_option maxHeartbeats 8000000 in
set_option maxRecDepth 100000 in
theorem ecdysisref11_May.calls (k : Nat) (a0 : Int) (a1 : Int) (r : Bool) (w : World) (h : ecdysisref11_May.f k a0 a1 = some r) :
  Calls Tryd.prog 27 #[.int .i64 a0, .int .u64 a1] w fun e w' => e = .returned (.bool r) ∧ Drawn0 w w' := by
 have H : (if a0 < 1 then (ecdysisref11_May.j0 k a0 a1 true) else (ecdysisref11_May.j0 k a0 a1 (decide (a0 > 15)))) = some r := h
 clear h
 have HC3 := Aside0.mk H
 clear H
 go_enter Tryd.func27, Tryd.ntmps27
 go_upto_region 1 with (fail)
 go_cut [10] (fun v10 wc => ∃ (kq : Nat) (x10_2 : Bool), v10 = .bool x10_2 ∧ Aside0 (ecdysisref11_May.j0 kq a0 a1 x10_2 = some r) ∧ Aside0 (kq ≤ k) ∧ Drawn0 w wc)
 case first =>
  have H := HC3.out
  clear HC3
  by_cases c4 : a0 < 1
  · rw [if_pos c4] at H
    have c4b0 : decide (a0 < 1) = true := decide_eq_true c4
    clear c4
    (first | skip)
    have H' := Aside0.mk H
    clear H
    go_wp2
    go_meet
    case rel => exact ⟨_, (true), (by first | rfl ), H', ⟨by first | omega ⟩, by repeat (first | exact Drawn0.refl _ )⟩
  · rw [if_neg c4] at H
    have c4b0 : decide (a0 < 1) = false := decide_eq_false c4
    clear c4
    (first | skip)
    have H' := Aside0.mk H
    clear H
    go_wp2
    go_meet
    case rel => exact ⟨_, (decide (a0 > 15)), (by first | rfl ), H', ⟨by first | omega ⟩, by repeat (first | exact Drawn0.refl _ )⟩
 case rest =>
  clear HC3
  try clear c2
  try clear p2
  try clear c4
  try clear c4b0
  obtain ⟨kq, x10_2, rfl, HA, HJ2, ⟨mc2, rfl⟩⟩ := hcut
  cases kq with
  | zero => exact absurd HA.out (by simp [ecdysisref11_May.j0])
  | succ kj2 =>
    have H := HA.out
    clear HA
    simp only [ecdysisref11_May.j0] at H
    by_cases c5 : x10_2 = true
    · subst c5
      have H1 : (some false) = some r := by rw [if_pos rfl] at H; exact H
      clear H
      have H := H1
      clear H1
      obtain rfl := Option.some.inj H
      go_wp2
      go_ret
      exact ⟨by first | rfl , by repeat (first | exact Drawn0.refl _ | apply Drawn0.step)⟩
    · replace c5 := Bool.eq_false_iff.mpr c5
      subst c5
      have H1 : ((ecdysisref11_Wide.f a0).bind fun t196 => (if t196 = true then (some true) else ((ecdysisref11_Signed.f a0).bind fun t197 => (if t197 = true then ((ecdysisref02_Fits.f (wrap64 (a1))).bind fun t198 => (some t198)) else (if a0 = 3 then (ecdysisref11_May.j1 kj2 a0 a1 true) else (ecdysisref11_May.j1 kj2 a0 a1 (a0 == 8))))))) = some r := by rw [if_neg (show ¬ (false = true) by decide)] at H; exact H
      clear H
      have H := H1
      clear H1
      replace H := Option.bind_eq_some_iff.mp H
      obtain ⟨t196, A60, H⟩ := H
      replace H : (if t196 = true then (some true) else ((ecdysisref11_Signed.f a0).bind fun t197 => (if t197 = true then ((ecdysisref02_Fits.f (wrap64 (a1))).bind fun t198 => (some t198)) else (if a0 = 3 then (ecdysisref11_May.j1 kj2 a0 a1 true) else (ecdysisref11_May.j1 kj2 a0 a1 (a0 == 8)))))) = some r := H
      have A6 := Aside0.mk A60
      clear A60
      by_cases c7 : t196 = true
      · subst c7
        have H1 : (some true) = some r := by rw [if_pos rfl] at H; exact H
        clear H
        have H := H1
        clear H1
        obtain rfl := Option.some.inj H
        go_wp2_with (first | ((with_reducible refine gate_callee (f := 43) rfl ?_); refine goesL_ (some 12) rfl rfl Tryd.func43 (by kernel_rfl) rfl #[.int .i64 a0] rfl (by (try simp only [List.map_toArray, List.map_cons, List.map_nil]); first | done | rfl | (simp only [List.length_drop, List.length_take]; rfl)) ?_; (with_reducible refine (ecdysisref11_Wide.calls a0 true _ A6.out).mono ?_); rintro e w' ⟨rfl, ⟨nd, rfl⟩⟩; refine ⟨_, rfl, ?_⟩))
        go_ret
        exact ⟨by first | rfl , by repeat (first | exact Drawn0.refl _ | apply Drawn0.step)⟩
      · replace c7 := Bool.eq_false_iff.mpr c7
        subst c7
        have H1 : ((ecdysisref11_Signed.f a0).bind fun t197 => (if t197 = true then ((ecdysisref02_Fits.f (wrap64 (a1))).bind fun t198 => (some t198)) else (if a0 = 3 then (ecdysisref11_May.j1 kj2 a0 a1 true) else (ecdysisref11_May.j1 kj2 a0 a1 (a0 == 8))))) = some r := by rw [if_neg (show ¬ (false = true) by decide)] at H; exact H
        clear H
        have H := H1
        clear H1
        replace H := Option.bind_eq_some_iff.mp H
        obtain ⟨t197, A80, H⟩ := H
        replace H : (if t197 = true then ((ecdysisref02_Fits.f (wrap64 (a1))).bind fun t198 => (some t198)) else (if a0 = 3 then (ecdysisref11_May.j1 kj2 a0 a1 true) else (ecdysisref11_May.j1 kj2 a0 a1 (a0 == 8)))) = some r := H
        have A8 := Aside0.mk A80
        clear A80
        by_cases c9 : t197 = true
        · subst c9
          have H1 : ((ecdysisref02_Fits.f (wrap64 (a1))).bind fun t198 => (some t198)) = some r := by rw [if_pos rfl] at H; exact H
          clear H
          have H := H1
          clear H1
          replace H := Option.bind_eq_some_iff.mp H
          obtain ⟨t198, A100, H⟩ := H
          replace H : (some t198) = some r := H
          have A10 := Aside0.mk A100
          clear A100
          obtain rfl := Option.some.inj H
          go_wp2_with (first | ((with_reducible refine gate_callee (f := 43) rfl ?_); refine goesL_ (some 12) rfl rfl Tryd.func43 (by kernel_rfl) rfl #[.int .i64 a0] rfl (by (try simp only [List.map_toArray, List.map_cons, List.map_nil]); first | done | rfl | (simp only [List.length_drop, List.length_take]; rfl)) ?_; (with_reducible refine (ecdysisref11_Wide.calls a0 false _ A6.out).mono ?_); rintro e w' ⟨rfl, ⟨nd, rfl⟩⟩; refine ⟨_, rfl, ?_⟩) | ((with_reducible refine gate_callee (f := 44) rfl ?_); refine goesL_ (some 14) rfl rfl Tryd.func44 (by kernel_rfl) rfl #[.int .i64 a0] rfl (by (try simp only [List.map_toArray, List.map_cons, List.map_nil]); first | done | rfl | (simp only [List.length_drop, List.length_take]; rfl)) ?_; (with_reducible refine (ecdysisref11_Signed.calls a0 true _ A8.out).mono ?_); rintro e w' ⟨rfl, ⟨nd, rfl⟩⟩; refine ⟨_, rfl, ?_⟩) | ((with_reducible refine gate_callee (f := 45) rfl ?_); refine goesL_ (some 17) rfl rfl Tryd.func45 (by kernel_rfl) rfl #[.int .i64 (wrap64 (a1))] rfl (by (try simp only [List.map_toArray, List.map_cons, List.map_nil]); first | done | rfl | (simp only [List.length_drop, List.length_take]; rfl)) ?_; (with_reducible refine (ecdysisref02_Fits.calls (wrap64 (a1)) t198 _ A10.out).mono ?_); rintro e w' ⟨rfl, ⟨nd, rfl⟩⟩; refine ⟨_, rfl, ?_⟩))
          go_ret
          exact ⟨by first | rfl , by repeat (first | exact Drawn0.refl _ | apply Drawn0.step)⟩
        · replace c9 := Bool.eq_false_iff.mpr c9
          subst c9
          have H1 : (if a0 = 3 then (ecdysisref11_May.j1 kj2 a0 a1 true) else (ecdysisref11_May.j1 kj2 a0 a1 (a0 == 8))) = some r := by rw [if_neg (show ¬ (false = true) by decide)] at H; exact H
          clear H
          have H := H1
          clear H1
          have HC11 := Aside0.mk H
          clear H
          go_upto_region 7 with (first | ((with_reducible refine gate_callee (f := 43) rfl ?_); refine goesL_ (some 12) rfl rfl Tryd.func43 (by kernel_rfl) rfl #[.int .i64 a0] rfl (by (try simp only [List.map_toArray, List.map_cons, List.map_nil]); first | done | rfl | (simp only [List.length_drop, List.length_take]; rfl)) ?_; (with_reducible refine (ecdysisref11_Wide.calls a0 false _ A6.out).mono ?_); rintro e w' ⟨rfl, ⟨nd, rfl⟩⟩; refine ⟨_, rfl, ?_⟩) | ((with_reducible refine gate_callee (f := 44) rfl ?_); refine goesL_ (some 14) rfl rfl Tryd.func44 (by kernel_rfl) rfl #[.int .i64 a0] rfl (by (try simp only [List.map_toArray, List.map_cons, List.map_nil]); first | done | rfl | (simp only [List.length_drop, List.length_take]; rfl)) ?_; (with_reducible refine (ecdysisref11_Signed.calls a0 false _ A8.out).mono ?_); rintro e w' ⟨rfl, ⟨nd, rfl⟩⟩; refine ⟨_, rfl, ?_⟩))
          (try simp only [Act.put, List.setIfInBounds_toArray, List.set_cons_zero, List.set_cons_succ])
          go_cut [23] (fun v23 wc => ∃ (kq : Nat) (x23_10 : Bool), v23 = .bool x23_10 ∧ Aside0 (ecdysisref11_May.j1 kq a0 a1 x23_10 = some r) ∧ Aside0 (kq ≤ kj2) ∧ Drawn0 w wc)
          case first =>
           have H := HC11.out
           clear HC11
           by_cases c12 : a0 = 3
           · rw [if_pos c12] at H
             have c12b0 : (a0 == 3) = true := beq_iff_eq.mpr c12
             have c12b1 : (a0 != 3) = false := bne_eq_false_iff_eq.mpr c12
             clear c12
             (first | skip)
             have H' := Aside0.mk H
             clear H
             go_wp2
             go_meet
             case rel => exact ⟨_, (true), (by first | rfl ), H', ⟨by have := HJ2.out; first | omega | exact Nat.le_refl _⟩, by repeat (first | exact Drawn0.refl _ | apply Drawn0.step)⟩
           · rw [if_neg c12] at H
             have c12b0 : (a0 == 3) = false := beq_eq_false_iff_ne.mpr c12
             have c12b1 : (a0 != 3) = true := bne_iff_ne.mpr c12
             (first | skip)
             have H' := Aside0.mk H
             clear H
             go_wp2
             go_meet
             case rel => exact ⟨_, ((a0 == 8)), (by first | rfl ), H', ⟨by have := HJ2.out; first | omega | exact Nat.le_refl _⟩, by repeat (first | exact Drawn0.refl _ | apply Drawn0.step)⟩
          case rest =>
           clear HC11
           try clear c1
           try clear c2
           try clear p2
           try clear c4
           try clear c4b0
           try clear c5
           try clear p6
           try clear c7
           try clear c9
           try clear c12
           try clear c12b0
           try clear c12b1
           try clear p2
           obtain ⟨kq, x23_10, rfl, HA, HJ10, ⟨mc10, rfl⟩⟩ := hcut
           cases kq with
           | zero => exact absurd HA.out (by simp [ecdysisref11_May.j1])
           | succ kj10 =>
             have H := HA.out
             clear HA
             simp only [ecdysisref11_May.j1] at H
             by_cases c13 : x23_10 = true
             · subst c13
               have H1 : (some (decide (a1 < 4294967296))) = some r := by rw [if_pos rfl] at H; exact H
               clear H
               have H := H1
               clear H1
               obtain rfl := Option.some.inj H
               go_wp2
               go_ret
               exact ⟨by first | rfl , by repeat (first | exact Drawn0.refl _ | apply Drawn0.step)⟩
             · replace c13 := Bool.eq_false_iff.mpr c13
               subst c13
               have H1 : (if a0 = 7 then (some (decide (a1 < 2))) else (some (a1 == 0))) = some r := by rw [if_neg (show ¬ (false = true) by decide)] at H; exact H
               clear H
               have H := H1
               clear H1
               by_cases c14 : a0 = 7
               · rw [if_pos c14] at H
                 have c14b0 : (a0 == 7) = true := beq_iff_eq.mpr c14
                 have c14b1 : (a0 != 7) = false := bne_eq_false_iff_eq.mpr c14
                 clear c14
                 obtain rfl := Option.some.inj H
                 go_wp2
                 go_ret
                 exact ⟨by first | rfl , by repeat (first | exact Drawn0.refl _ | apply Drawn0.step)⟩
               · rw [if_neg c14] at H
                 have c14b0 : (a0 == 7) = false := beq_eq_false_iff_ne.mpr c14
                 have c14b1 : (a0 != 7) = true := bne_iff_ne.mpr c14
                 obtain rfl := Option.some.inj H
                 go_wp2
                 go_ret
                 exact ⟨by first | rfl , by repeat (first | exact Drawn0.refl _ | apply Drawn0.step)⟩
def ecdysisref16_Number.l0 : Nat → Int → Int → ByteArray → List (S36) → List Int → Option (Int)
 | 0, _, _, _, _, _ => none
 | k + 1, x1, x5, x200000, x200001, x200002 => if x5 < (x200001.length : Int) then (if 0 ≤ x5 then (if ((rd_T36 x200001 x5).f1) = x1 then (some x5) else (ecdysisref16_Number.l0 k x1 (wrap64 (x5 + 1)) x200000 x200001 x200002)) else (none)) else (some (-1))
def ecdysisref16_Number.f (k : Nat) (a0_0 : ByteArray) (l0_1 : List (S36)) (l0_2 : List Int) (a1 : Int) : Option (Int) := ecdysisref16_Number.l0 k a1 0 a0_0 l0_1 l0_2
set_option maxHeartbeats 8000000 in
set_option maxRecDepth 100000 in
theorem ecdysisref16_Number.calls (k : Nat) (a0_0 : ByteArray) (A0_1 : Option Addr) (c0_1 : Nat) (l0_1 : List (S36)) (A0_2 : Option Addr) (c0_2 : Nat) (l0_2 : List Int) (a1 : Int) (r : Int) (w : World) (hr0_1 : Kd.C k36 w A0_1 l0_1.length l0_1) (hc0_1 : l0_1.length ≤ c0_1) (hr0_2 : Kd.C (Kd.int .i64) w A0_2 l0_2.length l0_2) (hc0_2 : l0_2.length ≤ c0_2) (h : ecdysisref16_Number.f k a0_0 l0_1 l0_2 a1 = some r) :
  Calls Tryd.prog 21 #[.agg #[.string a0_0, .slice A0_1 l0_1.length c0_1, .slice A0_2 l0_2.length c0_2], .int .i64 a1] w fun e w' => e = .returned (.int .i64 r) ∧ Below w.heap.size w w' := by
 have hu52 := Tryd.underlying52
 have HR0_1 := Aside0.mk hr0_1
 have HC0_1 := Aside0.mk hc0_1
 clear hr0_1 hc0_1
 have HR0_2 := Aside0.mk hr0_2
 have HC0_2 := Aside0.mk hc0_2
 clear hr0_2 hc0_2
 have HB := Aside0.mk (Below.refl w.heap.size w)
 have H : (ecdysisref16_Number.l0 k a1 0 a0_0 l0_1 l0_2) = some r := h
 clear h
 have H' := Aside0.mk H
 clear H
 go_enter Tryd.func21, Tryd.ntmps21
 go_wp2_with (first | ((with_reducible refine gate_dst (N := 2) rfl ?_); refine box_event ?hg (N := 2) ?hd (cs := #[.string a0_0, .slice A0_1 l0_1.length c0_1, .slice A0_2 l0_2.length c0_2]) (t := 52) ?hr ?_; (case hd => rfl); (case hg => rfl); (case hr => first | (go_simp; done) | (go_simp; rfl)); intro gb199 hg w3 hbox hb; have n0_ := Aside0.mk (below_step HB.out hb); have n1_ := Aside0.mk (hbox); clear HB; have HB := n0_; have BK199 := n1_; clear n0_ n1_; clear hb hbox hg))
 go_loopg [5] k (fun kq v5 w' => ∃ (x5_1 : Int), v5 = .int .i64 x5_1 ∧ Aside0 (ecdysisref16_Number.l0 kq a1 x5_1 a0_0 l0_1 l0_2 = some r) ∧ Aside0 (kq ≤ k) ∧ Aside0 (w'.heap[gb199]? = some (.cells #[.string a0_0, (.slice A0_1 l0_1.length c0_1), (.slice A0_2 l0_2.length c0_2)] 52 (0, 0))) ∧ Aside0 (Below w.heap.size w w'))
 case atStart => exact ⟨(0), (by first | rfl ), H', ⟨Nat.le_refl _⟩, ⟨by exact BK199.out⟩, ⟨by exact HB.out⟩⟩
 case round =>
  clear H'
  try clear c2
  try clear p2
  obtain ⟨x5_1, rfl, HA, HK1, BK199, HB⟩ := hrel
  cases gk with
  | zero => exact absurd HA.out (by simp [ecdysisref16_Number.l0])
  | succ k1 =>
   have H := HA.out
   clear HA
   simp only [ecdysisref16_Number.l0] at H
   by_cases c4 : x5_1 < (l0_1.length : Int)
   · rw [if_pos c4] at H
     have c4b0 : decide (x5_1 < (l0_1.length : Int)) = true := decide_eq_true c4
     clear c4
     by_cases c5 : 0 ≤ x5_1
     · rw [if_pos c5] at H
       have c5b0 : decide (0 ≤ x5_1) = true := decide_eq_true c5
       clear c5
       by_cases c6 : ((rd_T36 l0_1 x5_1).f1) = a1
       · rw [if_pos c6] at H
         have c6b0 : (((rd_T36 l0_1 x5_1).f1) == a1) = true := beq_iff_eq.mpr c6
         have c6b1 : (((rd_T36 l0_1 x5_1).f1) != a1) = false := bne_eq_false_iff_eq.mpr c6
         clear c6
         obtain rfl := Option.some.inj H
         have hcz7_0 : wr.cell? ⟨gb199, 0, none⟩ = some (.string a0_0) := (blk_cell BK199.out 0).trans rfl
         have hcz7_1 : wr.cell? ⟨gb199, 1, none⟩ = some (.slice A0_1 l0_1.length c0_1) := (blk_cell BK199.out 1).trans rfl
         have hcz7_2 : wr.cell? ⟨gb199, 2, none⟩ = some (.slice A0_2 l0_2.length c0_2) := (blk_cell BK199.out 2).trans rfl
         have hfz7_0 := blk_frozen BK199.out 0
         have hfz7_1 := blk_frozen BK199.out 1
         have hfz7_2 := blk_frozen BK199.out 2
         have p200 : 0 ≤ (x5_1 : Int) := of_decide_eq_true (by first | (with_reducible assumption) )
         have q200 : x5_1 < (l0_1.length : Int) := of_decide_eq_true (by first | (with_reducible assumption) )
         obtain ⟨ad200, e200, hx200_0, hx200_1, hx200_2, hx200_3, hx200_4, hx200_5, hx200_6⟩ := at_T36 HR0_1.out x5_1 p200 q200
         cases e200
         replace hx200_0 := (HB.out.cell (World.block_lt_of_cell? w _ hx200_0)).trans hx200_0
         replace hx200_1 := (HB.out.cell (World.block_lt_of_cell? w _ hx200_1)).trans hx200_1
         replace hx200_2 := (HB.out.cell (World.block_lt_of_cell? w _ hx200_2)).trans hx200_2
         replace hx200_3 := (HB.out.cell (World.block_lt_of_cell? w _ hx200_3)).trans hx200_3
         replace hx200_4 := (HB.out.cell (World.block_lt_of_cell? w _ hx200_4)).trans hx200_4
         replace hx200_5 := (HB.out.cell (World.block_lt_of_cell? w _ hx200_5)).trans hx200_5
         replace hx200_6 := (HB.out.cell (World.block_lt_of_cell? w _ hx200_6)).trans hx200_6
         replace p200 := eq_true p200
         replace q200 := eq_true q200
         go_wp2
         go_ret
         exact ⟨by first | rfl , by exact HB.out⟩
       · rw [if_neg c6] at H
         have c6b0 : (((rd_T36 l0_1 x5_1).f1) == a1) = false := beq_eq_false_iff_ne.mpr c6
         have c6b1 : (((rd_T36 l0_1 x5_1).f1) != a1) = true := bne_iff_ne.mpr c6
         have H' := Aside0.mk H
         clear H
         have hcz8_0 : wr.cell? ⟨gb199, 0, none⟩ = some (.string a0_0) := (blk_cell BK199.out 0).trans rfl
         have hcz8_1 : wr.cell? ⟨gb199, 1, none⟩ = some (.slice A0_1 l0_1.length c0_1) := (blk_cell BK199.out 1).trans rfl
         have hcz8_2 : wr.cell? ⟨gb199, 2, none⟩ = some (.slice A0_2 l0_2.length c0_2) := (blk_cell BK199.out 2).trans rfl
         have hfz8_0 := blk_frozen BK199.out 0
         have hfz8_1 := blk_frozen BK199.out 1
         have hfz8_2 := blk_frozen BK199.out 2
         have p200 : 0 ≤ (x5_1 : Int) := of_decide_eq_true (by first | (with_reducible assumption) )
         have q200 : x5_1 < (l0_1.length : Int) := of_decide_eq_true (by first | (with_reducible assumption) )
         obtain ⟨ad200, e200, hx200_0, hx200_1, hx200_2, hx200_3, hx200_4, hx200_5, hx200_6⟩ := at_T36 HR0_1.out x5_1 p200 q200
         cases e200
         replace hx200_0 := (HB.out.cell (World.block_lt_of_cell? w _ hx200_0)).trans hx200_0
         replace hx200_1 := (HB.out.cell (World.block_lt_of_cell? w _ hx200_1)).trans hx200_1
         replace hx200_2 := (HB.out.cell (World.block_lt_of_cell? w _ hx200_2)).trans hx200_2
         replace hx200_3 := (HB.out.cell (World.block_lt_of_cell? w _ hx200_3)).trans hx200_3
         replace hx200_4 := (HB.out.cell (World.block_lt_of_cell? w _ hx200_4)).trans hx200_4
         replace hx200_5 := (HB.out.cell (World.block_lt_of_cell? w _ hx200_5)).trans hx200_5
         replace hx200_6 := (HB.out.cell (World.block_lt_of_cell? w _ hx200_6)).trans hx200_6
         replace p200 := eq_true p200
         replace q200 := eq_true q200
         go_wp2
         go_roundg k1
         case measure => have := HK1.out; omega
         case rel => exact ⟨(wrap64 (x5_1 + 1)), (by first | rfl ), H', ⟨by have := HK1.out; omega⟩, ⟨by exact BK199.out⟩, ⟨by exact HB.out⟩⟩
     · rw [if_neg c5] at H
       exact absurd H (by simp)
   · rw [if_neg c4] at H
     have c4b0 : decide (x5_1 < (l0_1.length : Int)) = false := decide_eq_false c4
     clear c4
     obtain rfl := Option.some.inj H
     have hcz9_0 : wr.cell? ⟨gb199, 0, none⟩ = some (.string a0_0) := (blk_cell BK199.out 0).trans rfl
     have hcz9_1 : wr.cell? ⟨gb199, 1, none⟩ = some (.slice A0_1 l0_1.length c0_1) := (blk_cell BK199.out 1).trans rfl
     have hcz9_2 : wr.cell? ⟨gb199, 2, none⟩ = some (.slice A0_2 l0_2.length c0_2) := (blk_cell BK199.out 2).trans rfl
     have hfz9_0 := blk_frozen BK199.out 0
     have hfz9_1 := blk_frozen BK199.out 1
     have hfz9_2 := blk_frozen BK199.out 2
     go_wp2
     go_ret
     exact ⟨by first | rfl , by exact HB.out⟩
def ecdysisref14_Hidden.f (a0_0 : ByteArray) (a0_1 : Int) (a0_2 : Int) (a0_3 : ByteArray) (a0_4 : Bool) (a0_5 : Bool) (a0_6 : ByteArray) : Option (Bool) := if a0_4 = true then (some false) else (if a0_6.toList = ([] : List UInt8) then (some (a0_2 != 15)) else (some false))
set_option maxHeartbeats 8000000 in
set_option maxRecDepth 100000 in
theorem ecdysisref14_Hidden.calls (a0_0 : ByteArray) (a0_1 : Int) (a0_2 : Int) (a0_3 : ByteArray) (a0_4 : Bool) (a0_5 : Bool) (a0_6 : ByteArray) (r : Bool) (w : World) (h : ecdysisref14_Hidden.f a0_0 a0_1 a0_2 a0_3 a0_4 a0_5 a0_6 = some r) :
   Calls Tryd.prog 34 #[.agg #[.string a0_0, .int .i64 a0_1, .int .i64 a0_2, .string a0_3, .bool a0_4, .bool a0_5, .string a0_6]] w fun e w' => e = .returned (.bool r) ∧ Below w.heap.size w w' := by
 have hu36 := Tryd.underlying36
 have HB := Aside0.mk (Below.refl w.heap.size w)
 have H : (if a0_4 = true then (some false) else (if a0_6.toList = ([] : List UInt8) then (some (a0_2 != 15)) else (some false))) = some r := h
 clear h
 by_cases c2 : a0_4 = true
 · subst c2
   have H1 : (some false) = some r := by rw [if_pos rfl] at H; exact H
   clear H
   have H := H1
   clear H1
   obtain rfl := Option.some.inj H
   go_enter Tryd.func34, Tryd.ntmps34
   go_wp2_with (first | ((with_reducible refine gate_dst (N := 1) rfl ?_); refine box_event ?hg (N := 1) ?hd (cs := #[.string a0_0, .int .i64 a0_1, .int .i64 a0_2, .string a0_3, .bool true, .bool a0_5, .string a0_6]) (t := 36) ?hr ?_; (case hd => rfl); (case hg => rfl); (case hr => first | (go_simp; done) | (go_simp; rfl)); intro gb201 hg w3 hbox hb; have n0_ := Aside0.mk (below_step HB.out hb); have n1_ := Aside0.mk (hbox); clear HB; have HB := n0_; have BK201 := n1_; clear n0_ n1_; clear hb hbox hg; have hcz4_0 : w3.cell? ⟨gb201, 0, none⟩ = some (.string a0_0) := (blk_cell BK201.out 0).trans rfl; have hcz4_1 : w3.cell? ⟨gb201, 1, none⟩ = some (.int .i64 a0_1) := (blk_cell BK201.out 1).trans rfl; have hcz4_2 : w3.cell? ⟨gb201, 2, none⟩ = some (.int .i64 a0_2) := (blk_cell BK201.out 2).trans rfl; have hcz4_3 : w3.cell? ⟨gb201, 3, none⟩ = some (.string a0_3) := (blk_cell BK201.out 3).trans rfl; have hcz4_4 : w3.cell? ⟨gb201, 4, none⟩ = some (.bool true) := (blk_cell BK201.out 4).trans rfl; have hcz4_5 : w3.cell? ⟨gb201, 5, none⟩ = some (.bool a0_5) := (blk_cell BK201.out 5).trans rfl; have hcz4_6 : w3.cell? ⟨gb201, 6, none⟩ = some (.string a0_6) := (blk_cell BK201.out 6).trans rfl; have hfz4_0 := blk_frozen BK201.out 0; have hfz4_1 := blk_frozen BK201.out 1; have hfz4_2 := blk_frozen BK201.out 2; have hfz4_3 := blk_frozen BK201.out 3; have hfz4_4 := blk_frozen BK201.out 4; have hfz4_5 := blk_frozen BK201.out 5; have hfz4_6 := blk_frozen BK201.out 6))
   go_ret
   exact ⟨by first | rfl , by exact HB.out⟩
 · replace c2 := Bool.eq_false_iff.mpr c2
   subst c2
   have H1 : (if a0_6.toList = ([] : List UInt8) then (some (a0_2 != 15)) else (some false)) = some r := by rw [if_neg (show ¬ (false = true) by decide)] at H; exact H
   clear H
   have H := H1
   clear H1
   by_cases c5 : a0_6.toList = ([] : List UInt8)
   · rw [if_pos c5] at H
     have c5b0 : (a0_6.toList == ([] : List UInt8)) = true := beq_iff_eq.mpr c5
     have c5b1 : (a0_6.toList != ([] : List UInt8)) = false := bne_eq_false_iff_eq.mpr c5
     clear c5
     obtain rfl := Option.some.inj H
     go_enter Tryd.func34, Tryd.ntmps34
     go_wp2_with (first | ((with_reducible refine gate_dst (N := 1) rfl ?_); refine box_event ?hg (N := 1) ?hd (cs := #[.string a0_0, .int .i64 a0_1, .int .i64 a0_2, .string a0_3, .bool false, .bool a0_5, .string a0_6]) (t := 36) ?hr ?_; (case hd => rfl); (case hg => rfl); (case hr => first | (go_simp; done) | (go_simp; rfl)); intro gb201 hg w6 hbox hb; have n0_ := Aside0.mk (below_step HB.out hb); have n1_ := Aside0.mk (hbox); clear HB; have HB := n0_; have BK201 := n1_; clear n0_ n1_; clear hb hbox hg; have hcz7_0 : w6.cell? ⟨gb201, 0, none⟩ = some (.string a0_0) := (blk_cell BK201.out 0).trans rfl; have hcz7_1 : w6.cell? ⟨gb201, 1, none⟩ = some (.int .i64 a0_1) := (blk_cell BK201.out 1).trans rfl; have hcz7_2 : w6.cell? ⟨gb201, 2, none⟩ = some (.int .i64 a0_2) := (blk_cell BK201.out 2).trans rfl; have hcz7_3 : w6.cell? ⟨gb201, 3, none⟩ = some (.string a0_3) := (blk_cell BK201.out 3).trans rfl; have hcz7_4 : w6.cell? ⟨gb201, 4, none⟩ = some (.bool false) := (blk_cell BK201.out 4).trans rfl; have hcz7_5 : w6.cell? ⟨gb201, 5, none⟩ = some (.bool a0_5) := (blk_cell BK201.out 5).trans rfl; have hcz7_6 : w6.cell? ⟨gb201, 6, none⟩ = some (.string a0_6) := (blk_cell BK201.out 6).trans rfl; have hfz7_0 := blk_frozen BK201.out 0; have hfz7_1 := blk_frozen BK201.out 1; have hfz7_2 := blk_frozen BK201.out 2; have hfz7_3 := blk_frozen BK201.out 3; have hfz7_4 := blk_frozen BK201.out 4; have hfz7_5 := blk_frozen BK201.out 5; have hfz7_6 := blk_frozen BK201.out 6))
     go_ret
     exact ⟨by first | rfl , by exact HB.out⟩
   · rw [if_neg c5] at H
     have c5b0 : (a0_6.toList == ([] : List UInt8)) = false := beq_eq_false_iff_ne.mpr c5
     have c5b1 : (a0_6.toList != ([] : List UInt8)) = true := bne_iff_ne.mpr c5
     obtain rfl := Option.some.inj H
     go_enter Tryd.func34, Tryd.ntmps34
     go_wp2_with (first | ((with_reducible refine gate_dst (N := 1) rfl ?_); refine box_event ?hg (N := 1) ?hd (cs := #[.string a0_0, .int .i64 a0_1, .int .i64 a0_2, .string a0_3, .bool false, .bool a0_5, .string a0_6]) (t := 36) ?hr ?_; (case hd => rfl); (case hg => rfl); (case hr => first | (go_simp; done) | (go_simp; rfl)); intro gb201 hg w8 hbox hb; have n0_ := Aside0.mk (below_step HB.out hb); have n1_ := Aside0.mk (hbox); clear HB; have HB := n0_; have BK201 := n1_; clear n0_ n1_; clear hb hbox hg; have hcz9_0 : w8.cell? ⟨gb201, 0, none⟩ = some (.string a0_0) := (blk_cell BK201.out 0).trans rfl; have hcz9_1 : w8.cell? ⟨gb201, 1, none⟩ = some (.int .i64 a0_1) := (blk_cell BK201.out 1).trans rfl; have hcz9_2 : w8.cell? ⟨gb201, 2, none⟩ = some (.int .i64 a0_2) := (blk_cell BK201.out 2).trans rfl; have hcz9_3 : w8.cell? ⟨gb201, 3, none⟩ = some (.string a0_3) := (blk_cell BK201.out 3).trans rfl; have hcz9_4 : w8.cell? ⟨gb201, 4, none⟩ = some (.bool false) := (blk_cell BK201.out 4).trans rfl; have hcz9_5 : w8.cell? ⟨gb201, 5, none⟩ = some (.bool a0_5) := (blk_cell BK201.out 5).trans rfl; have hcz9_6 : w8.cell? ⟨gb201, 6, none⟩ = some (.string a0_6) := (blk_cell BK201.out 6).trans rfl; have hfz9_0 := blk_frozen BK201.out 0; have hfz9_1 := blk_frozen BK201.out 1; have hfz9_2 := blk_frozen BK201.out 2; have hfz9_3 := blk_frozen BK201.out 3; have hfz9_4 := blk_frozen BK201.out 4; have hfz9_5 := blk_frozen BK201.out 5; have hfz9_6 := blk_frozen BK201.out 6))
     go_ret
     exact ⟨by first | rfl , by exact HB.out⟩
def ecdysisref04_Right.f (a0 : Int) (a1 : Int) : Option (Bool) := if a0 ≥ 1 then (if a0 ≤ 536870911 then (if a1 = 0 then (some true) else (if a1 = 1 then (some true) else (if a1 = 2 then (some true) else (some (a1 == 5))))) else (some false)) else (some false)
set_option maxHeartbeats 8000000 in
set_option maxRecDepth 100000 in
theorem ecdysisref04_Right.calls (a0 : Int) (a1 : Int) (r : Bool) (w : World) (h : ecdysisref04_Right.f a0 a1 = some r) :
   Calls Tryd.prog 35 #[.int .i64 a0, .int .i64 a1] w fun e w' => e = .returned (.bool r) ∧ Drawn0 w w' := by
 have H : (if a0 ≥ 1 then (if a0 ≤ 536870911 then (if a1 = 0 then (some true) else (if a1 = 1 then (some true) else (if a1 = 2 then (some true) else (some (a1 == 5))))) else (some false)) else (some false)) = some r := h
 clear h
 by_cases c3 : a0 ≥ 1
 · rw [if_pos c3] at H
   have c3b0 : decide (1 ≤ a0) = true := decide_eq_true c3
   clear c3
   by_cases c4 : a0 ≤ 536870911
   · rw [if_pos c4] at H
     have c4b0 : decide (a0 ≤ 536870911) = true := decide_eq_true c4
     clear c4
     by_cases c5 : a1 = 0
     · rw [if_pos c5] at H
       have c5b0 : (a1 == 0) = true := beq_iff_eq.mpr c5
       have c5b1 : (a1 != 0) = false := bne_eq_false_iff_eq.mpr c5
       clear c5
       obtain rfl := Option.some.inj H
       go_enter Tryd.func35, Tryd.ntmps35
       go_wp2
       go_ret
       exact ⟨by first | rfl , by repeat (first | exact Drawn0.refl _ )⟩
     · rw [if_neg c5] at H
       have c5b0 : (a1 == 0) = false := beq_eq_false_iff_ne.mpr c5
       have c5b1 : (a1 != 0) = true := bne_iff_ne.mpr c5
       by_cases c6 : a1 = 1
       · rw [if_pos c6] at H
         have c6b0 : (a1 == 1) = true := beq_iff_eq.mpr c6
         have c6b1 : (a1 != 1) = false := bne_eq_false_iff_eq.mpr c6
         clear c6
         obtain rfl := Option.some.inj H
         go_enter Tryd.func35, Tryd.ntmps35
         go_wp2
         go_ret
         exact ⟨by first | rfl , by repeat (first | exact Drawn0.refl _ )⟩
       · rw [if_neg c6] at H
         have c6b0 : (a1 == 1) = false := beq_eq_false_iff_ne.mpr c6
         have c6b1 : (a1 != 1) = true := bne_iff_ne.mpr c6
         by_cases c7 : a1 = 2
         · rw [if_pos c7] at H
           have c7b0 : (a1 == 2) = true := beq_iff_eq.mpr c7
           have c7b1 : (a1 != 2) = false := bne_eq_false_iff_eq.mpr c7
           clear c7
           obtain rfl := Option.some.inj H
           go_enter Tryd.func35, Tryd.ntmps35
           go_wp2
           go_ret
           exact ⟨by first | rfl , by repeat (first | exact Drawn0.refl _ )⟩
         · rw [if_neg c7] at H
           have c7b0 : (a1 == 2) = false := beq_eq_false_iff_ne.mpr c7
           have c7b1 : (a1 != 2) = true := bne_iff_ne.mpr c7
           obtain rfl := Option.some.inj H
           go_enter Tryd.func35, Tryd.ntmps35
           go_wp2
           go_ret
           exact ⟨by first | rfl , by repeat (first | exact Drawn0.refl _ )⟩
   · rw [if_neg c4] at H
     have c4b0 : decide (a0 ≤ 536870911) = false := decide_eq_false c4
     clear c4
     obtain rfl := Option.some.inj H
     go_enter Tryd.func35, Tryd.ntmps35
     go_wp2
     go_ret
     exact ⟨by first | rfl , by repeat (first | exact Drawn0.refl _ )⟩
 · rw [if_neg c3] at H
   have c3b0 : decide (1 ≤ a0) = false := decide_eq_false c3
   clear c3
   obtain rfl := Option.some.inj H
   go_enter Tryd.func35, Tryd.ntmps35
   go_wp2
   go_ret
   exact ⟨by first | rfl , by repeat (first | exact Drawn0.refl _ )⟩
def ecdysisref07_Right.f (a0_0 : Int) (a0_1 : Int) (a0_2 : Int) (a0_3 : ByteArray) : Option (Bool) := (ecdysisref04_Right.f a0_0 a0_1).bind fun t203 => (if t203 = true then (if a0_1 = 2 then (some (a0_2 == 0)) else (if a0_3.toList = ([] : List UInt8) then (if a0_1 = 5 then (some (decide (a0_2 < 4294967296))) else (some true)) else (some false))) else (some false))
set_option maxHeartbeats 8000000 in
set_option maxRecDepth 100000 in
theorem ecdysisref07_Right.calls (a0_0 : Int) (a0_1 : Int) (a0_2 : Int) (a0_3 : ByteArray) (r : Bool) (w : World) (h : ecdysisref07_Right.f a0_0 a0_1 a0_2 a0_3 = some r) :
   Calls Tryd.prog 22 #[.agg #[.int .i64 a0_0, .int .i64 a0_1, .int .u64 a0_2, .string a0_3]] w fun e w' => e = .returned (.bool r) ∧ Below w.heap.size w w' := by
 have hu63 := Tryd.underlying63
 have HB := Aside0.mk (Below.refl w.heap.size w)
 have H : ((ecdysisref04_Right.f a0_0 a0_1).bind fun t203 => (if t203 = true then (if a0_1 = 2 then (some (a0_2 == 0)) else (if a0_3.toList = ([] : List UInt8) then (if a0_1 = 5 then (some (decide (a0_2 < 4294967296))) else (some true)) else (some false))) else (some false))) = some r := h
 clear h
 replace H := Option.bind_eq_some_iff.mp H
 obtain ⟨t203, A20, H⟩ := H
 replace H : (if t203 = true then (if a0_1 = 2 then (some (a0_2 == 0)) else (if a0_3.toList = ([] : List UInt8) then (if a0_1 = 5 then (some (decide (a0_2 < 4294967296))) else (some true)) else (some false))) else (some false)) = some r := H
 have A2 := Aside0.mk A20
 clear A20
 by_cases c3 : t203 = true
 · subst c3
   have H1 : (if a0_1 = 2 then (some (a0_2 == 0)) else (if a0_3.toList = ([] : List UInt8) then (if a0_1 = 5 then (some (decide (a0_2 < 4294967296))) else (some true)) else (some false))) = some r := by rw [if_pos rfl] at H; exact H
   clear H
   have H := H1
   clear H1
   by_cases c4 : a0_1 = 2
   · rw [if_pos c4] at H
     have c4b0 : (a0_1 == 2) = true := beq_iff_eq.mpr c4
     have c4b1 : (a0_1 != 2) = false := bne_eq_false_iff_eq.mpr c4
     clear c4
     obtain rfl := Option.some.inj H
     go_enter Tryd.func22, Tryd.ntmps22
     go_wp2_with (first | ((with_reducible refine gate_dst (N := 1) rfl ?_); refine box_event ?hg (N := 1) ?hd (cs := #[.int .i64 a0_0, .int .i64 a0_1, .int .u64 a0_2, .string a0_3]) (t := 63) ?hr ?_; (case hd => rfl); (case hg => rfl); (case hr => first | (go_simp; done) | (go_simp; rfl)); intro gb202 hg w5 hbox hb; have n0_ := Aside0.mk (below_step HB.out hb); have n1_ := Aside0.mk (hbox); clear HB; have HB := n0_; have BK202 := n1_; clear n0_ n1_; clear hb hbox hg; have hcz6_0 : w5.cell? ⟨gb202, 0, none⟩ = some (.int .i64 a0_0) := (blk_cell BK202.out 0).trans rfl; have hcz6_1 : w5.cell? ⟨gb202, 1, none⟩ = some (.int .i64 a0_1) := (blk_cell BK202.out 1).trans rfl; have hcz6_2 : w5.cell? ⟨gb202, 2, none⟩ = some (.int .u64 a0_2) := (blk_cell BK202.out 2).trans rfl; have hcz6_3 : w5.cell? ⟨gb202, 3, none⟩ = some (.string a0_3) := (blk_cell BK202.out 3).trans rfl; have hfz6_0 := blk_frozen BK202.out 0; have hfz6_1 := blk_frozen BK202.out 1; have hfz6_2 := blk_frozen BK202.out 2; have hfz6_3 := blk_frozen BK202.out 3) | ((with_reducible refine gate_callee (f := 35) rfl ?_); refine goesL_ (some 7) rfl rfl Tryd.func35 (by kernel_rfl) rfl #[.int .i64 a0_0, .int .i64 a0_1] rfl (by (try simp only [List.map_toArray, List.map_cons, List.map_nil]); first | done | rfl | (simp only [List.length_drop, List.length_take]; rfl)) ?_; (with_reducible refine (ecdysisref04_Right.calls a0_0 a0_1 true _ A2.out).mono ?_); rintro e w' ⟨rfl, ⟨nd, rfl⟩⟩; refine ⟨_, rfl, ?_⟩))
     go_ret
     exact ⟨by first | rfl , by repeat (first | (with_reducible first | exact HB.out | apply pw_below_drewN ) )⟩
   · rw [if_neg c4] at H
     have c4b0 : (a0_1 == 2) = false := beq_eq_false_iff_ne.mpr c4
     have c4b1 : (a0_1 != 2) = true := bne_iff_ne.mpr c4
     by_cases c7 : a0_3.toList = ([] : List UInt8)
     · rw [if_pos c7] at H
       have c7b0 : (a0_3.toList == ([] : List UInt8)) = true := beq_iff_eq.mpr c7
       have c7b1 : (a0_3.toList != ([] : List UInt8)) = false := bne_eq_false_iff_eq.mpr c7
       clear c7
       by_cases c8 : a0_1 = 5
       · rw [if_pos c8] at H
         have c8b0 : (a0_1 == 5) = true := beq_iff_eq.mpr c8
         have c8b1 : (a0_1 != 5) = false := bne_eq_false_iff_eq.mpr c8
         clear c8
         obtain rfl := Option.some.inj H
         go_enter Tryd.func22, Tryd.ntmps22
         go_wp2_with (first | ((with_reducible refine gate_dst (N := 1) rfl ?_); refine box_event ?hg (N := 1) ?hd (cs := #[.int .i64 a0_0, .int .i64 a0_1, .int .u64 a0_2, .string a0_3]) (t := 63) ?hr ?_; (case hd => rfl); (case hg => rfl); (case hr => first | (go_simp; done) | (go_simp; rfl)); intro gb202 hg w9 hbox hb; have n0_ := Aside0.mk (below_step HB.out hb); have n1_ := Aside0.mk (hbox); clear HB; have HB := n0_; have BK202 := n1_; clear n0_ n1_; clear hb hbox hg; have hcz10_0 : w9.cell? ⟨gb202, 0, none⟩ = some (.int .i64 a0_0) := (blk_cell BK202.out 0).trans rfl; have hcz10_1 : w9.cell? ⟨gb202, 1, none⟩ = some (.int .i64 a0_1) := (blk_cell BK202.out 1).trans rfl; have hcz10_2 : w9.cell? ⟨gb202, 2, none⟩ = some (.int .u64 a0_2) := (blk_cell BK202.out 2).trans rfl; have hcz10_3 : w9.cell? ⟨gb202, 3, none⟩ = some (.string a0_3) := (blk_cell BK202.out 3).trans rfl; have hfz10_0 := blk_frozen BK202.out 0; have hfz10_1 := blk_frozen BK202.out 1; have hfz10_2 := blk_frozen BK202.out 2; have hfz10_3 := blk_frozen BK202.out 3) | ((with_reducible refine gate_callee (f := 35) rfl ?_); refine goesL_ (some 7) rfl rfl Tryd.func35 (by kernel_rfl) rfl #[.int .i64 a0_0, .int .i64 a0_1] rfl (by (try simp only [List.map_toArray, List.map_cons, List.map_nil]); first | done | rfl | (simp only [List.length_drop, List.length_take]; rfl)) ?_; (with_reducible refine (ecdysisref04_Right.calls a0_0 a0_1 true _ A2.out).mono ?_); rintro e w' ⟨rfl, ⟨nd, rfl⟩⟩; refine ⟨_, rfl, ?_⟩))
         go_ret
         exact ⟨by first | rfl , by repeat (first | (with_reducible first | exact HB.out | apply pw_below_drewN ) )⟩
       · rw [if_neg c8] at H
         have c8b0 : (a0_1 == 5) = false := beq_eq_false_iff_ne.mpr c8
         have c8b1 : (a0_1 != 5) = true := bne_iff_ne.mpr c8
         obtain rfl := Option.some.inj H
         go_enter Tryd.func22, Tryd.ntmps22
         go_wp2_with (first | ((with_reducible refine gate_dst (N := 1) rfl ?_); refine box_event ?hg (N := 1) ?hd (cs := #[.int .i64 a0_0, .int .i64 a0_1, .int .u64 a0_2, .string a0_3]) (t := 63) ?hr ?_; (case hd => rfl); (case hg => rfl); (case hr => first | (go_simp; done) | (go_simp; rfl)); intro gb202 hg w11 hbox hb; have n0_ := Aside0.mk (below_step HB.out hb); have n1_ := Aside0.mk (hbox); clear HB; have HB := n0_; have BK202 := n1_; clear n0_ n1_; clear hb hbox hg; have hcz12_0 : w11.cell? ⟨gb202, 0, none⟩ = some (.int .i64 a0_0) := (blk_cell BK202.out 0).trans rfl; have hcz12_1 : w11.cell? ⟨gb202, 1, none⟩ = some (.int .i64 a0_1) := (blk_cell BK202.out 1).trans rfl; have hcz12_2 : w11.cell? ⟨gb202, 2, none⟩ = some (.int .u64 a0_2) := (blk_cell BK202.out 2).trans rfl; have hcz12_3 : w11.cell? ⟨gb202, 3, none⟩ = some (.string a0_3) := (blk_cell BK202.out 3).trans rfl; have hfz12_0 := blk_frozen BK202.out 0; have hfz12_1 := blk_frozen BK202.out 1; have hfz12_2 := blk_frozen BK202.out 2; have hfz12_3 := blk_frozen BK202.out 3) | ((with_reducible refine gate_callee (f := 35) rfl ?_); refine goesL_ (some 7) rfl rfl Tryd.func35 (by kernel_rfl) rfl #[.int .i64 a0_0, .int .i64 a0_1] rfl (by (try simp only [List.map_toArray, List.map_cons, List.map_nil]); first | done | rfl | (simp only [List.length_drop, List.length_take]; rfl)) ?_; (with_reducible refine (ecdysisref04_Right.calls a0_0 a0_1 true _ A2.out).mono ?_); rintro e w' ⟨rfl, ⟨nd, rfl⟩⟩; refine ⟨_, rfl, ?_⟩))
         go_ret
         exact ⟨by first | rfl , by repeat (first | (with_reducible first | exact HB.out | apply pw_below_drewN ) )⟩
     · rw [if_neg c7] at H
       have c7b0 : (a0_3.toList == ([] : List UInt8)) = false := beq_eq_false_iff_ne.mpr c7
       have c7b1 : (a0_3.toList != ([] : List UInt8)) = true := bne_iff_ne.mpr c7
       obtain rfl := Option.some.inj H
       go_enter Tryd.func22, Tryd.ntmps22
       go_wp2_with (first | ((with_reducible refine gate_dst (N := 1) rfl ?_); refine box_event ?hg (N := 1) ?hd (cs := #[.int .i64 a0_0, .int .i64 a0_1, .int .u64 a0_2, .string a0_3]) (t := 63) ?hr ?_; (case hd => rfl); (case hg => rfl); (case hr => first | (go_simp; done) | (go_simp; rfl)); intro gb202 hg w13 hbox hb; have n0_ := Aside0.mk (below_step HB.out hb); have n1_ := Aside0.mk (hbox); clear HB; have HB := n0_; have BK202 := n1_; clear n0_ n1_; clear hb hbox hg; have hcz14_0 : w13.cell? ⟨gb202, 0, none⟩ = some (.int .i64 a0_0) := (blk_cell BK202.out 0).trans rfl; have hcz14_1 : w13.cell? ⟨gb202, 1, none⟩ = some (.int .i64 a0_1) := (blk_cell BK202.out 1).trans rfl; have hcz14_2 : w13.cell? ⟨gb202, 2, none⟩ = some (.int .u64 a0_2) := (blk_cell BK202.out 2).trans rfl; have hcz14_3 : w13.cell? ⟨gb202, 3, none⟩ = some (.string a0_3) := (blk_cell BK202.out 3).trans rfl; have hfz14_0 := blk_frozen BK202.out 0; have hfz14_1 := blk_frozen BK202.out 1; have hfz14_2 := blk_frozen BK202.out 2; have hfz14_3 := blk_frozen BK202.out 3) | ((with_reducible refine gate_callee (f := 35) rfl ?_); refine goesL_ (some 7) rfl rfl Tryd.func35 (by kernel_rfl) rfl #[.int .i64 a0_0, .int .i64 a0_1] rfl (by (try simp only [List.map_toArray, List.map_cons, List.map_nil]); first | done | rfl | (simp only [List.length_drop, List.length_take]; rfl)) ?_; (with_reducible refine (ecdysisref04_Right.calls a0_0 a0_1 true _ A2.out).mono ?_); rintro e w' ⟨rfl, ⟨nd, rfl⟩⟩; refine ⟨_, rfl, ?_⟩))
       go_ret
       exact ⟨by first | rfl , by repeat (first | (with_reducible first | exact HB.out | apply pw_below_drewN ) )⟩
 · replace c3 := Bool.eq_false_iff.mpr c3
   subst c3
   have H1 : (some false) = some r := by rw [if_neg (show ¬ (false = true) by decide)] at H; exact H
   clear H
   have H := H1
   clear H1
   obtain rfl := Option.some.inj H
   go_enter Tryd.func22, Tryd.ntmps22
   go_wp2_with (first | ((with_reducible refine gate_dst (N := 1) rfl ?_); refine box_event ?hg (N := 1) ?hd (cs := #[.int .i64 a0_0, .int .i64 a0_1, .int .u64 a0_2, .string a0_3]) (t := 63) ?hr ?_; (case hd => rfl); (case hg => rfl); (case hr => first | (go_simp; done) | (go_simp; rfl)); intro gb202 hg w15 hbox hb; have n0_ := Aside0.mk (below_step HB.out hb); have n1_ := Aside0.mk (hbox); clear HB; have HB := n0_; have BK202 := n1_; clear n0_ n1_; clear hb hbox hg; have hcz16_0 : w15.cell? ⟨gb202, 0, none⟩ = some (.int .i64 a0_0) := (blk_cell BK202.out 0).trans rfl; have hcz16_1 : w15.cell? ⟨gb202, 1, none⟩ = some (.int .i64 a0_1) := (blk_cell BK202.out 1).trans rfl; have hcz16_2 : w15.cell? ⟨gb202, 2, none⟩ = some (.int .u64 a0_2) := (blk_cell BK202.out 2).trans rfl; have hcz16_3 : w15.cell? ⟨gb202, 3, none⟩ = some (.string a0_3) := (blk_cell BK202.out 3).trans rfl; have hfz16_0 := blk_frozen BK202.out 0; have hfz16_1 := blk_frozen BK202.out 1; have hfz16_2 := blk_frozen BK202.out 2; have hfz16_3 := blk_frozen BK202.out 3) | ((with_reducible refine gate_callee (f := 35) rfl ?_); refine goesL_ (some 7) rfl rfl Tryd.func35 (by kernel_rfl) rfl #[.int .i64 a0_0, .int .i64 a0_1] rfl (by (try simp only [List.map_toArray, List.map_cons, List.map_nil]); first | done | rfl | (simp only [List.length_drop, List.length_take]; rfl)) ?_; (with_reducible refine (ecdysisref04_Right.calls a0_0 a0_1 false _ A2.out).mono ?_); rintro e w' ⟨rfl, ⟨nd, rfl⟩⟩; refine ⟨_, rfl, ?_⟩))
   go_ret
   exact ⟨by first | rfl , by repeat (first | (with_reducible first | exact HB.out | apply pw_below_drewN ) )⟩
end Go.Proofs.YtbpnfpckoapdbaaDoor.PV20
end
section
namespace Go.Proofs.YtbpnfpckoapdbaaDoor.PV20
open Go.RowKit Go.Proofs.YtbpnfpckoapdbaaDoor.M Go.Proofs.YtbpnfpckoapdbaaDoor.KD Go.Proofs.YtbpnfpckoapdbaaDoor Go.Proofs.YtbpnfpckoapdbaaDoorW.PrintWords Go.Proofs.YtbpnfpckoapdbaaDoorW.PrintLast Go.Proofs.YtbpnfpckoapdbaaDoorW.PrintMore
attribute [local go_sem] max2_int min2_int max_two min_two max_three min_three max_four min_four   -- for this text's walks alone
set_option linter.unusedVariables false
set_option linter.unusedSimpArgs false
mutual
def ecdysisref20_Tree.l0 : Nat → List ByteArray → Int → List (S48) → List (S52) → List (S43) → List (S63) → ByteArray → List (S36) → List Int → Option (Bool)
 | 0, _, _, _, _, _, _, _, _, _ => none
 | k + 1, x9, x10, x205000, x205001, x206000, x206001, x209000, x209001, x209002 => if x10 < (x206000.length : Int) then (if x10 > 0 then (if 0 ≤ (wrap64 (x10 - 1)) then (if (wrap64 (x10 - 1)) < (x206000.length : Int) then (if 0 ≤ x10 then (if ((rd_T43 x206000 (wrap64 (x10 - 1))).f0) ≥ ((rd_T43 x206000 x10).f0) then (ecdysisref20_Tree.j1 k x9 x10 true x205000 x205001 x206000 x206001 x209000 x209001 x209002) else ((ecdysisref20_slot.f k x205000 x205001 x209000 x209001 x209002 ((rd_T43 x206000 x10).f0) ((rd_T43 x206000 x10).f1)).bind fun t215 => (ecdysisref20_Tree.j1 k x9 x10 (!t215) x205000 x205001 x206000 x206001 x209000 x209001 x209002))) else (none)) else (none)) else (none)) else (if 0 ≤ x10 then ((ecdysisref20_slot.f k x205000 x205001 x209000 x209001 x209002 ((rd_T43 x206000 x10).f0) ((rd_T43 x206000 x10).f1)).bind fun t217 => (ecdysisref20_Tree.j1 k x9 x10 (!t217) x205000 x205001 x206000 x206001 x209000 x209001 x209002)) else (none))) else (ecdysisref20_Tree.l2 k 0 x206000 x206001 x209000 x209001 x209002)
def ecdysisref20_Tree.j1 : Nat → List ByteArray → Int → Bool → List (S48) → List (S52) → List (S43) → List (S63) → ByteArray → List (S36) → List Int → Option (Bool)
 | 0, _, _, _, _, _, _, _, _, _, _ => none
 | k + 1, x9, x10, x60, x205000, x205001, x206000, x206001, x209000, x209001, x209002 => if x60 = true then (some false) else (if 0 ≤ x10 then (if x10 < (x206000.length : Int) then ((ecdysisref16_Number.f k x209000 x209001 x209002 ((rd_T43 x206000 x10).f0)).bind fun t219 => (if 0 ≤ t219 then (if t219 < (x209001.length : Int) then (ecdysisref20_Tree.l1 k x9 x10 ((rd_T36 x209001 t219).f6) 0 x205000 x205001 x206000 x206001 x209000 x209001 x209002) else (none)) else (none))) else (none)) else (none))
def ecdysisref20_Tree.l1 : Nat → List ByteArray → Int → ByteArray → Int → List (S48) → List (S52) → List (S43) → List (S63) → ByteArray → List (S36) → List Int → Option (Bool)
 | 0, _, _, _, _, _, _, _, _, _, _, _ => none
 | k + 1, x9, x10, x11, x12, x205000, x205001, x206000, x206001, x209000, x209001, x209002 => if x12 < (x9.length : Int) then (if x11.toList = ([] : List UInt8) then (ecdysisref20_Tree.l1 k x9 x10 x11 (wrap64 (x12 + 1)) x205000 x205001 x206000 x206001 x209000 x209001 x209002) else (if 0 ≤ x12 then (if (rdOf ByteArray.empty x9 x12).toList = x11.toList then (some false) else (ecdysisref20_Tree.l1 k x9 x10 x11 (wrap64 (x12 + 1)) x205000 x205001 x206000 x206001 x209000 x209001 x209002)) else (none))) else (if x9.length < 8796093022208 then (ecdysisref20_Tree.l0 k (x9 ++ [x11]) (wrap64 (x10 + 1)) x205000 x205001 x206000 x206001 x209000 x209001 x209002) else (none))
def ecdysisref20_Tree.l2 : Nat → Int → List (S43) → List (S63) → ByteArray → List (S36) → List Int → Option (Bool)
 | 0, _, _, _, _, _, _ => none
 | k + 1, x13, x206000, x206001, x209000, x209001, x209002 => if x13 < (x206001.length : Int) then (if 0 ≤ x13 then ((ecdysisref07_Right.f ((rd_T63 x206001 x13).f0) ((rd_T63 x206001 x13).f1) ((rd_T63 x206001 x13).f2) ((rd_T63 x206001 x13).f3)).bind fun t226 => (if t226 = true then ((ecdysisref16_Number.f k x209000 x209001 x209002 ((rd_T63 x206001 x13).f0)).bind fun t228 => (if t228 ≥ 0 then (some false) else (ecdysisref20_Tree.l2 k (wrap64 (x13 + 1)) x206000 x206001 x209000 x209001 x209002))) else (some false))) else (none)) else (some true)
def ecdysisref20_Tree.f : Nat → List (S48) → List (S52) → ByteArray → List (S43) → List (S63) → Option (Bool)
 | 0, _, _, _, _, _ => none
 | k + 1, l0_0, l0_1, a1, l2_0, l2_1 => (ecdysisref15_Message.f k l0_0 l0_1 a1).bind fun t206 => (if t206 < 0 then (some false) else (if 0 ≤ t206 then (if t206 < (l0_1.length : Int) then (ecdysisref20_Tree.l0 k (([] : List ByteArray)) 0 l0_0 l0_1 l2_0 l2_1 ((rd_T52 l0_1 t206).f0) ((rd_T52 l0_1 t206).f1) ((rd_T52 l0_1 t206).f2)) else (none)) else (none)))
def ecdysisref20_Val.f : Nat → List (S48) → List (S52) → ByteArray → Int → Int → ByteArray → Bool → Bool → ByteArray → Int → ByteArray → List (S29) → Option (Bool)
 | 0, _, _, _, _, _, _, _, _, _, _, _, _ => none
 | k + 1, l0_0, l0_1, a1_0, a1_1, a1_2, a1_3, a1_4, a1_5, a1_6, a2_0, a2_1, l2_2 => (ecdysisref11_Number.f a1_2).bind fun t232 => (if t232 = true then ((ecdysisref11_May.f k a1_2 a2_0).bind fun t233 => (if t233 = true then (if a2_1.toList = ([] : List UInt8) then (some ((l2_2.length : Int) == 0)) else (some false)) else (some false))) else (if a1_2 = 12 then (if a2_0 = 0 then (if (l2_2.length : Int) = 0 then ((utf8_ValidString.f a2_1).bind fun t234 => (some t234)) else (some false)) else (some false)) else (if a1_2 = 13 then (if a2_0 = 0 then (some ((l2_2.length : Int) == 0)) else (some false)) else (if a1_2 = 15 then (if a2_0 = 0 then (if a2_1.toList = ([] : List UInt8) then (if (l2_2.length : Int) = 1 then (if 0 < (l2_2.length : Int) then ((ecdysisref20_Tree.f k l0_0 l0_1 a1_3 ((rd_T29 l2_2 0).f0) ((rd_T29 l2_2 0).f1)).bind fun t236 => (some t236)) else (none)) else (some false)) else (some false)) else (some false)) else (some false)))))
def ecdysisref20_slot.j0 : Nat → Int → Bool → List (S48) → List (S52) → ByteArray → List (S36) → List Int → Int → List (S40) → Option (Bool)
 | 0, _, _, _, _, _, _, _, _, _ => none
 | k + 1, x7, x21, x238000, x238001, x239000, x239001, x239002, x240000, x240001 => if x21 = true then (some false) else (if 0 ≤ x7 then (if x7 < (x239001.length : Int) then (if ((rd_T36 x239001 x7).f4 = true) then (ecdysisref20_slot.j1 k false x238000 x238001 x240000 x240001 ((rd_T36 x239001 x7).f0) ((rd_T36 x239001 x7).f1) ((rd_T36 x239001 x7).f2) ((rd_T36 x239001 x7).f3) ((rd_T36 x239001 x7).f4) ((rd_T36 x239001 x7).f5) ((rd_T36 x239001 x7).f6)) else (ecdysisref20_slot.j1 k ((x240001.length : Int) != 1) x238000 x238001 x240000 x240001 ((rd_T36 x239001 x7).f0) ((rd_T36 x239001 x7).f1) ((rd_T36 x239001 x7).f2) ((rd_T36 x239001 x7).f3) ((rd_T36 x239001 x7).f4) ((rd_T36 x239001 x7).f5) ((rd_T36 x239001 x7).f6))) else (none)) else (none))
def ecdysisref20_slot.j1 : Nat → Bool → List (S48) → List (S52) → Int → List (S40) → ByteArray → Int → Int → ByteArray → Bool → Bool → ByteArray → Option (Bool)
 | 0, _, _, _, _, _, _, _, _, _, _, _, _ => none
 | k + 1, x35, x238000, x238001, x240000, x240001, x243000, x243001, x243002, x243003, x243004, x243005, x243006 => if x35 = true then (some false) else (ecdysisref20_slot.l0 k 0 x238000 x238001 x240000 x240001 x243000 x243001 x243002 x243003 x243004 x243005 x243006)
def ecdysisref20_slot.l0 : Nat → Int → List (S48) → List (S52) → Int → List (S40) → ByteArray → Int → Int → ByteArray → Bool → Bool → ByteArray → Option (Bool)
 | 0, _, _, _, _, _, _, _, _, _, _, _, _ => none
 | k + 1, x9, x238000, x238001, x240000, x240001, x243000, x243001, x243002, x243003, x243004, x243005, x243006 => if x9 < (x240001.length : Int) then (if 0 ≤ x9 then ((ecdysisref20_Val.f k x238000 x238001 x243000 x243001 x243002 x243003 x243004 x243005 x243006 ((rd_T40 x240001 x9).f0) ((rd_T40 x240001 x9).f1) ((rd_T40 x240001 x9).f2)).bind fun t244 => (if t244 = true then (ecdysisref20_slot.l0 k (wrap64 (x9 + 1)) x238000 x238001 x240000 x240001 x243000 x243001 x243002 x243003 x243004 x243005 x243006) else (some false))) else (none)) else ((ecdysisref14_Hidden.f x243000 x243001 x243002 x243003 x243004 x243005 x243006).bind fun t245 => (if t245 = true then (if 0 < (x240001.length : Int) then (if ((rd_T40 x240001 0).f0) = 0 then (some (((rd_T40 x240001 0).f1).toList != ([] : List UInt8))) else (some true)) else (none)) else (some true)))
def ecdysisref20_slot.f : Nat → List (S48) → List (S52) → ByteArray → List (S36) → List Int → Int → List (S40) → Option (Bool)
 | 0, _, _, _, _, _, _, _ => none
 | k + 1, l0_0, l0_1, a1_0, l1_1, l1_2, a2_0, l2_1 => (ecdysisref16_Number.f k a1_0 l1_1 l1_2 a2_0).bind fun t240 => (if t240 < 0 then (ecdysisref20_slot.j0 k t240 true l0_0 l0_1 a1_0 l1_1 l1_2 a2_0 l2_1) else (ecdysisref20_slot.j0 k t240 ((l2_1.length : Int) == 0) l0_0 l0_1 a1_0 l1_1 l1_2 a2_0 l2_1))
end
end Go.Proofs.YtbpnfpckoapdbaaDoor.PV20
end
section
namespace Go.Proofs.YtbpnfpckoapdbaaDoor.PV20
open Go.RowKit Go.Proofs.YtbpnfpckoapdbaaDoor.M Go.Proofs.YtbpnfpckoapdbaaDoor.KD Go.Proofs.YtbpnfpckoapdbaaDoor Go.Proofs.YtbpnfpckoapdbaaDoorW.PrintWords Go.Proofs.YtbpnfpckoapdbaaDoorW.PrintLast Go.Proofs.YtbpnfpckoapdbaaDoorW.PrintMore
attribute [local go_sem] max2_int min2_int max_two min_two max_three min_three max_four min_four   -- for this text's walks alone
set_option linter.unusedVariables false
set_option linter.unusedSimpArgs false
def ecdysisref20_Tree.T9 : Bool × List (List Nat × List Nat) := (true, [([], []), ([0], [0]), ([1], [1]), ([2], [2]), ([3, 2], [2, 3]), ([2], [2]), ([5, 2], [2, 5]), ([4, 6, 2], [2, 4, 6]), ([7, 2], [2, 7]), ([8, 2], [2, 8]), ([2], [2]), ([10, 2], [2, 10]), ([2], [2]), ([11, 12, 2], [2, 11, 12]), ([13, 2], [2, 13]), ([14, 2], [2, 14]), ([9, 15, 2], [2, 9, 15]), ([2, 16], [2, 16]), ([17, 2], [17]), ([18], [18]), ([18], [18]), ([18], [18]), ([21, 18], [18, 21]), ([18], [18]), ([22, 23, 18], [18, 22, 23]), ([24, 18], [18, 24]), ([19, 20, 25, 18, 18], [18, 19, 20, 25]), ([26, 18], [18, 26]), ([18, 27], [18, 27])])
def ecdysisref20_Tree.B9 : List Nat := [0, 1, 3, 7, 15, 7, 39, 127, 255, 511, 7, 1031, 7, 7175, 15367, 31751, 65535, 131071, 262143, 524287, 524287, 524287, 2621439, 524287, 15204351, 31981567, 67108863, 134217727, 268435455]
theorem ecdysisref20_Tree.tab9 : rtab .any (opsOf Tryd.f10 9) = ecdysisref20_Tree.T9 := by kernel_rfl
theorem ecdysisref20_Tree.bits9 : waitsOk ecdysisref20_Tree.T9.2 ecdysisref20_Tree.B9 = true := by kernel_rfl
def ecdysisref20_Tree.T11 : Bool × List (List Nat × List Nat) := (true, [([], []), ([0], [0]), ([], []), ([], []), ([3], [3]), ([], []), ([4, 5], [4, 5]), ([6], [6]), ([7], [7]), ([2, 8], [2, 8]), ([1, 9], [1, 9]), ([10], [10]), ([11], [11]), ([12, 9, 0, 1, 2, 3, 4, 5, 6, 7, 8, 9, 10, 11, 12], [12])])
def ecdysisref20_Tree.B11 : List Nat := [0, 1, 0, 0, 8, 0, 56, 120, 248, 508, 1023, 2047, 4095, 8191]
theorem ecdysisref20_Tree.tab11 : rtab .any (opsOf Tryd.f10 11) = ecdysisref20_Tree.T11 := by kernel_rfl
theorem ecdysisref20_Tree.bits11 : waitsOk ecdysisref20_Tree.T11.2 ecdysisref20_Tree.B11 = true := by kernel_rfl
def ecdysisref20_Tree.T21 : Bool × List (List Nat × List Nat) := (true, [([], []), ([0], [0]), ([], []), ([1, 2], [1, 2]), ([3], [3]), ([4], [4]), ([5], [5]), ([6, 5], [6]), ([7], [7]), ([7], [7]), ([9, 7], [7, 9]), ([7], [7]), ([10, 11, 7], [7, 10, 11]), ([12, 7], [7, 12]), ([13, 7], [7, 13]), ([8, 14, 7, 7], [7, 8, 14]), ([15, 7], [7, 15]), ([7, 16], [7, 16])])
def ecdysisref20_Tree.B21 : List Nat := [0, 1, 0, 7, 15, 31, 63, 127, 255, 255, 767, 255, 3839, 7935, 16127, 32767, 65535, 131071]
theorem ecdysisref20_Tree.tab21 : rtab .any (opsOf Tryd.f10 21) = ecdysisref20_Tree.T21 := by kernel_rfl
theorem ecdysisref20_Tree.bits21 : waitsOk ecdysisref20_Tree.T21.2 ecdysisref20_Tree.B21 = true := by kernel_rfl
set_option maxHeartbeats 8000000 in
set_option maxRecDepth 100000 in
theorem ecdysisref20_Tree.callsR (k : Nat) (ih_ecdysisref20_Tree : ∀ k_, k_ < k → ∀ (A0_0 : Option Addr) (c0_0 : Nat) (l0_0 : List (S48)) (A0_1 : Option Addr) (c0_1 : Nat) (l0_1 : List (S52)) (a1 : ByteArray) (A2_0 : Option Addr) (c2_0 : Nat) (l2_0 : List (S43)) (A2_1 : Option Addr) (c2_1 : Nat) (l2_1 : List (S63)) (r : Bool) (w : World) (hT : Tabs w) (hr0_0 : Kd.C k48 w A0_0 l0_0.length l0_0) (hc0_0 : l0_0.length ≤ c0_0) (hr0_1 : Kd.C k52 w A0_1 l0_1.length l0_1) (hc0_1 : l0_1.length ≤ c0_1) (hr2_0 : Kd.C k43 w A2_0 l2_0.length l2_0) (hc2_0 : l2_0.length ≤ c2_0) (hr2_1 : Kd.C k63 w A2_1 l2_1.length l2_1) (hc2_1 : l2_1.length ≤ c2_1) (h_ : ecdysisref20_Tree.f k_ l0_0 l0_1 a1 l2_0 l2_1 = some r), Calls Tryd.prog 10 #[.agg #[.slice A0_0 l0_0.length c0_0, .slice A0_1 l0_1.length c0_1], .string a1, .agg #[.slice A2_0 l2_0.length c2_0, .slice A2_1 l2_1.length c2_1]] w fun e w' => e = .returned (.bool r) ∧ Below w.heap.size w w') (ih_ecdysisref20_Val : ∀ k_, k_ < k → ∀ (A0_0 : Option Addr) (c0_0 : Nat) (l0_0 : List (S48)) (A0_1 : Option Addr) (c0_1 : Nat) (l0_1 : List (S52)) (a1_0 : ByteArray) (a1_1 : Int) (a1_2 : Int) (a1_3 : ByteArray) (a1_4 : Bool) (a1_5 : Bool) (a1_6 : ByteArray) (a2_0 : Int) (a2_1 : ByteArray) (A2_2 : Option Addr) (c2_2 : Nat) (l2_2 : List (S29)) (r : Bool) (w : World) (hT : Tabs w) (hr0_0 : Kd.C k48 w A0_0 l0_0.length l0_0) (hc0_0 : l0_0.length ≤ c0_0) (hr0_1 : Kd.C k52 w A0_1 l0_1.length l0_1) (hc0_1 : l0_1.length ≤ c0_1) (hr2_2 : Kd.C k29 w A2_2 l2_2.length l2_2) (hc2_2 : l2_2.length ≤ c2_2) (h_ : ecdysisref20_Val.f k_ l0_0 l0_1 a1_0 a1_1 a1_2 a1_3 a1_4 a1_5 a1_6 a2_0 a2_1 l2_2 = some r), Calls Tryd.prog 13 #[.agg #[.slice A0_0 l0_0.length c0_0, .slice A0_1 l0_1.length c0_1], .agg #[.string a1_0, .int .i64 a1_1, .int .i64 a1_2, .string a1_3, .bool a1_4, .bool a1_5, .string a1_6], .agg #[.int .u64 a2_0, .string a2_1, .slice A2_2 l2_2.length c2_2]] w fun e w' => e = .returned (.bool r) ∧ Below w.heap.size w w') (ih_ecdysisref20_slot : ∀ k_, k_ < k → ∀ (A0_0 : Option Addr) (c0_0 : Nat) (l0_0 : List (S48)) (A0_1 : Option Addr) (c0_1 : Nat) (l0_1 : List (S52)) (a1_0 : ByteArray) (A1_1 : Option Addr) (c1_1 : Nat) (l1_1 : List (S36)) (A1_2 : Option Addr) (c1_2 : Nat) (l1_2 : List Int) (a2_0 : Int) (A2_1 : Option Addr) (c2_1 : Nat) (l2_1 : List (S40)) (r : Bool) (w : World) (hT : Tabs w) (hr0_0 : Kd.C k48 w A0_0 l0_0.length l0_0) (hc0_0 : l0_0.length ≤ c0_0) (hr0_1 : Kd.C k52 w A0_1 l0_1.length l0_1) (hc0_1 : l0_1.length ≤ c0_1) (hr1_1 : Kd.C k36 w A1_1 l1_1.length l1_1) (hc1_1 : l1_1.length ≤ c1_1) (hr1_2 : Kd.C (Kd.int .i64) w A1_2 l1_2.length l1_2) (hc1_2 : l1_2.length ≤ c1_2) (hr2_1 : Kd.C k40 w A2_1 l2_1.length l2_1) (hc2_1 : l2_1.length ≤ c2_1) (h_ : ecdysisref20_slot.f k_ l0_0 l0_1 a1_0 l1_1 l1_2 a2_0 l2_1 = some r), Calls Tryd.prog 20 #[.agg #[.slice A0_0 l0_0.length c0_0, .slice A0_1 l0_1.length c0_1], .agg #[.string a1_0, .slice A1_1 l1_1.length c1_1, .slice A1_2 l1_2.length c1_2], .agg #[.int .i64 a2_0, .slice A2_1 l2_1.length c2_1]] w fun e w' => e = .returned (.bool r) ∧ Below w.heap.size w w') : ∀ (A0_0 : Option Addr) (c0_0 : Nat) (l0_0 : List (S48)) (A0_1 : Option Addr) (c0_1 : Nat) (l0_1 : List (S52)) (a1 : ByteArray) (A2_0 : Option Addr) (c2_0 : Nat) (l2_0 : List (S43)) (A2_1 : Option Addr) (c2_1 : Nat) (l2_1 : List (S63)) (r : Bool) (w : World) (hT : Tabs w) (hr0_0 : Kd.C k48 w A0_0 l0_0.length l0_0) (hc0_0 : l0_0.length ≤ c0_0) (hr0_1 : Kd.C k52 w A0_1 l0_1.length l0_1) (hc0_1 : l0_1.length ≤ c0_1) (hr2_0 : Kd.C k43 w A2_0 l2_0.length l2_0) (hc2_0 : l2_0.length ≤ c2_0) (hr2_1 : Kd.C k63 w A2_1 l2_1.length l2_1) (hc2_1 : l2_1.length ≤ c2_1) (h : ecdysisref20_Tree.f k l0_0 l0_1 a1 l2_0 l2_1 = some r),
   Calls Tryd.prog 10 #[.agg #[.slice A0_0 l0_0.length c0_0, .slice A0_1 l0_1.length c0_1], .string a1, .agg #[.slice A2_0 l2_0.length c2_0, .slice A2_1 l2_1.length c2_1]] w fun e w' => e = .returned (.bool r) ∧ Below w.heap.size w w' := by
 intro A0_0 c0_0 l0_0 A0_1 c0_1 l0_1 a1 A2_0 c2_0 l2_0 A2_1 c2_1 l2_1 r w hT hr0_0 hc0_0 hr0_1 hc0_1 hr2_0 hc2_0 hr2_1 hc2_1 h
 have HU8 := Aside0.mk hT
 clear hT
 cases k with
 | zero => exact absurd h (by simp [ecdysisref20_Tree.f])
 | succ k =>
 simp only [ecdysisref20_Tree.f] at h
 have hu25 := Tryd.underlying25
 have hu29 := Tryd.underlying29
 have hu52 := Tryd.underlying52
 have hu43 := Tryd.underlying43
 have hu63 := Tryd.underlying63
 have HR0_0 := Aside0.mk hr0_0
 have HC0_0 := Aside0.mk hc0_0
 clear hr0_0 hc0_0
 have HR0_1 := Aside0.mk hr0_1
 have HC0_1 := Aside0.mk hc0_1
 clear hr0_1 hc0_1
 have HR2_0 := Aside0.mk hr2_0
 have HC2_0 := Aside0.mk hc2_0
 clear hr2_0 hc2_0
 have HR2_1 := Aside0.mk hr2_1
 have HC2_1 := Aside0.mk hc2_1
 clear hr2_1 hc2_1
 have HB := Aside0.mk (Below.refl w.heap.size w)
 have H : ((ecdysisref15_Message.f k l0_0 l0_1 a1).bind fun t206 => (if t206 < 0 then (some false) else (if 0 ≤ t206 then (if t206 < (l0_1.length : Int) then (ecdysisref20_Tree.l0 k (([] : List ByteArray)) 0 l0_0 l0_1 l2_0 l2_1 ((rd_T52 l0_1 t206).f0) ((rd_T52 l0_1 t206).f1) ((rd_T52 l0_1 t206).f2)) else (none)) else (none)))) = some r := h
 clear h
 replace H := Option.bind_eq_some_iff.mp H
 obtain ⟨t206, A40, H⟩ := H
 replace H : (if t206 < 0 then (some false) else (if 0 ≤ t206 then (if t206 < (l0_1.length : Int) then (ecdysisref20_Tree.l0 k (([] : List ByteArray)) 0 l0_0 l0_1 l2_0 l2_1 ((rd_T52 l0_1 t206).f0) ((rd_T52 l0_1 t206).f1) ((rd_T52 l0_1 t206).f2)) else (none)) else (none))) = some r := H
 have A4 := Aside0.mk A40
 clear A40
 by_cases c5 : t206 < 0
 · rw [if_pos c5] at H
   have c5b0 : decide (t206 < 0) = true := decide_eq_true c5
   clear c5
   obtain rfl := Option.some.inj H
   go_enter Tryd.func10, Tryd.ntmps10
   go_wp2_with (first | ((with_reducible refine gate_dst (N := 3) rfl ?_); refine box_event ?hg (N := 3) ?hd (cs := #[.slice A0_0 l0_0.length c0_0, .slice A0_1 l0_1.length c0_1]) (t := 25) ?hr ?_; (case hd => rfl); (case hg => rfl); (case hr => first | (go_simp; done) | (go_simp; rfl)); intro gb204 hg w6 hbox hb; have n0_ := Aside0.mk (below_step HB.out hb); have n1_ := Aside0.mk (hbox); clear HB; have HB := n0_; have BK204 := n1_; clear n0_ n1_; clear hb hbox hg) | ((with_reducible refine gate_dst (N := 5) rfl ?_); refine box_event ?hg (N := 5) ?hd (cs := #[.slice A2_0 l2_0.length c2_0, .slice A2_1 l2_1.length c2_1]) (t := 29) ?hr ?_; (case hd => rfl); (case hg => rfl); (case hr => first | (go_simp; done) | (go_simp; rfl)); intro gb205 hg w7 hbox hb; have n0_ := Aside0.mk (blk_below BK204.out hb); have n1_ := Aside0.mk (below_step HB.out hb); have n2_ := Aside0.mk (hbox); have n5_ := Aside0.mk ((by rw [hg]; exact Nat.ne_of_lt (blk_lt BK204.out) : gb204 ≠ gb205)); have n6_ := Aside0.mk ((by rw [hg]; exact Nat.ne_of_gt (blk_lt BK204.out) : gb205 ≠ gb204)); clear BK204; clear HB; have BK204 := n0_; have HB := n1_; have BK205 := n2_; have NB204_205 := n5_; have NB205_204 := n6_; clear n0_ n1_ n2_ n5_ n6_; clear hb hbox hg; have hnb8 := NB204_205.out; have hnc8 := NB205_204.out; have hcz9_0 : w7.cell? ⟨gb204, 0, none⟩ = some (.slice A0_0 l0_0.length c0_0) := (blk_cell BK204.out 0).trans rfl; have hcz9_1 : w7.cell? ⟨gb204, 1, none⟩ = some (.slice A0_1 l0_1.length c0_1) := (blk_cell BK204.out 1).trans rfl; have hfz9_0 := blk_frozen BK204.out 0; have hfz9_1 := blk_frozen BK204.out 1) | ((with_reducible refine gate_callee (f := 11) rfl ?_); refine goesL_ (some 16) rfl rfl Tryd.func11 (by kernel_rfl) rfl #[.agg #[.slice A0_0 l0_0.length c0_0, .slice A0_1 l0_1.length c0_1], .string a1] rfl (by (try simp only [List.map_toArray, List.map_cons, List.map_nil]); first | done | rfl | (simp only [List.length_drop, List.length_take]; rfl)) ?_; (with_reducible refine (ecdysisref15_Message.calls k _ _ l0_0 _ _ l0_1 a1 t206 _ ?side1 ?side2 ?side3 ?side4 A4.out).mono ?_); (case side1 => repeat (first | exact (Kd.C_below HR0_0.out HB.out) )); (case side2 => exact HC0_0.out); (case side3 => repeat (first | exact (Kd.C_below HR0_1.out HB.out) )); (case side4 => exact HC0_1.out); rintro e w10 ⟨rfl, hb⟩; refine ⟨_, rfl, ?_⟩; have n0_ := Aside0.mk (blk_below BK204.out hb); have n1_ := Aside0.mk (blk_below BK205.out hb); have n2_ := Aside0.mk (below_step HB.out hb); clear BK204; clear BK205; clear HB; have BK204 := n0_; have BK205 := n1_; have HB := n2_; clear n0_ n1_ n2_; (try clear hb); (try clear hb2); (try clear hk); (try clear hi)))
   go_ret
   exact ⟨by first | rfl , by exact HB.out⟩
 · rw [if_neg c5] at H
   have c5b0 : decide (t206 < 0) = false := decide_eq_false c5
   clear c5
   by_cases c11 : 0 ≤ t206
   · rw [if_pos c11] at H
     have c11b0 : decide (0 ≤ t206) = true := decide_eq_true c11
     clear c11
     by_cases c12 : t206 < (l0_1.length : Int)
     · rw [if_pos c12] at H
       have c12b0 : decide (t206 < (l0_1.length : Int)) = true := decide_eq_true c12
       clear c12
       obtain ⟨y209, hy209⟩ : ∃ y_ : List ByteArray, y_ = (([] : List ByteArray)) := ⟨_, rfl⟩
       replace H : (ecdysisref20_Tree.l0 k y209 0 l0_0 l0_1 l2_0 l2_1 ((rd_T52 l0_1 t206).f0) ((rd_T52 l0_1 t206).f1) ((rd_T52 l0_1 t206).f2)) = some r := by first | (rw [hy209]; with_reducible exact H) 
       have Ny209 := Aside0.mk hy209
       clear hy209
       have H' := Aside0.mk H
       clear H
       go_enter Tryd.func10, Tryd.ntmps10
       go_wp2_with (first | ((with_reducible refine gate_dst (N := 3) rfl ?_); refine box_event ?hg (N := 3) ?hd (cs := #[.slice A0_0 l0_0.length c0_0, .slice A0_1 l0_1.length c0_1]) (t := 25) ?hr ?_; (case hd => rfl); (case hg => rfl); (case hr => first | (go_simp; done) | (go_simp; rfl)); intro gb204 hg w13 hbox hb; have n0_ := Aside0.mk (below_step HB.out hb); have n1_ := Aside0.mk (hbox); clear HB; have HB := n0_; have BK204 := n1_; clear n0_ n1_; clear hb hbox hg) | ((with_reducible refine gate_dst (N := 5) rfl ?_); refine box_event ?hg (N := 5) ?hd (cs := #[.slice A2_0 l2_0.length c2_0, .slice A2_1 l2_1.length c2_1]) (t := 29) ?hr ?_; (case hd => rfl); (case hg => rfl); (case hr => first | (go_simp; done) | (go_simp; rfl)); intro gb205 hg w14 hbox hb; have n0_ := Aside0.mk (blk_below BK204.out hb); have n1_ := Aside0.mk (below_step HB.out hb); have n2_ := Aside0.mk (hbox); have n5_ := Aside0.mk ((by rw [hg]; exact Nat.ne_of_lt (blk_lt BK204.out) : gb204 ≠ gb205)); have n6_ := Aside0.mk ((by rw [hg]; exact Nat.ne_of_gt (blk_lt BK204.out) : gb205 ≠ gb204)); clear BK204; clear HB; have BK204 := n0_; have HB := n1_; have BK205 := n2_; have NB204_205 := n5_; have NB205_204 := n6_; clear n0_ n1_ n2_ n5_ n6_; clear hb hbox hg; have hnb15 := NB204_205.out; have hnc15 := NB205_204.out; have hcz16_0 : w14.cell? ⟨gb204, 0, none⟩ = some (.slice A0_0 l0_0.length c0_0) := (blk_cell BK204.out 0).trans rfl; have hcz16_1 : w14.cell? ⟨gb204, 1, none⟩ = some (.slice A0_1 l0_1.length c0_1) := (blk_cell BK204.out 1).trans rfl; have hfz16_0 := blk_frozen BK204.out 0; have hfz16_1 := blk_frozen BK204.out 1) | ((with_reducible refine gate_callee (f := 11) rfl ?_); refine goesL_ (some 16) rfl rfl Tryd.func11 (by kernel_rfl) rfl #[.agg #[.slice A0_0 l0_0.length c0_0, .slice A0_1 l0_1.length c0_1], .string a1] rfl (by (try simp only [List.map_toArray, List.map_cons, List.map_nil]); first | done | rfl | (simp only [List.length_drop, List.length_take]; rfl)) ?_; (with_reducible refine (ecdysisref15_Message.calls k _ _ l0_0 _ _ l0_1 a1 t206 _ ?side1 ?side2 ?side3 ?side4 A4.out).mono ?_); (case side1 => repeat (first | exact (Kd.C_below HR0_0.out HB.out) )); (case side2 => exact HC0_0.out); (case side3 => repeat (first | exact (Kd.C_below HR0_1.out HB.out) )); (case side4 => exact HC0_1.out); rintro e w17 ⟨rfl, hb⟩; refine ⟨_, rfl, ?_⟩; have n0_ := Aside0.mk (blk_below BK204.out hb); have n1_ := Aside0.mk (blk_below BK205.out hb); have n2_ := Aside0.mk (below_step HB.out hb); clear BK204; clear BK205; clear HB; have BK204 := n0_; have BK205 := n1_; have HB := n2_; clear n0_ n1_ n2_; (try clear hb); (try clear hb2); (try clear hk); (try clear hi); have hcz18_0 : w17.cell? ⟨gb204, 0, none⟩ = some (.slice A0_0 l0_0.length c0_0) := (blk_cell BK204.out 0).trans rfl; have hcz18_1 : w17.cell? ⟨gb204, 1, none⟩ = some (.slice A0_1 l0_1.length c0_1) := (blk_cell BK204.out 1).trans rfl; have hfz18_0 := blk_frozen BK204.out 0; have hfz18_1 := blk_frozen BK204.out 1; have p207 : 0 ≤ (t206 : Int) := of_decide_eq_true (by first | (with_reducible assumption) ); have q207 : t206 < (l0_1.length : Int) := of_decide_eq_true (by first | (with_reducible assumption) ); obtain ⟨ad207, A207_1, c207_1, A207_2, c207_2, e207, hx207_0, hx207_1, hx207_2, hl207_1, hi207_1, hl207_2, hi207_2⟩ := at_T52 HR0_1.out t206 p207 q207; cases e207; replace hx207_0 := (HB.out.cell (World.block_lt_of_cell? w _ hx207_0)).trans hx207_0; replace hx207_1 := (HB.out.cell (World.block_lt_of_cell? w _ hx207_1)).trans hx207_1; replace hx207_2 := (HB.out.cell (World.block_lt_of_cell? w _ hx207_2)).trans hx207_2; have HR207_1 := Aside0.mk hi207_1; have HC207_1 := Aside0.mk hl207_1; clear hi207_1 hl207_1; have HR207_2 := Aside0.mk hi207_2; have HC207_2 := Aside0.mk hl207_2; clear hi207_2 hl207_2; replace p207 := eq_true p207; replace q207 := eq_true q207) | ((with_reducible refine gate_dst (N := 8) rfl ?_); refine box_event ?hg (N := 8) ?hd (cs := #[.string (⟨#[]⟩ : ByteArray), .slice none 0 0, .slice none 0 0]) (t := 52) ?hr ?_; (case hd => rfl); (case hg => rfl); (case hr => first | (go_simp; done) | (go_simp; rfl)); intro gb208 hg w19 hbox hb; have n0_ := Aside0.mk (blk_below BK204.out hb); have n1_ := Aside0.mk (blk_below BK205.out hb); have n2_ := Aside0.mk (below_step HB.out hb); have n3_ := Aside0.mk (hbox); have n5_ := Aside0.mk ((by rw [hg]; exact (below_size HB.out) : w.heap.size ≤ gb208)); have n6_ := Aside0.mk ((by rw [hg]; exact Nat.ne_of_lt (blk_lt BK204.out) : gb204 ≠ gb208)); have n7_ := Aside0.mk ((by rw [hg]; exact Nat.ne_of_gt (blk_lt BK204.out) : gb208 ≠ gb204)); have n8_ := Aside0.mk ((by rw [hg]; exact Nat.ne_of_lt (blk_lt BK205.out) : gb205 ≠ gb208)); have n9_ := Aside0.mk ((by rw [hg]; exact Nat.ne_of_gt (blk_lt BK205.out) : gb208 ≠ gb205)); clear BK204; clear BK205; clear HB; have BK204 := n0_; have BK205 := n1_; have HB := n2_; have BK208 := n3_; have GE208 := n5_; have NB204_208 := n6_; have NB208_204 := n7_; have NB205_208 := n8_; have NB208_205 := n9_; clear n0_ n1_ n2_ n3_ n5_ n6_ n7_ n8_ n9_; clear hb hbox hg; have hnb20 := NB208_204.out; have hnc20 := NB204_208.out; have hnb21 := NB208_205.out; have hnc21 := NB205_208.out; have hcz22_0 : w19.cell? ⟨gb208, 0, none⟩ = some (.string (⟨#[]⟩ : ByteArray)) := (blk_cell BK208.out 0).trans rfl; have hcz22_1 : w19.cell? ⟨gb208, 1, none⟩ = some (.slice none 0 0) := (blk_cell BK208.out 1).trans rfl; have hcz22_2 : w19.cell? ⟨gb208, 2, none⟩ = some (.slice none 0 0) := (blk_cell BK208.out 2).trans rfl; have hfz22_0 := blk_frozen BK208.out 0; have hfz22_1 := blk_frozen BK208.out 1; have hfz22_2 := blk_frozen BK208.out 2) | ((with_reducible refine gate_dst (N := 24) rfl ?_); refine Kd.R_lit Kd.string _ 9 ?hg (N := 24) ?hd (xs := ([] : List ByteArray)) (inner := []) (ok := fun _ => True) (okp := fun _ => True) ?hr ?hp (fun _ hk => hk) trivial (Below.refl _ _) (Nat.le_refl _) (by simp) ?_; (case hd => rfl); (case hg => rfl); (case hr => first | (go_simp; done) | (go_simp; rfl)); (case hp => exact (Reps.none _ _)); intro v210 w23 ho24 hb hg_ hnew_; clear hg_ hnew_; (first | rw [← Ny209.out] at ho24 ); have n0_ := Aside0.mk (Kd.R_lower ho24 (below_size (by repeat (first | (with_reducible first | exact HB.out | refine below_set ?_ GE208.out) )))); have n1_ := Aside0.mk (blk_below (g := gb204) (o := .cells #[.slice A0_0 l0_0.length c0_0, .slice (some ad207) l0_1.length c0_1] 25 (0, 0)) (by refine blk_far ?_ NB204_208.out _; refine blk_far ?_ NB204_208.out _; refine blk_far ?_ NB204_208.out _; exact BK204.out) hb); have n2_ := Aside0.mk (blk_below (g := gb205) (o := .cells #[.slice A2_0 l2_0.length c2_0, .slice A2_1 l2_1.length c2_1] 29 (0, 0)) (by refine blk_far ?_ NB205_208.out _; refine blk_far ?_ NB205_208.out _; refine blk_far ?_ NB205_208.out _; exact BK205.out) hb); have n3_ := Aside0.mk (blk_below (g := gb208) (o := .cells #[.string ((rd_T52 l0_1 t206).f0), .slice A207_1 ((rd_T52 l0_1 t206).f1).length c207_1, .slice A207_2 ((rd_T52 l0_1 t206).f2).length c207_2] 52 (0, 0)) (by refine blk_put (cs := #[.string ((rd_T52 l0_1 t206).f0), .slice A207_1 ((rd_T52 l0_1 t206).f1).length c207_1, .slice none 0 0]) ?_ 2 _ rfl; refine blk_put (cs := #[.string ((rd_T52 l0_1 t206).f0), .slice none 0 0, .slice none 0 0]) ?_ 1 _ rfl; refine blk_put (cs := #[.string (⟨#[]⟩ : ByteArray), .slice none 0 0, .slice none 0 0]) ?_ 0 _ rfl; exact BK208.out) hb); have n4_ := Aside0.mk (below_step (by repeat (first | (with_reducible first | exact HB.out | refine below_set ?_ GE208.out) )) hb); clear BK204; clear BK205; clear BK208; clear HB; have HO211 := n0_; have BK204 := n1_; have BK205 := n2_; have BK208 := n3_; have HB := n4_; clear n0_ n1_ n2_ n3_ n4_; clear hb ho24))
       go_loopg [9, 10] k (fun kq v9 v10 w' => ∃ (x9_1 : List ByteArray) (x10_1 : Int), v10 = .int .i64 x10_1 ∧ Aside0 (ecdysisref20_Tree.l0 kq x9_1 x10_1 l0_0 l0_1 l2_0 l2_1 ((rd_T52 l0_1 t206).f0) ((rd_T52 l0_1 t206).f1) ((rd_T52 l0_1 t206).f2) = some r) ∧ Aside0 (kq ≤ k) ∧ Aside0 (Kd.R Kd.string 9 w' w.heap.size (fun _ => True) v9 x9_1) ∧ Aside0 (w'.heap[gb204]? = some (.cells #[(.slice A0_0 l0_0.length c0_0), (.slice (some ad207) l0_1.length c0_1)] 25 (0, 0))) ∧ Aside0 (w'.heap[gb205]? = some (.cells #[(.slice A2_0 l2_0.length c2_0), (.slice A2_1 l2_1.length c2_1)] 29 (0, 0))) ∧ Aside0 (w'.heap[gb208]? = some (.cells #[.string ((rd_T52 l0_1 t206).f0), (.slice A207_1 ((rd_T52 l0_1 t206).f1).length c207_1), (.slice A207_2 ((rd_T52 l0_1 t206).f2).length c207_2)] 52 (0, 0))) ∧ Aside0 (Below w.heap.size w w'))
       case atStart => exact ⟨(y209), (0), (by first | rfl ), H', ⟨Nat.le_refl _⟩, ⟨by exact HO211.out⟩, ⟨by exact BK204.out⟩, ⟨by exact BK205.out⟩, ⟨by exact BK208.out⟩, ⟨by exact HB.out⟩⟩
       case round =>
        clear H'
        try clear c1
        try clear c2
        try clear p2
        try clear q2
        try clear hx2
        try clear c5
        try clear c5b0
        try clear c8
        try clear c10
        try clear c11
        try clear c11b0
        try clear c12
        try clear c12b0
        try clear c15
        try clear c20
        try clear p20
        try clear q20
        try clear hx20
        try clear c21
        try clear hcz16_0
        try clear hcz16_1
        try clear hcz18_0
        try clear hcz18_1
        try clear hcz22_0
        try clear hcz22_1
        try clear hcz22_2
        try clear hcz9_0
        try clear hcz9_1
        try clear hfz16_0
        try clear hfz16_1
        try clear hfz18_0
        try clear hfz18_1
        try clear hfz22_0
        try clear hfz22_1
        try clear hfz22_2
        try clear hfz9_0
        try clear hfz9_1
        try clear hx207_0
        try clear hx207_1
        try clear hx207_2
        try clear p207
        try clear q207
        obtain ⟨x9_1, x10_1, rfl, HA, HK1, HO_9, BK204, BK205, BK208, HB⟩ := hrel
        cases gk with
        | zero => exact absurd HA.out (by simp [ecdysisref20_Tree.l0])
        | succ k1 =>
         have H := HA.out
         clear HA
         simp only [ecdysisref20_Tree.l0] at H
         by_cases c25 : x10_1 < (l2_0.length : Int)
         · rw [if_pos c25] at H
           have c25b0 : decide (x10_1 < (l2_0.length : Int)) = true := decide_eq_true c25
           clear c25
           have HC26 := Aside0.mk H
           clear H
           have hnb27 := NB205_204.out
           have hnc27 := NB204_205.out
           have hnb28 := NB205_208.out
           have hnc28 := NB208_205.out
           have hcz29_0 : wr.cell? ⟨gb205, 0, none⟩ = some (.slice A2_0 l2_0.length c2_0) := (blk_cell BK205.out 0).trans rfl
           have hcz29_1 : wr.cell? ⟨gb205, 1, none⟩ = some (.slice A2_1 l2_1.length c2_1) := (blk_cell BK205.out 1).trans rfl
           have hfz29_0 := blk_frozen BK205.out 0
           have hfz29_1 := blk_frozen BK205.out 1
           go_upto_region 9 with (fail)
           go_cut [60] (fun v60 wc => ∃ (kq : Nat) (x60_25 : Bool), v60 = .bool x60_25 ∧ Aside0 (ecdysisref20_Tree.j1 kq x9_1 x10_1 x60_25 l0_0 l0_1 l2_0 l2_1 ((rd_T52 l0_1 t206).f0) ((rd_T52 l0_1 t206).f1) ((rd_T52 l0_1 t206).f2) = some r) ∧ Aside0 (kq ≤ k1) ∧ Aside0 (Kd.R Kd.string 9 wc w.heap.size (fun _ => True) u9 x9_1) ∧ Aside0 (wc.heap[gb204]? = some (.cells #[(.slice A0_0 l0_0.length c0_0), (.slice (some ad207) l0_1.length c0_1)] 25 (0, 0))) ∧ Aside0 (wc.heap[gb205]? = some (.cells #[(.slice A2_0 l2_0.length c2_0), (.slice A2_1 l2_1.length c2_1)] 29 (0, 0))) ∧ Aside0 (wc.heap[gb208]? = some (.cells #[.string ((rd_T52 l0_1 t206).f0), (.slice A207_1 ((rd_T52 l0_1 t206).f1).length c207_1), (.slice A207_2 ((rd_T52 l0_1 t206).f2).length c207_2)] 52 (0, 0))) ∧ Aside0 (Below w.heap.size w wc))
           case first =>
            have H := HC26.out
            clear HC26
            by_cases c30 : x10_1 > 0
            · rw [if_pos c30] at H
              have c30b0 : decide (0 < x10_1) = true := decide_eq_true c30
              clear c30
              (first | skip)
              obtain ⟨ji31, hji31⟩ : ∃ j_ : Int, (wrap64 (x10_1 - 1)) = j_ := ⟨_, rfl⟩
              replace H : (if 0 ≤ (ji31) then (if (ji31) < (l2_0.length : Int) then (if 0 ≤ x10_1 then (if ((rd_T43 l2_0 (ji31)).f0) ≥ ((rd_T43 l2_0 x10_1).f0) then (ecdysisref20_Tree.j1 k1 x9_1 x10_1 true l0_0 l0_1 l2_0 l2_1 ((rd_T52 l0_1 t206).f0) ((rd_T52 l0_1 t206).f1) ((rd_T52 l0_1 t206).f2)) else ((ecdysisref20_slot.f k1 l0_0 l0_1 ((rd_T52 l0_1 t206).f0) ((rd_T52 l0_1 t206).f1) ((rd_T52 l0_1 t206).f2) ((rd_T43 l2_0 x10_1).f0) ((rd_T43 l2_0 x10_1).f1)).bind fun t215 => (ecdysisref20_Tree.j1 k1 x9_1 x10_1 (!t215) l0_0 l0_1 l2_0 l2_1 ((rd_T52 l0_1 t206).f0) ((rd_T52 l0_1 t206).f1) ((rd_T52 l0_1 t206).f2)))) else (none)) else (none)) else (none)) = some r := by first | (rw [hji31] at H; exact H) 
              have hji31w : (IntKind.i64.wrap (x10_1 - 1)) = ji31 := (i64_w _).trans hji31
              by_cases c32 : 0 ≤ (ji31)
              · rw [if_pos c32] at H
                have c32b0 : decide (0 ≤ (ji31)) = true := decide_eq_true c32
                clear c32
                by_cases c33 : (ji31) < (l2_0.length : Int)
                · rw [if_pos c33] at H
                  have c33b0 : decide ((ji31) < (l2_0.length : Int)) = true := decide_eq_true c33
                  clear c33
                  by_cases c34 : 0 ≤ x10_1
                  · rw [if_pos c34] at H
                    have c34b0 : decide (0 ≤ x10_1) = true := decide_eq_true c34
                    clear c34
                    by_cases c35 : ((rd_T43 l2_0 (ji31)).f0) ≥ ((rd_T43 l2_0 x10_1).f0)
                    · rw [if_pos c35] at H
                      have c35b0 : decide (((rd_T43 l2_0 x10_1).f0) ≤ ((rd_T43 l2_0 (ji31)).f0)) = true := decide_eq_true c35
                      clear c35
                      have H' := Aside0.mk H
                      clear H
                      try go_wp2
                      have n0_ := Aside0.mk (Kd.R_drew HO_9.out)
                      have n1_ := Aside0.mk (blk_drew BK204.out)
                      have n2_ := Aside0.mk (blk_drew BK205.out)
                      have n3_ := Aside0.mk (blk_drew BK208.out)
                      have n4_ := Aside0.mk (below_drew1 HB.out)
                      clear HO_9
                      clear BK204
                      clear BK205
                      clear BK208
                      clear HB
                      have HO_9 := n0_
                      have BK204 := n1_
                      have BK205 := n2_
                      have BK208 := n3_
                      have HB := n4_
                      clear n0_ n1_ n2_ n3_ n4_
                      have p212 : 0 ≤ ((ji31) : Int) := of_decide_eq_true (by first | (with_reducible assumption) )
                      have q212 : (ji31) < (l2_0.length : Int) := of_decide_eq_true (by first | (with_reducible assumption) )
                      obtain ⟨ad212, A212_1, c212_1, e212, hx212_0, hx212_1, hl212_1, hi212_1⟩ := at_T43 HR2_0.out (ji31) p212 q212
                      have hw212_1 := hx212_1
                      have hw212_0 := hx212_0
                      cases e212
                      replace hx212_0 := (HB.out.cell (World.block_lt_of_cell? w _ hx212_0)).trans hx212_0
                      replace hx212_1 := (HB.out.cell (World.block_lt_of_cell? w _ hx212_1)).trans hx212_1
                      have HR212_1 := Aside0.mk hi212_1
                      have HC212_1 := Aside0.mk hl212_1
                      clear hi212_1 hl212_1
                      replace p212 := eq_true p212
                      replace q212 := eq_true q212
                      have p213 : 0 ≤ (x10_1 : Int) := of_decide_eq_true (by first | (with_reducible assumption) )
                      have q213 : x10_1 < (l2_0.length : Int) := of_decide_eq_true (by first | (with_reducible assumption) )
                      obtain ⟨ad213, A213_1, c213_1, e213, hx213_0, hx213_1, hl213_1, hi213_1⟩ := at_T43 HR2_0.out x10_1 p213 q213
                      have hw213_1 := hx213_1
                      have hw213_0 := hx213_0
                      obtain rfl : ad212 = ad213 := (by injection e213)
                      replace hx213_0 := (HB.out.cell (World.block_lt_of_cell? w _ hx213_0)).trans hx213_0
                      replace hx213_1 := (HB.out.cell (World.block_lt_of_cell? w _ hx213_1)).trans hx213_1
                      have HR213_1 := Aside0.mk hi213_1
                      have HC213_1 := Aside0.mk hl213_1
                      clear hi213_1 hl213_1
                      replace p213 := eq_true p213
                      replace q213 := eq_true q213
                      refine start_ (n := 29) (S := fun w' => w'.cell? ⟨gb205, 0, none⟩ = some (.slice (some ad212) l2_0.length c2_0) ∧ w'.cell? ⟨gb205, 1, none⟩ = some (.slice A2_1 l2_1.length c2_1) ∧ w'.cell? (ad212.add (((ji31)).toNat * 2)) = some (.int .i64 ((rd_T43 l2_0 (ji31)).f0)) ∧ w'.cell? ⟨(ad212.add (((ji31)).toNat * 2)).block, (ad212.add (((ji31)).toNat * 2)).off + 1, none⟩ = some (.slice A212_1 ((rd_T43 l2_0 (ji31)).f1).length c212_1) ∧ w'.cell? (ad212.add ((x10_1).toNat * 2)) = some (.int .i64 ((rd_T43 l2_0 x10_1).f0)) ∧ w'.cell? ⟨(ad212.add ((x10_1).toNat * 2)).block, (ad212.add ((x10_1).toNat * 2)).off + 1, none⟩ = some (.slice A213_1 ((rd_T43 l2_0 x10_1).f1).length c213_1)) (ds := []) #[false, false, false, false, false, false, false, false, false, false, false, false, false, false, false, false, false, false, false, false, false, false, false, false, false, false, false, false, false] (by kernel_rfl) rfl rfl ⟨(blk_cell BK205.out 0).trans rfl, (blk_cell BK205.out 1).trans rfl, ((HB.out.cell (World.block_lt_of_cell? w _ hw212_0)).trans hw212_0), ((HB.out.cell (World.block_lt_of_cell? w _ hw212_1)).trans hw212_1), ((HB.out.cell (World.block_lt_of_cell? w _ hw213_0)).trans hw213_0), ((HB.out.cell (World.block_lt_of_cell? w _ hw213_1)).trans hw213_1)⟩ (fun hHeld => ?_); refine with_tabW ecdysisref20_Tree.tab9 ecdysisref20_Tree.bits9 (fun HT_ HW_ => ?_)
                      generalize wr.drew = w36 at HO_9 BK204 BK205 BK208 HB HR212_1 HR213_1 hx212_0 hx212_1 hx213_0 hx213_1 hHeld ⊢
                      refine zp 0 (zb 29 1) ?_ rfl rfl HT_ (by kernel_rfl) (fun _ _ _ h => h) rfl ?_ ?_ ?_ ?_; rotate_left; (intro w'; go_simp; with_reducible rfl); rotate_left; (simp only [zs]; rfl)
                      refine zp 1 (zb 29 3) ?_ rfl rfl HT_ (by kernel_rfl) (fun _ _ _ h => h) rfl ?_ ?_ ?_ ?_; rotate_left; (intro w'; go_simp; with_reducible rfl); rotate_left; (simp only [zs]; rfl)
                      refine zp 2 (zb 29 7) ?_ rfl rfl HT_ (by kernel_rfl) (fun _ _ _ h => h) rfl ?_ ?_ ?_ ?_; rotate_left; (intro w'; go_simp; with_reducible rfl); rotate_left; (simp only [zs]; rfl)
                      refine zp 3 (zb 29 15) ?_ rfl rfl HT_ (by kernel_rfl) (fun _ _ _ h => h) rfl ?_ ?_ ?_ ?_; rotate_left; (intro w'; go_simp; with_reducible rfl); rotate_left; (simp only [zs]; rfl)
                      refine zp 5 (zb 29 47) ?_ rfl rfl HT_ (by kernel_rfl) (fun _ _ _ h => h) rfl ?_ ?_ ?_ ?_; rotate_left; (intro w'; go_simp; with_reducible rfl); rotate_left; (simp only [zs]; rfl)
                      refine zp 6 (zb 29 111) ?_ rfl rfl HT_ (by kernel_rfl) (fun _ _ _ h => h) rfl ?_ ?_ ?_ ?_; rotate_left; (intro w'; go_simp; with_reducible rfl); rotate_left; (simp only [zs]; rfl)
                      refine zp 10 (zb 29 1135) ?_ rfl rfl HT_ (by kernel_rfl) (fun _ _ _ h => h) rfl ?_ ?_ ?_ ?_; rotate_left; (intro w'; go_simp; with_reducible rfl); rotate_left; (simp only [zs]; rfl)
                      refine zp 12 (zb 29 5231) ?_ rfl rfl HT_ (by kernel_rfl) (fun _ _ _ h => h) rfl ?_ ?_ ?_ ?_; rotate_left; (intro w'; go_simp; with_reducible rfl); rotate_left; (simp only [zs]; rfl)
                      refine zt 4 (zb 29 5247) ?_ rfl rfl HT_ HW_ (by kernel_rfl) (fun _ _ _ h => h) rfl ?_ hHeld ?_ ?_ ?_; rotate_left; (rintro w' ⟨s0, s1, s2, s3, s4, s5⟩; go_simp; with_reducible rfl); rotate_left; (simp only [zs]; rfl)
                      refine zp 7 (zb 29 5375) ?_ rfl rfl HT_ (by kernel_rfl) (fun _ _ _ h => h) rfl ?_ ?_ ?_ ?_; rotate_left; (intro w'; go_simp; with_reducible rfl); rotate_left; (simp only [zs]; rfl)
                      refine zp 8 (zb 29 5631) ?_ rfl rfl HT_ (by kernel_rfl) (fun _ _ _ h => h) rfl ?_ ?_ ?_ ?_; rotate_left; (intro w'; go_simp; with_reducible rfl); rotate_left; (simp only [zs]; rfl)
                      refine zt 9 (zb 29 6143) ?_ rfl rfl HT_ HW_ (by kernel_rfl) (fun _ _ _ h => h) rfl ?_ hHeld ?_ ?_ ?_; rotate_left; (rintro w' ⟨s0, s1, s2, s3, s4, s5⟩; go_simp; with_reducible rfl); rotate_left; (simp only [zs]; rfl)
                      refine zt 11 (zb 29 8191) ?_ rfl rfl HT_ HW_ (by kernel_rfl) (fun _ _ _ h => h) rfl ?_ hHeld ?_ ?_ ?_; rotate_left; (rintro w' ⟨s0, s1, s2, s3, s4, s5⟩; go_simp; with_reducible rfl); rotate_left; (simp only [zs]; rfl)
                      refine zp 13 (zb 29 16383) ?_ rfl rfl HT_ (by kernel_rfl) (fun _ _ _ h => h) rfl ?_ ?_ ?_ ?_; rotate_left; (intro w'; go_simp; with_reducible rfl); rotate_left; (simp only [zs]; rfl)
                      refine zp 14 (zb 29 32767) ?_ rfl rfl HT_ (by kernel_rfl) (fun _ _ _ h => h) rfl ?_ ?_ ?_ ?_; rotate_left; (intro w'; go_simp; with_reducible rfl); rotate_left; (simp only [zs]; rfl)
                      refine zt 15 (zb 29 65535) ?_ rfl rfl HT_ HW_ (by kernel_rfl) (fun _ _ _ h => h) rfl ?_ hHeld ?_ ?_ ?_; rotate_left; (rintro w' ⟨s0, s1, s2, s3, s4, s5⟩; go_simp; with_reducible rfl); rotate_left; (simp only [zs]; rfl)
                      refine zp 16 (zb 29 131071) ?_ rfl rfl HT_ (by kernel_rfl) (fun _ _ _ h => h) rfl ?_ ?_ ?_ ?_; rotate_left; (intro w'; go_simp; with_reducible rfl); rotate_left; (simp only [zs]; rfl)
                      refine zp 17 (zb 29 262143) ?_ rfl rfl HT_ (by kernel_rfl) (fun _ _ _ h => h) rfl ?_ ?_ ?_ ?_; rotate_left; (intro w'; go_simp; with_reducible rfl); rotate_left; (simp only [zs]; rfl)
                      refine zp 18 (zb 29 524287) ?_ rfl rfl HT_ (by kernel_rfl) (fun _ _ _ h => h) rfl ?_ ?_ ?_ ?_; rotate_left; (intro w'; go_simp; with_reducible rfl); rotate_left; (simp only [zs]; rfl)
                      refine zn 19 (zb 29 1048575) rfl rfl HT_ (by kernel_rfl) (fun _ _ _ h => h) rfl ?_ ?_ ?_; rotate_left; (simp only [zs]; rfl)
                      refine zn 20 (zb 29 2097151) rfl rfl HT_ (by kernel_rfl) (fun _ _ _ h => h) rfl ?_ ?_ ?_; rotate_left; (simp only [zs]; rfl)
                      refine zn 21 (zb 29 4194303) rfl rfl HT_ (by kernel_rfl) (fun _ _ _ h => h) rfl ?_ ?_ ?_; rotate_left; (simp only [zs]; rfl)
                      refine zn 22 (zb 29 8388607) rfl rfl HT_ (by kernel_rfl) (fun _ _ _ h => h) rfl ?_ ?_ ?_; rotate_left; (simp only [zs]; rfl)
                      refine zn 23 (zb 29 16777215) rfl rfl HT_ (by kernel_rfl) (fun _ _ _ h => h) rfl ?_ ?_ ?_; rotate_left; (simp only [zs]; rfl)
                      refine zn 24 (zb 29 33554431) rfl rfl HT_ (by kernel_rfl) (fun _ _ _ h => h) rfl ?_ ?_ ?_; rotate_left; (simp only [zs]; rfl)
                      refine zn 25 (zb 29 67108863) rfl rfl HT_ (by kernel_rfl) (fun _ _ _ h => h) rfl ?_ ?_ ?_; rotate_left; (simp only [zs]; rfl)
                      refine zn 26 (zb 29 134217727) rfl rfl HT_ (by kernel_rfl) (fun _ _ _ h => h) rfl ?_ ?_ ?_; rotate_left; (simp only [zs]; rfl)
                      refine zn 27 (zb 29 268435455) rfl rfl HT_ (by kernel_rfl) (fun _ _ _ h => h) rfl ?_ ?_ ?_; rotate_left; (simp only [zs]; rfl)
                      refine zp 28 (zb 29 536870911) ?_ rfl rfl HT_ (by kernel_rfl) (fun _ _ _ h => h) rfl ?_ ?_ ?_ ?_; rotate_left; (intro w'; go_simp; with_reducible rfl); rotate_left; (simp only [zs]; rfl)
                      refine done_ (done_of HT_.out (by kernel_rfl)) ?_
                      try go_wp2
                      go_meet
                      case rel => exact ⟨_, (true), (by first | rfl ), H', ⟨by have := HK1.out; first | omega | exact Nat.le_refl _⟩, ⟨by exact HO_9.out⟩, ⟨by exact BK204.out⟩, ⟨by exact BK205.out⟩, ⟨by exact BK208.out⟩, ⟨by exact HB.out⟩⟩
                    · rw [if_neg c35] at H
                      have c35b0 : decide (((rd_T43 l2_0 x10_1).f0) ≤ ((rd_T43 l2_0 (ji31)).f0)) = false := decide_eq_false c35
                      clear c35
                      replace H := Option.bind_eq_some_iff.mp H
                      obtain ⟨t215, A370, H⟩ := H
                      replace H : (ecdysisref20_Tree.j1 k1 x9_1 x10_1 (!t215) l0_0 l0_1 l2_0 l2_1 ((rd_T52 l0_1 t206).f0) ((rd_T52 l0_1 t206).f1) ((rd_T52 l0_1 t206).f2)) = some r := H
                      have A37 := Aside0.mk A370
                      clear A370
                      have H' := Aside0.mk H
                      clear H
                      try go_wp2
                      have n0_ := Aside0.mk (Kd.R_drew HO_9.out)
                      have n1_ := Aside0.mk (blk_drew BK204.out)
                      have n2_ := Aside0.mk (blk_drew BK205.out)
                      have n3_ := Aside0.mk (blk_drew BK208.out)
                      have n4_ := Aside0.mk (below_drew1 HB.out)
                      clear HO_9
                      clear BK204
                      clear BK205
                      clear BK208
                      clear HB
                      have HO_9 := n0_
                      have BK204 := n1_
                      have BK205 := n2_
                      have BK208 := n3_
                      have HB := n4_
                      clear n0_ n1_ n2_ n3_ n4_
                      have p212 : 0 ≤ ((ji31) : Int) := of_decide_eq_true (by first | (with_reducible assumption) )
                      have q212 : (ji31) < (l2_0.length : Int) := of_decide_eq_true (by first | (with_reducible assumption) )
                      obtain ⟨ad212, A212_1, c212_1, e212, hx212_0, hx212_1, hl212_1, hi212_1⟩ := at_T43 HR2_0.out (ji31) p212 q212
                      have hw212_1 := hx212_1
                      have hw212_0 := hx212_0
                      cases e212
                      replace hx212_0 := (HB.out.cell (World.block_lt_of_cell? w _ hx212_0)).trans hx212_0
                      replace hx212_1 := (HB.out.cell (World.block_lt_of_cell? w _ hx212_1)).trans hx212_1
                      have HR212_1 := Aside0.mk hi212_1
                      have HC212_1 := Aside0.mk hl212_1
                      clear hi212_1 hl212_1
                      replace p212 := eq_true p212
                      replace q212 := eq_true q212
                      have p213 : 0 ≤ (x10_1 : Int) := of_decide_eq_true (by first | (with_reducible assumption) )
                      have q213 : x10_1 < (l2_0.length : Int) := of_decide_eq_true (by first | (with_reducible assumption) )
                      obtain ⟨ad213, A213_1, c213_1, e213, hx213_0, hx213_1, hl213_1, hi213_1⟩ := at_T43 HR2_0.out x10_1 p213 q213
                      have hw213_1 := hx213_1
                      have hw213_0 := hx213_0
                      obtain rfl : ad212 = ad213 := (by injection e213)
                      replace hx213_0 := (HB.out.cell (World.block_lt_of_cell? w _ hx213_0)).trans hx213_0
                      replace hx213_1 := (HB.out.cell (World.block_lt_of_cell? w _ hx213_1)).trans hx213_1
                      have HR213_1 := Aside0.mk hi213_1
                      have HC213_1 := Aside0.mk hl213_1
                      clear hi213_1 hl213_1
                      replace p213 := eq_true p213
                      replace q213 := eq_true q213
                      have p214 : 0 ≤ (x10_1 : Int) := of_decide_eq_true (by first | (with_reducible assumption) )
                      have q214 : x10_1 < (l2_0.length : Int) := of_decide_eq_true (by first | (with_reducible assumption) )
                      obtain ⟨ad214, A214_1, c214_1, e214, hx214_0, hx214_1, hl214_1, hi214_1⟩ := at_T43 HR2_0.out x10_1 p214 q214
                      have hw214_1 := hx214_1
                      have hw214_0 := hx214_0
                      obtain rfl : ad212 = ad214 := (by injection e214)
                      replace hx214_0 := (HB.out.cell (World.block_lt_of_cell? w _ hx214_0)).trans hx214_0
                      replace hx214_1 := (HB.out.cell (World.block_lt_of_cell? w _ hx214_1)).trans hx214_1
                      have HR214_1 := Aside0.mk hi214_1
                      have HC214_1 := Aside0.mk hl214_1
                      clear hi214_1 hl214_1
                      replace p214 := eq_true p214
                      replace q214 := eq_true q214
                      have ea_ := Option.some.inj (hx213_1.symm.trans hx214_1)
                      injection ea_ with ea_ en_ ec_
                      subst ea_
                      subst ec_
                      clear en_
                      refine start_ (n := 29) (S := fun w' => w'.cell? ⟨gb205, 0, none⟩ = some (.slice (some ad212) l2_0.length c2_0) ∧ w'.cell? ⟨gb205, 1, none⟩ = some (.slice A2_1 l2_1.length c2_1) ∧ w'.cell? ⟨gb204, 0, none⟩ = some (.slice A0_0 l0_0.length c0_0) ∧ w'.cell? ⟨gb204, 1, none⟩ = some (.slice (some ad207) l0_1.length c0_1) ∧ w'.cell? ⟨gb208, 0, none⟩ = some (.string ((rd_T52 l0_1 t206).f0)) ∧ w'.cell? ⟨gb208, 1, none⟩ = some (.slice A207_1 ((rd_T52 l0_1 t206).f1).length c207_1) ∧ w'.cell? ⟨gb208, 2, none⟩ = some (.slice A207_2 ((rd_T52 l0_1 t206).f2).length c207_2) ∧ w'.cell? (ad212.add (((ji31)).toNat * 2)) = some (.int .i64 ((rd_T43 l2_0 (ji31)).f0)) ∧ w'.cell? ⟨(ad212.add (((ji31)).toNat * 2)).block, (ad212.add (((ji31)).toNat * 2)).off + 1, none⟩ = some (.slice A212_1 ((rd_T43 l2_0 (ji31)).f1).length c212_1) ∧ w'.cell? (ad212.add ((x10_1).toNat * 2)) = some (.int .i64 ((rd_T43 l2_0 x10_1).f0)) ∧ w'.cell? ⟨(ad212.add ((x10_1).toNat * 2)).block, (ad212.add ((x10_1).toNat * 2)).off + 1, none⟩ = some (.slice A213_1 ((rd_T43 l2_0 x10_1).f1).length c213_1) ∧ w'.cell? (ad212.add ((x10_1).toNat * 2)) = some (.int .i64 ((rd_T43 l2_0 x10_1).f0)) ∧ w'.cell? ⟨(ad212.add ((x10_1).toNat * 2)).block, (ad212.add ((x10_1).toNat * 2)).off + 1, none⟩ = some (.slice A213_1 ((rd_T43 l2_0 x10_1).f1).length c213_1)) (ds := []) #[false, false, false, false, false, false, false, false, false, false, false, false, false, false, false, false, false, false, false, false, false, false, false, false, false, false, false, false, false] (by kernel_rfl) rfl rfl ⟨(blk_cell BK205.out 0).trans rfl, (blk_cell BK205.out 1).trans rfl, (blk_cell BK204.out 0).trans rfl, (blk_cell BK204.out 1).trans rfl, (blk_cell BK208.out 0).trans rfl, (blk_cell BK208.out 1).trans rfl, (blk_cell BK208.out 2).trans rfl, ((HB.out.cell (World.block_lt_of_cell? w _ hw212_0)).trans hw212_0), ((HB.out.cell (World.block_lt_of_cell? w _ hw212_1)).trans hw212_1), ((HB.out.cell (World.block_lt_of_cell? w _ hw213_0)).trans hw213_0), ((HB.out.cell (World.block_lt_of_cell? w _ hw213_1)).trans hw213_1), ((HB.out.cell (World.block_lt_of_cell? w _ hw214_0)).trans hw214_0), ((HB.out.cell (World.block_lt_of_cell? w _ hw214_1)).trans hw214_1)⟩ (fun hHeld => ?_); refine with_tabW ecdysisref20_Tree.tab9 ecdysisref20_Tree.bits9 (fun HT_ HW_ => ?_)
                      generalize wr.drew = w38 at HO_9 BK204 BK205 BK208 HB HR212_1 HR213_1 HR214_1 hx212_0 hx212_1 hx213_0 hx213_1 hx214_0 hx214_1 hHeld ⊢
                      refine zp 0 (zb 29 1) ?_ rfl rfl HT_ (by kernel_rfl) (fun _ _ _ h => h) rfl ?_ ?_ ?_ ?_; rotate_left; (intro w'; go_simp; with_reducible rfl); rotate_left; (simp only [zs]; rfl)
                      refine zp 1 (zb 29 3) ?_ rfl rfl HT_ (by kernel_rfl) (fun _ _ _ h => h) rfl ?_ ?_ ?_ ?_; rotate_left; (intro w'; go_simp; with_reducible rfl); rotate_left; (simp only [zs]; rfl)
                      refine zp 2 (zb 29 7) ?_ rfl rfl HT_ (by kernel_rfl) (fun _ _ _ h => h) rfl ?_ ?_ ?_ ?_; rotate_left; (intro w'; go_simp; with_reducible rfl); rotate_left; (simp only [zs]; rfl)
                      refine zp 3 (zb 29 15) ?_ rfl rfl HT_ (by kernel_rfl) (fun _ _ _ h => h) rfl ?_ ?_ ?_ ?_; rotate_left; (intro w'; go_simp; with_reducible rfl); rotate_left; (simp only [zs]; rfl)
                      refine zp 5 (zb 29 47) ?_ rfl rfl HT_ (by kernel_rfl) (fun _ _ _ h => h) rfl ?_ ?_ ?_ ?_; rotate_left; (intro w'; go_simp; with_reducible rfl); rotate_left; (simp only [zs]; rfl)
                      refine zp 6 (zb 29 111) ?_ rfl rfl HT_ (by kernel_rfl) (fun _ _ _ h => h) rfl ?_ ?_ ?_ ?_; rotate_left; (intro w'; go_simp; with_reducible rfl); rotate_left; (simp only [zs]; rfl)
                      refine zp 10 (zb 29 1135) ?_ rfl rfl HT_ (by kernel_rfl) (fun _ _ _ h => h) rfl ?_ ?_ ?_ ?_; rotate_left; (intro w'; go_simp; with_reducible rfl); rotate_left; (simp only [zs]; rfl)
                      refine zp 12 (zb 29 5231) ?_ rfl rfl HT_ (by kernel_rfl) (fun _ _ _ h => h) rfl ?_ ?_ ?_ ?_; rotate_left; (intro w'; go_simp; with_reducible rfl); rotate_left; (simp only [zs]; rfl)
                      refine zt 4 (zb 29 5247) ?_ rfl rfl HT_ HW_ (by kernel_rfl) (fun _ _ _ h => h) rfl ?_ hHeld ?_ ?_ ?_; rotate_left; (rintro w' ⟨s0, s1, s2, s3, s4, s5, s6, s7, s8, s9, s10, s11, s12⟩; go_simp; with_reducible rfl); rotate_left; (simp only [zs]; rfl)
                      refine zp 7 (zb 29 5375) ?_ rfl rfl HT_ (by kernel_rfl) (fun _ _ _ h => h) rfl ?_ ?_ ?_ ?_; rotate_left; (intro w'; go_simp; with_reducible rfl); rotate_left; (simp only [zs]; rfl)
                      refine zp 8 (zb 29 5631) ?_ rfl rfl HT_ (by kernel_rfl) (fun _ _ _ h => h) rfl ?_ ?_ ?_ ?_; rotate_left; (intro w'; go_simp; with_reducible rfl); rotate_left; (simp only [zs]; rfl)
                      refine zt 9 (zb 29 6143) ?_ rfl rfl HT_ HW_ (by kernel_rfl) (fun _ _ _ h => h) rfl ?_ hHeld ?_ ?_ ?_; rotate_left; (rintro w' ⟨s0, s1, s2, s3, s4, s5, s6, s7, s8, s9, s10, s11, s12⟩; go_simp; with_reducible rfl); rotate_left; (simp only [zs]; rfl)
                      refine zt 11 (zb 29 8191) ?_ rfl rfl HT_ HW_ (by kernel_rfl) (fun _ _ _ h => h) rfl ?_ hHeld ?_ ?_ ?_; rotate_left; (rintro w' ⟨s0, s1, s2, s3, s4, s5, s6, s7, s8, s9, s10, s11, s12⟩; go_simp; with_reducible rfl); rotate_left; (simp only [zs]; rfl)
                      refine zp 13 (zb 29 16383) ?_ rfl rfl HT_ (by kernel_rfl) (fun _ _ _ h => h) rfl ?_ ?_ ?_ ?_; rotate_left; (intro w'; go_simp; with_reducible rfl); rotate_left; (simp only [zs]; rfl)
                      refine zp 14 (zb 29 32767) ?_ rfl rfl HT_ (by kernel_rfl) (fun _ _ _ h => h) rfl ?_ ?_ ?_ ?_; rotate_left; (intro w'; go_simp; with_reducible rfl); rotate_left; (simp only [zs]; rfl)
                      refine zt 15 (zb 29 65535) ?_ rfl rfl HT_ HW_ (by kernel_rfl) (fun _ _ _ h => h) rfl ?_ hHeld ?_ ?_ ?_; rotate_left; (rintro w' ⟨s0, s1, s2, s3, s4, s5, s6, s7, s8, s9, s10, s11, s12⟩; go_simp; with_reducible rfl); rotate_left; (simp only [zs]; rfl)
                      refine zp 16 (zb 29 131071) ?_ rfl rfl HT_ (by kernel_rfl) (fun _ _ _ h => h) rfl ?_ ?_ ?_ ?_; rotate_left; (intro w'; go_simp; with_reducible rfl); rotate_left; (simp only [zs]; rfl)
                      refine zp 17 (zb 29 262143) ?_ rfl rfl HT_ (by kernel_rfl) (fun _ _ _ h => h) rfl ?_ ?_ ?_ ?_; rotate_left; (intro w'; go_simp; with_reducible rfl); rotate_left; (simp only [zs]; rfl)
                      refine zp 18 (zb 29 524287) ?_ rfl rfl HT_ (by kernel_rfl) (fun _ _ _ h => h) rfl ?_ ?_ ?_ ?_; rotate_left; (intro w'; go_simp; with_reducible rfl); rotate_left; (simp only [zs]; rfl)
                      refine zp 21 (zb 29 2621439) ?_ rfl rfl HT_ (by kernel_rfl) (fun _ _ _ h => h) rfl ?_ ?_ ?_ ?_; rotate_left; (intro w'; go_simp; with_reducible rfl); rotate_left; (simp only [zs]; rfl)
                      refine zp 23 (zb 29 11010047) ?_ rfl rfl HT_ (by kernel_rfl) (fun _ _ _ h => h) rfl ?_ ?_ ?_ ?_; rotate_left; (intro w'; go_simp; with_reducible rfl); rotate_left; (simp only [zs]; rfl)
                      refine zt 19 (zb 29 11534335) ?_ rfl rfl HT_ HW_ (by kernel_rfl) (fun _ _ _ h => h) rfl ?_ hHeld ?_ ?_ ?_; rotate_left; (rintro w' ⟨s0, s1, s2, s3, s4, s5, s6, s7, s8, s9, s10, s11, s12⟩; go_simp; with_reducible rfl); rotate_left; (simp only [zs]; rfl)
                      refine zt 20 (zb 29 12582911) ?_ rfl rfl HT_ HW_ (by kernel_rfl) (fun _ _ _ h => h) rfl ?_ hHeld ?_ ?_ ?_; rotate_left; (rintro w' ⟨s0, s1, s2, s3, s4, s5, s6, s7, s8, s9, s10, s11, s12⟩; go_simp; with_reducible rfl); rotate_left; (simp only [zs]; rfl)
                      refine zt 22 (zb 29 16777215) ?_ rfl rfl HT_ HW_ (by kernel_rfl) (fun _ _ _ h => h) rfl ?_ hHeld ?_ ?_ ?_; rotate_left; (rintro w' ⟨s0, s1, s2, s3, s4, s5, s6, s7, s8, s9, s10, s11, s12⟩; go_simp; with_reducible rfl); rotate_left; (simp only [zs]; rfl)
                      refine zp 24 (zb 29 33554431) ?_ rfl rfl HT_ (by kernel_rfl) (fun _ _ _ h => h) rfl ?_ ?_ ?_ ?_; rotate_left; (intro w'; go_simp; with_reducible rfl); rotate_left; (simp only [zs]; rfl)
                      refine zt 25 (zb 29 67108863) ?_ rfl rfl HT_ HW_ (by kernel_rfl) (fun _ _ _ h => h) rfl ?_ hHeld ?_ ?_ ?_; rotate_left; (rintro w' ⟨s0, s1, s2, s3, s4, s5, s6, s7, s8, s9, s10, s11, s12⟩; go_simp; with_reducible rfl); rotate_left; (simp only [zs]; rfl)
                      refine one_ (i := 26) (N := some 58) #[true, true, true, true, true, true, true, true, true, true, true, true, true, true, true, true, true, true, true, true, true, true, true, true, true, true, true, false, false] rfl rfl (one_of HT_.out (by kernel_rfl)) (by decide) (fun K hK => ?_)
                      refine goes_ Tryd.func20 (by kernel_rfl) rfl #[.agg #[.slice A0_0 l0_0.length c0_0, .slice (some ad207) l0_1.length c0_1], .agg #[.string ((rd_T52 l0_1 t206).f0), .slice A207_1 ((rd_T52 l0_1 t206).f1).length c207_1, .slice A207_2 ((rd_T52 l0_1 t206).f2).length c207_2], .agg #[.int .i64 ((rd_T43 l2_0 x10_1).f0), .slice A213_1 ((rd_T43 l2_0 x10_1).f1).length c213_1]] (by rfl) rfl rfl (by (try simp only [List.map_toArray, List.map_cons, List.map_nil]); first | done | rfl | (simp only [List.length_drop, List.length_take]; rfl)) ?_
                      with_reducible refine (ih_ecdysisref20_slot k1 (by have := HK1.out; omega) _ _ l0_0 _ _ l0_1 ((rd_T52 l0_1 t206).f0) _ _ ((rd_T52 l0_1 t206).f1) _ _ ((rd_T52 l0_1 t206).f2) ((rd_T43 l2_0 x10_1).f0) _ _ ((rd_T43 l2_0 x10_1).f1) t215 _ ?sideT ?side1 ?side2 ?side3 ?side4 ?side5 ?side6 ?side7 ?side8 ?side9 ?side10 A37.out).mono ?_
                      case sideT => exact Tabs.below HU8.out HB.out
                      (case side1 => repeat (first | exact (Kd.C_below HR0_0.out HB.out) ))
                      (case side2 => exact HC0_0.out)
                      (case side3 => repeat (first | exact (Kd.C_below HR0_1.out HB.out) ))
                      (case side4 => exact HC0_1.out)
                      (case side5 => repeat (first | exact (Kd.C_below HR207_1.out HB.out) ))
                      (case side6 => exact HC207_1.out)
                      (case side7 => repeat (first | exact (Kd.C_below HR207_2.out HB.out) ))
                      (case side8 => exact HC207_2.out)
                      (case side9 => repeat (first | exact (Kd.C_below HR214_1.out HB.out) ))
                      (case side10 => exact HC214_1.out)
                      rintro e w39 ⟨rfl, hb⟩
                      refine ⟨_, rfl, ?_⟩
                      have n0_ := Aside0.mk (Kd.R_below HO_9.out hb)
                      have n1_ := Aside0.mk (blk_below BK204.out hb)
                      have n2_ := Aside0.mk (blk_below BK205.out hb)
                      have n3_ := Aside0.mk (blk_below BK208.out hb)
                      have n4_ := Aside0.mk (below_step HB.out hb)
                      clear HO_9
                      clear BK204
                      clear BK205
                      clear BK208
                      clear HB
                      have HO_9 := n0_
                      have BK204 := n1_
                      have BK205 := n2_
                      have BK208 := n3_
                      have HB := n4_
                      clear n0_ n1_ n2_ n3_ n4_
                      (try clear hb)
                      (try clear hb2)
                      (try clear hk)
                      (try clear hi)
                      refine hK.out _ _ ⟨(blk_cell BK205.out 0).trans rfl, (blk_cell BK205.out 1).trans rfl, (blk_cell BK204.out 0).trans rfl, (blk_cell BK204.out 1).trans rfl, (blk_cell BK208.out 0).trans rfl, (blk_cell BK208.out 1).trans rfl, (blk_cell BK208.out 2).trans rfl, ((HB.out.cell (World.block_lt_of_cell? w _ hw212_0)).trans hw212_0), ((HB.out.cell (World.block_lt_of_cell? w _ hw212_1)).trans hw212_1), ((HB.out.cell (World.block_lt_of_cell? w _ hw213_0)).trans hw213_0), ((HB.out.cell (World.block_lt_of_cell? w _ hw213_1)).trans hw213_1), ((HB.out.cell (World.block_lt_of_cell? w _ hw214_0)).trans hw214_0), ((HB.out.cell (World.block_lt_of_cell? w _ hw214_1)).trans hw214_1)⟩ (fun hHeld => ?_)
                      clear hK K
                      refine norm_ (a' := ?_) ?_ ?_
                      rotate_left
                      · show Act.put _ (some 58) _ = _
                        simp only [zs]
                        rfl
                      refine zp 27 (zb 29 268435455) ?_ rfl rfl HT_ (by kernel_rfl) (fun _ _ _ h => h) rfl ?_ ?_ ?_ ?_; rotate_left; (intro w'; go_simp; with_reducible rfl); rotate_left; (simp only [zs]; rfl)
                      refine zp 28 (zb 29 536870911) ?_ rfl rfl HT_ (by kernel_rfl) (fun _ _ _ h => h) rfl ?_ ?_ ?_ ?_; rotate_left; (intro w'; go_simp; with_reducible rfl); rotate_left; (simp only [zs]; rfl)
                      refine done_ (done_of HT_.out (by kernel_rfl)) ?_
                      try go_wp2
                      go_meet
                      case rel => exact ⟨_, (!t215), (by first | rfl ), H', ⟨by have := HK1.out; first | omega | exact Nat.le_refl _⟩, ⟨by exact HO_9.out⟩, ⟨by exact BK204.out⟩, ⟨by exact BK205.out⟩, ⟨by exact BK208.out⟩, ⟨by exact HB.out⟩⟩
                  · rw [if_neg c34] at H
                    exact absurd H (by simp)
                · rw [if_neg c33] at H
                  exact absurd H (by simp)
              · rw [if_neg c32] at H
                exact absurd H (by simp)
            · rw [if_neg c30] at H
              have c30b0 : decide (0 < x10_1) = false := decide_eq_false c30
              clear c30
              (first | skip)
              by_cases c40 : 0 ≤ x10_1
              · rw [if_pos c40] at H
                have c40b0 : decide (0 ≤ x10_1) = true := decide_eq_true c40
                clear c40
                replace H := Option.bind_eq_some_iff.mp H
                obtain ⟨t217, A410, H⟩ := H
                replace H : (ecdysisref20_Tree.j1 k1 x9_1 x10_1 (!t217) l0_0 l0_1 l2_0 l2_1 ((rd_T52 l0_1 t206).f0) ((rd_T52 l0_1 t206).f1) ((rd_T52 l0_1 t206).f2)) = some r := H
                have A41 := Aside0.mk A410
                clear A410
                have H' := Aside0.mk H
                clear H
                try go_wp2
                have n0_ := Aside0.mk (Kd.R_drew HO_9.out)
                have n1_ := Aside0.mk (blk_drew BK204.out)
                have n2_ := Aside0.mk (blk_drew BK205.out)
                have n3_ := Aside0.mk (blk_drew BK208.out)
                have n4_ := Aside0.mk (below_drew1 HB.out)
                clear HO_9
                clear BK204
                clear BK205
                clear BK208
                clear HB
                have HO_9 := n0_
                have BK204 := n1_
                have BK205 := n2_
                have BK208 := n3_
                have HB := n4_
                clear n0_ n1_ n2_ n3_ n4_
                have p216 : 0 ≤ (x10_1 : Int) := of_decide_eq_true (by first | (with_reducible assumption) )
                have q216 : x10_1 < (l2_0.length : Int) := of_decide_eq_true (by first | (with_reducible assumption) )
                obtain ⟨ad216, A216_1, c216_1, e216, hx216_0, hx216_1, hl216_1, hi216_1⟩ := at_T43 HR2_0.out x10_1 p216 q216
                have hw216_1 := hx216_1
                have hw216_0 := hx216_0
                cases e216
                replace hx216_0 := (HB.out.cell (World.block_lt_of_cell? w _ hx216_0)).trans hx216_0
                replace hx216_1 := (HB.out.cell (World.block_lt_of_cell? w _ hx216_1)).trans hx216_1
                have HR216_1 := Aside0.mk hi216_1
                have HC216_1 := Aside0.mk hl216_1
                clear hi216_1 hl216_1
                replace p216 := eq_true p216
                replace q216 := eq_true q216
                refine start_ (n := 29) (S := fun w' => w'.cell? ⟨gb204, 0, none⟩ = some (.slice A0_0 l0_0.length c0_0) ∧ w'.cell? ⟨gb204, 1, none⟩ = some (.slice (some ad207) l0_1.length c0_1) ∧ w'.cell? ⟨gb208, 0, none⟩ = some (.string ((rd_T52 l0_1 t206).f0)) ∧ w'.cell? ⟨gb208, 1, none⟩ = some (.slice A207_1 ((rd_T52 l0_1 t206).f1).length c207_1) ∧ w'.cell? ⟨gb208, 2, none⟩ = some (.slice A207_2 ((rd_T52 l0_1 t206).f2).length c207_2) ∧ w'.cell? ⟨gb205, 0, none⟩ = some (.slice (some ad216) l2_0.length c2_0) ∧ w'.cell? ⟨gb205, 1, none⟩ = some (.slice A2_1 l2_1.length c2_1) ∧ w'.cell? (ad216.add ((x10_1).toNat * 2)) = some (.int .i64 ((rd_T43 l2_0 x10_1).f0)) ∧ w'.cell? ⟨(ad216.add ((x10_1).toNat * 2)).block, (ad216.add ((x10_1).toNat * 2)).off + 1, none⟩ = some (.slice A216_1 ((rd_T43 l2_0 x10_1).f1).length c216_1)) (ds := []) #[false, false, false, false, false, false, false, false, false, false, false, false, false, false, false, false, false, false, false, false, false, false, false, false, false, false, false, false, false] (by kernel_rfl) rfl rfl ⟨(blk_cell BK204.out 0).trans rfl, (blk_cell BK204.out 1).trans rfl, (blk_cell BK208.out 0).trans rfl, (blk_cell BK208.out 1).trans rfl, (blk_cell BK208.out 2).trans rfl, (blk_cell BK205.out 0).trans rfl, (blk_cell BK205.out 1).trans rfl, ((HB.out.cell (World.block_lt_of_cell? w _ hw216_0)).trans hw216_0), ((HB.out.cell (World.block_lt_of_cell? w _ hw216_1)).trans hw216_1)⟩ (fun hHeld => ?_); refine with_tabW ecdysisref20_Tree.tab9 ecdysisref20_Tree.bits9 (fun HT_ HW_ => ?_)
                generalize wr.drew = w42 at HO_9 BK204 BK205 BK208 HB HR216_1 hx216_0 hx216_1 hHeld ⊢
                refine zp 0 (zb 29 1) ?_ rfl rfl HT_ (by kernel_rfl) (fun _ _ _ h => h) rfl ?_ ?_ ?_ ?_; rotate_left; (intro w'; go_simp; with_reducible rfl); rotate_left; (simp only [zs]; rfl)
                refine zp 1 (zb 29 3) ?_ rfl rfl HT_ (by kernel_rfl) (fun _ _ _ h => h) rfl ?_ ?_ ?_ ?_; rotate_left; (intro w'; go_simp; with_reducible rfl); rotate_left; (simp only [zs]; rfl)
                refine zp 2 (zb 29 7) ?_ rfl rfl HT_ (by kernel_rfl) (fun _ _ _ h => h) rfl ?_ ?_ ?_ ?_; rotate_left; (intro w'; go_simp; with_reducible rfl); rotate_left; (simp only [zs]; rfl)
                refine zn 3 (zb 29 15) rfl rfl HT_ (by kernel_rfl) (fun _ _ _ h => h) rfl ?_ ?_ ?_; rotate_left; (simp only [zs]; rfl)
                refine zn 4 (zb 29 31) rfl rfl HT_ (by kernel_rfl) (fun _ _ _ h => h) rfl ?_ ?_ ?_; rotate_left; (simp only [zs]; rfl)
                refine zn 5 (zb 29 63) rfl rfl HT_ (by kernel_rfl) (fun _ _ _ h => h) rfl ?_ ?_ ?_; rotate_left; (simp only [zs]; rfl)
                refine zn 6 (zb 29 127) rfl rfl HT_ (by kernel_rfl) (fun _ _ _ h => h) rfl ?_ ?_ ?_; rotate_left; (simp only [zs]; rfl)
                refine zn 7 (zb 29 255) rfl rfl HT_ (by kernel_rfl) (fun _ _ _ h => h) rfl ?_ ?_ ?_; rotate_left; (simp only [zs]; rfl)
                refine zn 8 (zb 29 511) rfl rfl HT_ (by kernel_rfl) (fun _ _ _ h => h) rfl ?_ ?_ ?_; rotate_left; (simp only [zs]; rfl)
                refine zn 9 (zb 29 1023) rfl rfl HT_ (by kernel_rfl) (fun _ _ _ h => h) rfl ?_ ?_ ?_; rotate_left; (simp only [zs]; rfl)
                refine zn 10 (zb 29 2047) rfl rfl HT_ (by kernel_rfl) (fun _ _ _ h => h) rfl ?_ ?_ ?_; rotate_left; (simp only [zs]; rfl)
                refine zn 11 (zb 29 4095) rfl rfl HT_ (by kernel_rfl) (fun _ _ _ h => h) rfl ?_ ?_ ?_; rotate_left; (simp only [zs]; rfl)
                refine zn 12 (zb 29 8191) rfl rfl HT_ (by kernel_rfl) (fun _ _ _ h => h) rfl ?_ ?_ ?_; rotate_left; (simp only [zs]; rfl)
                refine zn 13 (zb 29 16383) rfl rfl HT_ (by kernel_rfl) (fun _ _ _ h => h) rfl ?_ ?_ ?_; rotate_left; (simp only [zs]; rfl)
                refine zn 14 (zb 29 32767) rfl rfl HT_ (by kernel_rfl) (fun _ _ _ h => h) rfl ?_ ?_ ?_; rotate_left; (simp only [zs]; rfl)
                refine zn 15 (zb 29 65535) rfl rfl HT_ (by kernel_rfl) (fun _ _ _ h => h) rfl ?_ ?_ ?_; rotate_left; (simp only [zs]; rfl)
                refine zn 16 (zb 29 131071) rfl rfl HT_ (by kernel_rfl) (fun _ _ _ h => h) rfl ?_ ?_ ?_; rotate_left; (simp only [zs]; rfl)
                refine zp 17 (zb 29 262143) ?_ rfl rfl HT_ (by kernel_rfl) (fun _ _ _ h => h) rfl ?_ ?_ ?_ ?_; rotate_left; (intro w'; go_simp; with_reducible rfl); rotate_left; (simp only [zs]; rfl)
                refine zp 18 (zb 29 524287) ?_ rfl rfl HT_ (by kernel_rfl) (fun _ _ _ h => h) rfl ?_ ?_ ?_ ?_; rotate_left; (intro w'; go_simp; with_reducible rfl); rotate_left; (simp only [zs]; rfl)
                refine zp 21 (zb 29 2621439) ?_ rfl rfl HT_ (by kernel_rfl) (fun _ _ _ h => h) rfl ?_ ?_ ?_ ?_; rotate_left; (intro w'; go_simp; with_reducible rfl); rotate_left; (simp only [zs]; rfl)
                refine zp 23 (zb 29 11010047) ?_ rfl rfl HT_ (by kernel_rfl) (fun _ _ _ h => h) rfl ?_ ?_ ?_ ?_; rotate_left; (intro w'; go_simp; with_reducible rfl); rotate_left; (simp only [zs]; rfl)
                refine zt 19 (zb 29 11534335) ?_ rfl rfl HT_ HW_ (by kernel_rfl) (fun _ _ _ h => h) rfl ?_ hHeld ?_ ?_ ?_; rotate_left; (rintro w' ⟨s0, s1, s2, s3, s4, s5, s6, s7, s8⟩; go_simp; with_reducible rfl); rotate_left; (simp only [zs]; rfl)
                refine zt 20 (zb 29 12582911) ?_ rfl rfl HT_ HW_ (by kernel_rfl) (fun _ _ _ h => h) rfl ?_ hHeld ?_ ?_ ?_; rotate_left; (rintro w' ⟨s0, s1, s2, s3, s4, s5, s6, s7, s8⟩; go_simp; with_reducible rfl); rotate_left; (simp only [zs]; rfl)
                refine zt 22 (zb 29 16777215) ?_ rfl rfl HT_ HW_ (by kernel_rfl) (fun _ _ _ h => h) rfl ?_ hHeld ?_ ?_ ?_; rotate_left; (rintro w' ⟨s0, s1, s2, s3, s4, s5, s6, s7, s8⟩; go_simp; with_reducible rfl); rotate_left; (simp only [zs]; rfl)
                refine zp 24 (zb 29 33554431) ?_ rfl rfl HT_ (by kernel_rfl) (fun _ _ _ h => h) rfl ?_ ?_ ?_ ?_; rotate_left; (intro w'; go_simp; with_reducible rfl); rotate_left; (simp only [zs]; rfl)
                refine zt 25 (zb 29 67108863) ?_ rfl rfl HT_ HW_ (by kernel_rfl) (fun _ _ _ h => h) rfl ?_ hHeld ?_ ?_ ?_; rotate_left; (rintro w' ⟨s0, s1, s2, s3, s4, s5, s6, s7, s8⟩; go_simp; with_reducible rfl); rotate_left; (simp only [zs]; rfl)
                refine one_ (i := 26) (N := some 58) #[true, true, true, true, true, true, true, true, true, true, true, true, true, true, true, true, true, true, true, true, true, true, true, true, true, true, true, false, false] rfl rfl (one_of HT_.out (by kernel_rfl)) (by decide) (fun K hK => ?_)
                refine goes_ Tryd.func20 (by kernel_rfl) rfl #[.agg #[.slice A0_0 l0_0.length c0_0, .slice (some ad207) l0_1.length c0_1], .agg #[.string ((rd_T52 l0_1 t206).f0), .slice A207_1 ((rd_T52 l0_1 t206).f1).length c207_1, .slice A207_2 ((rd_T52 l0_1 t206).f2).length c207_2], .agg #[.int .i64 ((rd_T43 l2_0 x10_1).f0), .slice A216_1 ((rd_T43 l2_0 x10_1).f1).length c216_1]] (by rfl) rfl rfl (by (try simp only [List.map_toArray, List.map_cons, List.map_nil]); first | done | rfl | (simp only [List.length_drop, List.length_take]; rfl)) ?_
                with_reducible refine (ih_ecdysisref20_slot k1 (by have := HK1.out; omega) _ _ l0_0 _ _ l0_1 ((rd_T52 l0_1 t206).f0) _ _ ((rd_T52 l0_1 t206).f1) _ _ ((rd_T52 l0_1 t206).f2) ((rd_T43 l2_0 x10_1).f0) _ _ ((rd_T43 l2_0 x10_1).f1) t217 _ ?sideT ?side1 ?side2 ?side3 ?side4 ?side5 ?side6 ?side7 ?side8 ?side9 ?side10 A41.out).mono ?_
                case sideT => exact Tabs.below HU8.out HB.out
                (case side1 => repeat (first | exact (Kd.C_below HR0_0.out HB.out) ))
                (case side2 => exact HC0_0.out)
                (case side3 => repeat (first | exact (Kd.C_below HR0_1.out HB.out) ))
                (case side4 => exact HC0_1.out)
                (case side5 => repeat (first | exact (Kd.C_below HR207_1.out HB.out) ))
                (case side6 => exact HC207_1.out)
                (case side7 => repeat (first | exact (Kd.C_below HR207_2.out HB.out) ))
                (case side8 => exact HC207_2.out)
                (case side9 => repeat (first | exact (Kd.C_below HR216_1.out HB.out) ))
                (case side10 => exact HC216_1.out)
                rintro e w43 ⟨rfl, hb⟩
                refine ⟨_, rfl, ?_⟩
                have n0_ := Aside0.mk (Kd.R_below HO_9.out hb)
                have n1_ := Aside0.mk (blk_below BK204.out hb)
                have n2_ := Aside0.mk (blk_below BK205.out hb)
                have n3_ := Aside0.mk (blk_below BK208.out hb)
                have n4_ := Aside0.mk (below_step HB.out hb)
                clear HO_9
                clear BK204
                clear BK205
                clear BK208
                clear HB
                have HO_9 := n0_
                have BK204 := n1_
                have BK205 := n2_
                have BK208 := n3_
                have HB := n4_
                clear n0_ n1_ n2_ n3_ n4_
                (try clear hb)
                (try clear hb2)
                (try clear hk)
                (try clear hi)
                refine hK.out _ _ ⟨(blk_cell BK204.out 0).trans rfl, (blk_cell BK204.out 1).trans rfl, (blk_cell BK208.out 0).trans rfl, (blk_cell BK208.out 1).trans rfl, (blk_cell BK208.out 2).trans rfl, (blk_cell BK205.out 0).trans rfl, (blk_cell BK205.out 1).trans rfl, ((HB.out.cell (World.block_lt_of_cell? w _ hw216_0)).trans hw216_0), ((HB.out.cell (World.block_lt_of_cell? w _ hw216_1)).trans hw216_1)⟩ (fun hHeld => ?_)
                clear hK K
                refine norm_ (a' := ?_) ?_ ?_
                rotate_left
                · show Act.put _ (some 58) _ = _
                  simp only [zs]
                  rfl
                refine zp 27 (zb 29 268435455) ?_ rfl rfl HT_ (by kernel_rfl) (fun _ _ _ h => h) rfl ?_ ?_ ?_ ?_; rotate_left; (intro w'; go_simp; with_reducible rfl); rotate_left; (simp only [zs]; rfl)
                refine zp 28 (zb 29 536870911) ?_ rfl rfl HT_ (by kernel_rfl) (fun _ _ _ h => h) rfl ?_ ?_ ?_ ?_; rotate_left; (intro w'; go_simp; with_reducible rfl); rotate_left; (simp only [zs]; rfl)
                refine done_ (done_of HT_.out (by kernel_rfl)) ?_
                try go_wp2
                go_meet
                case rel => exact ⟨_, (!t217), (by first | rfl ), H', ⟨by have := HK1.out; first | omega | exact Nat.le_refl _⟩, ⟨by exact HO_9.out⟩, ⟨by exact BK204.out⟩, ⟨by exact BK205.out⟩, ⟨by exact BK208.out⟩, ⟨by exact HB.out⟩⟩
              · rw [if_neg c40] at H
                exact absurd H (by simp)
           case rest =>
            clear HC26
            try clear c2
            try clear p2
            try clear q2
            try clear hx2
            try clear c3
            try clear c4
            try clear c20
            try clear c21
            try clear p21
            try clear q21
            try clear hx21
            try clear c30
            try clear c30b0
            try clear c32
            try clear c33
            try clear c34
            try clear c40
            try clear c40b0
            try clear hx212_0
            try clear hx212_1
            try clear hx213_0
            try clear hx213_1
            try clear hx214_0
            try clear hx214_1
            try clear hx216_0
            try clear hx216_1
            try clear p212
            try clear p213
            try clear p214
            try clear p216
            try clear q212
            try clear q213
            try clear q214
            try clear q216
            obtain ⟨kq, x60_25, rfl, HA, HJ25, HO_9, BK204, BK205, BK208, HB⟩ := hcut
            cases kq with
            | zero => exact absurd HA.out (by simp [ecdysisref20_Tree.j1])
            | succ kj25 =>
              have H := HA.out
              clear HA
              simp only [ecdysisref20_Tree.j1] at H
              by_cases c44 : x60_25 = true
              · subst c44
                have H1 : (some false) = some r := by rw [if_pos rfl] at H; exact H
                clear H
                have H := H1
                clear H1
                obtain rfl := Option.some.inj H
                go_wp2
                go_ret
                exact ⟨by first | rfl , by exact HB.out⟩
              · replace c44 := Bool.eq_false_iff.mpr c44
                subst c44
                have H1 : (if 0 ≤ x10_1 then (if x10_1 < (l2_0.length : Int) then ((ecdysisref16_Number.f kj25 ((rd_T52 l0_1 t206).f0) ((rd_T52 l0_1 t206).f1) ((rd_T52 l0_1 t206).f2) ((rd_T43 l2_0 x10_1).f0)).bind fun t219 => (if 0 ≤ t219 then (if t219 < (((rd_T52 l0_1 t206).f1).length : Int) then (ecdysisref20_Tree.l1 kj25 x9_1 x10_1 ((rd_T36 ((rd_T52 l0_1 t206).f1) t219).f6) 0 l0_0 l0_1 l2_0 l2_1 ((rd_T52 l0_1 t206).f0) ((rd_T52 l0_1 t206).f1) ((rd_T52 l0_1 t206).f2)) else (none)) else (none))) else (none)) else (none)) = some r := by rw [if_neg (show ¬ (false = true) by decide)] at H; exact H
                clear H
                have H := H1
                clear H1
                by_cases c45 : 0 ≤ x10_1
                · rw [if_pos c45] at H
                  have c45b0 : decide (0 ≤ x10_1) = true := decide_eq_true c45
                  clear c45
                  by_cases c46 : x10_1 < (l2_0.length : Int)
                  · rw [if_pos c46] at H
                    have c46b0 : decide (x10_1 < (l2_0.length : Int)) = true := decide_eq_true c46
                    clear c46
                    replace H := Option.bind_eq_some_iff.mp H
                    obtain ⟨t219, A470, H⟩ := H
                    replace H : (if 0 ≤ t219 then (if t219 < (((rd_T52 l0_1 t206).f1).length : Int) then (ecdysisref20_Tree.l1 kj25 x9_1 x10_1 ((rd_T36 ((rd_T52 l0_1 t206).f1) t219).f6) 0 l0_0 l0_1 l2_0 l2_1 ((rd_T52 l0_1 t206).f0) ((rd_T52 l0_1 t206).f1) ((rd_T52 l0_1 t206).f2)) else (none)) else (none)) = some r := H
                    have A47 := Aside0.mk A470
                    clear A470
                    by_cases c48 : 0 ≤ t219
                    · rw [if_pos c48] at H
                      have c48b0 : decide (0 ≤ t219) = true := decide_eq_true c48
                      clear c48
                      by_cases c49 : t219 < (((rd_T52 l0_1 t206).f1).length : Int)
                      · rw [if_pos c49] at H
                        have c49b0 : decide (t219 < (((rd_T52 l0_1 t206).f1).length : Int)) = true := decide_eq_true c49
                        clear c49
                        have H' := Aside0.mk H
                        clear H
                        try go_wp2
                        have n0_ := Aside0.mk (Kd.R_drew HO_9.out)
                        have n1_ := Aside0.mk (blk_drew BK204.out)
                        have n2_ := Aside0.mk (blk_drew BK205.out)
                        have n3_ := Aside0.mk (blk_drew BK208.out)
                        have n4_ := Aside0.mk (below_drew1 HB.out)
                        clear HO_9
                        clear BK204
                        clear BK205
                        clear BK208
                        clear HB
                        have HO_9 := n0_
                        have BK204 := n1_
                        have BK205 := n2_
                        have BK208 := n3_
                        have HB := n4_
                        clear n0_ n1_ n2_ n3_ n4_
                        have p218 : 0 ≤ (x10_1 : Int) := of_decide_eq_true (by first | (with_reducible assumption) )
                        have q218 : x10_1 < (l2_0.length : Int) := of_decide_eq_true (by first | (with_reducible assumption) )
                        obtain ⟨ad218, A218_1, c218_1, e218, hx218_0, hx218_1, hl218_1, hi218_1⟩ := at_T43 HR2_0.out x10_1 p218 q218
                        have hw218_1 := hx218_1
                        have hw218_0 := hx218_0
                        cases e218
                        replace hx218_0 := (HB.out.cell (World.block_lt_of_cell? w _ hx218_0)).trans hx218_0
                        replace hx218_1 := (HB.out.cell (World.block_lt_of_cell? w _ hx218_1)).trans hx218_1
                        have HR218_1 := Aside0.mk hi218_1
                        have HC218_1 := Aside0.mk hl218_1
                        clear hi218_1 hl218_1
                        replace p218 := eq_true p218
                        replace q218 := eq_true q218
                        have p220 : 0 ≤ (t219 : Int) := of_decide_eq_true (by first | (with_reducible assumption) )
                        have q220 : t219 < (((rd_T52 l0_1 t206).f1).length : Int) := of_decide_eq_true (by first | (with_reducible assumption) )
                        obtain ⟨ad220, e220, hx220_0, hx220_1, hx220_2, hx220_3, hx220_4, hx220_5, hx220_6⟩ := at_T36 HR207_1.out t219 p220 q220
                        have hw220_6 := hx220_6
                        have hw220_5 := hx220_5
                        have hw220_4 := hx220_4
                        have hw220_3 := hx220_3
                        have hw220_2 := hx220_2
                        have hw220_1 := hx220_1
                        have hw220_0 := hx220_0
                        cases e220
                        replace hx220_0 := (HB.out.cell (World.block_lt_of_cell? w _ hx220_0)).trans hx220_0
                        replace hx220_1 := (HB.out.cell (World.block_lt_of_cell? w _ hx220_1)).trans hx220_1
                        replace hx220_2 := (HB.out.cell (World.block_lt_of_cell? w _ hx220_2)).trans hx220_2
                        replace hx220_3 := (HB.out.cell (World.block_lt_of_cell? w _ hx220_3)).trans hx220_3
                        replace hx220_4 := (HB.out.cell (World.block_lt_of_cell? w _ hx220_4)).trans hx220_4
                        replace hx220_5 := (HB.out.cell (World.block_lt_of_cell? w _ hx220_5)).trans hx220_5
                        replace hx220_6 := (HB.out.cell (World.block_lt_of_cell? w _ hx220_6)).trans hx220_6
                        replace p220 := eq_true p220
                        replace q220 := eq_true q220
                        refine start_ (n := 14) (S := fun w' => w'.cell? ⟨gb208, 0, none⟩ = some (.string ((rd_T52 l0_1 t206).f0)) ∧ w'.cell? ⟨gb208, 1, none⟩ = some (.slice (some ad220) ((rd_T52 l0_1 t206).f1).length c207_1) ∧ w'.cell? ⟨gb208, 2, none⟩ = some (.slice A207_2 ((rd_T52 l0_1 t206).f2).length c207_2) ∧ w'.cell? ⟨gb205, 0, none⟩ = some (.slice (some ad218) l2_0.length c2_0) ∧ w'.cell? ⟨gb205, 1, none⟩ = some (.slice A2_1 l2_1.length c2_1) ∧ w'.cell? (ad218.add ((x10_1).toNat * 2)) = some (.int .i64 ((rd_T43 l2_0 x10_1).f0)) ∧ w'.cell? ⟨(ad218.add ((x10_1).toNat * 2)).block, (ad218.add ((x10_1).toNat * 2)).off + 1, none⟩ = some (.slice A218_1 ((rd_T43 l2_0 x10_1).f1).length c218_1) ∧ w'.cell? (ad220.add ((t219).toNat * 7)) = some (.string ((rd_T36 ((rd_T52 l0_1 t206).f1) t219).f0)) ∧ w'.cell? ⟨(ad220.add ((t219).toNat * 7)).block, (ad220.add ((t219).toNat * 7)).off + 1, none⟩ = some (.int .i64 ((rd_T36 ((rd_T52 l0_1 t206).f1) t219).f1)) ∧ w'.cell? ⟨(ad220.add ((t219).toNat * 7)).block, (ad220.add ((t219).toNat * 7)).off + 2, none⟩ = some (.int .i64 ((rd_T36 ((rd_T52 l0_1 t206).f1) t219).f2)) ∧ w'.cell? ⟨(ad220.add ((t219).toNat * 7)).block, (ad220.add ((t219).toNat * 7)).off + 3, none⟩ = some (.string ((rd_T36 ((rd_T52 l0_1 t206).f1) t219).f3)) ∧ w'.cell? ⟨(ad220.add ((t219).toNat * 7)).block, (ad220.add ((t219).toNat * 7)).off + 4, none⟩ = some (.bool ((rd_T36 ((rd_T52 l0_1 t206).f1) t219).f4)) ∧ w'.cell? ⟨(ad220.add ((t219).toNat * 7)).block, (ad220.add ((t219).toNat * 7)).off + 5, none⟩ = some (.bool ((rd_T36 ((rd_T52 l0_1 t206).f1) t219).f5)) ∧ w'.cell? ⟨(ad220.add ((t219).toNat * 7)).block, (ad220.add ((t219).toNat * 7)).off + 6, none⟩ = some (.string ((rd_T36 ((rd_T52 l0_1 t206).f1) t219).f6))) (ds := []) #[false, false, false, false, false, false, false, false, false, false, false, false, false, false] (by kernel_rfl) rfl rfl ⟨(blk_cell BK208.out 0).trans rfl, (blk_cell BK208.out 1).trans rfl, (blk_cell BK208.out 2).trans rfl, (blk_cell BK205.out 0).trans rfl, (blk_cell BK205.out 1).trans rfl, ((HB.out.cell (World.block_lt_of_cell? w _ hw218_0)).trans hw218_0), ((HB.out.cell (World.block_lt_of_cell? w _ hw218_1)).trans hw218_1), ((HB.out.cell (World.block_lt_of_cell? w _ hw220_0)).trans hw220_0), ((HB.out.cell (World.block_lt_of_cell? w _ hw220_1)).trans hw220_1), ((HB.out.cell (World.block_lt_of_cell? w _ hw220_2)).trans hw220_2), ((HB.out.cell (World.block_lt_of_cell? w _ hw220_3)).trans hw220_3), ((HB.out.cell (World.block_lt_of_cell? w _ hw220_4)).trans hw220_4), ((HB.out.cell (World.block_lt_of_cell? w _ hw220_5)).trans hw220_5), ((HB.out.cell (World.block_lt_of_cell? w _ hw220_6)).trans hw220_6)⟩ (fun hHeld => ?_); refine with_tabW ecdysisref20_Tree.tab11 ecdysisref20_Tree.bits11 (fun HT_ HW_ => ?_)
                        generalize wc.drew = w50 at HO_9 BK204 BK205 BK208 HB HR218_1 hx218_0 hx218_1 hx220_0 hx220_1 hx220_2 hx220_3 hx220_4 hx220_5 hx220_6 hHeld ⊢
                        refine zp 0 (zb 14 1) ?_ rfl rfl HT_ (by kernel_rfl) (fun _ _ _ h => h) rfl ?_ ?_ ?_ ?_; rotate_left; (intro w'; go_simp; with_reducible rfl); rotate_left; (simp only [zs]; rfl)
                        refine zp 3 (zb 14 9) ?_ rfl rfl HT_ (by kernel_rfl) (fun _ _ _ h => h) rfl ?_ ?_ ?_ ?_; rotate_left; (intro w'; go_simp; with_reducible rfl); rotate_left; (simp only [zs]; rfl)
                        refine zp 5 (zb 14 41) ?_ rfl rfl HT_ (by kernel_rfl) (fun _ _ _ h => h) rfl ?_ ?_ ?_ ?_; rotate_left; (intro w'; go_simp; with_reducible rfl); rotate_left; (simp only [zs]; rfl)
                        refine zt 1 (zb 14 43) ?_ rfl rfl HT_ HW_ (by kernel_rfl) (fun _ _ _ h => h) rfl ?_ hHeld ?_ ?_ ?_; rotate_left; (rintro w' ⟨s0, s1, s2, s3, s4, s5, s6, s7, s8, s9, s10, s11, s12, s13⟩; go_simp; with_reducible rfl); rotate_left; (simp only [zs]; rfl)
                        refine zt 2 (zb 14 47) ?_ rfl rfl HT_ HW_ (by kernel_rfl) (fun _ _ _ h => h) rfl ?_ hHeld ?_ ?_ ?_; rotate_left; (rintro w' ⟨s0, s1, s2, s3, s4, s5, s6, s7, s8, s9, s10, s11, s12, s13⟩; go_simp; with_reducible rfl); rotate_left; (simp only [zs]; rfl)
                        refine zt 4 (zb 14 63) ?_ rfl rfl HT_ HW_ (by kernel_rfl) (fun _ _ _ h => h) rfl ?_ hHeld ?_ ?_ ?_; rotate_left; (rintro w' ⟨s0, s1, s2, s3, s4, s5, s6, s7, s8, s9, s10, s11, s12, s13⟩; go_simp; with_reducible rfl); rotate_left; (simp only [zs]; rfl)
                        refine zp 6 (zb 14 127) ?_ rfl rfl HT_ (by kernel_rfl) (fun _ _ _ h => h) rfl ?_ ?_ ?_ ?_; rotate_left; (intro w'; go_simp; with_reducible rfl); rotate_left; (simp only [zs]; rfl)
                        refine zp 7 (zb 14 255) ?_ rfl rfl HT_ (by kernel_rfl) (fun _ _ _ h => h) rfl ?_ ?_ ?_ ?_; rotate_left; (intro w'; go_simp; with_reducible rfl); rotate_left; (simp only [zs]; rfl)
                        refine zt 8 (zb 14 511) ?_ rfl rfl HT_ HW_ (by kernel_rfl) (fun _ _ _ h => h) rfl ?_ hHeld ?_ ?_ ?_; rotate_left; (rintro w' ⟨s0, s1, s2, s3, s4, s5, s6, s7, s8, s9, s10, s11, s12, s13⟩; go_simp; with_reducible rfl); rotate_left; (simp only [zs]; rfl)
                        refine one_ (i := 9) (N := some 70) #[true, true, true, true, true, true, true, true, true, true, false, false, false, false] rfl rfl (one_of HT_.out (by kernel_rfl)) (by decide) (fun K hK => ?_)
                        refine goes_ Tryd.func21 (by kernel_rfl) rfl #[.agg #[.string ((rd_T52 l0_1 t206).f0), .slice (some ad220) ((rd_T52 l0_1 t206).f1).length c207_1, .slice A207_2 ((rd_T52 l0_1 t206).f2).length c207_2], .int .i64 ((rd_T43 l2_0 x10_1).f0)] (by rfl) rfl rfl (by (try simp only [List.map_toArray, List.map_cons, List.map_nil]); first | done | rfl | (simp only [List.length_drop, List.length_take]; rfl)) ?_
                        with_reducible refine (ecdysisref16_Number.calls kj25 ((rd_T52 l0_1 t206).f0) _ _ ((rd_T52 l0_1 t206).f1) _ _ ((rd_T52 l0_1 t206).f2) ((rd_T43 l2_0 x10_1).f0) t219 _ ?side1 ?side2 ?side3 ?side4 A47.out).mono ?_
                        (case side1 => repeat (first | exact (Kd.C_below HR207_1.out HB.out) ))
                        (case side2 => exact HC207_1.out)
                        (case side3 => repeat (first | exact (Kd.C_below HR207_2.out HB.out) ))
                        (case side4 => exact HC207_2.out)
                        rintro e w51 ⟨rfl, hb⟩
                        refine ⟨_, rfl, ?_⟩
                        have n0_ := Aside0.mk (Kd.R_below HO_9.out hb)
                        have n1_ := Aside0.mk (blk_below BK204.out hb)
                        have n2_ := Aside0.mk (blk_below BK205.out hb)
                        have n3_ := Aside0.mk (blk_below BK208.out hb)
                        have n4_ := Aside0.mk (below_step HB.out hb)
                        clear HO_9
                        clear BK204
                        clear BK205
                        clear BK208
                        clear HB
                        have HO_9 := n0_
                        have BK204 := n1_
                        have BK205 := n2_
                        have BK208 := n3_
                        have HB := n4_
                        clear n0_ n1_ n2_ n3_ n4_
                        (try clear hb)
                        (try clear hb2)
                        (try clear hk)
                        (try clear hi)
                        refine hK.out _ _ ⟨(blk_cell BK208.out 0).trans rfl, (blk_cell BK208.out 1).trans rfl, (blk_cell BK208.out 2).trans rfl, (blk_cell BK205.out 0).trans rfl, (blk_cell BK205.out 1).trans rfl, ((HB.out.cell (World.block_lt_of_cell? w _ hw218_0)).trans hw218_0), ((HB.out.cell (World.block_lt_of_cell? w _ hw218_1)).trans hw218_1), ((HB.out.cell (World.block_lt_of_cell? w _ hw220_0)).trans hw220_0), ((HB.out.cell (World.block_lt_of_cell? w _ hw220_1)).trans hw220_1), ((HB.out.cell (World.block_lt_of_cell? w _ hw220_2)).trans hw220_2), ((HB.out.cell (World.block_lt_of_cell? w _ hw220_3)).trans hw220_3), ((HB.out.cell (World.block_lt_of_cell? w _ hw220_4)).trans hw220_4), ((HB.out.cell (World.block_lt_of_cell? w _ hw220_5)).trans hw220_5), ((HB.out.cell (World.block_lt_of_cell? w _ hw220_6)).trans hw220_6)⟩ (fun hHeld => ?_)
                        clear hK K
                        refine norm_ (a' := ?_) ?_ ?_
                        rotate_left
                        · show Act.put _ (some 70) _ = _
                          simp only [zs]
                          rfl
                        refine zp 10 (zb 14 2047) ?_ rfl rfl HT_ (by kernel_rfl) (fun _ _ _ h => h) rfl ?_ ?_ ?_ ?_; rotate_left; (intro w'; go_simp; with_reducible rfl); rotate_left; (simp only [zs]; rfl)
                        refine zp 11 (zb 14 4095) ?_ rfl rfl HT_ (by kernel_rfl) (fun _ _ _ h => h) rfl ?_ ?_ ?_ ?_; rotate_left; (intro w'; go_simp; with_reducible rfl); rotate_left; (simp only [zs]; rfl)
                        refine zt 12 (zb 14 8191) ?_ rfl rfl HT_ HW_ (by kernel_rfl) (fun _ _ _ h => h) rfl ?_ hHeld ?_ ?_ ?_; rotate_left; (rintro w' ⟨s0, s1, s2, s3, s4, s5, s6, s7, s8, s9, s10, s11, s12, s13⟩; go_simp; with_reducible rfl); rotate_left; (simp only [zs]; rfl)
                        refine zp 13 (zb 14 16383) ?_ rfl rfl HT_ (by kernel_rfl) (fun _ _ _ h => h) rfl ?_ ?_ ?_ ?_; rotate_left; (intro w'; go_simp; with_reducible rfl); rotate_left; (simp only [zs]; rfl)
                        refine done_ (done_of HT_.out (by kernel_rfl)) ?_
                        try go_wp2
                        go_loopg [12] kj25 (fun kq v12 w' => ∃ (x12_3 : Int), v12 = .int .i64 x12_3 ∧ Aside0 (ecdysisref20_Tree.l1 kq x9_1 x10_1 ((rd_T36 ((rd_T52 l0_1 t206).f1) t219).f6) x12_3 l0_0 l0_1 l2_0 l2_1 ((rd_T52 l0_1 t206).f0) ((rd_T52 l0_1 t206).f1) ((rd_T52 l0_1 t206).f2) = some r) ∧ Aside0 (kq ≤ kj25) ∧ Aside0 (Kd.R Kd.string 9 w' w.heap.size (fun _ => True) u9 x9_1) ∧ Aside0 (w'.heap[gb204]? = some (.cells #[(.slice A0_0 l0_0.length c0_0), (.slice (some ad207) l0_1.length c0_1)] 25 (0, 0))) ∧ Aside0 (w'.heap[gb205]? = some (.cells #[(.slice (some ad218) l2_0.length c2_0), (.slice A2_1 l2_1.length c2_1)] 29 (0, 0))) ∧ Aside0 (w'.heap[gb208]? = some (.cells #[.string ((rd_T52 l0_1 t206).f0), (.slice (some ad220) ((rd_T52 l0_1 t206).f1).length c207_1), (.slice A207_2 ((rd_T52 l0_1 t206).f2).length c207_2)] 52 (0, 0))) ∧ Aside0 (Below w.heap.size w w'))
                        case atStart => exact ⟨(0), (by first | rfl ), H', ⟨Nat.le_refl _⟩, ⟨by exact HO_9.out⟩, ⟨by exact BK204.out⟩, ⟨by exact BK205.out⟩, ⟨by exact BK208.out⟩, ⟨by exact HB.out⟩⟩
                        case round =>
                          clear H'
                          try clear c2
                          try clear p2
                          try clear q2
                          try clear hx2
                          try clear c3
                          try clear c4
                          try clear c20
                          try clear c21
                          try clear p21
                          try clear q21
                          try clear hx21
                          try clear p22
                          try clear q22
                          try clear hx22
                          try clear c30
                          try clear c30b0
                          try clear c32
                          try clear c33
                          try clear c34
                          try clear c40
                          try clear c40b0
                          try clear c44
                          try clear c45
                          try clear c45b0
                          try clear c46
                          try clear c46b0
                          try clear c48
                          try clear c48b0
                          try clear c49
                          try clear c49b0
                          try clear hx212_0
                          try clear hx212_1
                          try clear hx213_0
                          try clear hx213_1
                          try clear hx214_0
                          try clear hx214_1
                          try clear hx216_0
                          try clear hx216_1
                          try clear hx218_0
                          try clear hx218_1
                          try clear hx220_0
                          try clear hx220_1
                          try clear hx220_2
                          try clear hx220_3
                          try clear hx220_4
                          try clear hx220_5
                          try clear hx220_6
                          try clear p2
                          try clear p21
                          try clear p212
                          try clear p213
                          try clear p214
                          try clear p216
                          try clear p218
                          try clear p220
                          try clear q2
                          try clear q21
                          try clear q212
                          try clear q213
                          try clear q214
                          try clear q216
                          try clear q218
                          try clear q220
                          obtain ⟨x12_3, rfl, HA, HK3, HO_9, BK204, BK205, BK208, HB⟩ := hrel
                          cases gk with
                          | zero => exact absurd HA.out (by simp [ecdysisref20_Tree.l1])
                          | succ k3 =>
                           have H := HA.out
                           clear HA
                           simp only [ecdysisref20_Tree.l1] at H
                           by_cases c52 : x12_3 < (x9_1.length : Int)
                           · rw [if_pos c52] at H
                             have c52b0 : decide (x12_3 < (x9_1.length : Int)) = true := decide_eq_true c52
                             clear c52
                             by_cases c53 : ((rd_T36 ((rd_T52 l0_1 t206).f1) t219).f6).toList = ([] : List UInt8)
                             · rw [if_pos c53] at H
                               have c53b0 : (((rd_T36 ((rd_T52 l0_1 t206).f1) t219).f6).toList == ([] : List UInt8)) = true := beq_iff_eq.mpr c53
                               have c53b1 : (((rd_T36 ((rd_T52 l0_1 t206).f1) t219).f6).toList != ([] : List UInt8)) = false := bne_eq_false_iff_eq.mpr c53
                               clear c53
                               have H' := Aside0.mk H
                               clear H
                               obtain ⟨Ao54, co54, eo54⟩ := Kd.R_slice HO_9.out
                               subst eo54
                               go_wp2
                               go_roundg k3
                               case measure => have := HK1.out; have := HJ25.out; have := HK3.out; omega
                               case rel => exact ⟨(wrap64 (x12_3 + 1)), (by first | rfl ), H', ⟨by have := HK1.out; have := HJ25.out; have := HK3.out; omega⟩, ⟨by exact HO_9.out⟩, ⟨by exact BK204.out⟩, ⟨by exact BK205.out⟩, ⟨by exact BK208.out⟩, ⟨by exact HB.out⟩⟩
                             · rw [if_neg c53] at H
                               have c53b0 : (((rd_T36 ((rd_T52 l0_1 t206).f1) t219).f6).toList == ([] : List UInt8)) = false := beq_eq_false_iff_ne.mpr c53
                               have c53b1 : (((rd_T36 ((rd_T52 l0_1 t206).f1) t219).f6).toList != ([] : List UInt8)) = true := bne_iff_ne.mpr c53
                               by_cases c55 : 0 ≤ x12_3
                               · rw [if_pos c55] at H
                                 have c55b0 : decide (0 ≤ x12_3) = true := decide_eq_true c55
                                 clear c55
                                 by_cases c56 : (rdOf ByteArray.empty x9_1 x12_3).toList = ((rd_T36 ((rd_T52 l0_1 t206).f1) t219).f6).toList
                                 · rw [if_pos c56] at H
                                   have c56b0 : ((rdOf ByteArray.empty x9_1 x12_3).toList == ((rd_T36 ((rd_T52 l0_1 t206).f1) t219).f6).toList) = true := beq_iff_eq.mpr c56
                                   have c56b1 : ((rdOf ByteArray.empty x9_1 x12_3).toList != ((rd_T36 ((rd_T52 l0_1 t206).f1) t219).f6).toList) = false := bne_eq_false_iff_eq.mpr c56
                                   clear c56
                                   obtain rfl := Option.some.inj H
                                   obtain ⟨Ao57, co57, eo57⟩ := Kd.R_slice HO_9.out
                                   subst eo57
                                   have p221 : 0 ≤ (x12_3 : Int) := of_decide_eq_true (by first | (with_reducible assumption) )
                                   have q221 : x12_3 < (x9_1.length : Int) := of_decide_eq_true (by first | (with_reducible assumption) )
                                   obtain ⟨ad221, e221, hx221_0⟩ := Kd.at_string (Kd.R_reads' HO_9.out).2.2 x12_3 p221 q221
                                   cases e221
                                   replace p221 := eq_true p221
                                   replace q221 := eq_true q221
                                   go_wp2
                                   go_ret
                                   exact ⟨by first | rfl , by exact HB.out⟩
                                 · rw [if_neg c56] at H
                                   have c56b0 : ((rdOf ByteArray.empty x9_1 x12_3).toList == ((rd_T36 ((rd_T52 l0_1 t206).f1) t219).f6).toList) = false := beq_eq_false_iff_ne.mpr c56
                                   have c56b1 : ((rdOf ByteArray.empty x9_1 x12_3).toList != ((rd_T36 ((rd_T52 l0_1 t206).f1) t219).f6).toList) = true := bne_iff_ne.mpr c56
                                   have H' := Aside0.mk H
                                   clear H
                                   obtain ⟨Ao58, co58, eo58⟩ := Kd.R_slice HO_9.out
                                   subst eo58
                                   have p221 : 0 ≤ (x12_3 : Int) := of_decide_eq_true (by first | (with_reducible assumption) )
                                   have q221 : x12_3 < (x9_1.length : Int) := of_decide_eq_true (by first | (with_reducible assumption) )
                                   obtain ⟨ad221, e221, hx221_0⟩ := Kd.at_string (Kd.R_reads' HO_9.out).2.2 x12_3 p221 q221
                                   cases e221
                                   replace p221 := eq_true p221
                                   replace q221 := eq_true q221
                                   go_wp2
                                   go_roundg k3
                                   case measure => have := HK1.out; have := HJ25.out; have := HK3.out; omega
                                   case rel => exact ⟨(wrap64 (x12_3 + 1)), (by first | rfl ), H', ⟨by have := HK1.out; have := HJ25.out; have := HK3.out; omega⟩, ⟨by exact HO_9.out⟩, ⟨by exact BK204.out⟩, ⟨by exact BK205.out⟩, ⟨by exact BK208.out⟩, ⟨by exact HB.out⟩⟩
                               · rw [if_neg c55] at H
                                 exact absurd H (by simp)
                           · rw [if_neg c52] at H
                             have c52b0 : decide (x12_3 < (x9_1.length : Int)) = false := decide_eq_false c52
                             clear c52
                             by_cases c59 : x9_1.length < 8796093022208
                             · rw [if_pos c59] at H
                               have LMc59 := Aside0.mk c59
                               clear c59
                               obtain ⟨y222, hy222⟩ : ∃ y_ : List ByteArray, y_ = (x9_1 ++ [((rd_T36 ((rd_T52 l0_1 t206).f1) t219).f6)]) := ⟨_, rfl⟩
                               replace H : (ecdysisref20_Tree.l0 k3 y222 (wrap64 (x10_1 + 1)) l0_0 l0_1 l2_0 l2_1 ((rd_T52 l0_1 t206).f0) ((rd_T52 l0_1 t206).f1) ((rd_T52 l0_1 t206).f2)) = some r := by first | (rw [hy222]; with_reducible exact H) 
                               have Ny222 := Aside0.mk hy222
                               clear hy222
                               have H' := Aside0.mk H
                               clear H
                               obtain ⟨Ao60, co60, eo60⟩ := Kd.R_slice HO_9.out
                               subst eo60
                               go_wp2_with (first | ((with_reducible refine gate_builtin (b := .append) (xs := #[.tmp 90, .tmp 92]) rfl ?_); at_builtin; refine Kd.R_append Kd.string (w0 := w) w.heap.size rfl (.tmp 90) (.tmp 92) 58 9 (.string ⟨#[]⟩) 16 rfl Tryd.underlying58 info9 rfl (by decide) (by omega) (.slice Ao60 x9_1.length co60) x9_1 ((rd_T36 ((rd_T52 l0_1 t206).f1) t219).f6) [.string ((rd_T36 ((rd_T52 l0_1 t206).f1) t219).f6)] (fun _ => True) (fun _ => False) rfl rfl ?aP (fun _ hk => hk.elim) ?aF ?aO ?aB ?aS ?aL ?_; (case aP => exact rfl); (case aB => exact HB.out); (case aF => exact (fun _ _ => trivial)); (case aO => exact HO_9.out); (case aS => exact (below_size HB.out)); (case aL => have := LMc59.out; omega); intro v223 w61 ho hb hg hat; rw [← Ny222.out] at ho; have n0_ := Aside0.mk (blk_grown (g := gb204) (o := .cells #[.slice A0_0 l0_0.length c0_0, .slice (some ad207) l0_1.length c0_1] 25 (0, 0)) BK204.out hg (Kd.R_ne HO_9.out BK204.out (by decide))); have n1_ := Aside0.mk (blk_grown (g := gb205) (o := .cells #[.slice (some ad218) l2_0.length c2_0, .slice A2_1 l2_1.length c2_1] 29 (0, 0)) BK205.out hg (Kd.R_ne HO_9.out BK205.out (by decide))); have n2_ := Aside0.mk (blk_grown (g := gb208) (o := .cells #[.string ((rd_T52 l0_1 t206).f0), .slice (some ad220) ((rd_T52 l0_1 t206).f1).length c207_1, .slice A207_2 ((rd_T52 l0_1 t206).f2).length c207_2] 52 (0, 0)) BK208.out hg (Kd.R_ne HO_9.out BK208.out (by decide))); have n3_ := Aside0.mk (hb); have n4_ := Aside0.mk (ho); clear BK204; clear BK205; clear BK208; clear HB; clear HO_9; have BK204 := n0_; have BK205 := n1_; have BK208 := n2_; have HB := n3_; have HO224 := n4_; clear n0_ n1_ n2_ n3_ n4_; clear ho hb hg hat))
                               go_roundg k3
                               case measure => have := HK1.out; have := HJ25.out; have := HK3.out; omega
                               case rel => exact ⟨(y222), (wrap64 (x10_1 + 1)), (by first | rfl ), H', ⟨by have := HK1.out; have := HJ25.out; have := HK3.out; omega⟩, ⟨by exact HO224.out⟩, ⟨by exact BK204.out⟩, ⟨by exact BK205.out⟩, ⟨by exact BK208.out⟩, ⟨by exact HB.out⟩⟩
                             · rw [if_neg c59] at H
                               exact absurd H (by simp)
                      · rw [if_neg c49] at H
                        exact absurd H (by simp)
                    · rw [if_neg c48] at H
                      exact absurd H (by simp)
                  · rw [if_neg c46] at H
                    exact absurd H (by simp)
                · rw [if_neg c45] at H
                  exact absurd H (by simp)
         · rw [if_neg c25] at H
           have c25b0 : decide (x10_1 < (l2_0.length : Int)) = false := decide_eq_false c25
           clear c25
           have H' := Aside0.mk H
           clear H
           have hnb62 := NB205_204.out
           have hnc62 := NB204_205.out
           have hnb63 := NB205_208.out
           have hnc63 := NB208_205.out
           have hcz64_0 : wr.cell? ⟨gb205, 0, none⟩ = some (.slice A2_0 l2_0.length c2_0) := (blk_cell BK205.out 0).trans rfl
           have hcz64_1 : wr.cell? ⟨gb205, 1, none⟩ = some (.slice A2_1 l2_1.length c2_1) := (blk_cell BK205.out 1).trans rfl
           have hfz64_0 := blk_frozen BK205.out 0
           have hfz64_1 := blk_frozen BK205.out 1
           go_wp2
           go_loopg [13] k1 (fun kq v13 w' => ∃ (x13_2 : Int), v13 = .int .i64 x13_2 ∧ Aside0 (ecdysisref20_Tree.l2 kq x13_2 l2_0 l2_1 ((rd_T52 l0_1 t206).f0) ((rd_T52 l0_1 t206).f1) ((rd_T52 l0_1 t206).f2) = some r) ∧ Aside0 (kq ≤ k1) ∧ Aside0 (w'.heap[gb204]? = some (.cells #[(.slice A0_0 l0_0.length c0_0), (.slice (some ad207) l0_1.length c0_1)] 25 (0, 0))) ∧ Aside0 (w'.heap[gb205]? = some (.cells #[(.slice A2_0 l2_0.length c2_0), (.slice A2_1 l2_1.length c2_1)] 29 (0, 0))) ∧ Aside0 (w'.heap[gb208]? = some (.cells #[.string ((rd_T52 l0_1 t206).f0), (.slice A207_1 ((rd_T52 l0_1 t206).f1).length c207_1), (.slice A207_2 ((rd_T52 l0_1 t206).f2).length c207_2)] 52 (0, 0))) ∧ Aside0 (Below w.heap.size w w'))
           case atStart => exact ⟨(0), (by first | rfl ), H', ⟨Nat.le_refl _⟩, ⟨by exact BK204.out⟩, ⟨by exact BK205.out⟩, ⟨by exact BK208.out⟩, ⟨by exact HB.out⟩⟩
           case round =>
            clear H'
            try clear c2
            try clear p2
            try clear q2
            try clear hx2
            try clear c3
            try clear c4
            try clear c5
            try clear c6
            try clear p6
            try clear c20
            try clear c21
            try clear p21
            try clear q21
            try clear hx21
            try clear p22
            try clear q22
            try clear hx22
            try clear c25
            try clear c25b0
            try clear c30
            try clear c30b0
            try clear c32
            try clear c33
            try clear c34
            try clear c40
            try clear c40b0
            try clear c44
            try clear c45
            try clear c45b0
            try clear c46
            try clear c46b0
            try clear c48
            try clear c48b0
            try clear c49
            try clear c49b0
            try clear c52
            try clear c52b0
            try clear c53
            try clear c53b0
            try clear c53b1
            try clear c55
            try clear c55b0
            try clear c56
            try clear c56b0
            try clear c56b1
            try clear c59
            try clear c62
            try clear c63
            try clear p64
            try clear hcz64_0
            try clear hcz64_1
            try clear hfz64_0
            try clear hfz64_1
            try clear hx212_0
            try clear hx212_1
            try clear hx213_0
            try clear hx213_1
            try clear hx214_0
            try clear hx214_1
            try clear hx216_0
            try clear hx216_1
            try clear hx218_0
            try clear hx218_1
            try clear hx220_0
            try clear hx220_1
            try clear hx220_2
            try clear hx220_3
            try clear hx220_4
            try clear hx220_5
            try clear hx220_6
            try clear hx221_0
            try clear p2
            try clear p21
            try clear p212
            try clear p213
            try clear p214
            try clear p216
            try clear p218
            try clear p22
            try clear p220
            try clear p221
            try clear q2
            try clear q21
            try clear q212
            try clear q213
            try clear q214
            try clear q216
            try clear q218
            try clear q22
            try clear q220
            try clear q221
            obtain ⟨x13_2, rfl, HA, HK2, BK204, BK205, BK208, HB⟩ := hrel
            cases gk with
            | zero => exact absurd HA.out (by simp [ecdysisref20_Tree.l2])
            | succ k2 =>
              have H := HA.out
              clear HA
              simp only [ecdysisref20_Tree.l2] at H
              by_cases c65 : x13_2 < (l2_1.length : Int)
              · rw [if_pos c65] at H
                have c65b0 : decide (x13_2 < (l2_1.length : Int)) = true := decide_eq_true c65
                clear c65
                by_cases c66 : 0 ≤ x13_2
                · rw [if_pos c66] at H
                  have c66b0 : decide (0 ≤ x13_2) = true := decide_eq_true c66
                  clear c66
                  replace H := Option.bind_eq_some_iff.mp H
                  obtain ⟨t226, A670, H⟩ := H
                  replace H : (if t226 = true then ((ecdysisref16_Number.f k2 ((rd_T52 l0_1 t206).f0) ((rd_T52 l0_1 t206).f1) ((rd_T52 l0_1 t206).f2) ((rd_T63 l2_1 x13_2).f0)).bind fun t228 => (if t228 ≥ 0 then (some false) else (ecdysisref20_Tree.l2 k2 (wrap64 (x13_2 + 1)) l2_0 l2_1 ((rd_T52 l0_1 t206).f0) ((rd_T52 l0_1 t206).f1) ((rd_T52 l0_1 t206).f2)))) else (some false)) = some r := H
                  have A67 := Aside0.mk A670
                  clear A670
                  by_cases c68 : t226 = true
                  · subst c68
                    have H1 : ((ecdysisref16_Number.f k2 ((rd_T52 l0_1 t206).f0) ((rd_T52 l0_1 t206).f1) ((rd_T52 l0_1 t206).f2) ((rd_T63 l2_1 x13_2).f0)).bind fun t228 => (if t228 ≥ 0 then (some false) else (ecdysisref20_Tree.l2 k2 (wrap64 (x13_2 + 1)) l2_0 l2_1 ((rd_T52 l0_1 t206).f0) ((rd_T52 l0_1 t206).f1) ((rd_T52 l0_1 t206).f2)))) = some r := by rw [if_pos rfl] at H; exact H
                    clear H
                    have H := H1
                    clear H1
                    replace H := Option.bind_eq_some_iff.mp H
                    obtain ⟨t228, A690, H⟩ := H
                    replace H : (if t228 ≥ 0 then (some false) else (ecdysisref20_Tree.l2 k2 (wrap64 (x13_2 + 1)) l2_0 l2_1 ((rd_T52 l0_1 t206).f0) ((rd_T52 l0_1 t206).f1) ((rd_T52 l0_1 t206).f2))) = some r := H
                    have A69 := Aside0.mk A690
                    clear A690
                    by_cases c70 : t228 ≥ 0
                    · rw [if_pos c70] at H
                      have c70b0 : decide (0 ≤ t228) = true := decide_eq_true c70
                      clear c70
                      obtain rfl := Option.some.inj H
                      have hnb71 := NB205_204.out
                      have hnc71 := NB204_205.out
                      have hnb72 := NB205_208.out
                      have hnc72 := NB208_205.out
                      have hcz73_0 : wr.cell? ⟨gb205, 0, none⟩ = some (.slice A2_0 l2_0.length c2_0) := (blk_cell BK205.out 0).trans rfl
                      have hcz73_1 : wr.cell? ⟨gb205, 1, none⟩ = some (.slice A2_1 l2_1.length c2_1) := (blk_cell BK205.out 1).trans rfl
                      have hfz73_0 := blk_frozen BK205.out 0
                      have hfz73_1 := blk_frozen BK205.out 1
                      try go_wp2
                      have n0_ := Aside0.mk (blk_drew BK204.out)
                      have n1_ := Aside0.mk (blk_drew BK205.out)
                      have n2_ := Aside0.mk (blk_drew BK208.out)
                      have n3_ := Aside0.mk (below_drew1 HB.out)
                      clear BK204
                      clear BK205
                      clear BK208
                      clear HB
                      have BK204 := n0_
                      have BK205 := n1_
                      have BK208 := n2_
                      have HB := n3_
                      clear n0_ n1_ n2_ n3_
                      have p225 : 0 ≤ (x13_2 : Int) := of_decide_eq_true (by first | (with_reducible assumption) )
                      have q225 : x13_2 < (l2_1.length : Int) := of_decide_eq_true (by first | (with_reducible assumption) )
                      obtain ⟨ad225, e225, hx225_0, hx225_1, hx225_2, hx225_3⟩ := at_T63 HR2_1.out x13_2 p225 q225
                      have hw225_3 := hx225_3
                      have hw225_2 := hx225_2
                      have hw225_1 := hx225_1
                      have hw225_0 := hx225_0
                      cases e225
                      replace hx225_0 := (HB.out.cell (World.block_lt_of_cell? w _ hx225_0)).trans hx225_0
                      replace hx225_1 := (HB.out.cell (World.block_lt_of_cell? w _ hx225_1)).trans hx225_1
                      replace hx225_2 := (HB.out.cell (World.block_lt_of_cell? w _ hx225_2)).trans hx225_2
                      replace hx225_3 := (HB.out.cell (World.block_lt_of_cell? w _ hx225_3)).trans hx225_3
                      replace p225 := eq_true p225
                      replace q225 := eq_true q225
                      have p227 : 0 ≤ (x13_2 : Int) := of_decide_eq_true (by first | (with_reducible assumption) )
                      have q227 : x13_2 < (l2_1.length : Int) := of_decide_eq_true (by first | (with_reducible assumption) )
                      obtain ⟨ad227, e227, hx227_0, hx227_1, hx227_2, hx227_3⟩ := at_T63 HR2_1.out x13_2 p227 q227
                      have hw227_3 := hx227_3
                      have hw227_2 := hx227_2
                      have hw227_1 := hx227_1
                      have hw227_0 := hx227_0
                      obtain rfl : ad225 = ad227 := (by injection e227)
                      replace hx227_0 := (HB.out.cell (World.block_lt_of_cell? w _ hx227_0)).trans hx227_0
                      replace hx227_1 := (HB.out.cell (World.block_lt_of_cell? w _ hx227_1)).trans hx227_1
                      replace hx227_2 := (HB.out.cell (World.block_lt_of_cell? w _ hx227_2)).trans hx227_2
                      replace hx227_3 := (HB.out.cell (World.block_lt_of_cell? w _ hx227_3)).trans hx227_3
                      replace p227 := eq_true p227
                      replace q227 := eq_true q227
                      refine start_ (n := 18) (S := fun w' => w'.cell? ⟨gb205, 0, none⟩ = some (.slice A2_0 l2_0.length c2_0) ∧ w'.cell? ⟨gb205, 1, none⟩ = some (.slice (some ad225) l2_1.length c2_1) ∧ w'.cell? ⟨gb208, 0, none⟩ = some (.string ((rd_T52 l0_1 t206).f0)) ∧ w'.cell? ⟨gb208, 1, none⟩ = some (.slice A207_1 ((rd_T52 l0_1 t206).f1).length c207_1) ∧ w'.cell? ⟨gb208, 2, none⟩ = some (.slice A207_2 ((rd_T52 l0_1 t206).f2).length c207_2) ∧ w'.cell? (ad225.add ((x13_2).toNat * 4)) = some (.int .i64 ((rd_T63 l2_1 x13_2).f0)) ∧ w'.cell? ⟨(ad225.add ((x13_2).toNat * 4)).block, (ad225.add ((x13_2).toNat * 4)).off + 1, none⟩ = some (.int .i64 ((rd_T63 l2_1 x13_2).f1)) ∧ w'.cell? ⟨(ad225.add ((x13_2).toNat * 4)).block, (ad225.add ((x13_2).toNat * 4)).off + 2, none⟩ = some (.int .u64 ((rd_T63 l2_1 x13_2).f2)) ∧ w'.cell? ⟨(ad225.add ((x13_2).toNat * 4)).block, (ad225.add ((x13_2).toNat * 4)).off + 3, none⟩ = some (.string ((rd_T63 l2_1 x13_2).f3)) ∧ w'.cell? (ad225.add ((x13_2).toNat * 4)) = some (.int .i64 ((rd_T63 l2_1 x13_2).f0)) ∧ w'.cell? ⟨(ad225.add ((x13_2).toNat * 4)).block, (ad225.add ((x13_2).toNat * 4)).off + 1, none⟩ = some (.int .i64 ((rd_T63 l2_1 x13_2).f1)) ∧ w'.cell? ⟨(ad225.add ((x13_2).toNat * 4)).block, (ad225.add ((x13_2).toNat * 4)).off + 2, none⟩ = some (.int .u64 ((rd_T63 l2_1 x13_2).f2)) ∧ w'.cell? ⟨(ad225.add ((x13_2).toNat * 4)).block, (ad225.add ((x13_2).toNat * 4)).off + 3, none⟩ = some (.string ((rd_T63 l2_1 x13_2).f3))) (ds := []) #[false, false, false, false, false, false, false, false, false, false, false, false, false, false, false, false, false, false] (by kernel_rfl) rfl rfl ⟨(blk_cell BK205.out 0).trans rfl, (blk_cell BK205.out 1).trans rfl, (blk_cell BK208.out 0).trans rfl, (blk_cell BK208.out 1).trans rfl, (blk_cell BK208.out 2).trans rfl, ((HB.out.cell (World.block_lt_of_cell? w _ hw225_0)).trans hw225_0), ((HB.out.cell (World.block_lt_of_cell? w _ hw225_1)).trans hw225_1), ((HB.out.cell (World.block_lt_of_cell? w _ hw225_2)).trans hw225_2), ((HB.out.cell (World.block_lt_of_cell? w _ hw225_3)).trans hw225_3), ((HB.out.cell (World.block_lt_of_cell? w _ hw227_0)).trans hw227_0), ((HB.out.cell (World.block_lt_of_cell? w _ hw227_1)).trans hw227_1), ((HB.out.cell (World.block_lt_of_cell? w _ hw227_2)).trans hw227_2), ((HB.out.cell (World.block_lt_of_cell? w _ hw227_3)).trans hw227_3)⟩ (fun hHeld => ?_); refine with_tabW ecdysisref20_Tree.tab21 ecdysisref20_Tree.bits21 (fun HT_ HW_ => ?_)
                      generalize wr.drew = w74 at BK204 BK205 BK208 HB hx225_0 hx225_1 hx225_2 hx225_3 hx227_0 hx227_1 hx227_2 hx227_3 hHeld ⊢
                      refine zp 0 (zb 18 1) ?_ rfl rfl HT_ (by kernel_rfl) (fun _ _ _ h => h) rfl ?_ ?_ ?_ ?_; rotate_left; (intro w'; go_simp; with_reducible rfl); rotate_left; (simp only [zs]; rfl)
                      refine zp 2 (zb 18 5) ?_ rfl rfl HT_ (by kernel_rfl) (fun _ _ _ h => h) rfl ?_ ?_ ?_ ?_; rotate_left; (intro w'; go_simp; with_reducible rfl); rotate_left; (simp only [zs]; rfl)
                      refine zt 1 (zb 18 7) ?_ rfl rfl HT_ HW_ (by kernel_rfl) (fun _ _ _ h => h) rfl ?_ hHeld ?_ ?_ ?_; rotate_left; (rintro w' ⟨s0, s1, s2, s3, s4, s5, s6, s7, s8, s9, s10, s11, s12⟩; go_simp; with_reducible rfl); rotate_left; (simp only [zs]; rfl)
                      refine zp 3 (zb 18 15) ?_ rfl rfl HT_ (by kernel_rfl) (fun _ _ _ h => h) rfl ?_ ?_ ?_ ?_; rotate_left; (intro w'; go_simp; with_reducible rfl); rotate_left; (simp only [zs]; rfl)
                      refine zt 4 (zb 18 31) ?_ rfl rfl HT_ HW_ (by kernel_rfl) (fun _ _ _ h => h) rfl ?_ hHeld ?_ ?_ ?_; rotate_left; (rintro w' ⟨s0, s1, s2, s3, s4, s5, s6, s7, s8, s9, s10, s11, s12⟩; go_simp; with_reducible rfl); rotate_left; (simp only [zs]; rfl)
                      refine one_ (i := 5) (N := some 106) #[true, true, true, true, true, true, false, false, false, false, false, false, false, false, false, false, false, false] rfl rfl (one_of HT_.out (by kernel_rfl)) (by decide) (fun K hK => ?_)
                      refine goes_ Tryd.func22 (by kernel_rfl) rfl #[.agg #[.int .i64 ((rd_T63 l2_1 x13_2).f0), .int .i64 ((rd_T63 l2_1 x13_2).f1), .int .u64 ((rd_T63 l2_1 x13_2).f2), .string ((rd_T63 l2_1 x13_2).f3)]] (by rfl) rfl rfl (by (try simp only [List.map_toArray, List.map_cons, List.map_nil]); first | done | rfl | (simp only [List.length_drop, List.length_take]; rfl)) ?_
                      with_reducible refine (ecdysisref07_Right.calls ((rd_T63 l2_1 x13_2).f0) ((rd_T63 l2_1 x13_2).f1) ((rd_T63 l2_1 x13_2).f2) ((rd_T63 l2_1 x13_2).f3) true _ A67.out).mono ?_
                      rintro e w75 ⟨rfl, hb⟩
                      refine ⟨_, rfl, ?_⟩
                      have n0_ := Aside0.mk (blk_below BK204.out hb)
                      have n1_ := Aside0.mk (blk_below BK205.out hb)
                      have n2_ := Aside0.mk (blk_below BK208.out hb)
                      have n3_ := Aside0.mk (below_step HB.out hb)
                      clear BK204
                      clear BK205
                      clear BK208
                      clear HB
                      have BK204 := n0_
                      have BK205 := n1_
                      have BK208 := n2_
                      have HB := n3_
                      clear n0_ n1_ n2_ n3_
                      (try clear hb)
                      (try clear hb2)
                      (try clear hk)
                      (try clear hi)
                      refine hK.out _ _ ⟨(blk_cell BK205.out 0).trans rfl, (blk_cell BK205.out 1).trans rfl, (blk_cell BK208.out 0).trans rfl, (blk_cell BK208.out 1).trans rfl, (blk_cell BK208.out 2).trans rfl, ((HB.out.cell (World.block_lt_of_cell? w _ hw225_0)).trans hw225_0), ((HB.out.cell (World.block_lt_of_cell? w _ hw225_1)).trans hw225_1), ((HB.out.cell (World.block_lt_of_cell? w _ hw225_2)).trans hw225_2), ((HB.out.cell (World.block_lt_of_cell? w _ hw225_3)).trans hw225_3), ((HB.out.cell (World.block_lt_of_cell? w _ hw227_0)).trans hw227_0), ((HB.out.cell (World.block_lt_of_cell? w _ hw227_1)).trans hw227_1), ((HB.out.cell (World.block_lt_of_cell? w _ hw227_2)).trans hw227_2), ((HB.out.cell (World.block_lt_of_cell? w _ hw227_3)).trans hw227_3)⟩ (fun hHeld => ?_)
                      clear hK K
                      refine norm_ (a' := ?_) ?_ ?_
                      rotate_left
                      · show Act.put _ (some 106) _ = _
                        simp only [zs]
                        rfl
                      refine zp 6 (zb 18 127) ?_ rfl rfl HT_ (by kernel_rfl) (fun _ _ _ h => h) rfl ?_ ?_ ?_ ?_; rotate_left; (intro w'; go_simp; with_reducible rfl); rotate_left; (simp only [zs]; rfl)
                      refine zp 7 (zb 18 255) ?_ rfl rfl HT_ (by kernel_rfl) (fun _ _ _ h => h) rfl ?_ ?_ ?_ ?_; rotate_left; (intro w'; go_simp; with_reducible rfl); rotate_left; (simp only [zs]; rfl)
                      refine zp 9 (zb 18 767) ?_ rfl rfl HT_ (by kernel_rfl) (fun _ _ _ h => h) rfl ?_ ?_ ?_ ?_; rotate_left; (intro w'; go_simp; with_reducible rfl); rotate_left; (simp only [zs]; rfl)
                      refine zp 11 (zb 18 2815) ?_ rfl rfl HT_ (by kernel_rfl) (fun _ _ _ h => h) rfl ?_ ?_ ?_ ?_; rotate_left; (intro w'; go_simp; with_reducible rfl); rotate_left; (simp only [zs]; rfl)
                      refine zt 8 (zb 18 3071) ?_ rfl rfl HT_ HW_ (by kernel_rfl) (fun _ _ _ h => h) rfl ?_ hHeld ?_ ?_ ?_; rotate_left; (rintro w' ⟨s0, s1, s2, s3, s4, s5, s6, s7, s8, s9, s10, s11, s12⟩; go_simp; with_reducible rfl); rotate_left; (simp only [zs]; rfl)
                      refine zt 10 (zb 18 4095) ?_ rfl rfl HT_ HW_ (by kernel_rfl) (fun _ _ _ h => h) rfl ?_ hHeld ?_ ?_ ?_; rotate_left; (rintro w' ⟨s0, s1, s2, s3, s4, s5, s6, s7, s8, s9, s10, s11, s12⟩; go_simp; with_reducible rfl); rotate_left; (simp only [zs]; rfl)
                      refine zp 12 (zb 18 8191) ?_ rfl rfl HT_ (by kernel_rfl) (fun _ _ _ h => h) rfl ?_ ?_ ?_ ?_; rotate_left; (intro w'; go_simp; with_reducible rfl); rotate_left; (simp only [zs]; rfl)
                      refine zp 13 (zb 18 16383) ?_ rfl rfl HT_ (by kernel_rfl) (fun _ _ _ h => h) rfl ?_ ?_ ?_ ?_; rotate_left; (intro w'; go_simp; with_reducible rfl); rotate_left; (simp only [zs]; rfl)
                      refine zt 14 (zb 18 32767) ?_ rfl rfl HT_ HW_ (by kernel_rfl) (fun _ _ _ h => h) rfl ?_ hHeld ?_ ?_ ?_; rotate_left; (rintro w' ⟨s0, s1, s2, s3, s4, s5, s6, s7, s8, s9, s10, s11, s12⟩; go_simp; with_reducible rfl); rotate_left; (simp only [zs]; rfl)
                      refine one_ (i := 15) (N := some 116) #[true, true, true, true, true, true, true, true, true, true, true, true, true, true, true, true, false, false] rfl rfl (one_of HT_.out (by kernel_rfl)) (by decide) (fun K hK => ?_)
                      refine goes_ Tryd.func21 (by kernel_rfl) rfl #[.agg #[.string ((rd_T52 l0_1 t206).f0), .slice A207_1 ((rd_T52 l0_1 t206).f1).length c207_1, .slice A207_2 ((rd_T52 l0_1 t206).f2).length c207_2], .int .i64 ((rd_T63 l2_1 x13_2).f0)] (by rfl) rfl rfl (by (try simp only [List.map_toArray, List.map_cons, List.map_nil]); first | done | rfl | (simp only [List.length_drop, List.length_take]; rfl)) ?_
                      with_reducible refine (ecdysisref16_Number.calls k2 ((rd_T52 l0_1 t206).f0) _ _ ((rd_T52 l0_1 t206).f1) _ _ ((rd_T52 l0_1 t206).f2) ((rd_T63 l2_1 x13_2).f0) t228 _ ?side1 ?side2 ?side3 ?side4 A69.out).mono ?_
                      (case side1 => repeat (first | exact (Kd.C_below HR207_1.out HB.out) ))
                      (case side2 => exact HC207_1.out)
                      (case side3 => repeat (first | exact (Kd.C_below HR207_2.out HB.out) ))
                      (case side4 => exact HC207_2.out)
                      rintro e w76 ⟨rfl, hb⟩
                      refine ⟨_, rfl, ?_⟩
                      have n0_ := Aside0.mk (blk_below BK204.out hb)
                      have n1_ := Aside0.mk (blk_below BK205.out hb)
                      have n2_ := Aside0.mk (blk_below BK208.out hb)
                      have n3_ := Aside0.mk (below_step HB.out hb)
                      clear BK204
                      clear BK205
                      clear BK208
                      clear HB
                      have BK204 := n0_
                      have BK205 := n1_
                      have BK208 := n2_
                      have HB := n3_
                      clear n0_ n1_ n2_ n3_
                      (try clear hb)
                      (try clear hb2)
                      (try clear hk)
                      (try clear hi)
                      refine hK.out _ _ ⟨(blk_cell BK205.out 0).trans rfl, (blk_cell BK205.out 1).trans rfl, (blk_cell BK208.out 0).trans rfl, (blk_cell BK208.out 1).trans rfl, (blk_cell BK208.out 2).trans rfl, ((HB.out.cell (World.block_lt_of_cell? w _ hw225_0)).trans hw225_0), ((HB.out.cell (World.block_lt_of_cell? w _ hw225_1)).trans hw225_1), ((HB.out.cell (World.block_lt_of_cell? w _ hw225_2)).trans hw225_2), ((HB.out.cell (World.block_lt_of_cell? w _ hw225_3)).trans hw225_3), ((HB.out.cell (World.block_lt_of_cell? w _ hw227_0)).trans hw227_0), ((HB.out.cell (World.block_lt_of_cell? w _ hw227_1)).trans hw227_1), ((HB.out.cell (World.block_lt_of_cell? w _ hw227_2)).trans hw227_2), ((HB.out.cell (World.block_lt_of_cell? w _ hw227_3)).trans hw227_3)⟩ (fun hHeld => ?_)
                      clear hK K
                      refine norm_ (a' := ?_) ?_ ?_
                      rotate_left
                      · show Act.put _ (some 116) _ = _
                        simp only [zs]
                        rfl
                      refine zp 16 (zb 18 131071) ?_ rfl rfl HT_ (by kernel_rfl) (fun _ _ _ h => h) rfl ?_ ?_ ?_ ?_; rotate_left; (intro w'; go_simp; with_reducible rfl); rotate_left; (simp only [zs]; rfl)
                      refine zp 17 (zb 18 262143) ?_ rfl rfl HT_ (by kernel_rfl) (fun _ _ _ h => h) rfl ?_ ?_ ?_ ?_; rotate_left; (intro w'; go_simp; with_reducible rfl); rotate_left; (simp only [zs]; rfl)
                      refine done_ (done_of HT_.out (by kernel_rfl)) ?_
                      try go_wp2
                      go_ret
                      exact ⟨by first | rfl , by exact HB.out⟩
                    · rw [if_neg c70] at H
                      have c70b0 : decide (0 ≤ t228) = false := decide_eq_false c70
                      clear c70
                      have H' := Aside0.mk H
                      clear H
                      have hnb77 := NB205_204.out
                      have hnc77 := NB204_205.out
                      have hnb78 := NB205_208.out
                      have hnc78 := NB208_205.out
                      have hcz79_0 : wr.cell? ⟨gb205, 0, none⟩ = some (.slice A2_0 l2_0.length c2_0) := (blk_cell BK205.out 0).trans rfl
                      have hcz79_1 : wr.cell? ⟨gb205, 1, none⟩ = some (.slice A2_1 l2_1.length c2_1) := (blk_cell BK205.out 1).trans rfl
                      have hfz79_0 := blk_frozen BK205.out 0
                      have hfz79_1 := blk_frozen BK205.out 1
                      try go_wp2
                      have n0_ := Aside0.mk (blk_drew BK204.out)
                      have n1_ := Aside0.mk (blk_drew BK205.out)
                      have n2_ := Aside0.mk (blk_drew BK208.out)
                      have n3_ := Aside0.mk (below_drew1 HB.out)
                      clear BK204
                      clear BK205
                      clear BK208
                      clear HB
                      have BK204 := n0_
                      have BK205 := n1_
                      have BK208 := n2_
                      have HB := n3_
                      clear n0_ n1_ n2_ n3_
                      have p225 : 0 ≤ (x13_2 : Int) := of_decide_eq_true (by first | (with_reducible assumption) )
                      have q225 : x13_2 < (l2_1.length : Int) := of_decide_eq_true (by first | (with_reducible assumption) )
                      obtain ⟨ad225, e225, hx225_0, hx225_1, hx225_2, hx225_3⟩ := at_T63 HR2_1.out x13_2 p225 q225
                      have hw225_3 := hx225_3
                      have hw225_2 := hx225_2
                      have hw225_1 := hx225_1
                      have hw225_0 := hx225_0
                      cases e225
                      replace hx225_0 := (HB.out.cell (World.block_lt_of_cell? w _ hx225_0)).trans hx225_0
                      replace hx225_1 := (HB.out.cell (World.block_lt_of_cell? w _ hx225_1)).trans hx225_1
                      replace hx225_2 := (HB.out.cell (World.block_lt_of_cell? w _ hx225_2)).trans hx225_2
                      replace hx225_3 := (HB.out.cell (World.block_lt_of_cell? w _ hx225_3)).trans hx225_3
                      replace p225 := eq_true p225
                      replace q225 := eq_true q225
                      have p227 : 0 ≤ (x13_2 : Int) := of_decide_eq_true (by first | (with_reducible assumption) )
                      have q227 : x13_2 < (l2_1.length : Int) := of_decide_eq_true (by first | (with_reducible assumption) )
                      obtain ⟨ad227, e227, hx227_0, hx227_1, hx227_2, hx227_3⟩ := at_T63 HR2_1.out x13_2 p227 q227
                      have hw227_3 := hx227_3
                      have hw227_2 := hx227_2
                      have hw227_1 := hx227_1
                      have hw227_0 := hx227_0
                      obtain rfl : ad225 = ad227 := (by injection e227)
                      replace hx227_0 := (HB.out.cell (World.block_lt_of_cell? w _ hx227_0)).trans hx227_0
                      replace hx227_1 := (HB.out.cell (World.block_lt_of_cell? w _ hx227_1)).trans hx227_1
                      replace hx227_2 := (HB.out.cell (World.block_lt_of_cell? w _ hx227_2)).trans hx227_2
                      replace hx227_3 := (HB.out.cell (World.block_lt_of_cell? w _ hx227_3)).trans hx227_3
                      replace p227 := eq_true p227
                      replace q227 := eq_true q227
                      refine start_ (n := 18) (S := fun w' => w'.cell? ⟨gb205, 0, none⟩ = some (.slice A2_0 l2_0.length c2_0) ∧ w'.cell? ⟨gb205, 1, none⟩ = some (.slice (some ad225) l2_1.length c2_1) ∧ w'.cell? ⟨gb208, 0, none⟩ = some (.string ((rd_T52 l0_1 t206).f0)) ∧ w'.cell? ⟨gb208, 1, none⟩ = some (.slice A207_1 ((rd_T52 l0_1 t206).f1).length c207_1) ∧ w'.cell? ⟨gb208, 2, none⟩ = some (.slice A207_2 ((rd_T52 l0_1 t206).f2).length c207_2) ∧ w'.cell? (ad225.add ((x13_2).toNat * 4)) = some (.int .i64 ((rd_T63 l2_1 x13_2).f0)) ∧ w'.cell? ⟨(ad225.add ((x13_2).toNat * 4)).block, (ad225.add ((x13_2).toNat * 4)).off + 1, none⟩ = some (.int .i64 ((rd_T63 l2_1 x13_2).f1)) ∧ w'.cell? ⟨(ad225.add ((x13_2).toNat * 4)).block, (ad225.add ((x13_2).toNat * 4)).off + 2, none⟩ = some (.int .u64 ((rd_T63 l2_1 x13_2).f2)) ∧ w'.cell? ⟨(ad225.add ((x13_2).toNat * 4)).block, (ad225.add ((x13_2).toNat * 4)).off + 3, none⟩ = some (.string ((rd_T63 l2_1 x13_2).f3)) ∧ w'.cell? (ad225.add ((x13_2).toNat * 4)) = some (.int .i64 ((rd_T63 l2_1 x13_2).f0)) ∧ w'.cell? ⟨(ad225.add ((x13_2).toNat * 4)).block, (ad225.add ((x13_2).toNat * 4)).off + 1, none⟩ = some (.int .i64 ((rd_T63 l2_1 x13_2).f1)) ∧ w'.cell? ⟨(ad225.add ((x13_2).toNat * 4)).block, (ad225.add ((x13_2).toNat * 4)).off + 2, none⟩ = some (.int .u64 ((rd_T63 l2_1 x13_2).f2)) ∧ w'.cell? ⟨(ad225.add ((x13_2).toNat * 4)).block, (ad225.add ((x13_2).toNat * 4)).off + 3, none⟩ = some (.string ((rd_T63 l2_1 x13_2).f3))) (ds := []) #[false, false, false, false, false, false, false, false, false, false, false, false, false, false, false, false, false, false] (by kernel_rfl) rfl rfl ⟨(blk_cell BK205.out 0).trans rfl, (blk_cell BK205.out 1).trans rfl, (blk_cell BK208.out 0).trans rfl, (blk_cell BK208.out 1).trans rfl, (blk_cell BK208.out 2).trans rfl, ((HB.out.cell (World.block_lt_of_cell? w _ hw225_0)).trans hw225_0), ((HB.out.cell (World.block_lt_of_cell? w _ hw225_1)).trans hw225_1), ((HB.out.cell (World.block_lt_of_cell? w _ hw225_2)).trans hw225_2), ((HB.out.cell (World.block_lt_of_cell? w _ hw225_3)).trans hw225_3), ((HB.out.cell (World.block_lt_of_cell? w _ hw227_0)).trans hw227_0), ((HB.out.cell (World.block_lt_of_cell? w _ hw227_1)).trans hw227_1), ((HB.out.cell (World.block_lt_of_cell? w _ hw227_2)).trans hw227_2), ((HB.out.cell (World.block_lt_of_cell? w _ hw227_3)).trans hw227_3)⟩ (fun hHeld => ?_); refine with_tabW ecdysisref20_Tree.tab21 ecdysisref20_Tree.bits21 (fun HT_ HW_ => ?_)
                      generalize wr.drew = w80 at BK204 BK205 BK208 HB hx225_0 hx225_1 hx225_2 hx225_3 hx227_0 hx227_1 hx227_2 hx227_3 hHeld ⊢
                      refine zp 0 (zb 18 1) ?_ rfl rfl HT_ (by kernel_rfl) (fun _ _ _ h => h) rfl ?_ ?_ ?_ ?_; rotate_left; (intro w'; go_simp; with_reducible rfl); rotate_left; (simp only [zs]; rfl)
                      refine zp 2 (zb 18 5) ?_ rfl rfl HT_ (by kernel_rfl) (fun _ _ _ h => h) rfl ?_ ?_ ?_ ?_; rotate_left; (intro w'; go_simp; with_reducible rfl); rotate_left; (simp only [zs]; rfl)
                      refine zt 1 (zb 18 7) ?_ rfl rfl HT_ HW_ (by kernel_rfl) (fun _ _ _ h => h) rfl ?_ hHeld ?_ ?_ ?_; rotate_left; (rintro w' ⟨s0, s1, s2, s3, s4, s5, s6, s7, s8, s9, s10, s11, s12⟩; go_simp; with_reducible rfl); rotate_left; (simp only [zs]; rfl)
                      refine zp 3 (zb 18 15) ?_ rfl rfl HT_ (by kernel_rfl) (fun _ _ _ h => h) rfl ?_ ?_ ?_ ?_; rotate_left; (intro w'; go_simp; with_reducible rfl); rotate_left; (simp only [zs]; rfl)
                      refine zt 4 (zb 18 31) ?_ rfl rfl HT_ HW_ (by kernel_rfl) (fun _ _ _ h => h) rfl ?_ hHeld ?_ ?_ ?_; rotate_left; (rintro w' ⟨s0, s1, s2, s3, s4, s5, s6, s7, s8, s9, s10, s11, s12⟩; go_simp; with_reducible rfl); rotate_left; (simp only [zs]; rfl)
                      refine one_ (i := 5) (N := some 106) #[true, true, true, true, true, true, false, false, false, false, false, false, false, false, false, false, false, false] rfl rfl (one_of HT_.out (by kernel_rfl)) (by decide) (fun K hK => ?_)
                      refine goes_ Tryd.func22 (by kernel_rfl) rfl #[.agg #[.int .i64 ((rd_T63 l2_1 x13_2).f0), .int .i64 ((rd_T63 l2_1 x13_2).f1), .int .u64 ((rd_T63 l2_1 x13_2).f2), .string ((rd_T63 l2_1 x13_2).f3)]] (by rfl) rfl rfl (by (try simp only [List.map_toArray, List.map_cons, List.map_nil]); first | done | rfl | (simp only [List.length_drop, List.length_take]; rfl)) ?_
                      with_reducible refine (ecdysisref07_Right.calls ((rd_T63 l2_1 x13_2).f0) ((rd_T63 l2_1 x13_2).f1) ((rd_T63 l2_1 x13_2).f2) ((rd_T63 l2_1 x13_2).f3) true _ A67.out).mono ?_
                      rintro e w81 ⟨rfl, hb⟩
                      refine ⟨_, rfl, ?_⟩
                      have n0_ := Aside0.mk (blk_below BK204.out hb)
                      have n1_ := Aside0.mk (blk_below BK205.out hb)
                      have n2_ := Aside0.mk (blk_below BK208.out hb)
                      have n3_ := Aside0.mk (below_step HB.out hb)
                      clear BK204
                      clear BK205
                      clear BK208
                      clear HB
                      have BK204 := n0_
                      have BK205 := n1_
                      have BK208 := n2_
                      have HB := n3_
                      clear n0_ n1_ n2_ n3_
                      (try clear hb)
                      (try clear hb2)
                      (try clear hk)
                      (try clear hi)
                      refine hK.out _ _ ⟨(blk_cell BK205.out 0).trans rfl, (blk_cell BK205.out 1).trans rfl, (blk_cell BK208.out 0).trans rfl, (blk_cell BK208.out 1).trans rfl, (blk_cell BK208.out 2).trans rfl, ((HB.out.cell (World.block_lt_of_cell? w _ hw225_0)).trans hw225_0), ((HB.out.cell (World.block_lt_of_cell? w _ hw225_1)).trans hw225_1), ((HB.out.cell (World.block_lt_of_cell? w _ hw225_2)).trans hw225_2), ((HB.out.cell (World.block_lt_of_cell? w _ hw225_3)).trans hw225_3), ((HB.out.cell (World.block_lt_of_cell? w _ hw227_0)).trans hw227_0), ((HB.out.cell (World.block_lt_of_cell? w _ hw227_1)).trans hw227_1), ((HB.out.cell (World.block_lt_of_cell? w _ hw227_2)).trans hw227_2), ((HB.out.cell (World.block_lt_of_cell? w _ hw227_3)).trans hw227_3)⟩ (fun hHeld => ?_)
                      clear hK K
                      refine norm_ (a' := ?_) ?_ ?_
                      rotate_left
                      · show Act.put _ (some 106) _ = _
                        simp only [zs]
                        rfl
                      refine zp 6 (zb 18 127) ?_ rfl rfl HT_ (by kernel_rfl) (fun _ _ _ h => h) rfl ?_ ?_ ?_ ?_; rotate_left; (intro w'; go_simp; with_reducible rfl); rotate_left; (simp only [zs]; rfl)
                      refine zp 7 (zb 18 255) ?_ rfl rfl HT_ (by kernel_rfl) (fun _ _ _ h => h) rfl ?_ ?_ ?_ ?_; rotate_left; (intro w'; go_simp; with_reducible rfl); rotate_left; (simp only [zs]; rfl)
                      refine zp 9 (zb 18 767) ?_ rfl rfl HT_ (by kernel_rfl) (fun _ _ _ h => h) rfl ?_ ?_ ?_ ?_; rotate_left; (intro w'; go_simp; with_reducible rfl); rotate_left; (simp only [zs]; rfl)
                      refine zp 11 (zb 18 2815) ?_ rfl rfl HT_ (by kernel_rfl) (fun _ _ _ h => h) rfl ?_ ?_ ?_ ?_; rotate_left; (intro w'; go_simp; with_reducible rfl); rotate_left; (simp only [zs]; rfl)
                      refine zt 8 (zb 18 3071) ?_ rfl rfl HT_ HW_ (by kernel_rfl) (fun _ _ _ h => h) rfl ?_ hHeld ?_ ?_ ?_; rotate_left; (rintro w' ⟨s0, s1, s2, s3, s4, s5, s6, s7, s8, s9, s10, s11, s12⟩; go_simp; with_reducible rfl); rotate_left; (simp only [zs]; rfl)
                      refine zt 10 (zb 18 4095) ?_ rfl rfl HT_ HW_ (by kernel_rfl) (fun _ _ _ h => h) rfl ?_ hHeld ?_ ?_ ?_; rotate_left; (rintro w' ⟨s0, s1, s2, s3, s4, s5, s6, s7, s8, s9, s10, s11, s12⟩; go_simp; with_reducible rfl); rotate_left; (simp only [zs]; rfl)
                      refine zp 12 (zb 18 8191) ?_ rfl rfl HT_ (by kernel_rfl) (fun _ _ _ h => h) rfl ?_ ?_ ?_ ?_; rotate_left; (intro w'; go_simp; with_reducible rfl); rotate_left; (simp only [zs]; rfl)
                      refine zp 13 (zb 18 16383) ?_ rfl rfl HT_ (by kernel_rfl) (fun _ _ _ h => h) rfl ?_ ?_ ?_ ?_; rotate_left; (intro w'; go_simp; with_reducible rfl); rotate_left; (simp only [zs]; rfl)
                      refine zt 14 (zb 18 32767) ?_ rfl rfl HT_ HW_ (by kernel_rfl) (fun _ _ _ h => h) rfl ?_ hHeld ?_ ?_ ?_; rotate_left; (rintro w' ⟨s0, s1, s2, s3, s4, s5, s6, s7, s8, s9, s10, s11, s12⟩; go_simp; with_reducible rfl); rotate_left; (simp only [zs]; rfl)
                      refine one_ (i := 15) (N := some 116) #[true, true, true, true, true, true, true, true, true, true, true, true, true, true, true, true, false, false] rfl rfl (one_of HT_.out (by kernel_rfl)) (by decide) (fun K hK => ?_)
                      refine goes_ Tryd.func21 (by kernel_rfl) rfl #[.agg #[.string ((rd_T52 l0_1 t206).f0), .slice A207_1 ((rd_T52 l0_1 t206).f1).length c207_1, .slice A207_2 ((rd_T52 l0_1 t206).f2).length c207_2], .int .i64 ((rd_T63 l2_1 x13_2).f0)] (by rfl) rfl rfl (by (try simp only [List.map_toArray, List.map_cons, List.map_nil]); first | done | rfl | (simp only [List.length_drop, List.length_take]; rfl)) ?_
                      with_reducible refine (ecdysisref16_Number.calls k2 ((rd_T52 l0_1 t206).f0) _ _ ((rd_T52 l0_1 t206).f1) _ _ ((rd_T52 l0_1 t206).f2) ((rd_T63 l2_1 x13_2).f0) t228 _ ?side1 ?side2 ?side3 ?side4 A69.out).mono ?_
                      (case side1 => repeat (first | exact (Kd.C_below HR207_1.out HB.out) ))
                      (case side2 => exact HC207_1.out)
                      (case side3 => repeat (first | exact (Kd.C_below HR207_2.out HB.out) ))
                      (case side4 => exact HC207_2.out)
                      rintro e w82 ⟨rfl, hb⟩
                      refine ⟨_, rfl, ?_⟩
                      have n0_ := Aside0.mk (blk_below BK204.out hb)
                      have n1_ := Aside0.mk (blk_below BK205.out hb)
                      have n2_ := Aside0.mk (blk_below BK208.out hb)
                      have n3_ := Aside0.mk (below_step HB.out hb)
                      clear BK204
                      clear BK205
                      clear BK208
                      clear HB
                      have BK204 := n0_
                      have BK205 := n1_
                      have BK208 := n2_
                      have HB := n3_
                      clear n0_ n1_ n2_ n3_
                      (try clear hb)
                      (try clear hb2)
                      (try clear hk)
                      (try clear hi)
                      refine hK.out _ _ ⟨(blk_cell BK205.out 0).trans rfl, (blk_cell BK205.out 1).trans rfl, (blk_cell BK208.out 0).trans rfl, (blk_cell BK208.out 1).trans rfl, (blk_cell BK208.out 2).trans rfl, ((HB.out.cell (World.block_lt_of_cell? w _ hw225_0)).trans hw225_0), ((HB.out.cell (World.block_lt_of_cell? w _ hw225_1)).trans hw225_1), ((HB.out.cell (World.block_lt_of_cell? w _ hw225_2)).trans hw225_2), ((HB.out.cell (World.block_lt_of_cell? w _ hw225_3)).trans hw225_3), ((HB.out.cell (World.block_lt_of_cell? w _ hw227_0)).trans hw227_0), ((HB.out.cell (World.block_lt_of_cell? w _ hw227_1)).trans hw227_1), ((HB.out.cell (World.block_lt_of_cell? w _ hw227_2)).trans hw227_2), ((HB.out.cell (World.block_lt_of_cell? w _ hw227_3)).trans hw227_3)⟩ (fun hHeld => ?_)
                      clear hK K
                      refine norm_ (a' := ?_) ?_ ?_
                      rotate_left
                      · show Act.put _ (some 116) _ = _
                        simp only [zs]
                        rfl
                      refine zp 16 (zb 18 131071) ?_ rfl rfl HT_ (by kernel_rfl) (fun _ _ _ h => h) rfl ?_ ?_ ?_ ?_; rotate_left; (intro w'; go_simp; with_reducible rfl); rotate_left; (simp only [zs]; rfl)
                      refine zp 17 (zb 18 262143) ?_ rfl rfl HT_ (by kernel_rfl) (fun _ _ _ h => h) rfl ?_ ?_ ?_ ?_; rotate_left; (intro w'; go_simp; with_reducible rfl); rotate_left; (simp only [zs]; rfl)
                      refine done_ (done_of HT_.out (by kernel_rfl)) ?_
                      try go_wp2
                      go_roundg k2
                      case measure => have := HK1.out; have := HK2.out; omega
                      case rel => exact ⟨(wrap64 (x13_2 + 1)), (by first | rfl ), H', ⟨by have := HK1.out; have := HK2.out; omega⟩, ⟨by exact BK204.out⟩, ⟨by exact BK205.out⟩, ⟨by exact BK208.out⟩, ⟨by exact HB.out⟩⟩
                  · replace c68 := Bool.eq_false_iff.mpr c68
                    subst c68
                    have H1 : (some false) = some r := by rw [if_neg (show ¬ (false = true) by decide)] at H; exact H
                    clear H
                    have H := H1
                    clear H1
                    obtain rfl := Option.some.inj H
                    have hnb83 := NB205_204.out
                    have hnc83 := NB204_205.out
                    have hnb84 := NB205_208.out
                    have hnc84 := NB208_205.out
                    have hcz85_0 : wr.cell? ⟨gb205, 0, none⟩ = some (.slice A2_0 l2_0.length c2_0) := (blk_cell BK205.out 0).trans rfl
                    have hcz85_1 : wr.cell? ⟨gb205, 1, none⟩ = some (.slice A2_1 l2_1.length c2_1) := (blk_cell BK205.out 1).trans rfl
                    have hfz85_0 := blk_frozen BK205.out 0
                    have hfz85_1 := blk_frozen BK205.out 1
                    try go_wp2
                    have n0_ := Aside0.mk (blk_drew BK204.out)
                    have n1_ := Aside0.mk (blk_drew BK205.out)
                    have n2_ := Aside0.mk (blk_drew BK208.out)
                    have n3_ := Aside0.mk (below_drew1 HB.out)
                    clear BK204
                    clear BK205
                    clear BK208
                    clear HB
                    have BK204 := n0_
                    have BK205 := n1_
                    have BK208 := n2_
                    have HB := n3_
                    clear n0_ n1_ n2_ n3_
                    have p225 : 0 ≤ (x13_2 : Int) := of_decide_eq_true (by first | (with_reducible assumption) )
                    have q225 : x13_2 < (l2_1.length : Int) := of_decide_eq_true (by first | (with_reducible assumption) )
                    obtain ⟨ad225, e225, hx225_0, hx225_1, hx225_2, hx225_3⟩ := at_T63 HR2_1.out x13_2 p225 q225
                    have hw225_3 := hx225_3
                    have hw225_2 := hx225_2
                    have hw225_1 := hx225_1
                    have hw225_0 := hx225_0
                    cases e225
                    replace hx225_0 := (HB.out.cell (World.block_lt_of_cell? w _ hx225_0)).trans hx225_0
                    replace hx225_1 := (HB.out.cell (World.block_lt_of_cell? w _ hx225_1)).trans hx225_1
                    replace hx225_2 := (HB.out.cell (World.block_lt_of_cell? w _ hx225_2)).trans hx225_2
                    replace hx225_3 := (HB.out.cell (World.block_lt_of_cell? w _ hx225_3)).trans hx225_3
                    replace p225 := eq_true p225
                    replace q225 := eq_true q225
                    refine start_ (n := 18) (S := fun w' => w'.cell? ⟨gb205, 0, none⟩ = some (.slice A2_0 l2_0.length c2_0) ∧ w'.cell? ⟨gb205, 1, none⟩ = some (.slice (some ad225) l2_1.length c2_1) ∧ w'.cell? (ad225.add ((x13_2).toNat * 4)) = some (.int .i64 ((rd_T63 l2_1 x13_2).f0)) ∧ w'.cell? ⟨(ad225.add ((x13_2).toNat * 4)).block, (ad225.add ((x13_2).toNat * 4)).off + 1, none⟩ = some (.int .i64 ((rd_T63 l2_1 x13_2).f1)) ∧ w'.cell? ⟨(ad225.add ((x13_2).toNat * 4)).block, (ad225.add ((x13_2).toNat * 4)).off + 2, none⟩ = some (.int .u64 ((rd_T63 l2_1 x13_2).f2)) ∧ w'.cell? ⟨(ad225.add ((x13_2).toNat * 4)).block, (ad225.add ((x13_2).toNat * 4)).off + 3, none⟩ = some (.string ((rd_T63 l2_1 x13_2).f3))) (ds := []) #[false, false, false, false, false, false, false, false, false, false, false, false, false, false, false, false, false, false] (by kernel_rfl) rfl rfl ⟨(blk_cell BK205.out 0).trans rfl, (blk_cell BK205.out 1).trans rfl, ((HB.out.cell (World.block_lt_of_cell? w _ hw225_0)).trans hw225_0), ((HB.out.cell (World.block_lt_of_cell? w _ hw225_1)).trans hw225_1), ((HB.out.cell (World.block_lt_of_cell? w _ hw225_2)).trans hw225_2), ((HB.out.cell (World.block_lt_of_cell? w _ hw225_3)).trans hw225_3)⟩ (fun hHeld => ?_); refine with_tabW ecdysisref20_Tree.tab21 ecdysisref20_Tree.bits21 (fun HT_ HW_ => ?_)
                    generalize wr.drew = w86 at BK204 BK205 BK208 HB hx225_0 hx225_1 hx225_2 hx225_3 hHeld ⊢
                    refine zp 0 (zb 18 1) ?_ rfl rfl HT_ (by kernel_rfl) (fun _ _ _ h => h) rfl ?_ ?_ ?_ ?_; rotate_left; (intro w'; go_simp; with_reducible rfl); rotate_left; (simp only [zs]; rfl)
                    refine zp 2 (zb 18 5) ?_ rfl rfl HT_ (by kernel_rfl) (fun _ _ _ h => h) rfl ?_ ?_ ?_ ?_; rotate_left; (intro w'; go_simp; with_reducible rfl); rotate_left; (simp only [zs]; rfl)
                    refine zt 1 (zb 18 7) ?_ rfl rfl HT_ HW_ (by kernel_rfl) (fun _ _ _ h => h) rfl ?_ hHeld ?_ ?_ ?_; rotate_left; (rintro w' ⟨s0, s1, s2, s3, s4, s5⟩; go_simp; with_reducible rfl); rotate_left; (simp only [zs]; rfl)
                    refine zp 3 (zb 18 15) ?_ rfl rfl HT_ (by kernel_rfl) (fun _ _ _ h => h) rfl ?_ ?_ ?_ ?_; rotate_left; (intro w'; go_simp; with_reducible rfl); rotate_left; (simp only [zs]; rfl)
                    refine zt 4 (zb 18 31) ?_ rfl rfl HT_ HW_ (by kernel_rfl) (fun _ _ _ h => h) rfl ?_ hHeld ?_ ?_ ?_; rotate_left; (rintro w' ⟨s0, s1, s2, s3, s4, s5⟩; go_simp; with_reducible rfl); rotate_left; (simp only [zs]; rfl)
                    refine one_ (i := 5) (N := some 106) #[true, true, true, true, true, true, false, false, false, false, false, false, false, false, false, false, false, false] rfl rfl (one_of HT_.out (by kernel_rfl)) (by decide) (fun K hK => ?_)
                    refine goes_ Tryd.func22 (by kernel_rfl) rfl #[.agg #[.int .i64 ((rd_T63 l2_1 x13_2).f0), .int .i64 ((rd_T63 l2_1 x13_2).f1), .int .u64 ((rd_T63 l2_1 x13_2).f2), .string ((rd_T63 l2_1 x13_2).f3)]] (by rfl) rfl rfl (by (try simp only [List.map_toArray, List.map_cons, List.map_nil]); first | done | rfl | (simp only [List.length_drop, List.length_take]; rfl)) ?_
                    with_reducible refine (ecdysisref07_Right.calls ((rd_T63 l2_1 x13_2).f0) ((rd_T63 l2_1 x13_2).f1) ((rd_T63 l2_1 x13_2).f2) ((rd_T63 l2_1 x13_2).f3) false _ A67.out).mono ?_
                    rintro e w87 ⟨rfl, hb⟩
                    refine ⟨_, rfl, ?_⟩
                    have n0_ := Aside0.mk (blk_below BK204.out hb)
                    have n1_ := Aside0.mk (blk_below BK205.out hb)
                    have n2_ := Aside0.mk (blk_below BK208.out hb)
                    have n3_ := Aside0.mk (below_step HB.out hb)
                    clear BK204
                    clear BK205
                    clear BK208
                    clear HB
                    have BK204 := n0_
                    have BK205 := n1_
                    have BK208 := n2_
                    have HB := n3_
                    clear n0_ n1_ n2_ n3_
                    (try clear hb)
                    (try clear hb2)
                    (try clear hk)
                    (try clear hi)
                    refine hK.out _ _ ⟨(blk_cell BK205.out 0).trans rfl, (blk_cell BK205.out 1).trans rfl, ((HB.out.cell (World.block_lt_of_cell? w _ hw225_0)).trans hw225_0), ((HB.out.cell (World.block_lt_of_cell? w _ hw225_1)).trans hw225_1), ((HB.out.cell (World.block_lt_of_cell? w _ hw225_2)).trans hw225_2), ((HB.out.cell (World.block_lt_of_cell? w _ hw225_3)).trans hw225_3)⟩ (fun hHeld => ?_)
                    clear hK K
                    refine norm_ (a' := ?_) ?_ ?_
                    rotate_left
                    · show Act.put _ (some 106) _ = _
                      simp only [zs]
                      rfl
                    refine zp 6 (zb 18 127) ?_ rfl rfl HT_ (by kernel_rfl) (fun _ _ _ h => h) rfl ?_ ?_ ?_ ?_; rotate_left; (intro w'; go_simp; with_reducible rfl); rotate_left; (simp only [zs]; rfl)
                    refine zp 7 (zb 18 255) ?_ rfl rfl HT_ (by kernel_rfl) (fun _ _ _ h => h) rfl ?_ ?_ ?_ ?_; rotate_left; (intro w'; go_simp; with_reducible rfl); rotate_left; (simp only [zs]; rfl)
                    refine zn 8 (zb 18 511) rfl rfl HT_ (by kernel_rfl) (fun _ _ _ h => h) rfl ?_ ?_ ?_; rotate_left; (simp only [zs]; rfl)
                    refine zn 9 (zb 18 1023) rfl rfl HT_ (by kernel_rfl) (fun _ _ _ h => h) rfl ?_ ?_ ?_; rotate_left; (simp only [zs]; rfl)
                    refine zn 10 (zb 18 2047) rfl rfl HT_ (by kernel_rfl) (fun _ _ _ h => h) rfl ?_ ?_ ?_; rotate_left; (simp only [zs]; rfl)
                    refine zn 11 (zb 18 4095) rfl rfl HT_ (by kernel_rfl) (fun _ _ _ h => h) rfl ?_ ?_ ?_; rotate_left; (simp only [zs]; rfl)
                    refine zn 12 (zb 18 8191) rfl rfl HT_ (by kernel_rfl) (fun _ _ _ h => h) rfl ?_ ?_ ?_; rotate_left; (simp only [zs]; rfl)
                    refine zn 13 (zb 18 16383) rfl rfl HT_ (by kernel_rfl) (fun _ _ _ h => h) rfl ?_ ?_ ?_; rotate_left; (simp only [zs]; rfl)
                    refine zn 14 (zb 18 32767) rfl rfl HT_ (by kernel_rfl) (fun _ _ _ h => h) rfl ?_ ?_ ?_; rotate_left; (simp only [zs]; rfl)
                    refine zn 15 (zb 18 65535) rfl rfl HT_ (by kernel_rfl) (fun _ _ _ h => h) rfl ?_ ?_ ?_; rotate_left; (simp only [zs]; rfl)
                    refine zn 16 (zb 18 131071) rfl rfl HT_ (by kernel_rfl) (fun _ _ _ h => h) rfl ?_ ?_ ?_; rotate_left; (simp only [zs]; rfl)
                    refine zp 17 (zb 18 262143) ?_ rfl rfl HT_ (by kernel_rfl) (fun _ _ _ h => h) rfl ?_ ?_ ?_ ?_; rotate_left; (intro w'; go_simp; with_reducible rfl); rotate_left; (simp only [zs]; rfl)
                    refine done_ (done_of HT_.out (by kernel_rfl)) ?_
                    try go_wp2
                    go_ret
                    exact ⟨by first | rfl , by exact HB.out⟩
                · rw [if_neg c66] at H
                  exact absurd H (by simp)
              · rw [if_neg c65] at H
                have c65b0 : decide (x13_2 < (l2_1.length : Int)) = false := decide_eq_false c65
                clear c65
                obtain rfl := Option.some.inj H
                have hnb88 := NB205_204.out
                have hnc88 := NB204_205.out
                have hnb89 := NB205_208.out
                have hnc89 := NB208_205.out
                have hcz90_0 : wr.cell? ⟨gb205, 0, none⟩ = some (.slice A2_0 l2_0.length c2_0) := (blk_cell BK205.out 0).trans rfl
                have hcz90_1 : wr.cell? ⟨gb205, 1, none⟩ = some (.slice A2_1 l2_1.length c2_1) := (blk_cell BK205.out 1).trans rfl
                have hfz90_0 := blk_frozen BK205.out 0
                have hfz90_1 := blk_frozen BK205.out 1
                go_wp2
                go_ret
                exact ⟨by first | rfl , by exact HB.out⟩
     · rw [if_neg c12] at H
       exact absurd H (by simp)
   · rw [if_neg c11] at H
     exact absurd H (by simp)
end Go.Proofs.YtbpnfpckoapdbaaDoor.PV20
end

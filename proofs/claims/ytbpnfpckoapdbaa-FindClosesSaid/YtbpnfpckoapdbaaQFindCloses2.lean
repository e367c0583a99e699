/- The law that what is told is closed: for every schema it tells true; no conditions but those of the row. (text 3 of 7; some of it the words and functions that the kit's print and this claim's programs wrote) -/
import Derived.Test.YtbpnfpckoapdbaaQFindCloses1
section
namespace Go.Proofs.Ytbpnfpckoapdbaa.PF16
open Go.RowKit Go.Proofs.Ytbpnfpckoapdbaa.M Go.Proofs.Ytbpnfpckoapdbaa.KD Go.Proofs.Ytbpnfpckoapdbaa Go.Proofs.YtbpnfpckoapdbaaW.PrintWords Go.Proofs.YtbpnfpckoapdbaaW.PrintLast Go.Proofs.YtbpnfpckoapdbaaW.PrintMore
attribute [local go_sem] max2_int min2_int max_two min_two max_three min_three max_four min_four   -- for this text's walks alone
set_option linter.unusedVariables false
set_option linter.unusedSimpArgs false
mutual
def ecdysisref15_text.l0 : Nat → Bool → Int → List (S86) → List (S47) → Option (Bool)
 | 0, _, _, _, _ => none
 | k + 1, x3, x4, x251000, x251001 => if x4 < (x251000.length : Int) then (if x3 = true then (ecdysisref15_text.j1 k true x4 x251000 x251001) else (if 0 ≤ x4 then ((ecdysisref09_Right.f k ((rd_T86 x251000 x4).f0)).bind fun t252 => (ecdysisref15_text.j1 k (!t252) x4 x251000 x251001)) else (none))) else (ecdysisref15_text.l2 k x3 0 x251000 x251001)
def ecdysisref15_text.j1 : Nat → Bool → Int → List (S86) → List (S47) → Option (Bool)
 | 0, _, _, _, _ => none
 | k + 1, x3, x4, x251000, x251001 => ecdysisref15_text.l1 k x3 x4 0 x251000 x251001
def ecdysisref15_text.l1 : Nat → Bool → Int → Int → List (S86) → List (S47) → Option (Bool)
 | 0, _, _, _, _, _ => none
 | k + 1, x3, x4, x5, x251000, x251001 => if 0 ≤ x4 then (if x4 < (x251000.length : Int) then (if x5 < (((rd_T86 x251000 x4).f1).length : Int) then (if x3 = true then (ecdysisref15_text.l1 k true x4 (wrap64 (x5 + 1)) x251000 x251001) else (if 0 ≤ x5 then ((ecdysisref09_Right.f k ((rd_T88 ((rd_T86 x251000 x4).f1) x5).f0)).bind fun t256 => (ecdysisref15_text.l1 k (!t256) x4 (wrap64 (x5 + 1)) x251000 x251001)) else (none))) else (ecdysisref15_text.l0 k x3 (wrap64 (x4 + 1)) x251000 x251001)) else (none)) else (none)
def ecdysisref15_text.l2 : Nat → Bool → Int → List (S86) → List (S47) → Option (Bool)
 | 0, _, _, _, _ => none
 | k + 1, x3, x6, x251000, x251001 => if x6 < (x251001.length : Int) then (if x3 = true then (ecdysisref15_text.l2 k true (wrap64 (x6 + 1)) x251000 x251001) else (if 0 ≤ x6 then ((ecdysisref09_Right.f k ((rd_T47 x251001 x6).f0)).bind fun t258 => (ecdysisref15_text.l2 k (!t258) (wrap64 (x6 + 1)) x251000 x251001)) else (none))) else (some x3)
end
def ecdysisref15_text.f (k : Nat) (l0_0 : List (S86)) (l0_1 : List (S47)) : Option (Bool) := ecdysisref15_text.l0 k false 0 l0_0 l0_1
set_option maxHeartbeats 8000000 in
set_option maxRecDepth 100000 in
theorem ecdysisref15_text.calls (k : Nat) (A0_0 : Option Addr) (c0_0 : Nat) (l0_0 : List (S86)) (A0_1 : Option Addr) (c0_1 : Nat) (l0_1 : List (S47)) (r : Bool) (w : World) (hr0_0 : Kd.C k86 w A0_0 l0_0.length l0_0) (hc0_0 : l0_0.length ≤ c0_0) (hr0_1 : Kd.C k47 w A0_1 l0_1.length l0_1) (hc0_1 : l0_1.length ≤ c0_1) (h : ecdysisref15_text.f k l0_0 l0_1 = some r) :
  Calls Try.prog 65 #[.agg #[.slice A0_0 l0_0.length c0_0, .slice A0_1 l0_1.length c0_1]] w fun e w' => e = .returned (.bool r) ∧ Below w.heap.size w w' := by
 have hu35 := Try.underlying35
 have HR0_0 := Aside0.mk hr0_0
 have HC0_0 := Aside0.mk hc0_0
 clear hr0_0 hc0_0
 have HR0_1 := Aside0.mk hr0_1
 have HC0_1 := Aside0.mk hc0_1
 clear hr0_1 hc0_1
 have HB := Aside0.mk (Below.refl w.heap.size w)
 have H : (ecdysisref15_text.l0 k false 0 l0_0 l0_1) = some r := h
 clear h
 have H' := Aside0.mk H
 clear H
 go_enter Try.func65, Try.ntmps65
 go_wp2_with (first | ((with_reducible refine gate_dst (N := 1) rfl ?_); refine box_event ?hg (N := 1) ?hd (cs := #[.slice A0_0 l0_0.length c0_0, .slice A0_1 l0_1.length c0_1]) (t := 35) ?hr ?_; (case hd => rfl); (case hg => rfl); (case hr => first | (go_simp; done) | (go_simp; rfl)); intro gb250 hg w2 hbox hb; have n0_ := Aside0.mk (below_step HB.out hb); have n1_ := Aside0.mk (hbox); clear HB; have HB := n0_; have BK250 := n1_; clear n0_ n1_; clear hb hbox hg))
 go_loopg [3, 4] k (fun kq v3 v4 w' => ∃ (x3_1 : Bool) (x4_1 : Int), v3 = .bool x3_1 ∧ v4 = .int .i64 x4_1 ∧ Aside0 (ecdysisref15_text.l0 kq x3_1 x4_1 l0_0 l0_1 = some r) ∧ Aside0 (kq ≤ k) ∧ Aside0 (w'.heap[gb250]? = some (.cells #[(.slice A0_0 l0_0.length c0_0), (.slice A0_1 l0_1.length c0_1)] 35 (0, 0))) ∧ Aside0 (Below w.heap.size w w'))
 case atStart => exact ⟨(false), (0), (by first | rfl ), (by first | rfl ), H', ⟨Nat.le_refl _⟩, ⟨by exact BK250.out⟩, ⟨by exact HB.out⟩⟩
 case round =>
  clear H'
  try clear p2
  obtain ⟨x3_1, x4_1, rfl, rfl, HA, HK1, BK250, HB⟩ := hrel
  cases gk with
  | zero => exact absurd HA.out (by simp [ecdysisref15_text.l0])
  | succ k1 =>
   have H := HA.out
   clear HA
   simp only [ecdysisref15_text.l0] at H
   by_cases c3 : x4_1 < (l0_0.length : Int)
   · rw [if_pos c3] at H
     have c3b0 : decide (x4_1 < (l0_0.length : Int)) = true := decide_eq_true c3
     clear c3
     have HC4 := Aside0.mk H
     clear H
     have hcz5_0 : wr.cell? ⟨gb250, 0, none⟩ = some (.slice A0_0 l0_0.length c0_0) := (blk_cell BK250.out 0).trans rfl
     have hcz5_1 : wr.cell? ⟨gb250, 1, none⟩ = some (.slice A0_1 l0_1.length c0_1) := (blk_cell BK250.out 1).trans rfl
     have hfz5_0 := blk_frozen BK250.out 0
     have hfz5_1 := blk_frozen BK250.out 1
     go_upto_region 5 with (fail)
     go_cut [3] (fun v3 wc => ∃ (kq : Nat) (x3_3 : Bool), v3 = .bool x3_3 ∧ Aside0 (ecdysisref15_text.j1 kq x3_3 x4_1 l0_0 l0_1 = some r) ∧ Aside0 (kq ≤ k1) ∧ Aside0 (wc.heap[gb250]? = some (.cells #[(.slice A0_0 l0_0.length c0_0), (.slice A0_1 l0_1.length c0_1)] 35 (0, 0))) ∧ Aside0 (Below w.heap.size w wc))
     case first =>
      have H := HC4.out
      clear HC4
      by_cases c6 : x3_1 = true
      · subst c6
        have H1 : (ecdysisref15_text.j1 k1 true x4_1 l0_0 l0_1) = some r := by rw [if_pos rfl] at H; exact H
        clear H
        have H := H1
        clear H1
        have H' := Aside0.mk H
        clear H
        go_wp2
        go_meet
        case rel => exact ⟨_, (true), (by first | rfl ), H', ⟨by have := HK1.out; first | omega | exact Nat.le_refl _⟩, ⟨by exact BK250.out⟩, ⟨by exact HB.out⟩⟩
      · replace c6 := Bool.eq_false_iff.mpr c6
        subst c6
        have H1 : (if 0 ≤ x4_1 then ((ecdysisref09_Right.f k1 ((rd_T86 l0_0 x4_1).f0)).bind fun t252 => (ecdysisref15_text.j1 k1 (!t252) x4_1 l0_0 l0_1)) else (none)) = some r := by rw [if_neg (show ¬ (false = true) by decide)] at H; exact H
        clear H
        have H := H1
        clear H1
        by_cases c7 : 0 ≤ x4_1
        · rw [if_pos c7] at H
          have c7b0 : decide (0 ≤ x4_1) = true := decide_eq_true c7
          clear c7
          (first | skip)
          replace H := Option.bind_eq_some_iff.mp H
          obtain ⟨t252, A80, H⟩ := H
          replace H : (ecdysisref15_text.j1 k1 (!t252) x4_1 l0_0 l0_1) = some r := H
          have A8 := Aside0.mk A80
          clear A80
          have H' := Aside0.mk H
          clear H
          have hcz9_0 : wr.cell? ⟨gb250, 0, none⟩ = some (.slice A0_0 l0_0.length c0_0) := (blk_cell BK250.out 0).trans rfl
          have hcz9_1 : wr.cell? ⟨gb250, 1, none⟩ = some (.slice A0_1 l0_1.length c0_1) := (blk_cell BK250.out 1).trans rfl
          have hfz9_0 := blk_frozen BK250.out 0
          have hfz9_1 := blk_frozen BK250.out 1
          have p251 : 0 ≤ (x4_1 : Int) := of_decide_eq_true (by first | (with_reducible assumption) )
          have q251 : x4_1 < (l0_0.length : Int) := of_decide_eq_true (by first | (with_reducible assumption) )
          obtain ⟨ad251, A251_1, c251_1, e251, hx251_0, hx251_1, hl251_1, hi251_1⟩ := at_T86 HR0_0.out x4_1 p251 q251
          cases e251
          replace hx251_0 := (HB.out.cell (World.block_lt_of_cell? w _ hx251_0)).trans hx251_0
          replace hx251_1 := (HB.out.cell (World.block_lt_of_cell? w _ hx251_1)).trans hx251_1
          have HR251_1 := Aside0.mk hi251_1
          have HC251_1 := Aside0.mk hl251_1
          clear hi251_1 hl251_1
          replace p251 := eq_true p251
          replace q251 := eq_true q251
          go_wp2_with (first | (go_at_call 93; (with_reducible refine (ecdysisref09_Right.calls k1 ((rd_T86 l0_0 x4_1).f0) t252 _ A8.out).mono ?_); rintro e w10 ⟨rfl, hb⟩; have n0_ := Aside0.mk (blk_below BK250.out hb); have n1_ := Aside0.mk (below_step HB.out hb); clear BK250; clear HB; have BK250 := n0_; have HB := n1_; clear n0_ n1_; (try clear hb); (try clear hb2); (try clear hk); (try clear hi)))
          go_meet
          case rel => exact ⟨_, (!t252), (by first | rfl ), H', ⟨by have := HK1.out; first | omega | exact Nat.le_refl _⟩, ⟨by exact BK250.out⟩, ⟨by exact HB.out⟩⟩
        · rw [if_neg c7] at H
          exact absurd H (by simp)
     case rest =>
      clear HC4
      try clear c2
      try clear p2
      try clear q2
      try clear hx2
      try clear c3
      try clear c3b0
      try clear c6
      try clear c7
      try clear c7b0
      try clear hcz5_0
      try clear hcz5_1
      try clear hcz9_0
      try clear hcz9_1
      try clear hfz5_0
      try clear hfz5_1
      try clear hfz9_0
      try clear hfz9_1
      try clear hx251_0
      try clear hx251_1
      try clear p2
      try clear p251
      try clear q251
      obtain ⟨kq, x3_3, rfl, HA, HJ3, BK250, HB⟩ := hcut
      cases kq with
      | zero => exact absurd HA.out (by simp [ecdysisref15_text.j1])
      | succ kj3 =>
        have H := HA.out
        clear HA
        simp only [ecdysisref15_text.j1] at H
        have H' := Aside0.mk H
        clear H
        go_wp2
        go_loopg [3, 5] kj3 (fun kq v3 v5 w' => ∃ (x3_3 : Bool) (x5_3 : Int), v3 = .bool x3_3 ∧ v5 = .int .i64 x5_3 ∧ Aside0 (ecdysisref15_text.l1 kq x3_3 x4_1 x5_3 l0_0 l0_1 = some r) ∧ Aside0 (kq ≤ kj3) ∧ Aside0 (w'.heap[gb250]? = some (.cells #[(.slice A0_0 l0_0.length c0_0), (.slice A0_1 l0_1.length c0_1)] 35 (0, 0))) ∧ Aside0 (Below w.heap.size w w'))
        case atStart => exact ⟨(x3_3), (0), (by first | rfl ), (by first | rfl ), H', ⟨Nat.le_refl _⟩, ⟨by exact BK250.out⟩, ⟨by exact HB.out⟩⟩
        case round =>
          clear H'
          try clear c2
          try clear p2
          try clear q2
          try clear hx2
          try clear c3
          try clear c3b0
          try clear c6
          try clear c7
          try clear c7b0
          try clear hcz5_0
          try clear hcz5_1
          try clear hcz9_0
          try clear hcz9_1
          try clear hfz5_0
          try clear hfz5_1
          try clear hfz9_0
          try clear hfz9_1
          try clear hx251_0
          try clear hx251_1
          try clear p2
          try clear p251
          try clear q2
          try clear q251
          obtain ⟨x3_3, x5_3, rfl, rfl, HA, HK3, BK250, HB⟩ := hrel
          cases gk with
          | zero => exact absurd HA.out (by simp [ecdysisref15_text.l1])
          | succ k3 =>
            have H := HA.out
            clear HA
            simp only [ecdysisref15_text.l1] at H
            by_cases c11 : 0 ≤ x4_1
            · rw [if_pos c11] at H
              have c11b0 : decide (0 ≤ x4_1) = true := decide_eq_true c11
              clear c11
              by_cases c12 : x4_1 < (l0_0.length : Int)
              · rw [if_pos c12] at H
                have c12b0 : decide (x4_1 < (l0_0.length : Int)) = true := decide_eq_true c12
                clear c12
                by_cases c13 : x5_3 < (((rd_T86 l0_0 x4_1).f1).length : Int)
                · rw [if_pos c13] at H
                  have c13b0 : decide (x5_3 < (((rd_T86 l0_0 x4_1).f1).length : Int)) = true := decide_eq_true c13
                  clear c13
                  by_cases c14 : x3_3 = true
                  · subst c14
                    have H1 : (ecdysisref15_text.l1 k3 true x4_1 (wrap64 (x5_3 + 1)) l0_0 l0_1) = some r := by rw [if_pos rfl] at H; exact H
                    clear H
                    have H := H1
                    clear H1
                    have H' := Aside0.mk H
                    clear H
                    have hcz15_0 : wr.cell? ⟨gb250, 0, none⟩ = some (.slice A0_0 l0_0.length c0_0) := (blk_cell BK250.out 0).trans rfl
                    have hcz15_1 : wr.cell? ⟨gb250, 1, none⟩ = some (.slice A0_1 l0_1.length c0_1) := (blk_cell BK250.out 1).trans rfl
                    have hfz15_0 := blk_frozen BK250.out 0
                    have hfz15_1 := blk_frozen BK250.out 1
                    have p253 : 0 ≤ (x4_1 : Int) := of_decide_eq_true (by first | (with_reducible assumption) )
                    have q253 : x4_1 < (l0_0.length : Int) := of_decide_eq_true (by first | (with_reducible assumption) )
                    obtain ⟨ad253, A253_1, c253_1, e253, hx253_0, hx253_1, hl253_1, hi253_1⟩ := at_T86 HR0_0.out x4_1 p253 q253
                    cases e253
                    replace hx253_0 := (HB.out.cell (World.block_lt_of_cell? w _ hx253_0)).trans hx253_0
                    replace hx253_1 := (HB.out.cell (World.block_lt_of_cell? w _ hx253_1)).trans hx253_1
                    have HR253_1 := Aside0.mk hi253_1
                    have HC253_1 := Aside0.mk hl253_1
                    clear hi253_1 hl253_1
                    replace p253 := eq_true p253
                    replace q253 := eq_true q253
                    go_wp2
                    go_roundg k3
                    case measure => have := HK1.out; have := HJ3.out; have := HK3.out; omega
                    case rel => exact ⟨(true), (wrap64 (x5_3 + 1)), (by first | rfl ), (by first | rfl ), H', ⟨by have := HK1.out; have := HJ3.out; have := HK3.out; omega⟩, ⟨by exact BK250.out⟩, ⟨by exact HB.out⟩⟩
                  · replace c14 := Bool.eq_false_iff.mpr c14
                    subst c14
                    have H1 : (if 0 ≤ x5_3 then ((ecdysisref09_Right.f k3 ((rd_T88 ((rd_T86 l0_0 x4_1).f1) x5_3).f0)).bind fun t256 => (ecdysisref15_text.l1 k3 (!t256) x4_1 (wrap64 (x5_3 + 1)) l0_0 l0_1)) else (none)) = some r := by rw [if_neg (show ¬ (false = true) by decide)] at H; exact H
                    clear H
                    have H := H1
                    clear H1
                    by_cases c16 : 0 ≤ x5_3
                    · rw [if_pos c16] at H
                      have c16b0 : decide (0 ≤ x5_3) = true := decide_eq_true c16
                      clear c16
                      replace H := Option.bind_eq_some_iff.mp H
                      obtain ⟨t256, A170, H⟩ := H
                      replace H : (ecdysisref15_text.l1 k3 (!t256) x4_1 (wrap64 (x5_3 + 1)) l0_0 l0_1) = some r := H
                      have A17 := Aside0.mk A170
                      clear A170
                      have H' := Aside0.mk H
                      clear H
                      have hcz18_0 : wr.cell? ⟨gb250, 0, none⟩ = some (.slice A0_0 l0_0.length c0_0) := (blk_cell BK250.out 0).trans rfl
                      have hcz18_1 : wr.cell? ⟨gb250, 1, none⟩ = some (.slice A0_1 l0_1.length c0_1) := (blk_cell BK250.out 1).trans rfl
                      have hfz18_0 := blk_frozen BK250.out 0
                      have hfz18_1 := blk_frozen BK250.out 1
                      have p253 : 0 ≤ (x4_1 : Int) := of_decide_eq_true (by first | (with_reducible assumption) )
                      have q253 : x4_1 < (l0_0.length : Int) := of_decide_eq_true (by first | (with_reducible assumption) )
                      obtain ⟨ad253, A253_1, c253_1, e253, hx253_0, hx253_1, hl253_1, hi253_1⟩ := at_T86 HR0_0.out x4_1 p253 q253
                      cases e253
                      replace hx253_0 := (HB.out.cell (World.block_lt_of_cell? w _ hx253_0)).trans hx253_0
                      replace hx253_1 := (HB.out.cell (World.block_lt_of_cell? w _ hx253_1)).trans hx253_1
                      have HR253_1 := Aside0.mk hi253_1
                      have HC253_1 := Aside0.mk hl253_1
                      clear hi253_1 hl253_1
                      replace p253 := eq_true p253
                      replace q253 := eq_true q253
                      have p254 : 0 ≤ (x4_1 : Int) := of_decide_eq_true (by first | (with_reducible assumption) )
                      have q254 : x4_1 < (l0_0.length : Int) := of_decide_eq_true (by first | (with_reducible assumption) )
                      obtain ⟨ad254, A254_1, c254_1, e254, hx254_0, hx254_1, hl254_1, hi254_1⟩ := at_T86 HR0_0.out x4_1 p254 q254
                      obtain rfl : ad253 = ad254 := (by injection e254)
                      replace hx254_0 := (HB.out.cell (World.block_lt_of_cell? w _ hx254_0)).trans hx254_0
                      replace hx254_1 := (HB.out.cell (World.block_lt_of_cell? w _ hx254_1)).trans hx254_1
                      have HR254_1 := Aside0.mk hi254_1
                      have HC254_1 := Aside0.mk hl254_1
                      clear hi254_1 hl254_1
                      replace p254 := eq_true p254
                      replace q254 := eq_true q254
                      have ea_ := Option.some.inj (hx253_1.symm.trans hx254_1)
                      injection ea_ with ea_ en_ ec_
                      subst ea_
                      subst ec_
                      clear en_
                      have p255 : 0 ≤ (x5_3 : Int) := of_decide_eq_true (by first | (with_reducible assumption) )
                      have q255 : x5_3 < (((rd_T86 l0_0 x4_1).f1).length : Int) := of_decide_eq_true (by first | (with_reducible assumption) )
                      obtain ⟨ad255, e255, hx255_0, hx255_1⟩ := at_T88 HR254_1.out x5_3 p255 q255
                      cases e255
                      replace hx255_0 := (HB.out.cell (World.block_lt_of_cell? w _ hx255_0)).trans hx255_0
                      replace hx255_1 := (HB.out.cell (World.block_lt_of_cell? w _ hx255_1)).trans hx255_1
                      replace p255 := eq_true p255
                      replace q255 := eq_true q255
                      go_wp2_with (first | (go_at_call 93; (with_reducible refine (ecdysisref09_Right.calls k3 ((rd_T88 ((rd_T86 l0_0 x4_1).f1) x5_3).f0) t256 _ A17.out).mono ?_); rintro e w19 ⟨rfl, hb⟩; have n0_ := Aside0.mk (blk_below BK250.out hb); have n1_ := Aside0.mk (below_step HB.out hb); clear BK250; clear HB; have BK250 := n0_; have HB := n1_; clear n0_ n1_; (try clear hb); (try clear hb2); (try clear hk); (try clear hi)))
                      go_roundg k3
                      case measure => have := HK1.out; have := HJ3.out; have := HK3.out; omega
                      case rel => exact ⟨(!t256), (wrap64 (x5_3 + 1)), (by first | rfl ), (by first | rfl ), H', ⟨by have := HK1.out; have := HJ3.out; have := HK3.out; omega⟩, ⟨by exact BK250.out⟩, ⟨by exact HB.out⟩⟩
                    · rw [if_neg c16] at H
                      exact absurd H (by simp)
                · rw [if_neg c13] at H
                  have c13b0 : decide (x5_3 < (((rd_T86 l0_0 x4_1).f1).length : Int)) = false := decide_eq_false c13
                  clear c13
                  have H' := Aside0.mk H
                  clear H
                  have hcz20_0 : wr.cell? ⟨gb250, 0, none⟩ = some (.slice A0_0 l0_0.length c0_0) := (blk_cell BK250.out 0).trans rfl
                  have hcz20_1 : wr.cell? ⟨gb250, 1, none⟩ = some (.slice A0_1 l0_1.length c0_1) := (blk_cell BK250.out 1).trans rfl
                  have hfz20_0 := blk_frozen BK250.out 0
                  have hfz20_1 := blk_frozen BK250.out 1
                  have p253 : 0 ≤ (x4_1 : Int) := of_decide_eq_true (by first | (with_reducible assumption) )
                  have q253 : x4_1 < (l0_0.length : Int) := of_decide_eq_true (by first | (with_reducible assumption) )
                  obtain ⟨ad253, A253_1, c253_1, e253, hx253_0, hx253_1, hl253_1, hi253_1⟩ := at_T86 HR0_0.out x4_1 p253 q253
                  cases e253
                  replace hx253_0 := (HB.out.cell (World.block_lt_of_cell? w _ hx253_0)).trans hx253_0
                  replace hx253_1 := (HB.out.cell (World.block_lt_of_cell? w _ hx253_1)).trans hx253_1
                  have HR253_1 := Aside0.mk hi253_1
                  have HC253_1 := Aside0.mk hl253_1
                  clear hi253_1 hl253_1
                  replace p253 := eq_true p253
                  replace q253 := eq_true q253
                  go_wp2
                  go_roundg k3
                  case measure => have := HK1.out; have := HJ3.out; have := HK3.out; omega
                  case rel => exact ⟨(x3_3), (wrap64 (x4_1 + 1)), (by first | rfl ), (by first | rfl ), H', ⟨by have := HK1.out; have := HJ3.out; have := HK3.out; omega⟩, ⟨by exact BK250.out⟩, ⟨by exact HB.out⟩⟩
              · rw [if_neg c12] at H
                exact absurd H (by simp)
            · rw [if_neg c11] at H
              exact absurd H (by simp)
   · rw [if_neg c3] at H
     have c3b0 : decide (x4_1 < (l0_0.length : Int)) = false := decide_eq_false c3
     clear c3
     have H' := Aside0.mk H
     clear H
     have hcz21_0 : wr.cell? ⟨gb250, 0, none⟩ = some (.slice A0_0 l0_0.length c0_0) := (blk_cell BK250.out 0).trans rfl
     have hcz21_1 : wr.cell? ⟨gb250, 1, none⟩ = some (.slice A0_1 l0_1.length c0_1) := (blk_cell BK250.out 1).trans rfl
     have hfz21_0 := blk_frozen BK250.out 0
     have hfz21_1 := blk_frozen BK250.out 1
     go_wp2
     go_loopg [3, 6] k1 (fun kq v3 v6 w' => ∃ (x3_2 : Bool) (x6_2 : Int), v3 = .bool x3_2 ∧ v6 = .int .i64 x6_2 ∧ Aside0 (ecdysisref15_text.l2 kq x3_2 x6_2 l0_0 l0_1 = some r) ∧ Aside0 (kq ≤ k1) ∧ Aside0 (w'.heap[gb250]? = some (.cells #[(.slice A0_0 l0_0.length c0_0), (.slice A0_1 l0_1.length c0_1)] 35 (0, 0))) ∧ Aside0 (Below w.heap.size w w'))
     case atStart => exact ⟨(x3_1), (0), (by first | rfl ), (by first | rfl ), H', ⟨Nat.le_refl _⟩, ⟨by exact BK250.out⟩, ⟨by exact HB.out⟩⟩
     case round =>
      clear H'
      try clear c1
      try clear c2
      try clear p2
      try clear q2
      try clear hx2
      try clear c3
      try clear c3b0
      try clear c6
      try clear p6
      try clear c7
      try clear c7b0
      try clear c11
      try clear c11b0
      try clear c12
      try clear c12b0
      try clear c13
      try clear c13b0
      try clear c14
      try clear c16
      try clear c16b0
      try clear hcz15_0
      try clear hcz15_1
      try clear hcz18_0
      try clear hcz18_1
      try clear hcz20_0
      try clear hcz20_1
      try clear hcz21_0
      try clear hcz21_1
      try clear hcz5_0
      try clear hcz5_1
      try clear hcz9_0
      try clear hcz9_1
      try clear hfz15_0
      try clear hfz15_1
      try clear hfz18_0
      try clear hfz18_1
      try clear hfz20_0
      try clear hfz20_1
      try clear hfz21_0
      try clear hfz21_1
      try clear hfz5_0
      try clear hfz5_1
      try clear hfz9_0
      try clear hfz9_1
      try clear hx251_0
      try clear hx251_1
      try clear hx253_0
      try clear hx253_1
      try clear hx254_0
      try clear hx254_1
      try clear hx255_0
      try clear hx255_1
      try clear p2
      try clear p251
      try clear p253
      try clear p254
      try clear p255
      try clear q2
      try clear q251
      try clear q253
      try clear q254
      try clear q255
      obtain ⟨x3_2, x6_2, rfl, rfl, HA, HK2, BK250, HB⟩ := hrel
      cases gk with
      | zero => exact absurd HA.out (by simp [ecdysisref15_text.l2])
      | succ k2 =>
        have H := HA.out
        clear HA
        simp only [ecdysisref15_text.l2] at H
        by_cases c22 : x6_2 < (l0_1.length : Int)
        · rw [if_pos c22] at H
          have c22b0 : decide (x6_2 < (l0_1.length : Int)) = true := decide_eq_true c22
          clear c22
          by_cases c23 : x3_2 = true
          · subst c23
            have H1 : (ecdysisref15_text.l2 k2 true (wrap64 (x6_2 + 1)) l0_0 l0_1) = some r := by rw [if_pos rfl] at H; exact H
            clear H
            have H := H1
            clear H1
            have H' := Aside0.mk H
            clear H
            have hcz24_0 : wr.cell? ⟨gb250, 0, none⟩ = some (.slice A0_0 l0_0.length c0_0) := (blk_cell BK250.out 0).trans rfl
            have hcz24_1 : wr.cell? ⟨gb250, 1, none⟩ = some (.slice A0_1 l0_1.length c0_1) := (blk_cell BK250.out 1).trans rfl
            have hfz24_0 := blk_frozen BK250.out 0
            have hfz24_1 := blk_frozen BK250.out 1
            go_wp2
            go_roundg k2
            case measure => have := HK1.out; have := HK2.out; omega
            case rel => exact ⟨(true), (wrap64 (x6_2 + 1)), (by first | rfl ), (by first | rfl ), H', ⟨by have := HK1.out; have := HK2.out; omega⟩, ⟨by exact BK250.out⟩, ⟨by exact HB.out⟩⟩
          · replace c23 := Bool.eq_false_iff.mpr c23
            subst c23
            have H1 : (if 0 ≤ x6_2 then ((ecdysisref09_Right.f k2 ((rd_T47 l0_1 x6_2).f0)).bind fun t258 => (ecdysisref15_text.l2 k2 (!t258) (wrap64 (x6_2 + 1)) l0_0 l0_1)) else (none)) = some r := by rw [if_neg (show ¬ (false = true) by decide)] at H; exact H
            clear H
            have H := H1
            clear H1
            by_cases c25 : 0 ≤ x6_2
            · rw [if_pos c25] at H
              have c25b0 : decide (0 ≤ x6_2) = true := decide_eq_true c25
              clear c25
              replace H := Option.bind_eq_some_iff.mp H
              obtain ⟨t258, A260, H⟩ := H
              replace H : (ecdysisref15_text.l2 k2 (!t258) (wrap64 (x6_2 + 1)) l0_0 l0_1) = some r := H
              have A26 := Aside0.mk A260
              clear A260
              have H' := Aside0.mk H
              clear H
              have hcz27_0 : wr.cell? ⟨gb250, 0, none⟩ = some (.slice A0_0 l0_0.length c0_0) := (blk_cell BK250.out 0).trans rfl
              have hcz27_1 : wr.cell? ⟨gb250, 1, none⟩ = some (.slice A0_1 l0_1.length c0_1) := (blk_cell BK250.out 1).trans rfl
              have hfz27_0 := blk_frozen BK250.out 0
              have hfz27_1 := blk_frozen BK250.out 1
              have p257 : 0 ≤ (x6_2 : Int) := of_decide_eq_true (by first | (with_reducible assumption) )
              have q257 : x6_2 < (l0_1.length : Int) := of_decide_eq_true (by first | (with_reducible assumption) )
              obtain ⟨ad257, A257_1, c257_1, A257_2, c257_2, e257, hx257_0, hx257_1, hx257_2, hl257_1, hi257_1, hl257_2, hi257_2⟩ := at_T47 HR0_1.out x6_2 p257 q257
              cases e257
              replace hx257_0 := (HB.out.cell (World.block_lt_of_cell? w _ hx257_0)).trans hx257_0
              replace hx257_1 := (HB.out.cell (World.block_lt_of_cell? w _ hx257_1)).trans hx257_1
              replace hx257_2 := (HB.out.cell (World.block_lt_of_cell? w _ hx257_2)).trans hx257_2
              have HR257_1 := Aside0.mk hi257_1
              have HC257_1 := Aside0.mk hl257_1
              clear hi257_1 hl257_1
              have HR257_2 := Aside0.mk hi257_2
              have HC257_2 := Aside0.mk hl257_2
              clear hi257_2 hl257_2
              replace p257 := eq_true p257
              replace q257 := eq_true q257
              go_wp2_with (first | (go_at_call 93; (with_reducible refine (ecdysisref09_Right.calls k2 ((rd_T47 l0_1 x6_2).f0) t258 _ A26.out).mono ?_); rintro e w28 ⟨rfl, hb⟩; have n0_ := Aside0.mk (blk_below BK250.out hb); have n1_ := Aside0.mk (below_step HB.out hb); clear BK250; clear HB; have BK250 := n0_; have HB := n1_; clear n0_ n1_; (try clear hb); (try clear hb2); (try clear hk); (try clear hi)))
              go_roundg k2
              case measure => have := HK1.out; have := HK2.out; omega
              case rel => exact ⟨(!t258), (wrap64 (x6_2 + 1)), (by first | rfl ), (by first | rfl ), H', ⟨by have := HK1.out; have := HK2.out; omega⟩, ⟨by exact BK250.out⟩, ⟨by exact HB.out⟩⟩
            · rw [if_neg c25] at H
              exact absurd H (by simp)
        · rw [if_neg c22] at H
          have c22b0 : decide (x6_2 < (l0_1.length : Int)) = false := decide_eq_false c22
          clear c22
          obtain rfl := Option.some.inj H
          have hcz29_0 : wr.cell? ⟨gb250, 0, none⟩ = some (.slice A0_0 l0_0.length c0_0) := (blk_cell BK250.out 0).trans rfl
          have hcz29_1 : wr.cell? ⟨gb250, 1, none⟩ = some (.slice A0_1 l0_1.length c0_1) := (blk_cell BK250.out 1).trans rfl
          have hfz29_0 := blk_frozen BK250.out 0
          have hfz29_1 := blk_frozen BK250.out 1
          go_wp2
          go_ret
          exact ⟨by first | rfl , by exact HB.out⟩
def ecdysisref11_Whole.f (a0 : Int) : Option (Bool) := if a0 ≥ 1 then (if a0 ≤ 6 then (some true) else (if a0 ≥ 8 then (some (decide (a0 ≤ 11))) else (some false))) else (if a0 ≥ 8 then (some (decide (a0 ≤ 11))) else (some false))
set_option maxHeartbeats 8000000 in
set_option maxRecDepth 100000 in
theorem ecdysisref11_Whole.calls (a0 : Int) (r : Bool) (w : World) (h : ecdysisref11_Whole.f a0 = some r) :
   Calls Try.prog 110 #[.int .i64 a0] w fun e w' => e = .returned (.bool r) ∧ Drawn0 w w' := by
 have H : (if a0 ≥ 1 then (if a0 ≤ 6 then (some true) else (if a0 ≥ 8 then (some (decide (a0 ≤ 11))) else (some false))) else (if a0 ≥ 8 then (some (decide (a0 ≤ 11))) else (some false))) = some r := h
 clear h
 by_cases c2 : a0 ≥ 1
 · rw [if_pos c2] at H
   have c2b0 : decide (1 ≤ a0) = true := decide_eq_true c2
   clear c2
   by_cases c3 : a0 ≤ 6
   · rw [if_pos c3] at H
     have c3b0 : decide (a0 ≤ 6) = true := decide_eq_true c3
     clear c3
     obtain rfl := Option.some.inj H
     go_enter Try.func110, Try.ntmps110
     go_wp2
     go_ret
     exact ⟨by first | rfl , by repeat (first | exact Drawn0.refl _ )⟩
   · rw [if_neg c3] at H
     have c3b0 : decide (a0 ≤ 6) = false := decide_eq_false c3
     clear c3
     by_cases c4 : a0 ≥ 8
     · rw [if_pos c4] at H
       have c4b0 : decide (8 ≤ a0) = true := decide_eq_true c4
       clear c4
       obtain rfl := Option.some.inj H
       go_enter Try.func110, Try.ntmps110
       go_wp2
       go_ret
       exact ⟨by first | rfl , by repeat (first | exact Drawn0.refl _ )⟩
     · rw [if_neg c4] at H
       have c4b0 : decide (8 ≤ a0) = false := decide_eq_false c4
       clear c4
       obtain rfl := Option.some.inj H
       go_enter Try.func110, Try.ntmps110
       go_wp2
       go_ret
       exact ⟨by first | rfl , by repeat (first | exact Drawn0.refl _ )⟩
 · rw [if_neg c2] at H
   have c2b0 : decide (1 ≤ a0) = false := decide_eq_false c2
   clear c2
   by_cases c5 : a0 ≥ 8
   · rw [if_pos c5] at H
     have c5b0 : decide (8 ≤ a0) = true := decide_eq_true c5
     clear c5
     obtain rfl := Option.some.inj H
     go_enter Try.func110, Try.ntmps110
     go_wp2
     go_ret
     exact ⟨by first | rfl , by repeat (first | exact Drawn0.refl _ )⟩
   · rw [if_neg c5] at H
     have c5b0 : decide (8 ≤ a0) = false := decide_eq_false c5
     clear c5
     obtain rfl := Option.some.inj H
     go_enter Try.func110, Try.ntmps110
     go_wp2
     go_ret
     exact ⟨by first | rfl , by repeat (first | exact Drawn0.refl _ )⟩
def ecdysisref11_Number.f (a0 : Int) : Option (Bool) := (ecdysisref11_Whole.f a0).bind fun t259 => (if t259 = true then (some true) else (if a0 = 7 then (some true) else (some (a0 == 14))))
set_option maxHeartbeats 8000000 in
set_option maxRecDepth 100000 in
theorem ecdysisref11_Number.calls (a0 : Int) (r : Bool) (w : World) (h : ecdysisref11_Number.f a0 = some r) :
   Calls Try.prog 108 #[.int .i64 a0] w fun e w' => e = .returned (.bool r) ∧ Drawn0 w w' := by
 have H : ((ecdysisref11_Whole.f a0).bind fun t259 => (if t259 = true then (some true) else (if a0 = 7 then (some true) else (some (a0 == 14))))) = some r := h
 clear h
 replace H := Option.bind_eq_some_iff.mp H
 obtain ⟨t259, A20, H⟩ := H
 replace H : (if t259 = true then (some true) else (if a0 = 7 then (some true) else (some (a0 == 14)))) = some r := H
 have A2 := Aside0.mk A20
 clear A20
 by_cases c3 : t259 = true
 · subst c3
   have H1 : (some true) = some r := by rw [if_pos rfl] at H; exact H
   clear H
   have H := H1
   clear H1
   obtain rfl := Option.some.inj H
   go_enter Try.func108, Try.ntmps108
   go_wp2_with (first | ((with_reducible refine gate_callee (f := 110) rfl ?_); refine goesL_ (some 4) rfl rfl Try.func110 (by kernel_rfl) rfl #[.int .i64 a0] rfl (by (try simp only [List.map_toArray, List.map_cons, List.map_nil]); first | done | rfl | (simp only [List.length_drop, List.length_take]; rfl)) ?_; (with_reducible refine (ecdysisref11_Whole.calls a0 true _ A2.out).mono ?_); rintro e w' ⟨rfl, ⟨nd, rfl⟩⟩; refine ⟨_, rfl, ?_⟩))
   go_ret
   exact ⟨by first | rfl , by repeat (first | exact Drawn0.refl _ | apply Drawn0.step)⟩
 · replace c3 := Bool.eq_false_iff.mpr c3
   subst c3
   have H1 : (if a0 = 7 then (some true) else (some (a0 == 14))) = some r := by rw [if_neg (show ¬ (false = true) by decide)] at H; exact H
   clear H
   have H := H1
   clear H1
   by_cases c4 : a0 = 7
   · rw [if_pos c4] at H
     have c4b0 : (a0 == 7) = true := beq_iff_eq.mpr c4
     have c4b1 : (a0 != 7) = false := bne_eq_false_iff_eq.mpr c4
     clear c4
     obtain rfl := Option.some.inj H
     go_enter Try.func108, Try.ntmps108
     go_wp2_with (first | ((with_reducible refine gate_callee (f := 110) rfl ?_); refine goesL_ (some 4) rfl rfl Try.func110 (by kernel_rfl) rfl #[.int .i64 a0] rfl (by (try simp only [List.map_toArray, List.map_cons, List.map_nil]); first | done | rfl | (simp only [List.length_drop, List.length_take]; rfl)) ?_; (with_reducible refine (ecdysisref11_Whole.calls a0 false _ A2.out).mono ?_); rintro e w' ⟨rfl, ⟨nd, rfl⟩⟩; refine ⟨_, rfl, ?_⟩))
     go_ret
     exact ⟨by first | rfl , by repeat (first | exact Drawn0.refl _ | apply Drawn0.step)⟩
   · rw [if_neg c4] at H
     have c4b0 : (a0 == 7) = false := beq_eq_false_iff_ne.mpr c4
     have c4b1 : (a0 != 7) = true := bne_iff_ne.mpr c4
     obtain rfl := Option.some.inj H
     go_enter Try.func108, Try.ntmps108
     go_wp2_with (first | ((with_reducible refine gate_callee (f := 110) rfl ?_); refine goesL_ (some 4) rfl rfl Try.func110 (by kernel_rfl) rfl #[.int .i64 a0] rfl (by (try simp only [List.map_toArray, List.map_cons, List.map_nil]); first | done | rfl | (simp only [List.length_drop, List.length_take]; rfl)) ?_; (with_reducible refine (ecdysisref11_Whole.calls a0 false _ A2.out).mono ?_); rintro e w' ⟨rfl, ⟨nd, rfl⟩⟩; refine ⟨_, rfl, ?_⟩))
     go_ret
     exact ⟨by first | rfl , by repeat (first | exact Drawn0.refl _ | apply Drawn0.step)⟩
end Go.Proofs.Ytbpnfpckoapdbaa.PF16
end
section
namespace Go.Proofs.Ytbpnfpckoapdbaa.PF16
open Go.RowKit Go.Proofs.Ytbpnfpckoapdbaa.M Go.Proofs.Ytbpnfpckoapdbaa.KD Go.Proofs.Ytbpnfpckoapdbaa Go.Proofs.YtbpnfpckoapdbaaW.PrintWords Go.Proofs.YtbpnfpckoapdbaaW.PrintLast Go.Proofs.YtbpnfpckoapdbaaW.PrintMore
attribute [local go_sem] max2_int min2_int max_two min_two max_three min_three max_four min_four   -- for this text's walks alone
set_option linter.unusedVariables false
set_option linter.unusedSimpArgs false
theorem isEmpty_ne16 (l : List UInt8) : l.isEmpty = !(l != ([] : List UInt8)) := by cases l <;> rfl
mutual
def ecdysisref14_Check.j0 : Nat → Bool → ByteArray → Int → Int → ByteArray → Bool → Bool → ByteArray → Option (Int)
 | 0, _, _, _, _, _, _, _, _ => none
 | k + 1, x17, x261000, x261001, x261002, x261003, x261004, x261005, x261006 => if x17 = true then (some 2) else (if x261002 = 14 then (ecdysisref14_Check.j1 k true x261000 x261001 x261002 x261003 x261004 x261005 x261006) else (ecdysisref14_Check.j1 k (x261002 == 15) x261000 x261001 x261002 x261003 x261004 x261005 x261006))
def ecdysisref14_Check.j1 : Nat → Bool → ByteArray → Int → Int → ByteArray → Bool → Bool → ByteArray → Option (Int)
 | 0, _, _, _, _, _, _, _, _ => none
 | k + 1, x25, x261000, x261001, x261002, x261003, x261004, x261005, x261006 => if x25 = true then ((ecdysisref09_Right.f k x261003).bind fun t263 => (if t263 = true then (ecdysisref14_Check.j2 k x261000 x261001 x261002 x261003 x261004 x261005 x261006) else (some 2))) else (if x261003.toList = ([] : List UInt8) then (ecdysisref14_Check.j2 k x261000 x261001 x261002 x261003 x261004 x261005 x261006) else (some 2))
def ecdysisref14_Check.j2 : Nat → ByteArray → Int → Int → ByteArray → Bool → Bool → ByteArray → Option (Int)
 | 0, _, _, _, _, _, _, _ => none
 | k + 1, x261000, x261001, x261002, x261003, x261004, x261005, x261006 => (ecdysisref04_Field.f x261001).bind fun t264 => (if t264 = true then (if x261002 < 1 then (ecdysisref14_Check.j3 k true x261000 x261001 x261002 x261003 x261004 x261005 x261006) else (if x261002 > 15 then (ecdysisref14_Check.j3 k true x261000 x261001 x261002 x261003 x261004 x261005 x261006) else (if x261004 = true then (ecdysisref14_Check.j3 k (x261006.toList != ([] : List UInt8)) x261000 x261001 x261002 x261003 x261004 x261005 x261006) else (ecdysisref14_Check.j3 k false x261000 x261001 x261002 x261003 x261004 x261005 x261006)))) else (ecdysisref14_Check.j3 k true x261000 x261001 x261002 x261003 x261004 x261005 x261006))
def ecdysisref14_Check.j3 : Nat → Bool → ByteArray → Int → Int → ByteArray → Bool → Bool → ByteArray → Option (Int)
 | 0, _, _, _, _, _, _, _, _ => none
 | k + 1, x55, x261000, x261001, x261002, x261003, x261004, x261005, x261006 => if x55 = true then (some 1) else (if x261005 = true then (if x261004 = true then ((ecdysisref11_Number.f x261002).bind fun t265 => (if t265 = true then (some 0) else (some 1))) else (some 1)) else (some 0))
end
def ecdysisref14_Check.f (k : Nat) (a0_0 : ByteArray) (a0_1 : Int) (a0_2 : Int) (a0_3 : ByteArray) (a0_4 : Bool) (a0_5 : Bool) (a0_6 : ByteArray) : Option (Int) := (ecdysisref09_Right.f k a0_0).bind fun t261 => (if t261 = true then (if a0_6.toList = ([] : List UInt8) then (ecdysisref14_Check.j0 k false a0_0 a0_1 a0_2 a0_3 a0_4 a0_5 a0_6) else ((ecdysisref09_Right.f k a0_6).bind fun t262 => (ecdysisref14_Check.j0 k (!t262) a0_0 a0_1 a0_2 a0_3 a0_4 a0_5 a0_6))) else (ecdysisref14_Check.j0 k true a0_0 a0_1 a0_2 a0_3 a0_4 a0_5 a0_6))
set_option maxHeartbeats 8000000 in
set_option maxRecDepth 100000 in
theorem ecdysisref14_Check.calls (k : Nat) (a0_0 : ByteArray) (a0_1 : Int) (a0_2 : Int) (a0_3 : ByteArray) (a0_4 : Bool) (a0_5 : Bool) (a0_6 : ByteArray) (r : Int) (w : World) (h : ecdysisref14_Check.f k a0_0 a0_1 a0_2 a0_3 a0_4 a0_5 a0_6 = some r) :
  Calls Try.prog 94 #[.agg #[.string a0_0, .int .i64 a0_1, .int .i64 a0_2, .string a0_3, .bool a0_4, .bool a0_5, .string a0_6]] w fun e w' => e = .returned (.int .i64 r) ∧ Below w.heap.size w w' := by
 have hu50 := Try.underlying50
 have HB := Aside0.mk (Below.refl w.heap.size w)
 have H : ((ecdysisref09_Right.f k a0_0).bind fun t261 => (if t261 = true then (if a0_6.toList = ([] : List UInt8) then (ecdysisref14_Check.j0 k false a0_0 a0_1 a0_2 a0_3 a0_4 a0_5 a0_6) else ((ecdysisref09_Right.f k a0_6).bind fun t262 => (ecdysisref14_Check.j0 k (!t262) a0_0 a0_1 a0_2 a0_3 a0_4 a0_5 a0_6))) else (ecdysisref14_Check.j0 k true a0_0 a0_1 a0_2 a0_3 a0_4 a0_5 a0_6))) = some r := h
 clear h
 have HC2 := Aside0.mk H
 clear H
 go_enter Try.func94, Try.ntmps94
 go_upto_region 1 with (first | ((with_reducible refine gate_dst (N := 1) rfl ?_); refine box_event ?hg (N := 1) ?hd (cs := #[.string a0_0, .int .i64 a0_1, .int .i64 a0_2, .string a0_3, .bool a0_4, .bool a0_5, .string a0_6]) (t := 50) ?hr ?_; (case hd => rfl); (case hg => rfl); (case hr => first | (go_simp; done) | (go_simp; rfl)); intro gb260 hg w3 hbox hb; have n0_ := Aside0.mk (below_step HB.out hb); have n1_ := Aside0.mk (hbox); clear HB; have HB := n0_; have BK260 := n1_; clear n0_ n1_; clear hb hbox hg))
 (try simp only [Act.put, List.setIfInBounds_toArray, List.set_cons_zero, List.set_cons_succ])
 go_cut [17] (fun v17 wc => ∃ (kq : Nat) (x17_1 : Bool), v17 = .bool x17_1 ∧ Aside0 (ecdysisref14_Check.j0 kq x17_1 a0_0 a0_1 a0_2 a0_3 a0_4 a0_5 a0_6 = some r) ∧ Aside0 (kq ≤ k) ∧ Aside0 (wc.heap[gb260]? = some (.cells #[.string a0_0, .int .i64 a0_1, .int .i64 a0_2, .string a0_3, .bool a0_4, .bool a0_5, .string a0_6] 50 (0, 0))) ∧ Aside0 (Below w.heap.size w wc))
 case first =>
  have H := HC2.out
  clear HC2
  replace H := Option.bind_eq_some_iff.mp H
  obtain ⟨t261, A40, H⟩ := H
  replace H : (if t261 = true then (if a0_6.toList = ([] : List UInt8) then (ecdysisref14_Check.j0 k false a0_0 a0_1 a0_2 a0_3 a0_4 a0_5 a0_6) else ((ecdysisref09_Right.f k a0_6).bind fun t262 => (ecdysisref14_Check.j0 k (!t262) a0_0 a0_1 a0_2 a0_3 a0_4 a0_5 a0_6))) else (ecdysisref14_Check.j0 k true a0_0 a0_1 a0_2 a0_3 a0_4 a0_5 a0_6)) = some r := H
  have A4 := Aside0.mk A40
  clear A40
  by_cases c5 : t261 = true
  · subst c5
    have H1 : (if a0_6.toList = ([] : List UInt8) then (ecdysisref14_Check.j0 k false a0_0 a0_1 a0_2 a0_3 a0_4 a0_5 a0_6) else ((ecdysisref09_Right.f k a0_6).bind fun t262 => (ecdysisref14_Check.j0 k (!t262) a0_0 a0_1 a0_2 a0_3 a0_4 a0_5 a0_6))) = some r := by rw [if_pos rfl] at H; exact H
    clear H
    have H := H1
    clear H1
    by_cases c6 : a0_6.toList = ([] : List UInt8)
    · rw [if_pos c6] at H
      have c6b0 : (a0_6.toList == ([] : List UInt8)) = true := beq_iff_eq.mpr c6
      have c6b1 : (a0_6.toList != ([] : List UInt8)) = false := bne_eq_false_iff_eq.mpr c6
      clear c6
      (first | skip)
      have H' := Aside0.mk H
      clear H
      have hcz7_0 : w3.cell? ⟨gb260, 0, none⟩ = some (.string a0_0) := (blk_cell BK260.out 0).trans rfl
      have hcz7_1 : w3.cell? ⟨gb260, 1, none⟩ = some (.int .i64 a0_1) := (blk_cell BK260.out 1).trans rfl
      have hcz7_2 : w3.cell? ⟨gb260, 2, none⟩ = some (.int .i64 a0_2) := (blk_cell BK260.out 2).trans rfl
      have hcz7_3 : w3.cell? ⟨gb260, 3, none⟩ = some (.string a0_3) := (blk_cell BK260.out 3).trans rfl
      have hcz7_4 : w3.cell? ⟨gb260, 4, none⟩ = some (.bool a0_4) := (blk_cell BK260.out 4).trans rfl
      have hcz7_5 : w3.cell? ⟨gb260, 5, none⟩ = some (.bool a0_5) := (blk_cell BK260.out 5).trans rfl
      have hcz7_6 : w3.cell? ⟨gb260, 6, none⟩ = some (.string a0_6) := (blk_cell BK260.out 6).trans rfl
      have hfz7_0 := blk_frozen BK260.out 0
      have hfz7_1 := blk_frozen BK260.out 1
      have hfz7_2 := blk_frozen BK260.out 2
      have hfz7_3 := blk_frozen BK260.out 3
      have hfz7_4 := blk_frozen BK260.out 4
      have hfz7_5 := blk_frozen BK260.out 5
      have hfz7_6 := blk_frozen BK260.out 6
      go_wp2_with (first | ((with_reducible refine gate_callee (f := 93) rfl ?_); refine goesL_ (some 5) rfl rfl Try.func93 (by kernel_rfl) rfl #[.string a0_0] rfl (by (try simp only [List.map_toArray, List.map_cons, List.map_nil]); first | done | rfl | (simp only [List.length_drop, List.length_take]; rfl)) ?_; (with_reducible refine (ecdysisref09_Right.calls k a0_0 true _ A4.out).mono ?_); rintro e w8 ⟨rfl, hb⟩; refine ⟨_, rfl, ?_⟩; have n0_ := Aside0.mk (blk_below BK260.out hb); have n1_ := Aside0.mk (below_step HB.out hb); clear BK260; clear HB; have BK260 := n0_; have HB := n1_; clear n0_ n1_; (try clear hb); (try clear hb2); (try clear hk); (try clear hi); have hcz9_0 : w8.cell? ⟨gb260, 0, none⟩ = some (.string a0_0) := (blk_cell BK260.out 0).trans rfl; have hcz9_1 : w8.cell? ⟨gb260, 1, none⟩ = some (.int .i64 a0_1) := (blk_cell BK260.out 1).trans rfl; have hcz9_2 : w8.cell? ⟨gb260, 2, none⟩ = some (.int .i64 a0_2) := (blk_cell BK260.out 2).trans rfl; have hcz9_3 : w8.cell? ⟨gb260, 3, none⟩ = some (.string a0_3) := (blk_cell BK260.out 3).trans rfl; have hcz9_4 : w8.cell? ⟨gb260, 4, none⟩ = some (.bool a0_4) := (blk_cell BK260.out 4).trans rfl; have hcz9_5 : w8.cell? ⟨gb260, 5, none⟩ = some (.bool a0_5) := (blk_cell BK260.out 5).trans rfl; have hcz9_6 : w8.cell? ⟨gb260, 6, none⟩ = some (.string a0_6) := (blk_cell BK260.out 6).trans rfl; have hfz9_0 := blk_frozen BK260.out 0; have hfz9_1 := blk_frozen BK260.out 1; have hfz9_2 := blk_frozen BK260.out 2; have hfz9_3 := blk_frozen BK260.out 3; have hfz9_4 := blk_frozen BK260.out 4; have hfz9_5 := blk_frozen BK260.out 5; have hfz9_6 := blk_frozen BK260.out 6))
      go_meet
      case rel => exact ⟨_, (false), (by first | rfl ), H', ⟨by first | omega ⟩, ⟨by exact BK260.out⟩, ⟨by exact HB.out⟩⟩
    · rw [if_neg c6] at H
      have c6b0 : (a0_6.toList == ([] : List UInt8)) = false := beq_eq_false_iff_ne.mpr c6
      have c6b1 : (a0_6.toList != ([] : List UInt8)) = true := bne_iff_ne.mpr c6
      (first | skip)
      replace H := Option.bind_eq_some_iff.mp H
      obtain ⟨t262, A100, H⟩ := H
      replace H : (ecdysisref14_Check.j0 k (!t262) a0_0 a0_1 a0_2 a0_3 a0_4 a0_5 a0_6) = some r := H
      have A10 := Aside0.mk A100
      clear A100
      have H' := Aside0.mk H
      clear H
      have hcz11_0 : w3.cell? ⟨gb260, 0, none⟩ = some (.string a0_0) := (blk_cell BK260.out 0).trans rfl
      have hcz11_1 : w3.cell? ⟨gb260, 1, none⟩ = some (.int .i64 a0_1) := (blk_cell BK260.out 1).trans rfl
      have hcz11_2 : w3.cell? ⟨gb260, 2, none⟩ = some (.int .i64 a0_2) := (blk_cell BK260.out 2).trans rfl
      have hcz11_3 : w3.cell? ⟨gb260, 3, none⟩ = some (.string a0_3) := (blk_cell BK260.out 3).trans rfl
      have hcz11_4 : w3.cell? ⟨gb260, 4, none⟩ = some (.bool a0_4) := (blk_cell BK260.out 4).trans rfl
      have hcz11_5 : w3.cell? ⟨gb260, 5, none⟩ = some (.bool a0_5) := (blk_cell BK260.out 5).trans rfl
      have hcz11_6 : w3.cell? ⟨gb260, 6, none⟩ = some (.string a0_6) := (blk_cell BK260.out 6).trans rfl
      have hfz11_0 := blk_frozen BK260.out 0
      have hfz11_1 := blk_frozen BK260.out 1
      have hfz11_2 := blk_frozen BK260.out 2
      have hfz11_3 := blk_frozen BK260.out 3
      have hfz11_4 := blk_frozen BK260.out 4
      have hfz11_5 := blk_frozen BK260.out 5
      have hfz11_6 := blk_frozen BK260.out 6
      go_wp2_with (first | ((with_reducible refine gate_callee (f := 93) rfl ?_); refine goesL_ (some 5) rfl rfl Try.func93 (by kernel_rfl) rfl #[.string a0_0] rfl (by (try simp only [List.map_toArray, List.map_cons, List.map_nil]); first | done | rfl | (simp only [List.length_drop, List.length_take]; rfl)) ?_; (with_reducible refine (ecdysisref09_Right.calls k a0_0 true _ A4.out).mono ?_); rintro e w12 ⟨rfl, hb⟩; refine ⟨_, rfl, ?_⟩; have n0_ := Aside0.mk (blk_below BK260.out hb); have n1_ := Aside0.mk (below_step HB.out hb); clear BK260; clear HB; have BK260 := n0_; have HB := n1_; clear n0_ n1_; (try clear hb); (try clear hb2); (try clear hk); (try clear hi); have hcz13_0 : w12.cell? ⟨gb260, 0, none⟩ = some (.string a0_0) := (blk_cell BK260.out 0).trans rfl; have hcz13_1 : w12.cell? ⟨gb260, 1, none⟩ = some (.int .i64 a0_1) := (blk_cell BK260.out 1).trans rfl; have hcz13_2 : w12.cell? ⟨gb260, 2, none⟩ = some (.int .i64 a0_2) := (blk_cell BK260.out 2).trans rfl; have hcz13_3 : w12.cell? ⟨gb260, 3, none⟩ = some (.string a0_3) := (blk_cell BK260.out 3).trans rfl; have hcz13_4 : w12.cell? ⟨gb260, 4, none⟩ = some (.bool a0_4) := (blk_cell BK260.out 4).trans rfl; have hcz13_5 : w12.cell? ⟨gb260, 5, none⟩ = some (.bool a0_5) := (blk_cell BK260.out 5).trans rfl; have hcz13_6 : w12.cell? ⟨gb260, 6, none⟩ = some (.string a0_6) := (blk_cell BK260.out 6).trans rfl; have hfz13_0 := blk_frozen BK260.out 0; have hfz13_1 := blk_frozen BK260.out 1; have hfz13_2 := blk_frozen BK260.out 2; have hfz13_3 := blk_frozen BK260.out 3; have hfz13_4 := blk_frozen BK260.out 4; have hfz13_5 := blk_frozen BK260.out 5; have hfz13_6 := blk_frozen BK260.out 6) | (go_at_call 93; (with_reducible refine (ecdysisref09_Right.calls k a0_6 t262 _ A10.out).mono ?_); rintro e w14 ⟨rfl, hb⟩; have n0_ := Aside0.mk (blk_below BK260.out hb); have n1_ := Aside0.mk (below_step HB.out hb); clear BK260; clear HB; have BK260 := n0_; have HB := n1_; clear n0_ n1_; (try clear hb); (try clear hb2); (try clear hk); (try clear hi)))
      go_meet
      case rel => exact ⟨_, (!t262), (by first | rfl ), H', ⟨by first | omega ⟩, ⟨by exact BK260.out⟩, ⟨by exact HB.out⟩⟩
  · replace c5 := Bool.eq_false_iff.mpr c5
    subst c5
    have H1 : (ecdysisref14_Check.j0 k true a0_0 a0_1 a0_2 a0_3 a0_4 a0_5 a0_6) = some r := by rw [if_neg (show ¬ (false = true) by decide)] at H; exact H
    clear H
    have H := H1
    clear H1
    have H' := Aside0.mk H
    clear H
    have hcz15_0 : w3.cell? ⟨gb260, 0, none⟩ = some (.string a0_0) := (blk_cell BK260.out 0).trans rfl
    have hcz15_1 : w3.cell? ⟨gb260, 1, none⟩ = some (.int .i64 a0_1) := (blk_cell BK260.out 1).trans rfl
    have hcz15_2 : w3.cell? ⟨gb260, 2, none⟩ = some (.int .i64 a0_2) := (blk_cell BK260.out 2).trans rfl
    have hcz15_3 : w3.cell? ⟨gb260, 3, none⟩ = some (.string a0_3) := (blk_cell BK260.out 3).trans rfl
    have hcz15_4 : w3.cell? ⟨gb260, 4, none⟩ = some (.bool a0_4) := (blk_cell BK260.out 4).trans rfl
    have hcz15_5 : w3.cell? ⟨gb260, 5, none⟩ = some (.bool a0_5) := (blk_cell BK260.out 5).trans rfl
    have hcz15_6 : w3.cell? ⟨gb260, 6, none⟩ = some (.string a0_6) := (blk_cell BK260.out 6).trans rfl
    have hfz15_0 := blk_frozen BK260.out 0
    have hfz15_1 := blk_frozen BK260.out 1
    have hfz15_2 := blk_frozen BK260.out 2
    have hfz15_3 := blk_frozen BK260.out 3
    have hfz15_4 := blk_frozen BK260.out 4
    have hfz15_5 := blk_frozen BK260.out 5
    have hfz15_6 := blk_frozen BK260.out 6
    go_wp2_with (first | ((with_reducible refine gate_callee (f := 93) rfl ?_); refine goesL_ (some 5) rfl rfl Try.func93 (by kernel_rfl) rfl #[.string a0_0] rfl (by (try simp only [List.map_toArray, List.map_cons, List.map_nil]); first | done | rfl | (simp only [List.length_drop, List.length_take]; rfl)) ?_; (with_reducible refine (ecdysisref09_Right.calls k a0_0 false _ A4.out).mono ?_); rintro e w16 ⟨rfl, hb⟩; refine ⟨_, rfl, ?_⟩; have n0_ := Aside0.mk (blk_below BK260.out hb); have n1_ := Aside0.mk (below_step HB.out hb); clear BK260; clear HB; have BK260 := n0_; have HB := n1_; clear n0_ n1_; (try clear hb); (try clear hb2); (try clear hk); (try clear hi)))
    go_meet
    case rel => exact ⟨_, (true), (by first | rfl ), H', ⟨by first | omega ⟩, ⟨by exact BK260.out⟩, ⟨by exact HB.out⟩⟩
 case rest =>
  clear HC2
  try clear p2
  try clear c5
  try clear c6
  try clear c6b0
  try clear c6b1
  try clear c9
  try clear hcz11_0
  try clear hcz11_1
  try clear hcz11_2
  try clear hcz11_3
  try clear hcz11_4
  try clear hcz11_5
  try clear hcz11_6
  try clear hcz13_0
  try clear hcz13_1
  try clear hcz13_2
  try clear hcz13_3
  try clear hcz13_4
  try clear hcz13_5
  try clear hcz13_6
  try clear hcz15_0
  try clear hcz15_1
  try clear hcz15_2
  try clear hcz15_3
  try clear hcz15_4
  try clear hcz15_5
  try clear hcz15_6
  try clear hcz7_0
  try clear hcz7_1
  try clear hcz7_2
  try clear hcz7_3
  try clear hcz7_4
  try clear hcz7_5
  try clear hcz7_6
  try clear hcz9_0
  try clear hcz9_1
  try clear hcz9_2
  try clear hcz9_3
  try clear hcz9_4
  try clear hcz9_5
  try clear hcz9_6
  try clear hfz11_0
  try clear hfz11_1
  try clear hfz11_2
  try clear hfz11_3
  try clear hfz11_4
  try clear hfz11_5
  try clear hfz11_6
  try clear hfz13_0
  try clear hfz13_1
  try clear hfz13_2
  try clear hfz13_3
  try clear hfz13_4
  try clear hfz13_5
  try clear hfz13_6
  try clear hfz15_0
  try clear hfz15_1
  try clear hfz15_2
  try clear hfz15_3
  try clear hfz15_4
  try clear hfz15_5
  try clear hfz15_6
  try clear hfz7_0
  try clear hfz7_1
  try clear hfz7_2
  try clear hfz7_3
  try clear hfz7_4
  try clear hfz7_5
  try clear hfz7_6
  try clear hfz9_0
  try clear hfz9_1
  try clear hfz9_2
  try clear hfz9_3
  try clear hfz9_4
  try clear hfz9_5
  try clear hfz9_6
  obtain ⟨kq, x17_1, rfl, HA, HJ1, BK260, HB⟩ := hcut
  cases kq with
  | zero => exact absurd HA.out (by simp [ecdysisref14_Check.j0])
  | succ kj1 =>
    have H := HA.out
    clear HA
    simp only [ecdysisref14_Check.j0] at H
    by_cases c17 : x17_1 = true
    · subst c17
      have H1 : (some 2) = some r := by rw [if_pos rfl] at H; exact H
      clear H
      have H := H1
      clear H1
      obtain rfl := Option.some.inj H
      go_wp2
      go_ret
      exact ⟨by first | rfl , by exact HB.out⟩
    · replace c17 := Bool.eq_false_iff.mpr c17
      subst c17
      have H1 : (if a0_2 = 14 then (ecdysisref14_Check.j1 kj1 true a0_0 a0_1 a0_2 a0_3 a0_4 a0_5 a0_6) else (ecdysisref14_Check.j1 kj1 (a0_2 == 15) a0_0 a0_1 a0_2 a0_3 a0_4 a0_5 a0_6)) = some r := by rw [if_neg (show ¬ (false = true) by decide)] at H; exact H
      clear H
      have H := H1
      clear H1
      have HC18 := Aside0.mk H
      clear H
      go_upto_region 3 with (fail)
      go_cut [25] (fun v25 wc => ∃ (kq : Nat) (x25_17 : Bool), v25 = .bool x25_17 ∧ Aside0 (ecdysisref14_Check.j1 kq x25_17 a0_0 a0_1 a0_2 a0_3 a0_4 a0_5 a0_6 = some r) ∧ Aside0 (kq ≤ kj1) ∧ Aside0 (wc.heap[gb260]? = some (.cells #[.string a0_0, .int .i64 a0_1, .int .i64 a0_2, .string a0_3, .bool a0_4, .bool a0_5, .string a0_6] 50 (0, 0))) ∧ Aside0 (Below w.heap.size w wc))
      case first =>
       have H := HC18.out
       clear HC18
       by_cases c19 : a0_2 = 14
       · rw [if_pos c19] at H
         have c19b0 : (a0_2 == 14) = true := beq_iff_eq.mpr c19
         have c19b1 : (a0_2 != 14) = false := bne_eq_false_iff_eq.mpr c19
         clear c19
         (first | skip)
         have H' := Aside0.mk H
         clear H
         have hcz20_0 : wc.cell? ⟨gb260, 0, none⟩ = some (.string a0_0) := (blk_cell BK260.out 0).trans rfl
         have hcz20_1 : wc.cell? ⟨gb260, 1, none⟩ = some (.int .i64 a0_1) := (blk_cell BK260.out 1).trans rfl
         have hcz20_2 : wc.cell? ⟨gb260, 2, none⟩ = some (.int .i64 a0_2) := (blk_cell BK260.out 2).trans rfl
         have hcz20_3 : wc.cell? ⟨gb260, 3, none⟩ = some (.string a0_3) := (blk_cell BK260.out 3).trans rfl
         have hcz20_4 : wc.cell? ⟨gb260, 4, none⟩ = some (.bool a0_4) := (blk_cell BK260.out 4).trans rfl
         have hcz20_5 : wc.cell? ⟨gb260, 5, none⟩ = some (.bool a0_5) := (blk_cell BK260.out 5).trans rfl
         have hcz20_6 : wc.cell? ⟨gb260, 6, none⟩ = some (.string a0_6) := (blk_cell BK260.out 6).trans rfl
         have hfz20_0 := blk_frozen BK260.out 0
         have hfz20_1 := blk_frozen BK260.out 1
         have hfz20_2 := blk_frozen BK260.out 2
         have hfz20_3 := blk_frozen BK260.out 3
         have hfz20_4 := blk_frozen BK260.out 4
         have hfz20_5 := blk_frozen BK260.out 5
         have hfz20_6 := blk_frozen BK260.out 6
         go_wp2
         go_meet
         case rel => exact ⟨_, (true), (by first | rfl ), H', ⟨by have := HJ1.out; first | omega | exact Nat.le_refl _⟩, ⟨by exact BK260.out⟩, ⟨by exact HB.out⟩⟩
       · rw [if_neg c19] at H
         have c19b0 : (a0_2 == 14) = false := beq_eq_false_iff_ne.mpr c19
         have c19b1 : (a0_2 != 14) = true := bne_iff_ne.mpr c19
         (first | skip)
         have H' := Aside0.mk H
         clear H
         have hcz21_0 : wc.cell? ⟨gb260, 0, none⟩ = some (.string a0_0) := (blk_cell BK260.out 0).trans rfl
         have hcz21_1 : wc.cell? ⟨gb260, 1, none⟩ = some (.int .i64 a0_1) := (blk_cell BK260.out 1).trans rfl
         have hcz21_2 : wc.cell? ⟨gb260, 2, none⟩ = some (.int .i64 a0_2) := (blk_cell BK260.out 2).trans rfl
         have hcz21_3 : wc.cell? ⟨gb260, 3, none⟩ = some (.string a0_3) := (blk_cell BK260.out 3).trans rfl
         have hcz21_4 : wc.cell? ⟨gb260, 4, none⟩ = some (.bool a0_4) := (blk_cell BK260.out 4).trans rfl
         have hcz21_5 : wc.cell? ⟨gb260, 5, none⟩ = some (.bool a0_5) := (blk_cell BK260.out 5).trans rfl
         have hcz21_6 : wc.cell? ⟨gb260, 6, none⟩ = some (.string a0_6) := (blk_cell BK260.out 6).trans rfl
         have hfz21_0 := blk_frozen BK260.out 0
         have hfz21_1 := blk_frozen BK260.out 1
         have hfz21_2 := blk_frozen BK260.out 2
         have hfz21_3 := blk_frozen BK260.out 3
         have hfz21_4 := blk_frozen BK260.out 4
         have hfz21_5 := blk_frozen BK260.out 5
         have hfz21_6 := blk_frozen BK260.out 6
         go_wp2
         go_meet
         case rel => exact ⟨_, ((a0_2 == 15)), (by first | rfl ), H', ⟨by have := HJ1.out; first | omega | exact Nat.le_refl _⟩, ⟨by exact BK260.out⟩, ⟨by exact HB.out⟩⟩
      case rest =>
       clear HC18
       try clear c1
       try clear p2
       try clear c5
       try clear c6
       try clear c6b0
       try clear c6b1
       try clear c9
       try clear c17
       try clear c19
       try clear c19b0
       try clear c19b1
       try clear hcz11_0
       try clear hcz11_1
       try clear hcz11_2
       try clear hcz11_3
       try clear hcz11_4
       try clear hcz11_5
       try clear hcz11_6
       try clear hcz13_0
       try clear hcz13_1
       try clear hcz13_2
       try clear hcz13_3
       try clear hcz13_4
       try clear hcz13_5
       try clear hcz13_6
       try clear hcz15_0
       try clear hcz15_1
       try clear hcz15_2
       try clear hcz15_3
       try clear hcz15_4
       try clear hcz15_5
       try clear hcz15_6
       try clear hcz20_0
       try clear hcz20_1
       try clear hcz20_2
       try clear hcz20_3
       try clear hcz20_4
       try clear hcz20_5
       try clear hcz20_6
       try clear hcz21_0
       try clear hcz21_1
       try clear hcz21_2
       try clear hcz21_3
       try clear hcz21_4
       try clear hcz21_5
       try clear hcz21_6
       try clear hcz7_0
       try clear hcz7_1
       try clear hcz7_2
       try clear hcz7_3
       try clear hcz7_4
       try clear hcz7_5
       try clear hcz7_6
       try clear hcz9_0
       try clear hcz9_1
       try clear hcz9_2
       try clear hcz9_3
       try clear hcz9_4
       try clear hcz9_5
       try clear hcz9_6
       try clear hfz11_0
       try clear hfz11_1
       try clear hfz11_2
       try clear hfz11_3
       try clear hfz11_4
       try clear hfz11_5
       try clear hfz11_6
       try clear hfz13_0
       try clear hfz13_1
       try clear hfz13_2
       try clear hfz13_3
       try clear hfz13_4
       try clear hfz13_5
       try clear hfz13_6
       try clear hfz15_0
       try clear hfz15_1
       try clear hfz15_2
       try clear hfz15_3
       try clear hfz15_4
       try clear hfz15_5
       try clear hfz15_6
       try clear hfz20_0
       try clear hfz20_1
       try clear hfz20_2
       try clear hfz20_3
       try clear hfz20_4
       try clear hfz20_5
       try clear hfz20_6
       try clear hfz21_0
       try clear hfz21_1
       try clear hfz21_2
       try clear hfz21_3
       try clear hfz21_4
       try clear hfz21_5
       try clear hfz21_6
       try clear hfz7_0
       try clear hfz7_1
       try clear hfz7_2
       try clear hfz7_3
       try clear hfz7_4
       try clear hfz7_5
       try clear hfz7_6
       try clear hfz9_0
       try clear hfz9_1
       try clear hfz9_2
       try clear hfz9_3
       try clear hfz9_4
       try clear hfz9_5
       try clear hfz9_6
       try clear p2
       obtain ⟨kq, x25_17, rfl, HA, HJ17, BK260, HB⟩ := hcut
       cases kq with
       | zero => exact absurd HA.out (by simp [ecdysisref14_Check.j1])
       | succ kj17 =>
         have H := HA.out
         clear HA
         simp only [ecdysisref14_Check.j1] at H
         have HC22 := Aside0.mk H
         clear H
         go_upto_if 25 with (fail)
         go_cut [] (fun wc => ∃ (kq : Nat), Aside0 (ecdysisref14_Check.j2 kq a0_0 a0_1 a0_2 a0_3 a0_4 a0_5 a0_6 = some r) ∧ Aside0 (kq ≤ kj17) ∧ Aside0 (wc.heap[gb260]? = some (.cells #[.string a0_0, .int .i64 a0_1, .int .i64 a0_2, .string a0_3, .bool a0_4, .bool a0_5, .string a0_6] 50 (0, 0))) ∧ Aside0 (Below w.heap.size w wc))
         case first =>
          have H := HC22.out
          clear HC22
          by_cases c23 : x25_17 = true
          · subst c23
            have H1 : ((ecdysisref09_Right.f kj17 a0_3).bind fun t263 => (if t263 = true then (ecdysisref14_Check.j2 kj17 a0_0 a0_1 a0_2 a0_3 a0_4 a0_5 a0_6) else (some 2))) = some r := by rw [if_pos rfl] at H; exact H
            clear H
            have H := H1
            clear H1
            replace H := Option.bind_eq_some_iff.mp H
            obtain ⟨t263, A240, H⟩ := H
            replace H : (if t263 = true then (ecdysisref14_Check.j2 kj17 a0_0 a0_1 a0_2 a0_3 a0_4 a0_5 a0_6) else (some 2)) = some r := H
            have A24 := Aside0.mk A240
            clear A240
            by_cases c25 : t263 = true
            · subst c25
              have H1 : (ecdysisref14_Check.j2 kj17 a0_0 a0_1 a0_2 a0_3 a0_4 a0_5 a0_6) = some r := by rw [if_pos rfl] at H; exact H
              clear H
              have H := H1
              clear H1
              have H' := Aside0.mk H
              clear H
              have hcz26_0 : wc.cell? ⟨gb260, 0, none⟩ = some (.string a0_0) := (blk_cell BK260.out 0).trans rfl
              have hcz26_1 : wc.cell? ⟨gb260, 1, none⟩ = some (.int .i64 a0_1) := (blk_cell BK260.out 1).trans rfl
              have hcz26_2 : wc.cell? ⟨gb260, 2, none⟩ = some (.int .i64 a0_2) := (blk_cell BK260.out 2).trans rfl
              have hcz26_3 : wc.cell? ⟨gb260, 3, none⟩ = some (.string a0_3) := (blk_cell BK260.out 3).trans rfl
              have hcz26_4 : wc.cell? ⟨gb260, 4, none⟩ = some (.bool a0_4) := (blk_cell BK260.out 4).trans rfl
              have hcz26_5 : wc.cell? ⟨gb260, 5, none⟩ = some (.bool a0_5) := (blk_cell BK260.out 5).trans rfl
              have hcz26_6 : wc.cell? ⟨gb260, 6, none⟩ = some (.string a0_6) := (blk_cell BK260.out 6).trans rfl
              have hfz26_0 := blk_frozen BK260.out 0
              have hfz26_1 := blk_frozen BK260.out 1
              have hfz26_2 := blk_frozen BK260.out 2
              have hfz26_3 := blk_frozen BK260.out 3
              have hfz26_4 := blk_frozen BK260.out 4
              have hfz26_5 := blk_frozen BK260.out 5
              have hfz26_6 := blk_frozen BK260.out 6
              go_wp2_with (first | ((with_reducible refine gate_callee (f := 93) rfl ?_); refine goesL_ (some 28) rfl rfl Try.func93 (by kernel_rfl) rfl #[.string a0_3] rfl (by (try simp only [List.map_toArray, List.map_cons, List.map_nil]); first | done | rfl | (simp only [List.length_drop, List.length_take]; rfl)) ?_; (with_reducible refine (ecdysisref09_Right.calls kj17 a0_3 true _ A24.out).mono ?_); rintro e w27 ⟨rfl, hb⟩; refine ⟨_, rfl, ?_⟩; have n0_ := Aside0.mk (blk_below BK260.out hb); have n1_ := Aside0.mk (below_step HB.out hb); clear BK260; clear HB; have BK260 := n0_; have HB := n1_; clear n0_ n1_; (try clear hb); (try clear hb2); (try clear hk); (try clear hi)))
              go_meet
              case rel => exact ⟨_, H', ⟨by have := HJ1.out; have := HJ17.out; first | omega | exact Nat.le_refl _⟩, ⟨by exact BK260.out⟩, ⟨by exact HB.out⟩⟩
            · replace c25 := Bool.eq_false_iff.mpr c25
              subst c25
              have H1 : (some 2) = some r := by rw [if_neg (show ¬ (false = true) by decide)] at H; exact H
              clear H
              have H := H1
              clear H1
              obtain rfl := Option.some.inj H
              have hcz28_0 : wc.cell? ⟨gb260, 0, none⟩ = some (.string a0_0) := (blk_cell BK260.out 0).trans rfl
              have hcz28_1 : wc.cell? ⟨gb260, 1, none⟩ = some (.int .i64 a0_1) := (blk_cell BK260.out 1).trans rfl
              have hcz28_2 : wc.cell? ⟨gb260, 2, none⟩ = some (.int .i64 a0_2) := (blk_cell BK260.out 2).trans rfl
              have hcz28_3 : wc.cell? ⟨gb260, 3, none⟩ = some (.string a0_3) := (blk_cell BK260.out 3).trans rfl
              have hcz28_4 : wc.cell? ⟨gb260, 4, none⟩ = some (.bool a0_4) := (blk_cell BK260.out 4).trans rfl
              have hcz28_5 : wc.cell? ⟨gb260, 5, none⟩ = some (.bool a0_5) := (blk_cell BK260.out 5).trans rfl
              have hcz28_6 : wc.cell? ⟨gb260, 6, none⟩ = some (.string a0_6) := (blk_cell BK260.out 6).trans rfl
              have hfz28_0 := blk_frozen BK260.out 0
              have hfz28_1 := blk_frozen BK260.out 1
              have hfz28_2 := blk_frozen BK260.out 2
              have hfz28_3 := blk_frozen BK260.out 3
              have hfz28_4 := blk_frozen BK260.out 4
              have hfz28_5 := blk_frozen BK260.out 5
              have hfz28_6 := blk_frozen BK260.out 6
              go_wp2_with (first | ((with_reducible refine gate_callee (f := 93) rfl ?_); refine goesL_ (some 28) rfl rfl Try.func93 (by kernel_rfl) rfl #[.string a0_3] rfl (by (try simp only [List.map_toArray, List.map_cons, List.map_nil]); first | done | rfl | (simp only [List.length_drop, List.length_take]; rfl)) ?_; (with_reducible refine (ecdysisref09_Right.calls kj17 a0_3 false _ A24.out).mono ?_); rintro e w29 ⟨rfl, hb⟩; refine ⟨_, rfl, ?_⟩; have n0_ := Aside0.mk (blk_below BK260.out hb); have n1_ := Aside0.mk (below_step HB.out hb); clear BK260; clear HB; have BK260 := n0_; have HB := n1_; clear n0_ n1_; (try clear hb); (try clear hb2); (try clear hk); (try clear hi)))
              go_ret
              exact ⟨by first | rfl , by exact HB.out⟩
          · replace c23 := Bool.eq_false_iff.mpr c23
            subst c23
            have H1 : (if a0_3.toList = ([] : List UInt8) then (ecdysisref14_Check.j2 kj17 a0_0 a0_1 a0_2 a0_3 a0_4 a0_5 a0_6) else (some 2)) = some r := by rw [if_neg (show ¬ (false = true) by decide)] at H; exact H
            clear H
            have H := H1
            clear H1
            by_cases c30 : a0_3.toList = ([] : List UInt8)
            · rw [if_pos c30] at H
              have c30b0 : (a0_3.toList == ([] : List UInt8)) = true := beq_iff_eq.mpr c30
              have c30b1 : (a0_3.toList != ([] : List UInt8)) = false := bne_eq_false_iff_eq.mpr c30
              clear c30
              (first | skip)
              have H' := Aside0.mk H
              clear H
              have hcz31_0 : wc.cell? ⟨gb260, 0, none⟩ = some (.string a0_0) := (blk_cell BK260.out 0).trans rfl
              have hcz31_1 : wc.cell? ⟨gb260, 1, none⟩ = some (.int .i64 a0_1) := (blk_cell BK260.out 1).trans rfl
              have hcz31_2 : wc.cell? ⟨gb260, 2, none⟩ = some (.int .i64 a0_2) := (blk_cell BK260.out 2).trans rfl
              have hcz31_3 : wc.cell? ⟨gb260, 3, none⟩ = some (.string a0_3) := (blk_cell BK260.out 3).trans rfl
              have hcz31_4 : wc.cell? ⟨gb260, 4, none⟩ = some (.bool a0_4) := (blk_cell BK260.out 4).trans rfl
              have hcz31_5 : wc.cell? ⟨gb260, 5, none⟩ = some (.bool a0_5) := (blk_cell BK260.out 5).trans rfl
              have hcz31_6 : wc.cell? ⟨gb260, 6, none⟩ = some (.string a0_6) := (blk_cell BK260.out 6).trans rfl
              have hfz31_0 := blk_frozen BK260.out 0
              have hfz31_1 := blk_frozen BK260.out 1
              have hfz31_2 := blk_frozen BK260.out 2
              have hfz31_3 := blk_frozen BK260.out 3
              have hfz31_4 := blk_frozen BK260.out 4
              have hfz31_5 := blk_frozen BK260.out 5
              have hfz31_6 := blk_frozen BK260.out 6
              go_wp2
              go_meet
              case rel => exact ⟨_, H', ⟨by have := HJ1.out; have := HJ17.out; first | omega | exact Nat.le_refl _⟩, ⟨by exact BK260.out⟩, ⟨by exact HB.out⟩⟩
            · rw [if_neg c30] at H
              have c30b0 : (a0_3.toList == ([] : List UInt8)) = false := beq_eq_false_iff_ne.mpr c30
              have c30b1 : (a0_3.toList != ([] : List UInt8)) = true := bne_iff_ne.mpr c30
              (first | skip)
              obtain rfl := Option.some.inj H
              have hcz32_0 : wc.cell? ⟨gb260, 0, none⟩ = some (.string a0_0) := (blk_cell BK260.out 0).trans rfl
              have hcz32_1 : wc.cell? ⟨gb260, 1, none⟩ = some (.int .i64 a0_1) := (blk_cell BK260.out 1).trans rfl
              have hcz32_2 : wc.cell? ⟨gb260, 2, none⟩ = some (.int .i64 a0_2) := (blk_cell BK260.out 2).trans rfl
              have hcz32_3 : wc.cell? ⟨gb260, 3, none⟩ = some (.string a0_3) := (blk_cell BK260.out 3).trans rfl
              have hcz32_4 : wc.cell? ⟨gb260, 4, none⟩ = some (.bool a0_4) := (blk_cell BK260.out 4).trans rfl
              have hcz32_5 : wc.cell? ⟨gb260, 5, none⟩ = some (.bool a0_5) := (blk_cell BK260.out 5).trans rfl
              have hcz32_6 : wc.cell? ⟨gb260, 6, none⟩ = some (.string a0_6) := (blk_cell BK260.out 6).trans rfl
              have hfz32_0 := blk_frozen BK260.out 0
              have hfz32_1 := blk_frozen BK260.out 1
              have hfz32_2 := blk_frozen BK260.out 2
              have hfz32_3 := blk_frozen BK260.out 3
              have hfz32_4 := blk_frozen BK260.out 4
              have hfz32_5 := blk_frozen BK260.out 5
              have hfz32_6 := blk_frozen BK260.out 6
              go_wp2
              go_ret
              exact ⟨by first | rfl , by exact HB.out⟩
         case rest =>
          clear HC22
          try clear c1
          try clear c2
          try clear p2
          try clear c3
          try clear c5
          try clear c6
          try clear c6b0
          try clear c6b1
          try clear c9
          try clear c17
          try clear c19
          try clear c19b0
          try clear c19b1
          try clear c23
          try clear c25
          try clear c30
          try clear c30b0
          try clear c30b1
          try clear hcz11_0
          try clear hcz11_1
          try clear hcz11_2
          try clear hcz11_3
          try clear hcz11_4
          try clear hcz11_5
          try clear hcz11_6
          try clear hcz13_0
          try clear hcz13_1
          try clear hcz13_2
          try clear hcz13_3
          try clear hcz13_4
          try clear hcz13_5
          try clear hcz13_6
          try clear hcz15_0
          try clear hcz15_1
          try clear hcz15_2
          try clear hcz15_3
          try clear hcz15_4
          try clear hcz15_5
          try clear hcz15_6
          try clear hcz20_0
          try clear hcz20_1
          try clear hcz20_2
          try clear hcz20_3
          try clear hcz20_4
          try clear hcz20_5
          try clear hcz20_6
          try clear hcz21_0
          try clear hcz21_1
          try clear hcz21_2
          try clear hcz21_3
          try clear hcz21_4
          try clear hcz21_5
          try clear hcz21_6
          try clear hcz26_0
          try clear hcz26_1
          try clear hcz26_2
          try clear hcz26_3
          try clear hcz26_4
          try clear hcz26_5
          try clear hcz26_6
          try clear hcz28_0
          try clear hcz28_1
          try clear hcz28_2
          try clear hcz28_3
          try clear hcz28_4
          try clear hcz28_5
          try clear hcz28_6
          try clear hcz31_0
          try clear hcz31_1
          try clear hcz31_2
          try clear hcz31_3
          try clear hcz31_4
          try clear hcz31_5
          try clear hcz31_6
          try clear hcz32_0
          try clear hcz32_1
          try clear hcz32_2
          try clear hcz32_3
          try clear hcz32_4
          try clear hcz32_5
          try clear hcz32_6
          try clear hcz7_0
          try clear hcz7_1
          try clear hcz7_2
          try clear hcz7_3
          try clear hcz7_4
          try clear hcz7_5
          try clear hcz7_6
          try clear hcz9_0
          try clear hcz9_1
          try clear hcz9_2
          try clear hcz9_3
          try clear hcz9_4
          try clear hcz9_5
          try clear hcz9_6
          try clear hfz11_0
          try clear hfz11_1
          try clear hfz11_2
          try clear hfz11_3
          try clear hfz11_4
          try clear hfz11_5
          try clear hfz11_6
          try clear hfz13_0
          try clear hfz13_1
          try clear hfz13_2
          try clear hfz13_3
          try clear hfz13_4
          try clear hfz13_5
          try clear hfz13_6
          try clear hfz15_0
          try clear hfz15_1
          try clear hfz15_2
          try clear hfz15_3
          try clear hfz15_4
          try clear hfz15_5
          try clear hfz15_6
          try clear hfz20_0
          try clear hfz20_1
          try clear hfz20_2
          try clear hfz20_3
          try clear hfz20_4
          try clear hfz20_5
          try clear hfz20_6
          try clear hfz21_0
          try clear hfz21_1
          try clear hfz21_2
          try clear hfz21_3
          try clear hfz21_4
          try clear hfz21_5
          try clear hfz21_6
          try clear hfz26_0
          try clear hfz26_1
          try clear hfz26_2
          try clear hfz26_3
          try clear hfz26_4
          try clear hfz26_5
          try clear hfz26_6
          try clear hfz28_0
          try clear hfz28_1
          try clear hfz28_2
          try clear hfz28_3
          try clear hfz28_4
          try clear hfz28_5
          try clear hfz28_6
          try clear hfz31_0
          try clear hfz31_1
          try clear hfz31_2
          try clear hfz31_3
          try clear hfz31_4
          try clear hfz31_5
          try clear hfz31_6
          try clear hfz32_0
          try clear hfz32_1
          try clear hfz32_2
          try clear hfz32_3
          try clear hfz32_4
          try clear hfz32_5
          try clear hfz32_6
          try clear hfz7_0
          try clear hfz7_1
          try clear hfz7_2
          try clear hfz7_3
          try clear hfz7_4
          try clear hfz7_5
          try clear hfz7_6
          try clear hfz9_0
          try clear hfz9_1
          try clear hfz9_2
          try clear hfz9_3
          try clear hfz9_4
          try clear hfz9_5
          try clear hfz9_6
          try clear p2
          obtain ⟨kq, HA, HJ21, BK260, HB⟩ := hcut
          cases kq with
          | zero => exact absurd HA.out (by simp [ecdysisref14_Check.j2])
          | succ kj21 =>
            have H := HA.out
            clear HA
            simp only [ecdysisref14_Check.j2] at H
            have HC33 := Aside0.mk H
            clear H
            go_upto_region 8 with (fail)
            go_cut [55] (fun v55 wc => ∃ (kq : Nat) (x55_32 : Bool), v55 = .bool x55_32 ∧ Aside0 (ecdysisref14_Check.j3 kq x55_32 a0_0 a0_1 a0_2 a0_3 a0_4 a0_5 a0_6 = some r) ∧ Aside0 (kq ≤ kj21) ∧ Aside0 (wc.heap[gb260]? = some (.cells #[.string a0_0, .int .i64 a0_1, .int .i64 a0_2, .string a0_3, .bool a0_4, .bool a0_5, .string a0_6] 50 (0, 0))) ∧ Aside0 (Below w.heap.size w wc))
            case first =>
              have H := HC33.out
              clear HC33
              replace H := Option.bind_eq_some_iff.mp H
              obtain ⟨t264, A340, H⟩ := H
              replace H : (if t264 = true then (if a0_2 < 1 then (ecdysisref14_Check.j3 kj21 true a0_0 a0_1 a0_2 a0_3 a0_4 a0_5 a0_6) else (if a0_2 > 15 then (ecdysisref14_Check.j3 kj21 true a0_0 a0_1 a0_2 a0_3 a0_4 a0_5 a0_6) else (if a0_4 = true then (ecdysisref14_Check.j3 kj21 (a0_6.toList != ([] : List UInt8)) a0_0 a0_1 a0_2 a0_3 a0_4 a0_5 a0_6) else (ecdysisref14_Check.j3 kj21 false a0_0 a0_1 a0_2 a0_3 a0_4 a0_5 a0_6)))) else (ecdysisref14_Check.j3 kj21 true a0_0 a0_1 a0_2 a0_3 a0_4 a0_5 a0_6)) = some r := H
              have A34 := Aside0.mk A340
              clear A340
              by_cases c35 : t264 = true
              · subst c35
                have H1 : (if a0_2 < 1 then (ecdysisref14_Check.j3 kj21 true a0_0 a0_1 a0_2 a0_3 a0_4 a0_5 a0_6) else (if a0_2 > 15 then (ecdysisref14_Check.j3 kj21 true a0_0 a0_1 a0_2 a0_3 a0_4 a0_5 a0_6) else (if a0_4 = true then (ecdysisref14_Check.j3 kj21 (a0_6.toList != ([] : List UInt8)) a0_0 a0_1 a0_2 a0_3 a0_4 a0_5 a0_6) else (ecdysisref14_Check.j3 kj21 false a0_0 a0_1 a0_2 a0_3 a0_4 a0_5 a0_6)))) = some r := by rw [if_pos rfl] at H; exact H
                clear H
                have H := H1
                clear H1
                by_cases c36 : a0_2 < 1
                · rw [if_pos c36] at H
                  have c36b0 : decide (a0_2 < 1) = true := decide_eq_true c36
                  clear c36
                  (first | skip)
                  have H' := Aside0.mk H
                  clear H
                  have hcz37_0 : wc.cell? ⟨gb260, 0, none⟩ = some (.string a0_0) := (blk_cell BK260.out 0).trans rfl
                  have hcz37_1 : wc.cell? ⟨gb260, 1, none⟩ = some (.int .i64 a0_1) := (blk_cell BK260.out 1).trans rfl
                  have hcz37_2 : wc.cell? ⟨gb260, 2, none⟩ = some (.int .i64 a0_2) := (blk_cell BK260.out 2).trans rfl
                  have hcz37_3 : wc.cell? ⟨gb260, 3, none⟩ = some (.string a0_3) := (blk_cell BK260.out 3).trans rfl
                  have hcz37_4 : wc.cell? ⟨gb260, 4, none⟩ = some (.bool a0_4) := (blk_cell BK260.out 4).trans rfl
                  have hcz37_5 : wc.cell? ⟨gb260, 5, none⟩ = some (.bool a0_5) := (blk_cell BK260.out 5).trans rfl
                  have hcz37_6 : wc.cell? ⟨gb260, 6, none⟩ = some (.string a0_6) := (blk_cell BK260.out 6).trans rfl
                  have hfz37_0 := blk_frozen BK260.out 0
                  have hfz37_1 := blk_frozen BK260.out 1
                  have hfz37_2 := blk_frozen BK260.out 2
                  have hfz37_3 := blk_frozen BK260.out 3
                  have hfz37_4 := blk_frozen BK260.out 4
                  have hfz37_5 := blk_frozen BK260.out 5
                  have hfz37_6 := blk_frozen BK260.out 6
                  go_wp2_with (first | ((with_reducible refine gate_callee (f := 81) rfl ?_); refine goesL_ (some 35) rfl rfl Try.func81 (by kernel_rfl) rfl #[.int .i64 a0_1] rfl (by (try simp only [List.map_toArray, List.map_cons, List.map_nil]); first | done | rfl | (simp only [List.length_drop, List.length_take]; rfl)) ?_; (with_reducible refine (ecdysisref04_Field.calls a0_1 true _ A34.out).mono ?_); rintro e w' ⟨rfl, ⟨nd, rfl⟩⟩; refine ⟨_, rfl, ?_⟩))
                  go_meet
                  case rel => exact ⟨_, (true), (by first | rfl ), H', ⟨by have := HJ1.out; have := HJ17.out; have := HJ21.out; first | omega | exact Nat.le_refl _⟩, ⟨by (with_reducible repeat (first | refine blk_drewN ?_ _ )); exact BK260.out⟩, ⟨by repeat (first | (with_reducible first | exact HB.out | apply pw_below_drewN ) )⟩⟩
                · rw [if_neg c36] at H
                  have c36b0 : decide (a0_2 < 1) = false := decide_eq_false c36
                  clear c36
                  (first | skip)
                  by_cases c38 : a0_2 > 15
                  · rw [if_pos c38] at H
                    have c38b0 : decide (15 < a0_2) = true := decide_eq_true c38
                    clear c38
                    have H' := Aside0.mk H
                    clear H
                    have hcz39_0 : wc.cell? ⟨gb260, 0, none⟩ = some (.string a0_0) := (blk_cell BK260.out 0).trans rfl
                    have hcz39_1 : wc.cell? ⟨gb260, 1, none⟩ = some (.int .i64 a0_1) := (blk_cell BK260.out 1).trans rfl
                    have hcz39_2 : wc.cell? ⟨gb260, 2, none⟩ = some (.int .i64 a0_2) := (blk_cell BK260.out 2).trans rfl
                    have hcz39_3 : wc.cell? ⟨gb260, 3, none⟩ = some (.string a0_3) := (blk_cell BK260.out 3).trans rfl
                    have hcz39_4 : wc.cell? ⟨gb260, 4, none⟩ = some (.bool a0_4) := (blk_cell BK260.out 4).trans rfl
                    have hcz39_5 : wc.cell? ⟨gb260, 5, none⟩ = some (.bool a0_5) := (blk_cell BK260.out 5).trans rfl
                    have hcz39_6 : wc.cell? ⟨gb260, 6, none⟩ = some (.string a0_6) := (blk_cell BK260.out 6).trans rfl
                    have hfz39_0 := blk_frozen BK260.out 0
                    have hfz39_1 := blk_frozen BK260.out 1
                    have hfz39_2 := blk_frozen BK260.out 2
                    have hfz39_3 := blk_frozen BK260.out 3
                    have hfz39_4 := blk_frozen BK260.out 4
                    have hfz39_5 := blk_frozen BK260.out 5
                    have hfz39_6 := blk_frozen BK260.out 6
                    go_wp2_with (first | ((with_reducible refine gate_callee (f := 81) rfl ?_); refine goesL_ (some 35) rfl rfl Try.func81 (by kernel_rfl) rfl #[.int .i64 a0_1] rfl (by (try simp only [List.map_toArray, List.map_cons, List.map_nil]); first | done | rfl | (simp only [List.length_drop, List.length_take]; rfl)) ?_; (with_reducible refine (ecdysisref04_Field.calls a0_1 true _ A34.out).mono ?_); rintro e w' ⟨rfl, ⟨nd, rfl⟩⟩; refine ⟨_, rfl, ?_⟩))
                    go_meet
                    case rel => exact ⟨_, (true), (by first | rfl ), H', ⟨by have := HJ1.out; have := HJ17.out; have := HJ21.out; first | omega | exact Nat.le_refl _⟩, ⟨by (with_reducible repeat (first | refine blk_drewN ?_ _ )); exact BK260.out⟩, ⟨by repeat (first | (with_reducible first | exact HB.out | apply pw_below_drewN ) )⟩⟩
                  · rw [if_neg c38] at H
                    have c38b0 : decide (15 < a0_2) = false := decide_eq_false c38
                    clear c38
                    by_cases c40 : a0_4 = true
                    · subst c40
                      have H1 : (ecdysisref14_Check.j3 kj21 (a0_6.toList != ([] : List UInt8)) a0_0 a0_1 a0_2 a0_3 true a0_5 a0_6) = some r := by rw [if_pos rfl] at H; exact H
                      clear H
                      have H := H1
                      clear H1
                      have H' := Aside0.mk H
                      clear H
                      have hcz41_0 : wc.cell? ⟨gb260, 0, none⟩ = some (.string a0_0) := (blk_cell BK260.out 0).trans rfl
                      have hcz41_1 : wc.cell? ⟨gb260, 1, none⟩ = some (.int .i64 a0_1) := (blk_cell BK260.out 1).trans rfl
                      have hcz41_2 : wc.cell? ⟨gb260, 2, none⟩ = some (.int .i64 a0_2) := (blk_cell BK260.out 2).trans rfl
                      have hcz41_3 : wc.cell? ⟨gb260, 3, none⟩ = some (.string a0_3) := (blk_cell BK260.out 3).trans rfl
                      have hcz41_4 : wc.cell? ⟨gb260, 4, none⟩ = some (.bool true) := (blk_cell BK260.out 4).trans rfl
                      have hcz41_5 : wc.cell? ⟨gb260, 5, none⟩ = some (.bool a0_5) := (blk_cell BK260.out 5).trans rfl
                      have hcz41_6 : wc.cell? ⟨gb260, 6, none⟩ = some (.string a0_6) := (blk_cell BK260.out 6).trans rfl
                      have hfz41_0 := blk_frozen BK260.out 0
                      have hfz41_1 := blk_frozen BK260.out 1
                      have hfz41_2 := blk_frozen BK260.out 2
                      have hfz41_3 := blk_frozen BK260.out 3
                      have hfz41_4 := blk_frozen BK260.out 4
                      have hfz41_5 := blk_frozen BK260.out 5
                      have hfz41_6 := blk_frozen BK260.out 6
                      go_wp2_with (first | ((with_reducible refine gate_callee (f := 81) rfl ?_); refine goesL_ (some 35) rfl rfl Try.func81 (by kernel_rfl) rfl #[.int .i64 a0_1] rfl (by (try simp only [List.map_toArray, List.map_cons, List.map_nil]); first | done | rfl | (simp only [List.length_drop, List.length_take]; rfl)) ?_; (with_reducible refine (ecdysisref04_Field.calls a0_1 true _ A34.out).mono ?_); rintro e w' ⟨rfl, ⟨nd, rfl⟩⟩; refine ⟨_, rfl, ?_⟩))
                      go_meet
                      case rel => exact ⟨_, ((a0_6.toList != ([] : List UInt8))), (by first | (simp; exact isEmpty_ne16 _)), H', ⟨by have := HJ1.out; have := HJ17.out; have := HJ21.out; first | omega | exact Nat.le_refl _⟩, ⟨by (with_reducible repeat (first | refine blk_drewN ?_ _ )); exact BK260.out⟩, ⟨by repeat (first | (with_reducible first | exact HB.out | apply pw_below_drewN ) )⟩⟩
                    · replace c40 := Bool.eq_false_iff.mpr c40
                      subst c40
                      have H1 : (ecdysisref14_Check.j3 kj21 false a0_0 a0_1 a0_2 a0_3 false a0_5 a0_6) = some r := by rw [if_neg (show ¬ (false = true) by decide)] at H; exact H
                      clear H
                      have H := H1
                      clear H1
                      have H' := Aside0.mk H
                      clear H
                      have hcz42_0 : wc.cell? ⟨gb260, 0, none⟩ = some (.string a0_0) := (blk_cell BK260.out 0).trans rfl
                      have hcz42_1 : wc.cell? ⟨gb260, 1, none⟩ = some (.int .i64 a0_1) := (blk_cell BK260.out 1).trans rfl
                      have hcz42_2 : wc.cell? ⟨gb260, 2, none⟩ = some (.int .i64 a0_2) := (blk_cell BK260.out 2).trans rfl
                      have hcz42_3 : wc.cell? ⟨gb260, 3, none⟩ = some (.string a0_3) := (blk_cell BK260.out 3).trans rfl
                      have hcz42_4 : wc.cell? ⟨gb260, 4, none⟩ = some (.bool false) := (blk_cell BK260.out 4).trans rfl
                      have hcz42_5 : wc.cell? ⟨gb260, 5, none⟩ = some (.bool a0_5) := (blk_cell BK260.out 5).trans rfl
                      have hcz42_6 : wc.cell? ⟨gb260, 6, none⟩ = some (.string a0_6) := (blk_cell BK260.out 6).trans rfl
                      have hfz42_0 := blk_frozen BK260.out 0
                      have hfz42_1 := blk_frozen BK260.out 1
                      have hfz42_2 := blk_frozen BK260.out 2
                      have hfz42_3 := blk_frozen BK260.out 3
                      have hfz42_4 := blk_frozen BK260.out 4
                      have hfz42_5 := blk_frozen BK260.out 5
                      have hfz42_6 := blk_frozen BK260.out 6
                      go_wp2_with (first | ((with_reducible refine gate_callee (f := 81) rfl ?_); refine goesL_ (some 35) rfl rfl Try.func81 (by kernel_rfl) rfl #[.int .i64 a0_1] rfl (by (try simp only [List.map_toArray, List.map_cons, List.map_nil]); first | done | rfl | (simp only [List.length_drop, List.length_take]; rfl)) ?_; (with_reducible refine (ecdysisref04_Field.calls a0_1 true _ A34.out).mono ?_); rintro e w' ⟨rfl, ⟨nd, rfl⟩⟩; refine ⟨_, rfl, ?_⟩))
                      go_meet
                      case rel => exact ⟨_, (false), (by first | rfl ), H', ⟨by have := HJ1.out; have := HJ17.out; have := HJ21.out; first | omega | exact Nat.le_refl _⟩, ⟨by (with_reducible repeat (first | refine blk_drewN ?_ _ )); exact BK260.out⟩, ⟨by repeat (first | (with_reducible first | exact HB.out | apply pw_below_drewN ) )⟩⟩
              · replace c35 := Bool.eq_false_iff.mpr c35
                subst c35
                have H1 : (ecdysisref14_Check.j3 kj21 true a0_0 a0_1 a0_2 a0_3 a0_4 a0_5 a0_6) = some r := by rw [if_neg (show ¬ (false = true) by decide)] at H; exact H
                clear H
                have H := H1
                clear H1
                have H' := Aside0.mk H
                clear H
                have hcz43_0 : wc.cell? ⟨gb260, 0, none⟩ = some (.string a0_0) := (blk_cell BK260.out 0).trans rfl
                have hcz43_1 : wc.cell? ⟨gb260, 1, none⟩ = some (.int .i64 a0_1) := (blk_cell BK260.out 1).trans rfl
                have hcz43_2 : wc.cell? ⟨gb260, 2, none⟩ = some (.int .i64 a0_2) := (blk_cell BK260.out 2).trans rfl
                have hcz43_3 : wc.cell? ⟨gb260, 3, none⟩ = some (.string a0_3) := (blk_cell BK260.out 3).trans rfl
                have hcz43_4 : wc.cell? ⟨gb260, 4, none⟩ = some (.bool a0_4) := (blk_cell BK260.out 4).trans rfl
                have hcz43_5 : wc.cell? ⟨gb260, 5, none⟩ = some (.bool a0_5) := (blk_cell BK260.out 5).trans rfl
                have hcz43_6 : wc.cell? ⟨gb260, 6, none⟩ = some (.string a0_6) := (blk_cell BK260.out 6).trans rfl
                have hfz43_0 := blk_frozen BK260.out 0
                have hfz43_1 := blk_frozen BK260.out 1
                have hfz43_2 := blk_frozen BK260.out 2
                have hfz43_3 := blk_frozen BK260.out 3
                have hfz43_4 := blk_frozen BK260.out 4
                have hfz43_5 := blk_frozen BK260.out 5
                have hfz43_6 := blk_frozen BK260.out 6
                go_wp2_with (first | ((with_reducible refine gate_callee (f := 81) rfl ?_); refine goesL_ (some 35) rfl rfl Try.func81 (by kernel_rfl) rfl #[.int .i64 a0_1] rfl (by (try simp only [List.map_toArray, List.map_cons, List.map_nil]); first | done | rfl | (simp only [List.length_drop, List.length_take]; rfl)) ?_; (with_reducible refine (ecdysisref04_Field.calls a0_1 false _ A34.out).mono ?_); rintro e w' ⟨rfl, ⟨nd, rfl⟩⟩; refine ⟨_, rfl, ?_⟩))
                go_meet
                case rel => exact ⟨_, (true), (by first | rfl ), H', ⟨by have := HJ1.out; have := HJ17.out; have := HJ21.out; first | omega | exact Nat.le_refl _⟩, ⟨by (with_reducible repeat (first | refine blk_drewN ?_ _ )); exact BK260.out⟩, ⟨by repeat (first | (with_reducible first | exact HB.out | apply pw_below_drewN ) )⟩⟩
            case rest =>
              clear HC33
              try clear c1
              try clear c2
              try clear p2
              try clear c3
              try clear c4
              try clear c5
              try clear c6
              try clear c6b0
              try clear c6b1
              try clear c8
              try clear c9
              try clear c17
              try clear c19
              try clear c19b0
              try clear c19b1
              try clear c23
              try clear c25
              try clear c30
              try clear c30b0
              try clear c30b1
              try clear c35
              try clear c36
              try clear c36b0
              try clear c38
              try clear c38b0
              try clear c40
              try clear hcz11_0
              try clear hcz11_1
              try clear hcz11_2
              try clear hcz11_3
              try clear hcz11_4
              try clear hcz11_5
              try clear hcz11_6
              try clear hcz13_0
              try clear hcz13_1
              try clear hcz13_2
              try clear hcz13_3
              try clear hcz13_4
              try clear hcz13_5
              try clear hcz13_6
              try clear hcz15_0
              try clear hcz15_1
              try clear hcz15_2
              try clear hcz15_3
              try clear hcz15_4
              try clear hcz15_5
              try clear hcz15_6
              try clear hcz20_0
              try clear hcz20_1
              try clear hcz20_2
              try clear hcz20_3
              try clear hcz20_4
              try clear hcz20_5
              try clear hcz20_6
              try clear hcz21_0
              try clear hcz21_1
              try clear hcz21_2
              try clear hcz21_3
              try clear hcz21_4
              try clear hcz21_5
              try clear hcz21_6
              try clear hcz26_0
              try clear hcz26_1
              try clear hcz26_2
              try clear hcz26_3
              try clear hcz26_4
              try clear hcz26_5
              try clear hcz26_6
              try clear hcz28_0
              try clear hcz28_1
              try clear hcz28_2
              try clear hcz28_3
              try clear hcz28_4
              try clear hcz28_5
              try clear hcz28_6
              try clear hcz31_0
              try clear hcz31_1
              try clear hcz31_2
              try clear hcz31_3
              try clear hcz31_4
              try clear hcz31_5
              try clear hcz31_6
              try clear hcz32_0
              try clear hcz32_1
              try clear hcz32_2
              try clear hcz32_3
              try clear hcz32_4
              try clear hcz32_5
              try clear hcz32_6
              try clear hcz37_0
              try clear hcz37_1
              try clear hcz37_2
              try clear hcz37_3
              try clear hcz37_4
              try clear hcz37_5
              try clear hcz37_6
              try clear hcz39_0
              try clear hcz39_1
              try clear hcz39_2
              try clear hcz39_3
              try clear hcz39_4
              try clear hcz39_5
              try clear hcz39_6
              try clear hcz41_0
              try clear hcz41_1
              try clear hcz41_2
              try clear hcz41_3
              try clear hcz41_4
              try clear hcz41_5
              try clear hcz41_6
              try clear hcz42_0
              try clear hcz42_1
              try clear hcz42_2
              try clear hcz42_3
              try clear hcz42_4
              try clear hcz42_5
              try clear hcz42_6
              try clear hcz43_0
              try clear hcz43_1
              try clear hcz43_2
              try clear hcz43_3
              try clear hcz43_4
              try clear hcz43_5
              try clear hcz43_6
              try clear hcz7_0
              try clear hcz7_1
              try clear hcz7_2
              try clear hcz7_3
              try clear hcz7_4
              try clear hcz7_5
              try clear hcz7_6
              try clear hcz9_0
              try clear hcz9_1
              try clear hcz9_2
              try clear hcz9_3
              try clear hcz9_4
              try clear hcz9_5
              try clear hcz9_6
              try clear hfz11_0
              try clear hfz11_1
              try clear hfz11_2
              try clear hfz11_3
              try clear hfz11_4
              try clear hfz11_5
              try clear hfz11_6
              try clear hfz13_0
              try clear hfz13_1
              try clear hfz13_2
              try clear hfz13_3
              try clear hfz13_4
              try clear hfz13_5
              try clear hfz13_6
              try clear hfz15_0
              try clear hfz15_1
              try clear hfz15_2
              try clear hfz15_3
              try clear hfz15_4
              try clear hfz15_5
              try clear hfz15_6
              try clear hfz20_0
              try clear hfz20_1
              try clear hfz20_2
              try clear hfz20_3
              try clear hfz20_4
              try clear hfz20_5
              try clear hfz20_6
              try clear hfz21_0
              try clear hfz21_1
              try clear hfz21_2
              try clear hfz21_3
              try clear hfz21_4
              try clear hfz21_5
              try clear hfz21_6
              try clear hfz26_0
              try clear hfz26_1
              try clear hfz26_2
              try clear hfz26_3
              try clear hfz26_4
              try clear hfz26_5
              try clear hfz26_6
              try clear hfz28_0
              try clear hfz28_1
              try clear hfz28_2
              try clear hfz28_3
              try clear hfz28_4
              try clear hfz28_5
              try clear hfz28_6
              try clear hfz31_0
              try clear hfz31_1
              try clear hfz31_2
              try clear hfz31_3
              try clear hfz31_4
              try clear hfz31_5
              try clear hfz31_6
              try clear hfz32_0
              try clear hfz32_1
              try clear hfz32_2
              try clear hfz32_3
              try clear hfz32_4
              try clear hfz32_5
              try clear hfz32_6
              try clear hfz37_0
              try clear hfz37_1
              try clear hfz37_2
              try clear hfz37_3
              try clear hfz37_4
              try clear hfz37_5
              try clear hfz37_6
              try clear hfz39_0
              try clear hfz39_1
              try clear hfz39_2
              try clear hfz39_3
              try clear hfz39_4
              try clear hfz39_5
              try clear hfz39_6
              try clear hfz41_0
              try clear hfz41_1
              try clear hfz41_2
              try clear hfz41_3
              try clear hfz41_4
              try clear hfz41_5
              try clear hfz41_6
              try clear hfz42_0
              try clear hfz42_1
              try clear hfz42_2
              try clear hfz42_3
              try clear hfz42_4
              try clear hfz42_5
              try clear hfz42_6
              try clear hfz43_0
              try clear hfz43_1
              try clear hfz43_2
              try clear hfz43_3
              try clear hfz43_4
              try clear hfz43_5
              try clear hfz43_6
              try clear hfz7_0
              try clear hfz7_1
              try clear hfz7_2
              try clear hfz7_3
              try clear hfz7_4
              try clear hfz7_5
              try clear hfz7_6
              try clear hfz9_0
              try clear hfz9_1
              try clear hfz9_2
              try clear hfz9_3
              try clear hfz9_4
              try clear hfz9_5
              try clear hfz9_6
              try clear p2
              obtain ⟨kq, x55_32, rfl, HA, HJ32, BK260, HB⟩ := hcut
              cases kq with
              | zero => exact absurd HA.out (by simp [ecdysisref14_Check.j3])
              | succ kj32 =>
                have H := HA.out
                clear HA
                simp only [ecdysisref14_Check.j3] at H
                by_cases c44 : x55_32 = true
                · subst c44
                  have H1 : (some 1) = some r := by rw [if_pos rfl] at H; exact H
                  clear H
                  have H := H1
                  clear H1
                  obtain rfl := Option.some.inj H
                  go_wp2
                  go_ret
                  exact ⟨by first | rfl , by exact HB.out⟩
                · replace c44 := Bool.eq_false_iff.mpr c44
                  subst c44
                  have H1 : (if a0_5 = true then (if a0_4 = true then ((ecdysisref11_Number.f a0_2).bind fun t265 => (if t265 = true then (some 0) else (some 1))) else (some 1)) else (some 0)) = some r := by rw [if_neg (show ¬ (false = true) by decide)] at H; exact H
                  clear H
                  have H := H1
                  clear H1
                  by_cases c45 : a0_5 = true
                  · subst c45
                    have H1 : (if a0_4 = true then ((ecdysisref11_Number.f a0_2).bind fun t265 => (if t265 = true then (some 0) else (some 1))) else (some 1)) = some r := by rw [if_pos rfl] at H; exact H
                    clear H
                    have H := H1
                    clear H1
                    by_cases c46 : a0_4 = true
                    · subst c46
                      have H1 : ((ecdysisref11_Number.f a0_2).bind fun t265 => (if t265 = true then (some 0) else (some 1))) = some r := by rw [if_pos rfl] at H; exact H
                      clear H
                      have H := H1
                      clear H1
                      replace H := Option.bind_eq_some_iff.mp H
                      obtain ⟨t265, A470, H⟩ := H
                      replace H : (if t265 = true then (some 0) else (some 1)) = some r := H
                      have A47 := Aside0.mk A470
                      clear A470
                      by_cases c48 : t265 = true
                      · subst c48
                        have H1 : (some 0) = some r := by rw [if_pos rfl] at H; exact H
                        clear H
                        have H := H1
                        clear H1
                        obtain rfl := Option.some.inj H
                        have hcz49_0 : wc.cell? ⟨gb260, 0, none⟩ = some (.string a0_0) := (blk_cell BK260.out 0).trans rfl
                        have hcz49_1 : wc.cell? ⟨gb260, 1, none⟩ = some (.int .i64 a0_1) := (blk_cell BK260.out 1).trans rfl
                        have hcz49_2 : wc.cell? ⟨gb260, 2, none⟩ = some (.int .i64 a0_2) := (blk_cell BK260.out 2).trans rfl
                        have hcz49_3 : wc.cell? ⟨gb260, 3, none⟩ = some (.string a0_3) := (blk_cell BK260.out 3).trans rfl
                        have hcz49_4 : wc.cell? ⟨gb260, 4, none⟩ = some (.bool true) := (blk_cell BK260.out 4).trans rfl
                        have hcz49_5 : wc.cell? ⟨gb260, 5, none⟩ = some (.bool true) := (blk_cell BK260.out 5).trans rfl
                        have hcz49_6 : wc.cell? ⟨gb260, 6, none⟩ = some (.string a0_6) := (blk_cell BK260.out 6).trans rfl
                        have hfz49_0 := blk_frozen BK260.out 0
                        have hfz49_1 := blk_frozen BK260.out 1
                        have hfz49_2 := blk_frozen BK260.out 2
                        have hfz49_3 := blk_frozen BK260.out 3
                        have hfz49_4 := blk_frozen BK260.out 4
                        have hfz49_5 := blk_frozen BK260.out 5
                        have hfz49_6 := blk_frozen BK260.out 6
                        go_wp2_with (first | (go_at_call 108; (with_reducible refine (ecdysisref11_Number.calls a0_2 true _ A47.out).mono ?_); rintro e w' ⟨rfl, ⟨nd, rfl⟩⟩))
                        go_ret
                        exact ⟨by first | rfl , by repeat (first | (with_reducible first | exact HB.out | apply pw_below_drewN ) )⟩
                      · replace c48 := Bool.eq_false_iff.mpr c48
                        subst c48
                        have H1 : (some 1) = some r := by rw [if_neg (show ¬ (false = true) by decide)] at H; exact H
                        clear H
                        have H := H1
                        clear H1
                        obtain rfl := Option.some.inj H
                        have hcz50_0 : wc.cell? ⟨gb260, 0, none⟩ = some (.string a0_0) := (blk_cell BK260.out 0).trans rfl
                        have hcz50_1 : wc.cell? ⟨gb260, 1, none⟩ = some (.int .i64 a0_1) := (blk_cell BK260.out 1).trans rfl
                        have hcz50_2 : wc.cell? ⟨gb260, 2, none⟩ = some (.int .i64 a0_2) := (blk_cell BK260.out 2).trans rfl
                        have hcz50_3 : wc.cell? ⟨gb260, 3, none⟩ = some (.string a0_3) := (blk_cell BK260.out 3).trans rfl
                        have hcz50_4 : wc.cell? ⟨gb260, 4, none⟩ = some (.bool true) := (blk_cell BK260.out 4).trans rfl
                        have hcz50_5 : wc.cell? ⟨gb260, 5, none⟩ = some (.bool true) := (blk_cell BK260.out 5).trans rfl
                        have hcz50_6 : wc.cell? ⟨gb260, 6, none⟩ = some (.string a0_6) := (blk_cell BK260.out 6).trans rfl
                        have hfz50_0 := blk_frozen BK260.out 0
                        have hfz50_1 := blk_frozen BK260.out 1
                        have hfz50_2 := blk_frozen BK260.out 2
                        have hfz50_3 := blk_frozen BK260.out 3
                        have hfz50_4 := blk_frozen BK260.out 4
                        have hfz50_5 := blk_frozen BK260.out 5
                        have hfz50_6 := blk_frozen BK260.out 6
                        go_wp2_with (first | (go_at_call 108; (with_reducible refine (ecdysisref11_Number.calls a0_2 false _ A47.out).mono ?_); rintro e w' ⟨rfl, ⟨nd, rfl⟩⟩))
                        go_ret
                        exact ⟨by first | rfl , by repeat (first | (with_reducible first | exact HB.out | apply pw_below_drewN ) )⟩
                    · replace c46 := Bool.eq_false_iff.mpr c46
                      subst c46
                      have H1 : (some 1) = some r := by rw [if_neg (show ¬ (false = true) by decide)] at H; exact H
                      clear H
                      have H := H1
                      clear H1
                      obtain rfl := Option.some.inj H
                      have hcz51_0 : wc.cell? ⟨gb260, 0, none⟩ = some (.string a0_0) := (blk_cell BK260.out 0).trans rfl
                      have hcz51_1 : wc.cell? ⟨gb260, 1, none⟩ = some (.int .i64 a0_1) := (blk_cell BK260.out 1).trans rfl
                      have hcz51_2 : wc.cell? ⟨gb260, 2, none⟩ = some (.int .i64 a0_2) := (blk_cell BK260.out 2).trans rfl
                      have hcz51_3 : wc.cell? ⟨gb260, 3, none⟩ = some (.string a0_3) := (blk_cell BK260.out 3).trans rfl
                      have hcz51_4 : wc.cell? ⟨gb260, 4, none⟩ = some (.bool false) := (blk_cell BK260.out 4).trans rfl
                      have hcz51_5 : wc.cell? ⟨gb260, 5, none⟩ = some (.bool true) := (blk_cell BK260.out 5).trans rfl
                      have hcz51_6 : wc.cell? ⟨gb260, 6, none⟩ = some (.string a0_6) := (blk_cell BK260.out 6).trans rfl
                      have hfz51_0 := blk_frozen BK260.out 0
                      have hfz51_1 := blk_frozen BK260.out 1
                      have hfz51_2 := blk_frozen BK260.out 2
                      have hfz51_3 := blk_frozen BK260.out 3
                      have hfz51_4 := blk_frozen BK260.out 4
                      have hfz51_5 := blk_frozen BK260.out 5
                      have hfz51_6 := blk_frozen BK260.out 6
                      go_wp2
                      go_ret
                      exact ⟨by first | rfl , by exact HB.out⟩
                  · replace c45 := Bool.eq_false_iff.mpr c45
                    subst c45
                    have H1 : (some 0) = some r := by rw [if_neg (show ¬ (false = true) by decide)] at H; exact H
                    clear H
                    have H := H1
                    clear H1
                    obtain rfl := Option.some.inj H
                    have hcz52_0 : wc.cell? ⟨gb260, 0, none⟩ = some (.string a0_0) := (blk_cell BK260.out 0).trans rfl
                    have hcz52_1 : wc.cell? ⟨gb260, 1, none⟩ = some (.int .i64 a0_1) := (blk_cell BK260.out 1).trans rfl
                    have hcz52_2 : wc.cell? ⟨gb260, 2, none⟩ = some (.int .i64 a0_2) := (blk_cell BK260.out 2).trans rfl
                    have hcz52_3 : wc.cell? ⟨gb260, 3, none⟩ = some (.string a0_3) := (blk_cell BK260.out 3).trans rfl
                    have hcz52_4 : wc.cell? ⟨gb260, 4, none⟩ = some (.bool a0_4) := (blk_cell BK260.out 4).trans rfl
                    have hcz52_5 : wc.cell? ⟨gb260, 5, none⟩ = some (.bool false) := (blk_cell BK260.out 5).trans rfl
                    have hcz52_6 : wc.cell? ⟨gb260, 6, none⟩ = some (.string a0_6) := (blk_cell BK260.out 6).trans rfl
                    have hfz52_0 := blk_frozen BK260.out 0
                    have hfz52_1 := blk_frozen BK260.out 1
                    have hfz52_2 := blk_frozen BK260.out 2
                    have hfz52_3 := blk_frozen BK260.out 3
                    have hfz52_4 := blk_frozen BK260.out 4
                    have hfz52_5 := blk_frozen BK260.out 5
                    have hfz52_6 := blk_frozen BK260.out 6
                    go_wp2
                    go_ret
                    exact ⟨by first | rfl , by exact HB.out⟩
end Go.Proofs.Ytbpnfpckoapdbaa.PF16
end
section
namespace Go.Proofs.Ytbpnfpckoapdbaa.PF16
open Go.RowKit Go.Proofs.Ytbpnfpckoapdbaa.M Go.Proofs.Ytbpnfpckoapdbaa.KD Go.Proofs.Ytbpnfpckoapdbaa Go.Proofs.YtbpnfpckoapdbaaW.PrintWords Go.Proofs.YtbpnfpckoapdbaaW.PrintLast Go.Proofs.YtbpnfpckoapdbaaW.PrintMore
attribute [local go_sem] max2_int min2_int max_two min_two max_three min_three max_four min_four   -- for this text's walks alone
set_option linter.unusedVariables false
set_option linter.unusedSimpArgs false
mutual
def ecdysisref15_fields.l0 : Nat → Int → List (S86) → List (S47) → Option (Int)
 | 0, _, _, _ => none
 | k + 1, x3, x267000, x267001 => if x3 < (x267001.length : Int) then (ecdysisref15_fields.l1 k x3 0 x267000 x267001) else (some 0)
def ecdysisref15_fields.l1 : Nat → Int → Int → List (S86) → List (S47) → Option (Int)
 | 0, _, _, _, _ => none
 | k + 1, x3, x4, x267000, x267001 => if 0 ≤ x3 then (if x3 < (x267001.length : Int) then (if x4 < (((rd_T47 x267001 x3).f1).length : Int) then (if 0 ≤ x4 then ((ecdysisref14_Check.f k ((rd_T50 ((rd_T47 x267001 x3).f1) x4).f0) ((rd_T50 ((rd_T47 x267001 x3).f1) x4).f1) ((rd_T50 ((rd_T47 x267001 x3).f1) x4).f2) ((rd_T50 ((rd_T47 x267001 x3).f1) x4).f3) ((rd_T50 ((rd_T47 x267001 x3).f1) x4).f4) ((rd_T50 ((rd_T47 x267001 x3).f1) x4).f5) ((rd_T50 ((rd_T47 x267001 x3).f1) x4).f6)).bind fun t270 => (if t270 = 0 then (ecdysisref15_fields.l1 k x3 (wrap64 (x4 + 1)) x267000 x267001) else (some t270))) else (none)) else (ecdysisref15_fields.l0 k (wrap64 (x3 + 1)) x267000 x267001)) else (none)) else (none)
end
def ecdysisref15_fields.f (k : Nat) (l0_0 : List (S86)) (l0_1 : List (S47)) : Option (Int) := ecdysisref15_fields.l0 k 0 l0_0 l0_1
set_option maxHeartbeats 8000000 in
set_option maxRecDepth 100000 in
theorem ecdysisref15_fields.calls (k : Nat) (A0_0 : Option Addr) (c0_0 : Nat) (l0_0 : List (S86)) (A0_1 : Option Addr) (c0_1 : Nat) (l0_1 : List (S47)) (r : Int) (w : World) (hr0_0 : Kd.C k86 w A0_0 l0_0.length l0_0) (hc0_0 : l0_0.length ≤ c0_0) (hr0_1 : Kd.C k47 w A0_1 l0_1.length l0_1) (hc0_1 : l0_1.length ≤ c0_1) (h : ecdysisref15_fields.f k l0_0 l0_1 = some r) :
  Calls Try.prog 66 #[.agg #[.slice A0_0 l0_0.length c0_0, .slice A0_1 l0_1.length c0_1]] w fun e w' => e = .returned (.int .i64 r) ∧ Below w.heap.size w w' := by
 have hu35 := Try.underlying35
 have hu50 := Try.underlying50
 have HR0_0 := Aside0.mk hr0_0
 have HC0_0 := Aside0.mk hc0_0
 clear hr0_0 hc0_0
 have HR0_1 := Aside0.mk hr0_1
 have HC0_1 := Aside0.mk hc0_1
 clear hr0_1 hc0_1
 have HB := Aside0.mk (Below.refl w.heap.size w)
 have H : (ecdysisref15_fields.l0 k 0 l0_0 l0_1) = some r := h
 clear h
 have H' := Aside0.mk H
 clear H
 go_enter Try.func66, Try.ntmps66
 go_wp2_with (first | ((with_reducible refine gate_dst (N := 1) rfl ?_); refine box_event ?hg (N := 1) ?hd (cs := #[.slice A0_0 l0_0.length c0_0, .slice A0_1 l0_1.length c0_1]) (t := 35) ?hr ?_; (case hd => rfl); (case hg => rfl); (case hr => first | (go_simp; done) | (go_simp; rfl)); intro gb266 hg w2 hbox hb; have n0_ := Aside0.mk (below_step HB.out hb); have n1_ := Aside0.mk (hbox); clear HB; have HB := n0_; have BK266 := n1_; clear n0_ n1_; clear hb hbox hg))
 go_loopg [3] k (fun kq v3 w' => ∃ (x3_1 : Int), v3 = .int .i64 x3_1 ∧ Aside0 (ecdysisref15_fields.l0 kq x3_1 l0_0 l0_1 = some r) ∧ Aside0 (kq ≤ k) ∧ Aside0 (w'.heap[gb266]? = some (.cells #[(.slice A0_0 l0_0.length c0_0), (.slice A0_1 l0_1.length c0_1)] 35 (0, 0))) ∧ Aside0 (Below w.heap.size w w'))
 case atStart => exact ⟨(0), (by first | rfl ), H', ⟨Nat.le_refl _⟩, ⟨by exact BK266.out⟩, ⟨by exact HB.out⟩⟩
 case round =>
  clear H'
  try clear p2
  obtain ⟨x3_1, rfl, HA, HK1, BK266, HB⟩ := hrel
  cases gk with
  | zero => exact absurd HA.out (by simp [ecdysisref15_fields.l0])
  | succ k1 =>
   have H := HA.out
   clear HA
   simp only [ecdysisref15_fields.l0] at H
   by_cases c3 : x3_1 < (l0_1.length : Int)
   · rw [if_pos c3] at H
     have c3b0 : decide (x3_1 < (l0_1.length : Int)) = true := decide_eq_true c3
     clear c3
     have H' := Aside0.mk H
     clear H
     have hcz4_0 : wr.cell? ⟨gb266, 0, none⟩ = some (.slice A0_0 l0_0.length c0_0) := (blk_cell BK266.out 0).trans rfl
     have hcz4_1 : wr.cell? ⟨gb266, 1, none⟩ = some (.slice A0_1 l0_1.length c0_1) := (blk_cell BK266.out 1).trans rfl
     have hfz4_0 := blk_frozen BK266.out 0
     have hfz4_1 := blk_frozen BK266.out 1
     go_wp2
     go_loopg [4] k1 (fun kq v4 w' => ∃ (x4_2 : Int), v4 = .int .i64 x4_2 ∧ Aside0 (ecdysisref15_fields.l1 kq x3_1 x4_2 l0_0 l0_1 = some r) ∧ Aside0 (kq ≤ k1) ∧ Aside0 (w'.heap[gb266]? = some (.cells #[(.slice A0_0 l0_0.length c0_0), (.slice A0_1 l0_1.length c0_1)] 35 (0, 0))) ∧ Aside0 (Below w.heap.size w w'))
     case atStart => exact ⟨(0), (by first | rfl ), H', ⟨Nat.le_refl _⟩, ⟨by exact BK266.out⟩, ⟨by exact HB.out⟩⟩
     case round =>
      clear H'
      try clear p2
      try clear c3
      try clear c3b0
      try clear hcz4_0
      try clear hcz4_1
      try clear hfz4_0
      try clear hfz4_1
      try clear p2
      obtain ⟨x4_2, rfl, HA, HK2, BK266, HB⟩ := hrel
      cases gk with
      | zero => exact absurd HA.out (by simp [ecdysisref15_fields.l1])
      | succ k2 =>
       have H := HA.out
       clear HA
       simp only [ecdysisref15_fields.l1] at H
       by_cases c5 : 0 ≤ x3_1
       · rw [if_pos c5] at H
         have c5b0 : decide (0 ≤ x3_1) = true := decide_eq_true c5
         clear c5
         by_cases c6 : x3_1 < (l0_1.length : Int)
         · rw [if_pos c6] at H
           have c6b0 : decide (x3_1 < (l0_1.length : Int)) = true := decide_eq_true c6
           clear c6
           by_cases c7 : x4_2 < (((rd_T47 l0_1 x3_1).f1).length : Int)
           · rw [if_pos c7] at H
             have c7b0 : decide (x4_2 < (((rd_T47 l0_1 x3_1).f1).length : Int)) = true := decide_eq_true c7
             clear c7
             by_cases c8 : 0 ≤ x4_2
             · rw [if_pos c8] at H
               have c8b0 : decide (0 ≤ x4_2) = true := decide_eq_true c8
               clear c8
               replace H := Option.bind_eq_some_iff.mp H
               obtain ⟨t270, A90, H⟩ := H
               replace H : (if t270 = 0 then (ecdysisref15_fields.l1 k2 x3_1 (wrap64 (x4_2 + 1)) l0_0 l0_1) else (some t270)) = some r := H
               have A9 := Aside0.mk A90
               clear A90
               by_cases c10 : t270 = 0
               · rw [if_pos c10] at H
                 have c10b0 : (t270 == 0) = true := beq_iff_eq.mpr c10
                 have c10b1 : (t270 != 0) = false := bne_eq_false_iff_eq.mpr c10
                 clear c10
                 have H' := Aside0.mk H
                 clear H
                 have hcz11_0 : wr.cell? ⟨gb266, 0, none⟩ = some (.slice A0_0 l0_0.length c0_0) := (blk_cell BK266.out 0).trans rfl
                 have hcz11_1 : wr.cell? ⟨gb266, 1, none⟩ = some (.slice A0_1 l0_1.length c0_1) := (blk_cell BK266.out 1).trans rfl
                 have hfz11_0 := blk_frozen BK266.out 0
                 have hfz11_1 := blk_frozen BK266.out 1
                 have p267 : 0 ≤ (x3_1 : Int) := of_decide_eq_true (by first | (with_reducible assumption) )
                 have q267 : x3_1 < (l0_1.length : Int) := of_decide_eq_true (by first | (with_reducible assumption) )
                 obtain ⟨ad267, A267_1, c267_1, A267_2, c267_2, e267, hx267_0, hx267_1, hx267_2, hl267_1, hi267_1, hl267_2, hi267_2⟩ := at_T47 HR0_1.out x3_1 p267 q267
                 cases e267
                 replace hx267_0 := (HB.out.cell (World.block_lt_of_cell? w _ hx267_0)).trans hx267_0
                 replace hx267_1 := (HB.out.cell (World.block_lt_of_cell? w _ hx267_1)).trans hx267_1
                 replace hx267_2 := (HB.out.cell (World.block_lt_of_cell? w _ hx267_2)).trans hx267_2
                 have HR267_1 := Aside0.mk hi267_1
                 have HC267_1 := Aside0.mk hl267_1
                 clear hi267_1 hl267_1
                 have HR267_2 := Aside0.mk hi267_2
                 have HC267_2 := Aside0.mk hl267_2
                 clear hi267_2 hl267_2
                 replace p267 := eq_true p267
                 replace q267 := eq_true q267
                 have p268 : 0 ≤ (x3_1 : Int) := of_decide_eq_true (by first | (with_reducible assumption) )
                 have q268 : x3_1 < (l0_1.length : Int) := of_decide_eq_true (by first | (with_reducible assumption) )
                 obtain ⟨ad268, A268_1, c268_1, A268_2, c268_2, e268, hx268_0, hx268_1, hx268_2, hl268_1, hi268_1, hl268_2, hi268_2⟩ := at_T47 HR0_1.out x3_1 p268 q268
                 obtain rfl : ad267 = ad268 := (by injection e268)
                 replace hx268_0 := (HB.out.cell (World.block_lt_of_cell? w _ hx268_0)).trans hx268_0
                 replace hx268_1 := (HB.out.cell (World.block_lt_of_cell? w _ hx268_1)).trans hx268_1
                 replace hx268_2 := (HB.out.cell (World.block_lt_of_cell? w _ hx268_2)).trans hx268_2
                 have HR268_1 := Aside0.mk hi268_1
                 have HC268_1 := Aside0.mk hl268_1
                 clear hi268_1 hl268_1
                 have HR268_2 := Aside0.mk hi268_2
                 have HC268_2 := Aside0.mk hl268_2
                 clear hi268_2 hl268_2
                 replace p268 := eq_true p268
                 replace q268 := eq_true q268
                 have ea_ := Option.some.inj (hx267_1.symm.trans hx268_1)
                 injection ea_ with ea_ en_ ec_
                 subst ea_
                 subst ec_
                 clear en_
                 have ea_ := Option.some.inj (hx267_2.symm.trans hx268_2)
                 injection ea_ with ea_ en_ ec_
                 subst ea_
                 subst ec_
                 clear en_
                 have p269 : 0 ≤ (x4_2 : Int) := of_decide_eq_true (by first | (with_reducible assumption) )
                 have q269 : x4_2 < (((rd_T47 l0_1 x3_1).f1).length : Int) := of_decide_eq_true (by first | (with_reducible assumption) )
                 obtain ⟨ad269, e269, hx269_0, hx269_1, hx269_2, hx269_3, hx269_4, hx269_5, hx269_6⟩ := at_T50 HR268_1.out x4_2 p269 q269
                 cases e269
                 replace hx269_0 := (HB.out.cell (World.block_lt_of_cell? w _ hx269_0)).trans hx269_0
                 replace hx269_1 := (HB.out.cell (World.block_lt_of_cell? w _ hx269_1)).trans hx269_1
                 replace hx269_2 := (HB.out.cell (World.block_lt_of_cell? w _ hx269_2)).trans hx269_2
                 replace hx269_3 := (HB.out.cell (World.block_lt_of_cell? w _ hx269_3)).trans hx269_3
                 replace hx269_4 := (HB.out.cell (World.block_lt_of_cell? w _ hx269_4)).trans hx269_4
                 replace hx269_5 := (HB.out.cell (World.block_lt_of_cell? w _ hx269_5)).trans hx269_5
                 replace hx269_6 := (HB.out.cell (World.block_lt_of_cell? w _ hx269_6)).trans hx269_6
                 replace p269 := eq_true p269
                 replace q269 := eq_true q269
                 go_wp2_with (first | ((with_reducible refine gate_callee (f := 94) rfl ?_); refine goesL_ (some 33) rfl rfl Try.func94 (by kernel_rfl) rfl #[.agg #[.string ((rd_T50 ((rd_T47 l0_1 x3_1).f1) x4_2).f0), .int .i64 ((rd_T50 ((rd_T47 l0_1 x3_1).f1) x4_2).f1), .int .i64 ((rd_T50 ((rd_T47 l0_1 x3_1).f1) x4_2).f2), .string ((rd_T50 ((rd_T47 l0_1 x3_1).f1) x4_2).f3), .bool ((rd_T50 ((rd_T47 l0_1 x3_1).f1) x4_2).f4), .bool ((rd_T50 ((rd_T47 l0_1 x3_1).f1) x4_2).f5), .string ((rd_T50 ((rd_T47 l0_1 x3_1).f1) x4_2).f6)]] rfl (by (try simp only [List.map_toArray, List.map_cons, List.map_nil]); first | done | rfl | (simp only [List.length_drop, List.length_take]; rfl)) ?_; (with_reducible refine (ecdysisref14_Check.calls k2 ((rd_T50 ((rd_T47 l0_1 x3_1).f1) x4_2).f0) ((rd_T50 ((rd_T47 l0_1 x3_1).f1) x4_2).f1) ((rd_T50 ((rd_T47 l0_1 x3_1).f1) x4_2).f2) ((rd_T50 ((rd_T47 l0_1 x3_1).f1) x4_2).f3) ((rd_T50 ((rd_T47 l0_1 x3_1).f1) x4_2).f4) ((rd_T50 ((rd_T47 l0_1 x3_1).f1) x4_2).f5) ((rd_T50 ((rd_T47 l0_1 x3_1).f1) x4_2).f6) t270 _ A9.out).mono ?_); rintro e w12 ⟨rfl, hb⟩; refine ⟨_, rfl, ?_⟩; have n0_ := Aside0.mk (blk_below BK266.out hb); have n1_ := Aside0.mk (below_step HB.out hb); clear BK266; clear HB; have BK266 := n0_; have HB := n1_; clear n0_ n1_; (try clear hb); (try clear hb2); (try clear hk); (try clear hi)))
                 go_roundg k2
                 case measure => have := HK1.out; have := HK2.out; omega
                 case rel => exact ⟨(wrap64 (x4_2 + 1)), (by first | rfl ), H', ⟨by have := HK1.out; have := HK2.out; omega⟩, ⟨by exact BK266.out⟩, ⟨by exact HB.out⟩⟩
               · rw [if_neg c10] at H
                 have c10b0 : (t270 == 0) = false := beq_eq_false_iff_ne.mpr c10
                 have c10b1 : (t270 != 0) = true := bne_iff_ne.mpr c10
                 obtain rfl := Option.some.inj H
                 have hcz13_0 : wr.cell? ⟨gb266, 0, none⟩ = some (.slice A0_0 l0_0.length c0_0) := (blk_cell BK266.out 0).trans rfl
                 have hcz13_1 : wr.cell? ⟨gb266, 1, none⟩ = some (.slice A0_1 l0_1.length c0_1) := (blk_cell BK266.out 1).trans rfl
                 have hfz13_0 := blk_frozen BK266.out 0
                 have hfz13_1 := blk_frozen BK266.out 1
                 have p267 : 0 ≤ (x3_1 : Int) := of_decide_eq_true (by first | (with_reducible assumption) )
                 have q267 : x3_1 < (l0_1.length : Int) := of_decide_eq_true (by first | (with_reducible assumption) )
                 obtain ⟨ad267, A267_1, c267_1, A267_2, c267_2, e267, hx267_0, hx267_1, hx267_2, hl267_1, hi267_1, hl267_2, hi267_2⟩ := at_T47 HR0_1.out x3_1 p267 q267
                 cases e267
                 replace hx267_0 := (HB.out.cell (World.block_lt_of_cell? w _ hx267_0)).trans hx267_0
                 replace hx267_1 := (HB.out.cell (World.block_lt_of_cell? w _ hx267_1)).trans hx267_1
                 replace hx267_2 := (HB.out.cell (World.block_lt_of_cell? w _ hx267_2)).trans hx267_2
                 have HR267_1 := Aside0.mk hi267_1
                 have HC267_1 := Aside0.mk hl267_1
                 clear hi267_1 hl267_1
                 have HR267_2 := Aside0.mk hi267_2
                 have HC267_2 := Aside0.mk hl267_2
                 clear hi267_2 hl267_2
                 replace p267 := eq_true p267
                 replace q267 := eq_true q267
                 have p268 : 0 ≤ (x3_1 : Int) := of_decide_eq_true (by first | (with_reducible assumption) )
                 have q268 : x3_1 < (l0_1.length : Int) := of_decide_eq_true (by first | (with_reducible assumption) )
                 obtain ⟨ad268, A268_1, c268_1, A268_2, c268_2, e268, hx268_0, hx268_1, hx268_2, hl268_1, hi268_1, hl268_2, hi268_2⟩ := at_T47 HR0_1.out x3_1 p268 q268
                 obtain rfl : ad267 = ad268 := (by injection e268)
                 replace hx268_0 := (HB.out.cell (World.block_lt_of_cell? w _ hx268_0)).trans hx268_0
                 replace hx268_1 := (HB.out.cell (World.block_lt_of_cell? w _ hx268_1)).trans hx268_1
                 replace hx268_2 := (HB.out.cell (World.block_lt_of_cell? w _ hx268_2)).trans hx268_2
                 have HR268_1 := Aside0.mk hi268_1
                 have HC268_1 := Aside0.mk hl268_1
                 clear hi268_1 hl268_1
                 have HR268_2 := Aside0.mk hi268_2
                 have HC268_2 := Aside0.mk hl268_2
                 clear hi268_2 hl268_2
                 replace p268 := eq_true p268
                 replace q268 := eq_true q268
                 have ea_ := Option.some.inj (hx267_1.symm.trans hx268_1)
                 injection ea_ with ea_ en_ ec_
                 subst ea_
                 subst ec_
                 clear en_
                 have ea_ := Option.some.inj (hx267_2.symm.trans hx268_2)
                 injection ea_ with ea_ en_ ec_
                 subst ea_
                 subst ec_
                 clear en_
                 have p269 : 0 ≤ (x4_2 : Int) := of_decide_eq_true (by first | (with_reducible assumption) )
                 have q269 : x4_2 < (((rd_T47 l0_1 x3_1).f1).length : Int) := of_decide_eq_true (by first | (with_reducible assumption) )
                 obtain ⟨ad269, e269, hx269_0, hx269_1, hx269_2, hx269_3, hx269_4, hx269_5, hx269_6⟩ := at_T50 HR268_1.out x4_2 p269 q269
                 cases e269
                 replace hx269_0 := (HB.out.cell (World.block_lt_of_cell? w _ hx269_0)).trans hx269_0
                 replace hx269_1 := (HB.out.cell (World.block_lt_of_cell? w _ hx269_1)).trans hx269_1
                 replace hx269_2 := (HB.out.cell (World.block_lt_of_cell? w _ hx269_2)).trans hx269_2
                 replace hx269_3 := (HB.out.cell (World.block_lt_of_cell? w _ hx269_3)).trans hx269_3
                 replace hx269_4 := (HB.out.cell (World.block_lt_of_cell? w _ hx269_4)).trans hx269_4
                 replace hx269_5 := (HB.out.cell (World.block_lt_of_cell? w _ hx269_5)).trans hx269_5
                 replace hx269_6 := (HB.out.cell (World.block_lt_of_cell? w _ hx269_6)).trans hx269_6
                 replace p269 := eq_true p269
                 replace q269 := eq_true q269
                 go_wp2_with (first | ((with_reducible refine gate_callee (f := 94) rfl ?_); refine goesL_ (some 33) rfl rfl Try.func94 (by kernel_rfl) rfl #[.agg #[.string ((rd_T50 ((rd_T47 l0_1 x3_1).f1) x4_2).f0), .int .i64 ((rd_T50 ((rd_T47 l0_1 x3_1).f1) x4_2).f1), .int .i64 ((rd_T50 ((rd_T47 l0_1 x3_1).f1) x4_2).f2), .string ((rd_T50 ((rd_T47 l0_1 x3_1).f1) x4_2).f3), .bool ((rd_T50 ((rd_T47 l0_1 x3_1).f1) x4_2).f4), .bool ((rd_T50 ((rd_T47 l0_1 x3_1).f1) x4_2).f5), .string ((rd_T50 ((rd_T47 l0_1 x3_1).f1) x4_2).f6)]] rfl (by (try simp only [List.map_toArray, List.map_cons, List.map_nil]); first | done | rfl | (simp only [List.length_drop, List.length_take]; rfl)) ?_; (with_reducible refine (ecdysisref14_Check.calls k2 ((rd_T50 ((rd_T47 l0_1 x3_1).f1) x4_2).f0) ((rd_T50 ((rd_T47 l0_1 x3_1).f1) x4_2).f1) ((rd_T50 ((rd_T47 l0_1 x3_1).f1) x4_2).f2) ((rd_T50 ((rd_T47 l0_1 x3_1).f1) x4_2).f3) ((rd_T50 ((rd_T47 l0_1 x3_1).f1) x4_2).f4) ((rd_T50 ((rd_T47 l0_1 x3_1).f1) x4_2).f5) ((rd_T50 ((rd_T47 l0_1 x3_1).f1) x4_2).f6) t270 _ A9.out).mono ?_); rintro e w14 ⟨rfl, hb⟩; refine ⟨_, rfl, ?_⟩; have n0_ := Aside0.mk (blk_below BK266.out hb); have n1_ := Aside0.mk (below_step HB.out hb); clear BK266; clear HB; have BK266 := n0_; have HB := n1_; clear n0_ n1_; (try clear hb); (try clear hb2); (try clear hk); (try clear hi)))
                 go_ret
                 exact ⟨by first | rfl , by exact HB.out⟩
             · rw [if_neg c8] at H
               exact absurd H (by simp)
           · rw [if_neg c7] at H
             have c7b0 : decide (x4_2 < (((rd_T47 l0_1 x3_1).f1).length : Int)) = false := decide_eq_false c7
             clear c7
             have H' := Aside0.mk H
             clear H
             have hcz15_0 : wr.cell? ⟨gb266, 0, none⟩ = some (.slice A0_0 l0_0.length c0_0) := (blk_cell BK266.out 0).trans rfl
             have hcz15_1 : wr.cell? ⟨gb266, 1, none⟩ = some (.slice A0_1 l0_1.length c0_1) := (blk_cell BK266.out 1).trans rfl
             have hfz15_0 := blk_frozen BK266.out 0
             have hfz15_1 := blk_frozen BK266.out 1
             have p267 : 0 ≤ (x3_1 : Int) := of_decide_eq_true (by first | (with_reducible assumption) )
             have q267 : x3_1 < (l0_1.length : Int) := of_decide_eq_true (by first | (with_reducible assumption) )
             obtain ⟨ad267, A267_1, c267_1, A267_2, c267_2, e267, hx267_0, hx267_1, hx267_2, hl267_1, hi267_1, hl267_2, hi267_2⟩ := at_T47 HR0_1.out x3_1 p267 q267
             cases e267
             replace hx267_0 := (HB.out.cell (World.block_lt_of_cell? w _ hx267_0)).trans hx267_0
             replace hx267_1 := (HB.out.cell (World.block_lt_of_cell? w _ hx267_1)).trans hx267_1
             replace hx267_2 := (HB.out.cell (World.block_lt_of_cell? w _ hx267_2)).trans hx267_2
             have HR267_1 := Aside0.mk hi267_1
             have HC267_1 := Aside0.mk hl267_1
             clear hi267_1 hl267_1
             have HR267_2 := Aside0.mk hi267_2
             have HC267_2 := Aside0.mk hl267_2
             clear hi267_2 hl267_2
             replace p267 := eq_true p267
             replace q267 := eq_true q267
             go_wp2
             go_roundg k2
             case measure => have := HK1.out; have := HK2.out; omega
             case rel => exact ⟨(wrap64 (x3_1 + 1)), (by first | rfl ), H', ⟨by have := HK1.out; have := HK2.out; omega⟩, ⟨by exact BK266.out⟩, ⟨by exact HB.out⟩⟩
         · rw [if_neg c6] at H
           exact absurd H (by simp)
       · rw [if_neg c5] at H
         exact absurd H (by simp)
   · rw [if_neg c3] at H
     have c3b0 : decide (x3_1 < (l0_1.length : Int)) = false := decide_eq_false c3
     clear c3
     obtain rfl := Option.some.inj H
     have hcz16_0 : wr.cell? ⟨gb266, 0, none⟩ = some (.slice A0_0 l0_0.length c0_0) := (blk_cell BK266.out 0).trans rfl
     have hcz16_1 : wr.cell? ⟨gb266, 1, none⟩ = some (.slice A0_1 l0_1.length c0_1) := (blk_cell BK266.out 1).trans rfl
     have hfz16_0 := blk_frozen BK266.out 0
     have hfz16_1 := blk_frozen BK266.out 1
     go_wp2
     go_ret
     exact ⟨by first | rfl , by exact HB.out⟩
mutual
def ecdysisref09_Once.l0 : Nat → List ByteArray → Int → Option (Bool)
 | 0, _, _ => none
 | k + 1, x0, x3 => if x3 < (x0.length : Int) then (ecdysisref09_Once.l1 k x0 x3 0) else (some true)
def ecdysisref09_Once.l1 : Nat → List ByteArray → Int → Int → Option (Bool)
 | 0, _, _, _ => none
 | k + 1, x0, x3, x4 => if x4 < x3 then (if 0 ≤ x3 then (if x3 < (x0.length : Int) then (if 0 ≤ x4 then (if x4 < (x0.length : Int) then (if (rdOf ByteArray.empty x0 x3).toList = (rdOf ByteArray.empty x0 x4).toList then (some false) else (ecdysisref09_Once.l1 k x0 x3 (wrap64 (x4 + 1)))) else (none)) else (none)) else (none)) else (none)) else (ecdysisref09_Once.l0 k x0 (wrap64 (x3 + 1)))
end
def ecdysisref09_Once.f (k : Nat) (l0 : List ByteArray) : Option (Bool) := ecdysisref09_Once.l0 k l0 0
set_option maxHeartbeats 8000000 in
set_option maxRecDepth 100000 in
theorem ecdysisref09_Once.calls (k : Nat) (A0 : Option Addr) (c0 : Nat) (l0 : List ByteArray) (r : Bool) (w : World) (hr0 : Kd.C Kd.string w A0 l0.length l0) (hc0 : l0.length ≤ c0) (h : ecdysisref09_Once.f k l0 = some r) :
  Calls Try.prog 95 #[.slice A0 l0.length c0] w fun e w' => e = .returned (.bool r) ∧ Drawn0 w w' := by
 have HR0 := Aside0.mk hr0
 have HC0 := Aside0.mk hc0
 clear hr0 hc0
 have H : (ecdysisref09_Once.l0 k l0 0) = some r := h
 clear h
 have H' := Aside0.mk H
 clear H
 go_enter Try.func95, Try.ntmps95
 go_wp2
 repeat (go_quiet (fail); try go_wp2)
 go_loopg [3] k (fun kq v3 w' => ∃ (x3_1 : Int), v3 = .int .i64 x3_1 ∧ Aside0 (ecdysisref09_Once.l0 kq l0 x3_1 = some r) ∧ Aside0 (kq ≤ k) ∧ Drawn0 w w')
 case atStart => exact ⟨(0), (by first | rfl ), H', ⟨Nat.le_refl _⟩, by repeat (first | exact Drawn0.refl _ )⟩
 case round =>
  clear H'
  obtain ⟨x3_1, rfl, HA, HK1, ⟨m1, rfl⟩⟩ := hrel
  cases gk with
  | zero => exact absurd HA.out (by simp [ecdysisref09_Once.l0])
  | succ k1 =>
   have H := HA.out
   clear HA
   simp only [ecdysisref09_Once.l0] at H
   by_cases c2 : x3_1 < (l0.length : Int)
   · rw [if_pos c2] at H
     have c2b0 : decide (x3_1 < (l0.length : Int)) = true := decide_eq_true c2
     clear c2
     have H' := Aside0.mk H
     clear H
     go_wp2
     repeat (go_quiet (fail); try go_wp2)
     go_loopg [4] k1 (fun kq v4 w' => ∃ (x4_2 : Int), v4 = .int .i64 x4_2 ∧ Aside0 (ecdysisref09_Once.l1 kq l0 x3_1 x4_2 = some r) ∧ Aside0 (kq ≤ k1) ∧ Drawn0 w w')
     case atStart => exact ⟨(0), (by first | rfl ), H', ⟨Nat.le_refl _⟩, by repeat (first | exact Drawn0.refl _ | apply Drawn0.step)⟩
     case round =>
      clear H'
      try clear c2
      try clear c2b0
      try clear p2
      obtain ⟨x4_2, rfl, HA, HK2, ⟨m2, rfl⟩⟩ := hrel
      cases gk with
      | zero => exact absurd HA.out (by simp [ecdysisref09_Once.l1])
      | succ k2 =>
       have H := HA.out
       clear HA
       simp only [ecdysisref09_Once.l1] at H
       by_cases c3 : x4_2 < x3_1
       · rw [if_pos c3] at H
         have c3b0 : decide (x4_2 < x3_1) = true := decide_eq_true c3
         clear c3
         by_cases c4 : 0 ≤ x3_1
         · rw [if_pos c4] at H
           have c4b0 : decide (0 ≤ x3_1) = true := decide_eq_true c4
           clear c4
           by_cases c5 : x3_1 < (l0.length : Int)
           · rw [if_pos c5] at H
             have c5b0 : decide (x3_1 < (l0.length : Int)) = true := decide_eq_true c5
             clear c5
             by_cases c6 : 0 ≤ x4_2
             · rw [if_pos c6] at H
               have c6b0 : decide (0 ≤ x4_2) = true := decide_eq_true c6
               clear c6
               by_cases c7 : x4_2 < (l0.length : Int)
               · rw [if_pos c7] at H
                 have c7b0 : decide (x4_2 < (l0.length : Int)) = true := decide_eq_true c7
                 clear c7
                 by_cases c8 : (rdOf ByteArray.empty l0 x3_1).toList = (rdOf ByteArray.empty l0 x4_2).toList
                 · rw [if_pos c8] at H
                   have c8b0 : ((rdOf ByteArray.empty l0 x3_1).toList == (rdOf ByteArray.empty l0 x4_2).toList) = true := beq_iff_eq.mpr c8
                   have c8b1 : ((rdOf ByteArray.empty l0 x3_1).toList != (rdOf ByteArray.empty l0 x4_2).toList) = false := bne_eq_false_iff_eq.mpr c8
                   clear c8
                   obtain rfl := Option.some.inj H
                   have p271 : 0 ≤ (x3_1 : Int) := of_decide_eq_true (by first | (with_reducible assumption) )
                   have q271 : x3_1 < (l0.length : Int) := of_decide_eq_true (by first | (with_reducible assumption) )
                   obtain ⟨ad271, e271, hx271_0⟩ := Kd.at_string HR0.out x3_1 p271 q271
                   cases e271
                   replace p271 := eq_true p271
                   replace q271 := eq_true q271
                   have p272 : 0 ≤ (x4_2 : Int) := of_decide_eq_true (by first | (with_reducible assumption) )
                   have q272 : x4_2 < (l0.length : Int) := of_decide_eq_true (by first | (with_reducible assumption) )
                   obtain ⟨ad272, e272, hx272_0⟩ := Kd.at_string HR0.out x4_2 p272 q272
                   obtain rfl : ad271 = ad272 := (by injection e272)
                   replace p272 := eq_true p272
                   replace q272 := eq_true q272
                   go_wp2
                   repeat (go_quiet (fail); try go_wp2)
                   go_ret
                   exact ⟨by first | rfl , by repeat (first | exact Drawn0.refl _ | apply Drawn0.step)⟩
                 · rw [if_neg c8] at H
                   have c8b0 : ((rdOf ByteArray.empty l0 x3_1).toList == (rdOf ByteArray.empty l0 x4_2).toList) = false := beq_eq_false_iff_ne.mpr c8
                   have c8b1 : ((rdOf ByteArray.empty l0 x3_1).toList != (rdOf ByteArray.empty l0 x4_2).toList) = true := bne_iff_ne.mpr c8
                   have H' := Aside0.mk H
                   clear H
                   have p271 : 0 ≤ (x3_1 : Int) := of_decide_eq_true (by first | (with_reducible assumption) )
                   have q271 : x3_1 < (l0.length : Int) := of_decide_eq_true (by first | (with_reducible assumption) )
                   obtain ⟨ad271, e271, hx271_0⟩ := Kd.at_string HR0.out x3_1 p271 q271
                   cases e271
                   replace p271 := eq_true p271
                   replace q271 := eq_true q271
                   have p272 : 0 ≤ (x4_2 : Int) := of_decide_eq_true (by first | (with_reducible assumption) )
                   have q272 : x4_2 < (l0.length : Int) := of_decide_eq_true (by first | (with_reducible assumption) )
                   obtain ⟨ad272, e272, hx272_0⟩ := Kd.at_string HR0.out x4_2 p272 q272
                   obtain rfl : ad271 = ad272 := (by injection e272)
                   replace p272 := eq_true p272
                   replace q272 := eq_true q272
                   go_wp2
                   repeat (go_quiet (fail); try go_wp2)
                   go_roundg k2
                   case measure => have := HK1.out; have := HK2.out; omega
                   case rel => exact ⟨(wrap64 (x4_2 + 1)), (by first | rfl ), H', ⟨by have := HK1.out; have := HK2.out; omega⟩, by repeat (first | exact Drawn0.refl _ | apply Drawn0.step)⟩
               · rw [if_neg c7] at H
                 exact absurd H (by simp)
             · rw [if_neg c6] at H
               exact absurd H (by simp)
           · rw [if_neg c5] at H
             exact absurd H (by simp)
         · rw [if_neg c4] at H
           exact absurd H (by simp)
       · rw [if_neg c3] at H
         have c3b0 : decide (x4_2 < x3_1) = false := decide_eq_false c3
         clear c3
         have H' := Aside0.mk H
         clear H
         go_wp2
         repeat (go_quiet (fail); try go_wp2)
         go_roundg k2
         case measure => have := HK1.out; have := HK2.out; omega
         case rel => exact ⟨(wrap64 (x3_1 + 1)), (by first | rfl ), H', ⟨by have := HK1.out; have := HK2.out; omega⟩, by repeat (first | exact Drawn0.refl _ | apply Drawn0.step)⟩
   · rw [if_neg c2] at H
     have c2b0 : decide (x3_1 < (l0.length : Int)) = false := decide_eq_false c2
     clear c2
     obtain rfl := Option.some.inj H
     go_wp2
     repeat (go_quiet (fail); try go_wp2)
     go_ret
     exact ⟨by first | rfl , by repeat (first | exact Drawn0.refl _ | apply Drawn0.step)⟩
end Go.Proofs.Ytbpnfpckoapdbaa.PF16
end

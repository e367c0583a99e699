/- The law that what is told is closed: for every schema it tells true; no conditions but those of the row. (text 5 of 7; some of it the words and functions that the kit's print and this claim's programs wrote) -/
import Derived.Test.YtbpnfpckoapdbaaQFindCloses3
section
namespace Go.Proofs.Ytbpnfpckoapdbaa.PF16
open Go.RowKit Go.Proofs.Ytbpnfpckoapdbaa.M Go.Proofs.Ytbpnfpckoapdbaa.KD Go.Proofs.Ytbpnfpckoapdbaa Go.Proofs.YtbpnfpckoapdbaaW.PrintWords Go.Proofs.YtbpnfpckoapdbaaW.PrintLast Go.Proofs.YtbpnfpckoapdbaaW.PrintMore
attribute [local go_sem] max2_int min2_int max_two min_two max_three min_three max_four min_four   -- for this text's walks alone
set_option linter.unusedVariables false
set_option linter.unusedSimpArgs false
mutual
def ecdysisref15_order.l0 : Nat → Bool → List ByteArray → Int → List (S86) → List (S47) → Option (Bool)
 | 0, _, _, _, _, _ => none
 | k + 1, x3, x4, x5, x345000, x345001 => if x5 < (x345000.length : Int) then (if 0 ≤ x5 then (if x4.length < 8796093022208 then (ecdysisref15_order.l1 k x3 (x4 ++ [(rd_T86 x345000 x5).f0]) x5 (([] : List Int)) 0 x345000 x345001) else (none)) else (none)) else (if x3 = true then (ecdysisref15_order.j2 k true x345000 x345001) else ((ecdysisref09_Rise.f k x4).bind fun t364 => (ecdysisref15_order.j2 k (!t364) x345000 x345001)))
def ecdysisref15_order.l1 : Nat → Bool → List ByteArray → Int → List Int → Int → List (S86) → List (S47) → Option (Bool)
 | 0, _, _, _, _, _, _, _ => none
 | k + 1, x3, x4, x5, x6, x7, x345000, x345001 => if 0 ≤ x5 then (if x5 < (x345000.length : Int) then (if x7 < (((rd_T86 x345000 x5).f1).length : Int) then (if 0 ≤ x7 then (if x6.length < 17592186044416 then (ecdysisref15_order.l1 k x3 x4 x5 (x6 ++ [(rd_T88 ((rd_T86 x345000 x5).f1) x7).f1]) (wrap64 (x7 + 1)) x345000 x345001) else (none)) else (none)) else (if x3 = true then (ecdysisref15_order.l0 k true x4 (wrap64 (x5 + 1)) x345000 x345001) else ((ecdysisref15_Rises.f k x6).bind fun t361 => (if t361 = true then (if 0 < (x6.length : Int) then (if (rd x6 0) = 0 then (if 0 ≤ (wrap64 ((x6.length : Int) - 1)) then (if (wrap64 ((x6.length : Int) - 1)) < (x6.length : Int) then (ecdysisref15_order.l0 k (decide ((rd x6 (wrap64 ((x6.length : Int) - 1))) > 1048576)) x4 (wrap64 (x5 + 1)) x345000 x345001) else (none)) else (none)) else (ecdysisref15_order.l0 k true x4 (wrap64 (x5 + 1)) x345000 x345001)) else (none)) else (ecdysisref15_order.l0 k true x4 (wrap64 (x5 + 1)) x345000 x345001))))) else (none)) else (none)
def ecdysisref15_order.j2 : Nat → Bool → List (S86) → List (S47) → Option (Bool)
 | 0, _, _, _ => none
 | k + 1, x3, x345000, x345001 => ecdysisref15_order.l2 k x3 (([] : List ByteArray)) 0 x345000 x345001
def ecdysisref15_order.l2 : Nat → Bool → List ByteArray → Int → List (S86) → List (S47) → Option (Bool)
 | 0, _, _, _, _, _ => none
 | k + 1, x3, x4, x8, x345000, x345001 => if x8 < (x345001.length : Int) then (if x8 > 0 then (if 0 ≤ x8 then (if x4.length < 8796093022208 then ((some (x4 ++ [(rd_T47 x345001 x8).f0] : List ByteArray)).bind fun y370 => (if x3 = true then (ecdysisref15_order.l2 k true y370 (wrap64 (x8 + 1)) x345000 x345001) else ((ecdysisref15_Nums.f k ((rd_T47 x345001 x8).f0) ((rd_T47 x345001 x8).f1) ((rd_T47 x345001 x8).f2)).bind fun t375 => ((ecdysisref15_Rises.f k t375).bind fun t378 => (if t378 = true then ((ecdysisref15_Rises.f k ((rd_T47 x345001 x8).f2)).bind fun t379 => (if t379 = true then (if (((rd_T47 x345001 x8).f2).length : Int) > 0 then (if 0 < (((rd_T47 x345001 x8).f2).length : Int) then (if (rd ((rd_T47 x345001 x8).f2) 0) < 1 then (ecdysisref15_order.l2 k true y370 (wrap64 (x8 + 1)) x345000 x345001) else (if 0 ≤ (wrap64 ((((rd_T47 x345001 x8).f2).length : Int) - 1)) then (if (wrap64 ((((rd_T47 x345001 x8).f2).length : Int) - 1)) < (((rd_T47 x345001 x8).f2).length : Int) then (ecdysisref15_order.l2 k (decide ((rd ((rd_T47 x345001 x8).f2) (wrap64 ((((rd_T47 x345001 x8).f2).length : Int) - 1))) > 536870911)) y370 (wrap64 (x8 + 1)) x345000 x345001) else (none)) else (none))) else (none)) else (ecdysisref15_order.l2 k false y370 (wrap64 (x8 + 1)) x345000 x345001)) else (ecdysisref15_order.l2 k true y370 (wrap64 (x8 + 1)) x345000 x345001))) else (ecdysisref15_order.l2 k true y370 (wrap64 (x8 + 1)) x345000 x345001)))))) else (none)) else (none)) else (if 0 ≤ x8 then (if x3 = true then (ecdysisref15_order.l2 k true x4 (wrap64 (x8 + 1)) x345000 x345001) else ((ecdysisref15_Nums.f k ((rd_T47 x345001 x8).f0) ((rd_T47 x345001 x8).f1) ((rd_T47 x345001 x8).f2)).bind fun t384 => ((ecdysisref15_Rises.f k t384).bind fun t387 => (if t387 = true then ((ecdysisref15_Rises.f k ((rd_T47 x345001 x8).f2)).bind fun t388 => (if t388 = true then (if (((rd_T47 x345001 x8).f2).length : Int) > 0 then (if 0 < (((rd_T47 x345001 x8).f2).length : Int) then (if (rd ((rd_T47 x345001 x8).f2) 0) < 1 then (ecdysisref15_order.l2 k true x4 (wrap64 (x8 + 1)) x345000 x345001) else (if 0 ≤ (wrap64 ((((rd_T47 x345001 x8).f2).length : Int) - 1)) then (if (wrap64 ((((rd_T47 x345001 x8).f2).length : Int) - 1)) < (((rd_T47 x345001 x8).f2).length : Int) then (ecdysisref15_order.l2 k (decide ((rd ((rd_T47 x345001 x8).f2) (wrap64 ((((rd_T47 x345001 x8).f2).length : Int) - 1))) > 536870911)) x4 (wrap64 (x8 + 1)) x345000 x345001) else (none)) else (none))) else (none)) else (ecdysisref15_order.l2 k false x4 (wrap64 (x8 + 1)) x345000 x345001)) else (ecdysisref15_order.l2 k true x4 (wrap64 (x8 + 1)) x345000 x345001))) else (ecdysisref15_order.l2 k true x4 (wrap64 (x8 + 1)) x345000 x345001))))) else (none))) else (if x3 = true then (some true) else ((ecdysisref09_Rise.f k x4).bind fun t368 => (some (!t368))))
end
def ecdysisref15_order.f (k : Nat) (l0_0 : List (S86)) (l0_1 : List (S47)) : Option (Bool) := ecdysisref15_order.l0 k false (([] : List ByteArray)) 0 l0_0 l0_1
set_option maxHeartbeats 8000000 in
set_option maxRecDepth 100000 in
theorem ecdysisref15_order.calls (k : Nat) (A0_0 : Option Addr) (c0_0 : Nat) (l0_0 : List (S86)) (A0_1 : Option Addr) (c0_1 : Nat) (l0_1 : List (S47)) (r : Bool) (w : World) (hr0_0 : Kd.C k86 w A0_0 l0_0.length l0_0) (hc0_0 : l0_0.length ≤ c0_0) (hr0_1 : Kd.C k47 w A0_1 l0_1.length l0_1) (hc0_1 : l0_1.length ≤ c0_1) (h : ecdysisref15_order.f k l0_0 l0_1 = some r) :
  Calls Try.prog 68 #[.agg #[.slice A0_0 l0_0.length c0_0, .slice A0_1 l0_1.length c0_1]] w fun e w' => e = .returned (.bool r) ∧ Below w.heap.size w w' := by
 have hu35 := Try.underlying35
 have hu47 := Try.underlying47
 have HR0_0 := Aside0.mk hr0_0
 have HC0_0 := Aside0.mk hc0_0
 clear hr0_0 hc0_0
 have HR0_1 := Aside0.mk hr0_1
 have HC0_1 := Aside0.mk hc0_1
 clear hr0_1 hc0_1
 have HB := Aside0.mk (Below.refl w.heap.size w)
 have H : (ecdysisref15_order.l0 k false (([] : List ByteArray)) 0 l0_0 l0_1) = some r := h
 clear h
 obtain ⟨y345, hy345⟩ : ∃ y_ : List ByteArray, y_ = (([] : List ByteArray)) := ⟨_, rfl⟩
 replace H : (ecdysisref15_order.l0 k false y345 0 l0_0 l0_1) = some r := by first | (rw [hy345]; with_reducible exact H) 
 have Ny345 := Aside0.mk hy345
 clear hy345
 have H' := Aside0.mk H
 clear H
 go_enter Try.func68, Try.ntmps68
 go_wp2_with (first | ((with_reducible refine gate_dst (N := 1) rfl ?_); (try (refine gate_guard (by rfl) ?_; dsimp only)); refine box_event ?hg (N := 1) ?hd (cs := #[.slice A0_0 l0_0.length c0_0, .slice A0_1 l0_1.length c0_1]) (t := 35) ?hr ?_; (case hd => rfl); (case hg => rfl); (case hr => first | (go_simp; done) | (go_simp; rfl)); intro gb344 hg w2 hbox hb; have n0_ := Aside0.mk (below_step HB.out hb); have n1_ := Aside0.mk (hbox); clear HB; have HB := n0_; have BK344 := n1_; clear n0_ n1_; clear hb hbox hg) | ((with_reducible refine gate_dst (N := 10) rfl ?_); (try (refine gate_guard (by rfl) ?_; dsimp only)); refine Kd.R_lit Kd.string _ 9 ?hg (N := 10) ?hd (xs := ([] : List ByteArray)) (inner := []) (ok := fun _ => True) (okp := fun _ => True) ?hr ?hp (fun _ hk => hk) trivial (Below.refl _ _) (Nat.le_refl _) (by simp) ?_; (case hd => rfl); (case hg => rfl); (case hr => first | (go_simp; done) | (go_simp; rfl)); (case hp => exact (Reps.none _ _)); intro v346 w3 ho4 hb hg_ hnew_; clear hg_ hnew_; (first | rw [← Ny345.out] at ho4 ); have n0_ := Aside0.mk (Kd.R_lower ho4 (below_size HB.out)); have n1_ := Aside0.mk (blk_below BK344.out hb); have n2_ := Aside0.mk (below_step HB.out hb); clear BK344; clear HB; have HO347 := n0_; have BK344 := n1_; have HB := n2_; clear n0_ n1_ n2_; clear hb ho4))
 go_loopg [3, 4, 5] k (fun kq v3 v4 v5 w' => ∃ (x3_1 : Bool) (x4_1 : List ByteArray) (x5_1 : Int), v3 = .bool x3_1 ∧ v5 = .int .i64 x5_1 ∧ Aside0 (ecdysisref15_order.l0 kq x3_1 x4_1 x5_1 l0_0 l0_1 = some r) ∧ Aside0 (kq ≤ k) ∧ Aside0 (Kd.R Kd.string 9 w' w.heap.size (fun _ => True) v4 x4_1) ∧ Aside0 (w'.heap[gb344]? = some (.cells #[(.slice A0_0 l0_0.length c0_0), (.slice A0_1 l0_1.length c0_1)] 35 (0, 0))) ∧ Aside0 (Below w.heap.size w w'))
 case atStart => exact ⟨(false), (y345), (0), (by first | rfl ), (by first | rfl ), H', ⟨Nat.le_refl _⟩, ⟨by exact HO347.out⟩, ⟨by exact BK344.out⟩, ⟨by exact HB.out⟩⟩
 case round =>
  clear H'
  try clear p2
  obtain ⟨x3_1, x4_1, x5_1, rfl, rfl, HA, HK1, HO_4, BK344, HB⟩ := hrel
  cases gk with
  | zero => exact absurd HA.out (by simp [ecdysisref15_order.l0])
  | succ k1 =>
   have H := HA.out
   clear HA
   simp only [ecdysisref15_order.l0] at H
   by_cases c5 : x5_1 < (l0_0.length : Int)
   · rw [if_pos c5] at H
     have c5b0 : decide (x5_1 < (l0_0.length : Int)) = true := decide_eq_true c5
     clear c5
     by_cases c6 : 0 ≤ x5_1
     · rw [if_pos c6] at H
       have c6b0 : decide (0 ≤ x5_1) = true := decide_eq_true c6
       clear c6
       by_cases c7 : x4_1.length < 8796093022208
       · rw [if_pos c7] at H
         have LMc7 := Aside0.mk c7
         clear c7
         obtain ⟨y349, hy349⟩ : ∃ y_ : List ByteArray, y_ = (x4_1 ++ [(rd_T86 l0_0 x5_1).f0]) := ⟨_, rfl⟩
         replace H : (ecdysisref15_order.l1 k1 x3_1 y349 x5_1 (([] : List Int)) 0 l0_0 l0_1) = some r := by first | (rw [hy349]; with_reducible exact H) 
         have Ny349 := Aside0.mk hy349
         clear hy349
         obtain ⟨y352, hy352⟩ : ∃ y_ : List Int, y_ = (([] : List Int)) := ⟨_, rfl⟩
         replace H : (ecdysisref15_order.l1 k1 x3_1 y349 x5_1 y352 0 l0_0 l0_1) = some r := by first | (rw [hy352]; with_reducible exact H) 
         have Ny352 := Aside0.mk hy352
         clear hy352
         have H' := Aside0.mk H
         clear H
         have hcz8_0 : wr.cell? ⟨gb344, 0, none⟩ = some (.slice A0_0 l0_0.length c0_0) := (blk_cell BK344.out 0).trans rfl
         have hcz8_1 : wr.cell? ⟨gb344, 1, none⟩ = some (.slice A0_1 l0_1.length c0_1) := (blk_cell BK344.out 1).trans rfl
         have hfz8_0 := blk_frozen BK344.out 0
         have hfz8_1 := blk_frozen BK344.out 1
         have p348 : 0 ≤ (x5_1 : Int) := of_decide_eq_true (by first | (with_reducible assumption) )
         have q348 : x5_1 < (l0_0.length : Int) := of_decide_eq_true (by first | (with_reducible assumption) )
         obtain ⟨ad348, A348_1, c348_1, e348, hx348_0, hx348_1, hl348_1, hi348_1⟩ := at_T86 HR0_0.out x5_1 p348 q348
         cases e348
         replace hx348_0 := (HB.out.cell (World.block_lt_of_cell? w _ hx348_0)).trans hx348_0
         replace hx348_1 := (HB.out.cell (World.block_lt_of_cell? w _ hx348_1)).trans hx348_1
         have HR348_1 := Aside0.mk hi348_1
         have HC348_1 := Aside0.mk hl348_1
         clear hi348_1 hl348_1
         replace p348 := eq_true p348
         replace q348 := eq_true q348
         go_wp2_with (first | ((with_reducible refine gate_builtin (b := .append) (xs := #[.tmp 18, .tmp 25]) rfl ?_); (try (refine gate_guard (by rfl) ?_; dsimp only)); at_builtin; refine Kd.R_append Kd.string (w0 := w) w.heap.size rfl (.tmp 18) (.tmp 25) 37 9 (.string ⟨#[]⟩) 16 rfl Try.underlying37 info9 rfl (by decide) (by omega) u4 x4_1 ((rd_T86 l0_0 x5_1).f0) [.string ((rd_T86 l0_0 x5_1).f0)] (fun _ => True) (fun _ => False) rfl rfl ?aP (fun _ hk => hk.elim) ?aF ?aO ?aB ?aS ?aL ?_; (case aP => exact rfl); (case aB => exact HB.out); (case aF => exact (fun _ _ => trivial)); (case aO => exact HO_4.out); (case aS => exact (below_size HB.out)); (case aL => have := LMc7.out; omega); intro v350 w9 ho hb hg hat; rw [← Ny349.out] at ho; have n0_ := Aside0.mk (blk_grown (g := gb344) (o := .cells #[.slice (some ad348) l0_0.length c0_0, .slice A0_1 l0_1.length c0_1] 35 (0, 0)) BK344.out hg (Kd.R_ne HO_4.out BK344.out (by decide))); have n1_ := Aside0.mk (hb); have n2_ := Aside0.mk (ho); clear BK344; clear HB; clear HO_4; have BK344 := n0_; have HB := n1_; have HO351 := n2_; clear n0_ n1_ n2_; clear ho hb hg hat) | ((with_reducible refine gate_dst (N := 27) rfl ?_); (try (refine gate_guard (by rfl) ?_; dsimp only)); refine Kd.R_lit (Kd.int .i64) _ 3 ?hg (N := 27) ?hd (xs := ([] : List Int)) (inner := []) (ok := fun _ => True) (okp := fun _ => True) ?hr ?hp (fun _ hk => hk) trivial (Below.refl _ _) (Nat.le_refl _) (by simp) ?_; (case hd => rfl); (case hg => rfl); (case hr => first | (go_simp; done) | (go_simp; rfl)); (case hp => exact (Reps.none _ _)); intro v353 w10 ho11 hb hg_ hnew_; clear hg_ hnew_; (first | rw [← Ny352.out] at ho11 ); have n0_ := Aside0.mk (Kd.R_below HO351.out hb); have n1_ := Aside0.mk (Kd.R_lower ho11 (below_size HB.out)); have n2_ := Aside0.mk (blk_below BK344.out hb); have n3_ := Aside0.mk (below_step HB.out hb); clear HO351; clear BK344; clear HB; have HO351 := n0_; have HO354 := n1_; have BK344 := n2_; have HB := n3_; clear n0_ n1_ n2_ n3_; clear hb ho11))
         go_loopg [6, 7] k1 (fun kq v6 v7 w' => ∃ (x6_2 : List Int) (x7_2 : Int), v7 = .int .i64 x7_2 ∧ Aside0 (ecdysisref15_order.l1 kq x3_1 y349 x5_1 x6_2 x7_2 l0_0 l0_1 = some r) ∧ Aside0 (kq ≤ k1) ∧ Aside0 (Kd.R Kd.string 9 w' w.heap.size (fun _ => True) v350 y349) ∧ Aside0 (Kd.R (Kd.int .i64) 3 w' w.heap.size (fun _ => True) v6 x6_2) ∧ Aside0 (w'.heap[gb344]? = some (.cells #[(.slice (some ad348) l0_0.length c0_0), (.slice A0_1 l0_1.length c0_1)] 35 (0, 0))) ∧ Aside0 (Below w.heap.size w w'))
         case atStart => exact ⟨(y352), (0), (by first | rfl ), H', ⟨Nat.le_refl _⟩, ⟨by exact HO351.out⟩, ⟨by exact HO354.out⟩, ⟨by exact BK344.out⟩, ⟨by exact HB.out⟩⟩
         case round =>
          clear H'
          try clear p2
          try clear c3
          try clear p3
          try clear q3
          try clear hx3
          try clear c5
          try clear c5b0
          try clear c6
          try clear c6b0
          try clear c7
          try clear hcz8_0
          try clear hcz8_1
          try clear hfz8_0
          try clear hfz8_1
          try clear hx348_0
          try clear hx348_1
          try clear p2
          try clear p348
          try clear q348
          obtain ⟨x6_2, x7_2, rfl, HA, HK2, HO_4, HO_6, BK344, HB⟩ := hrel
          cases gk with
          | zero => exact absurd HA.out (by simp [ecdysisref15_order.l1])
          | succ k2 =>
           have H := HA.out
           clear HA
           simp only [ecdysisref15_order.l1] at H
           by_cases c12 : 0 ≤ x5_1
           · rw [if_pos c12] at H
             have c12b0 : decide (0 ≤ x5_1) = true := decide_eq_true c12
             clear c12
             by_cases c13 : x5_1 < (l0_0.length : Int)
             · rw [if_pos c13] at H
               have c13b0 : decide (x5_1 < (l0_0.length : Int)) = true := decide_eq_true c13
               clear c13
               by_cases c14 : x7_2 < (((rd_T86 l0_0 x5_1).f1).length : Int)
               · rw [if_pos c14] at H
                 have c14b0 : decide (x7_2 < (((rd_T86 l0_0 x5_1).f1).length : Int)) = true := decide_eq_true c14
                 clear c14
                 by_cases c15 : 0 ≤ x7_2
                 · rw [if_pos c15] at H
                   have c15b0 : decide (0 ≤ x7_2) = true := decide_eq_true c15
                   clear c15
                   by_cases c16 : x6_2.length < 17592186044416
                   · rw [if_pos c16] at H
                     have LMc16 := Aside0.mk c16
                     clear c16
                     obtain ⟨y358, hy358⟩ : ∃ y_ : List Int, y_ = (x6_2 ++ [(rd_T88 ((rd_T86 l0_0 x5_1).f1) x7_2).f1]) := ⟨_, rfl⟩
                     replace H : (ecdysisref15_order.l1 k2 x3_1 y349 x5_1 y358 (wrap64 (x7_2 + 1)) l0_0 l0_1) = some r := by first | (rw [hy358]; with_reducible exact H) 
                     have Ny358 := Aside0.mk hy358
                     clear hy358
                     have H' := Aside0.mk H
                     clear H
                     have hcz17_0 : wr.cell? ⟨gb344, 0, none⟩ = some (.slice (some ad348) l0_0.length c0_0) := (blk_cell BK344.out 0).trans rfl
                     have hcz17_1 : wr.cell? ⟨gb344, 1, none⟩ = some (.slice A0_1 l0_1.length c0_1) := (blk_cell BK344.out 1).trans rfl
                     have hfz17_0 := blk_frozen BK344.out 0
                     have hfz17_1 := blk_frozen BK344.out 1
                     have p355 : 0 ≤ (x5_1 : Int) := of_decide_eq_true (by first | (with_reducible assumption) )
                     have q355 : x5_1 < (l0_0.length : Int) := of_decide_eq_true (by first | (with_reducible assumption) )
                     obtain ⟨ad355, A355_1, c355_1, e355, hx355_0, hx355_1, hl355_1, hi355_1⟩ := at_T86 HR0_0.out x5_1 p355 q355
                     obtain rfl : ad348 = ad355 := (by injection e355)
                     replace hx355_0 := (HB.out.cell (World.block_lt_of_cell? w _ hx355_0)).trans hx355_0
                     replace hx355_1 := (HB.out.cell (World.block_lt_of_cell? w _ hx355_1)).trans hx355_1
                     have HR355_1 := Aside0.mk hi355_1
                     have HC355_1 := Aside0.mk hl355_1
                     clear hi355_1 hl355_1
                     replace p355 := eq_true p355
                     replace q355 := eq_true q355
                     have p356 : 0 ≤ (x5_1 : Int) := of_decide_eq_true (by first | (with_reducible assumption) )
                     have q356 : x5_1 < (l0_0.length : Int) := of_decide_eq_true (by first | (with_reducible assumption) )
                     obtain ⟨ad356, A356_1, c356_1, e356, hx356_0, hx356_1, hl356_1, hi356_1⟩ := at_T86 HR0_0.out x5_1 p356 q356
                     obtain rfl : ad348 = ad356 := (by injection e356)
                     replace hx356_0 := (HB.out.cell (World.block_lt_of_cell? w _ hx356_0)).trans hx356_0
                     replace hx356_1 := (HB.out.cell (World.block_lt_of_cell? w _ hx356_1)).trans hx356_1
                     have HR356_1 := Aside0.mk hi356_1
                     have HC356_1 := Aside0.mk hl356_1
                     clear hi356_1 hl356_1
                     replace p356 := eq_true p356
                     replace q356 := eq_true q356
                     have ea_ := Option.some.inj (hx355_1.symm.trans hx356_1)
                     injection ea_ with ea_ en_ ec_
                     subst ea_
                     subst ec_
                     clear en_
                     have p357 : 0 ≤ (x7_2 : Int) := of_decide_eq_true (by first | (with_reducible assumption) )
                     have q357 : x7_2 < (((rd_T86 l0_0 x5_1).f1).length : Int) := of_decide_eq_true (by first | (with_reducible assumption) )
                     obtain ⟨ad357, e357, hx357_0, hx357_1⟩ := at_T88 HR356_1.out x7_2 p357 q357
                     cases e357
                     replace hx357_0 := (HB.out.cell (World.block_lt_of_cell? w _ hx357_0)).trans hx357_0
                     replace hx357_1 := (HB.out.cell (World.block_lt_of_cell? w _ hx357_1)).trans hx357_1
                     replace p357 := eq_true p357
                     replace q357 := eq_true q357
                     go_wp2_with (first | ((with_reducible refine gate_builtin (b := .append) (xs := #[.tmp 39, .tmp 50]) rfl ?_); (try (refine gate_guard (by rfl) ?_; dsimp only)); at_builtin; refine Kd.R_append (Kd.int .i64) (w0 := w) w.heap.size rfl (.tmp 39) (.tmp 50) 45 3 (.int .i64 0) 8 rfl Try.underlying45 info3 rfl (by decide) (by omega) u6 x6_2 ((rd_T88 ((rd_T86 l0_0 x5_1).f1) x7_2).f1) [.int .i64 ((rd_T88 ((rd_T86 l0_0 x5_1).f1) x7_2).f1)] (fun _ => True) (fun _ => False) rfl rfl ?aP (fun _ hk => hk.elim) ?aF ?aO ?aB ?aS ?aL ?_; (case aP => exact rfl); (case aB => exact HB.out); (case aF => exact (fun _ _ => trivial)); (case aO => exact HO_6.out); (case aS => exact (below_size HB.out)); (case aL => have := LMc16.out; omega); intro v359 w18 ho hb hg hat; rw [← Ny358.out] at ho; have n0_ := Aside0.mk (Kd.R_over' HO_4.out (Kd.R_typed HO_6.out) (by decide) hg); have n1_ := Aside0.mk (blk_grown (g := gb344) (o := .cells #[.slice (some ad348) l0_0.length c0_0, .slice A0_1 l0_1.length c0_1] 35 (0, 0)) BK344.out hg (Kd.R_ne HO_6.out BK344.out (by decide))); have n2_ := Aside0.mk (hb); have n3_ := Aside0.mk (ho); clear HO_4; clear BK344; clear HB; clear HO_6; have HO_4 := n0_; have BK344 := n1_; have HB := n2_; have HO360 := n3_; clear n0_ n1_ n2_ n3_; clear ho hb hg hat))
                     go_roundg k2
                     case measure => have := HK1.out; have := HK2.out; omega
                     case rel => exact ⟨(y358), (wrap64 (x7_2 + 1)), (by first | rfl ), H', ⟨by have := HK1.out; have := HK2.out; omega⟩, ⟨by exact HO_4.out⟩, ⟨by exact HO360.out⟩, ⟨by exact BK344.out⟩, ⟨by exact HB.out⟩⟩
                   · rw [if_neg c16] at H
                     exact absurd H (by simp)
                 · rw [if_neg c15] at H
                   exact absurd H (by simp)
               · rw [if_neg c14] at H
                 have c14b0 : decide (x7_2 < (((rd_T86 l0_0 x5_1).f1).length : Int)) = false := decide_eq_false c14
                 clear c14
                 by_cases c19 : x3_1 = true
                 · subst c19
                   have H1 : (ecdysisref15_order.l0 k2 true y349 (wrap64 (x5_1 + 1)) l0_0 l0_1) = some r := by rw [if_pos rfl] at H; exact H
                   clear H
                   have H := H1
                   clear H1
                   have H' := Aside0.mk H
                   clear H
                   have hcz20_0 : wr.cell? ⟨gb344, 0, none⟩ = some (.slice (some ad348) l0_0.length c0_0) := (blk_cell BK344.out 0).trans rfl
                   have hcz20_1 : wr.cell? ⟨gb344, 1, none⟩ = some (.slice A0_1 l0_1.length c0_1) := (blk_cell BK344.out 1).trans rfl
                   have hfz20_0 := blk_frozen BK344.out 0
                   have hfz20_1 := blk_frozen BK344.out 1
                   have p355 : 0 ≤ (x5_1 : Int) := of_decide_eq_true (by first | (with_reducible assumption) )
                   have q355 : x5_1 < (l0_0.length : Int) := of_decide_eq_true (by first | (with_reducible assumption) )
                   obtain ⟨ad355, A355_1, c355_1, e355, hx355_0, hx355_1, hl355_1, hi355_1⟩ := at_T86 HR0_0.out x5_1 p355 q355
                   obtain rfl : ad348 = ad355 := (by injection e355)
                   replace hx355_0 := (HB.out.cell (World.block_lt_of_cell? w _ hx355_0)).trans hx355_0
                   replace hx355_1 := (HB.out.cell (World.block_lt_of_cell? w _ hx355_1)).trans hx355_1
                   have HR355_1 := Aside0.mk hi355_1
                   have HC355_1 := Aside0.mk hl355_1
                   clear hi355_1 hl355_1
                   replace p355 := eq_true p355
                   replace q355 := eq_true q355
                   go_wp2
                   go_roundg k2
                   case measure => have := HK1.out; have := HK2.out; omega
                   case rel => exact ⟨(true), (y349), (wrap64 (x5_1 + 1)), (by first | rfl ), (by first | rfl ), H', ⟨by have := HK1.out; have := HK2.out; omega⟩, ⟨by exact HO_4.out⟩, ⟨by exact BK344.out⟩, ⟨by exact HB.out⟩⟩
                 · replace c19 := Bool.eq_false_iff.mpr c19
                   subst c19
                   have H1 : ((ecdysisref15_Rises.f k2 x6_2).bind fun t361 => (if t361 = true then (if 0 < (x6_2.length : Int) then (if (rd x6_2 0) = 0 then (if 0 ≤ (wrap64 ((x6_2.length : Int) - 1)) then (if (wrap64 ((x6_2.length : Int) - 1)) < (x6_2.length : Int) then (ecdysisref15_order.l0 k2 (decide ((rd x6_2 (wrap64 ((x6_2.length : Int) - 1))) > 1048576)) y349 (wrap64 (x5_1 + 1)) l0_0 l0_1) else (none)) else (none)) else (ecdysisref15_order.l0 k2 true y349 (wrap64 (x5_1 + 1)) l0_0 l0_1)) else (none)) else (ecdysisref15_order.l0 k2 true y349 (wrap64 (x5_1 + 1)) l0_0 l0_1))) = some r := by rw [if_neg (show ¬ (false = true) by decide)] at H; exact H
                   clear H
                   have H := H1
                   clear H1
                   replace H := Option.bind_eq_some_iff.mp H
                   obtain ⟨t361, A210, H⟩ := H
                   replace H : (if t361 = true then (if 0 < (x6_2.length : Int) then (if (rd x6_2 0) = 0 then (if 0 ≤ (wrap64 ((x6_2.length : Int) - 1)) then (if (wrap64 ((x6_2.length : Int) - 1)) < (x6_2.length : Int) then (ecdysisref15_order.l0 k2 (decide ((rd x6_2 (wrap64 ((x6_2.length : Int) - 1))) > 1048576)) y349 (wrap64 (x5_1 + 1)) l0_0 l0_1) else (none)) else (none)) else (ecdysisref15_order.l0 k2 true y349 (wrap64 (x5_1 + 1)) l0_0 l0_1)) else (none)) else (ecdysisref15_order.l0 k2 true y349 (wrap64 (x5_1 + 1)) l0_0 l0_1)) = some r := H
                   have A21 := Aside0.mk A210
                   clear A210
                   by_cases c22 : t361 = true
                   · subst c22
                     have H1 : (if 0 < (x6_2.length : Int) then (if (rd x6_2 0) = 0 then (if 0 ≤ (wrap64 ((x6_2.length : Int) - 1)) then (if (wrap64 ((x6_2.length : Int) - 1)) < (x6_2.length : Int) then (ecdysisref15_order.l0 k2 (decide ((rd x6_2 (wrap64 ((x6_2.length : Int) - 1))) > 1048576)) y349 (wrap64 (x5_1 + 1)) l0_0 l0_1) else (none)) else (none)) else (ecdysisref15_order.l0 k2 true y349 (wrap64 (x5_1 + 1)) l0_0 l0_1)) else (none)) = some r := by rw [if_pos rfl] at H; exact H
                     clear H
                     have H := H1
                     clear H1
                     by_cases c23 : 0 < (x6_2.length : Int)
                     · rw [if_pos c23] at H
                       have c23b0 : decide (0 < (x6_2.length : Int)) = true := decide_eq_true c23
                       have c23b1 : decide (0 < x6_2.length) = true := decide_eq_true (by omega)
                       clear c23
                       by_cases c24 : (rd x6_2 0) = 0
                       · rw [if_pos c24] at H
                         have c24b0 : ((rd x6_2 0) == 0) = true := beq_iff_eq.mpr c24
                         have c24b1 : ((rd x6_2 0) != 0) = false := bne_eq_false_iff_eq.mpr c24
                         clear c24
                         obtain ⟨ji25, hji25⟩ : ∃ j_ : Int, (wrap64 ((x6_2.length : Int) - 1)) = j_ := ⟨_, rfl⟩
                         replace H : (if 0 ≤ (ji25) then (if (ji25) < (x6_2.length : Int) then (ecdysisref15_order.l0 k2 (decide ((rd x6_2 (ji25)) > 1048576)) y349 (wrap64 (x5_1 + 1)) l0_0 l0_1) else (none)) else (none)) = some r := by first | (rw [hji25] at H; exact H) 
                         (try rw [hji25] at A21)
                         have hji25w : (IntKind.i64.wrap ((x6_2.length : Int) - 1)) = ji25 := (i64_w _).trans hji25
                         by_cases c26 : 0 ≤ (ji25)
                         · rw [if_pos c26] at H
                           have c26b0 : decide (0 ≤ (ji25)) = true := decide_eq_true c26
                           clear c26
                           by_cases c27 : (ji25) < (x6_2.length : Int)
                           · rw [if_pos c27] at H
                             have c27b0 : decide ((ji25) < (x6_2.length : Int)) = true := decide_eq_true c27
                             clear c27
                             have H' := Aside0.mk H
                             clear H
                             have hcz28_0 : wr.cell? ⟨gb344, 0, none⟩ = some (.slice (some ad348) l0_0.length c0_0) := (blk_cell BK344.out 0).trans rfl
                             have hcz28_1 : wr.cell? ⟨gb344, 1, none⟩ = some (.slice A0_1 l0_1.length c0_1) := (blk_cell BK344.out 1).trans rfl
                             have hfz28_0 := blk_frozen BK344.out 0
                             have hfz28_1 := blk_frozen BK344.out 1
                             have p355 : 0 ≤ (x5_1 : Int) := of_decide_eq_true (by first | (with_reducible assumption) )
                             have q355 : x5_1 < (l0_0.length : Int) := of_decide_eq_true (by first | (with_reducible assumption) )
                             obtain ⟨ad355, A355_1, c355_1, e355, hx355_0, hx355_1, hl355_1, hi355_1⟩ := at_T86 HR0_0.out x5_1 p355 q355
                             obtain rfl : ad348 = ad355 := (by injection e355)
                             replace hx355_0 := (HB.out.cell (World.block_lt_of_cell? w _ hx355_0)).trans hx355_0
                             replace hx355_1 := (HB.out.cell (World.block_lt_of_cell? w _ hx355_1)).trans hx355_1
                             have HR355_1 := Aside0.mk hi355_1
                             have HC355_1 := Aside0.mk hl355_1
                             clear hi355_1 hl355_1
                             replace p355 := eq_true p355
                             replace q355 := eq_true q355
                             obtain ⟨Ao29, co29, eo29⟩ := Kd.R_slice HO_6.out
                             subst eo29
                             go_wp2_with (first | (go_at_call 96; (with_reducible refine (ecdysisref15_Rises.calls k2 _ _ x6_2 true _ ?side1 ?side2 A21.out).mono ?_); (case side1 => repeat (first | exact (Kd.R_reads' HO_6.out).2.2 )); (case side2 => exact (Kd.R_reads' HO_6.out).2.1); rintro e w' ⟨rfl, ⟨nd, rfl⟩⟩; have p362 : 0 ≤ (0 : Int) := (by omega); have q362 : 0 < (x6_2.length : Int) := of_decide_eq_true (by first | (with_reducible assumption) ); obtain ⟨ad362, e362, hx362_0⟩ := Kd.at_int (Kd.R_reads' HO_6.out).2.2 0 p362 q362; cases e362; have qi362 : (0 < x6_2.length) = True := eq_true (by omega); (try rw [show ((0 : Int)).toNat = 0 from rfl] at hx362_0); (try rw [Addr.add_zero'] at hx362_0); replace p362 := eq_true p362; replace q362 := eq_true q362; have p363 : 0 ≤ ((ji25) : Int) := of_decide_eq_true (by first | (with_reducible assumption) ); have q363 : (ji25) < (x6_2.length : Int) := of_decide_eq_true (by first | (with_reducible assumption) ); obtain ⟨ad363, e363, hx363_0⟩ := Kd.at_int (Kd.R_reads' HO_6.out).2.2 (ji25) p363 q363; obtain rfl : ad362 = ad363 := (by injection e363); replace p363 := eq_true p363; replace q363 := eq_true q363))
                             go_roundg k2
                             case measure => have := HK1.out; have := HK2.out; omega
                             case rel => exact ⟨(decide ((rd x6_2 (ji25)) > 1048576)), (y349), (wrap64 (x5_1 + 1)), (by first | rfl ), (by first | rfl ), H', ⟨by have := HK1.out; have := HK2.out; omega⟩, ⟨by (with_reducible repeat (first | apply Kd.R_drewN )); exact HO_4.out⟩, ⟨by (with_reducible repeat (first | refine blk_drewN ?_ _ )); exact BK344.out⟩, ⟨by repeat (first | (with_reducible first | exact HB.out | apply pw_below_drewN ) )⟩⟩
                           · rw [if_neg c27] at H
                             exact absurd H (by simp)
                         · rw [if_neg c26] at H
                           exact absurd H (by simp)
                       · rw [if_neg c24] at H
                         have c24b0 : ((rd x6_2 0) == 0) = false := beq_eq_false_iff_ne.mpr c24
                         have c24b1 : ((rd x6_2 0) != 0) = true := bne_iff_ne.mpr c24
                         have H' := Aside0.mk H
                         clear H
                         have hcz30_0 : wr.cell? ⟨gb344, 0, none⟩ = some (.slice (some ad348) l0_0.length c0_0) := (blk_cell BK344.out 0).trans rfl
                         have hcz30_1 : wr.cell? ⟨gb344, 1, none⟩ = some (.slice A0_1 l0_1.length c0_1) := (blk_cell BK344.out 1).trans rfl
                         have hfz30_0 := blk_frozen BK344.out 0
                         have hfz30_1 := blk_frozen BK344.out 1
                         have p355 : 0 ≤ (x5_1 : Int) := of_decide_eq_true (by first | (with_reducible assumption) )
                         have q355 : x5_1 < (l0_0.length : Int) := of_decide_eq_true (by first | (with_reducible assumption) )
                         obtain ⟨ad355, A355_1, c355_1, e355, hx355_0, hx355_1, hl355_1, hi355_1⟩ := at_T86 HR0_0.out x5_1 p355 q355
                         obtain rfl : ad348 = ad355 := (by injection e355)
                         replace hx355_0 := (HB.out.cell (World.block_lt_of_cell? w _ hx355_0)).trans hx355_0
                         replace hx355_1 := (HB.out.cell (World.block_lt_of_cell? w _ hx355_1)).trans hx355_1
                         have HR355_1 := Aside0.mk hi355_1
                         have HC355_1 := Aside0.mk hl355_1
                         clear hi355_1 hl355_1
                         replace p355 := eq_true p355
                         replace q355 := eq_true q355
                         obtain ⟨Ao31, co31, eo31⟩ := Kd.R_slice HO_6.out
                         subst eo31
                         go_wp2_with (first | (go_at_call 96; (with_reducible refine (ecdysisref15_Rises.calls k2 _ _ x6_2 true _ ?side1 ?side2 A21.out).mono ?_); (case side1 => repeat (first | exact (Kd.R_reads' HO_6.out).2.2 )); (case side2 => exact (Kd.R_reads' HO_6.out).2.1); rintro e w' ⟨rfl, ⟨nd, rfl⟩⟩; have p362 : 0 ≤ (0 : Int) := (by omega); have q362 : 0 < (x6_2.length : Int) := of_decide_eq_true (by first | (with_reducible assumption) ); obtain ⟨ad362, e362, hx362_0⟩ := Kd.at_int (Kd.R_reads' HO_6.out).2.2 0 p362 q362; cases e362; have qi362 : (0 < x6_2.length) = True := eq_true (by omega); (try rw [show ((0 : Int)).toNat = 0 from rfl] at hx362_0); (try rw [Addr.add_zero'] at hx362_0); replace p362 := eq_true p362; replace q362 := eq_true q362))
                         go_roundg k2
                         case measure => have := HK1.out; have := HK2.out; omega
                         case rel => exact ⟨(true), (y349), (wrap64 (x5_1 + 1)), (by first | rfl ), (by first | rfl ), H', ⟨by have := HK1.out; have := HK2.out; omega⟩, ⟨by (with_reducible repeat (first | apply Kd.R_drewN )); exact HO_4.out⟩, ⟨by (with_reducible repeat (first | refine blk_drewN ?_ _ )); exact BK344.out⟩, ⟨by repeat (first | (with_reducible first | exact HB.out | apply pw_below_drewN ) )⟩⟩
                     · rw [if_neg c23] at H
                       exact absurd H (by simp)
                   · replace c22 := Bool.eq_false_iff.mpr c22
                     subst c22
                     have H1 : (ecdysisref15_order.l0 k2 true y349 (wrap64 (x5_1 + 1)) l0_0 l0_1) = some r := by rw [if_neg (show ¬ (false = true) by decide)] at H; exact H
                     clear H
                     have H := H1
                     clear H1
                     have H' := Aside0.mk H
                     clear H
                     have hcz32_0 : wr.cell? ⟨gb344, 0, none⟩ = some (.slice (some ad348) l0_0.length c0_0) := (blk_cell BK344.out 0).trans rfl
                     have hcz32_1 : wr.cell? ⟨gb344, 1, none⟩ = some (.slice A0_1 l0_1.length c0_1) := (blk_cell BK344.out 1).trans rfl
                     have hfz32_0 := blk_frozen BK344.out 0
                     have hfz32_1 := blk_frozen BK344.out 1
                     have p355 : 0 ≤ (x5_1 : Int) := of_decide_eq_true (by first | (with_reducible assumption) )
                     have q355 : x5_1 < (l0_0.length : Int) := of_decide_eq_true (by first | (with_reducible assumption) )
                     obtain ⟨ad355, A355_1, c355_1, e355, hx355_0, hx355_1, hl355_1, hi355_1⟩ := at_T86 HR0_0.out x5_1 p355 q355
                     obtain rfl : ad348 = ad355 := (by injection e355)
                     replace hx355_0 := (HB.out.cell (World.block_lt_of_cell? w _ hx355_0)).trans hx355_0
                     replace hx355_1 := (HB.out.cell (World.block_lt_of_cell? w _ hx355_1)).trans hx355_1
                     have HR355_1 := Aside0.mk hi355_1
                     have HC355_1 := Aside0.mk hl355_1
                     clear hi355_1 hl355_1
                     replace p355 := eq_true p355
                     replace q355 := eq_true q355
                     obtain ⟨Ao33, co33, eo33⟩ := Kd.R_slice HO_6.out
                     subst eo33
                     go_wp2_with (first | (go_at_call 96; (with_reducible refine (ecdysisref15_Rises.calls k2 _ _ x6_2 false _ ?side1 ?side2 A21.out).mono ?_); (case side1 => repeat (first | exact (Kd.R_reads' HO_6.out).2.2 )); (case side2 => exact (Kd.R_reads' HO_6.out).2.1); rintro e w' ⟨rfl, ⟨nd, rfl⟩⟩))
                     go_roundg k2
                     case measure => have := HK1.out; have := HK2.out; omega
                     case rel => exact ⟨(true), (y349), (wrap64 (x5_1 + 1)), (by first | rfl ), (by first | rfl ), H', ⟨by have := HK1.out; have := HK2.out; omega⟩, ⟨by (with_reducible repeat (first | apply Kd.R_drewN )); exact HO_4.out⟩, ⟨by (with_reducible repeat (first | refine blk_drewN ?_ _ )); exact BK344.out⟩, ⟨by repeat (first | (with_reducible first | exact HB.out | apply pw_below_drewN ) )⟩⟩
             · rw [if_neg c13] at H
               exact absurd H (by simp)
           · rw [if_neg c12] at H
             exact absurd H (by simp)
       · rw [if_neg c7] at H
         exact absurd H (by simp)
     · rw [if_neg c6] at H
       exact absurd H (by simp)
   · rw [if_neg c5] at H
     have c5b0 : decide (x5_1 < (l0_0.length : Int)) = false := decide_eq_false c5
     clear c5
     have HC34 := Aside0.mk H
     clear H
     have hcz35_0 : wr.cell? ⟨gb344, 0, none⟩ = some (.slice A0_0 l0_0.length c0_0) := (blk_cell BK344.out 0).trans rfl
     have hcz35_1 : wr.cell? ⟨gb344, 1, none⟩ = some (.slice A0_1 l0_1.length c0_1) := (blk_cell BK344.out 1).trans rfl
     have hfz35_0 := blk_frozen BK344.out 0
     have hfz35_1 := blk_frozen BK344.out 1
     go_upto_region 13 with (fail)
     go_cut [3] (fun v3 wc => ∃ (kq : Nat) (x3_33 : Bool), v3 = .bool x3_33 ∧ Aside0 (ecdysisref15_order.j2 kq x3_33 l0_0 l0_1 = some r) ∧ Aside0 (kq ≤ k1) ∧ Aside0 (wc.heap[gb344]? = some (.cells #[(.slice A0_0 l0_0.length c0_0), (.slice A0_1 l0_1.length c0_1)] 35 (0, 0))) ∧ Aside0 (Below w.heap.size w wc))
     case first =>
       have H := HC34.out
       clear HC34
       by_cases c36 : x3_1 = true
       · subst c36
         have H1 : (ecdysisref15_order.j2 k1 true l0_0 l0_1) = some r := by rw [if_pos rfl] at H; exact H
         clear H
         have H := H1
         clear H1
         have H' := Aside0.mk H
         clear H
         go_wp2
         go_meet
         case rel => exact ⟨_, (true), (by first | rfl ), H', ⟨by have := HK1.out; first | omega | exact Nat.le_refl _⟩, ⟨by exact BK344.out⟩, ⟨by exact HB.out⟩⟩
       · replace c36 := Bool.eq_false_iff.mpr c36
         subst c36
         have H1 : ((ecdysisref09_Rise.f k1 x4_1).bind fun t364 => (ecdysisref15_order.j2 k1 (!t364) l0_0 l0_1)) = some r := by rw [if_neg (show ¬ (false = true) by decide)] at H; exact H
         clear H
         have H := H1
         clear H1
         replace H := Option.bind_eq_some_iff.mp H
         obtain ⟨t364, A370, H⟩ := H
         replace H : (ecdysisref15_order.j2 k1 (!t364) l0_0 l0_1) = some r := H
         have A37 := Aside0.mk A370
         clear A370
         have H' := Aside0.mk H
         clear H
         obtain ⟨Ao38, co38, eo38⟩ := Kd.R_slice HO_4.out
         subst eo38
         go_wp2_with (first | (go_at_call 97; (with_reducible refine (ecdysisref09_Rise.calls k1 _ _ x4_1 t364 _ ?side1 ?side2 A37.out).mono ?_); (case side1 => repeat (first | exact (Kd.R_reads' HO_4.out).2.2 )); (case side2 => exact (Kd.R_reads' HO_4.out).2.1); rintro e w' ⟨rfl, ⟨nd, rfl⟩⟩))
         go_meet
         case rel => exact ⟨_, (!t364), (by first | rfl ), H', ⟨by have := HK1.out; first | omega | exact Nat.le_refl _⟩, ⟨by (with_reducible repeat (first | refine blk_drewN ?_ _ )); exact BK344.out⟩, ⟨by repeat (first | (with_reducible first | exact HB.out | apply pw_below_drewN ) )⟩⟩
     case rest =>
       clear HC34
       try clear c1
       try clear c2
       try clear p2
       try clear c3
       try clear p3
       try clear q3
       try clear hx3
       try clear qi3
       try clear c5
       try clear c5b0
       try clear c6
       try clear c6b0
       try clear p6
       try clear c7
       try clear c12
       try clear c12b0
       try clear c13
       try clear c13b0
       try clear c14
       try clear c14b0
       try clear c15
       try clear c15b0
       try clear c16
       try clear c19
       try clear c22
       try clear c23
       try clear c23b0
       try clear c23b1
       try clear c24
       try clear c24b0
       try clear c24b1
       try clear c26
       try clear c26b0
       try clear c27
       try clear c27b0
       try clear c34
       try clear p34
       try clear q34
       try clear hx34
       try clear c35
       try clear p35
       try clear q35
       try clear hx35
       try clear c36
       try clear p36
       try clear q36
       try clear hx36
       try clear qi36
       try clear hcz17_0
       try clear hcz17_1
       try clear hcz20_0
       try clear hcz20_1
       try clear hcz28_0
       try clear hcz28_1
       try clear hcz30_0
       try clear hcz30_1
       try clear hcz32_0
       try clear hcz32_1
       try clear hcz35_0
       try clear hcz35_1
       try clear hcz8_0
       try clear hcz8_1
       try clear hfz17_0
       try clear hfz17_1
       try clear hfz20_0
       try clear hfz20_1
       try clear hfz28_0
       try clear hfz28_1
       try clear hfz30_0
       try clear hfz30_1
       try clear hfz32_0
       try clear hfz32_1
       try clear hfz35_0
       try clear hfz35_1
       try clear hfz8_0
       try clear hfz8_1
       try clear hx348_0
       try clear hx348_1
       try clear hx355_0
       try clear hx355_1
       try clear hx356_0
       try clear hx356_1
       try clear hx357_0
       try clear hx357_1
       try clear hx362_0
       try clear hx363_0
       try clear p2
       try clear p3
       try clear p348
       try clear p355
       try clear p356
       try clear p357
       try clear p362
       try clear p363
       try clear q3
       try clear q348
       try clear q355
       try clear q356
       try clear q357
       try clear q362
       try clear q363
       obtain ⟨kq, x3_33, rfl, HA, HJ33, BK344, HB⟩ := hcut
       cases kq with
       | zero => exact absurd HA.out (by simp [ecdysisref15_order.j2])
       | succ kj33 =>
         have H := HA.out
         clear HA
         simp only [ecdysisref15_order.j2] at H
         obtain ⟨y365, hy365⟩ : ∃ y_ : List ByteArray, y_ = (([] : List ByteArray)) := ⟨_, rfl⟩
         replace H : (ecdysisref15_order.l2 kj33 x3_33 y365 0 l0_0 l0_1) = some r := by first | (rw [hy365]; with_reducible exact H) 
         have Ny365 := Aside0.mk hy365
         clear hy365
         have H' := Aside0.mk H
         clear H
         go_wp2_with (first | ((with_reducible refine gate_dst (N := 79) rfl ?_); (try (refine gate_guard (by rfl) ?_; dsimp only)); refine Kd.R_lit Kd.string _ 9 ?hg (N := 79) ?hd (xs := ([] : List ByteArray)) (inner := []) (ok := fun _ => True) (okp := fun _ => True) ?hr ?hp (fun _ hk => hk) trivial (Below.refl _ _) (Nat.le_refl _) (by simp) ?_; (case hd => rfl); (case hg => rfl); (case hr => first | (go_simp; done) | (go_simp; rfl)); (case hp => exact (Reps.none _ _)); intro v366 w39 ho40 hb hg_ hnew_; clear hg_ hnew_; (first | rw [← Ny365.out] at ho40 ); have n0_ := Aside0.mk (Kd.R_lower ho40 (below_size HB.out)); have n1_ := Aside0.mk (blk_below BK344.out hb); have n2_ := Aside0.mk (below_step HB.out hb); clear BK344; clear HB; have HO367 := n0_; have BK344 := n1_; have HB := n2_; clear n0_ n1_ n2_; clear hb ho40))
         go_loopg [3, 4, 8] kj33 (fun kq v3 v4 v8 w' => ∃ (x3_3 : Bool) (x4_3 : List ByteArray) (x8_3 : Int), v3 = .bool x3_3 ∧ v8 = .int .i64 x8_3 ∧ Aside0 (ecdysisref15_order.l2 kq x3_3 x4_3 x8_3 l0_0 l0_1 = some r) ∧ Aside0 (kq ≤ kj33) ∧ Aside0 (Kd.R Kd.string 9 w' w.heap.size (fun _ => True) v4 x4_3) ∧ Aside0 (w'.heap[gb344]? = some (.cells #[(.slice A0_0 l0_0.length c0_0), (.slice A0_1 l0_1.length c0_1)] 35 (0, 0))) ∧ Aside0 (Below w.heap.size w w'))
         case atStart => exact ⟨(x3_33), (y365), (0), (by first | rfl ), (by first | rfl ), H', ⟨Nat.le_refl _⟩, ⟨by exact HO367.out⟩, ⟨by exact BK344.out⟩, ⟨by exact HB.out⟩⟩
         case round =>
          clear H'
          try clear c1
          try clear c2
          try clear p2
          try clear c3
          try clear p3
          try clear q3
          try clear hx3
          try clear qi3
          try clear c5
          try clear c5b0
          try clear c6
          try clear c6b0
          try clear p6
          try clear c7
          try clear c12
          try clear c12b0
          try clear c13
          try clear c13b0
          try clear c14
          try clear c14b0
          try clear c15
          try clear c15b0
          try clear c16
          try clear c19
          try clear c22
          try clear c23
          try clear c23b0
          try clear c23b1
          try clear c24
          try clear c24b0
          try clear c24b1
          try clear c26
          try clear c26b0
          try clear c27
          try clear c27b0
          try clear c34
          try clear p34
          try clear q34
          try clear hx34
          try clear c35
          try clear p35
          try clear q35
          try clear hx35
          try clear c36
          try clear p36
          try clear q36
          try clear hx36
          try clear qi36
          try clear hcz17_0
          try clear hcz17_1
          try clear hcz20_0
          try clear hcz20_1
          try clear hcz28_0
          try clear hcz28_1
          try clear hcz30_0
          try clear hcz30_1
          try clear hcz32_0
          try clear hcz32_1
          try clear hcz35_0
          try clear hcz35_1
          try clear hcz8_0
          try clear hcz8_1
          try clear hfz17_0
          try clear hfz17_1
          try clear hfz20_0
          try clear hfz20_1
          try clear hfz28_0
          try clear hfz28_1
          try clear hfz30_0
          try clear hfz30_1
          try clear hfz32_0
          try clear hfz32_1
          try clear hfz35_0
          try clear hfz35_1
          try clear hfz8_0
          try clear hfz8_1
          try clear hx348_0
          try clear hx348_1
          try clear hx355_0
          try clear hx355_1
          try clear hx356_0
          try clear hx356_1
          try clear hx357_0
          try clear hx357_1
          try clear hx362_0
          try clear hx363_0
          try clear p2
          try clear p3
          try clear p34
          try clear p348
          try clear p35
          try clear p355
          try clear p356
          try clear p357
          try clear p36
          try clear p362
          try clear p363
          try clear p6
          try clear q3
          try clear q34
          try clear q348
          try clear q35
          try clear q355
          try clear q356
          try clear q357
          try clear q36
          try clear q362
          try clear q363
          obtain ⟨x3_3, x4_3, x8_3, rfl, rfl, HA, HK3, HO_4, BK344, HB⟩ := hrel
          cases gk with
          | zero => exact absurd HA.out (by simp [ecdysisref15_order.l2])
          | succ k3 =>
           have H := HA.out
           clear HA
           simp only [ecdysisref15_order.l2] at H
           by_cases c41 : x8_3 < (l0_1.length : Int)
           · rw [if_pos c41] at H
             have c41b0 : decide (x8_3 < (l0_1.length : Int)) = true := decide_eq_true c41
             clear c41
             by_cases c42 : x8_3 > 0
             · rw [if_pos c42] at H
               have c42b0 : decide (0 < x8_3) = true := decide_eq_true c42
               clear c42
               by_cases c43 : 0 ≤ x8_3
               · rw [if_pos c43] at H
                 have c43b0 : decide (0 ≤ x8_3) = true := decide_eq_true c43
                 clear c43
                 by_cases c44 : x4_3.length < 8796093022208
                 · rw [if_pos c44] at H
                   have LMc44 := Aside0.mk c44
                   clear c44
                   obtain ⟨y370, hy370⟩ : ∃ y_ : List ByteArray, y_ = (x4_3 ++ [(rd_T47 l0_1 x8_3).f0]) := ⟨_, rfl⟩
                   replace H : (if x3_3 = true then (ecdysisref15_order.l2 k3 true y370 (wrap64 (x8_3 + 1)) l0_0 l0_1) else ((ecdysisref15_Nums.f k3 ((rd_T47 l0_1 x8_3).f0) ((rd_T47 l0_1 x8_3).f1) ((rd_T47 l0_1 x8_3).f2)).bind fun t375 => ((ecdysisref15_Rises.f k3 t375).bind fun t378 => (if t378 = true then ((ecdysisref15_Rises.f k3 ((rd_T47 l0_1 x8_3).f2)).bind fun t379 => (if t379 = true then (if (((rd_T47 l0_1 x8_3).f2).length : Int) > 0 then (if 0 < (((rd_T47 l0_1 x8_3).f2).length : Int) then (if (rd ((rd_T47 l0_1 x8_3).f2) 0) < 1 then (ecdysisref15_order.l2 k3 true y370 (wrap64 (x8_3 + 1)) l0_0 l0_1) else (if 0 ≤ (wrap64 ((((rd_T47 l0_1 x8_3).f2).length : Int) - 1)) then (if (wrap64 ((((rd_T47 l0_1 x8_3).f2).length : Int) - 1)) < (((rd_T47 l0_1 x8_3).f2).length : Int) then (ecdysisref15_order.l2 k3 (decide ((rd ((rd_T47 l0_1 x8_3).f2) (wrap64 ((((rd_T47 l0_1 x8_3).f2).length : Int) - 1))) > 536870911)) y370 (wrap64 (x8_3 + 1)) l0_0 l0_1) else (none)) else (none))) else (none)) else (ecdysisref15_order.l2 k3 false y370 (wrap64 (x8_3 + 1)) l0_0 l0_1)) else (ecdysisref15_order.l2 k3 true y370 (wrap64 (x8_3 + 1)) l0_0 l0_1))) else (ecdysisref15_order.l2 k3 true y370 (wrap64 (x8_3 + 1)) l0_0 l0_1))))) = some r := by first | (have H2_ := (Option.bind_some _ _).symm.trans H; rw [hy370]; with_reducible exact H2_) 
                   have Ny370 := Aside0.mk hy370
                   clear hy370
                   by_cases c45 : x3_3 = true
                   · subst c45
                     have H1 : (ecdysisref15_order.l2 k3 true y370 (wrap64 (x8_3 + 1)) l0_0 l0_1) = some r := by rw [if_pos rfl] at H; exact H
                     clear H
                     have H := H1
                     clear H1
                     have H' := Aside0.mk H
                     clear H
                     have hcz46_0 : wr.cell? ⟨gb344, 0, none⟩ = some (.slice A0_0 l0_0.length c0_0) := (blk_cell BK344.out 0).trans rfl
                     have hcz46_1 : wr.cell? ⟨gb344, 1, none⟩ = some (.slice A0_1 l0_1.length c0_1) := (blk_cell BK344.out 1).trans rfl
                     have hfz46_0 := blk_frozen BK344.out 0
                     have hfz46_1 := blk_frozen BK344.out 1
                     have p369 : 0 ≤ (x8_3 : Int) := of_decide_eq_true (by first | (with_reducible assumption) )
                     have q369 : x8_3 < (l0_1.length : Int) := of_decide_eq_true (by first | (with_reducible assumption) )
                     obtain ⟨ad369, A369_1, c369_1, A369_2, c369_2, e369, hx369_0, hx369_1, hx369_2, hl369_1, hi369_1, hl369_2, hi369_2⟩ := at_T47 HR0_1.out x8_3 p369 q369
                     cases e369
                     replace hx369_0 := (HB.out.cell (World.block_lt_of_cell? w _ hx369_0)).trans hx369_0
                     replace hx369_1 := (HB.out.cell (World.block_lt_of_cell? w _ hx369_1)).trans hx369_1
                     replace hx369_2 := (HB.out.cell (World.block_lt_of_cell? w _ hx369_2)).trans hx369_2
                     have HR369_1 := Aside0.mk hi369_1
                     have HC369_1 := Aside0.mk hl369_1
                     clear hi369_1 hl369_1
                     have HR369_2 := Aside0.mk hi369_2
                     have HC369_2 := Aside0.mk hl369_2
                     clear hi369_2 hl369_2
                     replace p369 := eq_true p369
                     replace q369 := eq_true q369
                     go_wp2_with (first | ((with_reducible refine gate_builtin (b := .append) (xs := #[.tmp 89, .tmp 96]) rfl ?_); (try (refine gate_guard (by rfl) ?_; dsimp only)); at_builtin; refine Kd.R_append Kd.string (w0 := w) w.heap.size rfl (.tmp 89) (.tmp 96) 37 9 (.string ⟨#[]⟩) 16 rfl Try.underlying37 info9 rfl (by decide) (by omega) u4 x4_3 ((rd_T47 l0_1 x8_3).f0) [.string ((rd_T47 l0_1 x8_3).f0)] (fun _ => True) (fun _ => False) rfl rfl ?aP (fun _ hk => hk.elim) ?aF ?aO ?aB ?aS ?aL ?_; (case aP => exact rfl); (case aB => exact HB.out); (case aF => exact (fun _ _ => trivial)); (case aO => exact HO_4.out); (case aS => exact (below_size HB.out)); (case aL => have := LMc44.out; omega); intro v371 w47 ho hb hg hat; rw [← Ny370.out] at ho; have n0_ := Aside0.mk (blk_grown (g := gb344) (o := .cells #[.slice A0_0 l0_0.length c0_0, .slice (some ad369) l0_1.length c0_1] 35 (0, 0)) BK344.out hg (Kd.R_ne HO_4.out BK344.out (by decide))); have n1_ := Aside0.mk (hb); have n2_ := Aside0.mk (ho); clear BK344; clear HB; clear HO_4; have BK344 := n0_; have HB := n1_; have HO372 := n2_; clear n0_ n1_ n2_; clear ho hb hg hat; have hcz48_0 : w47.cell? ⟨gb344, 0, none⟩ = some (.slice A0_0 l0_0.length c0_0) := (blk_cell BK344.out 0).trans rfl; have hcz48_1 : w47.cell? ⟨gb344, 1, none⟩ = some (.slice (some ad369) l0_1.length c0_1) := (blk_cell BK344.out 1).trans rfl; have hfz48_0 := blk_frozen BK344.out 0; have hfz48_1 := blk_frozen BK344.out 1; have p373 : 0 ≤ (x8_3 : Int) := of_decide_eq_true (by first | (with_reducible assumption) ); have q373 : x8_3 < (l0_1.length : Int) := of_decide_eq_true (by first | (with_reducible assumption) ); obtain ⟨ad373, A373_1, c373_1, A373_2, c373_2, e373, hx373_0, hx373_1, hx373_2, hl373_1, hi373_1, hl373_2, hi373_2⟩ := at_T47 HR0_1.out x8_3 p373 q373; obtain rfl : ad369 = ad373 := (by injection e373); replace hx373_0 := (HB.out.cell (World.block_lt_of_cell? w _ hx373_0)).trans hx373_0; replace hx373_1 := (HB.out.cell (World.block_lt_of_cell? w _ hx373_1)).trans hx373_1; replace hx373_2 := (HB.out.cell (World.block_lt_of_cell? w _ hx373_2)).trans hx373_2; have HR373_1 := Aside0.mk hi373_1; have HC373_1 := Aside0.mk hl373_1; clear hi373_1 hl373_1; have HR373_2 := Aside0.mk hi373_2; have HC373_2 := Aside0.mk hl373_2; clear hi373_2 hl373_2; replace p373 := eq_true p373; replace q373 := eq_true q373))
                     go_roundg k3
                     case measure => have := HK1.out; have := HJ33.out; have := HK3.out; omega
                     case rel => exact ⟨(true), (y370), (wrap64 (x8_3 + 1)), (by first | rfl ), (by first | rfl ), H', ⟨by have := HK1.out; have := HJ33.out; have := HK3.out; omega⟩, ⟨by exact HO372.out⟩, ⟨by exact BK344.out⟩, ⟨by exact HB.out⟩⟩
                   · replace c45 := Bool.eq_false_iff.mpr c45
                     subst c45
                     have H1 : ((ecdysisref15_Nums.f k3 ((rd_T47 l0_1 x8_3).f0) ((rd_T47 l0_1 x8_3).f1) ((rd_T47 l0_1 x8_3).f2)).bind fun t375 => ((ecdysisref15_Rises.f k3 t375).bind fun t378 => (if t378 = true then ((ecdysisref15_Rises.f k3 ((rd_T47 l0_1 x8_3).f2)).bind fun t379 => (if t379 = true then (if (((rd_T47 l0_1 x8_3).f2).length : Int) > 0 then (if 0 < (((rd_T47 l0_1 x8_3).f2).length : Int) then (if (rd ((rd_T47 l0_1 x8_3).f2) 0) < 1 then (ecdysisref15_order.l2 k3 true y370 (wrap64 (x8_3 + 1)) l0_0 l0_1) else (if 0 ≤ (wrap64 ((((rd_T47 l0_1 x8_3).f2).length : Int) - 1)) then (if (wrap64 ((((rd_T47 l0_1 x8_3).f2).length : Int) - 1)) < (((rd_T47 l0_1 x8_3).f2).length : Int) then (ecdysisref15_order.l2 k3 (decide ((rd ((rd_T47 l0_1 x8_3).f2) (wrap64 ((((rd_T47 l0_1 x8_3).f2).length : Int) - 1))) > 536870911)) y370 (wrap64 (x8_3 + 1)) l0_0 l0_1) else (none)) else (none))) else (none)) else (ecdysisref15_order.l2 k3 false y370 (wrap64 (x8_3 + 1)) l0_0 l0_1)) else (ecdysisref15_order.l2 k3 true y370 (wrap64 (x8_3 + 1)) l0_0 l0_1))) else (ecdysisref15_order.l2 k3 true y370 (wrap64 (x8_3 + 1)) l0_0 l0_1)))) = some r := by rw [if_neg (show ¬ (false = true) by decide)] at H; exact H
                     clear H
                     have H := H1
                     clear H1
                     replace H := Option.bind_eq_some_iff.mp H
                     obtain ⟨t375, A490, H⟩ := H
                     replace H : ((ecdysisref15_Rises.f k3 t375).bind fun t378 => (if t378 = true then ((ecdysisref15_Rises.f k3 ((rd_T47 l0_1 x8_3).f2)).bind fun t379 => (if t379 = true then (if (((rd_T47 l0_1 x8_3).f2).length : Int) > 0 then (if 0 < (((rd_T47 l0_1 x8_3).f2).length : Int) then (if (rd ((rd_T47 l0_1 x8_3).f2) 0) < 1 then (ecdysisref15_order.l2 k3 true y370 (wrap64 (x8_3 + 1)) l0_0 l0_1) else (if 0 ≤ (wrap64 ((((rd_T47 l0_1 x8_3).f2).length : Int) - 1)) then (if (wrap64 ((((rd_T47 l0_1 x8_3).f2).length : Int) - 1)) < (((rd_T47 l0_1 x8_3).f2).length : Int) then (ecdysisref15_order.l2 k3 (decide ((rd ((rd_T47 l0_1 x8_3).f2) (wrap64 ((((rd_T47 l0_1 x8_3).f2).length : Int) - 1))) > 536870911)) y370 (wrap64 (x8_3 + 1)) l0_0 l0_1) else (none)) else (none))) else (none)) else (ecdysisref15_order.l2 k3 false y370 (wrap64 (x8_3 + 1)) l0_0 l0_1)) else (ecdysisref15_order.l2 k3 true y370 (wrap64 (x8_3 + 1)) l0_0 l0_1))) else (ecdysisref15_order.l2 k3 true y370 (wrap64 (x8_3 + 1)) l0_0 l0_1))) = some r := H
                     have A49 := Aside0.mk A490
                     clear A490
                     replace H := Option.bind_eq_some_iff.mp H
                     obtain ⟨t378, A500, H⟩ := H
                     replace H : (if t378 = true then ((ecdysisref15_Rises.f k3 ((rd_T47 l0_1 x8_3).f2)).bind fun t379 => (if t379 = true then (if (((rd_T47 l0_1 x8_3).f2).length : Int) > 0 then (if 0 < (((rd_T47 l0_1 x8_3).f2).length : Int) then (if (rd ((rd_T47 l0_1 x8_3).f2) 0) < 1 then (ecdysisref15_order.l2 k3 true y370 (wrap64 (x8_3 + 1)) l0_0 l0_1) else (if 0 ≤ (wrap64 ((((rd_T47 l0_1 x8_3).f2).length : Int) - 1)) then (if (wrap64 ((((rd_T47 l0_1 x8_3).f2).length : Int) - 1)) < (((rd_T47 l0_1 x8_3).f2).length : Int) then (ecdysisref15_order.l2 k3 (decide ((rd ((rd_T47 l0_1 x8_3).f2) (wrap64 ((((rd_T47 l0_1 x8_3).f2).length : Int) - 1))) > 536870911)) y370 (wrap64 (x8_3 + 1)) l0_0 l0_1) else (none)) else (none))) else (none)) else (ecdysisref15_order.l2 k3 false y370 (wrap64 (x8_3 + 1)) l0_0 l0_1)) else (ecdysisref15_order.l2 k3 true y370 (wrap64 (x8_3 + 1)) l0_0 l0_1))) else (ecdysisref15_order.l2 k3 true y370 (wrap64 (x8_3 + 1)) l0_0 l0_1)) = some r := H
                     have A50 := Aside0.mk A500
                     clear A500
                     by_cases c51 : t378 = true
                     · subst c51
                       have H1 : ((ecdysisref15_Rises.f k3 ((rd_T47 l0_1 x8_3).f2)).bind fun t379 => (if t379 = true then (if (((rd_T47 l0_1 x8_3).f2).length : Int) > 0 then (if 0 < (((rd_T47 l0_1 x8_3).f2).length : Int) then (if (rd ((rd_T47 l0_1 x8_3).f2) 0) < 1 then (ecdysisref15_order.l2 k3 true y370 (wrap64 (x8_3 + 1)) l0_0 l0_1) else (if 0 ≤ (wrap64 ((((rd_T47 l0_1 x8_3).f2).length : Int) - 1)) then (if (wrap64 ((((rd_T47 l0_1 x8_3).f2).length : Int) - 1)) < (((rd_T47 l0_1 x8_3).f2).length : Int) then (ecdysisref15_order.l2 k3 (decide ((rd ((rd_T47 l0_1 x8_3).f2) (wrap64 ((((rd_T47 l0_1 x8_3).f2).length : Int) - 1))) > 536870911)) y370 (wrap64 (x8_3 + 1)) l0_0 l0_1) else (none)) else (none))) else (none)) else (ecdysisref15_order.l2 k3 false y370 (wrap64 (x8_3 + 1)) l0_0 l0_1)) else (ecdysisref15_order.l2 k3 true y370 (wrap64 (x8_3 + 1)) l0_0 l0_1))) = some r := by rw [if_pos rfl] at H; exact H
                       clear H
                       have H := H1
                       clear H1
                       replace H := Option.bind_eq_some_iff.mp H
                       obtain ⟨t379, A520, H⟩ := H
                       replace H : (if t379 = true then (if (((rd_T47 l0_1 x8_3).f2).length : Int) > 0 then (if 0 < (((rd_T47 l0_1 x8_3).f2).length : Int) then (if (rd ((rd_T47 l0_1 x8_3).f2) 0) < 1 then (ecdysisref15_order.l2 k3 true y370 (wrap64 (x8_3 + 1)) l0_0 l0_1) else (if 0 ≤ (wrap64 ((((rd_T47 l0_1 x8_3).f2).length : Int) - 1)) then (if (wrap64 ((((rd_T47 l0_1 x8_3).f2).length : Int) - 1)) < (((rd_T47 l0_1 x8_3).f2).length : Int) then (ecdysisref15_order.l2 k3 (decide ((rd ((rd_T47 l0_1 x8_3).f2) (wrap64 ((((rd_T47 l0_1 x8_3).f2).length : Int) - 1))) > 536870911)) y370 (wrap64 (x8_3 + 1)) l0_0 l0_1) else (none)) else (none))) else (none)) else (ecdysisref15_order.l2 k3 false y370 (wrap64 (x8_3 + 1)) l0_0 l0_1)) else (ecdysisref15_order.l2 k3 true y370 (wrap64 (x8_3 + 1)) l0_0 l0_1)) = some r := H
                       have A52 := Aside0.mk A520
                       clear A520
                       by_cases c53 : t379 = true
                       · subst c53
                         have H1 : (if (((rd_T47 l0_1 x8_3).f2).length : Int) > 0 then (if 0 < (((rd_T47 l0_1 x8_3).f2).length : Int) then (if (rd ((rd_T47 l0_1 x8_3).f2) 0) < 1 then (ecdysisref15_order.l2 k3 true y370 (wrap64 (x8_3 + 1)) l0_0 l0_1) else (if 0 ≤ (wrap64 ((((rd_T47 l0_1 x8_3).f2).length : Int) - 1)) then (if (wrap64 ((((rd_T47 l0_1 x8_3).f2).length : Int) - 1)) < (((rd_T47 l0_1 x8_3).f2).length : Int) then (ecdysisref15_order.l2 k3 (decide ((rd ((rd_T47 l0_1 x8_3).f2) (wrap64 ((((rd_T47 l0_1 x8_3).f2).length : Int) - 1))) > 536870911)) y370 (wrap64 (x8_3 + 1)) l0_0 l0_1) else (none)) else (none))) else (none)) else (ecdysisref15_order.l2 k3 false y370 (wrap64 (x8_3 + 1)) l0_0 l0_1)) = some r := by rw [if_pos rfl] at H; exact H
                         clear H
                         have H := H1
                         clear H1
                         by_cases c54 : (((rd_T47 l0_1 x8_3).f2).length : Int) > 0
                         · rw [if_pos c54] at H
                           have c54b0 : decide (0 < (((rd_T47 l0_1 x8_3).f2).length : Int)) = true := decide_eq_true c54
                           have c54b1 : decide (0 < ((rd_T47 l0_1 x8_3).f2).length) = true := decide_eq_true (by omega)
                           clear c54
                           by_cases c55 : 0 < (((rd_T47 l0_1 x8_3).f2).length : Int)
                           · rw [if_pos c55] at H
                             have c55b0 : decide (0 < (((rd_T47 l0_1 x8_3).f2).length : Int)) = true := decide_eq_true c55
                             have c55b1 : decide (0 < ((rd_T47 l0_1 x8_3).f2).length) = true := decide_eq_true (by omega)
                             clear c55
                             by_cases c56 : (rd ((rd_T47 l0_1 x8_3).f2) 0) < 1
                             · rw [if_pos c56] at H
                               have c56b0 : decide ((rd ((rd_T47 l0_1 x8_3).f2) 0) < 1) = true := decide_eq_true c56
                               clear c56
                               have H' := Aside0.mk H
                               clear H
                               have hcz57_0 : wr.cell? ⟨gb344, 0, none⟩ = some (.slice A0_0 l0_0.length c0_0) := (blk_cell BK344.out 0).trans rfl
                               have hcz57_1 : wr.cell? ⟨gb344, 1, none⟩ = some (.slice A0_1 l0_1.length c0_1) := (blk_cell BK344.out 1).trans rfl
                               have hfz57_0 := blk_frozen BK344.out 0
                               have hfz57_1 := blk_frozen BK344.out 1
                               have p369 : 0 ≤ (x8_3 : Int) := of_decide_eq_true (by first | (with_reducible assumption) )
                               have q369 : x8_3 < (l0_1.length : Int) := of_decide_eq_true (by first | (with_reducible assumption) )
                               obtain ⟨ad369, A369_1, c369_1, A369_2, c369_2, e369, hx369_0, hx369_1, hx369_2, hl369_1, hi369_1, hl369_2, hi369_2⟩ := at_T47 HR0_1.out x8_3 p369 q369
                               cases e369
                               replace hx369_0 := (HB.out.cell (World.block_lt_of_cell? w _ hx369_0)).trans hx369_0
                               replace hx369_1 := (HB.out.cell (World.block_lt_of_cell? w _ hx369_1)).trans hx369_1
                               replace hx369_2 := (HB.out.cell (World.block_lt_of_cell? w _ hx369_2)).trans hx369_2
                               have HR369_1 := Aside0.mk hi369_1
                               have HC369_1 := Aside0.mk hl369_1
                               clear hi369_1 hl369_1
                               have HR369_2 := Aside0.mk hi369_2
                               have HC369_2 := Aside0.mk hl369_2
                               clear hi369_2 hl369_2
                               replace p369 := eq_true p369
                               replace q369 := eq_true q369
                               go_wp2_with (first | ((with_reducible refine gate_builtin (b := .append) (xs := #[.tmp 89, .tmp 96]) rfl ?_); (try (refine gate_guard (by rfl) ?_; dsimp only)); at_builtin; refine Kd.R_append Kd.string (w0 := w) w.heap.size rfl (.tmp 89) (.tmp 96) 37 9 (.string ⟨#[]⟩) 16 rfl Try.underlying37 info9 rfl (by decide) (by omega) u4 x4_3 ((rd_T47 l0_1 x8_3).f0) [.string ((rd_T47 l0_1 x8_3).f0)] (fun _ => True) (fun _ => False) rfl rfl ?aP (fun _ hk => hk.elim) ?aF ?aO ?aB ?aS ?aL ?_; (case aP => exact rfl); (case aB => exact HB.out); (case aF => exact (fun _ _ => trivial)); (case aO => exact HO_4.out); (case aS => exact (below_size HB.out)); (case aL => have := LMc44.out; omega); intro v371 w58 ho hb hg hat; rw [← Ny370.out] at ho; have n0_ := Aside0.mk (blk_grown (g := gb344) (o := .cells #[.slice A0_0 l0_0.length c0_0, .slice (some ad369) l0_1.length c0_1] 35 (0, 0)) BK344.out hg (Kd.R_ne HO_4.out BK344.out (by decide))); have n1_ := Aside0.mk (hb); have n2_ := Aside0.mk (ho); clear BK344; clear HB; clear HO_4; have BK344 := n0_; have HB := n1_; have HO372 := n2_; clear n0_ n1_ n2_; clear ho hb hg hat; have hcz59_0 : w58.cell? ⟨gb344, 0, none⟩ = some (.slice A0_0 l0_0.length c0_0) := (blk_cell BK344.out 0).trans rfl; have hcz59_1 : w58.cell? ⟨gb344, 1, none⟩ = some (.slice (some ad369) l0_1.length c0_1) := (blk_cell BK344.out 1).trans rfl; have hfz59_0 := blk_frozen BK344.out 0; have hfz59_1 := blk_frozen BK344.out 1; have p373 : 0 ≤ (x8_3 : Int) := of_decide_eq_true (by first | (with_reducible assumption) ); have q373 : x8_3 < (l0_1.length : Int) := of_decide_eq_true (by first | (with_reducible assumption) ); obtain ⟨ad373, A373_1, c373_1, A373_2, c373_2, e373, hx373_0, hx373_1, hx373_2, hl373_1, hi373_1, hl373_2, hi373_2⟩ := at_T47 HR0_1.out x8_3 p373 q373; obtain rfl : ad369 = ad373 := (by injection e373); replace hx373_0 := (HB.out.cell (World.block_lt_of_cell? w _ hx373_0)).trans hx373_0; replace hx373_1 := (HB.out.cell (World.block_lt_of_cell? w _ hx373_1)).trans hx373_1; replace hx373_2 := (HB.out.cell (World.block_lt_of_cell? w _ hx373_2)).trans hx373_2; have HR373_1 := Aside0.mk hi373_1; have HC373_1 := Aside0.mk hl373_1; clear hi373_1 hl373_1; have HR373_2 := Aside0.mk hi373_2; have HC373_2 := Aside0.mk hl373_2; clear hi373_2 hl373_2; replace p373 := eq_true p373; replace q373 := eq_true q373; have p374 : 0 ≤ (x8_3 : Int) := of_decide_eq_true (by first | (with_reducible assumption) ); have q374 : x8_3 < (l0_1.length : Int) := of_decide_eq_true (by first | (with_reducible assumption) ); obtain ⟨ad374, A374_1, c374_1, A374_2, c374_2, e374, hx374_0, hx374_1, hx374_2, hl374_1, hi374_1, hl374_2, hi374_2⟩ := at_T47 HR0_1.out x8_3 p374 q374; obtain rfl : ad369 = ad374 := (by injection e374); replace hx374_0 := (HB.out.cell (World.block_lt_of_cell? w _ hx374_0)).trans hx374_0; replace hx374_1 := (HB.out.cell (World.block_lt_of_cell? w _ hx374_1)).trans hx374_1; replace hx374_2 := (HB.out.cell (World.block_lt_of_cell? w _ hx374_2)).trans hx374_2; have HR374_1 := Aside0.mk hi374_1; have HC374_1 := Aside0.mk hl374_1; clear hi374_1 hl374_1; have HR374_2 := Aside0.mk hi374_2; have HC374_2 := Aside0.mk hl374_2; clear hi374_2 hl374_2; replace p374 := eq_true p374; replace q374 := eq_true q374; have ea_ := Option.some.inj (hx373_1.symm.trans hx374_1); injection ea_ with ea_ en_ ec_; subst ea_; subst ec_; clear en_; have ea_ := Option.some.inj (hx373_2.symm.trans hx374_2); injection ea_ with ea_ en_ ec_; subst ea_; subst ec_; clear en_) | (go_at_call 98; (with_reducible refine (ecdysisref15_Nums.calls k3 ((rd_T47 l0_1 x8_3).f0) _ _ ((rd_T47 l0_1 x8_3).f1) _ _ ((rd_T47 l0_1 x8_3).f2) t375 _ ?side1 ?side2 ?side3 ?side4 A49.out).mono ?_); (case side1 => repeat (first | exact (Kd.C_below HR374_1.out HB.out) )); (case side2 => exact HC374_1.out); (case side3 => repeat (first | exact (Kd.C_below HR374_2.out HB.out) )); (case side4 => exact HC374_2.out); rintro e w60 ⟨v376, rfl, ho0, hb⟩; have n0_ := Aside0.mk (Kd.R_below HO372.out hb); have n1_ := Aside0.mk (Kd.R_lower ho0 (below_size HB.out)); have n2_ := Aside0.mk (blk_below BK344.out hb); have n3_ := Aside0.mk (below_step HB.out hb); clear HO372; clear BK344; clear HB; have HO372 := n0_; have HO377 := n1_; have BK344 := n2_; have HB := n3_; clear n0_ n1_ n2_ n3_; (try clear hb); (try clear hb2); (try clear hk); (try clear hi); (try clear ho0); obtain ⟨Ao61, co61, eo61⟩ := Kd.R_slice HO377.out; subst eo61) | (go_at_call 96; (with_reducible refine (ecdysisref15_Rises.calls k3 _ _ t375 true _ ?side1 ?side2 A50.out).mono ?_); (case side1 => repeat (first | exact (Kd.R_reads' HO377.out).2.2 )); (case side2 => exact (Kd.R_reads' HO377.out).2.1); rintro e w' ⟨rfl, ⟨nd, rfl⟩⟩) | (go_at_call 96; (with_reducible refine (ecdysisref15_Rises.calls k3 _ _ ((rd_T47 l0_1 x8_3).f2) true _ ?side1 ?side2 A52.out).mono ?_); (case side1 => repeat (first | exact (Kd.C_below HR373_2.out (by repeat (first | (with_reducible first | exact HB.out | apply pw_below_drewN ) ))) )); (case side2 => exact HC373_2.out); rintro e w' ⟨rfl, ⟨nd, rfl⟩⟩; have p380 : 0 ≤ (0 : Int) := (by omega); have q380 : 0 < (((rd_T47 l0_1 x8_3).f2).length : Int) := of_decide_eq_true (by first | (with_reducible assumption) ); obtain ⟨ad380, e380, hx380_0⟩ := Kd.at_int HR373_2.out 0 p380 q380; cases e380; have qi380 : (0 < ((rd_T47 l0_1 x8_3).f2).length) = True := eq_true (by omega); (try rw [show ((0 : Int)).toNat = 0 from rfl] at hx380_0); (try rw [Addr.add_zero'] at hx380_0); replace hx380_0 := (HB.out.cell (World.block_lt_of_cell? w _ hx380_0)).trans hx380_0; replace p380 := eq_true p380; replace q380 := eq_true q380))
                               go_roundg k3
                               case measure => have := HK1.out; have := HJ33.out; have := HK3.out; omega
                               case rel => exact ⟨(true), (y370), (wrap64 (x8_3 + 1)), (by first | rfl ), (by first | rfl ), H', ⟨by have := HK1.out; have := HJ33.out; have := HK3.out; omega⟩, ⟨by (with_reducible repeat (first | apply Kd.R_drewN )); exact HO372.out⟩, ⟨by (with_reducible repeat (first | refine blk_drewN ?_ _ )); exact BK344.out⟩, ⟨by repeat (first | (with_reducible first | exact HB.out | apply pw_below_drewN ) )⟩⟩
                             · rw [if_neg c56] at H
                               have c56b0 : decide ((rd ((rd_T47 l0_1 x8_3).f2) 0) < 1) = false := decide_eq_false c56
                               clear c56
                               obtain ⟨ji62, hji62⟩ : ∃ j_ : Int, (wrap64 ((((rd_T47 l0_1 x8_3).f2).length : Int) - 1)) = j_ := ⟨_, rfl⟩
                               replace H : (if 0 ≤ (ji62) then (if (ji62) < (((rd_T47 l0_1 x8_3).f2).length : Int) then (ecdysisref15_order.l2 k3 (decide ((rd ((rd_T47 l0_1 x8_3).f2) (ji62)) > 536870911)) y370 (wrap64 (x8_3 + 1)) l0_0 l0_1) else (none)) else (none)) = some r := by first | (rw [hji62] at H; exact H) 
                               (try rw [hji62] at A49)
                               (try rw [hji62] at A50)
                               (try rw [hji62] at A52)
                               have hji62w : (IntKind.i64.wrap ((((rd_T47 l0_1 x8_3).f2).length : Int) - 1)) = ji62 := (i64_w _).trans hji62
                               by_cases c63 : 0 ≤ (ji62)
                               · rw [if_pos c63] at H
                                 have c63b0 : decide (0 ≤ (ji62)) = true := decide_eq_true c63
                                 clear c63
                                 by_cases c64 : (ji62) < (((rd_T47 l0_1 x8_3).f2).length : Int)
                                 · rw [if_pos c64] at H
                                   have c64b0 : decide ((ji62) < (((rd_T47 l0_1 x8_3).f2).length : Int)) = true := decide_eq_true c64
                                   clear c64
                                   have H' := Aside0.mk H
                                   clear H
                                   have hcz65_0 : wr.cell? ⟨gb344, 0, none⟩ = some (.slice A0_0 l0_0.length c0_0) := (blk_cell BK344.out 0).trans rfl
                                   have hcz65_1 : wr.cell? ⟨gb344, 1, none⟩ = some (.slice A0_1 l0_1.length c0_1) := (blk_cell BK344.out 1).trans rfl
                                   have hfz65_0 := blk_frozen BK344.out 0
                                   have hfz65_1 := blk_frozen BK344.out 1
                                   have p369 : 0 ≤ (x8_3 : Int) := of_decide_eq_true (by first | (with_reducible assumption) )
                                   have q369 : x8_3 < (l0_1.length : Int) := of_decide_eq_true (by first | (with_reducible assumption) )
                                   obtain ⟨ad369, A369_1, c369_1, A369_2, c369_2, e369, hx369_0, hx369_1, hx369_2, hl369_1, hi369_1, hl369_2, hi369_2⟩ := at_T47 HR0_1.out x8_3 p369 q369
                                   cases e369
                                   replace hx369_0 := (HB.out.cell (World.block_lt_of_cell? w _ hx369_0)).trans hx369_0
                                   replace hx369_1 := (HB.out.cell (World.block_lt_of_cell? w _ hx369_1)).trans hx369_1
                                   replace hx369_2 := (HB.out.cell (World.block_lt_of_cell? w _ hx369_2)).trans hx369_2
                                   have HR369_1 := Aside0.mk hi369_1
                                   have HC369_1 := Aside0.mk hl369_1
                                   clear hi369_1 hl369_1
                                   have HR369_2 := Aside0.mk hi369_2
                                   have HC369_2 := Aside0.mk hl369_2
                                   clear hi369_2 hl369_2
                                   replace p369 := eq_true p369
                                   replace q369 := eq_true q369
                                   go_wp2_with (first | ((with_reducible refine gate_builtin (b := .append) (xs := #[.tmp 89, .tmp 96]) rfl ?_); (try (refine gate_guard (by rfl) ?_; dsimp only)); at_builtin; refine Kd.R_append Kd.string (w0 := w) w.heap.size rfl (.tmp 89) (.tmp 96) 37 9 (.string ⟨#[]⟩) 16 rfl Try.underlying37 info9 rfl (by decide) (by omega) u4 x4_3 ((rd_T47 l0_1 x8_3).f0) [.string ((rd_T47 l0_1 x8_3).f0)] (fun _ => True) (fun _ => False) rfl rfl ?aP (fun _ hk => hk.elim) ?aF ?aO ?aB ?aS ?aL ?_; (case aP => exact rfl); (case aB => exact HB.out); (case aF => exact (fun _ _ => trivial)); (case aO => exact HO_4.out); (case aS => exact (below_size HB.out)); (case aL => have := LMc44.out; omega); intro v371 w66 ho hb hg hat; rw [← Ny370.out] at ho; have n0_ := Aside0.mk (blk_grown (g := gb344) (o := .cells #[.slice A0_0 l0_0.length c0_0, .slice (some ad369) l0_1.length c0_1] 35 (0, 0)) BK344.out hg (Kd.R_ne HO_4.out BK344.out (by decide))); have n1_ := Aside0.mk (hb); have n2_ := Aside0.mk (ho); clear BK344; clear HB; clear HO_4; have BK344 := n0_; have HB := n1_; have HO372 := n2_; clear n0_ n1_ n2_; clear ho hb hg hat; have hcz67_0 : w66.cell? ⟨gb344, 0, none⟩ = some (.slice A0_0 l0_0.length c0_0) := (blk_cell BK344.out 0).trans rfl; have hcz67_1 : w66.cell? ⟨gb344, 1, none⟩ = some (.slice (some ad369) l0_1.length c0_1) := (blk_cell BK344.out 1).trans rfl; have hfz67_0 := blk_frozen BK344.out 0; have hfz67_1 := blk_frozen BK344.out 1; have p373 : 0 ≤ (x8_3 : Int) := of_decide_eq_true (by first | (with_reducible assumption) ); have q373 : x8_3 < (l0_1.length : Int) := of_decide_eq_true (by first | (with_reducible assumption) ); obtain ⟨ad373, A373_1, c373_1, A373_2, c373_2, e373, hx373_0, hx373_1, hx373_2, hl373_1, hi373_1, hl373_2, hi373_2⟩ := at_T47 HR0_1.out x8_3 p373 q373; obtain rfl : ad369 = ad373 := (by injection e373); replace hx373_0 := (HB.out.cell (World.block_lt_of_cell? w _ hx373_0)).trans hx373_0; replace hx373_1 := (HB.out.cell (World.block_lt_of_cell? w _ hx373_1)).trans hx373_1; replace hx373_2 := (HB.out.cell (World.block_lt_of_cell? w _ hx373_2)).trans hx373_2; have HR373_1 := Aside0.mk hi373_1; have HC373_1 := Aside0.mk hl373_1; clear hi373_1 hl373_1; have HR373_2 := Aside0.mk hi373_2; have HC373_2 := Aside0.mk hl373_2; clear hi373_2 hl373_2; replace p373 := eq_true p373; replace q373 := eq_true q373; have p374 : 0 ≤ (x8_3 : Int) := of_decide_eq_true (by first | (with_reducible assumption) ); have q374 : x8_3 < (l0_1.length : Int) := of_decide_eq_true (by first | (with_reducible assumption) ); obtain ⟨ad374, A374_1, c374_1, A374_2, c374_2, e374, hx374_0, hx374_1, hx374_2, hl374_1, hi374_1, hl374_2, hi374_2⟩ := at_T47 HR0_1.out x8_3 p374 q374; obtain rfl : ad369 = ad374 := (by injection e374); replace hx374_0 := (HB.out.cell (World.block_lt_of_cell? w _ hx374_0)).trans hx374_0; replace hx374_1 := (HB.out.cell (World.block_lt_of_cell? w _ hx374_1)).trans hx374_1; replace hx374_2 := (HB.out.cell (World.block_lt_of_cell? w _ hx374_2)).trans hx374_2; have HR374_1 := Aside0.mk hi374_1; have HC374_1 := Aside0.mk hl374_1; clear hi374_1 hl374_1; have HR374_2 := Aside0.mk hi374_2; have HC374_2 := Aside0.mk hl374_2; clear hi374_2 hl374_2; replace p374 := eq_true p374; replace q374 := eq_true q374; have ea_ := Option.some.inj (hx373_1.symm.trans hx374_1); injection ea_ with ea_ en_ ec_; subst ea_; subst ec_; clear en_; have ea_ := Option.some.inj (hx373_2.symm.trans hx374_2); injection ea_ with ea_ en_ ec_; subst ea_; subst ec_; clear en_) | (go_at_call 98; (with_reducible refine (ecdysisref15_Nums.calls k3 ((rd_T47 l0_1 x8_3).f0) _ _ ((rd_T47 l0_1 x8_3).f1) _ _ ((rd_T47 l0_1 x8_3).f2) t375 _ ?side1 ?side2 ?side3 ?side4 A49.out).mono ?_); (case side1 => repeat (first | exact (Kd.C_below HR374_1.out HB.out) )); (case side2 => exact HC374_1.out); (case side3 => repeat (first | exact (Kd.C_below HR374_2.out HB.out) )); (case side4 => exact HC374_2.out); rintro e w68 ⟨v376, rfl, ho0, hb⟩; have n0_ := Aside0.mk (Kd.R_below HO372.out hb); have n1_ := Aside0.mk (Kd.R_lower ho0 (below_size HB.out)); have n2_ := Aside0.mk (blk_below BK344.out hb); have n3_ := Aside0.mk (below_step HB.out hb); clear HO372; clear BK344; clear HB; have HO372 := n0_; have HO377 := n1_; have BK344 := n2_; have HB := n3_; clear n0_ n1_ n2_ n3_; (try clear hb); (try clear hb2); (try clear hk); (try clear hi); (try clear ho0); obtain ⟨Ao69, co69, eo69⟩ := Kd.R_slice HO377.out; subst eo69) | (go_at_call 96; (with_reducible refine (ecdysisref15_Rises.calls k3 _ _ t375 true _ ?side1 ?side2 A50.out).mono ?_); (case side1 => repeat (first | exact (Kd.R_reads' HO377.out).2.2 )); (case side2 => exact (Kd.R_reads' HO377.out).2.1); rintro e w' ⟨rfl, ⟨nd, rfl⟩⟩) | (go_at_call 96; (with_reducible refine (ecdysisref15_Rises.calls k3 _ _ ((rd_T47 l0_1 x8_3).f2) true _ ?side1 ?side2 A52.out).mono ?_); (case side1 => repeat (first | exact (Kd.C_below HR373_2.out (by repeat (first | (with_reducible first | exact HB.out | apply pw_below_drewN ) ))) )); (case side2 => exact HC373_2.out); rintro e w' ⟨rfl, ⟨nd, rfl⟩⟩; have p380 : 0 ≤ (0 : Int) := (by omega); have q380 : 0 < (((rd_T47 l0_1 x8_3).f2).length : Int) := of_decide_eq_true (by first | (with_reducible assumption) ); obtain ⟨ad380, e380, hx380_0⟩ := Kd.at_int HR373_2.out 0 p380 q380; cases e380; have qi380 : (0 < ((rd_T47 l0_1 x8_3).f2).length) = True := eq_true (by omega); (try rw [show ((0 : Int)).toNat = 0 from rfl] at hx380_0); (try rw [Addr.add_zero'] at hx380_0); replace hx380_0 := (HB.out.cell (World.block_lt_of_cell? w _ hx380_0)).trans hx380_0; replace p380 := eq_true p380; replace q380 := eq_true q380; have p381 : 0 ≤ ((ji62) : Int) := of_decide_eq_true (by first | (with_reducible assumption) ); have q381 : (ji62) < (((rd_T47 l0_1 x8_3).f2).length : Int) := of_decide_eq_true (by first | (with_reducible assumption) ); obtain ⟨ad381, e381, hx381_0⟩ := Kd.at_int HR373_2.out (ji62) p381 q381; obtain rfl : ad380 = ad381 := (by injection e381); replace hx381_0 := (HB.out.cell (World.block_lt_of_cell? w _ hx381_0)).trans hx381_0; replace p381 := eq_true p381; replace q381 := eq_true q381))
                                   go_roundg k3
                                   case measure => have := HK1.out; have := HJ33.out; have := HK3.out; omega
                                   case rel => exact ⟨(decide ((rd ((rd_T47 l0_1 x8_3).f2) (ji62)) > 536870911)), (y370), (wrap64 (x8_3 + 1)), (by first | rfl ), (by first | rfl ), H', ⟨by have := HK1.out; have := HJ33.out; have := HK3.out; omega⟩, ⟨by (with_reducible repeat (first | apply Kd.R_drewN )); exact HO372.out⟩, ⟨by (with_reducible repeat (first | refine blk_drewN ?_ _ )); exact BK344.out⟩, ⟨by repeat (first | (with_reducible first | exact HB.out | apply pw_below_drewN ) )⟩⟩
                                 · rw [if_neg c64] at H
                                   exact absurd H (by simp)
                               · rw [if_neg c63] at H
                                 exact absurd H (by simp)
                           · rw [if_neg c55] at H
                             exact absurd H (by simp)
                         · rw [if_neg c54] at H
                           have c54b0 : decide (0 < (((rd_T47 l0_1 x8_3).f2).length : Int)) = false := decide_eq_false c54
                           have c54b1 : decide (0 < ((rd_T47 l0_1 x8_3).f2).length) = false := decide_eq_false (by omega)
                           clear c54
                           have H' := Aside0.mk H
                           clear H
                           have hcz70_0 : wr.cell? ⟨gb344, 0, none⟩ = some (.slice A0_0 l0_0.length c0_0) := (blk_cell BK344.out 0).trans rfl
                           have hcz70_1 : wr.cell? ⟨gb344, 1, none⟩ = some (.slice A0_1 l0_1.length c0_1) := (blk_cell BK344.out 1).trans rfl
                           have hfz70_0 := blk_frozen BK344.out 0
                           have hfz70_1 := blk_frozen BK344.out 1
                           have p369 : 0 ≤ (x8_3 : Int) := of_decide_eq_true (by first | (with_reducible assumption) )
                           have q369 : x8_3 < (l0_1.length : Int) := of_decide_eq_true (by first | (with_reducible assumption) )
                           obtain ⟨ad369, A369_1, c369_1, A369_2, c369_2, e369, hx369_0, hx369_1, hx369_2, hl369_1, hi369_1, hl369_2, hi369_2⟩ := at_T47 HR0_1.out x8_3 p369 q369
                           cases e369
                           replace hx369_0 := (HB.out.cell (World.block_lt_of_cell? w _ hx369_0)).trans hx369_0
                           replace hx369_1 := (HB.out.cell (World.block_lt_of_cell? w _ hx369_1)).trans hx369_1
                           replace hx369_2 := (HB.out.cell (World.block_lt_of_cell? w _ hx369_2)).trans hx369_2
                           have HR369_1 := Aside0.mk hi369_1
                           have HC369_1 := Aside0.mk hl369_1
                           clear hi369_1 hl369_1
                           have HR369_2 := Aside0.mk hi369_2
                           have HC369_2 := Aside0.mk hl369_2
                           clear hi369_2 hl369_2
                           replace p369 := eq_true p369
                           replace q369 := eq_true q369
                           go_wp2_with (first | ((with_reducible refine gate_builtin (b := .append) (xs := #[.tmp 89, .tmp 96]) rfl ?_); (try (refine gate_guard (by rfl) ?_; dsimp only)); at_builtin; refine Kd.R_append Kd.string (w0 := w) w.heap.size rfl (.tmp 89) (.tmp 96) 37 9 (.string ⟨#[]⟩) 16 rfl Try.underlying37 info9 rfl (by decide) (by omega) u4 x4_3 ((rd_T47 l0_1 x8_3).f0) [.string ((rd_T47 l0_1 x8_3).f0)] (fun _ => True) (fun _ => False) rfl rfl ?aP (fun _ hk => hk.elim) ?aF ?aO ?aB ?aS ?aL ?_; (case aP => exact rfl); (case aB => exact HB.out); (case aF => exact (fun _ _ => trivial)); (case aO => exact HO_4.out); (case aS => exact (below_size HB.out)); (case aL => have := LMc44.out; omega); intro v371 w71 ho hb hg hat; rw [← Ny370.out] at ho; have n0_ := Aside0.mk (blk_grown (g := gb344) (o := .cells #[.slice A0_0 l0_0.length c0_0, .slice (some ad369) l0_1.length c0_1] 35 (0, 0)) BK344.out hg (Kd.R_ne HO_4.out BK344.out (by decide))); have n1_ := Aside0.mk (hb); have n2_ := Aside0.mk (ho); clear BK344; clear HB; clear HO_4; have BK344 := n0_; have HB := n1_; have HO372 := n2_; clear n0_ n1_ n2_; clear ho hb hg hat; have hcz72_0 : w71.cell? ⟨gb344, 0, none⟩ = some (.slice A0_0 l0_0.length c0_0) := (blk_cell BK344.out 0).trans rfl; have hcz72_1 : w71.cell? ⟨gb344, 1, none⟩ = some (.slice (some ad369) l0_1.length c0_1) := (blk_cell BK344.out 1).trans rfl; have hfz72_0 := blk_frozen BK344.out 0; have hfz72_1 := blk_frozen BK344.out 1; have p373 : 0 ≤ (x8_3 : Int) := of_decide_eq_true (by first | (with_reducible assumption) ); have q373 : x8_3 < (l0_1.length : Int) := of_decide_eq_true (by first | (with_reducible assumption) ); obtain ⟨ad373, A373_1, c373_1, A373_2, c373_2, e373, hx373_0, hx373_1, hx373_2, hl373_1, hi373_1, hl373_2, hi373_2⟩ := at_T47 HR0_1.out x8_3 p373 q373; obtain rfl : ad369 = ad373 := (by injection e373); replace hx373_0 := (HB.out.cell (World.block_lt_of_cell? w _ hx373_0)).trans hx373_0; replace hx373_1 := (HB.out.cell (World.block_lt_of_cell? w _ hx373_1)).trans hx373_1; replace hx373_2 := (HB.out.cell (World.block_lt_of_cell? w _ hx373_2)).trans hx373_2; have HR373_1 := Aside0.mk hi373_1; have HC373_1 := Aside0.mk hl373_1; clear hi373_1 hl373_1; have HR373_2 := Aside0.mk hi373_2; have HC373_2 := Aside0.mk hl373_2; clear hi373_2 hl373_2; replace p373 := eq_true p373; replace q373 := eq_true q373; have p374 : 0 ≤ (x8_3 : Int) := of_decide_eq_true (by first | (with_reducible assumption) ); have q374 : x8_3 < (l0_1.length : Int) := of_decide_eq_true (by first | (with_reducible assumption) ); obtain ⟨ad374, A374_1, c374_1, A374_2, c374_2, e374, hx374_0, hx374_1, hx374_2, hl374_1, hi374_1, hl374_2, hi374_2⟩ := at_T47 HR0_1.out x8_3 p374 q374; obtain rfl : ad369 = ad374 := (by injection e374); replace hx374_0 := (HB.out.cell (World.block_lt_of_cell? w _ hx374_0)).trans hx374_0; replace hx374_1 := (HB.out.cell (World.block_lt_of_cell? w _ hx374_1)).trans hx374_1; replace hx374_2 := (HB.out.cell (World.block_lt_of_cell? w _ hx374_2)).trans hx374_2; have HR374_1 := Aside0.mk hi374_1; have HC374_1 := Aside0.mk hl374_1; clear hi374_1 hl374_1; have HR374_2 := Aside0.mk hi374_2; have HC374_2 := Aside0.mk hl374_2; clear hi374_2 hl374_2; replace p374 := eq_true p374; replace q374 := eq_true q374; have ea_ := Option.some.inj (hx373_1.symm.trans hx374_1); injection ea_ with ea_ en_ ec_; subst ea_; subst ec_; clear en_; have ea_ := Option.some.inj (hx373_2.symm.trans hx374_2); injection ea_ with ea_ en_ ec_; subst ea_; subst ec_; clear en_) | (go_at_call 98; (with_reducible refine (ecdysisref15_Nums.calls k3 ((rd_T47 l0_1 x8_3).f0) _ _ ((rd_T47 l0_1 x8_3).f1) _ _ ((rd_T47 l0_1 x8_3).f2) t375 _ ?side1 ?side2 ?side3 ?side4 A49.out).mono ?_); (case side1 => repeat (first | exact (Kd.C_below HR374_1.out HB.out) )); (case side2 => exact HC374_1.out); (case side3 => repeat (first | exact (Kd.C_below HR374_2.out HB.out) )); (case side4 => exact HC374_2.out); rintro e w73 ⟨v376, rfl, ho0, hb⟩; have n0_ := Aside0.mk (Kd.R_below HO372.out hb); have n1_ := Aside0.mk (Kd.R_lower ho0 (below_size HB.out)); have n2_ := Aside0.mk (blk_below BK344.out hb); have n3_ := Aside0.mk (below_step HB.out hb); clear HO372; clear BK344; clear HB; have HO372 := n0_; have HO377 := n1_; have BK344 := n2_; have HB := n3_; clear n0_ n1_ n2_ n3_; (try clear hb); (try clear hb2); (try clear hk); (try clear hi); (try clear ho0); obtain ⟨Ao74, co74, eo74⟩ := Kd.R_slice HO377.out; subst eo74) | (go_at_call 96; (with_reducible refine (ecdysisref15_Rises.calls k3 _ _ t375 true _ ?side1 ?side2 A50.out).mono ?_); (case side1 => repeat (first | exact (Kd.R_reads' HO377.out).2.2 )); (case side2 => exact (Kd.R_reads' HO377.out).2.1); rintro e w' ⟨rfl, ⟨nd, rfl⟩⟩) | (go_at_call 96; (with_reducible refine (ecdysisref15_Rises.calls k3 _ _ ((rd_T47 l0_1 x8_3).f2) true _ ?side1 ?side2 A52.out).mono ?_); (case side1 => repeat (first | exact (Kd.C_below HR373_2.out (by repeat (first | (with_reducible first | exact HB.out | apply pw_below_drewN ) ))) )); (case side2 => exact HC373_2.out); rintro e w' ⟨rfl, ⟨nd, rfl⟩⟩))
                           go_roundg k3
                           case measure => have := HK1.out; have := HJ33.out; have := HK3.out; omega
                           case rel => exact ⟨(false), (y370), (wrap64 (x8_3 + 1)), (by first | rfl ), (by first | rfl ), H', ⟨by have := HK1.out; have := HJ33.out; have := HK3.out; omega⟩, ⟨by (with_reducible repeat (first | apply Kd.R_drewN )); exact HO372.out⟩, ⟨by (with_reducible repeat (first | refine blk_drewN ?_ _ )); exact BK344.out⟩, ⟨by repeat (first | (with_reducible first | exact HB.out | apply pw_below_drewN ) )⟩⟩
                       · replace c53 := Bool.eq_false_iff.mpr c53
                         subst c53
                         have H1 : (ecdysisref15_order.l2 k3 true y370 (wrap64 (x8_3 + 1)) l0_0 l0_1) = some r := by rw [if_neg (show ¬ (false = true) by decide)] at H; exact H
                         clear H
                         have H := H1
                         clear H1
                         have H' := Aside0.mk H
                         clear H
                         have hcz75_0 : wr.cell? ⟨gb344, 0, none⟩ = some (.slice A0_0 l0_0.length c0_0) := (blk_cell BK344.out 0).trans rfl
                         have hcz75_1 : wr.cell? ⟨gb344, 1, none⟩ = some (.slice A0_1 l0_1.length c0_1) := (blk_cell BK344.out 1).trans rfl
                         have hfz75_0 := blk_frozen BK344.out 0
                         have hfz75_1 := blk_frozen BK344.out 1
                         have p369 : 0 ≤ (x8_3 : Int) := of_decide_eq_true (by first | (with_reducible assumption) )
                         have q369 : x8_3 < (l0_1.length : Int) := of_decide_eq_true (by first | (with_reducible assumption) )
                         obtain ⟨ad369, A369_1, c369_1, A369_2, c369_2, e369, hx369_0, hx369_1, hx369_2, hl369_1, hi369_1, hl369_2, hi369_2⟩ := at_T47 HR0_1.out x8_3 p369 q369
                         cases e369
                         replace hx369_0 := (HB.out.cell (World.block_lt_of_cell? w _ hx369_0)).trans hx369_0
                         replace hx369_1 := (HB.out.cell (World.block_lt_of_cell? w _ hx369_1)).trans hx369_1
                         replace hx369_2 := (HB.out.cell (World.block_lt_of_cell? w _ hx369_2)).trans hx369_2
                         have HR369_1 := Aside0.mk hi369_1
                         have HC369_1 := Aside0.mk hl369_1
                         clear hi369_1 hl369_1
                         have HR369_2 := Aside0.mk hi369_2
                         have HC369_2 := Aside0.mk hl369_2
                         clear hi369_2 hl369_2
                         replace p369 := eq_true p369
                         replace q369 := eq_true q369
                         go_wp2_with (first | ((with_reducible refine gate_builtin (b := .append) (xs := #[.tmp 89, .tmp 96]) rfl ?_); (try (refine gate_guard (by rfl) ?_; dsimp only)); at_builtin; refine Kd.R_append Kd.string (w0 := w) w.heap.size rfl (.tmp 89) (.tmp 96) 37 9 (.string ⟨#[]⟩) 16 rfl Try.underlying37 info9 rfl (by decide) (by omega) u4 x4_3 ((rd_T47 l0_1 x8_3).f0) [.string ((rd_T47 l0_1 x8_3).f0)] (fun _ => True) (fun _ => False) rfl rfl ?aP (fun _ hk => hk.elim) ?aF ?aO ?aB ?aS ?aL ?_; (case aP => exact rfl); (case aB => exact HB.out); (case aF => exact (fun _ _ => trivial)); (case aO => exact HO_4.out); (case aS => exact (below_size HB.out)); (case aL => have := LMc44.out; omega); intro v371 w76 ho hb hg hat; rw [← Ny370.out] at ho; have n0_ := Aside0.mk (blk_grown (g := gb344) (o := .cells #[.slice A0_0 l0_0.length c0_0, .slice (some ad369) l0_1.length c0_1] 35 (0, 0)) BK344.out hg (Kd.R_ne HO_4.out BK344.out (by decide))); have n1_ := Aside0.mk (hb); have n2_ := Aside0.mk (ho); clear BK344; clear HB; clear HO_4; have BK344 := n0_; have HB := n1_; have HO372 := n2_; clear n0_ n1_ n2_; clear ho hb hg hat; have hcz77_0 : w76.cell? ⟨gb344, 0, none⟩ = some (.slice A0_0 l0_0.length c0_0) := (blk_cell BK344.out 0).trans rfl; have hcz77_1 : w76.cell? ⟨gb344, 1, none⟩ = some (.slice (some ad369) l0_1.length c0_1) := (blk_cell BK344.out 1).trans rfl; have hfz77_0 := blk_frozen BK344.out 0; have hfz77_1 := blk_frozen BK344.out 1; have p373 : 0 ≤ (x8_3 : Int) := of_decide_eq_true (by first | (with_reducible assumption) ); have q373 : x8_3 < (l0_1.length : Int) := of_decide_eq_true (by first | (with_reducible assumption) ); obtain ⟨ad373, A373_1, c373_1, A373_2, c373_2, e373, hx373_0, hx373_1, hx373_2, hl373_1, hi373_1, hl373_2, hi373_2⟩ := at_T47 HR0_1.out x8_3 p373 q373; obtain rfl : ad369 = ad373 := (by injection e373); replace hx373_0 := (HB.out.cell (World.block_lt_of_cell? w _ hx373_0)).trans hx373_0; replace hx373_1 := (HB.out.cell (World.block_lt_of_cell? w _ hx373_1)).trans hx373_1; replace hx373_2 := (HB.out.cell (World.block_lt_of_cell? w _ hx373_2)).trans hx373_2; have HR373_1 := Aside0.mk hi373_1; have HC373_1 := Aside0.mk hl373_1; clear hi373_1 hl373_1; have HR373_2 := Aside0.mk hi373_2; have HC373_2 := Aside0.mk hl373_2; clear hi373_2 hl373_2; replace p373 := eq_true p373; replace q373 := eq_true q373; have p374 : 0 ≤ (x8_3 : Int) := of_decide_eq_true (by first | (with_reducible assumption) ); have q374 : x8_3 < (l0_1.length : Int) := of_decide_eq_true (by first | (with_reducible assumption) ); obtain ⟨ad374, A374_1, c374_1, A374_2, c374_2, e374, hx374_0, hx374_1, hx374_2, hl374_1, hi374_1, hl374_2, hi374_2⟩ := at_T47 HR0_1.out x8_3 p374 q374; obtain rfl : ad369 = ad374 := (by injection e374); replace hx374_0 := (HB.out.cell (World.block_lt_of_cell? w _ hx374_0)).trans hx374_0; replace hx374_1 := (HB.out.cell (World.block_lt_of_cell? w _ hx374_1)).trans hx374_1; replace hx374_2 := (HB.out.cell (World.block_lt_of_cell? w _ hx374_2)).trans hx374_2; have HR374_1 := Aside0.mk hi374_1; have HC374_1 := Aside0.mk hl374_1; clear hi374_1 hl374_1; have HR374_2 := Aside0.mk hi374_2; have HC374_2 := Aside0.mk hl374_2; clear hi374_2 hl374_2; replace p374 := eq_true p374; replace q374 := eq_true q374; have ea_ := Option.some.inj (hx373_1.symm.trans hx374_1); injection ea_ with ea_ en_ ec_; subst ea_; subst ec_; clear en_; have ea_ := Option.some.inj (hx373_2.symm.trans hx374_2); injection ea_ with ea_ en_ ec_; subst ea_; subst ec_; clear en_) | (go_at_call 98; (with_reducible refine (ecdysisref15_Nums.calls k3 ((rd_T47 l0_1 x8_3).f0) _ _ ((rd_T47 l0_1 x8_3).f1) _ _ ((rd_T47 l0_1 x8_3).f2) t375 _ ?side1 ?side2 ?side3 ?side4 A49.out).mono ?_); (case side1 => repeat (first | exact (Kd.C_below HR374_1.out HB.out) )); (case side2 => exact HC374_1.out); (case side3 => repeat (first | exact (Kd.C_below HR374_2.out HB.out) )); (case side4 => exact HC374_2.out); rintro e w78 ⟨v376, rfl, ho0, hb⟩; have n0_ := Aside0.mk (Kd.R_below HO372.out hb); have n1_ := Aside0.mk (Kd.R_lower ho0 (below_size HB.out)); have n2_ := Aside0.mk (blk_below BK344.out hb); have n3_ := Aside0.mk (below_step HB.out hb); clear HO372; clear BK344; clear HB; have HO372 := n0_; have HO377 := n1_; have BK344 := n2_; have HB := n3_; clear n0_ n1_ n2_ n3_; (try clear hb); (try clear hb2); (try clear hk); (try clear hi); (try clear ho0); obtain ⟨Ao79, co79, eo79⟩ := Kd.R_slice HO377.out; subst eo79) | (go_at_call 96; (with_reducible refine (ecdysisref15_Rises.calls k3 _ _ t375 true _ ?side1 ?side2 A50.out).mono ?_); (case side1 => repeat (first | exact (Kd.R_reads' HO377.out).2.2 )); (case side2 => exact (Kd.R_reads' HO377.out).2.1); rintro e w' ⟨rfl, ⟨nd, rfl⟩⟩) | (go_at_call 96; (with_reducible refine (ecdysisref15_Rises.calls k3 _ _ ((rd_T47 l0_1 x8_3).f2) false _ ?side1 ?side2 A52.out).mono ?_); (case side1 => repeat (first | exact (Kd.C_below HR373_2.out (by repeat (first | (with_reducible first | exact HB.out | apply pw_below_drewN ) ))) )); (case side2 => exact HC373_2.out); rintro e w' ⟨rfl, ⟨nd, rfl⟩⟩))
                         go_roundg k3
                         case measure => have := HK1.out; have := HJ33.out; have := HK3.out; omega
                         case rel => exact ⟨(true), (y370), (wrap64 (x8_3 + 1)), (by first | rfl ), (by first | rfl ), H', ⟨by have := HK1.out; have := HJ33.out; have := HK3.out; omega⟩, ⟨by (with_reducible repeat (first | apply Kd.R_drewN )); exact HO372.out⟩, ⟨by (with_reducible repeat (first | refine blk_drewN ?_ _ )); exact BK344.out⟩, ⟨by repeat (first | (with_reducible first | exact HB.out | apply pw_below_drewN ) )⟩⟩
                     · replace c51 := Bool.eq_false_iff.mpr c51
                       subst c51
                       have H1 : (ecdysisref15_order.l2 k3 true y370 (wrap64 (x8_3 + 1)) l0_0 l0_1) = some r := by rw [if_neg (show ¬ (false = true) by decide)] at H; exact H
                       clear H
                       have H := H1
                       clear H1
                       have H' := Aside0.mk H
                       clear H
                       have hcz80_0 : wr.cell? ⟨gb344, 0, none⟩ = some (.slice A0_0 l0_0.length c0_0) := (blk_cell BK344.out 0).trans rfl
                       have hcz80_1 : wr.cell? ⟨gb344, 1, none⟩ = some (.slice A0_1 l0_1.length c0_1) := (blk_cell BK344.out 1).trans rfl
                       have hfz80_0 := blk_frozen BK344.out 0
                       have hfz80_1 := blk_frozen BK344.out 1
                       have p369 : 0 ≤ (x8_3 : Int) := of_decide_eq_true (by first | (with_reducible assumption) )
                       have q369 : x8_3 < (l0_1.length : Int) := of_decide_eq_true (by first | (with_reducible assumption) )
                       obtain ⟨ad369, A369_1, c369_1, A369_2, c369_2, e369, hx369_0, hx369_1, hx369_2, hl369_1, hi369_1, hl369_2, hi369_2⟩ := at_T47 HR0_1.out x8_3 p369 q369
                       cases e369
                       replace hx369_0 := (HB.out.cell (World.block_lt_of_cell? w _ hx369_0)).trans hx369_0
                       replace hx369_1 := (HB.out.cell (World.block_lt_of_cell? w _ hx369_1)).trans hx369_1
                       replace hx369_2 := (HB.out.cell (World.block_lt_of_cell? w _ hx369_2)).trans hx369_2
                       have HR369_1 := Aside0.mk hi369_1
                       have HC369_1 := Aside0.mk hl369_1
                       clear hi369_1 hl369_1
                       have HR369_2 := Aside0.mk hi369_2
                       have HC369_2 := Aside0.mk hl369_2
                       clear hi369_2 hl369_2
                       replace p369 := eq_true p369
                       replace q369 := eq_true q369
                       go_wp2_with (first | ((with_reducible refine gate_builtin (b := .append) (xs := #[.tmp 89, .tmp 96]) rfl ?_); (try (refine gate_guard (by rfl) ?_; dsimp only)); at_builtin; refine Kd.R_append Kd.string (w0 := w) w.heap.size rfl (.tmp 89) (.tmp 96) 37 9 (.string ⟨#[]⟩) 16 rfl Try.underlying37 info9 rfl (by decide) (by omega) u4 x4_3 ((rd_T47 l0_1 x8_3).f0) [.string ((rd_T47 l0_1 x8_3).f0)] (fun _ => True) (fun _ => False) rfl rfl ?aP (fun _ hk => hk.elim) ?aF ?aO ?aB ?aS ?aL ?_; (case aP => exact rfl); (case aB => exact HB.out); (case aF => exact (fun _ _ => trivial)); (case aO => exact HO_4.out); (case aS => exact (below_size HB.out)); (case aL => have := LMc44.out; omega); intro v371 w81 ho hb hg hat; rw [← Ny370.out] at ho; have n0_ := Aside0.mk (blk_grown (g := gb344) (o := .cells #[.slice A0_0 l0_0.length c0_0, .slice (some ad369) l0_1.length c0_1] 35 (0, 0)) BK344.out hg (Kd.R_ne HO_4.out BK344.out (by decide))); have n1_ := Aside0.mk (hb); have n2_ := Aside0.mk (ho); clear BK344; clear HB; clear HO_4; have BK344 := n0_; have HB := n1_; have HO372 := n2_; clear n0_ n1_ n2_; clear ho hb hg hat; have hcz82_0 : w81.cell? ⟨gb344, 0, none⟩ = some (.slice A0_0 l0_0.length c0_0) := (blk_cell BK344.out 0).trans rfl; have hcz82_1 : w81.cell? ⟨gb344, 1, none⟩ = some (.slice (some ad369) l0_1.length c0_1) := (blk_cell BK344.out 1).trans rfl; have hfz82_0 := blk_frozen BK344.out 0; have hfz82_1 := blk_frozen BK344.out 1; have p373 : 0 ≤ (x8_3 : Int) := of_decide_eq_true (by first | (with_reducible assumption) ); have q373 : x8_3 < (l0_1.length : Int) := of_decide_eq_true (by first | (with_reducible assumption) ); obtain ⟨ad373, A373_1, c373_1, A373_2, c373_2, e373, hx373_0, hx373_1, hx373_2, hl373_1, hi373_1, hl373_2, hi373_2⟩ := at_T47 HR0_1.out x8_3 p373 q373; obtain rfl : ad369 = ad373 := (by injection e373); replace hx373_0 := (HB.out.cell (World.block_lt_of_cell? w _ hx373_0)).trans hx373_0; replace hx373_1 := (HB.out.cell (World.block_lt_of_cell? w _ hx373_1)).trans hx373_1; replace hx373_2 := (HB.out.cell (World.block_lt_of_cell? w _ hx373_2)).trans hx373_2; have HR373_1 := Aside0.mk hi373_1; have HC373_1 := Aside0.mk hl373_1; clear hi373_1 hl373_1; have HR373_2 := Aside0.mk hi373_2; have HC373_2 := Aside0.mk hl373_2; clear hi373_2 hl373_2; replace p373 := eq_true p373; replace q373 := eq_true q373; have p374 : 0 ≤ (x8_3 : Int) := of_decide_eq_true (by first | (with_reducible assumption) ); have q374 : x8_3 < (l0_1.length : Int) := of_decide_eq_true (by first | (with_reducible assumption) ); obtain ⟨ad374, A374_1, c374_1, A374_2, c374_2, e374, hx374_0, hx374_1, hx374_2, hl374_1, hi374_1, hl374_2, hi374_2⟩ := at_T47 HR0_1.out x8_3 p374 q374; obtain rfl : ad369 = ad374 := (by injection e374); replace hx374_0 := (HB.out.cell (World.block_lt_of_cell? w _ hx374_0)).trans hx374_0; replace hx374_1 := (HB.out.cell (World.block_lt_of_cell? w _ hx374_1)).trans hx374_1; replace hx374_2 := (HB.out.cell (World.block_lt_of_cell? w _ hx374_2)).trans hx374_2; have HR374_1 := Aside0.mk hi374_1; have HC374_1 := Aside0.mk hl374_1; clear hi374_1 hl374_1; have HR374_2 := Aside0.mk hi374_2; have HC374_2 := Aside0.mk hl374_2; clear hi374_2 hl374_2; replace p374 := eq_true p374; replace q374 := eq_true q374; have ea_ := Option.some.inj (hx373_1.symm.trans hx374_1); injection ea_ with ea_ en_ ec_; subst ea_; subst ec_; clear en_; have ea_ := Option.some.inj (hx373_2.symm.trans hx374_2); injection ea_ with ea_ en_ ec_; subst ea_; subst ec_; clear en_) | (go_at_call 98; (with_reducible refine (ecdysisref15_Nums.calls k3 ((rd_T47 l0_1 x8_3).f0) _ _ ((rd_T47 l0_1 x8_3).f1) _ _ ((rd_T47 l0_1 x8_3).f2) t375 _ ?side1 ?side2 ?side3 ?side4 A49.out).mono ?_); (case side1 => repeat (first | exact (Kd.C_below HR374_1.out HB.out) )); (case side2 => exact HC374_1.out); (case side3 => repeat (first | exact (Kd.C_below HR374_2.out HB.out) )); (case side4 => exact HC374_2.out); rintro e w83 ⟨v376, rfl, ho0, hb⟩; have n0_ := Aside0.mk (Kd.R_below HO372.out hb); have n1_ := Aside0.mk (Kd.R_lower ho0 (below_size HB.out)); have n2_ := Aside0.mk (blk_below BK344.out hb); have n3_ := Aside0.mk (below_step HB.out hb); clear HO372; clear BK344; clear HB; have HO372 := n0_; have HO377 := n1_; have BK344 := n2_; have HB := n3_; clear n0_ n1_ n2_ n3_; (try clear hb); (try clear hb2); (try clear hk); (try clear hi); (try clear ho0); obtain ⟨Ao84, co84, eo84⟩ := Kd.R_slice HO377.out; subst eo84) | (go_at_call 96; (with_reducible refine (ecdysisref15_Rises.calls k3 _ _ t375 false _ ?side1 ?side2 A50.out).mono ?_); (case side1 => repeat (first | exact (Kd.R_reads' HO377.out).2.2 )); (case side2 => exact (Kd.R_reads' HO377.out).2.1); rintro e w' ⟨rfl, ⟨nd, rfl⟩⟩))
                       go_roundg k3
                       case measure => have := HK1.out; have := HJ33.out; have := HK3.out; omega
                       case rel => exact ⟨(true), (y370), (wrap64 (x8_3 + 1)), (by first | rfl ), (by first | rfl ), H', ⟨by have := HK1.out; have := HJ33.out; have := HK3.out; omega⟩, ⟨by (with_reducible repeat (first | apply Kd.R_drewN )); exact HO372.out⟩, ⟨by (with_reducible repeat (first | refine blk_drewN ?_ _ )); exact BK344.out⟩, ⟨by repeat (first | (with_reducible first | exact HB.out | apply pw_below_drewN ) )⟩⟩
                 · rw [if_neg c44] at H
                   exact absurd H (by simp)
               · rw [if_neg c43] at H
                 exact absurd H (by simp)
             · rw [if_neg c42] at H
               have c42b0 : decide (0 < x8_3) = false := decide_eq_false c42
               clear c42
               by_cases c85 : 0 ≤ x8_3
               · rw [if_pos c85] at H
                 have c85b0 : decide (0 ≤ x8_3) = true := decide_eq_true c85
                 clear c85
                 by_cases c86 : x3_3 = true
                 · subst c86
                   have H1 : (ecdysisref15_order.l2 k3 true x4_3 (wrap64 (x8_3 + 1)) l0_0 l0_1) = some r := by rw [if_pos rfl] at H; exact H
                   clear H
                   have H := H1
                   clear H1
                   have H' := Aside0.mk H
                   clear H
                   have hcz87_0 : wr.cell? ⟨gb344, 0, none⟩ = some (.slice A0_0 l0_0.length c0_0) := (blk_cell BK344.out 0).trans rfl
                   have hcz87_1 : wr.cell? ⟨gb344, 1, none⟩ = some (.slice A0_1 l0_1.length c0_1) := (blk_cell BK344.out 1).trans rfl
                   have hfz87_0 := blk_frozen BK344.out 0
                   have hfz87_1 := blk_frozen BK344.out 1
                   have p382 : 0 ≤ (x8_3 : Int) := of_decide_eq_true (by first | (with_reducible assumption) )
                   have q382 : x8_3 < (l0_1.length : Int) := of_decide_eq_true (by first | (with_reducible assumption) )
                   obtain ⟨ad382, A382_1, c382_1, A382_2, c382_2, e382, hx382_0, hx382_1, hx382_2, hl382_1, hi382_1, hl382_2, hi382_2⟩ := at_T47 HR0_1.out x8_3 p382 q382
                   cases e382
                   replace hx382_0 := (HB.out.cell (World.block_lt_of_cell? w _ hx382_0)).trans hx382_0
                   replace hx382_1 := (HB.out.cell (World.block_lt_of_cell? w _ hx382_1)).trans hx382_1
                   replace hx382_2 := (HB.out.cell (World.block_lt_of_cell? w _ hx382_2)).trans hx382_2
                   have HR382_1 := Aside0.mk hi382_1
                   have HC382_1 := Aside0.mk hl382_1
                   clear hi382_1 hl382_1
                   have HR382_2 := Aside0.mk hi382_2
                   have HC382_2 := Aside0.mk hl382_2
                   clear hi382_2 hl382_2
                   replace p382 := eq_true p382
                   replace q382 := eq_true q382
                   go_wp2
                   go_roundg k3
                   case measure => have := HK1.out; have := HJ33.out; have := HK3.out; omega
                   case rel => exact ⟨(true), (x4_3), (wrap64 (x8_3 + 1)), (by first | rfl ), (by first | rfl ), H', ⟨by have := HK1.out; have := HJ33.out; have := HK3.out; omega⟩, ⟨by exact HO_4.out⟩, ⟨by exact BK344.out⟩, ⟨by exact HB.out⟩⟩
                 · replace c86 := Bool.eq_false_iff.mpr c86
                   subst c86
                   have H1 : ((ecdysisref15_Nums.f k3 ((rd_T47 l0_1 x8_3).f0) ((rd_T47 l0_1 x8_3).f1) ((rd_T47 l0_1 x8_3).f2)).bind fun t384 => ((ecdysisref15_Rises.f k3 t384).bind fun t387 => (if t387 = true then ((ecdysisref15_Rises.f k3 ((rd_T47 l0_1 x8_3).f2)).bind fun t388 => (if t388 = true then (if (((rd_T47 l0_1 x8_3).f2).length : Int) > 0 then (if 0 < (((rd_T47 l0_1 x8_3).f2).length : Int) then (if (rd ((rd_T47 l0_1 x8_3).f2) 0) < 1 then (ecdysisref15_order.l2 k3 true x4_3 (wrap64 (x8_3 + 1)) l0_0 l0_1) else (if 0 ≤ (wrap64 ((((rd_T47 l0_1 x8_3).f2).length : Int) - 1)) then (if (wrap64 ((((rd_T47 l0_1 x8_3).f2).length : Int) - 1)) < (((rd_T47 l0_1 x8_3).f2).length : Int) then (ecdysisref15_order.l2 k3 (decide ((rd ((rd_T47 l0_1 x8_3).f2) (wrap64 ((((rd_T47 l0_1 x8_3).f2).length : Int) - 1))) > 536870911)) x4_3 (wrap64 (x8_3 + 1)) l0_0 l0_1) else (none)) else (none))) else (none)) else (ecdysisref15_order.l2 k3 false x4_3 (wrap64 (x8_3 + 1)) l0_0 l0_1)) else (ecdysisref15_order.l2 k3 true x4_3 (wrap64 (x8_3 + 1)) l0_0 l0_1))) else (ecdysisref15_order.l2 k3 true x4_3 (wrap64 (x8_3 + 1)) l0_0 l0_1)))) = some r := by rw [if_neg (show ¬ (false = true) by decide)] at H; exact H
                   clear H
                   have H := H1
                   clear H1
                   replace H := Option.bind_eq_some_iff.mp H
                   obtain ⟨t384, A880, H⟩ := H
                   replace H : ((ecdysisref15_Rises.f k3 t384).bind fun t387 => (if t387 = true then ((ecdysisref15_Rises.f k3 ((rd_T47 l0_1 x8_3).f2)).bind fun t388 => (if t388 = true then (if (((rd_T47 l0_1 x8_3).f2).length : Int) > 0 then (if 0 < (((rd_T47 l0_1 x8_3).f2).length : Int) then (if (rd ((rd_T47 l0_1 x8_3).f2) 0) < 1 then (ecdysisref15_order.l2 k3 true x4_3 (wrap64 (x8_3 + 1)) l0_0 l0_1) else (if 0 ≤ (wrap64 ((((rd_T47 l0_1 x8_3).f2).length : Int) - 1)) then (if (wrap64 ((((rd_T47 l0_1 x8_3).f2).length : Int) - 1)) < (((rd_T47 l0_1 x8_3).f2).length : Int) then (ecdysisref15_order.l2 k3 (decide ((rd ((rd_T47 l0_1 x8_3).f2) (wrap64 ((((rd_T47 l0_1 x8_3).f2).length : Int) - 1))) > 536870911)) x4_3 (wrap64 (x8_3 + 1)) l0_0 l0_1) else (none)) else (none))) else (none)) else (ecdysisref15_order.l2 k3 false x4_3 (wrap64 (x8_3 + 1)) l0_0 l0_1)) else (ecdysisref15_order.l2 k3 true x4_3 (wrap64 (x8_3 + 1)) l0_0 l0_1))) else (ecdysisref15_order.l2 k3 true x4_3 (wrap64 (x8_3 + 1)) l0_0 l0_1))) = some r := H
                   have A88 := Aside0.mk A880
                   clear A880
                   replace H := Option.bind_eq_some_iff.mp H
                   obtain ⟨t387, A890, H⟩ := H
                   replace H : (if t387 = true then ((ecdysisref15_Rises.f k3 ((rd_T47 l0_1 x8_3).f2)).bind fun t388 => (if t388 = true then (if (((rd_T47 l0_1 x8_3).f2).length : Int) > 0 then (if 0 < (((rd_T47 l0_1 x8_3).f2).length : Int) then (if (rd ((rd_T47 l0_1 x8_3).f2) 0) < 1 then (ecdysisref15_order.l2 k3 true x4_3 (wrap64 (x8_3 + 1)) l0_0 l0_1) else (if 0 ≤ (wrap64 ((((rd_T47 l0_1 x8_3).f2).length : Int) - 1)) then (if (wrap64 ((((rd_T47 l0_1 x8_3).f2).length : Int) - 1)) < (((rd_T47 l0_1 x8_3).f2).length : Int) then (ecdysisref15_order.l2 k3 (decide ((rd ((rd_T47 l0_1 x8_3).f2) (wrap64 ((((rd_T47 l0_1 x8_3).f2).length : Int) - 1))) > 536870911)) x4_3 (wrap64 (x8_3 + 1)) l0_0 l0_1) else (none)) else (none))) else (none)) else (ecdysisref15_order.l2 k3 false x4_3 (wrap64 (x8_3 + 1)) l0_0 l0_1)) else (ecdysisref15_order.l2 k3 true x4_3 (wrap64 (x8_3 + 1)) l0_0 l0_1))) else (ecdysisref15_order.l2 k3 true x4_3 (wrap64 (x8_3 + 1)) l0_0 l0_1)) = some r := H
                   have A89 := Aside0.mk A890
                   clear A890
                   by_cases c90 : t387 = true
                   · subst c90
                     have H1 : ((ecdysisref15_Rises.f k3 ((rd_T47 l0_1 x8_3).f2)).bind fun t388 => (if t388 = true then (if (((rd_T47 l0_1 x8_3).f2).length : Int) > 0 then (if 0 < (((rd_T47 l0_1 x8_3).f2).length : Int) then (if (rd ((rd_T47 l0_1 x8_3).f2) 0) < 1 then (ecdysisref15_order.l2 k3 true x4_3 (wrap64 (x8_3 + 1)) l0_0 l0_1) else (if 0 ≤ (wrap64 ((((rd_T47 l0_1 x8_3).f2).length : Int) - 1)) then (if (wrap64 ((((rd_T47 l0_1 x8_3).f2).length : Int) - 1)) < (((rd_T47 l0_1 x8_3).f2).length : Int) then (ecdysisref15_order.l2 k3 (decide ((rd ((rd_T47 l0_1 x8_3).f2) (wrap64 ((((rd_T47 l0_1 x8_3).f2).length : Int) - 1))) > 536870911)) x4_3 (wrap64 (x8_3 + 1)) l0_0 l0_1) else (none)) else (none))) else (none)) else (ecdysisref15_order.l2 k3 false x4_3 (wrap64 (x8_3 + 1)) l0_0 l0_1)) else (ecdysisref15_order.l2 k3 true x4_3 (wrap64 (x8_3 + 1)) l0_0 l0_1))) = some r := by rw [if_pos rfl] at H; exact H
                     clear H
                     have H := H1
                     clear H1
                     replace H := Option.bind_eq_some_iff.mp H
                     obtain ⟨t388, A910, H⟩ := H
                     replace H : (if t388 = true then (if (((rd_T47 l0_1 x8_3).f2).length : Int) > 0 then (if 0 < (((rd_T47 l0_1 x8_3).f2).length : Int) then (if (rd ((rd_T47 l0_1 x8_3).f2) 0) < 1 then (ecdysisref15_order.l2 k3 true x4_3 (wrap64 (x8_3 + 1)) l0_0 l0_1) else (if 0 ≤ (wrap64 ((((rd_T47 l0_1 x8_3).f2).length : Int) - 1)) then (if (wrap64 ((((rd_T47 l0_1 x8_3).f2).length : Int) - 1)) < (((rd_T47 l0_1 x8_3).f2).length : Int) then (ecdysisref15_order.l2 k3 (decide ((rd ((rd_T47 l0_1 x8_3).f2) (wrap64 ((((rd_T47 l0_1 x8_3).f2).length : Int) - 1))) > 536870911)) x4_3 (wrap64 (x8_3 + 1)) l0_0 l0_1) else (none)) else (none))) else (none)) else (ecdysisref15_order.l2 k3 false x4_3 (wrap64 (x8_3 + 1)) l0_0 l0_1)) else (ecdysisref15_order.l2 k3 true x4_3 (wrap64 (x8_3 + 1)) l0_0 l0_1)) = some r := H
                     have A91 := Aside0.mk A910
                     clear A910
                     by_cases c92 : t388 = true
                     · subst c92
                       have H1 : (if (((rd_T47 l0_1 x8_3).f2).length : Int) > 0 then (if 0 < (((rd_T47 l0_1 x8_3).f2).length : Int) then (if (rd ((rd_T47 l0_1 x8_3).f2) 0) < 1 then (ecdysisref15_order.l2 k3 true x4_3 (wrap64 (x8_3 + 1)) l0_0 l0_1) else (if 0 ≤ (wrap64 ((((rd_T47 l0_1 x8_3).f2).length : Int) - 1)) then (if (wrap64 ((((rd_T47 l0_1 x8_3).f2).length : Int) - 1)) < (((rd_T47 l0_1 x8_3).f2).length : Int) then (ecdysisref15_order.l2 k3 (decide ((rd ((rd_T47 l0_1 x8_3).f2) (wrap64 ((((rd_T47 l0_1 x8_3).f2).length : Int) - 1))) > 536870911)) x4_3 (wrap64 (x8_3 + 1)) l0_0 l0_1) else (none)) else (none))) else (none)) else (ecdysisref15_order.l2 k3 false x4_3 (wrap64 (x8_3 + 1)) l0_0 l0_1)) = some r := by rw [if_pos rfl] at H; exact H
                       clear H
                       have H := H1
                       clear H1
                       by_cases c93 : (((rd_T47 l0_1 x8_3).f2).length : Int) > 0
                       · rw [if_pos c93] at H
                         have c93b0 : decide (0 < (((rd_T47 l0_1 x8_3).f2).length : Int)) = true := decide_eq_true c93
                         have c93b1 : decide (0 < ((rd_T47 l0_1 x8_3).f2).length) = true := decide_eq_true (by omega)
                         clear c93
                         by_cases c94 : 0 < (((rd_T47 l0_1 x8_3).f2).length : Int)
                         · rw [if_pos c94] at H
                           have c94b0 : decide (0 < (((rd_T47 l0_1 x8_3).f2).length : Int)) = true := decide_eq_true c94
                           have c94b1 : decide (0 < ((rd_T47 l0_1 x8_3).f2).length) = true := decide_eq_true (by omega)
                           clear c94
                           by_cases c95 : (rd ((rd_T47 l0_1 x8_3).f2) 0) < 1
                           · rw [if_pos c95] at H
                             have c95b0 : decide ((rd ((rd_T47 l0_1 x8_3).f2) 0) < 1) = true := decide_eq_true c95
                             clear c95
                             have H' := Aside0.mk H
                             clear H
                             have hcz96_0 : wr.cell? ⟨gb344, 0, none⟩ = some (.slice A0_0 l0_0.length c0_0) := (blk_cell BK344.out 0).trans rfl
                             have hcz96_1 : wr.cell? ⟨gb344, 1, none⟩ = some (.slice A0_1 l0_1.length c0_1) := (blk_cell BK344.out 1).trans rfl
                             have hfz96_0 := blk_frozen BK344.out 0
                             have hfz96_1 := blk_frozen BK344.out 1
                             have p382 : 0 ≤ (x8_3 : Int) := of_decide_eq_true (by first | (with_reducible assumption) )
                             have q382 : x8_3 < (l0_1.length : Int) := of_decide_eq_true (by first | (with_reducible assumption) )
                             obtain ⟨ad382, A382_1, c382_1, A382_2, c382_2, e382, hx382_0, hx382_1, hx382_2, hl382_1, hi382_1, hl382_2, hi382_2⟩ := at_T47 HR0_1.out x8_3 p382 q382
                             cases e382
                             replace hx382_0 := (HB.out.cell (World.block_lt_of_cell? w _ hx382_0)).trans hx382_0
                             replace hx382_1 := (HB.out.cell (World.block_lt_of_cell? w _ hx382_1)).trans hx382_1
                             replace hx382_2 := (HB.out.cell (World.block_lt_of_cell? w _ hx382_2)).trans hx382_2
                             have HR382_1 := Aside0.mk hi382_1
                             have HC382_1 := Aside0.mk hl382_1
                             clear hi382_1 hl382_1
                             have HR382_2 := Aside0.mk hi382_2
                             have HC382_2 := Aside0.mk hl382_2
                             clear hi382_2 hl382_2
                             replace p382 := eq_true p382
                             replace q382 := eq_true q382
                             have p383 : 0 ≤ (x8_3 : Int) := of_decide_eq_true (by first | (with_reducible assumption) )
                             have q383 : x8_3 < (l0_1.length : Int) := of_decide_eq_true (by first | (with_reducible assumption) )
                             obtain ⟨ad383, A383_1, c383_1, A383_2, c383_2, e383, hx383_0, hx383_1, hx383_2, hl383_1, hi383_1, hl383_2, hi383_2⟩ := at_T47 HR0_1.out x8_3 p383 q383
                             obtain rfl : ad382 = ad383 := (by injection e383)
                             replace hx383_0 := (HB.out.cell (World.block_lt_of_cell? w _ hx383_0)).trans hx383_0
                             replace hx383_1 := (HB.out.cell (World.block_lt_of_cell? w _ hx383_1)).trans hx383_1
                             replace hx383_2 := (HB.out.cell (World.block_lt_of_cell? w _ hx383_2)).trans hx383_2
                             have HR383_1 := Aside0.mk hi383_1
                             have HC383_1 := Aside0.mk hl383_1
                             clear hi383_1 hl383_1
                             have HR383_2 := Aside0.mk hi383_2
                             have HC383_2 := Aside0.mk hl383_2
                             clear hi383_2 hl383_2
                             replace p383 := eq_true p383
                             replace q383 := eq_true q383
                             have ea_ := Option.some.inj (hx382_1.symm.trans hx383_1)
                             injection ea_ with ea_ en_ ec_
                             subst ea_
                             subst ec_
                             clear en_
                             have ea_ := Option.some.inj (hx382_2.symm.trans hx383_2)
                             injection ea_ with ea_ en_ ec_
                             subst ea_
                             subst ec_
                             clear en_
                             go_wp2_with (first | (go_at_call 98; (with_reducible refine (ecdysisref15_Nums.calls k3 ((rd_T47 l0_1 x8_3).f0) _ _ ((rd_T47 l0_1 x8_3).f1) _ _ ((rd_T47 l0_1 x8_3).f2) t384 _ ?side1 ?side2 ?side3 ?side4 A88.out).mono ?_); (case side1 => repeat (first | exact (Kd.C_below HR383_1.out HB.out) )); (case side2 => exact HC383_1.out); (case side3 => repeat (first | exact (Kd.C_below HR383_2.out HB.out) )); (case side4 => exact HC383_2.out); rintro e w97 ⟨v385, rfl, ho0, hb⟩; have n0_ := Aside0.mk (Kd.R_below HO_4.out hb); have n1_ := Aside0.mk (Kd.R_lower ho0 (below_size HB.out)); have n2_ := Aside0.mk (blk_below BK344.out hb); have n3_ := Aside0.mk (below_step HB.out hb); clear HO_4; clear BK344; clear HB; have HO_4 := n0_; have HO386 := n1_; have BK344 := n2_; have HB := n3_; clear n0_ n1_ n2_ n3_; (try clear hb); (try clear hb2); (try clear hk); (try clear hi); (try clear ho0); obtain ⟨Ao98, co98, eo98⟩ := Kd.R_slice HO386.out; subst eo98) | (go_at_call 96; (with_reducible refine (ecdysisref15_Rises.calls k3 _ _ t384 true _ ?side1 ?side2 A89.out).mono ?_); (case side1 => repeat (first | exact (Kd.R_reads' HO386.out).2.2 )); (case side2 => exact (Kd.R_reads' HO386.out).2.1); rintro e w' ⟨rfl, ⟨nd, rfl⟩⟩) | (go_at_call 96; (with_reducible refine (ecdysisref15_Rises.calls k3 _ _ ((rd_T47 l0_1 x8_3).f2) true _ ?side1 ?side2 A91.out).mono ?_); (case side1 => repeat (first | exact (Kd.C_below HR382_2.out (by repeat (first | (with_reducible first | exact HB.out | apply pw_below_drewN ) ))) )); (case side2 => exact HC382_2.out); rintro e w' ⟨rfl, ⟨nd, rfl⟩⟩; have p389 : 0 ≤ (0 : Int) := (by omega); have q389 : 0 < (((rd_T47 l0_1 x8_3).f2).length : Int) := of_decide_eq_true (by first | (with_reducible assumption) ); obtain ⟨ad389, e389, hx389_0⟩ := Kd.at_int HR382_2.out 0 p389 q389; cases e389; have qi389 : (0 < ((rd_T47 l0_1 x8_3).f2).length) = True := eq_true (by omega); (try rw [show ((0 : Int)).toNat = 0 from rfl] at hx389_0); (try rw [Addr.add_zero'] at hx389_0); replace hx389_0 := (HB.out.cell (World.block_lt_of_cell? w _ hx389_0)).trans hx389_0; replace p389 := eq_true p389; replace q389 := eq_true q389))
                             go_roundg k3
                             case measure => have := HK1.out; have := HJ33.out; have := HK3.out; omega
                             case rel => exact ⟨(true), (x4_3), (wrap64 (x8_3 + 1)), (by first | rfl ), (by first | rfl ), H', ⟨by have := HK1.out; have := HJ33.out; have := HK3.out; omega⟩, ⟨by (with_reducible repeat (first | apply Kd.R_drewN )); exact HO_4.out⟩, ⟨by (with_reducible repeat (first | refine blk_drewN ?_ _ )); exact BK344.out⟩, ⟨by repeat (first | (with_reducible first | exact HB.out | apply pw_below_drewN ) )⟩⟩
                           · rw [if_neg c95] at H
                             have c95b0 : decide ((rd ((rd_T47 l0_1 x8_3).f2) 0) < 1) = false := decide_eq_false c95
                             clear c95
                             obtain ⟨ji99, hji99⟩ : ∃ j_ : Int, (wrap64 ((((rd_T47 l0_1 x8_3).f2).length : Int) - 1)) = j_ := ⟨_, rfl⟩
                             replace H : (if 0 ≤ (ji99) then (if (ji99) < (((rd_T47 l0_1 x8_3).f2).length : Int) then (ecdysisref15_order.l2 k3 (decide ((rd ((rd_T47 l0_1 x8_3).f2) (ji99)) > 536870911)) x4_3 (wrap64 (x8_3 + 1)) l0_0 l0_1) else (none)) else (none)) = some r := by first | (rw [hji99] at H; exact H) 
                             (try rw [hji99] at A88)
                             (try rw [hji99] at A89)
                             (try rw [hji99] at A91)
                             have hji99w : (IntKind.i64.wrap ((((rd_T47 l0_1 x8_3).f2).length : Int) - 1)) = ji99 := (i64_w _).trans hji99
                             by_cases c100 : 0 ≤ (ji99)
                             · rw [if_pos c100] at H
                               have c100b0 : decide (0 ≤ (ji99)) = true := decide_eq_true c100
                               clear c100
                               by_cases c101 : (ji99) < (((rd_T47 l0_1 x8_3).f2).length : Int)
                               · rw [if_pos c101] at H
                                 have c101b0 : decide ((ji99) < (((rd_T47 l0_1 x8_3).f2).length : Int)) = true := decide_eq_true c101
                                 clear c101
                                 have H' := Aside0.mk H
                                 clear H
                                 have hcz102_0 : wr.cell? ⟨gb344, 0, none⟩ = some (.slice A0_0 l0_0.length c0_0) := (blk_cell BK344.out 0).trans rfl
                                 have hcz102_1 : wr.cell? ⟨gb344, 1, none⟩ = some (.slice A0_1 l0_1.length c0_1) := (blk_cell BK344.out 1).trans rfl
                                 have hfz102_0 := blk_frozen BK344.out 0
                                 have hfz102_1 := blk_frozen BK344.out 1
                                 have p382 : 0 ≤ (x8_3 : Int) := of_decide_eq_true (by first | (with_reducible assumption) )
                                 have q382 : x8_3 < (l0_1.length : Int) := of_decide_eq_true (by first | (with_reducible assumption) )
                                 obtain ⟨ad382, A382_1, c382_1, A382_2, c382_2, e382, hx382_0, hx382_1, hx382_2, hl382_1, hi382_1, hl382_2, hi382_2⟩ := at_T47 HR0_1.out x8_3 p382 q382
                                 cases e382
                                 replace hx382_0 := (HB.out.cell (World.block_lt_of_cell? w _ hx382_0)).trans hx382_0
                                 replace hx382_1 := (HB.out.cell (World.block_lt_of_cell? w _ hx382_1)).trans hx382_1
                                 replace hx382_2 := (HB.out.cell (World.block_lt_of_cell? w _ hx382_2)).trans hx382_2
                                 have HR382_1 := Aside0.mk hi382_1
                                 have HC382_1 := Aside0.mk hl382_1
                                 clear hi382_1 hl382_1
                                 have HR382_2 := Aside0.mk hi382_2
                                 have HC382_2 := Aside0.mk hl382_2
                                 clear hi382_2 hl382_2
                                 replace p382 := eq_true p382
                                 replace q382 := eq_true q382
                                 have p383 : 0 ≤ (x8_3 : Int) := of_decide_eq_true (by first | (with_reducible assumption) )
                                 have q383 : x8_3 < (l0_1.length : Int) := of_decide_eq_true (by first | (with_reducible assumption) )
                                 obtain ⟨ad383, A383_1, c383_1, A383_2, c383_2, e383, hx383_0, hx383_1, hx383_2, hl383_1, hi383_1, hl383_2, hi383_2⟩ := at_T47 HR0_1.out x8_3 p383 q383
                                 obtain rfl : ad382 = ad383 := (by injection e383)
                                 replace hx383_0 := (HB.out.cell (World.block_lt_of_cell? w _ hx383_0)).trans hx383_0
                                 replace hx383_1 := (HB.out.cell (World.block_lt_of_cell? w _ hx383_1)).trans hx383_1
                                 replace hx383_2 := (HB.out.cell (World.block_lt_of_cell? w _ hx383_2)).trans hx383_2
                                 have HR383_1 := Aside0.mk hi383_1
                                 have HC383_1 := Aside0.mk hl383_1
                                 clear hi383_1 hl383_1
                                 have HR383_2 := Aside0.mk hi383_2
                                 have HC383_2 := Aside0.mk hl383_2
                                 clear hi383_2 hl383_2
                                 replace p383 := eq_true p383
                                 replace q383 := eq_true q383
                                 have ea_ := Option.some.inj (hx382_1.symm.trans hx383_1)
                                 injection ea_ with ea_ en_ ec_
                                 subst ea_
                                 subst ec_
                                 clear en_
                                 have ea_ := Option.some.inj (hx382_2.symm.trans hx383_2)
                                 injection ea_ with ea_ en_ ec_
                                 subst ea_
                                 subst ec_
                                 clear en_
                                 go_wp2_with (first | (go_at_call 98; (with_reducible refine (ecdysisref15_Nums.calls k3 ((rd_T47 l0_1 x8_3).f0) _ _ ((rd_T47 l0_1 x8_3).f1) _ _ ((rd_T47 l0_1 x8_3).f2) t384 _ ?side1 ?side2 ?side3 ?side4 A88.out).mono ?_); (case side1 => repeat (first | exact (Kd.C_below HR383_1.out HB.out) )); (case side2 => exact HC383_1.out); (case side3 => repeat (first | exact (Kd.C_below HR383_2.out HB.out) )); (case side4 => exact HC383_2.out); rintro e w103 ⟨v385, rfl, ho0, hb⟩; have n0_ := Aside0.mk (Kd.R_below HO_4.out hb); have n1_ := Aside0.mk (Kd.R_lower ho0 (below_size HB.out)); have n2_ := Aside0.mk (blk_below BK344.out hb); have n3_ := Aside0.mk (below_step HB.out hb); clear HO_4; clear BK344; clear HB; have HO_4 := n0_; have HO386 := n1_; have BK344 := n2_; have HB := n3_; clear n0_ n1_ n2_ n3_; (try clear hb); (try clear hb2); (try clear hk); (try clear hi); (try clear ho0); obtain ⟨Ao104, co104, eo104⟩ := Kd.R_slice HO386.out; subst eo104) | (go_at_call 96; (with_reducible refine (ecdysisref15_Rises.calls k3 _ _ t384 true _ ?side1 ?side2 A89.out).mono ?_); (case side1 => repeat (first | exact (Kd.R_reads' HO386.out).2.2 )); (case side2 => exact (Kd.R_reads' HO386.out).2.1); rintro e w' ⟨rfl, ⟨nd, rfl⟩⟩) | (go_at_call 96; (with_reducible refine (ecdysisref15_Rises.calls k3 _ _ ((rd_T47 l0_1 x8_3).f2) true _ ?side1 ?side2 A91.out).mono ?_); (case side1 => repeat (first | exact (Kd.C_below HR382_2.out (by repeat (first | (with_reducible first | exact HB.out | apply pw_below_drewN ) ))) )); (case side2 => exact HC382_2.out); rintro e w' ⟨rfl, ⟨nd, rfl⟩⟩; have p389 : 0 ≤ (0 : Int) := (by omega); have q389 : 0 < (((rd_T47 l0_1 x8_3).f2).length : Int) := of_decide_eq_true (by first | (with_reducible assumption) ); obtain ⟨ad389, e389, hx389_0⟩ := Kd.at_int HR382_2.out 0 p389 q389; cases e389; have qi389 : (0 < ((rd_T47 l0_1 x8_3).f2).length) = True := eq_true (by omega); (try rw [show ((0 : Int)).toNat = 0 from rfl] at hx389_0); (try rw [Addr.add_zero'] at hx389_0); replace hx389_0 := (HB.out.cell (World.block_lt_of_cell? w _ hx389_0)).trans hx389_0; replace p389 := eq_true p389; replace q389 := eq_true q389; have p390 : 0 ≤ ((ji99) : Int) := of_decide_eq_true (by first | (with_reducible assumption) ); have q390 : (ji99) < (((rd_T47 l0_1 x8_3).f2).length : Int) := of_decide_eq_true (by first | (with_reducible assumption) ); obtain ⟨ad390, e390, hx390_0⟩ := Kd.at_int HR382_2.out (ji99) p390 q390; obtain rfl : ad389 = ad390 := (by injection e390); replace hx390_0 := (HB.out.cell (World.block_lt_of_cell? w _ hx390_0)).trans hx390_0; replace p390 := eq_true p390; replace q390 := eq_true q390))
                                 go_roundg k3
                                 case measure => have := HK1.out; have := HJ33.out; have := HK3.out; omega
                                 case rel => exact ⟨(decide ((rd ((rd_T47 l0_1 x8_3).f2) (ji99)) > 536870911)), (x4_3), (wrap64 (x8_3 + 1)), (by first | rfl ), (by first | rfl ), H', ⟨by have := HK1.out; have := HJ33.out; have := HK3.out; omega⟩, ⟨by (with_reducible repeat (first | apply Kd.R_drewN )); exact HO_4.out⟩, ⟨by (with_reducible repeat (first | refine blk_drewN ?_ _ )); exact BK344.out⟩, ⟨by repeat (first | (with_reducible first | exact HB.out | apply pw_below_drewN ) )⟩⟩
                               · rw [if_neg c101] at H
                                 exact absurd H (by simp)
                             · rw [if_neg c100] at H
                               exact absurd H (by simp)
                         · rw [if_neg c94] at H
                           exact absurd H (by simp)
                       · rw [if_neg c93] at H
                         have c93b0 : decide (0 < (((rd_T47 l0_1 x8_3).f2).length : Int)) = false := decide_eq_false c93
                         have c93b1 : decide (0 < ((rd_T47 l0_1 x8_3).f2).length) = false := decide_eq_false (by omega)
                         clear c93
                         have H' := Aside0.mk H
                         clear H
                         have hcz105_0 : wr.cell? ⟨gb344, 0, none⟩ = some (.slice A0_0 l0_0.length c0_0) := (blk_cell BK344.out 0).trans rfl
                         have hcz105_1 : wr.cell? ⟨gb344, 1, none⟩ = some (.slice A0_1 l0_1.length c0_1) := (blk_cell BK344.out 1).trans rfl
                         have hfz105_0 := blk_frozen BK344.out 0
                         have hfz105_1 := blk_frozen BK344.out 1
                         have p382 : 0 ≤ (x8_3 : Int) := of_decide_eq_true (by first | (with_reducible assumption) )
                         have q382 : x8_3 < (l0_1.length : Int) := of_decide_eq_true (by first | (with_reducible assumption) )
                         obtain ⟨ad382, A382_1, c382_1, A382_2, c382_2, e382, hx382_0, hx382_1, hx382_2, hl382_1, hi382_1, hl382_2, hi382_2⟩ := at_T47 HR0_1.out x8_3 p382 q382
                         cases e382
                         replace hx382_0 := (HB.out.cell (World.block_lt_of_cell? w _ hx382_0)).trans hx382_0
                         replace hx382_1 := (HB.out.cell (World.block_lt_of_cell? w _ hx382_1)).trans hx382_1
                         replace hx382_2 := (HB.out.cell (World.block_lt_of_cell? w _ hx382_2)).trans hx382_2
                         have HR382_1 := Aside0.mk hi382_1
                         have HC382_1 := Aside0.mk hl382_1
                         clear hi382_1 hl382_1
                         have HR382_2 := Aside0.mk hi382_2
                         have HC382_2 := Aside0.mk hl382_2
                         clear hi382_2 hl382_2
                         replace p382 := eq_true p382
                         replace q382 := eq_true q382
                         have p383 : 0 ≤ (x8_3 : Int) := of_decide_eq_true (by first | (with_reducible assumption) )
                         have q383 : x8_3 < (l0_1.length : Int) := of_decide_eq_true (by first | (with_reducible assumption) )
                         obtain ⟨ad383, A383_1, c383_1, A383_2, c383_2, e383, hx383_0, hx383_1, hx383_2, hl383_1, hi383_1, hl383_2, hi383_2⟩ := at_T47 HR0_1.out x8_3 p383 q383
                         obtain rfl : ad382 = ad383 := (by injection e383)
                         replace hx383_0 := (HB.out.cell (World.block_lt_of_cell? w _ hx383_0)).trans hx383_0
                         replace hx383_1 := (HB.out.cell (World.block_lt_of_cell? w _ hx383_1)).trans hx383_1
                         replace hx383_2 := (HB.out.cell (World.block_lt_of_cell? w _ hx383_2)).trans hx383_2
                         have HR383_1 := Aside0.mk hi383_1
                         have HC383_1 := Aside0.mk hl383_1
                         clear hi383_1 hl383_1
                         have HR383_2 := Aside0.mk hi383_2
                         have HC383_2 := Aside0.mk hl383_2
                         clear hi383_2 hl383_2
                         replace p383 := eq_true p383
                         replace q383 := eq_true q383
                         have ea_ := Option.some.inj (hx382_1.symm.trans hx383_1)
                         injection ea_ with ea_ en_ ec_
                         subst ea_
                         subst ec_
                         clear en_
                         have ea_ := Option.some.inj (hx382_2.symm.trans hx383_2)
                         injection ea_ with ea_ en_ ec_
                         subst ea_
                         subst ec_
                         clear en_
                         go_wp2_with (first | (go_at_call 98; (with_reducible refine (ecdysisref15_Nums.calls k3 ((rd_T47 l0_1 x8_3).f0) _ _ ((rd_T47 l0_1 x8_3).f1) _ _ ((rd_T47 l0_1 x8_3).f2) t384 _ ?side1 ?side2 ?side3 ?side4 A88.out).mono ?_); (case side1 => repeat (first | exact (Kd.C_below HR383_1.out HB.out) )); (case side2 => exact HC383_1.out); (case side3 => repeat (first | exact (Kd.C_below HR383_2.out HB.out) )); (case side4 => exact HC383_2.out); rintro e w106 ⟨v385, rfl, ho0, hb⟩; have n0_ := Aside0.mk (Kd.R_below HO_4.out hb); have n1_ := Aside0.mk (Kd.R_lower ho0 (below_size HB.out)); have n2_ := Aside0.mk (blk_below BK344.out hb); have n3_ := Aside0.mk (below_step HB.out hb); clear HO_4; clear BK344; clear HB; have HO_4 := n0_; have HO386 := n1_; have BK344 := n2_; have HB := n3_; clear n0_ n1_ n2_ n3_; (try clear hb); (try clear hb2); (try clear hk); (try clear hi); (try clear ho0); obtain ⟨Ao107, co107, eo107⟩ := Kd.R_slice HO386.out; subst eo107) | (go_at_call 96; (with_reducible refine (ecdysisref15_Rises.calls k3 _ _ t384 true _ ?side1 ?side2 A89.out).mono ?_); (case side1 => repeat (first | exact (Kd.R_reads' HO386.out).2.2 )); (case side2 => exact (Kd.R_reads' HO386.out).2.1); rintro e w' ⟨rfl, ⟨nd, rfl⟩⟩) | (go_at_call 96; (with_reducible refine (ecdysisref15_Rises.calls k3 _ _ ((rd_T47 l0_1 x8_3).f2) true _ ?side1 ?side2 A91.out).mono ?_); (case side1 => repeat (first | exact (Kd.C_below HR382_2.out (by repeat (first | (with_reducible first | exact HB.out | apply pw_below_drewN ) ))) )); (case side2 => exact HC382_2.out); rintro e w' ⟨rfl, ⟨nd, rfl⟩⟩))
                         go_roundg k3
                         case measure => have := HK1.out; have := HJ33.out; have := HK3.out; omega
                         case rel => exact ⟨(false), (x4_3), (wrap64 (x8_3 + 1)), (by first | rfl ), (by first | rfl ), H', ⟨by have := HK1.out; have := HJ33.out; have := HK3.out; omega⟩, ⟨by (with_reducible repeat (first | apply Kd.R_drewN )); exact HO_4.out⟩, ⟨by (with_reducible repeat (first | refine blk_drewN ?_ _ )); exact BK344.out⟩, ⟨by repeat (first | (with_reducible first | exact HB.out | apply pw_below_drewN ) )⟩⟩
                     · replace c92 := Bool.eq_false_iff.mpr c92
                       subst c92
                       have H1 : (ecdysisref15_order.l2 k3 true x4_3 (wrap64 (x8_3 + 1)) l0_0 l0_1) = some r := by rw [if_neg (show ¬ (false = true) by decide)] at H; exact H
                       clear H
                       have H := H1
                       clear H1
                       have H' := Aside0.mk H
                       clear H
                       have hcz108_0 : wr.cell? ⟨gb344, 0, none⟩ = some (.slice A0_0 l0_0.length c0_0) := (blk_cell BK344.out 0).trans rfl
                       have hcz108_1 : wr.cell? ⟨gb344, 1, none⟩ = some (.slice A0_1 l0_1.length c0_1) := (blk_cell BK344.out 1).trans rfl
                       have hfz108_0 := blk_frozen BK344.out 0
                       have hfz108_1 := blk_frozen BK344.out 1
                       have p382 : 0 ≤ (x8_3 : Int) := of_decide_eq_true (by first | (with_reducible assumption) )
                       have q382 : x8_3 < (l0_1.length : Int) := of_decide_eq_true (by first | (with_reducible assumption) )
                       obtain ⟨ad382, A382_1, c382_1, A382_2, c382_2, e382, hx382_0, hx382_1, hx382_2, hl382_1, hi382_1, hl382_2, hi382_2⟩ := at_T47 HR0_1.out x8_3 p382 q382
                       cases e382
                       replace hx382_0 := (HB.out.cell (World.block_lt_of_cell? w _ hx382_0)).trans hx382_0
                       replace hx382_1 := (HB.out.cell (World.block_lt_of_cell? w _ hx382_1)).trans hx382_1
                       replace hx382_2 := (HB.out.cell (World.block_lt_of_cell? w _ hx382_2)).trans hx382_2
                       have HR382_1 := Aside0.mk hi382_1
                       have HC382_1 := Aside0.mk hl382_1
                       clear hi382_1 hl382_1
                       have HR382_2 := Aside0.mk hi382_2
                       have HC382_2 := Aside0.mk hl382_2
                       clear hi382_2 hl382_2
                       replace p382 := eq_true p382
                       replace q382 := eq_true q382
                       have p383 : 0 ≤ (x8_3 : Int) := of_decide_eq_true (by first | (with_reducible assumption) )
                       have q383 : x8_3 < (l0_1.length : Int) := of_decide_eq_true (by first | (with_reducible assumption) )
                       obtain ⟨ad383, A383_1, c383_1, A383_2, c383_2, e383, hx383_0, hx383_1, hx383_2, hl383_1, hi383_1, hl383_2, hi383_2⟩ := at_T47 HR0_1.out x8_3 p383 q383
                       obtain rfl : ad382 = ad383 := (by injection e383)
                       replace hx383_0 := (HB.out.cell (World.block_lt_of_cell? w _ hx383_0)).trans hx383_0
                       replace hx383_1 := (HB.out.cell (World.block_lt_of_cell? w _ hx383_1)).trans hx383_1
                       replace hx383_2 := (HB.out.cell (World.block_lt_of_cell? w _ hx383_2)).trans hx383_2
                       have HR383_1 := Aside0.mk hi383_1
                       have HC383_1 := Aside0.mk hl383_1
                       clear hi383_1 hl383_1
                       have HR383_2 := Aside0.mk hi383_2
                       have HC383_2 := Aside0.mk hl383_2
                       clear hi383_2 hl383_2
                       replace p383 := eq_true p383
                       replace q383 := eq_true q383
                       have ea_ := Option.some.inj (hx382_1.symm.trans hx383_1)
                       injection ea_ with ea_ en_ ec_
                       subst ea_
                       subst ec_
                       clear en_
                       have ea_ := Option.some.inj (hx382_2.symm.trans hx383_2)
                       injection ea_ with ea_ en_ ec_
                       subst ea_
                       subst ec_
                       clear en_
                       go_wp2_with (first | (go_at_call 98; (with_reducible refine (ecdysisref15_Nums.calls k3 ((rd_T47 l0_1 x8_3).f0) _ _ ((rd_T47 l0_1 x8_3).f1) _ _ ((rd_T47 l0_1 x8_3).f2) t384 _ ?side1 ?side2 ?side3 ?side4 A88.out).mono ?_); (case side1 => repeat (first | exact (Kd.C_below HR383_1.out HB.out) )); (case side2 => exact HC383_1.out); (case side3 => repeat (first | exact (Kd.C_below HR383_2.out HB.out) )); (case side4 => exact HC383_2.out); rintro e w109 ⟨v385, rfl, ho0, hb⟩; have n0_ := Aside0.mk (Kd.R_below HO_4.out hb); have n1_ := Aside0.mk (Kd.R_lower ho0 (below_size HB.out)); have n2_ := Aside0.mk (blk_below BK344.out hb); have n3_ := Aside0.mk (below_step HB.out hb); clear HO_4; clear BK344; clear HB; have HO_4 := n0_; have HO386 := n1_; have BK344 := n2_; have HB := n3_; clear n0_ n1_ n2_ n3_; (try clear hb); (try clear hb2); (try clear hk); (try clear hi); (try clear ho0); obtain ⟨Ao110, co110, eo110⟩ := Kd.R_slice HO386.out; subst eo110) | (go_at_call 96; (with_reducible refine (ecdysisref15_Rises.calls k3 _ _ t384 true _ ?side1 ?side2 A89.out).mono ?_); (case side1 => repeat (first | exact (Kd.R_reads' HO386.out).2.2 )); (case side2 => exact (Kd.R_reads' HO386.out).2.1); rintro e w' ⟨rfl, ⟨nd, rfl⟩⟩) | (go_at_call 96; (with_reducible refine (ecdysisref15_Rises.calls k3 _ _ ((rd_T47 l0_1 x8_3).f2) false _ ?side1 ?side2 A91.out).mono ?_); (case side1 => repeat (first | exact (Kd.C_below HR382_2.out (by repeat (first | (with_reducible first | exact HB.out | apply pw_below_drewN ) ))) )); (case side2 => exact HC382_2.out); rintro e w' ⟨rfl, ⟨nd, rfl⟩⟩))
                       go_roundg k3
                       case measure => have := HK1.out; have := HJ33.out; have := HK3.out; omega
                       case rel => exact ⟨(true), (x4_3), (wrap64 (x8_3 + 1)), (by first | rfl ), (by first | rfl ), H', ⟨by have := HK1.out; have := HJ33.out; have := HK3.out; omega⟩, ⟨by (with_reducible repeat (first | apply Kd.R_drewN )); exact HO_4.out⟩, ⟨by (with_reducible repeat (first | refine blk_drewN ?_ _ )); exact BK344.out⟩, ⟨by repeat (first | (with_reducible first | exact HB.out | apply pw_below_drewN ) )⟩⟩
                   · replace c90 := Bool.eq_false_iff.mpr c90
                     subst c90
                     have H1 : (ecdysisref15_order.l2 k3 true x4_3 (wrap64 (x8_3 + 1)) l0_0 l0_1) = some r := by rw [if_neg (show ¬ (false = true) by decide)] at H; exact H
                     clear H
                     have H := H1
                     clear H1
                     have H' := Aside0.mk H
                     clear H
                     have hcz111_0 : wr.cell? ⟨gb344, 0, none⟩ = some (.slice A0_0 l0_0.length c0_0) := (blk_cell BK344.out 0).trans rfl
                     have hcz111_1 : wr.cell? ⟨gb344, 1, none⟩ = some (.slice A0_1 l0_1.length c0_1) := (blk_cell BK344.out 1).trans rfl
                     have hfz111_0 := blk_frozen BK344.out 0
                     have hfz111_1 := blk_frozen BK344.out 1
                     have p382 : 0 ≤ (x8_3 : Int) := of_decide_eq_true (by first | (with_reducible assumption) )
                     have q382 : x8_3 < (l0_1.length : Int) := of_decide_eq_true (by first | (with_reducible assumption) )
                     obtain ⟨ad382, A382_1, c382_1, A382_2, c382_2, e382, hx382_0, hx382_1, hx382_2, hl382_1, hi382_1, hl382_2, hi382_2⟩ := at_T47 HR0_1.out x8_3 p382 q382
                     cases e382
                     replace hx382_0 := (HB.out.cell (World.block_lt_of_cell? w _ hx382_0)).trans hx382_0
                     replace hx382_1 := (HB.out.cell (World.block_lt_of_cell? w _ hx382_1)).trans hx382_1
                     replace hx382_2 := (HB.out.cell (World.block_lt_of_cell? w _ hx382_2)).trans hx382_2
                     have HR382_1 := Aside0.mk hi382_1
                     have HC382_1 := Aside0.mk hl382_1
                     clear hi382_1 hl382_1
                     have HR382_2 := Aside0.mk hi382_2
                     have HC382_2 := Aside0.mk hl382_2
                     clear hi382_2 hl382_2
                     replace p382 := eq_true p382
                     replace q382 := eq_true q382
                     have p383 : 0 ≤ (x8_3 : Int) := of_decide_eq_true (by first | (with_reducible assumption) )
                     have q383 : x8_3 < (l0_1.length : Int) := of_decide_eq_true (by first | (with_reducible assumption) )
                     obtain ⟨ad383, A383_1, c383_1, A383_2, c383_2, e383, hx383_0, hx383_1, hx383_2, hl383_1, hi383_1, hl383_2, hi383_2⟩ := at_T47 HR0_1.out x8_3 p383 q383
                     obtain rfl : ad382 = ad383 := (by injection e383)
                     replace hx383_0 := (HB.out.cell (World.block_lt_of_cell? w _ hx383_0)).trans hx383_0
                     replace hx383_1 := (HB.out.cell (World.block_lt_of_cell? w _ hx383_1)).trans hx383_1
                     replace hx383_2 := (HB.out.cell (World.block_lt_of_cell? w _ hx383_2)).trans hx383_2
                     have HR383_1 := Aside0.mk hi383_1
                     have HC383_1 := Aside0.mk hl383_1
                     clear hi383_1 hl383_1
                     have HR383_2 := Aside0.mk hi383_2
                     have HC383_2 := Aside0.mk hl383_2
                     clear hi383_2 hl383_2
                     replace p383 := eq_true p383
                     replace q383 := eq_true q383
                     have ea_ := Option.some.inj (hx382_1.symm.trans hx383_1)
                     injection ea_ with ea_ en_ ec_
                     subst ea_
                     subst ec_
                     clear en_
                     have ea_ := Option.some.inj (hx382_2.symm.trans hx383_2)
                     injection ea_ with ea_ en_ ec_
                     subst ea_
                     subst ec_
                     clear en_
                     go_wp2_with (first | (go_at_call 98; (with_reducible refine (ecdysisref15_Nums.calls k3 ((rd_T47 l0_1 x8_3).f0) _ _ ((rd_T47 l0_1 x8_3).f1) _ _ ((rd_T47 l0_1 x8_3).f2) t384 _ ?side1 ?side2 ?side3 ?side4 A88.out).mono ?_); (case side1 => repeat (first | exact (Kd.C_below HR383_1.out HB.out) )); (case side2 => exact HC383_1.out); (case side3 => repeat (first | exact (Kd.C_below HR383_2.out HB.out) )); (case side4 => exact HC383_2.out); rintro e w112 ⟨v385, rfl, ho0, hb⟩; have n0_ := Aside0.mk (Kd.R_below HO_4.out hb); have n1_ := Aside0.mk (Kd.R_lower ho0 (below_size HB.out)); have n2_ := Aside0.mk (blk_below BK344.out hb); have n3_ := Aside0.mk (below_step HB.out hb); clear HO_4; clear BK344; clear HB; have HO_4 := n0_; have HO386 := n1_; have BK344 := n2_; have HB := n3_; clear n0_ n1_ n2_ n3_; (try clear hb); (try clear hb2); (try clear hk); (try clear hi); (try clear ho0); obtain ⟨Ao113, co113, eo113⟩ := Kd.R_slice HO386.out; subst eo113) | (go_at_call 96; (with_reducible refine (ecdysisref15_Rises.calls k3 _ _ t384 false _ ?side1 ?side2 A89.out).mono ?_); (case side1 => repeat (first | exact (Kd.R_reads' HO386.out).2.2 )); (case side2 => exact (Kd.R_reads' HO386.out).2.1); rintro e w' ⟨rfl, ⟨nd, rfl⟩⟩))
                     go_roundg k3
                     case measure => have := HK1.out; have := HJ33.out; have := HK3.out; omega
                     case rel => exact ⟨(true), (x4_3), (wrap64 (x8_3 + 1)), (by first | rfl ), (by first | rfl ), H', ⟨by have := HK1.out; have := HJ33.out; have := HK3.out; omega⟩, ⟨by (with_reducible repeat (first | apply Kd.R_drewN )); exact HO_4.out⟩, ⟨by (with_reducible repeat (first | refine blk_drewN ?_ _ )); exact BK344.out⟩, ⟨by repeat (first | (with_reducible first | exact HB.out | apply pw_below_drewN ) )⟩⟩
               · rw [if_neg c85] at H
                 exact absurd H (by simp)
           · rw [if_neg c41] at H
             have c41b0 : decide (x8_3 < (l0_1.length : Int)) = false := decide_eq_false c41
             clear c41
             by_cases c114 : x3_3 = true
             · subst c114
               have H1 : (some true) = some r := by rw [if_pos rfl] at H; exact H
               clear H
               have H := H1
               clear H1
               obtain rfl := Option.some.inj H
               have hcz115_0 : wr.cell? ⟨gb344, 0, none⟩ = some (.slice A0_0 l0_0.length c0_0) := (blk_cell BK344.out 0).trans rfl
               have hcz115_1 : wr.cell? ⟨gb344, 1, none⟩ = some (.slice A0_1 l0_1.length c0_1) := (blk_cell BK344.out 1).trans rfl
               have hfz115_0 := blk_frozen BK344.out 0
               have hfz115_1 := blk_frozen BK344.out 1
               go_wp2
               go_ret
               exact ⟨by first | rfl , by exact HB.out⟩
             · replace c114 := Bool.eq_false_iff.mpr c114
               subst c114
               have H1 : ((ecdysisref09_Rise.f k3 x4_3).bind fun t368 => (some (!t368))) = some r := by rw [if_neg (show ¬ (false = true) by decide)] at H; exact H
               clear H
               have H := H1
               clear H1
               replace H := Option.bind_eq_some_iff.mp H
               obtain ⟨t368, A1160, H⟩ := H
               replace H : (some (!t368)) = some r := H
               have A116 := Aside0.mk A1160
               clear A1160
               obtain rfl := Option.some.inj H
               have hcz117_0 : wr.cell? ⟨gb344, 0, none⟩ = some (.slice A0_0 l0_0.length c0_0) := (blk_cell BK344.out 0).trans rfl
               have hcz117_1 : wr.cell? ⟨gb344, 1, none⟩ = some (.slice A0_1 l0_1.length c0_1) := (blk_cell BK344.out 1).trans rfl
               have hfz117_0 := blk_frozen BK344.out 0
               have hfz117_1 := blk_frozen BK344.out 1
               obtain ⟨Ao118, co118, eo118⟩ := Kd.R_slice HO_4.out
               subst eo118
               go_wp2_with (first | (go_at_call 97; (with_reducible refine (ecdysisref09_Rise.calls k3 _ _ x4_3 t368 _ ?side1 ?side2 A116.out).mono ?_); (case side1 => repeat (first | exact (Kd.R_reads' HO_4.out).2.2 )); (case side2 => exact (Kd.R_reads' HO_4.out).2.1); rintro e w' ⟨rfl, ⟨nd, rfl⟩⟩))
               go_ret
               exact ⟨by first | rfl , by repeat (first | (with_reducible first | exact HB.out | apply pw_below_drewN ) )⟩
end Go.Proofs.Ytbpnfpckoapdbaa.PF16
end
section
namespace Go.Proofs.Ytbpnfpckoapdbaa.PF16
open Go.RowKit Go.Proofs.Ytbpnfpckoapdbaa.M Go.Proofs.Ytbpnfpckoapdbaa.KD Go.Proofs.Ytbpnfpckoapdbaa Go.Proofs.YtbpnfpckoapdbaaW.PrintWords Go.Proofs.YtbpnfpckoapdbaaW.PrintLast Go.Proofs.YtbpnfpckoapdbaaW.PrintMore
attribute [local go_sem] max2_int min2_int max_two min_two max_three min_three max_four min_four   -- for this text's walks alone
set_option linter.unusedVariables false
set_option linter.unusedSimpArgs false
mutual
def ecdysisref15_barred.l0 : Nat → Int → List (S86) → List (S47) → Option (Bool)
 | 0, _, _, _ => none
 | k + 1, x3, x392000, x392001 => if x3 < (x392001.length : Int) then (ecdysisref15_barred.l1 k x3 0 x392000 x392001) else (some false)
def ecdysisref15_barred.l1 : Nat → Int → Int → List (S86) → List (S47) → Option (Bool)
 | 0, _, _, _, _ => none
 | k + 1, x3, x4, x392000, x392001 => if 0 ≤ x3 then (if x3 < (x392001.length : Int) then (if x4 < (((rd_T47 x392001 x3).f1).length : Int) then (if 0 ≤ x4 then ((ecdysisref15_Has.f k ((rd_T47 x392001 x3).f2) ((rd_T50 ((rd_T47 x392001 x3).f1) x4).f1)).bind fun t396 => (if t396 = true then (some true) else (ecdysisref15_barred.l1 k x3 (wrap64 (x4 + 1)) x392000 x392001))) else (none)) else (ecdysisref15_barred.l0 k (wrap64 (x3 + 1)) x392000 x392001)) else (none)) else (none)
end
def ecdysisref15_barred.f (k : Nat) (l0_0 : List (S86)) (l0_1 : List (S47)) : Option (Bool) := ecdysisref15_barred.l0 k 0 l0_0 l0_1
set_option maxHeartbeats 8000000 in
set_option maxRecDepth 100000 in
theorem ecdysisref15_barred.calls (k : Nat) (A0_0 : Option Addr) (c0_0 : Nat) (l0_0 : List (S86)) (A0_1 : Option Addr) (c0_1 : Nat) (l0_1 : List (S47)) (r : Bool) (w : World) (hr0_0 : Kd.C k86 w A0_0 l0_0.length l0_0) (hc0_0 : l0_0.length ≤ c0_0) (hr0_1 : Kd.C k47 w A0_1 l0_1.length l0_1) (hc0_1 : l0_1.length ≤ c0_1) (h : ecdysisref15_barred.f k l0_0 l0_1 = some r) :
  Calls Try.prog 69 #[.agg #[.slice A0_0 l0_0.length c0_0, .slice A0_1 l0_1.length c0_1]] w fun e w' => e = .returned (.bool r) ∧ Below w.heap.size w w' := by
 have hu35 := Try.underlying35
 have HR0_0 := Aside0.mk hr0_0
 have HC0_0 := Aside0.mk hc0_0
 clear hr0_0 hc0_0
 have HR0_1 := Aside0.mk hr0_1
 have HC0_1 := Aside0.mk hc0_1
 clear hr0_1 hc0_1
 have HB := Aside0.mk (Below.refl w.heap.size w)
 have H : (ecdysisref15_barred.l0 k 0 l0_0 l0_1) = some r := h
 clear h
 have H' := Aside0.mk H
 clear H
 go_enter Try.func69, Try.ntmps69
 go_wp2_with (first | ((with_reducible refine gate_dst (N := 1) rfl ?_); refine box_event ?hg (N := 1) ?hd (cs := #[.slice A0_0 l0_0.length c0_0, .slice A0_1 l0_1.length c0_1]) (t := 35) ?hr ?_; (case hd => rfl); (case hg => rfl); (case hr => first | (go_simp; done) | (go_simp; rfl)); intro gb391 hg w2 hbox hb; have n0_ := Aside0.mk (below_step HB.out hb); have n1_ := Aside0.mk (hbox); clear HB; have HB := n0_; have BK391 := n1_; clear n0_ n1_; clear hb hbox hg))
 repeat (go_quiet (first | ((with_reducible refine gate_dst (N := 1) rfl ?_); refine box_event ?hg (N := 1) ?hd (cs := #[.slice A0_0 l0_0.length c0_0, .slice A0_1 l0_1.length c0_1]) (t := 35) ?hr ?_; (case hd => rfl); (case hg => rfl); (case hr => first | (go_simp; done) | (go_simp; rfl)); intro gb391 hg w2 hbox hb; have n0_ := Aside0.mk (below_step (by repeat (first | exact HB.out )) hb); have n1_ := Aside0.mk (hbox); clear HB; have HB := n0_; have BK391 := n1_; clear n0_ n1_; clear hb hbox hg)); try go_wp2_with (first | ((with_reducible refine gate_dst (N := 1) rfl ?_); refine box_event ?hg (N := 1) ?hd (cs := #[.slice A0_0 l0_0.length c0_0, .slice A0_1 l0_1.length c0_1]) (t := 35) ?hr ?_; (case hd => rfl); (case hg => rfl); (case hr => first | (go_simp; done) | (go_simp; rfl)); intro gb391 hg w2 hbox hb; have n0_ := Aside0.mk (below_step (by repeat (first | exact HB.out )) hb); have n1_ := Aside0.mk (hbox); clear HB; have HB := n0_; have BK391 := n1_; clear n0_ n1_; clear hb hbox hg)))
 go_loopg [3] k (fun kq v3 w' => ∃ (x3_1 : Int), v3 = .int .i64 x3_1 ∧ Aside0 (ecdysisref15_barred.l0 kq x3_1 l0_0 l0_1 = some r) ∧ Aside0 (kq ≤ k) ∧ Aside0 (w'.heap[gb391]? = some (.cells #[(.slice A0_0 l0_0.length c0_0), (.slice A0_1 l0_1.length c0_1)] 35 (0, 0))) ∧ Aside0 (Below w.heap.size w w'))
 case atStart => exact ⟨(0), (by first | rfl ), H', ⟨Nat.le_refl _⟩, ⟨by exact BK391.out⟩, ⟨by exact HB.out⟩⟩
 case round =>
  clear H'
  try clear p2
  obtain ⟨x3_1, rfl, HA, HK1, BK391, HB⟩ := hrel
  cases gk with
  | zero => exact absurd HA.out (by simp [ecdysisref15_barred.l0])
  | succ k1 =>
   have H := HA.out
   clear HA
   simp only [ecdysisref15_barred.l0] at H
   by_cases c3 : x3_1 < (l0_1.length : Int)
   · rw [if_pos c3] at H
     have c3b0 : decide (x3_1 < (l0_1.length : Int)) = true := decide_eq_true c3
     clear c3
     have H' := Aside0.mk H
     clear H
     have hcz4_0 : wr.cell? ⟨gb391, 0, none⟩ = some (.slice A0_0 l0_0.length c0_0) := (blk_cell BK391.out 0).trans rfl
     have hcz4_1 : wr.cell? ⟨gb391, 1, none⟩ = some (.slice A0_1 l0_1.length c0_1) := (blk_cell BK391.out 1).trans rfl
     have hfz4_0 := blk_frozen BK391.out 0
     have hfz4_1 := blk_frozen BK391.out 1
     go_wp2
     repeat (go_quiet (fail); try go_wp2)
     go_loopg [4] k1 (fun kq v4 w' => ∃ (x4_2 : Int), v4 = .int .i64 x4_2 ∧ Aside0 (ecdysisref15_barred.l1 kq x3_1 x4_2 l0_0 l0_1 = some r) ∧ Aside0 (kq ≤ k1) ∧ Aside0 (w'.heap[gb391]? = some (.cells #[(.slice A0_0 l0_0.length c0_0), (.slice A0_1 l0_1.length c0_1)] 35 (0, 0))) ∧ Aside0 (Below w.heap.size w w'))
     case atStart => exact ⟨(0), (by first | rfl ), H', ⟨Nat.le_refl _⟩, ⟨by exact BK391.out⟩, ⟨by exact HB.out⟩⟩
     case round =>
      clear H'
      try clear p2
      try clear c3
      try clear c3b0
      try clear hcz4_0
      try clear hcz4_1
      try clear hfz4_0
      try clear hfz4_1
      try clear p2
      obtain ⟨x4_2, rfl, HA, HK2, BK391, HB⟩ := hrel
      cases gk with
      | zero => exact absurd HA.out (by simp [ecdysisref15_barred.l1])
      | succ k2 =>
       have H := HA.out
       clear HA
       simp only [ecdysisref15_barred.l1] at H
       by_cases c5 : 0 ≤ x3_1
       · rw [if_pos c5] at H
         have c5b0 : decide (0 ≤ x3_1) = true := decide_eq_true c5
         clear c5
         by_cases c6 : x3_1 < (l0_1.length : Int)
         · rw [if_pos c6] at H
           have c6b0 : decide (x3_1 < (l0_1.length : Int)) = true := decide_eq_true c6
           clear c6
           by_cases c7 : x4_2 < (((rd_T47 l0_1 x3_1).f1).length : Int)
           · rw [if_pos c7] at H
             have c7b0 : decide (x4_2 < (((rd_T47 l0_1 x3_1).f1).length : Int)) = true := decide_eq_true c7
             clear c7
             by_cases c8 : 0 ≤ x4_2
             · rw [if_pos c8] at H
               have c8b0 : decide (0 ≤ x4_2) = true := decide_eq_true c8
               clear c8
               replace H := Option.bind_eq_some_iff.mp H
               obtain ⟨t396, A90, H⟩ := H
               replace H : (if t396 = true then (some true) else (ecdysisref15_barred.l1 k2 x3_1 (wrap64 (x4_2 + 1)) l0_0 l0_1)) = some r := H
               have A9 := Aside0.mk A90
               clear A90
               by_cases c10 : t396 = true
               · subst c10
                 have H1 : (some true) = some r := by rw [if_pos rfl] at H; exact H
                 clear H
                 have H := H1
                 clear H1
                 obtain rfl := Option.some.inj H
                 have hcz11_0 : wr.cell? ⟨gb391, 0, none⟩ = some (.slice A0_0 l0_0.length c0_0) := (blk_cell BK391.out 0).trans rfl
                 have hcz11_1 : wr.cell? ⟨gb391, 1, none⟩ = some (.slice A0_1 l0_1.length c0_1) := (blk_cell BK391.out 1).trans rfl
                 have hfz11_0 := blk_frozen BK391.out 0
                 have hfz11_1 := blk_frozen BK391.out 1
                 have p392 : 0 ≤ (x3_1 : Int) := of_decide_eq_true (by first | (with_reducible assumption) )
                 have q392 : x3_1 < (l0_1.length : Int) := of_decide_eq_true (by first | (with_reducible assumption) )
                 obtain ⟨ad392, A392_1, c392_1, A392_2, c392_2, e392, hx392_0, hx392_1, hx392_2, hl392_1, hi392_1, hl392_2, hi392_2⟩ := at_T47 HR0_1.out x3_1 p392 q392
                 cases e392
                 replace hx392_0 := (HB.out.cell (World.block_lt_of_cell? w _ hx392_0)).trans hx392_0
                 replace hx392_1 := (HB.out.cell (World.block_lt_of_cell? w _ hx392_1)).trans hx392_1
                 replace hx392_2 := (HB.out.cell (World.block_lt_of_cell? w _ hx392_2)).trans hx392_2
                 have HR392_1 := Aside0.mk hi392_1
                 have HC392_1 := Aside0.mk hl392_1
                 clear hi392_1 hl392_1
                 have HR392_2 := Aside0.mk hi392_2
                 have HC392_2 := Aside0.mk hl392_2
                 clear hi392_2 hl392_2
                 replace p392 := eq_true p392
                 replace q392 := eq_true q392
                 have p393 : 0 ≤ (x3_1 : Int) := of_decide_eq_true (by first | (with_reducible assumption) )
                 have q393 : x3_1 < (l0_1.length : Int) := of_decide_eq_true (by first | (with_reducible assumption) )
                 obtain ⟨ad393, A393_1, c393_1, A393_2, c393_2, e393, hx393_0, hx393_1, hx393_2, hl393_1, hi393_1, hl393_2, hi393_2⟩ := at_T47 HR0_1.out x3_1 p393 q393
                 obtain rfl : ad392 = ad393 := (by injection e393)
                 replace hx393_0 := (HB.out.cell (World.block_lt_of_cell? w _ hx393_0)).trans hx393_0
                 replace hx393_1 := (HB.out.cell (World.block_lt_of_cell? w _ hx393_1)).trans hx393_1
                 replace hx393_2 := (HB.out.cell (World.block_lt_of_cell? w _ hx393_2)).trans hx393_2
                 have HR393_1 := Aside0.mk hi393_1
                 have HC393_1 := Aside0.mk hl393_1
                 clear hi393_1 hl393_1
                 have HR393_2 := Aside0.mk hi393_2
                 have HC393_2 := Aside0.mk hl393_2
                 clear hi393_2 hl393_2
                 replace p393 := eq_true p393
                 replace q393 := eq_true q393
                 have ea_ := Option.some.inj (hx392_1.symm.trans hx393_1)
                 injection ea_ with ea_ en_ ec_
                 subst ea_
                 subst ec_
                 clear en_
                 have ea_ := Option.some.inj (hx392_2.symm.trans hx393_2)
                 injection ea_ with ea_ en_ ec_
                 subst ea_
                 subst ec_
                 clear en_
                 have p394 : 0 ≤ (x3_1 : Int) := of_decide_eq_true (by first | (with_reducible assumption) )
                 have q394 : x3_1 < (l0_1.length : Int) := of_decide_eq_true (by first | (with_reducible assumption) )
                 obtain ⟨ad394, A394_1, c394_1, A394_2, c394_2, e394, hx394_0, hx394_1, hx394_2, hl394_1, hi394_1, hl394_2, hi394_2⟩ := at_T47 HR0_1.out x3_1 p394 q394
                 obtain rfl : ad392 = ad394 := (by injection e394)
                 replace hx394_0 := (HB.out.cell (World.block_lt_of_cell? w _ hx394_0)).trans hx394_0
                 replace hx394_1 := (HB.out.cell (World.block_lt_of_cell? w _ hx394_1)).trans hx394_1
                 replace hx394_2 := (HB.out.cell (World.block_lt_of_cell? w _ hx394_2)).trans hx394_2
                 have HR394_1 := Aside0.mk hi394_1
                 have HC394_1 := Aside0.mk hl394_1
                 clear hi394_1 hl394_1
                 have HR394_2 := Aside0.mk hi394_2
                 have HC394_2 := Aside0.mk hl394_2
                 clear hi394_2 hl394_2
                 replace p394 := eq_true p394
                 replace q394 := eq_true q394
                 have ea_ := Option.some.inj (hx392_1.symm.trans hx394_1)
                 injection ea_ with ea_ en_ ec_
                 subst ea_
                 subst ec_
                 clear en_
                 have ea_ := Option.some.inj (hx392_2.symm.trans hx394_2)
                 injection ea_ with ea_ en_ ec_
                 subst ea_
                 subst ec_
                 clear en_
                 have p395 : 0 ≤ (x4_2 : Int) := of_decide_eq_true (by first | (with_reducible assumption) )
                 have q395 : x4_2 < (((rd_T47 l0_1 x3_1).f1).length : Int) := of_decide_eq_true (by first | (with_reducible assumption) )
                 obtain ⟨ad395, e395, hx395_0, hx395_1, hx395_2, hx395_3, hx395_4, hx395_5, hx395_6⟩ := at_T50 HR394_1.out x4_2 p395 q395
                 cases e395
                 replace hx395_0 := (HB.out.cell (World.block_lt_of_cell? w _ hx395_0)).trans hx395_0
                 replace hx395_1 := (HB.out.cell (World.block_lt_of_cell? w _ hx395_1)).trans hx395_1
                 replace hx395_2 := (HB.out.cell (World.block_lt_of_cell? w _ hx395_2)).trans hx395_2
                 replace hx395_3 := (HB.out.cell (World.block_lt_of_cell? w _ hx395_3)).trans hx395_3
                 replace hx395_4 := (HB.out.cell (World.block_lt_of_cell? w _ hx395_4)).trans hx395_4
                 replace hx395_5 := (HB.out.cell (World.block_lt_of_cell? w _ hx395_5)).trans hx395_5
                 replace hx395_6 := (HB.out.cell (World.block_lt_of_cell? w _ hx395_6)).trans hx395_6
                 replace p395 := eq_true p395
                 replace q395 := eq_true q395
                 go_wp2_with (first | (go_at_call 82; (with_reducible refine (ecdysisref15_Has.calls k2 _ _ ((rd_T47 l0_1 x3_1).f2) ((rd_T50 ((rd_T47 l0_1 x3_1).f1) x4_2).f1) true _ ?side1 ?side2 A9.out).mono ?_); (case side1 => repeat (first | (with_reducible refine Kd.C_drew ?_) )); (case side2 => exact HC393_2.out); rintro e w' ⟨rfl, ⟨nd, rfl⟩⟩; (try first | exact ⟨rfl, _, World.drewN_drewN _ _ _⟩ )))
                 repeat (go_quiet (first | (go_at_call 82; (with_reducible refine (ecdysisref15_Has.calls k2 _ _ ((rd_T47 l0_1 x3_1).f2) ((rd_T50 ((rd_T47 l0_1 x3_1).f1) x4_2).f1) true _ ?side1 ?side2 A9.out).mono ?_); (case side1 => repeat (first | exact (Kd.C_below HR393_2.out HB.out) | (with_reducible refine Kd.C_drewN ?_ _) )); (case side2 => exact HC393_2.out); rintro e w' ⟨rfl, ⟨nd, rfl⟩⟩; (try first | exact ⟨rfl, _, World.drewN_drewN _ _ _⟩ ))); try go_wp2_with (first | (go_at_call 82; (with_reducible refine (ecdysisref15_Has.calls k2 _ _ ((rd_T47 l0_1 x3_1).f2) ((rd_T50 ((rd_T47 l0_1 x3_1).f1) x4_2).f1) true _ ?side1 ?side2 A9.out).mono ?_); (case side1 => repeat (first | (with_reducible refine Kd.C_drew ?_) )); (case side2 => exact HC393_2.out); rintro e w' ⟨rfl, ⟨nd, rfl⟩⟩; (try first | exact ⟨rfl, _, World.drewN_drewN _ _ _⟩ ))))
                 go_ret
                 exact ⟨by first | rfl , by repeat (first | (with_reducible first | exact HB.out | apply pw_below_drewN ) )⟩
               · replace c10 := Bool.eq_false_iff.mpr c10
                 subst c10
                 have H1 : (ecdysisref15_barred.l1 k2 x3_1 (wrap64 (x4_2 + 1)) l0_0 l0_1) = some r := by rw [if_neg (show ¬ (false = true) by decide)] at H; exact H
                 clear H
                 have H := H1
                 clear H1
                 have H' := Aside0.mk H
                 clear H
                 have hcz12_0 : wr.cell? ⟨gb391, 0, none⟩ = some (.slice A0_0 l0_0.length c0_0) := (blk_cell BK391.out 0).trans rfl
                 have hcz12_1 : wr.cell? ⟨gb391, 1, none⟩ = some (.slice A0_1 l0_1.length c0_1) := (blk_cell BK391.out 1).trans rfl
                 have hfz12_0 := blk_frozen BK391.out 0
                 have hfz12_1 := blk_frozen BK391.out 1
                 have p392 : 0 ≤ (x3_1 : Int) := of_decide_eq_true (by first | (with_reducible assumption) )
                 have q392 : x3_1 < (l0_1.length : Int) := of_decide_eq_true (by first | (with_reducible assumption) )
                 obtain ⟨ad392, A392_1, c392_1, A392_2, c392_2, e392, hx392_0, hx392_1, hx392_2, hl392_1, hi392_1, hl392_2, hi392_2⟩ := at_T47 HR0_1.out x3_1 p392 q392
                 cases e392
                 replace hx392_0 := (HB.out.cell (World.block_lt_of_cell? w _ hx392_0)).trans hx392_0
                 replace hx392_1 := (HB.out.cell (World.block_lt_of_cell? w _ hx392_1)).trans hx392_1
                 replace hx392_2 := (HB.out.cell (World.block_lt_of_cell? w _ hx392_2)).trans hx392_2
                 have HR392_1 := Aside0.mk hi392_1
                 have HC392_1 := Aside0.mk hl392_1
                 clear hi392_1 hl392_1
                 have HR392_2 := Aside0.mk hi392_2
                 have HC392_2 := Aside0.mk hl392_2
                 clear hi392_2 hl392_2
                 replace p392 := eq_true p392
                 replace q392 := eq_true q392
                 have p393 : 0 ≤ (x3_1 : Int) := of_decide_eq_true (by first | (with_reducible assumption) )
                 have q393 : x3_1 < (l0_1.length : Int) := of_decide_eq_true (by first | (with_reducible assumption) )
                 obtain ⟨ad393, A393_1, c393_1, A393_2, c393_2, e393, hx393_0, hx393_1, hx393_2, hl393_1, hi393_1, hl393_2, hi393_2⟩ := at_T47 HR0_1.out x3_1 p393 q393
                 obtain rfl : ad392 = ad393 := (by injection e393)
                 replace hx393_0 := (HB.out.cell (World.block_lt_of_cell? w _ hx393_0)).trans hx393_0
                 replace hx393_1 := (HB.out.cell (World.block_lt_of_cell? w _ hx393_1)).trans hx393_1
                 replace hx393_2 := (HB.out.cell (World.block_lt_of_cell? w _ hx393_2)).trans hx393_2
                 have HR393_1 := Aside0.mk hi393_1
                 have HC393_1 := Aside0.mk hl393_1
                 clear hi393_1 hl393_1
                 have HR393_2 := Aside0.mk hi393_2
                 have HC393_2 := Aside0.mk hl393_2
                 clear hi393_2 hl393_2
                 replace p393 := eq_true p393
                 replace q393 := eq_true q393
                 have ea_ := Option.some.inj (hx392_1.symm.trans hx393_1)
                 injection ea_ with ea_ en_ ec_
                 subst ea_
                 subst ec_
                 clear en_
                 have ea_ := Option.some.inj (hx392_2.symm.trans hx393_2)
                 injection ea_ with ea_ en_ ec_
                 subst ea_
                 subst ec_
                 clear en_
                 have p394 : 0 ≤ (x3_1 : Int) := of_decide_eq_true (by first | (with_reducible assumption) )
                 have q394 : x3_1 < (l0_1.length : Int) := of_decide_eq_true (by first | (with_reducible assumption) )
                 obtain ⟨ad394, A394_1, c394_1, A394_2, c394_2, e394, hx394_0, hx394_1, hx394_2, hl394_1, hi394_1, hl394_2, hi394_2⟩ := at_T47 HR0_1.out x3_1 p394 q394
                 obtain rfl : ad392 = ad394 := (by injection e394)
                 replace hx394_0 := (HB.out.cell (World.block_lt_of_cell? w _ hx394_0)).trans hx394_0
                 replace hx394_1 := (HB.out.cell (World.block_lt_of_cell? w _ hx394_1)).trans hx394_1
                 replace hx394_2 := (HB.out.cell (World.block_lt_of_cell? w _ hx394_2)).trans hx394_2
                 have HR394_1 := Aside0.mk hi394_1
                 have HC394_1 := Aside0.mk hl394_1
                 clear hi394_1 hl394_1
                 have HR394_2 := Aside0.mk hi394_2
                 have HC394_2 := Aside0.mk hl394_2
                 clear hi394_2 hl394_2
                 replace p394 := eq_true p394
                 replace q394 := eq_true q394
                 have ea_ := Option.some.inj (hx392_1.symm.trans hx394_1)
                 injection ea_ with ea_ en_ ec_
                 subst ea_
                 subst ec_
                 clear en_
                 have ea_ := Option.some.inj (hx392_2.symm.trans hx394_2)
                 injection ea_ with ea_ en_ ec_
                 subst ea_
                 subst ec_
                 clear en_
                 have p395 : 0 ≤ (x4_2 : Int) := of_decide_eq_true (by first | (with_reducible assumption) )
                 have q395 : x4_2 < (((rd_T47 l0_1 x3_1).f1).length : Int) := of_decide_eq_true (by first | (with_reducible assumption) )
                 obtain ⟨ad395, e395, hx395_0, hx395_1, hx395_2, hx395_3, hx395_4, hx395_5, hx395_6⟩ := at_T50 HR394_1.out x4_2 p395 q395
                 cases e395
                 replace hx395_0 := (HB.out.cell (World.block_lt_of_cell? w _ hx395_0)).trans hx395_0
                 replace hx395_1 := (HB.out.cell (World.block_lt_of_cell? w _ hx395_1)).trans hx395_1
                 replace hx395_2 := (HB.out.cell (World.block_lt_of_cell? w _ hx395_2)).trans hx395_2
                 replace hx395_3 := (HB.out.cell (World.block_lt_of_cell? w _ hx395_3)).trans hx395_3
                 replace hx395_4 := (HB.out.cell (World.block_lt_of_cell? w _ hx395_4)).trans hx395_4
                 replace hx395_5 := (HB.out.cell (World.block_lt_of_cell? w _ hx395_5)).trans hx395_5
                 replace hx395_6 := (HB.out.cell (World.block_lt_of_cell? w _ hx395_6)).trans hx395_6
                 replace p395 := eq_true p395
                 replace q395 := eq_true q395
                 go_wp2_with (first | (go_at_call 82; (with_reducible refine (ecdysisref15_Has.calls k2 _ _ ((rd_T47 l0_1 x3_1).f2) ((rd_T50 ((rd_T47 l0_1 x3_1).f1) x4_2).f1) false _ ?side1 ?side2 A9.out).mono ?_); (case side1 => repeat (first | (with_reducible refine Kd.C_drew ?_) )); (case side2 => exact HC393_2.out); rintro e w' ⟨rfl, ⟨nd, rfl⟩⟩; (try first | exact ⟨rfl, _, World.drewN_drewN _ _ _⟩ )))
                 repeat (go_quiet (first | (go_at_call 82; (with_reducible refine (ecdysisref15_Has.calls k2 _ _ ((rd_T47 l0_1 x3_1).f2) ((rd_T50 ((rd_T47 l0_1 x3_1).f1) x4_2).f1) false _ ?side1 ?side2 A9.out).mono ?_); (case side1 => repeat (first | exact (Kd.C_below HR393_2.out HB.out) | (with_reducible refine Kd.C_drewN ?_ _) )); (case side2 => exact HC393_2.out); rintro e w' ⟨rfl, ⟨nd, rfl⟩⟩; (try first | exact ⟨rfl, _, World.drewN_drewN _ _ _⟩ ))); try go_wp2_with (first | (go_at_call 82; (with_reducible refine (ecdysisref15_Has.calls k2 _ _ ((rd_T47 l0_1 x3_1).f2) ((rd_T50 ((rd_T47 l0_1 x3_1).f1) x4_2).f1) false _ ?side1 ?side2 A9.out).mono ?_); (case side1 => repeat (first | (with_reducible refine Kd.C_drew ?_) )); (case side2 => exact HC393_2.out); rintro e w' ⟨rfl, ⟨nd, rfl⟩⟩; (try first | exact ⟨rfl, _, World.drewN_drewN _ _ _⟩ ))))
                 go_roundg k2
                 case measure => have := HK1.out; have := HK2.out; omega
                 case rel => exact ⟨(wrap64 (x4_2 + 1)), (by first | rfl ), H', ⟨by have := HK1.out; have := HK2.out; omega⟩, ⟨by (with_reducible repeat (first | refine blk_drewN ?_ _ )); exact BK391.out⟩, ⟨by repeat (first | (with_reducible first | exact HB.out | apply pw_below_drewN ) )⟩⟩
             · rw [if_neg c8] at H
               exact absurd H (by simp)
           · rw [if_neg c7] at H
             have c7b0 : decide (x4_2 < (((rd_T47 l0_1 x3_1).f1).length : Int)) = false := decide_eq_false c7
             clear c7
             have H' := Aside0.mk H
             clear H
             have hcz13_0 : wr.cell? ⟨gb391, 0, none⟩ = some (.slice A0_0 l0_0.length c0_0) := (blk_cell BK391.out 0).trans rfl
             have hcz13_1 : wr.cell? ⟨gb391, 1, none⟩ = some (.slice A0_1 l0_1.length c0_1) := (blk_cell BK391.out 1).trans rfl
             have hfz13_0 := blk_frozen BK391.out 0
             have hfz13_1 := blk_frozen BK391.out 1
             have p392 : 0 ≤ (x3_1 : Int) := of_decide_eq_true (by first | (with_reducible assumption) )
             have q392 : x3_1 < (l0_1.length : Int) := of_decide_eq_true (by first | (with_reducible assumption) )
             obtain ⟨ad392, A392_1, c392_1, A392_2, c392_2, e392, hx392_0, hx392_1, hx392_2, hl392_1, hi392_1, hl392_2, hi392_2⟩ := at_T47 HR0_1.out x3_1 p392 q392
             cases e392
             replace hx392_0 := (HB.out.cell (World.block_lt_of_cell? w _ hx392_0)).trans hx392_0
             replace hx392_1 := (HB.out.cell (World.block_lt_of_cell? w _ hx392_1)).trans hx392_1
             replace hx392_2 := (HB.out.cell (World.block_lt_of_cell? w _ hx392_2)).trans hx392_2
             have HR392_1 := Aside0.mk hi392_1
             have HC392_1 := Aside0.mk hl392_1
             clear hi392_1 hl392_1
             have HR392_2 := Aside0.mk hi392_2
             have HC392_2 := Aside0.mk hl392_2
             clear hi392_2 hl392_2
             replace p392 := eq_true p392
             replace q392 := eq_true q392
             go_wp2
             repeat (go_quiet (fail); try go_wp2)
             go_roundg k2
             case measure => have := HK1.out; have := HK2.out; omega
             case rel => exact ⟨(wrap64 (x3_1 + 1)), (by first | rfl ), H', ⟨by have := HK1.out; have := HK2.out; omega⟩, ⟨by exact BK391.out⟩, ⟨by exact HB.out⟩⟩
         · rw [if_neg c6] at H
           exact absurd H (by simp)
       · rw [if_neg c5] at H
         exact absurd H (by simp)
   · rw [if_neg c3] at H
     have c3b0 : decide (x3_1 < (l0_1.length : Int)) = false := decide_eq_false c3
     clear c3
     obtain rfl := Option.some.inj H
     have hcz14_0 : wr.cell? ⟨gb391, 0, none⟩ = some (.slice A0_0 l0_0.length c0_0) := (blk_cell BK391.out 0).trans rfl
     have hcz14_1 : wr.cell? ⟨gb391, 1, none⟩ = some (.slice A0_1 l0_1.length c0_1) := (blk_cell BK391.out 1).trans rfl
     have hfz14_0 := blk_frozen BK391.out 0
     have hfz14_1 := blk_frozen BK391.out 1
     go_wp2
     repeat (go_quiet (fail); try go_wp2)
     go_ret
     exact ⟨by first | rfl , by exact HB.out⟩
end Go.Proofs.Ytbpnfpckoapdbaa.PF16
end
section
namespace Go.Proofs.Ytbpnfpckoapdbaa.PF16
open Go.RowKit Go.Proofs.Ytbpnfpckoapdbaa.M Go.Proofs.Ytbpnfpckoapdbaa.KD Go.Proofs.Ytbpnfpckoapdbaa Go.Proofs.YtbpnfpckoapdbaaW.PrintWords Go.Proofs.YtbpnfpckoapdbaaW.PrintLast Go.Proofs.YtbpnfpckoapdbaaW.PrintMore
attribute [local go_sem] max2_int min2_int max_two min_two max_three min_three max_four min_four   -- for this text's walks alone
set_option linter.unusedVariables false
set_option linter.unusedSimpArgs false
mutual
def ecdysisref15_refs.l0 : Nat → Int → List (S86) → List (S47) → Option (Bool)
 | 0, _, _, _ => none
 | k + 1, x3, x398000, x398001 => if x3 < (x398001.length : Int) then (ecdysisref15_refs.l1 k x3 0 x398000 x398001) else (some false)
def ecdysisref15_refs.l1 : Nat → Int → Int → List (S86) → List (S47) → Option (Bool)
 | 0, _, _, _, _ => none
 | k + 1, x3, x4, x398000, x398001 => if 0 ≤ x3 then (if x3 < (x398001.length : Int) then (if x4 < (((rd_T47 x398001 x3).f1).length : Int) then (if 0 ≤ x4 then (if ((rd_T50 ((rd_T47 x398001 x3).f1) x4).f2) = 14 then ((ecdysisref15_Enum.f k x398000 x398001 ((rd_T50 ((rd_T47 x398001 x3).f1) x4).f3)).bind fun t402 => (if t402 < 0 then (some true) else (if ((rd_T50 ((rd_T47 x398001 x3).f1) x4).f2) = 15 then ((ecdysisref15_Message.f k x398000 x398001 ((rd_T50 ((rd_T47 x398001 x3).f1) x4).f3)).bind fun t403 => (if t403 < 0 then (some true) else (ecdysisref15_refs.l1 k x3 (wrap64 (x4 + 1)) x398000 x398001))) else (ecdysisref15_refs.l1 k x3 (wrap64 (x4 + 1)) x398000 x398001)))) else (if ((rd_T50 ((rd_T47 x398001 x3).f1) x4).f2) = 15 then ((ecdysisref15_Message.f k x398000 x398001 ((rd_T50 ((rd_T47 x398001 x3).f1) x4).f3)).bind fun t404 => (if t404 < 0 then (some true) else (ecdysisref15_refs.l1 k x3 (wrap64 (x4 + 1)) x398000 x398001))) else (ecdysisref15_refs.l1 k x3 (wrap64 (x4 + 1)) x398000 x398001))) else (none)) else (ecdysisref15_refs.l0 k (wrap64 (x3 + 1)) x398000 x398001)) else (none)) else (none)
end
def ecdysisref15_refs.f (k : Nat) (l0_0 : List (S86)) (l0_1 : List (S47)) : Option (Bool) := ecdysisref15_refs.l0 k 0 l0_0 l0_1
set_option maxHeartbeats 8000000 in
set_option maxRecDepth 100000 in
theorem ecdysisref15_refs.calls (k : Nat) (A0_0 : Option Addr) (c0_0 : Nat) (l0_0 : List (S86)) (A0_1 : Option Addr) (c0_1 : Nat) (l0_1 : List (S47)) (r : Bool) (w : World) (hr0_0 : Kd.C k86 w A0_0 l0_0.length l0_0) (hc0_0 : l0_0.length ≤ c0_0) (hr0_1 : Kd.C k47 w A0_1 l0_1.length l0_1) (hc0_1 : l0_1.length ≤ c0_1) (h : ecdysisref15_refs.f k l0_0 l0_1 = some r) :
  Calls Try.prog 70 #[.agg #[.slice A0_0 l0_0.length c0_0, .slice A0_1 l0_1.length c0_1]] w fun e w' => e = .returned (.bool r) ∧ Below w.heap.size w w' := by
 have hu35 := Try.underlying35
 have hu50 := Try.underlying50
 have HR0_0 := Aside0.mk hr0_0
 have HC0_0 := Aside0.mk hc0_0
 clear hr0_0 hc0_0
 have HR0_1 := Aside0.mk hr0_1
 have HC0_1 := Aside0.mk hc0_1
 clear hr0_1 hc0_1
 have HB := Aside0.mk (Below.refl w.heap.size w)
 have H : (ecdysisref15_refs.l0 k 0 l0_0 l0_1) = some r := h
 clear h
 have H' := Aside0.mk H
 clear H
 go_enter Try.func70, Try.ntmps70
 go_wp2_with (first | ((with_reducible refine gate_dst (N := 1) rfl ?_); refine box_event ?hg (N := 1) ?hd (cs := #[.slice A0_0 l0_0.length c0_0, .slice A0_1 l0_1.length c0_1]) (t := 35) ?hr ?_; (case hd => rfl); (case hg => rfl); (case hr => first | (go_simp; done) | (go_simp; rfl)); intro gb397 hg w2 hbox hb; have n0_ := Aside0.mk (below_step HB.out hb); have n1_ := Aside0.mk (hbox); clear HB; have HB := n0_; have BK397 := n1_; clear n0_ n1_; clear hb hbox hg))
 go_loopg [3] k (fun kq v3 w' => ∃ (x3_1 : Int), v3 = .int .i64 x3_1 ∧ Aside0 (ecdysisref15_refs.l0 kq x3_1 l0_0 l0_1 = some r) ∧ Aside0 (kq ≤ k) ∧ Aside0 (w'.heap[gb397]? = some (.cells #[(.slice A0_0 l0_0.length c0_0), (.slice A0_1 l0_1.length c0_1)] 35 (0, 0))) ∧ Aside0 (Below w.heap.size w w'))
 case atStart => exact ⟨(0), (by first | rfl ), H', ⟨Nat.le_refl _⟩, ⟨by exact BK397.out⟩, ⟨by exact HB.out⟩⟩
 case round =>
  clear H'
  try clear p2
  obtain ⟨x3_1, rfl, HA, HK1, BK397, HB⟩ := hrel
  cases gk with
  | zero => exact absurd HA.out (by simp [ecdysisref15_refs.l0])
  | succ k1 =>
   have H := HA.out
   clear HA
   simp only [ecdysisref15_refs.l0] at H
   by_cases c3 : x3_1 < (l0_1.length : Int)
   · rw [if_pos c3] at H
     have c3b0 : decide (x3_1 < (l0_1.length : Int)) = true := decide_eq_true c3
     clear c3
     have H' := Aside0.mk H
     clear H
     have hcz4_0 : wr.cell? ⟨gb397, 0, none⟩ = some (.slice A0_0 l0_0.length c0_0) := (blk_cell BK397.out 0).trans rfl
     have hcz4_1 : wr.cell? ⟨gb397, 1, none⟩ = some (.slice A0_1 l0_1.length c0_1) := (blk_cell BK397.out 1).trans rfl
     have hfz4_0 := blk_frozen BK397.out 0
     have hfz4_1 := blk_frozen BK397.out 1
     go_wp2
     go_loopg [4] k1 (fun kq v4 w' => ∃ (x4_2 : Int), v4 = .int .i64 x4_2 ∧ Aside0 (ecdysisref15_refs.l1 kq x3_1 x4_2 l0_0 l0_1 = some r) ∧ Aside0 (kq ≤ k1) ∧ Aside0 (w'.heap[gb397]? = some (.cells #[(.slice A0_0 l0_0.length c0_0), (.slice A0_1 l0_1.length c0_1)] 35 (0, 0))) ∧ Aside0 (Below w.heap.size w w'))
     case atStart => exact ⟨(0), (by first | rfl ), H', ⟨Nat.le_refl _⟩, ⟨by exact BK397.out⟩, ⟨by exact HB.out⟩⟩
     case round =>
      clear H'
      try clear p2
      try clear c3
      try clear c3b0
      try clear hcz4_0
      try clear hcz4_1
      try clear hfz4_0
      try clear hfz4_1
      try clear p2
      obtain ⟨x4_2, rfl, HA, HK2, BK397, HB⟩ := hrel
      cases gk with
      | zero => exact absurd HA.out (by simp [ecdysisref15_refs.l1])
      | succ k2 =>
       have H := HA.out
       clear HA
       simp only [ecdysisref15_refs.l1] at H
       by_cases c5 : 0 ≤ x3_1
       · rw [if_pos c5] at H
         have c5b0 : decide (0 ≤ x3_1) = true := decide_eq_true c5
         clear c5
         by_cases c6 : x3_1 < (l0_1.length : Int)
         · rw [if_pos c6] at H
           have c6b0 : decide (x3_1 < (l0_1.length : Int)) = true := decide_eq_true c6
           clear c6
           by_cases c7 : x4_2 < (((rd_T47 l0_1 x3_1).f1).length : Int)
           · rw [if_pos c7] at H
             have c7b0 : decide (x4_2 < (((rd_T47 l0_1 x3_1).f1).length : Int)) = true := decide_eq_true c7
             clear c7
             by_cases c8 : 0 ≤ x4_2
             · rw [if_pos c8] at H
               have c8b0 : decide (0 ≤ x4_2) = true := decide_eq_true c8
               clear c8
               by_cases c9 : ((rd_T50 ((rd_T47 l0_1 x3_1).f1) x4_2).f2) = 14
               · rw [if_pos c9] at H
                 have c9b0 : (((rd_T50 ((rd_T47 l0_1 x3_1).f1) x4_2).f2) == 14) = true := beq_iff_eq.mpr c9
                 have c9b1 : (((rd_T50 ((rd_T47 l0_1 x3_1).f1) x4_2).f2) != 14) = false := bne_eq_false_iff_eq.mpr c9
                 clear c9
                 replace H := Option.bind_eq_some_iff.mp H
                 obtain ⟨t402, A100, H⟩ := H
                 replace H : (if t402 < 0 then (some true) else (if ((rd_T50 ((rd_T47 l0_1 x3_1).f1) x4_2).f2) = 15 then ((ecdysisref15_Message.f k2 l0_0 l0_1 ((rd_T50 ((rd_T47 l0_1 x3_1).f1) x4_2).f3)).bind fun t403 => (if t403 < 0 then (some true) else (ecdysisref15_refs.l1 k2 x3_1 (wrap64 (x4_2 + 1)) l0_0 l0_1))) else (ecdysisref15_refs.l1 k2 x3_1 (wrap64 (x4_2 + 1)) l0_0 l0_1))) = some r := H
                 have A10 := Aside0.mk A100
                 clear A100
                 by_cases c11 : t402 < 0
                 · rw [if_pos c11] at H
                   have c11b0 : decide (t402 < 0) = true := decide_eq_true c11
                   clear c11
                   obtain rfl := Option.some.inj H
                   have hcz12_0 : wr.cell? ⟨gb397, 0, none⟩ = some (.slice A0_0 l0_0.length c0_0) := (blk_cell BK397.out 0).trans rfl
                   have hcz12_1 : wr.cell? ⟨gb397, 1, none⟩ = some (.slice A0_1 l0_1.length c0_1) := (blk_cell BK397.out 1).trans rfl
                   have hfz12_0 := blk_frozen BK397.out 0
                   have hfz12_1 := blk_frozen BK397.out 1
                   have p398 : 0 ≤ (x3_1 : Int) := of_decide_eq_true (by first | (with_reducible assumption) )
                   have q398 : x3_1 < (l0_1.length : Int) := of_decide_eq_true (by first | (with_reducible assumption) )
                   obtain ⟨ad398, A398_1, c398_1, A398_2, c398_2, e398, hx398_0, hx398_1, hx398_2, hl398_1, hi398_1, hl398_2, hi398_2⟩ := at_T47 HR0_1.out x3_1 p398 q398
                   cases e398
                   replace hx398_0 := (HB.out.cell (World.block_lt_of_cell? w _ hx398_0)).trans hx398_0
                   replace hx398_1 := (HB.out.cell (World.block_lt_of_cell? w _ hx398_1)).trans hx398_1
                   replace hx398_2 := (HB.out.cell (World.block_lt_of_cell? w _ hx398_2)).trans hx398_2
                   have HR398_1 := Aside0.mk hi398_1
                   have HC398_1 := Aside0.mk hl398_1
                   clear hi398_1 hl398_1
                   have HR398_2 := Aside0.mk hi398_2
                   have HC398_2 := Aside0.mk hl398_2
                   clear hi398_2 hl398_2
                   replace p398 := eq_true p398
                   replace q398 := eq_true q398
                   have p399 : 0 ≤ (x3_1 : Int) := of_decide_eq_true (by first | (with_reducible assumption) )
                   have q399 : x3_1 < (l0_1.length : Int) := of_decide_eq_true (by first | (with_reducible assumption) )
                   obtain ⟨ad399, A399_1, c399_1, A399_2, c399_2, e399, hx399_0, hx399_1, hx399_2, hl399_1, hi399_1, hl399_2, hi399_2⟩ := at_T47 HR0_1.out x3_1 p399 q399
                   obtain rfl : ad398 = ad399 := (by injection e399)
                   replace hx399_0 := (HB.out.cell (World.block_lt_of_cell? w _ hx399_0)).trans hx399_0
                   replace hx399_1 := (HB.out.cell (World.block_lt_of_cell? w _ hx399_1)).trans hx399_1
                   replace hx399_2 := (HB.out.cell (World.block_lt_of_cell? w _ hx399_2)).trans hx399_2
                   have HR399_1 := Aside0.mk hi399_1
                   have HC399_1 := Aside0.mk hl399_1
                   clear hi399_1 hl399_1
                   have HR399_2 := Aside0.mk hi399_2
                   have HC399_2 := Aside0.mk hl399_2
                   clear hi399_2 hl399_2
                   replace p399 := eq_true p399
                   replace q399 := eq_true q399
                   have ea_ := Option.some.inj (hx398_1.symm.trans hx399_1)
                   injection ea_ with ea_ en_ ec_
                   subst ea_
                   subst ec_
                   clear en_
                   have ea_ := Option.some.inj (hx398_2.symm.trans hx399_2)
                   injection ea_ with ea_ en_ ec_
                   subst ea_
                   subst ec_
                   clear en_
                   have p400 : 0 ≤ (x4_2 : Int) := of_decide_eq_true (by first | (with_reducible assumption) )
                   have q400 : x4_2 < (((rd_T47 l0_1 x3_1).f1).length : Int) := of_decide_eq_true (by first | (with_reducible assumption) )
                   obtain ⟨ad400, e400, hx400_0, hx400_1, hx400_2, hx400_3, hx400_4, hx400_5, hx400_6⟩ := at_T50 HR399_1.out x4_2 p400 q400
                   cases e400
                   replace hx400_0 := (HB.out.cell (World.block_lt_of_cell? w _ hx400_0)).trans hx400_0
                   replace hx400_1 := (HB.out.cell (World.block_lt_of_cell? w _ hx400_1)).trans hx400_1
                   replace hx400_2 := (HB.out.cell (World.block_lt_of_cell? w _ hx400_2)).trans hx400_2
                   replace hx400_3 := (HB.out.cell (World.block_lt_of_cell? w _ hx400_3)).trans hx400_3
                   replace hx400_4 := (HB.out.cell (World.block_lt_of_cell? w _ hx400_4)).trans hx400_4
                   replace hx400_5 := (HB.out.cell (World.block_lt_of_cell? w _ hx400_5)).trans hx400_5
                   replace hx400_6 := (HB.out.cell (World.block_lt_of_cell? w _ hx400_6)).trans hx400_6
                   replace p400 := eq_true p400
                   replace q400 := eq_true q400
                   go_wp2_with (first | ((with_reducible refine gate_dst (N := 5) rfl ?_); refine box_event ?hg (N := 5) ?hd (cs := #[.string (⟨#[]⟩ : ByteArray), .int .i64 0, .int .i64 0, .string (⟨#[]⟩ : ByteArray), .bool false, .bool false, .string (⟨#[]⟩ : ByteArray)]) (t := 50) ?hr ?_; (case hd => rfl); (case hg => rfl); (case hr => first | (go_simp; done) | (go_simp; rfl)); intro gb401 hg w13 hbox hb; have n0_ := Aside0.mk (blk_below BK397.out hb); have n1_ := Aside0.mk (below_step HB.out hb); have n2_ := Aside0.mk (hbox); have n4_ := Aside0.mk ((by rw [hg]; exact (below_size HB.out) : w.heap.size ≤ gb401)); have n5_ := Aside0.mk ((by rw [hg]; exact Nat.ne_of_lt (blk_lt BK397.out) : gb397 ≠ gb401)); have n6_ := Aside0.mk ((by rw [hg]; exact Nat.ne_of_gt (blk_lt BK397.out) : gb401 ≠ gb397)); clear BK397; clear HB; have BK397 := n0_; have HB := n1_; have BK401 := n2_; have GE401 := n4_; have NB397_401 := n5_; have NB401_397 := n6_; clear n0_ n1_ n2_ n4_ n5_ n6_; clear hb hbox hg; have hnb14 := NB401_397.out; have hnc14 := NB397_401.out; have hcz15_0 : w13.cell? ⟨gb401, 0, none⟩ = some (.string (⟨#[]⟩ : ByteArray)) := (blk_cell BK401.out 0).trans rfl; have hcz15_1 : w13.cell? ⟨gb401, 1, none⟩ = some (.int .i64 0) := (blk_cell BK401.out 1).trans rfl; have hcz15_2 : w13.cell? ⟨gb401, 2, none⟩ = some (.int .i64 0) := (blk_cell BK401.out 2).trans rfl; have hcz15_3 : w13.cell? ⟨gb401, 3, none⟩ = some (.string (⟨#[]⟩ : ByteArray)) := (blk_cell BK401.out 3).trans rfl; have hcz15_4 : w13.cell? ⟨gb401, 4, none⟩ = some (.bool false) := (blk_cell BK401.out 4).trans rfl; have hcz15_5 : w13.cell? ⟨gb401, 5, none⟩ = some (.bool false) := (blk_cell BK401.out 5).trans rfl; have hcz15_6 : w13.cell? ⟨gb401, 6, none⟩ = some (.string (⟨#[]⟩ : ByteArray)) := (blk_cell BK401.out 6).trans rfl; have hfz15_0 := blk_frozen BK401.out 0; have hfz15_1 := blk_frozen BK401.out 1; have hfz15_2 := blk_frozen BK401.out 2; have hfz15_3 := blk_frozen BK401.out 3; have hfz15_4 := blk_frozen BK401.out 4; have hfz15_5 := blk_frozen BK401.out 5; have hfz15_6 := blk_frozen BK401.out 6; have hcz16_0 : w13.cell? ⟨gb397, 0, none⟩ = some (.slice A0_0 l0_0.length c0_0) := (blk_cell BK397.out 0).trans rfl; have hcz16_1 : w13.cell? ⟨gb397, 1, none⟩ = some (.slice (some ad398) l0_1.length c0_1) := (blk_cell BK397.out 1).trans rfl; have hfz16_0 := blk_frozen BK397.out 0; have hfz16_1 := blk_frozen BK397.out 1) | (go_at_call 30; (with_reducible refine (ecdysisref15_Enum.calls k2 _ _ l0_0 _ _ l0_1 ((rd_T50 ((rd_T47 l0_1 x3_1).f1) x4_2).f3) t402 _ ?side1 ?side2 ?side3 ?side4 A10.out).mono ?_); (case side1 => exact Kd.C_below HR0_0.out (by repeat (first | (with_reducible first | exact HB.out | refine below_set ?_ GE401.out) ))); (case side2 => exact HC0_0.out); (case side3 => exact Kd.C_below HR0_1.out (by repeat (first | (with_reducible first | exact HB.out | refine below_set ?_ GE401.out) ))); (case side4 => exact HC0_1.out); rintro e w17 ⟨rfl, hb⟩; have n0_ := Aside0.mk (blk_below (g := gb397) (o := .cells #[.slice A0_0 l0_0.length c0_0, .slice (some ad398) l0_1.length c0_1] 35 (0, 0)) (by refine blk_far ?_ NB397_401.out _; refine blk_far ?_ NB397_401.out _; refine blk_far ?_ NB397_401.out _; refine blk_far ?_ NB397_401.out _; refine blk_far ?_ NB397_401.out _; refine blk_far ?_ NB397_401.out _; refine blk_far ?_ NB397_401.out _; exact BK397.out) hb); have n1_ := Aside0.mk (blk_below (g := gb401) (o := .cells #[.string ((rd_T50 ((rd_T47 l0_1 x3_1).f1) x4_2).f0), .int .i64 ((rd_T50 ((rd_T47 l0_1 x3_1).f1) x4_2).f1), .int .i64 ((rd_T50 ((rd_T47 l0_1 x3_1).f1) x4_2).f2), .string ((rd_T50 ((rd_T47 l0_1 x3_1).f1) x4_2).f3), .bool ((rd_T50 ((rd_T47 l0_1 x3_1).f1) x4_2).f4), .bool ((rd_T50 ((rd_T47 l0_1 x3_1).f1) x4_2).f5), .string ((rd_T50 ((rd_T47 l0_1 x3_1).f1) x4_2).f6)] 50 (0, 0)) (by refine blk_put (cs := #[.string ((rd_T50 ((rd_T47 l0_1 x3_1).f1) x4_2).f0), .int .i64 ((rd_T50 ((rd_T47 l0_1 x3_1).f1) x4_2).f1), .int .i64 ((rd_T50 ((rd_T47 l0_1 x3_1).f1) x4_2).f2), .string ((rd_T50 ((rd_T47 l0_1 x3_1).f1) x4_2).f3), .bool ((rd_T50 ((rd_T47 l0_1 x3_1).f1) x4_2).f4), .bool ((rd_T50 ((rd_T47 l0_1 x3_1).f1) x4_2).f5), .string (⟨#[]⟩ : ByteArray)]) ?_ 6 _ rfl; refine blk_put (cs := #[.string ((rd_T50 ((rd_T47 l0_1 x3_1).f1) x4_2).f0), .int .i64 ((rd_T50 ((rd_T47 l0_1 x3_1).f1) x4_2).f1), .int .i64 ((rd_T50 ((rd_T47 l0_1 x3_1).f1) x4_2).f2), .string ((rd_T50 ((rd_T47 l0_1 x3_1).f1) x4_2).f3), .bool ((rd_T50 ((rd_T47 l0_1 x3_1).f1) x4_2).f4), .bool false, .string (⟨#[]⟩ : ByteArray)]) ?_ 5 _ rfl; refine blk_put (cs := #[.string ((rd_T50 ((rd_T47 l0_1 x3_1).f1) x4_2).f0), .int .i64 ((rd_T50 ((rd_T47 l0_1 x3_1).f1) x4_2).f1), .int .i64 ((rd_T50 ((rd_T47 l0_1 x3_1).f1) x4_2).f2), .string ((rd_T50 ((rd_T47 l0_1 x3_1).f1) x4_2).f3), .bool false, .bool false, .string (⟨#[]⟩ : ByteArray)]) ?_ 4 _ rfl; refine blk_put (cs := #[.string ((rd_T50 ((rd_T47 l0_1 x3_1).f1) x4_2).f0), .int .i64 ((rd_T50 ((rd_T47 l0_1 x3_1).f1) x4_2).f1), .int .i64 ((rd_T50 ((rd_T47 l0_1 x3_1).f1) x4_2).f2), .string (⟨#[]⟩ : ByteArray), .bool false, .bool false, .string (⟨#[]⟩ : ByteArray)]) ?_ 3 _ rfl; refine blk_put (cs := #[.string ((rd_T50 ((rd_T47 l0_1 x3_1).f1) x4_2).f0), .int .i64 ((rd_T50 ((rd_T47 l0_1 x3_1).f1) x4_2).f1), .int .i64 0, .string (⟨#[]⟩ : ByteArray), .bool false, .bool false, .string (⟨#[]⟩ : ByteArray)]) ?_ 2 _ rfl; refine blk_put (cs := #[.string ((rd_T50 ((rd_T47 l0_1 x3_1).f1) x4_2).f0), .int .i64 0, .int .i64 0, .string (⟨#[]⟩ : ByteArray), .bool false, .bool false, .string (⟨#[]⟩ : ByteArray)]) ?_ 1 _ rfl; refine blk_put (cs := #[.string (⟨#[]⟩ : ByteArray), .int .i64 0, .int .i64 0, .string (⟨#[]⟩ : ByteArray), .bool false, .bool false, .string (⟨#[]⟩ : ByteArray)]) ?_ 0 _ rfl; exact BK401.out) hb); have n2_ := Aside0.mk (below_step (by repeat (first | (with_reducible first | exact HB.out | refine below_set ?_ GE401.out) )) hb); clear BK397; clear BK401; clear HB; have BK397 := n0_; have BK401 := n1_; have HB := n2_; clear n0_ n1_ n2_; (try clear hb); (try clear hb2); (try clear hk); (try clear hi)))
                   go_ret
                   exact ⟨by first | rfl , by exact HB.out⟩
                 · rw [if_neg c11] at H
                   have c11b0 : decide (t402 < 0) = false := decide_eq_false c11
                   clear c11
                   by_cases c18 : ((rd_T50 ((rd_T47 l0_1 x3_1).f1) x4_2).f2) = 15
                   · rw [if_pos c18] at H
                     have c18b0 : (((rd_T50 ((rd_T47 l0_1 x3_1).f1) x4_2).f2) == 15) = true := beq_iff_eq.mpr c18
                     have c18b1 : (((rd_T50 ((rd_T47 l0_1 x3_1).f1) x4_2).f2) != 15) = false := bne_eq_false_iff_eq.mpr c18
                     clear c18
                     replace H := Option.bind_eq_some_iff.mp H
                     obtain ⟨t403, A190, H⟩ := H
                     replace H : (if t403 < 0 then (some true) else (ecdysisref15_refs.l1 k2 x3_1 (wrap64 (x4_2 + 1)) l0_0 l0_1)) = some r := H
                     have A19 := Aside0.mk A190
                     clear A190
                     by_cases c20 : t403 < 0
                     · rw [if_pos c20] at H
                       have c20b0 : decide (t403 < 0) = true := decide_eq_true c20
                       clear c20
                       obtain rfl := Option.some.inj H
                       have hcz21_0 : wr.cell? ⟨gb397, 0, none⟩ = some (.slice A0_0 l0_0.length c0_0) := (blk_cell BK397.out 0).trans rfl
                       have hcz21_1 : wr.cell? ⟨gb397, 1, none⟩ = some (.slice A0_1 l0_1.length c0_1) := (blk_cell BK397.out 1).trans rfl
                       have hfz21_0 := blk_frozen BK397.out 0
                       have hfz21_1 := blk_frozen BK397.out 1
                       have p398 : 0 ≤ (x3_1 : Int) := of_decide_eq_true (by first | (with_reducible assumption) )
                       have q398 : x3_1 < (l0_1.length : Int) := of_decide_eq_true (by first | (with_reducible assumption) )
                       obtain ⟨ad398, A398_1, c398_1, A398_2, c398_2, e398, hx398_0, hx398_1, hx398_2, hl398_1, hi398_1, hl398_2, hi398_2⟩ := at_T47 HR0_1.out x3_1 p398 q398
                       cases e398
                       replace hx398_0 := (HB.out.cell (World.block_lt_of_cell? w _ hx398_0)).trans hx398_0
                       replace hx398_1 := (HB.out.cell (World.block_lt_of_cell? w _ hx398_1)).trans hx398_1
                       replace hx398_2 := (HB.out.cell (World.block_lt_of_cell? w _ hx398_2)).trans hx398_2
                       have HR398_1 := Aside0.mk hi398_1
                       have HC398_1 := Aside0.mk hl398_1
                       clear hi398_1 hl398_1
                       have HR398_2 := Aside0.mk hi398_2
                       have HC398_2 := Aside0.mk hl398_2
                       clear hi398_2 hl398_2
                       replace p398 := eq_true p398
                       replace q398 := eq_true q398
                       have p399 : 0 ≤ (x3_1 : Int) := of_decide_eq_true (by first | (with_reducible assumption) )
                       have q399 : x3_1 < (l0_1.length : Int) := of_decide_eq_true (by first | (with_reducible assumption) )
                       obtain ⟨ad399, A399_1, c399_1, A399_2, c399_2, e399, hx399_0, hx399_1, hx399_2, hl399_1, hi399_1, hl399_2, hi399_2⟩ := at_T47 HR0_1.out x3_1 p399 q399
                       obtain rfl : ad398 = ad399 := (by injection e399)
                       replace hx399_0 := (HB.out.cell (World.block_lt_of_cell? w _ hx399_0)).trans hx399_0
                       replace hx399_1 := (HB.out.cell (World.block_lt_of_cell? w _ hx399_1)).trans hx399_1
                       replace hx399_2 := (HB.out.cell (World.block_lt_of_cell? w _ hx399_2)).trans hx399_2
                       have HR399_1 := Aside0.mk hi399_1
                       have HC399_1 := Aside0.mk hl399_1
                       clear hi399_1 hl399_1
                       have HR399_2 := Aside0.mk hi399_2
                       have HC399_2 := Aside0.mk hl399_2
                       clear hi399_2 hl399_2
                       replace p399 := eq_true p399
                       replace q399 := eq_true q399
                       have ea_ := Option.some.inj (hx398_1.symm.trans hx399_1)
                       injection ea_ with ea_ en_ ec_
                       subst ea_
                       subst ec_
                       clear en_
                       have ea_ := Option.some.inj (hx398_2.symm.trans hx399_2)
                       injection ea_ with ea_ en_ ec_
                       subst ea_
                       subst ec_
                       clear en_
                       have p400 : 0 ≤ (x4_2 : Int) := of_decide_eq_true (by first | (with_reducible assumption) )
                       have q400 : x4_2 < (((rd_T47 l0_1 x3_1).f1).length : Int) := of_decide_eq_true (by first | (with_reducible assumption) )
                       obtain ⟨ad400, e400, hx400_0, hx400_1, hx400_2, hx400_3, hx400_4, hx400_5, hx400_6⟩ := at_T50 HR399_1.out x4_2 p400 q400
                       cases e400
                       replace hx400_0 := (HB.out.cell (World.block_lt_of_cell? w _ hx400_0)).trans hx400_0
                       replace hx400_1 := (HB.out.cell (World.block_lt_of_cell? w _ hx400_1)).trans hx400_1
                       replace hx400_2 := (HB.out.cell (World.block_lt_of_cell? w _ hx400_2)).trans hx400_2
                       replace hx400_3 := (HB.out.cell (World.block_lt_of_cell? w _ hx400_3)).trans hx400_3
                       replace hx400_4 := (HB.out.cell (World.block_lt_of_cell? w _ hx400_4)).trans hx400_4
                       replace hx400_5 := (HB.out.cell (World.block_lt_of_cell? w _ hx400_5)).trans hx400_5
                       replace hx400_6 := (HB.out.cell (World.block_lt_of_cell? w _ hx400_6)).trans hx400_6
                       replace p400 := eq_true p400
                       replace q400 := eq_true q400
                       go_wp2_with (first | ((with_reducible refine gate_dst (N := 5) rfl ?_); refine box_event ?hg (N := 5) ?hd (cs := #[.string (⟨#[]⟩ : ByteArray), .int .i64 0, .int .i64 0, .string (⟨#[]⟩ : ByteArray), .bool false, .bool false, .string (⟨#[]⟩ : ByteArray)]) (t := 50) ?hr ?_; (case hd => rfl); (case hg => rfl); (case hr => first | (go_simp; done) | (go_simp; rfl)); intro gb401 hg w22 hbox hb; have n0_ := Aside0.mk (blk_below BK397.out hb); have n1_ := Aside0.mk (below_step HB.out hb); have n2_ := Aside0.mk (hbox); have n4_ := Aside0.mk ((by rw [hg]; exact (below_size HB.out) : w.heap.size ≤ gb401)); have n5_ := Aside0.mk ((by rw [hg]; exact Nat.ne_of_lt (blk_lt BK397.out) : gb397 ≠ gb401)); have n6_ := Aside0.mk ((by rw [hg]; exact Nat.ne_of_gt (blk_lt BK397.out) : gb401 ≠ gb397)); clear BK397; clear HB; have BK397 := n0_; have HB := n1_; have BK401 := n2_; have GE401 := n4_; have NB397_401 := n5_; have NB401_397 := n6_; clear n0_ n1_ n2_ n4_ n5_ n6_; clear hb hbox hg; have hnb23 := NB401_397.out; have hnc23 := NB397_401.out; have hcz24_0 : w22.cell? ⟨gb401, 0, none⟩ = some (.string (⟨#[]⟩ : ByteArray)) := (blk_cell BK401.out 0).trans rfl; have hcz24_1 : w22.cell? ⟨gb401, 1, none⟩ = some (.int .i64 0) := (blk_cell BK401.out 1).trans rfl; have hcz24_2 : w22.cell? ⟨gb401, 2, none⟩ = some (.int .i64 0) := (blk_cell BK401.out 2).trans rfl; have hcz24_3 : w22.cell? ⟨gb401, 3, none⟩ = some (.string (⟨#[]⟩ : ByteArray)) := (blk_cell BK401.out 3).trans rfl; have hcz24_4 : w22.cell? ⟨gb401, 4, none⟩ = some (.bool false) := (blk_cell BK401.out 4).trans rfl; have hcz24_5 : w22.cell? ⟨gb401, 5, none⟩ = some (.bool false) := (blk_cell BK401.out 5).trans rfl; have hcz24_6 : w22.cell? ⟨gb401, 6, none⟩ = some (.string (⟨#[]⟩ : ByteArray)) := (blk_cell BK401.out 6).trans rfl; have hfz24_0 := blk_frozen BK401.out 0; have hfz24_1 := blk_frozen BK401.out 1; have hfz24_2 := blk_frozen BK401.out 2; have hfz24_3 := blk_frozen BK401.out 3; have hfz24_4 := blk_frozen BK401.out 4; have hfz24_5 := blk_frozen BK401.out 5; have hfz24_6 := blk_frozen BK401.out 6; have hcz25_0 : w22.cell? ⟨gb397, 0, none⟩ = some (.slice A0_0 l0_0.length c0_0) := (blk_cell BK397.out 0).trans rfl; have hcz25_1 : w22.cell? ⟨gb397, 1, none⟩ = some (.slice (some ad398) l0_1.length c0_1) := (blk_cell BK397.out 1).trans rfl; have hfz25_0 := blk_frozen BK397.out 0; have hfz25_1 := blk_frozen BK397.out 1) | (go_at_call 30; (with_reducible refine (ecdysisref15_Enum.calls k2 _ _ l0_0 _ _ l0_1 ((rd_T50 ((rd_T47 l0_1 x3_1).f1) x4_2).f3) t402 _ ?side1 ?side2 ?side3 ?side4 A10.out).mono ?_); (case side1 => exact Kd.C_below HR0_0.out (by repeat (first | (with_reducible first | exact HB.out | refine below_set ?_ GE401.out) ))); (case side2 => exact HC0_0.out); (case side3 => exact Kd.C_below HR0_1.out (by repeat (first | (with_reducible first | exact HB.out | refine below_set ?_ GE401.out) ))); (case side4 => exact HC0_1.out); rintro e w26 ⟨rfl, hb⟩; have n0_ := Aside0.mk (blk_below (g := gb397) (o := .cells #[.slice A0_0 l0_0.length c0_0, .slice (some ad398) l0_1.length c0_1] 35 (0, 0)) (by refine blk_far ?_ NB397_401.out _; refine blk_far ?_ NB397_401.out _; refine blk_far ?_ NB397_401.out _; refine blk_far ?_ NB397_401.out _; refine blk_far ?_ NB397_401.out _; refine blk_far ?_ NB397_401.out _; refine blk_far ?_ NB397_401.out _; exact BK397.out) hb); have n1_ := Aside0.mk (blk_below (g := gb401) (o := .cells #[.string ((rd_T50 ((rd_T47 l0_1 x3_1).f1) x4_2).f0), .int .i64 ((rd_T50 ((rd_T47 l0_1 x3_1).f1) x4_2).f1), .int .i64 ((rd_T50 ((rd_T47 l0_1 x3_1).f1) x4_2).f2), .string ((rd_T50 ((rd_T47 l0_1 x3_1).f1) x4_2).f3), .bool ((rd_T50 ((rd_T47 l0_1 x3_1).f1) x4_2).f4), .bool ((rd_T50 ((rd_T47 l0_1 x3_1).f1) x4_2).f5), .string ((rd_T50 ((rd_T47 l0_1 x3_1).f1) x4_2).f6)] 50 (0, 0)) (by refine blk_put (cs := #[.string ((rd_T50 ((rd_T47 l0_1 x3_1).f1) x4_2).f0), .int .i64 ((rd_T50 ((rd_T47 l0_1 x3_1).f1) x4_2).f1), .int .i64 ((rd_T50 ((rd_T47 l0_1 x3_1).f1) x4_2).f2), .string ((rd_T50 ((rd_T47 l0_1 x3_1).f1) x4_2).f3), .bool ((rd_T50 ((rd_T47 l0_1 x3_1).f1) x4_2).f4), .bool ((rd_T50 ((rd_T47 l0_1 x3_1).f1) x4_2).f5), .string (⟨#[]⟩ : ByteArray)]) ?_ 6 _ rfl; refine blk_put (cs := #[.string ((rd_T50 ((rd_T47 l0_1 x3_1).f1) x4_2).f0), .int .i64 ((rd_T50 ((rd_T47 l0_1 x3_1).f1) x4_2).f1), .int .i64 ((rd_T50 ((rd_T47 l0_1 x3_1).f1) x4_2).f2), .string ((rd_T50 ((rd_T47 l0_1 x3_1).f1) x4_2).f3), .bool ((rd_T50 ((rd_T47 l0_1 x3_1).f1) x4_2).f4), .bool false, .string (⟨#[]⟩ : ByteArray)]) ?_ 5 _ rfl; refine blk_put (cs := #[.string ((rd_T50 ((rd_T47 l0_1 x3_1).f1) x4_2).f0), .int .i64 ((rd_T50 ((rd_T47 l0_1 x3_1).f1) x4_2).f1), .int .i64 ((rd_T50 ((rd_T47 l0_1 x3_1).f1) x4_2).f2), .string ((rd_T50 ((rd_T47 l0_1 x3_1).f1) x4_2).f3), .bool false, .bool false, .string (⟨#[]⟩ : ByteArray)]) ?_ 4 _ rfl; refine blk_put (cs := #[.string ((rd_T50 ((rd_T47 l0_1 x3_1).f1) x4_2).f0), .int .i64 ((rd_T50 ((rd_T47 l0_1 x3_1).f1) x4_2).f1), .int .i64 ((rd_T50 ((rd_T47 l0_1 x3_1).f1) x4_2).f2), .string (⟨#[]⟩ : ByteArray), .bool false, .bool false, .string (⟨#[]⟩ : ByteArray)]) ?_ 3 _ rfl; refine blk_put (cs := #[.string ((rd_T50 ((rd_T47 l0_1 x3_1).f1) x4_2).f0), .int .i64 ((rd_T50 ((rd_T47 l0_1 x3_1).f1) x4_2).f1), .int .i64 0, .string (⟨#[]⟩ : ByteArray), .bool false, .bool false, .string (⟨#[]⟩ : ByteArray)]) ?_ 2 _ rfl; refine blk_put (cs := #[.string ((rd_T50 ((rd_T47 l0_1 x3_1).f1) x4_2).f0), .int .i64 0, .int .i64 0, .string (⟨#[]⟩ : ByteArray), .bool false, .bool false, .string (⟨#[]⟩ : ByteArray)]) ?_ 1 _ rfl; refine blk_put (cs := #[.string (⟨#[]⟩ : ByteArray), .int .i64 0, .int .i64 0, .string (⟨#[]⟩ : ByteArray), .bool false, .bool false, .string (⟨#[]⟩ : ByteArray)]) ?_ 0 _ rfl; exact BK401.out) hb); have n2_ := Aside0.mk (below_step (by repeat (first | (with_reducible first | exact HB.out | refine below_set ?_ GE401.out) )) hb); clear BK397; clear BK401; clear HB; have BK397 := n0_; have BK401 := n1_; have HB := n2_; clear n0_ n1_ n2_; (try clear hb); (try clear hb2); (try clear hk); (try clear hi); have hcz27_0 : w26.cell? ⟨gb401, 0, none⟩ = some (.string ((rd_T50 ((rd_T47 l0_1 x3_1).f1) x4_2).f0)) := (blk_cell BK401.out 0).trans rfl; have hcz27_1 : w26.cell? ⟨gb401, 1, none⟩ = some (.int .i64 ((rd_T50 ((rd_T47 l0_1 x3_1).f1) x4_2).f1)) := (blk_cell BK401.out 1).trans rfl; have hcz27_2 : w26.cell? ⟨gb401, 2, none⟩ = some (.int .i64 ((rd_T50 ((rd_T47 l0_1 x3_1).f1) x4_2).f2)) := (blk_cell BK401.out 2).trans rfl; have hcz27_3 : w26.cell? ⟨gb401, 3, none⟩ = some (.string ((rd_T50 ((rd_T47 l0_1 x3_1).f1) x4_2).f3)) := (blk_cell BK401.out 3).trans rfl; have hcz27_4 : w26.cell? ⟨gb401, 4, none⟩ = some (.bool ((rd_T50 ((rd_T47 l0_1 x3_1).f1) x4_2).f4)) := (blk_cell BK401.out 4).trans rfl; have hcz27_5 : w26.cell? ⟨gb401, 5, none⟩ = some (.bool ((rd_T50 ((rd_T47 l0_1 x3_1).f1) x4_2).f5)) := (blk_cell BK401.out 5).trans rfl; have hcz27_6 : w26.cell? ⟨gb401, 6, none⟩ = some (.string ((rd_T50 ((rd_T47 l0_1 x3_1).f1) x4_2).f6)) := (blk_cell BK401.out 6).trans rfl; have hfz27_0 := blk_frozen BK401.out 0; have hfz27_1 := blk_frozen BK401.out 1; have hfz27_2 := blk_frozen BK401.out 2; have hfz27_3 := blk_frozen BK401.out 3; have hfz27_4 := blk_frozen BK401.out 4; have hfz27_5 := blk_frozen BK401.out 5; have hfz27_6 := blk_frozen BK401.out 6; have hcz28_0 : w26.cell? ⟨gb397, 0, none⟩ = some (.slice A0_0 l0_0.length c0_0) := (blk_cell BK397.out 0).trans rfl; have hcz28_1 : w26.cell? ⟨gb397, 1, none⟩ = some (.slice (some ad398) l0_1.length c0_1) := (blk_cell BK397.out 1).trans rfl; have hfz28_0 := blk_frozen BK397.out 0; have hfz28_1 := blk_frozen BK397.out 1) | (go_at_call 27; (with_reducible refine (ecdysisref15_Message.calls k2 _ _ l0_0 _ _ l0_1 ((rd_T50 ((rd_T47 l0_1 x3_1).f1) x4_2).f3) t403 _ ?side1 ?side2 ?side3 ?side4 A19.out).mono ?_); (case side1 => repeat (first | exact (Kd.C_below HR0_0.out HB.out) )); (case side2 => exact HC0_0.out); (case side3 => repeat (first | exact (Kd.C_below HR0_1.out HB.out) )); (case side4 => exact HC0_1.out); rintro e w29 ⟨rfl, hb⟩; have n0_ := Aside0.mk (blk_below BK397.out hb); have n1_ := Aside0.mk (blk_below BK401.out hb); have n2_ := Aside0.mk (below_step HB.out hb); clear BK397; clear BK401; clear HB; have BK397 := n0_; have BK401 := n1_; have HB := n2_; clear n0_ n1_ n2_; (try clear hb); (try clear hb2); (try clear hk); (try clear hi)))
                       go_ret
                       exact ⟨by first | rfl , by exact HB.out⟩
                     · rw [if_neg c20] at H
                       have c20b0 : decide (t403 < 0) = false := decide_eq_false c20
                       clear c20
                       have H' := Aside0.mk H
                       clear H
                       have hcz30_0 : wr.cell? ⟨gb397, 0, none⟩ = some (.slice A0_0 l0_0.length c0_0) := (blk_cell BK397.out 0).trans rfl
                       have hcz30_1 : wr.cell? ⟨gb397, 1, none⟩ = some (.slice A0_1 l0_1.length c0_1) := (blk_cell BK397.out 1).trans rfl
                       have hfz30_0 := blk_frozen BK397.out 0
                       have hfz30_1 := blk_frozen BK397.out 1
                       have p398 : 0 ≤ (x3_1 : Int) := of_decide_eq_true (by first | (with_reducible assumption) )
                       have q398 : x3_1 < (l0_1.length : Int) := of_decide_eq_true (by first | (with_reducible assumption) )
                       obtain ⟨ad398, A398_1, c398_1, A398_2, c398_2, e398, hx398_0, hx398_1, hx398_2, hl398_1, hi398_1, hl398_2, hi398_2⟩ := at_T47 HR0_1.out x3_1 p398 q398
                       cases e398
                       replace hx398_0 := (HB.out.cell (World.block_lt_of_cell? w _ hx398_0)).trans hx398_0
                       replace hx398_1 := (HB.out.cell (World.block_lt_of_cell? w _ hx398_1)).trans hx398_1
                       replace hx398_2 := (HB.out.cell (World.block_lt_of_cell? w _ hx398_2)).trans hx398_2
                       have HR398_1 := Aside0.mk hi398_1
                       have HC398_1 := Aside0.mk hl398_1
                       clear hi398_1 hl398_1
                       have HR398_2 := Aside0.mk hi398_2
                       have HC398_2 := Aside0.mk hl398_2
                       clear hi398_2 hl398_2
                       replace p398 := eq_true p398
                       replace q398 := eq_true q398
                       have p399 : 0 ≤ (x3_1 : Int) := of_decide_eq_true (by first | (with_reducible assumption) )
                       have q399 : x3_1 < (l0_1.length : Int) := of_decide_eq_true (by first | (with_reducible assumption) )
                       obtain ⟨ad399, A399_1, c399_1, A399_2, c399_2, e399, hx399_0, hx399_1, hx399_2, hl399_1, hi399_1, hl399_2, hi399_2⟩ := at_T47 HR0_1.out x3_1 p399 q399
                       obtain rfl : ad398 = ad399 := (by injection e399)
                       replace hx399_0 := (HB.out.cell (World.block_lt_of_cell? w _ hx399_0)).trans hx399_0
                       replace hx399_1 := (HB.out.cell (World.block_lt_of_cell? w _ hx399_1)).trans hx399_1
                       replace hx399_2 := (HB.out.cell (World.block_lt_of_cell? w _ hx399_2)).trans hx399_2
                       have HR399_1 := Aside0.mk hi399_1
                       have HC399_1 := Aside0.mk hl399_1
                       clear hi399_1 hl399_1
                       have HR399_2 := Aside0.mk hi399_2
                       have HC399_2 := Aside0.mk hl399_2
                       clear hi399_2 hl399_2
                       replace p399 := eq_true p399
                       replace q399 := eq_true q399
                       have ea_ := Option.some.inj (hx398_1.symm.trans hx399_1)
                       injection ea_ with ea_ en_ ec_
                       subst ea_
                       subst ec_
                       clear en_
                       have ea_ := Option.some.inj (hx398_2.symm.trans hx399_2)
                       injection ea_ with ea_ en_ ec_
                       subst ea_
                       subst ec_
                       clear en_
                       have p400 : 0 ≤ (x4_2 : Int) := of_decide_eq_true (by first | (with_reducible assumption) )
                       have q400 : x4_2 < (((rd_T47 l0_1 x3_1).f1).length : Int) := of_decide_eq_true (by first | (with_reducible assumption) )
                       obtain ⟨ad400, e400, hx400_0, hx400_1, hx400_2, hx400_3, hx400_4, hx400_5, hx400_6⟩ := at_T50 HR399_1.out x4_2 p400 q400
                       cases e400
                       replace hx400_0 := (HB.out.cell (World.block_lt_of_cell? w _ hx400_0)).trans hx400_0
                       replace hx400_1 := (HB.out.cell (World.block_lt_of_cell? w _ hx400_1)).trans hx400_1
                       replace hx400_2 := (HB.out.cell (World.block_lt_of_cell? w _ hx400_2)).trans hx400_2
                       replace hx400_3 := (HB.out.cell (World.block_lt_of_cell? w _ hx400_3)).trans hx400_3
                       replace hx400_4 := (HB.out.cell (World.block_lt_of_cell? w _ hx400_4)).trans hx400_4
                       replace hx400_5 := (HB.out.cell (World.block_lt_of_cell? w _ hx400_5)).trans hx400_5
                       replace hx400_6 := (HB.out.cell (World.block_lt_of_cell? w _ hx400_6)).trans hx400_6
                       replace p400 := eq_true p400
                       replace q400 := eq_true q400
                       go_wp2_with (first | ((with_reducible refine gate_dst (N := 5) rfl ?_); refine box_event ?hg (N := 5) ?hd (cs := #[.string (⟨#[]⟩ : ByteArray), .int .i64 0, .int .i64 0, .string (⟨#[]⟩ : ByteArray), .bool false, .bool false, .string (⟨#[]⟩ : ByteArray)]) (t := 50) ?hr ?_; (case hd => rfl); (case hg => rfl); (case hr => first | (go_simp; done) | (go_simp; rfl)); intro gb401 hg w31 hbox hb; have n0_ := Aside0.mk (blk_below BK397.out hb); have n1_ := Aside0.mk (below_step HB.out hb); have n2_ := Aside0.mk (hbox); have n4_ := Aside0.mk ((by rw [hg]; exact (below_size HB.out) : w.heap.size ≤ gb401)); have n5_ := Aside0.mk ((by rw [hg]; exact Nat.ne_of_lt (blk_lt BK397.out) : gb397 ≠ gb401)); have n6_ := Aside0.mk ((by rw [hg]; exact Nat.ne_of_gt (blk_lt BK397.out) : gb401 ≠ gb397)); clear BK397; clear HB; have BK397 := n0_; have HB := n1_; have BK401 := n2_; have GE401 := n4_; have NB397_401 := n5_; have NB401_397 := n6_; clear n0_ n1_ n2_ n4_ n5_ n6_; clear hb hbox hg; have hnb32 := NB401_397.out; have hnc32 := NB397_401.out; have hcz33_0 : w31.cell? ⟨gb401, 0, none⟩ = some (.string (⟨#[]⟩ : ByteArray)) := (blk_cell BK401.out 0).trans rfl; have hcz33_1 : w31.cell? ⟨gb401, 1, none⟩ = some (.int .i64 0) := (blk_cell BK401.out 1).trans rfl; have hcz33_2 : w31.cell? ⟨gb401, 2, none⟩ = some (.int .i64 0) := (blk_cell BK401.out 2).trans rfl; have hcz33_3 : w31.cell? ⟨gb401, 3, none⟩ = some (.string (⟨#[]⟩ : ByteArray)) := (blk_cell BK401.out 3).trans rfl; have hcz33_4 : w31.cell? ⟨gb401, 4, none⟩ = some (.bool false) := (blk_cell BK401.out 4).trans rfl; have hcz33_5 : w31.cell? ⟨gb401, 5, none⟩ = some (.bool false) := (blk_cell BK401.out 5).trans rfl; have hcz33_6 : w31.cell? ⟨gb401, 6, none⟩ = some (.string (⟨#[]⟩ : ByteArray)) := (blk_cell BK401.out 6).trans rfl; have hfz33_0 := blk_frozen BK401.out 0; have hfz33_1 := blk_frozen BK401.out 1; have hfz33_2 := blk_frozen BK401.out 2; have hfz33_3 := blk_frozen BK401.out 3; have hfz33_4 := blk_frozen BK401.out 4; have hfz33_5 := blk_frozen BK401.out 5; have hfz33_6 := blk_frozen BK401.out 6; have hcz34_0 : w31.cell? ⟨gb397, 0, none⟩ = some (.slice A0_0 l0_0.length c0_0) := (blk_cell BK397.out 0).trans rfl; have hcz34_1 : w31.cell? ⟨gb397, 1, none⟩ = some (.slice (some ad398) l0_1.length c0_1) := (blk_cell BK397.out 1).trans rfl; have hfz34_0 := blk_frozen BK397.out 0; have hfz34_1 := blk_frozen BK397.out 1) | (go_at_call 30; (with_reducible refine (ecdysisref15_Enum.calls k2 _ _ l0_0 _ _ l0_1 ((rd_T50 ((rd_T47 l0_1 x3_1).f1) x4_2).f3) t402 _ ?side1 ?side2 ?side3 ?side4 A10.out).mono ?_); (case side1 => exact Kd.C_below HR0_0.out (by repeat (first | (with_reducible first | exact HB.out | refine below_set ?_ GE401.out) ))); (case side2 => exact HC0_0.out); (case side3 => exact Kd.C_below HR0_1.out (by repeat (first | (with_reducible first | exact HB.out | refine below_set ?_ GE401.out) ))); (case side4 => exact HC0_1.out); rintro e w35 ⟨rfl, hb⟩; have n0_ := Aside0.mk (blk_below (g := gb397) (o := .cells #[.slice A0_0 l0_0.length c0_0, .slice (some ad398) l0_1.length c0_1] 35 (0, 0)) (by refine blk_far ?_ NB397_401.out _; refine blk_far ?_ NB397_401.out _; refine blk_far ?_ NB397_401.out _; refine blk_far ?_ NB397_401.out _; refine blk_far ?_ NB397_401.out _; refine blk_far ?_ NB397_401.out _; refine blk_far ?_ NB397_401.out _; exact BK397.out) hb); have n1_ := Aside0.mk (blk_below (g := gb401) (o := .cells #[.string ((rd_T50 ((rd_T47 l0_1 x3_1).f1) x4_2).f0), .int .i64 ((rd_T50 ((rd_T47 l0_1 x3_1).f1) x4_2).f1), .int .i64 ((rd_T50 ((rd_T47 l0_1 x3_1).f1) x4_2).f2), .string ((rd_T50 ((rd_T47 l0_1 x3_1).f1) x4_2).f3), .bool ((rd_T50 ((rd_T47 l0_1 x3_1).f1) x4_2).f4), .bool ((rd_T50 ((rd_T47 l0_1 x3_1).f1) x4_2).f5), .string ((rd_T50 ((rd_T47 l0_1 x3_1).f1) x4_2).f6)] 50 (0, 0)) (by refine blk_put (cs := #[.string ((rd_T50 ((rd_T47 l0_1 x3_1).f1) x4_2).f0), .int .i64 ((rd_T50 ((rd_T47 l0_1 x3_1).f1) x4_2).f1), .int .i64 ((rd_T50 ((rd_T47 l0_1 x3_1).f1) x4_2).f2), .string ((rd_T50 ((rd_T47 l0_1 x3_1).f1) x4_2).f3), .bool ((rd_T50 ((rd_T47 l0_1 x3_1).f1) x4_2).f4), .bool ((rd_T50 ((rd_T47 l0_1 x3_1).f1) x4_2).f5), .string (⟨#[]⟩ : ByteArray)]) ?_ 6 _ rfl; refine blk_put (cs := #[.string ((rd_T50 ((rd_T47 l0_1 x3_1).f1) x4_2).f0), .int .i64 ((rd_T50 ((rd_T47 l0_1 x3_1).f1) x4_2).f1), .int .i64 ((rd_T50 ((rd_T47 l0_1 x3_1).f1) x4_2).f2), .string ((rd_T50 ((rd_T47 l0_1 x3_1).f1) x4_2).f3), .bool ((rd_T50 ((rd_T47 l0_1 x3_1).f1) x4_2).f4), .bool false, .string (⟨#[]⟩ : ByteArray)]) ?_ 5 _ rfl; refine blk_put (cs := #[.string ((rd_T50 ((rd_T47 l0_1 x3_1).f1) x4_2).f0), .int .i64 ((rd_T50 ((rd_T47 l0_1 x3_1).f1) x4_2).f1), .int .i64 ((rd_T50 ((rd_T47 l0_1 x3_1).f1) x4_2).f2), .string ((rd_T50 ((rd_T47 l0_1 x3_1).f1) x4_2).f3), .bool false, .bool false, .string (⟨#[]⟩ : ByteArray)]) ?_ 4 _ rfl; refine blk_put (cs := #[.string ((rd_T50 ((rd_T47 l0_1 x3_1).f1) x4_2).f0), .int .i64 ((rd_T50 ((rd_T47 l0_1 x3_1).f1) x4_2).f1), .int .i64 ((rd_T50 ((rd_T47 l0_1 x3_1).f1) x4_2).f2), .string (⟨#[]⟩ : ByteArray), .bool false, .bool false, .string (⟨#[]⟩ : ByteArray)]) ?_ 3 _ rfl; refine blk_put (cs := #[.string ((rd_T50 ((rd_T47 l0_1 x3_1).f1) x4_2).f0), .int .i64 ((rd_T50 ((rd_T47 l0_1 x3_1).f1) x4_2).f1), .int .i64 0, .string (⟨#[]⟩ : ByteArray), .bool false, .bool false, .string (⟨#[]⟩ : ByteArray)]) ?_ 2 _ rfl; refine blk_put (cs := #[.string ((rd_T50 ((rd_T47 l0_1 x3_1).f1) x4_2).f0), .int .i64 0, .int .i64 0, .string (⟨#[]⟩ : ByteArray), .bool false, .bool false, .string (⟨#[]⟩ : ByteArray)]) ?_ 1 _ rfl; refine blk_put (cs := #[.string (⟨#[]⟩ : ByteArray), .int .i64 0, .int .i64 0, .string (⟨#[]⟩ : ByteArray), .bool false, .bool false, .string (⟨#[]⟩ : ByteArray)]) ?_ 0 _ rfl; exact BK401.out) hb); have n2_ := Aside0.mk (below_step (by repeat (first | (with_reducible first | exact HB.out | refine below_set ?_ GE401.out) )) hb); clear BK397; clear BK401; clear HB; have BK397 := n0_; have BK401 := n1_; have HB := n2_; clear n0_ n1_ n2_; (try clear hb); (try clear hb2); (try clear hk); (try clear hi); have hcz36_0 : w35.cell? ⟨gb401, 0, none⟩ = some (.string ((rd_T50 ((rd_T47 l0_1 x3_1).f1) x4_2).f0)) := (blk_cell BK401.out 0).trans rfl; have hcz36_1 : w35.cell? ⟨gb401, 1, none⟩ = some (.int .i64 ((rd_T50 ((rd_T47 l0_1 x3_1).f1) x4_2).f1)) := (blk_cell BK401.out 1).trans rfl; have hcz36_2 : w35.cell? ⟨gb401, 2, none⟩ = some (.int .i64 ((rd_T50 ((rd_T47 l0_1 x3_1).f1) x4_2).f2)) := (blk_cell BK401.out 2).trans rfl; have hcz36_3 : w35.cell? ⟨gb401, 3, none⟩ = some (.string ((rd_T50 ((rd_T47 l0_1 x3_1).f1) x4_2).f3)) := (blk_cell BK401.out 3).trans rfl; have hcz36_4 : w35.cell? ⟨gb401, 4, none⟩ = some (.bool ((rd_T50 ((rd_T47 l0_1 x3_1).f1) x4_2).f4)) := (blk_cell BK401.out 4).trans rfl; have hcz36_5 : w35.cell? ⟨gb401, 5, none⟩ = some (.bool ((rd_T50 ((rd_T47 l0_1 x3_1).f1) x4_2).f5)) := (blk_cell BK401.out 5).trans rfl; have hcz36_6 : w35.cell? ⟨gb401, 6, none⟩ = some (.string ((rd_T50 ((rd_T47 l0_1 x3_1).f1) x4_2).f6)) := (blk_cell BK401.out 6).trans rfl; have hfz36_0 := blk_frozen BK401.out 0; have hfz36_1 := blk_frozen BK401.out 1; have hfz36_2 := blk_frozen BK401.out 2; have hfz36_3 := blk_frozen BK401.out 3; have hfz36_4 := blk_frozen BK401.out 4; have hfz36_5 := blk_frozen BK401.out 5; have hfz36_6 := blk_frozen BK401.out 6; have hcz37_0 : w35.cell? ⟨gb397, 0, none⟩ = some (.slice A0_0 l0_0.length c0_0) := (blk_cell BK397.out 0).trans rfl; have hcz37_1 : w35.cell? ⟨gb397, 1, none⟩ = some (.slice (some ad398) l0_1.length c0_1) := (blk_cell BK397.out 1).trans rfl; have hfz37_0 := blk_frozen BK397.out 0; have hfz37_1 := blk_frozen BK397.out 1) | (go_at_call 27; (with_reducible refine (ecdysisref15_Message.calls k2 _ _ l0_0 _ _ l0_1 ((rd_T50 ((rd_T47 l0_1 x3_1).f1) x4_2).f3) t403 _ ?side1 ?side2 ?side3 ?side4 A19.out).mono ?_); (case side1 => repeat (first | exact (Kd.C_below HR0_0.out HB.out) )); (case side2 => exact HC0_0.out); (case side3 => repeat (first | exact (Kd.C_below HR0_1.out HB.out) )); (case side4 => exact HC0_1.out); rintro e w38 ⟨rfl, hb⟩; have n0_ := Aside0.mk (blk_below BK397.out hb); have n1_ := Aside0.mk (blk_below BK401.out hb); have n2_ := Aside0.mk (below_step HB.out hb); clear BK397; clear BK401; clear HB; have BK397 := n0_; have BK401 := n1_; have HB := n2_; clear n0_ n1_ n2_; (try clear hb); (try clear hb2); (try clear hk); (try clear hi)))
                       go_roundg k2
                       case measure => have := HK1.out; have := HK2.out; omega
                       case rel => exact ⟨(wrap64 (x4_2 + 1)), (by first | rfl ), H', ⟨by have := HK1.out; have := HK2.out; omega⟩, ⟨by exact BK397.out⟩, ⟨by exact HB.out⟩⟩
                   · rw [if_neg c18] at H
                     have c18b0 : (((rd_T50 ((rd_T47 l0_1 x3_1).f1) x4_2).f2) == 15) = false := beq_eq_false_iff_ne.mpr c18
                     have c18b1 : (((rd_T50 ((rd_T47 l0_1 x3_1).f1) x4_2).f2) != 15) = true := bne_iff_ne.mpr c18
                     have H' := Aside0.mk H
                     clear H
                     have hcz39_0 : wr.cell? ⟨gb397, 0, none⟩ = some (.slice A0_0 l0_0.length c0_0) := (blk_cell BK397.out 0).trans rfl
                     have hcz39_1 : wr.cell? ⟨gb397, 1, none⟩ = some (.slice A0_1 l0_1.length c0_1) := (blk_cell BK397.out 1).trans rfl
                     have hfz39_0 := blk_frozen BK397.out 0
                     have hfz39_1 := blk_frozen BK397.out 1
                     have p398 : 0 ≤ (x3_1 : Int) := of_decide_eq_true (by first | (with_reducible assumption) )
                     have q398 : x3_1 < (l0_1.length : Int) := of_decide_eq_true (by first | (with_reducible assumption) )
                     obtain ⟨ad398, A398_1, c398_1, A398_2, c398_2, e398, hx398_0, hx398_1, hx398_2, hl398_1, hi398_1, hl398_2, hi398_2⟩ := at_T47 HR0_1.out x3_1 p398 q398
                     cases e398
                     replace hx398_0 := (HB.out.cell (World.block_lt_of_cell? w _ hx398_0)).trans hx398_0
                     replace hx398_1 := (HB.out.cell (World.block_lt_of_cell? w _ hx398_1)).trans hx398_1
                     replace hx398_2 := (HB.out.cell (World.block_lt_of_cell? w _ hx398_2)).trans hx398_2
                     have HR398_1 := Aside0.mk hi398_1
                     have HC398_1 := Aside0.mk hl398_1
                     clear hi398_1 hl398_1
                     have HR398_2 := Aside0.mk hi398_2
                     have HC398_2 := Aside0.mk hl398_2
                     clear hi398_2 hl398_2
                     replace p398 := eq_true p398
                     replace q398 := eq_true q398
                     have p399 : 0 ≤ (x3_1 : Int) := of_decide_eq_true (by first | (with_reducible assumption) )
                     have q399 : x3_1 < (l0_1.length : Int) := of_decide_eq_true (by first | (with_reducible assumption) )
                     obtain ⟨ad399, A399_1, c399_1, A399_2, c399_2, e399, hx399_0, hx399_1, hx399_2, hl399_1, hi399_1, hl399_2, hi399_2⟩ := at_T47 HR0_1.out x3_1 p399 q399
                     obtain rfl : ad398 = ad399 := (by injection e399)
                     replace hx399_0 := (HB.out.cell (World.block_lt_of_cell? w _ hx399_0)).trans hx399_0
                     replace hx399_1 := (HB.out.cell (World.block_lt_of_cell? w _ hx399_1)).trans hx399_1
                     replace hx399_2 := (HB.out.cell (World.block_lt_of_cell? w _ hx399_2)).trans hx399_2
                     have HR399_1 := Aside0.mk hi399_1
                     have HC399_1 := Aside0.mk hl399_1
                     clear hi399_1 hl399_1
                     have HR399_2 := Aside0.mk hi399_2
                     have HC399_2 := Aside0.mk hl399_2
                     clear hi399_2 hl399_2
                     replace p399 := eq_true p399
                     replace q399 := eq_true q399
                     have ea_ := Option.some.inj (hx398_1.symm.trans hx399_1)
                     injection ea_ with ea_ en_ ec_
                     subst ea_
                     subst ec_
                     clear en_
                     have ea_ := Option.some.inj (hx398_2.symm.trans hx399_2)
                     injection ea_ with ea_ en_ ec_
                     subst ea_
                     subst ec_
                     clear en_
                     have p400 : 0 ≤ (x4_2 : Int) := of_decide_eq_true (by first | (with_reducible assumption) )
                     have q400 : x4_2 < (((rd_T47 l0_1 x3_1).f1).length : Int) := of_decide_eq_true (by first | (with_reducible assumption) )
                     obtain ⟨ad400, e400, hx400_0, hx400_1, hx400_2, hx400_3, hx400_4, hx400_5, hx400_6⟩ := at_T50 HR399_1.out x4_2 p400 q400
                     cases e400
                     replace hx400_0 := (HB.out.cell (World.block_lt_of_cell? w _ hx400_0)).trans hx400_0
                     replace hx400_1 := (HB.out.cell (World.block_lt_of_cell? w _ hx400_1)).trans hx400_1
                     replace hx400_2 := (HB.out.cell (World.block_lt_of_cell? w _ hx400_2)).trans hx400_2
                     replace hx400_3 := (HB.out.cell (World.block_lt_of_cell? w _ hx400_3)).trans hx400_3
                     replace hx400_4 := (HB.out.cell (World.block_lt_of_cell? w _ hx400_4)).trans hx400_4
                     replace hx400_5 := (HB.out.cell (World.block_lt_of_cell? w _ hx400_5)).trans hx400_5
                     replace hx400_6 := (HB.out.cell (World.block_lt_of_cell? w _ hx400_6)).trans hx400_6
                     replace p400 := eq_true p400
                     replace q400 := eq_true q400
                     go_wp2_with (first | ((with_reducible refine gate_dst (N := 5) rfl ?_); refine box_event ?hg (N := 5) ?hd (cs := #[.string (⟨#[]⟩ : ByteArray), .int .i64 0, .int .i64 0, .string (⟨#[]⟩ : ByteArray), .bool false, .bool false, .string (⟨#[]⟩ : ByteArray)]) (t := 50) ?hr ?_; (case hd => rfl); (case hg => rfl); (case hr => first | (go_simp; done) | (go_simp; rfl)); intro gb401 hg w40 hbox hb; have n0_ := Aside0.mk (blk_below BK397.out hb); have n1_ := Aside0.mk (below_step HB.out hb); have n2_ := Aside0.mk (hbox); have n4_ := Aside0.mk ((by rw [hg]; exact (below_size HB.out) : w.heap.size ≤ gb401)); have n5_ := Aside0.mk ((by rw [hg]; exact Nat.ne_of_lt (blk_lt BK397.out) : gb397 ≠ gb401)); have n6_ := Aside0.mk ((by rw [hg]; exact Nat.ne_of_gt (blk_lt BK397.out) : gb401 ≠ gb397)); clear BK397; clear HB; have BK397 := n0_; have HB := n1_; have BK401 := n2_; have GE401 := n4_; have NB397_401 := n5_; have NB401_397 := n6_; clear n0_ n1_ n2_ n4_ n5_ n6_; clear hb hbox hg; have hnb41 := NB401_397.out; have hnc41 := NB397_401.out; have hcz42_0 : w40.cell? ⟨gb401, 0, none⟩ = some (.string (⟨#[]⟩ : ByteArray)) := (blk_cell BK401.out 0).trans rfl; have hcz42_1 : w40.cell? ⟨gb401, 1, none⟩ = some (.int .i64 0) := (blk_cell BK401.out 1).trans rfl; have hcz42_2 : w40.cell? ⟨gb401, 2, none⟩ = some (.int .i64 0) := (blk_cell BK401.out 2).trans rfl; have hcz42_3 : w40.cell? ⟨gb401, 3, none⟩ = some (.string (⟨#[]⟩ : ByteArray)) := (blk_cell BK401.out 3).trans rfl; have hcz42_4 : w40.cell? ⟨gb401, 4, none⟩ = some (.bool false) := (blk_cell BK401.out 4).trans rfl; have hcz42_5 : w40.cell? ⟨gb401, 5, none⟩ = some (.bool false) := (blk_cell BK401.out 5).trans rfl; have hcz42_6 : w40.cell? ⟨gb401, 6, none⟩ = some (.string (⟨#[]⟩ : ByteArray)) := (blk_cell BK401.out 6).trans rfl; have hfz42_0 := blk_frozen BK401.out 0; have hfz42_1 := blk_frozen BK401.out 1; have hfz42_2 := blk_frozen BK401.out 2; have hfz42_3 := blk_frozen BK401.out 3; have hfz42_4 := blk_frozen BK401.out 4; have hfz42_5 := blk_frozen BK401.out 5; have hfz42_6 := blk_frozen BK401.out 6; have hcz43_0 : w40.cell? ⟨gb397, 0, none⟩ = some (.slice A0_0 l0_0.length c0_0) := (blk_cell BK397.out 0).trans rfl; have hcz43_1 : w40.cell? ⟨gb397, 1, none⟩ = some (.slice (some ad398) l0_1.length c0_1) := (blk_cell BK397.out 1).trans rfl; have hfz43_0 := blk_frozen BK397.out 0; have hfz43_1 := blk_frozen BK397.out 1) | (go_at_call 30; (with_reducible refine (ecdysisref15_Enum.calls k2 _ _ l0_0 _ _ l0_1 ((rd_T50 ((rd_T47 l0_1 x3_1).f1) x4_2).f3) t402 _ ?side1 ?side2 ?side3 ?side4 A10.out).mono ?_); (case side1 => exact Kd.C_below HR0_0.out (by repeat (first | (with_reducible first | exact HB.out | refine below_set ?_ GE401.out) ))); (case side2 => exact HC0_0.out); (case side3 => exact Kd.C_below HR0_1.out (by repeat (first | (with_reducible first | exact HB.out | refine below_set ?_ GE401.out) ))); (case side4 => exact HC0_1.out); rintro e w44 ⟨rfl, hb⟩; have n0_ := Aside0.mk (blk_below (g := gb397) (o := .cells #[.slice A0_0 l0_0.length c0_0, .slice (some ad398) l0_1.length c0_1] 35 (0, 0)) (by refine blk_far ?_ NB397_401.out _; refine blk_far ?_ NB397_401.out _; refine blk_far ?_ NB397_401.out _; refine blk_far ?_ NB397_401.out _; refine blk_far ?_ NB397_401.out _; refine blk_far ?_ NB397_401.out _; refine blk_far ?_ NB397_401.out _; exact BK397.out) hb); have n1_ := Aside0.mk (blk_below (g := gb401) (o := .cells #[.string ((rd_T50 ((rd_T47 l0_1 x3_1).f1) x4_2).f0), .int .i64 ((rd_T50 ((rd_T47 l0_1 x3_1).f1) x4_2).f1), .int .i64 ((rd_T50 ((rd_T47 l0_1 x3_1).f1) x4_2).f2), .string ((rd_T50 ((rd_T47 l0_1 x3_1).f1) x4_2).f3), .bool ((rd_T50 ((rd_T47 l0_1 x3_1).f1) x4_2).f4), .bool ((rd_T50 ((rd_T47 l0_1 x3_1).f1) x4_2).f5), .string ((rd_T50 ((rd_T47 l0_1 x3_1).f1) x4_2).f6)] 50 (0, 0)) (by refine blk_put (cs := #[.string ((rd_T50 ((rd_T47 l0_1 x3_1).f1) x4_2).f0), .int .i64 ((rd_T50 ((rd_T47 l0_1 x3_1).f1) x4_2).f1), .int .i64 ((rd_T50 ((rd_T47 l0_1 x3_1).f1) x4_2).f2), .string ((rd_T50 ((rd_T47 l0_1 x3_1).f1) x4_2).f3), .bool ((rd_T50 ((rd_T47 l0_1 x3_1).f1) x4_2).f4), .bool ((rd_T50 ((rd_T47 l0_1 x3_1).f1) x4_2).f5), .string (⟨#[]⟩ : ByteArray)]) ?_ 6 _ rfl; refine blk_put (cs := #[.string ((rd_T50 ((rd_T47 l0_1 x3_1).f1) x4_2).f0), .int .i64 ((rd_T50 ((rd_T47 l0_1 x3_1).f1) x4_2).f1), .int .i64 ((rd_T50 ((rd_T47 l0_1 x3_1).f1) x4_2).f2), .string ((rd_T50 ((rd_T47 l0_1 x3_1).f1) x4_2).f3), .bool ((rd_T50 ((rd_T47 l0_1 x3_1).f1) x4_2).f4), .bool false, .string (⟨#[]⟩ : ByteArray)]) ?_ 5 _ rfl; refine blk_put (cs := #[.string ((rd_T50 ((rd_T47 l0_1 x3_1).f1) x4_2).f0), .int .i64 ((rd_T50 ((rd_T47 l0_1 x3_1).f1) x4_2).f1), .int .i64 ((rd_T50 ((rd_T47 l0_1 x3_1).f1) x4_2).f2), .string ((rd_T50 ((rd_T47 l0_1 x3_1).f1) x4_2).f3), .bool false, .bool false, .string (⟨#[]⟩ : ByteArray)]) ?_ 4 _ rfl; refine blk_put (cs := #[.string ((rd_T50 ((rd_T47 l0_1 x3_1).f1) x4_2).f0), .int .i64 ((rd_T50 ((rd_T47 l0_1 x3_1).f1) x4_2).f1), .int .i64 ((rd_T50 ((rd_T47 l0_1 x3_1).f1) x4_2).f2), .string (⟨#[]⟩ : ByteArray), .bool false, .bool false, .string (⟨#[]⟩ : ByteArray)]) ?_ 3 _ rfl; refine blk_put (cs := #[.string ((rd_T50 ((rd_T47 l0_1 x3_1).f1) x4_2).f0), .int .i64 ((rd_T50 ((rd_T47 l0_1 x3_1).f1) x4_2).f1), .int .i64 0, .string (⟨#[]⟩ : ByteArray), .bool false, .bool false, .string (⟨#[]⟩ : ByteArray)]) ?_ 2 _ rfl; refine blk_put (cs := #[.string ((rd_T50 ((rd_T47 l0_1 x3_1).f1) x4_2).f0), .int .i64 0, .int .i64 0, .string (⟨#[]⟩ : ByteArray), .bool false, .bool false, .string (⟨#[]⟩ : ByteArray)]) ?_ 1 _ rfl; refine blk_put (cs := #[.string (⟨#[]⟩ : ByteArray), .int .i64 0, .int .i64 0, .string (⟨#[]⟩ : ByteArray), .bool false, .bool false, .string (⟨#[]⟩ : ByteArray)]) ?_ 0 _ rfl; exact BK401.out) hb); have n2_ := Aside0.mk (below_step (by repeat (first | (with_reducible first | exact HB.out | refine below_set ?_ GE401.out) )) hb); clear BK397; clear BK401; clear HB; have BK397 := n0_; have BK401 := n1_; have HB := n2_; clear n0_ n1_ n2_; (try clear hb); (try clear hb2); (try clear hk); (try clear hi); have hcz45_0 : w44.cell? ⟨gb401, 0, none⟩ = some (.string ((rd_T50 ((rd_T47 l0_1 x3_1).f1) x4_2).f0)) := (blk_cell BK401.out 0).trans rfl; have hcz45_1 : w44.cell? ⟨gb401, 1, none⟩ = some (.int .i64 ((rd_T50 ((rd_T47 l0_1 x3_1).f1) x4_2).f1)) := (blk_cell BK401.out 1).trans rfl; have hcz45_2 : w44.cell? ⟨gb401, 2, none⟩ = some (.int .i64 ((rd_T50 ((rd_T47 l0_1 x3_1).f1) x4_2).f2)) := (blk_cell BK401.out 2).trans rfl; have hcz45_3 : w44.cell? ⟨gb401, 3, none⟩ = some (.string ((rd_T50 ((rd_T47 l0_1 x3_1).f1) x4_2).f3)) := (blk_cell BK401.out 3).trans rfl; have hcz45_4 : w44.cell? ⟨gb401, 4, none⟩ = some (.bool ((rd_T50 ((rd_T47 l0_1 x3_1).f1) x4_2).f4)) := (blk_cell BK401.out 4).trans rfl; have hcz45_5 : w44.cell? ⟨gb401, 5, none⟩ = some (.bool ((rd_T50 ((rd_T47 l0_1 x3_1).f1) x4_2).f5)) := (blk_cell BK401.out 5).trans rfl; have hcz45_6 : w44.cell? ⟨gb401, 6, none⟩ = some (.string ((rd_T50 ((rd_T47 l0_1 x3_1).f1) x4_2).f6)) := (blk_cell BK401.out 6).trans rfl; have hfz45_0 := blk_frozen BK401.out 0; have hfz45_1 := blk_frozen BK401.out 1; have hfz45_2 := blk_frozen BK401.out 2; have hfz45_3 := blk_frozen BK401.out 3; have hfz45_4 := blk_frozen BK401.out 4; have hfz45_5 := blk_frozen BK401.out 5; have hfz45_6 := blk_frozen BK401.out 6))
                     go_roundg k2
                     case measure => have := HK1.out; have := HK2.out; omega
                     case rel => exact ⟨(wrap64 (x4_2 + 1)), (by first | rfl ), H', ⟨by have := HK1.out; have := HK2.out; omega⟩, ⟨by exact BK397.out⟩, ⟨by exact HB.out⟩⟩
               · rw [if_neg c9] at H
                 have c9b0 : (((rd_T50 ((rd_T47 l0_1 x3_1).f1) x4_2).f2) == 14) = false := beq_eq_false_iff_ne.mpr c9
                 have c9b1 : (((rd_T50 ((rd_T47 l0_1 x3_1).f1) x4_2).f2) != 14) = true := bne_iff_ne.mpr c9
                 by_cases c46 : ((rd_T50 ((rd_T47 l0_1 x3_1).f1) x4_2).f2) = 15
                 · rw [if_pos c46] at H
                   have c46b0 : (((rd_T50 ((rd_T47 l0_1 x3_1).f1) x4_2).f2) == 15) = true := beq_iff_eq.mpr c46
                   have c46b1 : (((rd_T50 ((rd_T47 l0_1 x3_1).f1) x4_2).f2) != 15) = false := bne_eq_false_iff_eq.mpr c46
                   clear c46
                   replace H := Option.bind_eq_some_iff.mp H
                   obtain ⟨t404, A470, H⟩ := H
                   replace H : (if t404 < 0 then (some true) else (ecdysisref15_refs.l1 k2 x3_1 (wrap64 (x4_2 + 1)) l0_0 l0_1)) = some r := H
                   have A47 := Aside0.mk A470
                   clear A470
                   by_cases c48 : t404 < 0
                   · rw [if_pos c48] at H
                     have c48b0 : decide (t404 < 0) = true := decide_eq_true c48
                     clear c48
                     obtain rfl := Option.some.inj H
                     have hcz49_0 : wr.cell? ⟨gb397, 0, none⟩ = some (.slice A0_0 l0_0.length c0_0) := (blk_cell BK397.out 0).trans rfl
                     have hcz49_1 : wr.cell? ⟨gb397, 1, none⟩ = some (.slice A0_1 l0_1.length c0_1) := (blk_cell BK397.out 1).trans rfl
                     have hfz49_0 := blk_frozen BK397.out 0
                     have hfz49_1 := blk_frozen BK397.out 1
                     have p398 : 0 ≤ (x3_1 : Int) := of_decide_eq_true (by first | (with_reducible assumption) )
                     have q398 : x3_1 < (l0_1.length : Int) := of_decide_eq_true (by first | (with_reducible assumption) )
                     obtain ⟨ad398, A398_1, c398_1, A398_2, c398_2, e398, hx398_0, hx398_1, hx398_2, hl398_1, hi398_1, hl398_2, hi398_2⟩ := at_T47 HR0_1.out x3_1 p398 q398
                     cases e398
                     replace hx398_0 := (HB.out.cell (World.block_lt_of_cell? w _ hx398_0)).trans hx398_0
                     replace hx398_1 := (HB.out.cell (World.block_lt_of_cell? w _ hx398_1)).trans hx398_1
                     replace hx398_2 := (HB.out.cell (World.block_lt_of_cell? w _ hx398_2)).trans hx398_2
                     have HR398_1 := Aside0.mk hi398_1
                     have HC398_1 := Aside0.mk hl398_1
                     clear hi398_1 hl398_1
                     have HR398_2 := Aside0.mk hi398_2
                     have HC398_2 := Aside0.mk hl398_2
                     clear hi398_2 hl398_2
                     replace p398 := eq_true p398
                     replace q398 := eq_true q398
                     have p399 : 0 ≤ (x3_1 : Int) := of_decide_eq_true (by first | (with_reducible assumption) )
                     have q399 : x3_1 < (l0_1.length : Int) := of_decide_eq_true (by first | (with_reducible assumption) )
                     obtain ⟨ad399, A399_1, c399_1, A399_2, c399_2, e399, hx399_0, hx399_1, hx399_2, hl399_1, hi399_1, hl399_2, hi399_2⟩ := at_T47 HR0_1.out x3_1 p399 q399
                     obtain rfl : ad398 = ad399 := (by injection e399)
                     replace hx399_0 := (HB.out.cell (World.block_lt_of_cell? w _ hx399_0)).trans hx399_0
                     replace hx399_1 := (HB.out.cell (World.block_lt_of_cell? w _ hx399_1)).trans hx399_1
                     replace hx399_2 := (HB.out.cell (World.block_lt_of_cell? w _ hx399_2)).trans hx399_2
                     have HR399_1 := Aside0.mk hi399_1
                     have HC399_1 := Aside0.mk hl399_1
                     clear hi399_1 hl399_1
                     have HR399_2 := Aside0.mk hi399_2
                     have HC399_2 := Aside0.mk hl399_2
                     clear hi399_2 hl399_2
                     replace p399 := eq_true p399
                     replace q399 := eq_true q399
                     have ea_ := Option.some.inj (hx398_1.symm.trans hx399_1)
                     injection ea_ with ea_ en_ ec_
                     subst ea_
                     subst ec_
                     clear en_
                     have ea_ := Option.some.inj (hx398_2.symm.trans hx399_2)
                     injection ea_ with ea_ en_ ec_
                     subst ea_
                     subst ec_
                     clear en_
                     have p400 : 0 ≤ (x4_2 : Int) := of_decide_eq_true (by first | (with_reducible assumption) )
                     have q400 : x4_2 < (((rd_T47 l0_1 x3_1).f1).length : Int) := of_decide_eq_true (by first | (with_reducible assumption) )
                     obtain ⟨ad400, e400, hx400_0, hx400_1, hx400_2, hx400_3, hx400_4, hx400_5, hx400_6⟩ := at_T50 HR399_1.out x4_2 p400 q400
                     cases e400
                     replace hx400_0 := (HB.out.cell (World.block_lt_of_cell? w _ hx400_0)).trans hx400_0
                     replace hx400_1 := (HB.out.cell (World.block_lt_of_cell? w _ hx400_1)).trans hx400_1
                     replace hx400_2 := (HB.out.cell (World.block_lt_of_cell? w _ hx400_2)).trans hx400_2
                     replace hx400_3 := (HB.out.cell (World.block_lt_of_cell? w _ hx400_3)).trans hx400_3
                     replace hx400_4 := (HB.out.cell (World.block_lt_of_cell? w _ hx400_4)).trans hx400_4
                     replace hx400_5 := (HB.out.cell (World.block_lt_of_cell? w _ hx400_5)).trans hx400_5
                     replace hx400_6 := (HB.out.cell (World.block_lt_of_cell? w _ hx400_6)).trans hx400_6
                     replace p400 := eq_true p400
                     replace q400 := eq_true q400
                     go_wp2_with (first | ((with_reducible refine gate_dst (N := 5) rfl ?_); refine box_event ?hg (N := 5) ?hd (cs := #[.string (⟨#[]⟩ : ByteArray), .int .i64 0, .int .i64 0, .string (⟨#[]⟩ : ByteArray), .bool false, .bool false, .string (⟨#[]⟩ : ByteArray)]) (t := 50) ?hr ?_; (case hd => rfl); (case hg => rfl); (case hr => first | (go_simp; done) | (go_simp; rfl)); intro gb401 hg w50 hbox hb; have n0_ := Aside0.mk (blk_below BK397.out hb); have n1_ := Aside0.mk (below_step HB.out hb); have n2_ := Aside0.mk (hbox); have n4_ := Aside0.mk ((by rw [hg]; exact (below_size HB.out) : w.heap.size ≤ gb401)); have n5_ := Aside0.mk ((by rw [hg]; exact Nat.ne_of_lt (blk_lt BK397.out) : gb397 ≠ gb401)); have n6_ := Aside0.mk ((by rw [hg]; exact Nat.ne_of_gt (blk_lt BK397.out) : gb401 ≠ gb397)); clear BK397; clear HB; have BK397 := n0_; have HB := n1_; have BK401 := n2_; have GE401 := n4_; have NB397_401 := n5_; have NB401_397 := n6_; clear n0_ n1_ n2_ n4_ n5_ n6_; clear hb hbox hg; have hnb51 := NB401_397.out; have hnc51 := NB397_401.out; have hcz52_0 : w50.cell? ⟨gb401, 0, none⟩ = some (.string (⟨#[]⟩ : ByteArray)) := (blk_cell BK401.out 0).trans rfl; have hcz52_1 : w50.cell? ⟨gb401, 1, none⟩ = some (.int .i64 0) := (blk_cell BK401.out 1).trans rfl; have hcz52_2 : w50.cell? ⟨gb401, 2, none⟩ = some (.int .i64 0) := (blk_cell BK401.out 2).trans rfl; have hcz52_3 : w50.cell? ⟨gb401, 3, none⟩ = some (.string (⟨#[]⟩ : ByteArray)) := (blk_cell BK401.out 3).trans rfl; have hcz52_4 : w50.cell? ⟨gb401, 4, none⟩ = some (.bool false) := (blk_cell BK401.out 4).trans rfl; have hcz52_5 : w50.cell? ⟨gb401, 5, none⟩ = some (.bool false) := (blk_cell BK401.out 5).trans rfl; have hcz52_6 : w50.cell? ⟨gb401, 6, none⟩ = some (.string (⟨#[]⟩ : ByteArray)) := (blk_cell BK401.out 6).trans rfl; have hfz52_0 := blk_frozen BK401.out 0; have hfz52_1 := blk_frozen BK401.out 1; have hfz52_2 := blk_frozen BK401.out 2; have hfz52_3 := blk_frozen BK401.out 3; have hfz52_4 := blk_frozen BK401.out 4; have hfz52_5 := blk_frozen BK401.out 5; have hfz52_6 := blk_frozen BK401.out 6; have hcz53_0 : w50.cell? ⟨gb397, 0, none⟩ = some (.slice A0_0 l0_0.length c0_0) := (blk_cell BK397.out 0).trans rfl; have hcz53_1 : w50.cell? ⟨gb397, 1, none⟩ = some (.slice (some ad398) l0_1.length c0_1) := (blk_cell BK397.out 1).trans rfl; have hfz53_0 := blk_frozen BK397.out 0; have hfz53_1 := blk_frozen BK397.out 1) | (go_at_call 27; (with_reducible refine (ecdysisref15_Message.calls k2 _ _ l0_0 _ _ l0_1 ((rd_T50 ((rd_T47 l0_1 x3_1).f1) x4_2).f3) t404 _ ?side1 ?side2 ?side3 ?side4 A47.out).mono ?_); (case side1 => exact Kd.C_below HR0_0.out (by repeat (first | (with_reducible first | exact HB.out | refine below_set ?_ GE401.out) ))); (case side2 => exact HC0_0.out); (case side3 => exact Kd.C_below HR0_1.out (by repeat (first | (with_reducible first | exact HB.out | refine below_set ?_ GE401.out) ))); (case side4 => exact HC0_1.out); rintro e w54 ⟨rfl, hb⟩; have n0_ := Aside0.mk (blk_below (g := gb397) (o := .cells #[.slice A0_0 l0_0.length c0_0, .slice (some ad398) l0_1.length c0_1] 35 (0, 0)) (by refine blk_far ?_ NB397_401.out _; refine blk_far ?_ NB397_401.out _; refine blk_far ?_ NB397_401.out _; refine blk_far ?_ NB397_401.out _; refine blk_far ?_ NB397_401.out _; refine blk_far ?_ NB397_401.out _; refine blk_far ?_ NB397_401.out _; exact BK397.out) hb); have n1_ := Aside0.mk (blk_below (g := gb401) (o := .cells #[.string ((rd_T50 ((rd_T47 l0_1 x3_1).f1) x4_2).f0), .int .i64 ((rd_T50 ((rd_T47 l0_1 x3_1).f1) x4_2).f1), .int .i64 ((rd_T50 ((rd_T47 l0_1 x3_1).f1) x4_2).f2), .string ((rd_T50 ((rd_T47 l0_1 x3_1).f1) x4_2).f3), .bool ((rd_T50 ((rd_T47 l0_1 x3_1).f1) x4_2).f4), .bool ((rd_T50 ((rd_T47 l0_1 x3_1).f1) x4_2).f5), .string ((rd_T50 ((rd_T47 l0_1 x3_1).f1) x4_2).f6)] 50 (0, 0)) (by refine blk_put (cs := #[.string ((rd_T50 ((rd_T47 l0_1 x3_1).f1) x4_2).f0), .int .i64 ((rd_T50 ((rd_T47 l0_1 x3_1).f1) x4_2).f1), .int .i64 ((rd_T50 ((rd_T47 l0_1 x3_1).f1) x4_2).f2), .string ((rd_T50 ((rd_T47 l0_1 x3_1).f1) x4_2).f3), .bool ((rd_T50 ((rd_T47 l0_1 x3_1).f1) x4_2).f4), .bool ((rd_T50 ((rd_T47 l0_1 x3_1).f1) x4_2).f5), .string (⟨#[]⟩ : ByteArray)]) ?_ 6 _ rfl; refine blk_put (cs := #[.string ((rd_T50 ((rd_T47 l0_1 x3_1).f1) x4_2).f0), .int .i64 ((rd_T50 ((rd_T47 l0_1 x3_1).f1) x4_2).f1), .int .i64 ((rd_T50 ((rd_T47 l0_1 x3_1).f1) x4_2).f2), .string ((rd_T50 ((rd_T47 l0_1 x3_1).f1) x4_2).f3), .bool ((rd_T50 ((rd_T47 l0_1 x3_1).f1) x4_2).f4), .bool false, .string (⟨#[]⟩ : ByteArray)]) ?_ 5 _ rfl; refine blk_put (cs := #[.string ((rd_T50 ((rd_T47 l0_1 x3_1).f1) x4_2).f0), .int .i64 ((rd_T50 ((rd_T47 l0_1 x3_1).f1) x4_2).f1), .int .i64 ((rd_T50 ((rd_T47 l0_1 x3_1).f1) x4_2).f2), .string ((rd_T50 ((rd_T47 l0_1 x3_1).f1) x4_2).f3), .bool false, .bool false, .string (⟨#[]⟩ : ByteArray)]) ?_ 4 _ rfl; refine blk_put (cs := #[.string ((rd_T50 ((rd_T47 l0_1 x3_1).f1) x4_2).f0), .int .i64 ((rd_T50 ((rd_T47 l0_1 x3_1).f1) x4_2).f1), .int .i64 ((rd_T50 ((rd_T47 l0_1 x3_1).f1) x4_2).f2), .string (⟨#[]⟩ : ByteArray), .bool false, .bool false, .string (⟨#[]⟩ : ByteArray)]) ?_ 3 _ rfl; refine blk_put (cs := #[.string ((rd_T50 ((rd_T47 l0_1 x3_1).f1) x4_2).f0), .int .i64 ((rd_T50 ((rd_T47 l0_1 x3_1).f1) x4_2).f1), .int .i64 0, .string (⟨#[]⟩ : ByteArray), .bool false, .bool false, .string (⟨#[]⟩ : ByteArray)]) ?_ 2 _ rfl; refine blk_put (cs := #[.string ((rd_T50 ((rd_T47 l0_1 x3_1).f1) x4_2).f0), .int .i64 0, .int .i64 0, .string (⟨#[]⟩ : ByteArray), .bool false, .bool false, .string (⟨#[]⟩ : ByteArray)]) ?_ 1 _ rfl; refine blk_put (cs := #[.string (⟨#[]⟩ : ByteArray), .int .i64 0, .int .i64 0, .string (⟨#[]⟩ : ByteArray), .bool false, .bool false, .string (⟨#[]⟩ : ByteArray)]) ?_ 0 _ rfl; exact BK401.out) hb); have n2_ := Aside0.mk (below_step (by repeat (first | (with_reducible first | exact HB.out | refine below_set ?_ GE401.out) )) hb); clear BK397; clear BK401; clear HB; have BK397 := n0_; have BK401 := n1_; have HB := n2_; clear n0_ n1_ n2_; (try clear hb); (try clear hb2); (try clear hk); (try clear hi)))
                     go_ret
                     exact ⟨by first | rfl , by exact HB.out⟩
                   · rw [if_neg c48] at H
                     have c48b0 : decide (t404 < 0) = false := decide_eq_false c48
                     clear c48
                     have H' := Aside0.mk H
                     clear H
                     have hcz55_0 : wr.cell? ⟨gb397, 0, none⟩ = some (.slice A0_0 l0_0.length c0_0) := (blk_cell BK397.out 0).trans rfl
                     have hcz55_1 : wr.cell? ⟨gb397, 1, none⟩ = some (.slice A0_1 l0_1.length c0_1) := (blk_cell BK397.out 1).trans rfl
                     have hfz55_0 := blk_frozen BK397.out 0
                     have hfz55_1 := blk_frozen BK397.out 1
                     have p398 : 0 ≤ (x3_1 : Int) := of_decide_eq_true (by first | (with_reducible assumption) )
                     have q398 : x3_1 < (l0_1.length : Int) := of_decide_eq_true (by first | (with_reducible assumption) )
                     obtain ⟨ad398, A398_1, c398_1, A398_2, c398_2, e398, hx398_0, hx398_1, hx398_2, hl398_1, hi398_1, hl398_2, hi398_2⟩ := at_T47 HR0_1.out x3_1 p398 q398
                     cases e398
                     replace hx398_0 := (HB.out.cell (World.block_lt_of_cell? w _ hx398_0)).trans hx398_0
                     replace hx398_1 := (HB.out.cell (World.block_lt_of_cell? w _ hx398_1)).trans hx398_1
                     replace hx398_2 := (HB.out.cell (World.block_lt_of_cell? w _ hx398_2)).trans hx398_2
                     have HR398_1 := Aside0.mk hi398_1
                     have HC398_1 := Aside0.mk hl398_1
                     clear hi398_1 hl398_1
                     have HR398_2 := Aside0.mk hi398_2
                     have HC398_2 := Aside0.mk hl398_2
                     clear hi398_2 hl398_2
                     replace p398 := eq_true p398
                     replace q398 := eq_true q398
                     have p399 : 0 ≤ (x3_1 : Int) := of_decide_eq_true (by first | (with_reducible assumption) )
                     have q399 : x3_1 < (l0_1.length : Int) := of_decide_eq_true (by first | (with_reducible assumption) )
                     obtain ⟨ad399, A399_1, c399_1, A399_2, c399_2, e399, hx399_0, hx399_1, hx399_2, hl399_1, hi399_1, hl399_2, hi399_2⟩ := at_T47 HR0_1.out x3_1 p399 q399
                     obtain rfl : ad398 = ad399 := (by injection e399)
                     replace hx399_0 := (HB.out.cell (World.block_lt_of_cell? w _ hx399_0)).trans hx399_0
                     replace hx399_1 := (HB.out.cell (World.block_lt_of_cell? w _ hx399_1)).trans hx399_1
                     replace hx399_2 := (HB.out.cell (World.block_lt_of_cell? w _ hx399_2)).trans hx399_2
                     have HR399_1 := Aside0.mk hi399_1
                     have HC399_1 := Aside0.mk hl399_1
                     clear hi399_1 hl399_1
                     have HR399_2 := Aside0.mk hi399_2
                     have HC399_2 := Aside0.mk hl399_2
                     clear hi399_2 hl399_2
                     replace p399 := eq_true p399
                     replace q399 := eq_true q399
                     have ea_ := Option.some.inj (hx398_1.symm.trans hx399_1)
                     injection ea_ with ea_ en_ ec_
                     subst ea_
                     subst ec_
                     clear en_
                     have ea_ := Option.some.inj (hx398_2.symm.trans hx399_2)
                     injection ea_ with ea_ en_ ec_
                     subst ea_
                     subst ec_
                     clear en_
                     have p400 : 0 ≤ (x4_2 : Int) := of_decide_eq_true (by first | (with_reducible assumption) )
                     have q400 : x4_2 < (((rd_T47 l0_1 x3_1).f1).length : Int) := of_decide_eq_true (by first | (with_reducible assumption) )
                     obtain ⟨ad400, e400, hx400_0, hx400_1, hx400_2, hx400_3, hx400_4, hx400_5, hx400_6⟩ := at_T50 HR399_1.out x4_2 p400 q400
                     cases e400
                     replace hx400_0 := (HB.out.cell (World.block_lt_of_cell? w _ hx400_0)).trans hx400_0
                     replace hx400_1 := (HB.out.cell (World.block_lt_of_cell? w _ hx400_1)).trans hx400_1
                     replace hx400_2 := (HB.out.cell (World.block_lt_of_cell? w _ hx400_2)).trans hx400_2
                     replace hx400_3 := (HB.out.cell (World.block_lt_of_cell? w _ hx400_3)).trans hx400_3
                     replace hx400_4 := (HB.out.cell (World.block_lt_of_cell? w _ hx400_4)).trans hx400_4
                     replace hx400_5 := (HB.out.cell (World.block_lt_of_cell? w _ hx400_5)).trans hx400_5
                     replace hx400_6 := (HB.out.cell (World.block_lt_of_cell? w _ hx400_6)).trans hx400_6
                     replace p400 := eq_true p400
                     replace q400 := eq_true q400
                     go_wp2_with (first | ((with_reducible refine gate_dst (N := 5) rfl ?_); refine box_event ?hg (N := 5) ?hd (cs := #[.string (⟨#[]⟩ : ByteArray), .int .i64 0, .int .i64 0, .string (⟨#[]⟩ : ByteArray), .bool false, .bool false, .string (⟨#[]⟩ : ByteArray)]) (t := 50) ?hr ?_; (case hd => rfl); (case hg => rfl); (case hr => first | (go_simp; done) | (go_simp; rfl)); intro gb401 hg w56 hbox hb; have n0_ := Aside0.mk (blk_below BK397.out hb); have n1_ := Aside0.mk (below_step HB.out hb); have n2_ := Aside0.mk (hbox); have n4_ := Aside0.mk ((by rw [hg]; exact (below_size HB.out) : w.heap.size ≤ gb401)); have n5_ := Aside0.mk ((by rw [hg]; exact Nat.ne_of_lt (blk_lt BK397.out) : gb397 ≠ gb401)); have n6_ := Aside0.mk ((by rw [hg]; exact Nat.ne_of_gt (blk_lt BK397.out) : gb401 ≠ gb397)); clear BK397; clear HB; have BK397 := n0_; have HB := n1_; have BK401 := n2_; have GE401 := n4_; have NB397_401 := n5_; have NB401_397 := n6_; clear n0_ n1_ n2_ n4_ n5_ n6_; clear hb hbox hg; have hnb57 := NB401_397.out; have hnc57 := NB397_401.out; have hcz58_0 : w56.cell? ⟨gb401, 0, none⟩ = some (.string (⟨#[]⟩ : ByteArray)) := (blk_cell BK401.out 0).trans rfl; have hcz58_1 : w56.cell? ⟨gb401, 1, none⟩ = some (.int .i64 0) := (blk_cell BK401.out 1).trans rfl; have hcz58_2 : w56.cell? ⟨gb401, 2, none⟩ = some (.int .i64 0) := (blk_cell BK401.out 2).trans rfl; have hcz58_3 : w56.cell? ⟨gb401, 3, none⟩ = some (.string (⟨#[]⟩ : ByteArray)) := (blk_cell BK401.out 3).trans rfl; have hcz58_4 : w56.cell? ⟨gb401, 4, none⟩ = some (.bool false) := (blk_cell BK401.out 4).trans rfl; have hcz58_5 : w56.cell? ⟨gb401, 5, none⟩ = some (.bool false) := (blk_cell BK401.out 5).trans rfl; have hcz58_6 : w56.cell? ⟨gb401, 6, none⟩ = some (.string (⟨#[]⟩ : ByteArray)) := (blk_cell BK401.out 6).trans rfl; have hfz58_0 := blk_frozen BK401.out 0; have hfz58_1 := blk_frozen BK401.out 1; have hfz58_2 := blk_frozen BK401.out 2; have hfz58_3 := blk_frozen BK401.out 3; have hfz58_4 := blk_frozen BK401.out 4; have hfz58_5 := blk_frozen BK401.out 5; have hfz58_6 := blk_frozen BK401.out 6; have hcz59_0 : w56.cell? ⟨gb397, 0, none⟩ = some (.slice A0_0 l0_0.length c0_0) := (blk_cell BK397.out 0).trans rfl; have hcz59_1 : w56.cell? ⟨gb397, 1, none⟩ = some (.slice (some ad398) l0_1.length c0_1) := (blk_cell BK397.out 1).trans rfl; have hfz59_0 := blk_frozen BK397.out 0; have hfz59_1 := blk_frozen BK397.out 1) | (go_at_call 27; (with_reducible refine (ecdysisref15_Message.calls k2 _ _ l0_0 _ _ l0_1 ((rd_T50 ((rd_T47 l0_1 x3_1).f1) x4_2).f3) t404 _ ?side1 ?side2 ?side3 ?side4 A47.out).mono ?_); (case side1 => exact Kd.C_below HR0_0.out (by repeat (first | (with_reducible first | exact HB.out | refine below_set ?_ GE401.out) ))); (case side2 => exact HC0_0.out); (case side3 => exact Kd.C_below HR0_1.out (by repeat (first | (with_reducible first | exact HB.out | refine below_set ?_ GE401.out) ))); (case side4 => exact HC0_1.out); rintro e w60 ⟨rfl, hb⟩; have n0_ := Aside0.mk (blk_below (g := gb397) (o := .cells #[.slice A0_0 l0_0.length c0_0, .slice (some ad398) l0_1.length c0_1] 35 (0, 0)) (by refine blk_far ?_ NB397_401.out _; refine blk_far ?_ NB397_401.out _; refine blk_far ?_ NB397_401.out _; refine blk_far ?_ NB397_401.out _; refine blk_far ?_ NB397_401.out _; refine blk_far ?_ NB397_401.out _; refine blk_far ?_ NB397_401.out _; exact BK397.out) hb); have n1_ := Aside0.mk (blk_below (g := gb401) (o := .cells #[.string ((rd_T50 ((rd_T47 l0_1 x3_1).f1) x4_2).f0), .int .i64 ((rd_T50 ((rd_T47 l0_1 x3_1).f1) x4_2).f1), .int .i64 ((rd_T50 ((rd_T47 l0_1 x3_1).f1) x4_2).f2), .string ((rd_T50 ((rd_T47 l0_1 x3_1).f1) x4_2).f3), .bool ((rd_T50 ((rd_T47 l0_1 x3_1).f1) x4_2).f4), .bool ((rd_T50 ((rd_T47 l0_1 x3_1).f1) x4_2).f5), .string ((rd_T50 ((rd_T47 l0_1 x3_1).f1) x4_2).f6)] 50 (0, 0)) (by refine blk_put (cs := #[.string ((rd_T50 ((rd_T47 l0_1 x3_1).f1) x4_2).f0), .int .i64 ((rd_T50 ((rd_T47 l0_1 x3_1).f1) x4_2).f1), .int .i64 ((rd_T50 ((rd_T47 l0_1 x3_1).f1) x4_2).f2), .string ((rd_T50 ((rd_T47 l0_1 x3_1).f1) x4_2).f3), .bool ((rd_T50 ((rd_T47 l0_1 x3_1).f1) x4_2).f4), .bool ((rd_T50 ((rd_T47 l0_1 x3_1).f1) x4_2).f5), .string (⟨#[]⟩ : ByteArray)]) ?_ 6 _ rfl; refine blk_put (cs := #[.string ((rd_T50 ((rd_T47 l0_1 x3_1).f1) x4_2).f0), .int .i64 ((rd_T50 ((rd_T47 l0_1 x3_1).f1) x4_2).f1), .int .i64 ((rd_T50 ((rd_T47 l0_1 x3_1).f1) x4_2).f2), .string ((rd_T50 ((rd_T47 l0_1 x3_1).f1) x4_2).f3), .bool ((rd_T50 ((rd_T47 l0_1 x3_1).f1) x4_2).f4), .bool false, .string (⟨#[]⟩ : ByteArray)]) ?_ 5 _ rfl; refine blk_put (cs := #[.string ((rd_T50 ((rd_T47 l0_1 x3_1).f1) x4_2).f0), .int .i64 ((rd_T50 ((rd_T47 l0_1 x3_1).f1) x4_2).f1), .int .i64 ((rd_T50 ((rd_T47 l0_1 x3_1).f1) x4_2).f2), .string ((rd_T50 ((rd_T47 l0_1 x3_1).f1) x4_2).f3), .bool false, .bool false, .string (⟨#[]⟩ : ByteArray)]) ?_ 4 _ rfl; refine blk_put (cs := #[.string ((rd_T50 ((rd_T47 l0_1 x3_1).f1) x4_2).f0), .int .i64 ((rd_T50 ((rd_T47 l0_1 x3_1).f1) x4_2).f1), .int .i64 ((rd_T50 ((rd_T47 l0_1 x3_1).f1) x4_2).f2), .string (⟨#[]⟩ : ByteArray), .bool false, .bool false, .string (⟨#[]⟩ : ByteArray)]) ?_ 3 _ rfl; refine blk_put (cs := #[.string ((rd_T50 ((rd_T47 l0_1 x3_1).f1) x4_2).f0), .int .i64 ((rd_T50 ((rd_T47 l0_1 x3_1).f1) x4_2).f1), .int .i64 0, .string (⟨#[]⟩ : ByteArray), .bool false, .bool false, .string (⟨#[]⟩ : ByteArray)]) ?_ 2 _ rfl; refine blk_put (cs := #[.string ((rd_T50 ((rd_T47 l0_1 x3_1).f1) x4_2).f0), .int .i64 0, .int .i64 0, .string (⟨#[]⟩ : ByteArray), .bool false, .bool false, .string (⟨#[]⟩ : ByteArray)]) ?_ 1 _ rfl; refine blk_put (cs := #[.string (⟨#[]⟩ : ByteArray), .int .i64 0, .int .i64 0, .string (⟨#[]⟩ : ByteArray), .bool false, .bool false, .string (⟨#[]⟩ : ByteArray)]) ?_ 0 _ rfl; exact BK401.out) hb); have n2_ := Aside0.mk (below_step (by repeat (first | (with_reducible first | exact HB.out | refine below_set ?_ GE401.out) )) hb); clear BK397; clear BK401; clear HB; have BK397 := n0_; have BK401 := n1_; have HB := n2_; clear n0_ n1_ n2_; (try clear hb); (try clear hb2); (try clear hk); (try clear hi)))
                     go_roundg k2
                     case measure => have := HK1.out; have := HK2.out; omega
                     case rel => exact ⟨(wrap64 (x4_2 + 1)), (by first | rfl ), H', ⟨by have := HK1.out; have := HK2.out; omega⟩, ⟨by exact BK397.out⟩, ⟨by exact HB.out⟩⟩
                 · rw [if_neg c46] at H
                   have c46b0 : (((rd_T50 ((rd_T47 l0_1 x3_1).f1) x4_2).f2) == 15) = false := beq_eq_false_iff_ne.mpr c46
                   have c46b1 : (((rd_T50 ((rd_T47 l0_1 x3_1).f1) x4_2).f2) != 15) = true := bne_iff_ne.mpr c46
                   have H' := Aside0.mk H
                   clear H
                   have hcz61_0 : wr.cell? ⟨gb397, 0, none⟩ = some (.slice A0_0 l0_0.length c0_0) := (blk_cell BK397.out 0).trans rfl
                   have hcz61_1 : wr.cell? ⟨gb397, 1, none⟩ = some (.slice A0_1 l0_1.length c0_1) := (blk_cell BK397.out 1).trans rfl
                   have hfz61_0 := blk_frozen BK397.out 0
                   have hfz61_1 := blk_frozen BK397.out 1
                   have p398 : 0 ≤ (x3_1 : Int) := of_decide_eq_true (by first | (with_reducible assumption) )
                   have q398 : x3_1 < (l0_1.length : Int) := of_decide_eq_true (by first | (with_reducible assumption) )
                   obtain ⟨ad398, A398_1, c398_1, A398_2, c398_2, e398, hx398_0, hx398_1, hx398_2, hl398_1, hi398_1, hl398_2, hi398_2⟩ := at_T47 HR0_1.out x3_1 p398 q398
                   cases e398
                   replace hx398_0 := (HB.out.cell (World.block_lt_of_cell? w _ hx398_0)).trans hx398_0
                   replace hx398_1 := (HB.out.cell (World.block_lt_of_cell? w _ hx398_1)).trans hx398_1
                   replace hx398_2 := (HB.out.cell (World.block_lt_of_cell? w _ hx398_2)).trans hx398_2
                   have HR398_1 := Aside0.mk hi398_1
                   have HC398_1 := Aside0.mk hl398_1
                   clear hi398_1 hl398_1
                   have HR398_2 := Aside0.mk hi398_2
                   have HC398_2 := Aside0.mk hl398_2
                   clear hi398_2 hl398_2
                   replace p398 := eq_true p398
                   replace q398 := eq_true q398
                   have p399 : 0 ≤ (x3_1 : Int) := of_decide_eq_true (by first | (with_reducible assumption) )
                   have q399 : x3_1 < (l0_1.length : Int) := of_decide_eq_true (by first | (with_reducible assumption) )
                   obtain ⟨ad399, A399_1, c399_1, A399_2, c399_2, e399, hx399_0, hx399_1, hx399_2, hl399_1, hi399_1, hl399_2, hi399_2⟩ := at_T47 HR0_1.out x3_1 p399 q399
                   obtain rfl : ad398 = ad399 := (by injection e399)
                   replace hx399_0 := (HB.out.cell (World.block_lt_of_cell? w _ hx399_0)).trans hx399_0
                   replace hx399_1 := (HB.out.cell (World.block_lt_of_cell? w _ hx399_1)).trans hx399_1
                   replace hx399_2 := (HB.out.cell (World.block_lt_of_cell? w _ hx399_2)).trans hx399_2
                   have HR399_1 := Aside0.mk hi399_1
                   have HC399_1 := Aside0.mk hl399_1
                   clear hi399_1 hl399_1
                   have HR399_2 := Aside0.mk hi399_2
                   have HC399_2 := Aside0.mk hl399_2
                   clear hi399_2 hl399_2
                   replace p399 := eq_true p399
                   replace q399 := eq_true q399
                   have ea_ := Option.some.inj (hx398_1.symm.trans hx399_1)
                   injection ea_ with ea_ en_ ec_
                   subst ea_
                   subst ec_
                   clear en_
                   have ea_ := Option.some.inj (hx398_2.symm.trans hx399_2)
                   injection ea_ with ea_ en_ ec_
                   subst ea_
                   subst ec_
                   clear en_
                   have p400 : 0 ≤ (x4_2 : Int) := of_decide_eq_true (by first | (with_reducible assumption) )
                   have q400 : x4_2 < (((rd_T47 l0_1 x3_1).f1).length : Int) := of_decide_eq_true (by first | (with_reducible assumption) )
                   obtain ⟨ad400, e400, hx400_0, hx400_1, hx400_2, hx400_3, hx400_4, hx400_5, hx400_6⟩ := at_T50 HR399_1.out x4_2 p400 q400
                   cases e400
                   replace hx400_0 := (HB.out.cell (World.block_lt_of_cell? w _ hx400_0)).trans hx400_0
                   replace hx400_1 := (HB.out.cell (World.block_lt_of_cell? w _ hx400_1)).trans hx400_1
                   replace hx400_2 := (HB.out.cell (World.block_lt_of_cell? w _ hx400_2)).trans hx400_2
                   replace hx400_3 := (HB.out.cell (World.block_lt_of_cell? w _ hx400_3)).trans hx400_3
                   replace hx400_4 := (HB.out.cell (World.block_lt_of_cell? w _ hx400_4)).trans hx400_4
                   replace hx400_5 := (HB.out.cell (World.block_lt_of_cell? w _ hx400_5)).trans hx400_5
                   replace hx400_6 := (HB.out.cell (World.block_lt_of_cell? w _ hx400_6)).trans hx400_6
                   replace p400 := eq_true p400
                   replace q400 := eq_true q400
                   go_wp2_with (first | ((with_reducible refine gate_dst (N := 5) rfl ?_); refine box_event ?hg (N := 5) ?hd (cs := #[.string (⟨#[]⟩ : ByteArray), .int .i64 0, .int .i64 0, .string (⟨#[]⟩ : ByteArray), .bool false, .bool false, .string (⟨#[]⟩ : ByteArray)]) (t := 50) ?hr ?_; (case hd => rfl); (case hg => rfl); (case hr => first | (go_simp; done) | (go_simp; rfl)); intro gb401 hg w62 hbox hb; have n0_ := Aside0.mk (blk_below BK397.out hb); have n1_ := Aside0.mk (below_step HB.out hb); have n2_ := Aside0.mk (hbox); have n4_ := Aside0.mk ((by rw [hg]; exact (below_size HB.out) : w.heap.size ≤ gb401)); have n5_ := Aside0.mk ((by rw [hg]; exact Nat.ne_of_lt (blk_lt BK397.out) : gb397 ≠ gb401)); have n6_ := Aside0.mk ((by rw [hg]; exact Nat.ne_of_gt (blk_lt BK397.out) : gb401 ≠ gb397)); clear BK397; clear HB; have BK397 := n0_; have HB := n1_; have BK401 := n2_; have GE401 := n4_; have NB397_401 := n5_; have NB401_397 := n6_; clear n0_ n1_ n2_ n4_ n5_ n6_; clear hb hbox hg; have hnb63 := NB401_397.out; have hnc63 := NB397_401.out; have hcz64_0 : w62.cell? ⟨gb401, 0, none⟩ = some (.string (⟨#[]⟩ : ByteArray)) := (blk_cell BK401.out 0).trans rfl; have hcz64_1 : w62.cell? ⟨gb401, 1, none⟩ = some (.int .i64 0) := (blk_cell BK401.out 1).trans rfl; have hcz64_2 : w62.cell? ⟨gb401, 2, none⟩ = some (.int .i64 0) := (blk_cell BK401.out 2).trans rfl; have hcz64_3 : w62.cell? ⟨gb401, 3, none⟩ = some (.string (⟨#[]⟩ : ByteArray)) := (blk_cell BK401.out 3).trans rfl; have hcz64_4 : w62.cell? ⟨gb401, 4, none⟩ = some (.bool false) := (blk_cell BK401.out 4).trans rfl; have hcz64_5 : w62.cell? ⟨gb401, 5, none⟩ = some (.bool false) := (blk_cell BK401.out 5).trans rfl; have hcz64_6 : w62.cell? ⟨gb401, 6, none⟩ = some (.string (⟨#[]⟩ : ByteArray)) := (blk_cell BK401.out 6).trans rfl; have hfz64_0 := blk_frozen BK401.out 0; have hfz64_1 := blk_frozen BK401.out 1; have hfz64_2 := blk_frozen BK401.out 2; have hfz64_3 := blk_frozen BK401.out 3; have hfz64_4 := blk_frozen BK401.out 4; have hfz64_5 := blk_frozen BK401.out 5; have hfz64_6 := blk_frozen BK401.out 6))
                   go_roundg k2
                   case measure => have := HK1.out; have := HK2.out; omega
                   case rel => exact ⟨(wrap64 (x4_2 + 1)), (by first | rfl ), H', ⟨by have := HK1.out; have := HK2.out; omega⟩, ⟨by refine blk_far ?_ NB397_401.out _; refine blk_far ?_ NB397_401.out _; refine blk_far ?_ NB397_401.out _; refine blk_far ?_ NB397_401.out _; refine blk_far ?_ NB397_401.out _; refine blk_far ?_ NB397_401.out _; refine blk_far ?_ NB397_401.out _; exact BK397.out⟩, ⟨by repeat (first | (with_reducible first | exact HB.out | refine below_set ?_ GE401.out) )⟩⟩
             · rw [if_neg c8] at H
               exact absurd H (by simp)
           · rw [if_neg c7] at H
             have c7b0 : decide (x4_2 < (((rd_T47 l0_1 x3_1).f1).length : Int)) = false := decide_eq_false c7
             clear c7
             have H' := Aside0.mk H
             clear H
             have hcz65_0 : wr.cell? ⟨gb397, 0, none⟩ = some (.slice A0_0 l0_0.length c0_0) := (blk_cell BK397.out 0).trans rfl
             have hcz65_1 : wr.cell? ⟨gb397, 1, none⟩ = some (.slice A0_1 l0_1.length c0_1) := (blk_cell BK397.out 1).trans rfl
             have hfz65_0 := blk_frozen BK397.out 0
             have hfz65_1 := blk_frozen BK397.out 1
             have p398 : 0 ≤ (x3_1 : Int) := of_decide_eq_true (by first | (with_reducible assumption) )
             have q398 : x3_1 < (l0_1.length : Int) := of_decide_eq_true (by first | (with_reducible assumption) )
             obtain ⟨ad398, A398_1, c398_1, A398_2, c398_2, e398, hx398_0, hx398_1, hx398_2, hl398_1, hi398_1, hl398_2, hi398_2⟩ := at_T47 HR0_1.out x3_1 p398 q398
             cases e398
             replace hx398_0 := (HB.out.cell (World.block_lt_of_cell? w _ hx398_0)).trans hx398_0
             replace hx398_1 := (HB.out.cell (World.block_lt_of_cell? w _ hx398_1)).trans hx398_1
             replace hx398_2 := (HB.out.cell (World.block_lt_of_cell? w _ hx398_2)).trans hx398_2
             have HR398_1 := Aside0.mk hi398_1
             have HC398_1 := Aside0.mk hl398_1
             clear hi398_1 hl398_1
             have HR398_2 := Aside0.mk hi398_2
             have HC398_2 := Aside0.mk hl398_2
             clear hi398_2 hl398_2
             replace p398 := eq_true p398
             replace q398 := eq_true q398
             go_wp2
             go_roundg k2
             case measure => have := HK1.out; have := HK2.out; omega
             case rel => exact ⟨(wrap64 (x3_1 + 1)), (by first | rfl ), H', ⟨by have := HK1.out; have := HK2.out; omega⟩, ⟨by exact BK397.out⟩, ⟨by exact HB.out⟩⟩
         · rw [if_neg c6] at H
           exact absurd H (by simp)
       · rw [if_neg c5] at H
         exact absurd H (by simp)
   · rw [if_neg c3] at H
     have c3b0 : decide (x3_1 < (l0_1.length : Int)) = false := decide_eq_false c3
     clear c3
     obtain rfl := Option.some.inj H
     have hcz66_0 : wr.cell? ⟨gb397, 0, none⟩ = some (.slice A0_0 l0_0.length c0_0) := (blk_cell BK397.out 0).trans rfl
     have hcz66_1 : wr.cell? ⟨gb397, 1, none⟩ = some (.slice A0_1 l0_1.length c0_1) := (blk_cell BK397.out 1).trans rfl
     have hfz66_0 := blk_frozen BK397.out 0
     have hfz66_1 := blk_frozen BK397.out 1
     go_wp2
     go_ret
     exact ⟨by first | rfl , by exact HB.out⟩
end Go.Proofs.Ytbpnfpckoapdbaa.PF16
end

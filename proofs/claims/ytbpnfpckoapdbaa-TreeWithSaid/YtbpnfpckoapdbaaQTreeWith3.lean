/- The law TreeWith: the values of every number, and every tree with others there; no conditions but those of the row. (text 4 of 4; some of it the words and functions that the kit's print and this claim's programs wrote) -/
import Derived.Test.YtbpnfpckoapdbaaQTreeWith2
import Derived.Test.YtbpnfpckoapdbaaRows
import Derived.WalkKit
import Derived.ProofKit
import Derived.OpenShut
import Derived.ShutString
import Derived.ChangeOld
import Derived.Below
import Derived.SizedLaws
section
namespace Go.Proofs.Ytbpnfpckoapdbaa.PT19W
open Go.RowKit Go.Proofs.Ytbpnfpckoapdbaa.M Go.Proofs.Ytbpnfpckoapdbaa.KD Go.Proofs.Ytbpnfpckoapdbaa Go.Proofs.YtbpnfpckoapdbaaW.PrintWords Go.Proofs.YtbpnfpckoapdbaaW.PrintLast Go.Proofs.YtbpnfpckoapdbaaW.PrintMore
attribute [local go_sem] max2_int min2_int max_two min_two max_three min_three max_four min_four   -- for this text's walks alone
set_option linter.unusedVariables false
set_option linter.unusedSimpArgs false
def ecdysisref19_With.l0 : Nat → Int → List (S70) → Bool → Int → List (S59) → List (S73) → List (S59) → List (S73) → Option ((List (S59)) × (List (S73)))
 | 0, _, _, _, _, _, _, _, _ => none
 | k + 1, x1, x2, x8, x9, x102000, x102001, x104000, x104001 => if x9 < (x102000.length : Int) then (if 0 ≤ x9 then (if ((rd_T59 x102000 x9).f0) = x1 then (ecdysisref19_With.l0 k x1 x2 x8 (wrap64 (x9 + 1)) x102000 x102001 x104000 x104001) else (if x8 = true then (if x104000.length < 4398046511104 then (ecdysisref19_With.l0 k x1 x2 x8 (wrap64 (x9 + 1)) x102000 x102001 (x104000 ++ [(⟨(rd_T59 x102000 x9).f0, (rd_T59 x102000 x9).f1⟩ : S59)]) x104001) else (none)) else (if ((rd_T59 x102000 x9).f0) > x1 then (if x104000.length < 4398046511104 then ((some (x104000 ++ [(⟨x1, x2⟩ : S59)] : List (S59))).bind fun y113 => (if y113.length < 4398046511104 then (ecdysisref19_With.l0 k x1 x2 true (wrap64 (x9 + 1)) x102000 x102001 (y113 ++ [(⟨(rd_T59 x102000 x9).f0, (rd_T59 x102000 x9).f1⟩ : S59)]) x104001) else (none))) else (none)) else (if x104000.length < 4398046511104 then (ecdysisref19_With.l0 k x1 x2 x8 (wrap64 (x9 + 1)) x102000 x102001 (x104000 ++ [(⟨(rd_T59 x102000 x9).f0, (rd_T59 x102000 x9).f1⟩ : S59)]) x104001) else (none))))) else (none)) else (if x8 = true then (some (x104000, x104001)) else (if x104000.length < 4398046511104 then (some ((x104000 ++ [(⟨x1, x2⟩ : S59)]), x104001)) else (none)))
def ecdysisref19_With.f (k : Nat) (l0_0 : List (S59)) (l0_1 : List (S73)) (a1 : Int) (l2 : List (S70)) : Option ((List (S59)) × (List (S73))) := ecdysisref19_With.l0 k a1 l2 ((l2.length : Int) == 0) 0 l0_0 l0_1 ([] : List (S59)) l0_1
def ecdysisref19_With.T10 : Bool × List (List Nat × List Nat) := (true, [([], []), ([0], [0]), ([], []), ([2], [2]), ([], []), ([3, 4], [3, 4]), ([5], [5]), ([6], [6]), ([1, 7], [1, 7]), ([0, 1, 2, 3, 4, 5, 6, 7, 8], []), ([9, 8, 8, 0, 1, 2, 3, 4, 5, 6, 7, 8], [8, 9])])
def ecdysisref19_With.B10 : List Nat := [0, 1, 0, 4, 0, 28, 60, 124, 255, 511, 1023]
theorem ecdysisref19_With.tab10 : rtab .any (opsOf Try.f46 10) = ecdysisref19_With.T10 := by kernel_rfl
theorem ecdysisref19_With.bits10 : waitsOk ecdysisref19_With.T10.2 ecdysisref19_With.B10 = true := by kernel_rfl
set_option maxHeartbeats 8000000 in
set_option maxRecDepth 100000 in
theorem ecdysisref19_With.calls (k : Nat) (P0_0_ : Nat → Prop) (A0_0 : Option Addr) (c0_0 : Nat) (l0_0 : List (S59)) (P0_1_ : Nat → Prop) (A0_1 : Option Addr) (c0_1 : Nat) (l0_1 : List (S73)) (a1 : Int) (P2_ : Nat → Prop) (A2 : Option Addr) (c2 : Nat) (l2 : List (S70)) (r1 : List (S59)) (r2 : List (S73)) (w : World) (hs0_0 : Kd.V k59 59 w w.heap.size (fun k_ => P0_0_ k_) (.slice A0_0 l0_0.length c0_0) l0_0) (hs0_1 : Kd.V k73 73 w w.heap.size (fun k_ => P0_1_ k_) (.slice A0_1 l0_1.length c0_1) l0_1) (hs2 : Kd.V k70 70 w w.heap.size (fun k_ => P2_ k_) (.slice A2 l2.length c2) l2) (h : ecdysisref19_With.f k l0_0 l0_1 a1 l2 = some (r1, r2)) :
  Calls Try.prog 46 #[.agg #[.slice A0_0 l0_0.length c0_0, .slice A0_1 l0_1.length c0_1], .int .i64 a1, .slice A2 l2.length c2] w fun e w' => ∃ v0_ v1_ : Value, e = .returned (.agg #[v0_, v1_]) ∧ Kd.N k59 59 w' w.heap.size (fun k_ => ((P0_0_ k_ ∨ P0_1_ k_ ∨ P2_ k_) ∨ w.heap.size ≤ k_)) v0_ r1 ∧ Kd.V k73 73 w' w.heap.size (fun k_ => ((P0_0_ k_ ∨ P0_1_ k_ ∨ P2_ k_) ∨ w.heap.size ≤ k_) ∧ some k_ ≠ (v0_ : Value).ownBlock) v1_ r2 ∧ Below w.heap.size w w' := by
 have hu25 := Try.underlying25
 have hu59 := Try.underlying59
 have HO0_0 := Aside0.mk (show Kd.V k59 59 w w.heap.size (fun k_ => ((P0_0_ k_ ∨ P0_1_ k_ ∨ P2_ k_) ∨ w.heap.size ≤ k_)) (.slice A0_0 l0_0.length c0_0) l0_0 from Kd.V_mono hs0_0 (fun k_ hk => .inl (.inl hk)))
 have HO0_1 := Aside0.mk (show Kd.V k73 73 w w.heap.size (fun k_ => ((P0_0_ k_ ∨ P0_1_ k_ ∨ P2_ k_) ∨ w.heap.size ≤ k_)) (.slice A0_1 l0_1.length c0_1) l0_1 from Kd.V_mono hs0_1 (fun k_ hk => .inl (.inr (.inl hk))))
 have HO2 := Aside0.mk (show Kd.V k70 70 w w.heap.size (fun k_ => ((P0_0_ k_ ∨ P0_1_ k_ ∨ P2_ k_) ∨ w.heap.size ≤ k_)) (.slice A2 l2.length c2) l2 from Kd.V_mono hs2 (fun k_ hk => .inl (.inr (.inr hk))))
 have HB := Aside0.mk (Below.refl w.heap.size w)
 have H : (ecdysisref19_With.l0 k a1 l2 ((l2.length : Int) == 0) 0 l0_0 l0_1 ([] : List (S59)) l0_1) = some (r1, r2) := h
 clear h
 have H' := Aside0.mk H
 clear H
 go_enter Try.func46, Try.ntmps46
 go_wp2_with (first | ((with_reducible refine gate_dst (N := 3) rfl ?_); refine box_event ?hg (N := 3) ?hd (cs := #[.slice A0_0 l0_0.length c0_0, .slice A0_1 l0_1.length c0_1]) (t := 25) ?hr ?_; (case hd => rfl); (case hg => rfl); (case hr => first | (go_simp; done) | (go_simp; rfl)); intro gb101 hg w4 hbox hb; have n0_ := Aside0.mk (Kd.V_below (Kd.V_elderB HO0_0.out gb101 (Nat.le_of_eq hg.symm)) hb); have n1_ := Aside0.mk (Kd.V_below (Kd.V_elderB HO0_1.out gb101 (Nat.le_of_eq hg.symm)) hb); have n2_ := Aside0.mk (Kd.V_below (Kd.V_elderB HO2.out gb101 (Nat.le_of_eq hg.symm)) hb); have n3_ := Aside0.mk (below_step HB.out hb); have n4_ := Aside0.mk (hbox); clear HO0_0; clear HO0_1; clear HO2; clear HB; have HO0_0 := n0_; have HO0_1 := n1_; have HO2 := n2_; have HB := n3_; have BK101 := n4_; clear n0_ n1_ n2_ n3_ n4_; clear hb hbox hg) | ((with_reducible refine gate_dst (N := 6) rfl ?_); refine box_event ?hg (N := 6) ?hd (cs := #[.slice none 0 0, .slice none 0 0]) (t := 25) ?hr ?_; (case hd => rfl); (case hg => rfl); (case hr => first | (go_simp; done) | (go_simp; rfl)); intro gb102 hg w5 hbox hb; have n0_ := Aside0.mk (Kd.V_below (Kd.V_elderB HO0_0.out gb102 (Nat.le_of_eq hg.symm)) hb); have n1_ := Aside0.mk (Kd.V_below (Kd.V_elderB HO0_1.out gb102 (Nat.le_of_eq hg.symm)) hb); have n2_ := Aside0.mk (Kd.V_below (Kd.V_elderB HO2.out gb102 (Nat.le_of_eq hg.symm)) hb); have n3_ := Aside0.mk (blk_below BK101.out hb); have n4_ := Aside0.mk (below_step HB.out hb); have n5_ := Aside0.mk (hbox); have n7_ := Aside0.mk ((by rw [hg]; exact (below_size HB.out) : w.heap.size ≤ gb102)); have n8_ := Aside0.mk ((by rw [hg]; exact Nat.ne_of_lt (blk_lt BK101.out) : gb101 ≠ gb102)); have n9_ := Aside0.mk ((by rw [hg]; exact Nat.ne_of_gt (blk_lt BK101.out) : gb102 ≠ gb101)); clear HO0_0; clear HO0_1; clear HO2; clear BK101; clear HB; have HO0_0 := n0_; have HO0_1 := n1_; have HO2 := n2_; have BK101 := n3_; have HB := n4_; have BK102 := n5_; have GE102 := n7_; have NB101_102 := n8_; have NB102_101 := n9_; clear n0_ n1_ n2_ n3_ n4_ n5_ n7_ n8_ n9_; clear hb hbox hg; have hnb6 := NB101_102.out; have hnc6 := NB102_101.out; have hcz7_0 : w5.cell? ⟨gb101, 0, none⟩ = some (.slice A0_0 l0_0.length c0_0) := (blk_cell BK101.out 0).trans rfl; have hcz7_1 : w5.cell? ⟨gb101, 1, none⟩ = some (.slice A0_1 l0_1.length c0_1) := (blk_cell BK101.out 1).trans rfl; have hfz7_0 := blk_frozen BK101.out 0; have hfz7_1 := blk_frozen BK101.out 1) | ((with_reducible refine gate_dst (N := 7) rfl ?_); refine box_event ?hg (N := 7) ?hd (cs := #[.slice none 0 0, .slice none 0 0]) (t := 25) ?hr ?_; (case hd => rfl); (case hg => rfl); (case hr => first | (go_simp; done) | (go_simp; rfl)); intro gb103 hg w8 hbox hb; have n0_ := Aside0.mk (Kd.V_below (Kd.V_elderB HO0_0.out gb103 (Nat.le_of_eq hg.symm)) hb); have n1_ := Aside0.mk (Kd.V_below (Kd.V_elderB HO0_1.out gb103 (Nat.le_of_eq hg.symm)) hb); have n2_ := Aside0.mk (Kd.V_below (Kd.V_elderB HO2.out gb103 (Nat.le_of_eq hg.symm)) hb); have n3_ := Aside0.mk (blk_below BK101.out hb); have n4_ := Aside0.mk (blk_below BK102.out hb); have n5_ := Aside0.mk (below_step HB.out hb); have n6_ := Aside0.mk (hbox); have n8_ := Aside0.mk ((by rw [hg]; exact (below_size HB.out) : w.heap.size ≤ gb103)); have n9_ := Aside0.mk ((by rw [hg]; exact Nat.ne_of_lt (blk_lt BK101.out) : gb101 ≠ gb103)); have n10_ := Aside0.mk ((by rw [hg]; exact Nat.ne_of_gt (blk_lt BK101.out) : gb103 ≠ gb101)); have n11_ := Aside0.mk ((by rw [hg]; exact Nat.ne_of_lt (blk_lt BK102.out) : gb102 ≠ gb103)); have n12_ := Aside0.mk ((by rw [hg]; exact Nat.ne_of_gt (blk_lt BK102.out) : gb103 ≠ gb102)); clear HO0_0; clear HO0_1; clear HO2; clear BK101; clear BK102; clear HB; have HO0_0 := n0_; have HO0_1 := n1_; have HO2 := n2_; have BK101 := n3_; have BK102 := n4_; have HB := n5_; have BK103 := n6_; have GE103 := n8_; have NB101_103 := n9_; have NB103_101 := n10_; have NB102_103 := n11_; have NB103_102 := n12_; clear n0_ n1_ n2_ n3_ n4_ n5_ n6_ n8_ n9_ n10_ n11_ n12_; clear hb hbox hg; have hnb9 := NB103_101.out; have hnc9 := NB101_103.out; have hnb10 := NB103_102.out; have hnc10 := NB102_103.out; have hcz11_0 : w8.cell? ⟨gb103, 0, none⟩ = some (.slice none 0 0) := (blk_cell BK103.out 0).trans rfl; have hcz11_1 : w8.cell? ⟨gb103, 1, none⟩ = some (.slice none 0 0) := (blk_cell BK103.out 1).trans rfl; have hfz11_0 := blk_frozen BK103.out 0; have hfz11_1 := blk_frozen BK103.out 1))
 go_loopg [8, 9] k (fun kq v8 v9 w' => ∃ (x8_1 : Bool) (x9_1 : Int) (x104000_1 : List (S59)) (u104000 : Value), v8 = .bool x8_1 ∧ v9 = .int .i64 x9_1 ∧ Aside0 (ecdysisref19_With.l0 kq a1 l2 x8_1 x9_1 l0_0 l0_1 x104000_1 l0_1 = some (r1, r2)) ∧ Aside0 (kq ≤ k) ∧ Aside0 (Kd.V k70 70 w' w.heap.size (fun k_ => ((P0_0_ k_ ∨ P0_1_ k_ ∨ P2_ k_) ∨ w.heap.size ≤ k_) ∧ some k_ ≠ (u104000 : Value).ownBlock ∧ k_ ≠ gb101 ∧ k_ ≠ gb102 ∧ k_ ≠ gb103) (.slice A2 l2.length c2) l2) ∧ Aside0 (Kd.V k59 59 w' w.heap.size (fun k_ => ((P0_0_ k_ ∨ P0_1_ k_ ∨ P2_ k_) ∨ w.heap.size ≤ k_) ∧ some k_ ≠ (u104000 : Value).ownBlock ∧ k_ ≠ gb101 ∧ k_ ≠ gb102 ∧ k_ ≠ gb103) (.slice A0_0 l0_0.length c0_0) l0_0) ∧ Aside0 (Kd.V k73 73 w' w.heap.size (fun k_ => ((P0_0_ k_ ∨ P0_1_ k_ ∨ P2_ k_) ∨ w.heap.size ≤ k_) ∧ some k_ ≠ (u104000 : Value).ownBlock ∧ k_ ≠ gb101 ∧ k_ ≠ gb102 ∧ k_ ≠ gb103) (.slice A0_1 l0_1.length c0_1) l0_1) ∧ Aside0 (Kd.N k59 59 w' w.heap.size (fun k_ => ((P0_0_ k_ ∨ P0_1_ k_ ∨ P2_ k_) ∨ w.heap.size ≤ k_) ∧ k_ ≠ gb101 ∧ k_ ≠ gb102 ∧ k_ ≠ gb103) u104000 x104000_1) ∧ Aside0 (Kd.V k73 73 w' w.heap.size (fun k_ => ((P0_0_ k_ ∨ P0_1_ k_ ∨ P2_ k_) ∨ w.heap.size ≤ k_) ∧ some k_ ≠ (u104000 : Value).ownBlock ∧ k_ ≠ gb101 ∧ k_ ≠ gb102 ∧ k_ ≠ gb103) (.slice A0_1 l0_1.length c0_1) l0_1) ∧ Aside0 (w'.heap[gb101]? = some (.cells #[(.slice A0_0 l0_0.length c0_0), (.slice A0_1 l0_1.length c0_1)] 25 (0, 0))) ∧ Aside0 (w'.heap[gb102]? = some (.cells #[(.slice none 0 0), (.slice none 0 0)] 25 (0, 0))) ∧ Aside0 (w'.heap[gb103]? = some (.cells #[u104000, (.slice A0_1 l0_1.length c0_1)] 25 (0, 0))) ∧ Aside0 (Below w.heap.size w w'))
 case atStart => exact ⟨(((l2.length : Int) == 0)), (0), (([] : List (S59))), (.slice none 0 0), (by first | rfl ), (by first | rfl ), H', ⟨Nat.le_refl _⟩, ⟨by exact Kd.V_mono (Kd.V_far (p := ⟨gb103, 1, none⟩) (Kd.V_far (p := ⟨gb103, 0, none⟩) (Kd.V_mono HO2.out (fun k_ hk => (⟨hk, hk.2⟩ : _ ∧ k_ ≠ gb103))) (fun _ hk => hk.2) (.slice none 0 0)) (fun _ hk => hk.2) (.slice A0_1 l0_1.length c0_1)) (fun _ hk => ⟨hk.1.1.1.1, ⟨(by simp [Value.ownBlock]), ⟨hk.1.1.1.2, ⟨hk.1.1.2, hk.1.2⟩⟩⟩⟩)⟩, ⟨by exact Kd.V_mono (Kd.V_far (p := ⟨gb103, 1, none⟩) (Kd.V_far (p := ⟨gb103, 0, none⟩) (Kd.V_mono HO0_0.out (fun k_ hk => (⟨hk, hk.2⟩ : _ ∧ k_ ≠ gb103))) (fun _ hk => hk.2) (.slice none 0 0)) (fun _ hk => hk.2) (.slice A0_1 l0_1.length c0_1)) (fun _ hk => ⟨hk.1.1.1.1, ⟨(by simp [Value.ownBlock]), ⟨hk.1.1.1.2, ⟨hk.1.1.2, hk.1.2⟩⟩⟩⟩)⟩, ⟨by exact Kd.V_mono (Kd.V_far (p := ⟨gb103, 1, none⟩) (Kd.V_far (p := ⟨gb103, 0, none⟩) (Kd.V_mono HO0_1.out (fun k_ hk => (⟨hk, hk.2⟩ : _ ∧ k_ ≠ gb103))) (fun _ hk => hk.2) (.slice none 0 0)) (fun _ hk => hk.2) (.slice A0_1 l0_1.length c0_1)) (fun _ hk => ⟨hk.1.1.1.1, ⟨(by simp [Value.ownBlock]), ⟨hk.1.1.1.2, ⟨hk.1.1.2, hk.1.2⟩⟩⟩⟩)⟩, ⟨by first | exact Kd.N_nil _ _ _ _ _ ⟩, ⟨by exact Kd.V_mono (Kd.V_far (p := ⟨gb103, 1, none⟩) (Kd.V_far (p := ⟨gb103, 0, none⟩) (Kd.V_mono HO0_1.out (fun k_ hk => (⟨hk, hk.2⟩ : _ ∧ k_ ≠ gb103))) (fun _ hk => hk.2) (.slice none 0 0)) (fun _ hk => hk.2) (.slice A0_1 l0_1.length c0_1)) (fun _ hk => ⟨hk.1.1.1.1, ⟨(by simp [Value.ownBlock]), ⟨hk.1.1.1.2, ⟨hk.1.1.2, hk.1.2⟩⟩⟩⟩)⟩, ⟨by refine blk_far ?_ NB101_103.out _; refine blk_far ?_ NB101_103.out _; exact BK101.out⟩, ⟨by refine blk_far ?_ NB102_103.out _; refine blk_far ?_ NB102_103.out _; exact BK102.out⟩, ⟨by refine blk_put (cs := #[.slice none 0 0, .slice none 0 0]) ?_ 1 _ rfl; refine blk_put (cs := #[.slice none 0 0, .slice none 0 0]) ?_ 0 _ rfl; exact BK103.out⟩, ⟨by repeat (first | (with_reducible first | exact HB.out | refine below_set ?_ GE103.out) )⟩⟩
 case round =>
  clear H'
  try clear c1
  try clear c2
  try clear p2
  try clear c4
  try clear c6
  try clear c9
  try clear c10
  try clear hcz11_0
  try clear hcz11_1
  try clear hcz7_0
  try clear hcz7_1
  try clear hfz11_0
  try clear hfz11_1
  try clear hfz7_0
  try clear hfz7_1
  obtain ⟨x8_1, x9_1, x104000_1, u104000, rfl, rfl, HA, HK1, HO_2, HO_102000, HO_102001, HO_104000, HO_104001, BK101, BK102, BK103, HB⟩ := hrel
  cases gk with
  | zero => exact absurd HA.out (by simp [ecdysisref19_With.l0])
  | succ k1 =>
   have H := HA.out
   clear HA
   simp only [ecdysisref19_With.l0] at H
   by_cases c12 : x9_1 < (l0_0.length : Int)
   · rw [if_pos c12] at H
     have c12b0 : decide (x9_1 < (l0_0.length : Int)) = true := decide_eq_true c12
     clear c12
     by_cases c13 : 0 ≤ x9_1
     · rw [if_pos c13] at H
       have c13b0 : decide (0 ≤ x9_1) = true := decide_eq_true c13
       clear c13
       by_cases c14 : ((rd_T59 l0_0 x9_1).f0) = a1
       · rw [if_pos c14] at H
         have c14b0 : (((rd_T59 l0_0 x9_1).f0) == a1) = true := beq_iff_eq.mpr c14
         have c14b1 : (((rd_T59 l0_0 x9_1).f0) != a1) = false := bne_eq_false_iff_eq.mpr c14
         clear c14
         have H' := Aside0.mk H
         clear H
         have hnb15 := NB101_102.out
         have hnc15 := NB102_101.out
         have hnb16 := NB101_103.out
         have hnc16 := NB103_101.out
         have hcz17_0 : wr.cell? ⟨gb101, 0, none⟩ = some (.slice A0_0 l0_0.length c0_0) := (blk_cell BK101.out 0).trans rfl
         have hcz17_1 : wr.cell? ⟨gb101, 1, none⟩ = some (.slice A0_1 l0_1.length c0_1) := (blk_cell BK101.out 1).trans rfl
         have hfz17_0 := blk_frozen BK101.out 0
         have hfz17_1 := blk_frozen BK101.out 1
         have p107 : 0 ≤ (x9_1 : Int) := of_decide_eq_true (by first | (with_reducible assumption) )
         have q107 : x9_1 < (l0_0.length : Int) := of_decide_eq_true (by first | (with_reducible assumption) )
         obtain ⟨ad107, A107_1, c107_1, e107, hx107_0, hx107_1, hl107_1, hi107_1⟩ := at_T59 (Kd.V_reads' HO_102000.out).2.2 x9_1 p107 q107
         cases e107
         obtain ⟨ce107, hce107, hMe107, hcc107⟩ := Kd.V_get HO_102000.out z59 x9_1 p107 (by first | exact q107 )
         obtain ⟨ua107_1, uc107_1, rfl, ul107_1, ge107_1⟩ := k59_openF hMe107
         have hv107_1 := hcc107 1 _ rfl
         rw [add_field _ _ 1 (by omega)] at hv107_1
         replace hv107_1 := Option.some.inj (hv107_1.symm.trans hx107_1)
         injection hv107_1 with hva_ hvn_ hvc_
         rw [hva_] at ge107_1
         rw [hvc_] at ul107_1
         have HL107_1 := Aside0.mk (show Kd.V k70 70 _ w.heap.size _ _ ((rd_T59 l0_0 x9_1).f1) from Kd.V_mk ul107_1 ge107_1)
         clear hva_ hvn_ hvc_ ge107_1 ul107_1
         clear hcc107 hce107
         have HR107_1 := Aside0.mk hi107_1
         have HC107_1 := Aside0.mk hl107_1
         clear hi107_1 hl107_1
         replace p107 := eq_true p107
         replace q107 := eq_true q107
         go_wp2
         go_roundg k1
         case measure => have := HK1.out; omega
         case rel => exact ⟨(x8_1), (wrap64 (x9_1 + 1)), (x104000_1), (u104000), (by first | rfl ), (by first | rfl ), H', ⟨by have := HK1.out; omega⟩, ⟨by exact HO_2.out⟩, ⟨by exact HO_102000.out⟩, ⟨by exact HO_102001.out⟩, ⟨by exact HO_104000.out⟩, ⟨by exact HO_104001.out⟩, ⟨by exact BK101.out⟩, ⟨by exact BK102.out⟩, ⟨by exact BK103.out⟩, ⟨by exact HB.out⟩⟩
       · rw [if_neg c14] at H
         have c14b0 : (((rd_T59 l0_0 x9_1).f0) == a1) = false := beq_eq_false_iff_ne.mpr c14
         have c14b1 : (((rd_T59 l0_0 x9_1).f0) != a1) = true := bne_iff_ne.mpr c14
         by_cases c18 : x8_1 = true
         · subst c18
           have H1 : (if x104000_1.length < 4398046511104 then (ecdysisref19_With.l0 k1 a1 l2 true (wrap64 (x9_1 + 1)) l0_0 l0_1 (x104000_1 ++ [(⟨(rd_T59 l0_0 x9_1).f0, (rd_T59 l0_0 x9_1).f1⟩ : S59)]) l0_1) else (none)) = some (r1, r2) := by rw [if_pos rfl] at H; exact H
           clear H
           have H := H1
           clear H1
           by_cases c19 : x104000_1.length < 4398046511104
           · rw [if_pos c19] at H
             have LMc19 := Aside0.mk c19
             clear c19
             obtain ⟨y109, hy109⟩ : ∃ y_ : List (S59), y_ = (x104000_1 ++ [(⟨(rd_T59 l0_0 x9_1).f0, (rd_T59 l0_0 x9_1).f1⟩ : S59)]) := ⟨_, rfl⟩
             replace H : (ecdysisref19_With.l0 k1 a1 l2 true (wrap64 (x9_1 + 1)) l0_0 l0_1 y109 l0_1) = some (r1, r2) := by first | (rw [hy109]; with_reducible exact H) 
             have Ny109 := Aside0.mk hy109
             clear hy109
             have H' := Aside0.mk H
             clear H
             have hnb20 := NB101_102.out
             have hnc20 := NB102_101.out
             have hnb21 := NB101_103.out
             have hnc21 := NB103_101.out
             have hcz22_0 : wr.cell? ⟨gb101, 0, none⟩ = some (.slice A0_0 l0_0.length c0_0) := (blk_cell BK101.out 0).trans rfl
             have hcz22_1 : wr.cell? ⟨gb101, 1, none⟩ = some (.slice A0_1 l0_1.length c0_1) := (blk_cell BK101.out 1).trans rfl
             have hfz22_0 := blk_frozen BK101.out 0
             have hfz22_1 := blk_frozen BK101.out 1
             have p107 : 0 ≤ (x9_1 : Int) := of_decide_eq_true (by first | (with_reducible assumption) )
             have q107 : x9_1 < (l0_0.length : Int) := of_decide_eq_true (by first | (with_reducible assumption) )
             obtain ⟨ad107, A107_1, c107_1, e107, hx107_0, hx107_1, hl107_1, hi107_1⟩ := at_T59 (Kd.V_reads' HO_102000.out).2.2 x9_1 p107 q107
             cases e107
             obtain ⟨ce107, hce107, hMe107, hcc107⟩ := Kd.V_get HO_102000.out z59 x9_1 p107 (by first | exact q107 )
             obtain ⟨ua107_1, uc107_1, rfl, ul107_1, ge107_1⟩ := k59_openF hMe107
             have hv107_1 := hcc107 1 _ rfl
             rw [add_field _ _ 1 (by omega)] at hv107_1
             replace hv107_1 := Option.some.inj (hv107_1.symm.trans hx107_1)
             injection hv107_1 with hva_ hvn_ hvc_
             rw [hva_] at ge107_1
             rw [hvc_] at ul107_1
             have HL107_1 := Aside0.mk (show Kd.V k70 70 _ w.heap.size _ _ ((rd_T59 l0_0 x9_1).f1) from Kd.V_mk ul107_1 ge107_1)
             clear hva_ hvn_ hvc_ ge107_1 ul107_1
             clear hcc107 hce107
             have HR107_1 := Aside0.mk hi107_1
             have HC107_1 := Aside0.mk hl107_1
             clear hi107_1 hl107_1
             replace p107 := eq_true p107
             replace q107 := eq_true q107
             try go_wp2
             have n0_ := Aside0.mk (Kd.V_drew HO_2.out)
             have n1_ := Aside0.mk (Kd.V_drew HO_102000.out)
             have n2_ := Aside0.mk (Kd.V_drew HO_102001.out)
             have n3_ := Aside0.mk (Kd.N_drew HO_104000.out)
             have n4_ := Aside0.mk (Kd.V_drew HO_104001.out)
             have n5_ := Aside0.mk (Kd.V_drew HL107_1.out)
             have n6_ := Aside0.mk (blk_drew BK101.out)
             have n7_ := Aside0.mk (blk_drew BK102.out)
             have n8_ := Aside0.mk (blk_drew BK103.out)
             have n9_ := Aside0.mk (Kd.C_drew HR107_1.out)
             have n10_ := Aside0.mk (below_drew1 HB.out)
             clear HO_2
             clear HO_102000
             clear HO_102001
             clear HO_104000
             clear HO_104001
             clear HL107_1
             clear BK101
             clear BK102
             clear BK103
             clear HR107_1
             clear HB
             have HO_2 := n0_
             have HO_102000 := n1_
             have HO_102001 := n2_
             have HO_104000 := n3_
             have HO_104001 := n4_
             have HL107_1 := n5_
             have BK101 := n6_
             have BK102 := n7_
             have BK103 := n8_
             have HR107_1 := n9_
             have HB := n10_
             clear n0_ n1_ n2_ n3_ n4_ n5_ n6_ n7_ n8_ n9_ n10_
             have p108 : 0 ≤ (x9_1 : Int) := of_decide_eq_true (by first | (with_reducible assumption) )
             have q108 : x9_1 < (l0_0.length : Int) := of_decide_eq_true (by first | (with_reducible assumption) )
             obtain ⟨ad108, A108_1, c108_1, e108, hx108_0, hx108_1, hl108_1, hi108_1⟩ := at_T59 (Kd.V_reads' HO_102000.out).2.2 x9_1 p108 q108
             obtain rfl : ad107 = ad108 := (by injection e108)
             obtain ⟨ce108, hce108, hMe108, hcc108⟩ := Kd.V_get HO_102000.out z59 x9_1 p108 (by first | exact q108 )
             obtain ⟨ua108_1, uc108_1, rfl, ul108_1, ge108_1⟩ := k59_openF hMe108
             have hv108_1 := hcc108 1 _ rfl
             rw [add_field _ _ 1 (by omega)] at hv108_1
             replace hv108_1 := Option.some.inj (hv108_1.symm.trans hx108_1)
             injection hv108_1 with hva_ hvn_ hvc_
             rw [hva_] at ge108_1
             rw [hvc_] at ul108_1
             have HL108_1 := Aside0.mk (show Kd.V k70 70 _ w.heap.size _ _ ((rd_T59 l0_0 x9_1).f1) from Kd.V_mk ul108_1 ge108_1)
             clear hva_ hvn_ hvc_ ge108_1 ul108_1
             clear hcc108 hce108
             have HR108_1 := Aside0.mk hi108_1
             have HC108_1 := Aside0.mk hl108_1
             clear hi108_1 hl108_1
             replace p108 := eq_true p108
             replace q108 := eq_true q108
             refine start_ (n := 11) (S := fun w' => w'.cell? ⟨gb103, 0, none⟩ = some (u104000) ∧ w'.cell? ⟨gb103, 1, none⟩ = some (.slice A0_1 l0_1.length c0_1) ∧ w'.cell? ⟨gb101, 0, none⟩ = some (.slice (some ad107) l0_0.length c0_0) ∧ w'.cell? ⟨gb101, 1, none⟩ = some (.slice A0_1 l0_1.length c0_1) ∧ w'.cell? (ad107.add ((x9_1).toNat * 2)) = some (.int .i64 ((rd_T59 l0_0 x9_1).f0)) ∧ w'.cell? ⟨(ad107.add ((x9_1).toNat * 2)).block, (ad107.add ((x9_1).toNat * 2)).off + 1, none⟩ = some (.slice A108_1 ((rd_T59 l0_0 x9_1).f1).length c108_1)) (ds := [8, 10]) #[false, false, false, false, false, false, false, false, false, false, false] (by kernel_rfl) rfl rfl ⟨(blk_cell BK103.out 0).trans rfl, (blk_cell BK103.out 1).trans rfl, (blk_cell BK101.out 0).trans rfl, (blk_cell BK101.out 1).trans rfl, hx108_0, hx108_1⟩ (fun hHeld => ?_); refine with_tabW ecdysisref19_With.tab10 ecdysisref19_With.bits10 (fun HT_ HW_ => ?_)
             generalize wr.drew = w23 at HO_2 HO_102000 HO_102001 HO_104000 HO_104001 HL107_1 BK101 BK102 BK103 HR107_1 HB HL108_1 HR108_1 hx108_0 hx108_1 hHeld ⊢
             refine zp 0 (zb 11 1) ?_ rfl rfl HT_ (by kernel_rfl) (fun _ _ _ h => h) rfl ?_ ?_ ?_ ?_; rotate_left; (intro w'; go_simp; with_reducible rfl); rotate_left; (simp only [zs]; rfl)
             refine zp 2 (zb 11 5) ?_ rfl rfl HT_ (by kernel_rfl) (fun _ _ _ h => h) rfl ?_ ?_ ?_ ?_; rotate_left; (intro w'; go_simp; with_reducible rfl); rotate_left; (simp only [zs]; rfl)
             refine zp 4 (zb 11 21) ?_ rfl rfl HT_ (by kernel_rfl) (fun _ _ _ h => h) rfl ?_ ?_ ?_ ?_; rotate_left; (intro w'; go_simp; with_reducible rfl); rotate_left; (simp only [zs]; rfl)
             refine zt 1 (zb 11 23) ?_ rfl rfl HT_ HW_ (by kernel_rfl) (fun _ _ _ h => h) rfl ?_ hHeld ?_ ?_ ?_; rotate_left; (rintro w' ⟨s0, s1, s2, s3, s4, s5⟩; go_simp; with_reducible rfl); rotate_left; (simp only [zs]; rfl)
             refine zt 3 (zb 11 31) ?_ rfl rfl HT_ HW_ (by kernel_rfl) (fun _ _ _ h => h) rfl ?_ hHeld ?_ ?_ ?_; rotate_left; (rintro w' ⟨s0, s1, s2, s3, s4, s5⟩; go_simp; with_reducible rfl); rotate_left; (simp only [zs]; rfl)
             refine zp 5 (zb 11 63) ?_ rfl rfl HT_ (by kernel_rfl) (fun _ _ _ h => h) rfl ?_ ?_ ?_ ?_; rotate_left; (intro w'; go_simp; with_reducible rfl); rotate_left; (simp only [zs]; rfl)
             refine zt 6 (zb 11 127) ?_ rfl rfl HT_ HW_ (by kernel_rfl) (fun _ _ _ h => h) rfl ?_ hHeld ?_ ?_ ?_; rotate_left; (rintro w' ⟨s0, s1, s2, s3, s4, s5⟩; go_simp; with_reducible rfl); rotate_left; (simp only [zs]; rfl)
             refine one_ (i := 7) (N := some 58) #[true, true, true, true, true, true, true, true, false, false, false] rfl rfl (one_of HT_.out (by kernel_rfl)) (by decide) (fun K hK => ?_)
             refine value_ (w1 := ?_) (v := ?_) (by rfl) rfl ?_ ?_
             rotate_left 2
             · go_simp
               constructor
               · rfl
               · rfl
             refine hK.out _ _ ⟨(blk_cell (blk_alloc BK103.out _) 0).trans rfl, (blk_cell (blk_alloc BK103.out _) 1).trans rfl, (blk_cell (blk_alloc BK101.out _) 0).trans rfl, (blk_cell (blk_alloc BK101.out _) 1).trans rfl, (World.cell?_alloc_lt _ _ _ (World.block_lt_of_cell? _ _ (hHeld.2.2.2.2.1))).trans (hHeld.2.2.2.2.1), (World.cell?_alloc_lt _ _ _ (World.block_lt_of_cell? _ _ (hHeld.2.2.2.2.2))).trans (hHeld.2.2.2.2.2)⟩ (fun hHeld => ?_)
             clear hK K
             refine norm_ (a' := ?_) ?_ ?_
             rotate_left
             · show Act.put _ (some 58) _ = _
               simp only [zs]
               rfl
             refine last_ (i := 8) (N := some 59) #[true, true, true, true, true, true, true, true, true, false, false] rfl rfl (one_of HT_.out (by kernel_rfl)) (by decide) (fun K hK => ?_)
             refine Kd.N_append_step k59 (w0 := w) w.heap.size (by rfl) (.tmp 52) (.tmp 58) 22 59 (.agg #[(.int .i64 0), (.slice none 0 0)]) 32 rfl Try.underlying22 info59 rfl (by decide) (by omega) u104000 x104000_1 (⟨(rd_T59 l0_0 x9_1).f0, (rd_T59 l0_0 x9_1).f1⟩ : S59) [.int .i64 ((rd_T59 l0_0 x9_1).f0), .slice A108_1 ((rd_T59 l0_0 x9_1).f1).length c108_1] (fun k_ => ((P0_0_ k_ ∨ P0_1_ k_ ∨ P2_ k_) ∨ w.heap.size ≤ k_) ∧ k_ ≠ gb101 ∧ k_ ≠ gb102 ∧ k_ ≠ gb103) (fun k_ => ((fun k_ => ((P0_0_ k_ ∨ P0_1_ k_ ∨ P2_ k_) ∨ w.heap.size ≤ k_) ∧ k_ ≠ gb101 ∧ k_ ≠ gb102 ∧ k_ ≠ gb103)) k_ ∧ some k_ ≠ (u104000 : Value).ownBlock) rfl rfl ?aP (fun _ hk => hk) ?aF ?aO ?aB ?aS ?aL ?_
             (case aP => exact (k59_mkF _ _ (⟨(rd_T59 l0_0 x9_1).f0, (rd_T59 l0_0 x9_1).f1⟩ : S59) (Kd.V_reads' (Kd.V_mono (ok' := (fun k_ => ((fun k_ => ((P0_0_ k_ ∨ P0_1_ k_ ∨ P2_ k_) ∨ w.heap.size ≤ k_) ∧ k_ ≠ gb101 ∧ k_ ≠ gb102 ∧ k_ ≠ gb103)) k_ ∧ some k_ ≠ (u104000 : Value).ownBlock)) (HL108_1.out) (fun k_ hk => ⟨⟨hk.1, ⟨hk.2.2.1, ⟨hk.2.2.2.1, hk.2.2.2.2⟩⟩⟩, hk.2.1⟩))).2.1 (Kd.V_F (Kd.V_mono (ok' := (fun k_ => ((fun k_ => ((P0_0_ k_ ∨ P0_1_ k_ ∨ P2_ k_) ∨ w.heap.size ≤ k_) ∧ k_ ≠ gb101 ∧ k_ ≠ gb102 ∧ k_ ≠ gb103)) k_ ∧ some k_ ≠ (u104000 : Value).ownBlock)) (HL108_1.out) (fun k_ hk => ⟨⟨hk.1, ⟨hk.2.2.1, ⟨hk.2.2.2.1, hk.2.2.2.2⟩⟩⟩, hk.2.1⟩)))))
             (case aB => exact HB.out)
             (case aF => exact (fun k_ hk => ⟨(.inr (Nat.le_trans (below_size HB.out) hk)), Kd.freshB (g := gb101) (o := .cells #[.slice (some ad107) l0_0.length c0_0, .slice A0_1 l0_1.length c0_1] 25 (0, 0)) BK101.out k_ hk, Kd.freshB (g := gb102) (o := .cells #[.slice none 0 0, .slice none 0 0] 25 (0, 0)) BK102.out k_ hk, Kd.freshB (g := gb103) (o := .cells #[u104000, .slice A0_1 l0_1.length c0_1] 25 (0, 0)) BK103.out k_ hk⟩))
             (case aO => exact HO_104000.out)
             (case aS => exact (below_size HB.out))
             (case aL => have := LMc19.out; omega)
             intro v110 w24 ho hb hg hat
             rw [← Ny109.out] at ho
             have n0_ := Aside0.mk (Kd.V_afterv (ok := (fun k_ => ((P0_0_ k_ ∨ P0_1_ k_ ∨ P2_ k_) ∨ w.heap.size ≤ k_) ∧ k_ ≠ gb101 ∧ k_ ≠ gb102 ∧ k_ ≠ gb103)) (by exact Kd.V_mono HO_2.out (fun _ hk => ⟨⟨hk.1, ⟨hk.2.2.1, ⟨hk.2.2.2.1, hk.2.2.2.2⟩⟩⟩, hk.2.1⟩)) hg hat)
             have n1_ := Aside0.mk (Kd.V_afterv (ok := (fun k_ => ((P0_0_ k_ ∨ P0_1_ k_ ∨ P2_ k_) ∨ w.heap.size ≤ k_) ∧ k_ ≠ gb101 ∧ k_ ≠ gb102 ∧ k_ ≠ gb103)) (by exact Kd.V_mono HO_102000.out (fun _ hk => ⟨⟨hk.1, ⟨hk.2.2.1, ⟨hk.2.2.2.1, hk.2.2.2.2⟩⟩⟩, hk.2.1⟩)) hg hat)
             have n2_ := Aside0.mk (Kd.V_afterv (ok := (fun k_ => ((P0_0_ k_ ∨ P0_1_ k_ ∨ P2_ k_) ∨ w.heap.size ≤ k_) ∧ k_ ≠ gb101 ∧ k_ ≠ gb102 ∧ k_ ≠ gb103)) (by exact Kd.V_mono HO_102001.out (fun _ hk => ⟨⟨hk.1, ⟨hk.2.2.1, ⟨hk.2.2.2.1, hk.2.2.2.2⟩⟩⟩, hk.2.1⟩)) hg hat)
             have n3_ := Aside0.mk (Kd.V_afterv (ok := (fun k_ => ((P0_0_ k_ ∨ P0_1_ k_ ∨ P2_ k_) ∨ w.heap.size ≤ k_) ∧ k_ ≠ gb101 ∧ k_ ≠ gb102 ∧ k_ ≠ gb103)) (by exact Kd.V_mono HO_104001.out (fun _ hk => ⟨⟨hk.1, ⟨hk.2.2.1, ⟨hk.2.2.2.1, hk.2.2.2.2⟩⟩⟩, hk.2.1⟩)) hg hat)
             have n4_ := Aside0.mk (blk_grown (g := gb101) (o := .cells #[.slice (some ad107) l0_0.length c0_0, .slice A0_1 l0_1.length c0_1] 25 (0, 0)) BK101.out hg (Kd.N_ne HO_104000.out BK101.out (by decide)))
             have n5_ := Aside0.mk (blk_grown (g := gb102) (o := .cells #[.slice none 0 0, .slice none 0 0] 25 (0, 0)) BK102.out hg (Kd.N_ne HO_104000.out BK102.out (by decide)))
             have n6_ := Aside0.mk (blk_grown (g := gb103) (o := .cells #[u104000, .slice A0_1 l0_1.length c0_1] 25 (0, 0)) BK103.out hg (Kd.N_ne HO_104000.out BK103.out (by decide)))
             have n7_ := Aside0.mk (Kd.V_afterv (ok := (fun k_ => ((P0_0_ k_ ∨ P0_1_ k_ ∨ P2_ k_) ∨ w.heap.size ≤ k_) ∧ k_ ≠ gb101 ∧ k_ ≠ gb102 ∧ k_ ≠ gb103)) (by exact Kd.V_mono HL107_1.out (fun _ hk => ⟨⟨hk.1, ⟨hk.2.2.1, ⟨hk.2.2.2.1, hk.2.2.2.2⟩⟩⟩, hk.2.1⟩)) hg hat)
             have n8_ := Aside0.mk (Kd.V_afterv (ok := (fun k_ => ((P0_0_ k_ ∨ P0_1_ k_ ∨ P2_ k_) ∨ w.heap.size ≤ k_) ∧ k_ ≠ gb101 ∧ k_ ≠ gb102 ∧ k_ ≠ gb103)) (by exact Kd.V_mono HL108_1.out (fun _ hk => ⟨⟨hk.1, ⟨hk.2.2.1, ⟨hk.2.2.2.1, hk.2.2.2.2⟩⟩⟩, hk.2.1⟩)) hg hat)
             have n9_ := Aside0.mk (hb)
             have n10_ := Aside0.mk (ho)
             clear HO_2
             clear HO_102000
             clear HO_102001
             clear HO_104001
             clear BK101
             clear BK102
             clear BK103
             clear HL107_1
             clear HL108_1
             clear HB
             clear HO_104000
             have HO_2 := n0_
             have HO_102000 := n1_
             have HO_102001 := n2_
             have HO_104001 := n3_
             have BK101 := n4_
             have BK102 := n5_
             have BK103 := n6_
             have HL107_1 := n7_
             have HL108_1 := n8_
             have HB := n9_
             have HO111 := n10_
             clear n0_ n1_ n2_ n3_ n4_ n5_ n6_ n7_ n8_ n9_ n10_
             clear ho hb hg hat
             obtain ⟨Ao25, co25, eo25⟩ := Kd.N_slice HO111.out
             (first | subst eo25 )
             refine hK.out _ _ ?_
             clear hK K
             refine norm_ (a' := ?_) ?_ ?_
             rotate_left
             · show Act.put _ (some 59) _ = _
               simp only [zs]
               rfl
             refine zp 9 (zb 11 1023) ?_ rfl rfl HT_ (by kernel_rfl) (fun _ _ _ h => h) rfl ?_ ?_ ?_ ?_; rotate_left; (intro w'; go_simp; with_reducible rfl); rotate_left; (simp only [zs]; rfl)
             refine last_ (i := 10) (N := none) #[true, true, true, true, true, true, true, true, true, true, true] rfl rfl (one_of HT_.out (by kernel_rfl)) (by decide) (fun K hK => ?_)
             have hs26 : w24.cell? ⟨gb103, 0, none⟩ = some (u104000) := (blk_cell BK103.out 0).trans rfl
             have hfs26 := blk_frozen BK103.out 0
             have hns26_0 := NB101_103.out
             have hns26_1 := NB102_103.out
             have hms26_0 := NB103_101.out
             have hms26_1 := NB103_102.out
             refine skip_ (w1 := ?_) (by rfl) rfl ?_ ?_
             rotate_left
             · go_simp
               rfl
             refine hK.out _ _ ?_
             clear hK K
             refine done_ (done_of HT_.out (by kernel_rfl)) ?_
             try go_wp2
             go_roundg k1
             case measure => have := HK1.out; omega
             case rel => exact ⟨(true), (wrap64 (x9_1 + 1)), (y109), (.slice Ao25 y109.length co25), (by first | rfl ), (by first | rfl ), H', ⟨by have := HK1.out; omega⟩, ⟨by exact Kd.V_mono (Kd.V_far (p := ⟨gb103, 0, none⟩) (Kd.V_mono HO_2.out (fun k_ hk => (⟨hk, hk.1.2.2.2⟩ : _ ∧ k_ ≠ gb103))) (fun _ hk => hk.2) (.slice Ao25 y109.length co25)) (fun _ hk => ⟨hk.1.1.1, ⟨hk.1.2, ⟨hk.1.1.2.1, ⟨hk.1.1.2.2.1, hk.1.1.2.2.2⟩⟩⟩⟩)⟩, ⟨by exact Kd.V_mono (Kd.V_far (p := ⟨gb103, 0, none⟩) (Kd.V_mono HO_102000.out (fun k_ hk => (⟨hk, hk.1.2.2.2⟩ : _ ∧ k_ ≠ gb103))) (fun _ hk => hk.2) (.slice Ao25 y109.length co25)) (fun _ hk => ⟨hk.1.1.1, ⟨hk.1.2, ⟨hk.1.1.2.1, ⟨hk.1.1.2.2.1, hk.1.1.2.2.2⟩⟩⟩⟩)⟩, ⟨by exact Kd.V_mono (Kd.V_far (p := ⟨gb103, 0, none⟩) (Kd.V_mono HO_102001.out (fun k_ hk => (⟨hk, hk.1.2.2.2⟩ : _ ∧ k_ ≠ gb103))) (fun _ hk => hk.2) (.slice Ao25 y109.length co25)) (fun _ hk => ⟨hk.1.1.1, ⟨hk.1.2, ⟨hk.1.1.2.1, ⟨hk.1.1.2.2.1, hk.1.1.2.2.2⟩⟩⟩⟩)⟩, ⟨by exact Kd.N_mono (Kd.N_far (p := ⟨gb103, 0, none⟩) (Kd.N_mono HO111.out (fun k_ hk => (⟨hk, hk.2.2.2⟩ : _ ∧ k_ ≠ gb103))) (fun _ hk => hk.2) (.slice Ao25 y109.length co25)) (fun _ hk => ⟨hk.1.1, ⟨hk.1.2.1, ⟨hk.1.2.2.1, hk.1.2.2.2⟩⟩⟩)⟩, ⟨by exact Kd.V_mono (Kd.V_far (p := ⟨gb103, 0, none⟩) (Kd.V_mono HO_104001.out (fun k_ hk => (⟨hk, hk.1.2.2.2⟩ : _ ∧ k_ ≠ gb103))) (fun _ hk => hk.2) (.slice Ao25 y109.length co25)) (fun _ hk => ⟨hk.1.1.1, ⟨hk.1.2, ⟨hk.1.1.2.1, ⟨hk.1.1.2.2.1, hk.1.1.2.2.2⟩⟩⟩⟩)⟩, ⟨by refine blk_far ?_ NB101_103.out _; exact BK101.out⟩, ⟨by refine blk_far ?_ NB102_103.out _; exact BK102.out⟩, ⟨by refine blk_put (cs := #[u104000, .slice A0_1 l0_1.length c0_1]) ?_ 0 _ rfl; exact BK103.out⟩, ⟨by repeat (first | (with_reducible first | exact HB.out | refine below_set ?_ GE103.out) )⟩⟩
           · rw [if_neg c19] at H
             exact absurd H (by simp)
         · replace c18 := Bool.eq_false_iff.mpr c18
           subst c18
           have H1 : (if ((rd_T59 l0_0 x9_1).f0) > a1 then (if x104000_1.length < 4398046511104 then ((some (x104000_1 ++ [(⟨a1, l2⟩ : S59)] : List (S59))).bind fun y113 => (if y113.length < 4398046511104 then (ecdysisref19_With.l0 k1 a1 l2 true (wrap64 (x9_1 + 1)) l0_0 l0_1 (y113 ++ [(⟨(rd_T59 l0_0 x9_1).f0, (rd_T59 l0_0 x9_1).f1⟩ : S59)]) l0_1) else (none))) else (none)) else (if x104000_1.length < 4398046511104 then (ecdysisref19_With.l0 k1 a1 l2 false (wrap64 (x9_1 + 1)) l0_0 l0_1 (x104000_1 ++ [(⟨(rd_T59 l0_0 x9_1).f0, (rd_T59 l0_0 x9_1).f1⟩ : S59)]) l0_1) else (none))) = some (r1, r2) := by rw [if_neg (show ¬ (false = true) by decide)] at H; exact H
           clear H
           have H := H1
           clear H1
           by_cases c27 : ((rd_T59 l0_0 x9_1).f0) > a1
           · rw [if_pos c27] at H
             have c27b0 : decide (a1 < ((rd_T59 l0_0 x9_1).f0)) = true := decide_eq_true c27
             clear c27
             by_cases c28 : x104000_1.length < 4398046511104
             · rw [if_pos c28] at H
               have LMc28 := Aside0.mk c28
               clear c28
               obtain ⟨y113, hy113⟩ : ∃ y_ : List (S59), y_ = (x104000_1 ++ [(⟨a1, l2⟩ : S59)]) := ⟨_, rfl⟩
               replace H : (if y113.length < 4398046511104 then (ecdysisref19_With.l0 k1 a1 l2 true (wrap64 (x9_1 + 1)) l0_0 l0_1 (y113 ++ [(⟨(rd_T59 l0_0 x9_1).f0, (rd_T59 l0_0 x9_1).f1⟩ : S59)]) l0_1) else (none)) = some (r1, r2) := by first | (have H2_ := (Option.bind_some _ _).symm.trans H; rw [hy113]; with_reducible exact H2_) 
               have Ny113 := Aside0.mk hy113
               clear hy113
               by_cases c29 : y113.length < 4398046511104
               · rw [if_pos c29] at H
                 have LMc29 := Aside0.mk c29
                 clear c29
                 obtain ⟨y117, hy117⟩ : ∃ y_ : List (S59), y_ = (y113 ++ [(⟨(rd_T59 l0_0 x9_1).f0, (rd_T59 l0_0 x9_1).f1⟩ : S59)]) := ⟨_, rfl⟩
                 replace H : (ecdysisref19_With.l0 k1 a1 l2 true (wrap64 (x9_1 + 1)) l0_0 l0_1 y117 l0_1) = some (r1, r2) := by first | (rw [hy117]; with_reducible exact H) 
                 have Ny117 := Aside0.mk hy117
                 clear hy117
                 have H' := Aside0.mk H
                 clear H
                 have hnb30 := NB101_102.out
                 have hnc30 := NB102_101.out
                 have hnb31 := NB101_103.out
                 have hnc31 := NB103_101.out
                 have hcz32_0 : wr.cell? ⟨gb101, 0, none⟩ = some (.slice A0_0 l0_0.length c0_0) := (blk_cell BK101.out 0).trans rfl
                 have hcz32_1 : wr.cell? ⟨gb101, 1, none⟩ = some (.slice A0_1 l0_1.length c0_1) := (blk_cell BK101.out 1).trans rfl
                 have hfz32_0 := blk_frozen BK101.out 0
                 have hfz32_1 := blk_frozen BK101.out 1
                 have p107 : 0 ≤ (x9_1 : Int) := of_decide_eq_true (by first | (with_reducible assumption) )
                 have q107 : x9_1 < (l0_0.length : Int) := of_decide_eq_true (by first | (with_reducible assumption) )
                 obtain ⟨ad107, A107_1, c107_1, e107, hx107_0, hx107_1, hl107_1, hi107_1⟩ := at_T59 (Kd.V_reads' HO_102000.out).2.2 x9_1 p107 q107
                 cases e107
                 obtain ⟨ce107, hce107, hMe107, hcc107⟩ := Kd.V_get HO_102000.out z59 x9_1 p107 (by first | exact q107 )
                 obtain ⟨ua107_1, uc107_1, rfl, ul107_1, ge107_1⟩ := k59_openF hMe107
                 have hv107_1 := hcc107 1 _ rfl
                 rw [add_field _ _ 1 (by omega)] at hv107_1
                 replace hv107_1 := Option.some.inj (hv107_1.symm.trans hx107_1)
                 injection hv107_1 with hva_ hvn_ hvc_
                 rw [hva_] at ge107_1
                 rw [hvc_] at ul107_1
                 have HL107_1 := Aside0.mk (show Kd.V k70 70 _ w.heap.size _ _ ((rd_T59 l0_0 x9_1).f1) from Kd.V_mk ul107_1 ge107_1)
                 clear hva_ hvn_ hvc_ ge107_1 ul107_1
                 clear hcc107 hce107
                 have HR107_1 := Aside0.mk hi107_1
                 have HC107_1 := Aside0.mk hl107_1
                 clear hi107_1 hl107_1
                 replace p107 := eq_true p107
                 replace q107 := eq_true q107
                 have p112 : 0 ≤ (x9_1 : Int) := of_decide_eq_true (by first | (with_reducible assumption) )
                 have q112 : x9_1 < (l0_0.length : Int) := of_decide_eq_true (by first | (with_reducible assumption) )
                 obtain ⟨ad112, A112_1, c112_1, e112, hx112_0, hx112_1, hl112_1, hi112_1⟩ := at_T59 (Kd.V_reads' HO_102000.out).2.2 x9_1 p112 q112
                 obtain rfl : ad107 = ad112 := (by injection e112)
                 obtain ⟨ce112, hce112, hMe112, hcc112⟩ := Kd.V_get HO_102000.out z59 x9_1 p112 (by first | exact q112 )
                 obtain ⟨ua112_1, uc112_1, rfl, ul112_1, ge112_1⟩ := k59_openF hMe112
                 have hv112_1 := hcc112 1 _ rfl
                 rw [add_field _ _ 1 (by omega)] at hv112_1
                 replace hv112_1 := Option.some.inj (hv112_1.symm.trans hx112_1)
                 injection hv112_1 with hva_ hvn_ hvc_
                 rw [hva_] at ge112_1
                 rw [hvc_] at ul112_1
                 have HL112_1 := Aside0.mk (show Kd.V k70 70 _ w.heap.size _ _ ((rd_T59 l0_0 x9_1).f1) from Kd.V_mk ul112_1 ge112_1)
                 clear hva_ hvn_ hvc_ ge112_1 ul112_1
                 clear hcc112 hce112
                 have HR112_1 := Aside0.mk hi112_1
                 have HC112_1 := Aside0.mk hl112_1
                 clear hi112_1 hl112_1
                 replace p112 := eq_true p112
                 replace q112 := eq_true q112
                 have ea_ := Option.some.inj (hx107_1.symm.trans hx112_1)
                 injection ea_ with ea_ en_ ec_
                 subst ea_
                 subst ec_
                 clear en_
                 have hnb33 := NB103_102.out
                 have hnc33 := NB102_103.out
                 have hcz34_0 : wr.cell? ⟨gb103, 0, none⟩ = some (u104000) := (blk_cell BK103.out 0).trans rfl
                 have hcz34_1 : wr.cell? ⟨gb103, 1, none⟩ = some (.slice A0_1 l0_1.length c0_1) := (blk_cell BK103.out 1).trans rfl
                 have hfz34_0 := blk_frozen BK103.out 0
                 have hfz34_1 := blk_frozen BK103.out 1
                 try go_wp2_with (first | ((with_reducible refine gate_builtin (b := .append) (xs := #[.tmp 44, .tmp 48]) rfl ?_); at_builtin; refine Kd.N_append k59 (w0 := w) w.heap.size rfl (.tmp 44) (.tmp 48) 22 59 (.agg #[(.int .i64 0), (.slice none 0 0)]) 32 rfl Try.underlying22 info59 rfl (by decide) (by omega) u104000 x104000_1 (⟨a1, l2⟩ : S59) [.int .i64 a1, .slice A2 l2.length c2] (fun k_ => ((P0_0_ k_ ∨ P0_1_ k_ ∨ P2_ k_) ∨ w.heap.size ≤ k_) ∧ k_ ≠ gb101 ∧ k_ ≠ gb102 ∧ k_ ≠ gb103) (fun k_ => ((fun k_ => ((P0_0_ k_ ∨ P0_1_ k_ ∨ P2_ k_) ∨ w.heap.size ≤ k_) ∧ k_ ≠ gb101 ∧ k_ ≠ gb102 ∧ k_ ≠ gb103)) k_ ∧ some k_ ≠ (u104000 : Value).ownBlock) rfl rfl ?aP (fun _ hk => hk) ?aF ?aO ?aB ?aS ?aL ?_; (case aP => exact (k59_mkF _ _ (⟨a1, l2⟩ : S59) (Kd.V_reads' (Kd.V_mono (ok' := (fun k_ => ((fun k_ => ((P0_0_ k_ ∨ P0_1_ k_ ∨ P2_ k_) ∨ w.heap.size ≤ k_) ∧ k_ ≠ gb101 ∧ k_ ≠ gb102 ∧ k_ ≠ gb103)) k_ ∧ some k_ ≠ (u104000 : Value).ownBlock)) (HO_2.out) (fun k_ hk => ⟨⟨hk.1, ⟨hk.2.2.1, ⟨hk.2.2.2.1, hk.2.2.2.2⟩⟩⟩, hk.2.1⟩))).2.1 (Kd.V_F (Kd.V_mono (ok' := (fun k_ => ((fun k_ => ((P0_0_ k_ ∨ P0_1_ k_ ∨ P2_ k_) ∨ w.heap.size ≤ k_) ∧ k_ ≠ gb101 ∧ k_ ≠ gb102 ∧ k_ ≠ gb103)) k_ ∧ some k_ ≠ (u104000 : Value).ownBlock)) (HO_2.out) (fun k_ hk => ⟨⟨hk.1, ⟨hk.2.2.1, ⟨hk.2.2.2.1, hk.2.2.2.2⟩⟩⟩, hk.2.1⟩))))); (case aB => exact HB.out); (case aF => exact (fun k_ hk => ⟨(.inr (Nat.le_trans (below_size HB.out) hk)), Kd.freshB (g := gb101) (o := .cells #[.slice (some ad107) l0_0.length c0_0, .slice A0_1 l0_1.length c0_1] 25 (0, 0)) BK101.out k_ hk, Kd.freshB (g := gb102) (o := .cells #[.slice none 0 0, .slice none 0 0] 25 (0, 0)) BK102.out k_ hk, Kd.freshB (g := gb103) (o := .cells #[u104000, .slice A0_1 l0_1.length c0_1] 25 (0, 0)) BK103.out k_ hk⟩)); (case aO => exact HO_104000.out); (case aS => exact (below_size HB.out)); (case aL => have := LMc28.out; omega); intro v114 w35 ho hb hg hat; rw [← Ny113.out] at ho; have n0_ := Aside0.mk (Kd.V_afterv (ok := (fun k_ => ((P0_0_ k_ ∨ P0_1_ k_ ∨ P2_ k_) ∨ w.heap.size ≤ k_) ∧ k_ ≠ gb101 ∧ k_ ≠ gb102 ∧ k_ ≠ gb103)) (by exact Kd.V_mono HO_2.out (fun _ hk => ⟨⟨hk.1, ⟨hk.2.2.1, ⟨hk.2.2.2.1, hk.2.2.2.2⟩⟩⟩, hk.2.1⟩)) hg hat); have n1_ := Aside0.mk (Kd.V_afterv (ok := (fun k_ => ((P0_0_ k_ ∨ P0_1_ k_ ∨ P2_ k_) ∨ w.heap.size ≤ k_) ∧ k_ ≠ gb101 ∧ k_ ≠ gb102 ∧ k_ ≠ gb103)) (by exact Kd.V_mono HO_102000.out (fun _ hk => ⟨⟨hk.1, ⟨hk.2.2.1, ⟨hk.2.2.2.1, hk.2.2.2.2⟩⟩⟩, hk.2.1⟩)) hg hat); have n2_ := Aside0.mk (Kd.V_afterv (ok := (fun k_ => ((P0_0_ k_ ∨ P0_1_ k_ ∨ P2_ k_) ∨ w.heap.size ≤ k_) ∧ k_ ≠ gb101 ∧ k_ ≠ gb102 ∧ k_ ≠ gb103)) (by exact Kd.V_mono HO_102001.out (fun _ hk => ⟨⟨hk.1, ⟨hk.2.2.1, ⟨hk.2.2.2.1, hk.2.2.2.2⟩⟩⟩, hk.2.1⟩)) hg hat); have n3_ := Aside0.mk (Kd.V_afterv (ok := (fun k_ => ((P0_0_ k_ ∨ P0_1_ k_ ∨ P2_ k_) ∨ w.heap.size ≤ k_) ∧ k_ ≠ gb101 ∧ k_ ≠ gb102 ∧ k_ ≠ gb103)) (by exact Kd.V_mono HO_104001.out (fun _ hk => ⟨⟨hk.1, ⟨hk.2.2.1, ⟨hk.2.2.2.1, hk.2.2.2.2⟩⟩⟩, hk.2.1⟩)) hg hat); have n4_ := Aside0.mk (blk_grown (g := gb101) (o := .cells #[.slice (some ad107) l0_0.length c0_0, .slice A0_1 l0_1.length c0_1] 25 (0, 0)) BK101.out hg (Kd.N_ne HO_104000.out BK101.out (by decide))); have n5_ := Aside0.mk (blk_grown (g := gb102) (o := .cells #[.slice none 0 0, .slice none 0 0] 25 (0, 0)) BK102.out hg (Kd.N_ne HO_104000.out BK102.out (by decide))); have n6_ := Aside0.mk (blk_grown (g := gb103) (o := .cells #[u104000, .slice A0_1 l0_1.length c0_1] 25 (0, 0)) BK103.out hg (Kd.N_ne HO_104000.out BK103.out (by decide))); have n7_ := Aside0.mk (Kd.V_afterv (ok := (fun k_ => ((P0_0_ k_ ∨ P0_1_ k_ ∨ P2_ k_) ∨ w.heap.size ≤ k_) ∧ k_ ≠ gb101 ∧ k_ ≠ gb102 ∧ k_ ≠ gb103)) (by exact Kd.V_mono HL107_1.out (fun _ hk => ⟨⟨hk.1, ⟨hk.2.2.1, ⟨hk.2.2.2.1, hk.2.2.2.2⟩⟩⟩, hk.2.1⟩)) hg hat); have n8_ := Aside0.mk (Kd.V_afterv (ok := (fun k_ => ((P0_0_ k_ ∨ P0_1_ k_ ∨ P2_ k_) ∨ w.heap.size ≤ k_) ∧ k_ ≠ gb101 ∧ k_ ≠ gb102 ∧ k_ ≠ gb103)) (by exact Kd.V_mono HL112_1.out (fun _ hk => ⟨⟨hk.1, ⟨hk.2.2.1, ⟨hk.2.2.2.1, hk.2.2.2.2⟩⟩⟩, hk.2.1⟩)) hg hat); have n9_ := Aside0.mk (hb); have n10_ := Aside0.mk (ho); clear HO_2; clear HO_102000; clear HO_102001; clear HO_104001; clear BK101; clear BK102; clear BK103; clear HL107_1; clear HL112_1; clear HB; clear HO_104000; have HO_2 := n0_; have HO_102000 := n1_; have HO_102001 := n2_; have HO_104001 := n3_; have BK101 := n4_; have BK102 := n5_; have BK103 := n6_; have HL107_1 := n7_; have HL112_1 := n8_; have HB := n9_; have HO115 := n10_; clear n0_ n1_ n2_ n3_ n4_ n5_ n6_ n7_ n8_ n9_ n10_; clear ho hb hg hat; obtain ⟨Ao36, co36, eo36⟩ := Kd.N_slice HO115.out; subst eo36; have hcz37_0 : w35.cell? ⟨gb103, 0, none⟩ = some (u104000) := (blk_cell BK103.out 0).trans rfl; have hcz37_1 : w35.cell? ⟨gb103, 1, none⟩ = some (.slice A0_1 l0_1.length c0_1) := (blk_cell BK103.out 1).trans rfl; have hfz37_0 := blk_frozen BK103.out 0; have hfz37_1 := blk_frozen BK103.out 1))
                 have n0_ : Aside0 (Kd.V k70 70 (w35.setCell ⟨gb103, 0, none⟩ (.slice Ao36 y113.length co36)) w.heap.size (fun k_ => ((P0_0_ k_ ∨ P0_1_ k_ ∨ P2_ k_) ∨ w.heap.size ≤ k_) ∧ some k_ ≠ (.slice Ao36 y113.length co36 : Value).ownBlock ∧ k_ ≠ gb101 ∧ k_ ≠ gb102 ∧ k_ ≠ gb103) (.slice A2 l2.length c2) l2) := ⟨by exact Kd.V_mono (Kd.V_far (p := ⟨gb103, 0, none⟩) (Kd.V_mono HO_2.out (fun k_ hk => (⟨hk, hk.1.2.2.2⟩ : _ ∧ k_ ≠ gb103))) (fun _ hk => hk.2) (.slice Ao36 y113.length co36)) (fun _ hk => ⟨hk.1.1.1, ⟨hk.1.2, ⟨hk.1.1.2.1, ⟨hk.1.1.2.2.1, hk.1.1.2.2.2⟩⟩⟩⟩)⟩
                 have n1_ : Aside0 (Kd.V k59 59 (w35.setCell ⟨gb103, 0, none⟩ (.slice Ao36 y113.length co36)) w.heap.size (fun k_ => ((P0_0_ k_ ∨ P0_1_ k_ ∨ P2_ k_) ∨ w.heap.size ≤ k_) ∧ some k_ ≠ (.slice Ao36 y113.length co36 : Value).ownBlock ∧ k_ ≠ gb101 ∧ k_ ≠ gb102 ∧ k_ ≠ gb103) (.slice (some ad107) l0_0.length c0_0) l0_0) := ⟨by exact Kd.V_mono (Kd.V_far (p := ⟨gb103, 0, none⟩) (Kd.V_mono HO_102000.out (fun k_ hk => (⟨hk, hk.1.2.2.2⟩ : _ ∧ k_ ≠ gb103))) (fun _ hk => hk.2) (.slice Ao36 y113.length co36)) (fun _ hk => ⟨hk.1.1.1, ⟨hk.1.2, ⟨hk.1.1.2.1, ⟨hk.1.1.2.2.1, hk.1.1.2.2.2⟩⟩⟩⟩)⟩
                 have n2_ : Aside0 (Kd.V k73 73 (w35.setCell ⟨gb103, 0, none⟩ (.slice Ao36 y113.length co36)) w.heap.size (fun k_ => ((P0_0_ k_ ∨ P0_1_ k_ ∨ P2_ k_) ∨ w.heap.size ≤ k_) ∧ some k_ ≠ (.slice Ao36 y113.length co36 : Value).ownBlock ∧ k_ ≠ gb101 ∧ k_ ≠ gb102 ∧ k_ ≠ gb103) (.slice A0_1 l0_1.length c0_1) l0_1) := ⟨by exact Kd.V_mono (Kd.V_far (p := ⟨gb103, 0, none⟩) (Kd.V_mono HO_102001.out (fun k_ hk => (⟨hk, hk.1.2.2.2⟩ : _ ∧ k_ ≠ gb103))) (fun _ hk => hk.2) (.slice Ao36 y113.length co36)) (fun _ hk => ⟨hk.1.1.1, ⟨hk.1.2, ⟨hk.1.1.2.1, ⟨hk.1.1.2.2.1, hk.1.1.2.2.2⟩⟩⟩⟩)⟩
                 have n3_ : Aside0 (Kd.V k73 73 (w35.setCell ⟨gb103, 0, none⟩ (.slice Ao36 y113.length co36)) w.heap.size (fun k_ => ((P0_0_ k_ ∨ P0_1_ k_ ∨ P2_ k_) ∨ w.heap.size ≤ k_) ∧ some k_ ≠ (.slice Ao36 y113.length co36 : Value).ownBlock ∧ k_ ≠ gb101 ∧ k_ ≠ gb102 ∧ k_ ≠ gb103) (.slice A0_1 l0_1.length c0_1) l0_1) := ⟨by exact Kd.V_mono (Kd.V_far (p := ⟨gb103, 0, none⟩) (Kd.V_mono HO_104001.out (fun k_ hk => (⟨hk, hk.1.2.2.2⟩ : _ ∧ k_ ≠ gb103))) (fun _ hk => hk.2) (.slice Ao36 y113.length co36)) (fun _ hk => ⟨hk.1.1.1, ⟨hk.1.2, ⟨hk.1.1.2.1, ⟨hk.1.1.2.2.1, hk.1.1.2.2.2⟩⟩⟩⟩)⟩
                 have n4_ : Aside0 (Kd.V k70 70 (w35.setCell ⟨gb103, 0, none⟩ (.slice Ao36 y113.length co36)) w.heap.size (fun k_ => ((P0_0_ k_ ∨ P0_1_ k_ ∨ P2_ k_) ∨ w.heap.size ≤ k_) ∧ some k_ ≠ (.slice Ao36 y113.length co36 : Value).ownBlock ∧ k_ ≠ gb101 ∧ k_ ≠ gb102 ∧ k_ ≠ gb103) (.slice A107_1 ((rd_T59 l0_0 x9_1).f1).length c107_1) ((rd_T59 l0_0 x9_1).f1)) := ⟨by exact Kd.V_mono (Kd.V_far (p := ⟨gb103, 0, none⟩) (Kd.V_mono HL107_1.out (fun k_ hk => (⟨hk, hk.1.2.2.2⟩ : _ ∧ k_ ≠ gb103))) (fun _ hk => hk.2) (.slice Ao36 y113.length co36)) (fun _ hk => ⟨hk.1.1.1, ⟨hk.1.2, ⟨hk.1.1.2.1, ⟨hk.1.1.2.2.1, hk.1.1.2.2.2⟩⟩⟩⟩)⟩
                 have n5_ : Aside0 (Kd.V k70 70 (w35.setCell ⟨gb103, 0, none⟩ (.slice Ao36 y113.length co36)) w.heap.size (fun k_ => ((P0_0_ k_ ∨ P0_1_ k_ ∨ P2_ k_) ∨ w.heap.size ≤ k_) ∧ some k_ ≠ (.slice Ao36 y113.length co36 : Value).ownBlock ∧ k_ ≠ gb101 ∧ k_ ≠ gb102 ∧ k_ ≠ gb103) (.slice A107_1 ((rd_T59 l0_0 x9_1).f1).length c107_1) ((rd_T59 l0_0 x9_1).f1)) := ⟨by exact Kd.V_mono (Kd.V_far (p := ⟨gb103, 0, none⟩) (Kd.V_mono HL112_1.out (fun k_ hk => (⟨hk, hk.1.2.2.2⟩ : _ ∧ k_ ≠ gb103))) (fun _ hk => hk.2) (.slice Ao36 y113.length co36)) (fun _ hk => ⟨hk.1.1.1, ⟨hk.1.2, ⟨hk.1.1.2.1, ⟨hk.1.1.2.2.1, hk.1.1.2.2.2⟩⟩⟩⟩)⟩
                 have n6_ : Aside0 (Kd.N k59 59 (w35.setCell ⟨gb103, 0, none⟩ (.slice Ao36 y113.length co36)) w.heap.size (fun k_ => ((P0_0_ k_ ∨ P0_1_ k_ ∨ P2_ k_) ∨ w.heap.size ≤ k_) ∧ k_ ≠ gb101 ∧ k_ ≠ gb102 ∧ k_ ≠ gb103) (.slice Ao36 y113.length co36) y113) := ⟨by exact Kd.N_mono (Kd.N_far (p := ⟨gb103, 0, none⟩) (Kd.N_mono HO115.out (fun k_ hk => (⟨hk, hk.2.2.2⟩ : _ ∧ k_ ≠ gb103))) (fun _ hk => hk.2) (.slice Ao36 y113.length co36)) (fun _ hk => ⟨hk.1.1, ⟨hk.1.2.1, ⟨hk.1.2.2.1, hk.1.2.2.2⟩⟩⟩)⟩
                 have n7_ : Aside0 ((w35.setCell ⟨gb103, 0, none⟩ (.slice Ao36 y113.length co36)).heap[gb101]? = some (.cells #[.slice (some ad107) l0_0.length c0_0, .slice A0_1 l0_1.length c0_1] 25 (0, 0))) := ⟨by refine blk_far ?_ NB101_103.out _; exact BK101.out⟩
                 have n8_ : Aside0 ((w35.setCell ⟨gb103, 0, none⟩ (.slice Ao36 y113.length co36)).heap[gb102]? = some (.cells #[.slice none 0 0, .slice none 0 0] 25 (0, 0))) := ⟨by refine blk_far ?_ NB102_103.out _; exact BK102.out⟩
                 have n9_ : Aside0 ((w35.setCell ⟨gb103, 0, none⟩ (.slice Ao36 y113.length co36)).heap[gb103]? = some (.cells #[.slice Ao36 y113.length co36, .slice A0_1 l0_1.length c0_1] 25 (0, 0))) := ⟨by refine blk_put (cs := #[u104000, .slice A0_1 l0_1.length c0_1]) ?_ 0 _ rfl; exact BK103.out⟩
                 have n10_ : Aside0 (Below w.heap.size w (w35.setCell ⟨gb103, 0, none⟩ (.slice Ao36 y113.length co36))) := ⟨by repeat (first | (with_reducible first | exact HB.out | refine below_set ?_ GE103.out) )⟩
                 (try clear HO_2)
                 (try clear HO_102000)
                 (try clear HO_102001)
                 (try clear HO_104001)
                 (try clear HL107_1)
                 (try clear HL112_1)
                 (try clear HO115)
                 (try clear BK101)
                 (try clear BK102)
                 (try clear BK103)
                 (try clear HB)
                 generalize (w35.setCell ⟨gb103, 0, none⟩ (.slice Ao36 y113.length co36)) = w38 at n0_ n1_ n2_ n3_ n4_ n5_ n6_ n7_ n8_ n9_ n10_ ⊢
                 have HO_2 := n0_
                 have HO_102000 := n1_
                 have HO_102001 := n2_
                 have HO_104001 := n3_
                 have HL107_1 := n4_
                 have HL112_1 := n5_
                 have HO115 := n6_
                 have BK101 := n7_
                 have BK102 := n8_
                 have BK103 := n9_
                 have HB := n10_
                 clear n0_ n1_ n2_ n3_ n4_ n5_ n6_ n7_ n8_ n9_ n10_
                 have n0_ := Aside0.mk (Kd.V_drew HO_2.out)
                 have n1_ := Aside0.mk (Kd.V_drew HO_102000.out)
                 have n2_ := Aside0.mk (Kd.V_drew HO_102001.out)
                 have n3_ := Aside0.mk (Kd.V_drew HO_104001.out)
                 have n4_ := Aside0.mk (Kd.V_drew HL107_1.out)
                 have n5_ := Aside0.mk (Kd.V_drew HL112_1.out)
                 have n6_ := Aside0.mk (Kd.N_drew HO115.out)
                 have n7_ := Aside0.mk (blk_drew BK101.out)
                 have n8_ := Aside0.mk (blk_drew BK102.out)
                 have n9_ := Aside0.mk (blk_drew BK103.out)
                 have n10_ := Aside0.mk (below_drew1 HB.out)
                 clear HO_2
                 clear HO_102000
                 clear HO_102001
                 clear HO_104001
                 clear HL107_1
                 clear HL112_1
                 clear HO115
                 clear BK101
                 clear BK102
                 clear BK103
                 clear HB
                 have HO_2 := n0_
                 have HO_102000 := n1_
                 have HO_102001 := n2_
                 have HO_104001 := n3_
                 have HL107_1 := n4_
                 have HL112_1 := n5_
                 have HO115 := n6_
                 have BK101 := n7_
                 have BK102 := n8_
                 have BK103 := n9_
                 have HB := n10_
                 clear n0_ n1_ n2_ n3_ n4_ n5_ n6_ n7_ n8_ n9_ n10_
                 have p116 : 0 ≤ (x9_1 : Int) := of_decide_eq_true (by first | (with_reducible assumption) )
                 have q116 : x9_1 < (l0_0.length : Int) := of_decide_eq_true (by first | (with_reducible assumption) )
                 obtain ⟨ad116, A116_1, c116_1, e116, hx116_0, hx116_1, hl116_1, hi116_1⟩ := at_T59 (Kd.V_reads' HO_102000.out).2.2 x9_1 p116 q116
                 obtain rfl : ad107 = ad116 := (by injection e116)
                 obtain ⟨ce116, hce116, hMe116, hcc116⟩ := Kd.V_get HO_102000.out z59 x9_1 p116 (by first | exact q116 )
                 obtain ⟨ua116_1, uc116_1, rfl, ul116_1, ge116_1⟩ := k59_openF hMe116
                 have hv116_1 := hcc116 1 _ rfl
                 rw [add_field _ _ 1 (by omega)] at hv116_1
                 replace hv116_1 := Option.some.inj (hv116_1.symm.trans hx116_1)
                 injection hv116_1 with hva_ hvn_ hvc_
                 rw [hva_] at ge116_1
                 rw [hvc_] at ul116_1
                 have HL116_1 := Aside0.mk (show Kd.V k70 70 _ w.heap.size _ _ ((rd_T59 l0_0 x9_1).f1) from Kd.V_mk ul116_1 ge116_1)
                 clear hva_ hvn_ hvc_ ge116_1 ul116_1
                 clear hcc116 hce116
                 have HR116_1 := Aside0.mk hi116_1
                 have HC116_1 := Aside0.mk hl116_1
                 clear hi116_1 hl116_1
                 replace p116 := eq_true p116
                 replace q116 := eq_true q116
                 refine start_ (n := 11) (S := fun w' => w'.cell? ⟨gb103, 0, none⟩ = some (.slice Ao36 y113.length co36) ∧ w'.cell? ⟨gb103, 1, none⟩ = some (.slice A0_1 l0_1.length c0_1) ∧ w'.cell? ⟨gb101, 0, none⟩ = some (.slice (some ad107) l0_0.length c0_0) ∧ w'.cell? ⟨gb101, 1, none⟩ = some (.slice A0_1 l0_1.length c0_1) ∧ w'.cell? (ad107.add ((x9_1).toNat * 2)) = some (.int .i64 ((rd_T59 l0_0 x9_1).f0)) ∧ w'.cell? ⟨(ad107.add ((x9_1).toNat * 2)).block, (ad107.add ((x9_1).toNat * 2)).off + 1, none⟩ = some (.slice A116_1 ((rd_T59 l0_0 x9_1).f1).length c116_1)) (ds := [8, 10]) #[false, false, false, false, false, false, false, false, false, false, false] (by kernel_rfl) rfl rfl ⟨(blk_cell BK103.out 0).trans rfl, (blk_cell BK103.out 1).trans rfl, (blk_cell BK101.out 0).trans rfl, (blk_cell BK101.out 1).trans rfl, hx116_0, hx116_1⟩ (fun hHeld => ?_); refine with_tabW ecdysisref19_With.tab10 ecdysisref19_With.bits10 (fun HT_ HW_ => ?_)
                 generalize w38.drew = w39 at HO_2 HO_102000 HO_102001 HO_104001 HL107_1 HL112_1 HO115 BK101 BK102 BK103 HB HL116_1 HR116_1 hx116_0 hx116_1 hHeld ⊢
                 refine zp 0 (zb 11 1) ?_ rfl rfl HT_ (by kernel_rfl) (fun _ _ _ h => h) rfl ?_ ?_ ?_ ?_; rotate_left; (intro w'; go_simp; with_reducible rfl); rotate_left; (simp only [zs]; rfl)
                 refine zp 2 (zb 11 5) ?_ rfl rfl HT_ (by kernel_rfl) (fun _ _ _ h => h) rfl ?_ ?_ ?_ ?_; rotate_left; (intro w'; go_simp; with_reducible rfl); rotate_left; (simp only [zs]; rfl)
                 refine zp 4 (zb 11 21) ?_ rfl rfl HT_ (by kernel_rfl) (fun _ _ _ h => h) rfl ?_ ?_ ?_ ?_; rotate_left; (intro w'; go_simp; with_reducible rfl); rotate_left; (simp only [zs]; rfl)
                 refine zt 1 (zb 11 23) ?_ rfl rfl HT_ HW_ (by kernel_rfl) (fun _ _ _ h => h) rfl ?_ hHeld ?_ ?_ ?_; rotate_left; (rintro w' ⟨s0, s1, s2, s3, s4, s5⟩; go_simp; with_reducible rfl); rotate_left; (simp only [zs]; rfl)
                 refine zt 3 (zb 11 31) ?_ rfl rfl HT_ HW_ (by kernel_rfl) (fun _ _ _ h => h) rfl ?_ hHeld ?_ ?_ ?_; rotate_left; (rintro w' ⟨s0, s1, s2, s3, s4, s5⟩; go_simp; with_reducible rfl); rotate_left; (simp only [zs]; rfl)
                 refine zp 5 (zb 11 63) ?_ rfl rfl HT_ (by kernel_rfl) (fun _ _ _ h => h) rfl ?_ ?_ ?_ ?_; rotate_left; (intro w'; go_simp; with_reducible rfl); rotate_left; (simp only [zs]; rfl)
                 refine zt 6 (zb 11 127) ?_ rfl rfl HT_ HW_ (by kernel_rfl) (fun _ _ _ h => h) rfl ?_ hHeld ?_ ?_ ?_; rotate_left; (rintro w' ⟨s0, s1, s2, s3, s4, s5⟩; go_simp; with_reducible rfl); rotate_left; (simp only [zs]; rfl)
                 refine one_ (i := 7) (N := some 58) #[true, true, true, true, true, true, true, true, false, false, false] rfl rfl (one_of HT_.out (by kernel_rfl)) (by decide) (fun K hK => ?_)
                 refine value_ (w1 := ?_) (v := ?_) (by rfl) rfl ?_ ?_
                 rotate_left 2
                 · go_simp
                   constructor
                   · rfl
                   · rfl
                 refine hK.out _ _ ⟨(blk_cell (blk_alloc BK103.out _) 0).trans rfl, (blk_cell (blk_alloc BK103.out _) 1).trans rfl, (blk_cell (blk_alloc BK101.out _) 0).trans rfl, (blk_cell (blk_alloc BK101.out _) 1).trans rfl, (World.cell?_alloc_lt _ _ _ (World.block_lt_of_cell? _ _ (hHeld.2.2.2.2.1))).trans (hHeld.2.2.2.2.1), (World.cell?_alloc_lt _ _ _ (World.block_lt_of_cell? _ _ (hHeld.2.2.2.2.2))).trans (hHeld.2.2.2.2.2)⟩ (fun hHeld => ?_)
                 clear hK K
                 refine norm_ (a' := ?_) ?_ ?_
                 rotate_left
                 · show Act.put _ (some 58) _ = _
                   simp only [zs]
                   rfl
                 refine last_ (i := 8) (N := some 59) #[true, true, true, true, true, true, true, true, true, false, false] rfl rfl (one_of HT_.out (by kernel_rfl)) (by decide) (fun K hK => ?_)
                 refine Kd.N_append_step k59 (w0 := w) w.heap.size (by rfl) (.tmp 52) (.tmp 58) 22 59 (.agg #[(.int .i64 0), (.slice none 0 0)]) 32 rfl Try.underlying22 info59 rfl (by decide) (by omega) (.slice Ao36 y113.length co36) y113 (⟨(rd_T59 l0_0 x9_1).f0, (rd_T59 l0_0 x9_1).f1⟩ : S59) [.int .i64 ((rd_T59 l0_0 x9_1).f0), .slice A116_1 ((rd_T59 l0_0 x9_1).f1).length c116_1] (fun k_ => ((P0_0_ k_ ∨ P0_1_ k_ ∨ P2_ k_) ∨ w.heap.size ≤ k_) ∧ k_ ≠ gb101 ∧ k_ ≠ gb102 ∧ k_ ≠ gb103) (fun k_ => ((fun k_ => ((P0_0_ k_ ∨ P0_1_ k_ ∨ P2_ k_) ∨ w.heap.size ≤ k_) ∧ k_ ≠ gb101 ∧ k_ ≠ gb102 ∧ k_ ≠ gb103)) k_ ∧ some k_ ≠ (.slice Ao36 y113.length co36 : Value).ownBlock) rfl rfl ?aP (fun _ hk => hk) ?aF ?aO ?aB ?aS ?aL ?_
                 (case aP => exact (k59_mkF _ _ (⟨(rd_T59 l0_0 x9_1).f0, (rd_T59 l0_0 x9_1).f1⟩ : S59) (Kd.V_reads' (Kd.V_mono (ok' := (fun k_ => ((fun k_ => ((P0_0_ k_ ∨ P0_1_ k_ ∨ P2_ k_) ∨ w.heap.size ≤ k_) ∧ k_ ≠ gb101 ∧ k_ ≠ gb102 ∧ k_ ≠ gb103)) k_ ∧ some k_ ≠ (.slice Ao36 y113.length co36 : Value).ownBlock)) (HL116_1.out) (fun k_ hk => ⟨⟨hk.1, ⟨hk.2.2.1, ⟨hk.2.2.2.1, hk.2.2.2.2⟩⟩⟩, hk.2.1⟩))).2.1 (Kd.V_F (Kd.V_mono (ok' := (fun k_ => ((fun k_ => ((P0_0_ k_ ∨ P0_1_ k_ ∨ P2_ k_) ∨ w.heap.size ≤ k_) ∧ k_ ≠ gb101 ∧ k_ ≠ gb102 ∧ k_ ≠ gb103)) k_ ∧ some k_ ≠ (.slice Ao36 y113.length co36 : Value).ownBlock)) (HL116_1.out) (fun k_ hk => ⟨⟨hk.1, ⟨hk.2.2.1, ⟨hk.2.2.2.1, hk.2.2.2.2⟩⟩⟩, hk.2.1⟩)))))
                 (case aB => exact HB.out)
                 (case aF => exact (fun k_ hk => ⟨(.inr (Nat.le_trans (below_size HB.out) hk)), Kd.freshB (g := gb101) (o := .cells #[.slice (some ad107) l0_0.length c0_0, .slice A0_1 l0_1.length c0_1] 25 (0, 0)) BK101.out k_ hk, Kd.freshB (g := gb102) (o := .cells #[.slice none 0 0, .slice none 0 0] 25 (0, 0)) BK102.out k_ hk, Kd.freshB (g := gb103) (o := .cells #[.slice Ao36 y113.length co36, .slice A0_1 l0_1.length c0_1] 25 (0, 0)) BK103.out k_ hk⟩))
                 (case aO => exact HO115.out)
                 (case aS => exact (below_size HB.out))
                 (case aL => have := LMc29.out; omega)
                 intro v118 w40 ho hb hg hat
                 rw [← Ny117.out] at ho
                 have n0_ := Aside0.mk (Kd.V_afterv (ok := (fun k_ => ((P0_0_ k_ ∨ P0_1_ k_ ∨ P2_ k_) ∨ w.heap.size ≤ k_) ∧ k_ ≠ gb101 ∧ k_ ≠ gb102 ∧ k_ ≠ gb103)) (by exact Kd.V_mono HO_2.out (fun _ hk => ⟨⟨hk.1, ⟨hk.2.2.1, ⟨hk.2.2.2.1, hk.2.2.2.2⟩⟩⟩, hk.2.1⟩)) hg hat)
                 have n1_ := Aside0.mk (Kd.V_afterv (ok := (fun k_ => ((P0_0_ k_ ∨ P0_1_ k_ ∨ P2_ k_) ∨ w.heap.size ≤ k_) ∧ k_ ≠ gb101 ∧ k_ ≠ gb102 ∧ k_ ≠ gb103)) (by exact Kd.V_mono HO_102000.out (fun _ hk => ⟨⟨hk.1, ⟨hk.2.2.1, ⟨hk.2.2.2.1, hk.2.2.2.2⟩⟩⟩, hk.2.1⟩)) hg hat)
                 have n2_ := Aside0.mk (Kd.V_afterv (ok := (fun k_ => ((P0_0_ k_ ∨ P0_1_ k_ ∨ P2_ k_) ∨ w.heap.size ≤ k_) ∧ k_ ≠ gb101 ∧ k_ ≠ gb102 ∧ k_ ≠ gb103)) (by exact Kd.V_mono HO_102001.out (fun _ hk => ⟨⟨hk.1, ⟨hk.2.2.1, ⟨hk.2.2.2.1, hk.2.2.2.2⟩⟩⟩, hk.2.1⟩)) hg hat)
                 have n3_ := Aside0.mk (Kd.V_afterv (ok := (fun k_ => ((P0_0_ k_ ∨ P0_1_ k_ ∨ P2_ k_) ∨ w.heap.size ≤ k_) ∧ k_ ≠ gb101 ∧ k_ ≠ gb102 ∧ k_ ≠ gb103)) (by exact Kd.V_mono HO_104001.out (fun _ hk => ⟨⟨hk.1, ⟨hk.2.2.1, ⟨hk.2.2.2.1, hk.2.2.2.2⟩⟩⟩, hk.2.1⟩)) hg hat)
                 have n4_ := Aside0.mk (blk_grown (g := gb101) (o := .cells #[.slice (some ad107) l0_0.length c0_0, .slice A0_1 l0_1.length c0_1] 25 (0, 0)) BK101.out hg (Kd.N_ne HO115.out BK101.out (by decide)))
                 have n5_ := Aside0.mk (blk_grown (g := gb102) (o := .cells #[.slice none 0 0, .slice none 0 0] 25 (0, 0)) BK102.out hg (Kd.N_ne HO115.out BK102.out (by decide)))
                 have n6_ := Aside0.mk (blk_grown (g := gb103) (o := .cells #[.slice Ao36 y113.length co36, .slice A0_1 l0_1.length c0_1] 25 (0, 0)) BK103.out hg (Kd.N_ne HO115.out BK103.out (by decide)))
                 have n7_ := Aside0.mk (Kd.V_afterv (ok := (fun k_ => ((P0_0_ k_ ∨ P0_1_ k_ ∨ P2_ k_) ∨ w.heap.size ≤ k_) ∧ k_ ≠ gb101 ∧ k_ ≠ gb102 ∧ k_ ≠ gb103)) (by exact Kd.V_mono HL107_1.out (fun _ hk => ⟨⟨hk.1, ⟨hk.2.2.1, ⟨hk.2.2.2.1, hk.2.2.2.2⟩⟩⟩, hk.2.1⟩)) hg hat)
                 have n8_ := Aside0.mk (Kd.V_afterv (ok := (fun k_ => ((P0_0_ k_ ∨ P0_1_ k_ ∨ P2_ k_) ∨ w.heap.size ≤ k_) ∧ k_ ≠ gb101 ∧ k_ ≠ gb102 ∧ k_ ≠ gb103)) (by exact Kd.V_mono HL112_1.out (fun _ hk => ⟨⟨hk.1, ⟨hk.2.2.1, ⟨hk.2.2.2.1, hk.2.2.2.2⟩⟩⟩, hk.2.1⟩)) hg hat)
                 have n9_ := Aside0.mk (Kd.V_afterv (ok := (fun k_ => ((P0_0_ k_ ∨ P0_1_ k_ ∨ P2_ k_) ∨ w.heap.size ≤ k_) ∧ k_ ≠ gb101 ∧ k_ ≠ gb102 ∧ k_ ≠ gb103)) (by exact Kd.V_mono HL116_1.out (fun _ hk => ⟨⟨hk.1, ⟨hk.2.2.1, ⟨hk.2.2.2.1, hk.2.2.2.2⟩⟩⟩, hk.2.1⟩)) hg hat)
                 have n10_ := Aside0.mk (hb)
                 have n11_ := Aside0.mk (ho)
                 clear HO_2
                 clear HO_102000
                 clear HO_102001
                 clear HO_104001
                 clear BK101
                 clear BK102
                 clear BK103
                 clear HL107_1
                 clear HL112_1
                 clear HL116_1
                 clear HB
                 clear HO115
                 have HO_2 := n0_
                 have HO_102000 := n1_
                 have HO_102001 := n2_
                 have HO_104001 := n3_
                 have BK101 := n4_
                 have BK102 := n5_
                 have BK103 := n6_
                 have HL107_1 := n7_
                 have HL112_1 := n8_
                 have HL116_1 := n9_
                 have HB := n10_
                 have HO119 := n11_
                 clear n0_ n1_ n2_ n3_ n4_ n5_ n6_ n7_ n8_ n9_ n10_ n11_
                 clear ho hb hg hat
                 obtain ⟨Ao41, co41, eo41⟩ := Kd.N_slice HO119.out
                 (first | subst eo41 )
                 refine hK.out _ _ ?_
                 clear hK K
                 refine norm_ (a' := ?_) ?_ ?_
                 rotate_left
                 · show Act.put _ (some 59) _ = _
                   simp only [zs]
                   rfl
                 refine zp 9 (zb 11 1023) ?_ rfl rfl HT_ (by kernel_rfl) (fun _ _ _ h => h) rfl ?_ ?_ ?_ ?_; rotate_left; (intro w'; go_simp; with_reducible rfl); rotate_left; (simp only [zs]; rfl)
                 refine last_ (i := 10) (N := none) #[true, true, true, true, true, true, true, true, true, true, true] rfl rfl (one_of HT_.out (by kernel_rfl)) (by decide) (fun K hK => ?_)
                 have hs42 : w40.cell? ⟨gb103, 0, none⟩ = some (.slice Ao36 y113.length co36) := (blk_cell BK103.out 0).trans rfl
                 have hfs42 := blk_frozen BK103.out 0
                 have hns42_0 := NB101_103.out
                 have hns42_1 := NB102_103.out
                 have hms42_0 := NB103_101.out
                 have hms42_1 := NB103_102.out
                 refine skip_ (w1 := ?_) (by rfl) rfl ?_ ?_
                 rotate_left
                 · go_simp
                   rfl
                 refine hK.out _ _ ?_
                 clear hK K
                 refine done_ (done_of HT_.out (by kernel_rfl)) ?_
                 try go_wp2
                 go_roundg k1
                 case measure => have := HK1.out; omega
                 case rel => exact ⟨(true), (wrap64 (x9_1 + 1)), (y117), (.slice Ao41 y117.length co41), (by first | rfl ), (by first | rfl ), H', ⟨by have := HK1.out; omega⟩, ⟨by exact Kd.V_mono (Kd.V_far (p := ⟨gb103, 0, none⟩) (Kd.V_mono HO_2.out (fun k_ hk => (⟨hk, hk.1.2.2.2⟩ : _ ∧ k_ ≠ gb103))) (fun _ hk => hk.2) (.slice Ao41 y117.length co41)) (fun _ hk => ⟨hk.1.1.1, ⟨hk.1.2, ⟨hk.1.1.2.1, ⟨hk.1.1.2.2.1, hk.1.1.2.2.2⟩⟩⟩⟩)⟩, ⟨by exact Kd.V_mono (Kd.V_far (p := ⟨gb103, 0, none⟩) (Kd.V_mono HO_102000.out (fun k_ hk => (⟨hk, hk.1.2.2.2⟩ : _ ∧ k_ ≠ gb103))) (fun _ hk => hk.2) (.slice Ao41 y117.length co41)) (fun _ hk => ⟨hk.1.1.1, ⟨hk.1.2, ⟨hk.1.1.2.1, ⟨hk.1.1.2.2.1, hk.1.1.2.2.2⟩⟩⟩⟩)⟩, ⟨by exact Kd.V_mono (Kd.V_far (p := ⟨gb103, 0, none⟩) (Kd.V_mono HO_102001.out (fun k_ hk => (⟨hk, hk.1.2.2.2⟩ : _ ∧ k_ ≠ gb103))) (fun _ hk => hk.2) (.slice Ao41 y117.length co41)) (fun _ hk => ⟨hk.1.1.1, ⟨hk.1.2, ⟨hk.1.1.2.1, ⟨hk.1.1.2.2.1, hk.1.1.2.2.2⟩⟩⟩⟩)⟩, ⟨by exact Kd.N_mono (Kd.N_far (p := ⟨gb103, 0, none⟩) (Kd.N_mono HO119.out (fun k_ hk => (⟨hk, hk.2.2.2⟩ : _ ∧ k_ ≠ gb103))) (fun _ hk => hk.2) (.slice Ao41 y117.length co41)) (fun _ hk => ⟨hk.1.1, ⟨hk.1.2.1, ⟨hk.1.2.2.1, hk.1.2.2.2⟩⟩⟩)⟩, ⟨by exact Kd.V_mono (Kd.V_far (p := ⟨gb103, 0, none⟩) (Kd.V_mono HO_104001.out (fun k_ hk => (⟨hk, hk.1.2.2.2⟩ : _ ∧ k_ ≠ gb103))) (fun _ hk => hk.2) (.slice Ao41 y117.length co41)) (fun _ hk => ⟨hk.1.1.1, ⟨hk.1.2, ⟨hk.1.1.2.1, ⟨hk.1.1.2.2.1, hk.1.1.2.2.2⟩⟩⟩⟩)⟩, ⟨by refine blk_far ?_ NB101_103.out _; exact BK101.out⟩, ⟨by refine blk_far ?_ NB102_103.out _; exact BK102.out⟩, ⟨by refine blk_put (cs := #[.slice Ao36 y113.length co36, .slice A0_1 l0_1.length c0_1]) ?_ 0 _ rfl; exact BK103.out⟩, ⟨by repeat (first | (with_reducible first | exact HB.out | refine below_set ?_ GE103.out) )⟩⟩
               · rw [if_neg c29] at H
                 exact absurd H (by simp)
             · rw [if_neg c28] at H
               exact absurd H (by simp)
           · rw [if_neg c27] at H
             have c27b0 : decide (a1 < ((rd_T59 l0_0 x9_1).f0)) = false := decide_eq_false c27
             clear c27
             by_cases c43 : x104000_1.length < 4398046511104
             · rw [if_pos c43] at H
               have LMc43 := Aside0.mk c43
               clear c43
               obtain ⟨y121, hy121⟩ : ∃ y_ : List (S59), y_ = (x104000_1 ++ [(⟨(rd_T59 l0_0 x9_1).f0, (rd_T59 l0_0 x9_1).f1⟩ : S59)]) := ⟨_, rfl⟩
               replace H : (ecdysisref19_With.l0 k1 a1 l2 false (wrap64 (x9_1 + 1)) l0_0 l0_1 y121 l0_1) = some (r1, r2) := by first | (rw [hy121]; with_reducible exact H) 
               have Ny121 := Aside0.mk hy121
               clear hy121
               have H' := Aside0.mk H
               clear H
               have hnb44 := NB101_102.out
               have hnc44 := NB102_101.out
               have hnb45 := NB101_103.out
               have hnc45 := NB103_101.out
               have hcz46_0 : wr.cell? ⟨gb101, 0, none⟩ = some (.slice A0_0 l0_0.length c0_0) := (blk_cell BK101.out 0).trans rfl
               have hcz46_1 : wr.cell? ⟨gb101, 1, none⟩ = some (.slice A0_1 l0_1.length c0_1) := (blk_cell BK101.out 1).trans rfl
               have hfz46_0 := blk_frozen BK101.out 0
               have hfz46_1 := blk_frozen BK101.out 1
               have p107 : 0 ≤ (x9_1 : Int) := of_decide_eq_true (by first | (with_reducible assumption) )
               have q107 : x9_1 < (l0_0.length : Int) := of_decide_eq_true (by first | (with_reducible assumption) )
               obtain ⟨ad107, A107_1, c107_1, e107, hx107_0, hx107_1, hl107_1, hi107_1⟩ := at_T59 (Kd.V_reads' HO_102000.out).2.2 x9_1 p107 q107
               cases e107
               obtain ⟨ce107, hce107, hMe107, hcc107⟩ := Kd.V_get HO_102000.out z59 x9_1 p107 (by first | exact q107 )
               obtain ⟨ua107_1, uc107_1, rfl, ul107_1, ge107_1⟩ := k59_openF hMe107
               have hv107_1 := hcc107 1 _ rfl
               rw [add_field _ _ 1 (by omega)] at hv107_1
               replace hv107_1 := Option.some.inj (hv107_1.symm.trans hx107_1)
               injection hv107_1 with hva_ hvn_ hvc_
               rw [hva_] at ge107_1
               rw [hvc_] at ul107_1
               have HL107_1 := Aside0.mk (show Kd.V k70 70 _ w.heap.size _ _ ((rd_T59 l0_0 x9_1).f1) from Kd.V_mk ul107_1 ge107_1)
               clear hva_ hvn_ hvc_ ge107_1 ul107_1
               clear hcc107 hce107
               have HR107_1 := Aside0.mk hi107_1
               have HC107_1 := Aside0.mk hl107_1
               clear hi107_1 hl107_1
               replace p107 := eq_true p107
               replace q107 := eq_true q107
               have p112 : 0 ≤ (x9_1 : Int) := of_decide_eq_true (by first | (with_reducible assumption) )
               have q112 : x9_1 < (l0_0.length : Int) := of_decide_eq_true (by first | (with_reducible assumption) )
               obtain ⟨ad112, A112_1, c112_1, e112, hx112_0, hx112_1, hl112_1, hi112_1⟩ := at_T59 (Kd.V_reads' HO_102000.out).2.2 x9_1 p112 q112
               obtain rfl : ad107 = ad112 := (by injection e112)
               obtain ⟨ce112, hce112, hMe112, hcc112⟩ := Kd.V_get HO_102000.out z59 x9_1 p112 (by first | exact q112 )
               obtain ⟨ua112_1, uc112_1, rfl, ul112_1, ge112_1⟩ := k59_openF hMe112
               have hv112_1 := hcc112 1 _ rfl
               rw [add_field _ _ 1 (by omega)] at hv112_1
               replace hv112_1 := Option.some.inj (hv112_1.symm.trans hx112_1)
               injection hv112_1 with hva_ hvn_ hvc_
               rw [hva_] at ge112_1
               rw [hvc_] at ul112_1
               have HL112_1 := Aside0.mk (show Kd.V k70 70 _ w.heap.size _ _ ((rd_T59 l0_0 x9_1).f1) from Kd.V_mk ul112_1 ge112_1)
               clear hva_ hvn_ hvc_ ge112_1 ul112_1
               clear hcc112 hce112
               have HR112_1 := Aside0.mk hi112_1
               have HC112_1 := Aside0.mk hl112_1
               clear hi112_1 hl112_1
               replace p112 := eq_true p112
               replace q112 := eq_true q112
               have ea_ := Option.some.inj (hx107_1.symm.trans hx112_1)
               injection ea_ with ea_ en_ ec_
               subst ea_
               subst ec_
               clear en_
               try go_wp2
               have n0_ := Aside0.mk (Kd.V_drew HO_2.out)
               have n1_ := Aside0.mk (Kd.V_drew HO_102000.out)
               have n2_ := Aside0.mk (Kd.V_drew HO_102001.out)
               have n3_ := Aside0.mk (Kd.N_drew HO_104000.out)
               have n4_ := Aside0.mk (Kd.V_drew HO_104001.out)
               have n5_ := Aside0.mk (Kd.V_drew HL107_1.out)
               have n6_ := Aside0.mk (Kd.V_drew HL112_1.out)
               have n7_ := Aside0.mk (blk_drew BK101.out)
               have n8_ := Aside0.mk (blk_drew BK102.out)
               have n9_ := Aside0.mk (blk_drew BK103.out)
               have n10_ := Aside0.mk (Kd.C_drew HR107_1.out)
               have n11_ := Aside0.mk (Kd.C_drew HR112_1.out)
               have n12_ := Aside0.mk (below_drew1 HB.out)
               clear HO_2
               clear HO_102000
               clear HO_102001
               clear HO_104000
               clear HO_104001
               clear HL107_1
               clear HL112_1
               clear BK101
               clear BK102
               clear BK103
               clear HR107_1
               clear HR112_1
               clear HB
               have HO_2 := n0_
               have HO_102000 := n1_
               have HO_102001 := n2_
               have HO_104000 := n3_
               have HO_104001 := n4_
               have HL107_1 := n5_
               have HL112_1 := n6_
               have BK101 := n7_
               have BK102 := n8_
               have BK103 := n9_
               have HR107_1 := n10_
               have HR112_1 := n11_
               have HB := n12_
               clear n0_ n1_ n2_ n3_ n4_ n5_ n6_ n7_ n8_ n9_ n10_ n11_ n12_
               have p120 : 0 ≤ (x9_1 : Int) := of_decide_eq_true (by first | (with_reducible assumption) )
               have q120 : x9_1 < (l0_0.length : Int) := of_decide_eq_true (by first | (with_reducible assumption) )
               obtain ⟨ad120, A120_1, c120_1, e120, hx120_0, hx120_1, hl120_1, hi120_1⟩ := at_T59 (Kd.V_reads' HO_102000.out).2.2 x9_1 p120 q120
               obtain rfl : ad107 = ad120 := (by injection e120)
               obtain ⟨ce120, hce120, hMe120, hcc120⟩ := Kd.V_get HO_102000.out z59 x9_1 p120 (by first | exact q120 )
               obtain ⟨ua120_1, uc120_1, rfl, ul120_1, ge120_1⟩ := k59_openF hMe120
               have hv120_1 := hcc120 1 _ rfl
               rw [add_field _ _ 1 (by omega)] at hv120_1
               replace hv120_1 := Option.some.inj (hv120_1.symm.trans hx120_1)
               injection hv120_1 with hva_ hvn_ hvc_
               rw [hva_] at ge120_1
               rw [hvc_] at ul120_1
               have HL120_1 := Aside0.mk (show Kd.V k70 70 _ w.heap.size _ _ ((rd_T59 l0_0 x9_1).f1) from Kd.V_mk ul120_1 ge120_1)
               clear hva_ hvn_ hvc_ ge120_1 ul120_1
               clear hcc120 hce120
               have HR120_1 := Aside0.mk hi120_1
               have HC120_1 := Aside0.mk hl120_1
               clear hi120_1 hl120_1
               replace p120 := eq_true p120
               replace q120 := eq_true q120
               refine start_ (n := 11) (S := fun w' => w'.cell? ⟨gb103, 0, none⟩ = some (u104000) ∧ w'.cell? ⟨gb103, 1, none⟩ = some (.slice A0_1 l0_1.length c0_1) ∧ w'.cell? ⟨gb101, 0, none⟩ = some (.slice (some ad107) l0_0.length c0_0) ∧ w'.cell? ⟨gb101, 1, none⟩ = some (.slice A0_1 l0_1.length c0_1) ∧ w'.cell? (ad107.add ((x9_1).toNat * 2)) = some (.int .i64 ((rd_T59 l0_0 x9_1).f0)) ∧ w'.cell? ⟨(ad107.add ((x9_1).toNat * 2)).block, (ad107.add ((x9_1).toNat * 2)).off + 1, none⟩ = some (.slice A120_1 ((rd_T59 l0_0 x9_1).f1).length c120_1)) (ds := [8, 10]) #[false, false, false, false, false, false, false, false, false, false, false] (by kernel_rfl) rfl rfl ⟨(blk_cell BK103.out 0).trans rfl, (blk_cell BK103.out 1).trans rfl, (blk_cell BK101.out 0).trans rfl, (blk_cell BK101.out 1).trans rfl, hx120_0, hx120_1⟩ (fun hHeld => ?_); refine with_tabW ecdysisref19_With.tab10 ecdysisref19_With.bits10 (fun HT_ HW_ => ?_)
               generalize wr.drew = w47 at HO_2 HO_102000 HO_102001 HO_104000 HO_104001 HL107_1 HL112_1 BK101 BK102 BK103 HR107_1 HR112_1 HB HL120_1 HR120_1 hx120_0 hx120_1 hHeld ⊢
               refine zp 0 (zb 11 1) ?_ rfl rfl HT_ (by kernel_rfl) (fun _ _ _ h => h) rfl ?_ ?_ ?_ ?_; rotate_left; (intro w'; go_simp; with_reducible rfl); rotate_left; (simp only [zs]; rfl)
               refine zp 2 (zb 11 5) ?_ rfl rfl HT_ (by kernel_rfl) (fun _ _ _ h => h) rfl ?_ ?_ ?_ ?_; rotate_left; (intro w'; go_simp; with_reducible rfl); rotate_left; (simp only [zs]; rfl)
               refine zp 4 (zb 11 21) ?_ rfl rfl HT_ (by kernel_rfl) (fun _ _ _ h => h) rfl ?_ ?_ ?_ ?_; rotate_left; (intro w'; go_simp; with_reducible rfl); rotate_left; (simp only [zs]; rfl)
               refine zt 1 (zb 11 23) ?_ rfl rfl HT_ HW_ (by kernel_rfl) (fun _ _ _ h => h) rfl ?_ hHeld ?_ ?_ ?_; rotate_left; (rintro w' ⟨s0, s1, s2, s3, s4, s5⟩; go_simp; with_reducible rfl); rotate_left; (simp only [zs]; rfl)
               refine zt 3 (zb 11 31) ?_ rfl rfl HT_ HW_ (by kernel_rfl) (fun _ _ _ h => h) rfl ?_ hHeld ?_ ?_ ?_; rotate_left; (rintro w' ⟨s0, s1, s2, s3, s4, s5⟩; go_simp; with_reducible rfl); rotate_left; (simp only [zs]; rfl)
               refine zp 5 (zb 11 63) ?_ rfl rfl HT_ (by kernel_rfl) (fun _ _ _ h => h) rfl ?_ ?_ ?_ ?_; rotate_left; (intro w'; go_simp; with_reducible rfl); rotate_left; (simp only [zs]; rfl)
               refine zt 6 (zb 11 127) ?_ rfl rfl HT_ HW_ (by kernel_rfl) (fun _ _ _ h => h) rfl ?_ hHeld ?_ ?_ ?_; rotate_left; (rintro w' ⟨s0, s1, s2, s3, s4, s5⟩; go_simp; with_reducible rfl); rotate_left; (simp only [zs]; rfl)
               refine one_ (i := 7) (N := some 58) #[true, true, true, true, true, true, true, true, false, false, false] rfl rfl (one_of HT_.out (by kernel_rfl)) (by decide) (fun K hK => ?_)
               refine value_ (w1 := ?_) (v := ?_) (by rfl) rfl ?_ ?_
               rotate_left 2
               · go_simp
                 constructor
                 · rfl
                 · rfl
               refine hK.out _ _ ⟨(blk_cell (blk_alloc BK103.out _) 0).trans rfl, (blk_cell (blk_alloc BK103.out _) 1).trans rfl, (blk_cell (blk_alloc BK101.out _) 0).trans rfl, (blk_cell (blk_alloc BK101.out _) 1).trans rfl, (World.cell?_alloc_lt _ _ _ (World.block_lt_of_cell? _ _ (hHeld.2.2.2.2.1))).trans (hHeld.2.2.2.2.1), (World.cell?_alloc_lt _ _ _ (World.block_lt_of_cell? _ _ (hHeld.2.2.2.2.2))).trans (hHeld.2.2.2.2.2)⟩ (fun hHeld => ?_)
               clear hK K
               refine norm_ (a' := ?_) ?_ ?_
               rotate_left
               · show Act.put _ (some 58) _ = _
                 simp only [zs]
                 rfl
               refine last_ (i := 8) (N := some 59) #[true, true, true, true, true, true, true, true, true, false, false] rfl rfl (one_of HT_.out (by kernel_rfl)) (by decide) (fun K hK => ?_)
               refine Kd.N_append_step k59 (w0 := w) w.heap.size (by rfl) (.tmp 52) (.tmp 58) 22 59 (.agg #[(.int .i64 0), (.slice none 0 0)]) 32 rfl Try.underlying22 info59 rfl (by decide) (by omega) u104000 x104000_1 (⟨(rd_T59 l0_0 x9_1).f0, (rd_T59 l0_0 x9_1).f1⟩ : S59) [.int .i64 ((rd_T59 l0_0 x9_1).f0), .slice A120_1 ((rd_T59 l0_0 x9_1).f1).length c120_1] (fun k_ => ((P0_0_ k_ ∨ P0_1_ k_ ∨ P2_ k_) ∨ w.heap.size ≤ k_) ∧ k_ ≠ gb101 ∧ k_ ≠ gb102 ∧ k_ ≠ gb103) (fun k_ => ((fun k_ => ((P0_0_ k_ ∨ P0_1_ k_ ∨ P2_ k_) ∨ w.heap.size ≤ k_) ∧ k_ ≠ gb101 ∧ k_ ≠ gb102 ∧ k_ ≠ gb103)) k_ ∧ some k_ ≠ (u104000 : Value).ownBlock) rfl rfl ?aP (fun _ hk => hk) ?aF ?aO ?aB ?aS ?aL ?_
               (case aP => exact (k59_mkF _ _ (⟨(rd_T59 l0_0 x9_1).f0, (rd_T59 l0_0 x9_1).f1⟩ : S59) (Kd.V_reads' (Kd.V_mono (ok' := (fun k_ => ((fun k_ => ((P0_0_ k_ ∨ P0_1_ k_ ∨ P2_ k_) ∨ w.heap.size ≤ k_) ∧ k_ ≠ gb101 ∧ k_ ≠ gb102 ∧ k_ ≠ gb103)) k_ ∧ some k_ ≠ (u104000 : Value).ownBlock)) (HL120_1.out) (fun k_ hk => ⟨⟨hk.1, ⟨hk.2.2.1, ⟨hk.2.2.2.1, hk.2.2.2.2⟩⟩⟩, hk.2.1⟩))).2.1 (Kd.V_F (Kd.V_mono (ok' := (fun k_ => ((fun k_ => ((P0_0_ k_ ∨ P0_1_ k_ ∨ P2_ k_) ∨ w.heap.size ≤ k_) ∧ k_ ≠ gb101 ∧ k_ ≠ gb102 ∧ k_ ≠ gb103)) k_ ∧ some k_ ≠ (u104000 : Value).ownBlock)) (HL120_1.out) (fun k_ hk => ⟨⟨hk.1, ⟨hk.2.2.1, ⟨hk.2.2.2.1, hk.2.2.2.2⟩⟩⟩, hk.2.1⟩)))))
               (case aB => exact HB.out)
               (case aF => exact (fun k_ hk => ⟨(.inr (Nat.le_trans (below_size HB.out) hk)), Kd.freshB (g := gb101) (o := .cells #[.slice (some ad107) l0_0.length c0_0, .slice A0_1 l0_1.length c0_1] 25 (0, 0)) BK101.out k_ hk, Kd.freshB (g := gb102) (o := .cells #[.slice none 0 0, .slice none 0 0] 25 (0, 0)) BK102.out k_ hk, Kd.freshB (g := gb103) (o := .cells #[u104000, .slice A0_1 l0_1.length c0_1] 25 (0, 0)) BK103.out k_ hk⟩))
               (case aO => exact HO_104000.out)
               (case aS => exact (below_size HB.out))
               (case aL => have := LMc43.out; omega)
               intro v122 w48 ho hb hg hat
               rw [← Ny121.out] at ho
               have n0_ := Aside0.mk (Kd.V_afterv (ok := (fun k_ => ((P0_0_ k_ ∨ P0_1_ k_ ∨ P2_ k_) ∨ w.heap.size ≤ k_) ∧ k_ ≠ gb101 ∧ k_ ≠ gb102 ∧ k_ ≠ gb103)) (by exact Kd.V_mono HO_2.out (fun _ hk => ⟨⟨hk.1, ⟨hk.2.2.1, ⟨hk.2.2.2.1, hk.2.2.2.2⟩⟩⟩, hk.2.1⟩)) hg hat)
               have n1_ := Aside0.mk (Kd.V_afterv (ok := (fun k_ => ((P0_0_ k_ ∨ P0_1_ k_ ∨ P2_ k_) ∨ w.heap.size ≤ k_) ∧ k_ ≠ gb101 ∧ k_ ≠ gb102 ∧ k_ ≠ gb103)) (by exact Kd.V_mono HO_102000.out (fun _ hk => ⟨⟨hk.1, ⟨hk.2.2.1, ⟨hk.2.2.2.1, hk.2.2.2.2⟩⟩⟩, hk.2.1⟩)) hg hat)
               have n2_ := Aside0.mk (Kd.V_afterv (ok := (fun k_ => ((P0_0_ k_ ∨ P0_1_ k_ ∨ P2_ k_) ∨ w.heap.size ≤ k_) ∧ k_ ≠ gb101 ∧ k_ ≠ gb102 ∧ k_ ≠ gb103)) (by exact Kd.V_mono HO_102001.out (fun _ hk => ⟨⟨hk.1, ⟨hk.2.2.1, ⟨hk.2.2.2.1, hk.2.2.2.2⟩⟩⟩, hk.2.1⟩)) hg hat)
               have n3_ := Aside0.mk (Kd.V_afterv (ok := (fun k_ => ((P0_0_ k_ ∨ P0_1_ k_ ∨ P2_ k_) ∨ w.heap.size ≤ k_) ∧ k_ ≠ gb101 ∧ k_ ≠ gb102 ∧ k_ ≠ gb103)) (by exact Kd.V_mono HO_104001.out (fun _ hk => ⟨⟨hk.1, ⟨hk.2.2.1, ⟨hk.2.2.2.1, hk.2.2.2.2⟩⟩⟩, hk.2.1⟩)) hg hat)
               have n4_ := Aside0.mk (blk_grown (g := gb101) (o := .cells #[.slice (some ad107) l0_0.length c0_0, .slice A0_1 l0_1.length c0_1] 25 (0, 0)) BK101.out hg (Kd.N_ne HO_104000.out BK101.out (by decide)))
               have n5_ := Aside0.mk (blk_grown (g := gb102) (o := .cells #[.slice none 0 0, .slice none 0 0] 25 (0, 0)) BK102.out hg (Kd.N_ne HO_104000.out BK102.out (by decide)))
               have n6_ := Aside0.mk (blk_grown (g := gb103) (o := .cells #[u104000, .slice A0_1 l0_1.length c0_1] 25 (0, 0)) BK103.out hg (Kd.N_ne HO_104000.out BK103.out (by decide)))
               have n7_ := Aside0.mk (Kd.V_afterv (ok := (fun k_ => ((P0_0_ k_ ∨ P0_1_ k_ ∨ P2_ k_) ∨ w.heap.size ≤ k_) ∧ k_ ≠ gb101 ∧ k_ ≠ gb102 ∧ k_ ≠ gb103)) (by exact Kd.V_mono HL107_1.out (fun _ hk => ⟨⟨hk.1, ⟨hk.2.2.1, ⟨hk.2.2.2.1, hk.2.2.2.2⟩⟩⟩, hk.2.1⟩)) hg hat)
               have n8_ := Aside0.mk (Kd.V_afterv (ok := (fun k_ => ((P0_0_ k_ ∨ P0_1_ k_ ∨ P2_ k_) ∨ w.heap.size ≤ k_) ∧ k_ ≠ gb101 ∧ k_ ≠ gb102 ∧ k_ ≠ gb103)) (by exact Kd.V_mono HL112_1.out (fun _ hk => ⟨⟨hk.1, ⟨hk.2.2.1, ⟨hk.2.2.2.1, hk.2.2.2.2⟩⟩⟩, hk.2.1⟩)) hg hat)
               have n9_ := Aside0.mk (Kd.V_afterv (ok := (fun k_ => ((P0_0_ k_ ∨ P0_1_ k_ ∨ P2_ k_) ∨ w.heap.size ≤ k_) ∧ k_ ≠ gb101 ∧ k_ ≠ gb102 ∧ k_ ≠ gb103)) (by exact Kd.V_mono HL120_1.out (fun _ hk => ⟨⟨hk.1, ⟨hk.2.2.1, ⟨hk.2.2.2.1, hk.2.2.2.2⟩⟩⟩, hk.2.1⟩)) hg hat)
               have n10_ := Aside0.mk (hb)
               have n11_ := Aside0.mk (ho)
               clear HO_2
               clear HO_102000
               clear HO_102001
               clear HO_104001
               clear BK101
               clear BK102
               clear BK103
               clear HL107_1
               clear HL112_1
               clear HL120_1
               clear HB
               clear HO_104000
               have HO_2 := n0_
               have HO_102000 := n1_
               have HO_102001 := n2_
               have HO_104001 := n3_
               have BK101 := n4_
               have BK102 := n5_
               have BK103 := n6_
               have HL107_1 := n7_
               have HL112_1 := n8_
               have HL120_1 := n9_
               have HB := n10_
               have HO123 := n11_
               clear n0_ n1_ n2_ n3_ n4_ n5_ n6_ n7_ n8_ n9_ n10_ n11_
               clear ho hb hg hat
               obtain ⟨Ao49, co49, eo49⟩ := Kd.N_slice HO123.out
               (first | subst eo49 )
               refine hK.out _ _ ?_
               clear hK K
               refine norm_ (a' := ?_) ?_ ?_
               rotate_left
               · show Act.put _ (some 59) _ = _
                 simp only [zs]
                 rfl
               refine zp 9 (zb 11 1023) ?_ rfl rfl HT_ (by kernel_rfl) (fun _ _ _ h => h) rfl ?_ ?_ ?_ ?_; rotate_left; (intro w'; go_simp; with_reducible rfl); rotate_left; (simp only [zs]; rfl)
               refine last_ (i := 10) (N := none) #[true, true, true, true, true, true, true, true, true, true, true] rfl rfl (one_of HT_.out (by kernel_rfl)) (by decide) (fun K hK => ?_)
               have hs50 : w48.cell? ⟨gb103, 0, none⟩ = some (u104000) := (blk_cell BK103.out 0).trans rfl
               have hfs50 := blk_frozen BK103.out 0
               have hns50_0 := NB101_103.out
               have hns50_1 := NB102_103.out
               have hms50_0 := NB103_101.out
               have hms50_1 := NB103_102.out
               refine skip_ (w1 := ?_) (by rfl) rfl ?_ ?_
               rotate_left
               · go_simp
                 rfl
               refine hK.out _ _ ?_
               clear hK K
               refine done_ (done_of HT_.out (by kernel_rfl)) ?_
               try go_wp2
               go_roundg k1
               case measure => have := HK1.out; omega
               case rel => exact ⟨(false), (wrap64 (x9_1 + 1)), (y121), (.slice Ao49 y121.length co49), (by first | rfl ), (by first | rfl ), H', ⟨by have := HK1.out; omega⟩, ⟨by exact Kd.V_mono (Kd.V_far (p := ⟨gb103, 0, none⟩) (Kd.V_mono HO_2.out (fun k_ hk => (⟨hk, hk.1.2.2.2⟩ : _ ∧ k_ ≠ gb103))) (fun _ hk => hk.2) (.slice Ao49 y121.length co49)) (fun _ hk => ⟨hk.1.1.1, ⟨hk.1.2, ⟨hk.1.1.2.1, ⟨hk.1.1.2.2.1, hk.1.1.2.2.2⟩⟩⟩⟩)⟩, ⟨by exact Kd.V_mono (Kd.V_far (p := ⟨gb103, 0, none⟩) (Kd.V_mono HO_102000.out (fun k_ hk => (⟨hk, hk.1.2.2.2⟩ : _ ∧ k_ ≠ gb103))) (fun _ hk => hk.2) (.slice Ao49 y121.length co49)) (fun _ hk => ⟨hk.1.1.1, ⟨hk.1.2, ⟨hk.1.1.2.1, ⟨hk.1.1.2.2.1, hk.1.1.2.2.2⟩⟩⟩⟩)⟩, ⟨by exact Kd.V_mono (Kd.V_far (p := ⟨gb103, 0, none⟩) (Kd.V_mono HO_102001.out (fun k_ hk => (⟨hk, hk.1.2.2.2⟩ : _ ∧ k_ ≠ gb103))) (fun _ hk => hk.2) (.slice Ao49 y121.length co49)) (fun _ hk => ⟨hk.1.1.1, ⟨hk.1.2, ⟨hk.1.1.2.1, ⟨hk.1.1.2.2.1, hk.1.1.2.2.2⟩⟩⟩⟩)⟩, ⟨by exact Kd.N_mono (Kd.N_far (p := ⟨gb103, 0, none⟩) (Kd.N_mono HO123.out (fun k_ hk => (⟨hk, hk.2.2.2⟩ : _ ∧ k_ ≠ gb103))) (fun _ hk => hk.2) (.slice Ao49 y121.length co49)) (fun _ hk => ⟨hk.1.1, ⟨hk.1.2.1, ⟨hk.1.2.2.1, hk.1.2.2.2⟩⟩⟩)⟩, ⟨by exact Kd.V_mono (Kd.V_far (p := ⟨gb103, 0, none⟩) (Kd.V_mono HO_104001.out (fun k_ hk => (⟨hk, hk.1.2.2.2⟩ : _ ∧ k_ ≠ gb103))) (fun _ hk => hk.2) (.slice Ao49 y121.length co49)) (fun _ hk => ⟨hk.1.1.1, ⟨hk.1.2, ⟨hk.1.1.2.1, ⟨hk.1.1.2.2.1, hk.1.1.2.2.2⟩⟩⟩⟩)⟩, ⟨by refine blk_far ?_ NB101_103.out _; exact BK101.out⟩, ⟨by refine blk_far ?_ NB102_103.out _; exact BK102.out⟩, ⟨by refine blk_put (cs := #[u104000, .slice A0_1 l0_1.length c0_1]) ?_ 0 _ rfl; exact BK103.out⟩, ⟨by repeat (first | (with_reducible first | exact HB.out | refine below_set ?_ GE103.out) )⟩⟩
             · rw [if_neg c43] at H
               exact absurd H (by simp)
     · rw [if_neg c13] at H
       exact absurd H (by simp)
   · rw [if_neg c12] at H
     have c12b0 : decide (x9_1 < (l0_0.length : Int)) = false := decide_eq_false c12
     clear c12
     by_cases c51 : x8_1 = true
     · subst c51
       have H1 : (some (x104000_1, l0_1)) = some (r1, r2) := by rw [if_pos rfl] at H; exact H
       clear H
       have H := H1
       clear H1
       simp only [Option.some.injEq, Prod.mk.injEq] at H
       obtain ⟨rfl, rfl⟩ := H
       have hnb52 := NB101_102.out
       have hnc52 := NB102_101.out
       have hnb53 := NB101_103.out
       have hnc53 := NB103_101.out
       have hcz54_0 : wr.cell? ⟨gb101, 0, none⟩ = some (.slice A0_0 l0_0.length c0_0) := (blk_cell BK101.out 0).trans rfl
       have hcz54_1 : wr.cell? ⟨gb101, 1, none⟩ = some (.slice A0_1 l0_1.length c0_1) := (blk_cell BK101.out 1).trans rfl
       have hfz54_0 := blk_frozen BK101.out 0
       have hfz54_1 := blk_frozen BK101.out 1
       have hnb55 := NB103_102.out
       have hnc55 := NB102_103.out
       have hcz56_0 : wr.cell? ⟨gb103, 0, none⟩ = some (u104000) := (blk_cell BK103.out 0).trans rfl
       have hcz56_1 : wr.cell? ⟨gb103, 1, none⟩ = some (.slice A0_1 l0_1.length c0_1) := (blk_cell BK103.out 1).trans rfl
       have hfz56_0 := blk_frozen BK103.out 0
       have hfz56_1 := blk_frozen BK103.out 1
       obtain ⟨Ao57, co57, eo57⟩ := Kd.N_slice HO_104000.out
       subst eo57
       have hcz58_0 : wr.cell? ⟨gb102, 0, none⟩ = some (.slice none 0 0) := (blk_cell BK102.out 0).trans rfl
       have hcz58_1 : wr.cell? ⟨gb102, 1, none⟩ = some (.slice none 0 0) := (blk_cell BK102.out 1).trans rfl
       have hfz58_0 := blk_frozen BK102.out 0
       have hfz58_1 := blk_frozen BK102.out 1
       go_wp2
       refine bodyPost_ret (results_cell_row rfl _ _ gb102 25 #[.slice Ao57 x104000_1.length co57, .slice A0_1 l0_1.length c0_1] (0, 0) _ rfl (by refine blk_put (cs := #[.slice Ao57 x104000_1.length co57, .slice none 0 0]) ?_ 1 _ rfl; refine blk_put (cs := #[.slice none 0 0, .slice none 0 0]) ?_ 0 _ rfl; exact BK102.out) Try.underlying25 rfl (by kernel_rfl)) rfl ?_
       exact ⟨_, _, by first | rfl , by exact Kd.N_mono (Kd.N_far (p := ⟨gb102, 1, none⟩) (Kd.N_far (p := ⟨gb102, 0, none⟩) (Kd.N_mono HO_104000.out (fun k_ hk => (⟨hk, hk.2.2.1⟩ : _ ∧ k_ ≠ gb102))) (fun _ hk => hk.2) (.slice Ao57 x104000_1.length co57)) (fun _ hk => hk.2) (.slice A0_1 l0_1.length c0_1)) (fun _ hk => hk.1.1), by exact Kd.V_mono (Kd.V_far (p := ⟨gb102, 1, none⟩) (Kd.V_far (p := ⟨gb102, 0, none⟩) (Kd.V_mono HO_104001.out (fun k_ hk => (⟨hk, hk.2.2.2.1⟩ : _ ∧ k_ ≠ gb102))) (fun _ hk => hk.2) (.slice Ao57 x104000_1.length co57)) (fun _ hk => hk.2) (.slice A0_1 l0_1.length c0_1)) (fun _ hk => ⟨hk.1.1, hk.1.2.1⟩), by repeat (first | (with_reducible first | exact HB.out | refine below_set ?_ GE102.out ) )⟩
     · replace c51 := Bool.eq_false_iff.mpr c51
       subst c51
       have H1 : (if x104000_1.length < 4398046511104 then (some ((x104000_1 ++ [(⟨a1, l2⟩ : S59)]), l0_1)) else (none)) = some (r1, r2) := by rw [if_neg (show ¬ (false = true) by decide)] at H; exact H
       clear H
       have H := H1
       clear H1
       by_cases c59 : x104000_1.length < 4398046511104
       · rw [if_pos c59] at H
         have LMc59 := Aside0.mk c59
         clear c59
         obtain ⟨y104, hy104⟩ : ∃ y_ : List (S59), y_ = (x104000_1 ++ [(⟨a1, l2⟩ : S59)]) := ⟨_, rfl⟩
         replace H : (some (y104, l0_1)) = some (r1, r2) := by first | (rw [hy104]; with_reducible exact H) 
         have Ny104 := Aside0.mk hy104
         clear hy104
         simp only [Option.some.injEq, Prod.mk.injEq] at H
         obtain ⟨rfl, rfl⟩ := H
         have hnb60 := NB101_102.out
         have hnc60 := NB102_101.out
         have hnb61 := NB101_103.out
         have hnc61 := NB103_101.out
         have hcz62_0 : wr.cell? ⟨gb101, 0, none⟩ = some (.slice A0_0 l0_0.length c0_0) := (blk_cell BK101.out 0).trans rfl
         have hcz62_1 : wr.cell? ⟨gb101, 1, none⟩ = some (.slice A0_1 l0_1.length c0_1) := (blk_cell BK101.out 1).trans rfl
         have hfz62_0 := blk_frozen BK101.out 0
         have hfz62_1 := blk_frozen BK101.out 1
         have hnb63 := NB103_102.out
         have hnc63 := NB102_103.out
         have hcz64_0 : wr.cell? ⟨gb103, 0, none⟩ = some (u104000) := (blk_cell BK103.out 0).trans rfl
         have hcz64_1 : wr.cell? ⟨gb103, 1, none⟩ = some (.slice A0_1 l0_1.length c0_1) := (blk_cell BK103.out 1).trans rfl
         have hfz64_0 := blk_frozen BK103.out 0
         have hfz64_1 := blk_frozen BK103.out 1
         go_wp2_with (first | ((with_reducible refine gate_builtin (b := .append) (xs := #[.tmp 64, .tmp 68]) rfl ?_); at_builtin; refine Kd.N_append k59 (w0 := w) w.heap.size rfl (.tmp 64) (.tmp 68) 22 59 (.agg #[(.int .i64 0), (.slice none 0 0)]) 32 rfl Try.underlying22 info59 rfl (by decide) (by omega) u104000 x104000_1 (⟨a1, l2⟩ : S59) [.int .i64 a1, .slice A2 l2.length c2] (fun k_ => ((P0_0_ k_ ∨ P0_1_ k_ ∨ P2_ k_) ∨ w.heap.size ≤ k_) ∧ k_ ≠ gb101 ∧ k_ ≠ gb102 ∧ k_ ≠ gb103) (fun k_ => ((fun k_ => ((P0_0_ k_ ∨ P0_1_ k_ ∨ P2_ k_) ∨ w.heap.size ≤ k_) ∧ k_ ≠ gb101 ∧ k_ ≠ gb102 ∧ k_ ≠ gb103)) k_ ∧ some k_ ≠ (u104000 : Value).ownBlock) rfl rfl ?aP (fun _ hk => hk) ?aF ?aO ?aB ?aS ?aL ?_; (case aP => exact (k59_mkF _ _ (⟨a1, l2⟩ : S59) (Kd.V_reads' (Kd.V_mono (ok' := (fun k_ => ((fun k_ => ((P0_0_ k_ ∨ P0_1_ k_ ∨ P2_ k_) ∨ w.heap.size ≤ k_) ∧ k_ ≠ gb101 ∧ k_ ≠ gb102 ∧ k_ ≠ gb103)) k_ ∧ some k_ ≠ (u104000 : Value).ownBlock)) (HO_2.out) (fun k_ hk => ⟨⟨hk.1, ⟨hk.2.2.1, ⟨hk.2.2.2.1, hk.2.2.2.2⟩⟩⟩, hk.2.1⟩))).2.1 (Kd.V_F (Kd.V_mono (ok' := (fun k_ => ((fun k_ => ((P0_0_ k_ ∨ P0_1_ k_ ∨ P2_ k_) ∨ w.heap.size ≤ k_) ∧ k_ ≠ gb101 ∧ k_ ≠ gb102 ∧ k_ ≠ gb103)) k_ ∧ some k_ ≠ (u104000 : Value).ownBlock)) (HO_2.out) (fun k_ hk => ⟨⟨hk.1, ⟨hk.2.2.1, ⟨hk.2.2.2.1, hk.2.2.2.2⟩⟩⟩, hk.2.1⟩))))); (case aB => exact HB.out); (case aF => exact (fun k_ hk => ⟨(.inr (Nat.le_trans (below_size HB.out) hk)), Kd.freshB (g := gb101) (o := .cells #[.slice A0_0 l0_0.length c0_0, .slice A0_1 l0_1.length c0_1] 25 (0, 0)) BK101.out k_ hk, Kd.freshB (g := gb102) (o := .cells #[.slice none 0 0, .slice none 0 0] 25 (0, 0)) BK102.out k_ hk, Kd.freshB (g := gb103) (o := .cells #[u104000, .slice A0_1 l0_1.length c0_1] 25 (0, 0)) BK103.out k_ hk⟩)); (case aO => exact HO_104000.out); (case aS => exact (below_size HB.out)); (case aL => have := LMc59.out; omega); intro v105 w65 ho hb hg hat; rw [← Ny104.out] at ho; have n0_ := Aside0.mk (Kd.V_afterv (ok := (fun k_ => ((P0_0_ k_ ∨ P0_1_ k_ ∨ P2_ k_) ∨ w.heap.size ≤ k_) ∧ k_ ≠ gb101 ∧ k_ ≠ gb102 ∧ k_ ≠ gb103)) (by exact Kd.V_mono HO_2.out (fun _ hk => ⟨⟨hk.1, ⟨hk.2.2.1, ⟨hk.2.2.2.1, hk.2.2.2.2⟩⟩⟩, hk.2.1⟩)) hg hat); have n1_ := Aside0.mk (Kd.V_afterv (ok := (fun k_ => ((P0_0_ k_ ∨ P0_1_ k_ ∨ P2_ k_) ∨ w.heap.size ≤ k_) ∧ k_ ≠ gb101 ∧ k_ ≠ gb102 ∧ k_ ≠ gb103)) (by exact Kd.V_mono HO_102000.out (fun _ hk => ⟨⟨hk.1, ⟨hk.2.2.1, ⟨hk.2.2.2.1, hk.2.2.2.2⟩⟩⟩, hk.2.1⟩)) hg hat); have n2_ := Aside0.mk (Kd.V_afterv (ok := (fun k_ => ((P0_0_ k_ ∨ P0_1_ k_ ∨ P2_ k_) ∨ w.heap.size ≤ k_) ∧ k_ ≠ gb101 ∧ k_ ≠ gb102 ∧ k_ ≠ gb103)) (by exact Kd.V_mono HO_102001.out (fun _ hk => ⟨⟨hk.1, ⟨hk.2.2.1, ⟨hk.2.2.2.1, hk.2.2.2.2⟩⟩⟩, hk.2.1⟩)) hg hat); have n3_ := Aside0.mk (Kd.V_afterv (ok := (fun k_ => ((P0_0_ k_ ∨ P0_1_ k_ ∨ P2_ k_) ∨ w.heap.size ≤ k_) ∧ k_ ≠ gb101 ∧ k_ ≠ gb102 ∧ k_ ≠ gb103)) (by exact Kd.V_mono HO_104001.out (fun _ hk => ⟨⟨hk.1, ⟨hk.2.2.1, ⟨hk.2.2.2.1, hk.2.2.2.2⟩⟩⟩, hk.2.1⟩)) hg hat); have n4_ := Aside0.mk (blk_grown (g := gb101) (o := .cells #[.slice A0_0 l0_0.length c0_0, .slice A0_1 l0_1.length c0_1] 25 (0, 0)) BK101.out hg (Kd.N_ne HO_104000.out BK101.out (by decide))); have n5_ := Aside0.mk (blk_grown (g := gb102) (o := .cells #[.slice none 0 0, .slice none 0 0] 25 (0, 0)) BK102.out hg (Kd.N_ne HO_104000.out BK102.out (by decide))); have n6_ := Aside0.mk (blk_grown (g := gb103) (o := .cells #[u104000, .slice A0_1 l0_1.length c0_1] 25 (0, 0)) BK103.out hg (Kd.N_ne HO_104000.out BK103.out (by decide))); have n7_ := Aside0.mk (hb); have n8_ := Aside0.mk (ho); clear HO_2; clear HO_102000; clear HO_102001; clear HO_104001; clear BK101; clear BK102; clear BK103; clear HB; clear HO_104000; have HO_2 := n0_; have HO_102000 := n1_; have HO_102001 := n2_; have HO_104001 := n3_; have BK101 := n4_; have BK102 := n5_; have BK103 := n6_; have HB := n7_; have HO106 := n8_; clear n0_ n1_ n2_ n3_ n4_ n5_ n6_ n7_ n8_; clear ho hb hg hat; obtain ⟨Ao66, co66, eo66⟩ := Kd.N_slice HO106.out; subst eo66; have hcz67_0 : w65.cell? ⟨gb103, 0, none⟩ = some (u104000) := (blk_cell BK103.out 0).trans rfl; have hcz67_1 : w65.cell? ⟨gb103, 1, none⟩ = some (.slice A0_1 l0_1.length c0_1) := (blk_cell BK103.out 1).trans rfl; have hfz67_0 := blk_frozen BK103.out 0; have hfz67_1 := blk_frozen BK103.out 1; have hcz68_0 : w65.cell? ⟨gb102, 0, none⟩ = some (.slice none 0 0) := (blk_cell BK102.out 0).trans rfl; have hcz68_1 : w65.cell? ⟨gb102, 1, none⟩ = some (.slice none 0 0) := (blk_cell BK102.out 1).trans rfl; have hfz68_0 := blk_frozen BK102.out 0; have hfz68_1 := blk_frozen BK102.out 1))
         refine bodyPost_ret (results_cell_row rfl _ _ gb102 25 #[.slice Ao66 y104.length co66, .slice A0_1 l0_1.length c0_1] (0, 0) _ rfl (by refine blk_put (cs := #[.slice Ao66 y104.length co66, .slice none 0 0]) ?_ 1 _ rfl; refine blk_put (cs := #[.slice none 0 0, .slice none 0 0]) ?_ 0 _ rfl; refine blk_far ?_ NB102_103.out _; exact BK102.out) Try.underlying25 rfl (by kernel_rfl)) rfl ?_
         exact ⟨_, _, by first | rfl , by exact Kd.N_mono (Kd.N_far (p := ⟨gb102, 1, none⟩) (Kd.N_far (p := ⟨gb102, 0, none⟩) (Kd.N_far (p := ⟨gb103, 0, none⟩) (Kd.N_mono (Kd.N_mono HO106.out (fun k_ hk => (⟨hk, hk.2.2.2⟩ : _ ∧ k_ ≠ gb103))) (fun k_ hk => (⟨hk, hk.1.2.2.1⟩ : _ ∧ k_ ≠ gb102))) (fun _ hk => hk.1.2) (.slice Ao66 y104.length co66)) (fun _ hk => hk.2) (.slice Ao66 y104.length co66)) (fun _ hk => hk.2) (.slice A0_1 l0_1.length c0_1)) (fun _ hk => hk.1.1.1), by exact Kd.V_mono (Kd.V_far (p := ⟨gb102, 1, none⟩) (Kd.V_far (p := ⟨gb102, 0, none⟩) (Kd.V_far (p := ⟨gb103, 0, none⟩) (Kd.V_mono (Kd.V_mono HO_104001.out (fun k_ hk => (⟨hk, hk.1.2.2.2⟩ : _ ∧ k_ ≠ gb103))) (fun k_ hk => (⟨hk, hk.1.1.2.2.1⟩ : _ ∧ k_ ≠ gb102))) (fun _ hk => hk.1.2) (.slice Ao66 y104.length co66)) (fun _ hk => hk.2) (.slice Ao66 y104.length co66)) (fun _ hk => hk.2) (.slice A0_1 l0_1.length c0_1)) (fun _ hk => ⟨hk.1.1.1.1, hk.1.1.2⟩), by repeat (first | (with_reducible first | exact HB.out | refine below_set ?_ GE102.out | refine below_set ?_ GE103.out) )⟩
       · rw [if_neg c59] at H
         exact absurd H (by simp)
end Go.Proofs.Ytbpnfpckoapdbaa.PT19W
end
section
namespace Go.Proofs.Ytbpnfpckoapdbaa.PT19W
open Go.RowKit Go.Proofs.Ytbpnfpckoapdbaa.M Go.Proofs.Ytbpnfpckoapdbaa.KD Go.Proofs.Ytbpnfpckoapdbaa Go.Proofs.YtbpnfpckoapdbaaW.PrintWords Go.Proofs.YtbpnfpckoapdbaaW.PrintLast Go.Proofs.YtbpnfpckoapdbaaW.PrintMore
attribute [local go_sem] max2_int min2_int max_two min_two max_three min_three max_four min_four   -- for this text's walks alone
set_option linter.unusedVariables false
set_option linter.unusedSimpArgs false
end Go.Proofs.Ytbpnfpckoapdbaa.PT19W
end
section
namespace Go.Proofs.Ytbpnfpckoapdbaa.P19
open Go.RowKit Go.Proofs.YtbpnfpckoapdbaaW.PrintWords Go.Proofs.YtbpnfpckoapdbaaW.PrintLast Go.Proofs.YtbpnfpckoapdbaaW.PrintMore Go.Proofs.Ytbpnfpckoapdbaa.KD Go.Proofs.Ytbpnfpckoapdbaa.M Go.Proofs.Ytbpnfpckoapdbaa.PT19 Go.Proofs.Ytbpnfpckoapdbaa.Ev Go.Proofs.Ytbpnfpckoapdbaa.Ops Go.Proofs.Ytbpnfpckoapdbaa.TK
set_option linter.unusedVariables false
set_option linter.unusedSimpArgs false
/-- The document's Get. -/
theorem get_E (t : TT) (num : Int) (h : t.f0.length ≤ 140737488351232) : E (fun k => ecdysisref19_Get.f k t.f0 t.f1 num) (getT t num) := by
 have hl := up (C := fun i => E (fun k => ecdysisref19_Get.l0 k num (i : Int) t.f0 t.f1) (getT ⟨t.f0.drop i, t.f1⟩ num)) t.f0.length (fun i hi => by
  rw [List.drop_of_length_le hi]
  refine E.step ?_
  simp only [ecdysisref19_Get.l0]
  exact E.no (by omega) E.const) (fun i hi ih => by
  have hrd : rd_T59 t.f0 (i : Int) = t.f0.getD i z59 := rfl
  rw [drop_getD z59 hi]
  refine E.step ?_
  simp only [ecdysisref19_Get.l0, hrd, w1' hi h]
  generalize t.f0.getD i z59 = y
  refine E.yes (by omega) (E.yes (by omega) (E.ite (fun hy => ?_) (fun hy => ?_)))
  · rw [show getT ⟨y :: t.f0.drop (i + 1), t.f1⟩ num = y.f1 by unfold getT; simp [hy]]
    exact E.const
  · rw [show getT ⟨y :: t.f0.drop (i + 1), t.f1⟩ num = getT ⟨t.f0.drop (i + 1), t.f1⟩ num by unfold getT; rw [List.find?_cons_of_neg (by simpa using hy)]]
    exact ih) 0
 exact hl
/-- What is left to lay. -/
def wS (d : Bool) (xs : List TS) (num : Int) (vals : List TV) : List TS := if d = true then outT xs num else putT (outT xs num) num vals
theorem wS_skip {d : Bool} {y : TS} {xs : List TS} {num : Int} {vals : List TV} (h : y.f0 = num) : wS d (y :: xs) num vals = wS d xs num vals := by
 unfold wS outT
 rw [List.filter_cons_of_neg (by simp [h])]
theorem out_cons {y : TS} {xs : List TS} {num : Int} (h : ¬ y.f0 = num) : outT (y :: xs) num = y :: outT xs num := by
 unfold outT
 rw [List.filter_cons_of_pos (by simp [h])]
theorem ixF_from {α : Type} (p : α → Bool) : ∀ (xs : List α) (i : Nat), (ixF p xs i = -1 ∧ ∀ j, ixF p xs j = -1) ∨ ∃ k : Nat, ∀ j : Nat, ixF p xs j = ((j + k : Nat) : Int)
 | [], i => .inl ⟨rfl, fun _ => rfl⟩
 | x :: xs, i => by
  cases hx : p x with
  | true => exact .inr ⟨0, fun j => by rw [ixF, if_pos hx]; rfl⟩
  | false =>
   rcases ixF_from p xs (i + 1) with ⟨h1, h2⟩ | ⟨k, h⟩
   · exact .inl ⟨by rw [ixF, if_neg (by simp [hx])]; exact h1, fun j => by rw [ixF, if_neg (by simp [hx])]; exact h2 _⟩
   · exact .inr ⟨k + 1, fun j => by rw [ixF, if_neg (by simp [hx]), h]; congr 1; omega⟩
theorem at_cons {y : TS} {xs : List TS} {num : Int} (h : ¬ num < y.f0) : atT (y :: xs) num = atT xs num + 1 := by
 unfold atT
 have hy : ∀ j, ixF (fun x : TS => decide (num < x.f0)) (y :: xs) j = ixF (fun x : TS => decide (num < x.f0)) xs (j + 1) := fun j => by rw [ixF, if_neg (by simp [h])]
 rw [hy]
 rcases ixF_from (fun x : TS => decide (num < x.f0)) xs 0 with ⟨_, h2⟩ | ⟨k, h2⟩
 · rw [h2, h2, if_pos (by omega), if_pos (by omega)]; rfl
 · rw [h2, h2, if_neg (by omega), if_neg (by omega)]; omega
theorem wS_go {y : TS} {xs : List TS} {num : Int} {vals : List TV} (h : ¬ y.f0 = num) : wS true (y :: xs) num vals = y :: wS true xs num vals := by
 unfold wS
 rw [if_pos rfl, if_pos rfl, out_cons h]
theorem wS_less {y : TS} {xs : List TS} {num : Int} {vals : List TV} (h : ¬ y.f0 = num) (hn : ¬ num < y.f0) : wS false (y :: xs) num vals = y :: wS false xs num vals := by
 unfold wS putT
 rw [if_neg (by simp), if_neg (by simp), out_cons h, at_cons hn]
 rfl
theorem wS_lay {y : TS} {xs : List TS} {num : Int} {vals : List TV} (h : ¬ y.f0 = num) (hn : num < y.f0) : wS false (y :: xs) num vals = ⟨num, vals⟩ :: y :: wS true xs num vals := by
 unfold wS putT
 rw [if_neg (by simp), if_pos rfl, out_cons h, show atT (y :: outT xs num) num = 0 by unfold atT; rw [ixF, if_pos (show decide (num < y.f0) = true from decide_eq_true hn)]; rfl]
 rfl
theorem with_l (num : Int) (vals : List TV) (s : List TS) (r : List TR) (h : s.length ≤ 1000) (i : Nat) : ∀ (d : Bool) (acc : List TS), acc.length + 2 * (s.length - i) ≤ 4000 → E (fun k => PT19W.ecdysisref19_With.l0 k num vals d (i : Int) s r acc r) (acc ++ wS d (s.drop i) num vals, r) :=
 up (C := fun i => ∀ (d : Bool) (acc : List TS), acc.length + 2 * (s.length - i) ≤ 4000 → E (fun k => PT19W.ecdysisref19_With.l0 k num vals d (i : Int) s r acc r) (acc ++ wS d (s.drop i) num vals, r)) s.length (fun i hi d acc ha => by
  rw [List.drop_of_length_le hi]
  refine E.step ?_
  simp only [PT19W.ecdysisref19_With.l0]
  refine E.no (by omega) (E.ite (fun hd => ?_) (fun hd => ?_))
  · rw [show acc ++ wS d [] num vals = acc by unfold wS; rw [if_pos hd]; simp [outT]]
    exact E.const
  · rw [show acc ++ wS d [] num vals = acc ++ [⟨num, vals⟩] by unfold wS; rw [if_neg hd]; simp [outT, putT]]
    exact E.yes (by omega) E.const) (fun i hi ih d acc ha => by
  have hrd : rd_T59 s (i : Int) = s.getD i z59 := rfl
  rw [drop_getD z59 hi]
  refine E.step ?_
  simp only [PT19W.ecdysisref19_With.l0, hrd, w1' hi (by omega : s.length ≤ 140737488351232)]
  generalize s.getD i z59 = y
  obtain ⟨y0, y1⟩ := y
  refine E.yes (by omega) (E.yes (by omega) (E.ite (fun hy => ?_) (fun hy => E.ite (fun hd => ?_) (fun hd => ?_))))
  · rw [wS_skip hy]
    exact ih d acc (by omega)
  · subst hd
    rw [wS_go hy, show acc ++ (⟨y0, y1⟩ : TS) :: wS true (s.drop (i + 1)) num vals = (acc ++ [(⟨y0, y1⟩ : TS)]) ++ wS true (s.drop (i + 1)) num vals by simp]
    exact E.yes (by omega) (ih true (acc ++ [(⟨y0, y1⟩ : TS)]) (by simp; omega))
  · obtain rfl : d = false := by simpa using hd
    refine E.ite (fun hn => ?_) (fun hn => ?_)
    · rw [wS_lay hy hn, show acc ++ ⟨num, vals⟩ :: (⟨y0, y1⟩ : TS) :: wS true (s.drop (i + 1)) num vals = ((acc ++ [⟨num, vals⟩]) ++ [(⟨y0, y1⟩ : TS)]) ++ wS true (s.drop (i + 1)) num vals by simp]
      exact E.yes (by omega) (E.bind0 rfl (E.yes (by simp; omega) (ih true ((acc ++ [⟨num, vals⟩]) ++ [(⟨y0, y1⟩ : TS)]) (by simp; omega))))
    · rw [wS_less hy hn, show acc ++ (⟨y0, y1⟩ : TS) :: wS false (s.drop (i + 1)) num vals = (acc ++ [(⟨y0, y1⟩ : TS)]) ++ wS false (s.drop (i + 1)) num vals by simp]
      exact E.yes (by omega) (ih false (acc ++ [(⟨y0, y1⟩ : TS)]) (by simp; omega))) i
/-- The document's With. -/
theorem with_E (t : TT) (num : Int) (vals : List TV) (h : t.f0.length ≤ 1000) : E (fun k => PT19W.ecdysisref19_With.f k t.f0 t.f1 num vals) ((withT t num vals).f0, (withT t num vals).f1) := by
 have hl := with_l num vals t.f0 t.f1 h 0 ((vals.length : Int) == 0) [] (by simp; omega)
 rw [show ([] ++ wS ((vals.length : Int) == 0) (t.f0.drop 0) num vals, t.f1) = ((withT t num vals).f0, (withT t num vals).f1) by
  unfold withT wS
  cases vals with
  | nil => rfl
  | cons v vs => rw [if_neg (by simp; omega), if_neg (by simp)]; rfl] at hl
 exact hl
end Go.Proofs.Ytbpnfpckoapdbaa.P19
end
section
namespace Go.Proofs.Ytbpnfpckoapdbaa.TK
open Go.RowKit Go.Proofs.Ytbpnfpckoapdbaa.KD Go.Proofs.Ytbpnfpckoapdbaa.M Go.Proofs.YtbpnfpckoapdbaaW.PrintWords Go.Proofs.YtbpnfpckoapdbaaW.PrintLast Go.Proofs.YtbpnfpckoapdbaaW.PrintMore
set_option linter.unusedVariables false
set_option linter.unusedSimpArgs false
set_option maxHeartbeats 1000000
set_option maxRecDepth 100000
theorem bcellL {W w1 : World} (hb : Below W.heap.size W w1) : (∀ b o, b < W.heap.size → w1.cell? ⟨b, o, none⟩ = W.cell? ⟨b, o, none⟩) ∧ (∀ b o, b < W.heap.size → w1.frozen? ⟨b, o, none⟩ = W.frozen? ⟨b, o, none⟩) :=
 ⟨fun b o h => hb.cell (p := ⟨b, o, none⟩) h, fun b o h => hb.frozen (p := ⟨b, o, none⟩) h⟩
theorem each_none (f : Value) (w : World) : Calls Try.prog 58 #[.agg #[.slice none 0 0, .slice none 0 0], f] w fun e w' => e = .returned (.tuple #[]) ∧ Below w.heap.size w w' := by
 have HB := Aside0.mk (Below.refl w.heap.size w)
 go_enter Try.func58, Try.ntmps58
 go_wp2_with fail
 obtain ⟨wz, hwz⟩ : ∃ wz, wz = w.alloc (.cells #[.slice none 0 0, .slice none 0 0] 25) := ⟨_, rfl⟩
 rw [← hwz]
 have HZ := Aside0.mk (show Below w.heap.size w wz by rw [hwz]; exact below_alloc (Below.refl _ _) _)
 clear hwz
 go_loopg [11] 0 (fun kq v11 w' => v11 = .int .i64 0 ∧ Aside0 (Below w.heap.size w w'))
 case atStart => exact ⟨rfl, HZ⟩
 case round =>
  obtain ⟨rfl, BW⟩ := hrel
  go_wp2
  go_end0
  exact ⟨rfl, BW.out⟩
theorem deep_none (w : World) : Calls Try.prog 17 #[.agg #[.slice none 0 0, .slice none 0 0]] w fun e w' => e = .returned (.int .i64 1) ∧ Below w.heap.size w w' := by
 have HB := Aside0.mk (Below.refl w.heap.size w)
 go_enter Try.func17, Try.ntmps17
 go_wp2_with (first
  | (go_at_call 58; refine (each_none _ _).mono ?_; rintro r w1 ⟨rfl, b1⟩; obtain ⟨hc1, hf1⟩ := bcellL b1; have HB := Aside0.mk (below_step (by repeat (first | (with_reducible first | exact HB.out | apply below_alloc | apply pw_below_drewN | apply below_drew) )) b1); clear b1))
 go_ret
 exact ⟨rfl, HB.out⟩
theorem count_none (w : World) : Calls Try.prog 19 #[.agg #[.slice none 0 0, .slice none 0 0]] w fun e w' => e = .returned (.int .i64 0) ∧ Below w.heap.size w w' := by
 have HB := Aside0.mk (Below.refl w.heap.size w)
 go_enter Try.func19, Try.ntmps19
 go_wp2_with (first
  | (go_at_call 58; refine (each_none _ _).mono ?_; rintro r w1 ⟨rfl, b1⟩; obtain ⟨hc1, hf1⟩ := bcellL b1; have HB := Aside0.mk (below_step (by repeat (first | (with_reducible first | exact HB.out | apply below_alloc | apply pw_below_drewN | apply below_drew) )) b1); clear b1))
 go_ret
 exact ⟨rfl, HB.out⟩
theorem live_c (w : World) : Calls Try.prog 11 #[] w fun e w' => e = .returned (.bool true) ∧ Below w.heap.size w w' := by
 go_enter Try.func11, Try.ntmps11
 go_wp2_with (first
  | (go_at_call 17; refine (deep_none _).mono ?_; rintro r w1 ⟨rfl, b1⟩; have B1 := Aside0.mk b1; clear b1)
  | (go_at_call 19; refine (count_none _).mono ?_; rintro r w2 ⟨rfl, b2⟩; have B2 := Aside0.mk b2; clear b2))
 go_ret
 exact ⟨rfl, B1.out.trans (B2.out.mono B1.out.size)⟩
end Go.Proofs.Ytbpnfpckoapdbaa.TK
end
section
namespace Go.Proofs.Ytbpnfpckoapdbaa.TK
open Go.RowKit Go.Proofs.Ytbpnfpckoapdbaa.Ops Go.Proofs.Ytbpnfpckoapdbaa.KD Go.Proofs.Ytbpnfpckoapdbaa.M Go.Proofs.Ytbpnfpckoapdbaa.PT19 Go.Proofs.Ytbpnfpckoapdbaa.Ev Go.Proofs.YtbpnfpckoapdbaaW.PrintWords Go.Proofs.YtbpnfpckoapdbaaW.PrintLast Go.Proofs.YtbpnfpckoapdbaaW.PrintMore Go.Proofs.Ytbpnfpckoapdbaa.Open
set_option linter.unusedVariables false
set_option linter.unusedSimpArgs false
set_option maxHeartbeats 1000000
set_option maxRecDepth 100000
theorem live_all2 : Aside0 (∀ w, Calls Try.prog 11 #[] w fun e w' => e = .returned (.bool true) ∧ Below w.heap.size w w') := ⟨live_c⟩
/-- With few slots, with a number's values a tree is no greater than a machine's. -/
theorem with_ok {x : TT} {num : Int} {vals : List TV} (hx : okTr x) (hv : okTr ⟨[⟨num, vals⟩], []⟩) (hs : x.f0.length ≤ 1000) : okTr (withT x num vals) := by
 obtain ⟨n, hx⟩ := hx
 obtain ⟨m, hv⟩ := hv
 refine ⟨max n m, ?_⟩
 have h1 := okT_mono n (max n m) (Nat.le_max_left _ _) x hx
 have h2 := okT_mono m (max n m) (Nat.le_max_right _ _) _ hv
 generalize max n m = k at h1 h2
 cases k with
 | zero => exact h1.elim
 | succ k =>
  have ho : ∀ y ∈ outT x.f0 num, okSlot (okT k) y := fun y hy => h1.1.2 y ((List.mem_filter.1 hy).1)
  have hl : (outT x.f0 num).length ≤ x.f0.length := List.length_filter_le _ _
  have hone : okSlot (okT k) ⟨num, vals⟩ := h2.1.2 _ (by simp)
  refine ⟨⟨?_, ?_⟩, h1.2⟩
  · rw [Ev.reach]
    unfold withT
    show (if vals = [] then outT x.f0 num else putT (outT x.f0 num) num vals).length * 32 ≤ _
    split
    · omega
    · unfold putT
      simp only [List.length_append, List.length_cons, List.length_take, List.length_drop]
      omega
  · unfold withT
    show ∀ y ∈ (if vals = [] then outT x.f0 num else putT (outT x.f0 num) num vals), _
    split
    · exact ho
    · intro y hy
      unfold putT at hy
      rcases List.mem_append.1 hy with hy | hy
      · exact ho y (List.mem_of_mem_take hy)
      · rcases List.mem_cons.1 hy with rfl | hy
        · exact hone
        · exact ho y (List.mem_of_mem_drop hy)
end Go.Proofs.Ytbpnfpckoapdbaa.TK
end
section
namespace Go.Proofs.Ytbpnfpckoapdbaa.TK
open Go.RowKit Go.Proofs.Ytbpnfpckoapdbaa.Ops Go.Proofs.Ytbpnfpckoapdbaa.KD Go.Proofs.Ytbpnfpckoapdbaa.M Go.Proofs.Ytbpnfpckoapdbaa.PT19 Go.Proofs.Ytbpnfpckoapdbaa.Ev Go.Proofs.YtbpnfpckoapdbaaW.PrintWords Go.Proofs.YtbpnfpckoapdbaaW.PrintLast Go.Proofs.YtbpnfpckoapdbaaW.PrintMore Go.Proofs.Ytbpnfpckoapdbaa.Open
set_option linter.unusedVariables false
set_option linter.unusedSimpArgs false
set_option maxHeartbeats 1000000
set_option maxRecDepth 100000
/-- A number's values are the same as_ themselves. -/
theorem vals_E {m : Nat} {l : List TV} (h : l.length * 48 ≤ reachBytes) (ho : ∀ v ∈ l, okVal (okT m) v) : E (fun k => ecdysisref19_SameVals.f k l l) true := by
 rw [Ev.reach] at h
 refine P19.samevals_E _ (by omega) fun v hv => ⟨?_, fun t ht => P19.same_E m t ((ho v hv).2.2.2 t ht)⟩
 have q3 := (ho v hv).2.2.1
 rw [Ev.reach] at q3
 omega
theorem getT_ok {x : TT} {a : Int} (h : okTr x) : E (fun k => ecdysisref19_SameVals.f k (getT x a) (getT x a)) true := by
 obtain ⟨n', hn'⟩ := h
 cases n' with
 | zero => exact hn'.elim
 | succ n' =>
  unfold getT
  split
  · rename_i y hy
    have hs := hn'.1.2 y (List.mem_of_find?_eq_some hy)
    exact vals_E hs.2.1 hs.2.2
  · exact P19.samevals_E [] (by simp) (by simp)
/-- What came in is the document's to look at. -/
theorem V_of_C {α : Type} {d : Kd α} {e : Nat} {w : World} {A : Option Addr} {n c : Nat} {xs : List α} (hd : Kd.Heap d) (hl : n ≤ c) (h : d.C w A n xs) : Kd.V d e w w.heap.size (fun _ => True) (.slice A n c) xs := by
 have hn := h.1
 subst hn
 exact Kd.V_mk hl (fun W2 hW2 => Kd.Heap.C hd (fun k_ hk_ => hW2 k_ trivial hk_) h)
/-- The document's Get. -/
theorem RGet_c {w : World} {x : TT} {A0 A1 : Option Addr} {c0 c1 : Nat} {a : Int} (h : k25.K w x [.slice A0 x.f0.length c0, .slice A1 x.f1.length c1]) (hok : okTr x) :
  Calls Try.prog 45 #[.agg #[.slice A0 x.f0.length c0, .slice A1 x.f1.length c1], .int .i64 a] w fun r w' => ∃ A c, r = .returned (.slice A (getT x a).length c) ∧ (getT x a).length ≤ c ∧ k70.C w' A (getT x a).length (getT x a) ∧ Below w.heap.size w w' := by
 obtain ⟨q1, q2, q3, q4⟩ := tree_reads h
 have hl : x.f0.length ≤ 140737488351232 := by
  obtain ⟨n, hn⟩ := hok
  cases n with
  | zero => exact hn.elim
  | succ n => have := hn.1.1; rw [Ev.reach] at this; omega
 obtain ⟨k, hk⟩ := E.get (P19.get_E x a hl)
 refine (ecdysisref19_Get.calls k (fun _ => True) A0 c0 x.f0 A1 c1 x.f1 a _ w (V_of_C k59_heap q1 q2) q4 q3 hk).mono ?_
 rintro r w1 ⟨v, rfl, hv, hb⟩
 obtain ⟨A, c, rfl⟩ := Kd.V_slice hv
 have hr := Kd.V_reads' hv
 exact ⟨A, c, rfl, hr.2.1, hr.2.2, hb⟩
/-- The document's With. -/
theorem RWith_c {w : World} {x : TT} {A0 A1 AV : Option Addr} {c0 c1 cv : Nat} {a : Int} {vals : List TV} (h : k25.K w x [.slice A0 x.f0.length c0, .slice A1 x.f1.length c1]) (hl : vals.length ≤ cv) (hV : k70.C w AV vals.length vals) (hs : x.f0.length ≤ 1000) :
  Calls Try.prog 46 #[.agg #[.slice A0 x.f0.length c0, .slice A1 x.f1.length c1], .int .i64 a, .slice AV vals.length cv] w fun r w' => ∃ B0 d0 B1 d1, r = .returned (.agg #[.slice B0 (withT x a vals).f0.length d0, .slice B1 (withT x a vals).f1.length d1]) ∧ k25.K w' (withT x a vals) [.slice B0 (withT x a vals).f0.length d0, .slice B1 (withT x a vals).f1.length d1] ∧ Below w.heap.size w w' := by
 obtain ⟨q1, q2, q3, q4⟩ := tree_reads h
 obtain ⟨k, hk⟩ := E.get (P19.with_E x a vals hs)
 refine (PT19W.ecdysisref19_With.calls k (fun _ => True) A0 c0 x.f0 (fun _ => True) A1 c1 x.f1 a (fun _ => True) AV cv vals _ _ w (V_of_C k59_heap q1 q2) (V_of_C k73_heap q3 q4) (V_of_C k70_heap hl hV) hk).mono ?_
 rintro r w1 ⟨v0, v1, rfl, hv0, hv1, hb⟩
 obtain ⟨B0, d0, rfl⟩ := Kd.N_slice hv0
 obtain ⟨B1, d1, rfl⟩ := Kd.V_slice hv1
 have r0 := Kd.N_reads' hv0
 have r1 := Kd.V_reads' hv1
 exact ⟨B0, d0, B1, d1, rfl, tree_mk r0.2.1 r0.2.2 r1.2.1 r1.2.2, hb⟩
theorem box1 {w w2 : World} {u : Array Value} (h : Below (w.alloc (.cells u 25)).heap.size (w.alloc (.cells u 25)) w2) : w2.heap[w.heap.size]? = some (.cells u 25 (0, 0)) := blk_below (blk_new _ _) h
set_option maxHeartbeats 3000000 in
theorem TreeWith_c {n m : Nat} {w : World} {x : TT} {A0 A1 AV : Option Addr} {c0 c1 cv : Nat} {vals : List TV} {a : Int} (h : k25.K w x [.slice A0 x.f0.length c0, .slice A1 x.f1.length c1]) (hok : okT n x) (ha : (Lit.int .i64 a).wf = true) (hl : vals.length ≤ cv) (hV : k70.C w AV vals.length vals) (hvl : vals.length * 48 ≤ reachBytes) (hvo : ∀ v ∈ vals, okVal (okT m) v) :
  Calls Try.prog 8 #[.agg #[.slice A0 x.f0.length c0, .slice A1 x.f1.length c1], .int .i64 a, .slice AV vals.length cv] w fun e w' => e = .returned (.bool true) ∧ Below w.heap.size w w' := by
 have hone : ∀ q : Int, (Lit.int .i64 q).wf = true → okT (m + 1) ⟨[⟨q, vals⟩], []⟩ := fun q hq => ⟨⟨(show 1 * 32 ≤ reachBytes by decide), fun y hy => by rw [List.mem_singleton.1 hy]; exact ⟨hq, hvl, hvo⟩⟩, ⟨(show 0 * 40 ≤ reachBytes by decide), by simp⟩⟩
 obtain ⟨s1, hb1⟩ := P19.small19_T hok
 obtain ⟨s2, hb2⟩ := P19.small19_T (hone 0 (by decide))
 obtain ⟨k1, hk1⟩ := hb1.get
 obtain ⟨k2, hk2⟩ := hb2.get
 obtain ⟨wz, hwz⟩ : ∃ wz, wz = w.alloc (.cells #[.slice A0 x.f0.length c0, .slice A1 x.f1.length c1] 25) := ⟨_, rfl⟩
 have bz : Below w.heap.size w wz := by rw [hwz]; exact below_alloc (Below.refl _ _) _
 have HBX : Aside0 (∀ w2, Below wz.heap.size wz w2 → w2.heap[w.heap.size]? = some (.cells #[.slice A0 x.f0.length c0, .slice A1 x.f1.length c1] 25 (0, 0))) := ⟨fun w2 h2 => by rw [hwz] at h2; exact box1 h2⟩
 have HWZ := Aside0.mk hwz
 have BZ := Aside0.mk bz
 have HK := Aside0.mk (k25.K_below bz h)
 have HV := Aside0.mk (Kd.C_below hV bz)
 have HL := Aside0.mk hl
 have HLV := live_all2
 have HOV : Aside0 (∀ q : Int, (Lit.int .i64 q).wf = true → okTr ⟨[⟨q, vals⟩], []⟩) := ⟨fun q hq => ⟨_, hone q hq⟩⟩
 have HOK : Aside0 (okTr x) := ⟨⟨_, hok⟩⟩
 have HSM := Aside0.mk (by
  obtain ⟨q1, q2, q3, q4⟩ := tree_reads HK.out
  exact ecdysisref19_Small.calls k1 A0 c0 x.f0 A1 c1 x.f1 s1 wz q2 q1 q4 q3 hk1)
 have HS2 := Aside0.mk (fun w1 (hb : Below wz.heap.size wz w1) => ecdysisref19_Small.calls k2 (some ⟨w1.heap.size, 0, none⟩) 1 [⟨0, vals⟩] none 0 [] s2 (w1.alloc (.cells #[.int .i64 0, .slice AV vals.length cv] 59)) (one_C (blk_new _ _) (k59_mk _ ⟨0, vals⟩ hl (Kd.C_below HV.out (below_alloc hb _)))) (Nat.le_refl _) (none_C _) (Nat.le_refl _) hk2)
 have HA := Aside0.mk ha
 have HVV := Aside0.mk (vals_E hvl hvo)
 cases s1 with
 | false =>
  clear hwz bz h hV hok hone hb1 hb2 hk1 hk2 hvl hvo hl ha
  go_enter Try.func8, Try.ntmps8
  go_wp2_with (first
   | (go_at_call 10; rw [← HWZ.out]; refine HSM.out.mono ?_; rintro r w1 ⟨rfl, b1⟩; have B1 := Aside0.mk b1; clear b1)
   | (go_at_call 11; refine (HLV.out _).mono ?_; rintro r w2 ⟨rfl, b2⟩; have B2 := Aside0.mk (B1.out.trans (b2.mono B1.out.size)); clear b2))
  go_ret
  exact ⟨rfl, BZ.out.trans (B2.out.mono BZ.out.size)⟩
 | true =>
  have HFW := Aside0.mk (P19.small_len hok hk1)
  cases s2 with
  | false =>
   clear hwz bz h hV hok hone hb1 hb2 hk1 hk2 hvl hvo hl ha
   go_enter Try.func8, Try.ntmps8
   go_wp2_with (first
    | (go_at_call 10; rw [← HWZ.out]; refine HSM.out.mono ?_; rintro r w1 ⟨rfl, b1⟩; have B1 := Aside0.mk b1; clear b1 HSM)
    | (go_at_call 10; refine (HS2.out _ B1.out).mono ?_; rintro r w2 ⟨rfl, b2⟩; have B2 := Aside0.mk ((below_alloc B1.out _).trans (b2.mono (below_alloc B1.out _).size)); clear b2 HS2)
    | (go_at_call 11; refine (HLV.out _).mono ?_; rintro r w3 ⟨rfl, b3⟩; have B3 := Aside0.mk (B2.out.trans (b3.mono B2.out.size)); clear b3))
   go_ret
   exact ⟨rfl, BZ.out.trans (B3.out.mono BZ.out.size)⟩
  | true =>
   have j0 := HBX.out wz (Below.refl _ _)
   clear hwz bz h hV hok hone hb1 hb2 hk1 hk2 hvl hvo hl ha
   go_enter Try.func8, Try.ntmps8
   go_wp2_with (first
    | (go_at_call 10; rw [← HWZ.out]; refine HSM.out.mono ?_; rintro r w1 ⟨rfl, b1⟩; have B1 := Aside0.mk b1; clear b1 HSM)
    | (go_at_call 10; refine (HS2.out _ B1.out).mono ?_; rintro r w2 ⟨rfl, b2⟩; have B2 := Aside0.mk ((below_alloc B1.out _).trans (b2.mono (below_alloc B1.out _).size)); have q0 := HBX.out _ B2.out; have i0 := (blk_cell q0 0).trans rfl; have i1 := (blk_cell q0 1).trans rfl; clear b2 HS2 q0 j0))
   go_at_call 42
   refine (With_c (k25.K_below B2.out HK.out) HL.out (Kd.C_below HV.out B2.out) HOK.out (HOV.out a HA.out)).mono ?_
   rintro r w3 ⟨⟨u0, u1, rfl, h0, h1⟩, b3⟩
   obtain ⟨D0, e0, rfl⟩ := Kd.R_slice h0
   obtain ⟨D1, e1, rfl⟩ := Kd.R_slice h1
   obtain ⟨X, hX⟩ : ∃ X, X = withT x a vals := ⟨_, rfl⟩
   rw [← hX] at h0 h1 ⊢
   have KX := Aside0.mk (k25.K_of_M (k25_mkM w3 w2.heap.size (fun _ => True) X h0 h1))
   have B3 := Aside0.mk (B2.out.trans (b3.mono B2.out.size))
   have OKX : Aside0 (okTr X) := ⟨by rw [hX]; exact with_ok HOK.out (HOV.out a HA.out) (by have := HFW.out; omega)⟩
   have HX := Aside0.mk hX
   have n3 := HBX.out _ B3.out
   clear h0 h1 b3 hX i0 i1
   go_wp2_with fail
   obtain ⟨wx, hwx⟩ : ∃ wx, wx = w3.alloc (.cells #[.slice D0 X.f0.length e0, .slice D1 X.f1.length e1] 25) := ⟨_, rfl⟩
   rw [← hwx]
   have bx : Below w3.heap.size w3 wx := by rw [hwx]; exact below_alloc (Below.refl _ _) _
   have zx : wx.heap[w3.heap.size]? = some (.cells #[.slice D0 X.f0.length e0, .slice D1 X.f1.length e1] 25 (0, 0)) := by rw [hwx]; exact blk_new _ _
   have BXW := Aside0.mk (B3.out.trans (bx.mono B3.out.size))
   have KXX := Aside0.mk (k25.K_below bx KX.out)
   have KO := Aside0.mk (fun w2 (hb : Below wx.heap.size wx w2) => show w2.cell? ⟨w3.heap.size, 0, none⟩ = some (.slice D0 X.f0.length e0) ∧ w2.cell? ⟨w3.heap.size, 1, none⟩ = some (.slice D1 X.f1.length e1) ∧ w2.cell? ⟨w.heap.size, 0, none⟩ = some (.slice A0 x.f0.length c0) ∧ w2.cell? ⟨w.heap.size, 1, none⟩ = some (.slice A1 x.f1.length c1) from
    ⟨(blk_cell (blk_below zx hb) 0).trans rfl, (blk_cell (blk_below zx hb) 1).trans rfl, (blk_cell (HBX.out _ (BXW.out.trans (hb.mono BXW.out.size))) 0).trans rfl, (blk_cell (HBX.out _ (BXW.out.trans (hb.mono BXW.out.size))) 1).trans rfl⟩)
   have BB := Aside0.mk (Below.refl wx.heap.size wx)
   obtain ⟨L, hL⟩ : ∃ L, L = getT x a := ⟨_, rfl⟩
   have HG1 := Aside0.mk (fun w2 (hb : Below wx.heap.size wx w2) => show Calls Try.prog 44 #[.agg #[.slice A0 x.f0.length c0, .slice A1 x.f1.length c1], .int .i64 a] w2 (fun r w' => ∃ A c, r = .returned (.slice A L.length c) ∧ L.length ≤ c ∧ k70.C w' A L.length L ∧ Below w2.heap.size w2 w') from by
    refine (Get_c (k25.K_below (BXW.out.trans (hb.mono BXW.out.size)) HK.out) HOK.out).mono ?_
    rintro r w' ⟨v, rfl, hR, hb'⟩
    rw [← hL] at hR
    obtain ⟨A, c, rfl⟩ := Kd.R_slice hR
    have hr := Kd.R_reads' hR
    exact ⟨A, c, rfl, hr.2.1, hr.2.2, hb'⟩)
   have HG2 := Aside0.mk (fun w2 (hb : Below wx.heap.size wx w2) => show Calls Try.prog 45 #[.agg #[.slice A0 x.f0.length c0, .slice A1 x.f1.length c1], .int .i64 a] w2 (fun r w' => ∃ A c, r = .returned (.slice A L.length c) ∧ L.length ≤ c ∧ k70.C w' A L.length L ∧ Below w2.heap.size w2 w') from by
    refine (RGet_c (k25.K_below (BXW.out.trans (hb.mono BXW.out.size)) HK.out) HOK.out).mono ?_
    rintro r w' ⟨A, c, rfl, h1, h2, h3⟩
    rw [← hL] at h1 h2 ⊢
    exact ⟨A, c, rfl, h1, h2, h3⟩)
   have HG3 := Aside0.mk (fun w2 (hb : Below wx.heap.size wx w2) => show Calls Try.prog 44 #[.agg #[.slice D0 X.f0.length e0, .slice D1 X.f1.length e1], .int .i64 a] w2 (fun r w' => ∃ A c, r = .returned (.slice A vals.length c) ∧ vals.length ≤ c ∧ k70.C w' A vals.length vals ∧ Below w2.heap.size w2 w') from by
    refine (Get_c (k25.K_below hb KXX.out) OKX.out).mono ?_
    rintro r w' ⟨v, rfl, hR, hb'⟩
    rw [show getT X a = vals by rw [HX.out]; exact P19.get_put x a vals] at hR
    obtain ⟨A, c, rfl⟩ := Kd.R_slice hR
    have hr := Kd.R_reads' hR
    exact ⟨A, c, rfl, hr.2.1, hr.2.2, hb'⟩)
   have HRW := Aside0.mk (fun w2 (hb : Below wx.heap.size wx w2) => show Calls Try.prog 46 #[.agg #[.slice A0 x.f0.length c0, .slice A1 x.f1.length c1], .int .i64 a, .slice AV vals.length cv] w2 (fun r w' => ∃ B0 d0 B1 d1, r = .returned (.agg #[.slice B0 X.f0.length d0, .slice B1 X.f1.length d1]) ∧ k25.K w' X [.slice B0 X.f0.length d0, .slice B1 X.f1.length d1] ∧ Below w2.heap.size w2 w') from by
    have hc := RWith_c (a := a) (vals := vals) (AV := AV) (cv := cv) (k25.K_below (BXW.out.trans (hb.mono BXW.out.size)) HK.out) HL.out (Kd.C_below HV.out (BXW.out.trans (hb.mono BXW.out.size))) (by have := HFW.out; omega)
    rw [← HX.out] at hc
    exact hc)
   have HSV : Aside0 (E (fun k => ecdysisref19_SameVals.f k L L) true) := ⟨by rw [hL]; exact getT_ok HOK.out⟩
   have hm := KO.out wx BB.out
   have mm := KO.out wx BB.out
   obtain ⟨m0, m1, m2, m3⟩ := mm
   clear hwx bx zx hL n3
   go_region_held3 (fun w2 => w2.cell? ⟨w3.heap.size, 0, none⟩ = some (.slice D0 X.f0.length e0) ∧ w2.cell? ⟨w3.heap.size, 1, none⟩ = some (.slice D1 X.f1.length e1) ∧ w2.cell? ⟨w.heap.size, 0, none⟩ = some (.slice A0 x.f0.length c0) ∧ w2.cell? ⟨w.heap.size, 1, none⟩ = some (.slice A1 x.f1.length c1)) (first | exact hm | exact KO.out _ (by repeat (first | (with_reducible first | exact BB.out | apply below_alloc | apply pw_below_drewN | apply below_drew)))) (first
    | (go_at_call 44; refine (HG1.out _ (by repeat (first | (with_reducible first | exact BB.out | apply below_alloc | apply pw_below_drewN | apply below_drew)))).mono ?_
       rintro r w4 ⟨A4, c4, rfl, l4, C4, b4⟩
       have L4 := Aside0.mk l4
       have CA4 := Aside0.mk C4
       have BX : Below wx.heap.size wx w4 := below_step (by repeat (first | (with_reducible first | exact BB.out | apply below_alloc | apply pw_below_drewN | apply below_drew))) b4
       clear b4 l4 C4 HG1
       have BB := Aside0.mk BX
       clear BX)
    | (go_at_call 45; refine (HG2.out _ (by repeat (first | (with_reducible first | exact BB.out | apply below_alloc | apply pw_below_drewN | apply below_drew)))).mono ?_
       rintro r w5 ⟨A5, c5, rfl, l5, C5, b5⟩
       obtain ⟨ke, hke⟩ := E.get HSV.out
       have HC := Aside0.mk (ecdysisref19_SameVals.calls ke A4 c4 L A5 c5 L true w5 (Kd.C_below CA4.out b5) L4.out C5 l5 hke)
       have BX : Below wx.heap.size wx w5 := below_step (by repeat (first | (with_reducible first | exact BB.out | apply below_alloc | apply pw_below_drewN | apply below_drew))) b5
       clear b5 l5 C5 hke HSV
       have BB := Aside0.mk BX
       clear BX)
    | (go_at_call 43
       refine HC.out.mono ?_
       rintro r w6 ⟨rfl, b6⟩
       have BX : Below wx.heap.size wx w6 := below_step (by repeat (first | (with_reducible first | exact BB.out | apply below_alloc | apply pw_below_drewN | apply below_drew))) b6
       clear b6 HC
       have BB := Aside0.mk BX
       clear BX)
    | (go_at_call 46; refine (HRW.out _ (by repeat (first | (with_reducible first | exact BB.out | apply below_alloc | apply pw_below_drewN | apply below_drew)))).mono ?_
       rintro r w7 ⟨I0, i0, I1, i1, rfl, K7, b7⟩
       have BX : Below wx.heap.size wx w7 := below_step (by repeat (first | (with_reducible first | exact BB.out | apply below_alloc | apply pw_below_drewN | apply below_drew))) b7
       obtain ⟨n', hn'⟩ := OKX.out
       obtain ⟨ke, hke⟩ := E.get (P19.same_E n' X hn')
       obtain ⟨q1, q2, q3, q4⟩ := tree_reads (k25.K_below BX KXX.out)
       obtain ⟨t1, t2, t3, t4⟩ := tree_reads K7
       have HCS := Aside0.mk (ecdysisref19_Same.calls ke D0 e0 X.f0 D1 e1 X.f1 I0 i0 X.f0 I1 i1 X.f1 true w7 q2 q1 q4 q3 t2 t1 t4 t3 hke)
       clear b7 K7 hn' hke q1 q2 q3 q4 t1 t2 t3 t4
       have BB := Aside0.mk BX
       clear BX)
    | (go_at_call 14
       refine HCS.out.mono ?_
       rintro r w8 ⟨rfl, b8⟩
       have BX : Below wx.heap.size wx w8 := below_step (by repeat (first | (with_reducible first | exact BB.out | apply below_alloc | apply pw_below_drewN | apply below_drew))) b8
       clear b8 HCS
       have BB := Aside0.mk BX
       clear BX)
    | (go_at_call 44; refine (HG3.out _ (by repeat (first | (with_reducible first | exact BB.out | apply below_alloc | apply pw_below_drewN | apply below_drew)))).mono ?_
       rintro r w9 ⟨A9, c9, rfl, l9, C9, b9⟩
       have BX : Below wx.heap.size wx w9 := below_step (by repeat (first | (with_reducible first | exact BB.out | apply below_alloc | apply pw_below_drewN | apply below_drew))) b9
       obtain ⟨ke, hke⟩ := E.get HVV.out
       have HC2 := Aside0.mk (ecdysisref19_SameVals.calls ke A9 c9 vals AV cv vals true w9 C9 l9 (Kd.C_below HV.out (BXW.out.trans (BX.mono BXW.out.size))) HL.out hke)
       clear b9 l9 C9 hke
       have BB := Aside0.mk BX
       clear BX)
    | (go_at_call 43
       refine HC2.out.mono ?_
       rintro r w10 ⟨rfl, b10⟩
       have BX : Below wx.heap.size wx w10 := below_step (by repeat (first | (with_reducible first | exact BB.out | apply below_alloc | apply pw_below_drewN | apply below_drew))) b10
       clear b10 HC2
       have BB := Aside0.mk BX
       clear BX)
    | (go_at_call 11; refine (HLV.out _).mono ?_; rintro r wl ⟨rfl, bl⟩
       have BX : Below wx.heap.size wx wl := below_step (by repeat (first | (with_reducible first | exact BB.out | apply below_alloc | apply pw_below_drewN | apply below_drew))) bl
       clear bl
       have BB := Aside0.mk BX
       clear BX))
   go_wp2_with fail
   go_ret
   exact ⟨rfl, BZ.out.trans ((BXW.out.trans (BB.out.mono BXW.out.size)).mono BZ.out.size)⟩
end Go.Proofs.Ytbpnfpckoapdbaa.TK
end
section
namespace Go.Proofs.Ytbpnfpckoapdbaa.treeWith
open Go.ChangeShapes Go.WideShapes Go.ChangeAt Go.RowKit
open Go.ChangeMaps (open_string shut_string)
open Go.Proofs.Ytbpnfpckoapdbaa.KD Go.Proofs.YtbpnfpckoapdbaaW.PrintWords
set_option linter.unusedVariables false
theorem own : ownKnob Try.prog.godebug = none := by kernel_rfl
theorem laidOut : laidOutB Try.prog = true := by kernel_rfl
set_option maxRecDepth 100000 in
theorem lifted (os : Os) (started : os.Started) (H : Type) (enc : TypeId × Value → H) :
  ReturnsInHanded {} Try.checked os 8 .any (Rows.treeWithSpec.pre6 enc Try.prog Try.f8 Rows.treeWithRow.domain false) (Rows.treeWithSpec.post enc Try.prog Try.f8 false true false false) := by
 refine returnsInHanded_of_change_sized (C := Try.checked) own started (by kernel_rfl) Try.func8
  (ChangeSpec.witness6 (enc := enc) (C := Try.checked) false ⟨#[], #[.agg #[.slice none 0 0, .slice none 0 0], .int .i64 0, .slice none 0 0], []⟩ 8 (by kernel_rfl) (by kernel_rfl) (by kernel_rfl) (by kernel_rfl)) ?_
 intro W base args ds gs before hval0 hW hcnd hsz0 _
 have hsz : (DataW.weightsEach Try.prog (Try.f8.params.toList ++ Rows.treeWithSpec.plain.varTypes Try.prog) (ds ++ gs)).all (· ≤ reachBytes) = true := hsz0
 have hval : ∀ (j : Nat) t v, Try.f8.params[j]? = some t → args[j]? = some v → Value.okWide Try.prog W .any base t v := hval0
 have hW' := hW
 obtain ⟨p, q, hA0, hV, rfl, hfz, hnd⟩ := hW
 have hA : DataW.TrodAll enc Try.prog W 0 (fun _ => true) true Try.f8.params.toList args.toList ds p := hA0
 rw [Try.params8] at hA hval hsz
 obtain ⟨v0, vs0, d0, ds0, p0, q0, hargs, rfl, rfl, h0, r0⟩ := trodAll_cons hA
 obtain ⟨v1, vs1, d1, ds1, p1, q1, rfl, rfl, rfl, h1, r1⟩ := trodAll_cons r0
 obtain ⟨v2, vs2, d2, ds2, p2, q2, rfl, rfl, rfl, h2, r2⟩ := trodAll_cons r1
 obtain ⟨rfl, rfl, rfl⟩ := trodAll_nil r2
 obtain rfl : args = #[v0, v1, v2] := by cases args; simp_all
 obtain ⟨rfl, rfl⟩ := trodVars_none hV
 obtain ⟨cs0, rfl, _⟩ := okWide_struct Try.underlying25 (hval 0 25 v0 rfl rfl)
 have k0 := h0
 have lt0 : ∀ x ∈ p0, x.block < W.heap.size := by obtain ⟨m, hm⟩ := k0; exact DataW.trod_lt m _ _ _ hm
 have li0 : Open.Light Try.prog 25 d0 := fun n hn => by simpa using List.all_eq_true.1 hsz n (DataW.weights_mem_each (j := 0) rfl rfl n hn)
 obtain ⟨fu0, hf0⟩ := h0
 obtain ⟨y0, hk0, w0⟩ := Ops.opensT fu0 fu0 (Nat.le_refl _) _ enc W 0 (fun _ => true) true _ _ hf0 li0
 have ec0 : (Value.agg cs0).cells.toList.toArray = cs0 := by simp [Value.cells]
 obtain ⟨A0_0, c0_0, A0_1, c0_1, hcs0, _⟩ := k25_open hk0
 rw [hcs0] at ec0 hk0
 have ec0' := ec0.symm
 subst ec0'
 obtain ⟨a1, rfl, rfl, rfl, w1⟩ := open_int Try.underlying3 (hval 1 3 v1 rfl rfl) h1
 obtain ⟨q2A, len2, cap2, rfl⟩ := okWide_slice Try.underlying57 (hval 2 57 v2 rfl rfl)
 have k2 := h2
 have lt2 : ∀ x ∈ p2, x.block < W.heap.size := by obtain ⟨m, hm⟩ := k2; exact DataW.trod_lt m _ _ _ hm
 have li2 : Open.Light Try.prog 57 d2 := fun n hn => by simpa using List.all_eq_true.1 hsz n (DataW.weights_mem_each (j := 2) rfl rfl n hn)
 obtain ⟨fu2, hf2⟩ := h2
 obtain ⟨l2, rfl, hc2, hr2, hl2, ho2⟩ : ∃ l : List Ops.TV, len2 = l.length ∧ l.length ≤ cap2 ∧ k70.C W q2A l.length l ∧ l.length * 48 ≤ reachBytes ∧ ∀ y ∈ l, Ops.okVal (Ops.okT fu2) y := by
  obtain ⟨l, ⟨A, c, hcs, hle, hC⟩, hok⟩ := Open.opensW_slice Try.underlying57 Ops.cellsV (by kernel_rfl : Try.prog.bytesOf 70 = 48) (fun n e => Ops.opensVal fu2 n (by omega)) _ enc W 0 (fun _ => true) true _ _ hf2 li2
  simp [Value.cells] at hcs
  obtain ⟨rfl, rfl, rfl⟩ := hcs
  exact ⟨l, rfl, hle, hC, hok.1, hok.2⟩
 clear hA0 hval0 hsz0 hsz
 have hcall := TK.TreeWith_c hk0 w0 w1 hc2 hr2 hl2 ho2
 refine hcall.mono fun e W' ⟨he, bel0⟩ => ?_
 have bel : Below W.heap.size W W' := bel0
 subst he
 exact ⟨_, rfl, _, _, _, [], _, [], hW', trodAll_mk1 (shut_bool Try.underlying4 _), (trodAll_cons_mk (Below.trod laidOut (by kernel_rfl) (of_decide_eq_true (by kernel_rfl)) k0 bel lt0) (trodAll_cons_mk (shut_int Try.underlying3 w1) (trodAll_cons_mk (Below.trod laidOut (by kernel_rfl) (of_decide_eq_true (by kernel_rfl)) k2 bel lt2) trodAll_mk0))), rfl, bel.frame _, fun h => by cases h⟩
theorem over : Rows.treeWithRow.holds Try.pinned (OpenSpec.ofChange Rows.treeWithSpec) :=
 OpenClaim.holds_of_wide 8 Try.f8 rfl rfl rfl rfl rfl rfl rfl ⟨rfl, rfl, rfl, rfl, rfl⟩ rfl rfl rfl rfl rfl (by kernel_rfl) Try.func8 (by kernel_rfl)
  (of_decide_eq_true (by kernel_rfl)) (by unfold Func.isWrapper; first | (rw [if_pos (by decide +kernel)]; kernel_rfl) | (rw [if_neg (by decide +kernel)]; exact ⟨rfl, rfl⟩))
  (fun os started H enc _ => lifted os started H enc)
theorem proved : Rows.TreeWithSaid := over
#print axioms proved
end Go.Proofs.Ytbpnfpckoapdbaa.treeWith
namespace Go.Proofs.Ytbpnfpckoapdbaa
/-- The row, under a short name, for the claim. -/
theorem treeWith_holds : Rows.TreeWithSaid := treeWith.proved
end Go.Proofs.Ytbpnfpckoapdbaa
end

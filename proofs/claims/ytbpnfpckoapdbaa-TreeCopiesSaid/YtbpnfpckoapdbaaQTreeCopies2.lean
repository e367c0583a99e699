/- The law TreeCopies holds for every input that the row lets in (text 3 of 3; some of it the words and functions that the kit's print and this claim's programs wrote) -/
import Derived.Test.YtbpnfpckoapdbaaQTreeCopies1
import Derived.Test.YtbpnfpckoapdbaaRows
import Derived.WalkKit
import Derived.ProofKit
import Derived.OpenShut
import Derived.ShutString
import Derived.ChangeOld
import Derived.Below
import Derived.SizedLaws
section
namespace Go.Proofs.Ytbpnfpckoapdbaa.PT19
open Go.RowKit Go.Proofs.Ytbpnfpckoapdbaa.M Go.Proofs.Ytbpnfpckoapdbaa.KD Go.Proofs.Ytbpnfpckoapdbaa Go.Proofs.YtbpnfpckoapdbaaW.PrintWords Go.Proofs.YtbpnfpckoapdbaaW.PrintLast Go.Proofs.YtbpnfpckoapdbaaW.PrintMore
attribute [local go_sem] max2_int min2_int max_two min_two max_three min_three max_four min_four   -- for this text's walks alone
set_option linter.unusedVariables false
set_option linter.unusedSimpArgs false
mutual
def ecdysisref19_Copy.l0 : Nat → Int → List (S59) → List (S73) → List (S59) → List (S73) → Option ((List (S59)) × (List (S73)))
 | 0, _, _, _, _, _ => none
 | k + 1, x4, x186000, x186001, x194000, x194001 => if x4 < (x186000.length : Int) then (if 0 ≤ x4 then (ecdysisref19_Copy.l1 k x4 0 x186000 x186001 x194000 x194001 ((rd_T59 x186000 x4).f0) ([] : List (S70))) else (none)) else (some (x194000, x194001))
def ecdysisref19_Copy.l1 : Nat → Int → Int → List (S59) → List (S73) → List (S59) → List (S73) → Int → List (S70) → Option ((List (S59)) × (List (S73)))
 | 0, _, _, _, _, _, _, _, _ => none
 | k + 1, x4, x6, x186000, x186001, x194000, x194001, x196000, x196001 => if 0 ≤ x4 then (if x4 < (x186000.length : Int) then (if x6 < (((rd_T59 x186000 x4).f1).length : Int) then (if 0 ≤ x6 then (ecdysisref19_Copy.l2 k x4 x6 0 x186000 x186001 x194000 x194001 x196000 x196001 ((rd_T70 ((rd_T59 x186000 x4).f1) x6).f0) ((rd_T70 ((rd_T59 x186000 x4).f1) x6).f1) ((rd_T70 ((rd_T59 x186000 x4).f1) x6).f2) ((rd_T70 ((rd_T59 x186000 x4).f1) x6).f0) ((rd_T70 ((rd_T59 x186000 x4).f1) x6).f1) ([] : List (S25))) else (none)) else (if x194000.length < 4398046511104 then (ecdysisref19_Copy.l0 k (wrap64 (x4 + 1)) x186000 x186001 (x194000 ++ [(⟨x196000, x196001⟩ : S59)]) x194001) else (none))) else (none)) else (none)
def ecdysisref19_Copy.l2 : Nat → Int → Int → Int → List (S59) → List (S73) → List (S59) → List (S73) → Int → List (S70) → Int → ByteArray → List (S25) → Int → ByteArray → List (S25) → Option ((List (S59)) × (List (S73)))
 | 0, _, _, _, _, _, _, _, _, _, _, _, _, _, _, _ => none
 | k + 1, x4, x6, x9, x186000, x186001, x194000, x194001, x196000, x196001, x203000, x203001, x203002, x204000, x204001, x204002 => if x9 < (x203002.length : Int) then (if 0 ≤ x9 then ((ecdysisref19_Copy.f k ((rd_T25 x203002 x9).f0) ((rd_T25 x203002 x9).f1)).bind fun bt205 => (if x204002.length < 2932031007402 then (ecdysisref19_Copy.l2 k x4 x6 (wrap64 (x9 + 1)) x186000 x186001 x194000 x194001 x196000 x196001 x203000 x203001 x203002 x204000 x204001 (x204002 ++ [(⟨bt205.1, bt205.2⟩ : S25)])) else (none))) else (none)) else (if x196001.length < 2932031007402 then (ecdysisref19_Copy.l1 k x4 (wrap64 (x6 + 1)) x186000 x186001 x194000 x194001 x196000 (x196001 ++ [(⟨x204000, x204001, x204002⟩ : S70)])) else (none))
def ecdysisref19_Copy.f : Nat → List (S59) → List (S73) → Option ((List (S59)) × (List (S73)))
 | 0, _, _ => none
 | k + 1, l0_0, l0_1 => (some (([] : List (S73)) : List (S73))).bind fun y187 => (if y187.length + l0_1.length < 3518437208883 then (ecdysisref19_Copy.l0 k 0 l0_0 l0_1 ([] : List (S59)) (y187 ++ l0_1)) else (none))
end
def ecdysisref19_Copy.T14 : Bool × List (List Nat × List Nat) := (true, [([], []), ([0], [0]), ([], []), ([2], [2]), ([], []), ([3, 4], [3, 4]), ([5], [5]), ([6], [6]), ([7], [7]), ([1, 8, 7], [1, 8]), ([0, 1, 2, 3, 4, 5, 6, 7, 8, 9], []), ([10, 9, 9, 0, 1, 2, 3, 4, 5, 6, 7, 8, 9], [9, 10])])
def ecdysisref19_Copy.B14 : List Nat := [0, 1, 0, 4, 0, 28, 60, 124, 252, 511, 1023, 2047]
theorem ecdysisref19_Copy.tab14 : rtab .any (opsOf Try.f12 14) = ecdysisref19_Copy.T14 := by kernel_rfl
theorem ecdysisref19_Copy.bits14 : waitsOk ecdysisref19_Copy.T14.2 ecdysisref19_Copy.B14 = true := by kernel_rfl
set_option maxHeartbeats 8000000 in
set_option maxRecDepth 100000 in
theorem ecdysisref19_Copy.calls (k : Nat) : ∀ (A0_0 : Option Addr) (c0_0 : Nat) (l0_0 : List (S59)) (A0_1 : Option Addr) (c0_1 : Nat) (l0_1 : List (S73)) (r1 : List (S59)) (r2 : List (S73)) (w : World) (hr0_0 : Kd.C k59 w A0_0 l0_0.length l0_0) (hc0_0 : l0_0.length ≤ c0_0) (hr0_1 : Kd.C k73 w A0_1 l0_1.length l0_1) (hc0_1 : l0_1.length ≤ c0_1) (h : ecdysisref19_Copy.f k l0_0 l0_1 = some (r1, r2)),
   Calls Try.prog 12 #[.agg #[.slice A0_0 l0_0.length c0_0, .slice A0_1 l0_1.length c0_1]] w fun e w' => ∃ v0_ v1_ : Value, e = .returned (.agg #[v0_, v1_]) ∧ Kd.R k59 59 w' w.heap.size (fun k_ => some k_ ≠ (v1_ : Value).ownBlock) v0_ r1 ∧ Kd.R k73 73 w' w.heap.size (fun _ => True) v1_ r2 ∧ Below w.heap.size w w' := by
 induction k using Nat.strongRecOn with
 | _ k ih =>
 intro A0_0 c0_0 l0_0 A0_1 c0_1 l0_1 r1 r2 w hr0_0 hc0_0 hr0_1 hc0_1 h
 cases k with
 | zero => exact absurd h (by simp [ecdysisref19_Copy.f])
 | succ k =>
 simp only [ecdysisref19_Copy.f] at h
 have hu25 := Try.underlying25
 have hu59 := Try.underlying59
 have hu70 := Try.underlying70
 have HR0_0 := Aside0.mk hr0_0
 have HC0_0 := Aside0.mk hc0_0
 clear hr0_0 hc0_0
 have HR0_1 := Aside0.mk hr0_1
 have HC0_1 := Aside0.mk hc0_1
 clear hr0_1 hc0_1
 have HB := Aside0.mk (Below.refl w.heap.size w)
 have H : ((some (([] : List (S73)) : List (S73))).bind fun y187 => (if y187.length + l0_1.length < 3518437208883 then (ecdysisref19_Copy.l0 k 0 l0_0 l0_1 ([] : List (S59)) (y187 ++ l0_1)) else (none))) = some (r1, r2) := h
 clear h
 obtain ⟨y187, hy187⟩ : ∃ y_ : List (S73), y_ = (([] : List (S73))) := ⟨_, rfl⟩
 replace H : (if y187.length + l0_1.length < 3518437208883 then (ecdysisref19_Copy.l0 k 0 l0_0 l0_1 ([] : List (S59)) (y187 ++ l0_1)) else (none)) = some (r1, r2) := by first | (have H2_ := (Option.bind_some _ _).symm.trans H; rw [hy187]; with_reducible exact H2_) 
 have Ny187 := Aside0.mk hy187
 clear hy187
 by_cases c2 : y187.length + l0_1.length < 3518437208883
 · rw [if_pos c2] at H
   have LMc2 := Aside0.mk c2
   clear c2
   obtain ⟨y190, hy190⟩ : ∃ y_ : List (S73), y_ = (y187 ++ l0_1) := ⟨_, rfl⟩
   replace H : (ecdysisref19_Copy.l0 k 0 l0_0 l0_1 ([] : List (S59)) y190) = some (r1, r2) := by first | (rw [hy190]; with_reducible exact H) 
   have Ny190 := Aside0.mk hy190
   clear hy190
   have H' := Aside0.mk H
   clear H
   go_enter Try.func12, Try.ntmps12
   go_wp2_with (first | ((with_reducible refine gate_dst (N := 1) rfl ?_); refine box_event ?hg (N := 1) ?hd (cs := #[.slice A0_0 l0_0.length c0_0, .slice A0_1 l0_1.length c0_1]) (t := 25) ?hr ?_; (case hd => rfl); (case hg => rfl); (case hr => first | (go_simp; done) | (go_simp; rfl)); intro gb185 hg w3 hbox hb; have n0_ := Aside0.mk (below_step HB.out hb); have n1_ := Aside0.mk (hbox); clear HB; have HB := n0_; have BK185 := n1_; clear n0_ n1_; clear hb hbox hg) | ((with_reducible refine gate_dst (N := 2) rfl ?_); refine box_event ?hg (N := 2) ?hd (cs := #[.slice none 0 0, .slice none 0 0]) (t := 25) ?hr ?_; (case hd => rfl); (case hg => rfl); (case hr => first | (go_simp; done) | (go_simp; rfl)); intro gb186 hg w4 hbox hb; have n0_ := Aside0.mk (blk_below BK185.out hb); have n1_ := Aside0.mk (below_step HB.out hb); have n2_ := Aside0.mk (hbox); have n4_ := Aside0.mk ((by rw [hg]; exact (below_size HB.out) : w.heap.size ≤ gb186)); have n5_ := Aside0.mk ((by rw [hg]; exact Nat.ne_of_lt (blk_lt BK185.out) : gb185 ≠ gb186)); have n6_ := Aside0.mk ((by rw [hg]; exact Nat.ne_of_gt (blk_lt BK185.out) : gb186 ≠ gb185)); clear BK185; clear HB; have BK185 := n0_; have HB := n1_; have BK186 := n2_; have GE186 := n4_; have NB185_186 := n5_; have NB186_185 := n6_; clear n0_ n1_ n2_ n4_ n5_ n6_; clear hb hbox hg) | ((with_reducible refine gate_dst (N := 10) rfl ?_); refine Kd.R_lit k73 _ 73 ?hg (N := 10) ?hd (xs := ([] : List (S73))) (inner := []) (ok := fun _ => True) (okp := fun _ => True) ?hr ?hp (fun _ hk => hk) trivial (Below.refl _ _) (Nat.le_refl _) (by simp) ?_; (case hd => rfl); (case hg => rfl); (case hr => first | (go_simp; done) | (go_simp; rfl)); (case hp => exact (Reps.none _ _)); intro v188 w5 ho6 hb hg_ hnew_; clear hg_ hnew_; (first | rw [← Ny187.out] at ho6 ); have n0_ := Aside0.mk (Kd.R_lower ho6 (below_size HB.out)); have n1_ := Aside0.mk (blk_below BK185.out hb); have n2_ := Aside0.mk (blk_below BK186.out hb); have n3_ := Aside0.mk (below_step HB.out hb); clear BK185; clear BK186; clear HB; have HO189 := n0_; have BK185 := n1_; have BK186 := n2_; have HB := n3_; clear n0_ n1_ n2_ n3_; clear hb ho6; have hnb7 := NB185_186.out; have hnc7 := NB186_185.out; have hcz8_0 : w5.cell? ⟨gb185, 0, none⟩ = some (.slice A0_0 l0_0.length c0_0) := (blk_cell BK185.out 0).trans rfl; have hcz8_1 : w5.cell? ⟨gb185, 1, none⟩ = some (.slice A0_1 l0_1.length c0_1) := (blk_cell BK185.out 1).trans rfl; have hfz8_0 := blk_frozen BK185.out 0; have hfz8_1 := blk_frozen BK185.out 1) | ((with_reducible refine gate_builtin (b := .append) (xs := #[.tmp 10, .tmp 12]) rfl ?_); at_builtin; refine Kd.R_append_rows k73 (w0 := w) w.heap.size rfl (.tmp 10) (.tmp 12) 23 73 (.agg #[(.int .i64 0), (.int .i64 0), (.int .u64 0), (.string ⟨#[]⟩)]) 40 rfl Try.underlying23 info73 rfl (by decide) (by omega) v188 y187 l0_1 _ _ _ (fun _ => True) (fun _ => False) rfl rfl ?aO ?aR (fun _ _ h => h) (fun _ h => h.elim) ?aF ?aB ?aS ?aL ?_; (case aR => repeat (first | exact (Kd.C_below HR0_1.out HB.out) )); (case aB => exact HB.out); (case aF => exact (fun _ _ => trivial)); (case aO => exact HO189.out); (case aS => exact (below_size HB.out)); (case aL => have := LMc2.out; omega); intro v191 w9 ho hb hg hat; rw [← Ny190.out] at ho; have n0_ := Aside0.mk (blk_grown (g := gb185) (o := .cells #[.slice A0_0 l0_0.length c0_0, .slice A0_1 l0_1.length c0_1] 25 (0, 0)) BK185.out hg (Kd.R_ne HO189.out BK185.out (by decide))); have n1_ := Aside0.mk (blk_grown (g := gb186) (o := .cells #[.slice none 0 0, .slice none 0 0] 25 (0, 0)) BK186.out hg (Kd.R_ne HO189.out BK186.out (by decide))); have n2_ := Aside0.mk (hb); have n3_ := Aside0.mk (ho); clear BK185; clear BK186; clear HB; clear HO189; have BK185 := n0_; have BK186 := n1_; have HB := n2_; have HO192 := n3_; clear n0_ n1_ n2_ n3_; clear ho hb hg hat; obtain ⟨Ao10, co10, eo10⟩ := Kd.R_slice HO192.out; subst eo10) | ((with_reducible refine gate_dst (N := 3) rfl ?_); refine box_event ?hg (N := 3) ?hd (cs := #[.slice none 0 0, .slice none 0 0]) (t := 25) ?hr ?_; (case hd => rfl); (case hg => rfl); (case hr => first | (go_simp; done) | (go_simp; rfl)); intro gb193 hg w11 hbox hb; have n0_ := Aside0.mk (Kd.R_below HO192.out hb); have n1_ := Aside0.mk (blk_below BK185.out hb); have n2_ := Aside0.mk (blk_below BK186.out hb); have n3_ := Aside0.mk (below_step HB.out hb); have n4_ := Aside0.mk (hbox); have n6_ := Aside0.mk ((by rw [hg]; exact (below_size HB.out) : w.heap.size ≤ gb193)); have n7_ := Aside0.mk ((by rw [hg]; exact Nat.ne_of_lt (blk_lt BK185.out) : gb185 ≠ gb193)); have n8_ := Aside0.mk ((by rw [hg]; exact Nat.ne_of_gt (blk_lt BK185.out) : gb193 ≠ gb185)); have n9_ := Aside0.mk ((by rw [hg]; exact Nat.ne_of_lt (blk_lt BK186.out) : gb186 ≠ gb193)); have n10_ := Aside0.mk ((by rw [hg]; exact Nat.ne_of_gt (blk_lt BK186.out) : gb193 ≠ gb186)); clear HO192; clear BK185; clear BK186; clear HB; have HO192 := n0_; have BK185 := n1_; have BK186 := n2_; have HB := n3_; have BK193 := n4_; have GE193 := n6_; have NB185_193 := n7_; have NB193_185 := n8_; have NB186_193 := n9_; have NB193_186 := n10_; clear n0_ n1_ n2_ n3_ n4_ n6_ n7_ n8_ n9_ n10_; clear hb hbox hg; have hnb12 := NB193_185.out; have hnc12 := NB185_193.out; have hnb13 := NB193_186.out; have hnc13 := NB186_193.out; have hcz14_0 : w11.cell? ⟨gb193, 0, none⟩ = some (.slice none 0 0) := (blk_cell BK193.out 0).trans rfl; have hcz14_1 : w11.cell? ⟨gb193, 1, none⟩ = some (.slice none 0 0) := (blk_cell BK193.out 1).trans rfl; have hfz14_0 := blk_frozen BK193.out 0; have hfz14_1 := blk_frozen BK193.out 1))
   go_loopg [4] k (fun kq v4 w' => ∃ (x4_1 : Int) (x194000_1 : List (S59)) (u194000 : Value), v4 = .int .i64 x4_1 ∧ Aside0 (ecdysisref19_Copy.l0 kq x4_1 l0_0 l0_1 x194000_1 y190 = some (r1, r2)) ∧ Aside0 (kq ≤ k) ∧ Aside0 (Kd.R k59 59 w' w.heap.size (fun k_ => some k_ ≠ ((.slice Ao10 y190.length co10) : Value).ownBlock ∧ k_ ≠ gb185 ∧ k_ ≠ gb186 ∧ k_ ≠ gb193) u194000 x194000_1) ∧ Aside0 (Kd.R k73 73 w' w.heap.size (fun _ => True) (.slice Ao10 y190.length co10) y190) ∧ Aside0 (w'.heap[gb185]? = some (.cells #[(.slice A0_0 l0_0.length c0_0), (.slice A0_1 l0_1.length c0_1)] 25 (0, 0))) ∧ Aside0 (w'.heap[gb186]? = some (.cells #[(.slice none 0 0), (.slice none 0 0)] 25 (0, 0))) ∧ Aside0 (w'.heap[gb193]? = some (.cells #[u194000, (.slice Ao10 y190.length co10)] 25 (0, 0))) ∧ Aside0 (Below w.heap.size w w'))
   case atStart => exact ⟨(0), (([] : List (S59))), (.slice none 0 0), (by first | rfl ), H', ⟨Nat.le_refl _⟩, ⟨by first | exact Kd.R_nil _ _ _ _ _ ⟩, ⟨by exact Kd.R_mono (Kd.R_far (p := ⟨gb193, 1, none⟩) (Kd.R_far (p := ⟨gb193, 0, none⟩) (Kd.R_types HO192.out BK193.out (by decide)) (fun _ hk => hk.2) (.slice none 0 0)) (fun _ hk => hk.2) (.slice Ao10 y190.length co10)) (fun _ hk => trivial)⟩, ⟨by refine blk_far ?_ NB185_193.out _; refine blk_far ?_ NB185_193.out _; exact BK185.out⟩, ⟨by refine blk_far ?_ NB186_193.out _; refine blk_far ?_ NB186_193.out _; exact BK186.out⟩, ⟨by refine blk_put (cs := #[.slice none 0 0, .slice none 0 0]) ?_ 1 _ rfl; refine blk_put (cs := #[.slice none 0 0, .slice none 0 0]) ?_ 0 _ rfl; exact BK193.out⟩, ⟨by repeat (first | (with_reducible first | exact HB.out | refine below_set ?_ GE193.out) )⟩⟩
   case round =>
    clear H'
    try clear c1
    try clear c2
    try clear p2
    try clear c7
    try clear c12
    try clear c13
    try clear hcz14_0
    try clear hcz14_1
    try clear hcz8_0
    try clear hcz8_1
    try clear hfz14_0
    try clear hfz14_1
    try clear hfz8_0
    try clear hfz8_1
    obtain ⟨x4_1, x194000_1, u194000, rfl, HA, HK1, HO_194000, HO_194001, BK185, BK186, BK193, HB⟩ := hrel
    cases gk with
    | zero => exact absurd HA.out (by simp [ecdysisref19_Copy.l0])
    | succ k1 =>
     have H := HA.out
     clear HA
     simp only [ecdysisref19_Copy.l0] at H
     by_cases c15 : x4_1 < (l0_0.length : Int)
     · rw [if_pos c15] at H
       have c15b0 : decide (x4_1 < (l0_0.length : Int)) = true := decide_eq_true c15
       clear c15
       by_cases c16 : 0 ≤ x4_1
       · rw [if_pos c16] at H
         have c16b0 : decide (0 ≤ x4_1) = true := decide_eq_true c16
         clear c16
         have H' := Aside0.mk H
         clear H
         have hnb17 := NB185_186.out
         have hnc17 := NB186_185.out
         have hnb18 := NB185_193.out
         have hnc18 := NB193_185.out
         have hcz19_0 : wr.cell? ⟨gb185, 0, none⟩ = some (.slice A0_0 l0_0.length c0_0) := (blk_cell BK185.out 0).trans rfl
         have hcz19_1 : wr.cell? ⟨gb185, 1, none⟩ = some (.slice A0_1 l0_1.length c0_1) := (blk_cell BK185.out 1).trans rfl
         have hfz19_0 := blk_frozen BK185.out 0
         have hfz19_1 := blk_frozen BK185.out 1
         have p194 : 0 ≤ (x4_1 : Int) := of_decide_eq_true (by first | (with_reducible assumption) )
         have q194 : x4_1 < (l0_0.length : Int) := of_decide_eq_true (by first | (with_reducible assumption) )
         obtain ⟨ad194, A194_1, c194_1, e194, hx194_0, hx194_1, hl194_1, hi194_1⟩ := at_T59 HR0_0.out x4_1 p194 q194
         cases e194
         replace hx194_0 := (HB.out.cell (World.block_lt_of_cell? w _ hx194_0)).trans hx194_0
         replace hx194_1 := (HB.out.cell (World.block_lt_of_cell? w _ hx194_1)).trans hx194_1
         have HR194_1 := Aside0.mk hi194_1
         have HC194_1 := Aside0.mk hl194_1
         clear hi194_1 hl194_1
         replace p194 := eq_true p194
         replace q194 := eq_true q194
         go_wp2_with (first | ((with_reducible refine gate_dst (N := 5) rfl ?_); refine box_event ?hg (N := 5) ?hd (cs := #[.int .i64 0, .slice none 0 0]) (t := 59) ?hr ?_; (case hd => rfl); (case hg => rfl); (case hr => first | (go_simp; done) | (go_simp; rfl)); intro gb195 hg w20 hbox hb; have n0_ := Aside0.mk (Kd.R_below (Kd.R_elderB HO_194000.out gb195 (Nat.le_of_eq hg.symm)) hb); have n1_ := Aside0.mk (Kd.R_below HO_194001.out hb); have n2_ := Aside0.mk (blk_below BK185.out hb); have n3_ := Aside0.mk (blk_below BK186.out hb); have n4_ := Aside0.mk (blk_below BK193.out hb); have n5_ := Aside0.mk (below_step HB.out hb); have n6_ := Aside0.mk (hbox); have n8_ := Aside0.mk ((by rw [hg]; exact (below_size HB.out) : w.heap.size ≤ gb195)); have n9_ := Aside0.mk ((by rw [hg]; exact Nat.ne_of_lt (blk_lt BK185.out) : gb185 ≠ gb195)); have n10_ := Aside0.mk ((by rw [hg]; exact Nat.ne_of_gt (blk_lt BK185.out) : gb195 ≠ gb185)); have n11_ := Aside0.mk ((by rw [hg]; exact Nat.ne_of_lt (blk_lt BK186.out) : gb186 ≠ gb195)); have n12_ := Aside0.mk ((by rw [hg]; exact Nat.ne_of_gt (blk_lt BK186.out) : gb195 ≠ gb186)); have n13_ := Aside0.mk ((by rw [hg]; exact Nat.ne_of_lt (blk_lt BK193.out) : gb193 ≠ gb195)); have n14_ := Aside0.mk ((by rw [hg]; exact Nat.ne_of_gt (blk_lt BK193.out) : gb195 ≠ gb193)); clear HO_194000; clear HO_194001; clear BK185; clear BK186; clear BK193; clear HB; have HO_194000 := n0_; have HO_194001 := n1_; have BK185 := n2_; have BK186 := n3_; have BK193 := n4_; have HB := n5_; have BK195 := n6_; have GE195 := n8_; have NB185_195 := n9_; have NB195_185 := n10_; have NB186_195 := n11_; have NB195_186 := n12_; have NB193_195 := n13_; have NB195_193 := n14_; clear n0_ n1_ n2_ n3_ n4_ n5_ n6_ n8_ n9_ n10_ n11_ n12_ n13_ n14_; clear hb hbox hg; have hnb21 := NB195_185.out; have hnc21 := NB185_195.out; have hnb22 := NB195_186.out; have hnc22 := NB186_195.out; have hnb23 := NB195_193.out; have hnc23 := NB193_195.out; have hcz24_0 : w20.cell? ⟨gb195, 0, none⟩ = some (.int .i64 0) := (blk_cell BK195.out 0).trans rfl; have hcz24_1 : w20.cell? ⟨gb195, 1, none⟩ = some (.slice none 0 0) := (blk_cell BK195.out 1).trans rfl; have hfz24_0 := blk_frozen BK195.out 0; have hfz24_1 := blk_frozen BK195.out 1))
         go_loopg [6] k1 (fun kq v6 w' => ∃ (x6_2 : Int) (x196001_2 : List (S70)) (u196001 : Value), v6 = .int .i64 x6_2 ∧ Aside0 (ecdysisref19_Copy.l1 kq x4_1 x6_2 l0_0 l0_1 x194000_1 y190 ((rd_T59 l0_0 x4_1).f0) x196001_2 = some (r1, r2)) ∧ Aside0 (kq ≤ k1) ∧ Aside0 (Kd.R k59 59 w' w.heap.size (fun k_ => some k_ ≠ ((.slice Ao10 y190.length co10) : Value).ownBlock ∧ some k_ ≠ (u196001 : Value).ownBlock ∧ k_ ≠ gb185 ∧ k_ ≠ gb186 ∧ k_ ≠ gb193 ∧ k_ ≠ gb195) u194000 x194000_1) ∧ Aside0 (Kd.R k73 73 w' w.heap.size (fun _ => True) (.slice Ao10 y190.length co10) y190) ∧ Aside0 (Kd.R k70 70 w' w.heap.size (fun k_ => some k_ ≠ (u194000 : Value).ownBlock ∧ some k_ ≠ ((.slice Ao10 y190.length co10) : Value).ownBlock ∧ k_ ≠ gb185 ∧ k_ ≠ gb186 ∧ k_ ≠ gb193 ∧ k_ ≠ gb195) u196001 x196001_2) ∧ Aside0 (w'.heap[gb185]? = some (.cells #[(.slice (some ad194) l0_0.length c0_0), (.slice A0_1 l0_1.length c0_1)] 25 (0, 0))) ∧ Aside0 (w'.heap[gb186]? = some (.cells #[(.slice none 0 0), (.slice none 0 0)] 25 (0, 0))) ∧ Aside0 (w'.heap[gb193]? = some (.cells #[u194000, (.slice Ao10 y190.length co10)] 25 (0, 0))) ∧ Aside0 (w'.heap[gb195]? = some (.cells #[.int .i64 ((rd_T59 l0_0 x4_1).f0), u196001] 59 (0, 0))) ∧ Aside0 (Below w.heap.size w w'))
         case atStart => exact ⟨(0), (([] : List (S70))), (.slice none 0 0), (by first | rfl ), H', ⟨Nat.le_refl _⟩, ⟨by exact Kd.R_mono (Kd.R_far (p := ⟨gb195, 1, none⟩) (Kd.R_far (p := ⟨gb195, 0, none⟩) (Kd.R_mono HO_194000.out (fun k_ hk => (⟨hk, hk.2⟩ : _ ∧ k_ ≠ gb195))) (fun _ hk => hk.2) (.int .i64 ((rd_T59 l0_0 x4_1).f0))) (fun _ hk => hk.2) (.slice none 0 0)) (fun _ hk => ⟨hk.1.1.1, ⟨(by simp [Value.ownBlock]), ⟨hk.1.1.2.1, ⟨hk.1.1.2.2.1, ⟨hk.1.1.2.2.2, hk.1.2⟩⟩⟩⟩⟩)⟩, ⟨by exact Kd.R_mono (Kd.R_far (p := ⟨gb195, 1, none⟩) (Kd.R_far (p := ⟨gb195, 0, none⟩) (Kd.R_types HO_194001.out BK195.out (by decide)) (fun _ hk => hk.2) (.int .i64 ((rd_T59 l0_0 x4_1).f0))) (fun _ hk => hk.2) (.slice none 0 0)) (fun _ hk => trivial)⟩, ⟨by first | exact Kd.R_nil _ _ _ _ _ ⟩, ⟨by refine blk_far ?_ NB185_195.out _; refine blk_far ?_ NB185_195.out _; exact BK185.out⟩, ⟨by refine blk_far ?_ NB186_195.out _; refine blk_far ?_ NB186_195.out _; exact BK186.out⟩, ⟨by refine blk_far ?_ NB193_195.out _; refine blk_far ?_ NB193_195.out _; exact BK193.out⟩, ⟨by refine blk_put (cs := #[.int .i64 ((rd_T59 l0_0 x4_1).f0), .slice none 0 0]) ?_ 1 _ rfl; refine blk_put (cs := #[.int .i64 0, .slice none 0 0]) ?_ 0 _ rfl; exact BK195.out⟩, ⟨by repeat (first | (with_reducible first | exact HB.out | refine below_set ?_ GE195.out) )⟩⟩
         case round =>
          clear H'
          try clear c1
          try clear p1
          try clear q1
          try clear hx1
          try clear c2
          try clear p2
          try clear c7
          try clear c12
          try clear c13
          try clear c15
          try clear c15b0
          try clear c16
          try clear c16b0
          try clear c17
          try clear c18
          try clear c19
          try clear p19
          try clear q19
          try clear hx19
          try clear c21
          try clear c22
          try clear c23
          try clear hcz14_0
          try clear hcz14_1
          try clear hcz19_0
          try clear hcz19_1
          try clear hcz24_0
          try clear hcz24_1
          try clear hcz8_0
          try clear hcz8_1
          try clear hfz14_0
          try clear hfz14_1
          try clear hfz19_0
          try clear hfz19_1
          try clear hfz24_0
          try clear hfz24_1
          try clear hfz8_0
          try clear hfz8_1
          try clear hx194_0
          try clear hx194_1
          try clear p194
          try clear p2
          try clear q194
          obtain ⟨x6_2, x196001_2, u196001, rfl, HA, HK2, HO_194000, HO_194001, HO_196001, BK185, BK186, BK193, BK195, HB⟩ := hrel
          cases gk with
          | zero => exact absurd HA.out (by simp [ecdysisref19_Copy.l1])
          | succ k2 =>
           have H := HA.out
           clear HA
           simp only [ecdysisref19_Copy.l1] at H
           by_cases c25 : 0 ≤ x4_1
           · rw [if_pos c25] at H
             have c25b0 : decide (0 ≤ x4_1) = true := decide_eq_true c25
             clear c25
             by_cases c26 : x4_1 < (l0_0.length : Int)
             · rw [if_pos c26] at H
               have c26b0 : decide (x4_1 < (l0_0.length : Int)) = true := decide_eq_true c26
               clear c26
               by_cases c27 : x6_2 < (((rd_T59 l0_0 x4_1).f1).length : Int)
               · rw [if_pos c27] at H
                 have c27b0 : decide (x6_2 < (((rd_T59 l0_0 x4_1).f1).length : Int)) = true := decide_eq_true c27
                 clear c27
                 by_cases c28 : 0 ≤ x6_2
                 · rw [if_pos c28] at H
                   have c28b0 : decide (0 ≤ x6_2) = true := decide_eq_true c28
                   clear c28
                   have H' := Aside0.mk H
                   clear H
                   have hnb29 := NB185_186.out
                   have hnc29 := NB186_185.out
                   have hnb30 := NB185_193.out
                   have hnc30 := NB193_185.out
                   have hnb31 := NB185_195.out
                   have hnc31 := NB195_185.out
                   have hcz32_0 : wr.cell? ⟨gb185, 0, none⟩ = some (.slice (some ad194) l0_0.length c0_0) := (blk_cell BK185.out 0).trans rfl
                   have hcz32_1 : wr.cell? ⟨gb185, 1, none⟩ = some (.slice A0_1 l0_1.length c0_1) := (blk_cell BK185.out 1).trans rfl
                   have hfz32_0 := blk_frozen BK185.out 0
                   have hfz32_1 := blk_frozen BK185.out 1
                   have p196 : 0 ≤ (x4_1 : Int) := of_decide_eq_true (by first | (with_reducible assumption) )
                   have q196 : x4_1 < (l0_0.length : Int) := of_decide_eq_true (by first | (with_reducible assumption) )
                   obtain ⟨ad196, A196_1, c196_1, e196, hx196_0, hx196_1, hl196_1, hi196_1⟩ := at_T59 HR0_0.out x4_1 p196 q196
                   obtain rfl : ad194 = ad196 := (by injection e196)
                   replace hx196_0 := (HB.out.cell (World.block_lt_of_cell? w _ hx196_0)).trans hx196_0
                   replace hx196_1 := (HB.out.cell (World.block_lt_of_cell? w _ hx196_1)).trans hx196_1
                   have HR196_1 := Aside0.mk hi196_1
                   have HC196_1 := Aside0.mk hl196_1
                   clear hi196_1 hl196_1
                   replace p196 := eq_true p196
                   replace q196 := eq_true q196
                   have p200 : 0 ≤ (x4_1 : Int) := of_decide_eq_true (by first | (with_reducible assumption) )
                   have q200 : x4_1 < (l0_0.length : Int) := of_decide_eq_true (by first | (with_reducible assumption) )
                   obtain ⟨ad200, A200_1, c200_1, e200, hx200_0, hx200_1, hl200_1, hi200_1⟩ := at_T59 HR0_0.out x4_1 p200 q200
                   obtain rfl : ad194 = ad200 := (by injection e200)
                   replace hx200_0 := (HB.out.cell (World.block_lt_of_cell? w _ hx200_0)).trans hx200_0
                   replace hx200_1 := (HB.out.cell (World.block_lt_of_cell? w _ hx200_1)).trans hx200_1
                   have HR200_1 := Aside0.mk hi200_1
                   have HC200_1 := Aside0.mk hl200_1
                   clear hi200_1 hl200_1
                   replace p200 := eq_true p200
                   replace q200 := eq_true q200
                   have ea_ := Option.some.inj (hx196_1.symm.trans hx200_1)
                   injection ea_ with ea_ en_ ec_
                   subst ea_
                   subst ec_
                   clear en_
                   have p201 : 0 ≤ (x6_2 : Int) := of_decide_eq_true (by first | (with_reducible assumption) )
                   have q201 : x6_2 < (((rd_T59 l0_0 x4_1).f1).length : Int) := of_decide_eq_true (by first | (with_reducible assumption) )
                   obtain ⟨ad201, A201_2, c201_2, e201, hx201_0, hx201_1, hx201_2, hl201_2, hi201_2⟩ := at_T70 HR200_1.out x6_2 p201 q201
                   cases e201
                   replace hx201_0 := (HB.out.cell (World.block_lt_of_cell? w _ hx201_0)).trans hx201_0
                   replace hx201_1 := (HB.out.cell (World.block_lt_of_cell? w _ hx201_1)).trans hx201_1
                   replace hx201_2 := (HB.out.cell (World.block_lt_of_cell? w _ hx201_2)).trans hx201_2
                   have HR201_2 := Aside0.mk hi201_2
                   have HC201_2 := Aside0.mk hl201_2
                   clear hi201_2 hl201_2
                   replace p201 := eq_true p201
                   replace q201 := eq_true q201
                   go_wp2_with (first | ((with_reducible refine gate_dst (N := 7) rfl ?_); refine box_event ?hg (N := 7) ?hd (cs := #[.int .u64 0, .string (⟨#[]⟩ : ByteArray), .slice none 0 0]) (t := 70) ?hr ?_; (case hd => rfl); (case hg => rfl); (case hr => first | (go_simp; done) | (go_simp; rfl)); intro gb202 hg w33 hbox hb; have n0_ := Aside0.mk (Kd.R_below (Kd.R_elderB HO_194000.out gb202 (Nat.le_of_eq hg.symm)) hb); have n1_ := Aside0.mk (Kd.R_below HO_194001.out hb); have n2_ := Aside0.mk (Kd.R_below (Kd.R_elderB HO_196001.out gb202 (Nat.le_of_eq hg.symm)) hb); have n3_ := Aside0.mk (blk_below BK185.out hb); have n4_ := Aside0.mk (blk_below BK186.out hb); have n5_ := Aside0.mk (blk_below BK193.out hb); have n6_ := Aside0.mk (blk_below BK195.out hb); have n7_ := Aside0.mk (below_step HB.out hb); have n8_ := Aside0.mk (hbox); have n10_ := Aside0.mk ((by rw [hg]; exact (below_size HB.out) : w.heap.size ≤ gb202)); have n11_ := Aside0.mk ((by rw [hg]; exact Nat.ne_of_lt (blk_lt BK185.out) : gb185 ≠ gb202)); have n12_ := Aside0.mk ((by rw [hg]; exact Nat.ne_of_gt (blk_lt BK185.out) : gb202 ≠ gb185)); have n13_ := Aside0.mk ((by rw [hg]; exact Nat.ne_of_lt (blk_lt BK186.out) : gb186 ≠ gb202)); have n14_ := Aside0.mk ((by rw [hg]; exact Nat.ne_of_gt (blk_lt BK186.out) : gb202 ≠ gb186)); have n15_ := Aside0.mk ((by rw [hg]; exact Nat.ne_of_lt (blk_lt BK193.out) : gb193 ≠ gb202)); have n16_ := Aside0.mk ((by rw [hg]; exact Nat.ne_of_gt (blk_lt BK193.out) : gb202 ≠ gb193)); have n17_ := Aside0.mk ((by rw [hg]; exact Nat.ne_of_lt (blk_lt BK195.out) : gb195 ≠ gb202)); have n18_ := Aside0.mk ((by rw [hg]; exact Nat.ne_of_gt (blk_lt BK195.out) : gb202 ≠ gb195)); clear HO_194000; clear HO_194001; clear HO_196001; clear BK185; clear BK186; clear BK193; clear BK195; clear HB; have HO_194000 := n0_; have HO_194001 := n1_; have HO_196001 := n2_; have BK185 := n3_; have BK186 := n4_; have BK193 := n5_; have BK195 := n6_; have HB := n7_; have BK202 := n8_; have GE202 := n10_; have NB185_202 := n11_; have NB202_185 := n12_; have NB186_202 := n13_; have NB202_186 := n14_; have NB193_202 := n15_; have NB202_193 := n16_; have NB195_202 := n17_; have NB202_195 := n18_; clear n0_ n1_ n2_ n3_ n4_ n5_ n6_ n7_ n8_ n10_ n11_ n12_ n13_ n14_ n15_ n16_ n17_ n18_; clear hb hbox hg; have hnb34 := NB202_185.out; have hnc34 := NB185_202.out; have hnb35 := NB202_186.out; have hnc35 := NB186_202.out; have hnb36 := NB202_193.out; have hnc36 := NB193_202.out; have hnb37 := NB202_195.out; have hnc37 := NB195_202.out; have hcz38_0 : w33.cell? ⟨gb202, 0, none⟩ = some (.int .u64 0) := (blk_cell BK202.out 0).trans rfl; have hcz38_1 : w33.cell? ⟨gb202, 1, none⟩ = some (.string (⟨#[]⟩ : ByteArray)) := (blk_cell BK202.out 1).trans rfl; have hcz38_2 : w33.cell? ⟨gb202, 2, none⟩ = some (.slice none 0 0) := (blk_cell BK202.out 2).trans rfl; have hfz38_0 := blk_frozen BK202.out 0; have hfz38_1 := blk_frozen BK202.out 1; have hfz38_2 := blk_frozen BK202.out 2) | ((with_reducible refine gate_dst (N := 8) rfl ?_); refine box_event ?hg (N := 8) ?hd (cs := #[.int .u64 0, .string (⟨#[]⟩ : ByteArray), .slice none 0 0]) (t := 70) ?hr ?_; (case hd => rfl); (case hg => rfl); (case hr => first | (go_simp; done) | (go_simp; rfl)); intro gb203 hg w39 hbox hb; have n0_ := Aside0.mk (Kd.R_below (Kd.R_elderB (by exact (Kd.R_mono (Kd.R_far (p := ⟨gb202, 2, none⟩) (Kd.R_far (p := ⟨gb202, 1, none⟩) (Kd.R_far (p := ⟨gb202, 0, none⟩) (Kd.R_mono HO_194000.out (fun k_ hk => (⟨hk, hk.2⟩ : _ ∧ k_ ≠ gb202))) (fun _ hk => hk.2) (.int .u64 ((rd_T70 ((rd_T59 l0_0 x4_1).f1) x6_2).f0))) (fun _ hk => hk.2) (.string ((rd_T70 ((rd_T59 l0_0 x4_1).f1) x6_2).f1))) (fun _ hk => hk.2) (.slice A201_2 ((rd_T70 ((rd_T59 l0_0 x4_1).f1) x6_2).f2).length c201_2)) (fun _ h_ => h_.1))) gb203 (Nat.le_of_eq hg.symm)) hb); have n1_ := Aside0.mk (Kd.R_below (by exact (Kd.R_mono (Kd.R_far (p := ⟨gb202, 2, none⟩) (Kd.R_far (p := ⟨gb202, 1, none⟩) (Kd.R_far (p := ⟨gb202, 0, none⟩) (Kd.R_types HO_194001.out BK202.out (by decide)) (fun _ hk => hk.2) (.int .u64 ((rd_T70 ((rd_T59 l0_0 x4_1).f1) x6_2).f0))) (fun _ hk => hk.2) (.string ((rd_T70 ((rd_T59 l0_0 x4_1).f1) x6_2).f1))) (fun _ hk => hk.2) (.slice A201_2 ((rd_T70 ((rd_T59 l0_0 x4_1).f1) x6_2).f2).length c201_2)) (fun _ h_ => h_.1))) hb); have n2_ := Aside0.mk (Kd.R_below (Kd.R_elderB (by exact (Kd.R_mono (Kd.R_far (p := ⟨gb202, 2, none⟩) (Kd.R_far (p := ⟨gb202, 1, none⟩) (Kd.R_far (p := ⟨gb202, 0, none⟩) (Kd.R_mono HO_196001.out (fun k_ hk => (⟨hk, hk.2⟩ : _ ∧ k_ ≠ gb202))) (fun _ hk => hk.2) (.int .u64 ((rd_T70 ((rd_T59 l0_0 x4_1).f1) x6_2).f0))) (fun _ hk => hk.2) (.string ((rd_T70 ((rd_T59 l0_0 x4_1).f1) x6_2).f1))) (fun _ hk => hk.2) (.slice A201_2 ((rd_T70 ((rd_T59 l0_0 x4_1).f1) x6_2).f2).length c201_2)) (fun _ h_ => h_.1))) gb203 (Nat.le_of_eq hg.symm)) hb); have n3_ := Aside0.mk (blk_below (g := gb185) (o := .cells #[.slice (some ad194) l0_0.length c0_0, .slice A0_1 l0_1.length c0_1] 25 (0, 0)) (by refine blk_far ?_ NB185_202.out _; refine blk_far ?_ NB185_202.out _; refine blk_far ?_ NB185_202.out _; exact BK185.out) hb); have n4_ := Aside0.mk (blk_below (g := gb186) (o := .cells #[.slice none 0 0, .slice none 0 0] 25 (0, 0)) (by refine blk_far ?_ NB186_202.out _; refine blk_far ?_ NB186_202.out _; refine blk_far ?_ NB186_202.out _; exact BK186.out) hb); have n5_ := Aside0.mk (blk_below (g := gb193) (o := .cells #[u194000, .slice Ao10 y190.length co10] 25 (0, 0)) (by refine blk_far ?_ NB193_202.out _; refine blk_far ?_ NB193_202.out _; refine blk_far ?_ NB193_202.out _; exact BK193.out) hb); have n6_ := Aside0.mk (blk_below (g := gb195) (o := .cells #[.int .i64 ((rd_T59 l0_0 x4_1).f0), u196001] 59 (0, 0)) (by refine blk_far ?_ NB195_202.out _; refine blk_far ?_ NB195_202.out _; refine blk_far ?_ NB195_202.out _; exact BK195.out) hb); have n7_ := Aside0.mk (blk_below (g := gb202) (o := .cells #[.int .u64 ((rd_T70 ((rd_T59 l0_0 x4_1).f1) x6_2).f0), .string ((rd_T70 ((rd_T59 l0_0 x4_1).f1) x6_2).f1), .slice A201_2 ((rd_T70 ((rd_T59 l0_0 x4_1).f1) x6_2).f2).length c201_2] 70 (0, 0)) (by refine blk_put (cs := #[.int .u64 ((rd_T70 ((rd_T59 l0_0 x4_1).f1) x6_2).f0), .string ((rd_T70 ((rd_T59 l0_0 x4_1).f1) x6_2).f1), .slice none 0 0]) ?_ 2 _ rfl; refine blk_put (cs := #[.int .u64 ((rd_T70 ((rd_T59 l0_0 x4_1).f1) x6_2).f0), .string (⟨#[]⟩ : ByteArray), .slice none 0 0]) ?_ 1 _ rfl; refine blk_put (cs := #[.int .u64 0, .string (⟨#[]⟩ : ByteArray), .slice none 0 0]) ?_ 0 _ rfl; exact BK202.out) hb); have n8_ := Aside0.mk (below_step (by repeat (first | (with_reducible first | exact HB.out | refine below_set ?_ GE202.out) )) hb); have n9_ := Aside0.mk (hbox); have n11_ := Aside0.mk ((by rw [hg]; exact (below_size (by repeat (first | (with_reducible first | exact HB.out | refine below_set ?_ GE202.out) ))) : w.heap.size ≤ gb203)); have n12_ := Aside0.mk ((by rw [hg]; exact Nat.ne_of_lt (blk_lt (g := gb185) (o := .cells #[.slice (some ad194) l0_0.length c0_0, .slice A0_1 l0_1.length c0_1] 25 (0, 0)) (by refine blk_far ?_ NB185_202.out _; refine blk_far ?_ NB185_202.out _; refine blk_far ?_ NB185_202.out _; exact BK185.out)) : gb185 ≠ gb203)); have n13_ := Aside0.mk ((by rw [hg]; exact Nat.ne_of_gt (blk_lt (g := gb185) (o := .cells #[.slice (some ad194) l0_0.length c0_0, .slice A0_1 l0_1.length c0_1] 25 (0, 0)) (by refine blk_far ?_ NB185_202.out _; refine blk_far ?_ NB185_202.out _; refine blk_far ?_ NB185_202.out _; exact BK185.out)) : gb203 ≠ gb185)); have n14_ := Aside0.mk ((by rw [hg]; exact Nat.ne_of_lt (blk_lt (g := gb186) (o := .cells #[.slice none 0 0, .slice none 0 0] 25 (0, 0)) (by refine blk_far ?_ NB186_202.out _; refine blk_far ?_ NB186_202.out _; refine blk_far ?_ NB186_202.out _; exact BK186.out)) : gb186 ≠ gb203)); have n15_ := Aside0.mk ((by rw [hg]; exact Nat.ne_of_gt (blk_lt (g := gb186) (o := .cells #[.slice none 0 0, .slice none 0 0] 25 (0, 0)) (by refine blk_far ?_ NB186_202.out _; refine blk_far ?_ NB186_202.out _; refine blk_far ?_ NB186_202.out _; exact BK186.out)) : gb203 ≠ gb186)); have n16_ := Aside0.mk ((by rw [hg]; exact Nat.ne_of_lt (blk_lt (g := gb193) (o := .cells #[u194000, .slice Ao10 y190.length co10] 25 (0, 0)) (by refine blk_far ?_ NB193_202.out _; refine blk_far ?_ NB193_202.out _; refine blk_far ?_ NB193_202.out _; exact BK193.out)) : gb193 ≠ gb203)); have n17_ := Aside0.mk ((by rw [hg]; exact Nat.ne_of_gt (blk_lt (g := gb193) (o := .cells #[u194000, .slice Ao10 y190.length co10] 25 (0, 0)) (by refine blk_far ?_ NB193_202.out _; refine blk_far ?_ NB193_202.out _; refine blk_far ?_ NB193_202.out _; exact BK193.out)) : gb203 ≠ gb193)); have n18_ := Aside0.mk ((by rw [hg]; exact Nat.ne_of_lt (blk_lt (g := gb195) (o := .cells #[.int .i64 ((rd_T59 l0_0 x4_1).f0), u196001] 59 (0, 0)) (by refine blk_far ?_ NB195_202.out _; refine blk_far ?_ NB195_202.out _; refine blk_far ?_ NB195_202.out _; exact BK195.out)) : gb195 ≠ gb203)); have n19_ := Aside0.mk ((by rw [hg]; exact Nat.ne_of_gt (blk_lt (g := gb195) (o := .cells #[.int .i64 ((rd_T59 l0_0 x4_1).f0), u196001] 59 (0, 0)) (by refine blk_far ?_ NB195_202.out _; refine blk_far ?_ NB195_202.out _; refine blk_far ?_ NB195_202.out _; exact BK195.out)) : gb203 ≠ gb195)); have n20_ := Aside0.mk ((by rw [hg]; exact Nat.ne_of_lt (blk_lt (g := gb202) (o := .cells #[.int .u64 ((rd_T70 ((rd_T59 l0_0 x4_1).f1) x6_2).f0), .string ((rd_T70 ((rd_T59 l0_0 x4_1).f1) x6_2).f1), .slice A201_2 ((rd_T70 ((rd_T59 l0_0 x4_1).f1) x6_2).f2).length c201_2] 70 (0, 0)) (by refine blk_put (cs := #[.int .u64 ((rd_T70 ((rd_T59 l0_0 x4_1).f1) x6_2).f0), .string ((rd_T70 ((rd_T59 l0_0 x4_1).f1) x6_2).f1), .slice none 0 0]) ?_ 2 _ rfl; refine blk_put (cs := #[.int .u64 ((rd_T70 ((rd_T59 l0_0 x4_1).f1) x6_2).f0), .string (⟨#[]⟩ : ByteArray), .slice none 0 0]) ?_ 1 _ rfl; refine blk_put (cs := #[.int .u64 0, .string (⟨#[]⟩ : ByteArray), .slice none 0 0]) ?_ 0 _ rfl; exact BK202.out)) : gb202 ≠ gb203)); have n21_ := Aside0.mk ((by rw [hg]; exact Nat.ne_of_gt (blk_lt (g := gb202) (o := .cells #[.int .u64 ((rd_T70 ((rd_T59 l0_0 x4_1).f1) x6_2).f0), .string ((rd_T70 ((rd_T59 l0_0 x4_1).f1) x6_2).f1), .slice A201_2 ((rd_T70 ((rd_T59 l0_0 x4_1).f1) x6_2).f2).length c201_2] 70 (0, 0)) (by refine blk_put (cs := #[.int .u64 ((rd_T70 ((rd_T59 l0_0 x4_1).f1) x6_2).f0), .string ((rd_T70 ((rd_T59 l0_0 x4_1).f1) x6_2).f1), .slice none 0 0]) ?_ 2 _ rfl; refine blk_put (cs := #[.int .u64 ((rd_T70 ((rd_T59 l0_0 x4_1).f1) x6_2).f0), .string (⟨#[]⟩ : ByteArray), .slice none 0 0]) ?_ 1 _ rfl; refine blk_put (cs := #[.int .u64 0, .string (⟨#[]⟩ : ByteArray), .slice none 0 0]) ?_ 0 _ rfl; exact BK202.out)) : gb203 ≠ gb202)); clear HO_194000; clear HO_194001; clear HO_196001; clear BK185; clear BK186; clear BK193; clear BK195; clear BK202; clear HB; have HO_194000 := n0_; have HO_194001 := n1_; have HO_196001 := n2_; have BK185 := n3_; have BK186 := n4_; have BK193 := n5_; have BK195 := n6_; have BK202 := n7_; have HB := n8_; have BK203 := n9_; have GE203 := n11_; have NB185_203 := n12_; have NB203_185 := n13_; have NB186_203 := n14_; have NB203_186 := n15_; have NB193_203 := n16_; have NB203_193 := n17_; have NB195_203 := n18_; have NB203_195 := n19_; have NB202_203 := n20_; have NB203_202 := n21_; clear n0_ n1_ n2_ n3_ n4_ n5_ n6_ n7_ n8_ n9_ n11_ n12_ n13_ n14_ n15_ n16_ n17_ n18_ n19_ n20_ n21_; clear hb hbox hg; have hnb40 := NB203_185.out; have hnc40 := NB185_203.out; have hnb41 := NB203_186.out; have hnc41 := NB186_203.out; have hnb42 := NB203_193.out; have hnc42 := NB193_203.out; have hnb43 := NB203_195.out; have hnc43 := NB195_203.out; have hnb44 := NB203_202.out; have hnc44 := NB202_203.out; have hcz45_0 : w39.cell? ⟨gb203, 0, none⟩ = some (.int .u64 0) := (blk_cell BK203.out 0).trans rfl; have hcz45_1 : w39.cell? ⟨gb203, 1, none⟩ = some (.string (⟨#[]⟩ : ByteArray)) := (blk_cell BK203.out 1).trans rfl; have hcz45_2 : w39.cell? ⟨gb203, 2, none⟩ = some (.slice none 0 0) := (blk_cell BK203.out 2).trans rfl; have hfz45_0 := blk_frozen BK203.out 0; have hfz45_1 := blk_frozen BK203.out 1; have hfz45_2 := blk_frozen BK203.out 2))
                   go_loopg [9] k2 (fun kq v9 w' => ∃ (x9_3 : Int) (x204002_3 : List (S25)) (u204002 : Value), v9 = .int .i64 x9_3 ∧ Aside0 (ecdysisref19_Copy.l2 kq x4_1 x6_2 x9_3 l0_0 l0_1 x194000_1 y190 ((rd_T59 l0_0 x4_1).f0) x196001_2 ((rd_T70 ((rd_T59 l0_0 x4_1).f1) x6_2).f0) ((rd_T70 ((rd_T59 l0_0 x4_1).f1) x6_2).f1) ((rd_T70 ((rd_T59 l0_0 x4_1).f1) x6_2).f2) ((rd_T70 ((rd_T59 l0_0 x4_1).f1) x6_2).f0) ((rd_T70 ((rd_T59 l0_0 x4_1).f1) x6_2).f1) x204002_3 = some (r1, r2)) ∧ Aside0 (kq ≤ k2) ∧ Aside0 (Kd.R k59 59 w' w.heap.size (fun k_ => some k_ ≠ ((.slice Ao10 y190.length co10) : Value).ownBlock ∧ some k_ ≠ (u196001 : Value).ownBlock ∧ some k_ ≠ (u204002 : Value).ownBlock ∧ k_ ≠ gb185 ∧ k_ ≠ gb186 ∧ k_ ≠ gb193 ∧ k_ ≠ gb195 ∧ k_ ≠ gb202 ∧ k_ ≠ gb203) u194000 x194000_1) ∧ Aside0 (Kd.R k73 73 w' w.heap.size (fun _ => True) (.slice Ao10 y190.length co10) y190) ∧ Aside0 (Kd.R k70 70 w' w.heap.size (fun k_ => some k_ ≠ (u194000 : Value).ownBlock ∧ some k_ ≠ ((.slice Ao10 y190.length co10) : Value).ownBlock ∧ some k_ ≠ (u204002 : Value).ownBlock ∧ k_ ≠ gb185 ∧ k_ ≠ gb186 ∧ k_ ≠ gb193 ∧ k_ ≠ gb195 ∧ k_ ≠ gb202 ∧ k_ ≠ gb203) u196001 x196001_2) ∧ Aside0 (Kd.R k25 25 w' w.heap.size (fun k_ => some k_ ≠ (u194000 : Value).ownBlock ∧ some k_ ≠ ((.slice Ao10 y190.length co10) : Value).ownBlock ∧ some k_ ≠ (u196001 : Value).ownBlock ∧ k_ ≠ gb185 ∧ k_ ≠ gb186 ∧ k_ ≠ gb193 ∧ k_ ≠ gb195 ∧ k_ ≠ gb202 ∧ k_ ≠ gb203) u204002 x204002_3) ∧ Aside0 (w'.heap[gb185]? = some (.cells #[(.slice (some ad194) l0_0.length c0_0), (.slice A0_1 l0_1.length c0_1)] 25 (0, 0))) ∧ Aside0 (w'.heap[gb186]? = some (.cells #[(.slice none 0 0), (.slice none 0 0)] 25 (0, 0))) ∧ Aside0 (w'.heap[gb193]? = some (.cells #[u194000, (.slice Ao10 y190.length co10)] 25 (0, 0))) ∧ Aside0 (w'.heap[gb195]? = some (.cells #[.int .i64 ((rd_T59 l0_0 x4_1).f0), u196001] 59 (0, 0))) ∧ Aside0 (w'.heap[gb202]? = some (.cells #[.int .u64 ((rd_T70 ((rd_T59 l0_0 x4_1).f1) x6_2).f0), .string ((rd_T70 ((rd_T59 l0_0 x4_1).f1) x6_2).f1), (.slice A201_2 ((rd_T70 ((rd_T59 l0_0 x4_1).f1) x6_2).f2).length c201_2)] 70 (0, 0))) ∧ Aside0 (w'.heap[gb203]? = some (.cells #[.int .u64 ((rd_T70 ((rd_T59 l0_0 x4_1).f1) x6_2).f0), .string ((rd_T70 ((rd_T59 l0_0 x4_1).f1) x6_2).f1), u204002] 70 (0, 0))) ∧ Aside0 (Below w.heap.size w w'))
                   case atStart => exact ⟨(0), (([] : List (S25))), (.slice none 0 0), (by first | rfl ), H', ⟨Nat.le_refl _⟩, ⟨by exact Kd.R_mono (Kd.R_far (p := ⟨gb203, 2, none⟩) (Kd.R_far (p := ⟨gb203, 1, none⟩) (Kd.R_far (p := ⟨gb203, 0, none⟩) (Kd.R_mono HO_194000.out (fun k_ hk => (⟨hk, hk.2⟩ : _ ∧ k_ ≠ gb203))) (fun _ hk => hk.2) (.int .u64 ((rd_T70 ((rd_T59 l0_0 x4_1).f1) x6_2).f0))) (fun _ hk => hk.2) (.string ((rd_T70 ((rd_T59 l0_0 x4_1).f1) x6_2).f1))) (fun _ hk => hk.2) (.slice none 0 0)) (fun _ hk => ⟨hk.1.1.1.1, ⟨hk.1.1.1.2.1, ⟨(by simp [Value.ownBlock]), ⟨hk.1.1.1.2.2.1, ⟨hk.1.1.1.2.2.2.1, ⟨hk.1.1.1.2.2.2.2.1, ⟨hk.1.1.1.2.2.2.2.2, ⟨hk.1.1.2, hk.1.2⟩⟩⟩⟩⟩⟩⟩⟩)⟩, ⟨by exact Kd.R_mono (Kd.R_far (p := ⟨gb203, 2, none⟩) (Kd.R_far (p := ⟨gb203, 1, none⟩) (Kd.R_far (p := ⟨gb203, 0, none⟩) (Kd.R_types HO_194001.out BK203.out (by decide)) (fun _ hk => hk.2) (.int .u64 ((rd_T70 ((rd_T59 l0_0 x4_1).f1) x6_2).f0))) (fun _ hk => hk.2) (.string ((rd_T70 ((rd_T59 l0_0 x4_1).f1) x6_2).f1))) (fun _ hk => hk.2) (.slice none 0 0)) (fun _ hk => trivial)⟩, ⟨by exact Kd.R_mono (Kd.R_far (p := ⟨gb203, 2, none⟩) (Kd.R_far (p := ⟨gb203, 1, none⟩) (Kd.R_far (p := ⟨gb203, 0, none⟩) (Kd.R_mono HO_196001.out (fun k_ hk => (⟨hk, hk.2⟩ : _ ∧ k_ ≠ gb203))) (fun _ hk => hk.2) (.int .u64 ((rd_T70 ((rd_T59 l0_0 x4_1).f1) x6_2).f0))) (fun _ hk => hk.2) (.string ((rd_T70 ((rd_T59 l0_0 x4_1).f1) x6_2).f1))) (fun _ hk => hk.2) (.slice none 0 0)) (fun _ hk => ⟨hk.1.1.1.1, ⟨hk.1.1.1.2.1, ⟨(by simp [Value.ownBlock]), ⟨hk.1.1.1.2.2.1, ⟨hk.1.1.1.2.2.2.1, ⟨hk.1.1.1.2.2.2.2.1, ⟨hk.1.1.1.2.2.2.2.2, ⟨hk.1.1.2, hk.1.2⟩⟩⟩⟩⟩⟩⟩⟩)⟩, ⟨by first | exact Kd.R_nil _ _ _ _ _ ⟩, ⟨by refine blk_far ?_ NB185_203.out _; refine blk_far ?_ NB185_203.out _; refine blk_far ?_ NB185_203.out _; exact BK185.out⟩, ⟨by refine blk_far ?_ NB186_203.out _; refine blk_far ?_ NB186_203.out _; refine blk_far ?_ NB186_203.out _; exact BK186.out⟩, ⟨by refine blk_far ?_ NB193_203.out _; refine blk_far ?_ NB193_203.out _; refine blk_far ?_ NB193_203.out _; exact BK193.out⟩, ⟨by refine blk_far ?_ NB195_203.out _; refine blk_far ?_ NB195_203.out _; refine blk_far ?_ NB195_203.out _; exact BK195.out⟩, ⟨by refine blk_far ?_ NB202_203.out _; refine blk_far ?_ NB202_203.out _; refine blk_far ?_ NB202_203.out _; exact BK202.out⟩, ⟨by refine blk_put (cs := #[.int .u64 ((rd_T70 ((rd_T59 l0_0 x4_1).f1) x6_2).f0), .string ((rd_T70 ((rd_T59 l0_0 x4_1).f1) x6_2).f1), .slice none 0 0]) ?_ 2 _ rfl; refine blk_put (cs := #[.int .u64 ((rd_T70 ((rd_T59 l0_0 x4_1).f1) x6_2).f0), .string (⟨#[]⟩ : ByteArray), .slice none 0 0]) ?_ 1 _ rfl; refine blk_put (cs := #[.int .u64 0, .string (⟨#[]⟩ : ByteArray), .slice none 0 0]) ?_ 0 _ rfl; exact BK203.out⟩, ⟨by repeat (first | (with_reducible first | exact HB.out | refine below_set ?_ GE203.out) )⟩⟩
                   case round =>
                    clear H'
                    try clear c1
                    try clear p1
                    try clear q1
                    try clear hx1
                    try clear c2
                    try clear p2
                    try clear q2
                    try clear hx2
                    try clear c3
                    try clear c4
                    try clear c7
                    try clear c12
                    try clear c13
                    try clear c15
                    try clear c15b0
                    try clear c16
                    try clear c16b0
                    try clear c17
                    try clear c18
                    try clear c19
                    try clear p19
                    try clear q19
                    try clear hx19
                    try clear c20
                    try clear p20
                    try clear q20
                    try clear hx20
                    try clear c21
                    try clear c22
                    try clear c23
                    try clear c25
                    try clear c25b0
                    try clear c26
                    try clear c26b0
                    try clear c27
                    try clear c27b0
                    try clear c28
                    try clear c28b0
                    try clear c29
                    try clear c30
                    try clear c31
                    try clear c34
                    try clear c35
                    try clear c36
                    try clear c37
                    try clear c40
                    try clear c41
                    try clear c42
                    try clear c43
                    try clear c44
                    try clear hcz14_0
                    try clear hcz14_1
                    try clear hcz19_0
                    try clear hcz19_1
                    try clear hcz24_0
                    try clear hcz24_1
                    try clear hcz32_0
                    try clear hcz32_1
                    try clear hcz38_0
                    try clear hcz38_1
                    try clear hcz38_2
                    try clear hcz45_0
                    try clear hcz45_1
                    try clear hcz45_2
                    try clear hcz8_0
                    try clear hcz8_1
                    try clear hfz14_0
                    try clear hfz14_1
                    try clear hfz19_0
                    try clear hfz19_1
                    try clear hfz24_0
                    try clear hfz24_1
                    try clear hfz32_0
                    try clear hfz32_1
                    try clear hfz38_0
                    try clear hfz38_1
                    try clear hfz38_2
                    try clear hfz45_0
                    try clear hfz45_1
                    try clear hfz45_2
                    try clear hfz8_0
                    try clear hfz8_1
                    try clear hx194_0
                    try clear hx194_1
                    try clear hx196_0
                    try clear hx196_1
                    try clear hx200_0
                    try clear hx200_1
                    try clear hx201_0
                    try clear hx201_1
                    try clear hx201_2
                    try clear p1
                    try clear p19
                    try clear p194
                    try clear p196
                    try clear p2
                    try clear p200
                    try clear p201
                    try clear q1
                    try clear q19
                    try clear q194
                    try clear q196
                    try clear q200
                    try clear q201
                    obtain ⟨x9_3, x204002_3, u204002, rfl, HA, HK3, HO_194000, HO_194001, HO_196001, HO_204002, BK185, BK186, BK193, BK195, BK202, BK203, HB⟩ := hrel
                    cases gk with
                    | zero => exact absurd HA.out (by simp [ecdysisref19_Copy.l2])
                    | succ k3 =>
                     have H := HA.out
                     clear HA
                     simp only [ecdysisref19_Copy.l2] at H
                     by_cases c46 : x9_3 < (((rd_T70 ((rd_T59 l0_0 x4_1).f1) x6_2).f2).length : Int)
                     · rw [if_pos c46] at H
                       have c46b0 : decide (x9_3 < (((rd_T70 ((rd_T59 l0_0 x4_1).f1) x6_2).f2).length : Int)) = true := decide_eq_true c46
                       clear c46
                       by_cases c47 : 0 ≤ x9_3
                       · rw [if_pos c47] at H
                         have c47b0 : decide (0 ≤ x9_3) = true := decide_eq_true c47
                         clear c47
                         replace H := Option.bind_eq_some_iff.mp H
                         obtain ⟨⟨t205, t208⟩, A480, H⟩ := H
                         replace H : (if x204002_3.length < 2932031007402 then (ecdysisref19_Copy.l2 k3 x4_1 x6_2 (wrap64 (x9_3 + 1)) l0_0 l0_1 x194000_1 y190 ((rd_T59 l0_0 x4_1).f0) x196001_2 ((rd_T70 ((rd_T59 l0_0 x4_1).f1) x6_2).f0) ((rd_T70 ((rd_T59 l0_0 x4_1).f1) x6_2).f1) ((rd_T70 ((rd_T59 l0_0 x4_1).f1) x6_2).f2) ((rd_T70 ((rd_T59 l0_0 x4_1).f1) x6_2).f0) ((rd_T70 ((rd_T59 l0_0 x4_1).f1) x6_2).f1) (x204002_3 ++ [(⟨t205, t208⟩ : S25)])) else (none)) = some (r1, r2) := H
                         have A48 := Aside0.mk A480
                         clear A480
                         by_cases c49 : x204002_3.length < 2932031007402
                         · rw [if_pos c49] at H
                           have LMc49 := Aside0.mk c49
                           clear c49
                           obtain ⟨y211, hy211⟩ : ∃ y_ : List (S25), y_ = (x204002_3 ++ [(⟨t205, t208⟩ : S25)]) := ⟨_, rfl⟩
                           replace H : (ecdysisref19_Copy.l2 k3 x4_1 x6_2 (wrap64 (x9_3 + 1)) l0_0 l0_1 x194000_1 y190 ((rd_T59 l0_0 x4_1).f0) x196001_2 ((rd_T70 ((rd_T59 l0_0 x4_1).f1) x6_2).f0) ((rd_T70 ((rd_T59 l0_0 x4_1).f1) x6_2).f1) ((rd_T70 ((rd_T59 l0_0 x4_1).f1) x6_2).f2) ((rd_T70 ((rd_T59 l0_0 x4_1).f1) x6_2).f0) ((rd_T70 ((rd_T59 l0_0 x4_1).f1) x6_2).f1) y211) = some (r1, r2) := by first | (rw [hy211]; with_reducible exact H) 
                           have Ny211 := Aside0.mk hy211
                           clear hy211
                           have H' := Aside0.mk H
                           clear H
                           have hnb50 := NB202_185.out
                           have hnc50 := NB185_202.out
                           have hnb51 := NB202_186.out
                           have hnc51 := NB186_202.out
                           have hnb52 := NB202_193.out
                           have hnc52 := NB193_202.out
                           have hnb53 := NB202_195.out
                           have hnc53 := NB195_202.out
                           have hnb54 := NB202_203.out
                           have hnc54 := NB203_202.out
                           have hcz55_0 : wr.cell? ⟨gb202, 0, none⟩ = some (.int .u64 ((rd_T70 ((rd_T59 l0_0 x4_1).f1) x6_2).f0)) := (blk_cell BK202.out 0).trans rfl
                           have hcz55_1 : wr.cell? ⟨gb202, 1, none⟩ = some (.string ((rd_T70 ((rd_T59 l0_0 x4_1).f1) x6_2).f1)) := (blk_cell BK202.out 1).trans rfl
                           have hcz55_2 : wr.cell? ⟨gb202, 2, none⟩ = some (.slice A201_2 ((rd_T70 ((rd_T59 l0_0 x4_1).f1) x6_2).f2).length c201_2) := (blk_cell BK202.out 2).trans rfl
                           have hfz55_0 := blk_frozen BK202.out 0
                           have hfz55_1 := blk_frozen BK202.out 1
                           have hfz55_2 := blk_frozen BK202.out 2
                           try go_wp2
                           have n0_ := Aside0.mk (Kd.R_drew HO_194000.out)
                           have n1_ := Aside0.mk (Kd.R_drew HO_194001.out)
                           have n2_ := Aside0.mk (Kd.R_drew HO_196001.out)
                           have n3_ := Aside0.mk (Kd.R_drew HO_204002.out)
                           have n4_ := Aside0.mk (blk_drew BK185.out)
                           have n5_ := Aside0.mk (blk_drew BK186.out)
                           have n6_ := Aside0.mk (blk_drew BK193.out)
                           have n7_ := Aside0.mk (blk_drew BK195.out)
                           have n8_ := Aside0.mk (blk_drew BK202.out)
                           have n9_ := Aside0.mk (blk_drew BK203.out)
                           have n10_ := Aside0.mk (below_drew1 HB.out)
                           clear HO_194000
                           clear HO_194001
                           clear HO_196001
                           clear HO_204002
                           clear BK185
                           clear BK186
                           clear BK193
                           clear BK195
                           clear BK202
                           clear BK203
                           clear HB
                           have HO_194000 := n0_
                           have HO_194001 := n1_
                           have HO_196001 := n2_
                           have HO_204002 := n3_
                           have BK185 := n4_
                           have BK186 := n5_
                           have BK193 := n6_
                           have BK195 := n7_
                           have BK202 := n8_
                           have BK203 := n9_
                           have HB := n10_
                           clear n0_ n1_ n2_ n3_ n4_ n5_ n6_ n7_ n8_ n9_ n10_
                           have p204 : 0 ≤ (x9_3 : Int) := of_decide_eq_true (by first | (with_reducible assumption) )
                           have q204 : x9_3 < (((rd_T70 ((rd_T59 l0_0 x4_1).f1) x6_2).f2).length : Int) := of_decide_eq_true (by first | (with_reducible assumption) )
                           obtain ⟨ad204, A204_0, c204_0, A204_1, c204_1, e204, hx204_0, hx204_1, hl204_0, hi204_0, hl204_1, hi204_1⟩ := at_T25 HR201_2.out x9_3 p204 q204
                           have hw204_1 := hx204_1
                           have hw204_0 := hx204_0
                           cases e204
                           replace hx204_0 := (HB.out.cell (World.block_lt_of_cell? w _ hx204_0)).trans hx204_0
                           replace hx204_1 := (HB.out.cell (World.block_lt_of_cell? w _ hx204_1)).trans hx204_1
                           have HR204_0 := Aside0.mk hi204_0
                           have HC204_0 := Aside0.mk hl204_0
                           clear hi204_0 hl204_0
                           have HR204_1 := Aside0.mk hi204_1
                           have HC204_1 := Aside0.mk hl204_1
                           clear hi204_1 hl204_1
                           replace p204 := eq_true p204
                           replace q204 := eq_true q204
                           refine start_ (n := 12) (S := fun w' => w'.cell? ⟨gb203, 0, none⟩ = some (.int .u64 ((rd_T70 ((rd_T59 l0_0 x4_1).f1) x6_2).f0)) ∧ w'.cell? ⟨gb203, 1, none⟩ = some (.string ((rd_T70 ((rd_T59 l0_0 x4_1).f1) x6_2).f1)) ∧ w'.cell? ⟨gb203, 2, none⟩ = some (u204002) ∧ w'.cell? ⟨gb202, 0, none⟩ = some (.int .u64 ((rd_T70 ((rd_T59 l0_0 x4_1).f1) x6_2).f0)) ∧ w'.cell? ⟨gb202, 1, none⟩ = some (.string ((rd_T70 ((rd_T59 l0_0 x4_1).f1) x6_2).f1)) ∧ w'.cell? ⟨gb202, 2, none⟩ = some (.slice (some ad204) ((rd_T70 ((rd_T59 l0_0 x4_1).f1) x6_2).f2).length c201_2) ∧ w'.cell? (ad204.add ((x9_3).toNat * 2)) = some (.slice A204_0 ((rd_T25 ((rd_T70 ((rd_T59 l0_0 x4_1).f1) x6_2).f2) x9_3).f0).length c204_0) ∧ w'.cell? ⟨(ad204.add ((x9_3).toNat * 2)).block, (ad204.add ((x9_3).toNat * 2)).off + 1, none⟩ = some (.slice A204_1 ((rd_T25 ((rd_T70 ((rd_T59 l0_0 x4_1).f1) x6_2).f2) x9_3).f1).length c204_1)) (ds := [11]) #[false, false, false, false, false, false, false, false, false, false, false, false] (by kernel_rfl) rfl rfl ⟨(blk_cell BK203.out 0).trans rfl, (blk_cell BK203.out 1).trans rfl, (blk_cell BK203.out 2).trans rfl, (blk_cell BK202.out 0).trans rfl, (blk_cell BK202.out 1).trans rfl, (blk_cell BK202.out 2).trans rfl, ((HB.out.cell (World.block_lt_of_cell? w _ hw204_0)).trans hw204_0), ((HB.out.cell (World.block_lt_of_cell? w _ hw204_1)).trans hw204_1)⟩ (fun hHeld => ?_); refine with_tabW ecdysisref19_Copy.tab14 ecdysisref19_Copy.bits14 (fun HT_ HW_ => ?_)
                           generalize wr.drew = w56 at HO_194000 HO_194001 HO_196001 HO_204002 BK185 BK186 BK193 BK195 BK202 BK203 HB HR204_0 HR204_1 hx204_0 hx204_1 hHeld ⊢
                           refine zp 0 (zb 12 1) ?_ rfl rfl HT_ (by kernel_rfl) (fun _ _ _ h => h) rfl ?_ ?_ ?_ ?_; rotate_left; (intro w'; go_simp; with_reducible rfl); rotate_left; (simp only [zs]; rfl)
                           refine zp 2 (zb 12 5) ?_ rfl rfl HT_ (by kernel_rfl) (fun _ _ _ h => h) rfl ?_ ?_ ?_ ?_; rotate_left; (intro w'; go_simp; with_reducible rfl); rotate_left; (simp only [zs]; rfl)
                           refine zp 4 (zb 12 21) ?_ rfl rfl HT_ (by kernel_rfl) (fun _ _ _ h => h) rfl ?_ ?_ ?_ ?_; rotate_left; (intro w'; go_simp; with_reducible rfl); rotate_left; (simp only [zs]; rfl)
                           refine zt 1 (zb 12 23) ?_ rfl rfl HT_ HW_ (by kernel_rfl) (fun _ _ _ h => h) rfl ?_ hHeld ?_ ?_ ?_; rotate_left; (rintro w' ⟨s0, s1, s2, s3, s4, s5, s6, s7⟩; go_simp; with_reducible rfl); rotate_left; (simp only [zs]; rfl)
                           refine zt 3 (zb 12 31) ?_ rfl rfl HT_ HW_ (by kernel_rfl) (fun _ _ _ h => h) rfl ?_ hHeld ?_ ?_ ?_; rotate_left; (rintro w' ⟨s0, s1, s2, s3, s4, s5, s6, s7⟩; go_simp; with_reducible rfl); rotate_left; (simp only [zs]; rfl)
                           refine zp 5 (zb 12 63) ?_ rfl rfl HT_ (by kernel_rfl) (fun _ _ _ h => h) rfl ?_ ?_ ?_ ?_; rotate_left; (intro w'; go_simp; with_reducible rfl); rotate_left; (simp only [zs]; rfl)
                           refine zt 6 (zb 12 127) ?_ rfl rfl HT_ HW_ (by kernel_rfl) (fun _ _ _ h => h) rfl ?_ hHeld ?_ ?_ ?_; rotate_left; (rintro w' ⟨s0, s1, s2, s3, s4, s5, s6, s7⟩; go_simp; with_reducible rfl); rotate_left; (simp only [zs]; rfl)
                           refine one_ (i := 7) (N := some 68) #[true, true, true, true, true, true, true, true, false, false, false, false] rfl rfl (one_of HT_.out (by kernel_rfl)) (by decide) (fun K hK => ?_)
                           refine goes_ Try.func12 (by kernel_rfl) rfl #[.agg #[.slice A204_0 ((rd_T25 ((rd_T70 ((rd_T59 l0_0 x4_1).f1) x6_2).f2) x9_3).f0).length c204_0, .slice A204_1 ((rd_T25 ((rd_T70 ((rd_T59 l0_0 x4_1).f1) x6_2).f2) x9_3).f1).length c204_1]] (by rfl) rfl rfl (by (try simp only [List.map_toArray, List.map_cons, List.map_nil]); first | done | rfl | (simp only [List.length_drop, List.length_take]; rfl)) ?_
                           with_reducible refine (ih k3 (by have := HK1.out; have := HK2.out; have := HK3.out; omega) _ _ ((rd_T25 ((rd_T70 ((rd_T59 l0_0 x4_1).f1) x6_2).f2) x9_3).f0) _ _ ((rd_T25 ((rd_T70 ((rd_T59 l0_0 x4_1).f1) x6_2).f2) x9_3).f1) t205 t208 _ ?side1 ?side2 ?side3 ?side4 A48.out).mono ?_
                           (case side1 => repeat (first | exact (Kd.C_below HR204_0.out HB.out) ))
                           (case side2 => exact HC204_0.out)
                           (case side3 => repeat (first | exact (Kd.C_below HR204_1.out HB.out) ))
                           (case side4 => exact HC204_1.out)
                           rintro e w57 ⟨v206, v209, rfl, ho0, ho1, hb⟩
                           refine ⟨_, rfl, ?_⟩
                           have n0_ := Aside0.mk (Kd.R_mono (Kd.R_told (Kd.R_told (Kd.R_old HO_194000.out hb) (Kd.R_base ho0)) (Kd.R_base ho1)) (fun _ h_ => h_.1))
                           have n1_ := Aside0.mk (Kd.R_elder' HO_194001.out (Kd.R_base ho1) hb)
                           have n2_ := Aside0.mk (Kd.R_mono (Kd.R_told (Kd.R_told (Kd.R_old HO_196001.out hb) (Kd.R_base ho0)) (Kd.R_base ho1)) (fun _ h_ => h_.1))
                           have n3_ := Aside0.mk (Kd.R_mono (Kd.R_told (Kd.R_told (Kd.R_old HO_204002.out hb) (Kd.R_base ho0)) (Kd.R_base ho1)) (fun _ h_ => h_.1))
                           have n4_ := Aside0.mk (Kd.R_lower (Kd.R_newB (Kd.R_newB (Kd.R_newB (Kd.R_newB (Kd.R_newB (Kd.R_newB (Kd.R_new' (Kd.R_new' (Kd.R_new' (Kd.R_new' ho0 (Kd.R_lt HO_194000.out)) (Kd.R_lt HO_194001.out)) (Kd.R_lt HO_196001.out)) (Kd.R_lt HO_204002.out)) (g := gb185) (o := .cells #[.slice (some ad194) l0_0.length c0_0, .slice A0_1 l0_1.length c0_1] 25 (0, 0)) BK185.out) (g := gb186) (o := .cells #[.slice none 0 0, .slice none 0 0] 25 (0, 0)) BK186.out) (g := gb193) (o := .cells #[u194000, .slice Ao10 y190.length co10] 25 (0, 0)) BK193.out) (g := gb195) (o := .cells #[.int .i64 ((rd_T59 l0_0 x4_1).f0), u196001] 59 (0, 0)) BK195.out) (g := gb202) (o := .cells #[.int .u64 ((rd_T70 ((rd_T59 l0_0 x4_1).f1) x6_2).f0), .string ((rd_T70 ((rd_T59 l0_0 x4_1).f1) x6_2).f1), .slice (some ad204) ((rd_T70 ((rd_T59 l0_0 x4_1).f1) x6_2).f2).length c201_2] 70 (0, 0)) BK202.out) (g := gb203) (o := .cells #[.int .u64 ((rd_T70 ((rd_T59 l0_0 x4_1).f1) x6_2).f0), .string ((rd_T70 ((rd_T59 l0_0 x4_1).f1) x6_2).f1), u204002] 70 (0, 0)) BK203.out) (below_size HB.out))
                           have n5_ := Aside0.mk (Kd.R_lower (Kd.R_new' ho1 (Kd.R_lt HO_194001.out)) (below_size HB.out))
                           have n6_ := Aside0.mk (blk_below BK185.out hb)
                           have n7_ := Aside0.mk (blk_below BK186.out hb)
                           have n8_ := Aside0.mk (blk_below BK193.out hb)
                           have n9_ := Aside0.mk (blk_below BK195.out hb)
                           have n10_ := Aside0.mk (blk_below BK202.out hb)
                           have n11_ := Aside0.mk (blk_below BK203.out hb)
                           have n12_ := Aside0.mk (below_step HB.out hb)
                           clear HO_194000
                           clear HO_194001
                           clear HO_196001
                           clear HO_204002
                           clear BK185
                           clear BK186
                           clear BK193
                           clear BK195
                           clear BK202
                           clear BK203
                           clear HB
                           have HO_194000 := n0_
                           have HO_194001 := n1_
                           have HO_196001 := n2_
                           have HO_204002 := n3_
                           have HO207 := n4_
                           have HO210 := n5_
                           have BK185 := n6_
                           have BK186 := n7_
                           have BK193 := n8_
                           have BK195 := n9_
                           have BK202 := n10_
                           have BK203 := n11_
                           have HB := n12_
                           clear n0_ n1_ n2_ n3_ n4_ n5_ n6_ n7_ n8_ n9_ n10_ n11_ n12_
                           (try clear hb)
                           (try clear hb2)
                           (try clear hk)
                           (try clear hi)
                           (try clear ho0)
                           (try clear ho1)
                           obtain ⟨Ao59, co59, eo59⟩ := Kd.R_slice HO207.out
                           (first | subst eo59 )
                           obtain ⟨Ao60, co60, eo60⟩ := Kd.R_slice HO210.out
                           (first | subst eo60 )
                           refine hK.out _ _ ⟨(blk_cell BK203.out 0).trans rfl, (blk_cell BK203.out 1).trans rfl, (blk_cell BK203.out 2).trans rfl, (blk_cell BK202.out 0).trans rfl, (blk_cell BK202.out 1).trans rfl, (blk_cell BK202.out 2).trans rfl, ((HB.out.cell (World.block_lt_of_cell? w _ hw204_0)).trans hw204_0), ((HB.out.cell (World.block_lt_of_cell? w _ hw204_1)).trans hw204_1)⟩ (fun hHeld => ?_)
                           clear hK K
                           refine norm_ (a' := ?_) ?_ ?_
                           rotate_left
                           · show Act.put _ (some 68) _ = _
                             simp only [zs]
                             rfl
                           refine one_ (i := 8) (N := some 69) #[true, true, true, true, true, true, true, true, true, false, false, false] rfl rfl (one_of HT_.out (by kernel_rfl)) (by decide) (fun K hK => ?_)
                           refine value_ (w1 := ?_) (v := ?_) (by rfl) rfl ?_ ?_
                           rotate_left 2
                           · go_simp
                             constructor
                             · rfl
                             · rfl
                           refine hK.out _ _ ⟨(blk_cell (blk_alloc BK203.out _) 0).trans rfl, (blk_cell (blk_alloc BK203.out _) 1).trans rfl, (blk_cell (blk_alloc BK203.out _) 2).trans rfl, (blk_cell (blk_alloc BK202.out _) 0).trans rfl, (blk_cell (blk_alloc BK202.out _) 1).trans rfl, (blk_cell (blk_alloc BK202.out _) 2).trans rfl, (World.cell?_alloc_lt _ _ _ (World.block_lt_of_cell? _ _ (((HB.out.cell (World.block_lt_of_cell? w _ hw204_0)).trans hw204_0)))).trans (((HB.out.cell (World.block_lt_of_cell? w _ hw204_0)).trans hw204_0)), (World.cell?_alloc_lt _ _ _ (World.block_lt_of_cell? _ _ (((HB.out.cell (World.block_lt_of_cell? w _ hw204_1)).trans hw204_1)))).trans (((HB.out.cell (World.block_lt_of_cell? w _ hw204_1)).trans hw204_1))⟩ (fun hHeld => ?_)
                           clear hK K
                           refine norm_ (a' := ?_) ?_ ?_
                           rotate_left
                           · show Act.put _ (some 69) _ = _
                             simp only [zs]
                             rfl
                           refine one_ (i := 9) (N := some 70) #[true, true, true, true, true, true, true, true, true, true, false, false] rfl rfl (one_of HT_.out (by kernel_rfl)) (by decide) (fun K hK => ?_)
                           refine Kd.R_append_step k25 (w0 := w) w.heap.size (by rfl) (.tmp 62) (.tmp 69) 68 25 (.agg #[(.slice none 0 0), (.slice none 0 0)]) 48 rfl Try.underlying68 info25 rfl (by decide) (by omega) u204002 x204002_3 (⟨t205, t208⟩ : S25) [.slice Ao59 t205.length co59, .slice Ao60 t208.length co60] (fun k_ => some k_ ≠ (u194000 : Value).ownBlock ∧ some k_ ≠ (.slice Ao10 y190.length co10 : Value).ownBlock ∧ some k_ ≠ (u196001 : Value).ownBlock ∧ k_ ≠ gb185 ∧ k_ ≠ gb186 ∧ k_ ≠ gb193 ∧ k_ ≠ gb195 ∧ k_ ≠ gb202 ∧ k_ ≠ gb203) (fun k_ => ((fun k_ => some k_ ≠ (u194000 : Value).ownBlock ∧ some k_ ≠ (.slice Ao10 y190.length co10 : Value).ownBlock ∧ some k_ ≠ (u196001 : Value).ownBlock ∧ k_ ≠ gb185 ∧ k_ ≠ gb186 ∧ k_ ≠ gb193 ∧ k_ ≠ gb195 ∧ k_ ≠ gb202 ∧ k_ ≠ gb203)) k_ ∧ some k_ ≠ (u204002 : Value).ownBlock) rfl rfl ?aP (fun _ hk => hk) ?aF ?aO ?aB ?aS ?aL ?_
                           (case aP => exact k25_mkM _ _ _ (⟨t205, t208⟩ : S25) (Kd.R_mono (HO207.out) (fun k_ hk => ⟨⟨hk.1.1.1.1.1.1.1.1.1.2, ⟨hk.1.1.1.1.1.1.1.1.2, ⟨hk.1.1.1.1.1.1.1.2, ⟨hk.1.1.1.1.1.2, ⟨hk.1.1.1.1.2, ⟨hk.1.1.1.2, ⟨hk.1.1.2, ⟨hk.1.2, hk.2⟩⟩⟩⟩⟩⟩⟩⟩, hk.1.1.1.1.1.1.2⟩)) (Kd.R_mono (Kd.R_types (Kd.R_types (Kd.R_types (Kd.R_types (Kd.R_types (Kd.R_types (Kd.R_apart' (Kd.R_apart' (Kd.R_apart' (HO210.out) (Kd.R_typed HO_194000.out) (by decide)) (Kd.R_typed HO_196001.out) (by decide)) (Kd.R_typed HO_204002.out) (by decide)) BK185.out (by decide)) BK186.out (by decide)) BK193.out (by decide)) BK195.out (by decide)) BK202.out (by decide)) BK203.out (by decide)) (fun k_ hk => ⟨⟨hk.1.1.1.1.1.1.1.1.2, ⟨hk.1.1.1.1.1.1.1.1.1.2, ⟨hk.1.1.1.1.1.1.1.2, ⟨hk.1.1.1.1.1.2, ⟨hk.1.1.1.1.2, ⟨hk.1.1.1.2, ⟨hk.1.1.2, ⟨hk.1.2, hk.2⟩⟩⟩⟩⟩⟩⟩⟩, hk.1.1.1.1.1.1.2⟩)))
                           (case aB => exact HB.out)
                           (case aF => exact (fun k_ hk => ⟨Kd.fresh' (Kd.R_lt HO_194000.out) k_ hk, Kd.fresh' (Kd.R_lt HO_194001.out) k_ hk, Kd.fresh' (Kd.R_lt HO_196001.out) k_ hk, Kd.freshB (g := gb185) (o := .cells #[.slice (some ad194) l0_0.length c0_0, .slice A0_1 l0_1.length c0_1] 25 (0, 0)) BK185.out k_ hk, Kd.freshB (g := gb186) (o := .cells #[.slice none 0 0, .slice none 0 0] 25 (0, 0)) BK186.out k_ hk, Kd.freshB (g := gb193) (o := .cells #[u194000, .slice Ao10 y190.length co10] 25 (0, 0)) BK193.out k_ hk, Kd.freshB (g := gb195) (o := .cells #[.int .i64 ((rd_T59 l0_0 x4_1).f0), u196001] 59 (0, 0)) BK195.out k_ hk, Kd.freshB (g := gb202) (o := .cells #[.int .u64 ((rd_T70 ((rd_T59 l0_0 x4_1).f1) x6_2).f0), .string ((rd_T70 ((rd_T59 l0_0 x4_1).f1) x6_2).f1), .slice (some ad204) ((rd_T70 ((rd_T59 l0_0 x4_1).f1) x6_2).f2).length c201_2] 70 (0, 0)) BK202.out k_ hk, Kd.freshB (g := gb203) (o := .cells #[.int .u64 ((rd_T70 ((rd_T59 l0_0 x4_1).f1) x6_2).f0), .string ((rd_T70 ((rd_T59 l0_0 x4_1).f1) x6_2).f1), u204002] 70 (0, 0)) BK203.out k_ hk⟩))
                           (case aO => exact (by exact Kd.R_mono HO_204002.out (fun _ hk => ⟨hk.1.1.1, ⟨hk.1.1.2.1, ⟨hk.1.1.2.2.1, ⟨hk.1.1.2.2.2.1, ⟨hk.1.1.2.2.2.2.1, ⟨hk.1.1.2.2.2.2.2.1, ⟨hk.1.1.2.2.2.2.2.2.1, ⟨hk.1.1.2.2.2.2.2.2.2.1, hk.1.1.2.2.2.2.2.2.2.2⟩⟩⟩⟩⟩⟩⟩⟩)))
                           (case aS => exact (below_size HB.out))
                           (case aL => have := LMc49.out; omega)
                           intro v212 w58 ho hb hg hat
                           rw [← Ny211.out] at ho
                           have n0_ := Aside0.mk (Kd.R_after (ok := (fun k_ => some k_ ≠ (.slice Ao10 y190.length co10 : Value).ownBlock ∧ some k_ ≠ (u196001 : Value).ownBlock ∧ some k_ ≠ (.slice Ao59 t205.length co59 : Value).ownBlock ∧ some k_ ≠ (.slice Ao60 t208.length co60 : Value).ownBlock ∧ k_ ≠ gb185 ∧ k_ ≠ gb186 ∧ k_ ≠ gb193 ∧ k_ ≠ gb195 ∧ k_ ≠ gb202 ∧ k_ ≠ gb203)) (by exact Kd.R_mono HO_194000.out (fun _ hk => ⟨⟨hk.1.1.1, ⟨hk.1.1.2.1, ⟨hk.1.2, ⟨hk.2, ⟨hk.1.1.2.2.2.1, ⟨hk.1.1.2.2.2.2.1, ⟨hk.1.1.2.2.2.2.2.1, ⟨hk.1.1.2.2.2.2.2.2.1, ⟨hk.1.1.2.2.2.2.2.2.2.1, hk.1.1.2.2.2.2.2.2.2.2⟩⟩⟩⟩⟩⟩⟩⟩⟩, hk.1.1.2.2.1⟩)) hg hat)
                           have n1_ := Aside0.mk (Kd.R_over' HO_194001.out (Kd.R_typed HO_204002.out) (by decide) hg)
                           have n2_ := Aside0.mk (Kd.R_after (ok := (fun k_ => some k_ ≠ (u194000 : Value).ownBlock ∧ some k_ ≠ (.slice Ao10 y190.length co10 : Value).ownBlock ∧ some k_ ≠ (.slice Ao59 t205.length co59 : Value).ownBlock ∧ some k_ ≠ (.slice Ao60 t208.length co60 : Value).ownBlock ∧ k_ ≠ gb185 ∧ k_ ≠ gb186 ∧ k_ ≠ gb193 ∧ k_ ≠ gb195 ∧ k_ ≠ gb202 ∧ k_ ≠ gb203)) (by exact Kd.R_mono HO_196001.out (fun _ hk => ⟨⟨hk.1.1.1, ⟨hk.1.1.2.1, ⟨hk.1.2, ⟨hk.2, ⟨hk.1.1.2.2.2.1, ⟨hk.1.1.2.2.2.2.1, ⟨hk.1.1.2.2.2.2.2.1, ⟨hk.1.1.2.2.2.2.2.2.1, ⟨hk.1.1.2.2.2.2.2.2.2.1, hk.1.1.2.2.2.2.2.2.2.2⟩⟩⟩⟩⟩⟩⟩⟩⟩, hk.1.1.2.2.1⟩)) hg hat)
                           have n3_ := Aside0.mk (blk_grown (g := gb185) (o := .cells #[.slice (some ad194) l0_0.length c0_0, .slice A0_1 l0_1.length c0_1] 25 (0, 0)) BK185.out hg (Kd.R_away HO_204002.out (fun _ hk => hk.1.1.2.2.2.1)))
                           have n4_ := Aside0.mk (blk_grown (g := gb186) (o := .cells #[.slice none 0 0, .slice none 0 0] 25 (0, 0)) BK186.out hg (Kd.R_away HO_204002.out (fun _ hk => hk.1.1.2.2.2.2.1)))
                           have n5_ := Aside0.mk (blk_grown (g := gb193) (o := .cells #[u194000, .slice Ao10 y190.length co10] 25 (0, 0)) BK193.out hg (Kd.R_away HO_204002.out (fun _ hk => hk.1.1.2.2.2.2.2.1)))
                           have n6_ := Aside0.mk (blk_grown (g := gb195) (o := .cells #[.int .i64 ((rd_T59 l0_0 x4_1).f0), u196001] 59 (0, 0)) BK195.out hg (Kd.R_ne HO_204002.out BK195.out (by decide)))
                           have n7_ := Aside0.mk (blk_grown (g := gb202) (o := .cells #[.int .u64 ((rd_T70 ((rd_T59 l0_0 x4_1).f1) x6_2).f0), .string ((rd_T70 ((rd_T59 l0_0 x4_1).f1) x6_2).f1), .slice (some ad204) ((rd_T70 ((rd_T59 l0_0 x4_1).f1) x6_2).f2).length c201_2] 70 (0, 0)) BK202.out hg (Kd.R_ne HO_204002.out BK202.out (by decide)))
                           have n8_ := Aside0.mk (blk_grown (g := gb203) (o := .cells #[.int .u64 ((rd_T70 ((rd_T59 l0_0 x4_1).f1) x6_2).f0), .string ((rd_T70 ((rd_T59 l0_0 x4_1).f1) x6_2).f1), u204002] 70 (0, 0)) BK203.out hg (Kd.R_ne HO_204002.out BK203.out (by decide)))
                           have n9_ := Aside0.mk (hb)
                           have n10_ := Aside0.mk (ho)
                           clear HO_194000
                           clear HO_194001
                           clear HO_196001
                           clear BK185
                           clear BK186
                           clear BK193
                           clear BK195
                           clear BK202
                           clear BK203
                           clear HB
                           clear HO_204002
                           clear HO207
                           clear HO210
                           have HO_194000 := n0_
                           have HO_194001 := n1_
                           have HO_196001 := n2_
                           have BK185 := n3_
                           have BK186 := n4_
                           have BK193 := n5_
                           have BK195 := n6_
                           have BK202 := n7_
                           have BK203 := n8_
                           have HB := n9_
                           have HO213 := n10_
                           clear n0_ n1_ n2_ n3_ n4_ n5_ n6_ n7_ n8_ n9_ n10_
                           clear ho hb hg hat
                           obtain ⟨Ao61, co61, eo61⟩ := Kd.R_slice HO213.out
                           (first | subst eo61 )
                           refine hK.out _ _ ⟨(blk_cell BK203.out 0).trans rfl, (blk_cell BK203.out 1).trans rfl, (blk_cell BK203.out 2).trans rfl, (blk_cell BK202.out 0).trans rfl, (blk_cell BK202.out 1).trans rfl, (blk_cell BK202.out 2).trans rfl, ((HB.out.cell (World.block_lt_of_cell? w _ hw204_0)).trans hw204_0), ((HB.out.cell (World.block_lt_of_cell? w _ hw204_1)).trans hw204_1)⟩ (fun hHeld => ?_)
                           clear hK K
                           refine norm_ (a' := ?_) ?_ ?_
                           rotate_left
                           · show Act.put _ (some 70) _ = _
                             simp only [zs]
                             rfl
                           refine zp 10 (zb 12 2047) ?_ rfl rfl HT_ (by kernel_rfl) (fun _ _ _ h => h) rfl ?_ ?_ ?_ ?_; rotate_left; (intro w'; go_simp; with_reducible rfl); rotate_left; (simp only [zs]; rfl)
                           refine last_ (i := 11) (N := none) #[true, true, true, true, true, true, true, true, true, true, true, true] rfl rfl (one_of HT_.out (by kernel_rfl)) (by decide) (fun K hK => ?_)
                           have hs62 : w58.cell? ⟨gb203, 2, none⟩ = some (u204002) := (blk_cell BK203.out 2).trans rfl
                           have hfs62 := blk_frozen BK203.out 2
                           have hns62_0 := NB185_203.out
                           have hns62_1 := NB186_203.out
                           have hns62_2 := NB193_203.out
                           have hns62_3 := NB195_203.out
                           have hns62_4 := NB202_203.out
                           have hms62_0 := NB203_185.out
                           have hms62_1 := NB203_186.out
                           have hms62_2 := NB203_193.out
                           have hms62_3 := NB203_195.out
                           have hms62_4 := NB203_202.out
                           refine skip_ (w1 := ?_) (by rfl) rfl ?_ ?_
                           rotate_left
                           · go_simp
                             rfl
                           refine hK.out _ _ ?_
                           clear hK K
                           refine done_ (done_of HT_.out (by kernel_rfl)) ?_
                           try go_wp2
                           go_roundg k3
                           case measure => have := HK1.out; have := HK2.out; have := HK3.out; omega
                           case rel => exact ⟨(wrap64 (x9_3 + 1)), (y211), (.slice Ao61 y211.length co61), (by first | rfl ), H', ⟨by have := HK1.out; have := HK2.out; have := HK3.out; omega⟩, ⟨by exact Kd.R_mono (Kd.R_far (p := ⟨gb203, 2, none⟩) (Kd.R_mono HO_194000.out (fun k_ hk => (⟨hk, hk.1.2.2.2.2.2.2.2.2.2⟩ : _ ∧ k_ ≠ gb203))) (fun _ hk => hk.2) (.slice Ao61 y211.length co61)) (fun _ hk => ⟨hk.1.1.1, ⟨hk.1.1.2.1, ⟨hk.1.2, ⟨hk.1.1.2.2.2.2.1, ⟨hk.1.1.2.2.2.2.2.1, ⟨hk.1.1.2.2.2.2.2.2.1, ⟨hk.1.1.2.2.2.2.2.2.2.1, ⟨hk.1.1.2.2.2.2.2.2.2.2.1, hk.1.1.2.2.2.2.2.2.2.2.2⟩⟩⟩⟩⟩⟩⟩⟩)⟩, ⟨by exact Kd.R_mono (Kd.R_far (p := ⟨gb203, 2, none⟩) (Kd.R_types HO_194001.out BK203.out (by decide)) (fun _ hk => hk.2) (.slice Ao61 y211.length co61)) (fun _ hk => trivial)⟩, ⟨by exact Kd.R_mono (Kd.R_far (p := ⟨gb203, 2, none⟩) (Kd.R_mono HO_196001.out (fun k_ hk => (⟨hk, hk.1.2.2.2.2.2.2.2.2.2⟩ : _ ∧ k_ ≠ gb203))) (fun _ hk => hk.2) (.slice Ao61 y211.length co61)) (fun _ hk => ⟨hk.1.1.1, ⟨hk.1.1.2.1, ⟨hk.1.2, ⟨hk.1.1.2.2.2.2.1, ⟨hk.1.1.2.2.2.2.2.1, ⟨hk.1.1.2.2.2.2.2.2.1, ⟨hk.1.1.2.2.2.2.2.2.2.1, ⟨hk.1.1.2.2.2.2.2.2.2.2.1, hk.1.1.2.2.2.2.2.2.2.2.2⟩⟩⟩⟩⟩⟩⟩⟩)⟩, ⟨by exact Kd.R_mono (Kd.R_far (p := ⟨gb203, 2, none⟩) (Kd.R_mono HO213.out (fun k_ hk => (⟨hk, hk.2.2.2.2.2.2.2.2⟩ : _ ∧ k_ ≠ gb203))) (fun _ hk => hk.2) (.slice Ao61 y211.length co61)) (fun _ hk => ⟨hk.1.1, ⟨hk.1.2.1, ⟨hk.1.2.2.1, ⟨hk.1.2.2.2.1, ⟨hk.1.2.2.2.2.1, ⟨hk.1.2.2.2.2.2.1, ⟨hk.1.2.2.2.2.2.2.1, ⟨hk.1.2.2.2.2.2.2.2.1, hk.1.2.2.2.2.2.2.2.2⟩⟩⟩⟩⟩⟩⟩⟩)⟩, ⟨by refine blk_far ?_ NB185_203.out _; exact BK185.out⟩, ⟨by refine blk_far ?_ NB186_203.out _; exact BK186.out⟩, ⟨by refine blk_far ?_ NB193_203.out _; exact BK193.out⟩, ⟨by refine blk_far ?_ NB195_203.out _; exact BK195.out⟩, ⟨by refine blk_far ?_ NB202_203.out _; exact BK202.out⟩, ⟨by refine blk_put (cs := #[.int .u64 ((rd_T70 ((rd_T59 l0_0 x4_1).f1) x6_2).f0), .string ((rd_T70 ((rd_T59 l0_0 x4_1).f1) x6_2).f1), u204002]) ?_ 2 _ rfl; exact BK203.out⟩, ⟨by repeat (first | (with_reducible first | exact HB.out | refine below_set ?_ GE203.out) )⟩⟩
                         · rw [if_neg c49] at H
                           exact absurd H (by simp)
                       · rw [if_neg c47] at H
                         exact absurd H (by simp)
                     · rw [if_neg c46] at H
                       have c46b0 : decide (x9_3 < (((rd_T70 ((rd_T59 l0_0 x4_1).f1) x6_2).f2).length : Int)) = false := decide_eq_false c46
                       clear c46
                       by_cases c63 : x196001_2.length < 2932031007402
                       · rw [if_pos c63] at H
                         have LMc63 := Aside0.mk c63
                         clear c63
                         obtain ⟨y214, hy214⟩ : ∃ y_ : List (S70), y_ = (x196001_2 ++ [(⟨((rd_T70 ((rd_T59 l0_0 x4_1).f1) x6_2).f0), ((rd_T70 ((rd_T59 l0_0 x4_1).f1) x6_2).f1), x204002_3⟩ : S70)]) := ⟨_, rfl⟩
                         replace H : (ecdysisref19_Copy.l1 k3 x4_1 (wrap64 (x6_2 + 1)) l0_0 l0_1 x194000_1 y190 ((rd_T59 l0_0 x4_1).f0) y214) = some (r1, r2) := by first | (rw [hy214]; with_reducible exact H) 
                         have Ny214 := Aside0.mk hy214
                         clear hy214
                         have H' := Aside0.mk H
                         clear H
                         have hnb64 := NB202_185.out
                         have hnc64 := NB185_202.out
                         have hnb65 := NB202_186.out
                         have hnc65 := NB186_202.out
                         have hnb66 := NB202_193.out
                         have hnc66 := NB193_202.out
                         have hnb67 := NB202_195.out
                         have hnc67 := NB195_202.out
                         have hnb68 := NB202_203.out
                         have hnc68 := NB203_202.out
                         have hcz69_0 : wr.cell? ⟨gb202, 0, none⟩ = some (.int .u64 ((rd_T70 ((rd_T59 l0_0 x4_1).f1) x6_2).f0)) := (blk_cell BK202.out 0).trans rfl
                         have hcz69_1 : wr.cell? ⟨gb202, 1, none⟩ = some (.string ((rd_T70 ((rd_T59 l0_0 x4_1).f1) x6_2).f1)) := (blk_cell BK202.out 1).trans rfl
                         have hcz69_2 : wr.cell? ⟨gb202, 2, none⟩ = some (.slice A201_2 ((rd_T70 ((rd_T59 l0_0 x4_1).f1) x6_2).f2).length c201_2) := (blk_cell BK202.out 2).trans rfl
                         have hfz69_0 := blk_frozen BK202.out 0
                         have hfz69_1 := blk_frozen BK202.out 1
                         have hfz69_2 := blk_frozen BK202.out 2
                         have hnb70 := NB195_185.out
                         have hnc70 := NB185_195.out
                         have hnb71 := NB195_186.out
                         have hnc71 := NB186_195.out
                         have hnb72 := NB195_193.out
                         have hnc72 := NB193_195.out
                         have hnb73 := NB195_203.out
                         have hnc73 := NB203_195.out
                         have hcz74_0 : wr.cell? ⟨gb195, 0, none⟩ = some (.int .i64 ((rd_T59 l0_0 x4_1).f0)) := (blk_cell BK195.out 0).trans rfl
                         have hcz74_1 : wr.cell? ⟨gb195, 1, none⟩ = some (u196001) := (blk_cell BK195.out 1).trans rfl
                         have hfz74_0 := blk_frozen BK195.out 0
                         have hfz74_1 := blk_frozen BK195.out 1
                         have hnb75 := NB203_185.out
                         have hnc75 := NB185_203.out
                         have hnb76 := NB203_186.out
                         have hnc76 := NB186_203.out
                         have hnb77 := NB203_193.out
                         have hnc77 := NB193_203.out
                         have hcz78_0 : wr.cell? ⟨gb203, 0, none⟩ = some (.int .u64 ((rd_T70 ((rd_T59 l0_0 x4_1).f1) x6_2).f0)) := (blk_cell BK203.out 0).trans rfl
                         have hcz78_1 : wr.cell? ⟨gb203, 1, none⟩ = some (.string ((rd_T70 ((rd_T59 l0_0 x4_1).f1) x6_2).f1)) := (blk_cell BK203.out 1).trans rfl
                         have hcz78_2 : wr.cell? ⟨gb203, 2, none⟩ = some (u204002) := (blk_cell BK203.out 2).trans rfl
                         have hfz78_0 := blk_frozen BK203.out 0
                         have hfz78_1 := blk_frozen BK203.out 1
                         have hfz78_2 := blk_frozen BK203.out 2
                         obtain ⟨Ao80, co80, eo80⟩ := Kd.R_slice HO_204002.out
                         subst eo80
                         go_wp2_with (first | ((with_reducible refine gate_builtin (b := .append) (xs := #[.tmp 73, .tmp 75]) rfl ?_); at_builtin; refine Kd.R_append k70 (w0 := w) w.heap.size rfl (.tmp 73) (.tmp 75) 57 70 (.agg #[(.int .u64 0), (.string ⟨#[]⟩), (.slice none 0 0)]) 48 rfl Try.underlying57 info70 rfl (by decide) (by omega) u196001 x196001_2 (⟨((rd_T70 ((rd_T59 l0_0 x4_1).f1) x6_2).f0), ((rd_T70 ((rd_T59 l0_0 x4_1).f1) x6_2).f1), x204002_3⟩ : S70) [.int .u64 ((rd_T70 ((rd_T59 l0_0 x4_1).f1) x6_2).f0), .string ((rd_T70 ((rd_T59 l0_0 x4_1).f1) x6_2).f1), .slice Ao80 x204002_3.length co80] (fun k_ => some k_ ≠ (u194000 : Value).ownBlock ∧ some k_ ≠ (.slice Ao10 y190.length co10 : Value).ownBlock ∧ k_ ≠ gb185 ∧ k_ ≠ gb186 ∧ k_ ≠ gb193 ∧ k_ ≠ gb195 ∧ k_ ≠ gb202 ∧ k_ ≠ gb203) (fun k_ => ((fun k_ => some k_ ≠ (u194000 : Value).ownBlock ∧ some k_ ≠ (.slice Ao10 y190.length co10 : Value).ownBlock ∧ k_ ≠ gb185 ∧ k_ ≠ gb186 ∧ k_ ≠ gb193 ∧ k_ ≠ gb195 ∧ k_ ≠ gb202 ∧ k_ ≠ gb203)) k_ ∧ some k_ ≠ (u196001 : Value).ownBlock) rfl rfl ?aP (fun _ hk => hk) ?aF ?aO ?aB ?aS ?aL ?_; (case aP => exact k70_mkM _ _ _ (⟨((rd_T70 ((rd_T59 l0_0 x4_1).f1) x6_2).f0), ((rd_T70 ((rd_T59 l0_0 x4_1).f1) x6_2).f1), x204002_3⟩ : S70) (Kd.R_mono (HO_204002.out) (fun k_ hk => ⟨⟨hk.1, ⟨hk.2.1, ⟨hk.2.2.2.1, ⟨hk.2.2.2.2.1, ⟨hk.2.2.2.2.2.1, ⟨hk.2.2.2.2.2.2.1, ⟨hk.2.2.2.2.2.2.2.1, hk.2.2.2.2.2.2.2.2⟩⟩⟩⟩⟩⟩⟩, hk.2.2.1⟩))); (case aB => exact HB.out); (case aF => exact (fun k_ hk => ⟨Kd.fresh' (Kd.R_lt HO_194000.out) k_ hk, Kd.fresh' (Kd.R_lt HO_194001.out) k_ hk, Kd.freshB (g := gb185) (o := .cells #[.slice (some ad194) l0_0.length c0_0, .slice A0_1 l0_1.length c0_1] 25 (0, 0)) BK185.out k_ hk, Kd.freshB (g := gb186) (o := .cells #[.slice none 0 0, .slice none 0 0] 25 (0, 0)) BK186.out k_ hk, Kd.freshB (g := gb193) (o := .cells #[u194000, .slice Ao10 y190.length co10] 25 (0, 0)) BK193.out k_ hk, Kd.freshB (g := gb195) (o := .cells #[.int .i64 ((rd_T59 l0_0 x4_1).f0), u196001] 59 (0, 0)) BK195.out k_ hk, Kd.freshB (g := gb202) (o := .cells #[.int .u64 ((rd_T70 ((rd_T59 l0_0 x4_1).f1) x6_2).f0), .string ((rd_T70 ((rd_T59 l0_0 x4_1).f1) x6_2).f1), .slice A201_2 ((rd_T70 ((rd_T59 l0_0 x4_1).f1) x6_2).f2).length c201_2] 70 (0, 0)) BK202.out k_ hk, Kd.freshB (g := gb203) (o := .cells #[.int .u64 ((rd_T70 ((rd_T59 l0_0 x4_1).f1) x6_2).f0), .string ((rd_T70 ((rd_T59 l0_0 x4_1).f1) x6_2).f1), .slice Ao80 x204002_3.length co80] 70 (0, 0)) BK203.out k_ hk⟩)); (case aO => exact (by exact Kd.R_mono HO_196001.out (fun _ hk => ⟨hk.1, ⟨hk.2.1, ⟨hk.2.2.2.1, ⟨hk.2.2.2.2.1, ⟨hk.2.2.2.2.2.1, ⟨hk.2.2.2.2.2.2.1, ⟨hk.2.2.2.2.2.2.2.1, hk.2.2.2.2.2.2.2.2⟩⟩⟩⟩⟩⟩⟩))); (case aS => exact (below_size HB.out)); (case aL => have := LMc63.out; omega); intro v215 w79 ho hb hg hat; rw [← Ny214.out] at ho; have n0_ := Aside0.mk (Kd.R_after (ok := (fun k_ => some k_ ≠ (.slice Ao10 y190.length co10 : Value).ownBlock ∧ some k_ ≠ (.slice Ao80 x204002_3.length co80 : Value).ownBlock ∧ k_ ≠ gb185 ∧ k_ ≠ gb186 ∧ k_ ≠ gb193 ∧ k_ ≠ gb195 ∧ k_ ≠ gb202 ∧ k_ ≠ gb203)) (by exact Kd.R_mono HO_194000.out (fun _ hk => ⟨⟨hk.1, ⟨hk.2.2.1, ⟨hk.2.2.2.1, ⟨hk.2.2.2.2.1, ⟨hk.2.2.2.2.2.1, ⟨hk.2.2.2.2.2.2.1, ⟨hk.2.2.2.2.2.2.2.1, hk.2.2.2.2.2.2.2.2⟩⟩⟩⟩⟩⟩⟩, hk.2.1⟩)) hg hat); have n1_ := Aside0.mk (Kd.R_over' HO_194001.out (Kd.R_typed HO_196001.out) (by decide) hg); have n2_ := Aside0.mk (blk_grown (g := gb185) (o := .cells #[.slice (some ad194) l0_0.length c0_0, .slice A0_1 l0_1.length c0_1] 25 (0, 0)) BK185.out hg (Kd.R_ne HO_196001.out BK185.out (by decide))); have n3_ := Aside0.mk (blk_grown (g := gb186) (o := .cells #[.slice none 0 0, .slice none 0 0] 25 (0, 0)) BK186.out hg (Kd.R_ne HO_196001.out BK186.out (by decide))); have n4_ := Aside0.mk (blk_grown (g := gb193) (o := .cells #[u194000, .slice Ao10 y190.length co10] 25 (0, 0)) BK193.out hg (Kd.R_ne HO_196001.out BK193.out (by decide))); have n5_ := Aside0.mk (blk_grown (g := gb195) (o := .cells #[.int .i64 ((rd_T59 l0_0 x4_1).f0), u196001] 59 (0, 0)) BK195.out hg (Kd.R_ne HO_196001.out BK195.out (by decide))); have n6_ := Aside0.mk (blk_grown (g := gb202) (o := .cells #[.int .u64 ((rd_T70 ((rd_T59 l0_0 x4_1).f1) x6_2).f0), .string ((rd_T70 ((rd_T59 l0_0 x4_1).f1) x6_2).f1), .slice A201_2 ((rd_T70 ((rd_T59 l0_0 x4_1).f1) x6_2).f2).length c201_2] 70 (0, 0)) BK202.out hg (Kd.R_away HO_196001.out (fun _ hk => hk.2.2.2.2.2.2.2.1))); have n7_ := Aside0.mk (blk_grown (g := gb203) (o := .cells #[.int .u64 ((rd_T70 ((rd_T59 l0_0 x4_1).f1) x6_2).f0), .string ((rd_T70 ((rd_T59 l0_0 x4_1).f1) x6_2).f1), .slice Ao80 x204002_3.length co80] 70 (0, 0)) BK203.out hg (Kd.R_away HO_196001.out (fun _ hk => hk.2.2.2.2.2.2.2.2))); have n8_ := Aside0.mk (hb); have n9_ := Aside0.mk (ho); clear HO_194000; clear HO_194001; clear BK185; clear BK186; clear BK193; clear BK195; clear BK202; clear BK203; clear HB; clear HO_196001; clear HO_204002; have HO_194000 := n0_; have HO_194001 := n1_; have BK185 := n2_; have BK186 := n3_; have BK193 := n4_; have BK195 := n5_; have BK202 := n6_; have BK203 := n7_; have HB := n8_; have HO216 := n9_; clear n0_ n1_ n2_ n3_ n4_ n5_ n6_ n7_ n8_ n9_; clear ho hb hg hat; obtain ⟨Ao81, co81, eo81⟩ := Kd.R_slice HO216.out; subst eo81; have hcz82_0 : w79.cell? ⟨gb195, 0, none⟩ = some (.int .i64 ((rd_T59 l0_0 x4_1).f0)) := (blk_cell BK195.out 0).trans rfl; have hcz82_1 : w79.cell? ⟨gb195, 1, none⟩ = some (u196001) := (blk_cell BK195.out 1).trans rfl; have hfz82_0 := blk_frozen BK195.out 0; have hfz82_1 := blk_frozen BK195.out 1))
                         go_roundg k3
                         case measure => have := HK1.out; have := HK2.out; have := HK3.out; omega
                         case rel => exact ⟨(wrap64 (x6_2 + 1)), (y214), (.slice Ao81 y214.length co81), (by first | rfl ), H', ⟨by have := HK1.out; have := HK2.out; have := HK3.out; omega⟩, ⟨by exact Kd.R_mono (Kd.R_far (p := ⟨gb195, 1, none⟩) (Kd.R_mono HO_194000.out (fun k_ hk => (⟨hk, hk.1.2.2.2.2.2.1⟩ : _ ∧ k_ ≠ gb195))) (fun _ hk => hk.2) (.slice Ao81 y214.length co81)) (fun _ hk => ⟨hk.1.1.1, ⟨hk.1.2, ⟨hk.1.1.2.2.1, ⟨hk.1.1.2.2.2.1, ⟨hk.1.1.2.2.2.2.1, hk.1.1.2.2.2.2.2.1⟩⟩⟩⟩⟩)⟩, ⟨by exact Kd.R_mono (Kd.R_far (p := ⟨gb195, 1, none⟩) (Kd.R_types HO_194001.out BK195.out (by decide)) (fun _ hk => hk.2) (.slice Ao81 y214.length co81)) (fun _ hk => trivial)⟩, ⟨by exact Kd.R_mono (Kd.R_far (p := ⟨gb195, 1, none⟩) (Kd.R_mono HO216.out (fun k_ hk => (⟨hk, hk.2.2.2.2.2.1⟩ : _ ∧ k_ ≠ gb195))) (fun _ hk => hk.2) (.slice Ao81 y214.length co81)) (fun _ hk => ⟨hk.1.1, ⟨hk.1.2.1, ⟨hk.1.2.2.1, ⟨hk.1.2.2.2.1, ⟨hk.1.2.2.2.2.1, hk.1.2.2.2.2.2.1⟩⟩⟩⟩⟩)⟩, ⟨by refine blk_far ?_ NB185_195.out _; exact BK185.out⟩, ⟨by refine blk_far ?_ NB186_195.out _; exact BK186.out⟩, ⟨by refine blk_far ?_ NB193_195.out _; exact BK193.out⟩, ⟨by refine blk_put (cs := #[.int .i64 ((rd_T59 l0_0 x4_1).f0), u196001]) ?_ 1 _ rfl; exact BK195.out⟩, ⟨by repeat (first | (with_reducible first | exact HB.out | refine below_set ?_ GE195.out ) )⟩⟩
                       · rw [if_neg c63] at H
                         exact absurd H (by simp)
                 · rw [if_neg c28] at H
                   exact absurd H (by simp)
               · rw [if_neg c27] at H
                 have c27b0 : decide (x6_2 < (((rd_T59 l0_0 x4_1).f1).length : Int)) = false := decide_eq_false c27
                 clear c27
                 by_cases c83 : x194000_1.length < 4398046511104
                 · rw [if_pos c83] at H
                   have LMc83 := Aside0.mk c83
                   clear c83
                   obtain ⟨y197, hy197⟩ : ∃ y_ : List (S59), y_ = (x194000_1 ++ [(⟨((rd_T59 l0_0 x4_1).f0), x196001_2⟩ : S59)]) := ⟨_, rfl⟩
                   replace H : (ecdysisref19_Copy.l0 k2 (wrap64 (x4_1 + 1)) l0_0 l0_1 y197 y190) = some (r1, r2) := by first | (rw [hy197]; with_reducible exact H) 
                   have Ny197 := Aside0.mk hy197
                   clear hy197
                   have H' := Aside0.mk H
                   clear H
                   have hnb84 := NB185_186.out
                   have hnc84 := NB186_185.out
                   have hnb85 := NB185_193.out
                   have hnc85 := NB193_185.out
                   have hnb86 := NB185_195.out
                   have hnc86 := NB195_185.out
                   have hcz87_0 : wr.cell? ⟨gb185, 0, none⟩ = some (.slice (some ad194) l0_0.length c0_0) := (blk_cell BK185.out 0).trans rfl
                   have hcz87_1 : wr.cell? ⟨gb185, 1, none⟩ = some (.slice A0_1 l0_1.length c0_1) := (blk_cell BK185.out 1).trans rfl
                   have hfz87_0 := blk_frozen BK185.out 0
                   have hfz87_1 := blk_frozen BK185.out 1
                   have p196 : 0 ≤ (x4_1 : Int) := of_decide_eq_true (by first | (with_reducible assumption) )
                   have q196 : x4_1 < (l0_0.length : Int) := of_decide_eq_true (by first | (with_reducible assumption) )
                   obtain ⟨ad196, A196_1, c196_1, e196, hx196_0, hx196_1, hl196_1, hi196_1⟩ := at_T59 HR0_0.out x4_1 p196 q196
                   obtain rfl : ad194 = ad196 := (by injection e196)
                   replace hx196_0 := (HB.out.cell (World.block_lt_of_cell? w _ hx196_0)).trans hx196_0
                   replace hx196_1 := (HB.out.cell (World.block_lt_of_cell? w _ hx196_1)).trans hx196_1
                   have HR196_1 := Aside0.mk hi196_1
                   have HC196_1 := Aside0.mk hl196_1
                   clear hi196_1 hl196_1
                   replace p196 := eq_true p196
                   replace q196 := eq_true q196
                   have hnb88 := NB193_186.out
                   have hnc88 := NB186_193.out
                   have hnb89 := NB193_195.out
                   have hnc89 := NB195_193.out
                   have hcz90_0 : wr.cell? ⟨gb193, 0, none⟩ = some (u194000) := (blk_cell BK193.out 0).trans rfl
                   have hcz90_1 : wr.cell? ⟨gb193, 1, none⟩ = some (.slice Ao10 y190.length co10) := (blk_cell BK193.out 1).trans rfl
                   have hfz90_0 := blk_frozen BK193.out 0
                   have hfz90_1 := blk_frozen BK193.out 1
                   have hnb91 := NB195_186.out
                   have hnc91 := NB186_195.out
                   have hcz92_0 : wr.cell? ⟨gb195, 0, none⟩ = some (.int .i64 ((rd_T59 l0_0 x4_1).f0)) := (blk_cell BK195.out 0).trans rfl
                   have hcz92_1 : wr.cell? ⟨gb195, 1, none⟩ = some (u196001) := (blk_cell BK195.out 1).trans rfl
                   have hfz92_0 := blk_frozen BK195.out 0
                   have hfz92_1 := blk_frozen BK195.out 1
                   obtain ⟨Ao94, co94, eo94⟩ := Kd.R_slice HO_196001.out
                   subst eo94
                   go_wp2_with (first | ((with_reducible refine gate_builtin (b := .append) (xs := #[.tmp 79, .tmp 81]) rfl ?_); at_builtin; refine Kd.R_append k59 (w0 := w) w.heap.size rfl (.tmp 79) (.tmp 81) 22 59 (.agg #[(.int .i64 0), (.slice none 0 0)]) 32 rfl Try.underlying22 info59 rfl (by decide) (by omega) u194000 x194000_1 (⟨((rd_T59 l0_0 x4_1).f0), x196001_2⟩ : S59) [.int .i64 ((rd_T59 l0_0 x4_1).f0), .slice Ao94 x196001_2.length co94] (fun k_ => some k_ ≠ (.slice Ao10 y190.length co10 : Value).ownBlock ∧ k_ ≠ gb185 ∧ k_ ≠ gb186 ∧ k_ ≠ gb193 ∧ k_ ≠ gb195) (fun k_ => ((fun k_ => some k_ ≠ (.slice Ao10 y190.length co10 : Value).ownBlock ∧ k_ ≠ gb185 ∧ k_ ≠ gb186 ∧ k_ ≠ gb193 ∧ k_ ≠ gb195)) k_ ∧ some k_ ≠ (u194000 : Value).ownBlock) rfl rfl ?aP (fun _ hk => hk) ?aF ?aO ?aB ?aS ?aL ?_; (case aP => exact k59_mkM _ _ _ (⟨((rd_T59 l0_0 x4_1).f0), x196001_2⟩ : S59) (Kd.R_mono (HO_196001.out) (fun k_ hk => ⟨⟨hk.2.1, ⟨hk.2.2.1, ⟨hk.2.2.2.1, ⟨hk.2.2.2.2.1, hk.2.2.2.2.2⟩⟩⟩⟩, hk.1⟩))); (case aB => exact HB.out); (case aF => exact (fun k_ hk => ⟨Kd.fresh' (Kd.R_lt HO_194001.out) k_ hk, Kd.freshB (g := gb185) (o := .cells #[.slice (some ad194) l0_0.length c0_0, .slice A0_1 l0_1.length c0_1] 25 (0, 0)) BK185.out k_ hk, Kd.freshB (g := gb186) (o := .cells #[.slice none 0 0, .slice none 0 0] 25 (0, 0)) BK186.out k_ hk, Kd.freshB (g := gb193) (o := .cells #[u194000, .slice Ao10 y190.length co10] 25 (0, 0)) BK193.out k_ hk, Kd.freshB (g := gb195) (o := .cells #[.int .i64 ((rd_T59 l0_0 x4_1).f0), .slice Ao94 x196001_2.length co94] 59 (0, 0)) BK195.out k_ hk⟩)); (case aO => exact (by exact Kd.R_mono HO_194000.out (fun _ hk => ⟨hk.1, ⟨hk.2.2.1, ⟨hk.2.2.2.1, ⟨hk.2.2.2.2.1, hk.2.2.2.2.2⟩⟩⟩⟩))); (case aS => exact (below_size HB.out)); (case aL => have := LMc83.out; omega); intro v198 w93 ho hb hg hat; rw [← Ny197.out] at ho; have n0_ := Aside0.mk (Kd.R_over' HO_194001.out (Kd.R_typed HO_194000.out) (by decide) hg); have n1_ := Aside0.mk (blk_grown (g := gb185) (o := .cells #[.slice (some ad194) l0_0.length c0_0, .slice A0_1 l0_1.length c0_1] 25 (0, 0)) BK185.out hg (Kd.R_ne HO_194000.out BK185.out (by decide))); have n2_ := Aside0.mk (blk_grown (g := gb186) (o := .cells #[.slice none 0 0, .slice none 0 0] 25 (0, 0)) BK186.out hg (Kd.R_ne HO_194000.out BK186.out (by decide))); have n3_ := Aside0.mk (blk_grown (g := gb193) (o := .cells #[u194000, .slice Ao10 y190.length co10] 25 (0, 0)) BK193.out hg (Kd.R_ne HO_194000.out BK193.out (by decide))); have n4_ := Aside0.mk (blk_grown (g := gb195) (o := .cells #[.int .i64 ((rd_T59 l0_0 x4_1).f0), .slice Ao94 x196001_2.length co94] 59 (0, 0)) BK195.out hg (Kd.R_away HO_194000.out (fun _ hk => hk.2.2.2.2.2))); have n5_ := Aside0.mk (hb); have n6_ := Aside0.mk (ho); clear HO_194001; clear BK185; clear BK186; clear BK193; clear BK195; clear HB; clear HO_194000; clear HO_196001; have HO_194001 := n0_; have BK185 := n1_; have BK186 := n2_; have BK193 := n3_; have BK195 := n4_; have HB := n5_; have HO199 := n6_; clear n0_ n1_ n2_ n3_ n4_ n5_ n6_; clear ho hb hg hat; obtain ⟨Ao95, co95, eo95⟩ := Kd.R_slice HO199.out; subst eo95; have hcz96_0 : w93.cell? ⟨gb193, 0, none⟩ = some (u194000) := (blk_cell BK193.out 0).trans rfl; have hcz96_1 : w93.cell? ⟨gb193, 1, none⟩ = some (.slice Ao10 y190.length co10) := (blk_cell BK193.out 1).trans rfl; have hfz96_0 := blk_frozen BK193.out 0; have hfz96_1 := blk_frozen BK193.out 1))
                   go_roundg k2
                   case measure => have := HK1.out; have := HK2.out; omega
                   case rel => exact ⟨(wrap64 (x4_1 + 1)), (y197), (.slice Ao95 y197.length co95), (by first | rfl ), H', ⟨by have := HK1.out; have := HK2.out; omega⟩, ⟨by exact Kd.R_mono (Kd.R_far (p := ⟨gb193, 0, none⟩) (Kd.R_mono HO199.out (fun k_ hk => (⟨hk, hk.2.2.2.1⟩ : _ ∧ k_ ≠ gb193))) (fun _ hk => hk.2) (.slice Ao95 y197.length co95)) (fun _ hk => ⟨hk.1.1, ⟨hk.1.2.1, ⟨hk.1.2.2.1, hk.1.2.2.2.1⟩⟩⟩)⟩, ⟨by exact Kd.R_mono (Kd.R_far (p := ⟨gb193, 0, none⟩) (Kd.R_types HO_194001.out BK193.out (by decide)) (fun _ hk => hk.2) (.slice Ao95 y197.length co95)) (fun _ hk => trivial)⟩, ⟨by refine blk_far ?_ NB185_193.out _; exact BK185.out⟩, ⟨by refine blk_far ?_ NB186_193.out _; exact BK186.out⟩, ⟨by refine blk_put (cs := #[u194000, .slice Ao10 y190.length co10]) ?_ 0 _ rfl; exact BK193.out⟩, ⟨by repeat (first | (with_reducible first | exact HB.out | refine below_set ?_ GE193.out ) )⟩⟩
                 · rw [if_neg c83] at H
                   exact absurd H (by simp)
             · rw [if_neg c26] at H
               exact absurd H (by simp)
           · rw [if_neg c25] at H
             exact absurd H (by simp)
       · rw [if_neg c16] at H
         exact absurd H (by simp)
     · rw [if_neg c15] at H
       have c15b0 : decide (x4_1 < (l0_0.length : Int)) = false := decide_eq_false c15
       clear c15
       simp only [Option.some.injEq, Prod.mk.injEq] at H
       obtain ⟨rfl, rfl⟩ := H
       have hnb97 := NB185_186.out
       have hnc97 := NB186_185.out
       have hnb98 := NB185_193.out
       have hnc98 := NB193_185.out
       have hcz99_0 : wr.cell? ⟨gb185, 0, none⟩ = some (.slice A0_0 l0_0.length c0_0) := (blk_cell BK185.out 0).trans rfl
       have hcz99_1 : wr.cell? ⟨gb185, 1, none⟩ = some (.slice A0_1 l0_1.length c0_1) := (blk_cell BK185.out 1).trans rfl
       have hfz99_0 := blk_frozen BK185.out 0
       have hfz99_1 := blk_frozen BK185.out 1
       have hnb100 := NB193_186.out
       have hnc100 := NB186_193.out
       have hcz101_0 : wr.cell? ⟨gb193, 0, none⟩ = some (u194000) := (blk_cell BK193.out 0).trans rfl
       have hcz101_1 : wr.cell? ⟨gb193, 1, none⟩ = some (.slice Ao10 y190.length co10) := (blk_cell BK193.out 1).trans rfl
       have hfz101_0 := blk_frozen BK193.out 0
       have hfz101_1 := blk_frozen BK193.out 1
       obtain ⟨Ao102, co102, eo102⟩ := Kd.R_slice HO_194000.out
       subst eo102
       have hcz103_0 : wr.cell? ⟨gb186, 0, none⟩ = some (.slice none 0 0) := (blk_cell BK186.out 0).trans rfl
       have hcz103_1 : wr.cell? ⟨gb186, 1, none⟩ = some (.slice none 0 0) := (blk_cell BK186.out 1).trans rfl
       have hfz103_0 := blk_frozen BK186.out 0
       have hfz103_1 := blk_frozen BK186.out 1
       go_wp2
       refine bodyPost_ret (results_cell_row rfl _ _ gb186 25 #[.slice Ao102 x194000_1.length co102, .slice Ao10 y190.length co10] (0, 0) _ rfl (by refine blk_put (cs := #[.slice Ao102 x194000_1.length co102, .slice none 0 0]) ?_ 1 _ rfl; refine blk_put (cs := #[.slice none 0 0, .slice none 0 0]) ?_ 0 _ rfl; exact BK186.out) Try.underlying25 rfl (by kernel_rfl)) rfl ?_
       exact ⟨_, _, by first | rfl , by exact Kd.R_mono (Kd.R_far (p := ⟨gb186, 1, none⟩) (Kd.R_far (p := ⟨gb186, 0, none⟩) (Kd.R_mono HO_194000.out (fun k_ hk => (⟨hk, hk.2.2.1⟩ : _ ∧ k_ ≠ gb186))) (fun _ hk => hk.2) (.slice Ao102 x194000_1.length co102)) (fun _ hk => hk.2) (.slice Ao10 y190.length co10)) (fun _ hk => hk.1.1), by exact Kd.R_mono (Kd.R_far (p := ⟨gb186, 1, none⟩) (Kd.R_far (p := ⟨gb186, 0, none⟩) (Kd.R_types HO_194001.out BK186.out (by decide)) (fun _ hk => hk.2) (.slice Ao102 x194000_1.length co102)) (fun _ hk => hk.2) (.slice Ao10 y190.length co10)) (fun _ hk => trivial), by repeat (first | (with_reducible first | exact HB.out | refine below_set ?_ GE186.out ) )⟩
 · rw [if_neg c2] at H
   exact absurd H (by simp)
end Go.Proofs.Ytbpnfpckoapdbaa.PT19
end
section
namespace Go.Proofs.Ytbpnfpckoapdbaa.PT19
open Go.RowKit Go.Proofs.Ytbpnfpckoapdbaa.M Go.Proofs.Ytbpnfpckoapdbaa.KD Go.Proofs.Ytbpnfpckoapdbaa Go.Proofs.YtbpnfpckoapdbaaW.PrintWords Go.Proofs.YtbpnfpckoapdbaaW.PrintLast Go.Proofs.YtbpnfpckoapdbaaW.PrintMore
attribute [local go_sem] max2_int min2_int max_two min_two max_three min_three max_four min_four   -- for this text's walks alone
set_option linter.unusedVariables false
set_option linter.unusedSimpArgs false
end Go.Proofs.Ytbpnfpckoapdbaa.PT19
end
section
namespace Go.Proofs.Ytbpnfpckoapdbaa.PT19
open Go.RowKit Go.Proofs.Ytbpnfpckoapdbaa.M Go.Proofs.Ytbpnfpckoapdbaa.KD Go.Proofs.Ytbpnfpckoapdbaa Go.Proofs.YtbpnfpckoapdbaaW.PrintWords Go.Proofs.YtbpnfpckoapdbaaW.PrintLast Go.Proofs.YtbpnfpckoapdbaaW.PrintMore
attribute [local go_sem] max2_int min2_int max_two min_two max_three min_three max_four min_four   -- for this text's walks alone
set_option linter.unusedVariables false
set_option linter.unusedSimpArgs false
end Go.Proofs.Ytbpnfpckoapdbaa.PT19
end
section
namespace Go.Proofs.Ytbpnfpckoapdbaa.Ev
open Go.RowKit Go.Proofs.YtbpnfpckoapdbaaW.PrintWords
set_option linter.unusedVariables false
/-- With enough rounds it tells r. -/
def E {α : Type} (g : Nat → Option α) (r : α) : Prop := ∃ k0, ∀ k, k0 ≤ k → g k = some r
theorem E.const {α : Type} {r : α} : E (fun _ => some r) r := ⟨0, fun _ _ => rfl⟩
theorem E.of {α : Type} {g : Nat → Option α} {r : α} (h : ∀ k, g k = some r) : E g r := ⟨0, fun k _ => h k⟩
theorem E.congr {α : Type} {g h : Nat → Option α} {r : α} (hh : E h r) (e : ∀ k, g k = h k) : E g r := by
 obtain ⟨k0, hk⟩ := hh
 exact ⟨k0, fun k hk0 => by rw [e]; exact hk k hk0⟩
theorem E.succ {α : Type} {g h : Nat → Option α} {r : α} (hh : E h r) (e : ∀ k, g (k + 1) = h k) : E g r := by
 obtain ⟨k0, hk⟩ := hh
 refine ⟨k0 + 1, fun k hk0 => ?_⟩
 obtain ⟨m, rfl⟩ : ∃ m, k = m + 1 := ⟨k - 1, by omega⟩
 rw [e]
 exact hk m (by omega)
theorem E.step {α : Type} {g : Nat → Option α} {r : α} (h : E (fun k => g (k + 1)) r) : E g r := E.succ h fun _ => rfl
theorem E.bind {α β : Type} {f : Nat → Option α} {a : α} {g : Nat → α → Option β} {r : β} (hf : E f a) (hg : E (fun k => g k a) r) : E (fun k => (f k).bind (g k)) r := by
 obtain ⟨k0, h0⟩ := hf
 obtain ⟨k1, h1⟩ := hg
 refine ⟨max k0 k1, fun k hk => ?_⟩
 show (f k).bind (g k) = some r
 rw [h0 k (Nat.le_trans (Nat.le_max_left _ _) hk)]
 exact h1 k (Nat.le_trans (Nat.le_max_right _ _) hk)
theorem E.ite {α : Type} {c : Prop} [Decidable c] {g h : Nat → Option α} {r : α} (hg : c → E g r) (hh : ¬ c → E h r) : E (fun k => if c then g k else h k) r := by
 by_cases hc : c
 · exact (hg hc).congr fun k => if_pos hc
 · exact (hh hc).congr fun k => if_neg hc
theorem E.yes {α : Type} {c : Prop} [Decidable c] {g h : Nat → Option α} {r : α} (hc : c) (hg : E g r) : E (fun k => if c then g k else h k) r := hg.congr fun k => if_pos hc
theorem E.no {α : Type} {c : Prop} [Decidable c] {g h : Nat → Option α} {r : α} (hc : ¬ c) (hh : E h r) : E (fun k => if c then g k else h k) r := hh.congr fun k => if_neg hc
theorem E.get {α : Type} {g : Nat → Option α} {r : α} (h : E g r) : ∃ k, g k = some r := by
 obtain ⟨k, hk⟩ := h
 exact ⟨k, hk k (Nat.le_refl _)⟩
/-- From the end on, step by step. -/
theorem up {C : Nat → Prop} (n : Nat) (hend : ∀ i, n ≤ i → C i) (hstep : ∀ i, i < n → C (i + 1) → C i) (i : Nat) : C i := by
 obtain ⟨d, hd⟩ : ∃ d, d = n - i := ⟨_, rfl⟩
 induction d generalizing i with
 | zero => exact hend i (by omega)
 | succ d ih => exact hstep i (by omega) (ih (i + 1) (by omega))
theorem w1 {i n : Nat} (h : i < n) (hn : n ≤ 9000000000000000000) : wrap64 ((i : Int) + 1) = ((i + 1 : Nat) : Int) := by unfold wrap64; omega
end Go.Proofs.Ytbpnfpckoapdbaa.Ev
end
section
namespace Go.Proofs.Ytbpnfpckoapdbaa.Ev
open Go.RowKit Go.Proofs.YtbpnfpckoapdbaaW.PrintWords Go.Proofs.Ytbpnfpckoapdbaa.KD Go.Proofs.Ytbpnfpckoapdbaa.Ops
set_option linter.unusedVariables false
/-- It tells something. -/
def T {α : Type} (g : Nat → Option α) : Prop := ∃ r, E g r
theorem T.const {α : Type} {r : α} : T (fun _ => some r) := ⟨r, E.const⟩
theorem T.step {α : Type} {g : Nat → Option α} (h : T (fun k => g (k + 1))) : T g := ⟨h.choose, E.step h.choose_spec⟩
theorem T.yes {α : Type} {c : Prop} [Decidable c] {g h : Nat → Option α} (hc : c) (hg : T g) : T (fun k => if c then g k else h k) := ⟨hg.choose, E.yes hc hg.choose_spec⟩
theorem T.no {α : Type} {c : Prop} [Decidable c] {g h : Nat → Option α} (hc : ¬ c) (hh : T h) : T (fun k => if c then g k else h k) := ⟨hh.choose, E.no hc hh.choose_spec⟩
theorem T.ite {α : Type} {c : Prop} [Decidable c] {g h : Nat → Option α} (hg : c → T g) (hh : ¬ c → T h) : T (fun k => if c then g k else h k) := by
 by_cases hc : c
 · exact T.yes hc (hg hc)
 · exact T.no hc (hh hc)
theorem T.bind {α β : Type} {f : Nat → Option α} {g : Nat → α → Option β} (hf : T f) (hg : ∀ a, E f a → T (fun k => g k a)) : T (fun k => (f k).bind (g k)) := by
 obtain ⟨a, ha⟩ := hf
 obtain ⟨r, hr⟩ := hg a ha
 exact ⟨r, E.bind ha hr⟩
theorem w1' {i n : Nat} (h : i < n) (hn : n ≤ 140737488351232) : wrap64 ((i : Int) + 1) = ((i + 1 : Nat) : Int) := by unfold wrap64; omega
theorem mem_getD {α : Type} {l : List α} {i : Nat} (z : α) (h : i < l.length) : l.getD i z ∈ l := by
 rw [List.getD_eq_getElem?_getD, List.getElem?_eq_getElem h]; exact List.getElem_mem _
theorem take_getD {α : Type} {l : List α} {i : Nat} (z : α) (h : i < l.length) : l.take i ++ [l.getD i z] = l.take (i + 1) := by
 rw [List.take_succ_eq_append_getElem h, List.getD_eq_getElem?_getD, List.getElem?_eq_getElem h]; rfl
theorem reach : reachBytes = 140737488351232 := by decide
end Go.Proofs.Ytbpnfpckoapdbaa.Ev
end
section
namespace Go.Proofs.Ytbpnfpckoapdbaa.P19
open Go.RowKit Go.Proofs.YtbpnfpckoapdbaaW.PrintWords Go.Proofs.YtbpnfpckoapdbaaW.PrintLast Go.Proofs.YtbpnfpckoapdbaaW.PrintMore Go.Proofs.Ytbpnfpckoapdbaa.KD Go.Proofs.Ytbpnfpckoapdbaa.M Go.Proofs.Ytbpnfpckoapdbaa.PT19 Go.Proofs.Ytbpnfpckoapdbaa.Ev Go.Proofs.Ytbpnfpckoapdbaa.Ops
set_option linter.unusedVariables false
set_option linter.unusedSimpArgs false
theorem etaT (x : TT) : (⟨x.f0, x.f1⟩ : TT) = x := by cases x; rfl
theorem etaS (x : TS) : (⟨x.f0, x.f1⟩ : TS) = x := by cases x; rfl
theorem etaV (x : TV) : (⟨x.f0, x.f1, x.f2⟩ : TV) = x := by cases x; rfl
theorem left_T : ∀ (n : Nat) (t : TT), okT n t → ∀ a d, T (fun k => ecdysisref19_left.f k t.f0 t.f1 a d)
 | 0, t, h => h.elim
 | n + 1, t, h => by
  obtain ⟨⟨hl, hx⟩, hre, hr⟩ := h
  rw [reach] at hl hre
  intro a d
  have l1 := up (C := fun i => ∀ a, T (fun k => ecdysisref19_left.l1 k a d (i : Int) t.f0 t.f1)) t.f0.length (fun i hi a => by
   refine T.step ?_
   simp only [ecdysisref19_left.l1]
   refine T.no (by omega) (T.step ?_)
   simp only [ecdysisref19_left.j3]
   exact T.no (by simp) T.const) (fun i hi ih a => by
   have hs := hx _ (mem_getD z59 hi)
   have hrd : rd_T59 t.f0 (i : Int) = t.f0.getD i z59 := rfl
   generalize t.f0.getD i z59 = x at hs hrd
   obtain ⟨_, hvl, hvv⟩ := hs
   rw [reach] at hvl
   have l2 := up (C := fun j => ∀ a, T (fun k => ecdysisref19_left.l2 k a d (i : Int) (j : Int) t.f0 t.f1)) x.f1.length (fun j hj a => by
    refine T.step ?_
    simp only [ecdysisref19_left.l2, hrd]
    refine T.yes (by omega) (T.yes (by omega) (T.no (by omega) (T.step ?_)))
    simp only [ecdysisref19_left.j5, w1' hi (by omega : t.f0.length ≤ 140737488351232)]
    exact T.no (by simp) (ih a)) (fun j hj ihj a => by
    have hv := hvv _ (mem_getD z70 hj)
    have hrv : rd_T70 x.f1 (j : Int) = x.f1.getD j z70 := rfl
    generalize x.f1.getD j z70 = v at hv hrv
    obtain ⟨_, _, hml, hmm⟩ := hv
    rw [reach] at hml
    have l3 := up (C := fun m => ∀ a, T (fun k => ecdysisref19_left.l3 k a d (i : Int) (j : Int) (m : Int) t.f0 t.f1)) v.f2.length (fun m hm a => by
     refine T.step ?_
     simp only [ecdysisref19_left.l3, hrd, hrv, w1' hj (by omega : x.f1.length ≤ 140737488351232)]
     exact T.yes (by omega) (T.yes (by omega) (T.yes (by omega) (T.yes (by omega) (T.no (by omega) (ihj a)))))) (fun m hm ihm a => by
     have ht := hmm _ (mem_getD z25 hm)
     have hrt : rd_T25 v.f2 (m : Int) = v.f2.getD m z25 := rfl
     generalize v.f2.getD m z25 = y at ht hrt
     refine T.step ?_
     simp only [ecdysisref19_left.l3, hrd, hrv, hrt, w1' hj (by omega : x.f1.length ≤ 140737488351232), w1' hm (by omega : v.f2.length ≤ 140737488351232)]
     exact T.yes (by omega) (T.yes (by omega) (T.yes (by omega) (T.yes (by omega) (T.yes (by omega) (T.ite (fun _ => T.yes (by omega) (T.bind (left_T n y ht _ _) fun b _ => ihm b)) fun _ => ihj a)))))) 0
    refine T.step ?_
    simp only [ecdysisref19_left.l2, hrd]
    refine T.yes (by omega) (T.yes (by omega) (T.yes (by omega) (T.step ?_)))
    simp only [ecdysisref19_left.j5, hrd, hrv, w1' hi (by omega : t.f0.length ≤ 140737488351232)]
    exact T.ite (fun _ => T.yes (by omega) (T.yes (by omega) (T.yes (by omega) (T.yes (by omega) (l3 _))))) fun _ => ih a) 0
   refine T.step ?_
   simp only [ecdysisref19_left.l1]
   refine T.yes (by omega) (T.step ?_)
   simp only [ecdysisref19_left.j3, hrd]
   exact T.ite (fun _ => T.yes (by omega) (T.yes (by omega) (l2 _))) fun _ => T.const) 0
  have l0 := up (C := fun i => ∀ a, T (fun k => ecdysisref19_left.l0 k a d (i : Int) t.f0 t.f1)) t.f1.length (fun i hi a => by
   refine T.step ?_
   simp only [ecdysisref19_left.l0]
   refine T.no (by omega) (T.step ?_)
   simp only [ecdysisref19_left.j1]
   exact l1 a) (fun i hi ih a => by
   refine T.step ?_
   simp only [ecdysisref19_left.l0, w1' hi (by omega : t.f1.length ≤ 140737488351232)]
   refine T.yes (by omega) (T.ite (fun _ => T.yes (by omega) (ih _)) fun _ => T.step ?_)
   simp only [ecdysisref19_left.j1]
   exact l1 a) 0
  refine T.step ?_
  show T (fun k => ecdysisref19_left.f (k + 1) _ _ _ _)
  simp only [ecdysisref19_left.f]
  exact T.ite (fun _ => T.const) fun _ => l0 _
theorem small19_T {n : Nat} {t : TT} (h : okT n t) : T (fun k => ecdysisref19_Small.f k t.f0 t.f1) := T.bind (left_T n t h 400 40) fun b _ => T.const
/-- The document's copy is the same tree. -/
theorem copy_E : ∀ (n : Nat) (t : TT), okT n t → E (fun k => ecdysisref19_Copy.f k t.f0 t.f1) (t.f0, t.f1)
 | 0, t, h => h.elim
 | n + 1, t, h => by
  obtain ⟨⟨hl, hx⟩, hre, hr⟩ := h
  rw [reach] at hl hre
  have l0 := up (C := fun i => E (fun k => ecdysisref19_Copy.l0 k (i : Int) t.f0 t.f1 (t.f0.take i) t.f1) (t.f0, t.f1)) t.f0.length (fun i hi => by
   rw [List.take_of_length_le hi]
   exact E.succ E.const fun k => by simp only [ecdysisref19_Copy.l0]; rw [if_neg (by omega)]) (fun i hi ih => by
   have hs := hx _ (mem_getD z59 hi)
   have hrd : rd_T59 t.f0 (i : Int) = t.f0.getD i z59 := rfl
   have htk := take_getD z59 hi
   rw [← htk] at ih
   generalize t.f0.getD i z59 = x at hs hrd ih
   obtain ⟨_, hvl, hvv⟩ := hs
   rw [reach] at hvl
   have l1 := up (C := fun j => E (fun k => ecdysisref19_Copy.l1 k (i : Int) (j : Int) t.f0 t.f1 (t.f0.take i) t.f1 x.f0 (x.f1.take j)) (t.f0, t.f1)) x.f1.length (fun j hj => by
    rw [List.take_of_length_le hj]
    refine E.step ?_
    simp only [ecdysisref19_Copy.l1, hrd, w1' hi (by omega : t.f0.length ≤ 140737488351232)]
    refine E.yes (by omega) (E.yes (by omega) (E.no (by omega) (E.yes (by rw [List.length_take]; omega) ?_)))
    rw [etaS]
    exact ih) (fun j hj ihj => by
    have hv := hvv _ (mem_getD z70 hj)
    have hrv : rd_T70 x.f1 (j : Int) = x.f1.getD j z70 := rfl
    have htv := take_getD z70 hj
    rw [← htv] at ihj
    generalize x.f1.getD j z70 = v at hv hrv ihj
    obtain ⟨_, _, hml, hmm⟩ := hv
    rw [reach] at hml
    have l2 := up (C := fun m => E (fun k => ecdysisref19_Copy.l2 k (i : Int) (j : Int) (m : Int) t.f0 t.f1 (t.f0.take i) t.f1 x.f0 (x.f1.take j) v.f0 v.f1 v.f2 v.f0 v.f1 (v.f2.take m)) (t.f0, t.f1)) v.f2.length (fun m hm => by
     rw [List.take_of_length_le hm]
     refine E.step ?_
     simp only [ecdysisref19_Copy.l2, w1' hj (by omega : x.f1.length ≤ 140737488351232)]
     refine E.no (by omega) (E.yes (by rw [List.length_take]; omega) ?_)
     rw [etaV]
     exact ihj) (fun m hm ihm => by
     have ht := hmm _ (mem_getD z25 hm)
     have hrt : rd_T25 v.f2 (m : Int) = v.f2.getD m z25 := rfl
     have htt := take_getD z25 hm
     rw [← htt] at ihm
     generalize v.f2.getD m z25 = y at ht hrt ihm
     refine E.step ?_
     simp only [ecdysisref19_Copy.l2, hrt, w1' hm (by omega : v.f2.length ≤ 140737488351232)]
     refine E.yes (by omega) (E.yes (by omega) (E.bind (copy_E n y ht) (E.yes (by rw [List.length_take]; omega) ?_)))
     show E (fun k => ecdysisref19_Copy.l2 k _ _ _ _ _ _ _ _ _ _ _ _ _ _ (v.f2.take m ++ [(⟨y.f0, y.f1⟩ : TT)])) _
     rw [etaT]
     exact ihm) 0
    refine E.step ?_
    simp only [ecdysisref19_Copy.l1, hrd, hrv]
    exact E.yes (by omega) (E.yes (by omega) (E.yes (by omega) (E.yes (by omega) l2)))) 0
   refine E.step ?_
   simp only [ecdysisref19_Copy.l0, hrd]
   exact E.yes (by omega) (E.yes (by omega) l1)) 0
  refine E.step ?_
  show E (fun k => ecdysisref19_Copy.f (k + 1) _ _) _
  simp only [ecdysisref19_Copy.f, Option.bind_some, List.nil_append, List.length_nil]
  exact E.yes (by omega) l0
theorem raws_E (l : List TR) (h : l.length ≤ 140737488351232) : E (fun k => ecdysisref07_Same.f k l l) true := by
 have key := up (C := fun i => E (fun k => ecdysisref07_Same.l0 k l l (i : Int)) true) l.length (fun i hi => ?_) (fun i hi ih => ?_) 0
 · exact E.yes rfl key
 · exact E.succ E.const fun k => by simp only [ecdysisref07_Same.l0]; rw [if_neg (by omega)]
 · exact E.succ ih fun k => by simp only [ecdysisref07_Same.l0]; rw [if_pos (by omega), if_pos (by omega), if_pos (by omega), w1' hi h]; simp
def SameOk (t : TT) : Prop := E (fun k => ecdysisref19_Same.f k t.f0 t.f1 t.f0 t.f1) true
theorem samevals_E (l : List TV) (h : l.length ≤ 140737488351232) (hv : ∀ v ∈ l, v.f2.length ≤ 140737488351232 ∧ ∀ t ∈ v.f2, SameOk t) : E (fun k => ecdysisref19_SameVals.f k l l) true := by
 have l0 := up (C := fun i => E (fun k => ecdysisref19_SameVals.l0 k l l (i : Int)) true) l.length (fun i hi => by
  exact E.succ E.const fun k => by simp only [ecdysisref19_SameVals.l0]; rw [if_neg (by omega)]) (fun i hi ih => by
  have hs := hv _ (mem_getD z70 hi)
  have hrd : rd_T70 l (i : Int) = l.getD i z70 := rfl
  generalize l.getD i z70 = v at hs hrd
  have l1 := up (C := fun m => E (fun k => ecdysisref19_SameVals.l1 k l l (i : Int) (m : Int)) true) v.f2.length (fun m hm => by
   refine E.step ?_
   simp only [ecdysisref19_SameVals.l1, hrd, w1' hi h]
   exact E.yes (by omega) (E.yes (by omega) (E.no (by omega) ih))) (fun m hm ihm => by
   have ht := hs.2 _ (mem_getD z25 hm)
   have hrt : rd_T25 v.f2 (m : Int) = v.f2.getD m z25 := rfl
   generalize v.f2.getD m z25 = y at ht hrt
   refine E.step ?_
   simp only [ecdysisref19_SameVals.l1, hrd, hrt, w1' hm hs.1]
   exact E.yes (by omega) (E.yes (by omega) (E.yes (by omega) (E.yes (by omega) (E.yes (by omega) (E.yes (by omega) (E.bind ht (E.yes rfl ihm)))))))) 0
  refine E.step ?_
  simp only [ecdysisref19_SameVals.l0, hrd]
  refine E.yes (by omega) (E.yes (by omega) (E.yes (by omega) (E.yes (by first | trivial | rfl) (E.yes (by first | trivial | rfl) ?_))))
  rw [show ((v.f2.length : Int) != (v.f2.length : Int)) = false by simp]
  exact E.succ l1 fun k => by simp only [ecdysisref19_SameVals.j1]; rw [if_neg (by simp)]; rfl) 0
 refine E.step ?_
 show E (fun k => ecdysisref19_SameVals.f (k + 1) _ _) _
 simp only [ecdysisref19_SameVals.f]
 exact E.yes (by first | trivial | rfl) l0
/-- Every tree is the same as_ itself. -/
theorem same_E : ∀ (n : Nat) (t : TT), okT n t → SameOk t
 | 0, t, h => h.elim
 | n + 1, t, h => by
  obtain ⟨⟨hl, hx⟩, hre, hr⟩ := h
  rw [reach] at hl hre
  have l0 := up (C := fun i => E (fun k => ecdysisref19_Same.l0 k (i : Int) t.f0 t.f1 t.f0 t.f1) true) t.f0.length (fun i hi => by
   exact E.succ E.const fun k => by simp only [ecdysisref19_Same.l0]; rw [if_neg (by omega)]) (fun i hi ih => by
   obtain ⟨_, hvl, hvv⟩ := hx _ (mem_getD z59 hi)
   rw [reach] at hvl
   have hrd : rd_T59 t.f0 (i : Int) = t.f0.getD i z59 := rfl
   have hsv := samevals_E _ (by omega) (fun v hv => ⟨by have := (hvv v hv).2.2.1; rw [reach] at this; omega, fun y hy => same_E n y ((hvv v hv).2.2.2 y hy)⟩)
   refine E.step ?_
   simp only [ecdysisref19_Same.l0, hrd, w1' hi (by omega : t.f0.length ≤ 140737488351232)]
   exact E.yes (by omega) (E.yes (by omega) (E.yes (by omega) (E.yes (by first | trivial | rfl) (E.bind hsv (E.yes rfl ih)))))) 0
  refine E.step ?_
  show E (fun k => ecdysisref19_Same.f (k + 1) _ _ _ _) _
  simp only [ecdysisref19_Same.f]
  refine E.yes (by first | trivial | rfl) (E.bind (raws_E t.f1 (by omega)) ?_)
  exact E.succ l0 fun k => by simp only [ecdysisref19_Same.j0]; rw [if_neg (by simp)]; rfl
end Go.Proofs.Ytbpnfpckoapdbaa.P19
end
section
namespace Go.Proofs.Ytbpnfpckoapdbaa.TK
open Go.RowKit Go.Proofs.Ytbpnfpckoapdbaa.Ops Go.Proofs.Ytbpnfpckoapdbaa.KD Go.Proofs.Ytbpnfpckoapdbaa.M Go.Proofs.Ytbpnfpckoapdbaa.PT19 Go.Proofs.Ytbpnfpckoapdbaa.Ev Go.Proofs.YtbpnfpckoapdbaaW.PrintWords Go.Proofs.YtbpnfpckoapdbaaW.PrintLast Go.Proofs.YtbpnfpckoapdbaaW.PrintMore Go.Proofs.Ytbpnfpckoapdbaa.Open
set_option linter.unusedVariables false
set_option linter.unusedSimpArgs false
set_option maxHeartbeats 1000000
set_option maxRecDepth 100000
theorem spRow_of {α : Type} {d : Kd α} {e base : Nat} {w : World} {ok : Nat → Prop} {v : Value} {xs : List α} {P : Nat → Nat → Prop} (h : d.R e w base ok v xs) (z : α) (hP : ∀ g o x c, d.M w base (fun _ => True) x c → (∀ j u, c[j]? = some u → w.cell? ⟨g, o + j, none⟩ = some u) → (∀ j, w.frozen? ⟨g, o + j, none⟩ = false) → P g o) : SpRow base w.heap.size d.sz P v := by
 obtain ⟨A, c, rfl, hl, hC⟩ := Kd.R_reads h
 refine ⟨A, xs.length, c, rfl, hl, ?_, fun hn => ?_⟩
 · have := Kd.C_max hC; unfold maxLen at this; omega
 · obtain ⟨g, cap, he, hb, hg, _⟩ := Kd.R_form h hn
   injection he with he1 he2 he3
   subst he1
   refine ⟨g, rfl, hb, hg, fun i hi => ?_⟩
   obtain ⟨cs, _, hM, hcell, hfr⟩ := Kd.R_elem h z (i : Int) (by omega) (by omega)
   exact hP g (i * d.sz) _ cs (d.M_mono (fun _ _ => trivial) hM) hcell hfr
theorem sp_upto (E_ : List Nat) (base : Nat) : ∀ (n : Nat) (w : World) (x : TT) (v1 v2 : Value), (Kd.upto F25 2 E_ n).M w base (fun _ => True) x [v1, v2] → SpN base w.heap.size n w v1 v2
 | 0, w, x, v1, v2, h => h.elim
 | n + 1, w, x, v1, v2, h => by
  obtain ⟨u1, u2, he, h1, h2⟩ := kT_openM h
  injection he with he1 he2
  injection he2 with he2 _
  subst he1
  subst he2
  refine ⟨spRow_of h1 z59 fun g o s c hM hc hf => ?_, spRow_of h2 z73 fun g o r c hM hc hf => ?_⟩
  · obtain ⟨u, rfl, hu⟩ := kS_openM hM
    refine ⟨⟨⟨_, hc 0 _ rfl⟩, hf 0⟩, u, hc 1 _ rfl, spRow_of hu z70 fun g' o' y c' hM' hc' hf' => ?_⟩
    obtain ⟨u', rfl, hu'⟩ := kV_openM hM'
    refine ⟨⟨⟨_, hc' 0 _ rfl⟩, hf' 0⟩, u', hc' 2 _ rfl, ?_⟩
    have q := spRow_of (P := fun g o => ∃ v1 v2, w.cell? ⟨g, o, none⟩ = some v1 ∧ w.cell? ⟨g, o + 1, none⟩ = some v2 ∧ SpN base w.heap.size n w v1 v2) hu' z25 fun g2 o2 t c2 hM2 hc2 hf2 => by
     have hk := (Kd.upto F25 2 E_ n).K_of_M hM2
     obtain ⟨A1, n1, k1, A2, n2, k2, rfl⟩ := (upto_two E_ n).two hk
     exact ⟨_, _, hc2 0 _ rfl, hc2 1 _ rfl, sp_upto E_ base n w t _ _ hM2⟩
    rw [(upto_two E_ n).sz] at q
    exact q
  · obtain rfl := k73_openM hM
    exact ⟨⟨_, hc 0 _ rfl⟩, hf 0⟩
theorem sp_of {w : World} {base : Nat} {x : TT} {v1 v2 : Value} (h : k25.M w base (fun _ => True) x [v1, v2]) : ∃ n, SpN base w.heap.size n w v1 v2 := by
 obtain ⟨n, h⟩ := h
 exact ⟨n, sp_upto _ base n w x v1 v2 h⟩
theorem live_all : Aside0 (∀ w, Calls Try.prog 11 #[] w fun e w' => e = .returned (.bool true) ∧ Below w.heap.size w w') := ⟨live_c⟩
/-- What comes in reads on. -/
theorem tree_reads {w : World} {x : TT} {A0 A1 : Option Addr} {c0 c1 : Nat} (h : k25.K w x [.slice A0 x.f0.length c0, .slice A1 x.f1.length c1]) : x.f0.length ≤ c0 ∧ k59.C w A0 x.f0.length x.f0 ∧ x.f1.length ≤ c1 ∧ k73.C w A1 x.f1.length x.f1 := by
 obtain ⟨B0, d0, B1, d1, he, h1, h2, h3, h4⟩ := k25_open h
 injection he with e1 e2
 injection e2 with e2 _
 injection e1 with e1 _ e3
 injection e2 with e2 _ e4
 subst e1
 subst e2
 subst e3
 subst e4
 exact ⟨h1, h2, h3, h4⟩
set_option maxHeartbeats 8000000 in
theorem TreeCopies_c (n : Nat) (w : World) (x : TT) {A0 A1 : Option Addr} {c0 c1 : Nat} (h : k25.K w x [.slice A0 x.f0.length c0, .slice A1 x.f1.length c1]) (hok : okT n x) :
  Calls Try.prog 3 #[.agg #[.slice A0 x.f0.length c0, .slice A1 x.f1.length c1]] w fun e w' => e = .returned (.bool true) ∧ Below w.heap.size w w' := by
 obtain ⟨b, hb⟩ := P19.small19_T hok
 obtain ⟨ks, hks⟩ := hb.get
 obtain ⟨kc, hkc⟩ := (P19.copy_E n x hok).get
 obtain ⟨ke, hke⟩ := E.get (P19.same_E n x hok)
 obtain ⟨wz, hwz⟩ : ∃ wz, wz = w.alloc (.cells #[.slice A0 x.f0.length c0, .slice A1 x.f1.length c1] 25) := ⟨_, rfl⟩
 have bz : Below w.heap.size w wz := by rw [hwz]; exact below_alloc (Below.refl _ _) _
 have hz : wz.heap[w.heap.size]? = some (.cells #[.slice A0 x.f0.length c0, .slice A1 x.f1.length c1] 25 (0, 0)) := by rw [hwz]; exact blk_new _ _
 have HWZ := Aside0.mk hwz
 have BZ := Aside0.mk bz
 have HZ := Aside0.mk hz
 have HK := Aside0.mk h
 have HBX := Aside0.mk (fun w2 (hb : Below wz.heap.size wz w2) => show w2.cell? ⟨w.heap.size, 0, none⟩ = some (.slice A0 x.f0.length c0) ∧ w2.cell? ⟨w.heap.size, 1, none⟩ = some (.slice A1 x.f1.length c1) from ⟨(blk_cell (blk_below hz hb) 0).trans rfl, (blk_cell (blk_below hz hb) 1).trans rfl⟩)
 have HSM := Aside0.mk (by
  obtain ⟨q1, q2, q3, q4⟩ := tree_reads (k25.K_below bz h)
  exact ecdysisref19_Small.calls ks A0 c0 x.f0 A1 c1 x.f1 b wz q2 q1 q4 q3 hks)
 have HCO := Aside0.mk (fun w2 (hb : Below wz.heap.size wz w2) => by
  obtain ⟨q1, q2, q3, q4⟩ := tree_reads (k25.K_below (bz.trans (hb.mono bz.size)) h)
  exact ecdysisref19_Copy.calls kc A0 c0 x.f0 A1 c1 x.f1 x.f0 x.f1 w2 q2 q1 q4 q3 hkc)
 have HL := live_all
 clear hwz bz hz h hks hkc
 cases b with
 | false =>
  go_enter Try.func3, Try.ntmps3
  go_wp2_with (first
   | (go_at_call 10; rw [← HWZ.out]; refine HSM.out.mono ?_; rintro r w1 ⟨rfl, b1⟩; have B1 := Aside0.mk b1; clear b1)
   | (go_at_call 11; refine (HL.out _).mono ?_; rintro r w2 ⟨rfl, b2⟩; have B2 := Aside0.mk (B1.out.trans (b2.mono B1.out.size)); clear b2))
  go_ret
  exact ⟨rfl, BZ.out.trans (B2.out.mono BZ.out.size)⟩
 | true =>
  go_enter Try.func3, Try.ntmps3
  go_wp2_with (first
   | (go_at_call 10; rw [← HWZ.out]; refine HSM.out.mono ?_; rintro r w1 ⟨rfl, b1⟩; have B1 := Aside0.mk b1; obtain ⟨j0, j1⟩ := HBX.out _ b1; clear b1)
   | (go_at_call 12; refine (HCO.out _ B1.out).mono ?_; rintro r w2 ⟨v0, v1, rfl, hR0, hR1, b2⟩
      obtain ⟨D0, e0, rfl⟩ := Kd.R_slice hR0
      obtain ⟨D1, e1, rfl⟩ := Kd.R_slice hR1
      have B2 := Aside0.mk (B1.out.trans (b2.mono B1.out.size))
      have B12 := Aside0.mk b2.size
      have HOW := Aside0.mk (k25_mkM w2 w1.heap.size (fun _ => True) x (Kd.R_mono hR0 (fun _ _ => trivial)) hR1)
      obtain ⟨j2, j3⟩ := HBX.out _ B2.out
      clear hR0 hR1 b2))
  obtain ⟨wo, hwo⟩ : ∃ wo, wo = w2.alloc (.cells #[.slice D0 x.f0.length e0, .slice D1 x.f1.length e1] 25) := ⟨_, rfl⟩
  rw [← hwo]
  have bo : Below w2.heap.size w2 wo := by rw [hwo]; exact below_alloc (Below.refl _ _) _
  have H3 := Aside0.mk (show wo.heap[w2.heap.size]? = some (.cells #[.slice D0 x.f0.length e0, .slice D1 x.f1.length e1] 25 (0, 0)) by rw [hwo]; exact blk_new _ _)
  have BO := Aside0.mk bo
  have SO := Aside0.mk (show w2.heap.size < wo.heap.size by rw [hwo, World.size_alloc]; omega)
  clear hwo bo
  refine (tree_Copy wo x _ (k25.K_of_M (Kd.M_below HOW.out BO.out)) ⟨n, hok⟩).mono ?_
  rintro r w3 ⟨⟨cs', rfl, hcm⟩, b3⟩
  obtain ⟨u0, u1, rfl, hR0, hR1⟩ := k25_openM hcm
  obtain ⟨F0, f0, rfl⟩ := Kd.R_slice hR0
  obtain ⟨F1, f1, rfl⟩ := Kd.R_slice hR1
  have HCM := Aside0.mk hcm
  have B3 := Aside0.mk b3
  have B03 := Aside0.mk (show Below wz.heap.size wz w3 from B2.out.trans ((BO.out.trans (b3.mono BO.out.size)).mono B2.out.size))
  clear hcm hR0 hR1 b3
  obtain ⟨j4, j5⟩ := HBX.out _ B03.out
  have z3 : w.heap.size < w3.heap.size := Nat.lt_of_lt_of_le (blk_lt HZ.out) B03.out.size
  go_wp2_with fail
  obtain ⟨wc, hwc⟩ : ∃ wc, wc = w3.alloc (.cells #[.slice F0 x.f0.length f0, .slice F1 x.f1.length f1] 25) := ⟨_, rfl⟩
  rw [← hwc]
  have bc : Below w3.heap.size w3 wc := by rw [hwc]; exact below_alloc (Below.refl _ _) _
  have H4 := Aside0.mk (show wc.heap[w3.heap.size]? = some (.cells #[.slice F0 x.f0.length f0, .slice F1 x.f1.length f1] 25 (0, 0)) by rw [hwc]; exact blk_new _ _)
  have BC := Aside0.mk bc
  have B0C := Aside0.mk (show Below wz.heap.size wz wc from B03.out.trans (bc.mono B03.out.size))
  clear hwc bc
  have hS := (by
   obtain ⟨q1, q2, q3, q4⟩ := tree_reads (k25.K_of_M (Kd.M_below HCM.out BC.out))
   obtain ⟨t1, t2, t3, t4⟩ := tree_reads (k25.K_below (BZ.out.trans (B0C.out.mono BZ.out.size)) HK.out)
   exact ecdysisref19_Same.calls ke F0 f0 x.f0 F1 f1 x.f1 A0 c0 x.f0 A1 c1 x.f1 true wc q2 q1 q4 q3 t2 t1 t4 t3 hke)
  go_at_call 14
  refine hS.mono ?_
  rintro r w4 ⟨rfl, b4⟩
  have B4 := Aside0.mk b4
  have B24 := Aside0.mk (show Below w2.heap.size w2 w4 from BO.out.trans ((B3.out.trans ((BC.out.trans (b4.mono BC.out.size)).mono B3.out.size)).mono BO.out.size))
  clear hS
  have k3 := blk_below (blk_below (blk_below H3.out B3.out) BC.out) b4
  have k4 := blk_below H4.out b4
  have j6 := (blk_cell k3 0).trans rfl
  have j7 := (blk_cell k3 1).trans rfl
  have K4 := Aside0.mk k4
  clear k3 k4 b4
  go_wp2_with fail
  obtain ⟨m, hsp⟩ := sp_of HOW.out
  have hT := spoil_c w1.heap.size w2.heap.size m w4 _ _ (hsp.turned (Turned.of_below B24.out)) B24.out.size
  go_at_call 15
  refine hT.mono ?_
  rintro r w5 ⟨rfl, t5⟩
  have T5 := Aside0.mk t5
  clear hT hsp j6 j7
  have hw12 : w1.heap.size ≤ w2.heap.size := B12.out
  have s24 := B24.out.size
  have s3o : wo.heap.size ≤ w3.heap.size := B3.out.size
  have sow := SO.out
  have s34 : w3.heap.size < w4.heap.size := blk_lt K4.out
  have sw1 : w.heap.size < w1.heap.size := Nat.lt_of_lt_of_le (blk_lt HZ.out) B1.out.size
  have k4 := (t5.block w3.heap.size s34 (.inr (by omega))).trans K4.out
  have bw4 : Below w.heap.size w w4 := BZ.out.trans ((B0C.out.trans (B4.out.mono B0C.out.size)).mono BZ.out.size)
  have bw5 : Below w.heap.size w w5 := bw4.trans ⟨t5.os, t5.tape, t5.output, t5.size, fun k hk => t5.block k (by omega) (.inl (by omega))⟩
  have bz4 : Below wz.heap.size wz w4 := B0C.out.trans (B4.out.mono B0C.out.size)
  have k1 := (t5.block w.heap.size (by omega) (.inl sw1)).trans (blk_below HZ.out bz4)
  have j8 := (blk_cell k4 0).trans rfl
  have j9 := (blk_cell k4 1).trans rfl
  have i0 := (blk_cell k1 0).trans rfl
  have i1 := (blk_cell k1 1).trans rfl
  have hM5 : k25.M w5 wo.heap.size (fun _ => True) x [.slice F0 x.f0.length f0, .slice F1 x.f1.length f1] := by
   have q1 := k25.M_bound (Kd.M_below (Kd.M_below HCM.out BC.out) B4.out)
   exact k25.M_mono (fun _ _ => trivial) (k25.M_move (fun k hk => t5.block k hk.2.2.1 (.inr (by have := hk.2.1; omega))) q1)
  have hS := (by
   obtain ⟨q1, q2, q3, q4⟩ := tree_reads (k25.K_of_M hM5)
   obtain ⟨t1, t2, t3, t4⟩ := tree_reads (k25_heap.K (fun k hk => bw5.block k hk) HK.out)
   exact ecdysisref19_Same.calls ke F0 f0 x.f0 F1 f1 x.f1 A0 c0 x.f0 A1 c1 x.f1 true w5 q2 q1 q4 q3 t2 t1 t4 t3 hke)
  have HS5 := Aside0.mk hS
  have BW5 := Aside0.mk bw5
  clear hS bw5 bw4 bz4 hM5 k1 k4 hw12 s24 s3o sow s34 sw1 t5
  go_wp2_with (first
   | (go_at_call 14; refine HS5.out.mono ?_; rintro r w6 ⟨rfl, b6⟩; have B6 := Aside0.mk (BW5.out.trans (b6.mono BW5.out.size)); clear b6)
   | (go_at_call 11; refine (HL.out _).mono ?_; rintro r w7 ⟨rfl, b7⟩; have B7 := Aside0.mk (B6.out.trans (b7.mono B6.out.size)); clear b7))
  go_ret
  exact ⟨rfl, B7.out⟩
end Go.Proofs.Ytbpnfpckoapdbaa.TK
end
section
namespace Go.Proofs.Ytbpnfpckoapdbaa.treeCopies
open Go.ChangeShapes Go.WideShapes Go.ChangeAt Go.RowKit
open Go.ChangeMaps (open_string shut_string)
open Go.Proofs.Ytbpnfpckoapdbaa.KD Go.Proofs.YtbpnfpckoapdbaaW.PrintWords
set_option linter.unusedVariables false
theorem own : ownKnob Try.prog.godebug = none := by kernel_rfl
theorem laidOut : laidOutB Try.prog = true := by kernel_rfl
set_option maxRecDepth 100000 in
theorem lifted (os : Os) (started : os.Started) (H : Type) (enc : TypeId × Value → H) :
  ReturnsInHanded {} Try.checked os 3 .any (Rows.treeCopiesSpec.pre6 enc Try.prog Try.f3 Rows.treeCopiesRow.domain false) (Rows.treeCopiesSpec.post enc Try.prog Try.f3 false true false false) := by
 refine returnsInHanded_of_change_sized (C := Try.checked) own started (by kernel_rfl) Try.func3
  (ChangeSpec.witness6 (enc := enc) (C := Try.checked) false ⟨#[], #[.agg #[.slice none 0 0, .slice none 0 0]], []⟩ 8 (by kernel_rfl) (by kernel_rfl) (by kernel_rfl) (by kernel_rfl)) ?_
 intro W base args ds gs before hval0 hW hcnd hsz0 _
 have hsz : (DataW.weightsEach Try.prog (Try.f3.params.toList ++ Rows.treeCopiesSpec.plain.varTypes Try.prog) (ds ++ gs)).all (· ≤ reachBytes) = true := hsz0
 have hval : ∀ (j : Nat) t v, Try.f3.params[j]? = some t → args[j]? = some v → Value.okWide Try.prog W .any base t v := hval0
 have hW' := hW
 obtain ⟨p, q, hA0, hV, rfl, hfz, hnd⟩ := hW
 have hA : DataW.TrodAll enc Try.prog W 0 (fun _ => true) true Try.f3.params.toList args.toList ds p := hA0
 rw [Try.params3] at hA hval hsz
 obtain ⟨v0, vs0, d0, ds0, p0, q0, hargs, rfl, rfl, h0, r0⟩ := trodAll_cons hA
 obtain ⟨rfl, rfl, rfl⟩ := trodAll_nil r0
 obtain rfl : args = #[v0] := by cases args; simp_all
 obtain ⟨rfl, rfl⟩ := trodVars_none hV
 obtain ⟨cs0, rfl, _⟩ := okWide_struct Try.underlying25 (hval 0 25 v0 rfl rfl)
 have k0 := h0
 have lt0 : ∀ x ∈ p0, x.block < W.heap.size := by obtain ⟨m, hm⟩ := k0; exact DataW.trod_lt m _ _ _ hm
 have li0 : Open.Light Try.prog 25 d0 := fun n hn => by simpa using List.all_eq_true.1 hsz n (DataW.weights_mem_each (j := 0) rfl rfl n hn)
 obtain ⟨fu0, hf0⟩ := h0
 obtain ⟨y0, hk0, w0⟩ := Ops.opensT fu0 fu0 (Nat.le_refl _) _ enc W 0 (fun _ => true) true _ _ hf0 li0
 have ec0 : (Value.agg cs0).cells.toList.toArray = cs0 := by simp [Value.cells]
 obtain ⟨A0_0, c0_0, A0_1, c0_1, hcs0, _⟩ := k25_open hk0
 rw [hcs0] at ec0 hk0
 have ec0' := ec0.symm
 subst ec0'
 clear hA0 hval0 hsz0 hsz
 have hcall := TK.TreeCopies_c fu0 W y0 hk0 w0
 refine hcall.mono fun e W' ⟨he, bel0⟩ => ?_
 have bel : Below W.heap.size W W' := bel0
 subst he
 exact ⟨_, rfl, _, _, _, [], _, [], hW', trodAll_mk1 (shut_bool Try.underlying4 _), (trodAll_cons_mk (Below.trod laidOut (by kernel_rfl) (of_decide_eq_true (by kernel_rfl)) k0 bel lt0) trodAll_mk0), rfl, bel.frame _, fun h => by cases h⟩
theorem over : Rows.treeCopiesRow.holds Try.pinned (OpenSpec.ofChange Rows.treeCopiesSpec) :=
 OpenClaim.holds_of_wide 3 Try.f3 rfl rfl rfl rfl rfl rfl rfl ⟨rfl, rfl, rfl, rfl, rfl⟩ rfl rfl rfl rfl rfl (by kernel_rfl) Try.func3 (by kernel_rfl)
  (of_decide_eq_true (by kernel_rfl)) (by unfold Func.isWrapper; first | (rw [if_pos (by decide +kernel)]; kernel_rfl) | (rw [if_neg (by decide +kernel)]; exact ⟨rfl, rfl⟩))
  (fun os started H enc _ => lifted os started H enc)
theorem proved : Rows.TreeCopiesSaid := over
#print axioms proved
end Go.Proofs.Ytbpnfpckoapdbaa.treeCopies
namespace Go.Proofs.Ytbpnfpckoapdbaa
/-- The row, under a short name, for the claim. -/
theorem treeCopies_holds : Rows.TreeCopiesSaid := treeCopies.proved
end Go.Proofs.Ytbpnfpckoapdbaa
end

/- The law ValidLess holds for every input that the row lets in (text 3 of 5; some of it the words and functions that the kit's print and this claim's programs wrote) -/
import Derived.Test.YtbpnfpckoapdbaaDoorQValidLess1
section
namespace Go.Proofs.YtbpnfpckoapdbaaDoor.PV20
open Go.RowKit Go.Proofs.YtbpnfpckoapdbaaDoor.M Go.Proofs.YtbpnfpckoapdbaaDoor.KD Go.Proofs.YtbpnfpckoapdbaaDoor Go.Proofs.YtbpnfpckoapdbaaDoorW.PrintWords Go.Proofs.YtbpnfpckoapdbaaDoorW.PrintLast Go.Proofs.YtbpnfpckoapdbaaDoorW.PrintMore
attribute [local go_sem] max2_int min2_int max_two min_two max_three min_three max_four min_four   -- for this text's walks alone
set_option linter.unusedVariables false
set_option linter.unusedSimpArgs false
def valid_Val.T9 : Bool × List (List Nat × List Nat) := (true, [([], []), ([0], [0]), ([1], [1]), ([2], [2]), ([3], [3]), ([4, 3], [3, 4]), ([5, 3], [3, 5]), ([3, 6], [3, 6]), ([7, 3], [7]), ([8], [8]), ([9, 8], [8, 9]), ([10, 8], [8, 10]), ([11, 8], [8, 11]), ([8, 12], [8, 12]), ([13, 8], [13]), ([14], [14]), ([14], [14]), ([16, 14], [14, 16]), ([14], [14]), ([18, 14], [14, 18]), ([19, 14], [14, 19]), ([20, 14], [14, 20]), ([15, 17, 21, 14, 14], [14, 15, 17, 21]), ([14, 22], [14, 22]), ([23, 22, 0, 1, 2, 3, 4, 5, 6, 7, 8, 9, 10, 11, 12, 13, 14, 15, 16, 17, 18, 19, 20, 21, 22, 23], [23])])
def valid_Val.B9 : List Nat := [0, 1, 3, 7, 15, 31, 63, 127, 255, 511, 1023, 2047, 4095, 8191, 16383, 32767, 32767, 98303, 32767, 294911, 819199, 1867775, 4194303, 8388607, 16777215]
theorem valid_Val.tab9 : rtab .any (opsOf Tryd.f12 9) = valid_Val.T9 := by kernel_rfl
theorem valid_Val.bits9 : waitsOk valid_Val.T9.2 valid_Val.B9 = true := by kernel_rfl
set_option maxHeartbeats 8000000 in
set_option maxRecDepth 100000 in
theorem valid_Val.callsR (k : Nat) (ih_valid_Tree : ∀ k_, k_ < k → ∀ (A0_0 : Option Addr) (c0_0 : Nat) (l0_0 : List (S48)) (A0_1 : Option Addr) (c0_1 : Nat) (l0_1 : List (S52)) (a1 : ByteArray) (A2_0 : Option Addr) (c2_0 : Nat) (l2_0 : List (S43)) (A2_1 : Option Addr) (c2_1 : Nat) (l2_1 : List (S63)) (r : Bool) (w : World) (hT : Tabs w) (hr0_0 : Kd.C k48 w A0_0 l0_0.length l0_0) (hc0_0 : l0_0.length ≤ c0_0) (hr0_1 : Kd.C k52 w A0_1 l0_1.length l0_1) (hc0_1 : l0_1.length ≤ c0_1) (hr2_0 : Kd.C k43 w A2_0 l2_0.length l2_0) (hc2_0 : l2_0.length ≤ c2_0) (hr2_1 : Kd.C k63 w A2_1 l2_1.length l2_1) (hc2_1 : l2_1.length ≤ c2_1) (h_ : valid_Tree.f k_ l0_0 l0_1 a1 l2_0 l2_1 = some r), Calls Tryd.prog 9 #[.agg #[.slice A0_0 l0_0.length c0_0, .slice A0_1 l0_1.length c0_1], .string a1, .agg #[.slice A2_0 l2_0.length c2_0, .slice A2_1 l2_1.length c2_1]] w fun e w' => e = .returned (.bool r) ∧ Below w.heap.size w w') (ih_valid_Val : ∀ k_, k_ < k → ∀ (A0_0 : Option Addr) (c0_0 : Nat) (l0_0 : List (S48)) (A0_1 : Option Addr) (c0_1 : Nat) (l0_1 : List (S52)) (a1_0 : ByteArray) (a1_1 : Int) (a1_2 : Int) (a1_3 : ByteArray) (a1_4 : Bool) (a1_5 : Bool) (a1_6 : ByteArray) (a2_0 : Int) (a2_1 : ByteArray) (A2_2 : Option Addr) (c2_2 : Nat) (l2_2 : List (S29)) (r : Bool) (w : World) (hT : Tabs w) (hr0_0 : Kd.C k48 w A0_0 l0_0.length l0_0) (hc0_0 : l0_0.length ≤ c0_0) (hr0_1 : Kd.C k52 w A0_1 l0_1.length l0_1) (hc0_1 : l0_1.length ≤ c0_1) (hr2_2 : Kd.C k29 w A2_2 l2_2.length l2_2) (hc2_2 : l2_2.length ≤ c2_2) (h_ : valid_Val.f k_ l0_0 l0_1 a1_0 a1_1 a1_2 a1_3 a1_4 a1_5 a1_6 a2_0 a2_1 l2_2 = some r), Calls Tryd.prog 12 #[.agg #[.slice A0_0 l0_0.length c0_0, .slice A0_1 l0_1.length c0_1], .agg #[.string a1_0, .int .i64 a1_1, .int .i64 a1_2, .string a1_3, .bool a1_4, .bool a1_5, .string a1_6], .agg #[.int .u64 a2_0, .string a2_1, .slice A2_2 l2_2.length c2_2]] w fun e w' => e = .returned (.bool r) ∧ Below w.heap.size w w') (ih_valid_slots : ∀ k_, k_ < k → ∀ (A0_0 : Option Addr) (c0_0 : Nat) (l0_0 : List (S48)) (A0_1 : Option Addr) (c0_1 : Nat) (l0_1 : List (S52)) (a1_0 : ByteArray) (A1_1 : Option Addr) (c1_1 : Nat) (l1_1 : List (S36)) (A1_2 : Option Addr) (c1_2 : Nat) (l1_2 : List Int) (A2 : Option Addr) (c2 : Nat) (l2 : List (S43)) (r : Bool) (w : World) (hT : Tabs w) (hr0_0 : Kd.C k48 w A0_0 l0_0.length l0_0) (hc0_0 : l0_0.length ≤ c0_0) (hr0_1 : Kd.C k52 w A0_1 l0_1.length l0_1) (hc0_1 : l0_1.length ≤ c0_1) (hr1_1 : Kd.C k36 w A1_1 l1_1.length l1_1) (hc1_1 : l1_1.length ≤ c1_1) (hr1_2 : Kd.C (Kd.int .i64) w A1_2 l1_2.length l1_2) (hc1_2 : l1_2.length ≤ c1_2) (hr2 : Kd.C k43 w A2 l2.length l2) (hc2 : l2.length ≤ c2) (h_ : valid_slots.f k_ l0_0 l0_1 a1_0 l1_1 l1_2 l2 = some r), Calls Tryd.prog 18 #[.agg #[.slice A0_0 l0_0.length c0_0, .slice A0_1 l0_1.length c0_1], .agg #[.string a1_0, .slice A1_1 l1_1.length c1_1, .slice A1_2 l1_2.length c1_2], .slice A2 l2.length c2] w fun e w' => e = .returned (.bool r) ∧ Below w.heap.size w w') (ih_valid_vals : ∀ k_, k_ < k → ∀ (A0_0 : Option Addr) (c0_0 : Nat) (l0_0 : List (S48)) (A0_1 : Option Addr) (c0_1 : Nat) (l0_1 : List (S52)) (a1_0 : ByteArray) (a1_1 : Int) (a1_2 : Int) (a1_3 : ByteArray) (a1_4 : Bool) (a1_5 : Bool) (a1_6 : ByteArray) (A2 : Option Addr) (c2 : Nat) (l2 : List (S40)) (r : Bool) (w : World) (hT : Tabs w) (hr0_0 : Kd.C k48 w A0_0 l0_0.length l0_0) (hc0_0 : l0_0.length ≤ c0_0) (hr0_1 : Kd.C k52 w A0_1 l0_1.length l0_1) (hc0_1 : l0_1.length ≤ c0_1) (hr2 : Kd.C k40 w A2 l2.length l2) (hc2 : l2.length ≤ c2) (h_ : valid_vals.f k_ l0_0 l0_1 a1_0 a1_1 a1_2 a1_3 a1_4 a1_5 a1_6 l2 = some r), Calls Tryd.prog 31 #[.agg #[.slice A0_0 l0_0.length c0_0, .slice A0_1 l0_1.length c0_1], .agg #[.string a1_0, .int .i64 a1_1, .int .i64 a1_2, .string a1_3, .bool a1_4, .bool a1_5, .string a1_6], .slice A2 l2.length c2] w fun e w' => e = .returned (.bool r) ∧ Below w.heap.size w w') : ∀ (A0_0 : Option Addr) (c0_0 : Nat) (l0_0 : List (S48)) (A0_1 : Option Addr) (c0_1 : Nat) (l0_1 : List (S52)) (a1_0 : ByteArray) (a1_1 : Int) (a1_2 : Int) (a1_3 : ByteArray) (a1_4 : Bool) (a1_5 : Bool) (a1_6 : ByteArray) (a2_0 : Int) (a2_1 : ByteArray) (A2_2 : Option Addr) (c2_2 : Nat) (l2_2 : List (S29)) (r : Bool) (w : World) (hT : Tabs w) (hr0_0 : Kd.C k48 w A0_0 l0_0.length l0_0) (hc0_0 : l0_0.length ≤ c0_0) (hr0_1 : Kd.C k52 w A0_1 l0_1.length l0_1) (hc0_1 : l0_1.length ≤ c0_1) (hr2_2 : Kd.C k29 w A2_2 l2_2.length l2_2) (hc2_2 : l2_2.length ≤ c2_2) (h : valid_Val.f k l0_0 l0_1 a1_0 a1_1 a1_2 a1_3 a1_4 a1_5 a1_6 a2_0 a2_1 l2_2 = some r),
  Calls Tryd.prog 12 #[.agg #[.slice A0_0 l0_0.length c0_0, .slice A0_1 l0_1.length c0_1], .agg #[.string a1_0, .int .i64 a1_1, .int .i64 a1_2, .string a1_3, .bool a1_4, .bool a1_5, .string a1_6], .agg #[.int .u64 a2_0, .string a2_1, .slice A2_2 l2_2.length c2_2]] w fun e w' => e = .returned (.bool r) ∧ Below w.heap.size w w' := by
 intro A0_0 c0_0 l0_0 A0_1 c0_1 l0_1 a1_0 a1_1 a1_2 a1_3 a1_4 a1_5 a1_6 a2_0 a2_1 A2_2 c2_2 l2_2 r w hT hr0_0 hc0_0 hr0_1 hc0_1 hr2_2 hc2_2 h
 have HU8 := Aside0.mk hT
 clear hT
 cases k with
 | zero => exact absurd h (by simp [valid_Val.f])
 | succ k =>
 simp only [valid_Val.f] at h
 have hu25 := Tryd.underlying25
 have hu36 := Tryd.underlying36
 have hu40 := Tryd.underlying40
 have hu29 := Tryd.underlying29
 have HR0_0 := Aside0.mk hr0_0
 have HC0_0 := Aside0.mk hc0_0
 clear hr0_0 hc0_0
 have HR0_1 := Aside0.mk hr0_1
 have HC0_1 := Aside0.mk hc0_1
 clear hr0_1 hc0_1
 have HR2_2 := Aside0.mk hr2_2
 have HC2_2 := Aside0.mk hc2_2
 clear hr2_2 hc2_2
 have HB := Aside0.mk (Below.refl w.heap.size w)
 have H : (if a2_0 = 0 then (valid_Val.j0 k ((l2_2.length : Int) == 0) l0_0 l0_1 a1_0 a1_1 a1_2 a1_3 a1_4 a1_5 a1_6 a2_0 a2_1 l2_2) else (valid_Val.j0 k false l0_0 l0_1 a1_0 a1_1 a1_2 a1_3 a1_4 a1_5 a1_6 a2_0 a2_1 l2_2)) = some r := h
 clear h
 have HC4 := Aside0.mk H
 clear H
 go_enter Tryd.func12, Tryd.ntmps12
 go_upto_region 1 with (first | ((with_reducible refine gate_dst (N := 3) rfl ?_); (try (refine gate_guard (by rfl) ?_; dsimp only)); refine box_event ?hg (N := 3) ?hd (cs := #[.slice A0_0 l0_0.length c0_0, .slice A0_1 l0_1.length c0_1]) (t := 25) ?hr ?_; (case hd => rfl); (case hg => rfl); (case hr => first | (go_simp; done) | (go_simp; rfl)); intro gb144 hg w5 hbox hb; have n0_ := Aside0.mk (below_step HB.out hb); have n1_ := Aside0.mk (hbox); clear HB; have HB := n0_; have BK144 := n1_; clear n0_ n1_; clear hb hbox hg) | ((with_reducible refine gate_dst (N := 4) rfl ?_); (try (refine gate_guard (by rfl) ?_; dsimp only)); refine box_event ?hg (N := 4) ?hd (cs := #[.string a1_0, .int .i64 a1_1, .int .i64 a1_2, .string a1_3, .bool a1_4, .bool a1_5, .string a1_6]) (t := 36) ?hr ?_; (case hd => rfl); (case hg => rfl); (case hr => first | (go_simp; done) | (go_simp; rfl)); intro gb145 hg w6 hbox hb; have n0_ := Aside0.mk (blk_below BK144.out hb); have n1_ := Aside0.mk (below_step HB.out hb); have n2_ := Aside0.mk (hbox); have n5_ := Aside0.mk ((by rw [hg]; exact Nat.ne_of_lt (blk_lt BK144.out) : gb144 ≠ gb145)); have n6_ := Aside0.mk ((by rw [hg]; exact Nat.ne_of_gt (blk_lt BK144.out) : gb145 ≠ gb144)); clear BK144; clear HB; have BK144 := n0_; have HB := n1_; have BK145 := n2_; have NB144_145 := n5_; have NB145_144 := n6_; clear n0_ n1_ n2_ n5_ n6_; clear hb hbox hg) | ((with_reducible refine gate_dst (N := 5) rfl ?_); (try (refine gate_guard (by rfl) ?_; dsimp only)); refine box_event ?hg (N := 5) ?hd (cs := #[.int .u64 a2_0, .string a2_1, .slice A2_2 l2_2.length c2_2]) (t := 40) ?hr ?_; (case hd => rfl); (case hg => rfl); (case hr => first | (go_simp; done) | (go_simp; rfl)); intro gb146 hg w7 hbox hb; have n0_ := Aside0.mk (blk_below BK144.out hb); have n1_ := Aside0.mk (blk_below BK145.out hb); have n2_ := Aside0.mk (below_step HB.out hb); have n3_ := Aside0.mk (hbox); have n6_ := Aside0.mk ((by rw [hg]; exact Nat.ne_of_lt (blk_lt BK144.out) : gb144 ≠ gb146)); have n7_ := Aside0.mk ((by rw [hg]; exact Nat.ne_of_gt (blk_lt BK144.out) : gb146 ≠ gb144)); have n8_ := Aside0.mk ((by rw [hg]; exact Nat.ne_of_lt (blk_lt BK145.out) : gb145 ≠ gb146)); have n9_ := Aside0.mk ((by rw [hg]; exact Nat.ne_of_gt (blk_lt BK145.out) : gb146 ≠ gb145)); clear BK144; clear BK145; clear HB; have BK144 := n0_; have BK145 := n1_; have HB := n2_; have BK146 := n3_; have NB144_146 := n6_; have NB146_144 := n7_; have NB145_146 := n8_; have NB146_145 := n9_; clear n0_ n1_ n2_ n3_ n6_ n7_ n8_ n9_; clear hb hbox hg))
 (try simp only [Act.put, List.setIfInBounds_toArray, List.set_cons_zero, List.set_cons_succ])
 go_cut [7] (fun v7 wc => ∃ (kq : Nat) (x7_3 : Bool), v7 = .bool x7_3 ∧ Aside0 (valid_Val.j0 kq x7_3 l0_0 l0_1 a1_0 a1_1 a1_2 a1_3 a1_4 a1_5 a1_6 a2_0 a2_1 l2_2 = some r) ∧ Aside0 (kq ≤ k) ∧ Aside0 (wc.heap[gb144]? = some (.cells #[(.slice A0_0 l0_0.length c0_0), (.slice A0_1 l0_1.length c0_1)] 25 (0, 0))) ∧ Aside0 (wc.heap[gb145]? = some (.cells #[.string a1_0, .int .i64 a1_1, .int .i64 a1_2, .string a1_3, .bool a1_4, .bool a1_5, .string a1_6] 36 (0, 0))) ∧ Aside0 (wc.heap[gb146]? = some (.cells #[.int .u64 a2_0, .string a2_1, (.slice A2_2 l2_2.length c2_2)] 40 (0, 0))) ∧ Aside0 (Below w.heap.size w wc))
 case first =>
  have H := HC4.out
  clear HC4
  by_cases c8 : a2_0 = 0
  · rw [if_pos c8] at H
    have c8b0 : (a2_0 == 0) = true := beq_iff_eq.mpr c8
    have c8b1 : (a2_0 != 0) = false := bne_eq_false_iff_eq.mpr c8
    clear c8
    (first | skip)
    have H' := Aside0.mk H
    clear H
    have hnb9 := NB146_144.out
    have hnc9 := NB144_146.out
    have hnb10 := NB146_145.out
    have hnc10 := NB145_146.out
    have hcz11_0 : w7.cell? ⟨gb146, 0, none⟩ = some (.int .u64 a2_0) := (blk_cell BK146.out 0).trans rfl
    have hcz11_1 : w7.cell? ⟨gb146, 1, none⟩ = some (.string a2_1) := (blk_cell BK146.out 1).trans rfl
    have hcz11_2 : w7.cell? ⟨gb146, 2, none⟩ = some (.slice A2_2 l2_2.length c2_2) := (blk_cell BK146.out 2).trans rfl
    have hfz11_0 := blk_frozen BK146.out 0
    have hfz11_1 := blk_frozen BK146.out 1
    have hfz11_2 := blk_frozen BK146.out 2
    go_wp2
    go_meet
    case rel => exact ⟨_, (((l2_2.length : Int) == 0)), (by first | rfl ), H', ⟨by first | omega ⟩, ⟨by exact BK144.out⟩, ⟨by exact BK145.out⟩, ⟨by exact BK146.out⟩, ⟨by exact HB.out⟩⟩
  · rw [if_neg c8] at H
    have c8b0 : (a2_0 == 0) = false := beq_eq_false_iff_ne.mpr c8
    have c8b1 : (a2_0 != 0) = true := bne_iff_ne.mpr c8
    (first | skip)
    have H' := Aside0.mk H
    clear H
    have hnb12 := NB146_144.out
    have hnc12 := NB144_146.out
    have hnb13 := NB146_145.out
    have hnc13 := NB145_146.out
    have hcz14_0 : w7.cell? ⟨gb146, 0, none⟩ = some (.int .u64 a2_0) := (blk_cell BK146.out 0).trans rfl
    have hcz14_1 : w7.cell? ⟨gb146, 1, none⟩ = some (.string a2_1) := (blk_cell BK146.out 1).trans rfl
    have hcz14_2 : w7.cell? ⟨gb146, 2, none⟩ = some (.slice A2_2 l2_2.length c2_2) := (blk_cell BK146.out 2).trans rfl
    have hfz14_0 := blk_frozen BK146.out 0
    have hfz14_1 := blk_frozen BK146.out 1
    have hfz14_2 := blk_frozen BK146.out 2
    go_wp2
    go_meet
    case rel => exact ⟨_, (false), (by first | rfl ), H', ⟨by first | omega ⟩, ⟨by exact BK144.out⟩, ⟨by exact BK145.out⟩, ⟨by exact BK146.out⟩, ⟨by exact HB.out⟩⟩
 case rest =>
  clear HC4
  try clear c1
  try clear c2
  try clear p2
  try clear c8
  try clear c8b0
  try clear c8b1
  try clear c9
  try clear c10
  try clear c12
  try clear c13
  try clear hcz11_0
  try clear hcz11_1
  try clear hcz11_2
  try clear hcz14_0
  try clear hcz14_1
  try clear hcz14_2
  try clear hfz11_0
  try clear hfz11_1
  try clear hfz11_2
  try clear hfz14_0
  try clear hfz14_1
  try clear hfz14_2
  obtain ⟨kq, x7_3, rfl, HA, HJ3, BK144, BK145, BK146, HB⟩ := hcut
  cases kq with
  | zero => exact absurd HA.out (by simp [valid_Val.j0])
  | succ kj3 =>
    have H := HA.out
    clear HA
    simp only [valid_Val.j0] at H
    replace H := Option.bind_eq_some_iff.mp H
    obtain ⟨t147, A150, H⟩ := H
    replace H : (if t147 = true then ((scalar_May.f kj3 a1_2 a2_0).bind fun t148 => (if t148 = true then (if a2_1.toList = ([] : List UInt8) then (some ((l2_2.length : Int) == 0)) else (some false)) else (some false))) else (if a1_2 = 12 then (if x7_3 = true then ((utf8_ValidString.f a2_1).bind fun t149 => (some t149)) else (some false)) else (if a1_2 = 13 then (some x7_3) else (if a1_2 = 15 then (if a2_0 = 0 then (if a2_1.toList = ([] : List UInt8) then (if (l2_2.length : Int) = 1 then (if 0 < (l2_2.length : Int) then ((valid_Tree.f kj3 l0_0 l0_1 a1_3 ((rd_T29 l2_2 0).f0) ((rd_T29 l2_2 0).f1)).bind fun t151 => (some t151)) else (none)) else (some false)) else (some false)) else (some false)) else (some false))))) = some r := H
    have A15 := Aside0.mk A150
    clear A150
    by_cases c16 : t147 = true
    · subst c16
      have H1 : ((scalar_May.f kj3 a1_2 a2_0).bind fun t148 => (if t148 = true then (if a2_1.toList = ([] : List UInt8) then (some ((l2_2.length : Int) == 0)) else (some false)) else (some false))) = some r := by rw [if_pos rfl] at H; exact H
      clear H
      have H := H1
      clear H1
      replace H := Option.bind_eq_some_iff.mp H
      obtain ⟨t148, A170, H⟩ := H
      replace H : (if t148 = true then (if a2_1.toList = ([] : List UInt8) then (some ((l2_2.length : Int) == 0)) else (some false)) else (some false)) = some r := H
      have A17 := Aside0.mk A170
      clear A170
      by_cases c18 : t148 = true
      · subst c18
        have H1 : (if a2_1.toList = ([] : List UInt8) then (some ((l2_2.length : Int) == 0)) else (some false)) = some r := by rw [if_pos rfl] at H; exact H
        clear H
        have H := H1
        clear H1
        by_cases c19 : a2_1.toList = ([] : List UInt8)
        · rw [if_pos c19] at H
          have c19b0 : (a2_1.toList == ([] : List UInt8)) = true := beq_iff_eq.mpr c19
          have c19b1 : (a2_1.toList != ([] : List UInt8)) = false := bne_eq_false_iff_eq.mpr c19
          clear c19
          obtain rfl := Option.some.inj H
          have hnb20 := NB145_144.out
          have hnc20 := NB144_145.out
          have hnb21 := NB145_146.out
          have hnc21 := NB146_145.out
          have hcz22_0 : wc.cell? ⟨gb145, 0, none⟩ = some (.string a1_0) := (blk_cell BK145.out 0).trans rfl
          have hcz22_1 : wc.cell? ⟨gb145, 1, none⟩ = some (.int .i64 a1_1) := (blk_cell BK145.out 1).trans rfl
          have hcz22_2 : wc.cell? ⟨gb145, 2, none⟩ = some (.int .i64 a1_2) := (blk_cell BK145.out 2).trans rfl
          have hcz22_3 : wc.cell? ⟨gb145, 3, none⟩ = some (.string a1_3) := (blk_cell BK145.out 3).trans rfl
          have hcz22_4 : wc.cell? ⟨gb145, 4, none⟩ = some (.bool a1_4) := (blk_cell BK145.out 4).trans rfl
          have hcz22_5 : wc.cell? ⟨gb145, 5, none⟩ = some (.bool a1_5) := (blk_cell BK145.out 5).trans rfl
          have hcz22_6 : wc.cell? ⟨gb145, 6, none⟩ = some (.string a1_6) := (blk_cell BK145.out 6).trans rfl
          have hfz22_0 := blk_frozen BK145.out 0
          have hfz22_1 := blk_frozen BK145.out 1
          have hfz22_2 := blk_frozen BK145.out 2
          have hfz22_3 := blk_frozen BK145.out 3
          have hfz22_4 := blk_frozen BK145.out 4
          have hfz22_5 := blk_frozen BK145.out 5
          have hfz22_6 := blk_frozen BK145.out 6
          go_wp2_with (first | ((with_reducible refine gate_callee (f := 23) rfl ?_); refine goesL_ (some 20) rfl rfl Tryd.func23 (by kernel_rfl) rfl #[.int .i64 a1_2] rfl (by (try simp only [List.map_toArray, List.map_cons, List.map_nil]); first | done | rfl | (simp only [List.length_drop, List.length_take]; rfl)) ?_; (with_reducible refine (scalar_Number.calls a1_2 true _ A15.out).mono ?_); rintro e w23 ⟨rfl, hb⟩; refine ⟨_, rfl, ?_⟩; have n0_ := Aside0.mk (blk_below BK144.out hb); have n1_ := Aside0.mk (blk_below BK145.out hb); have n2_ := Aside0.mk (blk_below BK146.out hb); have n3_ := Aside0.mk (below_step HB.out hb); clear BK144; clear BK145; clear BK146; clear HB; have BK144 := n0_; have BK145 := n1_; have BK146 := n2_; have HB := n3_; clear n0_ n1_ n2_ n3_; (try clear hb); (try clear hb2); (try clear hk); (try clear hi); have hcz24_0 : w23.cell? ⟨gb145, 0, none⟩ = some (.string a1_0) := (blk_cell BK145.out 0).trans rfl; have hcz24_1 : w23.cell? ⟨gb145, 1, none⟩ = some (.int .i64 a1_1) := (blk_cell BK145.out 1).trans rfl; have hcz24_2 : w23.cell? ⟨gb145, 2, none⟩ = some (.int .i64 a1_2) := (blk_cell BK145.out 2).trans rfl; have hcz24_3 : w23.cell? ⟨gb145, 3, none⟩ = some (.string a1_3) := (blk_cell BK145.out 3).trans rfl; have hcz24_4 : w23.cell? ⟨gb145, 4, none⟩ = some (.bool a1_4) := (blk_cell BK145.out 4).trans rfl; have hcz24_5 : w23.cell? ⟨gb145, 5, none⟩ = some (.bool a1_5) := (blk_cell BK145.out 5).trans rfl; have hcz24_6 : w23.cell? ⟨gb145, 6, none⟩ = some (.string a1_6) := (blk_cell BK145.out 6).trans rfl; have hfz24_0 := blk_frozen BK145.out 0; have hfz24_1 := blk_frozen BK145.out 1; have hfz24_2 := blk_frozen BK145.out 2; have hfz24_3 := blk_frozen BK145.out 3; have hfz24_4 := blk_frozen BK145.out 4; have hfz24_5 := blk_frozen BK145.out 5; have hfz24_6 := blk_frozen BK145.out 6; have hnb25 := NB146_144.out; have hnc25 := NB144_146.out; have hcz26_0 : w23.cell? ⟨gb146, 0, none⟩ = some (.int .u64 a2_0) := (blk_cell BK146.out 0).trans rfl; have hcz26_1 : w23.cell? ⟨gb146, 1, none⟩ = some (.string a2_1) := (blk_cell BK146.out 1).trans rfl; have hcz26_2 : w23.cell? ⟨gb146, 2, none⟩ = some (.slice A2_2 l2_2.length c2_2) := (blk_cell BK146.out 2).trans rfl; have hfz26_0 := blk_frozen BK146.out 0; have hfz26_1 := blk_frozen BK146.out 1; have hfz26_2 := blk_frozen BK146.out 2) | ((with_reducible refine gate_callee (f := 24) rfl ?_); refine goesL_ (some 25) rfl rfl Tryd.func24 (by kernel_rfl) rfl #[.int .i64 a1_2, .int .u64 a2_0] rfl (by (try simp only [List.map_toArray, List.map_cons, List.map_nil]); first | done | rfl | (simp only [List.length_drop, List.length_take]; rfl)) ?_; (with_reducible refine (scalar_May.calls kj3 a1_2 a2_0 true _ A17.out).mono ?_); rintro e w27 ⟨rfl, hb⟩; refine ⟨_, rfl, ?_⟩; have n0_ := Aside0.mk (blk_below BK144.out hb); have n1_ := Aside0.mk (blk_below BK145.out hb); have n2_ := Aside0.mk (blk_below BK146.out hb); have n3_ := Aside0.mk (below_step HB.out hb); clear BK144; clear BK145; clear BK146; clear HB; have BK144 := n0_; have BK145 := n1_; have BK146 := n2_; have HB := n3_; clear n0_ n1_ n2_ n3_; (try clear hb); (try clear hb2); (try clear hk); (try clear hi); have hcz28_0 : w27.cell? ⟨gb146, 0, none⟩ = some (.int .u64 a2_0) := (blk_cell BK146.out 0).trans rfl; have hcz28_1 : w27.cell? ⟨gb146, 1, none⟩ = some (.string a2_1) := (blk_cell BK146.out 1).trans rfl; have hcz28_2 : w27.cell? ⟨gb146, 2, none⟩ = some (.slice A2_2 l2_2.length c2_2) := (blk_cell BK146.out 2).trans rfl; have hfz28_0 := blk_frozen BK146.out 0; have hfz28_1 := blk_frozen BK146.out 1; have hfz28_2 := blk_frozen BK146.out 2))
          go_ret
          exact ⟨by first | rfl , by exact HB.out⟩
        · rw [if_neg c19] at H
          have c19b0 : (a2_1.toList == ([] : List UInt8)) = false := beq_eq_false_iff_ne.mpr c19
          have c19b1 : (a2_1.toList != ([] : List UInt8)) = true := bne_iff_ne.mpr c19
          obtain rfl := Option.some.inj H
          have hnb29 := NB145_144.out
          have hnc29 := NB144_145.out
          have hnb30 := NB145_146.out
          have hnc30 := NB146_145.out
          have hcz31_0 : wc.cell? ⟨gb145, 0, none⟩ = some (.string a1_0) := (blk_cell BK145.out 0).trans rfl
          have hcz31_1 : wc.cell? ⟨gb145, 1, none⟩ = some (.int .i64 a1_1) := (blk_cell BK145.out 1).trans rfl
          have hcz31_2 : wc.cell? ⟨gb145, 2, none⟩ = some (.int .i64 a1_2) := (blk_cell BK145.out 2).trans rfl
          have hcz31_3 : wc.cell? ⟨gb145, 3, none⟩ = some (.string a1_3) := (blk_cell BK145.out 3).trans rfl
          have hcz31_4 : wc.cell? ⟨gb145, 4, none⟩ = some (.bool a1_4) := (blk_cell BK145.out 4).trans rfl
          have hcz31_5 : wc.cell? ⟨gb145, 5, none⟩ = some (.bool a1_5) := (blk_cell BK145.out 5).trans rfl
          have hcz31_6 : wc.cell? ⟨gb145, 6, none⟩ = some (.string a1_6) := (blk_cell BK145.out 6).trans rfl
          have hfz31_0 := blk_frozen BK145.out 0
          have hfz31_1 := blk_frozen BK145.out 1
          have hfz31_2 := blk_frozen BK145.out 2
          have hfz31_3 := blk_frozen BK145.out 3
          have hfz31_4 := blk_frozen BK145.out 4
          have hfz31_5 := blk_frozen BK145.out 5
          have hfz31_6 := blk_frozen BK145.out 6
          go_wp2_with (first | ((with_reducible refine gate_callee (f := 23) rfl ?_); refine goesL_ (some 20) rfl rfl Tryd.func23 (by kernel_rfl) rfl #[.int .i64 a1_2] rfl (by (try simp only [List.map_toArray, List.map_cons, List.map_nil]); first | done | rfl | (simp only [List.length_drop, List.length_take]; rfl)) ?_; (with_reducible refine (scalar_Number.calls a1_2 true _ A15.out).mono ?_); rintro e w32 ⟨rfl, hb⟩; refine ⟨_, rfl, ?_⟩; have n0_ := Aside0.mk (blk_below BK144.out hb); have n1_ := Aside0.mk (blk_below BK145.out hb); have n2_ := Aside0.mk (blk_below BK146.out hb); have n3_ := Aside0.mk (below_step HB.out hb); clear BK144; clear BK145; clear BK146; clear HB; have BK144 := n0_; have BK145 := n1_; have BK146 := n2_; have HB := n3_; clear n0_ n1_ n2_ n3_; (try clear hb); (try clear hb2); (try clear hk); (try clear hi); have hcz33_0 : w32.cell? ⟨gb145, 0, none⟩ = some (.string a1_0) := (blk_cell BK145.out 0).trans rfl; have hcz33_1 : w32.cell? ⟨gb145, 1, none⟩ = some (.int .i64 a1_1) := (blk_cell BK145.out 1).trans rfl; have hcz33_2 : w32.cell? ⟨gb145, 2, none⟩ = some (.int .i64 a1_2) := (blk_cell BK145.out 2).trans rfl; have hcz33_3 : w32.cell? ⟨gb145, 3, none⟩ = some (.string a1_3) := (blk_cell BK145.out 3).trans rfl; have hcz33_4 : w32.cell? ⟨gb145, 4, none⟩ = some (.bool a1_4) := (blk_cell BK145.out 4).trans rfl; have hcz33_5 : w32.cell? ⟨gb145, 5, none⟩ = some (.bool a1_5) := (blk_cell BK145.out 5).trans rfl; have hcz33_6 : w32.cell? ⟨gb145, 6, none⟩ = some (.string a1_6) := (blk_cell BK145.out 6).trans rfl; have hfz33_0 := blk_frozen BK145.out 0; have hfz33_1 := blk_frozen BK145.out 1; have hfz33_2 := blk_frozen BK145.out 2; have hfz33_3 := blk_frozen BK145.out 3; have hfz33_4 := blk_frozen BK145.out 4; have hfz33_5 := blk_frozen BK145.out 5; have hfz33_6 := blk_frozen BK145.out 6; have hnb34 := NB146_144.out; have hnc34 := NB144_146.out; have hcz35_0 : w32.cell? ⟨gb146, 0, none⟩ = some (.int .u64 a2_0) := (blk_cell BK146.out 0).trans rfl; have hcz35_1 : w32.cell? ⟨gb146, 1, none⟩ = some (.string a2_1) := (blk_cell BK146.out 1).trans rfl; have hcz35_2 : w32.cell? ⟨gb146, 2, none⟩ = some (.slice A2_2 l2_2.length c2_2) := (blk_cell BK146.out 2).trans rfl; have hfz35_0 := blk_frozen BK146.out 0; have hfz35_1 := blk_frozen BK146.out 1; have hfz35_2 := blk_frozen BK146.out 2) | ((with_reducible refine gate_callee (f := 24) rfl ?_); refine goesL_ (some 25) rfl rfl Tryd.func24 (by kernel_rfl) rfl #[.int .i64 a1_2, .int .u64 a2_0] rfl (by (try simp only [List.map_toArray, List.map_cons, List.map_nil]); first | done | rfl | (simp only [List.length_drop, List.length_take]; rfl)) ?_; (with_reducible refine (scalar_May.calls kj3 a1_2 a2_0 true _ A17.out).mono ?_); rintro e w36 ⟨rfl, hb⟩; refine ⟨_, rfl, ?_⟩; have n0_ := Aside0.mk (blk_below BK144.out hb); have n1_ := Aside0.mk (blk_below BK145.out hb); have n2_ := Aside0.mk (blk_below BK146.out hb); have n3_ := Aside0.mk (below_step HB.out hb); clear BK144; clear BK145; clear BK146; clear HB; have BK144 := n0_; have BK145 := n1_; have BK146 := n2_; have HB := n3_; clear n0_ n1_ n2_ n3_; (try clear hb); (try clear hb2); (try clear hk); (try clear hi); have hcz37_0 : w36.cell? ⟨gb146, 0, none⟩ = some (.int .u64 a2_0) := (blk_cell BK146.out 0).trans rfl; have hcz37_1 : w36.cell? ⟨gb146, 1, none⟩ = some (.string a2_1) := (blk_cell BK146.out 1).trans rfl; have hcz37_2 : w36.cell? ⟨gb146, 2, none⟩ = some (.slice A2_2 l2_2.length c2_2) := (blk_cell BK146.out 2).trans rfl; have hfz37_0 := blk_frozen BK146.out 0; have hfz37_1 := blk_frozen BK146.out 1; have hfz37_2 := blk_frozen BK146.out 2))
          go_ret
          exact ⟨by first | rfl , by exact HB.out⟩
      · replace c18 := Bool.eq_false_iff.mpr c18
        subst c18
        have H1 : (some false) = some r := by rw [if_neg (show ¬ (false = true) by decide)] at H; exact H
        clear H
        have H := H1
        clear H1
        obtain rfl := Option.some.inj H
        have hnb38 := NB145_144.out
        have hnc38 := NB144_145.out
        have hnb39 := NB145_146.out
        have hnc39 := NB146_145.out
        have hcz40_0 : wc.cell? ⟨gb145, 0, none⟩ = some (.string a1_0) := (blk_cell BK145.out 0).trans rfl
        have hcz40_1 : wc.cell? ⟨gb145, 1, none⟩ = some (.int .i64 a1_1) := (blk_cell BK145.out 1).trans rfl
        have hcz40_2 : wc.cell? ⟨gb145, 2, none⟩ = some (.int .i64 a1_2) := (blk_cell BK145.out 2).trans rfl
        have hcz40_3 : wc.cell? ⟨gb145, 3, none⟩ = some (.string a1_3) := (blk_cell BK145.out 3).trans rfl
        have hcz40_4 : wc.cell? ⟨gb145, 4, none⟩ = some (.bool a1_4) := (blk_cell BK145.out 4).trans rfl
        have hcz40_5 : wc.cell? ⟨gb145, 5, none⟩ = some (.bool a1_5) := (blk_cell BK145.out 5).trans rfl
        have hcz40_6 : wc.cell? ⟨gb145, 6, none⟩ = some (.string a1_6) := (blk_cell BK145.out 6).trans rfl
        have hfz40_0 := blk_frozen BK145.out 0
        have hfz40_1 := blk_frozen BK145.out 1
        have hfz40_2 := blk_frozen BK145.out 2
        have hfz40_3 := blk_frozen BK145.out 3
        have hfz40_4 := blk_frozen BK145.out 4
        have hfz40_5 := blk_frozen BK145.out 5
        have hfz40_6 := blk_frozen BK145.out 6
        go_wp2_with (first | ((with_reducible refine gate_callee (f := 23) rfl ?_); refine goesL_ (some 20) rfl rfl Tryd.func23 (by kernel_rfl) rfl #[.int .i64 a1_2] rfl (by (try simp only [List.map_toArray, List.map_cons, List.map_nil]); first | done | rfl | (simp only [List.length_drop, List.length_take]; rfl)) ?_; (with_reducible refine (scalar_Number.calls a1_2 true _ A15.out).mono ?_); rintro e w41 ⟨rfl, hb⟩; refine ⟨_, rfl, ?_⟩; have n0_ := Aside0.mk (blk_below BK144.out hb); have n1_ := Aside0.mk (blk_below BK145.out hb); have n2_ := Aside0.mk (blk_below BK146.out hb); have n3_ := Aside0.mk (below_step HB.out hb); clear BK144; clear BK145; clear BK146; clear HB; have BK144 := n0_; have BK145 := n1_; have BK146 := n2_; have HB := n3_; clear n0_ n1_ n2_ n3_; (try clear hb); (try clear hb2); (try clear hk); (try clear hi); have hcz42_0 : w41.cell? ⟨gb145, 0, none⟩ = some (.string a1_0) := (blk_cell BK145.out 0).trans rfl; have hcz42_1 : w41.cell? ⟨gb145, 1, none⟩ = some (.int .i64 a1_1) := (blk_cell BK145.out 1).trans rfl; have hcz42_2 : w41.cell? ⟨gb145, 2, none⟩ = some (.int .i64 a1_2) := (blk_cell BK145.out 2).trans rfl; have hcz42_3 : w41.cell? ⟨gb145, 3, none⟩ = some (.string a1_3) := (blk_cell BK145.out 3).trans rfl; have hcz42_4 : w41.cell? ⟨gb145, 4, none⟩ = some (.bool a1_4) := (blk_cell BK145.out 4).trans rfl; have hcz42_5 : w41.cell? ⟨gb145, 5, none⟩ = some (.bool a1_5) := (blk_cell BK145.out 5).trans rfl; have hcz42_6 : w41.cell? ⟨gb145, 6, none⟩ = some (.string a1_6) := (blk_cell BK145.out 6).trans rfl; have hfz42_0 := blk_frozen BK145.out 0; have hfz42_1 := blk_frozen BK145.out 1; have hfz42_2 := blk_frozen BK145.out 2; have hfz42_3 := blk_frozen BK145.out 3; have hfz42_4 := blk_frozen BK145.out 4; have hfz42_5 := blk_frozen BK145.out 5; have hfz42_6 := blk_frozen BK145.out 6; have hnb43 := NB146_144.out; have hnc43 := NB144_146.out; have hcz44_0 : w41.cell? ⟨gb146, 0, none⟩ = some (.int .u64 a2_0) := (blk_cell BK146.out 0).trans rfl; have hcz44_1 : w41.cell? ⟨gb146, 1, none⟩ = some (.string a2_1) := (blk_cell BK146.out 1).trans rfl; have hcz44_2 : w41.cell? ⟨gb146, 2, none⟩ = some (.slice A2_2 l2_2.length c2_2) := (blk_cell BK146.out 2).trans rfl; have hfz44_0 := blk_frozen BK146.out 0; have hfz44_1 := blk_frozen BK146.out 1; have hfz44_2 := blk_frozen BK146.out 2) | ((with_reducible refine gate_callee (f := 24) rfl ?_); refine goesL_ (some 25) rfl rfl Tryd.func24 (by kernel_rfl) rfl #[.int .i64 a1_2, .int .u64 a2_0] rfl (by (try simp only [List.map_toArray, List.map_cons, List.map_nil]); first | done | rfl | (simp only [List.length_drop, List.length_take]; rfl)) ?_; (with_reducible refine (scalar_May.calls kj3 a1_2 a2_0 false _ A17.out).mono ?_); rintro e w45 ⟨rfl, hb⟩; refine ⟨_, rfl, ?_⟩; have n0_ := Aside0.mk (blk_below BK144.out hb); have n1_ := Aside0.mk (blk_below BK145.out hb); have n2_ := Aside0.mk (blk_below BK146.out hb); have n3_ := Aside0.mk (below_step HB.out hb); clear BK144; clear BK145; clear BK146; clear HB; have BK144 := n0_; have BK145 := n1_; have BK146 := n2_; have HB := n3_; clear n0_ n1_ n2_ n3_; (try clear hb); (try clear hb2); (try clear hk); (try clear hi)))
        go_ret
        exact ⟨by first | rfl , by exact HB.out⟩
    · replace c16 := Bool.eq_false_iff.mpr c16
      subst c16
      have H1 : (if a1_2 = 12 then (if x7_3 = true then ((utf8_ValidString.f a2_1).bind fun t149 => (some t149)) else (some false)) else (if a1_2 = 13 then (some x7_3) else (if a1_2 = 15 then (if a2_0 = 0 then (if a2_1.toList = ([] : List UInt8) then (if (l2_2.length : Int) = 1 then (if 0 < (l2_2.length : Int) then ((valid_Tree.f kj3 l0_0 l0_1 a1_3 ((rd_T29 l2_2 0).f0) ((rd_T29 l2_2 0).f1)).bind fun t151 => (some t151)) else (none)) else (some false)) else (some false)) else (some false)) else (some false)))) = some r := by rw [if_neg (show ¬ (false = true) by decide)] at H; exact H
      clear H
      have H := H1
      clear H1
      by_cases c46 : a1_2 = 12
      · rw [if_pos c46] at H
        have c46b0 : (a1_2 == 12) = true := beq_iff_eq.mpr c46
        have c46b1 : (a1_2 != 12) = false := bne_eq_false_iff_eq.mpr c46
        clear c46
        by_cases c47 : x7_3 = true
        · subst c47
          have H1 : ((utf8_ValidString.f a2_1).bind fun t149 => (some t149)) = some r := by rw [if_pos rfl] at H; exact H
          clear H
          have H := H1
          clear H1
          replace H := Option.bind_eq_some_iff.mp H
          obtain ⟨t149, A480, H⟩ := H
          replace H : (some t149) = some r := H
          have A48 := Aside0.mk A480
          clear A480
          obtain rfl := Option.some.inj H
          have hnb49 := NB145_144.out
          have hnc49 := NB144_145.out
          have hnb50 := NB145_146.out
          have hnc50 := NB146_145.out
          have hcz51_0 : wc.cell? ⟨gb145, 0, none⟩ = some (.string a1_0) := (blk_cell BK145.out 0).trans rfl
          have hcz51_1 : wc.cell? ⟨gb145, 1, none⟩ = some (.int .i64 a1_1) := (blk_cell BK145.out 1).trans rfl
          have hcz51_2 : wc.cell? ⟨gb145, 2, none⟩ = some (.int .i64 a1_2) := (blk_cell BK145.out 2).trans rfl
          have hcz51_3 : wc.cell? ⟨gb145, 3, none⟩ = some (.string a1_3) := (blk_cell BK145.out 3).trans rfl
          have hcz51_4 : wc.cell? ⟨gb145, 4, none⟩ = some (.bool a1_4) := (blk_cell BK145.out 4).trans rfl
          have hcz51_5 : wc.cell? ⟨gb145, 5, none⟩ = some (.bool a1_5) := (blk_cell BK145.out 5).trans rfl
          have hcz51_6 : wc.cell? ⟨gb145, 6, none⟩ = some (.string a1_6) := (blk_cell BK145.out 6).trans rfl
          have hfz51_0 := blk_frozen BK145.out 0
          have hfz51_1 := blk_frozen BK145.out 1
          have hfz51_2 := blk_frozen BK145.out 2
          have hfz51_3 := blk_frozen BK145.out 3
          have hfz51_4 := blk_frozen BK145.out 4
          have hfz51_5 := blk_frozen BK145.out 5
          have hfz51_6 := blk_frozen BK145.out 6
          go_wp2_with (first | ((with_reducible refine gate_callee (f := 23) rfl ?_); refine goesL_ (some 20) rfl rfl Tryd.func23 (by kernel_rfl) rfl #[.int .i64 a1_2] rfl (by (try simp only [List.map_toArray, List.map_cons, List.map_nil]); first | done | rfl | (simp only [List.length_drop, List.length_take]; rfl)) ?_; (with_reducible refine (scalar_Number.calls a1_2 false _ A15.out).mono ?_); rintro e w52 ⟨rfl, hb⟩; refine ⟨_, rfl, ?_⟩; have n0_ := Aside0.mk (blk_below BK144.out hb); have n1_ := Aside0.mk (blk_below BK145.out hb); have n2_ := Aside0.mk (blk_below BK146.out hb); have n3_ := Aside0.mk (below_step HB.out hb); clear BK144; clear BK145; clear BK146; clear HB; have BK144 := n0_; have BK145 := n1_; have BK146 := n2_; have HB := n3_; clear n0_ n1_ n2_ n3_; (try clear hb); (try clear hb2); (try clear hk); (try clear hi); have hcz53_0 : w52.cell? ⟨gb145, 0, none⟩ = some (.string a1_0) := (blk_cell BK145.out 0).trans rfl; have hcz53_1 : w52.cell? ⟨gb145, 1, none⟩ = some (.int .i64 a1_1) := (blk_cell BK145.out 1).trans rfl; have hcz53_2 : w52.cell? ⟨gb145, 2, none⟩ = some (.int .i64 a1_2) := (blk_cell BK145.out 2).trans rfl; have hcz53_3 : w52.cell? ⟨gb145, 3, none⟩ = some (.string a1_3) := (blk_cell BK145.out 3).trans rfl; have hcz53_4 : w52.cell? ⟨gb145, 4, none⟩ = some (.bool a1_4) := (blk_cell BK145.out 4).trans rfl; have hcz53_5 : w52.cell? ⟨gb145, 5, none⟩ = some (.bool a1_5) := (blk_cell BK145.out 5).trans rfl; have hcz53_6 : w52.cell? ⟨gb145, 6, none⟩ = some (.string a1_6) := (blk_cell BK145.out 6).trans rfl; have hfz53_0 := blk_frozen BK145.out 0; have hfz53_1 := blk_frozen BK145.out 1; have hfz53_2 := blk_frozen BK145.out 2; have hfz53_3 := blk_frozen BK145.out 3; have hfz53_4 := blk_frozen BK145.out 4; have hfz53_5 := blk_frozen BK145.out 5; have hfz53_6 := blk_frozen BK145.out 6; have hnb54 := NB146_144.out; have hnc54 := NB144_146.out; have hcz55_0 : w52.cell? ⟨gb146, 0, none⟩ = some (.int .u64 a2_0) := (blk_cell BK146.out 0).trans rfl; have hcz55_1 : w52.cell? ⟨gb146, 1, none⟩ = some (.string a2_1) := (blk_cell BK146.out 1).trans rfl; have hcz55_2 : w52.cell? ⟨gb146, 2, none⟩ = some (.slice A2_2 l2_2.length c2_2) := (blk_cell BK146.out 2).trans rfl; have hfz55_0 := blk_frozen BK146.out 0; have hfz55_1 := blk_frozen BK146.out 1; have hfz55_2 := blk_frozen BK146.out 2) | (go_at_call 25; (with_reducible refine (utf8_ValidString.calls a2_1 t149 _ ?sideT A48.out).mono ?_); (case sideT => exact Tabs.below HU8.out HB.out); rintro e w56 ⟨rfl, hb⟩; have n0_ := Aside0.mk (blk_below BK144.out hb); have n1_ := Aside0.mk (blk_below BK145.out hb); have n2_ := Aside0.mk (blk_below BK146.out hb); have n3_ := Aside0.mk (below_step HB.out hb); clear BK144; clear BK145; clear BK146; clear HB; have BK144 := n0_; have BK145 := n1_; have BK146 := n2_; have HB := n3_; clear n0_ n1_ n2_ n3_; (try clear hb); (try clear hb2); (try clear hk); (try clear hi)))
          go_ret
          exact ⟨by first | rfl , by exact HB.out⟩
        · replace c47 := Bool.eq_false_iff.mpr c47
          subst c47
          have H1 : (some false) = some r := by rw [if_neg (show ¬ (false = true) by decide)] at H; exact H
          clear H
          have H := H1
          clear H1
          obtain rfl := Option.some.inj H
          have hnb57 := NB145_144.out
          have hnc57 := NB144_145.out
          have hnb58 := NB145_146.out
          have hnc58 := NB146_145.out
          have hcz59_0 : wc.cell? ⟨gb145, 0, none⟩ = some (.string a1_0) := (blk_cell BK145.out 0).trans rfl
          have hcz59_1 : wc.cell? ⟨gb145, 1, none⟩ = some (.int .i64 a1_1) := (blk_cell BK145.out 1).trans rfl
          have hcz59_2 : wc.cell? ⟨gb145, 2, none⟩ = some (.int .i64 a1_2) := (blk_cell BK145.out 2).trans rfl
          have hcz59_3 : wc.cell? ⟨gb145, 3, none⟩ = some (.string a1_3) := (blk_cell BK145.out 3).trans rfl
          have hcz59_4 : wc.cell? ⟨gb145, 4, none⟩ = some (.bool a1_4) := (blk_cell BK145.out 4).trans rfl
          have hcz59_5 : wc.cell? ⟨gb145, 5, none⟩ = some (.bool a1_5) := (blk_cell BK145.out 5).trans rfl
          have hcz59_6 : wc.cell? ⟨gb145, 6, none⟩ = some (.string a1_6) := (blk_cell BK145.out 6).trans rfl
          have hfz59_0 := blk_frozen BK145.out 0
          have hfz59_1 := blk_frozen BK145.out 1
          have hfz59_2 := blk_frozen BK145.out 2
          have hfz59_3 := blk_frozen BK145.out 3
          have hfz59_4 := blk_frozen BK145.out 4
          have hfz59_5 := blk_frozen BK145.out 5
          have hfz59_6 := blk_frozen BK145.out 6
          go_wp2_with (first | ((with_reducible refine gate_callee (f := 23) rfl ?_); refine goesL_ (some 20) rfl rfl Tryd.func23 (by kernel_rfl) rfl #[.int .i64 a1_2] rfl (by (try simp only [List.map_toArray, List.map_cons, List.map_nil]); first | done | rfl | (simp only [List.length_drop, List.length_take]; rfl)) ?_; (with_reducible refine (scalar_Number.calls a1_2 false _ A15.out).mono ?_); rintro e w60 ⟨rfl, hb⟩; refine ⟨_, rfl, ?_⟩; have n0_ := Aside0.mk (blk_below BK144.out hb); have n1_ := Aside0.mk (blk_below BK145.out hb); have n2_ := Aside0.mk (blk_below BK146.out hb); have n3_ := Aside0.mk (below_step HB.out hb); clear BK144; clear BK145; clear BK146; clear HB; have BK144 := n0_; have BK145 := n1_; have BK146 := n2_; have HB := n3_; clear n0_ n1_ n2_ n3_; (try clear hb); (try clear hb2); (try clear hk); (try clear hi); have hcz61_0 : w60.cell? ⟨gb145, 0, none⟩ = some (.string a1_0) := (blk_cell BK145.out 0).trans rfl; have hcz61_1 : w60.cell? ⟨gb145, 1, none⟩ = some (.int .i64 a1_1) := (blk_cell BK145.out 1).trans rfl; have hcz61_2 : w60.cell? ⟨gb145, 2, none⟩ = some (.int .i64 a1_2) := (blk_cell BK145.out 2).trans rfl; have hcz61_3 : w60.cell? ⟨gb145, 3, none⟩ = some (.string a1_3) := (blk_cell BK145.out 3).trans rfl; have hcz61_4 : w60.cell? ⟨gb145, 4, none⟩ = some (.bool a1_4) := (blk_cell BK145.out 4).trans rfl; have hcz61_5 : w60.cell? ⟨gb145, 5, none⟩ = some (.bool a1_5) := (blk_cell BK145.out 5).trans rfl; have hcz61_6 : w60.cell? ⟨gb145, 6, none⟩ = some (.string a1_6) := (blk_cell BK145.out 6).trans rfl; have hfz61_0 := blk_frozen BK145.out 0; have hfz61_1 := blk_frozen BK145.out 1; have hfz61_2 := blk_frozen BK145.out 2; have hfz61_3 := blk_frozen BK145.out 3; have hfz61_4 := blk_frozen BK145.out 4; have hfz61_5 := blk_frozen BK145.out 5; have hfz61_6 := blk_frozen BK145.out 6))
          go_ret
          exact ⟨by first | rfl , by exact HB.out⟩
      · rw [if_neg c46] at H
        have c46b0 : (a1_2 == 12) = false := beq_eq_false_iff_ne.mpr c46
        have c46b1 : (a1_2 != 12) = true := bne_iff_ne.mpr c46
        by_cases c62 : a1_2 = 13
        · rw [if_pos c62] at H
          have c62b0 : (a1_2 == 13) = true := beq_iff_eq.mpr c62
          have c62b1 : (a1_2 != 13) = false := bne_eq_false_iff_eq.mpr c62
          clear c62
          obtain rfl := Option.some.inj H
          have hnb63 := NB145_144.out
          have hnc63 := NB144_145.out
          have hnb64 := NB145_146.out
          have hnc64 := NB146_145.out
          have hcz65_0 : wc.cell? ⟨gb145, 0, none⟩ = some (.string a1_0) := (blk_cell BK145.out 0).trans rfl
          have hcz65_1 : wc.cell? ⟨gb145, 1, none⟩ = some (.int .i64 a1_1) := (blk_cell BK145.out 1).trans rfl
          have hcz65_2 : wc.cell? ⟨gb145, 2, none⟩ = some (.int .i64 a1_2) := (blk_cell BK145.out 2).trans rfl
          have hcz65_3 : wc.cell? ⟨gb145, 3, none⟩ = some (.string a1_3) := (blk_cell BK145.out 3).trans rfl
          have hcz65_4 : wc.cell? ⟨gb145, 4, none⟩ = some (.bool a1_4) := (blk_cell BK145.out 4).trans rfl
          have hcz65_5 : wc.cell? ⟨gb145, 5, none⟩ = some (.bool a1_5) := (blk_cell BK145.out 5).trans rfl
          have hcz65_6 : wc.cell? ⟨gb145, 6, none⟩ = some (.string a1_6) := (blk_cell BK145.out 6).trans rfl
          have hfz65_0 := blk_frozen BK145.out 0
          have hfz65_1 := blk_frozen BK145.out 1
          have hfz65_2 := blk_frozen BK145.out 2
          have hfz65_3 := blk_frozen BK145.out 3
          have hfz65_4 := blk_frozen BK145.out 4
          have hfz65_5 := blk_frozen BK145.out 5
          have hfz65_6 := blk_frozen BK145.out 6
          go_wp2_with (first | ((with_reducible refine gate_callee (f := 23) rfl ?_); refine goesL_ (some 20) rfl rfl Tryd.func23 (by kernel_rfl) rfl #[.int .i64 a1_2] rfl (by (try simp only [List.map_toArray, List.map_cons, List.map_nil]); first | done | rfl | (simp only [List.length_drop, List.length_take]; rfl)) ?_; (with_reducible refine (scalar_Number.calls a1_2 false _ A15.out).mono ?_); rintro e w66 ⟨rfl, hb⟩; refine ⟨_, rfl, ?_⟩; have n0_ := Aside0.mk (blk_below BK144.out hb); have n1_ := Aside0.mk (blk_below BK145.out hb); have n2_ := Aside0.mk (blk_below BK146.out hb); have n3_ := Aside0.mk (below_step HB.out hb); clear BK144; clear BK145; clear BK146; clear HB; have BK144 := n0_; have BK145 := n1_; have BK146 := n2_; have HB := n3_; clear n0_ n1_ n2_ n3_; (try clear hb); (try clear hb2); (try clear hk); (try clear hi); have hcz67_0 : w66.cell? ⟨gb145, 0, none⟩ = some (.string a1_0) := (blk_cell BK145.out 0).trans rfl; have hcz67_1 : w66.cell? ⟨gb145, 1, none⟩ = some (.int .i64 a1_1) := (blk_cell BK145.out 1).trans rfl; have hcz67_2 : w66.cell? ⟨gb145, 2, none⟩ = some (.int .i64 a1_2) := (blk_cell BK145.out 2).trans rfl; have hcz67_3 : w66.cell? ⟨gb145, 3, none⟩ = some (.string a1_3) := (blk_cell BK145.out 3).trans rfl; have hcz67_4 : w66.cell? ⟨gb145, 4, none⟩ = some (.bool a1_4) := (blk_cell BK145.out 4).trans rfl; have hcz67_5 : w66.cell? ⟨gb145, 5, none⟩ = some (.bool a1_5) := (blk_cell BK145.out 5).trans rfl; have hcz67_6 : w66.cell? ⟨gb145, 6, none⟩ = some (.string a1_6) := (blk_cell BK145.out 6).trans rfl; have hfz67_0 := blk_frozen BK145.out 0; have hfz67_1 := blk_frozen BK145.out 1; have hfz67_2 := blk_frozen BK145.out 2; have hfz67_3 := blk_frozen BK145.out 3; have hfz67_4 := blk_frozen BK145.out 4; have hfz67_5 := blk_frozen BK145.out 5; have hfz67_6 := blk_frozen BK145.out 6))
          go_ret
          exact ⟨by first | rfl , by exact HB.out⟩
        · rw [if_neg c62] at H
          have c62b0 : (a1_2 == 13) = false := beq_eq_false_iff_ne.mpr c62
          have c62b1 : (a1_2 != 13) = true := bne_iff_ne.mpr c62
          by_cases c68 : a1_2 = 15
          · rw [if_pos c68] at H
            have c68b0 : (a1_2 == 15) = true := beq_iff_eq.mpr c68
            have c68b1 : (a1_2 != 15) = false := bne_eq_false_iff_eq.mpr c68
            clear c68
            by_cases c69 : a2_0 = 0
            · rw [if_pos c69] at H
              have c69b0 : (a2_0 == 0) = true := beq_iff_eq.mpr c69
              have c69b1 : (a2_0 != 0) = false := bne_eq_false_iff_eq.mpr c69
              clear c69
              by_cases c70 : a2_1.toList = ([] : List UInt8)
              · rw [if_pos c70] at H
                have c70b0 : (a2_1.toList == ([] : List UInt8)) = true := beq_iff_eq.mpr c70
                have c70b1 : (a2_1.toList != ([] : List UInt8)) = false := bne_eq_false_iff_eq.mpr c70
                clear c70
                by_cases c71 : (l2_2.length : Int) = 1
                · rw [if_pos c71] at H
                  have c71b0 : ((l2_2.length : Int) == 1) = true := beq_iff_eq.mpr c71
                  have c71b1 : ((l2_2.length : Int) != 1) = false := bne_eq_false_iff_eq.mpr c71
                  clear c71
                  by_cases c72 : 0 < (l2_2.length : Int)
                  · rw [if_pos c72] at H
                    have c72b0 : decide (0 < (l2_2.length : Int)) = true := decide_eq_true c72
                    have c72b1 : decide (0 < l2_2.length) = true := decide_eq_true (by omega)
                    clear c72
                    replace H := Option.bind_eq_some_iff.mp H
                    obtain ⟨t151, A730, H⟩ := H
                    replace H : (some t151) = some r := H
                    have A73 := Aside0.mk A730
                    clear A730
                    obtain rfl := Option.some.inj H
                    have hnb74 := NB145_144.out
                    have hnc74 := NB144_145.out
                    have hnb75 := NB145_146.out
                    have hnc75 := NB146_145.out
                    have hcz76_0 : wc.cell? ⟨gb145, 0, none⟩ = some (.string a1_0) := (blk_cell BK145.out 0).trans rfl
                    have hcz76_1 : wc.cell? ⟨gb145, 1, none⟩ = some (.int .i64 a1_1) := (blk_cell BK145.out 1).trans rfl
                    have hcz76_2 : wc.cell? ⟨gb145, 2, none⟩ = some (.int .i64 a1_2) := (blk_cell BK145.out 2).trans rfl
                    have hcz76_3 : wc.cell? ⟨gb145, 3, none⟩ = some (.string a1_3) := (blk_cell BK145.out 3).trans rfl
                    have hcz76_4 : wc.cell? ⟨gb145, 4, none⟩ = some (.bool a1_4) := (blk_cell BK145.out 4).trans rfl
                    have hcz76_5 : wc.cell? ⟨gb145, 5, none⟩ = some (.bool a1_5) := (blk_cell BK145.out 5).trans rfl
                    have hcz76_6 : wc.cell? ⟨gb145, 6, none⟩ = some (.string a1_6) := (blk_cell BK145.out 6).trans rfl
                    have hfz76_0 := blk_frozen BK145.out 0
                    have hfz76_1 := blk_frozen BK145.out 1
                    have hfz76_2 := blk_frozen BK145.out 2
                    have hfz76_3 := blk_frozen BK145.out 3
                    have hfz76_4 := blk_frozen BK145.out 4
                    have hfz76_5 := blk_frozen BK145.out 5
                    have hfz76_6 := blk_frozen BK145.out 6
                    try go_wp2_with (first | ((with_reducible refine gate_callee (f := 23) rfl ?_); refine goesL_ (some 20) rfl rfl Tryd.func23 (by kernel_rfl) rfl #[.int .i64 a1_2] rfl (by (try simp only [List.map_toArray, List.map_cons, List.map_nil]); first | done | rfl | (simp only [List.length_drop, List.length_take]; rfl)) ?_; (with_reducible refine (scalar_Number.calls a1_2 false _ A15.out).mono ?_); rintro e w77 ⟨rfl, hb⟩; refine ⟨_, rfl, ?_⟩; have n0_ := Aside0.mk (blk_below BK144.out hb); have n1_ := Aside0.mk (blk_below BK145.out hb); have n2_ := Aside0.mk (blk_below BK146.out hb); have n3_ := Aside0.mk (below_step HB.out hb); clear BK144; clear BK145; clear BK146; clear HB; have BK144 := n0_; have BK145 := n1_; have BK146 := n2_; have HB := n3_; clear n0_ n1_ n2_ n3_; (try clear hb); (try clear hb2); (try clear hk); (try clear hi); have hcz78_0 : w77.cell? ⟨gb145, 0, none⟩ = some (.string a1_0) := (blk_cell BK145.out 0).trans rfl; have hcz78_1 : w77.cell? ⟨gb145, 1, none⟩ = some (.int .i64 a1_1) := (blk_cell BK145.out 1).trans rfl; have hcz78_2 : w77.cell? ⟨gb145, 2, none⟩ = some (.int .i64 a1_2) := (blk_cell BK145.out 2).trans rfl; have hcz78_3 : w77.cell? ⟨gb145, 3, none⟩ = some (.string a1_3) := (blk_cell BK145.out 3).trans rfl; have hcz78_4 : w77.cell? ⟨gb145, 4, none⟩ = some (.bool a1_4) := (blk_cell BK145.out 4).trans rfl; have hcz78_5 : w77.cell? ⟨gb145, 5, none⟩ = some (.bool a1_5) := (blk_cell BK145.out 5).trans rfl; have hcz78_6 : w77.cell? ⟨gb145, 6, none⟩ = some (.string a1_6) := (blk_cell BK145.out 6).trans rfl; have hfz78_0 := blk_frozen BK145.out 0; have hfz78_1 := blk_frozen BK145.out 1; have hfz78_2 := blk_frozen BK145.out 2; have hfz78_3 := blk_frozen BK145.out 3; have hfz78_4 := blk_frozen BK145.out 4; have hfz78_5 := blk_frozen BK145.out 5; have hfz78_6 := blk_frozen BK145.out 6))
                    have n0_ := Aside0.mk (blk_drew BK144.out)
                    have n1_ := Aside0.mk (blk_drew BK145.out)
                    have n2_ := Aside0.mk (blk_drew BK146.out)
                    have n3_ := Aside0.mk (below_drew1 HB.out)
                    clear BK144
                    clear BK145
                    clear BK146
                    clear HB
                    have BK144 := n0_
                    have BK145 := n1_
                    have BK146 := n2_
                    have HB := n3_
                    clear n0_ n1_ n2_ n3_
                    have p150 : 0 ≤ (0 : Int) := (by omega)
                    have q150 : 0 < (l2_2.length : Int) := of_decide_eq_true (by first | (with_reducible assumption) )
                    obtain ⟨ad150, A150_0, c150_0, A150_1, c150_1, e150, hx150_0, hx150_1, hl150_0, hi150_0, hl150_1, hi150_1⟩ := at_T29 HR2_2.out 0 p150 q150
                    have hw150_1 := hx150_1
                    (try rw [show ((0 : Int)).toNat = 0 from rfl] at hw150_1)
                    (try rw [show 0 * 2 = 0 from rfl] at hw150_1)
                    (try rw [Addr.add_zero'] at hw150_1)
                    have hw150_0 := hx150_0
                    (try rw [show ((0 : Int)).toNat = 0 from rfl] at hw150_0)
                    (try rw [show 0 * 2 = 0 from rfl] at hw150_0)
                    (try rw [Addr.add_zero'] at hw150_0)
                    cases e150
                    have qi150 : (0 < l2_2.length) = True := eq_true (by omega)
                    (try rw [show ((0 : Int)).toNat = 0 from rfl] at hx150_0)
                    (try rw [show 0 * 2 = 0 from rfl] at hx150_0)
                    (try rw [Addr.add_zero'] at hx150_0)
                    (try rw [show ((0 : Int)).toNat = 0 from rfl] at hx150_1)
                    (try rw [show 0 * 2 = 0 from rfl] at hx150_1)
                    (try rw [Addr.add_zero'] at hx150_1)
                    replace hx150_0 := (HB.out.cell (World.block_lt_of_cell? w _ hx150_0)).trans hx150_0
                    replace hx150_1 := (HB.out.cell (World.block_lt_of_cell? w _ hx150_1)).trans hx150_1
                    have HR150_0 := Aside0.mk hi150_0
                    have HC150_0 := Aside0.mk hl150_0
                    clear hi150_0 hl150_0
                    have HR150_1 := Aside0.mk hi150_1
                    have HC150_1 := Aside0.mk hl150_1
                    clear hi150_1 hl150_1
                    replace p150 := eq_true p150
                    replace q150 := eq_true q150
                    refine start_ (n := 25) (S := fun w' => w'.cell? ⟨gb146, 0, none⟩ = some (.int .u64 a2_0) ∧ w'.cell? ⟨gb146, 1, none⟩ = some (.string a2_1) ∧ w'.cell? ⟨gb146, 2, none⟩ = some (.slice (some ad150) l2_2.length c2_2) ∧ w'.cell? ⟨gb144, 0, none⟩ = some (.slice A0_0 l0_0.length c0_0) ∧ w'.cell? ⟨gb144, 1, none⟩ = some (.slice A0_1 l0_1.length c0_1) ∧ w'.cell? ⟨gb145, 0, none⟩ = some (.string a1_0) ∧ w'.cell? ⟨gb145, 1, none⟩ = some (.int .i64 a1_1) ∧ w'.cell? ⟨gb145, 2, none⟩ = some (.int .i64 a1_2) ∧ w'.cell? ⟨gb145, 3, none⟩ = some (.string a1_3) ∧ w'.cell? ⟨gb145, 4, none⟩ = some (.bool a1_4) ∧ w'.cell? ⟨gb145, 5, none⟩ = some (.bool a1_5) ∧ w'.cell? ⟨gb145, 6, none⟩ = some (.string a1_6) ∧ w'.cell? ad150 = some (.slice A150_0 ((rd_T29 l2_2 0).f0).length c150_0) ∧ w'.cell? ⟨ad150.block, ad150.off + 1, none⟩ = some (.slice A150_1 ((rd_T29 l2_2 0).f1).length c150_1)) (ds := []) #[false, false, false, false, false, false, false, false, false, false, false, false, false, false, false, false, false, false, false, false, false, false, false, false, false] (by kernel_rfl) rfl rfl ⟨(blk_cell BK146.out 0).trans rfl, (blk_cell BK146.out 1).trans rfl, (blk_cell BK146.out 2).trans rfl, (blk_cell BK144.out 0).trans rfl, (blk_cell BK144.out 1).trans rfl, (blk_cell BK145.out 0).trans rfl, (blk_cell BK145.out 1).trans rfl, (blk_cell BK145.out 2).trans rfl, (blk_cell BK145.out 3).trans rfl, (blk_cell BK145.out 4).trans rfl, (blk_cell BK145.out 5).trans rfl, (blk_cell BK145.out 6).trans rfl, ((HB.out.cell (World.block_lt_of_cell? w _ hw150_0)).trans hw150_0), ((HB.out.cell (World.block_lt_of_cell? w _ hw150_1)).trans hw150_1)⟩ (fun hHeld => ?_); refine with_tabW valid_Val.tab9 valid_Val.bits9 (fun HT_ HW_ => ?_)
                    generalize w77.drew = w79 at BK144 BK145 BK146 HB HR150_0 HR150_1 hx150_0 hx150_1 hHeld ⊢
                    refine zp 0 (zb 25 1) ?_ rfl rfl HT_ (by kernel_rfl) (fun _ _ _ h => h) rfl ?_ ?_ ?_ ?_; rotate_left; (intro w'; go_simp; with_reducible rfl); rotate_left; (simp only [zs]; rfl)
                    refine zt 1 (zb 25 3) ?_ rfl rfl HT_ HW_ (by kernel_rfl) (fun _ _ _ h => h) rfl ?_ hHeld ?_ ?_ ?_; rotate_left; (rintro w' ⟨s0, s1, s2, s3, s4, s5, s6, s7, s8, s9, s10, s11, s12, s13⟩; go_simp; with_reducible rfl); rotate_left; (simp only [zs]; rfl)
                    refine zp 2 (zb 25 7) ?_ rfl rfl HT_ (by kernel_rfl) (fun _ _ _ h => h) rfl ?_ ?_ ?_ ?_; rotate_left; (intro w'; go_simp; with_reducible rfl); rotate_left; (simp only [zs]; rfl)
                    refine zp 3 (zb 25 15) ?_ rfl rfl HT_ (by kernel_rfl) (fun _ _ _ h => h) rfl ?_ ?_ ?_ ?_; rotate_left; (intro w'; go_simp; with_reducible rfl); rotate_left; (simp only [zs]; rfl)
                    refine zp 4 (zb 25 31) ?_ rfl rfl HT_ (by kernel_rfl) (fun _ _ _ h => h) rfl ?_ ?_ ?_ ?_; rotate_left; (intro w'; go_simp; with_reducible rfl); rotate_left; (simp only [zs]; rfl)
                    refine zt 5 (zb 25 63) ?_ rfl rfl HT_ HW_ (by kernel_rfl) (fun _ _ _ h => h) rfl ?_ hHeld ?_ ?_ ?_; rotate_left; (rintro w' ⟨s0, s1, s2, s3, s4, s5, s6, s7, s8, s9, s10, s11, s12, s13⟩; go_simp; with_reducible rfl); rotate_left; (simp only [zs]; rfl)
                    refine zp 6 (zb 25 127) ?_ rfl rfl HT_ (by kernel_rfl) (fun _ _ _ h => h) rfl ?_ ?_ ?_ ?_; rotate_left; (intro w'; go_simp; with_reducible rfl); rotate_left; (simp only [zs]; rfl)
                    refine zp 7 (zb 25 255) ?_ rfl rfl HT_ (by kernel_rfl) (fun _ _ _ h => h) rfl ?_ ?_ ?_ ?_; rotate_left; (intro w'; go_simp; with_reducible rfl); rotate_left; (simp only [zs]; rfl)
                    refine zp 8 (zb 25 511) ?_ rfl rfl HT_ (by kernel_rfl) (fun _ _ _ h => h) rfl ?_ ?_ ?_ ?_; rotate_left; (intro w'; go_simp; with_reducible rfl); rotate_left; (simp only [zs]; rfl)
                    refine zp 9 (zb 25 1023) ?_ rfl rfl HT_ (by kernel_rfl) (fun _ _ _ h => h) rfl ?_ ?_ ?_ ?_; rotate_left; (intro w'; go_simp; with_reducible rfl); rotate_left; (simp only [zs]; rfl)
                    refine zt 10 (zb 25 2047) ?_ rfl rfl HT_ HW_ (by kernel_rfl) (fun _ _ _ h => h) rfl ?_ hHeld ?_ ?_ ?_; rotate_left; (rintro w' ⟨s0, s1, s2, s3, s4, s5, s6, s7, s8, s9, s10, s11, s12, s13⟩; go_simp; with_reducible rfl); rotate_left; (simp only [zs]; rfl)
                    refine zp 11 (zb 25 4095) ?_ rfl rfl HT_ (by kernel_rfl) (fun _ _ _ h => h) rfl ?_ ?_ ?_ ?_; rotate_left; (intro w'; go_simp; with_reducible rfl); rotate_left; (simp only [zs]; rfl)
                    refine zp 12 (zb 25 8191) ?_ rfl rfl HT_ (by kernel_rfl) (fun _ _ _ h => h) rfl ?_ ?_ ?_ ?_; rotate_left; (intro w'; go_simp; with_reducible rfl); rotate_left; (simp only [zs]; rfl)
                    refine zp 13 (zb 25 16383) ?_ rfl rfl HT_ (by kernel_rfl) (fun _ _ _ h => h) rfl ?_ ?_ ?_ ?_; rotate_left; (intro w'; go_simp; with_reducible rfl); rotate_left; (simp only [zs]; rfl)
                    refine zp 14 (zb 25 32767) ?_ rfl rfl HT_ (by kernel_rfl) (fun _ _ _ h => h) rfl ?_ ?_ ?_ ?_; rotate_left; (intro w'; go_simp; with_reducible rfl); rotate_left; (simp only [zs]; rfl)
                    refine zp 16 (zb 25 98303) ?_ rfl rfl HT_ (by kernel_rfl) (fun _ _ _ h => h) rfl ?_ ?_ ?_ ?_; rotate_left; (intro w'; go_simp; with_reducible rfl); rotate_left; (simp only [zs]; rfl)
                    refine zp 18 (zb 25 360447) ?_ rfl rfl HT_ (by kernel_rfl) (fun _ _ _ h => h) rfl ?_ ?_ ?_ ?_; rotate_left; (intro w'; go_simp; with_reducible rfl); rotate_left; (simp only [zs]; rfl)
                    refine zt 15 (zb 25 393215) ?_ rfl rfl HT_ HW_ (by kernel_rfl) (fun _ _ _ h => h) rfl ?_ hHeld ?_ ?_ ?_; rotate_left; (rintro w' ⟨s0, s1, s2, s3, s4, s5, s6, s7, s8, s9, s10, s11, s12, s13⟩; go_simp; with_reducible rfl); rotate_left; (simp only [zs]; rfl)
                    refine zt 17 (zb 25 524287) ?_ rfl rfl HT_ HW_ (by kernel_rfl) (fun _ _ _ h => h) rfl ?_ hHeld ?_ ?_ ?_; rotate_left; (rintro w' ⟨s0, s1, s2, s3, s4, s5, s6, s7, s8, s9, s10, s11, s12, s13⟩; go_simp; with_reducible rfl); rotate_left; (simp only [zs]; rfl)
                    refine zt 19 (zb 25 1048575) ?_ rfl rfl HT_ HW_ (by kernel_rfl) (fun _ _ _ h => h) rfl ?_ hHeld ?_ ?_ ?_; rotate_left; (rintro w' ⟨s0, s1, s2, s3, s4, s5, s6, s7, s8, s9, s10, s11, s12, s13⟩; go_simp; with_reducible rfl); rotate_left; (simp only [zs]; rfl)
                    refine zp 20 (zb 25 2097151) ?_ rfl rfl HT_ (by kernel_rfl) (fun _ _ _ h => h) rfl ?_ ?_ ?_ ?_; rotate_left; (intro w'; go_simp; with_reducible rfl); rotate_left; (simp only [zs]; rfl)
                    refine zt 21 (zb 25 4194303) ?_ rfl rfl HT_ HW_ (by kernel_rfl) (fun _ _ _ h => h) rfl ?_ hHeld ?_ ?_ ?_; rotate_left; (rintro w' ⟨s0, s1, s2, s3, s4, s5, s6, s7, s8, s9, s10, s11, s12, s13⟩; go_simp; with_reducible rfl); rotate_left; (simp only [zs]; rfl)
                    refine one_ (i := 22) (N := some 78) #[true, true, true, true, true, true, true, true, true, true, true, true, true, true, true, true, true, true, true, true, true, true, true, false, false] rfl rfl (one_of HT_.out (by kernel_rfl)) (by decide) (fun K hK => ?_)
                    refine goes_ Tryd.func9 (by kernel_rfl) rfl #[.agg #[.slice A0_0 l0_0.length c0_0, .slice A0_1 l0_1.length c0_1], .string a1_3, .agg #[.slice A150_0 ((rd_T29 l2_2 0).f0).length c150_0, .slice A150_1 ((rd_T29 l2_2 0).f1).length c150_1]] (by rfl) rfl rfl (by (try simp only [List.map_toArray, List.map_cons, List.map_nil]); first | done | rfl | (simp only [List.length_drop, List.length_take]; rfl)) ?_
                    with_reducible refine (ih_valid_Tree kj3 (by have := HJ3.out; omega) _ _ l0_0 _ _ l0_1 a1_3 _ _ ((rd_T29 l2_2 0).f0) _ _ ((rd_T29 l2_2 0).f1) t151 _ ?sideT ?side1 ?side2 ?side3 ?side4 ?side5 ?side6 ?side7 ?side8 A73.out).mono ?_
                    case sideT => exact Tabs.below HU8.out HB.out
                    (case side1 => repeat (first | exact (Kd.C_below HR0_0.out HB.out) ))
                    (case side2 => exact HC0_0.out)
                    (case side3 => repeat (first | exact (Kd.C_below HR0_1.out HB.out) ))
                    (case side4 => exact HC0_1.out)
                    (case side5 => repeat (first | exact (Kd.C_below HR150_0.out HB.out) ))
                    (case side6 => exact HC150_0.out)
                    (case side7 => repeat (first | exact (Kd.C_below HR150_1.out HB.out) ))
                    (case side8 => exact HC150_1.out)
                    rintro e w80 ⟨rfl, hb⟩
                    refine ⟨_, rfl, ?_⟩
                    have n0_ := Aside0.mk (blk_below BK144.out hb)
                    have n1_ := Aside0.mk (blk_below BK145.out hb)
                    have n2_ := Aside0.mk (blk_below BK146.out hb)
                    have n3_ := Aside0.mk (below_step HB.out hb)
                    clear BK144
                    clear BK145
                    clear BK146
                    clear HB
                    have BK144 := n0_
                    have BK145 := n1_
                    have BK146 := n2_
                    have HB := n3_
                    clear n0_ n1_ n2_ n3_
                    (try clear hb)
                    (try clear hb2)
                    (try clear hk)
                    (try clear hi)
                    refine hK.out _ _ ⟨(blk_cell BK146.out 0).trans rfl, (blk_cell BK146.out 1).trans rfl, (blk_cell BK146.out 2).trans rfl, (blk_cell BK144.out 0).trans rfl, (blk_cell BK144.out 1).trans rfl, (blk_cell BK145.out 0).trans rfl, (blk_cell BK145.out 1).trans rfl, (blk_cell BK145.out 2).trans rfl, (blk_cell BK145.out 3).trans rfl, (blk_cell BK145.out 4).trans rfl, (blk_cell BK145.out 5).trans rfl, (blk_cell BK145.out 6).trans rfl, ((HB.out.cell (World.block_lt_of_cell? w _ hw150_0)).trans hw150_0), ((HB.out.cell (World.block_lt_of_cell? w _ hw150_1)).trans hw150_1)⟩ (fun hHeld => ?_)
                    clear hK K
                    refine norm_ (a' := ?_) ?_ ?_
                    rotate_left
                    · show Act.put _ (some 78) _ = _
                      simp only [zs]
                      rfl
                    refine zp 23 (zb 25 16777215) ?_ rfl rfl HT_ (by kernel_rfl) (fun _ _ _ h => h) rfl ?_ ?_ ?_ ?_; rotate_left; (intro w'; go_simp; with_reducible rfl); rotate_left; (simp only [zs]; rfl)
                    refine zp 24 (zb 25 33554431) ?_ rfl rfl HT_ (by kernel_rfl) (fun _ _ _ h => h) rfl ?_ ?_ ?_ ?_; rotate_left; (intro w'; go_simp; with_reducible rfl); rotate_left; (simp only [zs]; rfl)
                    refine done_ (done_of HT_.out (by kernel_rfl)) ?_
                    try go_wp2
                    go_ret
                    exact ⟨by first | rfl , by exact HB.out⟩
                  · rw [if_neg c72] at H
                    exact absurd H (by simp)
                · rw [if_neg c71] at H
                  have c71b0 : ((l2_2.length : Int) == 1) = false := beq_eq_false_iff_ne.mpr c71
                  have c71b1 : ((l2_2.length : Int) != 1) = true := bne_iff_ne.mpr c71
                  obtain rfl := Option.some.inj H
                  have hnb81 := NB145_144.out
                  have hnc81 := NB144_145.out
                  have hnb82 := NB145_146.out
                  have hnc82 := NB146_145.out
                  have hcz83_0 : wc.cell? ⟨gb145, 0, none⟩ = some (.string a1_0) := (blk_cell BK145.out 0).trans rfl
                  have hcz83_1 : wc.cell? ⟨gb145, 1, none⟩ = some (.int .i64 a1_1) := (blk_cell BK145.out 1).trans rfl
                  have hcz83_2 : wc.cell? ⟨gb145, 2, none⟩ = some (.int .i64 a1_2) := (blk_cell BK145.out 2).trans rfl
                  have hcz83_3 : wc.cell? ⟨gb145, 3, none⟩ = some (.string a1_3) := (blk_cell BK145.out 3).trans rfl
                  have hcz83_4 : wc.cell? ⟨gb145, 4, none⟩ = some (.bool a1_4) := (blk_cell BK145.out 4).trans rfl
                  have hcz83_5 : wc.cell? ⟨gb145, 5, none⟩ = some (.bool a1_5) := (blk_cell BK145.out 5).trans rfl
                  have hcz83_6 : wc.cell? ⟨gb145, 6, none⟩ = some (.string a1_6) := (blk_cell BK145.out 6).trans rfl
                  have hfz83_0 := blk_frozen BK145.out 0
                  have hfz83_1 := blk_frozen BK145.out 1
                  have hfz83_2 := blk_frozen BK145.out 2
                  have hfz83_3 := blk_frozen BK145.out 3
                  have hfz83_4 := blk_frozen BK145.out 4
                  have hfz83_5 := blk_frozen BK145.out 5
                  have hfz83_6 := blk_frozen BK145.out 6
                  try go_wp2_with (first | ((with_reducible refine gate_callee (f := 23) rfl ?_); refine goesL_ (some 20) rfl rfl Tryd.func23 (by kernel_rfl) rfl #[.int .i64 a1_2] rfl (by (try simp only [List.map_toArray, List.map_cons, List.map_nil]); first | done | rfl | (simp only [List.length_drop, List.length_take]; rfl)) ?_; (with_reducible refine (scalar_Number.calls a1_2 false _ A15.out).mono ?_); rintro e w84 ⟨rfl, hb⟩; refine ⟨_, rfl, ?_⟩; have n0_ := Aside0.mk (blk_below BK144.out hb); have n1_ := Aside0.mk (blk_below BK145.out hb); have n2_ := Aside0.mk (blk_below BK146.out hb); have n3_ := Aside0.mk (below_step HB.out hb); clear BK144; clear BK145; clear BK146; clear HB; have BK144 := n0_; have BK145 := n1_; have BK146 := n2_; have HB := n3_; clear n0_ n1_ n2_ n3_; (try clear hb); (try clear hb2); (try clear hk); (try clear hi); have hcz85_0 : w84.cell? ⟨gb145, 0, none⟩ = some (.string a1_0) := (blk_cell BK145.out 0).trans rfl; have hcz85_1 : w84.cell? ⟨gb145, 1, none⟩ = some (.int .i64 a1_1) := (blk_cell BK145.out 1).trans rfl; have hcz85_2 : w84.cell? ⟨gb145, 2, none⟩ = some (.int .i64 a1_2) := (blk_cell BK145.out 2).trans rfl; have hcz85_3 : w84.cell? ⟨gb145, 3, none⟩ = some (.string a1_3) := (blk_cell BK145.out 3).trans rfl; have hcz85_4 : w84.cell? ⟨gb145, 4, none⟩ = some (.bool a1_4) := (blk_cell BK145.out 4).trans rfl; have hcz85_5 : w84.cell? ⟨gb145, 5, none⟩ = some (.bool a1_5) := (blk_cell BK145.out 5).trans rfl; have hcz85_6 : w84.cell? ⟨gb145, 6, none⟩ = some (.string a1_6) := (blk_cell BK145.out 6).trans rfl; have hfz85_0 := blk_frozen BK145.out 0; have hfz85_1 := blk_frozen BK145.out 1; have hfz85_2 := blk_frozen BK145.out 2; have hfz85_3 := blk_frozen BK145.out 3; have hfz85_4 := blk_frozen BK145.out 4; have hfz85_5 := blk_frozen BK145.out 5; have hfz85_6 := blk_frozen BK145.out 6))
                  have n0_ := Aside0.mk (blk_drew BK144.out)
                  have n1_ := Aside0.mk (blk_drew BK145.out)
                  have n2_ := Aside0.mk (blk_drew BK146.out)
                  have n3_ := Aside0.mk (below_drew1 HB.out)
                  clear BK144
                  clear BK145
                  clear BK146
                  clear HB
                  have BK144 := n0_
                  have BK145 := n1_
                  have BK146 := n2_
                  have HB := n3_
                  clear n0_ n1_ n2_ n3_
                  refine start_ (n := 25) (S := fun w' => w'.cell? ⟨gb146, 0, none⟩ = some (.int .u64 a2_0) ∧ w'.cell? ⟨gb146, 1, none⟩ = some (.string a2_1) ∧ w'.cell? ⟨gb146, 2, none⟩ = some (.slice A2_2 l2_2.length c2_2)) (ds := []) #[false, false, false, false, false, false, false, false, false, false, false, false, false, false, false, false, false, false, false, false, false, false, false, false, false] (by kernel_rfl) rfl rfl ⟨(blk_cell BK146.out 0).trans rfl, (blk_cell BK146.out 1).trans rfl, (blk_cell BK146.out 2).trans rfl⟩ (fun hHeld => ?_); refine with_tabW valid_Val.tab9 valid_Val.bits9 (fun HT_ HW_ => ?_)
                  generalize w84.drew = w86 at BK144 BK145 BK146 HB hHeld ⊢
                  refine zp 0 (zb 25 1) ?_ rfl rfl HT_ (by kernel_rfl) (fun _ _ _ h => h) rfl ?_ ?_ ?_ ?_; rotate_left; (intro w'; go_simp; with_reducible rfl); rotate_left; (simp only [zs]; rfl)
                  refine zt 1 (zb 25 3) ?_ rfl rfl HT_ HW_ (by kernel_rfl) (fun _ _ _ h => h) rfl ?_ hHeld ?_ ?_ ?_; rotate_left; (rintro w' ⟨s0, s1, s2⟩; go_simp; with_reducible rfl); rotate_left; (simp only [zs]; rfl)
                  refine zp 2 (zb 25 7) ?_ rfl rfl HT_ (by kernel_rfl) (fun _ _ _ h => h) rfl ?_ ?_ ?_ ?_; rotate_left; (intro w'; go_simp; with_reducible rfl); rotate_left; (simp only [zs]; rfl)
                  refine zp 3 (zb 25 15) ?_ rfl rfl HT_ (by kernel_rfl) (fun _ _ _ h => h) rfl ?_ ?_ ?_ ?_; rotate_left; (intro w'; go_simp; with_reducible rfl); rotate_left; (simp only [zs]; rfl)
                  refine zp 4 (zb 25 31) ?_ rfl rfl HT_ (by kernel_rfl) (fun _ _ _ h => h) rfl ?_ ?_ ?_ ?_; rotate_left; (intro w'; go_simp; with_reducible rfl); rotate_left; (simp only [zs]; rfl)
                  refine zt 5 (zb 25 63) ?_ rfl rfl HT_ HW_ (by kernel_rfl) (fun _ _ _ h => h) rfl ?_ hHeld ?_ ?_ ?_; rotate_left; (rintro w' ⟨s0, s1, s2⟩; go_simp; with_reducible rfl); rotate_left; (simp only [zs]; rfl)
                  refine zp 6 (zb 25 127) ?_ rfl rfl HT_ (by kernel_rfl) (fun _ _ _ h => h) rfl ?_ ?_ ?_ ?_; rotate_left; (intro w'; go_simp; with_reducible rfl); rotate_left; (simp only [zs]; rfl)
                  refine zp 7 (zb 25 255) ?_ rfl rfl HT_ (by kernel_rfl) (fun _ _ _ h => h) rfl ?_ ?_ ?_ ?_; rotate_left; (intro w'; go_simp; with_reducible rfl); rotate_left; (simp only [zs]; rfl)
                  refine zp 8 (zb 25 511) ?_ rfl rfl HT_ (by kernel_rfl) (fun _ _ _ h => h) rfl ?_ ?_ ?_ ?_; rotate_left; (intro w'; go_simp; with_reducible rfl); rotate_left; (simp only [zs]; rfl)
                  refine zp 9 (zb 25 1023) ?_ rfl rfl HT_ (by kernel_rfl) (fun _ _ _ h => h) rfl ?_ ?_ ?_ ?_; rotate_left; (intro w'; go_simp; with_reducible rfl); rotate_left; (simp only [zs]; rfl)
                  refine zt 10 (zb 25 2047) ?_ rfl rfl HT_ HW_ (by kernel_rfl) (fun _ _ _ h => h) rfl ?_ hHeld ?_ ?_ ?_; rotate_left; (rintro w' ⟨s0, s1, s2⟩; go_simp; with_reducible rfl); rotate_left; (simp only [zs]; rfl)
                  refine zp 11 (zb 25 4095) ?_ rfl rfl HT_ (by kernel_rfl) (fun _ _ _ h => h) rfl ?_ ?_ ?_ ?_; rotate_left; (intro w'; go_simp; with_reducible rfl); rotate_left; (simp only [zs]; rfl)
                  refine zp 12 (zb 25 8191) ?_ rfl rfl HT_ (by kernel_rfl) (fun _ _ _ h => h) rfl ?_ ?_ ?_ ?_; rotate_left; (intro w'; go_simp; with_reducible rfl); rotate_left; (simp only [zs]; rfl)
                  refine zp 13 (zb 25 16383) ?_ rfl rfl HT_ (by kernel_rfl) (fun _ _ _ h => h) rfl ?_ ?_ ?_ ?_; rotate_left; (intro w'; go_simp; with_reducible rfl); rotate_left; (simp only [zs]; rfl)
                  refine zp 14 (zb 25 32767) ?_ rfl rfl HT_ (by kernel_rfl) (fun _ _ _ h => h) rfl ?_ ?_ ?_ ?_; rotate_left; (intro w'; go_simp; with_reducible rfl); rotate_left; (simp only [zs]; rfl)
                  refine zn 15 (zb 25 65535) rfl rfl HT_ (by kernel_rfl) (fun _ _ _ h => h) rfl ?_ ?_ ?_; rotate_left; (simp only [zs]; rfl)
                  refine zn 16 (zb 25 131071) rfl rfl HT_ (by kernel_rfl) (fun _ _ _ h => h) rfl ?_ ?_ ?_; rotate_left; (simp only [zs]; rfl)
                  refine zn 17 (zb 25 262143) rfl rfl HT_ (by kernel_rfl) (fun _ _ _ h => h) rfl ?_ ?_ ?_; rotate_left; (simp only [zs]; rfl)
                  refine zn 18 (zb 25 524287) rfl rfl HT_ (by kernel_rfl) (fun _ _ _ h => h) rfl ?_ ?_ ?_; rotate_left; (simp only [zs]; rfl)
                  refine zn 19 (zb 25 1048575) rfl rfl HT_ (by kernel_rfl) (fun _ _ _ h => h) rfl ?_ ?_ ?_; rotate_left; (simp only [zs]; rfl)
                  refine zn 20 (zb 25 2097151) rfl rfl HT_ (by kernel_rfl) (fun _ _ _ h => h) rfl ?_ ?_ ?_; rotate_left; (simp only [zs]; rfl)
                  refine zn 21 (zb 25 4194303) rfl rfl HT_ (by kernel_rfl) (fun _ _ _ h => h) rfl ?_ ?_ ?_; rotate_left; (simp only [zs]; rfl)
                  refine zn 22 (zb 25 8388607) rfl rfl HT_ (by kernel_rfl) (fun _ _ _ h => h) rfl ?_ ?_ ?_; rotate_left; (simp only [zs]; rfl)
                  refine zp 23 (zb 25 16777215) ?_ rfl rfl HT_ (by kernel_rfl) (fun _ _ _ h => h) rfl ?_ ?_ ?_ ?_; rotate_left; (intro w'; go_simp; with_reducible rfl); rotate_left; (simp only [zs]; rfl)
                  refine zp 24 (zb 25 33554431) ?_ rfl rfl HT_ (by kernel_rfl) (fun _ _ _ h => h) rfl ?_ ?_ ?_ ?_; rotate_left; (intro w'; go_simp; with_reducible rfl); rotate_left; (simp only [zs]; rfl)
                  refine done_ (done_of HT_.out (by kernel_rfl)) ?_
                  try go_wp2
                  go_ret
                  exact ⟨by first | rfl , by exact HB.out⟩
              · rw [if_neg c70] at H
                have c70b0 : (a2_1.toList == ([] : List UInt8)) = false := beq_eq_false_iff_ne.mpr c70
                have c70b1 : (a2_1.toList != ([] : List UInt8)) = true := bne_iff_ne.mpr c70
                obtain rfl := Option.some.inj H
                have hnb87 := NB145_144.out
                have hnc87 := NB144_145.out
                have hnb88 := NB145_146.out
                have hnc88 := NB146_145.out
                have hcz89_0 : wc.cell? ⟨gb145, 0, none⟩ = some (.string a1_0) := (blk_cell BK145.out 0).trans rfl
                have hcz89_1 : wc.cell? ⟨gb145, 1, none⟩ = some (.int .i64 a1_1) := (blk_cell BK145.out 1).trans rfl
                have hcz89_2 : wc.cell? ⟨gb145, 2, none⟩ = some (.int .i64 a1_2) := (blk_cell BK145.out 2).trans rfl
                have hcz89_3 : wc.cell? ⟨gb145, 3, none⟩ = some (.string a1_3) := (blk_cell BK145.out 3).trans rfl
                have hcz89_4 : wc.cell? ⟨gb145, 4, none⟩ = some (.bool a1_4) := (blk_cell BK145.out 4).trans rfl
                have hcz89_5 : wc.cell? ⟨gb145, 5, none⟩ = some (.bool a1_5) := (blk_cell BK145.out 5).trans rfl
                have hcz89_6 : wc.cell? ⟨gb145, 6, none⟩ = some (.string a1_6) := (blk_cell BK145.out 6).trans rfl
                have hfz89_0 := blk_frozen BK145.out 0
                have hfz89_1 := blk_frozen BK145.out 1
                have hfz89_2 := blk_frozen BK145.out 2
                have hfz89_3 := blk_frozen BK145.out 3
                have hfz89_4 := blk_frozen BK145.out 4
                have hfz89_5 := blk_frozen BK145.out 5
                have hfz89_6 := blk_frozen BK145.out 6
                try go_wp2_with (first | ((with_reducible refine gate_callee (f := 23) rfl ?_); refine goesL_ (some 20) rfl rfl Tryd.func23 (by kernel_rfl) rfl #[.int .i64 a1_2] rfl (by (try simp only [List.map_toArray, List.map_cons, List.map_nil]); first | done | rfl | (simp only [List.length_drop, List.length_take]; rfl)) ?_; (with_reducible refine (scalar_Number.calls a1_2 false _ A15.out).mono ?_); rintro e w90 ⟨rfl, hb⟩; refine ⟨_, rfl, ?_⟩; have n0_ := Aside0.mk (blk_below BK144.out hb); have n1_ := Aside0.mk (blk_below BK145.out hb); have n2_ := Aside0.mk (blk_below BK146.out hb); have n3_ := Aside0.mk (below_step HB.out hb); clear BK144; clear BK145; clear BK146; clear HB; have BK144 := n0_; have BK145 := n1_; have BK146 := n2_; have HB := n3_; clear n0_ n1_ n2_ n3_; (try clear hb); (try clear hb2); (try clear hk); (try clear hi); have hcz91_0 : w90.cell? ⟨gb145, 0, none⟩ = some (.string a1_0) := (blk_cell BK145.out 0).trans rfl; have hcz91_1 : w90.cell? ⟨gb145, 1, none⟩ = some (.int .i64 a1_1) := (blk_cell BK145.out 1).trans rfl; have hcz91_2 : w90.cell? ⟨gb145, 2, none⟩ = some (.int .i64 a1_2) := (blk_cell BK145.out 2).trans rfl; have hcz91_3 : w90.cell? ⟨gb145, 3, none⟩ = some (.string a1_3) := (blk_cell BK145.out 3).trans rfl; have hcz91_4 : w90.cell? ⟨gb145, 4, none⟩ = some (.bool a1_4) := (blk_cell BK145.out 4).trans rfl; have hcz91_5 : w90.cell? ⟨gb145, 5, none⟩ = some (.bool a1_5) := (blk_cell BK145.out 5).trans rfl; have hcz91_6 : w90.cell? ⟨gb145, 6, none⟩ = some (.string a1_6) := (blk_cell BK145.out 6).trans rfl; have hfz91_0 := blk_frozen BK145.out 0; have hfz91_1 := blk_frozen BK145.out 1; have hfz91_2 := blk_frozen BK145.out 2; have hfz91_3 := blk_frozen BK145.out 3; have hfz91_4 := blk_frozen BK145.out 4; have hfz91_5 := blk_frozen BK145.out 5; have hfz91_6 := blk_frozen BK145.out 6))
                have n0_ := Aside0.mk (blk_drew BK144.out)
                have n1_ := Aside0.mk (blk_drew BK145.out)
                have n2_ := Aside0.mk (blk_drew BK146.out)
                have n3_ := Aside0.mk (below_drew1 HB.out)
                clear BK144
                clear BK145
                clear BK146
                clear HB
                have BK144 := n0_
                have BK145 := n1_
                have BK146 := n2_
                have HB := n3_
                clear n0_ n1_ n2_ n3_
                refine start_ (n := 25) (S := fun w' => w'.cell? ⟨gb146, 0, none⟩ = some (.int .u64 a2_0) ∧ w'.cell? ⟨gb146, 1, none⟩ = some (.string a2_1) ∧ w'.cell? ⟨gb146, 2, none⟩ = some (.slice A2_2 l2_2.length c2_2)) (ds := []) #[false, false, false, false, false, false, false, false, false, false, false, false, false, false, false, false, false, false, false, false, false, false, false, false, false] (by kernel_rfl) rfl rfl ⟨(blk_cell BK146.out 0).trans rfl, (blk_cell BK146.out 1).trans rfl, (blk_cell BK146.out 2).trans rfl⟩ (fun hHeld => ?_); refine with_tabW valid_Val.tab9 valid_Val.bits9 (fun HT_ HW_ => ?_)
                generalize w90.drew = w92 at BK144 BK145 BK146 HB hHeld ⊢
                refine zp 0 (zb 25 1) ?_ rfl rfl HT_ (by kernel_rfl) (fun _ _ _ h => h) rfl ?_ ?_ ?_ ?_; rotate_left; (intro w'; go_simp; with_reducible rfl); rotate_left; (simp only [zs]; rfl)
                refine zt 1 (zb 25 3) ?_ rfl rfl HT_ HW_ (by kernel_rfl) (fun _ _ _ h => h) rfl ?_ hHeld ?_ ?_ ?_; rotate_left; (rintro w' ⟨s0, s1, s2⟩; go_simp; with_reducible rfl); rotate_left; (simp only [zs]; rfl)
                refine zp 2 (zb 25 7) ?_ rfl rfl HT_ (by kernel_rfl) (fun _ _ _ h => h) rfl ?_ ?_ ?_ ?_; rotate_left; (intro w'; go_simp; with_reducible rfl); rotate_left; (simp only [zs]; rfl)
                refine zp 3 (zb 25 15) ?_ rfl rfl HT_ (by kernel_rfl) (fun _ _ _ h => h) rfl ?_ ?_ ?_ ?_; rotate_left; (intro w'; go_simp; with_reducible rfl); rotate_left; (simp only [zs]; rfl)
                refine zp 4 (zb 25 31) ?_ rfl rfl HT_ (by kernel_rfl) (fun _ _ _ h => h) rfl ?_ ?_ ?_ ?_; rotate_left; (intro w'; go_simp; with_reducible rfl); rotate_left; (simp only [zs]; rfl)
                refine zt 5 (zb 25 63) ?_ rfl rfl HT_ HW_ (by kernel_rfl) (fun _ _ _ h => h) rfl ?_ hHeld ?_ ?_ ?_; rotate_left; (rintro w' ⟨s0, s1, s2⟩; go_simp; with_reducible rfl); rotate_left; (simp only [zs]; rfl)
                refine zp 6 (zb 25 127) ?_ rfl rfl HT_ (by kernel_rfl) (fun _ _ _ h => h) rfl ?_ ?_ ?_ ?_; rotate_left; (intro w'; go_simp; with_reducible rfl); rotate_left; (simp only [zs]; rfl)
                refine zp 7 (zb 25 255) ?_ rfl rfl HT_ (by kernel_rfl) (fun _ _ _ h => h) rfl ?_ ?_ ?_ ?_; rotate_left; (intro w'; go_simp; with_reducible rfl); rotate_left; (simp only [zs]; rfl)
                refine zp 8 (zb 25 511) ?_ rfl rfl HT_ (by kernel_rfl) (fun _ _ _ h => h) rfl ?_ ?_ ?_ ?_; rotate_left; (intro w'; go_simp; with_reducible rfl); rotate_left; (simp only [zs]; rfl)
                refine zn 9 (zb 25 1023) rfl rfl HT_ (by kernel_rfl) (fun _ _ _ h => h) rfl ?_ ?_ ?_; rotate_left; (simp only [zs]; rfl)
                refine zn 10 (zb 25 2047) rfl rfl HT_ (by kernel_rfl) (fun _ _ _ h => h) rfl ?_ ?_ ?_; rotate_left; (simp only [zs]; rfl)
                refine zn 11 (zb 25 4095) rfl rfl HT_ (by kernel_rfl) (fun _ _ _ h => h) rfl ?_ ?_ ?_; rotate_left; (simp only [zs]; rfl)
                refine zn 12 (zb 25 8191) rfl rfl HT_ (by kernel_rfl) (fun _ _ _ h => h) rfl ?_ ?_ ?_; rotate_left; (simp only [zs]; rfl)
                refine zp 13 (zb 25 16383) ?_ rfl rfl HT_ (by kernel_rfl) (fun _ _ _ h => h) rfl ?_ ?_ ?_ ?_; rotate_left; (intro w'; go_simp; with_reducible rfl); rotate_left; (simp only [zs]; rfl)
                refine zp 14 (zb 25 32767) ?_ rfl rfl HT_ (by kernel_rfl) (fun _ _ _ h => h) rfl ?_ ?_ ?_ ?_; rotate_left; (intro w'; go_simp; with_reducible rfl); rotate_left; (simp only [zs]; rfl)
                refine zn 15 (zb 25 65535) rfl rfl HT_ (by kernel_rfl) (fun _ _ _ h => h) rfl ?_ ?_ ?_; rotate_left; (simp only [zs]; rfl)
                refine zn 16 (zb 25 131071) rfl rfl HT_ (by kernel_rfl) (fun _ _ _ h => h) rfl ?_ ?_ ?_; rotate_left; (simp only [zs]; rfl)
                refine zn 17 (zb 25 262143) rfl rfl HT_ (by kernel_rfl) (fun _ _ _ h => h) rfl ?_ ?_ ?_; rotate_left; (simp only [zs]; rfl)
                refine zn 18 (zb 25 524287) rfl rfl HT_ (by kernel_rfl) (fun _ _ _ h => h) rfl ?_ ?_ ?_; rotate_left; (simp only [zs]; rfl)
                refine zn 19 (zb 25 1048575) rfl rfl HT_ (by kernel_rfl) (fun _ _ _ h => h) rfl ?_ ?_ ?_; rotate_left; (simp only [zs]; rfl)
                refine zn 20 (zb 25 2097151) rfl rfl HT_ (by kernel_rfl) (fun _ _ _ h => h) rfl ?_ ?_ ?_; rotate_left; (simp only [zs]; rfl)
                refine zn 21 (zb 25 4194303) rfl rfl HT_ (by kernel_rfl) (fun _ _ _ h => h) rfl ?_ ?_ ?_; rotate_left; (simp only [zs]; rfl)
                refine zn 22 (zb 25 8388607) rfl rfl HT_ (by kernel_rfl) (fun _ _ _ h => h) rfl ?_ ?_ ?_; rotate_left; (simp only [zs]; rfl)
                refine zp 23 (zb 25 16777215) ?_ rfl rfl HT_ (by kernel_rfl) (fun _ _ _ h => h) rfl ?_ ?_ ?_ ?_; rotate_left; (intro w'; go_simp; with_reducible rfl); rotate_left; (simp only [zs]; rfl)
                refine zp 24 (zb 25 33554431) ?_ rfl rfl HT_ (by kernel_rfl) (fun _ _ _ h => h) rfl ?_ ?_ ?_ ?_; rotate_left; (intro w'; go_simp; with_reducible rfl); rotate_left; (simp only [zs]; rfl)
                refine done_ (done_of HT_.out (by kernel_rfl)) ?_
                try go_wp2
                go_ret
                exact ⟨by first | rfl , by exact HB.out⟩
            · rw [if_neg c69] at H
              have c69b0 : (a2_0 == 0) = false := beq_eq_false_iff_ne.mpr c69
              have c69b1 : (a2_0 != 0) = true := bne_iff_ne.mpr c69
              obtain rfl := Option.some.inj H
              have hnb93 := NB145_144.out
              have hnc93 := NB144_145.out
              have hnb94 := NB145_146.out
              have hnc94 := NB146_145.out
              have hcz95_0 : wc.cell? ⟨gb145, 0, none⟩ = some (.string a1_0) := (blk_cell BK145.out 0).trans rfl
              have hcz95_1 : wc.cell? ⟨gb145, 1, none⟩ = some (.int .i64 a1_1) := (blk_cell BK145.out 1).trans rfl
              have hcz95_2 : wc.cell? ⟨gb145, 2, none⟩ = some (.int .i64 a1_2) := (blk_cell BK145.out 2).trans rfl
              have hcz95_3 : wc.cell? ⟨gb145, 3, none⟩ = some (.string a1_3) := (blk_cell BK145.out 3).trans rfl
              have hcz95_4 : wc.cell? ⟨gb145, 4, none⟩ = some (.bool a1_4) := (blk_cell BK145.out 4).trans rfl
              have hcz95_5 : wc.cell? ⟨gb145, 5, none⟩ = some (.bool a1_5) := (blk_cell BK145.out 5).trans rfl
              have hcz95_6 : wc.cell? ⟨gb145, 6, none⟩ = some (.string a1_6) := (blk_cell BK145.out 6).trans rfl
              have hfz95_0 := blk_frozen BK145.out 0
              have hfz95_1 := blk_frozen BK145.out 1
              have hfz95_2 := blk_frozen BK145.out 2
              have hfz95_3 := blk_frozen BK145.out 3
              have hfz95_4 := blk_frozen BK145.out 4
              have hfz95_5 := blk_frozen BK145.out 5
              have hfz95_6 := blk_frozen BK145.out 6
              try go_wp2_with (first | ((with_reducible refine gate_callee (f := 23) rfl ?_); refine goesL_ (some 20) rfl rfl Tryd.func23 (by kernel_rfl) rfl #[.int .i64 a1_2] rfl (by (try simp only [List.map_toArray, List.map_cons, List.map_nil]); first | done | rfl | (simp only [List.length_drop, List.length_take]; rfl)) ?_; (with_reducible refine (scalar_Number.calls a1_2 false _ A15.out).mono ?_); rintro e w96 ⟨rfl, hb⟩; refine ⟨_, rfl, ?_⟩; have n0_ := Aside0.mk (blk_below BK144.out hb); have n1_ := Aside0.mk (blk_below BK145.out hb); have n2_ := Aside0.mk (blk_below BK146.out hb); have n3_ := Aside0.mk (below_step HB.out hb); clear BK144; clear BK145; clear BK146; clear HB; have BK144 := n0_; have BK145 := n1_; have BK146 := n2_; have HB := n3_; clear n0_ n1_ n2_ n3_; (try clear hb); (try clear hb2); (try clear hk); (try clear hi); have hcz97_0 : w96.cell? ⟨gb145, 0, none⟩ = some (.string a1_0) := (blk_cell BK145.out 0).trans rfl; have hcz97_1 : w96.cell? ⟨gb145, 1, none⟩ = some (.int .i64 a1_1) := (blk_cell BK145.out 1).trans rfl; have hcz97_2 : w96.cell? ⟨gb145, 2, none⟩ = some (.int .i64 a1_2) := (blk_cell BK145.out 2).trans rfl; have hcz97_3 : w96.cell? ⟨gb145, 3, none⟩ = some (.string a1_3) := (blk_cell BK145.out 3).trans rfl; have hcz97_4 : w96.cell? ⟨gb145, 4, none⟩ = some (.bool a1_4) := (blk_cell BK145.out 4).trans rfl; have hcz97_5 : w96.cell? ⟨gb145, 5, none⟩ = some (.bool a1_5) := (blk_cell BK145.out 5).trans rfl; have hcz97_6 : w96.cell? ⟨gb145, 6, none⟩ = some (.string a1_6) := (blk_cell BK145.out 6).trans rfl; have hfz97_0 := blk_frozen BK145.out 0; have hfz97_1 := blk_frozen BK145.out 1; have hfz97_2 := blk_frozen BK145.out 2; have hfz97_3 := blk_frozen BK145.out 3; have hfz97_4 := blk_frozen BK145.out 4; have hfz97_5 := blk_frozen BK145.out 5; have hfz97_6 := blk_frozen BK145.out 6))
              have n0_ := Aside0.mk (blk_drew BK144.out)
              have n1_ := Aside0.mk (blk_drew BK145.out)
              have n2_ := Aside0.mk (blk_drew BK146.out)
              have n3_ := Aside0.mk (below_drew1 HB.out)
              clear BK144
              clear BK145
              clear BK146
              clear HB
              have BK144 := n0_
              have BK145 := n1_
              have BK146 := n2_
              have HB := n3_
              clear n0_ n1_ n2_ n3_
              refine start_ (n := 25) (S := fun w' => w'.cell? ⟨gb146, 0, none⟩ = some (.int .u64 a2_0) ∧ w'.cell? ⟨gb146, 1, none⟩ = some (.string a2_1) ∧ w'.cell? ⟨gb146, 2, none⟩ = some (.slice A2_2 l2_2.length c2_2)) (ds := []) #[false, false, false, false, false, false, false, false, false, false, false, false, false, false, false, false, false, false, false, false, false, false, false, false, false] (by kernel_rfl) rfl rfl ⟨(blk_cell BK146.out 0).trans rfl, (blk_cell BK146.out 1).trans rfl, (blk_cell BK146.out 2).trans rfl⟩ (fun hHeld => ?_); refine with_tabW valid_Val.tab9 valid_Val.bits9 (fun HT_ HW_ => ?_)
              generalize w96.drew = w98 at BK144 BK145 BK146 HB hHeld ⊢
              refine zp 0 (zb 25 1) ?_ rfl rfl HT_ (by kernel_rfl) (fun _ _ _ h => h) rfl ?_ ?_ ?_ ?_; rotate_left; (intro w'; go_simp; with_reducible rfl); rotate_left; (simp only [zs]; rfl)
              refine zt 1 (zb 25 3) ?_ rfl rfl HT_ HW_ (by kernel_rfl) (fun _ _ _ h => h) rfl ?_ hHeld ?_ ?_ ?_; rotate_left; (rintro w' ⟨s0, s1, s2⟩; go_simp; with_reducible rfl); rotate_left; (simp only [zs]; rfl)
              refine zp 2 (zb 25 7) ?_ rfl rfl HT_ (by kernel_rfl) (fun _ _ _ h => h) rfl ?_ ?_ ?_ ?_; rotate_left; (intro w'; go_simp; with_reducible rfl); rotate_left; (simp only [zs]; rfl)
              refine zp 3 (zb 25 15) ?_ rfl rfl HT_ (by kernel_rfl) (fun _ _ _ h => h) rfl ?_ ?_ ?_ ?_; rotate_left; (intro w'; go_simp; with_reducible rfl); rotate_left; (simp only [zs]; rfl)
              refine zn 4 (zb 25 31) rfl rfl HT_ (by kernel_rfl) (fun _ _ _ h => h) rfl ?_ ?_ ?_; rotate_left; (simp only [zs]; rfl)
              refine zn 5 (zb 25 63) rfl rfl HT_ (by kernel_rfl) (fun _ _ _ h => h) rfl ?_ ?_ ?_; rotate_left; (simp only [zs]; rfl)
              refine zn 6 (zb 25 127) rfl rfl HT_ (by kernel_rfl) (fun _ _ _ h => h) rfl ?_ ?_ ?_; rotate_left; (simp only [zs]; rfl)
              refine zp 7 (zb 25 255) ?_ rfl rfl HT_ (by kernel_rfl) (fun _ _ _ h => h) rfl ?_ ?_ ?_ ?_; rotate_left; (intro w'; go_simp; with_reducible rfl); rotate_left; (simp only [zs]; rfl)
              refine zp 8 (zb 25 511) ?_ rfl rfl HT_ (by kernel_rfl) (fun _ _ _ h => h) rfl ?_ ?_ ?_ ?_; rotate_left; (intro w'; go_simp; with_reducible rfl); rotate_left; (simp only [zs]; rfl)
              refine zn 9 (zb 25 1023) rfl rfl HT_ (by kernel_rfl) (fun _ _ _ h => h) rfl ?_ ?_ ?_; rotate_left; (simp only [zs]; rfl)
              refine zn 10 (zb 25 2047) rfl rfl HT_ (by kernel_rfl) (fun _ _ _ h => h) rfl ?_ ?_ ?_; rotate_left; (simp only [zs]; rfl)
              refine zn 11 (zb 25 4095) rfl rfl HT_ (by kernel_rfl) (fun _ _ _ h => h) rfl ?_ ?_ ?_; rotate_left; (simp only [zs]; rfl)
              refine zn 12 (zb 25 8191) rfl rfl HT_ (by kernel_rfl) (fun _ _ _ h => h) rfl ?_ ?_ ?_; rotate_left; (simp only [zs]; rfl)
              refine zp 13 (zb 25 16383) ?_ rfl rfl HT_ (by kernel_rfl) (fun _ _ _ h => h) rfl ?_ ?_ ?_ ?_; rotate_left; (intro w'; go_simp; with_reducible rfl); rotate_left; (simp only [zs]; rfl)
              refine zp 14 (zb 25 32767) ?_ rfl rfl HT_ (by kernel_rfl) (fun _ _ _ h => h) rfl ?_ ?_ ?_ ?_; rotate_left; (intro w'; go_simp; with_reducible rfl); rotate_left; (simp only [zs]; rfl)
              refine zn 15 (zb 25 65535) rfl rfl HT_ (by kernel_rfl) (fun _ _ _ h => h) rfl ?_ ?_ ?_; rotate_left; (simp only [zs]; rfl)
              refine zn 16 (zb 25 131071) rfl rfl HT_ (by kernel_rfl) (fun _ _ _ h => h) rfl ?_ ?_ ?_; rotate_left; (simp only [zs]; rfl)
              refine zn 17 (zb 25 262143) rfl rfl HT_ (by kernel_rfl) (fun _ _ _ h => h) rfl ?_ ?_ ?_; rotate_left; (simp only [zs]; rfl)
              refine zn 18 (zb 25 524287) rfl rfl HT_ (by kernel_rfl) (fun _ _ _ h => h) rfl ?_ ?_ ?_; rotate_left; (simp only [zs]; rfl)
              refine zn 19 (zb 25 1048575) rfl rfl HT_ (by kernel_rfl) (fun _ _ _ h => h) rfl ?_ ?_ ?_; rotate_left; (simp only [zs]; rfl)
              refine zn 20 (zb 25 2097151) rfl rfl HT_ (by kernel_rfl) (fun _ _ _ h => h) rfl ?_ ?_ ?_; rotate_left; (simp only [zs]; rfl)
              refine zn 21 (zb 25 4194303) rfl rfl HT_ (by kernel_rfl) (fun _ _ _ h => h) rfl ?_ ?_ ?_; rotate_left; (simp only [zs]; rfl)
              refine zn 22 (zb 25 8388607) rfl rfl HT_ (by kernel_rfl) (fun _ _ _ h => h) rfl ?_ ?_ ?_; rotate_left; (simp only [zs]; rfl)
              refine zp 23 (zb 25 16777215) ?_ rfl rfl HT_ (by kernel_rfl) (fun _ _ _ h => h) rfl ?_ ?_ ?_ ?_; rotate_left; (intro w'; go_simp; with_reducible rfl); rotate_left; (simp only [zs]; rfl)
              refine zp 24 (zb 25 33554431) ?_ rfl rfl HT_ (by kernel_rfl) (fun _ _ _ h => h) rfl ?_ ?_ ?_ ?_; rotate_left; (intro w'; go_simp; with_reducible rfl); rotate_left; (simp only [zs]; rfl)
              refine done_ (done_of HT_.out (by kernel_rfl)) ?_
              try go_wp2
              go_ret
              exact ⟨by first | rfl , by exact HB.out⟩
          · rw [if_neg c68] at H
            have c68b0 : (a1_2 == 15) = false := beq_eq_false_iff_ne.mpr c68
            have c68b1 : (a1_2 != 15) = true := bne_iff_ne.mpr c68
            obtain rfl := Option.some.inj H
            have hnb99 := NB145_144.out
            have hnc99 := NB144_145.out
            have hnb100 := NB145_146.out
            have hnc100 := NB146_145.out
            have hcz101_0 : wc.cell? ⟨gb145, 0, none⟩ = some (.string a1_0) := (blk_cell BK145.out 0).trans rfl
            have hcz101_1 : wc.cell? ⟨gb145, 1, none⟩ = some (.int .i64 a1_1) := (blk_cell BK145.out 1).trans rfl
            have hcz101_2 : wc.cell? ⟨gb145, 2, none⟩ = some (.int .i64 a1_2) := (blk_cell BK145.out 2).trans rfl
            have hcz101_3 : wc.cell? ⟨gb145, 3, none⟩ = some (.string a1_3) := (blk_cell BK145.out 3).trans rfl
            have hcz101_4 : wc.cell? ⟨gb145, 4, none⟩ = some (.bool a1_4) := (blk_cell BK145.out 4).trans rfl
            have hcz101_5 : wc.cell? ⟨gb145, 5, none⟩ = some (.bool a1_5) := (blk_cell BK145.out 5).trans rfl
            have hcz101_6 : wc.cell? ⟨gb145, 6, none⟩ = some (.string a1_6) := (blk_cell BK145.out 6).trans rfl
            have hfz101_0 := blk_frozen BK145.out 0
            have hfz101_1 := blk_frozen BK145.out 1
            have hfz101_2 := blk_frozen BK145.out 2
            have hfz101_3 := blk_frozen BK145.out 3
            have hfz101_4 := blk_frozen BK145.out 4
            have hfz101_5 := blk_frozen BK145.out 5
            have hfz101_6 := blk_frozen BK145.out 6
            go_wp2_with (first | ((with_reducible refine gate_callee (f := 23) rfl ?_); refine goesL_ (some 20) rfl rfl Tryd.func23 (by kernel_rfl) rfl #[.int .i64 a1_2] rfl (by (try simp only [List.map_toArray, List.map_cons, List.map_nil]); first | done | rfl | (simp only [List.length_drop, List.length_take]; rfl)) ?_; (with_reducible refine (scalar_Number.calls a1_2 false _ A15.out).mono ?_); rintro e w102 ⟨rfl, hb⟩; refine ⟨_, rfl, ?_⟩; have n0_ := Aside0.mk (blk_below BK144.out hb); have n1_ := Aside0.mk (blk_below BK145.out hb); have n2_ := Aside0.mk (blk_below BK146.out hb); have n3_ := Aside0.mk (below_step HB.out hb); clear BK144; clear BK145; clear BK146; clear HB; have BK144 := n0_; have BK145 := n1_; have BK146 := n2_; have HB := n3_; clear n0_ n1_ n2_ n3_; (try clear hb); (try clear hb2); (try clear hk); (try clear hi); have hcz103_0 : w102.cell? ⟨gb145, 0, none⟩ = some (.string a1_0) := (blk_cell BK145.out 0).trans rfl; have hcz103_1 : w102.cell? ⟨gb145, 1, none⟩ = some (.int .i64 a1_1) := (blk_cell BK145.out 1).trans rfl; have hcz103_2 : w102.cell? ⟨gb145, 2, none⟩ = some (.int .i64 a1_2) := (blk_cell BK145.out 2).trans rfl; have hcz103_3 : w102.cell? ⟨gb145, 3, none⟩ = some (.string a1_3) := (blk_cell BK145.out 3).trans rfl; have hcz103_4 : w102.cell? ⟨gb145, 4, none⟩ = some (.bool a1_4) := (blk_cell BK145.out 4).trans rfl; have hcz103_5 : w102.cell? ⟨gb145, 5, none⟩ = some (.bool a1_5) := (blk_cell BK145.out 5).trans rfl; have hcz103_6 : w102.cell? ⟨gb145, 6, none⟩ = some (.string a1_6) := (blk_cell BK145.out 6).trans rfl; have hfz103_0 := blk_frozen BK145.out 0; have hfz103_1 := blk_frozen BK145.out 1; have hfz103_2 := blk_frozen BK145.out 2; have hfz103_3 := blk_frozen BK145.out 3; have hfz103_4 := blk_frozen BK145.out 4; have hfz103_5 := blk_frozen BK145.out 5; have hfz103_6 := blk_frozen BK145.out 6))
            go_ret
            exact ⟨by first | rfl , by exact HB.out⟩
end Go.Proofs.YtbpnfpckoapdbaaDoor.PV20
end
section
namespace Go.Proofs.YtbpnfpckoapdbaaDoor.PV20
open Go.RowKit Go.Proofs.YtbpnfpckoapdbaaDoor.M Go.Proofs.YtbpnfpckoapdbaaDoor.KD Go.Proofs.YtbpnfpckoapdbaaDoor Go.Proofs.YtbpnfpckoapdbaaDoorW.PrintWords Go.Proofs.YtbpnfpckoapdbaaDoorW.PrintLast Go.Proofs.YtbpnfpckoapdbaaDoorW.PrintMore
attribute [local go_sem] max2_int min2_int max_two min_two max_three min_three max_four min_four   -- for this text's walks alone
set_option linter.unusedVariables false
set_option linter.unusedSimpArgs false
def valid_slots.T6 : Bool × List (List Nat × List Nat) := (true, [([], []), ([0], [0]), ([1], [1]), ([2], [2]), ([3, 2], [2, 3]), ([4, 2, 2], [2, 4]), ([5], [5]), ([5], [5]), ([7, 5], [5, 7]), ([6, 8, 5], [5, 6, 8]), ([9, 5], [5, 9]), ([10, 5], [5, 10]), ([5], [5]), ([12, 5], [5, 12]), ([11, 13, 5], [5, 11, 13]), ([5, 14, 2], [2, 5, 14]), ([2, 15], [2, 15]), ([16, 5], [16]), ([17], [17]), ([17], [17]), ([19, 17], [17, 19]), ([17], [17]), ([20, 21, 17], [17, 20, 21]), ([22, 17], [17, 22]), ([17], [17]), ([24, 17], [17, 24]), ([18, 23, 25, 17, 17], [17, 18, 23, 25]), ([26, 17], [17, 26]), ([17, 27], [17, 27])])
def valid_slots.B6 : List Nat := [0, 1, 3, 7, 15, 31, 63, 63, 191, 511, 1023, 2047, 63, 4159, 16383, 32767, 65535, 131071, 262143, 262143, 786431, 262143, 3932159, 8126463, 262143, 17039359, 67108863, 134217727, 268435455]
theorem valid_slots.tab6 : rtab .any (opsOf Tryd.f18 6) = valid_slots.T6 := by kernel_rfl
theorem valid_slots.bits6 : waitsOk valid_slots.T6.2 valid_slots.B6 = true := by kernel_rfl
set_option maxHeartbeats 8000000 in
set_option maxRecDepth 100000 in
theorem valid_slots.callsR (k : Nat) (ih_valid_Tree : ∀ k_, k_ < k → ∀ (A0_0 : Option Addr) (c0_0 : Nat) (l0_0 : List (S48)) (A0_1 : Option Addr) (c0_1 : Nat) (l0_1 : List (S52)) (a1 : ByteArray) (A2_0 : Option Addr) (c2_0 : Nat) (l2_0 : List (S43)) (A2_1 : Option Addr) (c2_1 : Nat) (l2_1 : List (S63)) (r : Bool) (w : World) (hT : Tabs w) (hr0_0 : Kd.C k48 w A0_0 l0_0.length l0_0) (hc0_0 : l0_0.length ≤ c0_0) (hr0_1 : Kd.C k52 w A0_1 l0_1.length l0_1) (hc0_1 : l0_1.length ≤ c0_1) (hr2_0 : Kd.C k43 w A2_0 l2_0.length l2_0) (hc2_0 : l2_0.length ≤ c2_0) (hr2_1 : Kd.C k63 w A2_1 l2_1.length l2_1) (hc2_1 : l2_1.length ≤ c2_1) (h_ : valid_Tree.f k_ l0_0 l0_1 a1 l2_0 l2_1 = some r), Calls Tryd.prog 9 #[.agg #[.slice A0_0 l0_0.length c0_0, .slice A0_1 l0_1.length c0_1], .string a1, .agg #[.slice A2_0 l2_0.length c2_0, .slice A2_1 l2_1.length c2_1]] w fun e w' => e = .returned (.bool r) ∧ Below w.heap.size w w') (ih_valid_Val : ∀ k_, k_ < k → ∀ (A0_0 : Option Addr) (c0_0 : Nat) (l0_0 : List (S48)) (A0_1 : Option Addr) (c0_1 : Nat) (l0_1 : List (S52)) (a1_0 : ByteArray) (a1_1 : Int) (a1_2 : Int) (a1_3 : ByteArray) (a1_4 : Bool) (a1_5 : Bool) (a1_6 : ByteArray) (a2_0 : Int) (a2_1 : ByteArray) (A2_2 : Option Addr) (c2_2 : Nat) (l2_2 : List (S29)) (r : Bool) (w : World) (hT : Tabs w) (hr0_0 : Kd.C k48 w A0_0 l0_0.length l0_0) (hc0_0 : l0_0.length ≤ c0_0) (hr0_1 : Kd.C k52 w A0_1 l0_1.length l0_1) (hc0_1 : l0_1.length ≤ c0_1) (hr2_2 : Kd.C k29 w A2_2 l2_2.length l2_2) (hc2_2 : l2_2.length ≤ c2_2) (h_ : valid_Val.f k_ l0_0 l0_1 a1_0 a1_1 a1_2 a1_3 a1_4 a1_5 a1_6 a2_0 a2_1 l2_2 = some r), Calls Tryd.prog 12 #[.agg #[.slice A0_0 l0_0.length c0_0, .slice A0_1 l0_1.length c0_1], .agg #[.string a1_0, .int .i64 a1_1, .int .i64 a1_2, .string a1_3, .bool a1_4, .bool a1_5, .string a1_6], .agg #[.int .u64 a2_0, .string a2_1, .slice A2_2 l2_2.length c2_2]] w fun e w' => e = .returned (.bool r) ∧ Below w.heap.size w w') (ih_valid_slots : ∀ k_, k_ < k → ∀ (A0_0 : Option Addr) (c0_0 : Nat) (l0_0 : List (S48)) (A0_1 : Option Addr) (c0_1 : Nat) (l0_1 : List (S52)) (a1_0 : ByteArray) (A1_1 : Option Addr) (c1_1 : Nat) (l1_1 : List (S36)) (A1_2 : Option Addr) (c1_2 : Nat) (l1_2 : List Int) (A2 : Option Addr) (c2 : Nat) (l2 : List (S43)) (r : Bool) (w : World) (hT : Tabs w) (hr0_0 : Kd.C k48 w A0_0 l0_0.length l0_0) (hc0_0 : l0_0.length ≤ c0_0) (hr0_1 : Kd.C k52 w A0_1 l0_1.length l0_1) (hc0_1 : l0_1.length ≤ c0_1) (hr1_1 : Kd.C k36 w A1_1 l1_1.length l1_1) (hc1_1 : l1_1.length ≤ c1_1) (hr1_2 : Kd.C (Kd.int .i64) w A1_2 l1_2.length l1_2) (hc1_2 : l1_2.length ≤ c1_2) (hr2 : Kd.C k43 w A2 l2.length l2) (hc2 : l2.length ≤ c2) (h_ : valid_slots.f k_ l0_0 l0_1 a1_0 l1_1 l1_2 l2 = some r), Calls Tryd.prog 18 #[.agg #[.slice A0_0 l0_0.length c0_0, .slice A0_1 l0_1.length c0_1], .agg #[.string a1_0, .slice A1_1 l1_1.length c1_1, .slice A1_2 l1_2.length c1_2], .slice A2 l2.length c2] w fun e w' => e = .returned (.bool r) ∧ Below w.heap.size w w') (ih_valid_vals : ∀ k_, k_ < k → ∀ (A0_0 : Option Addr) (c0_0 : Nat) (l0_0 : List (S48)) (A0_1 : Option Addr) (c0_1 : Nat) (l0_1 : List (S52)) (a1_0 : ByteArray) (a1_1 : Int) (a1_2 : Int) (a1_3 : ByteArray) (a1_4 : Bool) (a1_5 : Bool) (a1_6 : ByteArray) (A2 : Option Addr) (c2 : Nat) (l2 : List (S40)) (r : Bool) (w : World) (hT : Tabs w) (hr0_0 : Kd.C k48 w A0_0 l0_0.length l0_0) (hc0_0 : l0_0.length ≤ c0_0) (hr0_1 : Kd.C k52 w A0_1 l0_1.length l0_1) (hc0_1 : l0_1.length ≤ c0_1) (hr2 : Kd.C k40 w A2 l2.length l2) (hc2 : l2.length ≤ c2) (h_ : valid_vals.f k_ l0_0 l0_1 a1_0 a1_1 a1_2 a1_3 a1_4 a1_5 a1_6 l2 = some r), Calls Tryd.prog 31 #[.agg #[.slice A0_0 l0_0.length c0_0, .slice A0_1 l0_1.length c0_1], .agg #[.string a1_0, .int .i64 a1_1, .int .i64 a1_2, .string a1_3, .bool a1_4, .bool a1_5, .string a1_6], .slice A2 l2.length c2] w fun e w' => e = .returned (.bool r) ∧ Below w.heap.size w w') : ∀ (A0_0 : Option Addr) (c0_0 : Nat) (l0_0 : List (S48)) (A0_1 : Option Addr) (c0_1 : Nat) (l0_1 : List (S52)) (a1_0 : ByteArray) (A1_1 : Option Addr) (c1_1 : Nat) (l1_1 : List (S36)) (A1_2 : Option Addr) (c1_2 : Nat) (l1_2 : List Int) (A2 : Option Addr) (c2 : Nat) (l2 : List (S43)) (r : Bool) (w : World) (hT : Tabs w) (hr0_0 : Kd.C k48 w A0_0 l0_0.length l0_0) (hc0_0 : l0_0.length ≤ c0_0) (hr0_1 : Kd.C k52 w A0_1 l0_1.length l0_1) (hc0_1 : l0_1.length ≤ c0_1) (hr1_1 : Kd.C k36 w A1_1 l1_1.length l1_1) (hc1_1 : l1_1.length ≤ c1_1) (hr1_2 : Kd.C (Kd.int .i64) w A1_2 l1_2.length l1_2) (hc1_2 : l1_2.length ≤ c1_2) (hr2 : Kd.C k43 w A2 l2.length l2) (hc2 : l2.length ≤ c2) (h : valid_slots.f k l0_0 l0_1 a1_0 l1_1 l1_2 l2 = some r),
  Calls Tryd.prog 18 #[.agg #[.slice A0_0 l0_0.length c0_0, .slice A0_1 l0_1.length c0_1], .agg #[.string a1_0, .slice A1_1 l1_1.length c1_1, .slice A1_2 l1_2.length c1_2], .slice A2 l2.length c2] w fun e w' => e = .returned (.bool r) ∧ Below w.heap.size w w' := by
 intro A0_0 c0_0 l0_0 A0_1 c0_1 l0_1 a1_0 A1_1 c1_1 l1_1 A1_2 c1_2 l1_2 A2 c2 l2 r w hT hr0_0 hc0_0 hr0_1 hc0_1 hr1_1 hc1_1 hr1_2 hc1_2 hr2 hc2 h
 have HU8 := Aside0.mk hT
 clear hT
 cases k with
 | zero => exact absurd h (by simp [valid_slots.f])
 | succ k =>
 simp only [valid_slots.f] at h
 have hu25 := Tryd.underlying25
 have hu52 := Tryd.underlying52
 have hu43 := Tryd.underlying43
 have hu36 := Tryd.underlying36
 have HR0_0 := Aside0.mk hr0_0
 have HC0_0 := Aside0.mk hc0_0
 clear hr0_0 hc0_0
 have HR0_1 := Aside0.mk hr0_1
 have HC0_1 := Aside0.mk hc0_1
 clear hr0_1 hc0_1
 have HR1_1 := Aside0.mk hr1_1
 have HC1_1 := Aside0.mk hc1_1
 clear hr1_1 hc1_1
 have HR1_2 := Aside0.mk hr1_2
 have HC1_2 := Aside0.mk hc1_2
 clear hr1_2 hc1_2
 have HR2 := Aside0.mk hr2
 have HC2 := Aside0.mk hc2
 clear hr2 hc2
 have HB := Aside0.mk (Below.refl w.heap.size w)
 have hmm := @run_makeMap Tryd.prog
 have H : (valid_slots.l0 k l2 l2 (l2.length : Int) 0 l0_0 l0_1 a1_0 l1_1 l1_2 []) = some r := h
 clear h
 have H' := Aside0.mk H
 clear H
 go_enter Tryd.func18, Tryd.ntmps18
 go_wp2_with (first | ((with_reducible refine gate_dst (N := 3) rfl ?_); refine box_event ?hg (N := 3) ?hd (cs := #[.slice A0_0 l0_0.length c0_0, .slice A0_1 l0_1.length c0_1]) (t := 25) ?hr ?_; (case hd => rfl); (case hg => rfl); (case hr => first | (go_simp; done) | (go_simp; rfl)); intro gb152 hg w4 hbox hb; have n0_ := Aside0.mk (below_step HB.out hb); have n1_ := Aside0.mk (hbox); clear HB; have HB := n0_; have BK152 := n1_; clear n0_ n1_; clear hb hbox hg) | ((with_reducible refine gate_dst (N := 4) rfl ?_); refine box_event ?hg (N := 4) ?hd (cs := #[.string a1_0, .slice A1_1 l1_1.length c1_1, .slice A1_2 l1_2.length c1_2]) (t := 52) ?hr ?_; (case hd => rfl); (case hg => rfl); (case hr => first | (go_simp; done) | (go_simp; rfl)); intro gb153 hg w5 hbox hb; have n0_ := Aside0.mk (blk_below BK152.out hb); have n1_ := Aside0.mk (below_step HB.out hb); have n2_ := Aside0.mk (hbox); have n5_ := Aside0.mk ((by rw [hg]; exact Nat.ne_of_lt (blk_lt BK152.out) : gb152 ≠ gb153)); have n6_ := Aside0.mk ((by rw [hg]; exact Nat.ne_of_gt (blk_lt BK152.out) : gb153 ≠ gb152)); clear BK152; clear HB; have BK152 := n0_; have HB := n1_; have BK153 := n2_; have NB152_153 := n5_; have NB153_152 := n6_; clear n0_ n1_ n2_ n5_ n6_; clear hb hbox hg))
 obtain ⟨gb154, hg0⟩ : ∃ g, g = w5.heap.size := ⟨_, rfl⟩
 have BK154 := Aside0.mk (show MapAt (w5.alloc (.map #[] 0)) gb154 [] by rw [hg0]; exact map_made _)
 have GE154 := Aside0.mk (show w.heap.size ≤ gb154 by rw [hg0]; exact below_size HB.out)
 have NB152_154 := Aside0.mk (show gb152 ≠ gb154 by rw [hg0]; exact Nat.ne_of_lt (blk_lt BK152.out))
 have NB153_154 := Aside0.mk (show gb153 ≠ gb154 by rw [hg0]; exact Nat.ne_of_lt (blk_lt BK153.out))
 have NB154_152 := Aside0.mk (show gb154 ≠ gb152 by rw [hg0]; exact Nat.ne_of_gt (blk_lt BK152.out))
 have NB154_153 := Aside0.mk (show gb154 ≠ gb153 by rw [hg0]; exact Nat.ne_of_gt (blk_lt BK153.out))
 rw [← hg0]
 clear hg0
 go_loopg [15] k (fun kq v15 w' => ∃ (x15_1 : Int) (x155000_1 : List ByteArray), v15 = .int .i64 x15_1 ∧ Aside0 (valid_slots.l0 kq l2 l2 (l2.length : Int) x15_1 l0_0 l0_1 a1_0 l1_1 l1_2 x155000_1 = some r) ∧ Aside0 (kq ≤ k) ∧ Aside0 (w'.heap[gb152]? = some (.cells #[(.slice A0_0 l0_0.length c0_0), (.slice A0_1 l0_1.length c0_1)] 25 (0, 0))) ∧ Aside0 (w'.heap[gb153]? = some (.cells #[.string a1_0, (.slice A1_1 l1_1.length c1_1), (.slice A1_2 l1_2.length c1_2)] 52 (0, 0))) ∧ Aside0 (MapAt w' gb154 x155000_1) ∧ Aside0 (Below w.heap.size w w'))
 case atStart => exact ⟨(0), [], (by first | rfl ), H', ⟨Nat.le_refl _⟩, ⟨by (with_reducible repeat (first | refine blk_alloc ?_ _)); exact BK152.out⟩, ⟨by (with_reducible repeat (first | refine blk_alloc ?_ _)); exact BK153.out⟩, ⟨BK154.out⟩, ⟨by repeat (first | (with_reducible first | exact HB.out | apply below_alloc ) )⟩⟩
 case round =>
  clear H'
  try clear c1
  try clear c2
  try clear p2
  obtain ⟨x15_1, x155000_1, rfl, HA, HK1, BK152, BK153, BK154, HB⟩ := hrel
  cases gk with
  | zero => exact absurd HA.out (by simp [valid_slots.l0])
  | succ k1 =>
   have H := HA.out
   clear HA
   simp only [valid_slots.l0] at H
   by_cases c7 : x15_1 < (l2.length : Int)
   · rw [if_pos c7] at H
     have c7b0 : decide (x15_1 < (l2.length : Int)) = true := decide_eq_true c7
     clear c7
     by_cases c8 : 0 ≤ x15_1
     · rw [if_pos c8] at H
       have c8b0 : decide (0 ≤ x15_1) = true := decide_eq_true c8
       clear c8
       by_cases c9 : x15_1 < (l2.length : Int)
       · rw [if_pos c9] at H
         have c9b0 : decide (x15_1 < (l2.length : Int)) = true := decide_eq_true c9
         clear c9
         replace H := Option.bind_eq_some_iff.mp H
         obtain ⟨t157, A100, H⟩ := H
         replace H : (if t157 < 0 then (valid_slots.j1 k1 l2 t157 l2 (l2.length : Int) x15_1 true l0_0 l0_1 a1_0 l1_1 l1_2 x155000_1) else (if x15_1 > 0 then (if 0 ≤ (wrap64 (x15_1 - 1)) then (if (wrap64 (x15_1 - 1)) < (l2.length : Int) then (if ((rd_T43 l2 (wrap64 (x15_1 - 1))).f0) ≥ ((rd_T43 l2 x15_1).f0) then (valid_slots.j1 k1 l2 t157 l2 (l2.length : Int) x15_1 true l0_0 l0_1 a1_0 l1_1 l1_2 x155000_1) else (if 0 ≤ t157 then (if t157 < (l1_1.length : Int) then ((valid_vals.f k1 l0_0 l0_1 ((rd_T36 l1_1 t157).f0) ((rd_T36 l1_1 t157).f1) ((rd_T36 l1_1 t157).f2) ((rd_T36 l1_1 t157).f3) ((rd_T36 l1_1 t157).f4) ((rd_T36 l1_1 t157).f5) ((rd_T36 l1_1 t157).f6) ((rd_T43 l2 x15_1).f1)).bind fun t160 => (valid_slots.j1 k1 l2 t157 l2 (l2.length : Int) x15_1 (!t160) l0_0 l0_1 a1_0 l1_1 l1_2 x155000_1)) else (none)) else (none))) else (none)) else (none)) else (if 0 ≤ t157 then (if t157 < (l1_1.length : Int) then ((valid_vals.f k1 l0_0 l0_1 ((rd_T36 l1_1 t157).f0) ((rd_T36 l1_1 t157).f1) ((rd_T36 l1_1 t157).f2) ((rd_T36 l1_1 t157).f3) ((rd_T36 l1_1 t157).f4) ((rd_T36 l1_1 t157).f5) ((rd_T36 l1_1 t157).f6) ((rd_T43 l2 x15_1).f1)).bind fun t162 => (valid_slots.j1 k1 l2 t157 l2 (l2.length : Int) x15_1 (!t162) l0_0 l0_1 a1_0 l1_1 l1_2 x155000_1)) else (none)) else (none)))) = some r := H
         have A10 := Aside0.mk A100
         clear A100
         have HC11 := Aside0.mk H
         clear H
         have p155 : 0 ≤ (x15_1 : Int) := of_decide_eq_true (by first | (with_reducible assumption) )
         have q155 : x15_1 < (l2.length : Int) := of_decide_eq_true (by first | (with_reducible assumption) )
         obtain ⟨ad155, A155_1, c155_1, e155, hx155_0, hx155_1, hl155_1, hi155_1⟩ := at_T43 HR2.out x15_1 p155 q155
         cases e155
         replace hx155_0 := (HB.out.cell (World.block_lt_of_cell? w _ hx155_0)).trans hx155_0
         replace hx155_1 := (HB.out.cell (World.block_lt_of_cell? w _ hx155_1)).trans hx155_1
         have HR155_1 := Aside0.mk hi155_1
         have HC155_1 := Aside0.mk hl155_1
         clear hi155_1 hl155_1
         replace p155 := eq_true p155
         replace q155 := eq_true q155
         go_upto_region 6 with (first | ((with_reducible refine gate_dst (N := 9) rfl ?_); refine box_event ?hg (N := 9) ?hd (cs := #[.int .i64 0, .slice none 0 0]) (t := 43) ?hr ?_; (case hd => rfl); (case hg => rfl); (case hr => first | (go_simp; done) | (go_simp; rfl)); intro gb156 hg w12 hbox hb; have n0_ := Aside0.mk (blk_below BK152.out hb); have n1_ := Aside0.mk (blk_below BK153.out hb); have n2_ := Aside0.mk (map_below BK154.out hb); have n3_ := Aside0.mk (below_step HB.out hb); have n4_ := Aside0.mk (hbox); have n6_ := Aside0.mk ((by rw [hg]; exact (below_size HB.out) : w.heap.size ≤ gb156)); have n7_ := Aside0.mk ((by rw [hg]; exact Nat.ne_of_lt (blk_lt BK152.out) : gb152 ≠ gb156)); have n8_ := Aside0.mk ((by rw [hg]; exact Nat.ne_of_gt (blk_lt BK152.out) : gb156 ≠ gb152)); have n9_ := Aside0.mk ((by rw [hg]; exact Nat.ne_of_lt (blk_lt BK153.out) : gb153 ≠ gb156)); have n10_ := Aside0.mk ((by rw [hg]; exact Nat.ne_of_gt (blk_lt BK153.out) : gb156 ≠ gb153)); have n11_ := Aside0.mk ((by rw [hg]; exact Nat.ne_of_lt (map_lt BK154.out) : gb154 ≠ gb156)); have n12_ := Aside0.mk ((by rw [hg]; exact Nat.ne_of_gt (map_lt BK154.out) : gb156 ≠ gb154)); clear BK152; clear BK153; clear BK154; clear HB; have BK152 := n0_; have BK153 := n1_; have BK154 := n2_; have HB := n3_; have BK156 := n4_; have GE156 := n6_; have NB152_156 := n7_; have NB156_152 := n8_; have NB153_156 := n9_; have NB156_153 := n10_; have NB154_156 := n11_; have NB156_154 := n12_; clear n0_ n1_ n2_ n3_ n4_ n6_ n7_ n8_ n9_ n10_ n11_ n12_; clear hb hbox hg; have hnb13 := NB156_152.out; have hnc13 := NB152_156.out; have hnb14 := NB156_153.out; have hnc14 := NB153_156.out; have hnb15 := NB156_154.out; have hnc15 := NB154_156.out; have hcz16_0 : w12.cell? ⟨gb156, 0, none⟩ = some (.int .i64 0) := (blk_cell BK156.out 0).trans rfl; have hcz16_1 : w12.cell? ⟨gb156, 1, none⟩ = some (.slice none 0 0) := (blk_cell BK156.out 1).trans rfl; have hfz16_0 := blk_frozen BK156.out 0; have hfz16_1 := blk_frozen BK156.out 1; have hnb17 := NB153_152.out; have hnc17 := NB152_153.out; have hnb18 := NB153_154.out; have hnc18 := NB154_153.out; have hcz19_0 : w12.cell? ⟨gb153, 0, none⟩ = some (.string a1_0) := (blk_cell BK153.out 0).trans rfl; have hcz19_1 : w12.cell? ⟨gb153, 1, none⟩ = some (.slice A1_1 l1_1.length c1_1) := (blk_cell BK153.out 1).trans rfl; have hcz19_2 : w12.cell? ⟨gb153, 2, none⟩ = some (.slice A1_2 l1_2.length c1_2) := (blk_cell BK153.out 2).trans rfl; have hfz19_0 := blk_frozen BK153.out 0; have hfz19_1 := blk_frozen BK153.out 1; have hfz19_2 := blk_frozen BK153.out 2) | ((with_reducible refine gate_callee (f := 28) rfl ?_); refine goesL_ (some 23) rfl rfl Tryd.func28 (by kernel_rfl) rfl #[.agg #[.string a1_0, .slice A1_1 l1_1.length c1_1, .slice A1_2 l1_2.length c1_2], .int .i64 ((rd_T43 l2 x15_1).f0)] rfl (by (try simp only [List.map_toArray, List.map_cons, List.map_nil]); first | done | rfl | (simp only [List.length_drop, List.length_take]; rfl)) ?_; (with_reducible refine (find_Number.calls a1_0 _ _ l1_1 _ _ l1_2 ((rd_T43 l2 x15_1).f0) t157 _ ?side1 ?side2 ?side3 ?side4 A10.out).mono ?_); (case side1 => exact Kd.C_below HR1_1.out (by repeat (first | (with_reducible first | exact HB.out | refine below_set ?_ GE156.out) ))); (case side2 => exact HC1_1.out); (case side3 => exact Kd.C_below HR1_2.out (by repeat (first | (with_reducible first | exact HB.out | refine below_set ?_ GE156.out) ))); (case side4 => exact HC1_2.out); rintro e w20 ⟨rfl, hb⟩; refine ⟨_, rfl, ?_⟩; have n0_ := Aside0.mk (blk_below (g := gb152) (o := .cells #[.slice A0_0 l0_0.length c0_0, .slice A0_1 l0_1.length c0_1] 25 (0, 0)) (by refine blk_far ?_ NB152_156.out _; refine blk_far ?_ NB152_156.out _; exact BK152.out) hb); have n1_ := Aside0.mk (blk_below (g := gb153) (o := .cells #[.string a1_0, .slice A1_1 l1_1.length c1_1, .slice A1_2 l1_2.length c1_2] 52 (0, 0)) (by refine blk_far ?_ NB153_156.out _; refine blk_far ?_ NB153_156.out _; exact BK153.out) hb); have n2_ := Aside0.mk (map_below (g := gb154) (l := x155000_1) (by refine map_far ?_ NB154_156.out _; refine map_far ?_ NB154_156.out _; exact BK154.out) hb); have n3_ := Aside0.mk (blk_below (g := gb156) (o := .cells #[.int .i64 ((rd_T43 l2 x15_1).f0), .slice A155_1 ((rd_T43 l2 x15_1).f1).length c155_1] 43 (0, 0)) (by refine blk_put (cs := #[.int .i64 ((rd_T43 l2 x15_1).f0), .slice none 0 0]) ?_ 1 _ rfl; refine blk_put (cs := #[.int .i64 0, .slice none 0 0]) ?_ 0 _ rfl; exact BK156.out) hb); have n4_ := Aside0.mk (below_step (by repeat (first | (with_reducible first | exact HB.out | refine below_set ?_ GE156.out) )) hb); clear BK152; clear BK153; clear BK154; clear BK156; clear HB; have BK152 := n0_; have BK153 := n1_; have BK154 := n2_; have BK156 := n3_; have HB := n4_; clear n0_ n1_ n2_ n3_ n4_; (try clear hb); (try clear hb2); (try clear hk); (try clear hi)))
         (try simp only [Act.put, List.setIfInBounds_toArray, List.set_cons_zero, List.set_cons_succ])
         go_cut [52] (fun v52 wc => ∃ (kq : Nat) (x52_10 : Bool), v52 = .bool x52_10 ∧ Aside0 (valid_slots.j1 kq l2 t157 l2 (l2.length : Int) x15_1 x52_10 l0_0 l0_1 a1_0 l1_1 l1_2 x155000_1 = some r) ∧ Aside0 (kq ≤ k1) ∧ Aside0 (wc.heap[gb152]? = some (.cells #[(.slice A0_0 l0_0.length c0_0), (.slice A0_1 l0_1.length c0_1)] 25 (0, 0))) ∧ Aside0 (wc.heap[gb153]? = some (.cells #[.string a1_0, (.slice A1_1 l1_1.length c1_1), (.slice A1_2 l1_2.length c1_2)] 52 (0, 0))) ∧ Aside0 (MapAt wc gb154 x155000_1) ∧ Aside0 (wc.heap[gb156]? = some (.cells #[.int .i64 ((rd_T43 l2 x15_1).f0), (.slice A155_1 ((rd_T43 l2 x15_1).f1).length c155_1)] 43 (0, 0))) ∧ Aside0 (Below w.heap.size w wc))
         case first =>
          have H := HC11.out
          clear HC11
          by_cases c21 : t157 < 0
          · rw [if_pos c21] at H
            have c21b0 : decide (t157 < 0) = true := decide_eq_true c21
            clear c21
            (first | skip)
            have H' := Aside0.mk H
            clear H
            try go_wp2
            have n0_ := Aside0.mk (blk_drew BK152.out)
            have n1_ := Aside0.mk (blk_drew BK153.out)
            have n2_ := Aside0.mk (map_drew BK154.out)
            have n3_ := Aside0.mk (blk_drew BK156.out)
            have n4_ := Aside0.mk (below_drew1 HB.out)
            clear BK152
            clear BK153
            clear BK154
            clear BK156
            clear HB
            have BK152 := n0_
            have BK153 := n1_
            have BK154 := n2_
            have BK156 := n3_
            have HB := n4_
            clear n0_ n1_ n2_ n3_ n4_
            refine start_ (n := 29) (S := fun w' => True) (ds := []) #[false, false, false, false, false, false, false, false, false, false, false, false, false, false, false, false, false, false, false, false, false, false, false, false, false, false, false, false, false] (by kernel_rfl) rfl rfl trivial (fun hHeld => ?_); refine with_tabW valid_slots.tab6 valid_slots.bits6 (fun HT_ HW_ => ?_)
            generalize w20.drew = w22 at BK152 BK153 BK154 BK156 HB hHeld ⊢
            refine zp 0 (zb 29 1) ?_ rfl rfl HT_ (by kernel_rfl) (fun _ _ _ h => h) rfl ?_ ?_ ?_ ?_; rotate_left; (intro w'; go_simp; with_reducible rfl); rotate_left; (simp only [zs]; rfl)
            refine zp 1 (zb 29 3) ?_ rfl rfl HT_ (by kernel_rfl) (fun _ _ _ h => h) rfl ?_ ?_ ?_ ?_; rotate_left; (intro w'; go_simp; with_reducible rfl); rotate_left; (simp only [zs]; rfl)
            refine zp 2 (zb 29 7) ?_ rfl rfl HT_ (by kernel_rfl) (fun _ _ _ h => h) rfl ?_ ?_ ?_ ?_; rotate_left; (intro w'; go_simp; with_reducible rfl); rotate_left; (simp only [zs]; rfl)
            refine zn 3 (zb 29 15) rfl rfl HT_ (by kernel_rfl) (fun _ _ _ h => h) rfl ?_ ?_ ?_; rotate_left; (simp only [zs]; rfl)
            refine zn 4 (zb 29 31) rfl rfl HT_ (by kernel_rfl) (fun _ _ _ h => h) rfl ?_ ?_ ?_; rotate_left; (simp only [zs]; rfl)
            refine zn 5 (zb 29 63) rfl rfl HT_ (by kernel_rfl) (fun _ _ _ h => h) rfl ?_ ?_ ?_; rotate_left; (simp only [zs]; rfl)
            refine zn 6 (zb 29 127) rfl rfl HT_ (by kernel_rfl) (fun _ _ _ h => h) rfl ?_ ?_ ?_; rotate_left; (simp only [zs]; rfl)
            refine zn 7 (zb 29 255) rfl rfl HT_ (by kernel_rfl) (fun _ _ _ h => h) rfl ?_ ?_ ?_; rotate_left; (simp only [zs]; rfl)
            refine zn 8 (zb 29 511) rfl rfl HT_ (by kernel_rfl) (fun _ _ _ h => h) rfl ?_ ?_ ?_; rotate_left; (simp only [zs]; rfl)
            refine zn 9 (zb 29 1023) rfl rfl HT_ (by kernel_rfl) (fun _ _ _ h => h) rfl ?_ ?_ ?_; rotate_left; (simp only [zs]; rfl)
            refine zn 10 (zb 29 2047) rfl rfl HT_ (by kernel_rfl) (fun _ _ _ h => h) rfl ?_ ?_ ?_; rotate_left; (simp only [zs]; rfl)
            refine zn 11 (zb 29 4095) rfl rfl HT_ (by kernel_rfl) (fun _ _ _ h => h) rfl ?_ ?_ ?_; rotate_left; (simp only [zs]; rfl)
            refine zn 12 (zb 29 8191) rfl rfl HT_ (by kernel_rfl) (fun _ _ _ h => h) rfl ?_ ?_ ?_; rotate_left; (simp only [zs]; rfl)
            refine zn 13 (zb 29 16383) rfl rfl HT_ (by kernel_rfl) (fun _ _ _ h => h) rfl ?_ ?_ ?_; rotate_left; (simp only [zs]; rfl)
            refine zn 14 (zb 29 32767) rfl rfl HT_ (by kernel_rfl) (fun _ _ _ h => h) rfl ?_ ?_ ?_; rotate_left; (simp only [zs]; rfl)
            refine zn 15 (zb 29 65535) rfl rfl HT_ (by kernel_rfl) (fun _ _ _ h => h) rfl ?_ ?_ ?_; rotate_left; (simp only [zs]; rfl)
            refine zp 16 (zb 29 131071) ?_ rfl rfl HT_ (by kernel_rfl) (fun _ _ _ h => h) rfl ?_ ?_ ?_ ?_; rotate_left; (intro w'; go_simp; with_reducible rfl); rotate_left; (simp only [zs]; rfl)
            refine zp 17 (zb 29 262143) ?_ rfl rfl HT_ (by kernel_rfl) (fun _ _ _ h => h) rfl ?_ ?_ ?_ ?_; rotate_left; (intro w'; go_simp; with_reducible rfl); rotate_left; (simp only [zs]; rfl)
            refine zn 18 (zb 29 524287) rfl rfl HT_ (by kernel_rfl) (fun _ _ _ h => h) rfl ?_ ?_ ?_; rotate_left; (simp only [zs]; rfl)
            refine zn 19 (zb 29 1048575) rfl rfl HT_ (by kernel_rfl) (fun _ _ _ h => h) rfl ?_ ?_ ?_; rotate_left; (simp only [zs]; rfl)
            refine zn 20 (zb 29 2097151) rfl rfl HT_ (by kernel_rfl) (fun _ _ _ h => h) rfl ?_ ?_ ?_; rotate_left; (simp only [zs]; rfl)
            refine zn 21 (zb 29 4194303) rfl rfl HT_ (by kernel_rfl) (fun _ _ _ h => h) rfl ?_ ?_ ?_; rotate_left; (simp only [zs]; rfl)
            refine zn 22 (zb 29 8388607) rfl rfl HT_ (by kernel_rfl) (fun _ _ _ h => h) rfl ?_ ?_ ?_; rotate_left; (simp only [zs]; rfl)
            refine zn 23 (zb 29 16777215) rfl rfl HT_ (by kernel_rfl) (fun _ _ _ h => h) rfl ?_ ?_ ?_; rotate_left; (simp only [zs]; rfl)
            refine zn 24 (zb 29 33554431) rfl rfl HT_ (by kernel_rfl) (fun _ _ _ h => h) rfl ?_ ?_ ?_; rotate_left; (simp only [zs]; rfl)
            refine zn 25 (zb 29 67108863) rfl rfl HT_ (by kernel_rfl) (fun _ _ _ h => h) rfl ?_ ?_ ?_; rotate_left; (simp only [zs]; rfl)
            refine zn 26 (zb 29 134217727) rfl rfl HT_ (by kernel_rfl) (fun _ _ _ h => h) rfl ?_ ?_ ?_; rotate_left; (simp only [zs]; rfl)
            refine zn 27 (zb 29 268435455) rfl rfl HT_ (by kernel_rfl) (fun _ _ _ h => h) rfl ?_ ?_ ?_; rotate_left; (simp only [zs]; rfl)
            refine zp 28 (zb 29 536870911) ?_ rfl rfl HT_ (by kernel_rfl) (fun _ _ _ h => h) rfl ?_ ?_ ?_ ?_; rotate_left; (intro w'; go_simp; with_reducible rfl); rotate_left; (simp only [zs]; rfl)
            refine done_ (done_of HT_.out (by kernel_rfl)) ?_
            try go_wp2
            go_meet
            case rel => exact ⟨_, (true), (by first | rfl ), H', ⟨by have := HK1.out; first | omega | exact Nat.le_refl _⟩, ⟨by exact BK152.out⟩, ⟨by exact BK153.out⟩, ⟨by exact BK154.out⟩, ⟨by exact BK156.out⟩, ⟨by exact HB.out⟩⟩
          · rw [if_neg c21] at H
            have c21b0 : decide (t157 < 0) = false := decide_eq_false c21
            clear c21
            (first | skip)
            by_cases c23 : x15_1 > 0
            · rw [if_pos c23] at H
              have c23b0 : decide (0 < x15_1) = true := decide_eq_true c23
              clear c23
              obtain ⟨ji24, hji24⟩ : ∃ j_ : Int, (wrap64 (x15_1 - 1)) = j_ := ⟨_, rfl⟩
              replace H : (if 0 ≤ (ji24) then (if (ji24) < (l2.length : Int) then (if ((rd_T43 l2 (ji24)).f0) ≥ ((rd_T43 l2 x15_1).f0) then (valid_slots.j1 k1 l2 t157 l2 (l2.length : Int) x15_1 true l0_0 l0_1 a1_0 l1_1 l1_2 x155000_1) else (if 0 ≤ t157 then (if t157 < (l1_1.length : Int) then ((valid_vals.f k1 l0_0 l0_1 ((rd_T36 l1_1 t157).f0) ((rd_T36 l1_1 t157).f1) ((rd_T36 l1_1 t157).f2) ((rd_T36 l1_1 t157).f3) ((rd_T36 l1_1 t157).f4) ((rd_T36 l1_1 t157).f5) ((rd_T36 l1_1 t157).f6) ((rd_T43 l2 x15_1).f1)).bind fun t160 => (valid_slots.j1 k1 l2 t157 l2 (l2.length : Int) x15_1 (!t160) l0_0 l0_1 a1_0 l1_1 l1_2 x155000_1)) else (none)) else (none))) else (none)) else (none)) = some r := by first | (rw [hji24] at H; exact H) 
              have hji24w : (IntKind.i64.wrap (x15_1 - 1)) = ji24 := (i64_w _).trans hji24
              by_cases c25 : 0 ≤ (ji24)
              · rw [if_pos c25] at H
                have c25b0 : decide (0 ≤ (ji24)) = true := decide_eq_true c25
                clear c25
                by_cases c26 : (ji24) < (l2.length : Int)
                · rw [if_pos c26] at H
                  have c26b0 : decide ((ji24) < (l2.length : Int)) = true := decide_eq_true c26
                  clear c26
                  by_cases c27 : ((rd_T43 l2 (ji24)).f0) ≥ ((rd_T43 l2 x15_1).f0)
                  · rw [if_pos c27] at H
                    have c27b0 : decide (((rd_T43 l2 x15_1).f0) ≤ ((rd_T43 l2 (ji24)).f0)) = true := decide_eq_true c27
                    clear c27
                    have H' := Aside0.mk H
                    clear H
                    try go_wp2
                    have n0_ := Aside0.mk (blk_drew BK152.out)
                    have n1_ := Aside0.mk (blk_drew BK153.out)
                    have n2_ := Aside0.mk (map_drew BK154.out)
                    have n3_ := Aside0.mk (blk_drew BK156.out)
                    have n4_ := Aside0.mk (below_drew1 HB.out)
                    clear BK152
                    clear BK153
                    clear BK154
                    clear BK156
                    clear HB
                    have BK152 := n0_
                    have BK153 := n1_
                    have BK154 := n2_
                    have BK156 := n3_
                    have HB := n4_
                    clear n0_ n1_ n2_ n3_ n4_
                    have p158 : 0 ≤ ((ji24) : Int) := of_decide_eq_true (by first | (with_reducible assumption) )
                    have q158 : (ji24) < (l2.length : Int) := of_decide_eq_true (by first | (with_reducible assumption) )
                    obtain ⟨ad158, A158_1, c158_1, e158, hx158_0, hx158_1, hl158_1, hi158_1⟩ := at_T43 HR2.out (ji24) p158 q158
                    have hw158_1 := hx158_1
                    have hw158_0 := hx158_0
                    obtain rfl : ad155 = ad158 := (by injection e158)
                    replace hx158_0 := (HB.out.cell (World.block_lt_of_cell? w _ hx158_0)).trans hx158_0
                    replace hx158_1 := (HB.out.cell (World.block_lt_of_cell? w _ hx158_1)).trans hx158_1
                    have HR158_1 := Aside0.mk hi158_1
                    have HC158_1 := Aside0.mk hl158_1
                    clear hi158_1 hl158_1
                    replace p158 := eq_true p158
                    replace q158 := eq_true q158
                    refine start_ (n := 29) (S := fun w' => w'.cell? ⟨gb156, 0, none⟩ = some (.int .i64 ((rd_T43 l2 x15_1).f0)) ∧ w'.cell? ⟨gb156, 1, none⟩ = some (.slice A155_1 ((rd_T43 l2 x15_1).f1).length c155_1) ∧ w'.cell? (ad155.add (((ji24)).toNat * 2)) = some (.int .i64 ((rd_T43 l2 (ji24)).f0)) ∧ w'.cell? ⟨(ad155.add (((ji24)).toNat * 2)).block, (ad155.add (((ji24)).toNat * 2)).off + 1, none⟩ = some (.slice A158_1 ((rd_T43 l2 (ji24)).f1).length c158_1)) (ds := []) #[false, false, false, false, false, false, false, false, false, false, false, false, false, false, false, false, false, false, false, false, false, false, false, false, false, false, false, false, false] (by kernel_rfl) rfl rfl ⟨(blk_cell BK156.out 0).trans rfl, (blk_cell BK156.out 1).trans rfl, ((HB.out.cell (World.block_lt_of_cell? w _ hw158_0)).trans hw158_0), ((HB.out.cell (World.block_lt_of_cell? w _ hw158_1)).trans hw158_1)⟩ (fun hHeld => ?_); refine with_tabW valid_slots.tab6 valid_slots.bits6 (fun HT_ HW_ => ?_)
                    generalize w20.drew = w28 at BK152 BK153 BK154 BK156 HB HR158_1 hx158_0 hx158_1 hHeld ⊢
                    refine zp 0 (zb 29 1) ?_ rfl rfl HT_ (by kernel_rfl) (fun _ _ _ h => h) rfl ?_ ?_ ?_ ?_; rotate_left; (intro w'; go_simp; with_reducible rfl); rotate_left; (simp only [zs]; rfl)
                    refine zp 1 (zb 29 3) ?_ rfl rfl HT_ (by kernel_rfl) (fun _ _ _ h => h) rfl ?_ ?_ ?_ ?_; rotate_left; (intro w'; go_simp; with_reducible rfl); rotate_left; (simp only [zs]; rfl)
                    refine zp 2 (zb 29 7) ?_ rfl rfl HT_ (by kernel_rfl) (fun _ _ _ h => h) rfl ?_ ?_ ?_ ?_; rotate_left; (intro w'; go_simp; with_reducible rfl); rotate_left; (simp only [zs]; rfl)
                    refine zp 3 (zb 29 15) ?_ rfl rfl HT_ (by kernel_rfl) (fun _ _ _ h => h) rfl ?_ ?_ ?_ ?_; rotate_left; (intro w'; go_simp; with_reducible rfl); rotate_left; (simp only [zs]; rfl)
                    refine zp 4 (zb 29 31) ?_ rfl rfl HT_ (by kernel_rfl) (fun _ _ _ h => h) rfl ?_ ?_ ?_ ?_; rotate_left; (intro w'; go_simp; with_reducible rfl); rotate_left; (simp only [zs]; rfl)
                    refine zp 5 (zb 29 63) ?_ rfl rfl HT_ (by kernel_rfl) (fun _ _ _ h => h) rfl ?_ ?_ ?_ ?_; rotate_left; (intro w'; go_simp; with_reducible rfl); rotate_left; (simp only [zs]; rfl)
                    refine zp 6 (zb 29 127) ?_ rfl rfl HT_ (by kernel_rfl) (fun _ _ _ h => h) rfl ?_ ?_ ?_ ?_; rotate_left; (intro w'; go_simp; with_reducible rfl); rotate_left; (simp only [zs]; rfl)
                    refine zp 7 (zb 29 255) ?_ rfl rfl HT_ (by kernel_rfl) (fun _ _ _ h => h) rfl ?_ ?_ ?_ ?_; rotate_left; (intro w'; go_simp; with_reducible rfl); rotate_left; (simp only [zs]; rfl)
                    refine zp 8 (zb 29 511) ?_ rfl rfl HT_ (by kernel_rfl) (fun _ _ _ h => h) rfl ?_ ?_ ?_ ?_; rotate_left; (intro w'; go_simp; with_reducible rfl); rotate_left; (simp only [zs]; rfl)
                    refine zp 9 (zb 29 1023) ?_ rfl rfl HT_ (by kernel_rfl) (fun _ _ _ h => h) rfl ?_ ?_ ?_ ?_; rotate_left; (intro w'; go_simp; with_reducible rfl); rotate_left; (simp only [zs]; rfl)
                    refine zp 10 (zb 29 2047) ?_ rfl rfl HT_ (by kernel_rfl) (fun _ _ _ h => h) rfl ?_ ?_ ?_ ?_; rotate_left; (intro w'; go_simp; with_reducible rfl); rotate_left; (simp only [zs]; rfl)
                    refine zp 12 (zb 29 6143) ?_ rfl rfl HT_ (by kernel_rfl) (fun _ _ _ h => h) rfl ?_ ?_ ?_ ?_; rotate_left; (intro w'; go_simp; with_reducible rfl); rotate_left; (simp only [zs]; rfl)
                    refine zt 11 (zb 29 8191) ?_ rfl rfl HT_ HW_ (by kernel_rfl) (fun _ _ _ h => h) rfl ?_ hHeld ?_ ?_ ?_; rotate_left; (rintro w' ⟨s0, s1, s2, s3⟩; go_simp; with_reducible rfl); rotate_left; (simp only [zs]; rfl)
                    refine zt 13 (zb 29 16383) ?_ rfl rfl HT_ HW_ (by kernel_rfl) (fun _ _ _ h => h) rfl ?_ hHeld ?_ ?_ ?_; rotate_left; (rintro w' ⟨s0, s1, s2, s3⟩; go_simp; with_reducible rfl); rotate_left; (simp only [zs]; rfl)
                    refine zp 14 (zb 29 32767) ?_ rfl rfl HT_ (by kernel_rfl) (fun _ _ _ h => h) rfl ?_ ?_ ?_ ?_; rotate_left; (intro w'; go_simp; with_reducible rfl); rotate_left; (simp only [zs]; rfl)
                    refine zp 15 (zb 29 65535) ?_ rfl rfl HT_ (by kernel_rfl) (fun _ _ _ h => h) rfl ?_ ?_ ?_ ?_; rotate_left; (intro w'; go_simp; with_reducible rfl); rotate_left; (simp only [zs]; rfl)
                    refine zp 16 (zb 29 131071) ?_ rfl rfl HT_ (by kernel_rfl) (fun _ _ _ h => h) rfl ?_ ?_ ?_ ?_; rotate_left; (intro w'; go_simp; with_reducible rfl); rotate_left; (simp only [zs]; rfl)
                    refine zp 17 (zb 29 262143) ?_ rfl rfl HT_ (by kernel_rfl) (fun _ _ _ h => h) rfl ?_ ?_ ?_ ?_; rotate_left; (intro w'; go_simp; with_reducible rfl); rotate_left; (simp only [zs]; rfl)
                    refine zn 18 (zb 29 524287) rfl rfl HT_ (by kernel_rfl) (fun _ _ _ h => h) rfl ?_ ?_ ?_; rotate_left; (simp only [zs]; rfl)
                    refine zn 19 (zb 29 1048575) rfl rfl HT_ (by kernel_rfl) (fun _ _ _ h => h) rfl ?_ ?_ ?_; rotate_left; (simp only [zs]; rfl)
                    refine zn 20 (zb 29 2097151) rfl rfl HT_ (by kernel_rfl) (fun _ _ _ h => h) rfl ?_ ?_ ?_; rotate_left; (simp only [zs]; rfl)
                    refine zn 21 (zb 29 4194303) rfl rfl HT_ (by kernel_rfl) (fun _ _ _ h => h) rfl ?_ ?_ ?_; rotate_left; (simp only [zs]; rfl)
                    refine zn 22 (zb 29 8388607) rfl rfl HT_ (by kernel_rfl) (fun _ _ _ h => h) rfl ?_ ?_ ?_; rotate_left; (simp only [zs]; rfl)
                    refine zn 23 (zb 29 16777215) rfl rfl HT_ (by kernel_rfl) (fun _ _ _ h => h) rfl ?_ ?_ ?_; rotate_left; (simp only [zs]; rfl)
                    refine zn 24 (zb 29 33554431) rfl rfl HT_ (by kernel_rfl) (fun _ _ _ h => h) rfl ?_ ?_ ?_; rotate_left; (simp only [zs]; rfl)
                    refine zn 25 (zb 29 67108863) rfl rfl HT_ (by kernel_rfl) (fun _ _ _ h => h) rfl ?_ ?_ ?_; rotate_left; (simp only [zs]; rfl)
                    refine zn 26 (zb 29 134217727) rfl rfl HT_ (by kernel_rfl) (fun _ _ _ h => h) rfl ?_ ?_ ?_; rotate_left; (simp only [zs]; rfl)
                    refine zn 27 (zb 29 268435455) rfl rfl HT_ (by kernel_rfl) (fun _ _ _ h => h) rfl ?_ ?_ ?_; rotate_left; (simp only [zs]; rfl)
                    refine zp 28 (zb 29 536870911) ?_ rfl rfl HT_ (by kernel_rfl) (fun _ _ _ h => h) rfl ?_ ?_ ?_ ?_; rotate_left; (intro w'; go_simp; with_reducible rfl); rotate_left; (simp only [zs]; rfl)
                    refine done_ (done_of HT_.out (by kernel_rfl)) ?_
                    try go_wp2
                    go_meet
                    case rel => exact ⟨_, (true), (by first | rfl ), H', ⟨by have := HK1.out; first | omega | exact Nat.le_refl _⟩, ⟨by exact BK152.out⟩, ⟨by exact BK153.out⟩, ⟨by exact BK154.out⟩, ⟨by exact BK156.out⟩, ⟨by exact HB.out⟩⟩
                  · rw [if_neg c27] at H
                    have c27b0 : decide (((rd_T43 l2 x15_1).f0) ≤ ((rd_T43 l2 (ji24)).f0)) = false := decide_eq_false c27
                    clear c27
                    by_cases c29 : 0 ≤ t157
                    · rw [if_pos c29] at H
                      have c29b0 : decide (0 ≤ t157) = true := decide_eq_true c29
                      clear c29
                      by_cases c30 : t157 < (l1_1.length : Int)
                      · rw [if_pos c30] at H
                        have c30b0 : decide (t157 < (l1_1.length : Int)) = true := decide_eq_true c30
                        clear c30
                        replace H := Option.bind_eq_some_iff.mp H
                        obtain ⟨t160, A310, H⟩ := H
                        replace H : (valid_slots.j1 k1 l2 t157 l2 (l2.length : Int) x15_1 (!t160) l0_0 l0_1 a1_0 l1_1 l1_2 x155000_1) = some r := H
                        have A31 := Aside0.mk A310
                        clear A310
                        have H' := Aside0.mk H
                        clear H
                        try go_wp2
                        have n0_ := Aside0.mk (blk_drew BK152.out)
                        have n1_ := Aside0.mk (blk_drew BK153.out)
                        have n2_ := Aside0.mk (map_drew BK154.out)
                        have n3_ := Aside0.mk (blk_drew BK156.out)
                        have n4_ := Aside0.mk (below_drew1 HB.out)
                        clear BK152
                        clear BK153
                        clear BK154
                        clear BK156
                        clear HB
                        have BK152 := n0_
                        have BK153 := n1_
                        have BK154 := n2_
                        have BK156 := n3_
                        have HB := n4_
                        clear n0_ n1_ n2_ n3_ n4_
                        have p158 : 0 ≤ ((ji24) : Int) := of_decide_eq_true (by first | (with_reducible assumption) )
                        have q158 : (ji24) < (l2.length : Int) := of_decide_eq_true (by first | (with_reducible assumption) )
                        obtain ⟨ad158, A158_1, c158_1, e158, hx158_0, hx158_1, hl158_1, hi158_1⟩ := at_T43 HR2.out (ji24) p158 q158
                        have hw158_1 := hx158_1
                        have hw158_0 := hx158_0
                        obtain rfl : ad155 = ad158 := (by injection e158)
                        replace hx158_0 := (HB.out.cell (World.block_lt_of_cell? w _ hx158_0)).trans hx158_0
                        replace hx158_1 := (HB.out.cell (World.block_lt_of_cell? w _ hx158_1)).trans hx158_1
                        have HR158_1 := Aside0.mk hi158_1
                        have HC158_1 := Aside0.mk hl158_1
                        clear hi158_1 hl158_1
                        replace p158 := eq_true p158
                        replace q158 := eq_true q158
                        have p159 : 0 ≤ (t157 : Int) := of_decide_eq_true (by first | (with_reducible assumption) )
                        have q159 : t157 < (l1_1.length : Int) := of_decide_eq_true (by first | (with_reducible assumption) )
                        obtain ⟨ad159, e159, hx159_0, hx159_1, hx159_2, hx159_3, hx159_4, hx159_5, hx159_6⟩ := at_T36 HR1_1.out t157 p159 q159
                        have hw159_6 := hx159_6
                        have hw159_5 := hx159_5
                        have hw159_4 := hx159_4
                        have hw159_3 := hx159_3
                        have hw159_2 := hx159_2
                        have hw159_1 := hx159_1
                        have hw159_0 := hx159_0
                        cases e159
                        replace hx159_0 := (HB.out.cell (World.block_lt_of_cell? w _ hx159_0)).trans hx159_0
                        replace hx159_1 := (HB.out.cell (World.block_lt_of_cell? w _ hx159_1)).trans hx159_1
                        replace hx159_2 := (HB.out.cell (World.block_lt_of_cell? w _ hx159_2)).trans hx159_2
                        replace hx159_3 := (HB.out.cell (World.block_lt_of_cell? w _ hx159_3)).trans hx159_3
                        replace hx159_4 := (HB.out.cell (World.block_lt_of_cell? w _ hx159_4)).trans hx159_4
                        replace hx159_5 := (HB.out.cell (World.block_lt_of_cell? w _ hx159_5)).trans hx159_5
                        replace hx159_6 := (HB.out.cell (World.block_lt_of_cell? w _ hx159_6)).trans hx159_6
                        replace p159 := eq_true p159
                        replace q159 := eq_true q159
                        refine start_ (n := 29) (S := fun w' => w'.cell? ⟨gb156, 0, none⟩ = some (.int .i64 ((rd_T43 l2 x15_1).f0)) ∧ w'.cell? ⟨gb156, 1, none⟩ = some (.slice A155_1 ((rd_T43 l2 x15_1).f1).length c155_1) ∧ w'.cell? ⟨gb152, 0, none⟩ = some (.slice A0_0 l0_0.length c0_0) ∧ w'.cell? ⟨gb152, 1, none⟩ = some (.slice A0_1 l0_1.length c0_1) ∧ w'.cell? ⟨gb153, 0, none⟩ = some (.string a1_0) ∧ w'.cell? ⟨gb153, 1, none⟩ = some (.slice (some ad159) l1_1.length c1_1) ∧ w'.cell? ⟨gb153, 2, none⟩ = some (.slice A1_2 l1_2.length c1_2) ∧ w'.cell? (ad155.add (((ji24)).toNat * 2)) = some (.int .i64 ((rd_T43 l2 (ji24)).f0)) ∧ w'.cell? ⟨(ad155.add (((ji24)).toNat * 2)).block, (ad155.add (((ji24)).toNat * 2)).off + 1, none⟩ = some (.slice A158_1 ((rd_T43 l2 (ji24)).f1).length c158_1) ∧ w'.cell? (ad159.add ((t157).toNat * 7)) = some (.string ((rd_T36 l1_1 t157).f0)) ∧ w'.cell? ⟨(ad159.add ((t157).toNat * 7)).block, (ad159.add ((t157).toNat * 7)).off + 1, none⟩ = some (.int .i64 ((rd_T36 l1_1 t157).f1)) ∧ w'.cell? ⟨(ad159.add ((t157).toNat * 7)).block, (ad159.add ((t157).toNat * 7)).off + 2, none⟩ = some (.int .i64 ((rd_T36 l1_1 t157).f2)) ∧ w'.cell? ⟨(ad159.add ((t157).toNat * 7)).block, (ad159.add ((t157).toNat * 7)).off + 3, none⟩ = some (.string ((rd_T36 l1_1 t157).f3)) ∧ w'.cell? ⟨(ad159.add ((t157).toNat * 7)).block, (ad159.add ((t157).toNat * 7)).off + 4, none⟩ = some (.bool ((rd_T36 l1_1 t157).f4)) ∧ w'.cell? ⟨(ad159.add ((t157).toNat * 7)).block, (ad159.add ((t157).toNat * 7)).off + 5, none⟩ = some (.bool ((rd_T36 l1_1 t157).f5)) ∧ w'.cell? ⟨(ad159.add ((t157).toNat * 7)).block, (ad159.add ((t157).toNat * 7)).off + 6, none⟩ = some (.string ((rd_T36 l1_1 t157).f6))) (ds := []) #[false, false, false, false, false, false, false, false, false, false, false, false, false, false, false, false, false, false, false, false, false, false, false, false, false, false, false, false, false] (by kernel_rfl) rfl rfl ⟨(blk_cell BK156.out 0).trans rfl, (blk_cell BK156.out 1).trans rfl, (blk_cell BK152.out 0).trans rfl, (blk_cell BK152.out 1).trans rfl, (blk_cell BK153.out 0).trans rfl, (blk_cell BK153.out 1).trans rfl, (blk_cell BK153.out 2).trans rfl, ((HB.out.cell (World.block_lt_of_cell? w _ hw158_0)).trans hw158_0), ((HB.out.cell (World.block_lt_of_cell? w _ hw158_1)).trans hw158_1), ((HB.out.cell (World.block_lt_of_cell? w _ hw159_0)).trans hw159_0), ((HB.out.cell (World.block_lt_of_cell? w _ hw159_1)).trans hw159_1), ((HB.out.cell (World.block_lt_of_cell? w _ hw159_2)).trans hw159_2), ((HB.out.cell (World.block_lt_of_cell? w _ hw159_3)).trans hw159_3), ((HB.out.cell (World.block_lt_of_cell? w _ hw159_4)).trans hw159_4), ((HB.out.cell (World.block_lt_of_cell? w _ hw159_5)).trans hw159_5), ((HB.out.cell (World.block_lt_of_cell? w _ hw159_6)).trans hw159_6)⟩ (fun hHeld => ?_); refine with_tabW valid_slots.tab6 valid_slots.bits6 (fun HT_ HW_ => ?_)
                        generalize w20.drew = w32 at BK152 BK153 BK154 BK156 HB HR158_1 hx158_0 hx158_1 hx159_0 hx159_1 hx159_2 hx159_3 hx159_4 hx159_5 hx159_6 hHeld ⊢
                        refine zp 0 (zb 29 1) ?_ rfl rfl HT_ (by kernel_rfl) (fun _ _ _ h => h) rfl ?_ ?_ ?_ ?_; rotate_left; (intro w'; go_simp; with_reducible rfl); rotate_left; (simp only [zs]; rfl)
                        refine zp 1 (zb 29 3) ?_ rfl rfl HT_ (by kernel_rfl) (fun _ _ _ h => h) rfl ?_ ?_ ?_ ?_; rotate_left; (intro w'; go_simp; with_reducible rfl); rotate_left; (simp only [zs]; rfl)
                        refine zp 2 (zb 29 7) ?_ rfl rfl HT_ (by kernel_rfl) (fun _ _ _ h => h) rfl ?_ ?_ ?_ ?_; rotate_left; (intro w'; go_simp; with_reducible rfl); rotate_left; (simp only [zs]; rfl)
                        refine zp 3 (zb 29 15) ?_ rfl rfl HT_ (by kernel_rfl) (fun _ _ _ h => h) rfl ?_ ?_ ?_ ?_; rotate_left; (intro w'; go_simp; with_reducible rfl); rotate_left; (simp only [zs]; rfl)
                        refine zp 4 (zb 29 31) ?_ rfl rfl HT_ (by kernel_rfl) (fun _ _ _ h => h) rfl ?_ ?_ ?_ ?_; rotate_left; (intro w'; go_simp; with_reducible rfl); rotate_left; (simp only [zs]; rfl)
                        refine zp 5 (zb 29 63) ?_ rfl rfl HT_ (by kernel_rfl) (fun _ _ _ h => h) rfl ?_ ?_ ?_ ?_; rotate_left; (intro w'; go_simp; with_reducible rfl); rotate_left; (simp only [zs]; rfl)
                        refine zp 6 (zb 29 127) ?_ rfl rfl HT_ (by kernel_rfl) (fun _ _ _ h => h) rfl ?_ ?_ ?_ ?_; rotate_left; (intro w'; go_simp; with_reducible rfl); rotate_left; (simp only [zs]; rfl)
                        refine zp 7 (zb 29 255) ?_ rfl rfl HT_ (by kernel_rfl) (fun _ _ _ h => h) rfl ?_ ?_ ?_ ?_; rotate_left; (intro w'; go_simp; with_reducible rfl); rotate_left; (simp only [zs]; rfl)
                        refine zp 8 (zb 29 511) ?_ rfl rfl HT_ (by kernel_rfl) (fun _ _ _ h => h) rfl ?_ ?_ ?_ ?_; rotate_left; (intro w'; go_simp; with_reducible rfl); rotate_left; (simp only [zs]; rfl)
                        refine zp 9 (zb 29 1023) ?_ rfl rfl HT_ (by kernel_rfl) (fun _ _ _ h => h) rfl ?_ ?_ ?_ ?_; rotate_left; (intro w'; go_simp; with_reducible rfl); rotate_left; (simp only [zs]; rfl)
                        refine zp 10 (zb 29 2047) ?_ rfl rfl HT_ (by kernel_rfl) (fun _ _ _ h => h) rfl ?_ ?_ ?_ ?_; rotate_left; (intro w'; go_simp; with_reducible rfl); rotate_left; (simp only [zs]; rfl)
                        refine zp 12 (zb 29 6143) ?_ rfl rfl HT_ (by kernel_rfl) (fun _ _ _ h => h) rfl ?_ ?_ ?_ ?_; rotate_left; (intro w'; go_simp; with_reducible rfl); rotate_left; (simp only [zs]; rfl)
                        refine zt 11 (zb 29 8191) ?_ rfl rfl HT_ HW_ (by kernel_rfl) (fun _ _ _ h => h) rfl ?_ hHeld ?_ ?_ ?_; rotate_left; (rintro w' ⟨s0, s1, s2, s3, s4, s5, s6, s7, s8, s9, s10, s11, s12, s13, s14, s15⟩; go_simp; with_reducible rfl); rotate_left; (simp only [zs]; rfl)
                        refine zt 13 (zb 29 16383) ?_ rfl rfl HT_ HW_ (by kernel_rfl) (fun _ _ _ h => h) rfl ?_ hHeld ?_ ?_ ?_; rotate_left; (rintro w' ⟨s0, s1, s2, s3, s4, s5, s6, s7, s8, s9, s10, s11, s12, s13, s14, s15⟩; go_simp; with_reducible rfl); rotate_left; (simp only [zs]; rfl)
                        refine zp 14 (zb 29 32767) ?_ rfl rfl HT_ (by kernel_rfl) (fun _ _ _ h => h) rfl ?_ ?_ ?_ ?_; rotate_left; (intro w'; go_simp; with_reducible rfl); rotate_left; (simp only [zs]; rfl)
                        refine zp 15 (zb 29 65535) ?_ rfl rfl HT_ (by kernel_rfl) (fun _ _ _ h => h) rfl ?_ ?_ ?_ ?_; rotate_left; (intro w'; go_simp; with_reducible rfl); rotate_left; (simp only [zs]; rfl)
                        refine zp 16 (zb 29 131071) ?_ rfl rfl HT_ (by kernel_rfl) (fun _ _ _ h => h) rfl ?_ ?_ ?_ ?_; rotate_left; (intro w'; go_simp; with_reducible rfl); rotate_left; (simp only [zs]; rfl)
                        refine zp 17 (zb 29 262143) ?_ rfl rfl HT_ (by kernel_rfl) (fun _ _ _ h => h) rfl ?_ ?_ ?_ ?_; rotate_left; (intro w'; go_simp; with_reducible rfl); rotate_left; (simp only [zs]; rfl)
                        refine zp 19 (zb 29 786431) ?_ rfl rfl HT_ (by kernel_rfl) (fun _ _ _ h => h) rfl ?_ ?_ ?_ ?_; rotate_left; (intro w'; go_simp; with_reducible rfl); rotate_left; (simp only [zs]; rfl)
                        refine zp 21 (zb 29 2883583) ?_ rfl rfl HT_ (by kernel_rfl) (fun _ _ _ h => h) rfl ?_ ?_ ?_ ?_; rotate_left; (intro w'; go_simp; with_reducible rfl); rotate_left; (simp only [zs]; rfl)
                        refine zp 24 (zb 29 19660799) ?_ rfl rfl HT_ (by kernel_rfl) (fun _ _ _ h => h) rfl ?_ ?_ ?_ ?_; rotate_left; (intro w'; go_simp; with_reducible rfl); rotate_left; (simp only [zs]; rfl)
                        refine zt 18 (zb 29 19922943) ?_ rfl rfl HT_ HW_ (by kernel_rfl) (fun _ _ _ h => h) rfl ?_ hHeld ?_ ?_ ?_; rotate_left; (rintro w' ⟨s0, s1, s2, s3, s4, s5, s6, s7, s8, s9, s10, s11, s12, s13, s14, s15⟩; go_simp; with_reducible rfl); rotate_left; (simp only [zs]; rfl)
                        refine zt 20 (zb 29 20971519) ?_ rfl rfl HT_ HW_ (by kernel_rfl) (fun _ _ _ h => h) rfl ?_ hHeld ?_ ?_ ?_; rotate_left; (rintro w' ⟨s0, s1, s2, s3, s4, s5, s6, s7, s8, s9, s10, s11, s12, s13, s14, s15⟩; go_simp; with_reducible rfl); rotate_left; (simp only [zs]; rfl)
                        refine zp 22 (zb 29 25165823) ?_ rfl rfl HT_ (by kernel_rfl) (fun _ _ _ h => h) rfl ?_ ?_ ?_ ?_; rotate_left; (intro w'; go_simp; with_reducible rfl); rotate_left; (simp only [zs]; rfl)
                        refine zt 23 (zb 29 33554431) ?_ rfl rfl HT_ HW_ (by kernel_rfl) (fun _ _ _ h => h) rfl ?_ hHeld ?_ ?_ ?_; rotate_left; (rintro w' ⟨s0, s1, s2, s3, s4, s5, s6, s7, s8, s9, s10, s11, s12, s13, s14, s15⟩; go_simp; with_reducible rfl); rotate_left; (simp only [zs]; rfl)
                        refine zt 25 (zb 29 67108863) ?_ rfl rfl HT_ HW_ (by kernel_rfl) (fun _ _ _ h => h) rfl ?_ hHeld ?_ ?_ ?_; rotate_left; (rintro w' ⟨s0, s1, s2, s3, s4, s5, s6, s7, s8, s9, s10, s11, s12, s13, s14, s15⟩; go_simp; with_reducible rfl); rotate_left; (simp only [zs]; rfl)
                        refine one_ (i := 26) (N := some 50) #[true, true, true, true, true, true, true, true, true, true, true, true, true, true, true, true, true, true, true, true, true, true, true, true, true, true, true, false, false] rfl rfl (one_of HT_.out (by kernel_rfl)) (by decide) (fun K hK => ?_)
                        refine goes_ Tryd.func31 (by kernel_rfl) rfl #[.agg #[.slice A0_0 l0_0.length c0_0, .slice A0_1 l0_1.length c0_1], .agg #[.string ((rd_T36 l1_1 t157).f0), .int .i64 ((rd_T36 l1_1 t157).f1), .int .i64 ((rd_T36 l1_1 t157).f2), .string ((rd_T36 l1_1 t157).f3), .bool ((rd_T36 l1_1 t157).f4), .bool ((rd_T36 l1_1 t157).f5), .string ((rd_T36 l1_1 t157).f6)], .slice A155_1 ((rd_T43 l2 x15_1).f1).length c155_1] (by rfl) rfl rfl (by (try simp only [List.map_toArray, List.map_cons, List.map_nil]); first | done | rfl | (simp only [List.length_drop, List.length_take]; rfl)) ?_
                        with_reducible refine (ih_valid_vals k1 (by have := HK1.out; omega) _ _ l0_0 _ _ l0_1 ((rd_T36 l1_1 t157).f0) ((rd_T36 l1_1 t157).f1) ((rd_T36 l1_1 t157).f2) ((rd_T36 l1_1 t157).f3) ((rd_T36 l1_1 t157).f4) ((rd_T36 l1_1 t157).f5) ((rd_T36 l1_1 t157).f6) _ _ ((rd_T43 l2 x15_1).f1) t160 _ ?sideT ?side1 ?side2 ?side3 ?side4 ?side5 ?side6 A31.out).mono ?_
                        case sideT => exact Tabs.below HU8.out HB.out
                        (case side1 => repeat (first | exact (Kd.C_below HR0_0.out HB.out) ))
                        (case side2 => exact HC0_0.out)
                        (case side3 => repeat (first | exact (Kd.C_below HR0_1.out HB.out) ))
                        (case side4 => exact HC0_1.out)
                        (case side5 => repeat (first | exact (Kd.C_below HR155_1.out HB.out) ))
                        (case side6 => exact HC155_1.out)
                        rintro e w33 ⟨rfl, hb⟩
                        refine ⟨_, rfl, ?_⟩
                        have n0_ := Aside0.mk (blk_below BK152.out hb)
                        have n1_ := Aside0.mk (blk_below BK153.out hb)
                        have n2_ := Aside0.mk (map_below BK154.out hb)
                        have n3_ := Aside0.mk (blk_below BK156.out hb)
                        have n4_ := Aside0.mk (below_step HB.out hb)
                        clear BK152
                        clear BK153
                        clear BK154
                        clear BK156
                        clear HB
                        have BK152 := n0_
                        have BK153 := n1_
                        have BK154 := n2_
                        have BK156 := n3_
                        have HB := n4_
                        clear n0_ n1_ n2_ n3_ n4_
                        (try clear hb)
                        (try clear hb2)
                        (try clear hk)
                        (try clear hi)
                        refine hK.out _ _ ⟨(blk_cell BK156.out 0).trans rfl, (blk_cell BK156.out 1).trans rfl, (blk_cell BK152.out 0).trans rfl, (blk_cell BK152.out 1).trans rfl, (blk_cell BK153.out 0).trans rfl, (blk_cell BK153.out 1).trans rfl, (blk_cell BK153.out 2).trans rfl, ((HB.out.cell (World.block_lt_of_cell? w _ hw158_0)).trans hw158_0), ((HB.out.cell (World.block_lt_of_cell? w _ hw158_1)).trans hw158_1), ((HB.out.cell (World.block_lt_of_cell? w _ hw159_0)).trans hw159_0), ((HB.out.cell (World.block_lt_of_cell? w _ hw159_1)).trans hw159_1), ((HB.out.cell (World.block_lt_of_cell? w _ hw159_2)).trans hw159_2), ((HB.out.cell (World.block_lt_of_cell? w _ hw159_3)).trans hw159_3), ((HB.out.cell (World.block_lt_of_cell? w _ hw159_4)).trans hw159_4), ((HB.out.cell (World.block_lt_of_cell? w _ hw159_5)).trans hw159_5), ((HB.out.cell (World.block_lt_of_cell? w _ hw159_6)).trans hw159_6)⟩ (fun hHeld => ?_)
                        clear hK K
                        refine norm_ (a' := ?_) ?_ ?_
                        rotate_left
                        · show Act.put _ (some 50) _ = _
                          simp only [zs]
                          rfl
                        refine zp 27 (zb 29 268435455) ?_ rfl rfl HT_ (by kernel_rfl) (fun _ _ _ h => h) rfl ?_ ?_ ?_ ?_; rotate_left; (intro w'; go_simp; with_reducible rfl); rotate_left; (simp only [zs]; rfl)
                        refine zp 28 (zb 29 536870911) ?_ rfl rfl HT_ (by kernel_rfl) (fun _ _ _ h => h) rfl ?_ ?_ ?_ ?_; rotate_left; (intro w'; go_simp; with_reducible rfl); rotate_left; (simp only [zs]; rfl)
                        refine done_ (done_of HT_.out (by kernel_rfl)) ?_
                        try go_wp2
                        go_meet
                        case rel => exact ⟨_, (!t160), (by first | rfl ), H', ⟨by have := HK1.out; first | omega | exact Nat.le_refl _⟩, ⟨by exact BK152.out⟩, ⟨by exact BK153.out⟩, ⟨by exact BK154.out⟩, ⟨by exact BK156.out⟩, ⟨by exact HB.out⟩⟩
                      · rw [if_neg c30] at H
                        exact absurd H (by simp)
                    · rw [if_neg c29] at H
                      exact absurd H (by simp)
                · rw [if_neg c26] at H
                  exact absurd H (by simp)
              · rw [if_neg c25] at H
                exact absurd H (by simp)
            · rw [if_neg c23] at H
              have c23b0 : decide (0 < x15_1) = false := decide_eq_false c23
              clear c23
              by_cases c34 : 0 ≤ t157
              · rw [if_pos c34] at H
                have c34b0 : decide (0 ≤ t157) = true := decide_eq_true c34
                clear c34
                by_cases c35 : t157 < (l1_1.length : Int)
                · rw [if_pos c35] at H
                  have c35b0 : decide (t157 < (l1_1.length : Int)) = true := decide_eq_true c35
                  clear c35
                  replace H := Option.bind_eq_some_iff.mp H
                  obtain ⟨t162, A360, H⟩ := H
                  replace H : (valid_slots.j1 k1 l2 t157 l2 (l2.length : Int) x15_1 (!t162) l0_0 l0_1 a1_0 l1_1 l1_2 x155000_1) = some r := H
                  have A36 := Aside0.mk A360
                  clear A360
                  have H' := Aside0.mk H
                  clear H
                  try go_wp2
                  have n0_ := Aside0.mk (blk_drew BK152.out)
                  have n1_ := Aside0.mk (blk_drew BK153.out)
                  have n2_ := Aside0.mk (map_drew BK154.out)
                  have n3_ := Aside0.mk (blk_drew BK156.out)
                  have n4_ := Aside0.mk (below_drew1 HB.out)
                  clear BK152
                  clear BK153
                  clear BK154
                  clear BK156
                  clear HB
                  have BK152 := n0_
                  have BK153 := n1_
                  have BK154 := n2_
                  have BK156 := n3_
                  have HB := n4_
                  clear n0_ n1_ n2_ n3_ n4_
                  have p161 : 0 ≤ (t157 : Int) := of_decide_eq_true (by first | (with_reducible assumption) )
                  have q161 : t157 < (l1_1.length : Int) := of_decide_eq_true (by first | (with_reducible assumption) )
                  obtain ⟨ad161, e161, hx161_0, hx161_1, hx161_2, hx161_3, hx161_4, hx161_5, hx161_6⟩ := at_T36 HR1_1.out t157 p161 q161
                  have hw161_6 := hx161_6
                  have hw161_5 := hx161_5
                  have hw161_4 := hx161_4
                  have hw161_3 := hx161_3
                  have hw161_2 := hx161_2
                  have hw161_1 := hx161_1
                  have hw161_0 := hx161_0
                  cases e161
                  replace hx161_0 := (HB.out.cell (World.block_lt_of_cell? w _ hx161_0)).trans hx161_0
                  replace hx161_1 := (HB.out.cell (World.block_lt_of_cell? w _ hx161_1)).trans hx161_1
                  replace hx161_2 := (HB.out.cell (World.block_lt_of_cell? w _ hx161_2)).trans hx161_2
                  replace hx161_3 := (HB.out.cell (World.block_lt_of_cell? w _ hx161_3)).trans hx161_3
                  replace hx161_4 := (HB.out.cell (World.block_lt_of_cell? w _ hx161_4)).trans hx161_4
                  replace hx161_5 := (HB.out.cell (World.block_lt_of_cell? w _ hx161_5)).trans hx161_5
                  replace hx161_6 := (HB.out.cell (World.block_lt_of_cell? w _ hx161_6)).trans hx161_6
                  replace p161 := eq_true p161
                  replace q161 := eq_true q161
                  refine start_ (n := 29) (S := fun w' => w'.cell? ⟨gb152, 0, none⟩ = some (.slice A0_0 l0_0.length c0_0) ∧ w'.cell? ⟨gb152, 1, none⟩ = some (.slice A0_1 l0_1.length c0_1) ∧ w'.cell? ⟨gb153, 0, none⟩ = some (.string a1_0) ∧ w'.cell? ⟨gb153, 1, none⟩ = some (.slice (some ad161) l1_1.length c1_1) ∧ w'.cell? ⟨gb153, 2, none⟩ = some (.slice A1_2 l1_2.length c1_2) ∧ w'.cell? ⟨gb156, 0, none⟩ = some (.int .i64 ((rd_T43 l2 x15_1).f0)) ∧ w'.cell? ⟨gb156, 1, none⟩ = some (.slice A155_1 ((rd_T43 l2 x15_1).f1).length c155_1) ∧ w'.cell? (ad161.add ((t157).toNat * 7)) = some (.string ((rd_T36 l1_1 t157).f0)) ∧ w'.cell? ⟨(ad161.add ((t157).toNat * 7)).block, (ad161.add ((t157).toNat * 7)).off + 1, none⟩ = some (.int .i64 ((rd_T36 l1_1 t157).f1)) ∧ w'.cell? ⟨(ad161.add ((t157).toNat * 7)).block, (ad161.add ((t157).toNat * 7)).off + 2, none⟩ = some (.int .i64 ((rd_T36 l1_1 t157).f2)) ∧ w'.cell? ⟨(ad161.add ((t157).toNat * 7)).block, (ad161.add ((t157).toNat * 7)).off + 3, none⟩ = some (.string ((rd_T36 l1_1 t157).f3)) ∧ w'.cell? ⟨(ad161.add ((t157).toNat * 7)).block, (ad161.add ((t157).toNat * 7)).off + 4, none⟩ = some (.bool ((rd_T36 l1_1 t157).f4)) ∧ w'.cell? ⟨(ad161.add ((t157).toNat * 7)).block, (ad161.add ((t157).toNat * 7)).off + 5, none⟩ = some (.bool ((rd_T36 l1_1 t157).f5)) ∧ w'.cell? ⟨(ad161.add ((t157).toNat * 7)).block, (ad161.add ((t157).toNat * 7)).off + 6, none⟩ = some (.string ((rd_T36 l1_1 t157).f6))) (ds := []) #[false, false, false, false, false, false, false, false, false, false, false, false, false, false, false, false, false, false, false, false, false, false, false, false, false, false, false, false, false] (by kernel_rfl) rfl rfl ⟨(blk_cell BK152.out 0).trans rfl, (blk_cell BK152.out 1).trans rfl, (blk_cell BK153.out 0).trans rfl, (blk_cell BK153.out 1).trans rfl, (blk_cell BK153.out 2).trans rfl, (blk_cell BK156.out 0).trans rfl, (blk_cell BK156.out 1).trans rfl, ((HB.out.cell (World.block_lt_of_cell? w _ hw161_0)).trans hw161_0), ((HB.out.cell (World.block_lt_of_cell? w _ hw161_1)).trans hw161_1), ((HB.out.cell (World.block_lt_of_cell? w _ hw161_2)).trans hw161_2), ((HB.out.cell (World.block_lt_of_cell? w _ hw161_3)).trans hw161_3), ((HB.out.cell (World.block_lt_of_cell? w _ hw161_4)).trans hw161_4), ((HB.out.cell (World.block_lt_of_cell? w _ hw161_5)).trans hw161_5), ((HB.out.cell (World.block_lt_of_cell? w _ hw161_6)).trans hw161_6)⟩ (fun hHeld => ?_); refine with_tabW valid_slots.tab6 valid_slots.bits6 (fun HT_ HW_ => ?_)
                  generalize w20.drew = w37 at BK152 BK153 BK154 BK156 HB hx161_0 hx161_1 hx161_2 hx161_3 hx161_4 hx161_5 hx161_6 hHeld ⊢
                  refine zp 0 (zb 29 1) ?_ rfl rfl HT_ (by kernel_rfl) (fun _ _ _ h => h) rfl ?_ ?_ ?_ ?_; rotate_left; (intro w'; go_simp; with_reducible rfl); rotate_left; (simp only [zs]; rfl)
                  refine zp 1 (zb 29 3) ?_ rfl rfl HT_ (by kernel_rfl) (fun _ _ _ h => h) rfl ?_ ?_ ?_ ?_; rotate_left; (intro w'; go_simp; with_reducible rfl); rotate_left; (simp only [zs]; rfl)
                  refine zp 2 (zb 29 7) ?_ rfl rfl HT_ (by kernel_rfl) (fun _ _ _ h => h) rfl ?_ ?_ ?_ ?_; rotate_left; (intro w'; go_simp; with_reducible rfl); rotate_left; (simp only [zs]; rfl)
                  refine zp 3 (zb 29 15) ?_ rfl rfl HT_ (by kernel_rfl) (fun _ _ _ h => h) rfl ?_ ?_ ?_ ?_; rotate_left; (intro w'; go_simp; with_reducible rfl); rotate_left; (simp only [zs]; rfl)
                  refine zp 4 (zb 29 31) ?_ rfl rfl HT_ (by kernel_rfl) (fun _ _ _ h => h) rfl ?_ ?_ ?_ ?_; rotate_left; (intro w'; go_simp; with_reducible rfl); rotate_left; (simp only [zs]; rfl)
                  refine zp 5 (zb 29 63) ?_ rfl rfl HT_ (by kernel_rfl) (fun _ _ _ h => h) rfl ?_ ?_ ?_ ?_; rotate_left; (intro w'; go_simp; with_reducible rfl); rotate_left; (simp only [zs]; rfl)
                  refine zn 6 (zb 29 127) rfl rfl HT_ (by kernel_rfl) (fun _ _ _ h => h) rfl ?_ ?_ ?_; rotate_left; (simp only [zs]; rfl)
                  refine zn 7 (zb 29 255) rfl rfl HT_ (by kernel_rfl) (fun _ _ _ h => h) rfl ?_ ?_ ?_; rotate_left; (simp only [zs]; rfl)
                  refine zn 8 (zb 29 511) rfl rfl HT_ (by kernel_rfl) (fun _ _ _ h => h) rfl ?_ ?_ ?_; rotate_left; (simp only [zs]; rfl)
                  refine zn 9 (zb 29 1023) rfl rfl HT_ (by kernel_rfl) (fun _ _ _ h => h) rfl ?_ ?_ ?_; rotate_left; (simp only [zs]; rfl)
                  refine zn 10 (zb 29 2047) rfl rfl HT_ (by kernel_rfl) (fun _ _ _ h => h) rfl ?_ ?_ ?_; rotate_left; (simp only [zs]; rfl)
                  refine zn 11 (zb 29 4095) rfl rfl HT_ (by kernel_rfl) (fun _ _ _ h => h) rfl ?_ ?_ ?_; rotate_left; (simp only [zs]; rfl)
                  refine zn 12 (zb 29 8191) rfl rfl HT_ (by kernel_rfl) (fun _ _ _ h => h) rfl ?_ ?_ ?_; rotate_left; (simp only [zs]; rfl)
                  refine zn 13 (zb 29 16383) rfl rfl HT_ (by kernel_rfl) (fun _ _ _ h => h) rfl ?_ ?_ ?_; rotate_left; (simp only [zs]; rfl)
                  refine zn 14 (zb 29 32767) rfl rfl HT_ (by kernel_rfl) (fun _ _ _ h => h) rfl ?_ ?_ ?_; rotate_left; (simp only [zs]; rfl)
                  refine zp 15 (zb 29 65535) ?_ rfl rfl HT_ (by kernel_rfl) (fun _ _ _ h => h) rfl ?_ ?_ ?_ ?_; rotate_left; (intro w'; go_simp; with_reducible rfl); rotate_left; (simp only [zs]; rfl)
                  refine zp 16 (zb 29 131071) ?_ rfl rfl HT_ (by kernel_rfl) (fun _ _ _ h => h) rfl ?_ ?_ ?_ ?_; rotate_left; (intro w'; go_simp; with_reducible rfl); rotate_left; (simp only [zs]; rfl)
                  refine zp 17 (zb 29 262143) ?_ rfl rfl HT_ (by kernel_rfl) (fun _ _ _ h => h) rfl ?_ ?_ ?_ ?_; rotate_left; (intro w'; go_simp; with_reducible rfl); rotate_left; (simp only [zs]; rfl)
                  refine zp 19 (zb 29 786431) ?_ rfl rfl HT_ (by kernel_rfl) (fun _ _ _ h => h) rfl ?_ ?_ ?_ ?_; rotate_left; (intro w'; go_simp; with_reducible rfl); rotate_left; (simp only [zs]; rfl)
                  refine zp 21 (zb 29 2883583) ?_ rfl rfl HT_ (by kernel_rfl) (fun _ _ _ h => h) rfl ?_ ?_ ?_ ?_; rotate_left; (intro w'; go_simp; with_reducible rfl); rotate_left; (simp only [zs]; rfl)
                  refine zp 24 (zb 29 19660799) ?_ rfl rfl HT_ (by kernel_rfl) (fun _ _ _ h => h) rfl ?_ ?_ ?_ ?_; rotate_left; (intro w'; go_simp; with_reducible rfl); rotate_left; (simp only [zs]; rfl)
                  refine zt 18 (zb 29 19922943) ?_ rfl rfl HT_ HW_ (by kernel_rfl) (fun _ _ _ h => h) rfl ?_ hHeld ?_ ?_ ?_; rotate_left; (rintro w' ⟨s0, s1, s2, s3, s4, s5, s6, s7, s8, s9, s10, s11, s12, s13⟩; go_simp; with_reducible rfl); rotate_left; (simp only [zs]; rfl)
                  refine zt 20 (zb 29 20971519) ?_ rfl rfl HT_ HW_ (by kernel_rfl) (fun _ _ _ h => h) rfl ?_ hHeld ?_ ?_ ?_; rotate_left; (rintro w' ⟨s0, s1, s2, s3, s4, s5, s6, s7, s8, s9, s10, s11, s12, s13⟩; go_simp; with_reducible rfl); rotate_left; (simp only [zs]; rfl)
                  refine zp 22 (zb 29 25165823) ?_ rfl rfl HT_ (by kernel_rfl) (fun _ _ _ h => h) rfl ?_ ?_ ?_ ?_; rotate_left; (intro w'; go_simp; with_reducible rfl); rotate_left; (simp only [zs]; rfl)
                  refine zt 23 (zb 29 33554431) ?_ rfl rfl HT_ HW_ (by kernel_rfl) (fun _ _ _ h => h) rfl ?_ hHeld ?_ ?_ ?_; rotate_left; (rintro w' ⟨s0, s1, s2, s3, s4, s5, s6, s7, s8, s9, s10, s11, s12, s13⟩; go_simp; with_reducible rfl); rotate_left; (simp only [zs]; rfl)
                  refine zt 25 (zb 29 67108863) ?_ rfl rfl HT_ HW_ (by kernel_rfl) (fun _ _ _ h => h) rfl ?_ hHeld ?_ ?_ ?_; rotate_left; (rintro w' ⟨s0, s1, s2, s3, s4, s5, s6, s7, s8, s9, s10, s11, s12, s13⟩; go_simp; with_reducible rfl); rotate_left; (simp only [zs]; rfl)
                  refine one_ (i := 26) (N := some 50) #[true, true, true, true, true, true, true, true, true, true, true, true, true, true, true, true, true, true, true, true, true, true, true, true, true, true, true, false, false] rfl rfl (one_of HT_.out (by kernel_rfl)) (by decide) (fun K hK => ?_)
                  refine goes_ Tryd.func31 (by kernel_rfl) rfl #[.agg #[.slice A0_0 l0_0.length c0_0, .slice A0_1 l0_1.length c0_1], .agg #[.string ((rd_T36 l1_1 t157).f0), .int .i64 ((rd_T36 l1_1 t157).f1), .int .i64 ((rd_T36 l1_1 t157).f2), .string ((rd_T36 l1_1 t157).f3), .bool ((rd_T36 l1_1 t157).f4), .bool ((rd_T36 l1_1 t157).f5), .string ((rd_T36 l1_1 t157).f6)], .slice A155_1 ((rd_T43 l2 x15_1).f1).length c155_1] (by rfl) rfl rfl (by (try simp only [List.map_toArray, List.map_cons, List.map_nil]); first | done | rfl | (simp only [List.length_drop, List.length_take]; rfl)) ?_
                  with_reducible refine (ih_valid_vals k1 (by have := HK1.out; omega) _ _ l0_0 _ _ l0_1 ((rd_T36 l1_1 t157).f0) ((rd_T36 l1_1 t157).f1) ((rd_T36 l1_1 t157).f2) ((rd_T36 l1_1 t157).f3) ((rd_T36 l1_1 t157).f4) ((rd_T36 l1_1 t157).f5) ((rd_T36 l1_1 t157).f6) _ _ ((rd_T43 l2 x15_1).f1) t162 _ ?sideT ?side1 ?side2 ?side3 ?side4 ?side5 ?side6 A36.out).mono ?_
                  case sideT => exact Tabs.below HU8.out HB.out
                  (case side1 => repeat (first | exact (Kd.C_below HR0_0.out HB.out) ))
                  (case side2 => exact HC0_0.out)
                  (case side3 => repeat (first | exact (Kd.C_below HR0_1.out HB.out) ))
                  (case side4 => exact HC0_1.out)
                  (case side5 => repeat (first | exact (Kd.C_below HR155_1.out HB.out) ))
                  (case side6 => exact HC155_1.out)
                  rintro e w38 ⟨rfl, hb⟩
                  refine ⟨_, rfl, ?_⟩
                  have n0_ := Aside0.mk (blk_below BK152.out hb)
                  have n1_ := Aside0.mk (blk_below BK153.out hb)
                  have n2_ := Aside0.mk (map_below BK154.out hb)
                  have n3_ := Aside0.mk (blk_below BK156.out hb)
                  have n4_ := Aside0.mk (below_step HB.out hb)
                  clear BK152
                  clear BK153
                  clear BK154
                  clear BK156
                  clear HB
                  have BK152 := n0_
                  have BK153 := n1_
                  have BK154 := n2_
                  have BK156 := n3_
                  have HB := n4_
                  clear n0_ n1_ n2_ n3_ n4_
                  (try clear hb)
                  (try clear hb2)
                  (try clear hk)
                  (try clear hi)
                  refine hK.out _ _ ⟨(blk_cell BK152.out 0).trans rfl, (blk_cell BK152.out 1).trans rfl, (blk_cell BK153.out 0).trans rfl, (blk_cell BK153.out 1).trans rfl, (blk_cell BK153.out 2).trans rfl, (blk_cell BK156.out 0).trans rfl, (blk_cell BK156.out 1).trans rfl, ((HB.out.cell (World.block_lt_of_cell? w _ hw161_0)).trans hw161_0), ((HB.out.cell (World.block_lt_of_cell? w _ hw161_1)).trans hw161_1), ((HB.out.cell (World.block_lt_of_cell? w _ hw161_2)).trans hw161_2), ((HB.out.cell (World.block_lt_of_cell? w _ hw161_3)).trans hw161_3), ((HB.out.cell (World.block_lt_of_cell? w _ hw161_4)).trans hw161_4), ((HB.out.cell (World.block_lt_of_cell? w _ hw161_5)).trans hw161_5), ((HB.out.cell (World.block_lt_of_cell? w _ hw161_6)).trans hw161_6)⟩ (fun hHeld => ?_)
                  clear hK K
                  refine norm_ (a' := ?_) ?_ ?_
                  rotate_left
                  · show Act.put _ (some 50) _ = _
                    simp only [zs]
                    rfl
                  refine zp 27 (zb 29 268435455) ?_ rfl rfl HT_ (by kernel_rfl) (fun _ _ _ h => h) rfl ?_ ?_ ?_ ?_; rotate_left; (intro w'; go_simp; with_reducible rfl); rotate_left; (simp only [zs]; rfl)
                  refine zp 28 (zb 29 536870911) ?_ rfl rfl HT_ (by kernel_rfl) (fun _ _ _ h => h) rfl ?_ ?_ ?_ ?_; rotate_left; (intro w'; go_simp; with_reducible rfl); rotate_left; (simp only [zs]; rfl)
                  refine done_ (done_of HT_.out (by kernel_rfl)) ?_
                  try go_wp2
                  go_meet
                  case rel => exact ⟨_, (!t162), (by first | rfl ), H', ⟨by have := HK1.out; first | omega | exact Nat.le_refl _⟩, ⟨by exact BK152.out⟩, ⟨by exact BK153.out⟩, ⟨by exact BK154.out⟩, ⟨by exact BK156.out⟩, ⟨by exact HB.out⟩⟩
                · rw [if_neg c35] at H
                  exact absurd H (by simp)
              · rw [if_neg c34] at H
                exact absurd H (by simp)
         case rest =>
          clear HC11
          try clear c1
          try clear p1
          try clear q1
          try clear hx1
          try clear c2
          try clear p2
          try clear c3
          try clear c15
          try clear p15
          try clear q15
          try clear hx15
          try clear p16
          try clear q16
          try clear hx16
          try clear c23
          try clear c23b0
          try clear c25
          try clear c26
          try clear c29
          try clear c30
          try clear c31
          try clear c34
          try clear c34b0
          try clear c35
          try clear c35b0
          try clear hx158_0
          try clear hx158_1
          try clear hx159_0
          try clear hx159_1
          try clear hx159_2
          try clear hx159_3
          try clear hx159_4
          try clear hx159_5
          try clear hx159_6
          try clear hx161_0
          try clear hx161_1
          try clear hx161_2
          try clear hx161_3
          try clear hx161_4
          try clear hx161_5
          try clear hx161_6
          try clear p158
          try clear p159
          try clear p161
          try clear q158
          try clear q159
          try clear q161
          obtain ⟨kq, x52_10, rfl, HA, HJ10, BK152, BK153, BK154, BK156, HB⟩ := hcut
          cases kq with
          | zero => exact absurd HA.out (by simp [valid_slots.j1])
          | succ kj10 =>
            have H := HA.out
            clear HA
            simp only [valid_slots.j1] at H
            by_cases c39 : x52_10 = true
            · subst c39
              have H1 : (some false) = some r := by rw [if_pos rfl] at H; exact H
              clear H
              have H := H1
              clear H1
              obtain rfl := Option.some.inj H
              go_wp2
              go_ret
              exact ⟨by first | rfl , by exact HB.out⟩
            · replace c39 := Bool.eq_false_iff.mpr c39
              subst c39
              have H1 : (if 0 ≤ t157 then (if t157 < (l1_1.length : Int) then (if keyOkM ((rd_T36 l1_1 t157).f6) x155000_1 = true then (if ((rd_T36 l1_1 t157).f6).toList = ([] : List UInt8) then (valid_slots.l0 kj10 l2 l2 (l2.length : Int) (wrap64 (x15_1 + 1)) l0_0 l0_1 a1_0 l1_1 l1_2 (((rd_T36 l1_1 t157).f6) :: x155000_1)) else (if mcnt ((rd_T36 l1_1 t157).f6) (((rd_T36 l1_1 t157).f6) :: x155000_1) > 1 then (some false) else (valid_slots.l0 kj10 l2 l2 (l2.length : Int) (wrap64 (x15_1 + 1)) l0_0 l0_1 a1_0 l1_1 l1_2 (((rd_T36 l1_1 t157).f6) :: x155000_1)))) else (none)) else (none)) else (none)) = some r := by rw [if_neg (show ¬ (false = true) by decide)] at H; exact H
              clear H
              have H := H1
              clear H1
              by_cases c40 : 0 ≤ t157
              · rw [if_pos c40] at H
                have c40b0 : decide (0 ≤ t157) = true := decide_eq_true c40
                clear c40
                by_cases c41 : t157 < (l1_1.length : Int)
                · rw [if_pos c41] at H
                  have c41b0 : decide (t157 < (l1_1.length : Int)) = true := decide_eq_true c41
                  clear c41
                  by_cases ck : keyOkM ((rd_T36 l1_1 t157).f6) x155000_1 = true
                  · rw [if_pos ck] at H
                    have hkey := keyOkM_key ck
                    have hlen := keyOkM_len ck
                    have hwr := keyOkM_wrap ck
                    have helem := keyOkM_elem ck
                    clear ck
                    have hcz46_0 : wc.cell? ⟨gb153, 0, none⟩ = some (.string a1_0) := (blk_cell BK153.out 0).trans rfl
                    have hcz46_1 : wc.cell? ⟨gb153, 1, none⟩ = some (.slice A1_1 l1_1.length c1_1) := (blk_cell BK153.out 1).trans rfl
                    have hcz46_2 : wc.cell? ⟨gb153, 2, none⟩ = some (.slice A1_2 l1_2.length c1_2) := (blk_cell BK153.out 2).trans rfl
                    have hfz46_0 := blk_frozen BK153.out 0
                    have hfz46_1 := blk_frozen BK153.out 1
                    have hfz46_2 := blk_frozen BK153.out 2
                    have p163 : 0 ≤ (t157 : Int) := of_decide_eq_true (by first | (with_reducible assumption) )
                    have q163 : t157 < (l1_1.length : Int) := of_decide_eq_true (by first | (with_reducible assumption) )
                    obtain ⟨ad163, e163, hx163_0, hx163_1, hx163_2, hx163_3, hx163_4, hx163_5, hx163_6⟩ := at_T36 HR1_1.out t157 p163 q163
                    cases e163
                    replace hx163_0 := (HB.out.cell (World.block_lt_of_cell? w _ hx163_0)).trans hx163_0
                    replace hx163_1 := (HB.out.cell (World.block_lt_of_cell? w _ hx163_1)).trans hx163_1
                    replace hx163_2 := (HB.out.cell (World.block_lt_of_cell? w _ hx163_2)).trans hx163_2
                    replace hx163_3 := (HB.out.cell (World.block_lt_of_cell? w _ hx163_3)).trans hx163_3
                    replace hx163_4 := (HB.out.cell (World.block_lt_of_cell? w _ hx163_4)).trans hx163_4
                    replace hx163_5 := (HB.out.cell (World.block_lt_of_cell? w _ hx163_5)).trans hx163_5
                    replace hx163_6 := (HB.out.cell (World.block_lt_of_cell? w _ hx163_6)).trans hx163_6
                    replace p163 := eq_true p163
                    replace q163 := eq_true q163
                    by_cases c42 : ((rd_T36 l1_1 t157).f6).toList = ([] : List UInt8)
                    · rw [if_pos c42] at H
                      have c42b0 : (((rd_T36 l1_1 t157).f6).toList == ([] : List UInt8)) = true := beq_iff_eq.mpr c42
                      have c42b1 : (((rd_T36 l1_1 t157).f6).toList != ([] : List UInt8)) = false := bne_eq_false_iff_eq.mpr c42
                      clear c42
                      have H' := Aside0.mk H
                      clear H
                      go_wp2_with (first | (at_mapUpdate; refine wpList_mapUpdate_own _ rfl _ _ _ 69 rfl 9 3 map_law Tryd.underlying69 _ gb154 _ _ rfl BK154.out hlen _ _ _ rfl rfl hkey _ [] helem ?_; intro w1 hown1 hgrow1; have BM := Aside0.mk (show MapAt w1 gb154 (((rd_T36 l1_1 t157).f6) :: x155000_1) from hown1); have B2_ := Aside0.mk (blk_turned BK152.out hgrow1 NB152_154.out); have B3_ := Aside0.mk (blk_turned BK153.out hgrow1 NB153_154.out); have HB_ := Aside0.mk (below_turned HB.out hgrow1 GE154.out (map_lt BK154.out)); clear BK154 BK152 BK153 HB hown1 hgrow1; have BK154 := BM; have BK152 := B2_; have BK153 := B3_; have HB := HB_; clear BM B2_ B3_ HB_) | (at_lookup; refine wpList_lookup_own_int _ rfl _ _ 69 rfl 9 3 .i64 map_law Tryd.underlying69 Tryd.underlying3 (map_zero _) gb154 _ _ rfl BK154.out _ _ rfl hkey ?_; intro c9 hat9 hwc9; rw [mD_at] at hat9; obtain rfl : c9 = mcnt ((rd_T36 l1_1 t157).f6) x155000_1 := (by have e9 := hat9.symm; simp only [DataW.lit.injEq, Lit.int.injEq, true_and] at e9; exact e9); clear hat9 hwc9) )
                      go_roundg kj10
                      case measure => have := HK1.out; have := HJ10.out; omega
                      case rel => exact ⟨(wrap64 (x15_1 + 1)), (((rd_T36 l1_1 t157).f6) :: x155000_1), (by first | rfl ), H', ⟨by have := HK1.out; have := HJ10.out; omega⟩, ⟨BK152.out⟩, ⟨BK153.out⟩, ⟨BK154.out⟩, ⟨HB.out⟩⟩
                    · rw [if_neg c42] at H
                      have c42b0 : (((rd_T36 l1_1 t157).f6).toList == ([] : List UInt8)) = false := beq_eq_false_iff_ne.mpr c42
                      have c42b1 : (((rd_T36 l1_1 t157).f6).toList != ([] : List UInt8)) = true := bne_iff_ne.mpr c42
                      clear c42
                      by_cases c50 : mcnt ((rd_T36 l1_1 t157).f6) (((rd_T36 l1_1 t157).f6) :: x155000_1) > 1
                      · rw [if_pos c50] at H
                        have c50b0 : decide (1 < mcnt ((rd_T36 l1_1 t157).f6) (((rd_T36 l1_1 t157).f6) :: x155000_1)) = true := decide_eq_true c50
                        clear c50
                        obtain rfl := Option.some.inj H
                        go_wp2_with (first | (at_mapUpdate; refine wpList_mapUpdate_own _ rfl _ _ _ 69 rfl 9 3 map_law Tryd.underlying69 _ gb154 _ _ rfl BK154.out hlen _ _ _ rfl rfl hkey _ [] helem ?_; intro w1 hown1 hgrow1; have BM := Aside0.mk (show MapAt w1 gb154 (((rd_T36 l1_1 t157).f6) :: x155000_1) from hown1); have B2_ := Aside0.mk (blk_turned BK152.out hgrow1 NB152_154.out); have B3_ := Aside0.mk (blk_turned BK153.out hgrow1 NB153_154.out); have HB_ := Aside0.mk (below_turned HB.out hgrow1 GE154.out (map_lt BK154.out)); clear BK154 BK152 BK153 HB hown1 hgrow1; have BK154 := BM; have BK152 := B2_; have BK153 := B3_; have HB := HB_; clear BM B2_ B3_ HB_) | (at_lookup; refine wpList_lookup_own_int _ rfl _ _ 69 rfl 9 3 .i64 map_law Tryd.underlying69 Tryd.underlying3 (map_zero _) gb154 _ _ rfl BK154.out _ _ rfl hkey ?_; intro c9 hat9 hwc9; rw [mD_at] at hat9; obtain rfl : c9 = mcnt ((rd_T36 l1_1 t157).f6) x155000_1 := (by have e9 := hat9.symm; simp only [DataW.lit.injEq, Lit.int.injEq, true_and] at e9; exact e9); clear hat9 hwc9) | (at_lookup; (try (refine gate_guard (by rfl) ?_; dsimp only)); refine wpList_lookup_own_int _ rfl _ _ 69 rfl 9 3 .i64 map_law Tryd.underlying69 Tryd.underlying3 (map_zero _) gb154 _ _ rfl BK154.out _ _ rfl hkey ?_; intro c9 hat9 hwc9; rw [mD_at] at hat9; obtain rfl : c9 = mcnt ((rd_T36 l1_1 t157).f6) (((rd_T36 l1_1 t157).f6) :: x155000_1) := (by have e9 := hat9.symm; simp only [DataW.lit.injEq, Lit.int.injEq, true_and] at e9; exact e9); clear hat9 hwc9))
                        go_ret
                        exact ⟨by first | rfl , HB.out⟩
                      · rw [if_neg c50] at H
                        have c50b0 : decide (1 < mcnt ((rd_T36 l1_1 t157).f6) (((rd_T36 l1_1 t157).f6) :: x155000_1)) = false := decide_eq_false c50
                        clear c50
                        have H' := Aside0.mk H
                        clear H
                        go_wp2_with (first | (at_mapUpdate; refine wpList_mapUpdate_own _ rfl _ _ _ 69 rfl 9 3 map_law Tryd.underlying69 _ gb154 _ _ rfl BK154.out hlen _ _ _ rfl rfl hkey _ [] helem ?_; intro w1 hown1 hgrow1; have BM := Aside0.mk (show MapAt w1 gb154 (((rd_T36 l1_1 t157).f6) :: x155000_1) from hown1); have B2_ := Aside0.mk (blk_turned BK152.out hgrow1 NB152_154.out); have B3_ := Aside0.mk (blk_turned BK153.out hgrow1 NB153_154.out); have HB_ := Aside0.mk (below_turned HB.out hgrow1 GE154.out (map_lt BK154.out)); clear BK154 BK152 BK153 HB hown1 hgrow1; have BK154 := BM; have BK152 := B2_; have BK153 := B3_; have HB := HB_; clear BM B2_ B3_ HB_) | (at_lookup; refine wpList_lookup_own_int _ rfl _ _ 69 rfl 9 3 .i64 map_law Tryd.underlying69 Tryd.underlying3 (map_zero _) gb154 _ _ rfl BK154.out _ _ rfl hkey ?_; intro c9 hat9 hwc9; rw [mD_at] at hat9; obtain rfl : c9 = mcnt ((rd_T36 l1_1 t157).f6) x155000_1 := (by have e9 := hat9.symm; simp only [DataW.lit.injEq, Lit.int.injEq, true_and] at e9; exact e9); clear hat9 hwc9) | (at_lookup; (try (refine gate_guard (by rfl) ?_; dsimp only)); refine wpList_lookup_own_int _ rfl _ _ 69 rfl 9 3 .i64 map_law Tryd.underlying69 Tryd.underlying3 (map_zero _) gb154 _ _ rfl BK154.out _ _ rfl hkey ?_; intro c9 hat9 hwc9; rw [mD_at] at hat9; obtain rfl : c9 = mcnt ((rd_T36 l1_1 t157).f6) (((rd_T36 l1_1 t157).f6) :: x155000_1) := (by have e9 := hat9.symm; simp only [DataW.lit.injEq, Lit.int.injEq, true_and] at e9; exact e9); clear hat9 hwc9))
                        go_roundg kj10
                        case measure => have := HK1.out; have := HJ10.out; omega
                        case rel => exact ⟨(wrap64 (x15_1 + 1)), (((rd_T36 l1_1 t157).f6) :: x155000_1), (by first | rfl ), H', ⟨by have := HK1.out; have := HJ10.out; omega⟩, ⟨BK152.out⟩, ⟨BK153.out⟩, ⟨BK154.out⟩, ⟨HB.out⟩⟩
                  · rw [if_neg ck] at H
                    exact absurd H (by simp)
                · rw [if_neg c41] at H
                  exact absurd H (by simp)
              · rw [if_neg c40] at H
                exact absurd H (by simp)
       · rw [if_neg c9] at H
         exact absurd H (by simp)
     · rw [if_neg c8] at H
       exact absurd H (by simp)
   · rw [if_neg c7] at H
     have c7b0 : decide (x15_1 < (l2.length : Int)) = false := decide_eq_false c7
     clear c7
     obtain rfl := Option.some.inj H
     go_wp2
     go_ret
     exact ⟨by first | rfl , by exact HB.out⟩
end Go.Proofs.YtbpnfpckoapdbaaDoor.PV20
end
section
namespace Go.Proofs.YtbpnfpckoapdbaaDoor.PV20
open Go.RowKit Go.Proofs.YtbpnfpckoapdbaaDoor.M Go.Proofs.YtbpnfpckoapdbaaDoor.KD Go.Proofs.YtbpnfpckoapdbaaDoor Go.Proofs.YtbpnfpckoapdbaaDoorW.PrintWords Go.Proofs.YtbpnfpckoapdbaaDoorW.PrintLast Go.Proofs.YtbpnfpckoapdbaaDoorW.PrintMore
attribute [local go_sem] max2_int min2_int max_two min_two max_three min_three max_four min_four   -- for this text's walks alone
set_option linter.unusedVariables false
set_option linter.unusedSimpArgs false
set_option maxHeartbeats 8000000 in
set_option maxRecDepth 100000 in
theorem valid_vals.callsR (k : Nat) (ih_valid_Tree : ∀ k_, k_ < k → ∀ (A0_0 : Option Addr) (c0_0 : Nat) (l0_0 : List (S48)) (A0_1 : Option Addr) (c0_1 : Nat) (l0_1 : List (S52)) (a1 : ByteArray) (A2_0 : Option Addr) (c2_0 : Nat) (l2_0 : List (S43)) (A2_1 : Option Addr) (c2_1 : Nat) (l2_1 : List (S63)) (r : Bool) (w : World) (hT : Tabs w) (hr0_0 : Kd.C k48 w A0_0 l0_0.length l0_0) (hc0_0 : l0_0.length ≤ c0_0) (hr0_1 : Kd.C k52 w A0_1 l0_1.length l0_1) (hc0_1 : l0_1.length ≤ c0_1) (hr2_0 : Kd.C k43 w A2_0 l2_0.length l2_0) (hc2_0 : l2_0.length ≤ c2_0) (hr2_1 : Kd.C k63 w A2_1 l2_1.length l2_1) (hc2_1 : l2_1.length ≤ c2_1) (h_ : valid_Tree.f k_ l0_0 l0_1 a1 l2_0 l2_1 = some r), Calls Tryd.prog 9 #[.agg #[.slice A0_0 l0_0.length c0_0, .slice A0_1 l0_1.length c0_1], .string a1, .agg #[.slice A2_0 l2_0.length c2_0, .slice A2_1 l2_1.length c2_1]] w fun e w' => e = .returned (.bool r) ∧ Below w.heap.size w w') (ih_valid_Val : ∀ k_, k_ < k → ∀ (A0_0 : Option Addr) (c0_0 : Nat) (l0_0 : List (S48)) (A0_1 : Option Addr) (c0_1 : Nat) (l0_1 : List (S52)) (a1_0 : ByteArray) (a1_1 : Int) (a1_2 : Int) (a1_3 : ByteArray) (a1_4 : Bool) (a1_5 : Bool) (a1_6 : ByteArray) (a2_0 : Int) (a2_1 : ByteArray) (A2_2 : Option Addr) (c2_2 : Nat) (l2_2 : List (S29)) (r : Bool) (w : World) (hT : Tabs w) (hr0_0 : Kd.C k48 w A0_0 l0_0.length l0_0) (hc0_0 : l0_0.length ≤ c0_0) (hr0_1 : Kd.C k52 w A0_1 l0_1.length l0_1) (hc0_1 : l0_1.length ≤ c0_1) (hr2_2 : Kd.C k29 w A2_2 l2_2.length l2_2) (hc2_2 : l2_2.length ≤ c2_2) (h_ : valid_Val.f k_ l0_0 l0_1 a1_0 a1_1 a1_2 a1_3 a1_4 a1_5 a1_6 a2_0 a2_1 l2_2 = some r), Calls Tryd.prog 12 #[.agg #[.slice A0_0 l0_0.length c0_0, .slice A0_1 l0_1.length c0_1], .agg #[.string a1_0, .int .i64 a1_1, .int .i64 a1_2, .string a1_3, .bool a1_4, .bool a1_5, .string a1_6], .agg #[.int .u64 a2_0, .string a2_1, .slice A2_2 l2_2.length c2_2]] w fun e w' => e = .returned (.bool r) ∧ Below w.heap.size w w') (ih_valid_slots : ∀ k_, k_ < k → ∀ (A0_0 : Option Addr) (c0_0 : Nat) (l0_0 : List (S48)) (A0_1 : Option Addr) (c0_1 : Nat) (l0_1 : List (S52)) (a1_0 : ByteArray) (A1_1 : Option Addr) (c1_1 : Nat) (l1_1 : List (S36)) (A1_2 : Option Addr) (c1_2 : Nat) (l1_2 : List Int) (A2 : Option Addr) (c2 : Nat) (l2 : List (S43)) (r : Bool) (w : World) (hT : Tabs w) (hr0_0 : Kd.C k48 w A0_0 l0_0.length l0_0) (hc0_0 : l0_0.length ≤ c0_0) (hr0_1 : Kd.C k52 w A0_1 l0_1.length l0_1) (hc0_1 : l0_1.length ≤ c0_1) (hr1_1 : Kd.C k36 w A1_1 l1_1.length l1_1) (hc1_1 : l1_1.length ≤ c1_1) (hr1_2 : Kd.C (Kd.int .i64) w A1_2 l1_2.length l1_2) (hc1_2 : l1_2.length ≤ c1_2) (hr2 : Kd.C k43 w A2 l2.length l2) (hc2 : l2.length ≤ c2) (h_ : valid_slots.f k_ l0_0 l0_1 a1_0 l1_1 l1_2 l2 = some r), Calls Tryd.prog 18 #[.agg #[.slice A0_0 l0_0.length c0_0, .slice A0_1 l0_1.length c0_1], .agg #[.string a1_0, .slice A1_1 l1_1.length c1_1, .slice A1_2 l1_2.length c1_2], .slice A2 l2.length c2] w fun e w' => e = .returned (.bool r) ∧ Below w.heap.size w w') (ih_valid_vals : ∀ k_, k_ < k → ∀ (A0_0 : Option Addr) (c0_0 : Nat) (l0_0 : List (S48)) (A0_1 : Option Addr) (c0_1 : Nat) (l0_1 : List (S52)) (a1_0 : ByteArray) (a1_1 : Int) (a1_2 : Int) (a1_3 : ByteArray) (a1_4 : Bool) (a1_5 : Bool) (a1_6 : ByteArray) (A2 : Option Addr) (c2 : Nat) (l2 : List (S40)) (r : Bool) (w : World) (hT : Tabs w) (hr0_0 : Kd.C k48 w A0_0 l0_0.length l0_0) (hc0_0 : l0_0.length ≤ c0_0) (hr0_1 : Kd.C k52 w A0_1 l0_1.length l0_1) (hc0_1 : l0_1.length ≤ c0_1) (hr2 : Kd.C k40 w A2 l2.length l2) (hc2 : l2.length ≤ c2) (h_ : valid_vals.f k_ l0_0 l0_1 a1_0 a1_1 a1_2 a1_3 a1_4 a1_5 a1_6 l2 = some r), Calls Tryd.prog 31 #[.agg #[.slice A0_0 l0_0.length c0_0, .slice A0_1 l0_1.length c0_1], .agg #[.string a1_0, .int .i64 a1_1, .int .i64 a1_2, .string a1_3, .bool a1_4, .bool a1_5, .string a1_6], .slice A2 l2.length c2] w fun e w' => e = .returned (.bool r) ∧ Below w.heap.size w w') : ∀ (A0_0 : Option Addr) (c0_0 : Nat) (l0_0 : List (S48)) (A0_1 : Option Addr) (c0_1 : Nat) (l0_1 : List (S52)) (a1_0 : ByteArray) (a1_1 : Int) (a1_2 : Int) (a1_3 : ByteArray) (a1_4 : Bool) (a1_5 : Bool) (a1_6 : ByteArray) (A2 : Option Addr) (c2 : Nat) (l2 : List (S40)) (r : Bool) (w : World) (hT : Tabs w) (hr0_0 : Kd.C k48 w A0_0 l0_0.length l0_0) (hc0_0 : l0_0.length ≤ c0_0) (hr0_1 : Kd.C k52 w A0_1 l0_1.length l0_1) (hc0_1 : l0_1.length ≤ c0_1) (hr2 : Kd.C k40 w A2 l2.length l2) (hc2 : l2.length ≤ c2) (h : valid_vals.f k l0_0 l0_1 a1_0 a1_1 a1_2 a1_3 a1_4 a1_5 a1_6 l2 = some r),
  Calls Tryd.prog 31 #[.agg #[.slice A0_0 l0_0.length c0_0, .slice A0_1 l0_1.length c0_1], .agg #[.string a1_0, .int .i64 a1_1, .int .i64 a1_2, .string a1_3, .bool a1_4, .bool a1_5, .string a1_6], .slice A2 l2.length c2] w fun e w' => e = .returned (.bool r) ∧ Below w.heap.size w w' := by
 intro A0_0 c0_0 l0_0 A0_1 c0_1 l0_1 a1_0 a1_1 a1_2 a1_3 a1_4 a1_5 a1_6 A2 c2 l2 r w hT hr0_0 hc0_0 hr0_1 hc0_1 hr2 hc2 h
 have HU8 := Aside0.mk hT
 clear hT
 cases k with
 | zero => exact absurd h (by simp [valid_vals.f])
 | succ k =>
 simp only [valid_vals.f] at h
 have hu25 := Tryd.underlying25
 have hu36 := Tryd.underlying36
 have hu40 := Tryd.underlying40
 have HR0_0 := Aside0.mk hr0_0
 have HC0_0 := Aside0.mk hc0_0
 clear hr0_0 hc0_0
 have HR0_1 := Aside0.mk hr0_1
 have HC0_1 := Aside0.mk hc0_1
 clear hr0_1 hc0_1
 have HR2 := Aside0.mk hr2
 have HC2 := Aside0.mk hc2
 clear hr2 hc2
 have HB := Aside0.mk (Below.refl w.heap.size w)
 have H : (if (l2.length : Int) = 0 then (valid_vals.j0 k l2 true l0_0 l0_1 a1_0 a1_1 a1_2 a1_3 a1_4 a1_5 a1_6) else (if a1_4 = true then (valid_vals.j0 k l2 false l0_0 l0_1 a1_0 a1_1 a1_2 a1_3 a1_4 a1_5 a1_6) else (valid_vals.j0 k l2 (decide ((l2.length : Int) > 1)) l0_0 l0_1 a1_0 a1_1 a1_2 a1_3 a1_4 a1_5 a1_6))) = some r := h
 clear h
 have HC4 := Aside0.mk H
 clear H
 go_enter Tryd.func31, Tryd.ntmps31
 go_upto_region 1 with (first | ((with_reducible refine gate_dst (N := 3) rfl ?_); (try (refine gate_guard (by rfl) ?_; dsimp only)); refine box_event ?hg (N := 3) ?hd (cs := #[.slice A0_0 l0_0.length c0_0, .slice A0_1 l0_1.length c0_1]) (t := 25) ?hr ?_; (case hd => rfl); (case hg => rfl); (case hr => first | (go_simp; done) | (go_simp; rfl)); intro gb164 hg w5 hbox hb; have n0_ := Aside0.mk (below_step HB.out hb); have n1_ := Aside0.mk (hbox); clear HB; have HB := n0_; have BK164 := n1_; clear n0_ n1_; clear hb hbox hg) | ((with_reducible refine gate_dst (N := 4) rfl ?_); (try (refine gate_guard (by rfl) ?_; dsimp only)); refine box_event ?hg (N := 4) ?hd (cs := #[.string a1_0, .int .i64 a1_1, .int .i64 a1_2, .string a1_3, .bool a1_4, .bool a1_5, .string a1_6]) (t := 36) ?hr ?_; (case hd => rfl); (case hg => rfl); (case hr => first | (go_simp; done) | (go_simp; rfl)); intro gb165 hg w6 hbox hb; have n0_ := Aside0.mk (blk_below BK164.out hb); have n1_ := Aside0.mk (below_step HB.out hb); have n2_ := Aside0.mk (hbox); have n5_ := Aside0.mk ((by rw [hg]; exact Nat.ne_of_lt (blk_lt BK164.out) : gb164 ≠ gb165)); have n6_ := Aside0.mk ((by rw [hg]; exact Nat.ne_of_gt (blk_lt BK164.out) : gb165 ≠ gb164)); clear BK164; clear HB; have BK164 := n0_; have HB := n1_; have BK165 := n2_; have NB164_165 := n5_; have NB165_164 := n6_; clear n0_ n1_ n2_ n5_ n6_; clear hb hbox hg))
 (try simp only [Act.put, List.setIfInBounds_toArray, List.set_cons_zero, List.set_cons_succ])
 go_cut [21] (fun v21 wc => ∃ (kq : Nat) (x21_3 : Bool), v21 = .bool x21_3 ∧ Aside0 (valid_vals.j0 kq l2 x21_3 l0_0 l0_1 a1_0 a1_1 a1_2 a1_3 a1_4 a1_5 a1_6 = some r) ∧ Aside0 (kq ≤ k) ∧ Aside0 (wc.heap[gb164]? = some (.cells #[(.slice A0_0 l0_0.length c0_0), (.slice A0_1 l0_1.length c0_1)] 25 (0, 0))) ∧ Aside0 (wc.heap[gb165]? = some (.cells #[.string a1_0, .int .i64 a1_1, .int .i64 a1_2, .string a1_3, .bool a1_4, .bool a1_5, .string a1_6] 36 (0, 0))) ∧ Aside0 (Below w.heap.size w wc))
 case first =>
  have H := HC4.out
  clear HC4
  by_cases c7 : (l2.length : Int) = 0
  · rw [if_pos c7] at H
    have c7b0 : ((l2.length : Int) == 0) = true := beq_iff_eq.mpr c7
    have c7b1 : ((l2.length : Int) != 0) = false := bne_eq_false_iff_eq.mpr c7
    clear c7
    (first | skip)
    have H' := Aside0.mk H
    clear H
    go_wp2
    go_meet
    case rel => exact ⟨_, (true), (by first | rfl ), H', ⟨by first | omega ⟩, ⟨by exact BK164.out⟩, ⟨by exact BK165.out⟩, ⟨by exact HB.out⟩⟩
  · rw [if_neg c7] at H
    have c7b0 : ((l2.length : Int) == 0) = false := beq_eq_false_iff_ne.mpr c7
    have c7b1 : ((l2.length : Int) != 0) = true := bne_iff_ne.mpr c7
    have c7b2 : ¬ (l2 = []) := fun h_ => c7 (by rw [h_]; rfl)
    (first | skip)
    by_cases c8 : a1_4 = true
    · subst c8
      have H1 : (valid_vals.j0 k l2 false l0_0 l0_1 a1_0 a1_1 a1_2 a1_3 true a1_5 a1_6) = some r := by rw [if_pos rfl] at H; exact H
      clear H
      have H := H1
      clear H1
      have H' := Aside0.mk H
      clear H
      have hnb9 := NB165_164.out
      have hnc9 := NB164_165.out
      have hcz10_0 : w6.cell? ⟨gb165, 0, none⟩ = some (.string a1_0) := (blk_cell BK165.out 0).trans rfl
      have hcz10_1 : w6.cell? ⟨gb165, 1, none⟩ = some (.int .i64 a1_1) := (blk_cell BK165.out 1).trans rfl
      have hcz10_2 : w6.cell? ⟨gb165, 2, none⟩ = some (.int .i64 a1_2) := (blk_cell BK165.out 2).trans rfl
      have hcz10_3 : w6.cell? ⟨gb165, 3, none⟩ = some (.string a1_3) := (blk_cell BK165.out 3).trans rfl
      have hcz10_4 : w6.cell? ⟨gb165, 4, none⟩ = some (.bool true) := (blk_cell BK165.out 4).trans rfl
      have hcz10_5 : w6.cell? ⟨gb165, 5, none⟩ = some (.bool a1_5) := (blk_cell BK165.out 5).trans rfl
      have hcz10_6 : w6.cell? ⟨gb165, 6, none⟩ = some (.string a1_6) := (blk_cell BK165.out 6).trans rfl
      have hfz10_0 := blk_frozen BK165.out 0
      have hfz10_1 := blk_frozen BK165.out 1
      have hfz10_2 := blk_frozen BK165.out 2
      have hfz10_3 := blk_frozen BK165.out 3
      have hfz10_4 := blk_frozen BK165.out 4
      have hfz10_5 := blk_frozen BK165.out 5
      have hfz10_6 := blk_frozen BK165.out 6
      go_wp2
      go_meet
      case rel => exact ⟨_, (false), (by first | rfl ), H', ⟨by first | omega ⟩, ⟨by exact BK164.out⟩, ⟨by exact BK165.out⟩, ⟨by exact HB.out⟩⟩
    · replace c8 := Bool.eq_false_iff.mpr c8
      subst c8
      have H1 : (valid_vals.j0 k l2 (decide ((l2.length : Int) > 1)) l0_0 l0_1 a1_0 a1_1 a1_2 a1_3 false a1_5 a1_6) = some r := by rw [if_neg (show ¬ (false = true) by decide)] at H; exact H
      clear H
      have H := H1
      clear H1
      have H' := Aside0.mk H
      clear H
      have hnb11 := NB165_164.out
      have hnc11 := NB164_165.out
      have hcz12_0 : w6.cell? ⟨gb165, 0, none⟩ = some (.string a1_0) := (blk_cell BK165.out 0).trans rfl
      have hcz12_1 : w6.cell? ⟨gb165, 1, none⟩ = some (.int .i64 a1_1) := (blk_cell BK165.out 1).trans rfl
      have hcz12_2 : w6.cell? ⟨gb165, 2, none⟩ = some (.int .i64 a1_2) := (blk_cell BK165.out 2).trans rfl
      have hcz12_3 : w6.cell? ⟨gb165, 3, none⟩ = some (.string a1_3) := (blk_cell BK165.out 3).trans rfl
      have hcz12_4 : w6.cell? ⟨gb165, 4, none⟩ = some (.bool false) := (blk_cell BK165.out 4).trans rfl
      have hcz12_5 : w6.cell? ⟨gb165, 5, none⟩ = some (.bool a1_5) := (blk_cell BK165.out 5).trans rfl
      have hcz12_6 : w6.cell? ⟨gb165, 6, none⟩ = some (.string a1_6) := (blk_cell BK165.out 6).trans rfl
      have hfz12_0 := blk_frozen BK165.out 0
      have hfz12_1 := blk_frozen BK165.out 1
      have hfz12_2 := blk_frozen BK165.out 2
      have hfz12_3 := blk_frozen BK165.out 3
      have hfz12_4 := blk_frozen BK165.out 4
      have hfz12_5 := blk_frozen BK165.out 5
      have hfz12_6 := blk_frozen BK165.out 6
      go_wp2
      go_meet
      case rel => exact ⟨_, (decide ((l2.length : Int) > 1)), (by first | rfl ), H', ⟨by first | omega ⟩, ⟨by exact BK164.out⟩, ⟨by exact BK165.out⟩, ⟨by exact HB.out⟩⟩
 case rest =>
  clear HC4
  try clear c1
  try clear c2
  try clear p2
  try clear c3
  try clear c7
  try clear c7b0
  try clear c7b1
  try clear c7b2
  try clear c8
  try clear c9
  try clear c11
  try clear hcz10_0
  try clear hcz10_1
  try clear hcz10_2
  try clear hcz10_3
  try clear hcz10_4
  try clear hcz10_5
  try clear hcz10_6
  try clear hcz12_0
  try clear hcz12_1
  try clear hcz12_2
  try clear hcz12_3
  try clear hcz12_4
  try clear hcz12_5
  try clear hcz12_6
  try clear hfz10_0
  try clear hfz10_1
  try clear hfz10_2
  try clear hfz10_3
  try clear hfz10_4
  try clear hfz10_5
  try clear hfz10_6
  try clear hfz12_0
  try clear hfz12_1
  try clear hfz12_2
  try clear hfz12_3
  try clear hfz12_4
  try clear hfz12_5
  try clear hfz12_6
  obtain ⟨kq, x21_3, rfl, HA, HJ3, BK164, BK165, HB⟩ := hcut
  cases kq with
  | zero => exact absurd HA.out (by simp [valid_vals.j0])
  | succ kj3 =>
    have H := HA.out
    clear HA
    simp only [valid_vals.j0] at H
    by_cases c13 : x21_3 = true
    · subst c13
      have H1 : (some false) = some r := by rw [if_pos rfl] at H; exact H
      clear H
      have H := H1
      clear H1
      obtain rfl := Option.some.inj H
      go_wp2
      go_ret
      exact ⟨by first | rfl , by exact HB.out⟩
    · replace c13 := Bool.eq_false_iff.mpr c13
      subst c13
      have H1 : (valid_vals.l0 kj3 l2 (l2.length : Int) 0 l0_0 l0_1 a1_0 a1_1 a1_2 a1_3 a1_4 a1_5 a1_6) = some r := by rw [if_neg (show ¬ (false = true) by decide)] at H; exact H
      clear H
      have H := H1
      clear H1
      have H' := Aside0.mk H
      clear H
      go_wp2
      go_loopg [24] kj3 (fun kq v24 w' => ∃ (x24_2 : Int), v24 = .int .i64 x24_2 ∧ Aside0 (valid_vals.l0 kq l2 (l2.length : Int) x24_2 l0_0 l0_1 a1_0 a1_1 a1_2 a1_3 a1_4 a1_5 a1_6 = some r) ∧ Aside0 (kq ≤ kj3) ∧ Aside0 (w'.heap[gb164]? = some (.cells #[(.slice A0_0 l0_0.length c0_0), (.slice A0_1 l0_1.length c0_1)] 25 (0, 0))) ∧ Aside0 (w'.heap[gb165]? = some (.cells #[.string a1_0, .int .i64 a1_1, .int .i64 a1_2, .string a1_3, .bool a1_4, .bool a1_5, .string a1_6] 36 (0, 0))) ∧ Aside0 (Below w.heap.size w w'))
      case atStart => exact ⟨(0), (by first | rfl ), H', ⟨Nat.le_refl _⟩, ⟨by exact BK164.out⟩, ⟨by exact BK165.out⟩, ⟨by exact HB.out⟩⟩
      case round =>
       clear H'
       try clear c1
       try clear c2
       try clear p2
       try clear c3
       try clear c7
       try clear c7b0
       try clear c7b1
       try clear c7b2
       try clear c8
       try clear c9
       try clear c11
       try clear c13
       try clear hcz10_0
       try clear hcz10_1
       try clear hcz10_2
       try clear hcz10_3
       try clear hcz10_4
       try clear hcz10_5
       try clear hcz10_6
       try clear hcz12_0
       try clear hcz12_1
       try clear hcz12_2
       try clear hcz12_3
       try clear hcz12_4
       try clear hcz12_5
       try clear hcz12_6
       try clear hfz10_0
       try clear hfz10_1
       try clear hfz10_2
       try clear hfz10_3
       try clear hfz10_4
       try clear hfz10_5
       try clear hfz10_6
       try clear hfz12_0
       try clear hfz12_1
       try clear hfz12_2
       try clear hfz12_3
       try clear hfz12_4
       try clear hfz12_5
       try clear hfz12_6
       try clear p2
       obtain ⟨x24_2, rfl, HA, HK2, BK164, BK165, HB⟩ := hrel
       cases gk with
       | zero => exact absurd HA.out (by simp [valid_vals.l0])
       | succ k2 =>
        have H := HA.out
        clear HA
        simp only [valid_vals.l0] at H
        by_cases c14 : x24_2 < (l2.length : Int)
        · rw [if_pos c14] at H
          have c14b0 : decide (x24_2 < (l2.length : Int)) = true := decide_eq_true c14
          clear c14
          by_cases c15 : 0 ≤ x24_2
          · rw [if_pos c15] at H
            have c15b0 : decide (0 ≤ x24_2) = true := decide_eq_true c15
            clear c15
            by_cases c16 : x24_2 < (l2.length : Int)
            · rw [if_pos c16] at H
              have c16b0 : decide (x24_2 < (l2.length : Int)) = true := decide_eq_true c16
              clear c16
              replace H := Option.bind_eq_some_iff.mp H
              obtain ⟨t168, A170, H⟩ := H
              replace H : (if t168 = true then ((field_Hidden.f a1_0 a1_1 a1_2 a1_3 a1_4 a1_5 a1_6).bind fun t169 => (if t169 = true then (if ((rd_T40 l2 x24_2).f0) = 0 then (if ((rd_T40 l2 x24_2).f1).toList = ([] : List UInt8) then (some false) else (valid_vals.l0 k2 l2 (l2.length : Int) (wrap64 (x24_2 + 1)) l0_0 l0_1 a1_0 a1_1 a1_2 a1_3 a1_4 a1_5 a1_6)) else (valid_vals.l0 k2 l2 (l2.length : Int) (wrap64 (x24_2 + 1)) l0_0 l0_1 a1_0 a1_1 a1_2 a1_3 a1_4 a1_5 a1_6)) else (valid_vals.l0 k2 l2 (l2.length : Int) (wrap64 (x24_2 + 1)) l0_0 l0_1 a1_0 a1_1 a1_2 a1_3 a1_4 a1_5 a1_6))) else (some false)) = some r := H
              have A17 := Aside0.mk A170
              clear A170
              by_cases c18 : t168 = true
              · subst c18
                have H1 : ((field_Hidden.f a1_0 a1_1 a1_2 a1_3 a1_4 a1_5 a1_6).bind fun t169 => (if t169 = true then (if ((rd_T40 l2 x24_2).f0) = 0 then (if ((rd_T40 l2 x24_2).f1).toList = ([] : List UInt8) then (some false) else (valid_vals.l0 k2 l2 (l2.length : Int) (wrap64 (x24_2 + 1)) l0_0 l0_1 a1_0 a1_1 a1_2 a1_3 a1_4 a1_5 a1_6)) else (valid_vals.l0 k2 l2 (l2.length : Int) (wrap64 (x24_2 + 1)) l0_0 l0_1 a1_0 a1_1 a1_2 a1_3 a1_4 a1_5 a1_6)) else (valid_vals.l0 k2 l2 (l2.length : Int) (wrap64 (x24_2 + 1)) l0_0 l0_1 a1_0 a1_1 a1_2 a1_3 a1_4 a1_5 a1_6))) = some r := by rw [if_pos rfl] at H; exact H
                clear H
                have H := H1
                clear H1
                replace H := Option.bind_eq_some_iff.mp H
                obtain ⟨t169, A190, H⟩ := H
                replace H : (if t169 = true then (if ((rd_T40 l2 x24_2).f0) = 0 then (if ((rd_T40 l2 x24_2).f1).toList = ([] : List UInt8) then (some false) else (valid_vals.l0 k2 l2 (l2.length : Int) (wrap64 (x24_2 + 1)) l0_0 l0_1 a1_0 a1_1 a1_2 a1_3 a1_4 a1_5 a1_6)) else (valid_vals.l0 k2 l2 (l2.length : Int) (wrap64 (x24_2 + 1)) l0_0 l0_1 a1_0 a1_1 a1_2 a1_3 a1_4 a1_5 a1_6)) else (valid_vals.l0 k2 l2 (l2.length : Int) (wrap64 (x24_2 + 1)) l0_0 l0_1 a1_0 a1_1 a1_2 a1_3 a1_4 a1_5 a1_6)) = some r := H
                have A19 := Aside0.mk A190
                clear A190
                by_cases c20 : t169 = true
                · subst c20
                  have H1 : (if ((rd_T40 l2 x24_2).f0) = 0 then (if ((rd_T40 l2 x24_2).f1).toList = ([] : List UInt8) then (some false) else (valid_vals.l0 k2 l2 (l2.length : Int) (wrap64 (x24_2 + 1)) l0_0 l0_1 a1_0 a1_1 a1_2 a1_3 a1_4 a1_5 a1_6)) else (valid_vals.l0 k2 l2 (l2.length : Int) (wrap64 (x24_2 + 1)) l0_0 l0_1 a1_0 a1_1 a1_2 a1_3 a1_4 a1_5 a1_6)) = some r := by rw [if_pos rfl] at H; exact H
                  clear H
                  have H := H1
                  clear H1
                  by_cases c21 : ((rd_T40 l2 x24_2).f0) = 0
                  · rw [if_pos c21] at H
                    have c21b0 : (((rd_T40 l2 x24_2).f0) == 0) = true := beq_iff_eq.mpr c21
                    have c21b1 : (((rd_T40 l2 x24_2).f0) != 0) = false := bne_eq_false_iff_eq.mpr c21
                    clear c21
                    by_cases c22 : ((rd_T40 l2 x24_2).f1).toList = ([] : List UInt8)
                    · rw [if_pos c22] at H
                      have c22b0 : (((rd_T40 l2 x24_2).f1).toList == ([] : List UInt8)) = true := beq_iff_eq.mpr c22
                      have c22b1 : (((rd_T40 l2 x24_2).f1).toList != ([] : List UInt8)) = false := bne_eq_false_iff_eq.mpr c22
                      clear c22
                      obtain rfl := Option.some.inj H
                      have p166 : 0 ≤ (x24_2 : Int) := of_decide_eq_true (by first | (with_reducible assumption) )
                      have q166 : x24_2 < (l2.length : Int) := of_decide_eq_true (by first | (with_reducible assumption) )
                      obtain ⟨ad166, A166_2, c166_2, e166, hx166_0, hx166_1, hx166_2, hl166_2, hi166_2⟩ := at_T40 HR2.out x24_2 p166 q166
                      cases e166
                      replace hx166_0 := (HB.out.cell (World.block_lt_of_cell? w _ hx166_0)).trans hx166_0
                      replace hx166_1 := (HB.out.cell (World.block_lt_of_cell? w _ hx166_1)).trans hx166_1
                      replace hx166_2 := (HB.out.cell (World.block_lt_of_cell? w _ hx166_2)).trans hx166_2
                      have HR166_2 := Aside0.mk hi166_2
                      have HC166_2 := Aside0.mk hl166_2
                      clear hi166_2 hl166_2
                      replace p166 := eq_true p166
                      replace q166 := eq_true q166
                      go_wp2_with (first | ((with_reducible refine gate_dst (N := 8) rfl ?_); (try (refine gate_guard (by rfl) ?_; dsimp only)); refine box_event ?hg (N := 8) ?hd (cs := #[.int .u64 0, .string (⟨#[]⟩ : ByteArray), .slice none 0 0]) (t := 40) ?hr ?_; (case hd => rfl); (case hg => rfl); (case hr => first | (go_simp; done) | (go_simp; rfl)); intro gb167 hg w23 hbox hb; have n0_ := Aside0.mk (blk_below BK164.out hb); have n1_ := Aside0.mk (blk_below BK165.out hb); have n2_ := Aside0.mk (below_step HB.out hb); have n3_ := Aside0.mk (hbox); have n5_ := Aside0.mk ((by rw [hg]; exact (below_size HB.out) : w.heap.size ≤ gb167)); have n6_ := Aside0.mk ((by rw [hg]; exact Nat.ne_of_lt (blk_lt BK164.out) : gb164 ≠ gb167)); have n7_ := Aside0.mk ((by rw [hg]; exact Nat.ne_of_gt (blk_lt BK164.out) : gb167 ≠ gb164)); have n8_ := Aside0.mk ((by rw [hg]; exact Nat.ne_of_lt (blk_lt BK165.out) : gb165 ≠ gb167)); have n9_ := Aside0.mk ((by rw [hg]; exact Nat.ne_of_gt (blk_lt BK165.out) : gb167 ≠ gb165)); clear BK164; clear BK165; clear HB; have BK164 := n0_; have BK165 := n1_; have HB := n2_; have BK167 := n3_; have GE167 := n5_; have NB164_167 := n6_; have NB167_164 := n7_; have NB165_167 := n8_; have NB167_165 := n9_; clear n0_ n1_ n2_ n3_ n5_ n6_ n7_ n8_ n9_; clear hb hbox hg; have hnb24 := NB167_164.out; have hnc24 := NB164_167.out; have hnb25 := NB167_165.out; have hnc25 := NB165_167.out; have hcz26_0 : w23.cell? ⟨gb167, 0, none⟩ = some (.int .u64 0) := (blk_cell BK167.out 0).trans rfl; have hcz26_1 : w23.cell? ⟨gb167, 1, none⟩ = some (.string (⟨#[]⟩ : ByteArray)) := (blk_cell BK167.out 1).trans rfl; have hcz26_2 : w23.cell? ⟨gb167, 2, none⟩ = some (.slice none 0 0) := (blk_cell BK167.out 2).trans rfl; have hfz26_0 := blk_frozen BK167.out 0; have hfz26_1 := blk_frozen BK167.out 1; have hfz26_2 := blk_frozen BK167.out 2; have hnb27 := NB164_165.out; have hnc27 := NB165_164.out; have hcz28_0 : w23.cell? ⟨gb164, 0, none⟩ = some (.slice A0_0 l0_0.length c0_0) := (blk_cell BK164.out 0).trans rfl; have hcz28_1 : w23.cell? ⟨gb164, 1, none⟩ = some (.slice A0_1 l0_1.length c0_1) := (blk_cell BK164.out 1).trans rfl; have hfz28_0 := blk_frozen BK164.out 0; have hfz28_1 := blk_frozen BK164.out 1; have hcz29_0 : w23.cell? ⟨gb165, 0, none⟩ = some (.string a1_0) := (blk_cell BK165.out 0).trans rfl; have hcz29_1 : w23.cell? ⟨gb165, 1, none⟩ = some (.int .i64 a1_1) := (blk_cell BK165.out 1).trans rfl; have hcz29_2 : w23.cell? ⟨gb165, 2, none⟩ = some (.int .i64 a1_2) := (blk_cell BK165.out 2).trans rfl; have hcz29_3 : w23.cell? ⟨gb165, 3, none⟩ = some (.string a1_3) := (blk_cell BK165.out 3).trans rfl; have hcz29_4 : w23.cell? ⟨gb165, 4, none⟩ = some (.bool a1_4) := (blk_cell BK165.out 4).trans rfl; have hcz29_5 : w23.cell? ⟨gb165, 5, none⟩ = some (.bool a1_5) := (blk_cell BK165.out 5).trans rfl; have hcz29_6 : w23.cell? ⟨gb165, 6, none⟩ = some (.string a1_6) := (blk_cell BK165.out 6).trans rfl; have hfz29_0 := blk_frozen BK165.out 0; have hfz29_1 := blk_frozen BK165.out 1; have hfz29_2 := blk_frozen BK165.out 2; have hfz29_3 := blk_frozen BK165.out 3; have hfz29_4 := blk_frozen BK165.out 4; have hfz29_5 := blk_frozen BK165.out 5; have hfz29_6 := blk_frozen BK165.out 6) | ((with_reducible refine gate_callee (f := 12) rfl ?_); refine goesL_ (some 31) rfl rfl Tryd.func12 (by kernel_rfl) rfl #[.agg #[.slice A0_0 l0_0.length c0_0, .slice A0_1 l0_1.length c0_1], .agg #[.string a1_0, .int .i64 a1_1, .int .i64 a1_2, .string a1_3, .bool a1_4, .bool a1_5, .string a1_6], .agg #[.int .u64 ((rd_T40 l2 x24_2).f0), .string ((rd_T40 l2 x24_2).f1), .slice A166_2 ((rd_T40 l2 x24_2).f2).length c166_2]] rfl (by (try simp only [List.map_toArray, List.map_cons, List.map_nil]); first | done | rfl | (simp only [List.length_drop, List.length_take]; rfl)) ?_; (with_reducible refine (ih_valid_Val k2 (by have := HJ3.out; have := HK2.out; omega) _ _ l0_0 _ _ l0_1 a1_0 a1_1 a1_2 a1_3 a1_4 a1_5 a1_6 ((rd_T40 l2 x24_2).f0) ((rd_T40 l2 x24_2).f1) _ _ ((rd_T40 l2 x24_2).f2) true _ ?sideT ?side1 ?side2 ?side3 ?side4 ?side5 ?side6 A17.out).mono ?_); (case sideT => exact Tabs.below HU8.out (by repeat (first | (with_reducible first | exact HB.out | refine below_set ?_ GE167.out) ))); (case side1 => exact Kd.C_below HR0_0.out (by repeat (first | (with_reducible first | exact HB.out | refine below_set ?_ GE167.out) ))); (case side2 => exact HC0_0.out); (case side3 => exact Kd.C_below HR0_1.out (by repeat (first | (with_reducible first | exact HB.out | refine below_set ?_ GE167.out) ))); (case side4 => exact HC0_1.out); (case side5 => exact Kd.C_below HR166_2.out (by repeat (first | (with_reducible first | exact HB.out | refine below_set ?_ GE167.out) ))); (case side6 => exact HC166_2.out); rintro e w30 ⟨rfl, hb⟩; refine ⟨_, rfl, ?_⟩; have n0_ := Aside0.mk (blk_below (g := gb164) (o := .cells #[.slice A0_0 l0_0.length c0_0, .slice A0_1 l0_1.length c0_1] 25 (0, 0)) (by refine blk_far ?_ NB164_167.out _; refine blk_far ?_ NB164_167.out _; refine blk_far ?_ NB164_167.out _; exact BK164.out) hb); have n1_ := Aside0.mk (blk_below (g := gb165) (o := .cells #[.string a1_0, .int .i64 a1_1, .int .i64 a1_2, .string a1_3, .bool a1_4, .bool a1_5, .string a1_6] 36 (0, 0)) (by refine blk_far ?_ NB165_167.out _; refine blk_far ?_ NB165_167.out _; refine blk_far ?_ NB165_167.out _; exact BK165.out) hb); have n2_ := Aside0.mk (blk_below (g := gb167) (o := .cells #[.int .u64 ((rd_T40 l2 x24_2).f0), .string ((rd_T40 l2 x24_2).f1), .slice A166_2 ((rd_T40 l2 x24_2).f2).length c166_2] 40 (0, 0)) (by refine blk_put (cs := #[.int .u64 ((rd_T40 l2 x24_2).f0), .string ((rd_T40 l2 x24_2).f1), .slice none 0 0]) ?_ 2 _ rfl; refine blk_put (cs := #[.int .u64 ((rd_T40 l2 x24_2).f0), .string (⟨#[]⟩ : ByteArray), .slice none 0 0]) ?_ 1 _ rfl; refine blk_put (cs := #[.int .u64 0, .string (⟨#[]⟩ : ByteArray), .slice none 0 0]) ?_ 0 _ rfl; exact BK167.out) hb); have n3_ := Aside0.mk (below_step (by repeat (first | (with_reducible first | exact HB.out | refine below_set ?_ GE167.out) )) hb); clear BK164; clear BK165; clear BK167; clear HB; have BK164 := n0_; have BK165 := n1_; have BK167 := n2_; have HB := n3_; clear n0_ n1_ n2_ n3_; (try clear hb); (try clear hb2); (try clear hk); (try clear hi); have hcz31_0 : w30.cell? ⟨gb165, 0, none⟩ = some (.string a1_0) := (blk_cell BK165.out 0).trans rfl; have hcz31_1 : w30.cell? ⟨gb165, 1, none⟩ = some (.int .i64 a1_1) := (blk_cell BK165.out 1).trans rfl; have hcz31_2 : w30.cell? ⟨gb165, 2, none⟩ = some (.int .i64 a1_2) := (blk_cell BK165.out 2).trans rfl; have hcz31_3 : w30.cell? ⟨gb165, 3, none⟩ = some (.string a1_3) := (blk_cell BK165.out 3).trans rfl; have hcz31_4 : w30.cell? ⟨gb165, 4, none⟩ = some (.bool a1_4) := (blk_cell BK165.out 4).trans rfl; have hcz31_5 : w30.cell? ⟨gb165, 5, none⟩ = some (.bool a1_5) := (blk_cell BK165.out 5).trans rfl; have hcz31_6 : w30.cell? ⟨gb165, 6, none⟩ = some (.string a1_6) := (blk_cell BK165.out 6).trans rfl; have hfz31_0 := blk_frozen BK165.out 0; have hfz31_1 := blk_frozen BK165.out 1; have hfz31_2 := blk_frozen BK165.out 2; have hfz31_3 := blk_frozen BK165.out 3; have hfz31_4 := blk_frozen BK165.out 4; have hfz31_5 := blk_frozen BK165.out 5; have hfz31_6 := blk_frozen BK165.out 6) | (go_at_call 48; (with_reducible refine (field_Hidden.calls a1_0 a1_1 a1_2 a1_3 a1_4 a1_5 a1_6 true _ A19.out).mono ?_); rintro e w32 ⟨rfl, hb⟩; have n0_ := Aside0.mk (blk_below BK164.out hb); have n1_ := Aside0.mk (blk_below BK165.out hb); have n2_ := Aside0.mk (blk_below BK167.out hb); have n3_ := Aside0.mk (below_step HB.out hb); clear BK164; clear BK165; clear BK167; clear HB; have BK164 := n0_; have BK165 := n1_; have BK167 := n2_; have HB := n3_; clear n0_ n1_ n2_ n3_; (try clear hb); (try clear hb2); (try clear hk); (try clear hi); have hcz33_0 : w32.cell? ⟨gb167, 0, none⟩ = some (.int .u64 ((rd_T40 l2 x24_2).f0)) := (blk_cell BK167.out 0).trans rfl; have hcz33_1 : w32.cell? ⟨gb167, 1, none⟩ = some (.string ((rd_T40 l2 x24_2).f1)) := (blk_cell BK167.out 1).trans rfl; have hcz33_2 : w32.cell? ⟨gb167, 2, none⟩ = some (.slice A166_2 ((rd_T40 l2 x24_2).f2).length c166_2) := (blk_cell BK167.out 2).trans rfl; have hfz33_0 := blk_frozen BK167.out 0; have hfz33_1 := blk_frozen BK167.out 1; have hfz33_2 := blk_frozen BK167.out 2))
                      go_ret
                      exact ⟨by first | rfl , by exact HB.out⟩
                    · rw [if_neg c22] at H
                      have c22b0 : (((rd_T40 l2 x24_2).f1).toList == ([] : List UInt8)) = false := beq_eq_false_iff_ne.mpr c22
                      have c22b1 : (((rd_T40 l2 x24_2).f1).toList != ([] : List UInt8)) = true := bne_iff_ne.mpr c22
                      have H' := Aside0.mk H
                      clear H
                      have p166 : 0 ≤ (x24_2 : Int) := of_decide_eq_true (by first | (with_reducible assumption) )
                      have q166 : x24_2 < (l2.length : Int) := of_decide_eq_true (by first | (with_reducible assumption) )
                      obtain ⟨ad166, A166_2, c166_2, e166, hx166_0, hx166_1, hx166_2, hl166_2, hi166_2⟩ := at_T40 HR2.out x24_2 p166 q166
                      cases e166
                      replace hx166_0 := (HB.out.cell (World.block_lt_of_cell? w _ hx166_0)).trans hx166_0
                      replace hx166_1 := (HB.out.cell (World.block_lt_of_cell? w _ hx166_1)).trans hx166_1
                      replace hx166_2 := (HB.out.cell (World.block_lt_of_cell? w _ hx166_2)).trans hx166_2
                      have HR166_2 := Aside0.mk hi166_2
                      have HC166_2 := Aside0.mk hl166_2
                      clear hi166_2 hl166_2
                      replace p166 := eq_true p166
                      replace q166 := eq_true q166
                      go_wp2_with (first | ((with_reducible refine gate_dst (N := 8) rfl ?_); (try (refine gate_guard (by rfl) ?_; dsimp only)); refine box_event ?hg (N := 8) ?hd (cs := #[.int .u64 0, .string (⟨#[]⟩ : ByteArray), .slice none 0 0]) (t := 40) ?hr ?_; (case hd => rfl); (case hg => rfl); (case hr => first | (go_simp; done) | (go_simp; rfl)); intro gb167 hg w34 hbox hb; have n0_ := Aside0.mk (blk_below BK164.out hb); have n1_ := Aside0.mk (blk_below BK165.out hb); have n2_ := Aside0.mk (below_step HB.out hb); have n3_ := Aside0.mk (hbox); have n5_ := Aside0.mk ((by rw [hg]; exact (below_size HB.out) : w.heap.size ≤ gb167)); have n6_ := Aside0.mk ((by rw [hg]; exact Nat.ne_of_lt (blk_lt BK164.out) : gb164 ≠ gb167)); have n7_ := Aside0.mk ((by rw [hg]; exact Nat.ne_of_gt (blk_lt BK164.out) : gb167 ≠ gb164)); have n8_ := Aside0.mk ((by rw [hg]; exact Nat.ne_of_lt (blk_lt BK165.out) : gb165 ≠ gb167)); have n9_ := Aside0.mk ((by rw [hg]; exact Nat.ne_of_gt (blk_lt BK165.out) : gb167 ≠ gb165)); clear BK164; clear BK165; clear HB; have BK164 := n0_; have BK165 := n1_; have HB := n2_; have BK167 := n3_; have GE167 := n5_; have NB164_167 := n6_; have NB167_164 := n7_; have NB165_167 := n8_; have NB167_165 := n9_; clear n0_ n1_ n2_ n3_ n5_ n6_ n7_ n8_ n9_; clear hb hbox hg; have hnb35 := NB167_164.out; have hnc35 := NB164_167.out; have hnb36 := NB167_165.out; have hnc36 := NB165_167.out; have hcz37_0 : w34.cell? ⟨gb167, 0, none⟩ = some (.int .u64 0) := (blk_cell BK167.out 0).trans rfl; have hcz37_1 : w34.cell? ⟨gb167, 1, none⟩ = some (.string (⟨#[]⟩ : ByteArray)) := (blk_cell BK167.out 1).trans rfl; have hcz37_2 : w34.cell? ⟨gb167, 2, none⟩ = some (.slice none 0 0) := (blk_cell BK167.out 2).trans rfl; have hfz37_0 := blk_frozen BK167.out 0; have hfz37_1 := blk_frozen BK167.out 1; have hfz37_2 := blk_frozen BK167.out 2; have hnb38 := NB164_165.out; have hnc38 := NB165_164.out; have hcz39_0 : w34.cell? ⟨gb164, 0, none⟩ = some (.slice A0_0 l0_0.length c0_0) := (blk_cell BK164.out 0).trans rfl; have hcz39_1 : w34.cell? ⟨gb164, 1, none⟩ = some (.slice A0_1 l0_1.length c0_1) := (blk_cell BK164.out 1).trans rfl; have hfz39_0 := blk_frozen BK164.out 0; have hfz39_1 := blk_frozen BK164.out 1; have hcz40_0 : w34.cell? ⟨gb165, 0, none⟩ = some (.string a1_0) := (blk_cell BK165.out 0).trans rfl; have hcz40_1 : w34.cell? ⟨gb165, 1, none⟩ = some (.int .i64 a1_1) := (blk_cell BK165.out 1).trans rfl; have hcz40_2 : w34.cell? ⟨gb165, 2, none⟩ = some (.int .i64 a1_2) := (blk_cell BK165.out 2).trans rfl; have hcz40_3 : w34.cell? ⟨gb165, 3, none⟩ = some (.string a1_3) := (blk_cell BK165.out 3).trans rfl; have hcz40_4 : w34.cell? ⟨gb165, 4, none⟩ = some (.bool a1_4) := (blk_cell BK165.out 4).trans rfl; have hcz40_5 : w34.cell? ⟨gb165, 5, none⟩ = some (.bool a1_5) := (blk_cell BK165.out 5).trans rfl; have hcz40_6 : w34.cell? ⟨gb165, 6, none⟩ = some (.string a1_6) := (blk_cell BK165.out 6).trans rfl; have hfz40_0 := blk_frozen BK165.out 0; have hfz40_1 := blk_frozen BK165.out 1; have hfz40_2 := blk_frozen BK165.out 2; have hfz40_3 := blk_frozen BK165.out 3; have hfz40_4 := blk_frozen BK165.out 4; have hfz40_5 := blk_frozen BK165.out 5; have hfz40_6 := blk_frozen BK165.out 6) | ((with_reducible refine gate_callee (f := 12) rfl ?_); refine goesL_ (some 31) rfl rfl Tryd.func12 (by kernel_rfl) rfl #[.agg #[.slice A0_0 l0_0.length c0_0, .slice A0_1 l0_1.length c0_1], .agg #[.string a1_0, .int .i64 a1_1, .int .i64 a1_2, .string a1_3, .bool a1_4, .bool a1_5, .string a1_6], .agg #[.int .u64 ((rd_T40 l2 x24_2).f0), .string ((rd_T40 l2 x24_2).f1), .slice A166_2 ((rd_T40 l2 x24_2).f2).length c166_2]] rfl (by (try simp only [List.map_toArray, List.map_cons, List.map_nil]); first | done | rfl | (simp only [List.length_drop, List.length_take]; rfl)) ?_; (with_reducible refine (ih_valid_Val k2 (by have := HJ3.out; have := HK2.out; omega) _ _ l0_0 _ _ l0_1 a1_0 a1_1 a1_2 a1_3 a1_4 a1_5 a1_6 ((rd_T40 l2 x24_2).f0) ((rd_T40 l2 x24_2).f1) _ _ ((rd_T40 l2 x24_2).f2) true _ ?sideT ?side1 ?side2 ?side3 ?side4 ?side5 ?side6 A17.out).mono ?_); (case sideT => exact Tabs.below HU8.out (by repeat (first | (with_reducible first | exact HB.out | refine below_set ?_ GE167.out) ))); (case side1 => exact Kd.C_below HR0_0.out (by repeat (first | (with_reducible first | exact HB.out | refine below_set ?_ GE167.out) ))); (case side2 => exact HC0_0.out); (case side3 => exact Kd.C_below HR0_1.out (by repeat (first | (with_reducible first | exact HB.out | refine below_set ?_ GE167.out) ))); (case side4 => exact HC0_1.out); (case side5 => exact Kd.C_below HR166_2.out (by repeat (first | (with_reducible first | exact HB.out | refine below_set ?_ GE167.out) ))); (case side6 => exact HC166_2.out); rintro e w41 ⟨rfl, hb⟩; refine ⟨_, rfl, ?_⟩; have n0_ := Aside0.mk (blk_below (g := gb164) (o := .cells #[.slice A0_0 l0_0.length c0_0, .slice A0_1 l0_1.length c0_1] 25 (0, 0)) (by refine blk_far ?_ NB164_167.out _; refine blk_far ?_ NB164_167.out _; refine blk_far ?_ NB164_167.out _; exact BK164.out) hb); have n1_ := Aside0.mk (blk_below (g := gb165) (o := .cells #[.string a1_0, .int .i64 a1_1, .int .i64 a1_2, .string a1_3, .bool a1_4, .bool a1_5, .string a1_6] 36 (0, 0)) (by refine blk_far ?_ NB165_167.out _; refine blk_far ?_ NB165_167.out _; refine blk_far ?_ NB165_167.out _; exact BK165.out) hb); have n2_ := Aside0.mk (blk_below (g := gb167) (o := .cells #[.int .u64 ((rd_T40 l2 x24_2).f0), .string ((rd_T40 l2 x24_2).f1), .slice A166_2 ((rd_T40 l2 x24_2).f2).length c166_2] 40 (0, 0)) (by refine blk_put (cs := #[.int .u64 ((rd_T40 l2 x24_2).f0), .string ((rd_T40 l2 x24_2).f1), .slice none 0 0]) ?_ 2 _ rfl; refine blk_put (cs := #[.int .u64 ((rd_T40 l2 x24_2).f0), .string (⟨#[]⟩ : ByteArray), .slice none 0 0]) ?_ 1 _ rfl; refine blk_put (cs := #[.int .u64 0, .string (⟨#[]⟩ : ByteArray), .slice none 0 0]) ?_ 0 _ rfl; exact BK167.out) hb); have n3_ := Aside0.mk (below_step (by repeat (first | (with_reducible first | exact HB.out | refine below_set ?_ GE167.out) )) hb); clear BK164; clear BK165; clear BK167; clear HB; have BK164 := n0_; have BK165 := n1_; have BK167 := n2_; have HB := n3_; clear n0_ n1_ n2_ n3_; (try clear hb); (try clear hb2); (try clear hk); (try clear hi); have hcz42_0 : w41.cell? ⟨gb165, 0, none⟩ = some (.string a1_0) := (blk_cell BK165.out 0).trans rfl; have hcz42_1 : w41.cell? ⟨gb165, 1, none⟩ = some (.int .i64 a1_1) := (blk_cell BK165.out 1).trans rfl; have hcz42_2 : w41.cell? ⟨gb165, 2, none⟩ = some (.int .i64 a1_2) := (blk_cell BK165.out 2).trans rfl; have hcz42_3 : w41.cell? ⟨gb165, 3, none⟩ = some (.string a1_3) := (blk_cell BK165.out 3).trans rfl; have hcz42_4 : w41.cell? ⟨gb165, 4, none⟩ = some (.bool a1_4) := (blk_cell BK165.out 4).trans rfl; have hcz42_5 : w41.cell? ⟨gb165, 5, none⟩ = some (.bool a1_5) := (blk_cell BK165.out 5).trans rfl; have hcz42_6 : w41.cell? ⟨gb165, 6, none⟩ = some (.string a1_6) := (blk_cell BK165.out 6).trans rfl; have hfz42_0 := blk_frozen BK165.out 0; have hfz42_1 := blk_frozen BK165.out 1; have hfz42_2 := blk_frozen BK165.out 2; have hfz42_3 := blk_frozen BK165.out 3; have hfz42_4 := blk_frozen BK165.out 4; have hfz42_5 := blk_frozen BK165.out 5; have hfz42_6 := blk_frozen BK165.out 6) | (go_at_call 48; (with_reducible refine (field_Hidden.calls a1_0 a1_1 a1_2 a1_3 a1_4 a1_5 a1_6 true _ A19.out).mono ?_); rintro e w43 ⟨rfl, hb⟩; have n0_ := Aside0.mk (blk_below BK164.out hb); have n1_ := Aside0.mk (blk_below BK165.out hb); have n2_ := Aside0.mk (blk_below BK167.out hb); have n3_ := Aside0.mk (below_step HB.out hb); clear BK164; clear BK165; clear BK167; clear HB; have BK164 := n0_; have BK165 := n1_; have BK167 := n2_; have HB := n3_; clear n0_ n1_ n2_ n3_; (try clear hb); (try clear hb2); (try clear hk); (try clear hi); have hcz44_0 : w43.cell? ⟨gb167, 0, none⟩ = some (.int .u64 ((rd_T40 l2 x24_2).f0)) := (blk_cell BK167.out 0).trans rfl; have hcz44_1 : w43.cell? ⟨gb167, 1, none⟩ = some (.string ((rd_T40 l2 x24_2).f1)) := (blk_cell BK167.out 1).trans rfl; have hcz44_2 : w43.cell? ⟨gb167, 2, none⟩ = some (.slice A166_2 ((rd_T40 l2 x24_2).f2).length c166_2) := (blk_cell BK167.out 2).trans rfl; have hfz44_0 := blk_frozen BK167.out 0; have hfz44_1 := blk_frozen BK167.out 1; have hfz44_2 := blk_frozen BK167.out 2))
                      go_roundg k2
                      case measure => have := HJ3.out; have := HK2.out; omega
                      case rel => exact ⟨(wrap64 (x24_2 + 1)), (by first | rfl ), H', ⟨by have := HJ3.out; have := HK2.out; omega⟩, ⟨by exact BK164.out⟩, ⟨by exact BK165.out⟩, ⟨by exact HB.out⟩⟩
                  · rw [if_neg c21] at H
                    have c21b0 : (((rd_T40 l2 x24_2).f0) == 0) = false := beq_eq_false_iff_ne.mpr c21
                    have c21b1 : (((rd_T40 l2 x24_2).f0) != 0) = true := bne_iff_ne.mpr c21
                    have H' := Aside0.mk H
                    clear H
                    have p166 : 0 ≤ (x24_2 : Int) := of_decide_eq_true (by first | (with_reducible assumption) )
                    have q166 : x24_2 < (l2.length : Int) := of_decide_eq_true (by first | (with_reducible assumption) )
                    obtain ⟨ad166, A166_2, c166_2, e166, hx166_0, hx166_1, hx166_2, hl166_2, hi166_2⟩ := at_T40 HR2.out x24_2 p166 q166
                    cases e166
                    replace hx166_0 := (HB.out.cell (World.block_lt_of_cell? w _ hx166_0)).trans hx166_0
                    replace hx166_1 := (HB.out.cell (World.block_lt_of_cell? w _ hx166_1)).trans hx166_1
                    replace hx166_2 := (HB.out.cell (World.block_lt_of_cell? w _ hx166_2)).trans hx166_2
                    have HR166_2 := Aside0.mk hi166_2
                    have HC166_2 := Aside0.mk hl166_2
                    clear hi166_2 hl166_2
                    replace p166 := eq_true p166
                    replace q166 := eq_true q166
                    go_wp2_with (first | ((with_reducible refine gate_dst (N := 8) rfl ?_); (try (refine gate_guard (by rfl) ?_; dsimp only)); refine box_event ?hg (N := 8) ?hd (cs := #[.int .u64 0, .string (⟨#[]⟩ : ByteArray), .slice none 0 0]) (t := 40) ?hr ?_; (case hd => rfl); (case hg => rfl); (case hr => first | (go_simp; done) | (go_simp; rfl)); intro gb167 hg w45 hbox hb; have n0_ := Aside0.mk (blk_below BK164.out hb); have n1_ := Aside0.mk (blk_below BK165.out hb); have n2_ := Aside0.mk (below_step HB.out hb); have n3_ := Aside0.mk (hbox); have n5_ := Aside0.mk ((by rw [hg]; exact (below_size HB.out) : w.heap.size ≤ gb167)); have n6_ := Aside0.mk ((by rw [hg]; exact Nat.ne_of_lt (blk_lt BK164.out) : gb164 ≠ gb167)); have n7_ := Aside0.mk ((by rw [hg]; exact Nat.ne_of_gt (blk_lt BK164.out) : gb167 ≠ gb164)); have n8_ := Aside0.mk ((by rw [hg]; exact Nat.ne_of_lt (blk_lt BK165.out) : gb165 ≠ gb167)); have n9_ := Aside0.mk ((by rw [hg]; exact Nat.ne_of_gt (blk_lt BK165.out) : gb167 ≠ gb165)); clear BK164; clear BK165; clear HB; have BK164 := n0_; have BK165 := n1_; have HB := n2_; have BK167 := n3_; have GE167 := n5_; have NB164_167 := n6_; have NB167_164 := n7_; have NB165_167 := n8_; have NB167_165 := n9_; clear n0_ n1_ n2_ n3_ n5_ n6_ n7_ n8_ n9_; clear hb hbox hg; have hnb46 := NB167_164.out; have hnc46 := NB164_167.out; have hnb47 := NB167_165.out; have hnc47 := NB165_167.out; have hcz48_0 : w45.cell? ⟨gb167, 0, none⟩ = some (.int .u64 0) := (blk_cell BK167.out 0).trans rfl; have hcz48_1 : w45.cell? ⟨gb167, 1, none⟩ = some (.string (⟨#[]⟩ : ByteArray)) := (blk_cell BK167.out 1).trans rfl; have hcz48_2 : w45.cell? ⟨gb167, 2, none⟩ = some (.slice none 0 0) := (blk_cell BK167.out 2).trans rfl; have hfz48_0 := blk_frozen BK167.out 0; have hfz48_1 := blk_frozen BK167.out 1; have hfz48_2 := blk_frozen BK167.out 2; have hnb49 := NB164_165.out; have hnc49 := NB165_164.out; have hcz50_0 : w45.cell? ⟨gb164, 0, none⟩ = some (.slice A0_0 l0_0.length c0_0) := (blk_cell BK164.out 0).trans rfl; have hcz50_1 : w45.cell? ⟨gb164, 1, none⟩ = some (.slice A0_1 l0_1.length c0_1) := (blk_cell BK164.out 1).trans rfl; have hfz50_0 := blk_frozen BK164.out 0; have hfz50_1 := blk_frozen BK164.out 1; have hcz51_0 : w45.cell? ⟨gb165, 0, none⟩ = some (.string a1_0) := (blk_cell BK165.out 0).trans rfl; have hcz51_1 : w45.cell? ⟨gb165, 1, none⟩ = some (.int .i64 a1_1) := (blk_cell BK165.out 1).trans rfl; have hcz51_2 : w45.cell? ⟨gb165, 2, none⟩ = some (.int .i64 a1_2) := (blk_cell BK165.out 2).trans rfl; have hcz51_3 : w45.cell? ⟨gb165, 3, none⟩ = some (.string a1_3) := (blk_cell BK165.out 3).trans rfl; have hcz51_4 : w45.cell? ⟨gb165, 4, none⟩ = some (.bool a1_4) := (blk_cell BK165.out 4).trans rfl; have hcz51_5 : w45.cell? ⟨gb165, 5, none⟩ = some (.bool a1_5) := (blk_cell BK165.out 5).trans rfl; have hcz51_6 : w45.cell? ⟨gb165, 6, none⟩ = some (.string a1_6) := (blk_cell BK165.out 6).trans rfl; have hfz51_0 := blk_frozen BK165.out 0; have hfz51_1 := blk_frozen BK165.out 1; have hfz51_2 := blk_frozen BK165.out 2; have hfz51_3 := blk_frozen BK165.out 3; have hfz51_4 := blk_frozen BK165.out 4; have hfz51_5 := blk_frozen BK165.out 5; have hfz51_6 := blk_frozen BK165.out 6) | ((with_reducible refine gate_callee (f := 12) rfl ?_); refine goesL_ (some 31) rfl rfl Tryd.func12 (by kernel_rfl) rfl #[.agg #[.slice A0_0 l0_0.length c0_0, .slice A0_1 l0_1.length c0_1], .agg #[.string a1_0, .int .i64 a1_1, .int .i64 a1_2, .string a1_3, .bool a1_4, .bool a1_5, .string a1_6], .agg #[.int .u64 ((rd_T40 l2 x24_2).f0), .string ((rd_T40 l2 x24_2).f1), .slice A166_2 ((rd_T40 l2 x24_2).f2).length c166_2]] rfl (by (try simp only [List.map_toArray, List.map_cons, List.map_nil]); first | done | rfl | (simp only [List.length_drop, List.length_take]; rfl)) ?_; (with_reducible refine (ih_valid_Val k2 (by have := HJ3.out; have := HK2.out; omega) _ _ l0_0 _ _ l0_1 a1_0 a1_1 a1_2 a1_3 a1_4 a1_5 a1_6 ((rd_T40 l2 x24_2).f0) ((rd_T40 l2 x24_2).f1) _ _ ((rd_T40 l2 x24_2).f2) true _ ?sideT ?side1 ?side2 ?side3 ?side4 ?side5 ?side6 A17.out).mono ?_); (case sideT => exact Tabs.below HU8.out (by repeat (first | (with_reducible first | exact HB.out | refine below_set ?_ GE167.out) ))); (case side1 => exact Kd.C_below HR0_0.out (by repeat (first | (with_reducible first | exact HB.out | refine below_set ?_ GE167.out) ))); (case side2 => exact HC0_0.out); (case side3 => exact Kd.C_below HR0_1.out (by repeat (first | (with_reducible first | exact HB.out | refine below_set ?_ GE167.out) ))); (case side4 => exact HC0_1.out); (case side5 => exact Kd.C_below HR166_2.out (by repeat (first | (with_reducible first | exact HB.out | refine below_set ?_ GE167.out) ))); (case side6 => exact HC166_2.out); rintro e w52 ⟨rfl, hb⟩; refine ⟨_, rfl, ?_⟩; have n0_ := Aside0.mk (blk_below (g := gb164) (o := .cells #[.slice A0_0 l0_0.length c0_0, .slice A0_1 l0_1.length c0_1] 25 (0, 0)) (by refine blk_far ?_ NB164_167.out _; refine blk_far ?_ NB164_167.out _; refine blk_far ?_ NB164_167.out _; exact BK164.out) hb); have n1_ := Aside0.mk (blk_below (g := gb165) (o := .cells #[.string a1_0, .int .i64 a1_1, .int .i64 a1_2, .string a1_3, .bool a1_4, .bool a1_5, .string a1_6] 36 (0, 0)) (by refine blk_far ?_ NB165_167.out _; refine blk_far ?_ NB165_167.out _; refine blk_far ?_ NB165_167.out _; exact BK165.out) hb); have n2_ := Aside0.mk (blk_below (g := gb167) (o := .cells #[.int .u64 ((rd_T40 l2 x24_2).f0), .string ((rd_T40 l2 x24_2).f1), .slice A166_2 ((rd_T40 l2 x24_2).f2).length c166_2] 40 (0, 0)) (by refine blk_put (cs := #[.int .u64 ((rd_T40 l2 x24_2).f0), .string ((rd_T40 l2 x24_2).f1), .slice none 0 0]) ?_ 2 _ rfl; refine blk_put (cs := #[.int .u64 ((rd_T40 l2 x24_2).f0), .string (⟨#[]⟩ : ByteArray), .slice none 0 0]) ?_ 1 _ rfl; refine blk_put (cs := #[.int .u64 0, .string (⟨#[]⟩ : ByteArray), .slice none 0 0]) ?_ 0 _ rfl; exact BK167.out) hb); have n3_ := Aside0.mk (below_step (by repeat (first | (with_reducible first | exact HB.out | refine below_set ?_ GE167.out) )) hb); clear BK164; clear BK165; clear BK167; clear HB; have BK164 := n0_; have BK165 := n1_; have BK167 := n2_; have HB := n3_; clear n0_ n1_ n2_ n3_; (try clear hb); (try clear hb2); (try clear hk); (try clear hi); have hcz53_0 : w52.cell? ⟨gb165, 0, none⟩ = some (.string a1_0) := (blk_cell BK165.out 0).trans rfl; have hcz53_1 : w52.cell? ⟨gb165, 1, none⟩ = some (.int .i64 a1_1) := (blk_cell BK165.out 1).trans rfl; have hcz53_2 : w52.cell? ⟨gb165, 2, none⟩ = some (.int .i64 a1_2) := (blk_cell BK165.out 2).trans rfl; have hcz53_3 : w52.cell? ⟨gb165, 3, none⟩ = some (.string a1_3) := (blk_cell BK165.out 3).trans rfl; have hcz53_4 : w52.cell? ⟨gb165, 4, none⟩ = some (.bool a1_4) := (blk_cell BK165.out 4).trans rfl; have hcz53_5 : w52.cell? ⟨gb165, 5, none⟩ = some (.bool a1_5) := (blk_cell BK165.out 5).trans rfl; have hcz53_6 : w52.cell? ⟨gb165, 6, none⟩ = some (.string a1_6) := (blk_cell BK165.out 6).trans rfl; have hfz53_0 := blk_frozen BK165.out 0; have hfz53_1 := blk_frozen BK165.out 1; have hfz53_2 := blk_frozen BK165.out 2; have hfz53_3 := blk_frozen BK165.out 3; have hfz53_4 := blk_frozen BK165.out 4; have hfz53_5 := blk_frozen BK165.out 5; have hfz53_6 := blk_frozen BK165.out 6) | (go_at_call 48; (with_reducible refine (field_Hidden.calls a1_0 a1_1 a1_2 a1_3 a1_4 a1_5 a1_6 true _ A19.out).mono ?_); rintro e w54 ⟨rfl, hb⟩; have n0_ := Aside0.mk (blk_below BK164.out hb); have n1_ := Aside0.mk (blk_below BK165.out hb); have n2_ := Aside0.mk (blk_below BK167.out hb); have n3_ := Aside0.mk (below_step HB.out hb); clear BK164; clear BK165; clear BK167; clear HB; have BK164 := n0_; have BK165 := n1_; have BK167 := n2_; have HB := n3_; clear n0_ n1_ n2_ n3_; (try clear hb); (try clear hb2); (try clear hk); (try clear hi); have hcz55_0 : w54.cell? ⟨gb167, 0, none⟩ = some (.int .u64 ((rd_T40 l2 x24_2).f0)) := (blk_cell BK167.out 0).trans rfl; have hcz55_1 : w54.cell? ⟨gb167, 1, none⟩ = some (.string ((rd_T40 l2 x24_2).f1)) := (blk_cell BK167.out 1).trans rfl; have hcz55_2 : w54.cell? ⟨gb167, 2, none⟩ = some (.slice A166_2 ((rd_T40 l2 x24_2).f2).length c166_2) := (blk_cell BK167.out 2).trans rfl; have hfz55_0 := blk_frozen BK167.out 0; have hfz55_1 := blk_frozen BK167.out 1; have hfz55_2 := blk_frozen BK167.out 2))
                    go_roundg k2
                    case measure => have := HJ3.out; have := HK2.out; omega
                    case rel => exact ⟨(wrap64 (x24_2 + 1)), (by first | rfl ), H', ⟨by have := HJ3.out; have := HK2.out; omega⟩, ⟨by exact BK164.out⟩, ⟨by exact BK165.out⟩, ⟨by exact HB.out⟩⟩
                · replace c20 := Bool.eq_false_iff.mpr c20
                  subst c20
                  have H1 : (valid_vals.l0 k2 l2 (l2.length : Int) (wrap64 (x24_2 + 1)) l0_0 l0_1 a1_0 a1_1 a1_2 a1_3 a1_4 a1_5 a1_6) = some r := by rw [if_neg (show ¬ (false = true) by decide)] at H; exact H
                  clear H
                  have H := H1
                  clear H1
                  have H' := Aside0.mk H
                  clear H
                  have p166 : 0 ≤ (x24_2 : Int) := of_decide_eq_true (by first | (with_reducible assumption) )
                  have q166 : x24_2 < (l2.length : Int) := of_decide_eq_true (by first | (with_reducible assumption) )
                  obtain ⟨ad166, A166_2, c166_2, e166, hx166_0, hx166_1, hx166_2, hl166_2, hi166_2⟩ := at_T40 HR2.out x24_2 p166 q166
                  cases e166
                  replace hx166_0 := (HB.out.cell (World.block_lt_of_cell? w _ hx166_0)).trans hx166_0
                  replace hx166_1 := (HB.out.cell (World.block_lt_of_cell? w _ hx166_1)).trans hx166_1
                  replace hx166_2 := (HB.out.cell (World.block_lt_of_cell? w _ hx166_2)).trans hx166_2
                  have HR166_2 := Aside0.mk hi166_2
                  have HC166_2 := Aside0.mk hl166_2
                  clear hi166_2 hl166_2
                  replace p166 := eq_true p166
                  replace q166 := eq_true q166
                  go_wp2_with (first | ((with_reducible refine gate_dst (N := 8) rfl ?_); (try (refine gate_guard (by rfl) ?_; dsimp only)); refine box_event ?hg (N := 8) ?hd (cs := #[.int .u64 0, .string (⟨#[]⟩ : ByteArray), .slice none 0 0]) (t := 40) ?hr ?_; (case hd => rfl); (case hg => rfl); (case hr => first | (go_simp; done) | (go_simp; rfl)); intro gb167 hg w56 hbox hb; have n0_ := Aside0.mk (blk_below BK164.out hb); have n1_ := Aside0.mk (blk_below BK165.out hb); have n2_ := Aside0.mk (below_step HB.out hb); have n3_ := Aside0.mk (hbox); have n5_ := Aside0.mk ((by rw [hg]; exact (below_size HB.out) : w.heap.size ≤ gb167)); have n6_ := Aside0.mk ((by rw [hg]; exact Nat.ne_of_lt (blk_lt BK164.out) : gb164 ≠ gb167)); have n7_ := Aside0.mk ((by rw [hg]; exact Nat.ne_of_gt (blk_lt BK164.out) : gb167 ≠ gb164)); have n8_ := Aside0.mk ((by rw [hg]; exact Nat.ne_of_lt (blk_lt BK165.out) : gb165 ≠ gb167)); have n9_ := Aside0.mk ((by rw [hg]; exact Nat.ne_of_gt (blk_lt BK165.out) : gb167 ≠ gb165)); clear BK164; clear BK165; clear HB; have BK164 := n0_; have BK165 := n1_; have HB := n2_; have BK167 := n3_; have GE167 := n5_; have NB164_167 := n6_; have NB167_164 := n7_; have NB165_167 := n8_; have NB167_165 := n9_; clear n0_ n1_ n2_ n3_ n5_ n6_ n7_ n8_ n9_; clear hb hbox hg; have hnb57 := NB167_164.out; have hnc57 := NB164_167.out; have hnb58 := NB167_165.out; have hnc58 := NB165_167.out; have hcz59_0 : w56.cell? ⟨gb167, 0, none⟩ = some (.int .u64 0) := (blk_cell BK167.out 0).trans rfl; have hcz59_1 : w56.cell? ⟨gb167, 1, none⟩ = some (.string (⟨#[]⟩ : ByteArray)) := (blk_cell BK167.out 1).trans rfl; have hcz59_2 : w56.cell? ⟨gb167, 2, none⟩ = some (.slice none 0 0) := (blk_cell BK167.out 2).trans rfl; have hfz59_0 := blk_frozen BK167.out 0; have hfz59_1 := blk_frozen BK167.out 1; have hfz59_2 := blk_frozen BK167.out 2; have hnb60 := NB164_165.out; have hnc60 := NB165_164.out; have hcz61_0 : w56.cell? ⟨gb164, 0, none⟩ = some (.slice A0_0 l0_0.length c0_0) := (blk_cell BK164.out 0).trans rfl; have hcz61_1 : w56.cell? ⟨gb164, 1, none⟩ = some (.slice A0_1 l0_1.length c0_1) := (blk_cell BK164.out 1).trans rfl; have hfz61_0 := blk_frozen BK164.out 0; have hfz61_1 := blk_frozen BK164.out 1; have hcz62_0 : w56.cell? ⟨gb165, 0, none⟩ = some (.string a1_0) := (blk_cell BK165.out 0).trans rfl; have hcz62_1 : w56.cell? ⟨gb165, 1, none⟩ = some (.int .i64 a1_1) := (blk_cell BK165.out 1).trans rfl; have hcz62_2 : w56.cell? ⟨gb165, 2, none⟩ = some (.int .i64 a1_2) := (blk_cell BK165.out 2).trans rfl; have hcz62_3 : w56.cell? ⟨gb165, 3, none⟩ = some (.string a1_3) := (blk_cell BK165.out 3).trans rfl; have hcz62_4 : w56.cell? ⟨gb165, 4, none⟩ = some (.bool a1_4) := (blk_cell BK165.out 4).trans rfl; have hcz62_5 : w56.cell? ⟨gb165, 5, none⟩ = some (.bool a1_5) := (blk_cell BK165.out 5).trans rfl; have hcz62_6 : w56.cell? ⟨gb165, 6, none⟩ = some (.string a1_6) := (blk_cell BK165.out 6).trans rfl; have hfz62_0 := blk_frozen BK165.out 0; have hfz62_1 := blk_frozen BK165.out 1; have hfz62_2 := blk_frozen BK165.out 2; have hfz62_3 := blk_frozen BK165.out 3; have hfz62_4 := blk_frozen BK165.out 4; have hfz62_5 := blk_frozen BK165.out 5; have hfz62_6 := blk_frozen BK165.out 6) | ((with_reducible refine gate_callee (f := 12) rfl ?_); refine goesL_ (some 31) rfl rfl Tryd.func12 (by kernel_rfl) rfl #[.agg #[.slice A0_0 l0_0.length c0_0, .slice A0_1 l0_1.length c0_1], .agg #[.string a1_0, .int .i64 a1_1, .int .i64 a1_2, .string a1_3, .bool a1_4, .bool a1_5, .string a1_6], .agg #[.int .u64 ((rd_T40 l2 x24_2).f0), .string ((rd_T40 l2 x24_2).f1), .slice A166_2 ((rd_T40 l2 x24_2).f2).length c166_2]] rfl (by (try simp only [List.map_toArray, List.map_cons, List.map_nil]); first | done | rfl | (simp only [List.length_drop, List.length_take]; rfl)) ?_; (with_reducible refine (ih_valid_Val k2 (by have := HJ3.out; have := HK2.out; omega) _ _ l0_0 _ _ l0_1 a1_0 a1_1 a1_2 a1_3 a1_4 a1_5 a1_6 ((rd_T40 l2 x24_2).f0) ((rd_T40 l2 x24_2).f1) _ _ ((rd_T40 l2 x24_2).f2) true _ ?sideT ?side1 ?side2 ?side3 ?side4 ?side5 ?side6 A17.out).mono ?_); (case sideT => exact Tabs.below HU8.out (by repeat (first | (with_reducible first | exact HB.out | refine below_set ?_ GE167.out) ))); (case side1 => exact Kd.C_below HR0_0.out (by repeat (first | (with_reducible first | exact HB.out | refine below_set ?_ GE167.out) ))); (case side2 => exact HC0_0.out); (case side3 => exact Kd.C_below HR0_1.out (by repeat (first | (with_reducible first | exact HB.out | refine below_set ?_ GE167.out) ))); (case side4 => exact HC0_1.out); (case side5 => exact Kd.C_below HR166_2.out (by repeat (first | (with_reducible first | exact HB.out | refine below_set ?_ GE167.out) ))); (case side6 => exact HC166_2.out); rintro e w63 ⟨rfl, hb⟩; refine ⟨_, rfl, ?_⟩; have n0_ := Aside0.mk (blk_below (g := gb164) (o := .cells #[.slice A0_0 l0_0.length c0_0, .slice A0_1 l0_1.length c0_1] 25 (0, 0)) (by refine blk_far ?_ NB164_167.out _; refine blk_far ?_ NB164_167.out _; refine blk_far ?_ NB164_167.out _; exact BK164.out) hb); have n1_ := Aside0.mk (blk_below (g := gb165) (o := .cells #[.string a1_0, .int .i64 a1_1, .int .i64 a1_2, .string a1_3, .bool a1_4, .bool a1_5, .string a1_6] 36 (0, 0)) (by refine blk_far ?_ NB165_167.out _; refine blk_far ?_ NB165_167.out _; refine blk_far ?_ NB165_167.out _; exact BK165.out) hb); have n2_ := Aside0.mk (blk_below (g := gb167) (o := .cells #[.int .u64 ((rd_T40 l2 x24_2).f0), .string ((rd_T40 l2 x24_2).f1), .slice A166_2 ((rd_T40 l2 x24_2).f2).length c166_2] 40 (0, 0)) (by refine blk_put (cs := #[.int .u64 ((rd_T40 l2 x24_2).f0), .string ((rd_T40 l2 x24_2).f1), .slice none 0 0]) ?_ 2 _ rfl; refine blk_put (cs := #[.int .u64 ((rd_T40 l2 x24_2).f0), .string (⟨#[]⟩ : ByteArray), .slice none 0 0]) ?_ 1 _ rfl; refine blk_put (cs := #[.int .u64 0, .string (⟨#[]⟩ : ByteArray), .slice none 0 0]) ?_ 0 _ rfl; exact BK167.out) hb); have n3_ := Aside0.mk (below_step (by repeat (first | (with_reducible first | exact HB.out | refine below_set ?_ GE167.out) )) hb); clear BK164; clear BK165; clear BK167; clear HB; have BK164 := n0_; have BK165 := n1_; have BK167 := n2_; have HB := n3_; clear n0_ n1_ n2_ n3_; (try clear hb); (try clear hb2); (try clear hk); (try clear hi); have hcz64_0 : w63.cell? ⟨gb165, 0, none⟩ = some (.string a1_0) := (blk_cell BK165.out 0).trans rfl; have hcz64_1 : w63.cell? ⟨gb165, 1, none⟩ = some (.int .i64 a1_1) := (blk_cell BK165.out 1).trans rfl; have hcz64_2 : w63.cell? ⟨gb165, 2, none⟩ = some (.int .i64 a1_2) := (blk_cell BK165.out 2).trans rfl; have hcz64_3 : w63.cell? ⟨gb165, 3, none⟩ = some (.string a1_3) := (blk_cell BK165.out 3).trans rfl; have hcz64_4 : w63.cell? ⟨gb165, 4, none⟩ = some (.bool a1_4) := (blk_cell BK165.out 4).trans rfl; have hcz64_5 : w63.cell? ⟨gb165, 5, none⟩ = some (.bool a1_5) := (blk_cell BK165.out 5).trans rfl; have hcz64_6 : w63.cell? ⟨gb165, 6, none⟩ = some (.string a1_6) := (blk_cell BK165.out 6).trans rfl; have hfz64_0 := blk_frozen BK165.out 0; have hfz64_1 := blk_frozen BK165.out 1; have hfz64_2 := blk_frozen BK165.out 2; have hfz64_3 := blk_frozen BK165.out 3; have hfz64_4 := blk_frozen BK165.out 4; have hfz64_5 := blk_frozen BK165.out 5; have hfz64_6 := blk_frozen BK165.out 6) | (go_at_call 48; (with_reducible refine (field_Hidden.calls a1_0 a1_1 a1_2 a1_3 a1_4 a1_5 a1_6 false _ A19.out).mono ?_); rintro e w65 ⟨rfl, hb⟩; have n0_ := Aside0.mk (blk_below BK164.out hb); have n1_ := Aside0.mk (blk_below BK165.out hb); have n2_ := Aside0.mk (blk_below BK167.out hb); have n3_ := Aside0.mk (below_step HB.out hb); clear BK164; clear BK165; clear BK167; clear HB; have BK164 := n0_; have BK165 := n1_; have BK167 := n2_; have HB := n3_; clear n0_ n1_ n2_ n3_; (try clear hb); (try clear hb2); (try clear hk); (try clear hi)))
                  go_roundg k2
                  case measure => have := HJ3.out; have := HK2.out; omega
                  case rel => exact ⟨(wrap64 (x24_2 + 1)), (by first | rfl ), H', ⟨by have := HJ3.out; have := HK2.out; omega⟩, ⟨by exact BK164.out⟩, ⟨by exact BK165.out⟩, ⟨by exact HB.out⟩⟩
              · replace c18 := Bool.eq_false_iff.mpr c18
                subst c18
                have H1 : (some false) = some r := by rw [if_neg (show ¬ (false = true) by decide)] at H; exact H
                clear H
                have H := H1
                clear H1
                obtain rfl := Option.some.inj H
                have p166 : 0 ≤ (x24_2 : Int) := of_decide_eq_true (by first | (with_reducible assumption) )
                have q166 : x24_2 < (l2.length : Int) := of_decide_eq_true (by first | (with_reducible assumption) )
                obtain ⟨ad166, A166_2, c166_2, e166, hx166_0, hx166_1, hx166_2, hl166_2, hi166_2⟩ := at_T40 HR2.out x24_2 p166 q166
                cases e166
                replace hx166_0 := (HB.out.cell (World.block_lt_of_cell? w _ hx166_0)).trans hx166_0
                replace hx166_1 := (HB.out.cell (World.block_lt_of_cell? w _ hx166_1)).trans hx166_1
                replace hx166_2 := (HB.out.cell (World.block_lt_of_cell? w _ hx166_2)).trans hx166_2
                have HR166_2 := Aside0.mk hi166_2
                have HC166_2 := Aside0.mk hl166_2
                clear hi166_2 hl166_2
                replace p166 := eq_true p166
                replace q166 := eq_true q166
                go_wp2_with (first | ((with_reducible refine gate_dst (N := 8) rfl ?_); (try (refine gate_guard (by rfl) ?_; dsimp only)); refine box_event ?hg (N := 8) ?hd (cs := #[.int .u64 0, .string (⟨#[]⟩ : ByteArray), .slice none 0 0]) (t := 40) ?hr ?_; (case hd => rfl); (case hg => rfl); (case hr => first | (go_simp; done) | (go_simp; rfl)); intro gb167 hg w66 hbox hb; have n0_ := Aside0.mk (blk_below BK164.out hb); have n1_ := Aside0.mk (blk_below BK165.out hb); have n2_ := Aside0.mk (below_step HB.out hb); have n3_ := Aside0.mk (hbox); have n5_ := Aside0.mk ((by rw [hg]; exact (below_size HB.out) : w.heap.size ≤ gb167)); have n6_ := Aside0.mk ((by rw [hg]; exact Nat.ne_of_lt (blk_lt BK164.out) : gb164 ≠ gb167)); have n7_ := Aside0.mk ((by rw [hg]; exact Nat.ne_of_gt (blk_lt BK164.out) : gb167 ≠ gb164)); have n8_ := Aside0.mk ((by rw [hg]; exact Nat.ne_of_lt (blk_lt BK165.out) : gb165 ≠ gb167)); have n9_ := Aside0.mk ((by rw [hg]; exact Nat.ne_of_gt (blk_lt BK165.out) : gb167 ≠ gb165)); clear BK164; clear BK165; clear HB; have BK164 := n0_; have BK165 := n1_; have HB := n2_; have BK167 := n3_; have GE167 := n5_; have NB164_167 := n6_; have NB167_164 := n7_; have NB165_167 := n8_; have NB167_165 := n9_; clear n0_ n1_ n2_ n3_ n5_ n6_ n7_ n8_ n9_; clear hb hbox hg; have hnb67 := NB167_164.out; have hnc67 := NB164_167.out; have hnb68 := NB167_165.out; have hnc68 := NB165_167.out; have hcz69_0 : w66.cell? ⟨gb167, 0, none⟩ = some (.int .u64 0) := (blk_cell BK167.out 0).trans rfl; have hcz69_1 : w66.cell? ⟨gb167, 1, none⟩ = some (.string (⟨#[]⟩ : ByteArray)) := (blk_cell BK167.out 1).trans rfl; have hcz69_2 : w66.cell? ⟨gb167, 2, none⟩ = some (.slice none 0 0) := (blk_cell BK167.out 2).trans rfl; have hfz69_0 := blk_frozen BK167.out 0; have hfz69_1 := blk_frozen BK167.out 1; have hfz69_2 := blk_frozen BK167.out 2; have hnb70 := NB164_165.out; have hnc70 := NB165_164.out; have hcz71_0 : w66.cell? ⟨gb164, 0, none⟩ = some (.slice A0_0 l0_0.length c0_0) := (blk_cell BK164.out 0).trans rfl; have hcz71_1 : w66.cell? ⟨gb164, 1, none⟩ = some (.slice A0_1 l0_1.length c0_1) := (blk_cell BK164.out 1).trans rfl; have hfz71_0 := blk_frozen BK164.out 0; have hfz71_1 := blk_frozen BK164.out 1; have hcz72_0 : w66.cell? ⟨gb165, 0, none⟩ = some (.string a1_0) := (blk_cell BK165.out 0).trans rfl; have hcz72_1 : w66.cell? ⟨gb165, 1, none⟩ = some (.int .i64 a1_1) := (blk_cell BK165.out 1).trans rfl; have hcz72_2 : w66.cell? ⟨gb165, 2, none⟩ = some (.int .i64 a1_2) := (blk_cell BK165.out 2).trans rfl; have hcz72_3 : w66.cell? ⟨gb165, 3, none⟩ = some (.string a1_3) := (blk_cell BK165.out 3).trans rfl; have hcz72_4 : w66.cell? ⟨gb165, 4, none⟩ = some (.bool a1_4) := (blk_cell BK165.out 4).trans rfl; have hcz72_5 : w66.cell? ⟨gb165, 5, none⟩ = some (.bool a1_5) := (blk_cell BK165.out 5).trans rfl; have hcz72_6 : w66.cell? ⟨gb165, 6, none⟩ = some (.string a1_6) := (blk_cell BK165.out 6).trans rfl; have hfz72_0 := blk_frozen BK165.out 0; have hfz72_1 := blk_frozen BK165.out 1; have hfz72_2 := blk_frozen BK165.out 2; have hfz72_3 := blk_frozen BK165.out 3; have hfz72_4 := blk_frozen BK165.out 4; have hfz72_5 := blk_frozen BK165.out 5; have hfz72_6 := blk_frozen BK165.out 6) | ((with_reducible refine gate_callee (f := 12) rfl ?_); refine goesL_ (some 31) rfl rfl Tryd.func12 (by kernel_rfl) rfl #[.agg #[.slice A0_0 l0_0.length c0_0, .slice A0_1 l0_1.length c0_1], .agg #[.string a1_0, .int .i64 a1_1, .int .i64 a1_2, .string a1_3, .bool a1_4, .bool a1_5, .string a1_6], .agg #[.int .u64 ((rd_T40 l2 x24_2).f0), .string ((rd_T40 l2 x24_2).f1), .slice A166_2 ((rd_T40 l2 x24_2).f2).length c166_2]] rfl (by (try simp only [List.map_toArray, List.map_cons, List.map_nil]); first | done | rfl | (simp only [List.length_drop, List.length_take]; rfl)) ?_; (with_reducible refine (ih_valid_Val k2 (by have := HJ3.out; have := HK2.out; omega) _ _ l0_0 _ _ l0_1 a1_0 a1_1 a1_2 a1_3 a1_4 a1_5 a1_6 ((rd_T40 l2 x24_2).f0) ((rd_T40 l2 x24_2).f1) _ _ ((rd_T40 l2 x24_2).f2) false _ ?sideT ?side1 ?side2 ?side3 ?side4 ?side5 ?side6 A17.out).mono ?_); (case sideT => exact Tabs.below HU8.out (by repeat (first | (with_reducible first | exact HB.out | refine below_set ?_ GE167.out) ))); (case side1 => exact Kd.C_below HR0_0.out (by repeat (first | (with_reducible first | exact HB.out | refine below_set ?_ GE167.out) ))); (case side2 => exact HC0_0.out); (case side3 => exact Kd.C_below HR0_1.out (by repeat (first | (with_reducible first | exact HB.out | refine below_set ?_ GE167.out) ))); (case side4 => exact HC0_1.out); (case side5 => exact Kd.C_below HR166_2.out (by repeat (first | (with_reducible first | exact HB.out | refine below_set ?_ GE167.out) ))); (case side6 => exact HC166_2.out); rintro e w73 ⟨rfl, hb⟩; refine ⟨_, rfl, ?_⟩; have n0_ := Aside0.mk (blk_below (g := gb164) (o := .cells #[.slice A0_0 l0_0.length c0_0, .slice A0_1 l0_1.length c0_1] 25 (0, 0)) (by refine blk_far ?_ NB164_167.out _; refine blk_far ?_ NB164_167.out _; refine blk_far ?_ NB164_167.out _; exact BK164.out) hb); have n1_ := Aside0.mk (blk_below (g := gb165) (o := .cells #[.string a1_0, .int .i64 a1_1, .int .i64 a1_2, .string a1_3, .bool a1_4, .bool a1_5, .string a1_6] 36 (0, 0)) (by refine blk_far ?_ NB165_167.out _; refine blk_far ?_ NB165_167.out _; refine blk_far ?_ NB165_167.out _; exact BK165.out) hb); have n2_ := Aside0.mk (blk_below (g := gb167) (o := .cells #[.int .u64 ((rd_T40 l2 x24_2).f0), .string ((rd_T40 l2 x24_2).f1), .slice A166_2 ((rd_T40 l2 x24_2).f2).length c166_2] 40 (0, 0)) (by refine blk_put (cs := #[.int .u64 ((rd_T40 l2 x24_2).f0), .string ((rd_T40 l2 x24_2).f1), .slice none 0 0]) ?_ 2 _ rfl; refine blk_put (cs := #[.int .u64 ((rd_T40 l2 x24_2).f0), .string (⟨#[]⟩ : ByteArray), .slice none 0 0]) ?_ 1 _ rfl; refine blk_put (cs := #[.int .u64 0, .string (⟨#[]⟩ : ByteArray), .slice none 0 0]) ?_ 0 _ rfl; exact BK167.out) hb); have n3_ := Aside0.mk (below_step (by repeat (first | (with_reducible first | exact HB.out | refine below_set ?_ GE167.out) )) hb); clear BK164; clear BK165; clear BK167; clear HB; have BK164 := n0_; have BK165 := n1_; have BK167 := n2_; have HB := n3_; clear n0_ n1_ n2_ n3_; (try clear hb); (try clear hb2); (try clear hk); (try clear hi)))
                go_ret
                exact ⟨by first | rfl , by exact HB.out⟩
            · rw [if_neg c16] at H
              exact absurd H (by simp)
          · rw [if_neg c15] at H
            exact absurd H (by simp)
        · rw [if_neg c14] at H
          have c14b0 : decide (x24_2 < (l2.length : Int)) = false := decide_eq_false c14
          clear c14
          obtain rfl := Option.some.inj H
          go_wp2
          go_ret
          exact ⟨by first | rfl , by exact HB.out⟩
theorem grp_valid_Tree.calls (k : Nat) : (∀ (A0_0 : Option Addr) (c0_0 : Nat) (l0_0 : List (S48)) (A0_1 : Option Addr) (c0_1 : Nat) (l0_1 : List (S52)) (a1 : ByteArray) (A2_0 : Option Addr) (c2_0 : Nat) (l2_0 : List (S43)) (A2_1 : Option Addr) (c2_1 : Nat) (l2_1 : List (S63)) (r : Bool) (w : World) (hT : Tabs w) (hr0_0 : Kd.C k48 w A0_0 l0_0.length l0_0) (hc0_0 : l0_0.length ≤ c0_0) (hr0_1 : Kd.C k52 w A0_1 l0_1.length l0_1) (hc0_1 : l0_1.length ≤ c0_1) (hr2_0 : Kd.C k43 w A2_0 l2_0.length l2_0) (hc2_0 : l2_0.length ≤ c2_0) (hr2_1 : Kd.C k63 w A2_1 l2_1.length l2_1) (hc2_1 : l2_1.length ≤ c2_1) (h : valid_Tree.f k l0_0 l0_1 a1 l2_0 l2_1 = some r), Calls Tryd.prog 9 #[.agg #[.slice A0_0 l0_0.length c0_0, .slice A0_1 l0_1.length c0_1], .string a1, .agg #[.slice A2_0 l2_0.length c2_0, .slice A2_1 l2_1.length c2_1]] w fun e w' => e = .returned (.bool r) ∧ Below w.heap.size w w') ∧ (∀ (A0_0 : Option Addr) (c0_0 : Nat) (l0_0 : List (S48)) (A0_1 : Option Addr) (c0_1 : Nat) (l0_1 : List (S52)) (a1_0 : ByteArray) (a1_1 : Int) (a1_2 : Int) (a1_3 : ByteArray) (a1_4 : Bool) (a1_5 : Bool) (a1_6 : ByteArray) (a2_0 : Int) (a2_1 : ByteArray) (A2_2 : Option Addr) (c2_2 : Nat) (l2_2 : List (S29)) (r : Bool) (w : World) (hT : Tabs w) (hr0_0 : Kd.C k48 w A0_0 l0_0.length l0_0) (hc0_0 : l0_0.length ≤ c0_0) (hr0_1 : Kd.C k52 w A0_1 l0_1.length l0_1) (hc0_1 : l0_1.length ≤ c0_1) (hr2_2 : Kd.C k29 w A2_2 l2_2.length l2_2) (hc2_2 : l2_2.length ≤ c2_2) (h : valid_Val.f k l0_0 l0_1 a1_0 a1_1 a1_2 a1_3 a1_4 a1_5 a1_6 a2_0 a2_1 l2_2 = some r), Calls Tryd.prog 12 #[.agg #[.slice A0_0 l0_0.length c0_0, .slice A0_1 l0_1.length c0_1], .agg #[.string a1_0, .int .i64 a1_1, .int .i64 a1_2, .string a1_3, .bool a1_4, .bool a1_5, .string a1_6], .agg #[.int .u64 a2_0, .string a2_1, .slice A2_2 l2_2.length c2_2]] w fun e w' => e = .returned (.bool r) ∧ Below w.heap.size w w') ∧ (∀ (A0_0 : Option Addr) (c0_0 : Nat) (l0_0 : List (S48)) (A0_1 : Option Addr) (c0_1 : Nat) (l0_1 : List (S52)) (a1_0 : ByteArray) (A1_1 : Option Addr) (c1_1 : Nat) (l1_1 : List (S36)) (A1_2 : Option Addr) (c1_2 : Nat) (l1_2 : List Int) (A2 : Option Addr) (c2 : Nat) (l2 : List (S43)) (r : Bool) (w : World) (hT : Tabs w) (hr0_0 : Kd.C k48 w A0_0 l0_0.length l0_0) (hc0_0 : l0_0.length ≤ c0_0) (hr0_1 : Kd.C k52 w A0_1 l0_1.length l0_1) (hc0_1 : l0_1.length ≤ c0_1) (hr1_1 : Kd.C k36 w A1_1 l1_1.length l1_1) (hc1_1 : l1_1.length ≤ c1_1) (hr1_2 : Kd.C (Kd.int .i64) w A1_2 l1_2.length l1_2) (hc1_2 : l1_2.length ≤ c1_2) (hr2 : Kd.C k43 w A2 l2.length l2) (hc2 : l2.length ≤ c2) (h : valid_slots.f k l0_0 l0_1 a1_0 l1_1 l1_2 l2 = some r), Calls Tryd.prog 18 #[.agg #[.slice A0_0 l0_0.length c0_0, .slice A0_1 l0_1.length c0_1], .agg #[.string a1_0, .slice A1_1 l1_1.length c1_1, .slice A1_2 l1_2.length c1_2], .slice A2 l2.length c2] w fun e w' => e = .returned (.bool r) ∧ Below w.heap.size w w') ∧ (∀ (A0_0 : Option Addr) (c0_0 : Nat) (l0_0 : List (S48)) (A0_1 : Option Addr) (c0_1 : Nat) (l0_1 : List (S52)) (a1_0 : ByteArray) (a1_1 : Int) (a1_2 : Int) (a1_3 : ByteArray) (a1_4 : Bool) (a1_5 : Bool) (a1_6 : ByteArray) (A2 : Option Addr) (c2 : Nat) (l2 : List (S40)) (r : Bool) (w : World) (hT : Tabs w) (hr0_0 : Kd.C k48 w A0_0 l0_0.length l0_0) (hc0_0 : l0_0.length ≤ c0_0) (hr0_1 : Kd.C k52 w A0_1 l0_1.length l0_1) (hc0_1 : l0_1.length ≤ c0_1) (hr2 : Kd.C k40 w A2 l2.length l2) (hc2 : l2.length ≤ c2) (h : valid_vals.f k l0_0 l0_1 a1_0 a1_1 a1_2 a1_3 a1_4 a1_5 a1_6 l2 = some r), Calls Tryd.prog 31 #[.agg #[.slice A0_0 l0_0.length c0_0, .slice A0_1 l0_1.length c0_1], .agg #[.string a1_0, .int .i64 a1_1, .int .i64 a1_2, .string a1_3, .bool a1_4, .bool a1_5, .string a1_6], .slice A2 l2.length c2] w fun e w' => e = .returned (.bool r) ∧ Below w.heap.size w w') := by
 induction k using Nat.strongRecOn with
 | _ k ih =>
 exact ⟨valid_Tree.callsR k (fun k_ hk_ => (ih k_ hk_).1) (fun k_ hk_ => (ih k_ hk_).2.1) (fun k_ hk_ => (ih k_ hk_).2.2.1) (fun k_ hk_ => (ih k_ hk_).2.2.2), valid_Val.callsR k (fun k_ hk_ => (ih k_ hk_).1) (fun k_ hk_ => (ih k_ hk_).2.1) (fun k_ hk_ => (ih k_ hk_).2.2.1) (fun k_ hk_ => (ih k_ hk_).2.2.2), valid_slots.callsR k (fun k_ hk_ => (ih k_ hk_).1) (fun k_ hk_ => (ih k_ hk_).2.1) (fun k_ hk_ => (ih k_ hk_).2.2.1) (fun k_ hk_ => (ih k_ hk_).2.2.2), valid_vals.callsR k (fun k_ hk_ => (ih k_ hk_).1) (fun k_ hk_ => (ih k_ hk_).2.1) (fun k_ hk_ => (ih k_ hk_).2.2.1) (fun k_ hk_ => (ih k_ hk_).2.2.2)⟩
theorem valid_Tree.calls (k : Nat) (A0_0 : Option Addr) (c0_0 : Nat) (l0_0 : List (S48)) (A0_1 : Option Addr) (c0_1 : Nat) (l0_1 : List (S52)) (a1 : ByteArray) (A2_0 : Option Addr) (c2_0 : Nat) (l2_0 : List (S43)) (A2_1 : Option Addr) (c2_1 : Nat) (l2_1 : List (S63)) (r : Bool) (w : World) (hT : Tabs w) (hr0_0 : Kd.C k48 w A0_0 l0_0.length l0_0) (hc0_0 : l0_0.length ≤ c0_0) (hr0_1 : Kd.C k52 w A0_1 l0_1.length l0_1) (hc0_1 : l0_1.length ≤ c0_1) (hr2_0 : Kd.C k43 w A2_0 l2_0.length l2_0) (hc2_0 : l2_0.length ≤ c2_0) (hr2_1 : Kd.C k63 w A2_1 l2_1.length l2_1) (hc2_1 : l2_1.length ≤ c2_1) (h : valid_Tree.f k l0_0 l0_1 a1 l2_0 l2_1 = some r) :
 Calls Tryd.prog 9 #[.agg #[.slice A0_0 l0_0.length c0_0, .slice A0_1 l0_1.length c0_1], .string a1, .agg #[.slice A2_0 l2_0.length c2_0, .slice A2_1 l2_1.length c2_1]] w fun e w' => e = .returned (.bool r) ∧ Below w.heap.size w w' := (grp_valid_Tree.calls k).1 A0_0 c0_0 l0_0 A0_1 c0_1 l0_1 a1 A2_0 c2_0 l2_0 A2_1 c2_1 l2_1 r w hT hr0_0 hc0_0 hr0_1 hc0_1 hr2_0 hc2_0 hr2_1 hc2_1 h
def ecdysislaw20_live.f (k : Nat)  : Option (Bool) := (some (([(⟨(⟨#[77]⟩ : ByteArray), (([(⟨(⟨#[97]⟩ : ByteArray), 1, 1, (⟨#[]⟩ : ByteArray), false, false, (⟨#[]⟩ : ByteArray)⟩ : S36)] : List (S36))), ([] : List Int)⟩ : S52)] : List (S52)) : List (S52))).bind fun y173 => ((valid_Tree.f k ([] : List (S48)) y173 (⟨#[77]⟩ : ByteArray) (([(⟨1, (([(⟨5, (⟨#[]⟩ : ByteArray), ([] : List (S29))⟩ : S40)] : List (S40)))⟩ : S43)] : List (S43))) ([] : List (S63))).bind fun t191 => (if t191 = true then ((valid_Tree.f k ([] : List (S48)) y173 (⟨#[77]⟩ : ByteArray) (([(⟨1, (([(⟨0, (⟨#[]⟩ : ByteArray), ([] : List (S29))⟩ : S40)] : List (S40)))⟩ : S43)] : List (S43))) ([] : List (S63))).bind fun t192 => (some (!t192))) else (some false)))
def vlSch : List S52 := [⟨⟨#[77]⟩, [⟨⟨#[97]⟩, 1, 1, ⟨#[]⟩, false, false, ⟨#[]⟩⟩], []⟩]
def vlTree (n : Int) : List S43 := [⟨1, [⟨n, ⟨#[]⟩, []⟩]⟩]
theorem vl_f (k : Nat) : ecdysislaw20_live.f k = (valid_Tree.f k [] vlSch ⟨#[77]⟩ (vlTree 5) []).bind fun t => if t = true then (valid_Tree.f k [] vlSch ⟨#[77]⟩ (vlTree 0) []).bind fun t2 => some (!t2) else some false := rfl
theorem al_at {w : World} {o : Obj} {n : Nat} (hn : w.heap.size = n) : (w.alloc o).heap[n]? = some o := hn ▸ heap_alloc_new w o
theorem C_one {α : Type} {d : Kd α} {W : World} {g e : Nat} {cs : Array Value} {x : α} (hb : W.heap[g]? = some (.cells cs e (0, 0))) (hK : d.K W x cs.toList) : Kd.C d W (some ⟨g, 0, none⟩) 1 [x] := by
 refine ⟨rfl, by omega, fun _ => ⟨_, rfl, fun j p hp => ?_⟩⟩
 match j, hp with
 | 0, hp =>
  obtain rfl := Option.some.inj hp
  refine ⟨cs.toList, d.K_len hK, hK, fun i u hu => ?_⟩
  have e1 : (⟨g, 0, none⟩ : Addr).add (0 * d.sz + i) = ⟨g, i, none⟩ := by simp only [Addr.add, Nat.zero_mul, Nat.zero_add]; split <;> simp_all
  rw [e1]
  exact (blk_cell hb i).trans (by simpa using hu)
def vlW (w : World) : World := (((((((((w.alloc (.cells #[.string ⟨#[97]⟩, .int .i64 1, .int .i64 1, .string ⟨#[]⟩, .bool false, .bool false, .string ⟨#[]⟩] 36)).alloc (.cells #[.string ⟨#[77]⟩, .slice (some ⟨w.heap.size, 0, none⟩) 1 1, .slice none 0 0] 52)).alloc (.cells #[.slice none 0 0, .slice (some ⟨w.heap.size + 1, 0, none⟩) 1 1] 25)).alloc (.cells #[.int .u64 5, .string ⟨#[]⟩, .slice none 0 0] 40)).alloc (.cells #[.int .i64 1, .slice (some ⟨w.heap.size + 1 + 1 + 1, 0, none⟩) 1 1] 43)).alloc (.cells #[.slice (some ⟨w.heap.size + 1 + 1 + 1 + 1, 0, none⟩) 1 1, .slice none 0 0] 29)).alloc (.cells #[.int .u64 0, .string ⟨#[]⟩, .slice none 0 0] 40)).alloc (.cells #[.int .i64 1, .slice (some ⟨w.heap.size + 1 + 1 + 1 + 1 + 1 + 1, 0, none⟩) 1 1] 43)).alloc (.cells #[.slice (some ⟨w.heap.size + 1 + 1 + 1 + 1 + 1 + 1 + 1, 0, none⟩) 1 1, .slice none 0 0] 29))
theorem vlW_below (w : World) : Below w.heap.size w (vlW w) := by
 unfold vlW
 repeat (first | exact Below.refl _ _ | apply below_alloc)
theorem vl_C (w W : World) (hb : Below (vlW w).heap.size (vlW w) W) :
  k52.C W (some ⟨w.heap.size + 1, 0, none⟩) 1 vlSch ∧ k43.C W (some ⟨w.heap.size + 1 + 1 + 1 + 1, 0, none⟩) 1 (vlTree 5) ∧ k43.C W (some ⟨w.heap.size + 1 + 1 + 1 + 1 + 1 + 1 + 1, 0, none⟩) 1 (vlTree 0) ∧
  W.cell? ⟨w.heap.size + 1 + 1, 0, none⟩ = some (.slice none 0 0) ∧ W.cell? ⟨w.heap.size + 1 + 1, 1, none⟩ = some (.slice (some ⟨w.heap.size + 1, 0, none⟩) 1 1) ∧
  W.cell? ⟨w.heap.size + 1 + 1 + 1 + 1 + 1 + 1 + 1 + 1, 0, none⟩ = some (.slice (some ⟨w.heap.size + 1 + 1 + 1 + 1 + 1 + 1 + 1, 0, none⟩) 1 1) ∧ W.cell? ⟨w.heap.size + 1 + 1 + 1 + 1 + 1 + 1 + 1 + 1, 1, none⟩ = some (.slice none 0 0) := by
 have f0 : W.heap[w.heap.size]? = _ := blk_below (by unfold vlW; exact blk_alloc (blk_alloc (blk_alloc (blk_alloc (blk_alloc (blk_alloc (blk_alloc (blk_alloc (al_at (by simp)) _) _) _) _) _) _) _) _) hb
 have f1 : W.heap[w.heap.size + 1]? = _ := blk_below (by unfold vlW; exact blk_alloc (blk_alloc (blk_alloc (blk_alloc (blk_alloc (blk_alloc (blk_alloc (al_at (by simp)) _) _) _) _) _) _) _) hb
 have f2 : W.heap[w.heap.size + 1 + 1]? = _ := blk_below (by unfold vlW; exact blk_alloc (blk_alloc (blk_alloc (blk_alloc (blk_alloc (blk_alloc (al_at (by simp)) _) _) _) _) _) _) hb
 have f3 : W.heap[w.heap.size + 1 + 1 + 1]? = _ := blk_below (by unfold vlW; exact blk_alloc (blk_alloc (blk_alloc (blk_alloc (blk_alloc (al_at (by simp)) _) _) _) _) _) hb
 have f4 : W.heap[w.heap.size + 1 + 1 + 1 + 1]? = _ := blk_below (by unfold vlW; exact blk_alloc (blk_alloc (blk_alloc (blk_alloc (al_at (by simp)) _) _) _) _) hb
 have f6 : W.heap[w.heap.size + 1 + 1 + 1 + 1 + 1 + 1]? = _ := blk_below (by unfold vlW; exact blk_alloc (blk_alloc (al_at (by simp)) _) _) hb
 have f7 : W.heap[w.heap.size + 1 + 1 + 1 + 1 + 1 + 1 + 1]? = _ := blk_below (by unfold vlW; exact blk_alloc (al_at (by simp)) _) hb
 have f8 : W.heap[w.heap.size + 1 + 1 + 1 + 1 + 1 + 1 + 1 + 1]? = _ := blk_below (by unfold vlW; exact al_at (by simp)) hb
 have c0 : k36.C W (some ⟨w.heap.size, 0, none⟩) 1 [⟨⟨#[97]⟩, 1, 1, ⟨#[]⟩, false, false, ⟨#[]⟩⟩] := C_one f0 (k36_mk W ⟨⟨#[97]⟩, 1, 1, ⟨#[]⟩, false, false, ⟨#[]⟩⟩)
 have c1 : k52.C W (some ⟨w.heap.size + 1, 0, none⟩) 1 vlSch := C_one f1 (k52_mk W ⟨⟨#[77]⟩, [⟨⟨#[97]⟩, 1, 1, ⟨#[]⟩, false, false, ⟨#[]⟩⟩], []⟩ (Nat.le_refl _) c0 (Nat.le_refl _) (Kd.C_nil _ _))
 have c3 : k40.C W (some ⟨w.heap.size + 1 + 1 + 1, 0, none⟩) 1 [⟨5, ⟨#[]⟩, []⟩] := C_one f3 (k40_mk W ⟨5, ⟨#[]⟩, []⟩ (Nat.le_refl _) (Kd.C_nil _ _))
 have c4 : k43.C W (some ⟨w.heap.size + 1 + 1 + 1 + 1, 0, none⟩) 1 (vlTree 5) := C_one f4 (k43_mk W ⟨1, [⟨5, ⟨#[]⟩, []⟩]⟩ (Nat.le_refl _) c3)
 have c6 : k40.C W (some ⟨w.heap.size + 1 + 1 + 1 + 1 + 1 + 1, 0, none⟩) 1 [⟨0, ⟨#[]⟩, []⟩] := C_one f6 (k40_mk W ⟨0, ⟨#[]⟩, []⟩ (Nat.le_refl _) (Kd.C_nil _ _))
 have c7 : k43.C W (some ⟨w.heap.size + 1 + 1 + 1 + 1 + 1 + 1 + 1, 0, none⟩) 1 (vlTree 0) := C_one f7 (k43_mk W ⟨1, [⟨0, ⟨#[]⟩, []⟩]⟩ (Nat.le_refl _) c6)
 exact ⟨c1, c4, c7, (blk_cell f2 0).trans rfl, (blk_cell f2 1).trans rfl, (blk_cell f8 0).trans rfl, (blk_cell f8 1).trans rfl⟩
set_option maxHeartbeats 4000000 in
set_option maxRecDepth 100000 in
theorem ecdysislaw20_live.calls (k : Nat) (r : Bool) (w : World) (hT : Tabs w) (h : ecdysislaw20_live.f k = some r) :
  Calls Tryd.prog 8 #[] w fun e w' => e = .returned (.bool r) ∧ Below w.heap.size w w' := by
 rw [vl_f] at h
 obtain ⟨t1, h1, h⟩ := Option.bind_eq_some_iff.1 h
 obtain ⟨wz, hz⟩ : ∃ wz, wz = vlW w := ⟨_, rfl⟩
 have hT1 : Tabs wz := hz ▸ hT.below (vlW_below w)
 have HB := Aside0.mk (show Below w.heap.size w wz from hz ▸ vlW_below w)
 have HC := Aside0.mk (fun W (hW : Below wz.heap.size wz W) => vl_C w W (hz ▸ hW))
 have HS1 := Aside0.mk (show Calls Tryd.prog 9 #[.agg #[.slice none 0 0, .slice (some ⟨w.heap.size + 1, 0, none⟩) 1 1], .string ⟨#[77]⟩, .agg #[.slice (some ⟨w.heap.size + 1 + 1 + 1 + 1, 0, none⟩) 1 1, .slice none 0 0]] wz (fun e w' => e = .returned (.bool t1) ∧ Below wz.heap.size wz w') from
  valid_Tree.calls k none 0 [] _ 1 vlSch ⟨#[77]⟩ _ 1 (vlTree 5) none 0 [] t1 wz hT1 (Kd.C_nil _ _) (Nat.le_refl _) (HC.out wz (Below.refl _ _)).1 (Nat.le_refl _) (HC.out wz (Below.refl _ _)).2.1 (Nat.le_refl _) (Kd.C_nil _ _) (Nat.le_refl _) h1)
 have HT1 := Aside0.mk hT1
 have HZ := Aside0.mk hz
 unfold vlW at HZ
 clear hT hT1 hz h1
 cases t1 with
 | false =>
  obtain rfl : r = false := by simpa using h.symm
  clear h
  go_enter Tryd.func8, Tryd.ntmps8
  go_wp2_with (first | (go_at_call 9; rw [← HZ.out]; refine HS1.out.mono ?_; rintro e w2 ⟨rfl, b2⟩; have B2 := Aside0.mk b2; clear b2))
  go_ret
  exact ⟨rfl, HB.out.trans (B2.out.mono HB.out.size)⟩
 | true =>
  rw [if_pos rfl] at h
  obtain ⟨t2, h2, h⟩ := Option.bind_eq_some_iff.1 h
  obtain rfl := Option.some.inj h
  clear h
  have HS2 := Aside0.mk (fun W (hW : Below wz.heap.size wz W) => (show Calls Tryd.prog 9 #[.agg #[.slice none 0 0, .slice (some ⟨w.heap.size + 1, 0, none⟩) 1 1], .string ⟨#[77]⟩, .agg #[.slice (some ⟨w.heap.size + 1 + 1 + 1 + 1 + 1 + 1 + 1, 0, none⟩) 1 1, .slice none 0 0]] W (fun e w' => e = .returned (.bool t2) ∧ Below W.heap.size W w') from
   valid_Tree.calls k none 0 [] _ 1 vlSch ⟨#[77]⟩ _ 1 (vlTree 0) none 0 [] t2 W (HT1.out.below hW) (Kd.C_nil _ _) (Nat.le_refl _) (HC.out W hW).1 (Nat.le_refl _) (HC.out W hW).2.2.1 (Nat.le_refl _) (Kd.C_nil _ _) (Nat.le_refl _) h2))
  clear h2
  go_enter Tryd.func8, Tryd.ntmps8
  go_wp2_with (first | (go_at_call 9; rw [← HZ.out]; refine HS1.out.mono ?_; rintro e w2 ⟨rfl, b2⟩; obtain ⟨_, _, _, g0, g1, g2, g3⟩ := HC.out _ b2; have B2 := Aside0.mk b2; clear b2 HZ HS1) | (go_at_call 9; refine (HS2.out _ B2.out).mono ?_; rintro e w3 ⟨rfl, b3⟩; have B3 := Aside0.mk b3; clear b3))
  go_ret
  exact ⟨rfl, HB.out.trans ((B2.out.trans (B3.out.mono B2.out.size)).mono HB.out.size)⟩
def ecdysisref15_Message.l0 : Nat → ByteArray → Int → List (S48) → List (S52) → Option (Int)
 | 0, _, _, _, _ => none
 | k + 1, x1, x5, x194000, x194001 => if x5 < (x194001.length : Int) then (if 0 ≤ x5 then (if ((rd_T52 x194001 x5).f0).toList = x1.toList then (some x5) else (ecdysisref15_Message.l0 k x1 (wrap64 (x5 + 1)) x194000 x194001)) else (none)) else (some (-1))
def ecdysisref15_Message.f (k : Nat) (l0_0 : List (S48)) (l0_1 : List (S52)) (a1 : ByteArray) : Option (Int) := ecdysisref15_Message.l0 k a1 0 l0_0 l0_1
set_option maxHeartbeats 8000000 in
set_option maxRecDepth 100000 in
theorem ecdysisref15_Message.calls (k : Nat) (A0_0 : Option Addr) (c0_0 : Nat) (l0_0 : List (S48)) (A0_1 : Option Addr) (c0_1 : Nat) (l0_1 : List (S52)) (a1 : ByteArray) (r : Int) (w : World) (hr0_0 : Kd.C k48 w A0_0 l0_0.length l0_0) (hc0_0 : l0_0.length ≤ c0_0) (hr0_1 : Kd.C k52 w A0_1 l0_1.length l0_1) (hc0_1 : l0_1.length ≤ c0_1) (h : ecdysisref15_Message.f k l0_0 l0_1 a1 = some r) :
  Calls Tryd.prog 11 #[.agg #[.slice A0_0 l0_0.length c0_0, .slice A0_1 l0_1.length c0_1], .string a1] w fun e w' => e = .returned (.int .i64 r) ∧ Below w.heap.size w w' := by
 have hu25 := Tryd.underlying25
 have HR0_0 := Aside0.mk hr0_0
 have HC0_0 := Aside0.mk hc0_0
 clear hr0_0 hc0_0
 have HR0_1 := Aside0.mk hr0_1
 have HC0_1 := Aside0.mk hc0_1
 clear hr0_1 hc0_1
 have HB := Aside0.mk (Below.refl w.heap.size w)
 have H : (ecdysisref15_Message.l0 k a1 0 l0_0 l0_1) = some r := h
 clear h
 have H' := Aside0.mk H
 clear H
 go_enter Tryd.func11, Tryd.ntmps11
 go_wp2_with (first | ((with_reducible refine gate_dst (N := 2) rfl ?_); refine box_event ?hg (N := 2) ?hd (cs := #[.slice A0_0 l0_0.length c0_0, .slice A0_1 l0_1.length c0_1]) (t := 25) ?hr ?_; (case hd => rfl); (case hg => rfl); (case hr => first | (go_simp; done) | (go_simp; rfl)); intro gb193 hg w3 hbox hb; have n0_ := Aside0.mk (below_step HB.out hb); have n1_ := Aside0.mk (hbox); clear HB; have HB := n0_; have BK193 := n1_; clear n0_ n1_; clear hb hbox hg))
 go_loopg [5] k (fun kq v5 w' => ∃ (x5_1 : Int), v5 = .int .i64 x5_1 ∧ Aside0 (ecdysisref15_Message.l0 kq a1 x5_1 l0_0 l0_1 = some r) ∧ Aside0 (kq ≤ k) ∧ Aside0 (w'.heap[gb193]? = some (.cells #[(.slice A0_0 l0_0.length c0_0), (.slice A0_1 l0_1.length c0_1)] 25 (0, 0))) ∧ Aside0 (Below w.heap.size w w'))
 case atStart => exact ⟨(0), (by first | rfl ), H', ⟨Nat.le_refl _⟩, ⟨by exact BK193.out⟩, ⟨by exact HB.out⟩⟩
 case round =>
  clear H'
  try clear c1
  try clear p2
  obtain ⟨x5_1, rfl, HA, HK1, BK193, HB⟩ := hrel
  cases gk with
  | zero => exact absurd HA.out (by simp [ecdysisref15_Message.l0])
  | succ k1 =>
   have H := HA.out
   clear HA
   simp only [ecdysisref15_Message.l0] at H
   by_cases c4 : x5_1 < (l0_1.length : Int)
   · rw [if_pos c4] at H
     have c4b0 : decide (x5_1 < (l0_1.length : Int)) = true := decide_eq_true c4
     clear c4
     by_cases c5 : 0 ≤ x5_1
     · rw [if_pos c5] at H
       have c5b0 : decide (0 ≤ x5_1) = true := decide_eq_true c5
       clear c5
       by_cases c6 : ((rd_T52 l0_1 x5_1).f0).toList = a1.toList
       · rw [if_pos c6] at H
         have c6b0 : (((rd_T52 l0_1 x5_1).f0).toList == a1.toList) = true := beq_iff_eq.mpr c6
         have c6b1 : (((rd_T52 l0_1 x5_1).f0).toList != a1.toList) = false := bne_eq_false_iff_eq.mpr c6
         clear c6
         obtain rfl := Option.some.inj H
         have hcz7_0 : wr.cell? ⟨gb193, 0, none⟩ = some (.slice A0_0 l0_0.length c0_0) := (blk_cell BK193.out 0).trans rfl
         have hcz7_1 : wr.cell? ⟨gb193, 1, none⟩ = some (.slice A0_1 l0_1.length c0_1) := (blk_cell BK193.out 1).trans rfl
         have hfz7_0 := blk_frozen BK193.out 0
         have hfz7_1 := blk_frozen BK193.out 1
         have p194 : 0 ≤ (x5_1 : Int) := of_decide_eq_true (by first | (with_reducible assumption) )
         have q194 : x5_1 < (l0_1.length : Int) := of_decide_eq_true (by first | (with_reducible assumption) )
         obtain ⟨ad194, A194_1, c194_1, A194_2, c194_2, e194, hx194_0, hx194_1, hx194_2, hl194_1, hi194_1, hl194_2, hi194_2⟩ := at_T52 HR0_1.out x5_1 p194 q194
         cases e194
         replace hx194_0 := (HB.out.cell (World.block_lt_of_cell? w _ hx194_0)).trans hx194_0
         replace hx194_1 := (HB.out.cell (World.block_lt_of_cell? w _ hx194_1)).trans hx194_1
         replace hx194_2 := (HB.out.cell (World.block_lt_of_cell? w _ hx194_2)).trans hx194_2
         have HR194_1 := Aside0.mk hi194_1
         have HC194_1 := Aside0.mk hl194_1
         clear hi194_1 hl194_1
         have HR194_2 := Aside0.mk hi194_2
         have HC194_2 := Aside0.mk hl194_2
         clear hi194_2 hl194_2
         replace p194 := eq_true p194
         replace q194 := eq_true q194
         go_wp2
         go_ret
         exact ⟨by first | rfl , by exact HB.out⟩
       · rw [if_neg c6] at H
         have c6b0 : (((rd_T52 l0_1 x5_1).f0).toList == a1.toList) = false := beq_eq_false_iff_ne.mpr c6
         have c6b1 : (((rd_T52 l0_1 x5_1).f0).toList != a1.toList) = true := bne_iff_ne.mpr c6
         have H' := Aside0.mk H
         clear H
         have hcz8_0 : wr.cell? ⟨gb193, 0, none⟩ = some (.slice A0_0 l0_0.length c0_0) := (blk_cell BK193.out 0).trans rfl
         have hcz8_1 : wr.cell? ⟨gb193, 1, none⟩ = some (.slice A0_1 l0_1.length c0_1) := (blk_cell BK193.out 1).trans rfl
         have hfz8_0 := blk_frozen BK193.out 0
         have hfz8_1 := blk_frozen BK193.out 1
         have p194 : 0 ≤ (x5_1 : Int) := of_decide_eq_true (by first | (with_reducible assumption) )
         have q194 : x5_1 < (l0_1.length : Int) := of_decide_eq_true (by first | (with_reducible assumption) )
         obtain ⟨ad194, A194_1, c194_1, A194_2, c194_2, e194, hx194_0, hx194_1, hx194_2, hl194_1, hi194_1, hl194_2, hi194_2⟩ := at_T52 HR0_1.out x5_1 p194 q194
         cases e194
         replace hx194_0 := (HB.out.cell (World.block_lt_of_cell? w _ hx194_0)).trans hx194_0
         replace hx194_1 := (HB.out.cell (World.block_lt_of_cell? w _ hx194_1)).trans hx194_1
         replace hx194_2 := (HB.out.cell (World.block_lt_of_cell? w _ hx194_2)).trans hx194_2
         have HR194_1 := Aside0.mk hi194_1
         have HC194_1 := Aside0.mk hl194_1
         clear hi194_1 hl194_1
         have HR194_2 := Aside0.mk hi194_2
         have HC194_2 := Aside0.mk hl194_2
         clear hi194_2 hl194_2
         replace p194 := eq_true p194
         replace q194 := eq_true q194
         go_wp2
         go_roundg k1
         case measure => have := HK1.out; omega
         case rel => exact ⟨(wrap64 (x5_1 + 1)), (by first | rfl ), H', ⟨by have := HK1.out; omega⟩, ⟨by exact BK193.out⟩, ⟨by exact HB.out⟩⟩
     · rw [if_neg c5] at H
       exact absurd H (by simp)
   · rw [if_neg c4] at H
     have c4b0 : decide (x5_1 < (l0_1.length : Int)) = false := decide_eq_false c4
     clear c4
     obtain rfl := Option.some.inj H
     have hcz9_0 : wr.cell? ⟨gb193, 0, none⟩ = some (.slice A0_0 l0_0.length c0_0) := (blk_cell BK193.out 0).trans rfl
     have hcz9_1 : wr.cell? ⟨gb193, 1, none⟩ = some (.slice A0_1 l0_1.length c0_1) := (blk_cell BK193.out 1).trans rfl
     have hfz9_0 := blk_frozen BK193.out 0
     have hfz9_1 := blk_frozen BK193.out 1
     go_wp2
     go_ret
     exact ⟨by first | rfl , by exact HB.out⟩
def ecdysisref11_Whole.f (a0 : Int) : Option (Bool) := if a0 ≥ 1 then (if a0 ≤ 6 then (some true) else (if a0 ≥ 8 then (some (decide (a0 ≤ 11))) else (some false))) else (if a0 ≥ 8 then (some (decide (a0 ≤ 11))) else (some false))
def ecdysisref11_Number.f (a0 : Int) : Option (Bool) := (ecdysisref11_Whole.f a0).bind fun t195 => (if t195 = true then (some true) else (if a0 = 7 then (some true) else (some (a0 == 14))))
def ecdysisref11_Wide.f (a0 : Int) : Option (Bool) := if a0 = 2 then (some true) else (if a0 = 4 then (some true) else (if a0 = 6 then (some true) else (if a0 = 9 then (some true) else (some (a0 == 11)))))
def ecdysisref11_Signed.f (a0 : Int) : Option (Bool) := if a0 = 1 then (some true) else (if a0 = 2 then (some true) else (if a0 = 5 then (some true) else (if a0 = 6 then (some true) else (if a0 = 10 then (some true) else (if a0 = 11 then (some true) else (some (a0 == 14)))))))
end Go.Proofs.YtbpnfpckoapdbaaDoor.PV20
end
section
namespace Go.Proofs.YtbpnfpckoapdbaaDoor.PV20
open Go.RowKit Go.Proofs.YtbpnfpckoapdbaaDoor.M Go.Proofs.YtbpnfpckoapdbaaDoor.KD Go.Proofs.YtbpnfpckoapdbaaDoor Go.Proofs.YtbpnfpckoapdbaaDoorW.PrintWords Go.Proofs.YtbpnfpckoapdbaaDoorW.PrintLast Go.Proofs.YtbpnfpckoapdbaaDoorW.PrintMore
attribute [local go_sem] max2_int min2_int max_two min_two max_three min_three max_four min_four   -- for this text's walks alone
set_option linter.unusedVariables false
set_option linter.unusedSimpArgs false
def ecdysisref02_Fits.f (a0 : Int) : Option (Bool) := if a0 ≥ (-2147483648) then (some (decide (a0 ≤ 2147483647))) else (some false)
mutual
def ecdysisref11_May.j0 : Nat → Int → Int → Bool → Option (Bool)
 | 0, _, _, _ => none
 | k + 1, x0, x1, x10 => if x10 = true then (some false) else ((ecdysisref11_Wide.f x0).bind fun t196 => (if t196 = true then (some true) else ((ecdysisref11_Signed.f x0).bind fun t197 => (if t197 = true then ((ecdysisref02_Fits.f (wrap64 (x1))).bind fun t198 => (some t198)) else (if x0 = 3 then (ecdysisref11_May.j1 k x0 x1 true) else (ecdysisref11_May.j1 k x0 x1 (x0 == 8)))))))
def ecdysisref11_May.j1 : Nat → Int → Int → Bool → Option (Bool)
 | 0, _, _, _ => none
 | k + 1, x0, x1, x23 => if x23 = true then (some (decide (x1 < 4294967296))) else (if x0 = 7 then (some (decide (x1 < 2))) else (some (x1 == 0)))
end
def ecdysisref11_May.f (k : Nat) (a0 : Int) (a1 : Int) : Option (Bool) := if a0 < 1 then (ecdysisref11_May.j0 k a0 a1 true) else (ecdysisref11_May.j0 k a0 a1 (decide (a0 > 15)))
def ecdysisref16_Number.l0 : Nat → Int → Int → ByteArray → List (S36) → List Int → Option (Int)
 | 0, _, _, _, _, _ => none
 | k + 1, x1, x5, x200000, x200001, x200002 => if x5 < (x200001.length : Int) then (if 0 ≤ x5 then (if ((rd_T36 x200001 x5).f1) = x1 then (some x5) else (ecdysisref16_Number.l0 k x1 (wrap64 (x5 + 1)) x200000 x200001 x200002)) else (none)) else (some (-1))
def ecdysisref16_Number.f (k : Nat) (a0_0 : ByteArray) (l0_1 : List (S36)) (l0_2 : List Int) (a1 : Int) : Option (Int) := ecdysisref16_Number.l0 k a1 0 a0_0 l0_1 l0_2
def ecdysisref14_Hidden.f (a0_0 : ByteArray) (a0_1 : Int) (a0_2 : Int) (a0_3 : ByteArray) (a0_4 : Bool) (a0_5 : Bool) (a0_6 : ByteArray) : Option (Bool) := if a0_4 = true then (some false) else (if a0_6.toList = ([] : List UInt8) then (some (a0_2 != 15)) else (some false))
def ecdysisref04_Right.f (a0 : Int) (a1 : Int) : Option (Bool) := if a0 ≥ 1 then (if a0 ≤ 536870911 then (if a1 = 0 then (some true) else (if a1 = 1 then (some true) else (if a1 = 2 then (some true) else (some (a1 == 5))))) else (some false)) else (some false)
def ecdysisref07_Right.f (a0_0 : Int) (a0_1 : Int) (a0_2 : Int) (a0_3 : ByteArray) : Option (Bool) := (ecdysisref04_Right.f a0_0 a0_1).bind fun t203 => (if t203 = true then (if a0_1 = 2 then (some (a0_2 == 0)) else (if a0_3.toList = ([] : List UInt8) then (if a0_1 = 5 then (some (decide (a0_2 < 4294967296))) else (some true)) else (some false))) else (some false))
end Go.Proofs.YtbpnfpckoapdbaaDoor.PV20
end
section
namespace Go.Proofs.YtbpnfpckoapdbaaDoor.PV20
open Go.RowKit Go.Proofs.YtbpnfpckoapdbaaDoor.M Go.Proofs.YtbpnfpckoapdbaaDoor.KD Go.Proofs.YtbpnfpckoapdbaaDoor Go.Proofs.YtbpnfpckoapdbaaDoorW.PrintWords Go.Proofs.YtbpnfpckoapdbaaDoorW.PrintLast Go.Proofs.YtbpnfpckoapdbaaDoorW.PrintMore
attribute [local go_sem] max2_int min2_int max_two min_two max_three min_three max_four min_four   -- for this text's walks alone
set_option linter.unusedVariables false
set_option linter.unusedSimpArgs false
mutual
def ecdysisref20_Tree.l0 : Nat → List ByteArray → Int → List (S48) → List (S52) → List (S43) → List (S63) → ByteArray → List (S36) → List Int → Option (Bool)
 | 0, _, _, _, _, _, _, _, _, _ => none
 | k + 1, x9, x10, x205000, x205001, x206000, x206001, x209000, x209001, x209002 => if x10 < (x206000.length : Int) then (if x10 > 0 then (if 0 ≤ (wrap64 (x10 - 1)) then (if (wrap64 (x10 - 1)) < (x206000.length : Int) then (if 0 ≤ x10 then (if ((rd_T43 x206000 (wrap64 (x10 - 1))).f0) ≥ ((rd_T43 x206000 x10).f0) then (ecdysisref20_Tree.j1 k x9 x10 true x205000 x205001 x206000 x206001 x209000 x209001 x209002) else ((ecdysisref20_slot.f k x205000 x205001 x209000 x209001 x209002 ((rd_T43 x206000 x10).f0) ((rd_T43 x206000 x10).f1)).bind fun t215 => (ecdysisref20_Tree.j1 k x9 x10 (!t215) x205000 x205001 x206000 x206001 x209000 x209001 x209002))) else (none)) else (none)) else (none)) else (if 0 ≤ x10 then ((ecdysisref20_slot.f k x205000 x205001 x209000 x209001 x209002 ((rd_T43 x206000 x10).f0) ((rd_T43 x206000 x10).f1)).bind fun t217 => (ecdysisref20_Tree.j1 k x9 x10 (!t217) x205000 x205001 x206000 x206001 x209000 x209001 x209002)) else (none))) else (ecdysisref20_Tree.l2 k 0 x206000 x206001 x209000 x209001 x209002)
def ecdysisref20_Tree.j1 : Nat → List ByteArray → Int → Bool → List (S48) → List (S52) → List (S43) → List (S63) → ByteArray → List (S36) → List Int → Option (Bool)
 | 0, _, _, _, _, _, _, _, _, _, _ => none
 | k + 1, x9, x10, x60, x205000, x205001, x206000, x206001, x209000, x209001, x209002 => if x60 = true then (some false) else (if 0 ≤ x10 then (if x10 < (x206000.length : Int) then ((ecdysisref16_Number.f k x209000 x209001 x209002 ((rd_T43 x206000 x10).f0)).bind fun t219 => (if 0 ≤ t219 then (if t219 < (x209001.length : Int) then (ecdysisref20_Tree.l1 k x9 x10 ((rd_T36 x209001 t219).f6) 0 x205000 x205001 x206000 x206001 x209000 x209001 x209002) else (none)) else (none))) else (none)) else (none))
def ecdysisref20_Tree.l1 : Nat → List ByteArray → Int → ByteArray → Int → List (S48) → List (S52) → List (S43) → List (S63) → ByteArray → List (S36) → List Int → Option (Bool)
 | 0, _, _, _, _, _, _, _, _, _, _, _ => none
 | k + 1, x9, x10, x11, x12, x205000, x205001, x206000, x206001, x209000, x209001, x209002 => if x12 < (x9.length : Int) then (if x11.toList = ([] : List UInt8) then (ecdysisref20_Tree.l1 k x9 x10 x11 (wrap64 (x12 + 1)) x205000 x205001 x206000 x206001 x209000 x209001 x209002) else (if 0 ≤ x12 then (if (rdOf ByteArray.empty x9 x12).toList = x11.toList then (some false) else (ecdysisref20_Tree.l1 k x9 x10 x11 (wrap64 (x12 + 1)) x205000 x205001 x206000 x206001 x209000 x209001 x209002)) else (none))) else (if x9.length < 8796093022208 then (ecdysisref20_Tree.l0 k (x9 ++ [x11]) (wrap64 (x10 + 1)) x205000 x205001 x206000 x206001 x209000 x209001 x209002) else (none))
def ecdysisref20_Tree.l2 : Nat → Int → List (S43) → List (S63) → ByteArray → List (S36) → List Int → Option (Bool)
 | 0, _, _, _, _, _, _ => none
 | k + 1, x13, x206000, x206001, x209000, x209001, x209002 => if x13 < (x206001.length : Int) then (if 0 ≤ x13 then ((ecdysisref07_Right.f ((rd_T63 x206001 x13).f0) ((rd_T63 x206001 x13).f1) ((rd_T63 x206001 x13).f2) ((rd_T63 x206001 x13).f3)).bind fun t226 => (if t226 = true then ((ecdysisref16_Number.f k x209000 x209001 x209002 ((rd_T63 x206001 x13).f0)).bind fun t228 => (if t228 ≥ 0 then (some false) else (ecdysisref20_Tree.l2 k (wrap64 (x13 + 1)) x206000 x206001 x209000 x209001 x209002))) else (some false))) else (none)) else (some true)
def ecdysisref20_Tree.f : Nat → List (S48) → List (S52) → ByteArray → List (S43) → List (S63) → Option (Bool)
 | 0, _, _, _, _, _ => none
 | k + 1, l0_0, l0_1, a1, l2_0, l2_1 => (ecdysisref15_Message.f k l0_0 l0_1 a1).bind fun t206 => (if t206 < 0 then (some false) else (if 0 ≤ t206 then (if t206 < (l0_1.length : Int) then (ecdysisref20_Tree.l0 k (([] : List ByteArray)) 0 l0_0 l0_1 l2_0 l2_1 ((rd_T52 l0_1 t206).f0) ((rd_T52 l0_1 t206).f1) ((rd_T52 l0_1 t206).f2)) else (none)) else (none)))
def ecdysisref20_Val.f : Nat → List (S48) → List (S52) → ByteArray → Int → Int → ByteArray → Bool → Bool → ByteArray → Int → ByteArray → List (S29) → Option (Bool)
 | 0, _, _, _, _, _, _, _, _, _, _, _, _ => none
 | k + 1, l0_0, l0_1, a1_0, a1_1, a1_2, a1_3, a1_4, a1_5, a1_6, a2_0, a2_1, l2_2 => (ecdysisref11_Number.f a1_2).bind fun t232 => (if t232 = true then ((ecdysisref11_May.f k a1_2 a2_0).bind fun t233 => (if t233 = true then (if a2_1.toList = ([] : List UInt8) then (some ((l2_2.length : Int) == 0)) else (some false)) else (some false))) else (if a1_2 = 12 then (if a2_0 = 0 then (if (l2_2.length : Int) = 0 then ((utf8_ValidString.f a2_1).bind fun t234 => (some t234)) else (some false)) else (some false)) else (if a1_2 = 13 then (if a2_0 = 0 then (some ((l2_2.length : Int) == 0)) else (some false)) else (if a1_2 = 15 then (if a2_0 = 0 then (if a2_1.toList = ([] : List UInt8) then (if (l2_2.length : Int) = 1 then (if 0 < (l2_2.length : Int) then ((ecdysisref20_Tree.f k l0_0 l0_1 a1_3 ((rd_T29 l2_2 0).f0) ((rd_T29 l2_2 0).f1)).bind fun t236 => (some t236)) else (none)) else (some false)) else (some false)) else (some false)) else (some false)))))
def ecdysisref20_slot.j0 : Nat → Int → Bool → List (S48) → List (S52) → ByteArray → List (S36) → List Int → Int → List (S40) → Option (Bool)
 | 0, _, _, _, _, _, _, _, _, _ => none
 | k + 1, x7, x21, x238000, x238001, x239000, x239001, x239002, x240000, x240001 => if x21 = true then (some false) else (if 0 ≤ x7 then (if x7 < (x239001.length : Int) then (if ((rd_T36 x239001 x7).f4 = true) then (ecdysisref20_slot.j1 k false x238000 x238001 x240000 x240001 ((rd_T36 x239001 x7).f0) ((rd_T36 x239001 x7).f1) ((rd_T36 x239001 x7).f2) ((rd_T36 x239001 x7).f3) ((rd_T36 x239001 x7).f4) ((rd_T36 x239001 x7).f5) ((rd_T36 x239001 x7).f6)) else (ecdysisref20_slot.j1 k ((x240001.length : Int) != 1) x238000 x238001 x240000 x240001 ((rd_T36 x239001 x7).f0) ((rd_T36 x239001 x7).f1) ((rd_T36 x239001 x7).f2) ((rd_T36 x239001 x7).f3) ((rd_T36 x239001 x7).f4) ((rd_T36 x239001 x7).f5) ((rd_T36 x239001 x7).f6))) else (none)) else (none))
def ecdysisref20_slot.j1 : Nat → Bool → List (S48) → List (S52) → Int → List (S40) → ByteArray → Int → Int → ByteArray → Bool → Bool → ByteArray → Option (Bool)
 | 0, _, _, _, _, _, _, _, _, _, _, _, _ => none
 | k + 1, x35, x238000, x238001, x240000, x240001, x243000, x243001, x243002, x243003, x243004, x243005, x243006 => if x35 = true then (some false) else (ecdysisref20_slot.l0 k 0 x238000 x238001 x240000 x240001 x243000 x243001 x243002 x243003 x243004 x243005 x243006)
def ecdysisref20_slot.l0 : Nat → Int → List (S48) → List (S52) → Int → List (S40) → ByteArray → Int → Int → ByteArray → Bool → Bool → ByteArray → Option (Bool)
 | 0, _, _, _, _, _, _, _, _, _, _, _, _ => none
 | k + 1, x9, x238000, x238001, x240000, x240001, x243000, x243001, x243002, x243003, x243004, x243005, x243006 => if x9 < (x240001.length : Int) then (if 0 ≤ x9 then ((ecdysisref20_Val.f k x238000 x238001 x243000 x243001 x243002 x243003 x243004 x243005 x243006 ((rd_T40 x240001 x9).f0) ((rd_T40 x240001 x9).f1) ((rd_T40 x240001 x9).f2)).bind fun t244 => (if t244 = true then (ecdysisref20_slot.l0 k (wrap64 (x9 + 1)) x238000 x238001 x240000 x240001 x243000 x243001 x243002 x243003 x243004 x243005 x243006) else (some false))) else (none)) else ((ecdysisref14_Hidden.f x243000 x243001 x243002 x243003 x243004 x243005 x243006).bind fun t245 => (if t245 = true then (if 0 < (x240001.length : Int) then (if ((rd_T40 x240001 0).f0) = 0 then (some (((rd_T40 x240001 0).f1).toList != ([] : List UInt8))) else (some true)) else (none)) else (some true)))
def ecdysisref20_slot.f : Nat → List (S48) → List (S52) → ByteArray → List (S36) → List Int → Int → List (S40) → Option (Bool)
 | 0, _, _, _, _, _, _, _ => none
 | k + 1, l0_0, l0_1, a1_0, l1_1, l1_2, a2_0, l2_1 => (ecdysisref16_Number.f k a1_0 l1_1 l1_2 a2_0).bind fun t240 => (if t240 < 0 then (ecdysisref20_slot.j0 k t240 true l0_0 l0_1 a1_0 l1_1 l1_2 a2_0 l2_1) else (ecdysisref20_slot.j0 k t240 ((l2_1.length : Int) == 0) l0_0 l0_1 a1_0 l1_1 l1_2 a2_0 l2_1))
end
end Go.Proofs.YtbpnfpckoapdbaaDoor.PV20
end
section
namespace Go.Proofs.YtbpnfpckoapdbaaDoor.PV20
open Go.RowKit Go.Proofs.YtbpnfpckoapdbaaDoor.M Go.Proofs.YtbpnfpckoapdbaaDoor.KD Go.Proofs.YtbpnfpckoapdbaaDoor Go.Proofs.YtbpnfpckoapdbaaDoorW.PrintWords Go.Proofs.YtbpnfpckoapdbaaDoorW.PrintLast Go.Proofs.YtbpnfpckoapdbaaDoorW.PrintMore
attribute [local go_sem] max2_int min2_int max_two min_two max_three min_three max_four min_four   -- for this text's walks alone
set_option linter.unusedVariables false
set_option linter.unusedSimpArgs false
end Go.Proofs.YtbpnfpckoapdbaaDoor.PV20
end
section
namespace Go.Proofs.YtbpnfpckoapdbaaDoor.PV20
open Go.RowKit Go.Proofs.YtbpnfpckoapdbaaDoor.M Go.Proofs.YtbpnfpckoapdbaaDoor.KD Go.Proofs.YtbpnfpckoapdbaaDoor Go.Proofs.YtbpnfpckoapdbaaDoorW.PrintWords Go.Proofs.YtbpnfpckoapdbaaDoorW.PrintLast Go.Proofs.YtbpnfpckoapdbaaDoorW.PrintMore
attribute [local go_sem] max2_int min2_int max_two min_two max_three min_three max_four min_four   -- for this text's walks alone
set_option linter.unusedVariables false
set_option linter.unusedSimpArgs false
end Go.Proofs.YtbpnfpckoapdbaaDoor.PV20
end
section
namespace Go.Proofs.YtbpnfpckoapdbaaDoor.PV20
open Go.RowKit Go.Proofs.YtbpnfpckoapdbaaDoor.M Go.Proofs.YtbpnfpckoapdbaaDoor.KD Go.Proofs.YtbpnfpckoapdbaaDoor Go.Proofs.YtbpnfpckoapdbaaDoorW.PrintWords Go.Proofs.YtbpnfpckoapdbaaDoorW.PrintLast Go.Proofs.YtbpnfpckoapdbaaDoorW.PrintMore
attribute [local go_sem] max2_int min2_int max_two min_two max_three min_three max_four min_four   -- for this text's walks alone
set_option linter.unusedVariables false
set_option linter.unusedSimpArgs false
end Go.Proofs.YtbpnfpckoapdbaaDoor.PV20
end

/- The law ValidTrees holds for every input that the row lets in (text 5 of 6; some of it the words and functions that the kit's print and this claim's programs wrote) -/
import Derived.Test.YtbpnfpckoapdbaaDoorQValidTrees3
import Derived.Deep.Slices
import Derived.ChangeArms
import Derived.ChangeSame
import Derived.ProofKit
import Derived.SizedLaws
import Derived.Test.YtbpnfpckoapdbaaDoorProg
import Derived.KernelRfl
section
namespace Go.Proofs.YtbpnfpckoapdbaaDoor.PV20
open Go.RowKit Go.Proofs.YtbpnfpckoapdbaaDoor.M Go.Proofs.YtbpnfpckoapdbaaDoor.KD Go.Proofs.YtbpnfpckoapdbaaDoor Go.Proofs.YtbpnfpckoapdbaaDoorW.PrintWords Go.Proofs.YtbpnfpckoapdbaaDoorW.PrintLast Go.Proofs.YtbpnfpckoapdbaaDoorW.PrintMore
attribute [local go_sem] max2_int min2_int max_two min_two max_three min_three max_four min_four   -- for this text's walks alone
set_option linter.unusedVariables false
set_option linter.unusedSimpArgs false
def ecdysisref20_Val.T9 : Bool × List (List Nat × List Nat) := (true, [([], []), ([0], [0]), ([1], [1]), ([2], [2]), ([3], [3]), ([4, 3], [3, 4]), ([5, 3], [3, 5]), ([3, 6], [3, 6]), ([7, 3], [7]), ([8], [8]), ([9, 8], [8, 9]), ([10, 8], [8, 10]), ([11, 8], [8, 11]), ([8, 12], [8, 12]), ([13, 8], [13]), ([14], [14]), ([14], [14]), ([16, 14], [14, 16]), ([14], [14]), ([18, 14], [14, 18]), ([19, 14], [14, 19]), ([20, 14], [14, 20]), ([15, 17, 21, 14, 14], [14, 15, 17, 21]), ([14, 22], [14, 22]), ([23, 22, 0, 1, 2, 3, 4, 5, 6, 7, 8, 9, 10, 11, 12, 13, 14, 15, 16, 17, 18, 19, 20, 21, 22, 23], [23])])
def ecdysisref20_Val.B9 : List Nat := [0, 1, 3, 7, 15, 31, 63, 127, 255, 511, 1023, 2047, 4095, 8191, 16383, 32767, 32767, 98303, 32767, 294911, 819199, 1867775, 4194303, 8388607, 16777215]
theorem ecdysisref20_Val.tab9 : rtab .any (opsOf Tryd.f13 9) = ecdysisref20_Val.T9 := by kernel_rfl
theorem ecdysisref20_Val.bits9 : waitsOk ecdysisref20_Val.T9.2 ecdysisref20_Val.B9 = true := by kernel_rfl
set_option maxHeartbeats 8000000 in
set_option maxRecDepth 100000 in
theorem ecdysisref20_Val.callsR (k : Nat) (ih_ecdysisref20_Tree : ∀ k_, k_ < k → ∀ (A0_0 : Option Addr) (c0_0 : Nat) (l0_0 : List (S48)) (A0_1 : Option Addr) (c0_1 : Nat) (l0_1 : List (S52)) (a1 : ByteArray) (A2_0 : Option Addr) (c2_0 : Nat) (l2_0 : List (S43)) (A2_1 : Option Addr) (c2_1 : Nat) (l2_1 : List (S63)) (r : Bool) (w : World) (hT : Tabs w) (hr0_0 : Kd.C k48 w A0_0 l0_0.length l0_0) (hc0_0 : l0_0.length ≤ c0_0) (hr0_1 : Kd.C k52 w A0_1 l0_1.length l0_1) (hc0_1 : l0_1.length ≤ c0_1) (hr2_0 : Kd.C k43 w A2_0 l2_0.length l2_0) (hc2_0 : l2_0.length ≤ c2_0) (hr2_1 : Kd.C k63 w A2_1 l2_1.length l2_1) (hc2_1 : l2_1.length ≤ c2_1) (h_ : ecdysisref20_Tree.f k_ l0_0 l0_1 a1 l2_0 l2_1 = some r), Calls Tryd.prog 10 #[.agg #[.slice A0_0 l0_0.length c0_0, .slice A0_1 l0_1.length c0_1], .string a1, .agg #[.slice A2_0 l2_0.length c2_0, .slice A2_1 l2_1.length c2_1]] w fun e w' => e = .returned (.bool r) ∧ Below w.heap.size w w') (ih_ecdysisref20_Val : ∀ k_, k_ < k → ∀ (A0_0 : Option Addr) (c0_0 : Nat) (l0_0 : List (S48)) (A0_1 : Option Addr) (c0_1 : Nat) (l0_1 : List (S52)) (a1_0 : ByteArray) (a1_1 : Int) (a1_2 : Int) (a1_3 : ByteArray) (a1_4 : Bool) (a1_5 : Bool) (a1_6 : ByteArray) (a2_0 : Int) (a2_1 : ByteArray) (A2_2 : Option Addr) (c2_2 : Nat) (l2_2 : List (S29)) (r : Bool) (w : World) (hT : Tabs w) (hr0_0 : Kd.C k48 w A0_0 l0_0.length l0_0) (hc0_0 : l0_0.length ≤ c0_0) (hr0_1 : Kd.C k52 w A0_1 l0_1.length l0_1) (hc0_1 : l0_1.length ≤ c0_1) (hr2_2 : Kd.C k29 w A2_2 l2_2.length l2_2) (hc2_2 : l2_2.length ≤ c2_2) (h_ : ecdysisref20_Val.f k_ l0_0 l0_1 a1_0 a1_1 a1_2 a1_3 a1_4 a1_5 a1_6 a2_0 a2_1 l2_2 = some r), Calls Tryd.prog 13 #[.agg #[.slice A0_0 l0_0.length c0_0, .slice A0_1 l0_1.length c0_1], .agg #[.string a1_0, .int .i64 a1_1, .int .i64 a1_2, .string a1_3, .bool a1_4, .bool a1_5, .string a1_6], .agg #[.int .u64 a2_0, .string a2_1, .slice A2_2 l2_2.length c2_2]] w fun e w' => e = .returned (.bool r) ∧ Below w.heap.size w w') (ih_ecdysisref20_slot : ∀ k_, k_ < k → ∀ (A0_0 : Option Addr) (c0_0 : Nat) (l0_0 : List (S48)) (A0_1 : Option Addr) (c0_1 : Nat) (l0_1 : List (S52)) (a1_0 : ByteArray) (A1_1 : Option Addr) (c1_1 : Nat) (l1_1 : List (S36)) (A1_2 : Option Addr) (c1_2 : Nat) (l1_2 : List Int) (a2_0 : Int) (A2_1 : Option Addr) (c2_1 : Nat) (l2_1 : List (S40)) (r : Bool) (w : World) (hT : Tabs w) (hr0_0 : Kd.C k48 w A0_0 l0_0.length l0_0) (hc0_0 : l0_0.length ≤ c0_0) (hr0_1 : Kd.C k52 w A0_1 l0_1.length l0_1) (hc0_1 : l0_1.length ≤ c0_1) (hr1_1 : Kd.C k36 w A1_1 l1_1.length l1_1) (hc1_1 : l1_1.length ≤ c1_1) (hr1_2 : Kd.C (Kd.int .i64) w A1_2 l1_2.length l1_2) (hc1_2 : l1_2.length ≤ c1_2) (hr2_1 : Kd.C k40 w A2_1 l2_1.length l2_1) (hc2_1 : l2_1.length ≤ c2_1) (h_ : ecdysisref20_slot.f k_ l0_0 l0_1 a1_0 l1_1 l1_2 a2_0 l2_1 = some r), Calls Tryd.prog 20 #[.agg #[.slice A0_0 l0_0.length c0_0, .slice A0_1 l0_1.length c0_1], .agg #[.string a1_0, .slice A1_1 l1_1.length c1_1, .slice A1_2 l1_2.length c1_2], .agg #[.int .i64 a2_0, .slice A2_1 l2_1.length c2_1]] w fun e w' => e = .returned (.bool r) ∧ Below w.heap.size w w') : ∀ (A0_0 : Option Addr) (c0_0 : Nat) (l0_0 : List (S48)) (A0_1 : Option Addr) (c0_1 : Nat) (l0_1 : List (S52)) (a1_0 : ByteArray) (a1_1 : Int) (a1_2 : Int) (a1_3 : ByteArray) (a1_4 : Bool) (a1_5 : Bool) (a1_6 : ByteArray) (a2_0 : Int) (a2_1 : ByteArray) (A2_2 : Option Addr) (c2_2 : Nat) (l2_2 : List (S29)) (r : Bool) (w : World) (hT : Tabs w) (hr0_0 : Kd.C k48 w A0_0 l0_0.length l0_0) (hc0_0 : l0_0.length ≤ c0_0) (hr0_1 : Kd.C k52 w A0_1 l0_1.length l0_1) (hc0_1 : l0_1.length ≤ c0_1) (hr2_2 : Kd.C k29 w A2_2 l2_2.length l2_2) (hc2_2 : l2_2.length ≤ c2_2) (h : ecdysisref20_Val.f k l0_0 l0_1 a1_0 a1_1 a1_2 a1_3 a1_4 a1_5 a1_6 a2_0 a2_1 l2_2 = some r),
   Calls Tryd.prog 13 #[.agg #[.slice A0_0 l0_0.length c0_0, .slice A0_1 l0_1.length c0_1], .agg #[.string a1_0, .int .i64 a1_1, .int .i64 a1_2, .string a1_3, .bool a1_4, .bool a1_5, .string a1_6], .agg #[.int .u64 a2_0, .string a2_1, .slice A2_2 l2_2.length c2_2]] w fun e w' => e = .returned (.bool r) ∧ Below w.heap.size w w' := by
 intro A0_0 c0_0 l0_0 A0_1 c0_1 l0_1 a1_0 a1_1 a1_2 a1_3 a1_4 a1_5 a1_6 a2_0 a2_1 A2_2 c2_2 l2_2 r w hT hr0_0 hc0_0 hr0_1 hc0_1 hr2_2 hc2_2 h
 have HU8 := Aside0.mk hT
 clear hT
 cases k with
 | zero => exact absurd h (by simp [ecdysisref20_Val.f])
 | succ k =>
 simp only [ecdysisref20_Val.f] at h
 have hu25 := Tryd.underlying25
 have hu36 := Tryd.underlying36
 have hu40 := Tryd.underlying40
 have hu29 := Tryd.underlying29
 have HR0_0 := Aside0.mk hr0_0
 have HC0_0 := Aside0.mk hc0_0
 clear hr0_0 hc0_0
 have HR0_1 := Aside0.mk hr0_1
 have HC0_1 := Aside0.mk hc0_1
 clear hr0_1 hc0_1
 have HR2_2 := Aside0.mk hr2_2
 have HC2_2 := Aside0.mk hc2_2
 clear hr2_2 hc2_2
 have HB := Aside0.mk (Below.refl w.heap.size w)
 have H : ((ecdysisref11_Number.f a1_2).bind fun t232 => (if t232 = true then ((ecdysisref11_May.f k a1_2 a2_0).bind fun t233 => (if t233 = true then (if a2_1.toList = ([] : List UInt8) then (some ((l2_2.length : Int) == 0)) else (some false)) else (some false))) else (if a1_2 = 12 then (if a2_0 = 0 then (if (l2_2.length : Int) = 0 then ((utf8_ValidString.f a2_1).bind fun t234 => (some t234)) else (some false)) else (some false)) else (if a1_2 = 13 then (if a2_0 = 0 then (some ((l2_2.length : Int) == 0)) else (some false)) else (if a1_2 = 15 then (if a2_0 = 0 then (if a2_1.toList = ([] : List UInt8) then (if (l2_2.length : Int) = 1 then (if 0 < (l2_2.length : Int) then ((ecdysisref20_Tree.f k l0_0 l0_1 a1_3 ((rd_T29 l2_2 0).f0) ((rd_T29 l2_2 0).f1)).bind fun t236 => (some t236)) else (none)) else (some false)) else (some false)) else (some false)) else (some false)))))) = some r := h
 clear h
 replace H := Option.bind_eq_some_iff.mp H
 obtain ⟨t232, A40, H⟩ := H
 replace H : (if t232 = true then ((ecdysisref11_May.f k a1_2 a2_0).bind fun t233 => (if t233 = true then (if a2_1.toList = ([] : List UInt8) then (some ((l2_2.length : Int) == 0)) else (some false)) else (some false))) else (if a1_2 = 12 then (if a2_0 = 0 then (if (l2_2.length : Int) = 0 then ((utf8_ValidString.f a2_1).bind fun t234 => (some t234)) else (some false)) else (some false)) else (if a1_2 = 13 then (if a2_0 = 0 then (some ((l2_2.length : Int) == 0)) else (some false)) else (if a1_2 = 15 then (if a2_0 = 0 then (if a2_1.toList = ([] : List UInt8) then (if (l2_2.length : Int) = 1 then (if 0 < (l2_2.length : Int) then ((ecdysisref20_Tree.f k l0_0 l0_1 a1_3 ((rd_T29 l2_2 0).f0) ((rd_T29 l2_2 0).f1)).bind fun t236 => (some t236)) else (none)) else (some false)) else (some false)) else (some false)) else (some false))))) = some r := H
 have A4 := Aside0.mk A40
 clear A40
 by_cases c5 : t232 = true
 · subst c5
   have H1 : ((ecdysisref11_May.f k a1_2 a2_0).bind fun t233 => (if t233 = true then (if a2_1.toList = ([] : List UInt8) then (some ((l2_2.length : Int) == 0)) else (some false)) else (some false))) = some r := by rw [if_pos rfl] at H; exact H
   clear H
   have H := H1
   clear H1
   replace H := Option.bind_eq_some_iff.mp H
   obtain ⟨t233, A60, H⟩ := H
   replace H : (if t233 = true then (if a2_1.toList = ([] : List UInt8) then (some ((l2_2.length : Int) == 0)) else (some false)) else (some false)) = some r := H
   have A6 := Aside0.mk A60
   clear A60
   by_cases c7 : t233 = true
   · subst c7
     have H1 : (if a2_1.toList = ([] : List UInt8) then (some ((l2_2.length : Int) == 0)) else (some false)) = some r := by rw [if_pos rfl] at H; exact H
     clear H
     have H := H1
     clear H1
     by_cases c8 : a2_1.toList = ([] : List UInt8)
     · rw [if_pos c8] at H
       have c8b0 : (a2_1.toList == ([] : List UInt8)) = true := beq_iff_eq.mpr c8
       have c8b1 : (a2_1.toList != ([] : List UInt8)) = false := bne_eq_false_iff_eq.mpr c8
       clear c8
       obtain rfl := Option.some.inj H
       go_enter Tryd.func13, Tryd.ntmps13
       go_wp2_with (first | ((with_reducible refine gate_dst (N := 3) rfl ?_); (try (refine gate_guard (by rfl) ?_; dsimp only)); refine box_event ?hg (N := 3) ?hd (cs := #[.slice A0_0 l0_0.length c0_0, .slice A0_1 l0_1.length c0_1]) (t := 25) ?hr ?_; (case hd => rfl); (case hg => rfl); (case hr => first | (go_simp; done) | (go_simp; rfl)); intro gb229 hg w9 hbox hb; have n0_ := Aside0.mk (below_step HB.out hb); have n1_ := Aside0.mk (hbox); clear HB; have HB := n0_; have BK229 := n1_; clear n0_ n1_; clear hb hbox hg) | ((with_reducible refine gate_dst (N := 4) rfl ?_); (try (refine gate_guard (by rfl) ?_; dsimp only)); refine box_event ?hg (N := 4) ?hd (cs := #[.string a1_0, .int .i64 a1_1, .int .i64 a1_2, .string a1_3, .bool a1_4, .bool a1_5, .string a1_6]) (t := 36) ?hr ?_; (case hd => rfl); (case hg => rfl); (case hr => first | (go_simp; done) | (go_simp; rfl)); intro gb230 hg w10 hbox hb; have n0_ := Aside0.mk (blk_below BK229.out hb); have n1_ := Aside0.mk (below_step HB.out hb); have n2_ := Aside0.mk (hbox); have n5_ := Aside0.mk ((by rw [hg]; exact Nat.ne_of_lt (blk_lt BK229.out) : gb229 ≠ gb230)); have n6_ := Aside0.mk ((by rw [hg]; exact Nat.ne_of_gt (blk_lt BK229.out) : gb230 ≠ gb229)); clear BK229; clear HB; have BK229 := n0_; have HB := n1_; have BK230 := n2_; have NB229_230 := n5_; have NB230_229 := n6_; clear n0_ n1_ n2_ n5_ n6_; clear hb hbox hg) | ((with_reducible refine gate_dst (N := 5) rfl ?_); (try (refine gate_guard (by rfl) ?_; dsimp only)); refine box_event ?hg (N := 5) ?hd (cs := #[.int .u64 a2_0, .string a2_1, .slice A2_2 l2_2.length c2_2]) (t := 40) ?hr ?_; (case hd => rfl); (case hg => rfl); (case hr => first | (go_simp; done) | (go_simp; rfl)); intro gb231 hg w11 hbox hb; have n0_ := Aside0.mk (blk_below BK229.out hb); have n1_ := Aside0.mk (blk_below BK230.out hb); have n2_ := Aside0.mk (below_step HB.out hb); have n3_ := Aside0.mk (hbox); have n6_ := Aside0.mk ((by rw [hg]; exact Nat.ne_of_lt (blk_lt BK229.out) : gb229 ≠ gb231)); have n7_ := Aside0.mk ((by rw [hg]; exact Nat.ne_of_gt (blk_lt BK229.out) : gb231 ≠ gb229)); have n8_ := Aside0.mk ((by rw [hg]; exact Nat.ne_of_lt (blk_lt BK230.out) : gb230 ≠ gb231)); have n9_ := Aside0.mk ((by rw [hg]; exact Nat.ne_of_gt (blk_lt BK230.out) : gb231 ≠ gb230)); clear BK229; clear BK230; clear HB; have BK229 := n0_; have BK230 := n1_; have HB := n2_; have BK231 := n3_; have NB229_231 := n6_; have NB231_229 := n7_; have NB230_231 := n8_; have NB231_230 := n9_; clear n0_ n1_ n2_ n3_ n6_ n7_ n8_ n9_; clear hb hbox hg; have hnb12 := NB230_229.out; have hnc12 := NB229_230.out; have hnb13 := NB230_231.out; have hnc13 := NB231_230.out; have hcz14_0 : w11.cell? ⟨gb230, 0, none⟩ = some (.string a1_0) := (blk_cell BK230.out 0).trans rfl; have hcz14_1 : w11.cell? ⟨gb230, 1, none⟩ = some (.int .i64 a1_1) := (blk_cell BK230.out 1).trans rfl; have hcz14_2 : w11.cell? ⟨gb230, 2, none⟩ = some (.int .i64 a1_2) := (blk_cell BK230.out 2).trans rfl; have hcz14_3 : w11.cell? ⟨gb230, 3, none⟩ = some (.string a1_3) := (blk_cell BK230.out 3).trans rfl; have hcz14_4 : w11.cell? ⟨gb230, 4, none⟩ = some (.bool a1_4) := (blk_cell BK230.out 4).trans rfl; have hcz14_5 : w11.cell? ⟨gb230, 5, none⟩ = some (.bool a1_5) := (blk_cell BK230.out 5).trans rfl; have hcz14_6 : w11.cell? ⟨gb230, 6, none⟩ = some (.string a1_6) := (blk_cell BK230.out 6).trans rfl; have hfz14_0 := blk_frozen BK230.out 0; have hfz14_1 := blk_frozen BK230.out 1; have hfz14_2 := blk_frozen BK230.out 2; have hfz14_3 := blk_frozen BK230.out 3; have hfz14_4 := blk_frozen BK230.out 4; have hfz14_5 := blk_frozen BK230.out 5; have hfz14_6 := blk_frozen BK230.out 6) | ((with_reducible refine gate_callee (f := 26) rfl ?_); refine goesL_ (some 9) rfl rfl Tryd.func26 (by kernel_rfl) rfl #[.int .i64 a1_2] rfl (by (try simp only [List.map_toArray, List.map_cons, List.map_nil]); first | done | rfl | (simp only [List.length_drop, List.length_take]; rfl)) ?_; (with_reducible refine (ecdysisref11_Number.calls a1_2 true _ A4.out).mono ?_); rintro e w' ⟨rfl, ⟨nd, rfl⟩⟩; refine ⟨_, rfl, ?_⟩; have hnb15 := NB231_229.out; have hnc15 := NB229_231.out; have hcz16_0 : w11.cell? ⟨gb231, 0, none⟩ = some (.int .u64 a2_0) := (blk_cell BK231.out 0).trans rfl; have hcz16_1 : w11.cell? ⟨gb231, 1, none⟩ = some (.string a2_1) := (blk_cell BK231.out 1).trans rfl; have hcz16_2 : w11.cell? ⟨gb231, 2, none⟩ = some (.slice A2_2 l2_2.length c2_2) := (blk_cell BK231.out 2).trans rfl; have hfz16_0 := blk_frozen BK231.out 0; have hfz16_1 := blk_frozen BK231.out 1; have hfz16_2 := blk_frozen BK231.out 2) | ((with_reducible refine gate_callee (f := 27) rfl ?_); refine goesL_ (some 14) rfl rfl Tryd.func27 (by kernel_rfl) rfl #[.int .i64 a1_2, .int .u64 a2_0] rfl (by (try simp only [List.map_toArray, List.map_cons, List.map_nil]); first | done | rfl | (simp only [List.length_drop, List.length_take]; rfl)) ?_; (with_reducible refine (ecdysisref11_May.calls k a1_2 a2_0 true _ A6.out).mono ?_); rintro e w' ⟨rfl, ⟨nd, rfl⟩⟩; refine ⟨_, rfl, ?_⟩))
       go_ret
       exact ⟨by first | rfl , by repeat (first | (with_reducible first | exact HB.out | apply pw_below_drewN ) )⟩
     · rw [if_neg c8] at H
       have c8b0 : (a2_1.toList == ([] : List UInt8)) = false := beq_eq_false_iff_ne.mpr c8
       have c8b1 : (a2_1.toList != ([] : List UInt8)) = true := bne_iff_ne.mpr c8
       obtain rfl := Option.some.inj H
       go_enter Tryd.func13, Tryd.ntmps13
       go_wp2_with (first | ((with_reducible refine gate_dst (N := 3) rfl ?_); (try (refine gate_guard (by rfl) ?_; dsimp only)); refine box_event ?hg (N := 3) ?hd (cs := #[.slice A0_0 l0_0.length c0_0, .slice A0_1 l0_1.length c0_1]) (t := 25) ?hr ?_; (case hd => rfl); (case hg => rfl); (case hr => first | (go_simp; done) | (go_simp; rfl)); intro gb229 hg w17 hbox hb; have n0_ := Aside0.mk (below_step HB.out hb); have n1_ := Aside0.mk (hbox); clear HB; have HB := n0_; have BK229 := n1_; clear n0_ n1_; clear hb hbox hg) | ((with_reducible refine gate_dst (N := 4) rfl ?_); (try (refine gate_guard (by rfl) ?_; dsimp only)); refine box_event ?hg (N := 4) ?hd (cs := #[.string a1_0, .int .i64 a1_1, .int .i64 a1_2, .string a1_3, .bool a1_4, .bool a1_5, .string a1_6]) (t := 36) ?hr ?_; (case hd => rfl); (case hg => rfl); (case hr => first | (go_simp; done) | (go_simp; rfl)); intro gb230 hg w18 hbox hb; have n0_ := Aside0.mk (blk_below BK229.out hb); have n1_ := Aside0.mk (below_step HB.out hb); have n2_ := Aside0.mk (hbox); have n5_ := Aside0.mk ((by rw [hg]; exact Nat.ne_of_lt (blk_lt BK229.out) : gb229 ≠ gb230)); have n6_ := Aside0.mk ((by rw [hg]; exact Nat.ne_of_gt (blk_lt BK229.out) : gb230 ≠ gb229)); clear BK229; clear HB; have BK229 := n0_; have HB := n1_; have BK230 := n2_; have NB229_230 := n5_; have NB230_229 := n6_; clear n0_ n1_ n2_ n5_ n6_; clear hb hbox hg) | ((with_reducible refine gate_dst (N := 5) rfl ?_); (try (refine gate_guard (by rfl) ?_; dsimp only)); refine box_event ?hg (N := 5) ?hd (cs := #[.int .u64 a2_0, .string a2_1, .slice A2_2 l2_2.length c2_2]) (t := 40) ?hr ?_; (case hd => rfl); (case hg => rfl); (case hr => first | (go_simp; done) | (go_simp; rfl)); intro gb231 hg w19 hbox hb; have n0_ := Aside0.mk (blk_below BK229.out hb); have n1_ := Aside0.mk (blk_below BK230.out hb); have n2_ := Aside0.mk (below_step HB.out hb); have n3_ := Aside0.mk (hbox); have n6_ := Aside0.mk ((by rw [hg]; exact Nat.ne_of_lt (blk_lt BK229.out) : gb229 ≠ gb231)); have n7_ := Aside0.mk ((by rw [hg]; exact Nat.ne_of_gt (blk_lt BK229.out) : gb231 ≠ gb229)); have n8_ := Aside0.mk ((by rw [hg]; exact Nat.ne_of_lt (blk_lt BK230.out) : gb230 ≠ gb231)); have n9_ := Aside0.mk ((by rw [hg]; exact Nat.ne_of_gt (blk_lt BK230.out) : gb231 ≠ gb230)); clear BK229; clear BK230; clear HB; have BK229 := n0_; have BK230 := n1_; have HB := n2_; have BK231 := n3_; have NB229_231 := n6_; have NB231_229 := n7_; have NB230_231 := n8_; have NB231_230 := n9_; clear n0_ n1_ n2_ n3_ n6_ n7_ n8_ n9_; clear hb hbox hg; have hnb20 := NB230_229.out; have hnc20 := NB229_230.out; have hnb21 := NB230_231.out; have hnc21 := NB231_230.out; have hcz22_0 : w19.cell? ⟨gb230, 0, none⟩ = some (.string a1_0) := (blk_cell BK230.out 0).trans rfl; have hcz22_1 : w19.cell? ⟨gb230, 1, none⟩ = some (.int .i64 a1_1) := (blk_cell BK230.out 1).trans rfl; have hcz22_2 : w19.cell? ⟨gb230, 2, none⟩ = some (.int .i64 a1_2) := (blk_cell BK230.out 2).trans rfl; have hcz22_3 : w19.cell? ⟨gb230, 3, none⟩ = some (.string a1_3) := (blk_cell BK230.out 3).trans rfl; have hcz22_4 : w19.cell? ⟨gb230, 4, none⟩ = some (.bool a1_4) := (blk_cell BK230.out 4).trans rfl; have hcz22_5 : w19.cell? ⟨gb230, 5, none⟩ = some (.bool a1_5) := (blk_cell BK230.out 5).trans rfl; have hcz22_6 : w19.cell? ⟨gb230, 6, none⟩ = some (.string a1_6) := (blk_cell BK230.out 6).trans rfl; have hfz22_0 := blk_frozen BK230.out 0; have hfz22_1 := blk_frozen BK230.out 1; have hfz22_2 := blk_frozen BK230.out 2; have hfz22_3 := blk_frozen BK230.out 3; have hfz22_4 := blk_frozen BK230.out 4; have hfz22_5 := blk_frozen BK230.out 5; have hfz22_6 := blk_frozen BK230.out 6) | ((with_reducible refine gate_callee (f := 26) rfl ?_); refine goesL_ (some 9) rfl rfl Tryd.func26 (by kernel_rfl) rfl #[.int .i64 a1_2] rfl (by (try simp only [List.map_toArray, List.map_cons, List.map_nil]); first | done | rfl | (simp only [List.length_drop, List.length_take]; rfl)) ?_; (with_reducible refine (ecdysisref11_Number.calls a1_2 true _ A4.out).mono ?_); rintro e w' ⟨rfl, ⟨nd, rfl⟩⟩; refine ⟨_, rfl, ?_⟩; have hnb23 := NB231_229.out; have hnc23 := NB229_231.out; have hcz24_0 : w19.cell? ⟨gb231, 0, none⟩ = some (.int .u64 a2_0) := (blk_cell BK231.out 0).trans rfl; have hcz24_1 : w19.cell? ⟨gb231, 1, none⟩ = some (.string a2_1) := (blk_cell BK231.out 1).trans rfl; have hcz24_2 : w19.cell? ⟨gb231, 2, none⟩ = some (.slice A2_2 l2_2.length c2_2) := (blk_cell BK231.out 2).trans rfl; have hfz24_0 := blk_frozen BK231.out 0; have hfz24_1 := blk_frozen BK231.out 1; have hfz24_2 := blk_frozen BK231.out 2) | ((with_reducible refine gate_callee (f := 27) rfl ?_); refine goesL_ (some 14) rfl rfl Tryd.func27 (by kernel_rfl) rfl #[.int .i64 a1_2, .int .u64 a2_0] rfl (by (try simp only [List.map_toArray, List.map_cons, List.map_nil]); first | done | rfl | (simp only [List.length_drop, List.length_take]; rfl)) ?_; (with_reducible refine (ecdysisref11_May.calls k a1_2 a2_0 true _ A6.out).mono ?_); rintro e w' ⟨rfl, ⟨nd, rfl⟩⟩; refine ⟨_, rfl, ?_⟩))
       go_ret
       exact ⟨by first | rfl , by repeat (first | (with_reducible first | exact HB.out | apply pw_below_drewN ) )⟩
   · replace c7 := Bool.eq_false_iff.mpr c7
     subst c7
     have H1 : (some false) = some r := by rw [if_neg (show ¬ (false = true) by decide)] at H; exact H
     clear H
     have H := H1
     clear H1
     obtain rfl := Option.some.inj H
     go_enter Tryd.func13, Tryd.ntmps13
     go_wp2_with (first | ((with_reducible refine gate_dst (N := 3) rfl ?_); (try (refine gate_guard (by rfl) ?_; dsimp only)); refine box_event ?hg (N := 3) ?hd (cs := #[.slice A0_0 l0_0.length c0_0, .slice A0_1 l0_1.length c0_1]) (t := 25) ?hr ?_; (case hd => rfl); (case hg => rfl); (case hr => first | (go_simp; done) | (go_simp; rfl)); intro gb229 hg w25 hbox hb; have n0_ := Aside0.mk (below_step HB.out hb); have n1_ := Aside0.mk (hbox); clear HB; have HB := n0_; have BK229 := n1_; clear n0_ n1_; clear hb hbox hg) | ((with_reducible refine gate_dst (N := 4) rfl ?_); (try (refine gate_guard (by rfl) ?_; dsimp only)); refine box_event ?hg (N := 4) ?hd (cs := #[.string a1_0, .int .i64 a1_1, .int .i64 a1_2, .string a1_3, .bool a1_4, .bool a1_5, .string a1_6]) (t := 36) ?hr ?_; (case hd => rfl); (case hg => rfl); (case hr => first | (go_simp; done) | (go_simp; rfl)); intro gb230 hg w26 hbox hb; have n0_ := Aside0.mk (blk_below BK229.out hb); have n1_ := Aside0.mk (below_step HB.out hb); have n2_ := Aside0.mk (hbox); have n5_ := Aside0.mk ((by rw [hg]; exact Nat.ne_of_lt (blk_lt BK229.out) : gb229 ≠ gb230)); have n6_ := Aside0.mk ((by rw [hg]; exact Nat.ne_of_gt (blk_lt BK229.out) : gb230 ≠ gb229)); clear BK229; clear HB; have BK229 := n0_; have HB := n1_; have BK230 := n2_; have NB229_230 := n5_; have NB230_229 := n6_; clear n0_ n1_ n2_ n5_ n6_; clear hb hbox hg) | ((with_reducible refine gate_dst (N := 5) rfl ?_); (try (refine gate_guard (by rfl) ?_; dsimp only)); refine box_event ?hg (N := 5) ?hd (cs := #[.int .u64 a2_0, .string a2_1, .slice A2_2 l2_2.length c2_2]) (t := 40) ?hr ?_; (case hd => rfl); (case hg => rfl); (case hr => first | (go_simp; done) | (go_simp; rfl)); intro gb231 hg w27 hbox hb; have n0_ := Aside0.mk (blk_below BK229.out hb); have n1_ := Aside0.mk (blk_below BK230.out hb); have n2_ := Aside0.mk (below_step HB.out hb); have n3_ := Aside0.mk (hbox); have n6_ := Aside0.mk ((by rw [hg]; exact Nat.ne_of_lt (blk_lt BK229.out) : gb229 ≠ gb231)); have n7_ := Aside0.mk ((by rw [hg]; exact Nat.ne_of_gt (blk_lt BK229.out) : gb231 ≠ gb229)); have n8_ := Aside0.mk ((by rw [hg]; exact Nat.ne_of_lt (blk_lt BK230.out) : gb230 ≠ gb231)); have n9_ := Aside0.mk ((by rw [hg]; exact Nat.ne_of_gt (blk_lt BK230.out) : gb231 ≠ gb230)); clear BK229; clear BK230; clear HB; have BK229 := n0_; have BK230 := n1_; have HB := n2_; have BK231 := n3_; have NB229_231 := n6_; have NB231_229 := n7_; have NB230_231 := n8_; have NB231_230 := n9_; clear n0_ n1_ n2_ n3_ n6_ n7_ n8_ n9_; clear hb hbox hg; have hnb28 := NB230_229.out; have hnc28 := NB229_230.out; have hnb29 := NB230_231.out; have hnc29 := NB231_230.out; have hcz30_0 : w27.cell? ⟨gb230, 0, none⟩ = some (.string a1_0) := (blk_cell BK230.out 0).trans rfl; have hcz30_1 : w27.cell? ⟨gb230, 1, none⟩ = some (.int .i64 a1_1) := (blk_cell BK230.out 1).trans rfl; have hcz30_2 : w27.cell? ⟨gb230, 2, none⟩ = some (.int .i64 a1_2) := (blk_cell BK230.out 2).trans rfl; have hcz30_3 : w27.cell? ⟨gb230, 3, none⟩ = some (.string a1_3) := (blk_cell BK230.out 3).trans rfl; have hcz30_4 : w27.cell? ⟨gb230, 4, none⟩ = some (.bool a1_4) := (blk_cell BK230.out 4).trans rfl; have hcz30_5 : w27.cell? ⟨gb230, 5, none⟩ = some (.bool a1_5) := (blk_cell BK230.out 5).trans rfl; have hcz30_6 : w27.cell? ⟨gb230, 6, none⟩ = some (.string a1_6) := (blk_cell BK230.out 6).trans rfl; have hfz30_0 := blk_frozen BK230.out 0; have hfz30_1 := blk_frozen BK230.out 1; have hfz30_2 := blk_frozen BK230.out 2; have hfz30_3 := blk_frozen BK230.out 3; have hfz30_4 := blk_frozen BK230.out 4; have hfz30_5 := blk_frozen BK230.out 5; have hfz30_6 := blk_frozen BK230.out 6) | ((with_reducible refine gate_callee (f := 26) rfl ?_); refine goesL_ (some 9) rfl rfl Tryd.func26 (by kernel_rfl) rfl #[.int .i64 a1_2] rfl (by (try simp only [List.map_toArray, List.map_cons, List.map_nil]); first | done | rfl | (simp only [List.length_drop, List.length_take]; rfl)) ?_; (with_reducible refine (ecdysisref11_Number.calls a1_2 true _ A4.out).mono ?_); rintro e w' ⟨rfl, ⟨nd, rfl⟩⟩; refine ⟨_, rfl, ?_⟩; have hnb31 := NB231_229.out; have hnc31 := NB229_231.out; have hcz32_0 : w27.cell? ⟨gb231, 0, none⟩ = some (.int .u64 a2_0) := (blk_cell BK231.out 0).trans rfl; have hcz32_1 : w27.cell? ⟨gb231, 1, none⟩ = some (.string a2_1) := (blk_cell BK231.out 1).trans rfl; have hcz32_2 : w27.cell? ⟨gb231, 2, none⟩ = some (.slice A2_2 l2_2.length c2_2) := (blk_cell BK231.out 2).trans rfl; have hfz32_0 := blk_frozen BK231.out 0; have hfz32_1 := blk_frozen BK231.out 1; have hfz32_2 := blk_frozen BK231.out 2) | ((with_reducible refine gate_callee (f := 27) rfl ?_); refine goesL_ (some 14) rfl rfl Tryd.func27 (by kernel_rfl) rfl #[.int .i64 a1_2, .int .u64 a2_0] rfl (by (try simp only [List.map_toArray, List.map_cons, List.map_nil]); first | done | rfl | (simp only [List.length_drop, List.length_take]; rfl)) ?_; (with_reducible refine (ecdysisref11_May.calls k a1_2 a2_0 false _ A6.out).mono ?_); rintro e w' ⟨rfl, ⟨nd, rfl⟩⟩; refine ⟨_, rfl, ?_⟩))
     go_ret
     exact ⟨by first | rfl , by repeat (first | (with_reducible first | exact HB.out | apply pw_below_drewN ) )⟩
 · replace c5 := Bool.eq_false_iff.mpr c5
   subst c5
   have H1 : (if a1_2 = 12 then (if a2_0 = 0 then (if (l2_2.length : Int) = 0 then ((utf8_ValidString.f a2_1).bind fun t234 => (some t234)) else (some false)) else (some false)) else (if a1_2 = 13 then (if a2_0 = 0 then (some ((l2_2.length : Int) == 0)) else (some false)) else (if a1_2 = 15 then (if a2_0 = 0 then (if a2_1.toList = ([] : List UInt8) then (if (l2_2.length : Int) = 1 then (if 0 < (l2_2.length : Int) then ((ecdysisref20_Tree.f k l0_0 l0_1 a1_3 ((rd_T29 l2_2 0).f0) ((rd_T29 l2_2 0).f1)).bind fun t236 => (some t236)) else (none)) else (some false)) else (some false)) else (some false)) else (some false)))) = some r := by rw [if_neg (show ¬ (false = true) by decide)] at H; exact H
   clear H
   have H := H1
   clear H1
   by_cases c33 : a1_2 = 12
   · rw [if_pos c33] at H
     have c33b0 : (a1_2 == 12) = true := beq_iff_eq.mpr c33
     have c33b1 : (a1_2 != 12) = false := bne_eq_false_iff_eq.mpr c33
     clear c33
     by_cases c34 : a2_0 = 0
     · rw [if_pos c34] at H
       have c34b0 : (a2_0 == 0) = true := beq_iff_eq.mpr c34
       have c34b1 : (a2_0 != 0) = false := bne_eq_false_iff_eq.mpr c34
       clear c34
       by_cases c35 : (l2_2.length : Int) = 0
       · rw [if_pos c35] at H
         have c35b0 : ((l2_2.length : Int) == 0) = true := beq_iff_eq.mpr c35
         have c35b1 : ((l2_2.length : Int) != 0) = false := bne_eq_false_iff_eq.mpr c35
         clear c35
         replace H := Option.bind_eq_some_iff.mp H
         obtain ⟨t234, A360, H⟩ := H
         replace H : (some t234) = some r := H
         have A36 := Aside0.mk A360
         clear A360
         obtain rfl := Option.some.inj H
         go_enter Tryd.func13, Tryd.ntmps13
         go_wp2_with (first | ((with_reducible refine gate_dst (N := 3) rfl ?_); (try (refine gate_guard (by rfl) ?_; dsimp only)); refine box_event ?hg (N := 3) ?hd (cs := #[.slice A0_0 l0_0.length c0_0, .slice A0_1 l0_1.length c0_1]) (t := 25) ?hr ?_; (case hd => rfl); (case hg => rfl); (case hr => first | (go_simp; done) | (go_simp; rfl)); intro gb229 hg w37 hbox hb; have n0_ := Aside0.mk (below_step HB.out hb); have n1_ := Aside0.mk (hbox); clear HB; have HB := n0_; have BK229 := n1_; clear n0_ n1_; clear hb hbox hg) | ((with_reducible refine gate_dst (N := 4) rfl ?_); (try (refine gate_guard (by rfl) ?_; dsimp only)); refine box_event ?hg (N := 4) ?hd (cs := #[.string a1_0, .int .i64 a1_1, .int .i64 a1_2, .string a1_3, .bool a1_4, .bool a1_5, .string a1_6]) (t := 36) ?hr ?_; (case hd => rfl); (case hg => rfl); (case hr => first | (go_simp; done) | (go_simp; rfl)); intro gb230 hg w38 hbox hb; have n0_ := Aside0.mk (blk_below BK229.out hb); have n1_ := Aside0.mk (below_step HB.out hb); have n2_ := Aside0.mk (hbox); have n5_ := Aside0.mk ((by rw [hg]; exact Nat.ne_of_lt (blk_lt BK229.out) : gb229 ≠ gb230)); have n6_ := Aside0.mk ((by rw [hg]; exact Nat.ne_of_gt (blk_lt BK229.out) : gb230 ≠ gb229)); clear BK229; clear HB; have BK229 := n0_; have HB := n1_; have BK230 := n2_; have NB229_230 := n5_; have NB230_229 := n6_; clear n0_ n1_ n2_ n5_ n6_; clear hb hbox hg) | ((with_reducible refine gate_dst (N := 5) rfl ?_); (try (refine gate_guard (by rfl) ?_; dsimp only)); refine box_event ?hg (N := 5) ?hd (cs := #[.int .u64 a2_0, .string a2_1, .slice A2_2 l2_2.length c2_2]) (t := 40) ?hr ?_; (case hd => rfl); (case hg => rfl); (case hr => first | (go_simp; done) | (go_simp; rfl)); intro gb231 hg w39 hbox hb; have n0_ := Aside0.mk (blk_below BK229.out hb); have n1_ := Aside0.mk (blk_below BK230.out hb); have n2_ := Aside0.mk (below_step HB.out hb); have n3_ := Aside0.mk (hbox); have n6_ := Aside0.mk ((by rw [hg]; exact Nat.ne_of_lt (blk_lt BK229.out) : gb229 ≠ gb231)); have n7_ := Aside0.mk ((by rw [hg]; exact Nat.ne_of_gt (blk_lt BK229.out) : gb231 ≠ gb229)); have n8_ := Aside0.mk ((by rw [hg]; exact Nat.ne_of_lt (blk_lt BK230.out) : gb230 ≠ gb231)); have n9_ := Aside0.mk ((by rw [hg]; exact Nat.ne_of_gt (blk_lt BK230.out) : gb231 ≠ gb230)); clear BK229; clear BK230; clear HB; have BK229 := n0_; have BK230 := n1_; have HB := n2_; have BK231 := n3_; have NB229_231 := n6_; have NB231_229 := n7_; have NB230_231 := n8_; have NB231_230 := n9_; clear n0_ n1_ n2_ n3_ n6_ n7_ n8_ n9_; clear hb hbox hg; have hnb40 := NB230_229.out; have hnc40 := NB229_230.out; have hnb41 := NB230_231.out; have hnc41 := NB231_230.out; have hcz42_0 : w39.cell? ⟨gb230, 0, none⟩ = some (.string a1_0) := (blk_cell BK230.out 0).trans rfl; have hcz42_1 : w39.cell? ⟨gb230, 1, none⟩ = some (.int .i64 a1_1) := (blk_cell BK230.out 1).trans rfl; have hcz42_2 : w39.cell? ⟨gb230, 2, none⟩ = some (.int .i64 a1_2) := (blk_cell BK230.out 2).trans rfl; have hcz42_3 : w39.cell? ⟨gb230, 3, none⟩ = some (.string a1_3) := (blk_cell BK230.out 3).trans rfl; have hcz42_4 : w39.cell? ⟨gb230, 4, none⟩ = some (.bool a1_4) := (blk_cell BK230.out 4).trans rfl; have hcz42_5 : w39.cell? ⟨gb230, 5, none⟩ = some (.bool a1_5) := (blk_cell BK230.out 5).trans rfl; have hcz42_6 : w39.cell? ⟨gb230, 6, none⟩ = some (.string a1_6) := (blk_cell BK230.out 6).trans rfl; have hfz42_0 := blk_frozen BK230.out 0; have hfz42_1 := blk_frozen BK230.out 1; have hfz42_2 := blk_frozen BK230.out 2; have hfz42_3 := blk_frozen BK230.out 3; have hfz42_4 := blk_frozen BK230.out 4; have hfz42_5 := blk_frozen BK230.out 5; have hfz42_6 := blk_frozen BK230.out 6) | ((with_reducible refine gate_callee (f := 26) rfl ?_); refine goesL_ (some 9) rfl rfl Tryd.func26 (by kernel_rfl) rfl #[.int .i64 a1_2] rfl (by (try simp only [List.map_toArray, List.map_cons, List.map_nil]); first | done | rfl | (simp only [List.length_drop, List.length_take]; rfl)) ?_; (with_reducible refine (ecdysisref11_Number.calls a1_2 false _ A4.out).mono ?_); rintro e w' ⟨rfl, ⟨nd, rfl⟩⟩; refine ⟨_, rfl, ?_⟩; have hnb43 := NB231_229.out; have hnc43 := NB229_231.out; have hcz44_0 : w39.cell? ⟨gb231, 0, none⟩ = some (.int .u64 a2_0) := (blk_cell BK231.out 0).trans rfl; have hcz44_1 : w39.cell? ⟨gb231, 1, none⟩ = some (.string a2_1) := (blk_cell BK231.out 1).trans rfl; have hcz44_2 : w39.cell? ⟨gb231, 2, none⟩ = some (.slice A2_2 l2_2.length c2_2) := (blk_cell BK231.out 2).trans rfl; have hfz44_0 := blk_frozen BK231.out 0; have hfz44_1 := blk_frozen BK231.out 1; have hfz44_2 := blk_frozen BK231.out 2) | (go_at_call 25; (with_reducible refine (utf8_ValidString.calls a2_1 t234 _ ?sideT A36.out).mono ?_); (case sideT => exact Tabs.below HU8.out (by repeat (first | (with_reducible first | exact HB.out | apply pw_below_drewN ) ))); rintro e w45 ⟨rfl, hb⟩; have n0_ := Aside0.mk (blk_below (g := gb229) (o := .cells #[.slice A0_0 l0_0.length c0_0, .slice A0_1 l0_1.length c0_1] 25 (0, 0)) (by (with_reducible repeat (first | refine blk_drewN ?_ _ )); exact BK229.out) hb); have n1_ := Aside0.mk (blk_below (g := gb230) (o := .cells #[.string a1_0, .int .i64 a1_1, .int .i64 a1_2, .string a1_3, .bool a1_4, .bool a1_5, .string a1_6] 36 (0, 0)) (by (with_reducible repeat (first | refine blk_drewN ?_ _ )); exact BK230.out) hb); have n2_ := Aside0.mk (blk_below (g := gb231) (o := .cells #[.int .u64 a2_0, .string a2_1, .slice A2_2 l2_2.length c2_2] 40 (0, 0)) (by (with_reducible repeat (first | refine blk_drewN ?_ _ )); exact BK231.out) hb); have n3_ := Aside0.mk (below_step (by repeat (first | (with_reducible first | exact HB.out | apply pw_below_drewN ) )) hb); clear BK229; clear BK230; clear BK231; clear HB; have BK229 := n0_; have BK230 := n1_; have BK231 := n2_; have HB := n3_; clear n0_ n1_ n2_ n3_; (try clear hb); (try clear hb2); (try clear hk); (try clear hi)))
         go_ret
         exact ⟨by first | rfl , by exact HB.out⟩
       · rw [if_neg c35] at H
         have c35b0 : ((l2_2.length : Int) == 0) = false := beq_eq_false_iff_ne.mpr c35
         have c35b1 : ((l2_2.length : Int) != 0) = true := bne_iff_ne.mpr c35
         have c35b2 : ¬ (l2_2 = []) := fun h_ => c35 (by rw [h_]; rfl)
         obtain rfl := Option.some.inj H
         go_enter Tryd.func13, Tryd.ntmps13
         go_wp2_with (first | ((with_reducible refine gate_dst (N := 3) rfl ?_); (try (refine gate_guard (by rfl) ?_; dsimp only)); refine box_event ?hg (N := 3) ?hd (cs := #[.slice A0_0 l0_0.length c0_0, .slice A0_1 l0_1.length c0_1]) (t := 25) ?hr ?_; (case hd => rfl); (case hg => rfl); (case hr => first | (go_simp; done) | (go_simp; rfl)); intro gb229 hg w46 hbox hb; have n0_ := Aside0.mk (below_step HB.out hb); have n1_ := Aside0.mk (hbox); clear HB; have HB := n0_; have BK229 := n1_; clear n0_ n1_; clear hb hbox hg) | ((with_reducible refine gate_dst (N := 4) rfl ?_); (try (refine gate_guard (by rfl) ?_; dsimp only)); refine box_event ?hg (N := 4) ?hd (cs := #[.string a1_0, .int .i64 a1_1, .int .i64 a1_2, .string a1_3, .bool a1_4, .bool a1_5, .string a1_6]) (t := 36) ?hr ?_; (case hd => rfl); (case hg => rfl); (case hr => first | (go_simp; done) | (go_simp; rfl)); intro gb230 hg w47 hbox hb; have n0_ := Aside0.mk (blk_below BK229.out hb); have n1_ := Aside0.mk (below_step HB.out hb); have n2_ := Aside0.mk (hbox); have n5_ := Aside0.mk ((by rw [hg]; exact Nat.ne_of_lt (blk_lt BK229.out) : gb229 ≠ gb230)); have n6_ := Aside0.mk ((by rw [hg]; exact Nat.ne_of_gt (blk_lt BK229.out) : gb230 ≠ gb229)); clear BK229; clear HB; have BK229 := n0_; have HB := n1_; have BK230 := n2_; have NB229_230 := n5_; have NB230_229 := n6_; clear n0_ n1_ n2_ n5_ n6_; clear hb hbox hg) | ((with_reducible refine gate_dst (N := 5) rfl ?_); (try (refine gate_guard (by rfl) ?_; dsimp only)); refine box_event ?hg (N := 5) ?hd (cs := #[.int .u64 a2_0, .string a2_1, .slice A2_2 l2_2.length c2_2]) (t := 40) ?hr ?_; (case hd => rfl); (case hg => rfl); (case hr => first | (go_simp; done) | (go_simp; rfl)); intro gb231 hg w48 hbox hb; have n0_ := Aside0.mk (blk_below BK229.out hb); have n1_ := Aside0.mk (blk_below BK230.out hb); have n2_ := Aside0.mk (below_step HB.out hb); have n3_ := Aside0.mk (hbox); have n6_ := Aside0.mk ((by rw [hg]; exact Nat.ne_of_lt (blk_lt BK229.out) : gb229 ≠ gb231)); have n7_ := Aside0.mk ((by rw [hg]; exact Nat.ne_of_gt (blk_lt BK229.out) : gb231 ≠ gb229)); have n8_ := Aside0.mk ((by rw [hg]; exact Nat.ne_of_lt (blk_lt BK230.out) : gb230 ≠ gb231)); have n9_ := Aside0.mk ((by rw [hg]; exact Nat.ne_of_gt (blk_lt BK230.out) : gb231 ≠ gb230)); clear BK229; clear BK230; clear HB; have BK229 := n0_; have BK230 := n1_; have HB := n2_; have BK231 := n3_; have NB229_231 := n6_; have NB231_229 := n7_; have NB230_231 := n8_; have NB231_230 := n9_; clear n0_ n1_ n2_ n3_ n6_ n7_ n8_ n9_; clear hb hbox hg; have hnb49 := NB230_229.out; have hnc49 := NB229_230.out; have hnb50 := NB230_231.out; have hnc50 := NB231_230.out; have hcz51_0 : w48.cell? ⟨gb230, 0, none⟩ = some (.string a1_0) := (blk_cell BK230.out 0).trans rfl; have hcz51_1 : w48.cell? ⟨gb230, 1, none⟩ = some (.int .i64 a1_1) := (blk_cell BK230.out 1).trans rfl; have hcz51_2 : w48.cell? ⟨gb230, 2, none⟩ = some (.int .i64 a1_2) := (blk_cell BK230.out 2).trans rfl; have hcz51_3 : w48.cell? ⟨gb230, 3, none⟩ = some (.string a1_3) := (blk_cell BK230.out 3).trans rfl; have hcz51_4 : w48.cell? ⟨gb230, 4, none⟩ = some (.bool a1_4) := (blk_cell BK230.out 4).trans rfl; have hcz51_5 : w48.cell? ⟨gb230, 5, none⟩ = some (.bool a1_5) := (blk_cell BK230.out 5).trans rfl; have hcz51_6 : w48.cell? ⟨gb230, 6, none⟩ = some (.string a1_6) := (blk_cell BK230.out 6).trans rfl; have hfz51_0 := blk_frozen BK230.out 0; have hfz51_1 := blk_frozen BK230.out 1; have hfz51_2 := blk_frozen BK230.out 2; have hfz51_3 := blk_frozen BK230.out 3; have hfz51_4 := blk_frozen BK230.out 4; have hfz51_5 := blk_frozen BK230.out 5; have hfz51_6 := blk_frozen BK230.out 6) | ((with_reducible refine gate_callee (f := 26) rfl ?_); refine goesL_ (some 9) rfl rfl Tryd.func26 (by kernel_rfl) rfl #[.int .i64 a1_2] rfl (by (try simp only [List.map_toArray, List.map_cons, List.map_nil]); first | done | rfl | (simp only [List.length_drop, List.length_take]; rfl)) ?_; (with_reducible refine (ecdysisref11_Number.calls a1_2 false _ A4.out).mono ?_); rintro e w' ⟨rfl, ⟨nd, rfl⟩⟩; refine ⟨_, rfl, ?_⟩; have hnb52 := NB231_229.out; have hnc52 := NB229_231.out; have hcz53_0 : w48.cell? ⟨gb231, 0, none⟩ = some (.int .u64 a2_0) := (blk_cell BK231.out 0).trans rfl; have hcz53_1 : w48.cell? ⟨gb231, 1, none⟩ = some (.string a2_1) := (blk_cell BK231.out 1).trans rfl; have hcz53_2 : w48.cell? ⟨gb231, 2, none⟩ = some (.slice A2_2 l2_2.length c2_2) := (blk_cell BK231.out 2).trans rfl; have hfz53_0 := blk_frozen BK231.out 0; have hfz53_1 := blk_frozen BK231.out 1; have hfz53_2 := blk_frozen BK231.out 2))
         go_ret
         exact ⟨by first | rfl , by repeat (first | (with_reducible first | exact HB.out | apply pw_below_drewN ) )⟩
     · rw [if_neg c34] at H
       have c34b0 : (a2_0 == 0) = false := beq_eq_false_iff_ne.mpr c34
       have c34b1 : (a2_0 != 0) = true := bne_iff_ne.mpr c34
       obtain rfl := Option.some.inj H
       go_enter Tryd.func13, Tryd.ntmps13
       go_wp2_with (first | ((with_reducible refine gate_dst (N := 3) rfl ?_); (try (refine gate_guard (by rfl) ?_; dsimp only)); refine box_event ?hg (N := 3) ?hd (cs := #[.slice A0_0 l0_0.length c0_0, .slice A0_1 l0_1.length c0_1]) (t := 25) ?hr ?_; (case hd => rfl); (case hg => rfl); (case hr => first | (go_simp; done) | (go_simp; rfl)); intro gb229 hg w54 hbox hb; have n0_ := Aside0.mk (below_step HB.out hb); have n1_ := Aside0.mk (hbox); clear HB; have HB := n0_; have BK229 := n1_; clear n0_ n1_; clear hb hbox hg) | ((with_reducible refine gate_dst (N := 4) rfl ?_); (try (refine gate_guard (by rfl) ?_; dsimp only)); refine box_event ?hg (N := 4) ?hd (cs := #[.string a1_0, .int .i64 a1_1, .int .i64 a1_2, .string a1_3, .bool a1_4, .bool a1_5, .string a1_6]) (t := 36) ?hr ?_; (case hd => rfl); (case hg => rfl); (case hr => first | (go_simp; done) | (go_simp; rfl)); intro gb230 hg w55 hbox hb; have n0_ := Aside0.mk (blk_below BK229.out hb); have n1_ := Aside0.mk (below_step HB.out hb); have n2_ := Aside0.mk (hbox); have n5_ := Aside0.mk ((by rw [hg]; exact Nat.ne_of_lt (blk_lt BK229.out) : gb229 ≠ gb230)); have n6_ := Aside0.mk ((by rw [hg]; exact Nat.ne_of_gt (blk_lt BK229.out) : gb230 ≠ gb229)); clear BK229; clear HB; have BK229 := n0_; have HB := n1_; have BK230 := n2_; have NB229_230 := n5_; have NB230_229 := n6_; clear n0_ n1_ n2_ n5_ n6_; clear hb hbox hg) | ((with_reducible refine gate_dst (N := 5) rfl ?_); (try (refine gate_guard (by rfl) ?_; dsimp only)); refine box_event ?hg (N := 5) ?hd (cs := #[.int .u64 a2_0, .string a2_1, .slice A2_2 l2_2.length c2_2]) (t := 40) ?hr ?_; (case hd => rfl); (case hg => rfl); (case hr => first | (go_simp; done) | (go_simp; rfl)); intro gb231 hg w56 hbox hb; have n0_ := Aside0.mk (blk_below BK229.out hb); have n1_ := Aside0.mk (blk_below BK230.out hb); have n2_ := Aside0.mk (below_step HB.out hb); have n3_ := Aside0.mk (hbox); have n6_ := Aside0.mk ((by rw [hg]; exact Nat.ne_of_lt (blk_lt BK229.out) : gb229 ≠ gb231)); have n7_ := Aside0.mk ((by rw [hg]; exact Nat.ne_of_gt (blk_lt BK229.out) : gb231 ≠ gb229)); have n8_ := Aside0.mk ((by rw [hg]; exact Nat.ne_of_lt (blk_lt BK230.out) : gb230 ≠ gb231)); have n9_ := Aside0.mk ((by rw [hg]; exact Nat.ne_of_gt (blk_lt BK230.out) : gb231 ≠ gb230)); clear BK229; clear BK230; clear HB; have BK229 := n0_; have BK230 := n1_; have HB := n2_; have BK231 := n3_; have NB229_231 := n6_; have NB231_229 := n7_; have NB230_231 := n8_; have NB231_230 := n9_; clear n0_ n1_ n2_ n3_ n6_ n7_ n8_ n9_; clear hb hbox hg; have hnb57 := NB230_229.out; have hnc57 := NB229_230.out; have hnb58 := NB230_231.out; have hnc58 := NB231_230.out; have hcz59_0 : w56.cell? ⟨gb230, 0, none⟩ = some (.string a1_0) := (blk_cell BK230.out 0).trans rfl; have hcz59_1 : w56.cell? ⟨gb230, 1, none⟩ = some (.int .i64 a1_1) := (blk_cell BK230.out 1).trans rfl; have hcz59_2 : w56.cell? ⟨gb230, 2, none⟩ = some (.int .i64 a1_2) := (blk_cell BK230.out 2).trans rfl; have hcz59_3 : w56.cell? ⟨gb230, 3, none⟩ = some (.string a1_3) := (blk_cell BK230.out 3).trans rfl; have hcz59_4 : w56.cell? ⟨gb230, 4, none⟩ = some (.bool a1_4) := (blk_cell BK230.out 4).trans rfl; have hcz59_5 : w56.cell? ⟨gb230, 5, none⟩ = some (.bool a1_5) := (blk_cell BK230.out 5).trans rfl; have hcz59_6 : w56.cell? ⟨gb230, 6, none⟩ = some (.string a1_6) := (blk_cell BK230.out 6).trans rfl; have hfz59_0 := blk_frozen BK230.out 0; have hfz59_1 := blk_frozen BK230.out 1; have hfz59_2 := blk_frozen BK230.out 2; have hfz59_3 := blk_frozen BK230.out 3; have hfz59_4 := blk_frozen BK230.out 4; have hfz59_5 := blk_frozen BK230.out 5; have hfz59_6 := blk_frozen BK230.out 6) | ((with_reducible refine gate_callee (f := 26) rfl ?_); refine goesL_ (some 9) rfl rfl Tryd.func26 (by kernel_rfl) rfl #[.int .i64 a1_2] rfl (by (try simp only [List.map_toArray, List.map_cons, List.map_nil]); first | done | rfl | (simp only [List.length_drop, List.length_take]; rfl)) ?_; (with_reducible refine (ecdysisref11_Number.calls a1_2 false _ A4.out).mono ?_); rintro e w' ⟨rfl, ⟨nd, rfl⟩⟩; refine ⟨_, rfl, ?_⟩; have hnb60 := NB231_229.out; have hnc60 := NB229_231.out; have hcz61_0 : w56.cell? ⟨gb231, 0, none⟩ = some (.int .u64 a2_0) := (blk_cell BK231.out 0).trans rfl; have hcz61_1 : w56.cell? ⟨gb231, 1, none⟩ = some (.string a2_1) := (blk_cell BK231.out 1).trans rfl; have hcz61_2 : w56.cell? ⟨gb231, 2, none⟩ = some (.slice A2_2 l2_2.length c2_2) := (blk_cell BK231.out 2).trans rfl; have hfz61_0 := blk_frozen BK231.out 0; have hfz61_1 := blk_frozen BK231.out 1; have hfz61_2 := blk_frozen BK231.out 2))
       go_ret
       exact ⟨by first | rfl , by repeat (first | (with_reducible first | exact HB.out | apply pw_below_drewN ) )⟩
   · rw [if_neg c33] at H
     have c33b0 : (a1_2 == 12) = false := beq_eq_false_iff_ne.mpr c33
     have c33b1 : (a1_2 != 12) = true := bne_iff_ne.mpr c33
     by_cases c62 : a1_2 = 13
     · rw [if_pos c62] at H
       have c62b0 : (a1_2 == 13) = true := beq_iff_eq.mpr c62
       have c62b1 : (a1_2 != 13) = false := bne_eq_false_iff_eq.mpr c62
       clear c62
       by_cases c63 : a2_0 = 0
       · rw [if_pos c63] at H
         have c63b0 : (a2_0 == 0) = true := beq_iff_eq.mpr c63
         have c63b1 : (a2_0 != 0) = false := bne_eq_false_iff_eq.mpr c63
         clear c63
         obtain rfl := Option.some.inj H
         go_enter Tryd.func13, Tryd.ntmps13
         go_wp2_with (first | ((with_reducible refine gate_dst (N := 3) rfl ?_); (try (refine gate_guard (by rfl) ?_; dsimp only)); refine box_event ?hg (N := 3) ?hd (cs := #[.slice A0_0 l0_0.length c0_0, .slice A0_1 l0_1.length c0_1]) (t := 25) ?hr ?_; (case hd => rfl); (case hg => rfl); (case hr => first | (go_simp; done) | (go_simp; rfl)); intro gb229 hg w64 hbox hb; have n0_ := Aside0.mk (below_step HB.out hb); have n1_ := Aside0.mk (hbox); clear HB; have HB := n0_; have BK229 := n1_; clear n0_ n1_; clear hb hbox hg) | ((with_reducible refine gate_dst (N := 4) rfl ?_); (try (refine gate_guard (by rfl) ?_; dsimp only)); refine box_event ?hg (N := 4) ?hd (cs := #[.string a1_0, .int .i64 a1_1, .int .i64 a1_2, .string a1_3, .bool a1_4, .bool a1_5, .string a1_6]) (t := 36) ?hr ?_; (case hd => rfl); (case hg => rfl); (case hr => first | (go_simp; done) | (go_simp; rfl)); intro gb230 hg w65 hbox hb; have n0_ := Aside0.mk (blk_below BK229.out hb); have n1_ := Aside0.mk (below_step HB.out hb); have n2_ := Aside0.mk (hbox); have n5_ := Aside0.mk ((by rw [hg]; exact Nat.ne_of_lt (blk_lt BK229.out) : gb229 ≠ gb230)); have n6_ := Aside0.mk ((by rw [hg]; exact Nat.ne_of_gt (blk_lt BK229.out) : gb230 ≠ gb229)); clear BK229; clear HB; have BK229 := n0_; have HB := n1_; have BK230 := n2_; have NB229_230 := n5_; have NB230_229 := n6_; clear n0_ n1_ n2_ n5_ n6_; clear hb hbox hg) | ((with_reducible refine gate_dst (N := 5) rfl ?_); (try (refine gate_guard (by rfl) ?_; dsimp only)); refine box_event ?hg (N := 5) ?hd (cs := #[.int .u64 a2_0, .string a2_1, .slice A2_2 l2_2.length c2_2]) (t := 40) ?hr ?_; (case hd => rfl); (case hg => rfl); (case hr => first | (go_simp; done) | (go_simp; rfl)); intro gb231 hg w66 hbox hb; have n0_ := Aside0.mk (blk_below BK229.out hb); have n1_ := Aside0.mk (blk_below BK230.out hb); have n2_ := Aside0.mk (below_step HB.out hb); have n3_ := Aside0.mk (hbox); have n6_ := Aside0.mk ((by rw [hg]; exact Nat.ne_of_lt (blk_lt BK229.out) : gb229 ≠ gb231)); have n7_ := Aside0.mk ((by rw [hg]; exact Nat.ne_of_gt (blk_lt BK229.out) : gb231 ≠ gb229)); have n8_ := Aside0.mk ((by rw [hg]; exact Nat.ne_of_lt (blk_lt BK230.out) : gb230 ≠ gb231)); have n9_ := Aside0.mk ((by rw [hg]; exact Nat.ne_of_gt (blk_lt BK230.out) : gb231 ≠ gb230)); clear BK229; clear BK230; clear HB; have BK229 := n0_; have BK230 := n1_; have HB := n2_; have BK231 := n3_; have NB229_231 := n6_; have NB231_229 := n7_; have NB230_231 := n8_; have NB231_230 := n9_; clear n0_ n1_ n2_ n3_ n6_ n7_ n8_ n9_; clear hb hbox hg; have hnb67 := NB230_229.out; have hnc67 := NB229_230.out; have hnb68 := NB230_231.out; have hnc68 := NB231_230.out; have hcz69_0 : w66.cell? ⟨gb230, 0, none⟩ = some (.string a1_0) := (blk_cell BK230.out 0).trans rfl; have hcz69_1 : w66.cell? ⟨gb230, 1, none⟩ = some (.int .i64 a1_1) := (blk_cell BK230.out 1).trans rfl; have hcz69_2 : w66.cell? ⟨gb230, 2, none⟩ = some (.int .i64 a1_2) := (blk_cell BK230.out 2).trans rfl; have hcz69_3 : w66.cell? ⟨gb230, 3, none⟩ = some (.string a1_3) := (blk_cell BK230.out 3).trans rfl; have hcz69_4 : w66.cell? ⟨gb230, 4, none⟩ = some (.bool a1_4) := (blk_cell BK230.out 4).trans rfl; have hcz69_5 : w66.cell? ⟨gb230, 5, none⟩ = some (.bool a1_5) := (blk_cell BK230.out 5).trans rfl; have hcz69_6 : w66.cell? ⟨gb230, 6, none⟩ = some (.string a1_6) := (blk_cell BK230.out 6).trans rfl; have hfz69_0 := blk_frozen BK230.out 0; have hfz69_1 := blk_frozen BK230.out 1; have hfz69_2 := blk_frozen BK230.out 2; have hfz69_3 := blk_frozen BK230.out 3; have hfz69_4 := blk_frozen BK230.out 4; have hfz69_5 := blk_frozen BK230.out 5; have hfz69_6 := blk_frozen BK230.out 6) | ((with_reducible refine gate_callee (f := 26) rfl ?_); refine goesL_ (some 9) rfl rfl Tryd.func26 (by kernel_rfl) rfl #[.int .i64 a1_2] rfl (by (try simp only [List.map_toArray, List.map_cons, List.map_nil]); first | done | rfl | (simp only [List.length_drop, List.length_take]; rfl)) ?_; (with_reducible refine (ecdysisref11_Number.calls a1_2 false _ A4.out).mono ?_); rintro e w' ⟨rfl, ⟨nd, rfl⟩⟩; refine ⟨_, rfl, ?_⟩; have hnb70 := NB231_229.out; have hnc70 := NB229_231.out; have hcz71_0 : w66.cell? ⟨gb231, 0, none⟩ = some (.int .u64 a2_0) := (blk_cell BK231.out 0).trans rfl; have hcz71_1 : w66.cell? ⟨gb231, 1, none⟩ = some (.string a2_1) := (blk_cell BK231.out 1).trans rfl; have hcz71_2 : w66.cell? ⟨gb231, 2, none⟩ = some (.slice A2_2 l2_2.length c2_2) := (blk_cell BK231.out 2).trans rfl; have hfz71_0 := blk_frozen BK231.out 0; have hfz71_1 := blk_frozen BK231.out 1; have hfz71_2 := blk_frozen BK231.out 2))
         go_ret
         exact ⟨by first | rfl , by repeat (first | (with_reducible first | exact HB.out | apply pw_below_drewN ) )⟩
       · rw [if_neg c63] at H
         have c63b0 : (a2_0 == 0) = false := beq_eq_false_iff_ne.mpr c63
         have c63b1 : (a2_0 != 0) = true := bne_iff_ne.mpr c63
         obtain rfl := Option.some.inj H
         go_enter Tryd.func13, Tryd.ntmps13
         go_wp2_with (first | ((with_reducible refine gate_dst (N := 3) rfl ?_); (try (refine gate_guard (by rfl) ?_; dsimp only)); refine box_event ?hg (N := 3) ?hd (cs := #[.slice A0_0 l0_0.length c0_0, .slice A0_1 l0_1.length c0_1]) (t := 25) ?hr ?_; (case hd => rfl); (case hg => rfl); (case hr => first | (go_simp; done) | (go_simp; rfl)); intro gb229 hg w72 hbox hb; have n0_ := Aside0.mk (below_step HB.out hb); have n1_ := Aside0.mk (hbox); clear HB; have HB := n0_; have BK229 := n1_; clear n0_ n1_; clear hb hbox hg) | ((with_reducible refine gate_dst (N := 4) rfl ?_); (try (refine gate_guard (by rfl) ?_; dsimp only)); refine box_event ?hg (N := 4) ?hd (cs := #[.string a1_0, .int .i64 a1_1, .int .i64 a1_2, .string a1_3, .bool a1_4, .bool a1_5, .string a1_6]) (t := 36) ?hr ?_; (case hd => rfl); (case hg => rfl); (case hr => first | (go_simp; done) | (go_simp; rfl)); intro gb230 hg w73 hbox hb; have n0_ := Aside0.mk (blk_below BK229.out hb); have n1_ := Aside0.mk (below_step HB.out hb); have n2_ := Aside0.mk (hbox); have n5_ := Aside0.mk ((by rw [hg]; exact Nat.ne_of_lt (blk_lt BK229.out) : gb229 ≠ gb230)); have n6_ := Aside0.mk ((by rw [hg]; exact Nat.ne_of_gt (blk_lt BK229.out) : gb230 ≠ gb229)); clear BK229; clear HB; have BK229 := n0_; have HB := n1_; have BK230 := n2_; have NB229_230 := n5_; have NB230_229 := n6_; clear n0_ n1_ n2_ n5_ n6_; clear hb hbox hg) | ((with_reducible refine gate_dst (N := 5) rfl ?_); (try (refine gate_guard (by rfl) ?_; dsimp only)); refine box_event ?hg (N := 5) ?hd (cs := #[.int .u64 a2_0, .string a2_1, .slice A2_2 l2_2.length c2_2]) (t := 40) ?hr ?_; (case hd => rfl); (case hg => rfl); (case hr => first | (go_simp; done) | (go_simp; rfl)); intro gb231 hg w74 hbox hb; have n0_ := Aside0.mk (blk_below BK229.out hb); have n1_ := Aside0.mk (blk_below BK230.out hb); have n2_ := Aside0.mk (below_step HB.out hb); have n3_ := Aside0.mk (hbox); have n6_ := Aside0.mk ((by rw [hg]; exact Nat.ne_of_lt (blk_lt BK229.out) : gb229 ≠ gb231)); have n7_ := Aside0.mk ((by rw [hg]; exact Nat.ne_of_gt (blk_lt BK229.out) : gb231 ≠ gb229)); have n8_ := Aside0.mk ((by rw [hg]; exact Nat.ne_of_lt (blk_lt BK230.out) : gb230 ≠ gb231)); have n9_ := Aside0.mk ((by rw [hg]; exact Nat.ne_of_gt (blk_lt BK230.out) : gb231 ≠ gb230)); clear BK229; clear BK230; clear HB; have BK229 := n0_; have BK230 := n1_; have HB := n2_; have BK231 := n3_; have NB229_231 := n6_; have NB231_229 := n7_; have NB230_231 := n8_; have NB231_230 := n9_; clear n0_ n1_ n2_ n3_ n6_ n7_ n8_ n9_; clear hb hbox hg; have hnb75 := NB230_229.out; have hnc75 := NB229_230.out; have hnb76 := NB230_231.out; have hnc76 := NB231_230.out; have hcz77_0 : w74.cell? ⟨gb230, 0, none⟩ = some (.string a1_0) := (blk_cell BK230.out 0).trans rfl; have hcz77_1 : w74.cell? ⟨gb230, 1, none⟩ = some (.int .i64 a1_1) := (blk_cell BK230.out 1).trans rfl; have hcz77_2 : w74.cell? ⟨gb230, 2, none⟩ = some (.int .i64 a1_2) := (blk_cell BK230.out 2).trans rfl; have hcz77_3 : w74.cell? ⟨gb230, 3, none⟩ = some (.string a1_3) := (blk_cell BK230.out 3).trans rfl; have hcz77_4 : w74.cell? ⟨gb230, 4, none⟩ = some (.bool a1_4) := (blk_cell BK230.out 4).trans rfl; have hcz77_5 : w74.cell? ⟨gb230, 5, none⟩ = some (.bool a1_5) := (blk_cell BK230.out 5).trans rfl; have hcz77_6 : w74.cell? ⟨gb230, 6, none⟩ = some (.string a1_6) := (blk_cell BK230.out 6).trans rfl; have hfz77_0 := blk_frozen BK230.out 0; have hfz77_1 := blk_frozen BK230.out 1; have hfz77_2 := blk_frozen BK230.out 2; have hfz77_3 := blk_frozen BK230.out 3; have hfz77_4 := blk_frozen BK230.out 4; have hfz77_5 := blk_frozen BK230.out 5; have hfz77_6 := blk_frozen BK230.out 6) | ((with_reducible refine gate_callee (f := 26) rfl ?_); refine goesL_ (some 9) rfl rfl Tryd.func26 (by kernel_rfl) rfl #[.int .i64 a1_2] rfl (by (try simp only [List.map_toArray, List.map_cons, List.map_nil]); first | done | rfl | (simp only [List.length_drop, List.length_take]; rfl)) ?_; (with_reducible refine (ecdysisref11_Number.calls a1_2 false _ A4.out).mono ?_); rintro e w' ⟨rfl, ⟨nd, rfl⟩⟩; refine ⟨_, rfl, ?_⟩; have hnb78 := NB231_229.out; have hnc78 := NB229_231.out; have hcz79_0 : w74.cell? ⟨gb231, 0, none⟩ = some (.int .u64 a2_0) := (blk_cell BK231.out 0).trans rfl; have hcz79_1 : w74.cell? ⟨gb231, 1, none⟩ = some (.string a2_1) := (blk_cell BK231.out 1).trans rfl; have hcz79_2 : w74.cell? ⟨gb231, 2, none⟩ = some (.slice A2_2 l2_2.length c2_2) := (blk_cell BK231.out 2).trans rfl; have hfz79_0 := blk_frozen BK231.out 0; have hfz79_1 := blk_frozen BK231.out 1; have hfz79_2 := blk_frozen BK231.out 2))
         go_ret
         exact ⟨by first | rfl , by repeat (first | (with_reducible first | exact HB.out | apply pw_below_drewN ) )⟩
     · rw [if_neg c62] at H
       have c62b0 : (a1_2 == 13) = false := beq_eq_false_iff_ne.mpr c62
       have c62b1 : (a1_2 != 13) = true := bne_iff_ne.mpr c62
       by_cases c80 : a1_2 = 15
       · rw [if_pos c80] at H
         have c80b0 : (a1_2 == 15) = true := beq_iff_eq.mpr c80
         have c80b1 : (a1_2 != 15) = false := bne_eq_false_iff_eq.mpr c80
         clear c80
         by_cases c81 : a2_0 = 0
         · rw [if_pos c81] at H
           have c81b0 : (a2_0 == 0) = true := beq_iff_eq.mpr c81
           have c81b1 : (a2_0 != 0) = false := bne_eq_false_iff_eq.mpr c81
           clear c81
           by_cases c82 : a2_1.toList = ([] : List UInt8)
           · rw [if_pos c82] at H
             have c82b0 : (a2_1.toList == ([] : List UInt8)) = true := beq_iff_eq.mpr c82
             have c82b1 : (a2_1.toList != ([] : List UInt8)) = false := bne_eq_false_iff_eq.mpr c82
             clear c82
             by_cases c83 : (l2_2.length : Int) = 1
             · rw [if_pos c83] at H
               have c83b0 : ((l2_2.length : Int) == 1) = true := beq_iff_eq.mpr c83
               have c83b1 : ((l2_2.length : Int) != 1) = false := bne_eq_false_iff_eq.mpr c83
               clear c83
               by_cases c84 : 0 < (l2_2.length : Int)
               · rw [if_pos c84] at H
                 have c84b0 : decide (0 < (l2_2.length : Int)) = true := decide_eq_true c84
                 have c84b1 : decide (0 < l2_2.length) = true := decide_eq_true (by omega)
                 clear c84
                 replace H := Option.bind_eq_some_iff.mp H
                 obtain ⟨t236, A850, H⟩ := H
                 replace H : (some t236) = some r := H
                 have A85 := Aside0.mk A850
                 clear A850
                 obtain rfl := Option.some.inj H
                 go_enter Tryd.func13, Tryd.ntmps13
                 try go_wp2_with (first | ((with_reducible refine gate_dst (N := 3) rfl ?_); (try (refine gate_guard (by rfl) ?_; dsimp only)); refine box_event ?hg (N := 3) ?hd (cs := #[.slice A0_0 l0_0.length c0_0, .slice A0_1 l0_1.length c0_1]) (t := 25) ?hr ?_; (case hd => rfl); (case hg => rfl); (case hr => first | (go_simp; done) | (go_simp; rfl)); intro gb229 hg w86 hbox hb; have n0_ := Aside0.mk (below_step HB.out hb); have n1_ := Aside0.mk (hbox); clear HB; have HB := n0_; have BK229 := n1_; clear n0_ n1_; clear hb hbox hg) | ((with_reducible refine gate_dst (N := 4) rfl ?_); (try (refine gate_guard (by rfl) ?_; dsimp only)); refine box_event ?hg (N := 4) ?hd (cs := #[.string a1_0, .int .i64 a1_1, .int .i64 a1_2, .string a1_3, .bool a1_4, .bool a1_5, .string a1_6]) (t := 36) ?hr ?_; (case hd => rfl); (case hg => rfl); (case hr => first | (go_simp; done) | (go_simp; rfl)); intro gb230 hg w87 hbox hb; have n0_ := Aside0.mk (blk_below BK229.out hb); have n1_ := Aside0.mk (below_step HB.out hb); have n2_ := Aside0.mk (hbox); have n5_ := Aside0.mk ((by rw [hg]; exact Nat.ne_of_lt (blk_lt BK229.out) : gb229 ≠ gb230)); have n6_ := Aside0.mk ((by rw [hg]; exact Nat.ne_of_gt (blk_lt BK229.out) : gb230 ≠ gb229)); clear BK229; clear HB; have BK229 := n0_; have HB := n1_; have BK230 := n2_; have NB229_230 := n5_; have NB230_229 := n6_; clear n0_ n1_ n2_ n5_ n6_; clear hb hbox hg) | ((with_reducible refine gate_dst (N := 5) rfl ?_); (try (refine gate_guard (by rfl) ?_; dsimp only)); refine box_event ?hg (N := 5) ?hd (cs := #[.int .u64 a2_0, .string a2_1, .slice A2_2 l2_2.length c2_2]) (t := 40) ?hr ?_; (case hd => rfl); (case hg => rfl); (case hr => first | (go_simp; done) | (go_simp; rfl)); intro gb231 hg w88 hbox hb; have n0_ := Aside0.mk (blk_below BK229.out hb); have n1_ := Aside0.mk (blk_below BK230.out hb); have n2_ := Aside0.mk (below_step HB.out hb); have n3_ := Aside0.mk (hbox); have n6_ := Aside0.mk ((by rw [hg]; exact Nat.ne_of_lt (blk_lt BK229.out) : gb229 ≠ gb231)); have n7_ := Aside0.mk ((by rw [hg]; exact Nat.ne_of_gt (blk_lt BK229.out) : gb231 ≠ gb229)); have n8_ := Aside0.mk ((by rw [hg]; exact Nat.ne_of_lt (blk_lt BK230.out) : gb230 ≠ gb231)); have n9_ := Aside0.mk ((by rw [hg]; exact Nat.ne_of_gt (blk_lt BK230.out) : gb231 ≠ gb230)); clear BK229; clear BK230; clear HB; have BK229 := n0_; have BK230 := n1_; have HB := n2_; have BK231 := n3_; have NB229_231 := n6_; have NB231_229 := n7_; have NB230_231 := n8_; have NB231_230 := n9_; clear n0_ n1_ n2_ n3_ n6_ n7_ n8_ n9_; clear hb hbox hg; have hnb89 := NB230_229.out; have hnc89 := NB229_230.out; have hnb90 := NB230_231.out; have hnc90 := NB231_230.out; have hcz91_0 : w88.cell? ⟨gb230, 0, none⟩ = some (.string a1_0) := (blk_cell BK230.out 0).trans rfl; have hcz91_1 : w88.cell? ⟨gb230, 1, none⟩ = some (.int .i64 a1_1) := (blk_cell BK230.out 1).trans rfl; have hcz91_2 : w88.cell? ⟨gb230, 2, none⟩ = some (.int .i64 a1_2) := (blk_cell BK230.out 2).trans rfl; have hcz91_3 : w88.cell? ⟨gb230, 3, none⟩ = some (.string a1_3) := (blk_cell BK230.out 3).trans rfl; have hcz91_4 : w88.cell? ⟨gb230, 4, none⟩ = some (.bool a1_4) := (blk_cell BK230.out 4).trans rfl; have hcz91_5 : w88.cell? ⟨gb230, 5, none⟩ = some (.bool a1_5) := (blk_cell BK230.out 5).trans rfl; have hcz91_6 : w88.cell? ⟨gb230, 6, none⟩ = some (.string a1_6) := (blk_cell BK230.out 6).trans rfl; have hfz91_0 := blk_frozen BK230.out 0; have hfz91_1 := blk_frozen BK230.out 1; have hfz91_2 := blk_frozen BK230.out 2; have hfz91_3 := blk_frozen BK230.out 3; have hfz91_4 := blk_frozen BK230.out 4; have hfz91_5 := blk_frozen BK230.out 5; have hfz91_6 := blk_frozen BK230.out 6) | ((with_reducible refine gate_callee (f := 26) rfl ?_); refine goesL_ (some 9) rfl rfl Tryd.func26 (by kernel_rfl) rfl #[.int .i64 a1_2] rfl (by (try simp only [List.map_toArray, List.map_cons, List.map_nil]); first | done | rfl | (simp only [List.length_drop, List.length_take]; rfl)) ?_; (with_reducible refine (ecdysisref11_Number.calls a1_2 false _ A4.out).mono ?_); rintro e w' ⟨rfl, ⟨nd, rfl⟩⟩; refine ⟨_, rfl, ?_⟩))
                 (try (rw [drewN_self w88]; generalize hq_ : World.drewN w88 _ = w88; have n0_ : Aside0 (w88.heap[gb229]? = some (.cells #[.slice A0_0 l0_0.length c0_0, .slice A0_1 l0_1.length c0_1] 25 (0, 0))) := ⟨by rw [← hq_]; exact (by (with_reducible repeat (first | refine blk_drewN ?_ _ )); exact BK229.out)⟩; have n1_ : Aside0 (w88.heap[gb230]? = some (.cells #[.string a1_0, .int .i64 a1_1, .int .i64 a1_2, .string a1_3, .bool a1_4, .bool a1_5, .string a1_6] 36 (0, 0))) := ⟨by rw [← hq_]; exact (by (with_reducible repeat (first | refine blk_drewN ?_ _ )); exact BK230.out)⟩; have n2_ : Aside0 (w88.heap[gb231]? = some (.cells #[.int .u64 a2_0, .string a2_1, .slice A2_2 l2_2.length c2_2] 40 (0, 0))) := ⟨by rw [← hq_]; exact (by (with_reducible repeat (first | refine blk_drewN ?_ _ )); exact BK231.out)⟩; have n3_ : Aside0 (Below w.heap.size w w88) := ⟨by rw [← hq_]; exact (by repeat (first | (with_reducible first | exact HB.out | apply pw_below_drewN ) ))⟩; clear BK229 BK230 BK231 HB hq_; have BK229 := n0_; have BK230 := n1_; have BK231 := n2_; have HB := n3_; clear n0_ n1_ n2_ n3_))
                 have n0_ := Aside0.mk (blk_drew BK229.out)
                 have n1_ := Aside0.mk (blk_drew BK230.out)
                 have n2_ := Aside0.mk (blk_drew BK231.out)
                 have n3_ := Aside0.mk (below_drew1 HB.out)
                 clear BK229
                 clear BK230
                 clear BK231
                 clear HB
                 have BK229 := n0_
                 have BK230 := n1_
                 have BK231 := n2_
                 have HB := n3_
                 clear n0_ n1_ n2_ n3_
                 have p235 : 0 ≤ (0 : Int) := (by omega)
                 have q235 : 0 < (l2_2.length : Int) := of_decide_eq_true (by first | (with_reducible assumption) )
                 obtain ⟨ad235, A235_0, c235_0, A235_1, c235_1, e235, hx235_0, hx235_1, hl235_0, hi235_0, hl235_1, hi235_1⟩ := at_T29 HR2_2.out 0 p235 q235
                 have hw235_1 := hx235_1
                 (try rw [show ((0 : Int)).toNat = 0 from rfl] at hw235_1)
                 (try rw [show 0 * 2 = 0 from rfl] at hw235_1)
                 (try rw [Addr.add_zero'] at hw235_1)
                 have hw235_0 := hx235_0
                 (try rw [show ((0 : Int)).toNat = 0 from rfl] at hw235_0)
                 (try rw [show 0 * 2 = 0 from rfl] at hw235_0)
                 (try rw [Addr.add_zero'] at hw235_0)
                 cases e235
                 have qi235 : (0 < l2_2.length) = True := eq_true (by omega)
                 (try rw [show ((0 : Int)).toNat = 0 from rfl] at hx235_0)
                 (try rw [show 0 * 2 = 0 from rfl] at hx235_0)
                 (try rw [Addr.add_zero'] at hx235_0)
                 (try rw [show ((0 : Int)).toNat = 0 from rfl] at hx235_1)
                 (try rw [show 0 * 2 = 0 from rfl] at hx235_1)
                 (try rw [Addr.add_zero'] at hx235_1)
                 replace hx235_0 := (HB.out.cell (World.block_lt_of_cell? w _ hx235_0)).trans hx235_0
                 replace hx235_1 := (HB.out.cell (World.block_lt_of_cell? w _ hx235_1)).trans hx235_1
                 have HR235_0 := Aside0.mk hi235_0
                 have HC235_0 := Aside0.mk hl235_0
                 clear hi235_0 hl235_0
                 have HR235_1 := Aside0.mk hi235_1
                 have HC235_1 := Aside0.mk hl235_1
                 clear hi235_1 hl235_1
                 replace p235 := eq_true p235
                 replace q235 := eq_true q235
                 refine start_ (n := 25) (S := fun w' => w'.cell? ⟨gb231, 0, none⟩ = some (.int .u64 a2_0) ∧ w'.cell? ⟨gb231, 1, none⟩ = some (.string a2_1) ∧ w'.cell? ⟨gb231, 2, none⟩ = some (.slice (some ad235) l2_2.length c2_2) ∧ w'.cell? ⟨gb229, 0, none⟩ = some (.slice A0_0 l0_0.length c0_0) ∧ w'.cell? ⟨gb229, 1, none⟩ = some (.slice A0_1 l0_1.length c0_1) ∧ w'.cell? ⟨gb230, 0, none⟩ = some (.string a1_0) ∧ w'.cell? ⟨gb230, 1, none⟩ = some (.int .i64 a1_1) ∧ w'.cell? ⟨gb230, 2, none⟩ = some (.int .i64 a1_2) ∧ w'.cell? ⟨gb230, 3, none⟩ = some (.string a1_3) ∧ w'.cell? ⟨gb230, 4, none⟩ = some (.bool a1_4) ∧ w'.cell? ⟨gb230, 5, none⟩ = some (.bool a1_5) ∧ w'.cell? ⟨gb230, 6, none⟩ = some (.string a1_6) ∧ w'.cell? ad235 = some (.slice A235_0 ((rd_T29 l2_2 0).f0).length c235_0) ∧ w'.cell? ⟨ad235.block, ad235.off + 1, none⟩ = some (.slice A235_1 ((rd_T29 l2_2 0).f1).length c235_1)) (ds := []) #[false, false, false, false, false, false, false, false, false, false, false, false, false, false, false, false, false, false, false, false, false, false, false, false, false] (by kernel_rfl) rfl rfl ⟨(blk_cell BK231.out 0).trans rfl, (blk_cell BK231.out 1).trans rfl, (blk_cell BK231.out 2).trans rfl, (blk_cell BK229.out 0).trans rfl, (blk_cell BK229.out 1).trans rfl, (blk_cell BK230.out 0).trans rfl, (blk_cell BK230.out 1).trans rfl, (blk_cell BK230.out 2).trans rfl, (blk_cell BK230.out 3).trans rfl, (blk_cell BK230.out 4).trans rfl, (blk_cell BK230.out 5).trans rfl, (blk_cell BK230.out 6).trans rfl, ((HB.out.cell (World.block_lt_of_cell? w _ hw235_0)).trans hw235_0), ((HB.out.cell (World.block_lt_of_cell? w _ hw235_1)).trans hw235_1)⟩ (fun hHeld => ?_); refine with_tabW ecdysisref20_Val.tab9 ecdysisref20_Val.bits9 (fun HT_ HW_ => ?_)
                 generalize w88.drew = w92 at BK229 BK230 BK231 HB HR235_0 HR235_1 hx235_0 hx235_1 hHeld ⊢
                 refine zp 0 (zb 25 1) ?_ rfl rfl HT_ (by kernel_rfl) (fun _ _ _ h => h) rfl ?_ ?_ ?_ ?_; rotate_left; (intro w'; go_simp; with_reducible rfl); rotate_left; (simp only [zs]; rfl)
                 refine zt 1 (zb 25 3) ?_ rfl rfl HT_ HW_ (by kernel_rfl) (fun _ _ _ h => h) rfl ?_ hHeld ?_ ?_ ?_; rotate_left; (rintro w' ⟨s0, s1, s2, s3, s4, s5, s6, s7, s8, s9, s10, s11, s12, s13⟩; go_simp; with_reducible rfl); rotate_left; (simp only [zs]; rfl)
                 refine zp 2 (zb 25 7) ?_ rfl rfl HT_ (by kernel_rfl) (fun _ _ _ h => h) rfl ?_ ?_ ?_ ?_; rotate_left; (intro w'; go_simp; with_reducible rfl); rotate_left; (simp only [zs]; rfl)
                 refine zp 3 (zb 25 15) ?_ rfl rfl HT_ (by kernel_rfl) (fun _ _ _ h => h) rfl ?_ ?_ ?_ ?_; rotate_left; (intro w'; go_simp; with_reducible rfl); rotate_left; (simp only [zs]; rfl)
                 refine zp 4 (zb 25 31) ?_ rfl rfl HT_ (by kernel_rfl) (fun _ _ _ h => h) rfl ?_ ?_ ?_ ?_; rotate_left; (intro w'; go_simp; with_reducible rfl); rotate_left; (simp only [zs]; rfl)
                 refine zt 5 (zb 25 63) ?_ rfl rfl HT_ HW_ (by kernel_rfl) (fun _ _ _ h => h) rfl ?_ hHeld ?_ ?_ ?_; rotate_left; (rintro w' ⟨s0, s1, s2, s3, s4, s5, s6, s7, s8, s9, s10, s11, s12, s13⟩; go_simp; with_reducible rfl); rotate_left; (simp only [zs]; rfl)
                 refine zp 6 (zb 25 127) ?_ rfl rfl HT_ (by kernel_rfl) (fun _ _ _ h => h) rfl ?_ ?_ ?_ ?_; rotate_left; (intro w'; go_simp; with_reducible rfl); rotate_left; (simp only [zs]; rfl)
                 refine zp 7 (zb 25 255) ?_ rfl rfl HT_ (by kernel_rfl) (fun _ _ _ h => h) rfl ?_ ?_ ?_ ?_; rotate_left; (intro w'; go_simp; with_reducible rfl); rotate_left; (simp only [zs]; rfl)
                 refine zp 8 (zb 25 511) ?_ rfl rfl HT_ (by kernel_rfl) (fun _ _ _ h => h) rfl ?_ ?_ ?_ ?_; rotate_left; (intro w'; go_simp; with_reducible rfl); rotate_left; (simp only [zs]; rfl)
                 refine zp 9 (zb 25 1023) ?_ rfl rfl HT_ (by kernel_rfl) (fun _ _ _ h => h) rfl ?_ ?_ ?_ ?_; rotate_left; (intro w'; go_simp; with_reducible rfl); rotate_left; (simp only [zs]; rfl)
                 refine zt 10 (zb 25 2047) ?_ rfl rfl HT_ HW_ (by kernel_rfl) (fun _ _ _ h => h) rfl ?_ hHeld ?_ ?_ ?_; rotate_left; (rintro w' ⟨s0, s1, s2, s3, s4, s5, s6, s7, s8, s9, s10, s11, s12, s13⟩; go_simp; with_reducible rfl); rotate_left; (simp only [zs]; rfl)
                 refine zp 11 (zb 25 4095) ?_ rfl rfl HT_ (by kernel_rfl) (fun _ _ _ h => h) rfl ?_ ?_ ?_ ?_; rotate_left; (intro w'; go_simp; with_reducible rfl); rotate_left; (simp only [zs]; rfl)
                 refine zp 12 (zb 25 8191) ?_ rfl rfl HT_ (by kernel_rfl) (fun _ _ _ h => h) rfl ?_ ?_ ?_ ?_; rotate_left; (intro w'; go_simp; with_reducible rfl); rotate_left; (simp only [zs]; rfl)
                 refine zp 13 (zb 25 16383) ?_ rfl rfl HT_ (by kernel_rfl) (fun _ _ _ h => h) rfl ?_ ?_ ?_ ?_; rotate_left; (intro w'; go_simp; with_reducible rfl); rotate_left; (simp only [zs]; rfl)
                 refine zp 14 (zb 25 32767) ?_ rfl rfl HT_ (by kernel_rfl) (fun _ _ _ h => h) rfl ?_ ?_ ?_ ?_; rotate_left; (intro w'; go_simp; with_reducible rfl); rotate_left; (simp only [zs]; rfl)
                 refine zp 16 (zb 25 98303) ?_ rfl rfl HT_ (by kernel_rfl) (fun _ _ _ h => h) rfl ?_ ?_ ?_ ?_; rotate_left; (intro w'; go_simp; with_reducible rfl); rotate_left; (simp only [zs]; rfl)
                 refine zp 18 (zb 25 360447) ?_ rfl rfl HT_ (by kernel_rfl) (fun _ _ _ h => h) rfl ?_ ?_ ?_ ?_; rotate_left; (intro w'; go_simp; with_reducible rfl); rotate_left; (simp only [zs]; rfl)
                 refine zt 15 (zb 25 393215) ?_ rfl rfl HT_ HW_ (by kernel_rfl) (fun _ _ _ h => h) rfl ?_ hHeld ?_ ?_ ?_; rotate_left; (rintro w' ⟨s0, s1, s2, s3, s4, s5, s6, s7, s8, s9, s10, s11, s12, s13⟩; go_simp; with_reducible rfl); rotate_left; (simp only [zs]; rfl)
                 refine zt 17 (zb 25 524287) ?_ rfl rfl HT_ HW_ (by kernel_rfl) (fun _ _ _ h => h) rfl ?_ hHeld ?_ ?_ ?_; rotate_left; (rintro w' ⟨s0, s1, s2, s3, s4, s5, s6, s7, s8, s9, s10, s11, s12, s13⟩; go_simp; with_reducible rfl); rotate_left; (simp only [zs]; rfl)
                 refine zt 19 (zb 25 1048575) ?_ rfl rfl HT_ HW_ (by kernel_rfl) (fun _ _ _ h => h) rfl ?_ hHeld ?_ ?_ ?_; rotate_left; (rintro w' ⟨s0, s1, s2, s3, s4, s5, s6, s7, s8, s9, s10, s11, s12, s13⟩; go_simp; with_reducible rfl); rotate_left; (simp only [zs]; rfl)
                 refine zp 20 (zb 25 2097151) ?_ rfl rfl HT_ (by kernel_rfl) (fun _ _ _ h => h) rfl ?_ ?_ ?_ ?_; rotate_left; (intro w'; go_simp; with_reducible rfl); rotate_left; (simp only [zs]; rfl)
                 refine zt 21 (zb 25 4194303) ?_ rfl rfl HT_ HW_ (by kernel_rfl) (fun _ _ _ h => h) rfl ?_ hHeld ?_ ?_ ?_; rotate_left; (rintro w' ⟨s0, s1, s2, s3, s4, s5, s6, s7, s8, s9, s10, s11, s12, s13⟩; go_simp; with_reducible rfl); rotate_left; (simp only [zs]; rfl)
                 refine one_ (i := 22) (N := some 79) #[true, true, true, true, true, true, true, true, true, true, true, true, true, true, true, true, true, true, true, true, true, true, true, false, false] rfl rfl (one_of HT_.out (by kernel_rfl)) (by decide) (fun K hK => ?_)
                 refine goes_ Tryd.func10 (by kernel_rfl) rfl #[.agg #[.slice A0_0 l0_0.length c0_0, .slice A0_1 l0_1.length c0_1], .string a1_3, .agg #[.slice A235_0 ((rd_T29 l2_2 0).f0).length c235_0, .slice A235_1 ((rd_T29 l2_2 0).f1).length c235_1]] (by rfl) rfl rfl (by (try simp only [List.map_toArray, List.map_cons, List.map_nil]); first | done | rfl | (simp only [List.length_drop, List.length_take]; rfl)) ?_
                 with_reducible refine (ih_ecdysisref20_Tree k (by omega) _ _ l0_0 _ _ l0_1 a1_3 _ _ ((rd_T29 l2_2 0).f0) _ _ ((rd_T29 l2_2 0).f1) t236 _ ?sideT ?side1 ?side2 ?side3 ?side4 ?side5 ?side6 ?side7 ?side8 A85.out).mono ?_
                 case sideT => exact Tabs.below HU8.out HB.out
                 (case side1 => repeat (first | exact (Kd.C_below HR0_0.out HB.out) ))
                 (case side2 => exact HC0_0.out)
                 (case side3 => repeat (first | exact (Kd.C_below HR0_1.out HB.out) ))
                 (case side4 => exact HC0_1.out)
                 (case side5 => repeat (first | exact (Kd.C_below HR235_0.out HB.out) ))
                 (case side6 => exact HC235_0.out)
                 (case side7 => repeat (first | exact (Kd.C_below HR235_1.out HB.out) ))
                 (case side8 => exact HC235_1.out)
                 rintro e w93 ⟨rfl, hb⟩
                 refine ⟨_, rfl, ?_⟩
                 have n0_ := Aside0.mk (blk_below BK229.out hb)
                 have n1_ := Aside0.mk (blk_below BK230.out hb)
                 have n2_ := Aside0.mk (blk_below BK231.out hb)
                 have n3_ := Aside0.mk (below_step HB.out hb)
                 clear BK229
                 clear BK230
                 clear BK231
                 clear HB
                 have BK229 := n0_
                 have BK230 := n1_
                 have BK231 := n2_
                 have HB := n3_
                 clear n0_ n1_ n2_ n3_
                 (try clear hb)
                 (try clear hb2)
                 (try clear hk)
                 (try clear hi)
                 refine hK.out _ _ ⟨(blk_cell BK231.out 0).trans rfl, (blk_cell BK231.out 1).trans rfl, (blk_cell BK231.out 2).trans rfl, (blk_cell BK229.out 0).trans rfl, (blk_cell BK229.out 1).trans rfl, (blk_cell BK230.out 0).trans rfl, (blk_cell BK230.out 1).trans rfl, (blk_cell BK230.out 2).trans rfl, (blk_cell BK230.out 3).trans rfl, (blk_cell BK230.out 4).trans rfl, (blk_cell BK230.out 5).trans rfl, (blk_cell BK230.out 6).trans rfl, ((HB.out.cell (World.block_lt_of_cell? w _ hw235_0)).trans hw235_0), ((HB.out.cell (World.block_lt_of_cell? w _ hw235_1)).trans hw235_1)⟩ (fun hHeld => ?_)
                 clear hK K
                 refine norm_ (a' := ?_) ?_ ?_
                 rotate_left
                 · show Act.put _ (some 79) _ = _
                   simp only [zs]
                   rfl
                 refine zp 23 (zb 25 16777215) ?_ rfl rfl HT_ (by kernel_rfl) (fun _ _ _ h => h) rfl ?_ ?_ ?_ ?_; rotate_left; (intro w'; go_simp; with_reducible rfl); rotate_left; (simp only [zs]; rfl)
                 refine zp 24 (zb 25 33554431) ?_ rfl rfl HT_ (by kernel_rfl) (fun _ _ _ h => h) rfl ?_ ?_ ?_ ?_; rotate_left; (intro w'; go_simp; with_reducible rfl); rotate_left; (simp only [zs]; rfl)
                 refine done_ (done_of HT_.out (by kernel_rfl)) ?_
                 try go_wp2
                 go_ret
                 exact ⟨by first | rfl , by exact HB.out⟩
               · rw [if_neg c84] at H
                 exact absurd H (by simp)
             · rw [if_neg c83] at H
               have c83b0 : ((l2_2.length : Int) == 1) = false := beq_eq_false_iff_ne.mpr c83
               have c83b1 : ((l2_2.length : Int) != 1) = true := bne_iff_ne.mpr c83
               obtain rfl := Option.some.inj H
               go_enter Tryd.func13, Tryd.ntmps13
               try go_wp2_with (first | ((with_reducible refine gate_dst (N := 3) rfl ?_); (try (refine gate_guard (by rfl) ?_; dsimp only)); refine box_event ?hg (N := 3) ?hd (cs := #[.slice A0_0 l0_0.length c0_0, .slice A0_1 l0_1.length c0_1]) (t := 25) ?hr ?_; (case hd => rfl); (case hg => rfl); (case hr => first | (go_simp; done) | (go_simp; rfl)); intro gb229 hg w94 hbox hb; have n0_ := Aside0.mk (below_step HB.out hb); have n1_ := Aside0.mk (hbox); clear HB; have HB := n0_; have BK229 := n1_; clear n0_ n1_; clear hb hbox hg) | ((with_reducible refine gate_dst (N := 4) rfl ?_); (try (refine gate_guard (by rfl) ?_; dsimp only)); refine box_event ?hg (N := 4) ?hd (cs := #[.string a1_0, .int .i64 a1_1, .int .i64 a1_2, .string a1_3, .bool a1_4, .bool a1_5, .string a1_6]) (t := 36) ?hr ?_; (case hd => rfl); (case hg => rfl); (case hr => first | (go_simp; done) | (go_simp; rfl)); intro gb230 hg w95 hbox hb; have n0_ := Aside0.mk (blk_below BK229.out hb); have n1_ := Aside0.mk (below_step HB.out hb); have n2_ := Aside0.mk (hbox); have n5_ := Aside0.mk ((by rw [hg]; exact Nat.ne_of_lt (blk_lt BK229.out) : gb229 ≠ gb230)); have n6_ := Aside0.mk ((by rw [hg]; exact Nat.ne_of_gt (blk_lt BK229.out) : gb230 ≠ gb229)); clear BK229; clear HB; have BK229 := n0_; have HB := n1_; have BK230 := n2_; have NB229_230 := n5_; have NB230_229 := n6_; clear n0_ n1_ n2_ n5_ n6_; clear hb hbox hg) | ((with_reducible refine gate_dst (N := 5) rfl ?_); (try (refine gate_guard (by rfl) ?_; dsimp only)); refine box_event ?hg (N := 5) ?hd (cs := #[.int .u64 a2_0, .string a2_1, .slice A2_2 l2_2.length c2_2]) (t := 40) ?hr ?_; (case hd => rfl); (case hg => rfl); (case hr => first | (go_simp; done) | (go_simp; rfl)); intro gb231 hg w96 hbox hb; have n0_ := Aside0.mk (blk_below BK229.out hb); have n1_ := Aside0.mk (blk_below BK230.out hb); have n2_ := Aside0.mk (below_step HB.out hb); have n3_ := Aside0.mk (hbox); have n6_ := Aside0.mk ((by rw [hg]; exact Nat.ne_of_lt (blk_lt BK229.out) : gb229 ≠ gb231)); have n7_ := Aside0.mk ((by rw [hg]; exact Nat.ne_of_gt (blk_lt BK229.out) : gb231 ≠ gb229)); have n8_ := Aside0.mk ((by rw [hg]; exact Nat.ne_of_lt (blk_lt BK230.out) : gb230 ≠ gb231)); have n9_ := Aside0.mk ((by rw [hg]; exact Nat.ne_of_gt (blk_lt BK230.out) : gb231 ≠ gb230)); clear BK229; clear BK230; clear HB; have BK229 := n0_; have BK230 := n1_; have HB := n2_; have BK231 := n3_; have NB229_231 := n6_; have NB231_229 := n7_; have NB230_231 := n8_; have NB231_230 := n9_; clear n0_ n1_ n2_ n3_ n6_ n7_ n8_ n9_; clear hb hbox hg; have hnb97 := NB230_229.out; have hnc97 := NB229_230.out; have hnb98 := NB230_231.out; have hnc98 := NB231_230.out; have hcz99_0 : w96.cell? ⟨gb230, 0, none⟩ = some (.string a1_0) := (blk_cell BK230.out 0).trans rfl; have hcz99_1 : w96.cell? ⟨gb230, 1, none⟩ = some (.int .i64 a1_1) := (blk_cell BK230.out 1).trans rfl; have hcz99_2 : w96.cell? ⟨gb230, 2, none⟩ = some (.int .i64 a1_2) := (blk_cell BK230.out 2).trans rfl; have hcz99_3 : w96.cell? ⟨gb230, 3, none⟩ = some (.string a1_3) := (blk_cell BK230.out 3).trans rfl; have hcz99_4 : w96.cell? ⟨gb230, 4, none⟩ = some (.bool a1_4) := (blk_cell BK230.out 4).trans rfl; have hcz99_5 : w96.cell? ⟨gb230, 5, none⟩ = some (.bool a1_5) := (blk_cell BK230.out 5).trans rfl; have hcz99_6 : w96.cell? ⟨gb230, 6, none⟩ = some (.string a1_6) := (blk_cell BK230.out 6).trans rfl; have hfz99_0 := blk_frozen BK230.out 0; have hfz99_1 := blk_frozen BK230.out 1; have hfz99_2 := blk_frozen BK230.out 2; have hfz99_3 := blk_frozen BK230.out 3; have hfz99_4 := blk_frozen BK230.out 4; have hfz99_5 := blk_frozen BK230.out 5; have hfz99_6 := blk_frozen BK230.out 6) | ((with_reducible refine gate_callee (f := 26) rfl ?_); refine goesL_ (some 9) rfl rfl Tryd.func26 (by kernel_rfl) rfl #[.int .i64 a1_2] rfl (by (try simp only [List.map_toArray, List.map_cons, List.map_nil]); first | done | rfl | (simp only [List.length_drop, List.length_take]; rfl)) ?_; (with_reducible refine (ecdysisref11_Number.calls a1_2 false _ A4.out).mono ?_); rintro e w' ⟨rfl, ⟨nd, rfl⟩⟩; refine ⟨_, rfl, ?_⟩))
               (try (rw [drewN_self w96]; generalize hq_ : World.drewN w96 _ = w96; have n0_ : Aside0 (w96.heap[gb229]? = some (.cells #[.slice A0_0 l0_0.length c0_0, .slice A0_1 l0_1.length c0_1] 25 (0, 0))) := ⟨by rw [← hq_]; exact (by (with_reducible repeat (first | refine blk_drewN ?_ _ )); exact BK229.out)⟩; have n1_ : Aside0 (w96.heap[gb230]? = some (.cells #[.string a1_0, .int .i64 a1_1, .int .i64 a1_2, .string a1_3, .bool a1_4, .bool a1_5, .string a1_6] 36 (0, 0))) := ⟨by rw [← hq_]; exact (by (with_reducible repeat (first | refine blk_drewN ?_ _ )); exact BK230.out)⟩; have n2_ : Aside0 (w96.heap[gb231]? = some (.cells #[.int .u64 a2_0, .string a2_1, .slice A2_2 l2_2.length c2_2] 40 (0, 0))) := ⟨by rw [← hq_]; exact (by (with_reducible repeat (first | refine blk_drewN ?_ _ )); exact BK231.out)⟩; have n3_ : Aside0 (Below w.heap.size w w96) := ⟨by rw [← hq_]; exact (by repeat (first | (with_reducible first | exact HB.out | apply pw_below_drewN ) ))⟩; clear BK229 BK230 BK231 HB hq_; have BK229 := n0_; have BK230 := n1_; have BK231 := n2_; have HB := n3_; clear n0_ n1_ n2_ n3_))
               have n0_ := Aside0.mk (blk_drew BK229.out)
               have n1_ := Aside0.mk (blk_drew BK230.out)
               have n2_ := Aside0.mk (blk_drew BK231.out)
               have n3_ := Aside0.mk (below_drew1 HB.out)
               clear BK229
               clear BK230
               clear BK231
               clear HB
               have BK229 := n0_
               have BK230 := n1_
               have BK231 := n2_
               have HB := n3_
               clear n0_ n1_ n2_ n3_
               refine start_ (n := 25) (S := fun w' => w'.cell? ⟨gb231, 0, none⟩ = some (.int .u64 a2_0) ∧ w'.cell? ⟨gb231, 1, none⟩ = some (.string a2_1) ∧ w'.cell? ⟨gb231, 2, none⟩ = some (.slice A2_2 l2_2.length c2_2)) (ds := []) #[false, false, false, false, false, false, false, false, false, false, false, false, false, false, false, false, false, false, false, false, false, false, false, false, false] (by kernel_rfl) rfl rfl ⟨(blk_cell BK231.out 0).trans rfl, (blk_cell BK231.out 1).trans rfl, (blk_cell BK231.out 2).trans rfl⟩ (fun hHeld => ?_); refine with_tabW ecdysisref20_Val.tab9 ecdysisref20_Val.bits9 (fun HT_ HW_ => ?_)
               generalize w96.drew = w100 at BK229 BK230 BK231 HB hHeld ⊢
               refine zp 0 (zb 25 1) ?_ rfl rfl HT_ (by kernel_rfl) (fun _ _ _ h => h) rfl ?_ ?_ ?_ ?_; rotate_left; (intro w'; go_simp; with_reducible rfl); rotate_left; (simp only [zs]; rfl)
               refine zt 1 (zb 25 3) ?_ rfl rfl HT_ HW_ (by kernel_rfl) (fun _ _ _ h => h) rfl ?_ hHeld ?_ ?_ ?_; rotate_left; (rintro w' ⟨s0, s1, s2⟩; go_simp; with_reducible rfl); rotate_left; (simp only [zs]; rfl)
               refine zp 2 (zb 25 7) ?_ rfl rfl HT_ (by kernel_rfl) (fun _ _ _ h => h) rfl ?_ ?_ ?_ ?_; rotate_left; (intro w'; go_simp; with_reducible rfl); rotate_left; (simp only [zs]; rfl)
               refine zp 3 (zb 25 15) ?_ rfl rfl HT_ (by kernel_rfl) (fun _ _ _ h => h) rfl ?_ ?_ ?_ ?_; rotate_left; (intro w'; go_simp; with_reducible rfl); rotate_left; (simp only [zs]; rfl)
               refine zp 4 (zb 25 31) ?_ rfl rfl HT_ (by kernel_rfl) (fun _ _ _ h => h) rfl ?_ ?_ ?_ ?_; rotate_left; (intro w'; go_simp; with_reducible rfl); rotate_left; (simp only [zs]; rfl)
               refine zt 5 (zb 25 63) ?_ rfl rfl HT_ HW_ (by kernel_rfl) (fun _ _ _ h => h) rfl ?_ hHeld ?_ ?_ ?_; rotate_left; (rintro w' ⟨s0, s1, s2⟩; go_simp; with_reducible rfl); rotate_left; (simp only [zs]; rfl)
               refine zp 6 (zb 25 127) ?_ rfl rfl HT_ (by kernel_rfl) (fun _ _ _ h => h) rfl ?_ ?_ ?_ ?_; rotate_left; (intro w'; go_simp; with_reducible rfl); rotate_left; (simp only [zs]; rfl)
               refine zp 7 (zb 25 255) ?_ rfl rfl HT_ (by kernel_rfl) (fun _ _ _ h => h) rfl ?_ ?_ ?_ ?_; rotate_left; (intro w'; go_simp; with_reducible rfl); rotate_left; (simp only [zs]; rfl)
               refine zp 8 (zb 25 511) ?_ rfl rfl HT_ (by kernel_rfl) (fun _ _ _ h => h) rfl ?_ ?_ ?_ ?_; rotate_left; (intro w'; go_simp; with_reducible rfl); rotate_left; (simp only [zs]; rfl)
               refine zp 9 (zb 25 1023) ?_ rfl rfl HT_ (by kernel_rfl) (fun _ _ _ h => h) rfl ?_ ?_ ?_ ?_; rotate_left; (intro w'; go_simp; with_reducible rfl); rotate_left; (simp only [zs]; rfl)
               refine zt 10 (zb 25 2047) ?_ rfl rfl HT_ HW_ (by kernel_rfl) (fun _ _ _ h => h) rfl ?_ hHeld ?_ ?_ ?_; rotate_left; (rintro w' ⟨s0, s1, s2⟩; go_simp; with_reducible rfl); rotate_left; (simp only [zs]; rfl)
               refine zp 11 (zb 25 4095) ?_ rfl rfl HT_ (by kernel_rfl) (fun _ _ _ h => h) rfl ?_ ?_ ?_ ?_; rotate_left; (intro w'; go_simp; with_reducible rfl); rotate_left; (simp only [zs]; rfl)
               refine zp 12 (zb 25 8191) ?_ rfl rfl HT_ (by kernel_rfl) (fun _ _ _ h => h) rfl ?_ ?_ ?_ ?_; rotate_left; (intro w'; go_simp; with_reducible rfl); rotate_left; (simp only [zs]; rfl)
               refine zp 13 (zb 25 16383) ?_ rfl rfl HT_ (by kernel_rfl) (fun _ _ _ h => h) rfl ?_ ?_ ?_ ?_; rotate_left; (intro w'; go_simp; with_reducible rfl); rotate_left; (simp only [zs]; rfl)
               refine zp 14 (zb 25 32767) ?_ rfl rfl HT_ (by kernel_rfl) (fun _ _ _ h => h) rfl ?_ ?_ ?_ ?_; rotate_left; (intro w'; go_simp; with_reducible rfl); rotate_left; (simp only [zs]; rfl)
               refine zn 15 (zb 25 65535) rfl rfl HT_ (by kernel_rfl) (fun _ _ _ h => h) rfl ?_ ?_ ?_; rotate_left; (simp only [zs]; rfl)
               refine zn 16 (zb 25 131071) rfl rfl HT_ (by kernel_rfl) (fun _ _ _ h => h) rfl ?_ ?_ ?_; rotate_left; (simp only [zs]; rfl)
               refine zn 17 (zb 25 262143) rfl rfl HT_ (by kernel_rfl) (fun _ _ _ h => h) rfl ?_ ?_ ?_; rotate_left; (simp only [zs]; rfl)
               refine zn 18 (zb 25 524287) rfl rfl HT_ (by kernel_rfl) (fun _ _ _ h => h) rfl ?_ ?_ ?_; rotate_left; (simp only [zs]; rfl)
               refine zn 19 (zb 25 1048575) rfl rfl HT_ (by kernel_rfl) (fun _ _ _ h => h) rfl ?_ ?_ ?_; rotate_left; (simp only [zs]; rfl)
               refine zn 20 (zb 25 2097151) rfl rfl HT_ (by kernel_rfl) (fun _ _ _ h => h) rfl ?_ ?_ ?_; rotate_left; (simp only [zs]; rfl)
               refine zn 21 (zb 25 4194303) rfl rfl HT_ (by kernel_rfl) (fun _ _ _ h => h) rfl ?_ ?_ ?_; rotate_left; (simp only [zs]; rfl)
               refine zn 22 (zb 25 8388607) rfl rfl HT_ (by kernel_rfl) (fun _ _ _ h => h) rfl ?_ ?_ ?_; rotate_left; (simp only [zs]; rfl)
               refine zp 23 (zb 25 16777215) ?_ rfl rfl HT_ (by kernel_rfl) (fun _ _ _ h => h) rfl ?_ ?_ ?_ ?_; rotate_left; (intro w'; go_simp; with_reducible rfl); rotate_left; (simp only [zs]; rfl)
               refine zp 24 (zb 25 33554431) ?_ rfl rfl HT_ (by kernel_rfl) (fun _ _ _ h => h) rfl ?_ ?_ ?_ ?_; rotate_left; (intro w'; go_simp; with_reducible rfl); rotate_left; (simp only [zs]; rfl)
               refine done_ (done_of HT_.out (by kernel_rfl)) ?_
               try go_wp2
               go_ret
               exact ⟨by first | rfl , by exact HB.out⟩
           · rw [if_neg c82] at H
             have c82b0 : (a2_1.toList == ([] : List UInt8)) = false := beq_eq_false_iff_ne.mpr c82
             have c82b1 : (a2_1.toList != ([] : List UInt8)) = true := bne_iff_ne.mpr c82
             obtain rfl := Option.some.inj H
             go_enter Tryd.func13, Tryd.ntmps13
             try go_wp2_with (first | ((with_reducible refine gate_dst (N := 3) rfl ?_); (try (refine gate_guard (by rfl) ?_; dsimp only)); refine box_event ?hg (N := 3) ?hd (cs := #[.slice A0_0 l0_0.length c0_0, .slice A0_1 l0_1.length c0_1]) (t := 25) ?hr ?_; (case hd => rfl); (case hg => rfl); (case hr => first | (go_simp; done) | (go_simp; rfl)); intro gb229 hg w101 hbox hb; have n0_ := Aside0.mk (below_step HB.out hb); have n1_ := Aside0.mk (hbox); clear HB; have HB := n0_; have BK229 := n1_; clear n0_ n1_; clear hb hbox hg) | ((with_reducible refine gate_dst (N := 4) rfl ?_); (try (refine gate_guard (by rfl) ?_; dsimp only)); refine box_event ?hg (N := 4) ?hd (cs := #[.string a1_0, .int .i64 a1_1, .int .i64 a1_2, .string a1_3, .bool a1_4, .bool a1_5, .string a1_6]) (t := 36) ?hr ?_; (case hd => rfl); (case hg => rfl); (case hr => first | (go_simp; done) | (go_simp; rfl)); intro gb230 hg w102 hbox hb; have n0_ := Aside0.mk (blk_below BK229.out hb); have n1_ := Aside0.mk (below_step HB.out hb); have n2_ := Aside0.mk (hbox); have n5_ := Aside0.mk ((by rw [hg]; exact Nat.ne_of_lt (blk_lt BK229.out) : gb229 ≠ gb230)); have n6_ := Aside0.mk ((by rw [hg]; exact Nat.ne_of_gt (blk_lt BK229.out) : gb230 ≠ gb229)); clear BK229; clear HB; have BK229 := n0_; have HB := n1_; have BK230 := n2_; have NB229_230 := n5_; have NB230_229 := n6_; clear n0_ n1_ n2_ n5_ n6_; clear hb hbox hg) | ((with_reducible refine gate_dst (N := 5) rfl ?_); (try (refine gate_guard (by rfl) ?_; dsimp only)); refine box_event ?hg (N := 5) ?hd (cs := #[.int .u64 a2_0, .string a2_1, .slice A2_2 l2_2.length c2_2]) (t := 40) ?hr ?_; (case hd => rfl); (case hg => rfl); (case hr => first | (go_simp; done) | (go_simp; rfl)); intro gb231 hg w103 hbox hb; have n0_ := Aside0.mk (blk_below BK229.out hb); have n1_ := Aside0.mk (blk_below BK230.out hb); have n2_ := Aside0.mk (below_step HB.out hb); have n3_ := Aside0.mk (hbox); have n6_ := Aside0.mk ((by rw [hg]; exact Nat.ne_of_lt (blk_lt BK229.out) : gb229 ≠ gb231)); have n7_ := Aside0.mk ((by rw [hg]; exact Nat.ne_of_gt (blk_lt BK229.out) : gb231 ≠ gb229)); have n8_ := Aside0.mk ((by rw [hg]; exact Nat.ne_of_lt (blk_lt BK230.out) : gb230 ≠ gb231)); have n9_ := Aside0.mk ((by rw [hg]; exact Nat.ne_of_gt (blk_lt BK230.out) : gb231 ≠ gb230)); clear BK229; clear BK230; clear HB; have BK229 := n0_; have BK230 := n1_; have HB := n2_; have BK231 := n3_; have NB229_231 := n6_; have NB231_229 := n7_; have NB230_231 := n8_; have NB231_230 := n9_; clear n0_ n1_ n2_ n3_ n6_ n7_ n8_ n9_; clear hb hbox hg; have hnb104 := NB230_229.out; have hnc104 := NB229_230.out; have hnb105 := NB230_231.out; have hnc105 := NB231_230.out; have hcz106_0 : w103.cell? ⟨gb230, 0, none⟩ = some (.string a1_0) := (blk_cell BK230.out 0).trans rfl; have hcz106_1 : w103.cell? ⟨gb230, 1, none⟩ = some (.int .i64 a1_1) := (blk_cell BK230.out 1).trans rfl; have hcz106_2 : w103.cell? ⟨gb230, 2, none⟩ = some (.int .i64 a1_2) := (blk_cell BK230.out 2).trans rfl; have hcz106_3 : w103.cell? ⟨gb230, 3, none⟩ = some (.string a1_3) := (blk_cell BK230.out 3).trans rfl; have hcz106_4 : w103.cell? ⟨gb230, 4, none⟩ = some (.bool a1_4) := (blk_cell BK230.out 4).trans rfl; have hcz106_5 : w103.cell? ⟨gb230, 5, none⟩ = some (.bool a1_5) := (blk_cell BK230.out 5).trans rfl; have hcz106_6 : w103.cell? ⟨gb230, 6, none⟩ = some (.string a1_6) := (blk_cell BK230.out 6).trans rfl; have hfz106_0 := blk_frozen BK230.out 0; have hfz106_1 := blk_frozen BK230.out 1; have hfz106_2 := blk_frozen BK230.out 2; have hfz106_3 := blk_frozen BK230.out 3; have hfz106_4 := blk_frozen BK230.out 4; have hfz106_5 := blk_frozen BK230.out 5; have hfz106_6 := blk_frozen BK230.out 6) | ((with_reducible refine gate_callee (f := 26) rfl ?_); refine goesL_ (some 9) rfl rfl Tryd.func26 (by kernel_rfl) rfl #[.int .i64 a1_2] rfl (by (try simp only [List.map_toArray, List.map_cons, List.map_nil]); first | done | rfl | (simp only [List.length_drop, List.length_take]; rfl)) ?_; (with_reducible refine (ecdysisref11_Number.calls a1_2 false _ A4.out).mono ?_); rintro e w' ⟨rfl, ⟨nd, rfl⟩⟩; refine ⟨_, rfl, ?_⟩))
             (try (rw [drewN_self w103]; generalize hq_ : World.drewN w103 _ = w103; have n0_ : Aside0 (w103.heap[gb229]? = some (.cells #[.slice A0_0 l0_0.length c0_0, .slice A0_1 l0_1.length c0_1] 25 (0, 0))) := ⟨by rw [← hq_]; exact (by (with_reducible repeat (first | refine blk_drewN ?_ _ )); exact BK229.out)⟩; have n1_ : Aside0 (w103.heap[gb230]? = some (.cells #[.string a1_0, .int .i64 a1_1, .int .i64 a1_2, .string a1_3, .bool a1_4, .bool a1_5, .string a1_6] 36 (0, 0))) := ⟨by rw [← hq_]; exact (by (with_reducible repeat (first | refine blk_drewN ?_ _ )); exact BK230.out)⟩; have n2_ : Aside0 (w103.heap[gb231]? = some (.cells #[.int .u64 a2_0, .string a2_1, .slice A2_2 l2_2.length c2_2] 40 (0, 0))) := ⟨by rw [← hq_]; exact (by (with_reducible repeat (first | refine blk_drewN ?_ _ )); exact BK231.out)⟩; have n3_ : Aside0 (Below w.heap.size w w103) := ⟨by rw [← hq_]; exact (by repeat (first | (with_reducible first | exact HB.out | apply pw_below_drewN ) ))⟩; clear BK229 BK230 BK231 HB hq_; have BK229 := n0_; have BK230 := n1_; have BK231 := n2_; have HB := n3_; clear n0_ n1_ n2_ n3_))
             have n0_ := Aside0.mk (blk_drew BK229.out)
             have n1_ := Aside0.mk (blk_drew BK230.out)
             have n2_ := Aside0.mk (blk_drew BK231.out)
             have n3_ := Aside0.mk (below_drew1 HB.out)
             clear BK229
             clear BK230
             clear BK231
             clear HB
             have BK229 := n0_
             have BK230 := n1_
             have BK231 := n2_
             have HB := n3_
             clear n0_ n1_ n2_ n3_
             refine start_ (n := 25) (S := fun w' => w'.cell? ⟨gb231, 0, none⟩ = some (.int .u64 a2_0) ∧ w'.cell? ⟨gb231, 1, none⟩ = some (.string a2_1) ∧ w'.cell? ⟨gb231, 2, none⟩ = some (.slice A2_2 l2_2.length c2_2)) (ds := []) #[false, false, false, false, false, false, false, false, false, false, false, false, false, false, false, false, false, false, false, false, false, false, false, false, false] (by kernel_rfl) rfl rfl ⟨(blk_cell BK231.out 0).trans rfl, (blk_cell BK231.out 1).trans rfl, (blk_cell BK231.out 2).trans rfl⟩ (fun hHeld => ?_); refine with_tabW ecdysisref20_Val.tab9 ecdysisref20_Val.bits9 (fun HT_ HW_ => ?_)
             generalize w103.drew = w107 at BK229 BK230 BK231 HB hHeld ⊢
             refine zp 0 (zb 25 1) ?_ rfl rfl HT_ (by kernel_rfl) (fun _ _ _ h => h) rfl ?_ ?_ ?_ ?_; rotate_left; (intro w'; go_simp; with_reducible rfl); rotate_left; (simp only [zs]; rfl)
             refine zt 1 (zb 25 3) ?_ rfl rfl HT_ HW_ (by kernel_rfl) (fun _ _ _ h => h) rfl ?_ hHeld ?_ ?_ ?_; rotate_left; (rintro w' ⟨s0, s1, s2⟩; go_simp; with_reducible rfl); rotate_left; (simp only [zs]; rfl)
             refine zp 2 (zb 25 7) ?_ rfl rfl HT_ (by kernel_rfl) (fun _ _ _ h => h) rfl ?_ ?_ ?_ ?_; rotate_left; (intro w'; go_simp; with_reducible rfl); rotate_left; (simp only [zs]; rfl)
             refine zp 3 (zb 25 15) ?_ rfl rfl HT_ (by kernel_rfl) (fun _ _ _ h => h) rfl ?_ ?_ ?_ ?_; rotate_left; (intro w'; go_simp; with_reducible rfl); rotate_left; (simp only [zs]; rfl)
             refine zp 4 (zb 25 31) ?_ rfl rfl HT_ (by kernel_rfl) (fun _ _ _ h => h) rfl ?_ ?_ ?_ ?_; rotate_left; (intro w'; go_simp; with_reducible rfl); rotate_left; (simp only [zs]; rfl)
             refine zt 5 (zb 25 63) ?_ rfl rfl HT_ HW_ (by kernel_rfl) (fun _ _ _ h => h) rfl ?_ hHeld ?_ ?_ ?_; rotate_left; (rintro w' ⟨s0, s1, s2⟩; go_simp; with_reducible rfl); rotate_left; (simp only [zs]; rfl)
             refine zp 6 (zb 25 127) ?_ rfl rfl HT_ (by kernel_rfl) (fun _ _ _ h => h) rfl ?_ ?_ ?_ ?_; rotate_left; (intro w'; go_simp; with_reducible rfl); rotate_left; (simp only [zs]; rfl)
             refine zp 7 (zb 25 255) ?_ rfl rfl HT_ (by kernel_rfl) (fun _ _ _ h => h) rfl ?_ ?_ ?_ ?_; rotate_left; (intro w'; go_simp; with_reducible rfl); rotate_left; (simp only [zs]; rfl)
             refine zp 8 (zb 25 511) ?_ rfl rfl HT_ (by kernel_rfl) (fun _ _ _ h => h) rfl ?_ ?_ ?_ ?_; rotate_left; (intro w'; go_simp; with_reducible rfl); rotate_left; (simp only [zs]; rfl)
             refine zn 9 (zb 25 1023) rfl rfl HT_ (by kernel_rfl) (fun _ _ _ h => h) rfl ?_ ?_ ?_; rotate_left; (simp only [zs]; rfl)
             refine zn 10 (zb 25 2047) rfl rfl HT_ (by kernel_rfl) (fun _ _ _ h => h) rfl ?_ ?_ ?_; rotate_left; (simp only [zs]; rfl)
             refine zn 11 (zb 25 4095) rfl rfl HT_ (by kernel_rfl) (fun _ _ _ h => h) rfl ?_ ?_ ?_; rotate_left; (simp only [zs]; rfl)
             refine zn 12 (zb 25 8191) rfl rfl HT_ (by kernel_rfl) (fun _ _ _ h => h) rfl ?_ ?_ ?_; rotate_left; (simp only [zs]; rfl)
             refine zp 13 (zb 25 16383) ?_ rfl rfl HT_ (by kernel_rfl) (fun _ _ _ h => h) rfl ?_ ?_ ?_ ?_; rotate_left; (intro w'; go_simp; with_reducible rfl); rotate_left; (simp only [zs]; rfl)
             refine zp 14 (zb 25 32767) ?_ rfl rfl HT_ (by kernel_rfl) (fun _ _ _ h => h) rfl ?_ ?_ ?_ ?_; rotate_left; (intro w'; go_simp; with_reducible rfl); rotate_left; (simp only [zs]; rfl)
             refine zn 15 (zb 25 65535) rfl rfl HT_ (by kernel_rfl) (fun _ _ _ h => h) rfl ?_ ?_ ?_; rotate_left; (simp only [zs]; rfl)
             refine zn 16 (zb 25 131071) rfl rfl HT_ (by kernel_rfl) (fun _ _ _ h => h) rfl ?_ ?_ ?_; rotate_left; (simp only [zs]; rfl)
             refine zn 17 (zb 25 262143) rfl rfl HT_ (by kernel_rfl) (fun _ _ _ h => h) rfl ?_ ?_ ?_; rotate_left; (simp only [zs]; rfl)
             refine zn 18 (zb 25 524287) rfl rfl HT_ (by kernel_rfl) (fun _ _ _ h => h) rfl ?_ ?_ ?_; rotate_left; (simp only [zs]; rfl)
             refine zn 19 (zb 25 1048575) rfl rfl HT_ (by kernel_rfl) (fun _ _ _ h => h) rfl ?_ ?_ ?_; rotate_left; (simp only [zs]; rfl)
             refine zn 20 (zb 25 2097151) rfl rfl HT_ (by kernel_rfl) (fun _ _ _ h => h) rfl ?_ ?_ ?_; rotate_left; (simp only [zs]; rfl)
             refine zn 21 (zb 25 4194303) rfl rfl HT_ (by kernel_rfl) (fun _ _ _ h => h) rfl ?_ ?_ ?_; rotate_left; (simp only [zs]; rfl)
             refine zn 22 (zb 25 8388607) rfl rfl HT_ (by kernel_rfl) (fun _ _ _ h => h) rfl ?_ ?_ ?_; rotate_left; (simp only [zs]; rfl)
             refine zp 23 (zb 25 16777215) ?_ rfl rfl HT_ (by kernel_rfl) (fun _ _ _ h => h) rfl ?_ ?_ ?_ ?_; rotate_left; (intro w'; go_simp; with_reducible rfl); rotate_left; (simp only [zs]; rfl)
             refine zp 24 (zb 25 33554431) ?_ rfl rfl HT_ (by kernel_rfl) (fun _ _ _ h => h) rfl ?_ ?_ ?_ ?_; rotate_left; (intro w'; go_simp; with_reducible rfl); rotate_left; (simp only [zs]; rfl)
             refine done_ (done_of HT_.out (by kernel_rfl)) ?_
             try go_wp2
             go_ret
             exact ⟨by first | rfl , by exact HB.out⟩
         · rw [if_neg c81] at H
           have c81b0 : (a2_0 == 0) = false := beq_eq_false_iff_ne.mpr c81
           have c81b1 : (a2_0 != 0) = true := bne_iff_ne.mpr c81
           obtain rfl := Option.some.inj H
           go_enter Tryd.func13, Tryd.ntmps13
           try go_wp2_with (first | ((with_reducible refine gate_dst (N := 3) rfl ?_); (try (refine gate_guard (by rfl) ?_; dsimp only)); refine box_event ?hg (N := 3) ?hd (cs := #[.slice A0_0 l0_0.length c0_0, .slice A0_1 l0_1.length c0_1]) (t := 25) ?hr ?_; (case hd => rfl); (case hg => rfl); (case hr => first | (go_simp; done) | (go_simp; rfl)); intro gb229 hg w108 hbox hb; have n0_ := Aside0.mk (below_step HB.out hb); have n1_ := Aside0.mk (hbox); clear HB; have HB := n0_; have BK229 := n1_; clear n0_ n1_; clear hb hbox hg) | ((with_reducible refine gate_dst (N := 4) rfl ?_); (try (refine gate_guard (by rfl) ?_; dsimp only)); refine box_event ?hg (N := 4) ?hd (cs := #[.string a1_0, .int .i64 a1_1, .int .i64 a1_2, .string a1_3, .bool a1_4, .bool a1_5, .string a1_6]) (t := 36) ?hr ?_; (case hd => rfl); (case hg => rfl); (case hr => first | (go_simp; done) | (go_simp; rfl)); intro gb230 hg w109 hbox hb; have n0_ := Aside0.mk (blk_below BK229.out hb); have n1_ := Aside0.mk (below_step HB.out hb); have n2_ := Aside0.mk (hbox); have n5_ := Aside0.mk ((by rw [hg]; exact Nat.ne_of_lt (blk_lt BK229.out) : gb229 ≠ gb230)); have n6_ := Aside0.mk ((by rw [hg]; exact Nat.ne_of_gt (blk_lt BK229.out) : gb230 ≠ gb229)); clear BK229; clear HB; have BK229 := n0_; have HB := n1_; have BK230 := n2_; have NB229_230 := n5_; have NB230_229 := n6_; clear n0_ n1_ n2_ n5_ n6_; clear hb hbox hg) | ((with_reducible refine gate_dst (N := 5) rfl ?_); (try (refine gate_guard (by rfl) ?_; dsimp only)); refine box_event ?hg (N := 5) ?hd (cs := #[.int .u64 a2_0, .string a2_1, .slice A2_2 l2_2.length c2_2]) (t := 40) ?hr ?_; (case hd => rfl); (case hg => rfl); (case hr => first | (go_simp; done) | (go_simp; rfl)); intro gb231 hg w110 hbox hb; have n0_ := Aside0.mk (blk_below BK229.out hb); have n1_ := Aside0.mk (blk_below BK230.out hb); have n2_ := Aside0.mk (below_step HB.out hb); have n3_ := Aside0.mk (hbox); have n6_ := Aside0.mk ((by rw [hg]; exact Nat.ne_of_lt (blk_lt BK229.out) : gb229 ≠ gb231)); have n7_ := Aside0.mk ((by rw [hg]; exact Nat.ne_of_gt (blk_lt BK229.out) : gb231 ≠ gb229)); have n8_ := Aside0.mk ((by rw [hg]; exact Nat.ne_of_lt (blk_lt BK230.out) : gb230 ≠ gb231)); have n9_ := Aside0.mk ((by rw [hg]; exact Nat.ne_of_gt (blk_lt BK230.out) : gb231 ≠ gb230)); clear BK229; clear BK230; clear HB; have BK229 := n0_; have BK230 := n1_; have HB := n2_; have BK231 := n3_; have NB229_231 := n6_; have NB231_229 := n7_; have NB230_231 := n8_; have NB231_230 := n9_; clear n0_ n1_ n2_ n3_ n6_ n7_ n8_ n9_; clear hb hbox hg; have hnb111 := NB230_229.out; have hnc111 := NB229_230.out; have hnb112 := NB230_231.out; have hnc112 := NB231_230.out; have hcz113_0 : w110.cell? ⟨gb230, 0, none⟩ = some (.string a1_0) := (blk_cell BK230.out 0).trans rfl; have hcz113_1 : w110.cell? ⟨gb230, 1, none⟩ = some (.int .i64 a1_1) := (blk_cell BK230.out 1).trans rfl; have hcz113_2 : w110.cell? ⟨gb230, 2, none⟩ = some (.int .i64 a1_2) := (blk_cell BK230.out 2).trans rfl; have hcz113_3 : w110.cell? ⟨gb230, 3, none⟩ = some (.string a1_3) := (blk_cell BK230.out 3).trans rfl; have hcz113_4 : w110.cell? ⟨gb230, 4, none⟩ = some (.bool a1_4) := (blk_cell BK230.out 4).trans rfl; have hcz113_5 : w110.cell? ⟨gb230, 5, none⟩ = some (.bool a1_5) := (blk_cell BK230.out 5).trans rfl; have hcz113_6 : w110.cell? ⟨gb230, 6, none⟩ = some (.string a1_6) := (blk_cell BK230.out 6).trans rfl; have hfz113_0 := blk_frozen BK230.out 0; have hfz113_1 := blk_frozen BK230.out 1; have hfz113_2 := blk_frozen BK230.out 2; have hfz113_3 := blk_frozen BK230.out 3; have hfz113_4 := blk_frozen BK230.out 4; have hfz113_5 := blk_frozen BK230.out 5; have hfz113_6 := blk_frozen BK230.out 6) | ((with_reducible refine gate_callee (f := 26) rfl ?_); refine goesL_ (some 9) rfl rfl Tryd.func26 (by kernel_rfl) rfl #[.int .i64 a1_2] rfl (by (try simp only [List.map_toArray, List.map_cons, List.map_nil]); first | done | rfl | (simp only [List.length_drop, List.length_take]; rfl)) ?_; (with_reducible refine (ecdysisref11_Number.calls a1_2 false _ A4.out).mono ?_); rintro e w' ⟨rfl, ⟨nd, rfl⟩⟩; refine ⟨_, rfl, ?_⟩))
           (try (rw [drewN_self w110]; generalize hq_ : World.drewN w110 _ = w110; have n0_ : Aside0 (w110.heap[gb229]? = some (.cells #[.slice A0_0 l0_0.length c0_0, .slice A0_1 l0_1.length c0_1] 25 (0, 0))) := ⟨by rw [← hq_]; exact (by (with_reducible repeat (first | refine blk_drewN ?_ _ )); exact BK229.out)⟩; have n1_ : Aside0 (w110.heap[gb230]? = some (.cells #[.string a1_0, .int .i64 a1_1, .int .i64 a1_2, .string a1_3, .bool a1_4, .bool a1_5, .string a1_6] 36 (0, 0))) := ⟨by rw [← hq_]; exact (by (with_reducible repeat (first | refine blk_drewN ?_ _ )); exact BK230.out)⟩; have n2_ : Aside0 (w110.heap[gb231]? = some (.cells #[.int .u64 a2_0, .string a2_1, .slice A2_2 l2_2.length c2_2] 40 (0, 0))) := ⟨by rw [← hq_]; exact (by (with_reducible repeat (first | refine blk_drewN ?_ _ )); exact BK231.out)⟩; have n3_ : Aside0 (Below w.heap.size w w110) := ⟨by rw [← hq_]; exact (by repeat (first | (with_reducible first | exact HB.out | apply pw_below_drewN ) ))⟩; clear BK229 BK230 BK231 HB hq_; have BK229 := n0_; have BK230 := n1_; have BK231 := n2_; have HB := n3_; clear n0_ n1_ n2_ n3_))
           have n0_ := Aside0.mk (blk_drew BK229.out)
           have n1_ := Aside0.mk (blk_drew BK230.out)
           have n2_ := Aside0.mk (blk_drew BK231.out)
           have n3_ := Aside0.mk (below_drew1 HB.out)
           clear BK229
           clear BK230
           clear BK231
           clear HB
           have BK229 := n0_
           have BK230 := n1_
           have BK231 := n2_
           have HB := n3_
           clear n0_ n1_ n2_ n3_
           refine start_ (n := 25) (S := fun w' => w'.cell? ⟨gb231, 0, none⟩ = some (.int .u64 a2_0) ∧ w'.cell? ⟨gb231, 1, none⟩ = some (.string a2_1) ∧ w'.cell? ⟨gb231, 2, none⟩ = some (.slice A2_2 l2_2.length c2_2)) (ds := []) #[false, false, false, false, false, false, false, false, false, false, false, false, false, false, false, false, false, false, false, false, false, false, false, false, false] (by kernel_rfl) rfl rfl ⟨(blk_cell BK231.out 0).trans rfl, (blk_cell BK231.out 1).trans rfl, (blk_cell BK231.out 2).trans rfl⟩ (fun hHeld => ?_); refine with_tabW ecdysisref20_Val.tab9 ecdysisref20_Val.bits9 (fun HT_ HW_ => ?_)
           generalize w110.drew = w114 at BK229 BK230 BK231 HB hHeld ⊢
           refine zp 0 (zb 25 1) ?_ rfl rfl HT_ (by kernel_rfl) (fun _ _ _ h => h) rfl ?_ ?_ ?_ ?_; rotate_left; (intro w'; go_simp; with_reducible rfl); rotate_left; (simp only [zs]; rfl)
           refine zt 1 (zb 25 3) ?_ rfl rfl HT_ HW_ (by kernel_rfl) (fun _ _ _ h => h) rfl ?_ hHeld ?_ ?_ ?_; rotate_left; (rintro w' ⟨s0, s1, s2⟩; go_simp; with_reducible rfl); rotate_left; (simp only [zs]; rfl)
           refine zp 2 (zb 25 7) ?_ rfl rfl HT_ (by kernel_rfl) (fun _ _ _ h => h) rfl ?_ ?_ ?_ ?_; rotate_left; (intro w'; go_simp; with_reducible rfl); rotate_left; (simp only [zs]; rfl)
           refine zp 3 (zb 25 15) ?_ rfl rfl HT_ (by kernel_rfl) (fun _ _ _ h => h) rfl ?_ ?_ ?_ ?_; rotate_left; (intro w'; go_simp; with_reducible rfl); rotate_left; (simp only [zs]; rfl)
           refine zn 4 (zb 25 31) rfl rfl HT_ (by kernel_rfl) (fun _ _ _ h => h) rfl ?_ ?_ ?_; rotate_left; (simp only [zs]; rfl)
           refine zn 5 (zb 25 63) rfl rfl HT_ (by kernel_rfl) (fun _ _ _ h => h) rfl ?_ ?_ ?_; rotate_left; (simp only [zs]; rfl)
           refine zn 6 (zb 25 127) rfl rfl HT_ (by kernel_rfl) (fun _ _ _ h => h) rfl ?_ ?_ ?_; rotate_left; (simp only [zs]; rfl)
           refine zp 7 (zb 25 255) ?_ rfl rfl HT_ (by kernel_rfl) (fun _ _ _ h => h) rfl ?_ ?_ ?_ ?_; rotate_left; (intro w'; go_simp; with_reducible rfl); rotate_left; (simp only [zs]; rfl)
           refine zp 8 (zb 25 511) ?_ rfl rfl HT_ (by kernel_rfl) (fun _ _ _ h => h) rfl ?_ ?_ ?_ ?_; rotate_left; (intro w'; go_simp; with_reducible rfl); rotate_left; (simp only [zs]; rfl)
           refine zn 9 (zb 25 1023) rfl rfl HT_ (by kernel_rfl) (fun _ _ _ h => h) rfl ?_ ?_ ?_; rotate_left; (simp only [zs]; rfl)
           refine zn 10 (zb 25 2047) rfl rfl HT_ (by kernel_rfl) (fun _ _ _ h => h) rfl ?_ ?_ ?_; rotate_left; (simp only [zs]; rfl)
           refine zn 11 (zb 25 4095) rfl rfl HT_ (by kernel_rfl) (fun _ _ _ h => h) rfl ?_ ?_ ?_; rotate_left; (simp only [zs]; rfl)
           refine zn 12 (zb 25 8191) rfl rfl HT_ (by kernel_rfl) (fun _ _ _ h => h) rfl ?_ ?_ ?_; rotate_left; (simp only [zs]; rfl)
           refine zp 13 (zb 25 16383) ?_ rfl rfl HT_ (by kernel_rfl) (fun _ _ _ h => h) rfl ?_ ?_ ?_ ?_; rotate_left; (intro w'; go_simp; with_reducible rfl); rotate_left; (simp only [zs]; rfl)
           refine zp 14 (zb 25 32767) ?_ rfl rfl HT_ (by kernel_rfl) (fun _ _ _ h => h) rfl ?_ ?_ ?_ ?_; rotate_left; (intro w'; go_simp; with_reducible rfl); rotate_left; (simp only [zs]; rfl)
           refine zn 15 (zb 25 65535) rfl rfl HT_ (by kernel_rfl) (fun _ _ _ h => h) rfl ?_ ?_ ?_; rotate_left; (simp only [zs]; rfl)
           refine zn 16 (zb 25 131071) rfl rfl HT_ (by kernel_rfl) (fun _ _ _ h => h) rfl ?_ ?_ ?_; rotate_left; (simp only [zs]; rfl)
           refine zn 17 (zb 25 262143) rfl rfl HT_ (by kernel_rfl) (fun _ _ _ h => h) rfl ?_ ?_ ?_; rotate_left; (simp only [zs]; rfl)
           refine zn 18 (zb 25 524287) rfl rfl HT_ (by kernel_rfl) (fun _ _ _ h => h) rfl ?_ ?_ ?_; rotate_left; (simp only [zs]; rfl)
           refine zn 19 (zb 25 1048575) rfl rfl HT_ (by kernel_rfl) (fun _ _ _ h => h) rfl ?_ ?_ ?_; rotate_left; (simp only [zs]; rfl)
           refine zn 20 (zb 25 2097151) rfl rfl HT_ (by kernel_rfl) (fun _ _ _ h => h) rfl ?_ ?_ ?_; rotate_left; (simp only [zs]; rfl)
           refine zn 21 (zb 25 4194303) rfl rfl HT_ (by kernel_rfl) (fun _ _ _ h => h) rfl ?_ ?_ ?_; rotate_left; (simp only [zs]; rfl)
           refine zn 22 (zb 25 8388607) rfl rfl HT_ (by kernel_rfl) (fun _ _ _ h => h) rfl ?_ ?_ ?_; rotate_left; (simp only [zs]; rfl)
           refine zp 23 (zb 25 16777215) ?_ rfl rfl HT_ (by kernel_rfl) (fun _ _ _ h => h) rfl ?_ ?_ ?_ ?_; rotate_left; (intro w'; go_simp; with_reducible rfl); rotate_left; (simp only [zs]; rfl)
           refine zp 24 (zb 25 33554431) ?_ rfl rfl HT_ (by kernel_rfl) (fun _ _ _ h => h) rfl ?_ ?_ ?_ ?_; rotate_left; (intro w'; go_simp; with_reducible rfl); rotate_left; (simp only [zs]; rfl)
           refine done_ (done_of HT_.out (by kernel_rfl)) ?_
           try go_wp2
           go_ret
           exact ⟨by first | rfl , by exact HB.out⟩
       · rw [if_neg c80] at H
         have c80b0 : (a1_2 == 15) = false := beq_eq_false_iff_ne.mpr c80
         have c80b1 : (a1_2 != 15) = true := bne_iff_ne.mpr c80
         obtain rfl := Option.some.inj H
         go_enter Tryd.func13, Tryd.ntmps13
         go_wp2_with (first | ((with_reducible refine gate_dst (N := 3) rfl ?_); (try (refine gate_guard (by rfl) ?_; dsimp only)); refine box_event ?hg (N := 3) ?hd (cs := #[.slice A0_0 l0_0.length c0_0, .slice A0_1 l0_1.length c0_1]) (t := 25) ?hr ?_; (case hd => rfl); (case hg => rfl); (case hr => first | (go_simp; done) | (go_simp; rfl)); intro gb229 hg w115 hbox hb; have n0_ := Aside0.mk (below_step HB.out hb); have n1_ := Aside0.mk (hbox); clear HB; have HB := n0_; have BK229 := n1_; clear n0_ n1_; clear hb hbox hg) | ((with_reducible refine gate_dst (N := 4) rfl ?_); (try (refine gate_guard (by rfl) ?_; dsimp only)); refine box_event ?hg (N := 4) ?hd (cs := #[.string a1_0, .int .i64 a1_1, .int .i64 a1_2, .string a1_3, .bool a1_4, .bool a1_5, .string a1_6]) (t := 36) ?hr ?_; (case hd => rfl); (case hg => rfl); (case hr => first | (go_simp; done) | (go_simp; rfl)); intro gb230 hg w116 hbox hb; have n0_ := Aside0.mk (blk_below BK229.out hb); have n1_ := Aside0.mk (below_step HB.out hb); have n2_ := Aside0.mk (hbox); have n5_ := Aside0.mk ((by rw [hg]; exact Nat.ne_of_lt (blk_lt BK229.out) : gb229 ≠ gb230)); have n6_ := Aside0.mk ((by rw [hg]; exact Nat.ne_of_gt (blk_lt BK229.out) : gb230 ≠ gb229)); clear BK229; clear HB; have BK229 := n0_; have HB := n1_; have BK230 := n2_; have NB229_230 := n5_; have NB230_229 := n6_; clear n0_ n1_ n2_ n5_ n6_; clear hb hbox hg) | ((with_reducible refine gate_dst (N := 5) rfl ?_); (try (refine gate_guard (by rfl) ?_; dsimp only)); refine box_event ?hg (N := 5) ?hd (cs := #[.int .u64 a2_0, .string a2_1, .slice A2_2 l2_2.length c2_2]) (t := 40) ?hr ?_; (case hd => rfl); (case hg => rfl); (case hr => first | (go_simp; done) | (go_simp; rfl)); intro gb231 hg w117 hbox hb; have n0_ := Aside0.mk (blk_below BK229.out hb); have n1_ := Aside0.mk (blk_below BK230.out hb); have n2_ := Aside0.mk (below_step HB.out hb); have n3_ := Aside0.mk (hbox); have n6_ := Aside0.mk ((by rw [hg]; exact Nat.ne_of_lt (blk_lt BK229.out) : gb229 ≠ gb231)); have n7_ := Aside0.mk ((by rw [hg]; exact Nat.ne_of_gt (blk_lt BK229.out) : gb231 ≠ gb229)); have n8_ := Aside0.mk ((by rw [hg]; exact Nat.ne_of_lt (blk_lt BK230.out) : gb230 ≠ gb231)); have n9_ := Aside0.mk ((by rw [hg]; exact Nat.ne_of_gt (blk_lt BK230.out) : gb231 ≠ gb230)); clear BK229; clear BK230; clear HB; have BK229 := n0_; have BK230 := n1_; have HB := n2_; have BK231 := n3_; have NB229_231 := n6_; have NB231_229 := n7_; have NB230_231 := n8_; have NB231_230 := n9_; clear n0_ n1_ n2_ n3_ n6_ n7_ n8_ n9_; clear hb hbox hg; have hnb118 := NB230_229.out; have hnc118 := NB229_230.out; have hnb119 := NB230_231.out; have hnc119 := NB231_230.out; have hcz120_0 : w117.cell? ⟨gb230, 0, none⟩ = some (.string a1_0) := (blk_cell BK230.out 0).trans rfl; have hcz120_1 : w117.cell? ⟨gb230, 1, none⟩ = some (.int .i64 a1_1) := (blk_cell BK230.out 1).trans rfl; have hcz120_2 : w117.cell? ⟨gb230, 2, none⟩ = some (.int .i64 a1_2) := (blk_cell BK230.out 2).trans rfl; have hcz120_3 : w117.cell? ⟨gb230, 3, none⟩ = some (.string a1_3) := (blk_cell BK230.out 3).trans rfl; have hcz120_4 : w117.cell? ⟨gb230, 4, none⟩ = some (.bool a1_4) := (blk_cell BK230.out 4).trans rfl; have hcz120_5 : w117.cell? ⟨gb230, 5, none⟩ = some (.bool a1_5) := (blk_cell BK230.out 5).trans rfl; have hcz120_6 : w117.cell? ⟨gb230, 6, none⟩ = some (.string a1_6) := (blk_cell BK230.out 6).trans rfl; have hfz120_0 := blk_frozen BK230.out 0; have hfz120_1 := blk_frozen BK230.out 1; have hfz120_2 := blk_frozen BK230.out 2; have hfz120_3 := blk_frozen BK230.out 3; have hfz120_4 := blk_frozen BK230.out 4; have hfz120_5 := blk_frozen BK230.out 5; have hfz120_6 := blk_frozen BK230.out 6) | ((with_reducible refine gate_callee (f := 26) rfl ?_); refine goesL_ (some 9) rfl rfl Tryd.func26 (by kernel_rfl) rfl #[.int .i64 a1_2] rfl (by (try simp only [List.map_toArray, List.map_cons, List.map_nil]); first | done | rfl | (simp only [List.length_drop, List.length_take]; rfl)) ?_; (with_reducible refine (ecdysisref11_Number.calls a1_2 false _ A4.out).mono ?_); rintro e w' ⟨rfl, ⟨nd, rfl⟩⟩; refine ⟨_, rfl, ?_⟩))
         go_ret
         exact ⟨by first | rfl , by repeat (first | (with_reducible first | exact HB.out | apply pw_below_drewN ) )⟩
end Go.Proofs.YtbpnfpckoapdbaaDoor.PV20
end
section
namespace Go.Proofs.YtbpnfpckoapdbaaDoor.PV20
open Go.RowKit Go.Proofs.YtbpnfpckoapdbaaDoor.M Go.Proofs.YtbpnfpckoapdbaaDoor.KD Go.Proofs.YtbpnfpckoapdbaaDoor Go.Proofs.YtbpnfpckoapdbaaDoorW.PrintWords Go.Proofs.YtbpnfpckoapdbaaDoorW.PrintLast Go.Proofs.YtbpnfpckoapdbaaDoorW.PrintMore
attribute [local go_sem] max2_int min2_int max_two min_two max_three min_three max_four min_four   -- for this text's walks alone
set_option linter.unusedVariables false
set_option linter.unusedSimpArgs false
theorem isEmpty_bne (l : List UInt8) : l.isEmpty = !(l != []) := by cases l <;> rfl
def ecdysisref20_slot.T10 : Bool × List (List Nat × List Nat) := (true, [([], []), ([], []), ([], []), ([2], [2]), ([], []), ([3, 4], [3, 4]), ([5], [5]), ([0, 1, 6], [0, 1, 6]), ([7], [7])])
def ecdysisref20_slot.B10 : List Nat := [0, 0, 0, 4, 0, 28, 60, 127, 255]
theorem ecdysisref20_slot.tab10 : rtab .any (opsOf Tryd.f20 10) = ecdysisref20_slot.T10 := by kernel_rfl
theorem ecdysisref20_slot.bits10 : waitsOk ecdysisref20_slot.T10.2 ecdysisref20_slot.B10 = true := by kernel_rfl
set_option maxHeartbeats 8000000 in
set_option maxRecDepth 100000 in
theorem ecdysisref20_slot.callsR (k : Nat) (ih_ecdysisref20_Tree : ∀ k_, k_ < k → ∀ (A0_0 : Option Addr) (c0_0 : Nat) (l0_0 : List (S48)) (A0_1 : Option Addr) (c0_1 : Nat) (l0_1 : List (S52)) (a1 : ByteArray) (A2_0 : Option Addr) (c2_0 : Nat) (l2_0 : List (S43)) (A2_1 : Option Addr) (c2_1 : Nat) (l2_1 : List (S63)) (r : Bool) (w : World) (hT : Tabs w) (hr0_0 : Kd.C k48 w A0_0 l0_0.length l0_0) (hc0_0 : l0_0.length ≤ c0_0) (hr0_1 : Kd.C k52 w A0_1 l0_1.length l0_1) (hc0_1 : l0_1.length ≤ c0_1) (hr2_0 : Kd.C k43 w A2_0 l2_0.length l2_0) (hc2_0 : l2_0.length ≤ c2_0) (hr2_1 : Kd.C k63 w A2_1 l2_1.length l2_1) (hc2_1 : l2_1.length ≤ c2_1) (h_ : ecdysisref20_Tree.f k_ l0_0 l0_1 a1 l2_0 l2_1 = some r), Calls Tryd.prog 10 #[.agg #[.slice A0_0 l0_0.length c0_0, .slice A0_1 l0_1.length c0_1], .string a1, .agg #[.slice A2_0 l2_0.length c2_0, .slice A2_1 l2_1.length c2_1]] w fun e w' => e = .returned (.bool r) ∧ Below w.heap.size w w') (ih_ecdysisref20_Val : ∀ k_, k_ < k → ∀ (A0_0 : Option Addr) (c0_0 : Nat) (l0_0 : List (S48)) (A0_1 : Option Addr) (c0_1 : Nat) (l0_1 : List (S52)) (a1_0 : ByteArray) (a1_1 : Int) (a1_2 : Int) (a1_3 : ByteArray) (a1_4 : Bool) (a1_5 : Bool) (a1_6 : ByteArray) (a2_0 : Int) (a2_1 : ByteArray) (A2_2 : Option Addr) (c2_2 : Nat) (l2_2 : List (S29)) (r : Bool) (w : World) (hT : Tabs w) (hr0_0 : Kd.C k48 w A0_0 l0_0.length l0_0) (hc0_0 : l0_0.length ≤ c0_0) (hr0_1 : Kd.C k52 w A0_1 l0_1.length l0_1) (hc0_1 : l0_1.length ≤ c0_1) (hr2_2 : Kd.C k29 w A2_2 l2_2.length l2_2) (hc2_2 : l2_2.length ≤ c2_2) (h_ : ecdysisref20_Val.f k_ l0_0 l0_1 a1_0 a1_1 a1_2 a1_3 a1_4 a1_5 a1_6 a2_0 a2_1 l2_2 = some r), Calls Tryd.prog 13 #[.agg #[.slice A0_0 l0_0.length c0_0, .slice A0_1 l0_1.length c0_1], .agg #[.string a1_0, .int .i64 a1_1, .int .i64 a1_2, .string a1_3, .bool a1_4, .bool a1_5, .string a1_6], .agg #[.int .u64 a2_0, .string a2_1, .slice A2_2 l2_2.length c2_2]] w fun e w' => e = .returned (.bool r) ∧ Below w.heap.size w w') (ih_ecdysisref20_slot : ∀ k_, k_ < k → ∀ (A0_0 : Option Addr) (c0_0 : Nat) (l0_0 : List (S48)) (A0_1 : Option Addr) (c0_1 : Nat) (l0_1 : List (S52)) (a1_0 : ByteArray) (A1_1 : Option Addr) (c1_1 : Nat) (l1_1 : List (S36)) (A1_2 : Option Addr) (c1_2 : Nat) (l1_2 : List Int) (a2_0 : Int) (A2_1 : Option Addr) (c2_1 : Nat) (l2_1 : List (S40)) (r : Bool) (w : World) (hT : Tabs w) (hr0_0 : Kd.C k48 w A0_0 l0_0.length l0_0) (hc0_0 : l0_0.length ≤ c0_0) (hr0_1 : Kd.C k52 w A0_1 l0_1.length l0_1) (hc0_1 : l0_1.length ≤ c0_1) (hr1_1 : Kd.C k36 w A1_1 l1_1.length l1_1) (hc1_1 : l1_1.length ≤ c1_1) (hr1_2 : Kd.C (Kd.int .i64) w A1_2 l1_2.length l1_2) (hc1_2 : l1_2.length ≤ c1_2) (hr2_1 : Kd.C k40 w A2_1 l2_1.length l2_1) (hc2_1 : l2_1.length ≤ c2_1) (h_ : ecdysisref20_slot.f k_ l0_0 l0_1 a1_0 l1_1 l1_2 a2_0 l2_1 = some r), Calls Tryd.prog 20 #[.agg #[.slice A0_0 l0_0.length c0_0, .slice A0_1 l0_1.length c0_1], .agg #[.string a1_0, .slice A1_1 l1_1.length c1_1, .slice A1_2 l1_2.length c1_2], .agg #[.int .i64 a2_0, .slice A2_1 l2_1.length c2_1]] w fun e w' => e = .returned (.bool r) ∧ Below w.heap.size w w') : ∀ (A0_0 : Option Addr) (c0_0 : Nat) (l0_0 : List (S48)) (A0_1 : Option Addr) (c0_1 : Nat) (l0_1 : List (S52)) (a1_0 : ByteArray) (A1_1 : Option Addr) (c1_1 : Nat) (l1_1 : List (S36)) (A1_2 : Option Addr) (c1_2 : Nat) (l1_2 : List Int) (a2_0 : Int) (A2_1 : Option Addr) (c2_1 : Nat) (l2_1 : List (S40)) (r : Bool) (w : World) (hT : Tabs w) (hr0_0 : Kd.C k48 w A0_0 l0_0.length l0_0) (hc0_0 : l0_0.length ≤ c0_0) (hr0_1 : Kd.C k52 w A0_1 l0_1.length l0_1) (hc0_1 : l0_1.length ≤ c0_1) (hr1_1 : Kd.C k36 w A1_1 l1_1.length l1_1) (hc1_1 : l1_1.length ≤ c1_1) (hr1_2 : Kd.C (Kd.int .i64) w A1_2 l1_2.length l1_2) (hc1_2 : l1_2.length ≤ c1_2) (hr2_1 : Kd.C k40 w A2_1 l2_1.length l2_1) (hc2_1 : l2_1.length ≤ c2_1) (h : ecdysisref20_slot.f k l0_0 l0_1 a1_0 l1_1 l1_2 a2_0 l2_1 = some r),
  Calls Tryd.prog 20 #[.agg #[.slice A0_0 l0_0.length c0_0, .slice A0_1 l0_1.length c0_1], .agg #[.string a1_0, .slice A1_1 l1_1.length c1_1, .slice A1_2 l1_2.length c1_2], .agg #[.int .i64 a2_0, .slice A2_1 l2_1.length c2_1]] w fun e w' => e = .returned (.bool r) ∧ Below w.heap.size w w' := by
 intro A0_0 c0_0 l0_0 A0_1 c0_1 l0_1 a1_0 A1_1 c1_1 l1_1 A1_2 c1_2 l1_2 a2_0 A2_1 c2_1 l2_1 r w hT hr0_0 hc0_0 hr0_1 hc0_1 hr1_1 hc1_1 hr1_2 hc1_2 hr2_1 hc2_1 h
 have HU8 := Aside0.mk hT
 clear hT
 cases k with
 | zero => exact absurd h (by simp [ecdysisref20_slot.f])
 | succ k =>
 simp only [ecdysisref20_slot.f] at h
 have hu25 := Tryd.underlying25
 have hu52 := Tryd.underlying52
 have hu43 := Tryd.underlying43
 have hu36 := Tryd.underlying36
 have hu40 := Tryd.underlying40
 have HR0_0 := Aside0.mk hr0_0
 have HC0_0 := Aside0.mk hc0_0
 clear hr0_0 hc0_0
 have HR0_1 := Aside0.mk hr0_1
 have HC0_1 := Aside0.mk hc0_1
 clear hr0_1 hc0_1
 have HR1_1 := Aside0.mk hr1_1
 have HC1_1 := Aside0.mk hc1_1
 clear hr1_1 hc1_1
 have HR1_2 := Aside0.mk hr1_2
 have HC1_2 := Aside0.mk hc1_2
 clear hr1_2 hc1_2
 have HR2_1 := Aside0.mk hr2_1
 have HC2_1 := Aside0.mk hc2_1
 clear hr2_1 hc2_1
 have HB := Aside0.mk (Below.refl w.heap.size w)
 have H : ((ecdysisref16_Number.f k a1_0 l1_1 l1_2 a2_0).bind fun t240 => (if t240 < 0 then (ecdysisref20_slot.j0 k t240 true l0_0 l0_1 a1_0 l1_1 l1_2 a2_0 l2_1) else (ecdysisref20_slot.j0 k t240 ((l2_1.length : Int) == 0) l0_0 l0_1 a1_0 l1_1 l1_2 a2_0 l2_1))) = some r := h
 clear h
 replace H := Option.bind_eq_some_iff.mp H
 obtain ⟨t240, A40, H⟩ := H
 replace H : (if t240 < 0 then (ecdysisref20_slot.j0 k t240 true l0_0 l0_1 a1_0 l1_1 l1_2 a2_0 l2_1) else (ecdysisref20_slot.j0 k t240 ((l2_1.length : Int) == 0) l0_0 l0_1 a1_0 l1_1 l1_2 a2_0 l2_1)) = some r := H
 have A4 := Aside0.mk A40
 clear A40
 have HC5 := Aside0.mk H
 clear H
 go_enter Tryd.func20, Tryd.ntmps20
 go_upto_region 2 with (first | ((with_reducible refine gate_dst (N := 3) rfl ?_); (try (refine gate_guard (by rfl) ?_; dsimp only)); refine box_event ?hg (N := 3) ?hd (cs := #[.slice A0_0 l0_0.length c0_0, .slice A0_1 l0_1.length c0_1]) (t := 25) ?hr ?_; (case hd => rfl); (case hg => rfl); (case hr => first | (go_simp; done) | (go_simp; rfl)); intro gb237 hg w6 hbox hb; have n0_ := Aside0.mk (below_step HB.out hb); have n1_ := Aside0.mk (hbox); clear HB; have HB := n0_; have BK237 := n1_; clear n0_ n1_; clear hb hbox hg) | ((with_reducible refine gate_dst (N := 4) rfl ?_); (try (refine gate_guard (by rfl) ?_; dsimp only)); refine box_event ?hg (N := 4) ?hd (cs := #[.string a1_0, .slice A1_1 l1_1.length c1_1, .slice A1_2 l1_2.length c1_2]) (t := 52) ?hr ?_; (case hd => rfl); (case hg => rfl); (case hr => first | (go_simp; done) | (go_simp; rfl)); intro gb238 hg w7 hbox hb; have n0_ := Aside0.mk (blk_below BK237.out hb); have n1_ := Aside0.mk (below_step HB.out hb); have n2_ := Aside0.mk (hbox); have n5_ := Aside0.mk ((by rw [hg]; exact Nat.ne_of_lt (blk_lt BK237.out) : gb237 ≠ gb238)); have n6_ := Aside0.mk ((by rw [hg]; exact Nat.ne_of_gt (blk_lt BK237.out) : gb238 ≠ gb237)); clear BK237; clear HB; have BK237 := n0_; have HB := n1_; have BK238 := n2_; have NB237_238 := n5_; have NB238_237 := n6_; clear n0_ n1_ n2_ n5_ n6_; clear hb hbox hg) | ((with_reducible refine gate_dst (N := 5) rfl ?_); (try (refine gate_guard (by rfl) ?_; dsimp only)); refine box_event ?hg (N := 5) ?hd (cs := #[.int .i64 a2_0, .slice A2_1 l2_1.length c2_1]) (t := 43) ?hr ?_; (case hd => rfl); (case hg => rfl); (case hr => first | (go_simp; done) | (go_simp; rfl)); intro gb239 hg w8 hbox hb; have n0_ := Aside0.mk (blk_below BK237.out hb); have n1_ := Aside0.mk (blk_below BK238.out hb); have n2_ := Aside0.mk (below_step HB.out hb); have n3_ := Aside0.mk (hbox); have n6_ := Aside0.mk ((by rw [hg]; exact Nat.ne_of_lt (blk_lt BK237.out) : gb237 ≠ gb239)); have n7_ := Aside0.mk ((by rw [hg]; exact Nat.ne_of_gt (blk_lt BK237.out) : gb239 ≠ gb237)); have n8_ := Aside0.mk ((by rw [hg]; exact Nat.ne_of_lt (blk_lt BK238.out) : gb238 ≠ gb239)); have n9_ := Aside0.mk ((by rw [hg]; exact Nat.ne_of_gt (blk_lt BK238.out) : gb239 ≠ gb238)); clear BK237; clear BK238; clear HB; have BK237 := n0_; have BK238 := n1_; have HB := n2_; have BK239 := n3_; have NB237_239 := n6_; have NB239_237 := n7_; have NB238_239 := n8_; have NB239_238 := n9_; clear n0_ n1_ n2_ n3_ n6_ n7_ n8_ n9_; clear hb hbox hg; have hnb9 := NB238_237.out; have hnc9 := NB237_238.out; have hnb10 := NB238_239.out; have hnc10 := NB239_238.out; have hcz11_0 : w8.cell? ⟨gb238, 0, none⟩ = some (.string a1_0) := (blk_cell BK238.out 0).trans rfl; have hcz11_1 : w8.cell? ⟨gb238, 1, none⟩ = some (.slice A1_1 l1_1.length c1_1) := (blk_cell BK238.out 1).trans rfl; have hcz11_2 : w8.cell? ⟨gb238, 2, none⟩ = some (.slice A1_2 l1_2.length c1_2) := (blk_cell BK238.out 2).trans rfl; have hfz11_0 := blk_frozen BK238.out 0; have hfz11_1 := blk_frozen BK238.out 1; have hfz11_2 := blk_frozen BK238.out 2; have hnb12 := NB239_237.out; have hnc12 := NB237_239.out; have hcz13_0 : w8.cell? ⟨gb239, 0, none⟩ = some (.int .i64 a2_0) := (blk_cell BK239.out 0).trans rfl; have hcz13_1 : w8.cell? ⟨gb239, 1, none⟩ = some (.slice A2_1 l2_1.length c2_1) := (blk_cell BK239.out 1).trans rfl; have hfz13_0 := blk_frozen BK239.out 0; have hfz13_1 := blk_frozen BK239.out 1) | ((with_reducible refine gate_callee (f := 21) rfl ?_); refine goesL_ (some 13) rfl rfl Tryd.func21 (by kernel_rfl) rfl #[.agg #[.string a1_0, .slice A1_1 l1_1.length c1_1, .slice A1_2 l1_2.length c1_2], .int .i64 a2_0] rfl (by (try simp only [List.map_toArray, List.map_cons, List.map_nil]); first | done | rfl | (simp only [List.length_drop, List.length_take]; rfl)) ?_; (with_reducible refine (ecdysisref16_Number.calls k a1_0 _ _ l1_1 _ _ l1_2 a2_0 t240 _ ?side1 ?side2 ?side3 ?side4 A4.out).mono ?_); (case side1 => repeat (first | exact (Kd.C_below HR1_1.out HB.out) )); (case side2 => exact HC1_1.out); (case side3 => repeat (first | exact (Kd.C_below HR1_2.out HB.out) )); (case side4 => exact HC1_2.out); rintro e w14 ⟨rfl, hb⟩; refine ⟨_, rfl, ?_⟩; have n0_ := Aside0.mk (blk_below BK237.out hb); have n1_ := Aside0.mk (blk_below BK238.out hb); have n2_ := Aside0.mk (blk_below BK239.out hb); have n3_ := Aside0.mk (below_step HB.out hb); clear BK237; clear BK238; clear BK239; clear HB; have BK237 := n0_; have BK238 := n1_; have BK239 := n2_; have HB := n3_; clear n0_ n1_ n2_ n3_; (try clear hb); (try clear hb2); (try clear hk); (try clear hi)))
 (try simp only [Act.put, List.setIfInBounds_toArray, List.set_cons_zero, List.set_cons_succ])
 go_cut [21] (fun v21 wc => ∃ (kq : Nat) (x21_4 : Bool), v21 = .bool x21_4 ∧ Aside0 (ecdysisref20_slot.j0 kq t240 x21_4 l0_0 l0_1 a1_0 l1_1 l1_2 a2_0 l2_1 = some r) ∧ Aside0 (kq ≤ k) ∧ Aside0 (wc.heap[gb237]? = some (.cells #[(.slice A0_0 l0_0.length c0_0), (.slice A0_1 l0_1.length c0_1)] 25 (0, 0))) ∧ Aside0 (wc.heap[gb238]? = some (.cells #[.string a1_0, (.slice A1_1 l1_1.length c1_1), (.slice A1_2 l1_2.length c1_2)] 52 (0, 0))) ∧ Aside0 (wc.heap[gb239]? = some (.cells #[.int .i64 a2_0, (.slice A2_1 l2_1.length c2_1)] 43 (0, 0))) ∧ Aside0 (Below w.heap.size w wc))
 case first =>
  have H := HC5.out
  clear HC5
  by_cases c15 : t240 < 0
  · rw [if_pos c15] at H
    have c15b0 : decide (t240 < 0) = true := decide_eq_true c15
    clear c15
    (first | skip)
    have H' := Aside0.mk H
    clear H
    go_wp2
    go_meet
    case rel => (try rw [← Nbq31.out]); exact ⟨_, (true), (by first | rfl ), H', ⟨by first | omega ⟩, ⟨by exact BK237.out⟩, ⟨by exact BK238.out⟩, ⟨by exact BK239.out⟩, ⟨by exact HB.out⟩⟩
  · rw [if_neg c15] at H
    have c15b0 : decide (t240 < 0) = false := decide_eq_false c15
    clear c15
    (first | skip)
    have H' := Aside0.mk H
    clear H
    have hnb16 := NB239_237.out
    have hnc16 := NB237_239.out
    have hnb17 := NB239_238.out
    have hnc17 := NB238_239.out
    have hcz18_0 : w14.cell? ⟨gb239, 0, none⟩ = some (.int .i64 a2_0) := (blk_cell BK239.out 0).trans rfl
    have hcz18_1 : w14.cell? ⟨gb239, 1, none⟩ = some (.slice A2_1 l2_1.length c2_1) := (blk_cell BK239.out 1).trans rfl
    have hfz18_0 := blk_frozen BK239.out 0
    have hfz18_1 := blk_frozen BK239.out 1
    go_wp2
    go_meet
    case rel => (try rw [← Nbq31.out]); exact ⟨_, (((l2_1.length : Int) == 0)), (by first | rfl ), H', ⟨by first | omega ⟩, ⟨by exact BK237.out⟩, ⟨by exact BK238.out⟩, ⟨by exact BK239.out⟩, ⟨by exact HB.out⟩⟩
 case rest =>
  clear HC5
  try clear c1
  try clear c2
  try clear p2
  try clear c9
  try clear c10
  try clear c12
  try clear c15
  try clear c15b0
  try clear c16
  try clear c17
  try clear hcz11_0
  try clear hcz11_1
  try clear hcz11_2
  try clear hcz13_0
  try clear hcz13_1
  try clear hcz18_0
  try clear hcz18_1
  try clear hfz11_0
  try clear hfz11_1
  try clear hfz11_2
  try clear hfz13_0
  try clear hfz13_1
  try clear hfz18_0
  try clear hfz18_1
  obtain ⟨kq, x21_4, rfl, HA, HJ4, BK237, BK238, BK239, HB⟩ := hcut
  cases kq with
  | zero => exact absurd HA.out (by simp [ecdysisref20_slot.j0])
  | succ kj4 =>
    have H := HA.out
    clear HA
    simp only [ecdysisref20_slot.j0] at H
    by_cases c19 : x21_4 = true
    · subst c19
      have H1 : (some false) = some r := by rw [if_pos rfl] at H; exact H
      clear H
      have H := H1
      clear H1
      obtain rfl := Option.some.inj H
      go_wp2
      go_ret
      exact ⟨by first | rfl , by exact HB.out⟩
    · replace c19 := Bool.eq_false_iff.mpr c19
      subst c19
      have H1 : (if 0 ≤ t240 then (if t240 < (l1_1.length : Int) then (if ((rd_T36 l1_1 t240).f4 = true) then (ecdysisref20_slot.j1 kj4 false l0_0 l0_1 a2_0 l2_1 ((rd_T36 l1_1 t240).f0) ((rd_T36 l1_1 t240).f1) ((rd_T36 l1_1 t240).f2) ((rd_T36 l1_1 t240).f3) ((rd_T36 l1_1 t240).f4) ((rd_T36 l1_1 t240).f5) ((rd_T36 l1_1 t240).f6)) else (ecdysisref20_slot.j1 kj4 ((l2_1.length : Int) != 1) l0_0 l0_1 a2_0 l2_1 ((rd_T36 l1_1 t240).f0) ((rd_T36 l1_1 t240).f1) ((rd_T36 l1_1 t240).f2) ((rd_T36 l1_1 t240).f3) ((rd_T36 l1_1 t240).f4) ((rd_T36 l1_1 t240).f5) ((rd_T36 l1_1 t240).f6))) else (none)) else (none)) = some r := by rw [if_neg (show ¬ (false = true) by decide)] at H; exact H
      clear H
      have H := H1
      clear H1
      by_cases c20 : 0 ≤ t240
      · rw [if_pos c20] at H
        have c20b0 : decide (0 ≤ t240) = true := decide_eq_true c20
        clear c20
        by_cases c21 : t240 < (l1_1.length : Int)
        · rw [if_pos c21] at H
          have c21b0 : decide (t240 < (l1_1.length : Int)) = true := decide_eq_true c21
          clear c21
          have HC22 := Aside0.mk H
          clear H
          have hnb23 := NB238_237.out
          have hnc23 := NB237_238.out
          have hnb24 := NB238_239.out
          have hnc24 := NB239_238.out
          have hcz25_0 : wc.cell? ⟨gb238, 0, none⟩ = some (.string a1_0) := (blk_cell BK238.out 0).trans rfl
          have hcz25_1 : wc.cell? ⟨gb238, 1, none⟩ = some (.slice A1_1 l1_1.length c1_1) := (blk_cell BK238.out 1).trans rfl
          have hcz25_2 : wc.cell? ⟨gb238, 2, none⟩ = some (.slice A1_2 l1_2.length c1_2) := (blk_cell BK238.out 2).trans rfl
          have hfz25_0 := blk_frozen BK238.out 0
          have hfz25_1 := blk_frozen BK238.out 1
          have hfz25_2 := blk_frozen BK238.out 2
          have p241 : 0 ≤ (t240 : Int) := of_decide_eq_true (by first | (with_reducible assumption) )
          have q241 : t240 < (l1_1.length : Int) := of_decide_eq_true (by first | (with_reducible assumption) )
          obtain ⟨ad241, e241, hx241_0, hx241_1, hx241_2, hx241_3, hx241_4, hx241_5, hx241_6⟩ := at_T36 HR1_1.out t240 p241 q241
          cases e241
          replace hx241_0 := (HB.out.cell (World.block_lt_of_cell? w _ hx241_0)).trans hx241_0
          replace hx241_1 := (HB.out.cell (World.block_lt_of_cell? w _ hx241_1)).trans hx241_1
          replace hx241_2 := (HB.out.cell (World.block_lt_of_cell? w _ hx241_2)).trans hx241_2
          replace hx241_3 := (HB.out.cell (World.block_lt_of_cell? w _ hx241_3)).trans hx241_3
          replace hx241_4 := (HB.out.cell (World.block_lt_of_cell? w _ hx241_4)).trans hx241_4
          replace hx241_5 := (HB.out.cell (World.block_lt_of_cell? w _ hx241_5)).trans hx241_5
          replace hx241_6 := (HB.out.cell (World.block_lt_of_cell? w _ hx241_6)).trans hx241_6
          replace p241 := eq_true p241
          replace q241 := eq_true q241
          go_upto_region 5 with (first | ((with_reducible refine gate_dst (N := 8) rfl ?_); (try (refine gate_guard (by rfl) ?_; dsimp only)); refine box_event ?hg (N := 8) ?hd (cs := #[.string (⟨#[]⟩ : ByteArray), .int .i64 0, .int .i64 0, .string (⟨#[]⟩ : ByteArray), .bool false, .bool false, .string (⟨#[]⟩ : ByteArray)]) (t := 36) ?hr ?_; (case hd => rfl); (case hg => rfl); (case hr => first | (go_simp; done) | (go_simp; rfl)); intro gb242 hg w26 hbox hb; have n0_ := Aside0.mk (blk_below BK237.out hb); have n1_ := Aside0.mk (blk_below BK238.out hb); have n2_ := Aside0.mk (blk_below BK239.out hb); have n3_ := Aside0.mk (below_step HB.out hb); have n4_ := Aside0.mk (hbox); have n6_ := Aside0.mk ((by rw [hg]; exact (below_size HB.out) : w.heap.size ≤ gb242)); have n7_ := Aside0.mk ((by rw [hg]; exact Nat.ne_of_lt (blk_lt BK237.out) : gb237 ≠ gb242)); have n8_ := Aside0.mk ((by rw [hg]; exact Nat.ne_of_gt (blk_lt BK237.out) : gb242 ≠ gb237)); have n9_ := Aside0.mk ((by rw [hg]; exact Nat.ne_of_lt (blk_lt BK238.out) : gb238 ≠ gb242)); have n10_ := Aside0.mk ((by rw [hg]; exact Nat.ne_of_gt (blk_lt BK238.out) : gb242 ≠ gb238)); have n11_ := Aside0.mk ((by rw [hg]; exact Nat.ne_of_lt (blk_lt BK239.out) : gb239 ≠ gb242)); have n12_ := Aside0.mk ((by rw [hg]; exact Nat.ne_of_gt (blk_lt BK239.out) : gb242 ≠ gb239)); clear BK237; clear BK238; clear BK239; clear HB; have BK237 := n0_; have BK238 := n1_; have BK239 := n2_; have HB := n3_; have BK242 := n4_; have GE242 := n6_; have NB237_242 := n7_; have NB242_237 := n8_; have NB238_242 := n9_; have NB242_238 := n10_; have NB239_242 := n11_; have NB242_239 := n12_; clear n0_ n1_ n2_ n3_ n4_ n6_ n7_ n8_ n9_ n10_ n11_ n12_; clear hb hbox hg; have hnb27 := NB242_237.out; have hnc27 := NB237_242.out; have hnb28 := NB242_238.out; have hnc28 := NB238_242.out; have hnb29 := NB242_239.out; have hnc29 := NB239_242.out; have hcz30_0 : w26.cell? ⟨gb242, 0, none⟩ = some (.string (⟨#[]⟩ : ByteArray)) := (blk_cell BK242.out 0).trans rfl; have hcz30_1 : w26.cell? ⟨gb242, 1, none⟩ = some (.int .i64 0) := (blk_cell BK242.out 1).trans rfl; have hcz30_2 : w26.cell? ⟨gb242, 2, none⟩ = some (.int .i64 0) := (blk_cell BK242.out 2).trans rfl; have hcz30_3 : w26.cell? ⟨gb242, 3, none⟩ = some (.string (⟨#[]⟩ : ByteArray)) := (blk_cell BK242.out 3).trans rfl; have hcz30_4 : w26.cell? ⟨gb242, 4, none⟩ = some (.bool false) := (blk_cell BK242.out 4).trans rfl; have hcz30_5 : w26.cell? ⟨gb242, 5, none⟩ = some (.bool false) := (blk_cell BK242.out 5).trans rfl; have hcz30_6 : w26.cell? ⟨gb242, 6, none⟩ = some (.string (⟨#[]⟩ : ByteArray)) := (blk_cell BK242.out 6).trans rfl; have hfz30_0 := blk_frozen BK242.out 0; have hfz30_1 := blk_frozen BK242.out 1; have hfz30_2 := blk_frozen BK242.out 2; have hfz30_3 := blk_frozen BK242.out 3; have hfz30_4 := blk_frozen BK242.out 4; have hfz30_5 := blk_frozen BK242.out 5; have hfz30_6 := blk_frozen BK242.out 6))
          (try simp only [Act.put, List.setIfInBounds_toArray, List.set_cons_zero, List.set_cons_succ])
          go_cut [35] (fun v35 wc => ∃ (kq : Nat) (x35_21 : Bool), v35 = .bool x35_21 ∧ Aside0 (ecdysisref20_slot.j1 kq x35_21 l0_0 l0_1 a2_0 l2_1 ((rd_T36 l1_1 t240).f0) ((rd_T36 l1_1 t240).f1) ((rd_T36 l1_1 t240).f2) ((rd_T36 l1_1 t240).f3) ((rd_T36 l1_1 t240).f4) ((rd_T36 l1_1 t240).f5) ((rd_T36 l1_1 t240).f6) = some r) ∧ Aside0 (kq ≤ kj4) ∧ Aside0 (wc.heap[gb237]? = some (.cells #[(.slice A0_0 l0_0.length c0_0), (.slice A0_1 l0_1.length c0_1)] 25 (0, 0))) ∧ Aside0 (wc.heap[gb238]? = some (.cells #[.string a1_0, (.slice (some ad241) l1_1.length c1_1), (.slice A1_2 l1_2.length c1_2)] 52 (0, 0))) ∧ Aside0 (wc.heap[gb239]? = some (.cells #[.int .i64 a2_0, (.slice A2_1 l2_1.length c2_1)] 43 (0, 0))) ∧ Aside0 (wc.heap[gb242]? = some (.cells #[.string ((rd_T36 l1_1 t240).f0), .int .i64 ((rd_T36 l1_1 t240).f1), .int .i64 ((rd_T36 l1_1 t240).f2), .string ((rd_T36 l1_1 t240).f3), .bool ((rd_T36 l1_1 t240).f4), .bool ((rd_T36 l1_1 t240).f5), .string ((rd_T36 l1_1 t240).f6)] 36 (0, 0))) ∧ Aside0 (Below w.heap.size w wc))
          case first =>
           have H := HC22.out
           clear HC22
           obtain ⟨bq31, hbq31⟩ : ∃ b_ : Bool, b_ = ((rd_T36 l1_1 t240).f4) := ⟨_, rfl⟩
           replace H : (if (bq31 = true) then (ecdysisref20_slot.j1 kj4 false l0_0 l0_1 a2_0 l2_1 ((rd_T36 l1_1 t240).f0) ((rd_T36 l1_1 t240).f1) ((rd_T36 l1_1 t240).f2) ((rd_T36 l1_1 t240).f3) bq31 ((rd_T36 l1_1 t240).f5) ((rd_T36 l1_1 t240).f6)) else (ecdysisref20_slot.j1 kj4 ((l2_1.length : Int) != 1) l0_0 l0_1 a2_0 l2_1 ((rd_T36 l1_1 t240).f0) ((rd_T36 l1_1 t240).f1) ((rd_T36 l1_1 t240).f2) ((rd_T36 l1_1 t240).f3) bq31 ((rd_T36 l1_1 t240).f5) ((rd_T36 l1_1 t240).f6))) = some r := by rw [← hbq31] at H; exact H
           have Nbq31 := Aside0.mk hbq31
           clear hbq31
           (try rw [← Nbq31.out])
           by_cases c32 : (bq31 = true)
           · subst c32
             have H1 : (ecdysisref20_slot.j1 kj4 false l0_0 l0_1 a2_0 l2_1 ((rd_T36 l1_1 t240).f0) ((rd_T36 l1_1 t240).f1) ((rd_T36 l1_1 t240).f2) ((rd_T36 l1_1 t240).f3) true ((rd_T36 l1_1 t240).f5) ((rd_T36 l1_1 t240).f6)) = some r := by rw [if_pos rfl] at H; exact H
             clear H
             have H := H1
             clear H1
             have H' := Aside0.mk H
             clear H
             have hnb33 := NB242_237.out
             have hnc33 := NB237_242.out
             have hnb34 := NB242_238.out
             have hnc34 := NB238_242.out
             have hnb35 := NB242_239.out
             have hnc35 := NB239_242.out
             have hcz36_0 : w26.cell? ⟨gb242, 0, none⟩ = some (.string (⟨#[]⟩ : ByteArray)) := (blk_cell BK242.out 0).trans rfl
             have hcz36_1 : w26.cell? ⟨gb242, 1, none⟩ = some (.int .i64 0) := (blk_cell BK242.out 1).trans rfl
             have hcz36_2 : w26.cell? ⟨gb242, 2, none⟩ = some (.int .i64 0) := (blk_cell BK242.out 2).trans rfl
             have hcz36_3 : w26.cell? ⟨gb242, 3, none⟩ = some (.string (⟨#[]⟩ : ByteArray)) := (blk_cell BK242.out 3).trans rfl
             have hcz36_4 : w26.cell? ⟨gb242, 4, none⟩ = some (.bool false) := (blk_cell BK242.out 4).trans rfl
             have hcz36_5 : w26.cell? ⟨gb242, 5, none⟩ = some (.bool false) := (blk_cell BK242.out 5).trans rfl
             have hcz36_6 : w26.cell? ⟨gb242, 6, none⟩ = some (.string (⟨#[]⟩ : ByteArray)) := (blk_cell BK242.out 6).trans rfl
             have hfz36_0 := blk_frozen BK242.out 0
             have hfz36_1 := blk_frozen BK242.out 1
             have hfz36_2 := blk_frozen BK242.out 2
             have hfz36_3 := blk_frozen BK242.out 3
             have hfz36_4 := blk_frozen BK242.out 4
             have hfz36_5 := blk_frozen BK242.out 5
             have hfz36_6 := blk_frozen BK242.out 6
             go_wp2
             go_meet
             case rel => (try rw [← Nbq31.out]); exact ⟨_, (false), (by first | rfl ), H', ⟨by have := HJ4.out; first | omega | exact Nat.le_refl _⟩, ⟨by refine blk_far ?_ NB237_242.out _; refine blk_far ?_ NB237_242.out _; refine blk_far ?_ NB237_242.out _; refine blk_far ?_ NB237_242.out _; refine blk_far ?_ NB237_242.out _; refine blk_far ?_ NB237_242.out _; refine blk_far ?_ NB237_242.out _; exact BK237.out⟩, ⟨by refine blk_far ?_ NB238_242.out _; refine blk_far ?_ NB238_242.out _; refine blk_far ?_ NB238_242.out _; refine blk_far ?_ NB238_242.out _; refine blk_far ?_ NB238_242.out _; refine blk_far ?_ NB238_242.out _; refine blk_far ?_ NB238_242.out _; exact BK238.out⟩, ⟨by refine blk_far ?_ NB239_242.out _; refine blk_far ?_ NB239_242.out _; refine blk_far ?_ NB239_242.out _; refine blk_far ?_ NB239_242.out _; refine blk_far ?_ NB239_242.out _; refine blk_far ?_ NB239_242.out _; refine blk_far ?_ NB239_242.out _; exact BK239.out⟩, ⟨by refine blk_put (cs := #[.string ((rd_T36 l1_1 t240).f0), .int .i64 ((rd_T36 l1_1 t240).f1), .int .i64 ((rd_T36 l1_1 t240).f2), .string ((rd_T36 l1_1 t240).f3), .bool (true), .bool ((rd_T36 l1_1 t240).f5), .string (⟨#[]⟩ : ByteArray)]) ?_ 6 _ rfl; refine blk_put (cs := #[.string ((rd_T36 l1_1 t240).f0), .int .i64 ((rd_T36 l1_1 t240).f1), .int .i64 ((rd_T36 l1_1 t240).f2), .string ((rd_T36 l1_1 t240).f3), .bool (true), .bool false, .string (⟨#[]⟩ : ByteArray)]) ?_ 5 _ rfl; refine blk_put (cs := #[.string ((rd_T36 l1_1 t240).f0), .int .i64 ((rd_T36 l1_1 t240).f1), .int .i64 ((rd_T36 l1_1 t240).f2), .string ((rd_T36 l1_1 t240).f3), .bool false, .bool false, .string (⟨#[]⟩ : ByteArray)]) ?_ 4 _ rfl; refine blk_put (cs := #[.string ((rd_T36 l1_1 t240).f0), .int .i64 ((rd_T36 l1_1 t240).f1), .int .i64 ((rd_T36 l1_1 t240).f2), .string (⟨#[]⟩ : ByteArray), .bool false, .bool false, .string (⟨#[]⟩ : ByteArray)]) ?_ 3 _ rfl; refine blk_put (cs := #[.string ((rd_T36 l1_1 t240).f0), .int .i64 ((rd_T36 l1_1 t240).f1), .int .i64 0, .string (⟨#[]⟩ : ByteArray), .bool false, .bool false, .string (⟨#[]⟩ : ByteArray)]) ?_ 2 _ rfl; refine blk_put (cs := #[.string ((rd_T36 l1_1 t240).f0), .int .i64 0, .int .i64 0, .string (⟨#[]⟩ : ByteArray), .bool false, .bool false, .string (⟨#[]⟩ : ByteArray)]) ?_ 1 _ rfl; refine blk_put (cs := #[.string (⟨#[]⟩ : ByteArray), .int .i64 0, .int .i64 0, .string (⟨#[]⟩ : ByteArray), .bool false, .bool false, .string (⟨#[]⟩ : ByteArray)]) ?_ 0 _ rfl; exact BK242.out⟩, ⟨by repeat (first | (with_reducible first | exact HB.out | refine below_set ?_ GE242.out) )⟩⟩
           · replace c32 := Bool.eq_false_iff.mpr c32
             subst c32
             have H1 : (ecdysisref20_slot.j1 kj4 ((l2_1.length : Int) != 1) l0_0 l0_1 a2_0 l2_1 ((rd_T36 l1_1 t240).f0) ((rd_T36 l1_1 t240).f1) ((rd_T36 l1_1 t240).f2) ((rd_T36 l1_1 t240).f3) false ((rd_T36 l1_1 t240).f5) ((rd_T36 l1_1 t240).f6)) = some r := by rw [if_neg (show ¬ (false = true) by decide)] at H; exact H
             clear H
             have H := H1
             clear H1
             have H' := Aside0.mk H
             clear H
             have hnb37 := NB242_237.out
             have hnc37 := NB237_242.out
             have hnb38 := NB242_238.out
             have hnc38 := NB238_242.out
             have hnb39 := NB242_239.out
             have hnc39 := NB239_242.out
             have hcz40_0 : w26.cell? ⟨gb242, 0, none⟩ = some (.string (⟨#[]⟩ : ByteArray)) := (blk_cell BK242.out 0).trans rfl
             have hcz40_1 : w26.cell? ⟨gb242, 1, none⟩ = some (.int .i64 0) := (blk_cell BK242.out 1).trans rfl
             have hcz40_2 : w26.cell? ⟨gb242, 2, none⟩ = some (.int .i64 0) := (blk_cell BK242.out 2).trans rfl
             have hcz40_3 : w26.cell? ⟨gb242, 3, none⟩ = some (.string (⟨#[]⟩ : ByteArray)) := (blk_cell BK242.out 3).trans rfl
             have hcz40_4 : w26.cell? ⟨gb242, 4, none⟩ = some (.bool false) := (blk_cell BK242.out 4).trans rfl
             have hcz40_5 : w26.cell? ⟨gb242, 5, none⟩ = some (.bool false) := (blk_cell BK242.out 5).trans rfl
             have hcz40_6 : w26.cell? ⟨gb242, 6, none⟩ = some (.string (⟨#[]⟩ : ByteArray)) := (blk_cell BK242.out 6).trans rfl
             have hfz40_0 := blk_frozen BK242.out 0
             have hfz40_1 := blk_frozen BK242.out 1
             have hfz40_2 := blk_frozen BK242.out 2
             have hfz40_3 := blk_frozen BK242.out 3
             have hfz40_4 := blk_frozen BK242.out 4
             have hfz40_5 := blk_frozen BK242.out 5
             have hfz40_6 := blk_frozen BK242.out 6
             have hnb41 := NB239_237.out
             have hnc41 := NB237_239.out
             have hnb42 := NB239_238.out
             have hnc42 := NB238_239.out
             have hcz43_0 : w26.cell? ⟨gb239, 0, none⟩ = some (.int .i64 a2_0) := (blk_cell BK239.out 0).trans rfl
             have hcz43_1 : w26.cell? ⟨gb239, 1, none⟩ = some (.slice A2_1 l2_1.length c2_1) := (blk_cell BK239.out 1).trans rfl
             have hfz43_0 := blk_frozen BK239.out 0
             have hfz43_1 := blk_frozen BK239.out 1
             go_wp2
             go_meet
             case rel => (try rw [← Nbq31.out]); exact ⟨_, (((l2_1.length : Int) != 1)), (by first | rfl ), H', ⟨by have := HJ4.out; first | omega | exact Nat.le_refl _⟩, ⟨by refine blk_far ?_ NB237_242.out _; refine blk_far ?_ NB237_242.out _; refine blk_far ?_ NB237_242.out _; refine blk_far ?_ NB237_242.out _; refine blk_far ?_ NB237_242.out _; refine blk_far ?_ NB237_242.out _; refine blk_far ?_ NB237_242.out _; exact BK237.out⟩, ⟨by refine blk_far ?_ NB238_242.out _; refine blk_far ?_ NB238_242.out _; refine blk_far ?_ NB238_242.out _; refine blk_far ?_ NB238_242.out _; refine blk_far ?_ NB238_242.out _; refine blk_far ?_ NB238_242.out _; refine blk_far ?_ NB238_242.out _; exact BK238.out⟩, ⟨by refine blk_far ?_ NB239_242.out _; refine blk_far ?_ NB239_242.out _; refine blk_far ?_ NB239_242.out _; refine blk_far ?_ NB239_242.out _; refine blk_far ?_ NB239_242.out _; refine blk_far ?_ NB239_242.out _; refine blk_far ?_ NB239_242.out _; exact BK239.out⟩, ⟨by refine blk_put (cs := #[.string ((rd_T36 l1_1 t240).f0), .int .i64 ((rd_T36 l1_1 t240).f1), .int .i64 ((rd_T36 l1_1 t240).f2), .string ((rd_T36 l1_1 t240).f3), .bool (false), .bool ((rd_T36 l1_1 t240).f5), .string (⟨#[]⟩ : ByteArray)]) ?_ 6 _ rfl; refine blk_put (cs := #[.string ((rd_T36 l1_1 t240).f0), .int .i64 ((rd_T36 l1_1 t240).f1), .int .i64 ((rd_T36 l1_1 t240).f2), .string ((rd_T36 l1_1 t240).f3), .bool (false), .bool false, .string (⟨#[]⟩ : ByteArray)]) ?_ 5 _ rfl; refine blk_put (cs := #[.string ((rd_T36 l1_1 t240).f0), .int .i64 ((rd_T36 l1_1 t240).f1), .int .i64 ((rd_T36 l1_1 t240).f2), .string ((rd_T36 l1_1 t240).f3), .bool false, .bool false, .string (⟨#[]⟩ : ByteArray)]) ?_ 4 _ rfl; refine blk_put (cs := #[.string ((rd_T36 l1_1 t240).f0), .int .i64 ((rd_T36 l1_1 t240).f1), .int .i64 ((rd_T36 l1_1 t240).f2), .string (⟨#[]⟩ : ByteArray), .bool false, .bool false, .string (⟨#[]⟩ : ByteArray)]) ?_ 3 _ rfl; refine blk_put (cs := #[.string ((rd_T36 l1_1 t240).f0), .int .i64 ((rd_T36 l1_1 t240).f1), .int .i64 0, .string (⟨#[]⟩ : ByteArray), .bool false, .bool false, .string (⟨#[]⟩ : ByteArray)]) ?_ 2 _ rfl; refine blk_put (cs := #[.string ((rd_T36 l1_1 t240).f0), .int .i64 0, .int .i64 0, .string (⟨#[]⟩ : ByteArray), .bool false, .bool false, .string (⟨#[]⟩ : ByteArray)]) ?_ 1 _ rfl; refine blk_put (cs := #[.string (⟨#[]⟩ : ByteArray), .int .i64 0, .int .i64 0, .string (⟨#[]⟩ : ByteArray), .bool false, .bool false, .string (⟨#[]⟩ : ByteArray)]) ?_ 0 _ rfl; exact BK242.out⟩, ⟨by repeat (first | (with_reducible first | exact HB.out | refine below_set ?_ GE242.out) )⟩⟩
          case rest =>
           clear HC22
           try clear c1
           try clear c2
           try clear p2
           try clear q2
           try clear hx2
           try clear c3
           try clear q3
           try clear c4
           try clear c9
           try clear c10
           try clear c12
           try clear c15
           try clear c15b0
           try clear c16
           try clear c17
           try clear c19
           try clear c20
           try clear c20b0
           try clear c21
           try clear c21b0
           try clear c23
           try clear c24
           try clear p24
           try clear q24
           try clear hx24
           try clear c27
           try clear c28
           try clear c29
           try clear q31
           try clear c32
           try clear c33
           try clear c34
           try clear c35
           try clear c37
           try clear c38
           try clear c39
           try clear c41
           try clear c42
           try clear hcz11_0
           try clear hcz11_1
           try clear hcz11_2
           try clear hcz13_0
           try clear hcz13_1
           try clear hcz18_0
           try clear hcz18_1
           try clear hcz25_0
           try clear hcz25_1
           try clear hcz25_2
           try clear hcz30_0
           try clear hcz30_1
           try clear hcz30_2
           try clear hcz30_3
           try clear hcz30_4
           try clear hcz30_5
           try clear hcz30_6
           try clear hcz36_0
           try clear hcz36_1
           try clear hcz36_2
           try clear hcz36_3
           try clear hcz36_4
           try clear hcz36_5
           try clear hcz36_6
           try clear hcz40_0
           try clear hcz40_1
           try clear hcz40_2
           try clear hcz40_3
           try clear hcz40_4
           try clear hcz40_5
           try clear hcz40_6
           try clear hcz43_0
           try clear hcz43_1
           try clear hfz11_0
           try clear hfz11_1
           try clear hfz11_2
           try clear hfz13_0
           try clear hfz13_1
           try clear hfz18_0
           try clear hfz18_1
           try clear hfz25_0
           try clear hfz25_1
           try clear hfz25_2
           try clear hfz30_0
           try clear hfz30_1
           try clear hfz30_2
           try clear hfz30_3
           try clear hfz30_4
           try clear hfz30_5
           try clear hfz30_6
           try clear hfz36_0
           try clear hfz36_1
           try clear hfz36_2
           try clear hfz36_3
           try clear hfz36_4
           try clear hfz36_5
           try clear hfz36_6
           try clear hfz40_0
           try clear hfz40_1
           try clear hfz40_2
           try clear hfz40_3
           try clear hfz40_4
           try clear hfz40_5
           try clear hfz40_6
           try clear hfz43_0
           try clear hfz43_1
           try clear hx241_0
           try clear hx241_1
           try clear hx241_2
           try clear hx241_3
           try clear hx241_4
           try clear hx241_5
           try clear hx241_6
           try clear p2
           try clear p241
           try clear q241
           obtain ⟨kq, x35_21, rfl, HA, HJ21, BK237, BK238, BK239, BK242, HB⟩ := hcut
           cases kq with
           | zero => exact absurd HA.out (by simp [ecdysisref20_slot.j1])
           | succ kj21 =>
             have H := HA.out
             clear HA
             simp only [ecdysisref20_slot.j1] at H
             by_cases c44 : x35_21 = true
             · subst c44
               have H1 : (some false) = some r := by rw [if_pos rfl] at H; exact H
               clear H
               have H := H1
               clear H1
               obtain rfl := Option.some.inj H
               go_wp2
               go_ret
               exact ⟨by first | rfl , by exact HB.out⟩
             · replace c44 := Bool.eq_false_iff.mpr c44
               subst c44
               have H1 : (ecdysisref20_slot.l0 kj21 0 l0_0 l0_1 a2_0 l2_1 ((rd_T36 l1_1 t240).f0) ((rd_T36 l1_1 t240).f1) ((rd_T36 l1_1 t240).f2) ((rd_T36 l1_1 t240).f3) ((rd_T36 l1_1 t240).f4) ((rd_T36 l1_1 t240).f5) ((rd_T36 l1_1 t240).f6)) = some r := by rw [if_neg (show ¬ (false = true) by decide)] at H; exact H
               clear H
               have H := H1
               clear H1
               have H' := Aside0.mk H
               clear H
               go_wp2
               go_loopg [9] kj21 (fun kq v9 w' => ∃ (x9_3 : Int), v9 = .int .i64 x9_3 ∧ Aside0 (ecdysisref20_slot.l0 kq x9_3 l0_0 l0_1 a2_0 l2_1 ((rd_T36 l1_1 t240).f0) ((rd_T36 l1_1 t240).f1) ((rd_T36 l1_1 t240).f2) ((rd_T36 l1_1 t240).f3) ((rd_T36 l1_1 t240).f4) ((rd_T36 l1_1 t240).f5) ((rd_T36 l1_1 t240).f6) = some r) ∧ Aside0 (kq ≤ kj21) ∧ Aside0 (w'.heap[gb237]? = some (.cells #[(.slice A0_0 l0_0.length c0_0), (.slice A0_1 l0_1.length c0_1)] 25 (0, 0))) ∧ Aside0 (w'.heap[gb238]? = some (.cells #[.string a1_0, (.slice (some ad241) l1_1.length c1_1), (.slice A1_2 l1_2.length c1_2)] 52 (0, 0))) ∧ Aside0 (w'.heap[gb239]? = some (.cells #[.int .i64 a2_0, (.slice A2_1 l2_1.length c2_1)] 43 (0, 0))) ∧ Aside0 (w'.heap[gb242]? = some (.cells #[.string ((rd_T36 l1_1 t240).f0), .int .i64 ((rd_T36 l1_1 t240).f1), .int .i64 ((rd_T36 l1_1 t240).f2), .string ((rd_T36 l1_1 t240).f3), .bool ((rd_T36 l1_1 t240).f4), .bool ((rd_T36 l1_1 t240).f5), .string ((rd_T36 l1_1 t240).f6)] 36 (0, 0))) ∧ Aside0 (Below w.heap.size w w'))
               case atStart => exact ⟨(0), (by first | rfl ), H', ⟨Nat.le_refl _⟩, ⟨by exact BK237.out⟩, ⟨by exact BK238.out⟩, ⟨by exact BK239.out⟩, ⟨by exact BK242.out⟩, ⟨by exact HB.out⟩⟩
               case round =>
                clear H'
                try clear c1
                try clear c2
                try clear p2
                try clear q2
                try clear hx2
                try clear c3
                try clear q3
                try clear c4
                try clear c9
                try clear c10
                try clear c12
                try clear c15
                try clear c15b0
                try clear c16
                try clear c17
                try clear c19
                try clear c20
                try clear c20b0
                try clear c21
                try clear c21b0
                try clear c23
                try clear c24
                try clear p24
                try clear q24
                try clear hx24
                try clear c27
                try clear c28
                try clear c29
                try clear q31
                try clear c32
                try clear c33
                try clear c34
                try clear c35
                try clear c37
                try clear c38
                try clear c39
                try clear c41
                try clear c42
                try clear c44
                try clear hcz11_0
                try clear hcz11_1
                try clear hcz11_2
                try clear hcz13_0
                try clear hcz13_1
                try clear hcz18_0
                try clear hcz18_1
                try clear hcz25_0
                try clear hcz25_1
                try clear hcz25_2
                try clear hcz30_0
                try clear hcz30_1
                try clear hcz30_2
                try clear hcz30_3
                try clear hcz30_4
                try clear hcz30_5
                try clear hcz30_6
                try clear hcz36_0
                try clear hcz36_1
                try clear hcz36_2
                try clear hcz36_3
                try clear hcz36_4
                try clear hcz36_5
                try clear hcz36_6
                try clear hcz40_0
                try clear hcz40_1
                try clear hcz40_2
                try clear hcz40_3
                try clear hcz40_4
                try clear hcz40_5
                try clear hcz40_6
                try clear hcz43_0
                try clear hcz43_1
                try clear hfz11_0
                try clear hfz11_1
                try clear hfz11_2
                try clear hfz13_0
                try clear hfz13_1
                try clear hfz18_0
                try clear hfz18_1
                try clear hfz25_0
                try clear hfz25_1
                try clear hfz25_2
                try clear hfz30_0
                try clear hfz30_1
                try clear hfz30_2
                try clear hfz30_3
                try clear hfz30_4
                try clear hfz30_5
                try clear hfz30_6
                try clear hfz36_0
                try clear hfz36_1
                try clear hfz36_2
                try clear hfz36_3
                try clear hfz36_4
                try clear hfz36_5
                try clear hfz36_6
                try clear hfz40_0
                try clear hfz40_1
                try clear hfz40_2
                try clear hfz40_3
                try clear hfz40_4
                try clear hfz40_5
                try clear hfz40_6
                try clear hfz43_0
                try clear hfz43_1
                try clear hx241_0
                try clear hx241_1
                try clear hx241_2
                try clear hx241_3
                try clear hx241_4
                try clear hx241_5
                try clear hx241_6
                try clear p2
                try clear p24
                try clear p241
                try clear q2
                try clear q24
                try clear q241
                try clear q3
                try clear q31
                obtain ⟨x9_3, rfl, HA, HK3, BK237, BK238, BK239, BK242, HB⟩ := hrel
                cases gk with
                | zero => exact absurd HA.out (by simp [ecdysisref20_slot.l0])
                | succ k3 =>
                 have H := HA.out
                 clear HA
                 simp only [ecdysisref20_slot.l0] at H
                 by_cases c45 : x9_3 < (l2_1.length : Int)
                 · rw [if_pos c45] at H
                   have c45b0 : decide (x9_3 < (l2_1.length : Int)) = true := decide_eq_true c45
                   clear c45
                   by_cases c46 : 0 ≤ x9_3
                   · rw [if_pos c46] at H
                     have c46b0 : decide (0 ≤ x9_3) = true := decide_eq_true c46
                     clear c46
                     replace H := Option.bind_eq_some_iff.mp H
                     obtain ⟨t244, A470, H⟩ := H
                     replace H : (if t244 = true then (ecdysisref20_slot.l0 k3 (wrap64 (x9_3 + 1)) l0_0 l0_1 a2_0 l2_1 ((rd_T36 l1_1 t240).f0) ((rd_T36 l1_1 t240).f1) ((rd_T36 l1_1 t240).f2) ((rd_T36 l1_1 t240).f3) ((rd_T36 l1_1 t240).f4) ((rd_T36 l1_1 t240).f5) ((rd_T36 l1_1 t240).f6)) else (some false)) = some r := H
                     have A47 := Aside0.mk A470
                     clear A470
                     by_cases c48 : t244 = true
                     · subst c48
                       have H1 : (ecdysisref20_slot.l0 k3 (wrap64 (x9_3 + 1)) l0_0 l0_1 a2_0 l2_1 ((rd_T36 l1_1 t240).f0) ((rd_T36 l1_1 t240).f1) ((rd_T36 l1_1 t240).f2) ((rd_T36 l1_1 t240).f3) ((rd_T36 l1_1 t240).f4) ((rd_T36 l1_1 t240).f5) ((rd_T36 l1_1 t240).f6)) = some r := by rw [if_pos rfl] at H; exact H
                       clear H
                       have H := H1
                       clear H1
                       have H' := Aside0.mk H
                       clear H
                       have hnb49 := NB239_237.out
                       have hnc49 := NB237_239.out
                       have hnb50 := NB239_238.out
                       have hnc50 := NB238_239.out
                       have hnb51 := NB239_242.out
                       have hnc51 := NB242_239.out
                       have hcz52_0 : wr.cell? ⟨gb239, 0, none⟩ = some (.int .i64 a2_0) := (blk_cell BK239.out 0).trans rfl
                       have hcz52_1 : wr.cell? ⟨gb239, 1, none⟩ = some (.slice A2_1 l2_1.length c2_1) := (blk_cell BK239.out 1).trans rfl
                       have hfz52_0 := blk_frozen BK239.out 0
                       have hfz52_1 := blk_frozen BK239.out 1
                       try go_wp2
                       have n0_ := Aside0.mk (blk_drew BK237.out)
                       have n1_ := Aside0.mk (blk_drew BK238.out)
                       have n2_ := Aside0.mk (blk_drew BK239.out)
                       have n3_ := Aside0.mk (blk_drew BK242.out)
                       have n4_ := Aside0.mk (below_drew1 HB.out)
                       clear BK237
                       clear BK238
                       clear BK239
                       clear BK242
                       clear HB
                       have BK237 := n0_
                       have BK238 := n1_
                       have BK239 := n2_
                       have BK242 := n3_
                       have HB := n4_
                       clear n0_ n1_ n2_ n3_ n4_
                       have p243 : 0 ≤ (x9_3 : Int) := of_decide_eq_true (by first | (with_reducible assumption) )
                       have q243 : x9_3 < (l2_1.length : Int) := of_decide_eq_true (by first | (with_reducible assumption) )
                       obtain ⟨ad243, A243_2, c243_2, e243, hx243_0, hx243_1, hx243_2, hl243_2, hi243_2⟩ := at_T40 HR2_1.out x9_3 p243 q243
                       have hw243_2 := hx243_2
                       have hw243_1 := hx243_1
                       have hw243_0 := hx243_0
                       cases e243
                       replace hx243_0 := (HB.out.cell (World.block_lt_of_cell? w _ hx243_0)).trans hx243_0
                       replace hx243_1 := (HB.out.cell (World.block_lt_of_cell? w _ hx243_1)).trans hx243_1
                       replace hx243_2 := (HB.out.cell (World.block_lt_of_cell? w _ hx243_2)).trans hx243_2
                       have HR243_2 := Aside0.mk hi243_2
                       have HC243_2 := Aside0.mk hl243_2
                       clear hi243_2 hl243_2
                       replace p243 := eq_true p243
                       replace q243 := eq_true q243
                       refine start_ (n := 9) (S := fun w' => w'.cell? ⟨gb237, 0, none⟩ = some (.slice A0_0 l0_0.length c0_0) ∧ w'.cell? ⟨gb237, 1, none⟩ = some (.slice A0_1 l0_1.length c0_1) ∧ w'.cell? ⟨gb242, 0, none⟩ = some (.string ((rd_T36 l1_1 t240).f0)) ∧ w'.cell? ⟨gb242, 1, none⟩ = some (.int .i64 ((rd_T36 l1_1 t240).f1)) ∧ w'.cell? ⟨gb242, 2, none⟩ = some (.int .i64 ((rd_T36 l1_1 t240).f2)) ∧ w'.cell? ⟨gb242, 3, none⟩ = some (.string ((rd_T36 l1_1 t240).f3)) ∧ w'.cell? ⟨gb242, 4, none⟩ = some (.bool ((rd_T36 l1_1 t240).f4)) ∧ w'.cell? ⟨gb242, 5, none⟩ = some (.bool ((rd_T36 l1_1 t240).f5)) ∧ w'.cell? ⟨gb242, 6, none⟩ = some (.string ((rd_T36 l1_1 t240).f6)) ∧ w'.cell? ⟨gb239, 0, none⟩ = some (.int .i64 a2_0) ∧ w'.cell? ⟨gb239, 1, none⟩ = some (.slice (some ad243) l2_1.length c2_1) ∧ w'.cell? (ad243.add ((x9_3).toNat * 3)) = some (.int .u64 ((rd_T40 l2_1 x9_3).f0)) ∧ w'.cell? ⟨(ad243.add ((x9_3).toNat * 3)).block, (ad243.add ((x9_3).toNat * 3)).off + 1, none⟩ = some (.string ((rd_T40 l2_1 x9_3).f1)) ∧ w'.cell? ⟨(ad243.add ((x9_3).toNat * 3)).block, (ad243.add ((x9_3).toNat * 3)).off + 2, none⟩ = some (.slice A243_2 ((rd_T40 l2_1 x9_3).f2).length c243_2)) (ds := []) #[false, false, false, false, false, false, false, false, false] (by kernel_rfl) rfl rfl ⟨(blk_cell BK237.out 0).trans rfl, (blk_cell BK237.out 1).trans rfl, (blk_cell BK242.out 0).trans rfl, (blk_cell BK242.out 1).trans rfl, (blk_cell BK242.out 2).trans rfl, (blk_cell BK242.out 3).trans rfl, (blk_cell BK242.out 4).trans rfl, (blk_cell BK242.out 5).trans rfl, (blk_cell BK242.out 6).trans rfl, (blk_cell BK239.out 0).trans rfl, (blk_cell BK239.out 1).trans rfl, ((HB.out.cell (World.block_lt_of_cell? w _ hw243_0)).trans hw243_0), ((HB.out.cell (World.block_lt_of_cell? w _ hw243_1)).trans hw243_1), ((HB.out.cell (World.block_lt_of_cell? w _ hw243_2)).trans hw243_2)⟩ (fun hHeld => ?_); refine with_tabW ecdysisref20_slot.tab10 ecdysisref20_slot.bits10 (fun HT_ HW_ => ?_)
                       generalize wr.drew = w53 at BK237 BK238 BK239 BK242 HB HR243_2 hx243_0 hx243_1 hx243_2 hHeld ⊢
                       refine zp 2 (zb 9 4) ?_ rfl rfl HT_ (by kernel_rfl) (fun _ _ _ h => h) rfl ?_ ?_ ?_ ?_; rotate_left; (intro w'; go_simp; with_reducible rfl); rotate_left; (simp only [zs]; rfl)
                       refine zp 4 (zb 9 20) ?_ rfl rfl HT_ (by kernel_rfl) (fun _ _ _ h => h) rfl ?_ ?_ ?_ ?_; rotate_left; (intro w'; go_simp; with_reducible rfl); rotate_left; (simp only [zs]; rfl)
                       refine zt 0 (zb 9 21) ?_ rfl rfl HT_ HW_ (by kernel_rfl) (fun _ _ _ h => h) rfl ?_ hHeld ?_ ?_ ?_; rotate_left; (rintro w' ⟨s0, s1, s2, s3, s4, s5, s6, s7, s8, s9, s10, s11, s12, s13⟩; go_simp; with_reducible rfl); rotate_left; (simp only [zs]; rfl)
                       refine zt 1 (zb 9 23) ?_ rfl rfl HT_ HW_ (by kernel_rfl) (fun _ _ _ h => h) rfl ?_ hHeld ?_ ?_ ?_; rotate_left; (rintro w' ⟨s0, s1, s2, s3, s4, s5, s6, s7, s8, s9, s10, s11, s12, s13⟩; go_simp; with_reducible rfl); rotate_left; (simp only [zs]; rfl)
                       refine zt 3 (zb 9 31) ?_ rfl rfl HT_ HW_ (by kernel_rfl) (fun _ _ _ h => h) rfl ?_ hHeld ?_ ?_ ?_; rotate_left; (rintro w' ⟨s0, s1, s2, s3, s4, s5, s6, s7, s8, s9, s10, s11, s12, s13⟩; go_simp; with_reducible rfl); rotate_left; (simp only [zs]; rfl)
                       refine zp 5 (zb 9 63) ?_ rfl rfl HT_ (by kernel_rfl) (fun _ _ _ h => h) rfl ?_ ?_ ?_ ?_; rotate_left; (intro w'; go_simp; with_reducible rfl); rotate_left; (simp only [zs]; rfl)
                       refine zt 6 (zb 9 127) ?_ rfl rfl HT_ HW_ (by kernel_rfl) (fun _ _ _ h => h) rfl ?_ hHeld ?_ ?_ ?_; rotate_left; (rintro w' ⟨s0, s1, s2, s3, s4, s5, s6, s7, s8, s9, s10, s11, s12, s13⟩; go_simp; with_reducible rfl); rotate_left; (simp only [zs]; rfl)
                       refine one_ (i := 7) (N := some 50) #[true, true, true, true, true, true, true, true, false] rfl rfl (one_of HT_.out (by kernel_rfl)) (by decide) (fun K hK => ?_)
                       refine goes_ Tryd.func13 (by kernel_rfl) rfl #[.agg #[.slice A0_0 l0_0.length c0_0, .slice A0_1 l0_1.length c0_1], .agg #[.string ((rd_T36 l1_1 t240).f0), .int .i64 ((rd_T36 l1_1 t240).f1), .int .i64 ((rd_T36 l1_1 t240).f2), .string ((rd_T36 l1_1 t240).f3), .bool ((rd_T36 l1_1 t240).f4), .bool ((rd_T36 l1_1 t240).f5), .string ((rd_T36 l1_1 t240).f6)], .agg #[.int .u64 ((rd_T40 l2_1 x9_3).f0), .string ((rd_T40 l2_1 x9_3).f1), .slice A243_2 ((rd_T40 l2_1 x9_3).f2).length c243_2]] (by rfl) rfl rfl (by (try simp only [List.map_toArray, List.map_cons, List.map_nil]); first | done | rfl | (simp only [List.length_drop, List.length_take]; rfl)) ?_
                       with_reducible refine (ih_ecdysisref20_Val k3 (by have := HJ4.out; have := HJ21.out; have := HK3.out; omega) _ _ l0_0 _ _ l0_1 ((rd_T36 l1_1 t240).f0) ((rd_T36 l1_1 t240).f1) ((rd_T36 l1_1 t240).f2) ((rd_T36 l1_1 t240).f3) ((rd_T36 l1_1 t240).f4) ((rd_T36 l1_1 t240).f5) ((rd_T36 l1_1 t240).f6) ((rd_T40 l2_1 x9_3).f0) ((rd_T40 l2_1 x9_3).f1) _ _ ((rd_T40 l2_1 x9_3).f2) true _ ?sideT ?side1 ?side2 ?side3 ?side4 ?side5 ?side6 A47.out).mono ?_
                       case sideT => exact Tabs.below HU8.out HB.out
                       (case side1 => repeat (first | exact (Kd.C_below HR0_0.out HB.out) ))
                       (case side2 => exact HC0_0.out)
                       (case side3 => repeat (first | exact (Kd.C_below HR0_1.out HB.out) ))
                       (case side4 => exact HC0_1.out)
                       (case side5 => repeat (first | exact (Kd.C_below HR243_2.out HB.out) ))
                       (case side6 => exact HC243_2.out)
                       rintro e w54 ⟨rfl, hb⟩
                       refine ⟨_, rfl, ?_⟩
                       have n0_ := Aside0.mk (blk_below BK237.out hb)
                       have n1_ := Aside0.mk (blk_below BK238.out hb)
                       have n2_ := Aside0.mk (blk_below BK239.out hb)
                       have n3_ := Aside0.mk (blk_below BK242.out hb)
                       have n4_ := Aside0.mk (below_step HB.out hb)
                       clear BK237
                       clear BK238
                       clear BK239
                       clear BK242
                       clear HB
                       have BK237 := n0_
                       have BK238 := n1_
                       have BK239 := n2_
                       have BK242 := n3_
                       have HB := n4_
                       clear n0_ n1_ n2_ n3_ n4_
                       (try clear hb)
                       (try clear hb2)
                       (try clear hk)
                       (try clear hi)
                       refine hK.out _ _ ⟨(blk_cell BK237.out 0).trans rfl, (blk_cell BK237.out 1).trans rfl, (blk_cell BK242.out 0).trans rfl, (blk_cell BK242.out 1).trans rfl, (blk_cell BK242.out 2).trans rfl, (blk_cell BK242.out 3).trans rfl, (blk_cell BK242.out 4).trans rfl, (blk_cell BK242.out 5).trans rfl, (blk_cell BK242.out 6).trans rfl, (blk_cell BK239.out 0).trans rfl, (blk_cell BK239.out 1).trans rfl, ((HB.out.cell (World.block_lt_of_cell? w _ hw243_0)).trans hw243_0), ((HB.out.cell (World.block_lt_of_cell? w _ hw243_1)).trans hw243_1), ((HB.out.cell (World.block_lt_of_cell? w _ hw243_2)).trans hw243_2)⟩ (fun hHeld => ?_)
                       clear hK K
                       refine norm_ (a' := ?_) ?_ ?_
                       rotate_left
                       · show Act.put _ (some 50) _ = _
                         simp only [zs]
                         rfl
                       refine zp 8 (zb 9 511) ?_ rfl rfl HT_ (by kernel_rfl) (fun _ _ _ h => h) rfl ?_ ?_ ?_ ?_; rotate_left; (intro w'; go_simp; with_reducible rfl); rotate_left; (simp only [zs]; rfl)
                       refine done_ (done_of HT_.out (by kernel_rfl)) ?_
                       try go_wp2
                       go_roundg k3
                       case measure => have := HJ4.out; have := HJ21.out; have := HK3.out; omega
                       case rel => (try rw [← Nbq31.out]); exact ⟨(wrap64 (x9_3 + 1)), (by first | rfl ), H', ⟨by have := HJ4.out; have := HJ21.out; have := HK3.out; omega⟩, ⟨by exact BK237.out⟩, ⟨by exact BK238.out⟩, ⟨by exact BK239.out⟩, ⟨by exact BK242.out⟩, ⟨by exact HB.out⟩⟩
                     · replace c48 := Bool.eq_false_iff.mpr c48
                       subst c48
                       have H1 : (some false) = some r := by rw [if_neg (show ¬ (false = true) by decide)] at H; exact H
                       clear H
                       have H := H1
                       clear H1
                       obtain rfl := Option.some.inj H
                       have hnb55 := NB239_237.out
                       have hnc55 := NB237_239.out
                       have hnb56 := NB239_238.out
                       have hnc56 := NB238_239.out
                       have hnb57 := NB239_242.out
                       have hnc57 := NB242_239.out
                       have hcz58_0 : wr.cell? ⟨gb239, 0, none⟩ = some (.int .i64 a2_0) := (blk_cell BK239.out 0).trans rfl
                       have hcz58_1 : wr.cell? ⟨gb239, 1, none⟩ = some (.slice A2_1 l2_1.length c2_1) := (blk_cell BK239.out 1).trans rfl
                       have hfz58_0 := blk_frozen BK239.out 0
                       have hfz58_1 := blk_frozen BK239.out 1
                       try go_wp2
                       have n0_ := Aside0.mk (blk_drew BK237.out)
                       have n1_ := Aside0.mk (blk_drew BK238.out)
                       have n2_ := Aside0.mk (blk_drew BK239.out)
                       have n3_ := Aside0.mk (blk_drew BK242.out)
                       have n4_ := Aside0.mk (below_drew1 HB.out)
                       clear BK237
                       clear BK238
                       clear BK239
                       clear BK242
                       clear HB
                       have BK237 := n0_
                       have BK238 := n1_
                       have BK239 := n2_
                       have BK242 := n3_
                       have HB := n4_
                       clear n0_ n1_ n2_ n3_ n4_
                       have p243 : 0 ≤ (x9_3 : Int) := of_decide_eq_true (by first | (with_reducible assumption) )
                       have q243 : x9_3 < (l2_1.length : Int) := of_decide_eq_true (by first | (with_reducible assumption) )
                       obtain ⟨ad243, A243_2, c243_2, e243, hx243_0, hx243_1, hx243_2, hl243_2, hi243_2⟩ := at_T40 HR2_1.out x9_3 p243 q243
                       have hw243_2 := hx243_2
                       have hw243_1 := hx243_1
                       have hw243_0 := hx243_0
                       cases e243
                       replace hx243_0 := (HB.out.cell (World.block_lt_of_cell? w _ hx243_0)).trans hx243_0
                       replace hx243_1 := (HB.out.cell (World.block_lt_of_cell? w _ hx243_1)).trans hx243_1
                       replace hx243_2 := (HB.out.cell (World.block_lt_of_cell? w _ hx243_2)).trans hx243_2
                       have HR243_2 := Aside0.mk hi243_2
                       have HC243_2 := Aside0.mk hl243_2
                       clear hi243_2 hl243_2
                       replace p243 := eq_true p243
                       replace q243 := eq_true q243
                       refine start_ (n := 9) (S := fun w' => w'.cell? ⟨gb237, 0, none⟩ = some (.slice A0_0 l0_0.length c0_0) ∧ w'.cell? ⟨gb237, 1, none⟩ = some (.slice A0_1 l0_1.length c0_1) ∧ w'.cell? ⟨gb242, 0, none⟩ = some (.string ((rd_T36 l1_1 t240).f0)) ∧ w'.cell? ⟨gb242, 1, none⟩ = some (.int .i64 ((rd_T36 l1_1 t240).f1)) ∧ w'.cell? ⟨gb242, 2, none⟩ = some (.int .i64 ((rd_T36 l1_1 t240).f2)) ∧ w'.cell? ⟨gb242, 3, none⟩ = some (.string ((rd_T36 l1_1 t240).f3)) ∧ w'.cell? ⟨gb242, 4, none⟩ = some (.bool ((rd_T36 l1_1 t240).f4)) ∧ w'.cell? ⟨gb242, 5, none⟩ = some (.bool ((rd_T36 l1_1 t240).f5)) ∧ w'.cell? ⟨gb242, 6, none⟩ = some (.string ((rd_T36 l1_1 t240).f6)) ∧ w'.cell? ⟨gb239, 0, none⟩ = some (.int .i64 a2_0) ∧ w'.cell? ⟨gb239, 1, none⟩ = some (.slice (some ad243) l2_1.length c2_1) ∧ w'.cell? (ad243.add ((x9_3).toNat * 3)) = some (.int .u64 ((rd_T40 l2_1 x9_3).f0)) ∧ w'.cell? ⟨(ad243.add ((x9_3).toNat * 3)).block, (ad243.add ((x9_3).toNat * 3)).off + 1, none⟩ = some (.string ((rd_T40 l2_1 x9_3).f1)) ∧ w'.cell? ⟨(ad243.add ((x9_3).toNat * 3)).block, (ad243.add ((x9_3).toNat * 3)).off + 2, none⟩ = some (.slice A243_2 ((rd_T40 l2_1 x9_3).f2).length c243_2)) (ds := []) #[false, false, false, false, false, false, false, false, false] (by kernel_rfl) rfl rfl ⟨(blk_cell BK237.out 0).trans rfl, (blk_cell BK237.out 1).trans rfl, (blk_cell BK242.out 0).trans rfl, (blk_cell BK242.out 1).trans rfl, (blk_cell BK242.out 2).trans rfl, (blk_cell BK242.out 3).trans rfl, (blk_cell BK242.out 4).trans rfl, (blk_cell BK242.out 5).trans rfl, (blk_cell BK242.out 6).trans rfl, (blk_cell BK239.out 0).trans rfl, (blk_cell BK239.out 1).trans rfl, ((HB.out.cell (World.block_lt_of_cell? w _ hw243_0)).trans hw243_0), ((HB.out.cell (World.block_lt_of_cell? w _ hw243_1)).trans hw243_1), ((HB.out.cell (World.block_lt_of_cell? w _ hw243_2)).trans hw243_2)⟩ (fun hHeld => ?_); refine with_tabW ecdysisref20_slot.tab10 ecdysisref20_slot.bits10 (fun HT_ HW_ => ?_)
                       generalize wr.drew = w59 at BK237 BK238 BK239 BK242 HB HR243_2 hx243_0 hx243_1 hx243_2 hHeld ⊢
                       refine zp 2 (zb 9 4) ?_ rfl rfl HT_ (by kernel_rfl) (fun _ _ _ h => h) rfl ?_ ?_ ?_ ?_; rotate_left; (intro w'; go_simp; with_reducible rfl); rotate_left; (simp only [zs]; rfl)
                       refine zp 4 (zb 9 20) ?_ rfl rfl HT_ (by kernel_rfl) (fun _ _ _ h => h) rfl ?_ ?_ ?_ ?_; rotate_left; (intro w'; go_simp; with_reducible rfl); rotate_left; (simp only [zs]; rfl)
                       refine zt 0 (zb 9 21) ?_ rfl rfl HT_ HW_ (by kernel_rfl) (fun _ _ _ h => h) rfl ?_ hHeld ?_ ?_ ?_; rotate_left; (rintro w' ⟨s0, s1, s2, s3, s4, s5, s6, s7, s8, s9, s10, s11, s12, s13⟩; go_simp; with_reducible rfl); rotate_left; (simp only [zs]; rfl)
                       refine zt 1 (zb 9 23) ?_ rfl rfl HT_ HW_ (by kernel_rfl) (fun _ _ _ h => h) rfl ?_ hHeld ?_ ?_ ?_; rotate_left; (rintro w' ⟨s0, s1, s2, s3, s4, s5, s6, s7, s8, s9, s10, s11, s12, s13⟩; go_simp; with_reducible rfl); rotate_left; (simp only [zs]; rfl)
                       refine zt 3 (zb 9 31) ?_ rfl rfl HT_ HW_ (by kernel_rfl) (fun _ _ _ h => h) rfl ?_ hHeld ?_ ?_ ?_; rotate_left; (rintro w' ⟨s0, s1, s2, s3, s4, s5, s6, s7, s8, s9, s10, s11, s12, s13⟩; go_simp; with_reducible rfl); rotate_left; (simp only [zs]; rfl)
                       refine zp 5 (zb 9 63) ?_ rfl rfl HT_ (by kernel_rfl) (fun _ _ _ h => h) rfl ?_ ?_ ?_ ?_; rotate_left; (intro w'; go_simp; with_reducible rfl); rotate_left; (simp only [zs]; rfl)
                       refine zt 6 (zb 9 127) ?_ rfl rfl HT_ HW_ (by kernel_rfl) (fun _ _ _ h => h) rfl ?_ hHeld ?_ ?_ ?_; rotate_left; (rintro w' ⟨s0, s1, s2, s3, s4, s5, s6, s7, s8, s9, s10, s11, s12, s13⟩; go_simp; with_reducible rfl); rotate_left; (simp only [zs]; rfl)
                       refine one_ (i := 7) (N := some 50) #[true, true, true, true, true, true, true, true, false] rfl rfl (one_of HT_.out (by kernel_rfl)) (by decide) (fun K hK => ?_)
                       refine goes_ Tryd.func13 (by kernel_rfl) rfl #[.agg #[.slice A0_0 l0_0.length c0_0, .slice A0_1 l0_1.length c0_1], .agg #[.string ((rd_T36 l1_1 t240).f0), .int .i64 ((rd_T36 l1_1 t240).f1), .int .i64 ((rd_T36 l1_1 t240).f2), .string ((rd_T36 l1_1 t240).f3), .bool ((rd_T36 l1_1 t240).f4), .bool ((rd_T36 l1_1 t240).f5), .string ((rd_T36 l1_1 t240).f6)], .agg #[.int .u64 ((rd_T40 l2_1 x9_3).f0), .string ((rd_T40 l2_1 x9_3).f1), .slice A243_2 ((rd_T40 l2_1 x9_3).f2).length c243_2]] (by rfl) rfl rfl (by (try simp only [List.map_toArray, List.map_cons, List.map_nil]); first | done | rfl | (simp only [List.length_drop, List.length_take]; rfl)) ?_
                       with_reducible refine (ih_ecdysisref20_Val k3 (by have := HJ4.out; have := HJ21.out; have := HK3.out; omega) _ _ l0_0 _ _ l0_1 ((rd_T36 l1_1 t240).f0) ((rd_T36 l1_1 t240).f1) ((rd_T36 l1_1 t240).f2) ((rd_T36 l1_1 t240).f3) ((rd_T36 l1_1 t240).f4) ((rd_T36 l1_1 t240).f5) ((rd_T36 l1_1 t240).f6) ((rd_T40 l2_1 x9_3).f0) ((rd_T40 l2_1 x9_3).f1) _ _ ((rd_T40 l2_1 x9_3).f2) false _ ?sideT ?side1 ?side2 ?side3 ?side4 ?side5 ?side6 A47.out).mono ?_
                       case sideT => exact Tabs.below HU8.out HB.out
                       (case side1 => repeat (first | exact (Kd.C_below HR0_0.out HB.out) ))
                       (case side2 => exact HC0_0.out)
                       (case side3 => repeat (first | exact (Kd.C_below HR0_1.out HB.out) ))
                       (case side4 => exact HC0_1.out)
                       (case side5 => repeat (first | exact (Kd.C_below HR243_2.out HB.out) ))
                       (case side6 => exact HC243_2.out)
                       rintro e w60 ⟨rfl, hb⟩
                       refine ⟨_, rfl, ?_⟩
                       have n0_ := Aside0.mk (blk_below BK237.out hb)
                       have n1_ := Aside0.mk (blk_below BK238.out hb)
                       have n2_ := Aside0.mk (blk_below BK239.out hb)
                       have n3_ := Aside0.mk (blk_below BK242.out hb)
                       have n4_ := Aside0.mk (below_step HB.out hb)
                       clear BK237
                       clear BK238
                       clear BK239
                       clear BK242
                       clear HB
                       have BK237 := n0_
                       have BK238 := n1_
                       have BK239 := n2_
                       have BK242 := n3_
                       have HB := n4_
                       clear n0_ n1_ n2_ n3_ n4_
                       (try clear hb)
                       (try clear hb2)
                       (try clear hk)
                       (try clear hi)
                       refine hK.out _ _ ⟨(blk_cell BK237.out 0).trans rfl, (blk_cell BK237.out 1).trans rfl, (blk_cell BK242.out 0).trans rfl, (blk_cell BK242.out 1).trans rfl, (blk_cell BK242.out 2).trans rfl, (blk_cell BK242.out 3).trans rfl, (blk_cell BK242.out 4).trans rfl, (blk_cell BK242.out 5).trans rfl, (blk_cell BK242.out 6).trans rfl, (blk_cell BK239.out 0).trans rfl, (blk_cell BK239.out 1).trans rfl, ((HB.out.cell (World.block_lt_of_cell? w _ hw243_0)).trans hw243_0), ((HB.out.cell (World.block_lt_of_cell? w _ hw243_1)).trans hw243_1), ((HB.out.cell (World.block_lt_of_cell? w _ hw243_2)).trans hw243_2)⟩ (fun hHeld => ?_)
                       clear hK K
                       refine norm_ (a' := ?_) ?_ ?_
                       rotate_left
                       · show Act.put _ (some 50) _ = _
                         simp only [zs]
                         rfl
                       refine zp 8 (zb 9 511) ?_ rfl rfl HT_ (by kernel_rfl) (fun _ _ _ h => h) rfl ?_ ?_ ?_ ?_; rotate_left; (intro w'; go_simp; with_reducible rfl); rotate_left; (simp only [zs]; rfl)
                       refine done_ (done_of HT_.out (by kernel_rfl)) ?_
                       try go_wp2
                       go_ret
                       exact ⟨by first | rfl , by exact HB.out⟩
                   · rw [if_neg c46] at H
                     exact absurd H (by simp)
                 · rw [if_neg c45] at H
                   have c45b0 : decide (x9_3 < (l2_1.length : Int)) = false := decide_eq_false c45
                   clear c45
                   replace H := Option.bind_eq_some_iff.mp H
                   obtain ⟨t245, A610, H⟩ := H
                   replace H : (if t245 = true then (if 0 < (l2_1.length : Int) then (if ((rd_T40 l2_1 0).f0) = 0 then (some (((rd_T40 l2_1 0).f1).toList != ([] : List UInt8))) else (some true)) else (none)) else (some true)) = some r := H
                   have A61 := Aside0.mk A610
                   clear A610
                   by_cases c62 : t245 = true
                   · subst c62
                     have H1 : (if 0 < (l2_1.length : Int) then (if ((rd_T40 l2_1 0).f0) = 0 then (some (((rd_T40 l2_1 0).f1).toList != ([] : List UInt8))) else (some true)) else (none)) = some r := by rw [if_pos rfl] at H; exact H
                     clear H
                     have H := H1
                     clear H1
                     by_cases c63 : 0 < (l2_1.length : Int)
                     · rw [if_pos c63] at H
                       have c63b0 : decide (0 < (l2_1.length : Int)) = true := decide_eq_true c63
                       have c63b1 : decide (0 < l2_1.length) = true := decide_eq_true (by omega)
                       clear c63
                       by_cases c64 : ((rd_T40 l2_1 0).f0) = 0
                       · rw [if_pos c64] at H
                         have c64b0 : (((rd_T40 l2_1 0).f0) == 0) = true := beq_iff_eq.mpr c64
                         have c64b1 : (((rd_T40 l2_1 0).f0) != 0) = false := bne_eq_false_iff_eq.mpr c64
                         clear c64
                         obtain rfl := Option.some.inj H
                         have hnb65 := NB239_237.out
                         have hnc65 := NB237_239.out
                         have hnb66 := NB239_238.out
                         have hnc66 := NB238_239.out
                         have hnb67 := NB239_242.out
                         have hnc67 := NB242_239.out
                         have hcz68_0 : wr.cell? ⟨gb239, 0, none⟩ = some (.int .i64 a2_0) := (blk_cell BK239.out 0).trans rfl
                         have hcz68_1 : wr.cell? ⟨gb239, 1, none⟩ = some (.slice A2_1 l2_1.length c2_1) := (blk_cell BK239.out 1).trans rfl
                         have hfz68_0 := blk_frozen BK239.out 0
                         have hfz68_1 := blk_frozen BK239.out 1
                         have hnb69 := NB242_237.out
                         have hnc69 := NB237_242.out
                         have hnb70 := NB242_238.out
                         have hnc70 := NB238_242.out
                         have hcz71_0 : wr.cell? ⟨gb242, 0, none⟩ = some (.string ((rd_T36 l1_1 t240).f0)) := (blk_cell BK242.out 0).trans rfl
                         have hcz71_1 : wr.cell? ⟨gb242, 1, none⟩ = some (.int .i64 ((rd_T36 l1_1 t240).f1)) := (blk_cell BK242.out 1).trans rfl
                         have hcz71_2 : wr.cell? ⟨gb242, 2, none⟩ = some (.int .i64 ((rd_T36 l1_1 t240).f2)) := (blk_cell BK242.out 2).trans rfl
                         have hcz71_3 : wr.cell? ⟨gb242, 3, none⟩ = some (.string ((rd_T36 l1_1 t240).f3)) := (blk_cell BK242.out 3).trans rfl
                         have hcz71_4 : wr.cell? ⟨gb242, 4, none⟩ = some (.bool ((rd_T36 l1_1 t240).f4)) := (blk_cell BK242.out 4).trans rfl
                         have hcz71_5 : wr.cell? ⟨gb242, 5, none⟩ = some (.bool ((rd_T36 l1_1 t240).f5)) := (blk_cell BK242.out 5).trans rfl
                         have hcz71_6 : wr.cell? ⟨gb242, 6, none⟩ = some (.string ((rd_T36 l1_1 t240).f6)) := (blk_cell BK242.out 6).trans rfl
                         have hfz71_0 := blk_frozen BK242.out 0
                         have hfz71_1 := blk_frozen BK242.out 1
                         have hfz71_2 := blk_frozen BK242.out 2
                         have hfz71_3 := blk_frozen BK242.out 3
                         have hfz71_4 := blk_frozen BK242.out 4
                         have hfz71_5 := blk_frozen BK242.out 5
                         have hfz71_6 := blk_frozen BK242.out 6
                         go_wp2_with (first | ((with_reducible refine gate_callee (f := 34) rfl ?_); refine goesL_ (some 53) rfl rfl Tryd.func34 (by kernel_rfl) rfl #[.agg #[.string ((rd_T36 l1_1 t240).f0), .int .i64 ((rd_T36 l1_1 t240).f1), .int .i64 ((rd_T36 l1_1 t240).f2), .string ((rd_T36 l1_1 t240).f3), .bool ((rd_T36 l1_1 t240).f4), .bool ((rd_T36 l1_1 t240).f5), .string ((rd_T36 l1_1 t240).f6)]] rfl (by (try simp only [List.map_toArray, List.map_cons, List.map_nil]); first | done | rfl | (simp only [List.length_drop, List.length_take]; rfl)) ?_; (with_reducible refine (ecdysisref14_Hidden.calls ((rd_T36 l1_1 t240).f0) ((rd_T36 l1_1 t240).f1) ((rd_T36 l1_1 t240).f2) ((rd_T36 l1_1 t240).f3) ((rd_T36 l1_1 t240).f4) ((rd_T36 l1_1 t240).f5) ((rd_T36 l1_1 t240).f6) true _ A61.out).mono ?_); rintro e w72 ⟨rfl, hb⟩; refine ⟨_, rfl, ?_⟩; have n0_ := Aside0.mk (blk_below BK237.out hb); have n1_ := Aside0.mk (blk_below BK238.out hb); have n2_ := Aside0.mk (blk_below BK239.out hb); have n3_ := Aside0.mk (blk_below BK242.out hb); have n4_ := Aside0.mk (below_step HB.out hb); clear BK237; clear BK238; clear BK239; clear BK242; clear HB; have BK237 := n0_; have BK238 := n1_; have BK239 := n2_; have BK242 := n3_; have HB := n4_; clear n0_ n1_ n2_ n3_ n4_; (try clear hb); (try clear hb2); (try clear hk); (try clear hi); have hcz73_0 : w72.cell? ⟨gb239, 0, none⟩ = some (.int .i64 a2_0) := (blk_cell BK239.out 0).trans rfl; have hcz73_1 : w72.cell? ⟨gb239, 1, none⟩ = some (.slice A2_1 l2_1.length c2_1) := (blk_cell BK239.out 1).trans rfl; have hfz73_0 := blk_frozen BK239.out 0; have hfz73_1 := blk_frozen BK239.out 1; have p246 : 0 ≤ (0 : Int) := (by omega); have q246 : 0 < (l2_1.length : Int) := of_decide_eq_true (by first | (with_reducible assumption) ); obtain ⟨ad246, A246_2, c246_2, e246, hx246_0, hx246_1, hx246_2, hl246_2, hi246_2⟩ := at_T40 HR2_1.out 0 p246 q246; cases e246; have qi246 : (0 < l2_1.length) = True := eq_true (by omega); (try rw [show ((0 : Int)).toNat = 0 from rfl] at hx246_0); (try rw [show 0 * 3 = 0 from rfl] at hx246_0); (try rw [Addr.add_zero'] at hx246_0); (try rw [show ((0 : Int)).toNat = 0 from rfl] at hx246_1); (try rw [show 0 * 3 = 0 from rfl] at hx246_1); (try rw [Addr.add_zero'] at hx246_1); (try rw [show ((0 : Int)).toNat = 0 from rfl] at hx246_2); (try rw [show 0 * 3 = 0 from rfl] at hx246_2); (try rw [Addr.add_zero'] at hx246_2); replace hx246_0 := (HB.out.cell (World.block_lt_of_cell? w _ hx246_0)).trans hx246_0; replace hx246_1 := (HB.out.cell (World.block_lt_of_cell? w _ hx246_1)).trans hx246_1; replace hx246_2 := (HB.out.cell (World.block_lt_of_cell? w _ hx246_2)).trans hx246_2; have HR246_2 := Aside0.mk hi246_2; have HC246_2 := Aside0.mk hl246_2; clear hi246_2 hl246_2; replace p246 := eq_true p246; replace q246 := eq_true q246; have p247 : 0 ≤ (0 : Int) := (by omega); have q247 : 0 < (l2_1.length : Int) := of_decide_eq_true (by first | (with_reducible assumption) ); obtain ⟨ad247, A247_2, c247_2, e247, hx247_0, hx247_1, hx247_2, hl247_2, hi247_2⟩ := at_T40 HR2_1.out 0 p247 q247; obtain rfl : ad246 = ad247 := (by injection e247); have qi247 : (0 < l2_1.length) = True := eq_true (by omega); (try rw [show ((0 : Int)).toNat = 0 from rfl] at hx247_0); (try rw [show 0 * 3 = 0 from rfl] at hx247_0); (try rw [Addr.add_zero'] at hx247_0); (try rw [show ((0 : Int)).toNat = 0 from rfl] at hx247_1); (try rw [show 0 * 3 = 0 from rfl] at hx247_1); (try rw [Addr.add_zero'] at hx247_1); (try rw [show ((0 : Int)).toNat = 0 from rfl] at hx247_2); (try rw [show 0 * 3 = 0 from rfl] at hx247_2); (try rw [Addr.add_zero'] at hx247_2); replace hx247_0 := (HB.out.cell (World.block_lt_of_cell? w _ hx247_0)).trans hx247_0; replace hx247_1 := (HB.out.cell (World.block_lt_of_cell? w _ hx247_1)).trans hx247_1; replace hx247_2 := (HB.out.cell (World.block_lt_of_cell? w _ hx247_2)).trans hx247_2; have HR247_2 := Aside0.mk hi247_2; have HC247_2 := Aside0.mk hl247_2; clear hi247_2 hl247_2; replace p247 := eq_true p247; replace q247 := eq_true q247; have ea_ := Option.some.inj (hx246_2.symm.trans hx247_2); injection ea_ with ea_ en_ ec_; subst ea_; subst ec_; clear en_))
                         go_ret
                         exact ⟨by first | (simp [*, errW_none, errW_some]; exact isEmpty_bne _), by exact HB.out⟩
                       · rw [if_neg c64] at H
                         have c64b0 : (((rd_T40 l2_1 0).f0) == 0) = false := beq_eq_false_iff_ne.mpr c64
                         have c64b1 : (((rd_T40 l2_1 0).f0) != 0) = true := bne_iff_ne.mpr c64
                         obtain rfl := Option.some.inj H
                         have hnb74 := NB239_237.out
                         have hnc74 := NB237_239.out
                         have hnb75 := NB239_238.out
                         have hnc75 := NB238_239.out
                         have hnb76 := NB239_242.out
                         have hnc76 := NB242_239.out
                         have hcz77_0 : wr.cell? ⟨gb239, 0, none⟩ = some (.int .i64 a2_0) := (blk_cell BK239.out 0).trans rfl
                         have hcz77_1 : wr.cell? ⟨gb239, 1, none⟩ = some (.slice A2_1 l2_1.length c2_1) := (blk_cell BK239.out 1).trans rfl
                         have hfz77_0 := blk_frozen BK239.out 0
                         have hfz77_1 := blk_frozen BK239.out 1
                         have hnb78 := NB242_237.out
                         have hnc78 := NB237_242.out
                         have hnb79 := NB242_238.out
                         have hnc79 := NB238_242.out
                         have hcz80_0 : wr.cell? ⟨gb242, 0, none⟩ = some (.string ((rd_T36 l1_1 t240).f0)) := (blk_cell BK242.out 0).trans rfl
                         have hcz80_1 : wr.cell? ⟨gb242, 1, none⟩ = some (.int .i64 ((rd_T36 l1_1 t240).f1)) := (blk_cell BK242.out 1).trans rfl
                         have hcz80_2 : wr.cell? ⟨gb242, 2, none⟩ = some (.int .i64 ((rd_T36 l1_1 t240).f2)) := (blk_cell BK242.out 2).trans rfl
                         have hcz80_3 : wr.cell? ⟨gb242, 3, none⟩ = some (.string ((rd_T36 l1_1 t240).f3)) := (blk_cell BK242.out 3).trans rfl
                         have hcz80_4 : wr.cell? ⟨gb242, 4, none⟩ = some (.bool ((rd_T36 l1_1 t240).f4)) := (blk_cell BK242.out 4).trans rfl
                         have hcz80_5 : wr.cell? ⟨gb242, 5, none⟩ = some (.bool ((rd_T36 l1_1 t240).f5)) := (blk_cell BK242.out 5).trans rfl
                         have hcz80_6 : wr.cell? ⟨gb242, 6, none⟩ = some (.string ((rd_T36 l1_1 t240).f6)) := (blk_cell BK242.out 6).trans rfl
                         have hfz80_0 := blk_frozen BK242.out 0
                         have hfz80_1 := blk_frozen BK242.out 1
                         have hfz80_2 := blk_frozen BK242.out 2
                         have hfz80_3 := blk_frozen BK242.out 3
                         have hfz80_4 := blk_frozen BK242.out 4
                         have hfz80_5 := blk_frozen BK242.out 5
                         have hfz80_6 := blk_frozen BK242.out 6
                         go_wp2_with (first | ((with_reducible refine gate_callee (f := 34) rfl ?_); refine goesL_ (some 53) rfl rfl Tryd.func34 (by kernel_rfl) rfl #[.agg #[.string ((rd_T36 l1_1 t240).f0), .int .i64 ((rd_T36 l1_1 t240).f1), .int .i64 ((rd_T36 l1_1 t240).f2), .string ((rd_T36 l1_1 t240).f3), .bool ((rd_T36 l1_1 t240).f4), .bool ((rd_T36 l1_1 t240).f5), .string ((rd_T36 l1_1 t240).f6)]] rfl (by (try simp only [List.map_toArray, List.map_cons, List.map_nil]); first | done | rfl | (simp only [List.length_drop, List.length_take]; rfl)) ?_; (with_reducible refine (ecdysisref14_Hidden.calls ((rd_T36 l1_1 t240).f0) ((rd_T36 l1_1 t240).f1) ((rd_T36 l1_1 t240).f2) ((rd_T36 l1_1 t240).f3) ((rd_T36 l1_1 t240).f4) ((rd_T36 l1_1 t240).f5) ((rd_T36 l1_1 t240).f6) true _ A61.out).mono ?_); rintro e w81 ⟨rfl, hb⟩; refine ⟨_, rfl, ?_⟩; have n0_ := Aside0.mk (blk_below BK237.out hb); have n1_ := Aside0.mk (blk_below BK238.out hb); have n2_ := Aside0.mk (blk_below BK239.out hb); have n3_ := Aside0.mk (blk_below BK242.out hb); have n4_ := Aside0.mk (below_step HB.out hb); clear BK237; clear BK238; clear BK239; clear BK242; clear HB; have BK237 := n0_; have BK238 := n1_; have BK239 := n2_; have BK242 := n3_; have HB := n4_; clear n0_ n1_ n2_ n3_ n4_; (try clear hb); (try clear hb2); (try clear hk); (try clear hi); have hcz82_0 : w81.cell? ⟨gb239, 0, none⟩ = some (.int .i64 a2_0) := (blk_cell BK239.out 0).trans rfl; have hcz82_1 : w81.cell? ⟨gb239, 1, none⟩ = some (.slice A2_1 l2_1.length c2_1) := (blk_cell BK239.out 1).trans rfl; have hfz82_0 := blk_frozen BK239.out 0; have hfz82_1 := blk_frozen BK239.out 1; have p246 : 0 ≤ (0 : Int) := (by omega); have q246 : 0 < (l2_1.length : Int) := of_decide_eq_true (by first | (with_reducible assumption) ); obtain ⟨ad246, A246_2, c246_2, e246, hx246_0, hx246_1, hx246_2, hl246_2, hi246_2⟩ := at_T40 HR2_1.out 0 p246 q246; cases e246; have qi246 : (0 < l2_1.length) = True := eq_true (by omega); (try rw [show ((0 : Int)).toNat = 0 from rfl] at hx246_0); (try rw [show 0 * 3 = 0 from rfl] at hx246_0); (try rw [Addr.add_zero'] at hx246_0); (try rw [show ((0 : Int)).toNat = 0 from rfl] at hx246_1); (try rw [show 0 * 3 = 0 from rfl] at hx246_1); (try rw [Addr.add_zero'] at hx246_1); (try rw [show ((0 : Int)).toNat = 0 from rfl] at hx246_2); (try rw [show 0 * 3 = 0 from rfl] at hx246_2); (try rw [Addr.add_zero'] at hx246_2); replace hx246_0 := (HB.out.cell (World.block_lt_of_cell? w _ hx246_0)).trans hx246_0; replace hx246_1 := (HB.out.cell (World.block_lt_of_cell? w _ hx246_1)).trans hx246_1; replace hx246_2 := (HB.out.cell (World.block_lt_of_cell? w _ hx246_2)).trans hx246_2; have HR246_2 := Aside0.mk hi246_2; have HC246_2 := Aside0.mk hl246_2; clear hi246_2 hl246_2; replace p246 := eq_true p246; replace q246 := eq_true q246))
                         go_ret
                         exact ⟨by first | rfl , by exact HB.out⟩
                     · rw [if_neg c63] at H
                       exact absurd H (by simp)
                   · replace c62 := Bool.eq_false_iff.mpr c62
                     subst c62
                     have H1 : (some true) = some r := by rw [if_neg (show ¬ (false = true) by decide)] at H; exact H
                     clear H
                     have H := H1
                     clear H1
                     obtain rfl := Option.some.inj H
                     have hnb83 := NB239_237.out
                     have hnc83 := NB237_239.out
                     have hnb84 := NB239_238.out
                     have hnc84 := NB238_239.out
                     have hnb85 := NB239_242.out
                     have hnc85 := NB242_239.out
                     have hcz86_0 : wr.cell? ⟨gb239, 0, none⟩ = some (.int .i64 a2_0) := (blk_cell BK239.out 0).trans rfl
                     have hcz86_1 : wr.cell? ⟨gb239, 1, none⟩ = some (.slice A2_1 l2_1.length c2_1) := (blk_cell BK239.out 1).trans rfl
                     have hfz86_0 := blk_frozen BK239.out 0
                     have hfz86_1 := blk_frozen BK239.out 1
                     have hnb87 := NB242_237.out
                     have hnc87 := NB237_242.out
                     have hnb88 := NB242_238.out
                     have hnc88 := NB238_242.out
                     have hcz89_0 : wr.cell? ⟨gb242, 0, none⟩ = some (.string ((rd_T36 l1_1 t240).f0)) := (blk_cell BK242.out 0).trans rfl
                     have hcz89_1 : wr.cell? ⟨gb242, 1, none⟩ = some (.int .i64 ((rd_T36 l1_1 t240).f1)) := (blk_cell BK242.out 1).trans rfl
                     have hcz89_2 : wr.cell? ⟨gb242, 2, none⟩ = some (.int .i64 ((rd_T36 l1_1 t240).f2)) := (blk_cell BK242.out 2).trans rfl
                     have hcz89_3 : wr.cell? ⟨gb242, 3, none⟩ = some (.string ((rd_T36 l1_1 t240).f3)) := (blk_cell BK242.out 3).trans rfl
                     have hcz89_4 : wr.cell? ⟨gb242, 4, none⟩ = some (.bool ((rd_T36 l1_1 t240).f4)) := (blk_cell BK242.out 4).trans rfl
                     have hcz89_5 : wr.cell? ⟨gb242, 5, none⟩ = some (.bool ((rd_T36 l1_1 t240).f5)) := (blk_cell BK242.out 5).trans rfl
                     have hcz89_6 : wr.cell? ⟨gb242, 6, none⟩ = some (.string ((rd_T36 l1_1 t240).f6)) := (blk_cell BK242.out 6).trans rfl
                     have hfz89_0 := blk_frozen BK242.out 0
                     have hfz89_1 := blk_frozen BK242.out 1
                     have hfz89_2 := blk_frozen BK242.out 2
                     have hfz89_3 := blk_frozen BK242.out 3
                     have hfz89_4 := blk_frozen BK242.out 4
                     have hfz89_5 := blk_frozen BK242.out 5
                     have hfz89_6 := blk_frozen BK242.out 6
                     go_wp2_with (first | ((with_reducible refine gate_callee (f := 34) rfl ?_); refine goesL_ (some 53) rfl rfl Tryd.func34 (by kernel_rfl) rfl #[.agg #[.string ((rd_T36 l1_1 t240).f0), .int .i64 ((rd_T36 l1_1 t240).f1), .int .i64 ((rd_T36 l1_1 t240).f2), .string ((rd_T36 l1_1 t240).f3), .bool ((rd_T36 l1_1 t240).f4), .bool ((rd_T36 l1_1 t240).f5), .string ((rd_T36 l1_1 t240).f6)]] rfl (by (try simp only [List.map_toArray, List.map_cons, List.map_nil]); first | done | rfl | (simp only [List.length_drop, List.length_take]; rfl)) ?_; (with_reducible refine (ecdysisref14_Hidden.calls ((rd_T36 l1_1 t240).f0) ((rd_T36 l1_1 t240).f1) ((rd_T36 l1_1 t240).f2) ((rd_T36 l1_1 t240).f3) ((rd_T36 l1_1 t240).f4) ((rd_T36 l1_1 t240).f5) ((rd_T36 l1_1 t240).f6) false _ A61.out).mono ?_); rintro e w90 ⟨rfl, hb⟩; refine ⟨_, rfl, ?_⟩; have n0_ := Aside0.mk (blk_below BK237.out hb); have n1_ := Aside0.mk (blk_below BK238.out hb); have n2_ := Aside0.mk (blk_below BK239.out hb); have n3_ := Aside0.mk (blk_below BK242.out hb); have n4_ := Aside0.mk (below_step HB.out hb); clear BK237; clear BK238; clear BK239; clear BK242; clear HB; have BK237 := n0_; have BK238 := n1_; have BK239 := n2_; have BK242 := n3_; have HB := n4_; clear n0_ n1_ n2_ n3_ n4_; (try clear hb); (try clear hb2); (try clear hk); (try clear hi)))
                     go_ret
                     exact ⟨by first | rfl , by exact HB.out⟩
        · rw [if_neg c21] at H
          exact absurd H (by simp)
      · rw [if_neg c20] at H
        exact absurd H (by simp)
end Go.Proofs.YtbpnfpckoapdbaaDoor.PV20
end
section
namespace Go.Proofs.YtbpnfpckoapdbaaDoor.PV20
open Go.RowKit Go.Proofs.YtbpnfpckoapdbaaDoor.M Go.Proofs.YtbpnfpckoapdbaaDoor.KD Go.Proofs.YtbpnfpckoapdbaaDoor Go.Proofs.YtbpnfpckoapdbaaDoorW.PrintWords Go.Proofs.YtbpnfpckoapdbaaDoorW.PrintLast Go.Proofs.YtbpnfpckoapdbaaDoorW.PrintMore
attribute [local go_sem] max2_int min2_int max_two min_two max_three min_three max_four min_four   -- for this text's walks alone
set_option linter.unusedVariables false
set_option linter.unusedSimpArgs false
theorem grp_ecdysisref20_Tree.calls (k : Nat) : (∀ (A0_0 : Option Addr) (c0_0 : Nat) (l0_0 : List (S48)) (A0_1 : Option Addr) (c0_1 : Nat) (l0_1 : List (S52)) (a1 : ByteArray) (A2_0 : Option Addr) (c2_0 : Nat) (l2_0 : List (S43)) (A2_1 : Option Addr) (c2_1 : Nat) (l2_1 : List (S63)) (r : Bool) (w : World) (hT : Tabs w) (hr0_0 : Kd.C k48 w A0_0 l0_0.length l0_0) (hc0_0 : l0_0.length ≤ c0_0) (hr0_1 : Kd.C k52 w A0_1 l0_1.length l0_1) (hc0_1 : l0_1.length ≤ c0_1) (hr2_0 : Kd.C k43 w A2_0 l2_0.length l2_0) (hc2_0 : l2_0.length ≤ c2_0) (hr2_1 : Kd.C k63 w A2_1 l2_1.length l2_1) (hc2_1 : l2_1.length ≤ c2_1) (h : ecdysisref20_Tree.f k l0_0 l0_1 a1 l2_0 l2_1 = some r), Calls Tryd.prog 10 #[.agg #[.slice A0_0 l0_0.length c0_0, .slice A0_1 l0_1.length c0_1], .string a1, .agg #[.slice A2_0 l2_0.length c2_0, .slice A2_1 l2_1.length c2_1]] w fun e w' => e = .returned (.bool r) ∧ Below w.heap.size w w') ∧ (∀ (A0_0 : Option Addr) (c0_0 : Nat) (l0_0 : List (S48)) (A0_1 : Option Addr) (c0_1 : Nat) (l0_1 : List (S52)) (a1_0 : ByteArray) (a1_1 : Int) (a1_2 : Int) (a1_3 : ByteArray) (a1_4 : Bool) (a1_5 : Bool) (a1_6 : ByteArray) (a2_0 : Int) (a2_1 : ByteArray) (A2_2 : Option Addr) (c2_2 : Nat) (l2_2 : List (S29)) (r : Bool) (w : World) (hT : Tabs w) (hr0_0 : Kd.C k48 w A0_0 l0_0.length l0_0) (hc0_0 : l0_0.length ≤ c0_0) (hr0_1 : Kd.C k52 w A0_1 l0_1.length l0_1) (hc0_1 : l0_1.length ≤ c0_1) (hr2_2 : Kd.C k29 w A2_2 l2_2.length l2_2) (hc2_2 : l2_2.length ≤ c2_2) (h : ecdysisref20_Val.f k l0_0 l0_1 a1_0 a1_1 a1_2 a1_3 a1_4 a1_5 a1_6 a2_0 a2_1 l2_2 = some r), Calls Tryd.prog 13 #[.agg #[.slice A0_0 l0_0.length c0_0, .slice A0_1 l0_1.length c0_1], .agg #[.string a1_0, .int .i64 a1_1, .int .i64 a1_2, .string a1_3, .bool a1_4, .bool a1_5, .string a1_6], .agg #[.int .u64 a2_0, .string a2_1, .slice A2_2 l2_2.length c2_2]] w fun e w' => e = .returned (.bool r) ∧ Below w.heap.size w w') ∧ (∀ (A0_0 : Option Addr) (c0_0 : Nat) (l0_0 : List (S48)) (A0_1 : Option Addr) (c0_1 : Nat) (l0_1 : List (S52)) (a1_0 : ByteArray) (A1_1 : Option Addr) (c1_1 : Nat) (l1_1 : List (S36)) (A1_2 : Option Addr) (c1_2 : Nat) (l1_2 : List Int) (a2_0 : Int) (A2_1 : Option Addr) (c2_1 : Nat) (l2_1 : List (S40)) (r : Bool) (w : World) (hT : Tabs w) (hr0_0 : Kd.C k48 w A0_0 l0_0.length l0_0) (hc0_0 : l0_0.length ≤ c0_0) (hr0_1 : Kd.C k52 w A0_1 l0_1.length l0_1) (hc0_1 : l0_1.length ≤ c0_1) (hr1_1 : Kd.C k36 w A1_1 l1_1.length l1_1) (hc1_1 : l1_1.length ≤ c1_1) (hr1_2 : Kd.C (Kd.int .i64) w A1_2 l1_2.length l1_2) (hc1_2 : l1_2.length ≤ c1_2) (hr2_1 : Kd.C k40 w A2_1 l2_1.length l2_1) (hc2_1 : l2_1.length ≤ c2_1) (h : ecdysisref20_slot.f k l0_0 l0_1 a1_0 l1_1 l1_2 a2_0 l2_1 = some r), Calls Tryd.prog 20 #[.agg #[.slice A0_0 l0_0.length c0_0, .slice A0_1 l0_1.length c0_1], .agg #[.string a1_0, .slice A1_1 l1_1.length c1_1, .slice A1_2 l1_2.length c1_2], .agg #[.int .i64 a2_0, .slice A2_1 l2_1.length c2_1]] w fun e w' => e = .returned (.bool r) ∧ Below w.heap.size w w') := by
 induction k using Nat.strongRecOn with
 | _ k ih =>
 exact ⟨ecdysisref20_Tree.callsR k (fun k_ hk_ => (ih k_ hk_).1) (fun k_ hk_ => (ih k_ hk_).2.1) (fun k_ hk_ => (ih k_ hk_).2.2), ecdysisref20_Val.callsR k (fun k_ hk_ => (ih k_ hk_).1) (fun k_ hk_ => (ih k_ hk_).2.1) (fun k_ hk_ => (ih k_ hk_).2.2), ecdysisref20_slot.callsR k (fun k_ hk_ => (ih k_ hk_).1) (fun k_ hk_ => (ih k_ hk_).2.1) (fun k_ hk_ => (ih k_ hk_).2.2)⟩
theorem ecdysisref20_Tree.calls (k : Nat) (A0_0 : Option Addr) (c0_0 : Nat) (l0_0 : List (S48)) (A0_1 : Option Addr) (c0_1 : Nat) (l0_1 : List (S52)) (a1 : ByteArray) (A2_0 : Option Addr) (c2_0 : Nat) (l2_0 : List (S43)) (A2_1 : Option Addr) (c2_1 : Nat) (l2_1 : List (S63)) (r : Bool) (w : World) (hT : Tabs w) (hr0_0 : Kd.C k48 w A0_0 l0_0.length l0_0) (hc0_0 : l0_0.length ≤ c0_0) (hr0_1 : Kd.C k52 w A0_1 l0_1.length l0_1) (hc0_1 : l0_1.length ≤ c0_1) (hr2_0 : Kd.C k43 w A2_0 l2_0.length l2_0) (hc2_0 : l2_0.length ≤ c2_0) (hr2_1 : Kd.C k63 w A2_1 l2_1.length l2_1) (hc2_1 : l2_1.length ≤ c2_1) (h : ecdysisref20_Tree.f k l0_0 l0_1 a1 l2_0 l2_1 = some r) :
 Calls Tryd.prog 10 #[.agg #[.slice A0_0 l0_0.length c0_0, .slice A0_1 l0_1.length c0_1], .string a1, .agg #[.slice A2_0 l2_0.length c2_0, .slice A2_1 l2_1.length c2_1]] w fun e w' => e = .returned (.bool r) ∧ Below w.heap.size w w' := (grp_ecdysisref20_Tree.calls k).1 A0_0 c0_0 l0_0 A0_1 c0_1 l0_1 a1 A2_0 c2_0 l2_0 A2_1 c2_1 l2_1 r w hT hr0_0 hc0_0 hr0_1 hc0_1 hr2_0 hc2_0 hr2_1 hc2_1 h
def ecdysislaw20_ValidTrees.j0 : Nat → ByteArray → Bool → List (S48) → List (S52) → List (S43) → List (S63) → Option (Bool)
 | 0, _, _, _, _, _, _ => none
 | k + 1, x1, x14, x249000, x249001, x250000, x250001 => if x14 = true then ((ecdysislaw20_live.f k).bind fun t252 => (some t252)) else ((valid_Tree.f k x249000 x249001 x1 x250000 x250001).bind fun t253 => ((ecdysisref20_Tree.f k x249000 x249001 x1 x250000 x250001).bind fun t254 => (if (t253 == t254) = true then ((ecdysislaw20_live.f k).bind fun t255 => (some t255)) else (some false))))
def ecdysislaw20_ValidTrees.f (k : Nat) (l0_0 : List (S48)) (l0_1 : List (S52)) (a1 : ByteArray) (l2_0 : List (S43)) (l2_1 : List (S63)) : Option (Bool) := (ecdysisref15_Small.f k l0_0 l0_1).bind fun t250 => (if t250 = true then ((ecdysisref19_Small.f k l2_0 l2_1).bind fun t251 => (ecdysislaw20_ValidTrees.j0 k a1 (!t251) l0_0 l0_1 l2_0 l2_1)) else (ecdysislaw20_ValidTrees.j0 k a1 true l0_0 l0_1 l2_0 l2_1))
def ecdysislaw20_ValidTrees.T3 : Bool × List (List Nat × List Nat) := (true, [([], []), ([], []), ([], []), ([0, 1, 2], [0, 1, 2]), ([], []), ([], []), ([], []), ([4, 5, 6, 3], [4, 5, 6]), ([3, 7], [3, 7]), ([8, 7], [8]), ([9, 9], [9]), ([9, 10], [9, 10]), ([11, 10, 0, 1, 2, 3, 4, 5, 6, 7, 8, 9, 10, 11], [11])])
def ecdysislaw20_ValidTrees.B3 : List Nat := [0, 0, 0, 7, 0, 0, 0, 127, 255, 511, 1023, 2047, 4095]
theorem ecdysislaw20_ValidTrees.tab3 : rtab .any (opsOf Tryd.f3 3) = ecdysislaw20_ValidTrees.T3 := by kernel_rfl
theorem ecdysislaw20_ValidTrees.bits3 : waitsOk ecdysislaw20_ValidTrees.T3.2 ecdysislaw20_ValidTrees.B3 = true := by kernel_rfl
set_option maxHeartbeats 8000000 in
set_option maxRecDepth 100000 in
theorem ecdysislaw20_ValidTrees.calls (k : Nat) (A0_0 : Option Addr) (c0_0 : Nat) (l0_0 : List (S48)) (A0_1 : Option Addr) (c0_1 : Nat) (l0_1 : List (S52)) (a1 : ByteArray) (A2_0 : Option Addr) (c2_0 : Nat) (l2_0 : List (S43)) (A2_1 : Option Addr) (c2_1 : Nat) (l2_1 : List (S63)) (r : Bool) (w : World) (hT : Tabs w) (hr0_0 : Kd.C k48 w A0_0 l0_0.length l0_0) (hc0_0 : l0_0.length ≤ c0_0) (hr0_1 : Kd.C k52 w A0_1 l0_1.length l0_1) (hc0_1 : l0_1.length ≤ c0_1) (hr2_0 : Kd.C k43 w A2_0 l2_0.length l2_0) (hc2_0 : l2_0.length ≤ c2_0) (hr2_1 : Kd.C k63 w A2_1 l2_1.length l2_1) (hc2_1 : l2_1.length ≤ c2_1) (h : ecdysislaw20_ValidTrees.f k l0_0 l0_1 a1 l2_0 l2_1 = some r) :
  Calls Tryd.prog 3 #[.agg #[.slice A0_0 l0_0.length c0_0, .slice A0_1 l0_1.length c0_1], .string a1, .agg #[.slice A2_0 l2_0.length c2_0, .slice A2_1 l2_1.length c2_1]] w fun e w' => e = .returned (.bool r) ∧ Below w.heap.size w w' := by
 have HU8 := Aside0.mk hT
 clear hT
 have hu25 := Tryd.underlying25
 have hu29 := Tryd.underlying29
 have HR0_0 := Aside0.mk hr0_0
 have HC0_0 := Aside0.mk hc0_0
 clear hr0_0 hc0_0
 have HR0_1 := Aside0.mk hr0_1
 have HC0_1 := Aside0.mk hc0_1
 clear hr0_1 hc0_1
 have HR2_0 := Aside0.mk hr2_0
 have HC2_0 := Aside0.mk hc2_0
 clear hr2_0 hc2_0
 have HR2_1 := Aside0.mk hr2_1
 have HC2_1 := Aside0.mk hc2_1
 clear hr2_1 hc2_1
 have HB := Aside0.mk (Below.refl w.heap.size w)
 have H : ((ecdysisref15_Small.f k l0_0 l0_1).bind fun t250 => (if t250 = true then ((ecdysisref19_Small.f k l2_0 l2_1).bind fun t251 => (ecdysislaw20_ValidTrees.j0 k a1 (!t251) l0_0 l0_1 l2_0 l2_1)) else (ecdysislaw20_ValidTrees.j0 k a1 true l0_0 l0_1 l2_0 l2_1))) = some r := h
 clear h
 have HC4 := Aside0.mk H
 clear H
 go_enter Tryd.func3, Tryd.ntmps3
 go_upto_region 1 with (first | ((with_reducible refine gate_dst (N := 3) rfl ?_); refine box_event ?hg (N := 3) ?hd (cs := #[.slice A0_0 l0_0.length c0_0, .slice A0_1 l0_1.length c0_1]) (t := 25) ?hr ?_; (case hd => rfl); (case hg => rfl); (case hr => first | (go_simp; done) | (go_simp; rfl)); intro gb248 hg w5 hbox hb; have n0_ := Aside0.mk (below_step HB.out hb); have n1_ := Aside0.mk (hbox); clear HB; have HB := n0_; have BK248 := n1_; clear n0_ n1_; clear hb hbox hg) | ((with_reducible refine gate_dst (N := 5) rfl ?_); refine box_event ?hg (N := 5) ?hd (cs := #[.slice A2_0 l2_0.length c2_0, .slice A2_1 l2_1.length c2_1]) (t := 29) ?hr ?_; (case hd => rfl); (case hg => rfl); (case hr => first | (go_simp; done) | (go_simp; rfl)); intro gb249 hg w6 hbox hb; have n0_ := Aside0.mk (blk_below BK248.out hb); have n1_ := Aside0.mk (below_step HB.out hb); have n2_ := Aside0.mk (hbox); have n5_ := Aside0.mk ((by rw [hg]; exact Nat.ne_of_lt (blk_lt BK248.out) : gb248 ≠ gb249)); have n6_ := Aside0.mk ((by rw [hg]; exact Nat.ne_of_gt (blk_lt BK248.out) : gb249 ≠ gb248)); clear BK248; clear HB; have BK248 := n0_; have HB := n1_; have BK249 := n2_; have NB248_249 := n5_; have NB249_248 := n6_; clear n0_ n1_ n2_ n5_ n6_; clear hb hbox hg))
 (try simp only [Act.put, List.setIfInBounds_toArray, List.set_cons_zero, List.set_cons_succ])
 go_cut [14] (fun v14 wc => ∃ (kq : Nat) (x14_3 : Bool), v14 = .bool x14_3 ∧ Aside0 (ecdysislaw20_ValidTrees.j0 kq a1 x14_3 l0_0 l0_1 l2_0 l2_1 = some r) ∧ Aside0 (kq ≤ k) ∧ Aside0 (wc.heap[gb248]? = some (.cells #[(.slice A0_0 l0_0.length c0_0), (.slice A0_1 l0_1.length c0_1)] 25 (0, 0))) ∧ Aside0 (wc.heap[gb249]? = some (.cells #[(.slice A2_0 l2_0.length c2_0), (.slice A2_1 l2_1.length c2_1)] 29 (0, 0))) ∧ Aside0 (Below w.heap.size w wc))
 case first =>
  have H := HC4.out
  clear HC4
  replace H := Option.bind_eq_some_iff.mp H
  obtain ⟨t250, A70, H⟩ := H
  replace H : (if t250 = true then ((ecdysisref19_Small.f k l2_0 l2_1).bind fun t251 => (ecdysislaw20_ValidTrees.j0 k a1 (!t251) l0_0 l0_1 l2_0 l2_1)) else (ecdysislaw20_ValidTrees.j0 k a1 true l0_0 l0_1 l2_0 l2_1)) = some r := H
  have A7 := Aside0.mk A70
  clear A70
  by_cases c8 : t250 = true
  · subst c8
    have H1 : ((ecdysisref19_Small.f k l2_0 l2_1).bind fun t251 => (ecdysislaw20_ValidTrees.j0 k a1 (!t251) l0_0 l0_1 l2_0 l2_1)) = some r := by rw [if_pos rfl] at H; exact H
    clear H
    have H := H1
    clear H1
    replace H := Option.bind_eq_some_iff.mp H
    obtain ⟨t251, A90, H⟩ := H
    replace H : (ecdysislaw20_ValidTrees.j0 k a1 (!t251) l0_0 l0_1 l2_0 l2_1) = some r := H
    have A9 := Aside0.mk A90
    clear A90
    have H' := Aside0.mk H
    clear H
    have hnb10 := NB248_249.out
    have hnc10 := NB249_248.out
    have hcz11_0 : w6.cell? ⟨gb248, 0, none⟩ = some (.slice A0_0 l0_0.length c0_0) := (blk_cell BK248.out 0).trans rfl
    have hcz11_1 : w6.cell? ⟨gb248, 1, none⟩ = some (.slice A0_1 l0_1.length c0_1) := (blk_cell BK248.out 1).trans rfl
    have hfz11_0 := blk_frozen BK248.out 0
    have hfz11_1 := blk_frozen BK248.out 1
    go_wp2_with (first | ((with_reducible refine gate_callee (f := 6) rfl ?_); refine goesL_ (some 8) rfl rfl Tryd.func6 (by kernel_rfl) rfl #[.agg #[.slice A0_0 l0_0.length c0_0, .slice A0_1 l0_1.length c0_1]] rfl (by (try simp only [List.map_toArray, List.map_cons, List.map_nil]); first | done | rfl | (simp only [List.length_drop, List.length_take]; rfl)) ?_; (with_reducible refine (ecdysisref15_Small.calls k _ _ l0_0 _ _ l0_1 true _ ?side1 ?side2 ?side3 ?side4 A7.out).mono ?_); (case side1 => repeat (first | exact (Kd.C_below HR0_0.out HB.out) )); (case side2 => exact HC0_0.out); (case side3 => repeat (first | exact (Kd.C_below HR0_1.out HB.out) )); (case side4 => exact HC0_1.out); rintro e w12 ⟨rfl, hb⟩; refine ⟨_, rfl, ?_⟩; have n0_ := Aside0.mk (blk_below BK248.out hb); have n1_ := Aside0.mk (blk_below BK249.out hb); have n2_ := Aside0.mk (below_step HB.out hb); clear BK248; clear BK249; clear HB; have BK248 := n0_; have BK249 := n1_; have HB := n2_; clear n0_ n1_ n2_; (try clear hb); (try clear hb2); (try clear hk); (try clear hi); have hcz13_0 : w12.cell? ⟨gb249, 0, none⟩ = some (.slice A2_0 l2_0.length c2_0) := (blk_cell BK249.out 0).trans rfl; have hcz13_1 : w12.cell? ⟨gb249, 1, none⟩ = some (.slice A2_1 l2_1.length c2_1) := (blk_cell BK249.out 1).trans rfl; have hfz13_0 := blk_frozen BK249.out 0; have hfz13_1 := blk_frozen BK249.out 1) | (go_at_call 7; (with_reducible refine (ecdysisref19_Small.calls k _ _ l2_0 _ _ l2_1 t251 _ ?side1 ?side2 ?side3 ?side4 A9.out).mono ?_); (case side1 => repeat (first | exact (Kd.C_below HR2_0.out HB.out) )); (case side2 => exact HC2_0.out); (case side3 => repeat (first | exact (Kd.C_below HR2_1.out HB.out) )); (case side4 => exact HC2_1.out); rintro e w14 ⟨rfl, hb⟩; have n0_ := Aside0.mk (blk_below BK248.out hb); have n1_ := Aside0.mk (blk_below BK249.out hb); have n2_ := Aside0.mk (below_step HB.out hb); clear BK248; clear BK249; clear HB; have BK248 := n0_; have BK249 := n1_; have HB := n2_; clear n0_ n1_ n2_; (try clear hb); (try clear hb2); (try clear hk); (try clear hi)))
    go_meet
    case rel => exact ⟨_, (!t251), (by first | rfl ), H', ⟨by first | omega ⟩, ⟨by exact BK248.out⟩, ⟨by exact BK249.out⟩, ⟨by exact HB.out⟩⟩
  · replace c8 := Bool.eq_false_iff.mpr c8
    subst c8
    have H1 : (ecdysislaw20_ValidTrees.j0 k a1 true l0_0 l0_1 l2_0 l2_1) = some r := by rw [if_neg (show ¬ (false = true) by decide)] at H; exact H
    clear H
    have H := H1
    clear H1
    have H' := Aside0.mk H
    clear H
    have hnb15 := NB248_249.out
    have hnc15 := NB249_248.out
    have hcz16_0 : w6.cell? ⟨gb248, 0, none⟩ = some (.slice A0_0 l0_0.length c0_0) := (blk_cell BK248.out 0).trans rfl
    have hcz16_1 : w6.cell? ⟨gb248, 1, none⟩ = some (.slice A0_1 l0_1.length c0_1) := (blk_cell BK248.out 1).trans rfl
    have hfz16_0 := blk_frozen BK248.out 0
    have hfz16_1 := blk_frozen BK248.out 1
    go_wp2_with (first | ((with_reducible refine gate_callee (f := 6) rfl ?_); refine goesL_ (some 8) rfl rfl Tryd.func6 (by kernel_rfl) rfl #[.agg #[.slice A0_0 l0_0.length c0_0, .slice A0_1 l0_1.length c0_1]] rfl (by (try simp only [List.map_toArray, List.map_cons, List.map_nil]); first | done | rfl | (simp only [List.length_drop, List.length_take]; rfl)) ?_; (with_reducible refine (ecdysisref15_Small.calls k _ _ l0_0 _ _ l0_1 false _ ?side1 ?side2 ?side3 ?side4 A7.out).mono ?_); (case side1 => repeat (first | exact (Kd.C_below HR0_0.out HB.out) )); (case side2 => exact HC0_0.out); (case side3 => repeat (first | exact (Kd.C_below HR0_1.out HB.out) )); (case side4 => exact HC0_1.out); rintro e w17 ⟨rfl, hb⟩; refine ⟨_, rfl, ?_⟩; have n0_ := Aside0.mk (blk_below BK248.out hb); have n1_ := Aside0.mk (blk_below BK249.out hb); have n2_ := Aside0.mk (below_step HB.out hb); clear BK248; clear BK249; clear HB; have BK248 := n0_; have BK249 := n1_; have HB := n2_; clear n0_ n1_ n2_; (try clear hb); (try clear hb2); (try clear hk); (try clear hi)))
    go_meet
    case rel => exact ⟨_, (true), (by first | rfl ), H', ⟨by first | omega ⟩, ⟨by exact BK248.out⟩, ⟨by exact BK249.out⟩, ⟨by exact HB.out⟩⟩
 case rest =>
  clear HC4
  try clear c1
  try clear c2
  try clear p2
  try clear c3
  try clear c6
  try clear c8
  try clear c10
  try clear c15
  try clear hcz11_0
  try clear hcz11_1
  try clear hcz13_0
  try clear hcz13_1
  try clear hcz16_0
  try clear hcz16_1
  try clear hfz11_0
  try clear hfz11_1
  try clear hfz13_0
  try clear hfz13_1
  try clear hfz16_0
  try clear hfz16_1
  obtain ⟨kq, x14_3, rfl, HA, HJ3, BK248, BK249, HB⟩ := hcut
  cases kq with
  | zero => exact absurd HA.out (by simp [ecdysislaw20_ValidTrees.j0])
  | succ kj3 =>
    have H := HA.out
    clear HA
    simp only [ecdysislaw20_ValidTrees.j0] at H
    by_cases c18 : x14_3 = true
    · subst c18
      have H1 : ((ecdysislaw20_live.f kj3).bind fun t252 => (some t252)) = some r := by rw [if_pos rfl] at H; exact H
      clear H
      have H := H1
      clear H1
      replace H := Option.bind_eq_some_iff.mp H
      obtain ⟨t252, A190, H⟩ := H
      replace H : (some t252) = some r := H
      have A19 := Aside0.mk A190
      clear A190
      obtain rfl := Option.some.inj H
      go_wp2_with (first | ((with_reducible refine gate_callee (f := 8) rfl ?_); refine goesL_ (some 15) rfl rfl Tryd.func8 (by kernel_rfl) rfl #[] rfl (by (try simp only [List.map_toArray, List.map_cons, List.map_nil]); first | done | rfl | (simp only [List.length_drop, List.length_take]; rfl)) ?_; (with_reducible refine (ecdysislaw20_live.calls kj3  t252 _ ?sideT A19.out).mono ?_); (case sideT => exact Tabs.below HU8.out HB.out); rintro e w20 ⟨rfl, hb⟩; refine ⟨_, rfl, ?_⟩; have n0_ := Aside0.mk (blk_below BK248.out hb); have n1_ := Aside0.mk (blk_below BK249.out hb); have n2_ := Aside0.mk (below_step HB.out hb); clear BK248; clear BK249; clear HB; have BK248 := n0_; have BK249 := n1_; have HB := n2_; clear n0_ n1_ n2_; (try clear hb); (try clear hb2); (try clear hk); (try clear hi)))
      go_ret
      exact ⟨by first | rfl , by exact HB.out⟩
    · replace c18 := Bool.eq_false_iff.mpr c18
      subst c18
      have H1 : ((valid_Tree.f kj3 l0_0 l0_1 a1 l2_0 l2_1).bind fun t253 => ((ecdysisref20_Tree.f kj3 l0_0 l0_1 a1 l2_0 l2_1).bind fun t254 => (if (t253 == t254) = true then ((ecdysislaw20_live.f kj3).bind fun t255 => (some t255)) else (some false)))) = some r := by rw [if_neg (show ¬ (false = true) by decide)] at H; exact H
      clear H
      have H := H1
      clear H1
      replace H := Option.bind_eq_some_iff.mp H
      obtain ⟨t253, A210, H⟩ := H
      replace H : ((ecdysisref20_Tree.f kj3 l0_0 l0_1 a1 l2_0 l2_1).bind fun t254 => (if (t253 == t254) = true then ((ecdysislaw20_live.f kj3).bind fun t255 => (some t255)) else (some false))) = some r := H
      have A21 := Aside0.mk A210
      clear A210
      replace H := Option.bind_eq_some_iff.mp H
      obtain ⟨t254, A220, H⟩ := H
      replace H : (if (t253 == t254) = true then ((ecdysislaw20_live.f kj3).bind fun t255 => (some t255)) else (some false)) = some r := H
      have A22 := Aside0.mk A220
      clear A220
      by_cases c23 : (t253 == t254) = true
      · rw [if_pos c23] at H
        have c23b0 : (t253 == t254) = true := c23
        (try (have c23b1 : decide (t253 = t254) = true := by simpa using c23))
        (try (have c23b2 : (t253 == t254) = true := by simpa using c23))
        clear c23
        replace H := Option.bind_eq_some_iff.mp H
        obtain ⟨t255, A240, H⟩ := H
        replace H : (some t255) = some r := H
        have A24 := Aside0.mk A240
        clear A240
        obtain rfl := Option.some.inj H
        try go_wp2
        have n0_ := Aside0.mk (blk_drew BK248.out)
        have n1_ := Aside0.mk (blk_drew BK249.out)
        have n2_ := Aside0.mk (below_drew1 HB.out)
        clear BK248
        clear BK249
        clear HB
        have BK248 := n0_
        have BK249 := n1_
        have HB := n2_
        clear n0_ n1_ n2_
        refine start_ (n := 13) (S := fun w' => w'.cell? ⟨gb248, 0, none⟩ = some (.slice A0_0 l0_0.length c0_0) ∧ w'.cell? ⟨gb248, 1, none⟩ = some (.slice A0_1 l0_1.length c0_1) ∧ w'.cell? ⟨gb249, 0, none⟩ = some (.slice A2_0 l2_0.length c2_0) ∧ w'.cell? ⟨gb249, 1, none⟩ = some (.slice A2_1 l2_1.length c2_1)) (ds := []) #[false, false, false, false, false, false, false, false, false, false, false, false, false] (by kernel_rfl) rfl rfl ⟨(blk_cell BK248.out 0).trans rfl, (blk_cell BK248.out 1).trans rfl, (blk_cell BK249.out 0).trans rfl, (blk_cell BK249.out 1).trans rfl⟩ (fun hHeld => ?_); refine with_tabW ecdysislaw20_ValidTrees.tab3 ecdysislaw20_ValidTrees.bits3 (fun HT_ HW_ => ?_)
        generalize wc.drew = w25 at BK248 BK249 HB hHeld ⊢
        refine zp 1 (zb 13 2) ?_ rfl rfl HT_ (by kernel_rfl) (fun _ _ _ h => h) rfl ?_ ?_ ?_ ?_; rotate_left; (intro w'; go_simp; with_reducible rfl); rotate_left; (simp only [zs]; rfl)
        refine zp 5 (zb 13 34) ?_ rfl rfl HT_ (by kernel_rfl) (fun _ _ _ h => h) rfl ?_ ?_ ?_ ?_; rotate_left; (intro w'; go_simp; with_reducible rfl); rotate_left; (simp only [zs]; rfl)
        refine zt 0 (zb 13 35) ?_ rfl rfl HT_ HW_ (by kernel_rfl) (fun _ _ _ h => h) rfl ?_ hHeld ?_ ?_ ?_; rotate_left; (rintro w' ⟨s0, s1, s2, s3⟩; go_simp; with_reducible rfl); rotate_left; (simp only [zs]; rfl)
        refine zt 2 (zb 13 39) ?_ rfl rfl HT_ HW_ (by kernel_rfl) (fun _ _ _ h => h) rfl ?_ hHeld ?_ ?_ ?_; rotate_left; (rintro w' ⟨s0, s1, s2, s3⟩; go_simp; with_reducible rfl); rotate_left; (simp only [zs]; rfl)
        refine zt 4 (zb 13 55) ?_ rfl rfl HT_ HW_ (by kernel_rfl) (fun _ _ _ h => h) rfl ?_ hHeld ?_ ?_ ?_; rotate_left; (rintro w' ⟨s0, s1, s2, s3⟩; go_simp; with_reducible rfl); rotate_left; (simp only [zs]; rfl)
        refine zt 6 (zb 13 119) ?_ rfl rfl HT_ HW_ (by kernel_rfl) (fun _ _ _ h => h) rfl ?_ hHeld ?_ ?_ ?_; rotate_left; (rintro w' ⟨s0, s1, s2, s3⟩; go_simp; with_reducible rfl); rotate_left; (simp only [zs]; rfl)
        refine one_ (i := 3) (N := some 19) #[true, true, true, true, true, true, true, false, false, false, false, false, false] rfl rfl (one_of HT_.out (by kernel_rfl)) (by decide) (fun K hK => ?_)
        refine goes_ Tryd.func9 (by kernel_rfl) rfl #[.agg #[.slice A0_0 l0_0.length c0_0, .slice A0_1 l0_1.length c0_1], .string a1, .agg #[.slice A2_0 l2_0.length c2_0, .slice A2_1 l2_1.length c2_1]] (by rfl) rfl rfl (by (try simp only [List.map_toArray, List.map_cons, List.map_nil]); first | done | rfl | (simp only [List.length_drop, List.length_take]; rfl)) ?_
        with_reducible refine (valid_Tree.calls kj3 _ _ l0_0 _ _ l0_1 a1 _ _ l2_0 _ _ l2_1 t253 _ ?sideT ?side1 ?side2 ?side3 ?side4 ?side5 ?side6 ?side7 ?side8 A21.out).mono ?_
        case sideT => exact Tabs.below HU8.out HB.out
        (case side1 => repeat (first | exact (Kd.C_below HR0_0.out HB.out) ))
        (case side2 => exact HC0_0.out)
        (case side3 => repeat (first | exact (Kd.C_below HR0_1.out HB.out) ))
        (case side4 => exact HC0_1.out)
        (case side5 => repeat (first | exact (Kd.C_below HR2_0.out HB.out) ))
        (case side6 => exact HC2_0.out)
        (case side7 => repeat (first | exact (Kd.C_below HR2_1.out HB.out) ))
        (case side8 => exact HC2_1.out)
        rintro e w26 ⟨rfl, hb⟩
        refine ⟨_, rfl, ?_⟩
        have n0_ := Aside0.mk (blk_below BK248.out hb)
        have n1_ := Aside0.mk (blk_below BK249.out hb)
        have n2_ := Aside0.mk (below_step HB.out hb)
        clear BK248
        clear BK249
        clear HB
        have BK248 := n0_
        have BK249 := n1_
        have HB := n2_
        clear n0_ n1_ n2_
        (try clear hb)
        (try clear hb2)
        (try clear hk)
        (try clear hi)
        refine hK.out _ _ ⟨(blk_cell BK248.out 0).trans rfl, (blk_cell BK248.out 1).trans rfl, (blk_cell BK249.out 0).trans rfl, (blk_cell BK249.out 1).trans rfl⟩ (fun hHeld => ?_)
        clear hK K
        refine norm_ (a' := ?_) ?_ ?_
        rotate_left
        · show Act.put _ (some 19) _ = _
          simp only [zs]
          rfl
        refine one_ (i := 7) (N := some 23) #[true, true, true, true, true, true, true, true, false, false, false, false, false] rfl rfl (one_of HT_.out (by kernel_rfl)) (by decide) (fun K hK => ?_)
        refine goes_ Tryd.func10 (by kernel_rfl) rfl #[.agg #[.slice A0_0 l0_0.length c0_0, .slice A0_1 l0_1.length c0_1], .string a1, .agg #[.slice A2_0 l2_0.length c2_0, .slice A2_1 l2_1.length c2_1]] (by rfl) rfl rfl (by (try simp only [List.map_toArray, List.map_cons, List.map_nil]); first | done | rfl | (simp only [List.length_drop, List.length_take]; rfl)) ?_
        with_reducible refine (ecdysisref20_Tree.calls kj3 _ _ l0_0 _ _ l0_1 a1 _ _ l2_0 _ _ l2_1 t254 _ ?sideT ?side1 ?side2 ?side3 ?side4 ?side5 ?side6 ?side7 ?side8 A22.out).mono ?_
        case sideT => exact Tabs.below HU8.out HB.out
        (case side1 => repeat (first | exact (Kd.C_below HR0_0.out HB.out) ))
        (case side2 => exact HC0_0.out)
        (case side3 => repeat (first | exact (Kd.C_below HR0_1.out HB.out) ))
        (case side4 => exact HC0_1.out)
        (case side5 => repeat (first | exact (Kd.C_below HR2_0.out HB.out) ))
        (case side6 => exact HC2_0.out)
        (case side7 => repeat (first | exact (Kd.C_below HR2_1.out HB.out) ))
        (case side8 => exact HC2_1.out)
        rintro e w27 ⟨rfl, hb⟩
        refine ⟨_, rfl, ?_⟩
        have n0_ := Aside0.mk (blk_below BK248.out hb)
        have n1_ := Aside0.mk (blk_below BK249.out hb)
        have n2_ := Aside0.mk (below_step HB.out hb)
        clear BK248
        clear BK249
        clear HB
        have BK248 := n0_
        have BK249 := n1_
        have HB := n2_
        clear n0_ n1_ n2_
        (try clear hb)
        (try clear hb2)
        (try clear hk)
        (try clear hi)
        refine hK.out _ _ ⟨(blk_cell BK248.out 0).trans rfl, (blk_cell BK248.out 1).trans rfl, (blk_cell BK249.out 0).trans rfl, (blk_cell BK249.out 1).trans rfl⟩ (fun hHeld => ?_)
        clear hK K
        refine norm_ (a' := ?_) ?_ ?_
        rotate_left
        · show Act.put _ (some 23) _ = _
          simp only [zs]
          rfl
        refine zp 8 (zb 13 511) ?_ rfl rfl HT_ (by kernel_rfl) (fun _ _ _ h => h) rfl ?_ ?_ ?_ ?_; rotate_left; (intro w'; go_simp; with_reducible rfl); rotate_left; (simp only [zs]; rfl)
        refine zp 9 (zb 13 1023) ?_ rfl rfl HT_ (by kernel_rfl) (fun _ _ _ h => h) rfl ?_ ?_ ?_ ?_; rotate_left; (intro w'; go_simp; with_reducible rfl); rotate_left; (simp only [zs]; rfl)
        refine one_ (i := 10) (N := some 26) #[true, true, true, true, true, true, true, true, true, true, true, false, false] rfl rfl (one_of HT_.out (by kernel_rfl)) (by decide) (fun K hK => ?_)
        refine goes_ Tryd.func8 (by kernel_rfl) rfl #[] (by rfl) rfl rfl (by (try simp only [List.map_toArray, List.map_cons, List.map_nil]); first | done | rfl | (simp only [List.length_drop, List.length_take]; rfl)) ?_
        with_reducible refine (ecdysislaw20_live.calls kj3  t255 _ ?sideT A24.out).mono ?_
        case sideT => exact Tabs.below HU8.out HB.out
        rintro e w28 ⟨rfl, hb⟩
        refine ⟨_, rfl, ?_⟩
        have n0_ := Aside0.mk (blk_below BK248.out hb)
        have n1_ := Aside0.mk (blk_below BK249.out hb)
        have n2_ := Aside0.mk (below_step HB.out hb)
        clear BK248
        clear BK249
        clear HB
        have BK248 := n0_
        have BK249 := n1_
        have HB := n2_
        clear n0_ n1_ n2_
        (try clear hb)
        (try clear hb2)
        (try clear hk)
        (try clear hi)
        refine hK.out _ _ ⟨(blk_cell BK248.out 0).trans rfl, (blk_cell BK248.out 1).trans rfl, (blk_cell BK249.out 0).trans rfl, (blk_cell BK249.out 1).trans rfl⟩ (fun hHeld => ?_)
        clear hK K
        refine norm_ (a' := ?_) ?_ ?_
        rotate_left
        · show Act.put _ (some 26) _ = _
          simp only [zs]
          rfl
        refine zp 11 (zb 13 4095) ?_ rfl rfl HT_ (by kernel_rfl) (fun _ _ _ h => h) rfl ?_ ?_ ?_ ?_; rotate_left; (intro w'; go_simp; with_reducible rfl); rotate_left; (simp only [zs]; rfl)
        refine zp 12 (zb 13 8191) ?_ rfl rfl HT_ (by kernel_rfl) (fun _ _ _ h => h) rfl ?_ ?_ ?_ ?_; rotate_left; (intro w'; go_simp; with_reducible rfl); rotate_left; (simp only [zs]; rfl)
        refine done_ (done_of HT_.out (by kernel_rfl)) ?_
        try go_wp2
        go_ret
        exact ⟨by first | rfl , by exact HB.out⟩
      · rw [if_neg c23] at H
        have c23b0 : (t253 == t254) = false := by simpa using c23
        (try (have c23b1 : decide (t253 = t254) = false := by simpa using c23))
        (try (have c23b2 : (t253 == t254) = false := by simpa using c23))
        (try (have c23b3 : ¬ (t253 = t254) := by simpa using c23))
        clear c23
        obtain rfl := Option.some.inj H
        try go_wp2
        have n0_ := Aside0.mk (blk_drew BK248.out)
        have n1_ := Aside0.mk (blk_drew BK249.out)
        have n2_ := Aside0.mk (below_drew1 HB.out)
        clear BK248
        clear BK249
        clear HB
        have BK248 := n0_
        have BK249 := n1_
        have HB := n2_
        clear n0_ n1_ n2_
        refine start_ (n := 13) (S := fun w' => w'.cell? ⟨gb248, 0, none⟩ = some (.slice A0_0 l0_0.length c0_0) ∧ w'.cell? ⟨gb248, 1, none⟩ = some (.slice A0_1 l0_1.length c0_1) ∧ w'.cell? ⟨gb249, 0, none⟩ = some (.slice A2_0 l2_0.length c2_0) ∧ w'.cell? ⟨gb249, 1, none⟩ = some (.slice A2_1 l2_1.length c2_1)) (ds := []) #[false, false, false, false, false, false, false, false, false, false, false, false, false] (by kernel_rfl) rfl rfl ⟨(blk_cell BK248.out 0).trans rfl, (blk_cell BK248.out 1).trans rfl, (blk_cell BK249.out 0).trans rfl, (blk_cell BK249.out 1).trans rfl⟩ (fun hHeld => ?_); refine with_tabW ecdysislaw20_ValidTrees.tab3 ecdysislaw20_ValidTrees.bits3 (fun HT_ HW_ => ?_)
        generalize wc.drew = w29 at BK248 BK249 HB hHeld ⊢
        refine zp 1 (zb 13 2) ?_ rfl rfl HT_ (by kernel_rfl) (fun _ _ _ h => h) rfl ?_ ?_ ?_ ?_; rotate_left; (intro w'; go_simp; with_reducible rfl); rotate_left; (simp only [zs]; rfl)
        refine zp 5 (zb 13 34) ?_ rfl rfl HT_ (by kernel_rfl) (fun _ _ _ h => h) rfl ?_ ?_ ?_ ?_; rotate_left; (intro w'; go_simp; with_reducible rfl); rotate_left; (simp only [zs]; rfl)
        refine zt 0 (zb 13 35) ?_ rfl rfl HT_ HW_ (by kernel_rfl) (fun _ _ _ h => h) rfl ?_ hHeld ?_ ?_ ?_; rotate_left; (rintro w' ⟨s0, s1, s2, s3⟩; go_simp; with_reducible rfl); rotate_left; (simp only [zs]; rfl)
        refine zt 2 (zb 13 39) ?_ rfl rfl HT_ HW_ (by kernel_rfl) (fun _ _ _ h => h) rfl ?_ hHeld ?_ ?_ ?_; rotate_left; (rintro w' ⟨s0, s1, s2, s3⟩; go_simp; with_reducible rfl); rotate_left; (simp only [zs]; rfl)
        refine zt 4 (zb 13 55) ?_ rfl rfl HT_ HW_ (by kernel_rfl) (fun _ _ _ h => h) rfl ?_ hHeld ?_ ?_ ?_; rotate_left; (rintro w' ⟨s0, s1, s2, s3⟩; go_simp; with_reducible rfl); rotate_left; (simp only [zs]; rfl)
        refine zt 6 (zb 13 119) ?_ rfl rfl HT_ HW_ (by kernel_rfl) (fun _ _ _ h => h) rfl ?_ hHeld ?_ ?_ ?_; rotate_left; (rintro w' ⟨s0, s1, s2, s3⟩; go_simp; with_reducible rfl); rotate_left; (simp only [zs]; rfl)
        refine one_ (i := 3) (N := some 19) #[true, true, true, true, true, true, true, false, false, false, false, false, false] rfl rfl (one_of HT_.out (by kernel_rfl)) (by decide) (fun K hK => ?_)
        refine goes_ Tryd.func9 (by kernel_rfl) rfl #[.agg #[.slice A0_0 l0_0.length c0_0, .slice A0_1 l0_1.length c0_1], .string a1, .agg #[.slice A2_0 l2_0.length c2_0, .slice A2_1 l2_1.length c2_1]] (by rfl) rfl rfl (by (try simp only [List.map_toArray, List.map_cons, List.map_nil]); first | done | rfl | (simp only [List.length_drop, List.length_take]; rfl)) ?_
        with_reducible refine (valid_Tree.calls kj3 _ _ l0_0 _ _ l0_1 a1 _ _ l2_0 _ _ l2_1 t253 _ ?sideT ?side1 ?side2 ?side3 ?side4 ?side5 ?side6 ?side7 ?side8 A21.out).mono ?_
        case sideT => exact Tabs.below HU8.out HB.out
        (case side1 => repeat (first | exact (Kd.C_below HR0_0.out HB.out) ))
        (case side2 => exact HC0_0.out)
        (case side3 => repeat (first | exact (Kd.C_below HR0_1.out HB.out) ))
        (case side4 => exact HC0_1.out)
        (case side5 => repeat (first | exact (Kd.C_below HR2_0.out HB.out) ))
        (case side6 => exact HC2_0.out)
        (case side7 => repeat (first | exact (Kd.C_below HR2_1.out HB.out) ))
        (case side8 => exact HC2_1.out)
        rintro e w30 ⟨rfl, hb⟩
        refine ⟨_, rfl, ?_⟩
        have n0_ := Aside0.mk (blk_below BK248.out hb)
        have n1_ := Aside0.mk (blk_below BK249.out hb)
        have n2_ := Aside0.mk (below_step HB.out hb)
        clear BK248
        clear BK249
        clear HB
        have BK248 := n0_
        have BK249 := n1_
        have HB := n2_
        clear n0_ n1_ n2_
        (try clear hb)
        (try clear hb2)
        (try clear hk)
        (try clear hi)
        refine hK.out _ _ ⟨(blk_cell BK248.out 0).trans rfl, (blk_cell BK248.out 1).trans rfl, (blk_cell BK249.out 0).trans rfl, (blk_cell BK249.out 1).trans rfl⟩ (fun hHeld => ?_)
        clear hK K
        refine norm_ (a' := ?_) ?_ ?_
        rotate_left
        · show Act.put _ (some 19) _ = _
          simp only [zs]
          rfl
        refine one_ (i := 7) (N := some 23) #[true, true, true, true, true, true, true, true, false, false, false, false, false] rfl rfl (one_of HT_.out (by kernel_rfl)) (by decide) (fun K hK => ?_)
        refine goes_ Tryd.func10 (by kernel_rfl) rfl #[.agg #[.slice A0_0 l0_0.length c0_0, .slice A0_1 l0_1.length c0_1], .string a1, .agg #[.slice A2_0 l2_0.length c2_0, .slice A2_1 l2_1.length c2_1]] (by rfl) rfl rfl (by (try simp only [List.map_toArray, List.map_cons, List.map_nil]); first | done | rfl | (simp only [List.length_drop, List.length_take]; rfl)) ?_
        with_reducible refine (ecdysisref20_Tree.calls kj3 _ _ l0_0 _ _ l0_1 a1 _ _ l2_0 _ _ l2_1 t254 _ ?sideT ?side1 ?side2 ?side3 ?side4 ?side5 ?side6 ?side7 ?side8 A22.out).mono ?_
        case sideT => exact Tabs.below HU8.out HB.out
        (case side1 => repeat (first | exact (Kd.C_below HR0_0.out HB.out) ))
        (case side2 => exact HC0_0.out)
        (case side3 => repeat (first | exact (Kd.C_below HR0_1.out HB.out) ))
        (case side4 => exact HC0_1.out)
        (case side5 => repeat (first | exact (Kd.C_below HR2_0.out HB.out) ))
        (case side6 => exact HC2_0.out)
        (case side7 => repeat (first | exact (Kd.C_below HR2_1.out HB.out) ))
        (case side8 => exact HC2_1.out)
        rintro e w31 ⟨rfl, hb⟩
        refine ⟨_, rfl, ?_⟩
        have n0_ := Aside0.mk (blk_below BK248.out hb)
        have n1_ := Aside0.mk (blk_below BK249.out hb)
        have n2_ := Aside0.mk (below_step HB.out hb)
        clear BK248
        clear BK249
        clear HB
        have BK248 := n0_
        have BK249 := n1_
        have HB := n2_
        clear n0_ n1_ n2_
        (try clear hb)
        (try clear hb2)
        (try clear hk)
        (try clear hi)
        refine hK.out _ _ ⟨(blk_cell BK248.out 0).trans rfl, (blk_cell BK248.out 1).trans rfl, (blk_cell BK249.out 0).trans rfl, (blk_cell BK249.out 1).trans rfl⟩ (fun hHeld => ?_)
        clear hK K
        refine norm_ (a' := ?_) ?_ ?_
        rotate_left
        · show Act.put _ (some 23) _ = _
          simp only [zs]
          rfl
        refine zp 8 (zb 13 511) ?_ rfl rfl HT_ (by kernel_rfl) (fun _ _ _ h => h) rfl ?_ ?_ ?_ ?_; rotate_left; (intro w'; go_simp; with_reducible rfl); rotate_left; (simp only [zs]; rfl)
        refine zp 9 (zb 13 1023) ?_ rfl rfl HT_ (by kernel_rfl) (fun _ _ _ h => h) rfl ?_ ?_ ?_ ?_; rotate_left; (intro w'; go_simp; with_reducible rfl); rotate_left; (simp only [zs]; rfl)
        refine zn 10 (zb 13 2047) rfl rfl HT_ (by kernel_rfl) (fun _ _ _ h => h) rfl ?_ ?_ ?_; rotate_left; (simp only [zs]; rfl)
        refine zp 11 (zb 13 4095) ?_ rfl rfl HT_ (by kernel_rfl) (fun _ _ _ h => h) rfl ?_ ?_ ?_ ?_; rotate_left; (intro w'; go_simp; with_reducible rfl); rotate_left; (simp only [zs]; rfl)
        refine zp 12 (zb 13 8191) ?_ rfl rfl HT_ (by kernel_rfl) (fun _ _ _ h => h) rfl ?_ ?_ ?_ ?_; rotate_left; (intro w'; go_simp; with_reducible rfl); rotate_left; (simp only [zs]; rfl)
        refine done_ (done_of HT_.out (by kernel_rfl)) ?_
        try go_wp2
        go_ret
        exact ⟨by first | rfl , by exact HB.out⟩
end Go.Proofs.YtbpnfpckoapdbaaDoor.PV20
end
section
namespace Go.Proofs.YtbpnfpckoapdbaaDoor.PV20
open Go.RowKit Go.Proofs.YtbpnfpckoapdbaaDoor.M Go.Proofs.YtbpnfpckoapdbaaDoor.KD Go.Proofs.YtbpnfpckoapdbaaDoor Go.Proofs.YtbpnfpckoapdbaaDoorW.PrintWords Go.Proofs.YtbpnfpckoapdbaaDoorW.PrintLast Go.Proofs.YtbpnfpckoapdbaaDoorW.PrintMore
attribute [local go_sem] max2_int min2_int max_two min_two max_three min_three max_four min_four   -- for this text's walks alone
set_option linter.unusedVariables false
set_option linter.unusedSimpArgs false
end Go.Proofs.YtbpnfpckoapdbaaDoor.PV20
end
section
namespace Go.Proofs.YtbpnfpckoapdbaaDoor.PV20
open Go.RowKit Go.Proofs.YtbpnfpckoapdbaaDoor.M Go.Proofs.YtbpnfpckoapdbaaDoor.KD Go.Proofs.YtbpnfpckoapdbaaDoor Go.Proofs.YtbpnfpckoapdbaaDoorW.PrintWords Go.Proofs.YtbpnfpckoapdbaaDoorW.PrintLast Go.Proofs.YtbpnfpckoapdbaaDoorW.PrintMore
attribute [local go_sem] max2_int min2_int max_two min_two max_three min_three max_four min_four   -- for this text's walks alone
set_option linter.unusedVariables false
set_option linter.unusedSimpArgs false
end Go.Proofs.YtbpnfpckoapdbaaDoor.PV20
end
section
namespace Go.Proofs.YtbpnfpckoapdbaaDoor.PV20
open Go.RowKit Go.Proofs.YtbpnfpckoapdbaaDoor.M Go.Proofs.YtbpnfpckoapdbaaDoor.KD Go.Proofs.YtbpnfpckoapdbaaDoor Go.Proofs.YtbpnfpckoapdbaaDoorW.PrintWords Go.Proofs.YtbpnfpckoapdbaaDoorW.PrintLast Go.Proofs.YtbpnfpckoapdbaaDoorW.PrintMore
attribute [local go_sem] max2_int min2_int max_two min_two max_three min_three max_four min_four   -- for this text's walks alone
set_option linter.unusedVariables false
set_option linter.unusedSimpArgs false
end Go.Proofs.YtbpnfpckoapdbaaDoor.PV20
end
section
namespace Go.Proofs.YtbpnfpckoapdbaaDoor.PV20
open Go.RowKit Go.Proofs.YtbpnfpckoapdbaaDoor.M Go.Proofs.YtbpnfpckoapdbaaDoor.KD Go.Proofs.YtbpnfpckoapdbaaDoor Go.Proofs.YtbpnfpckoapdbaaDoorW.PrintWords Go.Proofs.YtbpnfpckoapdbaaDoorW.PrintLast Go.Proofs.YtbpnfpckoapdbaaDoorW.PrintMore
attribute [local go_sem] max2_int min2_int max_two min_two max_three min_three max_four min_four   -- for this text's walks alone
set_option linter.unusedVariables false
set_option linter.unusedSimpArgs false
end Go.Proofs.YtbpnfpckoapdbaaDoor.PV20
end
section
namespace Go.Proofs.YtbpnfpckoapdbaaDoor.Ev
open Go.RowKit Go.Proofs.YtbpnfpckoapdbaaDoorW.PrintWords
set_option linter.unusedVariables false
/-- With enough rounds it tells r. -/
def E {α : Type} (g : Nat → Option α) (r : α) : Prop := ∃ k0, ∀ k, k0 ≤ k → g k = some r
theorem E.const {α : Type} {r : α} : E (fun _ => some r) r := ⟨0, fun _ _ => rfl⟩
theorem E.of {α : Type} {g : Nat → Option α} {r : α} (h : ∀ k, g k = some r) : E g r := ⟨0, fun k _ => h k⟩
theorem E.congr {α : Type} {g h : Nat → Option α} {r : α} (hh : E h r) (e : ∀ k, g k = h k) : E g r := by
 obtain ⟨k0, hk⟩ := hh
 exact ⟨k0, fun k hk0 => by rw [e]; exact hk k hk0⟩
theorem E.succ {α : Type} {g h : Nat → Option α} {r : α} (hh : E h r) (e : ∀ k, g (k + 1) = h k) : E g r := by
 obtain ⟨k0, hk⟩ := hh
 refine ⟨k0 + 1, fun k hk0 => ?_⟩
 obtain ⟨m, rfl⟩ : ∃ m, k = m + 1 := ⟨k - 1, by omega⟩
 rw [e]
 exact hk m (by omega)
theorem E.step {α : Type} {g : Nat → Option α} {r : α} (h : E (fun k => g (k + 1)) r) : E g r := E.succ h fun _ => rfl
theorem E.bind {α β : Type} {f : Nat → Option α} {a : α} {g : Nat → α → Option β} {r : β} (hf : E f a) (hg : E (fun k => g k a) r) : E (fun k => (f k).bind (g k)) r := by
 obtain ⟨k0, h0⟩ := hf
 obtain ⟨k1, h1⟩ := hg
 refine ⟨max k0 k1, fun k hk => ?_⟩
 show (f k).bind (g k) = some r
 rw [h0 k (Nat.le_trans (Nat.le_max_left _ _) hk)]
 exact h1 k (Nat.le_trans (Nat.le_max_right _ _) hk)
theorem E.bind0 {α β : Type} {f : Option α} {a : α} {g : Nat → α → Option β} {r : β} (hf : f = some a) (hg : E (fun k => g k a) r) : E (fun k => f.bind (g k)) r := E.bind (f := fun _ => f) (E.of fun _ => hf) hg
theorem E.ite {α : Type} {c : Prop} [Decidable c] {g h : Nat → Option α} {r : α} (hg : c → E g r) (hh : ¬ c → E h r) : E (fun k => if c then g k else h k) r := by
 by_cases hc : c
 · exact (hg hc).congr fun k => if_pos hc
 · exact (hh hc).congr fun k => if_neg hc
theorem E.yes {α : Type} {c : Prop} [Decidable c] {g h : Nat → Option α} {r : α} (hc : c) (hg : E g r) : E (fun k => if c then g k else h k) r := hg.congr fun k => if_pos hc
theorem E.no {α : Type} {c : Prop} [Decidable c] {g h : Nat → Option α} {r : α} (hc : ¬ c) (hh : E h r) : E (fun k => if c then g k else h k) r := hh.congr fun k => if_neg hc
theorem E.get {α : Type} {g : Nat → Option α} {r : α} (h : E g r) : ∃ k, g k = some r := by
 obtain ⟨k, hk⟩ := h
 exact ⟨k, hk k (Nat.le_refl _)⟩
/-- From the end on, step by step. -/
theorem up {C : Nat → Prop} (n : Nat) (hend : ∀ i, n ≤ i → C i) (hstep : ∀ i, i < n → C (i + 1) → C i) (i : Nat) : C i := by
 obtain ⟨d, hd⟩ : ∃ d, d = n - i := ⟨_, rfl⟩
 induction d generalizing i with
 | zero => exact hend i (by omega)
 | succ d ih => exact hstep i (by omega) (ih (i + 1) (by omega))
theorem drop_getD {α : Type} {xs : List α} {i : Nat} (z : α) (h : i < xs.length) : xs.drop i = xs.getD i z :: xs.drop (i + 1) := by
 rw [List.drop_eq_getElem_cons h, List.getD_eq_getElem?_getD, List.getElem?_eq_getElem h]
 rfl
theorem w1 {i n : Nat} (h : i < n) (hn : n ≤ 9000000000000000000) : wrap64 ((i : Int) + 1) = ((i + 1 : Nat) : Int) := by unfold wrap64; omega
end Go.Proofs.YtbpnfpckoapdbaaDoor.Ev
end
section
namespace Go.Proofs.YtbpnfpckoapdbaaDoor.Open
open Go.RowKit Go.ChangeShapes Go.WideShapes Go.Deep Go.Proofs.YtbpnfpckoapdbaaDoorW.PrintWords
set_option linter.unusedVariables false
/-- What can be read at type t is of kind d, and Ok. -/
def Opens {α : Type} (P : Program) (d : Kd α) (Ok : α → Prop) (t : TypeId) : Prop :=
 ∀ (H : Type) (enc : TypeId × Value → H) (w : World) (base : Nat) (spare : Nat → Bool) (held : Bool) (fuel : Nat) (cs : List Value) (x : DataW H × List MemPlace), DataW.trod enc P w base spare held fuel t cs = some x → ∃ y, d.K w y cs ∧ Ok y
theorem opens_int {P : Program} {t : TypeId} {k : IntKind} (hu : P.underlying t = some (.int k)) : Opens P (Kd.int k) (fun n => (Lit.int k n).wf = true) t := by
 intro H enc w base spare held fuel cs x h
 obtain ⟨n, rfl, _, hw⟩ := DataW.trod_int hu h
 exact ⟨n, rfl, hw⟩
theorem opens_bool {P : Program} {t : TypeId} (hu : P.underlying t = some .bool) : Opens P Kd.bool (fun _ => True) t := by
 intro H enc w base spare held fuel cs x h
 obtain ⟨b, rfl, _⟩ := DataW.trod_bool hu h
 exact ⟨b, rfl, trivial⟩
theorem list_of {α : Type} (p : Nat → α → Prop) : ∀ n, (∀ i, i < n → ∃ y, p i y) → ∃ l : List α, l.length = n ∧ ∀ i y, l[i]? = some y → p i y
 | 0, _ => ⟨[], rfl, fun i y h => by simp at h⟩
 | n + 1, h => by
  obtain ⟨l, hl, hp⟩ := list_of p n (fun i hi => h i (by omega))
  obtain ⟨y, hy⟩ := h n (by omega)
  refine ⟨l ++ [y], by rw [List.length_append, hl, List.length_singleton], fun i z hz => ?_⟩
  rcases Nat.lt_or_ge i l.length with hi | hi
  · rw [List.getElem?_append_left hi] at hz
    exact hp i z hz
  · rw [List.getElem?_append_right hi] at hz
    have hi2 : i = n := by
     have := (List.getElem?_eq_some_iff.1 hz).1
     rw [List.length_singleton] at this
     omega
    subst hi2
    rw [hl, Nat.sub_self] at hz
    have : y = z := by simpa using hz
    exact this ▸ hy
/-- Fields from a place on. -/
def Fields {β : Type} (P : Program) (d : Kd β) (Ok : β → Prop) (off : Nat) (fs : List Field) : Prop :=
 ∀ (H : Type) (enc : TypeId × Value → H) (w : World) (base : Nat) (spare : Nat → Bool) (held : Bool) (n : Nat) (cs : List Value), cs.length = off + d.sz →
  (∀ f ∈ fs, ∃ x, DataW.trod enc P w base spare held n f.type ((cs.drop f.offset).take (P.cellsOf f.type)) = some x) → ∃ y, d.K w y (cs.drop off) ∧ Ok y
end Go.Proofs.YtbpnfpckoapdbaaDoor.Open
end
section
namespace Go.Proofs.YtbpnfpckoapdbaaDoor.Open
open Go.RowKit Go.ChangeShapes Go.WideShapes Go.Deep Go.Proofs.YtbpnfpckoapdbaaDoorW.PrintWords
set_option linter.unusedVariables false
def Light {H : Type} (P : Program) (t : TypeId) (x : DataW H) : Prop := ∀ n ∈ DataW.weights P t x, n ≤ reachBytes
def OpensW {α : Type} (fuel : Nat) (P : Program) (d : Kd α) (Ok : α → Prop) (t : TypeId) : Prop :=
 ∀ (H : Type) (enc : TypeId × Value → H) (w : World) (base : Nat) (spare : Nat → Bool) (held : Bool) (cs : List Value) (x : DataW H × List MemPlace), DataW.trod enc P w base spare held fuel t cs = some x → Light P t x.1 → ∃ y, d.K w y cs ∧ Ok y
theorem Opens.toW {α : Type} {P : Program} {d : Kd α} {Ok : α → Prop} {t : TypeId} (h : Opens P d Ok t) (fuel : Nat) : OpensW fuel P d Ok t := fun H enc w base spare held cs x hx _ => h H enc w base spare held fuel cs x hx
theorem opensW_string {P : Program} {t : TypeId} {fuel : Nat} (hu : P.underlying t = some .string) : OpensW fuel P Kd.string (fun s => s.size ≤ reachBytes) t := by
 intro H enc w base spare held cs x h hl
 obtain ⟨s, rfl, hx, hs⟩ := DataW.trod_string hu h
 refine ⟨s, rfl, ?_⟩
 have := hl s.size (by rw [hx]; simp [DataW.weights])
 exact this
theorem mem_weightsAll {H : Type} {P : Program} {e : TypeId} {n : Nat} : ∀ {l : List (DataW H)} {d : DataW H}, d ∈ l → n ∈ DataW.weights P e d → n ∈ DataW.weightsAll P e l
 | [], d, h, _ => by cases h
 | a :: l, d, h, hn => by
  rcases List.mem_cons.1 h with rfl | h
  · simp [DataW.weightsAll, hn]
  · simp [DataW.weightsAll, mem_weightsAll h hn]
theorem opensW_slice {α : Type} {P : Program} {d : Kd α} {Ok : α → Prop} {t e : TypeId} {fuel : Nat} {B : Nat} (hu : P.underlying t = some (.slice e)) (hc : P.cellsOf e = d.sz) (hB : P.bytesOf e = B) (he : ∀ n, fuel = n + 1 → OpensW n P d Ok e) : OpensW fuel P (Kd.slice e d) (fun l => l.length * B ≤ reachBytes ∧ ∀ y ∈ l, Ok y) t := by
 intro H enc w base spare held cs x h hw
 rcases DataW.trod_slice hu h with ⟨rfl, _⟩ | ⟨a, len, cap, elems, rest, n, hf, rfl, rfl, hb, hl, hm, hlen, hi, _, _⟩
 · exact ⟨[], ⟨none, 0, rfl, Nat.le_refl _, Kd.C_nil d w⟩, by simp⟩
 · have hw1 : ∀ k ∈ (elems.length + rest.length) * P.bytesOf e :: (DataW.weightsAll P e (elems.map (·.1)) ++ DataW.weightsAll P e (rest.map (·.1))), k ≤ reachBytes := by
     intro k hk
     refine hw k ?_
     simp only [DataW.weights, hu, List.length_map]
     exact hk
   obtain ⟨l, hl1, hl2⟩ := list_of (fun i y => ∃ c, c.length = d.sz ∧ d.K w y c ∧ (∀ j u, c[j]? = some u → w.cell? (a.add (i * d.sz + j)) = some u) ∧ Ok y) len (fun i hil => by
     have hi1 := hi i hil
     rw [List.getElem?_eq_getElem (by omega : i < elems.length)] at hi1
     obtain ⟨cs', h1, h2⟩ := Option.bind_eq_some_iff.1 hi1
     obtain ⟨y, hy, ho⟩ := he n hf H enc w base spare held cs' _ h2 (fun k hk => hw1 k (by
      refine List.mem_cons_of_mem _ (List.mem_append_left _ (mem_weightsAll (List.mem_map.2 ⟨_, List.getElem_mem _, rfl⟩) hk))))
     refine ⟨y, cs', d.K_len hy, hy, fun j u hj => ?_, ho⟩
     obtain ⟨_, hcl, hat⟩ := World.cells?_some h1
     have hjl : j < P.cellsOf e := by
      have := (List.getElem?_eq_some_iff.1 hj).1
      rw [hcl] at this
      exact this
     have h3 := hat j hjl
     rw [Go.Deep.add_add, hc] at h3
     rw [h3, hj])
   refine ⟨l, ⟨some a, cap, by rw [hl1], by omega, rfl, by simp only [maxLen] at hm; omega, fun _ => ⟨a, rfl, fun j p hj => ?_⟩⟩, ?_, fun y hy => ?_⟩
   · obtain ⟨c, h1, h2, h3, _⟩ := hl2 j p hj
     exact ⟨c, h1, h2, h3⟩
   · have h1 := hw1 _ (List.mem_cons_self)
     rw [hB] at h1
     have h2 : l.length * B ≤ (elems.length + rest.length) * B := Nat.mul_le_mul_right _ (by omega)
     exact Nat.le_trans h2 h1
   · obtain ⟨i, hi⟩ := List.getElem?_of_mem hy
     obtain ⟨_, _, _, _, h4⟩ := hl2 i y hi
     exact h4
/-- Fields from a place on. -/
def FieldsW {β : Type} (fuel : Nat) (P : Program) (d : Kd β) (Ok : β → Prop) (off : Nat) (fs : List Field) : Prop :=
 ∀ (H : Type) (enc : TypeId × Value → H) (w : World) (base : Nat) (spare : Nat → Bool) (held : Bool) (cs : List Value), cs.length = off + d.sz →
  (∀ f ∈ fs, ∃ x, DataW.trod enc P w base spare held fuel f.type ((cs.drop f.offset).take (P.cellsOf f.type)) = some x ∧ Light P f.type x.1) → ∃ y, d.K w y (cs.drop off) ∧ Ok y
theorem fieldsW_last {α : Type} {P : Program} {d : Kd α} {Ok : α → Prop} {off n : Nat} {f : Field} (ho : f.offset = off) (hc : P.cellsOf f.type = d.sz) (h : OpensW n P d Ok f.type) : FieldsW n P d Ok off [f] := by
 intro H enc w base spare held cs hl hf
 obtain ⟨x, hx, hg⟩ := hf f (by simp)
 obtain ⟨y, hy, hk⟩ := h H enc w base spare held _ x hx hg
 rw [ho, hc, List.take_of_length_le (by rw [List.length_drop]; omega)] at hy
 exact ⟨y, hy, hk⟩
theorem fieldsW_cons {α β : Type} {P : Program} {d : Kd α} {d' : Kd β} {Ok : α → Prop} {Ok' : β → Prop} {off off' n : Nat} {f : Field} {fs : List Field} (ho : f.offset = off) (hc : P.cellsOf f.type = d.sz) (h : OpensW n P d Ok f.type) (hoff : off + d.sz = off') (h' : FieldsW n P d' Ok' off' fs) : FieldsW n P (Kd.pair d d') (fun x => Ok x.1 ∧ Ok' x.2) off (f :: fs) := by
 intro H enc w base spare held cs hl hf
 obtain ⟨x, hx, hg⟩ := hf f (by simp)
 obtain ⟨y, hy, hk⟩ := h H enc w base spare held _ x hx hg
 rw [ho, hc] at hy
 have hl' : cs.length = off + (d.sz + d'.sz) := hl
 obtain ⟨y', hy', hk'⟩ := h' H enc w base spare held cs (by omega) (fun g hg => hf g (by simp [hg]))
 refine ⟨(y, y'), ⟨(cs.drop off).take d.sz, cs.drop off', ?_, hy, hy'⟩, hk, hk'⟩
 rw [← hoff, ← List.drop_drop, List.take_append_drop]
theorem opensW_struct {β γ : Type} {P : Program} {d : Kd β} {Ok : β → Prop} {t : TypeId} {fs : Array Field} {fuel : Nat} (mk : β → γ) (proj : γ → β) (hmk : ∀ y, proj (mk y) = y) (hu : P.underlying t = some (.struct fs)) (hc : P.cellsOf t = d.sz) (h : ∀ n, fuel = n + 1 → FieldsW n P d Ok 0 fs.toList) : OpensW fuel P (Kd.iso d proj) (fun x => Ok (proj x)) t := by
 intro H enc w base spare held cs x ht hw
 obtain ⟨xs, n, hn, hx, hl, hxs, hf⟩ := DataW.trod_struct hu ht
 obtain ⟨y, hy, hk⟩ := h n hn H enc w base spare held cs (by omega) (fun f hfm => by
  obtain ⟨i, hi⟩ := List.getElem?_of_mem hfm
  have hi' : fs[i]? = some f := by rw [← Array.getElem?_toList]; exact hi
  have h1 := hf i f hi'
  have hlt : i < xs.length := by rw [hxs]; exact (Array.getElem?_eq_some_iff.1 hi').1
  refine ⟨xs[i], by rw [h1, List.getElem?_eq_getElem hlt], fun k hk => hw k ?_⟩
  rw [hx]
  simp only [DataW.weights, hu]
  exact DataW.weights_mem_each (j := i) (by rw [List.getElem?_map, hi]; rfl) (by rw [List.getElem?_map, List.getElem?_eq_getElem hlt]; rfl) k hk)
 refine ⟨mk y, ?_, by show Ok (proj (mk y)); rw [hmk]; exact hk⟩
 show d.K w (proj (mk y)) cs
 rw [hmk]
 exact hy
theorem opensW_zero {α : Type} {P : Program} {d : Kd α} {Ok : α → Prop} {t : TypeId} : OpensW 0 P d Ok t := fun H enc w base spare held cs x hx _ => by simp [DataW.trod] at hx
end Go.Proofs.YtbpnfpckoapdbaaDoor.Open
end
section
namespace Go.Proofs.YtbpnfpckoapdbaaDoor.Ops
open Go.RowKit Go.Proofs.YtbpnfpckoapdbaaDoorW.PrintWords Go.Proofs.YtbpnfpckoapdbaaDoor.KD Go.Proofs.YtbpnfpckoapdbaaDoor.Open
set_option linter.unusedVariables false
set_option maxHeartbeats 1000000
abbrev TR := S63
abbrev TV := S40
abbrev TS := S43
abbrev TT := S29
def okRaw (x : TR) : Prop := (Lit.int .i64 x.f0).wf = true ∧ (Lit.int .i64 x.f1).wf = true ∧ (Lit.int .u64 x.f2).wf = true ∧ x.f3.size ≤ reachBytes
def okVal (O : TT → Prop) (x : TV) : Prop := (Lit.int .u64 x.f0).wf = true ∧ x.f1.size ≤ reachBytes ∧ (x.f2.length * 48 ≤ reachBytes ∧ ∀ y ∈ x.f2, O y)
def okSlot (O : TT → Prop) (x : TS) : Prop := (Lit.int .i64 x.f0).wf = true ∧ (x.f1.length * 48 ≤ reachBytes ∧ ∀ y ∈ x.f1, okVal O y)
/-- A tree that is no deeper than so much, and no greater than a machine's. -/
def okTree (O : TT → Prop) (x : TT) : Prop := (x.f0.length * 32 ≤ reachBytes ∧ ∀ y ∈ x.f0, okSlot O y) ∧ (x.f1.length * 40 ≤ reachBytes ∧ ∀ y ∈ x.f1, okRaw y)
def okT : Nat → TT → Prop
 | 0 => fun _ => False
 | n + 1 => okTree (okT n)
theorem opensRaw (n : Nat) : OpensW n Tryd.prog k63 okRaw 63 :=
 opensW_struct (mk := fun y : Int × Int × Int × ByteArray => (⟨y.1, y.2.1, y.2.2.1, y.2.2.2⟩ : TR)) (proj := fun x => (x.f0, x.f1, x.f2, x.f3)) (fun _ => rfl) Tryd.underlying63 (by kernel_rfl) fun n _ =>
  fieldsW_cons rfl (by kernel_rfl) ((opens_int Tryd.underlying3).toW n) rfl (fieldsW_cons rfl (by kernel_rfl) ((opens_int Tryd.underlying3).toW n) rfl (fieldsW_cons rfl (by kernel_rfl) ((opens_int Tryd.underlying37).toW n) rfl (fieldsW_last rfl (by kernel_rfl) (opensW_string Tryd.underlying9))))
theorem cellsT : Tryd.prog.cellsOf 29 = 2 := by kernel_rfl
theorem cellsS : Tryd.prog.cellsOf 43 = 2 := by kernel_rfl
theorem cellsV : Tryd.prog.cellsOf 40 = 3 := by kernel_rfl
section
variable {d : Kd TT} {ok : TT → Prop}
theorem opensV (hd : d.sz = 2) (fuel : Nat) (h : ∀ n, fuel = n + 2 → OpensW n Tryd.prog d ok 29) : OpensW fuel Tryd.prog (g40 d) (okVal ok) 40 := by
 have h1 : Tryd.prog.cellsOf 40 = (Kd.pair (Kd.int .u64) (Kd.pair (Kd.string) (Kd.slice 29 d))).sz := cellsV
 refine opensW_struct (d := Kd.pair (Kd.int .u64) (Kd.pair (Kd.string) (Kd.slice 29 d))) (Ok := fun x : Int × ByteArray × List TT => ((Lit.int .u64 x.1).wf = true) ∧ (x.2.1.size ≤ reachBytes) ∧ (x.2.2.length * 48 ≤ reachBytes ∧ ∀ y ∈ x.2.2, ok y)) (mk := fun y => (⟨y.1, y.2.1, y.2.2⟩ : TV)) (proj := fun x => (x.f0, x.f1, x.f2)) (fun _ => rfl) Tryd.underlying40 h1 fun f e => ?_
 have c0 : Tryd.prog.cellsOf 37 = 1 := by kernel_rfl
 have c1 : Tryd.prog.cellsOf 9 = 1 := by kernel_rfl
 have c2 : Tryd.prog.cellsOf 38 = 1 := by kernel_rfl
 have g0 : OpensW f Tryd.prog (Kd.int .u64) (fun n => (Lit.int .u64 n).wf = true) 37 := (opens_int Tryd.underlying37).toW f
 have g1 : OpensW f Tryd.prog Kd.string (fun x => x.size ≤ reachBytes) 9 := opensW_string Tryd.underlying9
 have b2 : Tryd.prog.bytesOf 29 = 48 := by kernel_rfl
 have g2 : OpensW f Tryd.prog (Kd.slice 29 d) (fun l => l.length * 48 ≤ reachBytes ∧ ∀ y ∈ l, ok y) 38 := opensW_slice Tryd.underlying38 (cellsT.trans hd.symm) b2 fun f1 e1 => h f1 (by omega)
 refine fieldsW_cons (off' := 1) (Ok := fun x : Int => (Lit.int .u64 x).wf = true) (Ok' := fun x : ByteArray × List TT => (x.1.size ≤ reachBytes) ∧ (x.2.length * 48 ≤ reachBytes ∧ ∀ y ∈ x.2, ok y)) ?_ ?_ ?_ ?_ ?_
 · exact rfl
 · exact c0
 · exact g0
 · exact rfl
 refine fieldsW_cons (off' := 2) (Ok := fun x : ByteArray => x.size ≤ reachBytes) (Ok' := fun x : List TT => (x.length * 48 ≤ reachBytes ∧ ∀ y ∈ x, ok y)) ?_ ?_ ?_ ?_ ?_
 · exact rfl
 · exact c1
 · exact g1
 · exact rfl
 refine fieldsW_last ?_ ?_ ?_
 · exact rfl
 · exact c2
 · exact g2
theorem opensS (hd : d.sz = 2) (fuel : Nat) (h : ∀ n, fuel = n + 4 → OpensW n Tryd.prog d ok 29) : OpensW fuel Tryd.prog (g43 d) (okSlot ok) 43 := by
 have h1 : Tryd.prog.cellsOf 43 = (Kd.pair (Kd.int .i64) (Kd.slice 40 (g40 d))).sz := cellsS
 refine opensW_struct (d := Kd.pair (Kd.int .i64) (Kd.slice 40 (g40 d))) (Ok := fun x : Int × List TV => ((Lit.int .i64 x.1).wf = true) ∧ (x.2.length * 48 ≤ reachBytes ∧ ∀ y ∈ x.2, okVal ok y)) (mk := fun y => (⟨y.1, y.2⟩ : TS)) (proj := fun x => (x.f0, x.f1)) (fun _ => rfl) Tryd.underlying43 h1 fun f e => ?_
 have c0 : Tryd.prog.cellsOf 3 = 1 := by kernel_rfl
 have c1 : Tryd.prog.cellsOf 41 = 1 := by kernel_rfl
 have g0 : OpensW f Tryd.prog (Kd.int .i64) (fun n => (Lit.int .i64 n).wf = true) 3 := (opens_int Tryd.underlying3).toW f
 have b1 : Tryd.prog.bytesOf 40 = 48 := by kernel_rfl
 have g1 : OpensW f Tryd.prog (Kd.slice 40 (g40 d)) (fun l => l.length * 48 ≤ reachBytes ∧ ∀ y ∈ l, okVal ok y) 41 := opensW_slice Tryd.underlying41 cellsV b1 fun f1 e1 => opensV hd f1 fun f2 e2 => h f2 (by omega)
 refine fieldsW_cons (off' := 1) (Ok := fun x : Int => (Lit.int .i64 x).wf = true) (Ok' := fun x : List TV => (x.length * 48 ≤ reachBytes ∧ ∀ y ∈ x, okVal ok y)) ?_ ?_ ?_ ?_ ?_
 · exact rfl
 · exact c0
 · exact g0
 · exact rfl
 refine fieldsW_last ?_ ?_ ?_
 · exact rfl
 · exact c1
 · exact g1
theorem opensTof (hd : d.sz = 2) (fuel : Nat) (h : ∀ n, fuel = n + 6 → OpensW n Tryd.prog d ok 29) : OpensW fuel Tryd.prog (F29 d) (okTree ok) 29 := by
 have h1 : Tryd.prog.cellsOf 29 = (Kd.pair (Kd.slice 43 (g43 d)) (Kd.slice 63 k63)).sz := cellsT
 refine opensW_struct (d := Kd.pair (Kd.slice 43 (g43 d)) (Kd.slice 63 k63)) (Ok := fun x : List TS × List TR => (x.1.length * 32 ≤ reachBytes ∧ ∀ y ∈ x.1, okSlot ok y) ∧ (x.2.length * 40 ≤ reachBytes ∧ ∀ y ∈ x.2, okRaw y)) (mk := fun y => (⟨y.1, y.2⟩ : TT)) (proj := fun x => (x.f0, x.f1)) (fun _ => rfl) Tryd.underlying29 h1 fun f e => ?_
 have c0 : Tryd.prog.cellsOf 26 = 1 := by kernel_rfl
 have c1 : Tryd.prog.cellsOf 27 = 1 := by kernel_rfl
 have b0 : Tryd.prog.bytesOf 43 = 32 := by kernel_rfl
 have g0 : OpensW f Tryd.prog (Kd.slice 43 (g43 d)) (fun l => l.length * 32 ≤ reachBytes ∧ ∀ y ∈ l, okSlot ok y) 26 := opensW_slice Tryd.underlying26 cellsS b0 fun f1 e1 => opensS hd f1 fun f2 e2 => h f2 (by omega)
 have b1 : Tryd.prog.bytesOf 63 = 40 := by kernel_rfl
 have g1 : OpensW f Tryd.prog (Kd.slice 63 k63) (fun l => l.length * 40 ≤ reachBytes ∧ ∀ y ∈ l, okRaw y) 27 := opensW_slice Tryd.underlying27 (by kernel_rfl) b1 fun f1 e1 => opensRaw f1
 refine fieldsW_cons (off' := 1) (Ok := fun x : List TS => (x.length * 32 ≤ reachBytes ∧ ∀ y ∈ x, okSlot ok y)) (Ok' := fun x : List TR => (x.length * 40 ≤ reachBytes ∧ ∀ y ∈ x, okRaw y)) ?_ ?_ ?_ ?_ ?_
 · exact rfl
 · exact c0
 · exact g0
 · exact rfl
 refine fieldsW_last ?_ ?_ ?_
 · exact rfl
 · exact c1
 · exact g1
end
theorem OpensW.lift {α : Type} {fuel : Nat} {P : Program} {d d' : Kd α} {Ok : α → Prop} {t : TypeId} (h : OpensW fuel P d Ok t) (hk : ∀ w x cs, d.K w x cs → d'.K w x cs) : OpensW fuel P d' Ok t := fun H enc w base spare held cs x hx hl => by
 obtain ⟨y, h1, h2⟩ := h H enc w base spare held cs x hx hl
 exact ⟨y, hk _ _ _ h1, h2⟩
theorem szTree : k29.sz = 2 := rfl
theorem opensT : ∀ (n fuel : Nat), fuel ≤ n → OpensW fuel Tryd.prog k29 (okT n) 29
 | 0, fuel, h => by
  obtain rfl : fuel = 0 := by omega
  exact opensW_zero
 | n + 1, fuel, h => OpensW.lift (opensTof (d := k29) (ok := okT n) szTree fuel fun m hm => opensT n m (by omega)) fun _ _ _ hk => fo29K hk
end Go.Proofs.YtbpnfpckoapdbaaDoor.Ops
end
section
namespace Go.Proofs.YtbpnfpckoapdbaaDoor.P20
open Go.RowKit Go.Proofs.YtbpnfpckoapdbaaDoorW.PrintWords Go.Proofs.YtbpnfpckoapdbaaDoorW.PrintLast Go.Proofs.YtbpnfpckoapdbaaDoorW.PrintMore Go.Proofs.YtbpnfpckoapdbaaDoor.KD Go.Proofs.YtbpnfpckoapdbaaDoor.M Go.Proofs.YtbpnfpckoapdbaaDoor.PV20 Go.Proofs.YtbpnfpckoapdbaaDoor.Ev
set_option linter.unusedVariables false
set_option linter.unusedSimpArgs false
abbrev SE := S48
abbrev SM := S52
abbrev SF := S36
abbrev SR := S63
abbrev SV := S40
abbrev SS := S43
abbrev ST := S29
theorem E.uniq {α : Type} {g : Nat → Option α} {r r' : α} (h : E g r) (h' : E g r') : r = r' := by
 obtain ⟨k0, h0⟩ := h
 obtain ⟨k1, h1⟩ := h'
 have e0 := h0 (max k0 k1) (Nat.le_max_left _ _)
 have e1 := h1 (max k0 k1) (Nat.le_max_right _ _)
 rw [e0] at e1
 exact Option.some.inj e1
theorem six (a : Int) : (a < 0 ∨ 16 ≤ a) ∨ a = 0 ∨ a = 1 ∨ a = 2 ∨ a = 3 ∨ a = 4 ∨ a = 5 ∨ a = 6 ∨ a = 7 ∨ a = 8 ∨ a = 9 ∨ a = 10 ∨ a = 11 ∨ a = 12 ∨ a = 13 ∨ a = 14 ∨ a = 15 := by omega
def numB (a : Int) : Bool := decide (1 ≤ a ∧ a ≤ 11) || a == 14
theorem kind_out {a : Int} (h : a < 0 ∨ 16 ≤ a) : scalar_kind.f a = some 0 := by unfold scalar_kind.f; rw [if_pos h]
theorem num_v (a : Int) : scalar_Number.f a = some (numB a) := by
 unfold scalar_Number.f
 rcases six a with h | rfl | rfl | rfl | rfl | rfl | rfl | rfl | rfl | rfl | rfl | rfl | rfl | rfl | rfl | rfl | rfl
 · rw [kind_out h, Option.bind_some]
   have h1 : ¬ (1 ≤ a ∧ a ≤ 11) := by omega
   have h2 : (a == 14) = false := by rw [beq_eq_false_iff_ne]; omega
   rw [numB, decide_eq_false h1, h2]
   rfl
 all_goals rfl
theorem num_r (a : Int) : ecdysisref11_Number.f a = some (numB a) := by
 unfold ecdysisref11_Number.f ecdysisref11_Whole.f numB
 rcases six a with h | rfl | rfl | rfl | rfl | rfl | rfl | rfl | rfl | rfl | rfl | rfl | rfl | rfl | rfl | rfl | rfl
 · have h1 : ¬ (1 ≤ a ∧ a ≤ 11) := by omega
   rw [decide_eq_false h1, Bool.false_or]
   rcases h with h | h
   · rw [if_neg (by omega), if_neg (by omega), Option.bind_some, if_neg (by simp), if_neg (by omega)]
   · rw [if_pos (by omega), if_neg (by omega), if_pos (by omega), decide_eq_false (by omega : ¬ a ≤ 11), Option.bind_some, if_neg (by simp), if_neg (by omega)]
 all_goals rfl
def fit32 (n : Int) : Bool := decide (-2147483648 ≤ wrap64 n ∧ wrap64 n ≤ 2147483647)
theorem fits_r (n : Int) : ecdysisref02_Fits.f (wrap64 n) = some (fit32 n) := by
 unfold ecdysisref02_Fits.f fit32
 by_cases h : wrap64 n ≥ -2147483648
 · rw [if_pos h]
   by_cases h2 : wrap64 n ≤ 2147483647
   · rw [decide_eq_true h2, decide_eq_true ⟨h, h2⟩]
   · rw [decide_eq_false h2, decide_eq_false (fun x => h2 x.2)]
 · rw [if_neg h, decide_eq_false (fun x => h x.1)]
theorem fits_v (n : Int) : zig_Fits.f (wrap64 n) = some (fit32 n) := by
 unfold zig_Fits.f fit32
 have h1 : -9223372036854775808 ≤ wrap64 n ∧ wrap64 n ≤ 9223372036854775807 := by unfold wrap64; omega
 have h2 : ∀ x : Int, -9223372036854775808 ≤ x → x ≤ 9223372036854775807 → ((wrap64 (wrap32 x)) == x) = decide (-2147483648 ≤ x ∧ x ≤ 2147483647) := by
  intro x a b
  by_cases h : -2147483648 ≤ x ∧ x ≤ 2147483647
  · rw [decide_eq_true h, beq_iff_eq]
    unfold wrap64 wrap32
    omega
  · rw [decide_eq_false h, beq_eq_false_iff_ne]
    unfold wrap64 wrap32
    omega
 rw [h2 _ h1.1 h1.2]
def wideB (a : Int) : Bool := a == 2 || a == 4 || a == 6 || a == 9 || a == 11
def sgnB (a : Int) : Bool := a == 1 || a == 2 || a == 5 || a == 6 || a == 10 || a == 11 || a == 14
def mayB (a n : Int) : Bool := if a < 1 ∨ 15 < a then false else if wideB a = true then true else if sgnB a = true then fit32 n else if a = 3 ∨ a = 8 then decide (n < 4294967296) else if a = 7 then decide (n < 2) else n == 0
theorem small_div {n : Int} (h : 0 ≤ n) : ((n / 4294967296) == 0) = decide (n < 4294967296) := by
 by_cases h1 : n < 4294967296
 · rw [decide_eq_true h1, beq_iff_eq]; omega
 · rw [decide_eq_false h1, beq_eq_false_iff_ne]; omega
theorem le_one {n : Int} : decide (n ≤ 1) = decide (n < 2) := decide_eq_decide.2 (by omega)
theorem may_v (a n : Int) (h : 0 ≤ n) : E (fun k => scalar_May.f k a n) (mayB a n) := by
 by_cases h0 : a < 1 ∨ 15 < a
 · rw [mayB, if_pos h0]
   refine E.congr (h := fun k => scalar_May.j0 k a n true) ?_ fun k => ?_
   · exact E.succ E.const fun k => by simp only [scalar_May.j0]; rw [if_pos trivial]
   · unfold scalar_May.f
     rcases h0 with h1 | h1
     · rw [if_pos h1]
     · rw [if_neg (by omega), decide_eq_true (show a > 15 from h1)]
 · refine E.congr (h := fun k => scalar_May.j0 k a n false) ?_ fun k => ?_
   · refine E.succ (h := fun _ => some (mayB a n)) E.const fun k => ?_
     simp only [scalar_May.j0]
     rw [if_neg (by simp), fits_v, small_div h, le_one, mayB]
     have hc : a = 1 ∨ a = 2 ∨ a = 3 ∨ a = 4 ∨ a = 5 ∨ a = 6 ∨ a = 7 ∨ a = 8 ∨ a = 9 ∨ a = 10 ∨ a = 11 ∨ a = 12 ∨ a = 13 ∨ a = 14 ∨ a = 15 := by omega
     clear h0 h
     generalize fit32 n = f1
     generalize decide (n < 4294967296) = f2
     rcases hc with rfl | rfl | rfl | rfl | rfl | rfl | rfl | rfl | rfl | rfl | rfl | rfl | rfl | rfl | rfl <;> rfl
   · unfold scalar_May.f
     rw [if_neg (by omega), decide_eq_false (by omega)]
theorem may_r (a n : Int) : E (fun k => ecdysisref11_May.f k a n) (mayB a n) := by
 by_cases h0 : a < 1 ∨ 15 < a
 · rw [mayB, if_pos h0]
   refine E.congr (h := fun k => ecdysisref11_May.j0 k a n true) ?_ fun k => ?_
   · exact E.succ E.const fun k => by simp only [ecdysisref11_May.j0]; rw [if_pos trivial]
   · unfold ecdysisref11_May.f
     rcases h0 with h1 | h1
     · rw [if_pos h1]
     · rw [if_neg (by omega), decide_eq_true (show a > 15 from h1)]
 · refine E.congr (h := fun k => ecdysisref11_May.j0 k a n false) ?_ fun k => ?_
   · refine E.step (E.step ?_)
     refine E.succ (h := fun _ => some (mayB a n)) E.const fun k => ?_
     simp only [ecdysisref11_May.j0, ecdysisref11_May.j1]
     rw [if_neg (by simp), fits_r, mayB]
     have hc : a = 1 ∨ a = 2 ∨ a = 3 ∨ a = 4 ∨ a = 5 ∨ a = 6 ∨ a = 7 ∨ a = 8 ∨ a = 9 ∨ a = 10 ∨ a = 11 ∨ a = 12 ∨ a = 13 ∨ a = 14 ∨ a = 15 := by omega
     clear h0
     generalize fit32 n = f1
     rcases hc with rfl | rfl | rfl | rfl | rfl | rfl | rfl | rfl | rfl | rfl | rfl | rfl | rfl | rfl | rfl <;> rfl
   · unfold ecdysisref11_May.f
     rw [if_neg (by omega), decide_eq_false (by omega)]
def hidB (x : SF) : Bool := !x.f4 && x.f6.toList == [] && x.f2 != 15
theorem hid_v (x : SF) : field_Hidden.f x.f0 x.f1 x.f2 x.f3 x.f4 x.f5 x.f6 = some (hidB x) := by
 unfold field_Hidden.f hidB
 by_cases h : x.f4 = true
 · rw [if_pos h, h]; rfl
 · rw [if_neg h]
   rw [Bool.not_eq_true] at h
   rw [h]
   by_cases h1 : x.f6.toList = []
   · rw [if_pos h1, h1]; rfl
   · rw [if_neg h1, beq_eq_false_iff_ne.2 h1]; rfl
theorem hid_r (x : SF) : ecdysisref14_Hidden.f x.f0 x.f1 x.f2 x.f3 x.f4 x.f5 x.f6 = some (hidB x) := hid_v x
theorem tag_same (a b : Int) : PR20.tag_Right.f 2 a b = ecdysisref04_Right.f a b := by
 unfold PR20.tag_Right.f ecdysisref04_Right.f
 simp only [PR20.tag_Right.j0, PR20.tag_number.f]
 by_cases h1 : a ≥ 1 <;> by_cases h2 : a ≤ 536870911 <;> by_cases b0 : b = 0 <;> by_cases b1 : b = 1 <;> by_cases b2 : b = 2 <;> by_cases b5 : b = 5 <;> simp [*]
theorem right_r (x : SR) (h2 : 0 ≤ x.f2) : ecdysisref07_Right.f x.f0 x.f1 x.f2 x.f3 = some (rightR x) := by
 rw [← rightR_f]
 unfold ecdysisref07_Right.f PR20.raw_Right.f
 rw [tag_same]
 have e : (x.f2 / 4294967296 = 0) ↔ x.f2 < 4294967296 := by omega
 rcases ecdysisref04_Right.f x.f0 x.f1 with _ | b
 · rfl
 · rw [Option.bind_some, Option.bind_some]
   cases b
   · rfl
   · by_cases a2 : x.f1 = 2
     · simp [a2]
     · by_cases a5 : x.f1 = 5
       · simp only [a5, e]
         by_cases e1 : x.f2 < 4294967296 <;> by_cases e2 : x.f3.toList = [] <;> simp [e1, e2]
       · by_cases e2 : x.f3.toList = [] <;> simp [a2, a5, e2]
theorem rdM (xs : List SM) (i : Nat) : rd_T52 xs (i : Int) = xs.getD i z52 := rfl
theorem rdF (xs : List SF) (i : Nat) : rd_T36 xs (i : Int) = xs.getD i z36 := rfl
theorem rdS (xs : List SS) (i : Nat) : rd_T43 xs (i : Int) = xs.getD i z43 := rfl
theorem toL {x y : ByteArray} : (x.toList == y.toList) = true ↔ x.toList = y.toList := by simp
theorem ixF_cons {α : Type} (p : α → Bool) (x : α) (l : List α) (i : Nat) : ixF p (x :: l) i = if p x = true then (i : Int) else ixF p l (i + 1) := rfl
theorem ixF_bd {α : Type} (p : α → Bool) : ∀ (l : List α) (i : Nat), -1 ≤ ixF p l i ∧ ixF p l i < (i : Int) + l.length
 | [], i => by show -1 ≤ (-1 : Int) ∧ (-1 : Int) < _; simp; omega
 | x :: l, i => by
  have := ixF_bd p l (i + 1)
  rw [ixF_cons, List.length_cons]
  split <;> omega
theorem message_E (l0 : List SE) (l1 : List SM) (a : ByteArray) (h : l1.length ≤ 9000000000000000000) : E (fun k => ecdysisref15_Message.f k l0 l1 a) (ixF (fun x => x.f0.toList == a.toList) l1 0) := by
 have key := up (C := fun i => E (fun k => ecdysisref15_Message.l0 k a (i : Int) l0 l1) (ixF (fun x => x.f0.toList == a.toList) (l1.drop i) i)) l1.length (fun i hi => ?_) (fun i hi ih => ?_) 0
 · exact key
 · rw [List.drop_eq_nil_of_le hi]
   exact E.succ E.const fun k => by simp only [ecdysisref15_Message.l0]; rw [if_neg (by omega)]; rfl
 · rw [drop_getD z52 hi, ixF_cons]
   by_cases he : ((l1.getD i z52).f0.toList == a.toList) = true
   · rw [if_pos he]
     exact E.succ E.const fun k => by simp only [ecdysisref15_Message.l0]; rw [if_pos (by omega), if_pos (by omega), rdM, if_pos (toL.1 he)]
   · rw [if_neg he]
     exact E.succ ih fun k => by simp only [ecdysisref15_Message.l0]; rw [if_pos (by omega), if_pos (by omega), rdM, if_neg (fun h => he (toL.2 h)), w1 hi h]
theorem number_E (n : ByteArray) (l1 : List SF) (l2 : List Int) (a : Int) (h : l1.length ≤ 9000000000000000000) : E (fun k => ecdysisref16_Number.f k n l1 l2 a) (ixF (fun x => x.f1 == a) l1 0) := by
 have key := up (C := fun i => E (fun k => ecdysisref16_Number.l0 k a (i : Int) n l1 l2) (ixF (fun x => x.f1 == a) (l1.drop i) i)) l1.length (fun i hi => ?_) (fun i hi ih => ?_) 0
 · exact key
 · rw [List.drop_eq_nil_of_le hi]
   exact E.succ E.const fun k => by simp only [ecdysisref16_Number.l0]; rw [if_neg (by omega)]; rfl
 · rw [drop_getD z36 hi, ixF_cons]
   by_cases he : ((l1.getD i z36).f1 == a) = true
   · rw [if_pos he]
     exact E.succ E.const fun k => by simp only [ecdysisref16_Number.l0]; rw [if_pos (by omega), if_pos (by omega), rdF, if_pos (by simpa using he)]
   · rw [if_neg he]
     exact E.succ ih fun k => by simp only [ecdysisref16_Number.l0]; rw [if_pos (by omega), if_pos (by omega), rdF, if_neg (fun h => he (by simpa using h)), w1 hi h]
end Go.Proofs.YtbpnfpckoapdbaaDoor.P20
end

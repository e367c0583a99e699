/- The law ValidVals holds for every input that the row lets in (text 5 of 6; some of it the words and functions that the kit's print and this claim's programs wrote) -/
import Derived.Test.YtbpnfpckoapdbaaDoorQValidVals3
section
namespace Go.Proofs.YtbpnfpckoapdbaaDoor.PV20
open Go.RowKit Go.Proofs.YtbpnfpckoapdbaaDoor.M Go.Proofs.YtbpnfpckoapdbaaDoor.KD Go.Proofs.YtbpnfpckoapdbaaDoor Go.Proofs.YtbpnfpckoapdbaaDoorW.PrintWords Go.Proofs.YtbpnfpckoapdbaaDoorW.PrintLast Go.Proofs.YtbpnfpckoapdbaaDoorW.PrintMore
attribute [local go_sem] max2_int min2_int max_two min_two max_three min_three max_four min_four   -- for this text's walks alone
set_option linter.unusedVariables false
set_option linter.unusedSimpArgs false
def ecdysisref20_Val.T9 : Bool × List (List Nat × List Nat) := (true, [([], []), ([0], [0]), ([1], [1]), ([2], [2]), ([3], [3]), ([4, 3], [3, 4]), ([5, 3], [3, 5]), ([3, 6], [3, 6]), ([7, 3], [7]), ([8], [8]), ([9, 8], [8, 9]), ([10, 8], [8, 10]), ([11, 8], [8, 11]), ([8, 12], [8, 12]), ([13, 8], [13]), ([14], [14]), ([14], [14]), ([16, 14], [14, 16]), ([14], [14]), ([18, 14], [14, 18]), ([19, 14], [14, 19]), ([20, 14], [14, 20]), ([15, 17, 21, 14, 14], [14, 15, 17, 21]), ([14, 22], [14, 22]), ([23, 22, 0, 1, 2, 3, 4, 5, 6, 7, 8, 9, 10, 11, 12, 13, 14, 15, 16, 17, 18, 19, 20, 21, 22, 23], [23])])
def ecdysisref20_Val.B9 : List Nat := [0, 1, 3, 7, 15, 31, 63, 127, 255, 511, 1023, 2047, 4095, 8191, 16383, 32767, 32767, 98303, 32767, 294911, 819199, 1867775, 4194303, 8388607, 16777215]
theorem ecdysisref20_Val.tab9 : rtab .any (opsOf Tryd.f13 9) = ecdysisref20_Val.T9 := by kernel_rfl
theorem ecdysisref20_Val.bits9 : waitsOk ecdysisref20_Val.T9.2 ecdysisref20_Val.B9 = true := by kernel_rfl
set_option maxHeartbeats 8000000 in
set_option maxRecDepth 100000 in
theorem ecdysisref20_Val.callsR (k : Nat) (ih_ecdysisref20_Tree : ∀ k_, k_ < k → ∀ (A0_0 : Option Addr) (c0_0 : Nat) (l0_0 : List (S48)) (A0_1 : Option Addr) (c0_1 : Nat) (l0_1 : List (S52)) (a1 : ByteArray) (A2_0 : Option Addr) (c2_0 : Nat) (l2_0 : List (S43)) (A2_1 : Option Addr) (c2_1 : Nat) (l2_1 : List (S63)) (r : Bool) (w : World) (hT : Tabs w) (hr0_0 : Kd.C k48 w A0_0 l0_0.length l0_0) (hc0_0 : l0_0.length ≤ c0_0) (hr0_1 : Kd.C k52 w A0_1 l0_1.length l0_1) (hc0_1 : l0_1.length ≤ c0_1) (hr2_0 : Kd.C k43 w A2_0 l2_0.length l2_0) (hc2_0 : l2_0.length ≤ c2_0) (hr2_1 : Kd.C k63 w A2_1 l2_1.length l2_1) (hc2_1 : l2_1.length ≤ c2_1) (h_ : ecdysisref20_Tree.f k_ l0_0 l0_1 a1 l2_0 l2_1 = some r), Calls Tryd.prog 10 #[.agg #[.slice A0_0 l0_0.length c0_0, .slice A0_1 l0_1.length c0_1], .string a1, .agg #[.slice A2_0 l2_0.length c2_0, .slice A2_1 l2_1.length c2_1]] w fun e w' => e = .returned (.bool r) ∧ Below w.heap.size w w') (ih_ecdysisref20_Val : ∀ k_, k_ < k → ∀ (A0_0 : Option Addr) (c0_0 : Nat) (l0_0 : List (S48)) (A0_1 : Option Addr) (c0_1 : Nat) (l0_1 : List (S52)) (a1_0 : ByteArray) (a1_1 : Int) (a1_2 : Int) (a1_3 : ByteArray) (a1_4 : Bool) (a1_5 : Bool) (a1_6 : ByteArray) (a2_0 : Int) (a2_1 : ByteArray) (A2_2 : Option Addr) (c2_2 : Nat) (l2_2 : List (S29)) (r : Bool) (w : World) (hT : Tabs w) (hr0_0 : Kd.C k48 w A0_0 l0_0.length l0_0) (hc0_0 : l0_0.length ≤ c0_0) (hr0_1 : Kd.C k52 w A0_1 l0_1.length l0_1) (hc0_1 : l0_1.length ≤ c0_1) (hr2_2 : Kd.C k29 w A2_2 l2_2.length l2_2) (hc2_2 : l2_2.length ≤ c2_2) (h_ : ecdysisref20_Val.f k_ l0_0 l0_1 a1_0 a1_1 a1_2 a1_3 a1_4 a1_5 a1_6 a2_0 a2_1 l2_2 = some r), Calls Tryd.prog 13 #[.agg #[.slice A0_0 l0_0.length c0_0, .slice A0_1 l0_1.length c0_1], .agg #[.string a1_0, .int .i64 a1_1, .int .i64 a1_2, .string a1_3, .bool a1_4, .bool a1_5, .string a1_6], .agg #[.int .u64 a2_0, .string a2_1, .slice A2_2 l2_2.length c2_2]] w fun e w' => e = .returned (.bool r) ∧ Below w.heap.size w w') (ih_ecdysisref20_slot : ∀ k_, k_ < k → ∀ (A0_0 : Option Addr) (c0_0 : Nat) (l0_0 : List (S48)) (A0_1 : Option Addr) (c0_1 : Nat) (l0_1 : List (S52)) (a1_0 : ByteArray) (A1_1 : Option Addr) (c1_1 : Nat) (l1_1 : List (S36)) (A1_2 : Option Addr) (c1_2 : Nat) (l1_2 : List Int) (a2_0 : Int) (A2_1 : Option Addr) (c2_1 : Nat) (l2_1 : List (S40)) (r : Bool) (w : World) (hT : Tabs w) (hr0_0 : Kd.C k48 w A0_0 l0_0.length l0_0) (hc0_0 : l0_0.length ≤ c0_0) (hr0_1 : Kd.C k52 w A0_1 l0_1.length l0_1) (hc0_1 : l0_1.length ≤ c0_1) (hr1_1 : Kd.C k36 w A1_1 l1_1.length l1_1) (hc1_1 : l1_1.length ≤ c1_1) (hr1_2 : Kd.C (Kd.int .i64) w A1_2 l1_2.length l1_2) (hc1_2 : l1_2.length ≤ c1_2) (hr2_1 : Kd.C k40 w A2_1 l2_1.length l2_1) (hc2_1 : l2_1.length ≤ c2_1) (h_ : ecdysisref20_slot.f k_ l0_0 l0_1 a1_0 l1_1 l1_2 a2_0 l2_1 = some r), Calls Tryd.prog 20 #[.agg #[.slice A0_0 l0_0.length c0_0, .slice A0_1 l0_1.length c0_1], .agg #[.string a1_0, .slice A1_1 l1_1.length c1_1, .slice A1_2 l1_2.length c1_2], .agg #[.int .i64 a2_0, .slice A2_1 l2_1.length c2_1]] w fun e w' => e = .returned (.bool r) ∧ Below w.heap.size w w') : ∀ (A0_0 : Option Addr) (c0_0 : Nat) (l0_0 : List (S48)) (A0_1 : Option Addr) (c0_1 : Nat) (l0_1 : List (S52)) (a1_0 : ByteArray) (a1_1 : Int) (a1_2 : Int) (a1_3 : ByteArray) (a1_4 : Bool) (a1_5 : Bool) (a1_6 : ByteArray) (a2_0 : Int) (a2_1 : ByteArray) (A2_2 : Option Addr) (c2_2 : Nat) (l2_2 : List (S29)) (r : Bool) (w : World) (hT : Tabs w) (hr0_0 : Kd.C k48 w A0_0 l0_0.length l0_0) (hc0_0 : l0_0.length ≤ c0_0) (hr0_1 : Kd.C k52 w A0_1 l0_1.length l0_1) (hc0_1 : l0_1.length ≤ c0_1) (hr2_2 : Kd.C k29 w A2_2 l2_2.length l2_2) (hc2_2 : l2_2.length ≤ c2_2) (h : ecdysisref20_Val.f k l0_0 l0_1 a1_0 a1_1 a1_2 a1_3 a1_4 a1_5 a1_6 a2_0 a2_1 l2_2 = some r),
   Calls Tryd.prog 13 #[.agg #[.slice A0_0 l0_0.length c0_0, .slice A0_1 l0_1.length c0_1], .agg #[.string a1_0, .int .i64 a1_1, .int .i64 a1_2, .string a1_3, .bool a1_4, .bool a1_5, .string a1_6], .agg #[.int .u64 a2_0, .string a2_1, .slice A2_2 l2_2.length c2_2]] w fun e w' => e = .returned (.bool r) ∧ Below w.heap.size w w' := by
 intro A0_0 c0_0 l0_0 A0_1 c0_1 l0_1 a1_0 a1_1 a1_2 a1_3 a1_4 a1_5 a1_6 a2_0 a2_1 A2_2 c2_2 l2_2 r w hT hr0_0 hc0_0 hr0_1 hc0_1 hr2_2 hc2_2 h
 have HU8 := Aside0.mk hT
 clear hT
 cases k with
 | zero => exact absurd h (by simp [ecdysisref20_Val.f])
 | succ k =>
 simp only [ecdysisref20_Val.f] at h
 have hu25 := Tryd.underlying25
 have hu36 := Tryd.underlying36
 have hu40 := Tryd.underlying40
 have hu29 := Tryd.underlying29
 have HR0_0 := Aside0.mk hr0_0
 have HC0_0 := Aside0.mk hc0_0
 clear hr0_0 hc0_0
 have HR0_1 := Aside0.mk hr0_1
 have HC0_1 := Aside0.mk hc0_1
 clear hr0_1 hc0_1
 have HR2_2 := Aside0.mk hr2_2
 have HC2_2 := Aside0.mk hc2_2
 clear hr2_2 hc2_2
 have HB := Aside0.mk (Below.refl w.heap.size w)
 have H : ((ecdysisref11_Number.f a1_2).bind fun t232 => (if t232 = true then ((ecdysisref11_May.f k a1_2 a2_0).bind fun t233 => (if t233 = true then (if a2_1.toList = ([] : List UInt8) then (some ((l2_2.length : Int) == 0)) else (some false)) else (some false))) else (if a1_2 = 12 then (if a2_0 = 0 then (if (l2_2.length : Int) = 0 then ((utf8_ValidString.f a2_1).bind fun t234 => (some t234)) else (some false)) else (some false)) else (if a1_2 = 13 then (if a2_0 = 0 then (some ((l2_2.length : Int) == 0)) else (some false)) else (if a1_2 = 15 then (if a2_0 = 0 then (if a2_1.toList = ([] : List UInt8) then (if (l2_2.length : Int) = 1 then (if 0 < (l2_2.length : Int) then ((ecdysisref20_Tree.f k l0_0 l0_1 a1_3 ((rd_T29 l2_2 0).f0) ((rd_T29 l2_2 0).f1)).bind fun t236 => (some t236)) else (none)) else (some false)) else (some false)) else (some false)) else (some false)))))) = some r := h
 clear h
 replace H := Option.bind_eq_some_iff.mp H
 obtain ⟨t232, A40, H⟩ := H
 replace H : (if t232 = true then ((ecdysisref11_May.f k a1_2 a2_0).bind fun t233 => (if t233 = true then (if a2_1.toList = ([] : List UInt8) then (some ((l2_2.length : Int) == 0)) else (some false)) else (some false))) else (if a1_2 = 12 then (if a2_0 = 0 then (if (l2_2.length : Int) = 0 then ((utf8_ValidString.f a2_1).bind fun t234 => (some t234)) else (some false)) else (some false)) else (if a1_2 = 13 then (if a2_0 = 0 then (some ((l2_2.length : Int) == 0)) else (some false)) else (if a1_2 = 15 then (if a2_0 = 0 then (if a2_1.toList = ([] : List UInt8) then (if (l2_2.length : Int) = 1 then (if 0 < (l2_2.length : Int) then ((ecdysisref20_Tree.f k l0_0 l0_1 a1_3 ((rd_T29 l2_2 0).f0) ((rd_T29 l2_2 0).f1)).bind fun t236 => (some t236)) else (none)) else (some false)) else (some false)) else (some false)) else (some false))))) = some r := H
 have A4 := Aside0.mk A40
 clear A40
 by_cases c5 : t232 = true
 · subst c5
   have H1 : ((ecdysisref11_May.f k a1_2 a2_0).bind fun t233 => (if t233 = true then (if a2_1.toList = ([] : List UInt8) then (some ((l2_2.length : Int) == 0)) else (some false)) else (some false))) = some r := by rw [if_pos rfl] at H; exact H
   clear H
   have H := H1
   clear H1
   replace H := Option.bind_eq_some_iff.mp H
   obtain ⟨t233, A60, H⟩ := H
   replace H : (if t233 = true then (if a2_1.toList = ([] : List UInt8) then (some ((l2_2.length : Int) == 0)) else (some false)) else (some false)) = some r := H
   have A6 := Aside0.mk A60
   clear A60
   by_cases c7 : t233 = true
   · subst c7
     have H1 : (if a2_1.toList = ([] : List UInt8) then (some ((l2_2.length : Int) == 0)) else (some false)) = some r := by rw [if_pos rfl] at H; exact H
     clear H
     have H := H1
     clear H1
     by_cases c8 : a2_1.toList = ([] : List UInt8)
     · rw [if_pos c8] at H
       have c8b0 : (a2_1.toList == ([] : List UInt8)) = true := beq_iff_eq.mpr c8
       have c8b1 : (a2_1.toList != ([] : List UInt8)) = false := bne_eq_false_iff_eq.mpr c8
       clear c8
       obtain rfl := Option.some.inj H
       go_enter Tryd.func13, Tryd.ntmps13
       go_wp2_with (first | ((with_reducible refine gate_dst (N := 3) rfl ?_); (try (refine gate_guard (by rfl) ?_; dsimp only)); refine box_event ?hg (N := 3) ?hd (cs := #[.slice A0_0 l0_0.length c0_0, .slice A0_1 l0_1.length c0_1]) (t := 25) ?hr ?_; (case hd => rfl); (case hg => rfl); (case hr => first | (go_simp; done) | (go_simp; rfl)); intro gb229 hg w9 hbox hb; have n0_ := Aside0.mk (below_step HB.out hb); have n1_ := Aside0.mk (hbox); clear HB; have HB := n0_; have BK229 := n1_; clear n0_ n1_; clear hb hbox hg) | ((with_reducible refine gate_dst (N := 4) rfl ?_); (try (refine gate_guard (by rfl) ?_; dsimp only)); refine box_event ?hg (N := 4) ?hd (cs := #[.string a1_0, .int .i64 a1_1, .int .i64 a1_2, .string a1_3, .bool a1_4, .bool a1_5, .string a1_6]) (t := 36) ?hr ?_; (case hd => rfl); (case hg => rfl); (case hr => first | (go_simp; done) | (go_simp; rfl)); intro gb230 hg w10 hbox hb; have n0_ := Aside0.mk (blk_below BK229.out hb); have n1_ := Aside0.mk (below_step HB.out hb); have n2_ := Aside0.mk (hbox); have n5_ := Aside0.mk ((by rw [hg]; exact Nat.ne_of_lt (blk_lt BK229.out) : gb229 ≠ gb230)); have n6_ := Aside0.mk ((by rw [hg]; exact Nat.ne_of_gt (blk_lt BK229.out) : gb230 ≠ gb229)); clear BK229; clear HB; have BK229 := n0_; have HB := n1_; have BK230 := n2_; have NB229_230 := n5_; have NB230_229 := n6_; clear n0_ n1_ n2_ n5_ n6_; clear hb hbox hg) | ((with_reducible refine gate_dst (N := 5) rfl ?_); (try (refine gate_guard (by rfl) ?_; dsimp only)); refine box_event ?hg (N := 5) ?hd (cs := #[.int .u64 a2_0, .string a2_1, .slice A2_2 l2_2.length c2_2]) (t := 40) ?hr ?_; (case hd => rfl); (case hg => rfl); (case hr => first | (go_simp; done) | (go_simp; rfl)); intro gb231 hg w11 hbox hb; have n0_ := Aside0.mk (blk_below BK229.out hb); have n1_ := Aside0.mk (blk_below BK230.out hb); have n2_ := Aside0.mk (below_step HB.out hb); have n3_ := Aside0.mk (hbox); have n6_ := Aside0.mk ((by rw [hg]; exact Nat.ne_of_lt (blk_lt BK229.out) : gb229 ≠ gb231)); have n7_ := Aside0.mk ((by rw [hg]; exact Nat.ne_of_gt (blk_lt BK229.out) : gb231 ≠ gb229)); have n8_ := Aside0.mk ((by rw [hg]; exact Nat.ne_of_lt (blk_lt BK230.out) : gb230 ≠ gb231)); have n9_ := Aside0.mk ((by rw [hg]; exact Nat.ne_of_gt (blk_lt BK230.out) : gb231 ≠ gb230)); clear BK229; clear BK230; clear HB; have BK229 := n0_; have BK230 := n1_; have HB := n2_; have BK231 := n3_; have NB229_231 := n6_; have NB231_229 := n7_; have NB230_231 := n8_; have NB231_230 := n9_; clear n0_ n1_ n2_ n3_ n6_ n7_ n8_ n9_; clear hb hbox hg; have hnb12 := NB230_229.out; have hnc12 := NB229_230.out; have hnb13 := NB230_231.out; have hnc13 := NB231_230.out; have hcz14_0 : w11.cell? ⟨gb230, 0, none⟩ = some (.string a1_0) := (blk_cell BK230.out 0).trans rfl; have hcz14_1 : w11.cell? ⟨gb230, 1, none⟩ = some (.int .i64 a1_1) := (blk_cell BK230.out 1).trans rfl; have hcz14_2 : w11.cell? ⟨gb230, 2, none⟩ = some (.int .i64 a1_2) := (blk_cell BK230.out 2).trans rfl; have hcz14_3 : w11.cell? ⟨gb230, 3, none⟩ = some (.string a1_3) := (blk_cell BK230.out 3).trans rfl; have hcz14_4 : w11.cell? ⟨gb230, 4, none⟩ = some (.bool a1_4) := (blk_cell BK230.out 4).trans rfl; have hcz14_5 : w11.cell? ⟨gb230, 5, none⟩ = some (.bool a1_5) := (blk_cell BK230.out 5).trans rfl; have hcz14_6 : w11.cell? ⟨gb230, 6, none⟩ = some (.string a1_6) := (blk_cell BK230.out 6).trans rfl; have hfz14_0 := blk_frozen BK230.out 0; have hfz14_1 := blk_frozen BK230.out 1; have hfz14_2 := blk_frozen BK230.out 2; have hfz14_3 := blk_frozen BK230.out 3; have hfz14_4 := blk_frozen BK230.out 4; have hfz14_5 := blk_frozen BK230.out 5; have hfz14_6 := blk_frozen BK230.out 6) | ((with_reducible refine gate_callee (f := 26) rfl ?_); refine goesL_ (some 9) rfl rfl Tryd.func26 (by kernel_rfl) rfl #[.int .i64 a1_2] rfl (by (try simp only [List.map_toArray, List.map_cons, List.map_nil]); first | done | rfl | (simp only [List.length_drop, List.length_take]; rfl)) ?_; (with_reducible refine (ecdysisref11_Number.calls a1_2 true _ A4.out).mono ?_); rintro e w' ⟨rfl, ⟨nd, rfl⟩⟩; refine ⟨_, rfl, ?_⟩; have hnb15 := NB231_229.out; have hnc15 := NB229_231.out; have hcz16_0 : w11.cell? ⟨gb231, 0, none⟩ = some (.int .u64 a2_0) := (blk_cell BK231.out 0).trans rfl; have hcz16_1 : w11.cell? ⟨gb231, 1, none⟩ = some (.string a2_1) := (blk_cell BK231.out 1).trans rfl; have hcz16_2 : w11.cell? ⟨gb231, 2, none⟩ = some (.slice A2_2 l2_2.length c2_2) := (blk_cell BK231.out 2).trans rfl; have hfz16_0 := blk_frozen BK231.out 0; have hfz16_1 := blk_frozen BK231.out 1; have hfz16_2 := blk_frozen BK231.out 2) | ((with_reducible refine gate_callee (f := 27) rfl ?_); refine goesL_ (some 14) rfl rfl Tryd.func27 (by kernel_rfl) rfl #[.int .i64 a1_2, .int .u64 a2_0] rfl (by (try simp only [List.map_toArray, List.map_cons, List.map_nil]); first | done | rfl | (simp only [List.length_drop, List.length_take]; rfl)) ?_; (with_reducible refine (ecdysisref11_May.calls k a1_2 a2_0 true _ A6.out).mono ?_); rintro e w' ⟨rfl, ⟨nd, rfl⟩⟩; refine ⟨_, rfl, ?_⟩))
       go_ret
       exact ⟨by first | rfl , by repeat (first | (with_reducible first | exact HB.out | apply pw_below_drewN ) )⟩
     · rw [if_neg c8] at H
       have c8b0 : (a2_1.toList == ([] : List UInt8)) = false := beq_eq_false_iff_ne.mpr c8
       have c8b1 : (a2_1.toList != ([] : List UInt8)) = true := bne_iff_ne.mpr c8
       obtain rfl := Option.some.inj H
       go_enter Tryd.func13, Tryd.ntmps13
       go_wp2_with (first | ((with_reducible refine gate_dst (N := 3) rfl ?_); (try (refine gate_guard (by rfl) ?_; dsimp only)); refine box_event ?hg (N := 3) ?hd (cs := #[.slice A0_0 l0_0.length c0_0, .slice A0_1 l0_1.length c0_1]) (t := 25) ?hr ?_; (case hd => rfl); (case hg => rfl); (case hr => first | (go_simp; done) | (go_simp; rfl)); intro gb229 hg w17 hbox hb; have n0_ := Aside0.mk (below_step HB.out hb); have n1_ := Aside0.mk (hbox); clear HB; have HB := n0_; have BK229 := n1_; clear n0_ n1_; clear hb hbox hg) | ((with_reducible refine gate_dst (N := 4) rfl ?_); (try (refine gate_guard (by rfl) ?_; dsimp only)); refine box_event ?hg (N := 4) ?hd (cs := #[.string a1_0, .int .i64 a1_1, .int .i64 a1_2, .string a1_3, .bool a1_4, .bool a1_5, .string a1_6]) (t := 36) ?hr ?_; (case hd => rfl); (case hg => rfl); (case hr => first | (go_simp; done) | (go_simp; rfl)); intro gb230 hg w18 hbox hb; have n0_ := Aside0.mk (blk_below BK229.out hb); have n1_ := Aside0.mk (below_step HB.out hb); have n2_ := Aside0.mk (hbox); have n5_ := Aside0.mk ((by rw [hg]; exact Nat.ne_of_lt (blk_lt BK229.out) : gb229 ≠ gb230)); have n6_ := Aside0.mk ((by rw [hg]; exact Nat.ne_of_gt (blk_lt BK229.out) : gb230 ≠ gb229)); clear BK229; clear HB; have BK229 := n0_; have HB := n1_; have BK230 := n2_; have NB229_230 := n5_; have NB230_229 := n6_; clear n0_ n1_ n2_ n5_ n6_; clear hb hbox hg) | ((with_reducible refine gate_dst (N := 5) rfl ?_); (try (refine gate_guard (by rfl) ?_; dsimp only)); refine box_event ?hg (N := 5) ?hd (cs := #[.int .u64 a2_0, .string a2_1, .slice A2_2 l2_2.length c2_2]) (t := 40) ?hr ?_; (case hd => rfl); (case hg => rfl); (case hr => first | (go_simp; done) | (go_simp; rfl)); intro gb231 hg w19 hbox hb; have n0_ := Aside0.mk (blk_below BK229.out hb); have n1_ := Aside0.mk (blk_below BK230.out hb); have n2_ := Aside0.mk (below_step HB.out hb); have n3_ := Aside0.mk (hbox); have n6_ := Aside0.mk ((by rw [hg]; exact Nat.ne_of_lt (blk_lt BK229.out) : gb229 ≠ gb231)); have n7_ := Aside0.mk ((by rw [hg]; exact Nat.ne_of_gt (blk_lt BK229.out) : gb231 ≠ gb229)); have n8_ := Aside0.mk ((by rw [hg]; exact Nat.ne_of_lt (blk_lt BK230.out) : gb230 ≠ gb231)); have n9_ := Aside0.mk ((by rw [hg]; exact Nat.ne_of_gt (blk_lt BK230.out) : gb231 ≠ gb230)); clear BK229; clear BK230; clear HB; have BK229 := n0_; have BK230 := n1_; have HB := n2_; have BK231 := n3_; have NB229_231 := n6_; have NB231_229 := n7_; have NB230_231 := n8_; have NB231_230 := n9_; clear n0_ n1_ n2_ n3_ n6_ n7_ n8_ n9_; clear hb hbox hg; have hnb20 := NB230_229.out; have hnc20 := NB229_230.out; have hnb21 := NB230_231.out; have hnc21 := NB231_230.out; have hcz22_0 : w19.cell? ⟨gb230, 0, none⟩ = some (.string a1_0) := (blk_cell BK230.out 0).trans rfl; have hcz22_1 : w19.cell? ⟨gb230, 1, none⟩ = some (.int .i64 a1_1) := (blk_cell BK230.out 1).trans rfl; have hcz22_2 : w19.cell? ⟨gb230, 2, none⟩ = some (.int .i64 a1_2) := (blk_cell BK230.out 2).trans rfl; have hcz22_3 : w19.cell? ⟨gb230, 3, none⟩ = some (.string a1_3) := (blk_cell BK230.out 3).trans rfl; have hcz22_4 : w19.cell? ⟨gb230, 4, none⟩ = some (.bool a1_4) := (blk_cell BK230.out 4).trans rfl; have hcz22_5 : w19.cell? ⟨gb230, 5, none⟩ = some (.bool a1_5) := (blk_cell BK230.out 5).trans rfl; have hcz22_6 : w19.cell? ⟨gb230, 6, none⟩ = some (.string a1_6) := (blk_cell BK230.out 6).trans rfl; have hfz22_0 := blk_frozen BK230.out 0; have hfz22_1 := blk_frozen BK230.out 1; have hfz22_2 := blk_frozen BK230.out 2; have hfz22_3 := blk_frozen BK230.out 3; have hfz22_4 := blk_frozen BK230.out 4; have hfz22_5 := blk_frozen BK230.out 5; have hfz22_6 := blk_frozen BK230.out 6) | ((with_reducible refine gate_callee (f := 26) rfl ?_); refine goesL_ (some 9) rfl rfl Tryd.func26 (by kernel_rfl) rfl #[.int .i64 a1_2] rfl (by (try simp only [List.map_toArray, List.map_cons, List.map_nil]); first | done | rfl | (simp only [List.length_drop, List.length_take]; rfl)) ?_; (with_reducible refine (ecdysisref11_Number.calls a1_2 true _ A4.out).mono ?_); rintro e w' ⟨rfl, ⟨nd, rfl⟩⟩; refine ⟨_, rfl, ?_⟩; have hnb23 := NB231_229.out; have hnc23 := NB229_231.out; have hcz24_0 : w19.cell? ⟨gb231, 0, none⟩ = some (.int .u64 a2_0) := (blk_cell BK231.out 0).trans rfl; have hcz24_1 : w19.cell? ⟨gb231, 1, none⟩ = some (.string a2_1) := (blk_cell BK231.out 1).trans rfl; have hcz24_2 : w19.cell? ⟨gb231, 2, none⟩ = some (.slice A2_2 l2_2.length c2_2) := (blk_cell BK231.out 2).trans rfl; have hfz24_0 := blk_frozen BK231.out 0; have hfz24_1 := blk_frozen BK231.out 1; have hfz24_2 := blk_frozen BK231.out 2) | ((with_reducible refine gate_callee (f := 27) rfl ?_); refine goesL_ (some 14) rfl rfl Tryd.func27 (by kernel_rfl) rfl #[.int .i64 a1_2, .int .u64 a2_0] rfl (by (try simp only [List.map_toArray, List.map_cons, List.map_nil]); first | done | rfl | (simp only [List.length_drop, List.length_take]; rfl)) ?_; (with_reducible refine (ecdysisref11_May.calls k a1_2 a2_0 true _ A6.out).mono ?_); rintro e w' ⟨rfl, ⟨nd, rfl⟩⟩; refine ⟨_, rfl, ?_⟩))
       go_ret
       exact ⟨by first | rfl , by repeat (first | (with_reducible first | exact HB.out | apply pw_below_drewN ) )⟩
   · replace c7 := Bool.eq_false_iff.mpr c7
     subst c7
     have H1 : (some false) = some r := by rw [if_neg (show ¬ (false = true) by decide)] at H; exact H
     clear H
     have H := H1
     clear H1
     obtain rfl := Option.some.inj H
     go_enter Tryd.func13, Tryd.ntmps13
     go_wp2_with (first | ((with_reducible refine gate_dst (N := 3) rfl ?_); (try (refine gate_guard (by rfl) ?_; dsimp only)); refine box_event ?hg (N := 3) ?hd (cs := #[.slice A0_0 l0_0.length c0_0, .slice A0_1 l0_1.length c0_1]) (t := 25) ?hr ?_; (case hd => rfl); (case hg => rfl); (case hr => first | (go_simp; done) | (go_simp; rfl)); intro gb229 hg w25 hbox hb; have n0_ := Aside0.mk (below_step HB.out hb); have n1_ := Aside0.mk (hbox); clear HB; have HB := n0_; have BK229 := n1_; clear n0_ n1_; clear hb hbox hg) | ((with_reducible refine gate_dst (N := 4) rfl ?_); (try (refine gate_guard (by rfl) ?_; dsimp only)); refine box_event ?hg (N := 4) ?hd (cs := #[.string a1_0, .int .i64 a1_1, .int .i64 a1_2, .string a1_3, .bool a1_4, .bool a1_5, .string a1_6]) (t := 36) ?hr ?_; (case hd => rfl); (case hg => rfl); (case hr => first | (go_simp; done) | (go_simp; rfl)); intro gb230 hg w26 hbox hb; have n0_ := Aside0.mk (blk_below BK229.out hb); have n1_ := Aside0.mk (below_step HB.out hb); have n2_ := Aside0.mk (hbox); have n5_ := Aside0.mk ((by rw [hg]; exact Nat.ne_of_lt (blk_lt BK229.out) : gb229 ≠ gb230)); have n6_ := Aside0.mk ((by rw [hg]; exact Nat.ne_of_gt (blk_lt BK229.out) : gb230 ≠ gb229)); clear BK229; clear HB; have BK229 := n0_; have HB := n1_; have BK230 := n2_; have NB229_230 := n5_; have NB230_229 := n6_; clear n0_ n1_ n2_ n5_ n6_; clear hb hbox hg) | ((with_reducible refine gate_dst (N := 5) rfl ?_); (try (refine gate_guard (by rfl) ?_; dsimp only)); refine box_event ?hg (N := 5) ?hd (cs := #[.int .u64 a2_0, .string a2_1, .slice A2_2 l2_2.length c2_2]) (t := 40) ?hr ?_; (case hd => rfl); (case hg => rfl); (case hr => first | (go_simp; done) | (go_simp; rfl)); intro gb231 hg w27 hbox hb; have n0_ := Aside0.mk (blk_below BK229.out hb); have n1_ := Aside0.mk (blk_below BK230.out hb); have n2_ := Aside0.mk (below_step HB.out hb); have n3_ := Aside0.mk (hbox); have n6_ := Aside0.mk ((by rw [hg]; exact Nat.ne_of_lt (blk_lt BK229.out) : gb229 ≠ gb231)); have n7_ := Aside0.mk ((by rw [hg]; exact Nat.ne_of_gt (blk_lt BK229.out) : gb231 ≠ gb229)); have n8_ := Aside0.mk ((by rw [hg]; exact Nat.ne_of_lt (blk_lt BK230.out) : gb230 ≠ gb231)); have n9_ := Aside0.mk ((by rw [hg]; exact Nat.ne_of_gt (blk_lt BK230.out) : gb231 ≠ gb230)); clear BK229; clear BK230; clear HB; have BK229 := n0_; have BK230 := n1_; have HB := n2_; have BK231 := n3_; have NB229_231 := n6_; have NB231_229 := n7_; have NB230_231 := n8_; have NB231_230 := n9_; clear n0_ n1_ n2_ n3_ n6_ n7_ n8_ n9_; clear hb hbox hg; have hnb28 := NB230_229.out; have hnc28 := NB229_230.out; have hnb29 := NB230_231.out; have hnc29 := NB231_230.out; have hcz30_0 : w27.cell? ⟨gb230, 0, none⟩ = some (.string a1_0) := (blk_cell BK230.out 0).trans rfl; have hcz30_1 : w27.cell? ⟨gb230, 1, none⟩ = some (.int .i64 a1_1) := (blk_cell BK230.out 1).trans rfl; have hcz30_2 : w27.cell? ⟨gb230, 2, none⟩ = some (.int .i64 a1_2) := (blk_cell BK230.out 2).trans rfl; have hcz30_3 : w27.cell? ⟨gb230, 3, none⟩ = some (.string a1_3) := (blk_cell BK230.out 3).trans rfl; have hcz30_4 : w27.cell? ⟨gb230, 4, none⟩ = some (.bool a1_4) := (blk_cell BK230.out 4).trans rfl; have hcz30_5 : w27.cell? ⟨gb230, 5, none⟩ = some (.bool a1_5) := (blk_cell BK230.out 5).trans rfl; have hcz30_6 : w27.cell? ⟨gb230, 6, none⟩ = some (.string a1_6) := (blk_cell BK230.out 6).trans rfl; have hfz30_0 := blk_frozen BK230.out 0; have hfz30_1 := blk_frozen BK230.out 1; have hfz30_2 := blk_frozen BK230.out 2; have hfz30_3 := blk_frozen BK230.out 3; have hfz30_4 := blk_frozen BK230.out 4; have hfz30_5 := blk_frozen BK230.out 5; have hfz30_6 := blk_frozen BK230.out 6) | ((with_reducible refine gate_callee (f := 26) rfl ?_); refine goesL_ (some 9) rfl rfl Tryd.func26 (by kernel_rfl) rfl #[.int .i64 a1_2] rfl (by (try simp only [List.map_toArray, List.map_cons, List.map_nil]); first | done | rfl | (simp only [List.length_drop, List.length_take]; rfl)) ?_; (with_reducible refine (ecdysisref11_Number.calls a1_2 true _ A4.out).mono ?_); rintro e w' ⟨rfl, ⟨nd, rfl⟩⟩; refine ⟨_, rfl, ?_⟩; have hnb31 := NB231_229.out; have hnc31 := NB229_231.out; have hcz32_0 : w27.cell? ⟨gb231, 0, none⟩ = some (.int .u64 a2_0) := (blk_cell BK231.out 0).trans rfl; have hcz32_1 : w27.cell? ⟨gb231, 1, none⟩ = some (.string a2_1) := (blk_cell BK231.out 1).trans rfl; have hcz32_2 : w27.cell? ⟨gb231, 2, none⟩ = some (.slice A2_2 l2_2.length c2_2) := (blk_cell BK231.out 2).trans rfl; have hfz32_0 := blk_frozen BK231.out 0; have hfz32_1 := blk_frozen BK231.out 1; have hfz32_2 := blk_frozen BK231.out 2) | ((with_reducible refine gate_callee (f := 27) rfl ?_); refine goesL_ (some 14) rfl rfl Tryd.func27 (by kernel_rfl) rfl #[.int .i64 a1_2, .int .u64 a2_0] rfl (by (try simp only [List.map_toArray, List.map_cons, List.map_nil]); first | done | rfl | (simp only [List.length_drop, List.length_take]; rfl)) ?_; (with_reducible refine (ecdysisref11_May.calls k a1_2 a2_0 false _ A6.out).mono ?_); rintro e w' ⟨rfl, ⟨nd, rfl⟩⟩; refine ⟨_, rfl, ?_⟩))
     go_ret
     exact ⟨by first | rfl , by repeat (first | (with_reducible first | exact HB.out | apply pw_below_drewN ) )⟩
 · replace c5 := Bool.eq_false_iff.mpr c5
   subst c5
   have H1 : (if a1_2 = 12 then (if a2_0 = 0 then (if (l2_2.length : Int) = 0 then ((utf8_ValidString.f a2_1).bind fun t234 => (some t234)) else (some false)) else (some false)) else (if a1_2 = 13 then (if a2_0 = 0 then (some ((l2_2.length : Int) == 0)) else (some false)) else (if a1_2 = 15 then (if a2_0 = 0 then (if a2_1.toList = ([] : List UInt8) then (if (l2_2.length : Int) = 1 then (if 0 < (l2_2.length : Int) then ((ecdysisref20_Tree.f k l0_0 l0_1 a1_3 ((rd_T29 l2_2 0).f0) ((rd_T29 l2_2 0).f1)).bind fun t236 => (some t236)) else (none)) else (some false)) else (some false)) else (some false)) else (some false)))) = some r := by rw [if_neg (show ¬ (false = true) by decide)] at H; exact H
   clear H
   have H := H1
   clear H1
   by_cases c33 : a1_2 = 12
   · rw [if_pos c33] at H
     have c33b0 : (a1_2 == 12) = true := beq_iff_eq.mpr c33
     have c33b1 : (a1_2 != 12) = false := bne_eq_false_iff_eq.mpr c33
     clear c33
     by_cases c34 : a2_0 = 0
     · rw [if_pos c34] at H
       have c34b0 : (a2_0 == 0) = true := beq_iff_eq.mpr c34
       have c34b1 : (a2_0 != 0) = false := bne_eq_false_iff_eq.mpr c34
       clear c34
       by_cases c35 : (l2_2.length : Int) = 0
       · rw [if_pos c35] at H
         have c35b0 : ((l2_2.length : Int) == 0) = true := beq_iff_eq.mpr c35
         have c35b1 : ((l2_2.length : Int) != 0) = false := bne_eq_false_iff_eq.mpr c35
         clear c35
         replace H := Option.bind_eq_some_iff.mp H
         obtain ⟨t234, A360, H⟩ := H
         replace H : (some t234) = some r := H
         have A36 := Aside0.mk A360
         clear A360
         obtain rfl := Option.some.inj H
         go_enter Tryd.func13, Tryd.ntmps13
         go_wp2_with (first | ((with_reducible refine gate_dst (N := 3) rfl ?_); (try (refine gate_guard (by rfl) ?_; dsimp only)); refine box_event ?hg (N := 3) ?hd (cs := #[.slice A0_0 l0_0.length c0_0, .slice A0_1 l0_1.length c0_1]) (t := 25) ?hr ?_; (case hd => rfl); (case hg => rfl); (case hr => first | (go_simp; done) | (go_simp; rfl)); intro gb229 hg w37 hbox hb; have n0_ := Aside0.mk (below_step HB.out hb); have n1_ := Aside0.mk (hbox); clear HB; have HB := n0_; have BK229 := n1_; clear n0_ n1_; clear hb hbox hg) | ((with_reducible refine gate_dst (N := 4) rfl ?_); (try (refine gate_guard (by rfl) ?_; dsimp only)); refine box_event ?hg (N := 4) ?hd (cs := #[.string a1_0, .int .i64 a1_1, .int .i64 a1_2, .string a1_3, .bool a1_4, .bool a1_5, .string a1_6]) (t := 36) ?hr ?_; (case hd => rfl); (case hg => rfl); (case hr => first | (go_simp; done) | (go_simp; rfl)); intro gb230 hg w38 hbox hb; have n0_ := Aside0.mk (blk_below BK229.out hb); have n1_ := Aside0.mk (below_step HB.out hb); have n2_ := Aside0.mk (hbox); have n5_ := Aside0.mk ((by rw [hg]; exact Nat.ne_of_lt (blk_lt BK229.out) : gb229 ≠ gb230)); have n6_ := Aside0.mk ((by rw [hg]; exact Nat.ne_of_gt (blk_lt BK229.out) : gb230 ≠ gb229)); clear BK229; clear HB; have BK229 := n0_; have HB := n1_; have BK230 := n2_; have NB229_230 := n5_; have NB230_229 := n6_; clear n0_ n1_ n2_ n5_ n6_; clear hb hbox hg) | ((with_reducible refine gate_dst (N := 5) rfl ?_); (try (refine gate_guard (by rfl) ?_; dsimp only)); refine box_event ?hg (N := 5) ?hd (cs := #[.int .u64 a2_0, .string a2_1, .slice A2_2 l2_2.length c2_2]) (t := 40) ?hr ?_; (case hd => rfl); (case hg => rfl); (case hr => first | (go_simp; done) | (go_simp; rfl)); intro gb231 hg w39 hbox hb; have n0_ := Aside0.mk (blk_below BK229.out hb); have n1_ := Aside0.mk (blk_below BK230.out hb); have n2_ := Aside0.mk (below_step HB.out hb); have n3_ := Aside0.mk (hbox); have n6_ := Aside0.mk ((by rw [hg]; exact Nat.ne_of_lt (blk_lt BK229.out) : gb229 ≠ gb231)); have n7_ := Aside0.mk ((by rw [hg]; exact Nat.ne_of_gt (blk_lt BK229.out) : gb231 ≠ gb229)); have n8_ := Aside0.mk ((by rw [hg]; exact Nat.ne_of_lt (blk_lt BK230.out) : gb230 ≠ gb231)); have n9_ := Aside0.mk ((by rw [hg]; exact Nat.ne_of_gt (blk_lt BK230.out) : gb231 ≠ gb230)); clear BK229; clear BK230; clear HB; have BK229 := n0_; have BK230 := n1_; have HB := n2_; have BK231 := n3_; have NB229_231 := n6_; have NB231_229 := n7_; have NB230_231 := n8_; have NB231_230 := n9_; clear n0_ n1_ n2_ n3_ n6_ n7_ n8_ n9_; clear hb hbox hg; have hnb40 := NB230_229.out; have hnc40 := NB229_230.out; have hnb41 := NB230_231.out; have hnc41 := NB231_230.out; have hcz42_0 : w39.cell? ⟨gb230, 0, none⟩ = some (.string a1_0) := (blk_cell BK230.out 0).trans rfl; have hcz42_1 : w39.cell? ⟨gb230, 1, none⟩ = some (.int .i64 a1_1) := (blk_cell BK230.out 1).trans rfl; have hcz42_2 : w39.cell? ⟨gb230, 2, none⟩ = some (.int .i64 a1_2) := (blk_cell BK230.out 2).trans rfl; have hcz42_3 : w39.cell? ⟨gb230, 3, none⟩ = some (.string a1_3) := (blk_cell BK230.out 3).trans rfl; have hcz42_4 : w39.cell? ⟨gb230, 4, none⟩ = some (.bool a1_4) := (blk_cell BK230.out 4).trans rfl; have hcz42_5 : w39.cell? ⟨gb230, 5, none⟩ = some (.bool a1_5) := (blk_cell BK230.out 5).trans rfl; have hcz42_6 : w39.cell? ⟨gb230, 6, none⟩ = some (.string a1_6) := (blk_cell BK230.out 6).trans rfl; have hfz42_0 := blk_frozen BK230.out 0; have hfz42_1 := blk_frozen BK230.out 1; have hfz42_2 := blk_frozen BK230.out 2; have hfz42_3 := blk_frozen BK230.out 3; have hfz42_4 := blk_frozen BK230.out 4; have hfz42_5 := blk_frozen BK230.out 5; have hfz42_6 := blk_frozen BK230.out 6) | ((with_reducible refine gate_callee (f := 26) rfl ?_); refine goesL_ (some 9) rfl rfl Tryd.func26 (by kernel_rfl) rfl #[.int .i64 a1_2] rfl (by (try simp only [List.map_toArray, List.map_cons, List.map_nil]); first | done | rfl | (simp only [List.length_drop, List.length_take]; rfl)) ?_; (with_reducible refine (ecdysisref11_Number.calls a1_2 false _ A4.out).mono ?_); rintro e w' ⟨rfl, ⟨nd, rfl⟩⟩; refine ⟨_, rfl, ?_⟩; have hnb43 := NB231_229.out; have hnc43 := NB229_231.out; have hcz44_0 : w39.cell? ⟨gb231, 0, none⟩ = some (.int .u64 a2_0) := (blk_cell BK231.out 0).trans rfl; have hcz44_1 : w39.cell? ⟨gb231, 1, none⟩ = some (.string a2_1) := (blk_cell BK231.out 1).trans rfl; have hcz44_2 : w39.cell? ⟨gb231, 2, none⟩ = some (.slice A2_2 l2_2.length c2_2) := (blk_cell BK231.out 2).trans rfl; have hfz44_0 := blk_frozen BK231.out 0; have hfz44_1 := blk_frozen BK231.out 1; have hfz44_2 := blk_frozen BK231.out 2) | (go_at_call 25; (with_reducible refine (utf8_ValidString.calls a2_1 t234 _ ?sideT A36.out).mono ?_); (case sideT => exact Tabs.below HU8.out (by repeat (first | (with_reducible first | exact HB.out | apply pw_below_drewN ) ))); rintro e w45 ⟨rfl, hb⟩; have n0_ := Aside0.mk (blk_below (g := gb229) (o := .cells #[.slice A0_0 l0_0.length c0_0, .slice A0_1 l0_1.length c0_1] 25 (0, 0)) (by (with_reducible repeat (first | refine blk_drewN ?_ _ )); exact BK229.out) hb); have n1_ := Aside0.mk (blk_below (g := gb230) (o := .cells #[.string a1_0, .int .i64 a1_1, .int .i64 a1_2, .string a1_3, .bool a1_4, .bool a1_5, .string a1_6] 36 (0, 0)) (by (with_reducible repeat (first | refine blk_drewN ?_ _ )); exact BK230.out) hb); have n2_ := Aside0.mk (blk_below (g := gb231) (o := .cells #[.int .u64 a2_0, .string a2_1, .slice A2_2 l2_2.length c2_2] 40 (0, 0)) (by (with_reducible repeat (first | refine blk_drewN ?_ _ )); exact BK231.out) hb); have n3_ := Aside0.mk (below_step (by repeat (first | (with_reducible first | exact HB.out | apply pw_below_drewN ) )) hb); clear BK229; clear BK230; clear BK231; clear HB; have BK229 := n0_; have BK230 := n1_; have BK231 := n2_; have HB := n3_; clear n0_ n1_ n2_ n3_; (try clear hb); (try clear hb2); (try clear hk); (try clear hi)))
         go_ret
         exact ⟨by first | rfl , by exact HB.out⟩
       · rw [if_neg c35] at H
         have c35b0 : ((l2_2.length : Int) == 0) = false := beq_eq_false_iff_ne.mpr c35
         have c35b1 : ((l2_2.length : Int) != 0) = true := bne_iff_ne.mpr c35
         have c35b2 : ¬ (l2_2 = []) := fun h_ => c35 (by rw [h_]; rfl)
         obtain rfl := Option.some.inj H
         go_enter Tryd.func13, Tryd.ntmps13
         go_wp2_with (first | ((with_reducible refine gate_dst (N := 3) rfl ?_); (try (refine gate_guard (by rfl) ?_; dsimp only)); refine box_event ?hg (N := 3) ?hd (cs := #[.slice A0_0 l0_0.length c0_0, .slice A0_1 l0_1.length c0_1]) (t := 25) ?hr ?_; (case hd => rfl); (case hg => rfl); (case hr => first | (go_simp; done) | (go_simp; rfl)); intro gb229 hg w46 hbox hb; have n0_ := Aside0.mk (below_step HB.out hb); have n1_ := Aside0.mk (hbox); clear HB; have HB := n0_; have BK229 := n1_; clear n0_ n1_; clear hb hbox hg) | ((with_reducible refine gate_dst (N := 4) rfl ?_); (try (refine gate_guard (by rfl) ?_; dsimp only)); refine box_event ?hg (N := 4) ?hd (cs := #[.string a1_0, .int .i64 a1_1, .int .i64 a1_2, .string a1_3, .bool a1_4, .bool a1_5, .string a1_6]) (t := 36) ?hr ?_; (case hd => rfl); (case hg => rfl); (case hr => first | (go_simp; done) | (go_simp; rfl)); intro gb230 hg w47 hbox hb; have n0_ := Aside0.mk (blk_below BK229.out hb); have n1_ := Aside0.mk (below_step HB.out hb); have n2_ := Aside0.mk (hbox); have n5_ := Aside0.mk ((by rw [hg]; exact Nat.ne_of_lt (blk_lt BK229.out) : gb229 ≠ gb230)); have n6_ := Aside0.mk ((by rw [hg]; exact Nat.ne_of_gt (blk_lt BK229.out) : gb230 ≠ gb229)); clear BK229; clear HB; have BK229 := n0_; have HB := n1_; have BK230 := n2_; have NB229_230 := n5_; have NB230_229 := n6_; clear n0_ n1_ n2_ n5_ n6_; clear hb hbox hg) | ((with_reducible refine gate_dst (N := 5) rfl ?_); (try (refine gate_guard (by rfl) ?_; dsimp only)); refine box_event ?hg (N := 5) ?hd (cs := #[.int .u64 a2_0, .string a2_1, .slice A2_2 l2_2.length c2_2]) (t := 40) ?hr ?_; (case hd => rfl); (case hg => rfl); (case hr => first | (go_simp; done) | (go_simp; rfl)); intro gb231 hg w48 hbox hb; have n0_ := Aside0.mk (blk_below BK229.out hb); have n1_ := Aside0.mk (blk_below BK230.out hb); have n2_ := Aside0.mk (below_step HB.out hb); have n3_ := Aside0.mk (hbox); have n6_ := Aside0.mk ((by rw [hg]; exact Nat.ne_of_lt (blk_lt BK229.out) : gb229 ≠ gb231)); have n7_ := Aside0.mk ((by rw [hg]; exact Nat.ne_of_gt (blk_lt BK229.out) : gb231 ≠ gb229)); have n8_ := Aside0.mk ((by rw [hg]; exact Nat.ne_of_lt (blk_lt BK230.out) : gb230 ≠ gb231)); have n9_ := Aside0.mk ((by rw [hg]; exact Nat.ne_of_gt (blk_lt BK230.out) : gb231 ≠ gb230)); clear BK229; clear BK230; clear HB; have BK229 := n0_; have BK230 := n1_; have HB := n2_; have BK231 := n3_; have NB229_231 := n6_; have NB231_229 := n7_; have NB230_231 := n8_; have NB231_230 := n9_; clear n0_ n1_ n2_ n3_ n6_ n7_ n8_ n9_; clear hb hbox hg; have hnb49 := NB230_229.out; have hnc49 := NB229_230.out; have hnb50 := NB230_231.out; have hnc50 := NB231_230.out; have hcz51_0 : w48.cell? ⟨gb230, 0, none⟩ = some (.string a1_0) := (blk_cell BK230.out 0).trans rfl; have hcz51_1 : w48.cell? ⟨gb230, 1, none⟩ = some (.int .i64 a1_1) := (blk_cell BK230.out 1).trans rfl; have hcz51_2 : w48.cell? ⟨gb230, 2, none⟩ = some (.int .i64 a1_2) := (blk_cell BK230.out 2).trans rfl; have hcz51_3 : w48.cell? ⟨gb230, 3, none⟩ = some (.string a1_3) := (blk_cell BK230.out 3).trans rfl; have hcz51_4 : w48.cell? ⟨gb230, 4, none⟩ = some (.bool a1_4) := (blk_cell BK230.out 4).trans rfl; have hcz51_5 : w48.cell? ⟨gb230, 5, none⟩ = some (.bool a1_5) := (blk_cell BK230.out 5).trans rfl; have hcz51_6 : w48.cell? ⟨gb230, 6, none⟩ = some (.string a1_6) := (blk_cell BK230.out 6).trans rfl; have hfz51_0 := blk_frozen BK230.out 0; have hfz51_1 := blk_frozen BK230.out 1; have hfz51_2 := blk_frozen BK230.out 2; have hfz51_3 := blk_frozen BK230.out 3; have hfz51_4 := blk_frozen BK230.out 4; have hfz51_5 := blk_frozen BK230.out 5; have hfz51_6 := blk_frozen BK230.out 6) | ((with_reducible refine gate_callee (f := 26) rfl ?_); refine goesL_ (some 9) rfl rfl Tryd.func26 (by kernel_rfl) rfl #[.int .i64 a1_2] rfl (by (try simp only [List.map_toArray, List.map_cons, List.map_nil]); first | done | rfl | (simp only [List.length_drop, List.length_take]; rfl)) ?_; (with_reducible refine (ecdysisref11_Number.calls a1_2 false _ A4.out).mono ?_); rintro e w' ⟨rfl, ⟨nd, rfl⟩⟩; refine ⟨_, rfl, ?_⟩; have hnb52 := NB231_229.out; have hnc52 := NB229_231.out; have hcz53_0 : w48.cell? ⟨gb231, 0, none⟩ = some (.int .u64 a2_0) := (blk_cell BK231.out 0).trans rfl; have hcz53_1 : w48.cell? ⟨gb231, 1, none⟩ = some (.string a2_1) := (blk_cell BK231.out 1).trans rfl; have hcz53_2 : w48.cell? ⟨gb231, 2, none⟩ = some (.slice A2_2 l2_2.length c2_2) := (blk_cell BK231.out 2).trans rfl; have hfz53_0 := blk_frozen BK231.out 0; have hfz53_1 := blk_frozen BK231.out 1; have hfz53_2 := blk_frozen BK231.out 2))
         go_ret
         exact ⟨by first | rfl , by repeat (first | (with_reducible first | exact HB.out | apply pw_below_drewN ) )⟩
     · rw [if_neg c34] at H
       have c34b0 : (a2_0 == 0) = false := beq_eq_false_iff_ne.mpr c34
       have c34b1 : (a2_0 != 0) = true := bne_iff_ne.mpr c34
       obtain rfl := Option.some.inj H
       go_enter Tryd.func13, Tryd.ntmps13
       go_wp2_with (first | ((with_reducible refine gate_dst (N := 3) rfl ?_); (try (refine gate_guard (by rfl) ?_; dsimp only)); refine box_event ?hg (N := 3) ?hd (cs := #[.slice A0_0 l0_0.length c0_0, .slice A0_1 l0_1.length c0_1]) (t := 25) ?hr ?_; (case hd => rfl); (case hg => rfl); (case hr => first | (go_simp; done) | (go_simp; rfl)); intro gb229 hg w54 hbox hb; have n0_ := Aside0.mk (below_step HB.out hb); have n1_ := Aside0.mk (hbox); clear HB; have HB := n0_; have BK229 := n1_; clear n0_ n1_; clear hb hbox hg) | ((with_reducible refine gate_dst (N := 4) rfl ?_); (try (refine gate_guard (by rfl) ?_; dsimp only)); refine box_event ?hg (N := 4) ?hd (cs := #[.string a1_0, .int .i64 a1_1, .int .i64 a1_2, .string a1_3, .bool a1_4, .bool a1_5, .string a1_6]) (t := 36) ?hr ?_; (case hd => rfl); (case hg => rfl); (case hr => first | (go_simp; done) | (go_simp; rfl)); intro gb230 hg w55 hbox hb; have n0_ := Aside0.mk (blk_below BK229.out hb); have n1_ := Aside0.mk (below_step HB.out hb); have n2_ := Aside0.mk (hbox); have n5_ := Aside0.mk ((by rw [hg]; exact Nat.ne_of_lt (blk_lt BK229.out) : gb229 ≠ gb230)); have n6_ := Aside0.mk ((by rw [hg]; exact Nat.ne_of_gt (blk_lt BK229.out) : gb230 ≠ gb229)); clear BK229; clear HB; have BK229 := n0_; have HB := n1_; have BK230 := n2_; have NB229_230 := n5_; have NB230_229 := n6_; clear n0_ n1_ n2_ n5_ n6_; clear hb hbox hg) | ((with_reducible refine gate_dst (N := 5) rfl ?_); (try (refine gate_guard (by rfl) ?_; dsimp only)); refine box_event ?hg (N := 5) ?hd (cs := #[.int .u64 a2_0, .string a2_1, .slice A2_2 l2_2.length c2_2]) (t := 40) ?hr ?_; (case hd => rfl); (case hg => rfl); (case hr => first | (go_simp; done) | (go_simp; rfl)); intro gb231 hg w56 hbox hb; have n0_ := Aside0.mk (blk_below BK229.out hb); have n1_ := Aside0.mk (blk_below BK230.out hb); have n2_ := Aside0.mk (below_step HB.out hb); have n3_ := Aside0.mk (hbox); have n6_ := Aside0.mk ((by rw [hg]; exact Nat.ne_of_lt (blk_lt BK229.out) : gb229 ≠ gb231)); have n7_ := Aside0.mk ((by rw [hg]; exact Nat.ne_of_gt (blk_lt BK229.out) : gb231 ≠ gb229)); have n8_ := Aside0.mk ((by rw [hg]; exact Nat.ne_of_lt (blk_lt BK230.out) : gb230 ≠ gb231)); have n9_ := Aside0.mk ((by rw [hg]; exact Nat.ne_of_gt (blk_lt BK230.out) : gb231 ≠ gb230)); clear BK229; clear BK230; clear HB; have BK229 := n0_; have BK230 := n1_; have HB := n2_; have BK231 := n3_; have NB229_231 := n6_; have NB231_229 := n7_; have NB230_231 := n8_; have NB231_230 := n9_; clear n0_ n1_ n2_ n3_ n6_ n7_ n8_ n9_; clear hb hbox hg; have hnb57 := NB230_229.out; have hnc57 := NB229_230.out; have hnb58 := NB230_231.out; have hnc58 := NB231_230.out; have hcz59_0 : w56.cell? ⟨gb230, 0, none⟩ = some (.string a1_0) := (blk_cell BK230.out 0).trans rfl; have hcz59_1 : w56.cell? ⟨gb230, 1, none⟩ = some (.int .i64 a1_1) := (blk_cell BK230.out 1).trans rfl; have hcz59_2 : w56.cell? ⟨gb230, 2, none⟩ = some (.int .i64 a1_2) := (blk_cell BK230.out 2).trans rfl; have hcz59_3 : w56.cell? ⟨gb230, 3, none⟩ = some (.string a1_3) := (blk_cell BK230.out 3).trans rfl; have hcz59_4 : w56.cell? ⟨gb230, 4, none⟩ = some (.bool a1_4) := (blk_cell BK230.out 4).trans rfl; have hcz59_5 : w56.cell? ⟨gb230, 5, none⟩ = some (.bool a1_5) := (blk_cell BK230.out 5).trans rfl; have hcz59_6 : w56.cell? ⟨gb230, 6, none⟩ = some (.string a1_6) := (blk_cell BK230.out 6).trans rfl; have hfz59_0 := blk_frozen BK230.out 0; have hfz59_1 := blk_frozen BK230.out 1; have hfz59_2 := blk_frozen BK230.out 2; have hfz59_3 := blk_frozen BK230.out 3; have hfz59_4 := blk_frozen BK230.out 4; have hfz59_5 := blk_frozen BK230.out 5; have hfz59_6 := blk_frozen BK230.out 6) | ((with_reducible refine gate_callee (f := 26) rfl ?_); refine goesL_ (some 9) rfl rfl Tryd.func26 (by kernel_rfl) rfl #[.int .i64 a1_2] rfl (by (try simp only [List.map_toArray, List.map_cons, List.map_nil]); first | done | rfl | (simp only [List.length_drop, List.length_take]; rfl)) ?_; (with_reducible refine (ecdysisref11_Number.calls a1_2 false _ A4.out).mono ?_); rintro e w' ⟨rfl, ⟨nd, rfl⟩⟩; refine ⟨_, rfl, ?_⟩; have hnb60 := NB231_229.out; have hnc60 := NB229_231.out; have hcz61_0 : w56.cell? ⟨gb231, 0, none⟩ = some (.int .u64 a2_0) := (blk_cell BK231.out 0).trans rfl; have hcz61_1 : w56.cell? ⟨gb231, 1, none⟩ = some (.string a2_1) := (blk_cell BK231.out 1).trans rfl; have hcz61_2 : w56.cell? ⟨gb231, 2, none⟩ = some (.slice A2_2 l2_2.length c2_2) := (blk_cell BK231.out 2).trans rfl; have hfz61_0 := blk_frozen BK231.out 0; have hfz61_1 := blk_frozen BK231.out 1; have hfz61_2 := blk_frozen BK231.out 2))
       go_ret
       exact ⟨by first | rfl , by repeat (first | (with_reducible first | exact HB.out | apply pw_below_drewN ) )⟩
   · rw [if_neg c33] at H
     have c33b0 : (a1_2 == 12) = false := beq_eq_false_iff_ne.mpr c33
     have c33b1 : (a1_2 != 12) = true := bne_iff_ne.mpr c33
     by_cases c62 : a1_2 = 13
     · rw [if_pos c62] at H
       have c62b0 : (a1_2 == 13) = true := beq_iff_eq.mpr c62
       have c62b1 : (a1_2 != 13) = false := bne_eq_false_iff_eq.mpr c62
       clear c62
       by_cases c63 : a2_0 = 0
       · rw [if_pos c63] at H
         have c63b0 : (a2_0 == 0) = true := beq_iff_eq.mpr c63
         have c63b1 : (a2_0 != 0) = false := bne_eq_false_iff_eq.mpr c63
         clear c63
         obtain rfl := Option.some.inj H
         go_enter Tryd.func13, Tryd.ntmps13
         go_wp2_with (first | ((with_reducible refine gate_dst (N := 3) rfl ?_); (try (refine gate_guard (by rfl) ?_; dsimp only)); refine box_event ?hg (N := 3) ?hd (cs := #[.slice A0_0 l0_0.length c0_0, .slice A0_1 l0_1.length c0_1]) (t := 25) ?hr ?_; (case hd => rfl); (case hg => rfl); (case hr => first | (go_simp; done) | (go_simp; rfl)); intro gb229 hg w64 hbox hb; have n0_ := Aside0.mk (below_step HB.out hb); have n1_ := Aside0.mk (hbox); clear HB; have HB := n0_; have BK229 := n1_; clear n0_ n1_; clear hb hbox hg) | ((with_reducible refine gate_dst (N := 4) rfl ?_); (try (refine gate_guard (by rfl) ?_; dsimp only)); refine box_event ?hg (N := 4) ?hd (cs := #[.string a1_0, .int .i64 a1_1, .int .i64 a1_2, .string a1_3, .bool a1_4, .bool a1_5, .string a1_6]) (t := 36) ?hr ?_; (case hd => rfl); (case hg => rfl); (case hr => first | (go_simp; done) | (go_simp; rfl)); intro gb230 hg w65 hbox hb; have n0_ := Aside0.mk (blk_below BK229.out hb); have n1_ := Aside0.mk (below_step HB.out hb); have n2_ := Aside0.mk (hbox); have n5_ := Aside0.mk ((by rw [hg]; exact Nat.ne_of_lt (blk_lt BK229.out) : gb229 ≠ gb230)); have n6_ := Aside0.mk ((by rw [hg]; exact Nat.ne_of_gt (blk_lt BK229.out) : gb230 ≠ gb229)); clear BK229; clear HB; have BK229 := n0_; have HB := n1_; have BK230 := n2_; have NB229_230 := n5_; have NB230_229 := n6_; clear n0_ n1_ n2_ n5_ n6_; clear hb hbox hg) | ((with_reducible refine gate_dst (N := 5) rfl ?_); (try (refine gate_guard (by rfl) ?_; dsimp only)); refine box_event ?hg (N := 5) ?hd (cs := #[.int .u64 a2_0, .string a2_1, .slice A2_2 l2_2.length c2_2]) (t := 40) ?hr ?_; (case hd => rfl); (case hg => rfl); (case hr => first | (go_simp; done) | (go_simp; rfl)); intro gb231 hg w66 hbox hb; have n0_ := Aside0.mk (blk_below BK229.out hb); have n1_ := Aside0.mk (blk_below BK230.out hb); have n2_ := Aside0.mk (below_step HB.out hb); have n3_ := Aside0.mk (hbox); have n6_ := Aside0.mk ((by rw [hg]; exact Nat.ne_of_lt (blk_lt BK229.out) : gb229 ≠ gb231)); have n7_ := Aside0.mk ((by rw [hg]; exact Nat.ne_of_gt (blk_lt BK229.out) : gb231 ≠ gb229)); have n8_ := Aside0.mk ((by rw [hg]; exact Nat.ne_of_lt (blk_lt BK230.out) : gb230 ≠ gb231)); have n9_ := Aside0.mk ((by rw [hg]; exact Nat.ne_of_gt (blk_lt BK230.out) : gb231 ≠ gb230)); clear BK229; clear BK230; clear HB; have BK229 := n0_; have BK230 := n1_; have HB := n2_; have BK231 := n3_; have NB229_231 := n6_; have NB231_229 := n7_; have NB230_231 := n8_; have NB231_230 := n9_; clear n0_ n1_ n2_ n3_ n6_ n7_ n8_ n9_; clear hb hbox hg; have hnb67 := NB230_229.out; have hnc67 := NB229_230.out; have hnb68 := NB230_231.out; have hnc68 := NB231_230.out; have hcz69_0 : w66.cell? ⟨gb230, 0, none⟩ = some (.string a1_0) := (blk_cell BK230.out 0).trans rfl; have hcz69_1 : w66.cell? ⟨gb230, 1, none⟩ = some (.int .i64 a1_1) := (blk_cell BK230.out 1).trans rfl; have hcz69_2 : w66.cell? ⟨gb230, 2, none⟩ = some (.int .i64 a1_2) := (blk_cell BK230.out 2).trans rfl; have hcz69_3 : w66.cell? ⟨gb230, 3, none⟩ = some (.string a1_3) := (blk_cell BK230.out 3).trans rfl; have hcz69_4 : w66.cell? ⟨gb230, 4, none⟩ = some (.bool a1_4) := (blk_cell BK230.out 4).trans rfl; have hcz69_5 : w66.cell? ⟨gb230, 5, none⟩ = some (.bool a1_5) := (blk_cell BK230.out 5).trans rfl; have hcz69_6 : w66.cell? ⟨gb230, 6, none⟩ = some (.string a1_6) := (blk_cell BK230.out 6).trans rfl; have hfz69_0 := blk_frozen BK230.out 0; have hfz69_1 := blk_frozen BK230.out 1; have hfz69_2 := blk_frozen BK230.out 2; have hfz69_3 := blk_frozen BK230.out 3; have hfz69_4 := blk_frozen BK230.out 4; have hfz69_5 := blk_frozen BK230.out 5; have hfz69_6 := blk_frozen BK230.out 6) | ((with_reducible refine gate_callee (f := 26) rfl ?_); refine goesL_ (some 9) rfl rfl Tryd.func26 (by kernel_rfl) rfl #[.int .i64 a1_2] rfl (by (try simp only [List.map_toArray, List.map_cons, List.map_nil]); first | done | rfl | (simp only [List.length_drop, List.length_take]; rfl)) ?_; (with_reducible refine (ecdysisref11_Number.calls a1_2 false _ A4.out).mono ?_); rintro e w' ⟨rfl, ⟨nd, rfl⟩⟩; refine ⟨_, rfl, ?_⟩; have hnb70 := NB231_229.out; have hnc70 := NB229_231.out; have hcz71_0 : w66.cell? ⟨gb231, 0, none⟩ = some (.int .u64 a2_0) := (blk_cell BK231.out 0).trans rfl; have hcz71_1 : w66.cell? ⟨gb231, 1, none⟩ = some (.string a2_1) := (blk_cell BK231.out 1).trans rfl; have hcz71_2 : w66.cell? ⟨gb231, 2, none⟩ = some (.slice A2_2 l2_2.length c2_2) := (blk_cell BK231.out 2).trans rfl; have hfz71_0 := blk_frozen BK231.out 0; have hfz71_1 := blk_frozen BK231.out 1; have hfz71_2 := blk_frozen BK231.out 2))
         go_ret
         exact ⟨by first | rfl , by repeat (first | (with_reducible first | exact HB.out | apply pw_below_drewN ) )⟩
       · rw [if_neg c63] at H
         have c63b0 : (a2_0 == 0) = false := beq_eq_false_iff_ne.mpr c63
         have c63b1 : (a2_0 != 0) = true := bne_iff_ne.mpr c63
         obtain rfl := Option.some.inj H
         go_enter Tryd.func13, Tryd.ntmps13
         go_wp2_with (first | ((with_reducible refine gate_dst (N := 3) rfl ?_); (try (refine gate_guard (by rfl) ?_; dsimp only)); refine box_event ?hg (N := 3) ?hd (cs := #[.slice A0_0 l0_0.length c0_0, .slice A0_1 l0_1.length c0_1]) (t := 25) ?hr ?_; (case hd => rfl); (case hg => rfl); (case hr => first | (go_simp; done) | (go_simp; rfl)); intro gb229 hg w72 hbox hb; have n0_ := Aside0.mk (below_step HB.out hb); have n1_ := Aside0.mk (hbox); clear HB; have HB := n0_; have BK229 := n1_; clear n0_ n1_; clear hb hbox hg) | ((with_reducible refine gate_dst (N := 4) rfl ?_); (try (refine gate_guard (by rfl) ?_; dsimp only)); refine box_event ?hg (N := 4) ?hd (cs := #[.string a1_0, .int .i64 a1_1, .int .i64 a1_2, .string a1_3, .bool a1_4, .bool a1_5, .string a1_6]) (t := 36) ?hr ?_; (case hd => rfl); (case hg => rfl); (case hr => first | (go_simp; done) | (go_simp; rfl)); intro gb230 hg w73 hbox hb; have n0_ := Aside0.mk (blk_below BK229.out hb); have n1_ := Aside0.mk (below_step HB.out hb); have n2_ := Aside0.mk (hbox); have n5_ := Aside0.mk ((by rw [hg]; exact Nat.ne_of_lt (blk_lt BK229.out) : gb229 ≠ gb230)); have n6_ := Aside0.mk ((by rw [hg]; exact Nat.ne_of_gt (blk_lt BK229.out) : gb230 ≠ gb229)); clear BK229; clear HB; have BK229 := n0_; have HB := n1_; have BK230 := n2_; have NB229_230 := n5_; have NB230_229 := n6_; clear n0_ n1_ n2_ n5_ n6_; clear hb hbox hg) | ((with_reducible refine gate_dst (N := 5) rfl ?_); (try (refine gate_guard (by rfl) ?_; dsimp only)); refine box_event ?hg (N := 5) ?hd (cs := #[.int .u64 a2_0, .string a2_1, .slice A2_2 l2_2.length c2_2]) (t := 40) ?hr ?_; (case hd => rfl); (case hg => rfl); (case hr => first | (go_simp; done) | (go_simp; rfl)); intro gb231 hg w74 hbox hb; have n0_ := Aside0.mk (blk_below BK229.out hb); have n1_ := Aside0.mk (blk_below BK230.out hb); have n2_ := Aside0.mk (below_step HB.out hb); have n3_ := Aside0.mk (hbox); have n6_ := Aside0.mk ((by rw [hg]; exact Nat.ne_of_lt (blk_lt BK229.out) : gb229 ≠ gb231)); have n7_ := Aside0.mk ((by rw [hg]; exact Nat.ne_of_gt (blk_lt BK229.out) : gb231 ≠ gb229)); have n8_ := Aside0.mk ((by rw [hg]; exact Nat.ne_of_lt (blk_lt BK230.out) : gb230 ≠ gb231)); have n9_ := Aside0.mk ((by rw [hg]; exact Nat.ne_of_gt (blk_lt BK230.out) : gb231 ≠ gb230)); clear BK229; clear BK230; clear HB; have BK229 := n0_; have BK230 := n1_; have HB := n2_; have BK231 := n3_; have NB229_231 := n6_; have NB231_229 := n7_; have NB230_231 := n8_; have NB231_230 := n9_; clear n0_ n1_ n2_ n3_ n6_ n7_ n8_ n9_; clear hb hbox hg; have hnb75 := NB230_229.out; have hnc75 := NB229_230.out; have hnb76 := NB230_231.out; have hnc76 := NB231_230.out; have hcz77_0 : w74.cell? ⟨gb230, 0, none⟩ = some (.string a1_0) := (blk_cell BK230.out 0).trans rfl; have hcz77_1 : w74.cell? ⟨gb230, 1, none⟩ = some (.int .i64 a1_1) := (blk_cell BK230.out 1).trans rfl; have hcz77_2 : w74.cell? ⟨gb230, 2, none⟩ = some (.int .i64 a1_2) := (blk_cell BK230.out 2).trans rfl; have hcz77_3 : w74.cell? ⟨gb230, 3, none⟩ = some (.string a1_3) := (blk_cell BK230.out 3).trans rfl; have hcz77_4 : w74.cell? ⟨gb230, 4, none⟩ = some (.bool a1_4) := (blk_cell BK230.out 4).trans rfl; have hcz77_5 : w74.cell? ⟨gb230, 5, none⟩ = some (.bool a1_5) := (blk_cell BK230.out 5).trans rfl; have hcz77_6 : w74.cell? ⟨gb230, 6, none⟩ = some (.string a1_6) := (blk_cell BK230.out 6).trans rfl; have hfz77_0 := blk_frozen BK230.out 0; have hfz77_1 := blk_frozen BK230.out 1; have hfz77_2 := blk_frozen BK230.out 2; have hfz77_3 := blk_frozen BK230.out 3; have hfz77_4 := blk_frozen BK230.out 4; have hfz77_5 := blk_frozen BK230.out 5; have hfz77_6 := blk_frozen BK230.out 6) | ((with_reducible refine gate_callee (f := 26) rfl ?_); refine goesL_ (some 9) rfl rfl Tryd.func26 (by kernel_rfl) rfl #[.int .i64 a1_2] rfl (by (try simp only [List.map_toArray, List.map_cons, List.map_nil]); first | done | rfl | (simp only [List.length_drop, List.length_take]; rfl)) ?_; (with_reducible refine (ecdysisref11_Number.calls a1_2 false _ A4.out).mono ?_); rintro e w' ⟨rfl, ⟨nd, rfl⟩⟩; refine ⟨_, rfl, ?_⟩; have hnb78 := NB231_229.out; have hnc78 := NB229_231.out; have hcz79_0 : w74.cell? ⟨gb231, 0, none⟩ = some (.int .u64 a2_0) := (blk_cell BK231.out 0).trans rfl; have hcz79_1 : w74.cell? ⟨gb231, 1, none⟩ = some (.string a2_1) := (blk_cell BK231.out 1).trans rfl; have hcz79_2 : w74.cell? ⟨gb231, 2, none⟩ = some (.slice A2_2 l2_2.length c2_2) := (blk_cell BK231.out 2).trans rfl; have hfz79_0 := blk_frozen BK231.out 0; have hfz79_1 := blk_frozen BK231.out 1; have hfz79_2 := blk_frozen BK231.out 2))
         go_ret
         exact ⟨by first | rfl , by repeat (first | (with_reducible first | exact HB.out | apply pw_below_drewN ) )⟩
     · rw [if_neg c62] at H
       have c62b0 : (a1_2 == 13) = false := beq_eq_false_iff_ne.mpr c62
       have c62b1 : (a1_2 != 13) = true := bne_iff_ne.mpr c62
       by_cases c80 : a1_2 = 15
       · rw [if_pos c80] at H
         have c80b0 : (a1_2 == 15) = true := beq_iff_eq.mpr c80
         have c80b1 : (a1_2 != 15) = false := bne_eq_false_iff_eq.mpr c80
         clear c80
         by_cases c81 : a2_0 = 0
         · rw [if_pos c81] at H
           have c81b0 : (a2_0 == 0) = true := beq_iff_eq.mpr c81
           have c81b1 : (a2_0 != 0) = false := bne_eq_false_iff_eq.mpr c81
           clear c81
           by_cases c82 : a2_1.toList = ([] : List UInt8)
           · rw [if_pos c82] at H
             have c82b0 : (a2_1.toList == ([] : List UInt8)) = true := beq_iff_eq.mpr c82
             have c82b1 : (a2_1.toList != ([] : List UInt8)) = false := bne_eq_false_iff_eq.mpr c82
             clear c82
             by_cases c83 : (l2_2.length : Int) = 1
             · rw [if_pos c83] at H
               have c83b0 : ((l2_2.length : Int) == 1) = true := beq_iff_eq.mpr c83
               have c83b1 : ((l2_2.length : Int) != 1) = false := bne_eq_false_iff_eq.mpr c83
               clear c83
               by_cases c84 : 0 < (l2_2.length : Int)
               · rw [if_pos c84] at H
                 have c84b0 : decide (0 < (l2_2.length : Int)) = true := decide_eq_true c84
                 have c84b1 : decide (0 < l2_2.length) = true := decide_eq_true (by omega)
                 clear c84
                 replace H := Option.bind_eq_some_iff.mp H
                 obtain ⟨t236, A850, H⟩ := H
                 replace H : (some t236) = some r := H
                 have A85 := Aside0.mk A850
                 clear A850
                 obtain rfl := Option.some.inj H
                 go_enter Tryd.func13, Tryd.ntmps13
                 try go_wp2_with (first | ((with_reducible refine gate_dst (N := 3) rfl ?_); (try (refine gate_guard (by rfl) ?_; dsimp only)); refine box_event ?hg (N := 3) ?hd (cs := #[.slice A0_0 l0_0.length c0_0, .slice A0_1 l0_1.length c0_1]) (t := 25) ?hr ?_; (case hd => rfl); (case hg => rfl); (case hr => first | (go_simp; done) | (go_simp; rfl)); intro gb229 hg w86 hbox hb; have n0_ := Aside0.mk (below_step HB.out hb); have n1_ := Aside0.mk (hbox); clear HB; have HB := n0_; have BK229 := n1_; clear n0_ n1_; clear hb hbox hg) | ((with_reducible refine gate_dst (N := 4) rfl ?_); (try (refine gate_guard (by rfl) ?_; dsimp only)); refine box_event ?hg (N := 4) ?hd (cs := #[.string a1_0, .int .i64 a1_1, .int .i64 a1_2, .string a1_3, .bool a1_4, .bool a1_5, .string a1_6]) (t := 36) ?hr ?_; (case hd => rfl); (case hg => rfl); (case hr => first | (go_simp; done) | (go_simp; rfl)); intro gb230 hg w87 hbox hb; have n0_ := Aside0.mk (blk_below BK229.out hb); have n1_ := Aside0.mk (below_step HB.out hb); have n2_ := Aside0.mk (hbox); have n5_ := Aside0.mk ((by rw [hg]; exact Nat.ne_of_lt (blk_lt BK229.out) : gb229 ≠ gb230)); have n6_ := Aside0.mk ((by rw [hg]; exact Nat.ne_of_gt (blk_lt BK229.out) : gb230 ≠ gb229)); clear BK229; clear HB; have BK229 := n0_; have HB := n1_; have BK230 := n2_; have NB229_230 := n5_; have NB230_229 := n6_; clear n0_ n1_ n2_ n5_ n6_; clear hb hbox hg) | ((with_reducible refine gate_dst (N := 5) rfl ?_); (try (refine gate_guard (by rfl) ?_; dsimp only)); refine box_event ?hg (N := 5) ?hd (cs := #[.int .u64 a2_0, .string a2_1, .slice A2_2 l2_2.length c2_2]) (t := 40) ?hr ?_; (case hd => rfl); (case hg => rfl); (case hr => first | (go_simp; done) | (go_simp; rfl)); intro gb231 hg w88 hbox hb; have n0_ := Aside0.mk (blk_below BK229.out hb); have n1_ := Aside0.mk (blk_below BK230.out hb); have n2_ := Aside0.mk (below_step HB.out hb); have n3_ := Aside0.mk (hbox); have n6_ := Aside0.mk ((by rw [hg]; exact Nat.ne_of_lt (blk_lt BK229.out) : gb229 ≠ gb231)); have n7_ := Aside0.mk ((by rw [hg]; exact Nat.ne_of_gt (blk_lt BK229.out) : gb231 ≠ gb229)); have n8_ := Aside0.mk ((by rw [hg]; exact Nat.ne_of_lt (blk_lt BK230.out) : gb230 ≠ gb231)); have n9_ := Aside0.mk ((by rw [hg]; exact Nat.ne_of_gt (blk_lt BK230.out) : gb231 ≠ gb230)); clear BK229; clear BK230; clear HB; have BK229 := n0_; have BK230 := n1_; have HB := n2_; have BK231 := n3_; have NB229_231 := n6_; have NB231_229 := n7_; have NB230_231 := n8_; have NB231_230 := n9_; clear n0_ n1_ n2_ n3_ n6_ n7_ n8_ n9_; clear hb hbox hg; have hnb89 := NB230_229.out; have hnc89 := NB229_230.out; have hnb90 := NB230_231.out; have hnc90 := NB231_230.out; have hcz91_0 : w88.cell? ⟨gb230, 0, none⟩ = some (.string a1_0) := (blk_cell BK230.out 0).trans rfl; have hcz91_1 : w88.cell? ⟨gb230, 1, none⟩ = some (.int .i64 a1_1) := (blk_cell BK230.out 1).trans rfl; have hcz91_2 : w88.cell? ⟨gb230, 2, none⟩ = some (.int .i64 a1_2) := (blk_cell BK230.out 2).trans rfl; have hcz91_3 : w88.cell? ⟨gb230, 3, none⟩ = some (.string a1_3) := (blk_cell BK230.out 3).trans rfl; have hcz91_4 : w88.cell? ⟨gb230, 4, none⟩ = some (.bool a1_4) := (blk_cell BK230.out 4).trans rfl; have hcz91_5 : w88.cell? ⟨gb230, 5, none⟩ = some (.bool a1_5) := (blk_cell BK230.out 5).trans rfl; have hcz91_6 : w88.cell? ⟨gb230, 6, none⟩ = some (.string a1_6) := (blk_cell BK230.out 6).trans rfl; have hfz91_0 := blk_frozen BK230.out 0; have hfz91_1 := blk_frozen BK230.out 1; have hfz91_2 := blk_frozen BK230.out 2; have hfz91_3 := blk_frozen BK230.out 3; have hfz91_4 := blk_frozen BK230.out 4; have hfz91_5 := blk_frozen BK230.out 5; have hfz91_6 := blk_frozen BK230.out 6) | ((with_reducible refine gate_callee (f := 26) rfl ?_); refine goesL_ (some 9) rfl rfl Tryd.func26 (by kernel_rfl) rfl #[.int .i64 a1_2] rfl (by (try simp only [List.map_toArray, List.map_cons, List.map_nil]); first | done | rfl | (simp only [List.length_drop, List.length_take]; rfl)) ?_; (with_reducible refine (ecdysisref11_Number.calls a1_2 false _ A4.out).mono ?_); rintro e w' ⟨rfl, ⟨nd, rfl⟩⟩; refine ⟨_, rfl, ?_⟩))
                 (try (rw [drewN_self w88]; generalize hq_ : World.drewN w88 _ = w88; have n0_ : Aside0 (w88.heap[gb229]? = some (.cells #[.slice A0_0 l0_0.length c0_0, .slice A0_1 l0_1.length c0_1] 25 (0, 0))) := ⟨by rw [← hq_]; exact (by (with_reducible repeat (first | refine blk_drewN ?_ _ )); exact BK229.out)⟩; have n1_ : Aside0 (w88.heap[gb230]? = some (.cells #[.string a1_0, .int .i64 a1_1, .int .i64 a1_2, .string a1_3, .bool a1_4, .bool a1_5, .string a1_6] 36 (0, 0))) := ⟨by rw [← hq_]; exact (by (with_reducible repeat (first | refine blk_drewN ?_ _ )); exact BK230.out)⟩; have n2_ : Aside0 (w88.heap[gb231]? = some (.cells #[.int .u64 a2_0, .string a2_1, .slice A2_2 l2_2.length c2_2] 40 (0, 0))) := ⟨by rw [← hq_]; exact (by (with_reducible repeat (first | refine blk_drewN ?_ _ )); exact BK231.out)⟩; have n3_ : Aside0 (Below w.heap.size w w88) := ⟨by rw [← hq_]; exact (by repeat (first | (with_reducible first | exact HB.out | apply pw_below_drewN ) ))⟩; clear BK229 BK230 BK231 HB hq_; have BK229 := n0_; have BK230 := n1_; have BK231 := n2_; have HB := n3_; clear n0_ n1_ n2_ n3_))
                 have n0_ := Aside0.mk (blk_drew BK229.out)
                 have n1_ := Aside0.mk (blk_drew BK230.out)
                 have n2_ := Aside0.mk (blk_drew BK231.out)
                 have n3_ := Aside0.mk (below_drew1 HB.out)
                 clear BK229
                 clear BK230
                 clear BK231
                 clear HB
                 have BK229 := n0_
                 have BK230 := n1_
                 have BK231 := n2_
                 have HB := n3_
                 clear n0_ n1_ n2_ n3_
                 have p235 : 0 ≤ (0 : Int) := (by omega)
                 have q235 : 0 < (l2_2.length : Int) := of_decide_eq_true (by first | (with_reducible assumption) )
                 obtain ⟨ad235, A235_0, c235_0, A235_1, c235_1, e235, hx235_0, hx235_1, hl235_0, hi235_0, hl235_1, hi235_1⟩ := at_T29 HR2_2.out 0 p235 q235
                 have hw235_1 := hx235_1
                 (try rw [show ((0 : Int)).toNat = 0 from rfl] at hw235_1)
                 (try rw [show 0 * 2 = 0 from rfl] at hw235_1)
                 (try rw [Addr.add_zero'] at hw235_1)
                 have hw235_0 := hx235_0
                 (try rw [show ((0 : Int)).toNat = 0 from rfl] at hw235_0)
                 (try rw [show 0 * 2 = 0 from rfl] at hw235_0)
                 (try rw [Addr.add_zero'] at hw235_0)
                 cases e235
                 have qi235 : (0 < l2_2.length) = True := eq_true (by omega)
                 (try rw [show ((0 : Int)).toNat = 0 from rfl] at hx235_0)
                 (try rw [show 0 * 2 = 0 from rfl] at hx235_0)
                 (try rw [Addr.add_zero'] at hx235_0)
                 (try rw [show ((0 : Int)).toNat = 0 from rfl] at hx235_1)
                 (try rw [show 0 * 2 = 0 from rfl] at hx235_1)
                 (try rw [Addr.add_zero'] at hx235_1)
                 replace hx235_0 := (HB.out.cell (World.block_lt_of_cell? w _ hx235_0)).trans hx235_0
                 replace hx235_1 := (HB.out.cell (World.block_lt_of_cell? w _ hx235_1)).trans hx235_1
                 have HR235_0 := Aside0.mk hi235_0
                 have HC235_0 := Aside0.mk hl235_0
                 clear hi235_0 hl235_0
                 have HR235_1 := Aside0.mk hi235_1
                 have HC235_1 := Aside0.mk hl235_1
                 clear hi235_1 hl235_1
                 replace p235 := eq_true p235
                 replace q235 := eq_true q235
                 refine start_ (n := 25) (S := fun w' => w'.cell? ⟨gb231, 0, none⟩ = some (.int .u64 a2_0) ∧ w'.cell? ⟨gb231, 1, none⟩ = some (.string a2_1) ∧ w'.cell? ⟨gb231, 2, none⟩ = some (.slice (some ad235) l2_2.length c2_2) ∧ w'.cell? ⟨gb229, 0, none⟩ = some (.slice A0_0 l0_0.length c0_0) ∧ w'.cell? ⟨gb229, 1, none⟩ = some (.slice A0_1 l0_1.length c0_1) ∧ w'.cell? ⟨gb230, 0, none⟩ = some (.string a1_0) ∧ w'.cell? ⟨gb230, 1, none⟩ = some (.int .i64 a1_1) ∧ w'.cell? ⟨gb230, 2, none⟩ = some (.int .i64 a1_2) ∧ w'.cell? ⟨gb230, 3, none⟩ = some (.string a1_3) ∧ w'.cell? ⟨gb230, 4, none⟩ = some (.bool a1_4) ∧ w'.cell? ⟨gb230, 5, none⟩ = some (.bool a1_5) ∧ w'.cell? ⟨gb230, 6, none⟩ = some (.string a1_6) ∧ w'.cell? ad235 = some (.slice A235_0 ((rd_T29 l2_2 0).f0).length c235_0) ∧ w'.cell? ⟨ad235.block, ad235.off + 1, none⟩ = some (.slice A235_1 ((rd_T29 l2_2 0).f1).length c235_1)) (ds := []) #[false, false, false, false, false, false, false, false, false, false, false, false, false, false, false, false, false, false, false, false, false, false, false, false, false] (by kernel_rfl) rfl rfl ⟨(blk_cell BK231.out 0).trans rfl, (blk_cell BK231.out 1).trans rfl, (blk_cell BK231.out 2).trans rfl, (blk_cell BK229.out 0).trans rfl, (blk_cell BK229.out 1).trans rfl, (blk_cell BK230.out 0).trans rfl, (blk_cell BK230.out 1).trans rfl, (blk_cell BK230.out 2).trans rfl, (blk_cell BK230.out 3).trans rfl, (blk_cell BK230.out 4).trans rfl, (blk_cell BK230.out 5).trans rfl, (blk_cell BK230.out 6).trans rfl, ((HB.out.cell (World.block_lt_of_cell? w _ hw235_0)).trans hw235_0), ((HB.out.cell (World.block_lt_of_cell? w _ hw235_1)).trans hw235_1)⟩ (fun hHeld => ?_); refine with_tabW ecdysisref20_Val.tab9 ecdysisref20_Val.bits9 (fun HT_ HW_ => ?_)
                 generalize w88.drew = w92 at BK229 BK230 BK231 HB HR235_0 HR235_1 hx235_0 hx235_1 hHeld ⊢
                 refine zp 0 (zb 25 1) ?_ rfl rfl HT_ (by kernel_rfl) (fun _ _ _ h => h) rfl ?_ ?_ ?_ ?_; rotate_left; (intro w'; go_simp; with_reducible rfl); rotate_left; (simp only [zs]; rfl)
                 refine zt 1 (zb 25 3) ?_ rfl rfl HT_ HW_ (by kernel_rfl) (fun _ _ _ h => h) rfl ?_ hHeld ?_ ?_ ?_; rotate_left; (rintro w' ⟨s0, s1, s2, s3, s4, s5, s6, s7, s8, s9, s10, s11, s12, s13⟩; go_simp; with_reducible rfl); rotate_left; (simp only [zs]; rfl)
                 refine zp 2 (zb 25 7) ?_ rfl rfl HT_ (by kernel_rfl) (fun _ _ _ h => h) rfl ?_ ?_ ?_ ?_; rotate_left; (intro w'; go_simp; with_reducible rfl); rotate_left; (simp only [zs]; rfl)
                 refine zp 3 (zb 25 15) ?_ rfl rfl HT_ (by kernel_rfl) (fun _ _ _ h => h) rfl ?_ ?_ ?_ ?_; rotate_left; (intro w'; go_simp; with_reducible rfl); rotate_left; (simp only [zs]; rfl)
                 refine zp 4 (zb 25 31) ?_ rfl rfl HT_ (by kernel_rfl) (fun _ _ _ h => h) rfl ?_ ?_ ?_ ?_; rotate_left; (intro w'; go_simp; with_reducible rfl); rotate_left; (simp only [zs]; rfl)
                 refine zt 5 (zb 25 63) ?_ rfl rfl HT_ HW_ (by kernel_rfl) (fun _ _ _ h => h) rfl ?_ hHeld ?_ ?_ ?_; rotate_left; (rintro w' ⟨s0, s1, s2, s3, s4, s5, s6, s7, s8, s9, s10, s11, s12, s13⟩; go_simp; with_reducible rfl); rotate_left; (simp only [zs]; rfl)
                 refine zp 6 (zb 25 127) ?_ rfl rfl HT_ (by kernel_rfl) (fun _ _ _ h => h) rfl ?_ ?_ ?_ ?_; rotate_left; (intro w'; go_simp; with_reducible rfl); rotate_left; (simp only [zs]; rfl)
                 refine zp 7 (zb 25 255) ?_ rfl rfl HT_ (by kernel_rfl) (fun _ _ _ h => h) rfl ?_ ?_ ?_ ?_; rotate_left; (intro w'; go_simp; with_reducible rfl); rotate_left; (simp only [zs]; rfl)
                 refine zp 8 (zb 25 511) ?_ rfl rfl HT_ (by kernel_rfl) (fun _ _ _ h => h) rfl ?_ ?_ ?_ ?_; rotate_left; (intro w'; go_simp; with_reducible rfl); rotate_left; (simp only [zs]; rfl)
                 refine zp 9 (zb 25 1023) ?_ rfl rfl HT_ (by kernel_rfl) (fun _ _ _ h => h) rfl ?_ ?_ ?_ ?_; rotate_left; (intro w'; go_simp; with_reducible rfl); rotate_left; (simp only [zs]; rfl)
                 refine zt 10 (zb 25 2047) ?_ rfl rfl HT_ HW_ (by kernel_rfl) (fun _ _ _ h => h) rfl ?_ hHeld ?_ ?_ ?_; rotate_left; (rintro w' ⟨s0, s1, s2, s3, s4, s5, s6, s7, s8, s9, s10, s11, s12, s13⟩; go_simp; with_reducible rfl); rotate_left; (simp only [zs]; rfl)
                 refine zp 11 (zb 25 4095) ?_ rfl rfl HT_ (by kernel_rfl) (fun _ _ _ h => h) rfl ?_ ?_ ?_ ?_; rotate_left; (intro w'; go_simp; with_reducible rfl); rotate_left; (simp only [zs]; rfl)
                 refine zp 12 (zb 25 8191) ?_ rfl rfl HT_ (by kernel_rfl) (fun _ _ _ h => h) rfl ?_ ?_ ?_ ?_; rotate_left; (intro w'; go_simp; with_reducible rfl); rotate_left; (simp only [zs]; rfl)
                 refine zp 13 (zb 25 16383) ?_ rfl rfl HT_ (by kernel_rfl) (fun _ _ _ h => h) rfl ?_ ?_ ?_ ?_; rotate_left; (intro w'; go_simp; with_reducible rfl); rotate_left; (simp only [zs]; rfl)
                 refine zp 14 (zb 25 32767) ?_ rfl rfl HT_ (by kernel_rfl) (fun _ _ _ h => h) rfl ?_ ?_ ?_ ?_; rotate_left; (intro w'; go_simp; with_reducible rfl); rotate_left; (simp only [zs]; rfl)
                 refine zp 16 (zb 25 98303) ?_ rfl rfl HT_ (by kernel_rfl) (fun _ _ _ h => h) rfl ?_ ?_ ?_ ?_; rotate_left; (intro w'; go_simp; with_reducible rfl); rotate_left; (simp only [zs]; rfl)
                 refine zp 18 (zb 25 360447) ?_ rfl rfl HT_ (by kernel_rfl) (fun _ _ _ h => h) rfl ?_ ?_ ?_ ?_; rotate_left; (intro w'; go_simp; with_reducible rfl); rotate_left; (simp only [zs]; rfl)
                 refine zt 15 (zb 25 393215) ?_ rfl rfl HT_ HW_ (by kernel_rfl) (fun _ _ _ h => h) rfl ?_ hHeld ?_ ?_ ?_; rotate_left; (rintro w' ⟨s0, s1, s2, s3, s4, s5, s6, s7, s8, s9, s10, s11, s12, s13⟩; go_simp; with_reducible rfl); rotate_left; (simp only [zs]; rfl)
                 refine zt 17 (zb 25 524287) ?_ rfl rfl HT_ HW_ (by kernel_rfl) (fun _ _ _ h => h) rfl ?_ hHeld ?_ ?_ ?_; rotate_left; (rintro w' ⟨s0, s1, s2, s3, s4, s5, s6, s7, s8, s9, s10, s11, s12, s13⟩; go_simp; with_reducible rfl); rotate_left; (simp only [zs]; rfl)
                 refine zt 19 (zb 25 1048575) ?_ rfl rfl HT_ HW_ (by kernel_rfl) (fun _ _ _ h => h) rfl ?_ hHeld ?_ ?_ ?_; rotate_left; (rintro w' ⟨s0, s1, s2, s3, s4, s5, s6, s7, s8, s9, s10, s11, s12, s13⟩; go_simp; with_reducible rfl); rotate_left; (simp only [zs]; rfl)
                 refine zp 20 (zb 25 2097151) ?_ rfl rfl HT_ (by kernel_rfl) (fun _ _ _ h => h) rfl ?_ ?_ ?_ ?_; rotate_left; (intro w'; go_simp; with_reducible rfl); rotate_left; (simp only [zs]; rfl)
                 refine zt 21 (zb 25 4194303) ?_ rfl rfl HT_ HW_ (by kernel_rfl) (fun _ _ _ h => h) rfl ?_ hHeld ?_ ?_ ?_; rotate_left; (rintro w' ⟨s0, s1, s2, s3, s4, s5, s6, s7, s8, s9, s10, s11, s12, s13⟩; go_simp; with_reducible rfl); rotate_left; (simp only [zs]; rfl)
                 refine one_ (i := 22) (N := some 79) #[true, true, true, true, true, true, true, true, true, true, true, true, true, true, true, true, true, true, true, true, true, true, true, false, false] rfl rfl (one_of HT_.out (by kernel_rfl)) (by decide) (fun K hK => ?_)
                 refine goes_ Tryd.func10 (by kernel_rfl) rfl #[.agg #[.slice A0_0 l0_0.length c0_0, .slice A0_1 l0_1.length c0_1], .string a1_3, .agg #[.slice A235_0 ((rd_T29 l2_2 0).f0).length c235_0, .slice A235_1 ((rd_T29 l2_2 0).f1).length c235_1]] (by rfl) rfl rfl (by (try simp only [List.map_toArray, List.map_cons, List.map_nil]); first | done | rfl | (simp only [List.length_drop, List.length_take]; rfl)) ?_
                 with_reducible refine (ih_ecdysisref20_Tree k (by omega) _ _ l0_0 _ _ l0_1 a1_3 _ _ ((rd_T29 l2_2 0).f0) _ _ ((rd_T29 l2_2 0).f1) t236 _ ?sideT ?side1 ?side2 ?side3 ?side4 ?side5 ?side6 ?side7 ?side8 A85.out).mono ?_
                 case sideT => exact Tabs.below HU8.out HB.out
                 (case side1 => repeat (first | exact (Kd.C_below HR0_0.out HB.out) ))
                 (case side2 => exact HC0_0.out)
                 (case side3 => repeat (first | exact (Kd.C_below HR0_1.out HB.out) ))
                 (case side4 => exact HC0_1.out)
                 (case side5 => repeat (first | exact (Kd.C_below HR235_0.out HB.out) ))
                 (case side6 => exact HC235_0.out)
                 (case side7 => repeat (first | exact (Kd.C_below HR235_1.out HB.out) ))
                 (case side8 => exact HC235_1.out)
                 rintro e w93 ⟨rfl, hb⟩
                 refine ⟨_, rfl, ?_⟩
                 have n0_ := Aside0.mk (blk_below BK229.out hb)
                 have n1_ := Aside0.mk (blk_below BK230.out hb)
                 have n2_ := Aside0.mk (blk_below BK231.out hb)
                 have n3_ := Aside0.mk (below_step HB.out hb)
                 clear BK229
                 clear BK230
                 clear BK231
                 clear HB
                 have BK229 := n0_
                 have BK230 := n1_
                 have BK231 := n2_
                 have HB := n3_
                 clear n0_ n1_ n2_ n3_
                 (try clear hb)
                 (try clear hb2)
                 (try clear hk)
                 (try clear hi)
                 refine hK.out _ _ ⟨(blk_cell BK231.out 0).trans rfl, (blk_cell BK231.out 1).trans rfl, (blk_cell BK231.out 2).trans rfl, (blk_cell BK229.out 0).trans rfl, (blk_cell BK229.out 1).trans rfl, (blk_cell BK230.out 0).trans rfl, (blk_cell BK230.out 1).trans rfl, (blk_cell BK230.out 2).trans rfl, (blk_cell BK230.out 3).trans rfl, (blk_cell BK230.out 4).trans rfl, (blk_cell BK230.out 5).trans rfl, (blk_cell BK230.out 6).trans rfl, ((HB.out.cell (World.block_lt_of_cell? w _ hw235_0)).trans hw235_0), ((HB.out.cell (World.block_lt_of_cell? w _ hw235_1)).trans hw235_1)⟩ (fun hHeld => ?_)
                 clear hK K
                 refine norm_ (a' := ?_) ?_ ?_
                 rotate_left
                 · show Act.put _ (some 79) _ = _
                   simp only [zs]
                   rfl
                 refine zp 23 (zb 25 16777215) ?_ rfl rfl HT_ (by kernel_rfl) (fun _ _ _ h => h) rfl ?_ ?_ ?_ ?_; rotate_left; (intro w'; go_simp; with_reducible rfl); rotate_left; (simp only [zs]; rfl)
                 refine zp 24 (zb 25 33554431) ?_ rfl rfl HT_ (by kernel_rfl) (fun _ _ _ h => h) rfl ?_ ?_ ?_ ?_; rotate_left; (intro w'; go_simp; with_reducible rfl); rotate_left; (simp only [zs]; rfl)
                 refine done_ (done_of HT_.out (by kernel_rfl)) ?_
                 try go_wp2
                 go_ret
                 exact ⟨by first | rfl , by exact HB.out⟩
               · rw [if_neg c84] at H
                 exact absurd H (by simp)
             · rw [if_neg c83] at H
               have c83b0 : ((l2_2.length : Int) == 1) = false := beq_eq_false_iff_ne.mpr c83
               have c83b1 : ((l2_2.length : Int) != 1) = true := bne_iff_ne.mpr c83
               obtain rfl := Option.some.inj H
               go_enter Tryd.func13, Tryd.ntmps13
               try go_wp2_with (first | ((with_reducible refine gate_dst (N := 3) rfl ?_); (try (refine gate_guard (by rfl) ?_; dsimp only)); refine box_event ?hg (N := 3) ?hd (cs := #[.slice A0_0 l0_0.length c0_0, .slice A0_1 l0_1.length c0_1]) (t := 25) ?hr ?_; (case hd => rfl); (case hg => rfl); (case hr => first | (go_simp; done) | (go_simp; rfl)); intro gb229 hg w94 hbox hb; have n0_ := Aside0.mk (below_step HB.out hb); have n1_ := Aside0.mk (hbox); clear HB; have HB := n0_; have BK229 := n1_; clear n0_ n1_; clear hb hbox hg) | ((with_reducible refine gate_dst (N := 4) rfl ?_); (try (refine gate_guard (by rfl) ?_; dsimp only)); refine box_event ?hg (N := 4) ?hd (cs := #[.string a1_0, .int .i64 a1_1, .int .i64 a1_2, .string a1_3, .bool a1_4, .bool a1_5, .string a1_6]) (t := 36) ?hr ?_; (case hd => rfl); (case hg => rfl); (case hr => first | (go_simp; done) | (go_simp; rfl)); intro gb230 hg w95 hbox hb; have n0_ := Aside0.mk (blk_below BK229.out hb); have n1_ := Aside0.mk (below_step HB.out hb); have n2_ := Aside0.mk (hbox); have n5_ := Aside0.mk ((by rw [hg]; exact Nat.ne_of_lt (blk_lt BK229.out) : gb229 ≠ gb230)); have n6_ := Aside0.mk ((by rw [hg]; exact Nat.ne_of_gt (blk_lt BK229.out) : gb230 ≠ gb229)); clear BK229; clear HB; have BK229 := n0_; have HB := n1_; have BK230 := n2_; have NB229_230 := n5_; have NB230_229 := n6_; clear n0_ n1_ n2_ n5_ n6_; clear hb hbox hg) | ((with_reducible refine gate_dst (N := 5) rfl ?_); (try (refine gate_guard (by rfl) ?_; dsimp only)); refine box_event ?hg (N := 5) ?hd (cs := #[.int .u64 a2_0, .string a2_1, .slice A2_2 l2_2.length c2_2]) (t := 40) ?hr ?_; (case hd => rfl); (case hg => rfl); (case hr => first | (go_simp; done) | (go_simp; rfl)); intro gb231 hg w96 hbox hb; have n0_ := Aside0.mk (blk_below BK229.out hb); have n1_ := Aside0.mk (blk_below BK230.out hb); have n2_ := Aside0.mk (below_step HB.out hb); have n3_ := Aside0.mk (hbox); have n6_ := Aside0.mk ((by rw [hg]; exact Nat.ne_of_lt (blk_lt BK229.out) : gb229 ≠ gb231)); have n7_ := Aside0.mk ((by rw [hg]; exact Nat.ne_of_gt (blk_lt BK229.out) : gb231 ≠ gb229)); have n8_ := Aside0.mk ((by rw [hg]; exact Nat.ne_of_lt (blk_lt BK230.out) : gb230 ≠ gb231)); have n9_ := Aside0.mk ((by rw [hg]; exact Nat.ne_of_gt (blk_lt BK230.out) : gb231 ≠ gb230)); clear BK229; clear BK230; clear HB; have BK229 := n0_; have BK230 := n1_; have HB := n2_; have BK231 := n3_; have NB229_231 := n6_; have NB231_229 := n7_; have NB230_231 := n8_; have NB231_230 := n9_; clear n0_ n1_ n2_ n3_ n6_ n7_ n8_ n9_; clear hb hbox hg; have hnb97 := NB230_229.out; have hnc97 := NB229_230.out; have hnb98 := NB230_231.out; have hnc98 := NB231_230.out; have hcz99_0 : w96.cell? ⟨gb230, 0, none⟩ = some (.string a1_0) := (blk_cell BK230.out 0).trans rfl; have hcz99_1 : w96.cell? ⟨gb230, 1, none⟩ = some (.int .i64 a1_1) := (blk_cell BK230.out 1).trans rfl; have hcz99_2 : w96.cell? ⟨gb230, 2, none⟩ = some (.int .i64 a1_2) := (blk_cell BK230.out 2).trans rfl; have hcz99_3 : w96.cell? ⟨gb230, 3, none⟩ = some (.string a1_3) := (blk_cell BK230.out 3).trans rfl; have hcz99_4 : w96.cell? ⟨gb230, 4, none⟩ = some (.bool a1_4) := (blk_cell BK230.out 4).trans rfl; have hcz99_5 : w96.cell? ⟨gb230, 5, none⟩ = some (.bool a1_5) := (blk_cell BK230.out 5).trans rfl; have hcz99_6 : w96.cell? ⟨gb230, 6, none⟩ = some (.string a1_6) := (blk_cell BK230.out 6).trans rfl; have hfz99_0 := blk_frozen BK230.out 0; have hfz99_1 := blk_frozen BK230.out 1; have hfz99_2 := blk_frozen BK230.out 2; have hfz99_3 := blk_frozen BK230.out 3; have hfz99_4 := blk_frozen BK230.out 4; have hfz99_5 := blk_frozen BK230.out 5; have hfz99_6 := blk_frozen BK230.out 6) | ((with_reducible refine gate_callee (f := 26) rfl ?_); refine goesL_ (some 9) rfl rfl Tryd.func26 (by kernel_rfl) rfl #[.int .i64 a1_2] rfl (by (try simp only [List.map_toArray, List.map_cons, List.map_nil]); first | done | rfl | (simp only [List.length_drop, List.length_take]; rfl)) ?_; (with_reducible refine (ecdysisref11_Number.calls a1_2 false _ A4.out).mono ?_); rintro e w' ⟨rfl, ⟨nd, rfl⟩⟩; refine ⟨_, rfl, ?_⟩))
               (try (rw [drewN_self w96]; generalize hq_ : World.drewN w96 _ = w96; have n0_ : Aside0 (w96.heap[gb229]? = some (.cells #[.slice A0_0 l0_0.length c0_0, .slice A0_1 l0_1.length c0_1] 25 (0, 0))) := ⟨by rw [← hq_]; exact (by (with_reducible repeat (first | refine blk_drewN ?_ _ )); exact BK229.out)⟩; have n1_ : Aside0 (w96.heap[gb230]? = some (.cells #[.string a1_0, .int .i64 a1_1, .int .i64 a1_2, .string a1_3, .bool a1_4, .bool a1_5, .string a1_6] 36 (0, 0))) := ⟨by rw [← hq_]; exact (by (with_reducible repeat (first | refine blk_drewN ?_ _ )); exact BK230.out)⟩; have n2_ : Aside0 (w96.heap[gb231]? = some (.cells #[.int .u64 a2_0, .string a2_1, .slice A2_2 l2_2.length c2_2] 40 (0, 0))) := ⟨by rw [← hq_]; exact (by (with_reducible repeat (first | refine blk_drewN ?_ _ )); exact BK231.out)⟩; have n3_ : Aside0 (Below w.heap.size w w96) := ⟨by rw [← hq_]; exact (by repeat (first | (with_reducible first | exact HB.out | apply pw_below_drewN ) ))⟩; clear BK229 BK230 BK231 HB hq_; have BK229 := n0_; have BK230 := n1_; have BK231 := n2_; have HB := n3_; clear n0_ n1_ n2_ n3_))
               have n0_ := Aside0.mk (blk_drew BK229.out)
               have n1_ := Aside0.mk (blk_drew BK230.out)
               have n2_ := Aside0.mk (blk_drew BK231.out)
               have n3_ := Aside0.mk (below_drew1 HB.out)
               clear BK229
               clear BK230
               clear BK231
               clear HB
               have BK229 := n0_
               have BK230 := n1_
               have BK231 := n2_
               have HB := n3_
               clear n0_ n1_ n2_ n3_
               refine start_ (n := 25) (S := fun w' => w'.cell? ⟨gb231, 0, none⟩ = some (.int .u64 a2_0) ∧ w'.cell? ⟨gb231, 1, none⟩ = some (.string a2_1) ∧ w'.cell? ⟨gb231, 2, none⟩ = some (.slice A2_2 l2_2.length c2_2)) (ds := []) #[false, false, false, false, false, false, false, false, false, false, false, false, false, false, false, false, false, false, false, false, false, false, false, false, false] (by kernel_rfl) rfl rfl ⟨(blk_cell BK231.out 0).trans rfl, (blk_cell BK231.out 1).trans rfl, (blk_cell BK231.out 2).trans rfl⟩ (fun hHeld => ?_); refine with_tabW ecdysisref20_Val.tab9 ecdysisref20_Val.bits9 (fun HT_ HW_ => ?_)
               generalize w96.drew = w100 at BK229 BK230 BK231 HB hHeld ⊢
               refine zp 0 (zb 25 1) ?_ rfl rfl HT_ (by kernel_rfl) (fun _ _ _ h => h) rfl ?_ ?_ ?_ ?_; rotate_left; (intro w'; go_simp; with_reducible rfl); rotate_left; (simp only [zs]; rfl)
               refine zt 1 (zb 25 3) ?_ rfl rfl HT_ HW_ (by kernel_rfl) (fun _ _ _ h => h) rfl ?_ hHeld ?_ ?_ ?_; rotate_left; (rintro w' ⟨s0, s1, s2⟩; go_simp; with_reducible rfl); rotate_left; (simp only [zs]; rfl)
               refine zp 2 (zb 25 7) ?_ rfl rfl HT_ (by kernel_rfl) (fun _ _ _ h => h) rfl ?_ ?_ ?_ ?_; rotate_left; (intro w'; go_simp; with_reducible rfl); rotate_left; (simp only [zs]; rfl)
               refine zp 3 (zb 25 15) ?_ rfl rfl HT_ (by kernel_rfl) (fun _ _ _ h => h) rfl ?_ ?_ ?_ ?_; rotate_left; (intro w'; go_simp; with_reducible rfl); rotate_left; (simp only [zs]; rfl)
               refine zp 4 (zb 25 31) ?_ rfl rfl HT_ (by kernel_rfl) (fun _ _ _ h => h) rfl ?_ ?_ ?_ ?_; rotate_left; (intro w'; go_simp; with_reducible rfl); rotate_left; (simp only [zs]; rfl)
               refine zt 5 (zb 25 63) ?_ rfl rfl HT_ HW_ (by kernel_rfl) (fun _ _ _ h => h) rfl ?_ hHeld ?_ ?_ ?_; rotate_left; (rintro w' ⟨s0, s1, s2⟩; go_simp; with_reducible rfl); rotate_left; (simp only [zs]; rfl)
               refine zp 6 (zb 25 127) ?_ rfl rfl HT_ (by kernel_rfl) (fun _ _ _ h => h) rfl ?_ ?_ ?_ ?_; rotate_left; (intro w'; go_simp; with_reducible rfl); rotate_left; (simp only [zs]; rfl)
               refine zp 7 (zb 25 255) ?_ rfl rfl HT_ (by kernel_rfl) (fun _ _ _ h => h) rfl ?_ ?_ ?_ ?_; rotate_left; (intro w'; go_simp; with_reducible rfl); rotate_left; (simp only [zs]; rfl)
               refine zp 8 (zb 25 511) ?_ rfl rfl HT_ (by kernel_rfl) (fun _ _ _ h => h) rfl ?_ ?_ ?_ ?_; rotate_left; (intro w'; go_simp; with_reducible rfl); rotate_left; (simp only [zs]; rfl)
               refine zp 9 (zb 25 1023) ?_ rfl rfl HT_ (by kernel_rfl) (fun _ _ _ h => h) rfl ?_ ?_ ?_ ?_; rotate_left; (intro w'; go_simp; with_reducible rfl); rotate_left; (simp only [zs]; rfl)
               refine zt 10 (zb 25 2047) ?_ rfl rfl HT_ HW_ (by kernel_rfl) (fun _ _ _ h => h) rfl ?_ hHeld ?_ ?_ ?_; rotate_left; (rintro w' ⟨s0, s1, s2⟩; go_simp; with_reducible rfl); rotate_left; (simp only [zs]; rfl)
               refine zp 11 (zb 25 4095) ?_ rfl rfl HT_ (by kernel_rfl) (fun _ _ _ h => h) rfl ?_ ?_ ?_ ?_; rotate_left; (intro w'; go_simp; with_reducible rfl); rotate_left; (simp only [zs]; rfl)
               refine zp 12 (zb 25 8191) ?_ rfl rfl HT_ (by kernel_rfl) (fun _ _ _ h => h) rfl ?_ ?_ ?_ ?_; rotate_left; (intro w'; go_simp; with_reducible rfl); rotate_left; (simp only [zs]; rfl)
               refine zp 13 (zb 25 16383) ?_ rfl rfl HT_ (by kernel_rfl) (fun _ _ _ h => h) rfl ?_ ?_ ?_ ?_; rotate_left; (intro w'; go_simp; with_reducible rfl); rotate_left; (simp only [zs]; rfl)
               refine zp 14 (zb 25 32767) ?_ rfl rfl HT_ (by kernel_rfl) (fun _ _ _ h => h) rfl ?_ ?_ ?_ ?_; rotate_left; (intro w'; go_simp; with_reducible rfl); rotate_left; (simp only [zs]; rfl)
               refine zn 15 (zb 25 65535) rfl rfl HT_ (by kernel_rfl) (fun _ _ _ h => h) rfl ?_ ?_ ?_; rotate_left; (simp only [zs]; rfl)
               refine zn 16 (zb 25 131071) rfl rfl HT_ (by kernel_rfl) (fun _ _ _ h => h) rfl ?_ ?_ ?_; rotate_left; (simp only [zs]; rfl)
               refine zn 17 (zb 25 262143) rfl rfl HT_ (by kernel_rfl) (fun _ _ _ h => h) rfl ?_ ?_ ?_; rotate_left; (simp only [zs]; rfl)
               refine zn 18 (zb 25 524287) rfl rfl HT_ (by kernel_rfl) (fun _ _ _ h => h) rfl ?_ ?_ ?_; rotate_left; (simp only [zs]; rfl)
               refine zn 19 (zb 25 1048575) rfl rfl HT_ (by kernel_rfl) (fun _ _ _ h => h) rfl ?_ ?_ ?_; rotate_left; (simp only [zs]; rfl)
               refine zn 20 (zb 25 2097151) rfl rfl HT_ (by kernel_rfl) (fun _ _ _ h => h) rfl ?_ ?_ ?_; rotate_left; (simp only [zs]; rfl)
               refine zn 21 (zb 25 4194303) rfl rfl HT_ (by kernel_rfl) (fun _ _ _ h => h) rfl ?_ ?_ ?_; rotate_left; (simp only [zs]; rfl)
               refine zn 22 (zb 25 8388607) rfl rfl HT_ (by kernel_rfl) (fun _ _ _ h => h) rfl ?_ ?_ ?_; rotate_left; (simp only [zs]; rfl)
               refine zp 23 (zb 25 16777215) ?_ rfl rfl HT_ (by kernel_rfl) (fun _ _ _ h => h) rfl ?_ ?_ ?_ ?_; rotate_left; (intro w'; go_simp; with_reducible rfl); rotate_left; (simp only [zs]; rfl)
               refine zp 24 (zb 25 33554431) ?_ rfl rfl HT_ (by kernel_rfl) (fun _ _ _ h => h) rfl ?_ ?_ ?_ ?_; rotate_left; (intro w'; go_simp; with_reducible rfl); rotate_left; (simp only [zs]; rfl)
               refine done_ (done_of HT_.out (by kernel_rfl)) ?_
               try go_wp2
               go_ret
               exact ⟨by first | rfl , by exact HB.out⟩
           · rw [if_neg c82] at H
             have c82b0 : (a2_1.toList == ([] : List UInt8)) = false := beq_eq_false_iff_ne.mpr c82
             have c82b1 : (a2_1.toList != ([] : List UInt8)) = true := bne_iff_ne.mpr c82
             obtain rfl := Option.some.inj H
             go_enter Tryd.func13, Tryd.ntmps13
             try go_wp2_with (first | ((with_reducible refine gate_dst (N := 3) rfl ?_); (try (refine gate_guard (by rfl) ?_; dsimp only)); refine box_event ?hg (N := 3) ?hd (cs := #[.slice A0_0 l0_0.length c0_0, .slice A0_1 l0_1.length c0_1]) (t := 25) ?hr ?_; (case hd => rfl); (case hg => rfl); (case hr => first | (go_simp; done) | (go_simp; rfl)); intro gb229 hg w101 hbox hb; have n0_ := Aside0.mk (below_step HB.out hb); have n1_ := Aside0.mk (hbox); clear HB; have HB := n0_; have BK229 := n1_; clear n0_ n1_; clear hb hbox hg) | ((with_reducible refine gate_dst (N := 4) rfl ?_); (try (refine gate_guard (by rfl) ?_; dsimp only)); refine box_event ?hg (N := 4) ?hd (cs := #[.string a1_0, .int .i64 a1_1, .int .i64 a1_2, .string a1_3, .bool a1_4, .bool a1_5, .string a1_6]) (t := 36) ?hr ?_; (case hd => rfl); (case hg => rfl); (case hr => first | (go_simp; done) | (go_simp; rfl)); intro gb230 hg w102 hbox hb; have n0_ := Aside0.mk (blk_below BK229.out hb); have n1_ := Aside0.mk (below_step HB.out hb); have n2_ := Aside0.mk (hbox); have n5_ := Aside0.mk ((by rw [hg]; exact Nat.ne_of_lt (blk_lt BK229.out) : gb229 ≠ gb230)); have n6_ := Aside0.mk ((by rw [hg]; exact Nat.ne_of_gt (blk_lt BK229.out) : gb230 ≠ gb229)); clear BK229; clear HB; have BK229 := n0_; have HB := n1_; have BK230 := n2_; have NB229_230 := n5_; have NB230_229 := n6_; clear n0_ n1_ n2_ n5_ n6_; clear hb hbox hg) | ((with_reducible refine gate_dst (N := 5) rfl ?_); (try (refine gate_guard (by rfl) ?_; dsimp only)); refine box_event ?hg (N := 5) ?hd (cs := #[.int .u64 a2_0, .string a2_1, .slice A2_2 l2_2.length c2_2]) (t := 40) ?hr ?_; (case hd => rfl); (case hg => rfl); (case hr => first | (go_simp; done) | (go_simp; rfl)); intro gb231 hg w103 hbox hb; have n0_ := Aside0.mk (blk_below BK229.out hb); have n1_ := Aside0.mk (blk_below BK230.out hb); have n2_ := Aside0.mk (below_step HB.out hb); have n3_ := Aside0.mk (hbox); have n6_ := Aside0.mk ((by rw [hg]; exact Nat.ne_of_lt (blk_lt BK229.out) : gb229 ≠ gb231)); have n7_ := Aside0.mk ((by rw [hg]; exact Nat.ne_of_gt (blk_lt BK229.out) : gb231 ≠ gb229)); have n8_ := Aside0.mk ((by rw [hg]; exact Nat.ne_of_lt (blk_lt BK230.out) : gb230 ≠ gb231)); have n9_ := Aside0.mk ((by rw [hg]; exact Nat.ne_of_gt (blk_lt BK230.out) : gb231 ≠ gb230)); clear BK229; clear BK230; clear HB; have BK229 := n0_; have BK230 := n1_; have HB := n2_; have BK231 := n3_; have NB229_231 := n6_; have NB231_229 := n7_; have NB230_231 := n8_; have NB231_230 := n9_; clear n0_ n1_ n2_ n3_ n6_ n7_ n8_ n9_; clear hb hbox hg; have hnb104 := NB230_229.out; have hnc104 := NB229_230.out; have hnb105 := NB230_231.out; have hnc105 := NB231_230.out; have hcz106_0 : w103.cell? ⟨gb230, 0, none⟩ = some (.string a1_0) := (blk_cell BK230.out 0).trans rfl; have hcz106_1 : w103.cell? ⟨gb230, 1, none⟩ = some (.int .i64 a1_1) := (blk_cell BK230.out 1).trans rfl; have hcz106_2 : w103.cell? ⟨gb230, 2, none⟩ = some (.int .i64 a1_2) := (blk_cell BK230.out 2).trans rfl; have hcz106_3 : w103.cell? ⟨gb230, 3, none⟩ = some (.string a1_3) := (blk_cell BK230.out 3).trans rfl; have hcz106_4 : w103.cell? ⟨gb230, 4, none⟩ = some (.bool a1_4) := (blk_cell BK230.out 4).trans rfl; have hcz106_5 : w103.cell? ⟨gb230, 5, none⟩ = some (.bool a1_5) := (blk_cell BK230.out 5).trans rfl; have hcz106_6 : w103.cell? ⟨gb230, 6, none⟩ = some (.string a1_6) := (blk_cell BK230.out 6).trans rfl; have hfz106_0 := blk_frozen BK230.out 0; have hfz106_1 := blk_frozen BK230.out 1; have hfz106_2 := blk_frozen BK230.out 2; have hfz106_3 := blk_frozen BK230.out 3; have hfz106_4 := blk_frozen BK230.out 4; have hfz106_5 := blk_frozen BK230.out 5; have hfz106_6 := blk_frozen BK230.out 6) | ((with_reducible refine gate_callee (f := 26) rfl ?_); refine goesL_ (some 9) rfl rfl Tryd.func26 (by kernel_rfl) rfl #[.int .i64 a1_2] rfl (by (try simp only [List.map_toArray, List.map_cons, List.map_nil]); first | done | rfl | (simp only [List.length_drop, List.length_take]; rfl)) ?_; (with_reducible refine (ecdysisref11_Number.calls a1_2 false _ A4.out).mono ?_); rintro e w' ⟨rfl, ⟨nd, rfl⟩⟩; refine ⟨_, rfl, ?_⟩))
             (try (rw [drewN_self w103]; generalize hq_ : World.drewN w103 _ = w103; have n0_ : Aside0 (w103.heap[gb229]? = some (.cells #[.slice A0_0 l0_0.length c0_0, .slice A0_1 l0_1.length c0_1] 25 (0, 0))) := ⟨by rw [← hq_]; exact (by (with_reducible repeat (first | refine blk_drewN ?_ _ )); exact BK229.out)⟩; have n1_ : Aside0 (w103.heap[gb230]? = some (.cells #[.string a1_0, .int .i64 a1_1, .int .i64 a1_2, .string a1_3, .bool a1_4, .bool a1_5, .string a1_6] 36 (0, 0))) := ⟨by rw [← hq_]; exact (by (with_reducible repeat (first | refine blk_drewN ?_ _ )); exact BK230.out)⟩; have n2_ : Aside0 (w103.heap[gb231]? = some (.cells #[.int .u64 a2_0, .string a2_1, .slice A2_2 l2_2.length c2_2] 40 (0, 0))) := ⟨by rw [← hq_]; exact (by (with_reducible repeat (first | refine blk_drewN ?_ _ )); exact BK231.out)⟩; have n3_ : Aside0 (Below w.heap.size w w103) := ⟨by rw [← hq_]; exact (by repeat (first | (with_reducible first | exact HB.out | apply pw_below_drewN ) ))⟩; clear BK229 BK230 BK231 HB hq_; have BK229 := n0_; have BK230 := n1_; have BK231 := n2_; have HB := n3_; clear n0_ n1_ n2_ n3_))
             have n0_ := Aside0.mk (blk_drew BK229.out)
             have n1_ := Aside0.mk (blk_drew BK230.out)
             have n2_ := Aside0.mk (blk_drew BK231.out)
             have n3_ := Aside0.mk (below_drew1 HB.out)
             clear BK229
             clear BK230
             clear BK231
             clear HB
             have BK229 := n0_
             have BK230 := n1_
             have BK231 := n2_
             have HB := n3_
             clear n0_ n1_ n2_ n3_
             refine start_ (n := 25) (S := fun w' => w'.cell? ⟨gb231, 0, none⟩ = some (.int .u64 a2_0) ∧ w'.cell? ⟨gb231, 1, none⟩ = some (.string a2_1) ∧ w'.cell? ⟨gb231, 2, none⟩ = some (.slice A2_2 l2_2.length c2_2)) (ds := []) #[false, false, false, false, false, false, false, false, false, false, false, false, false, false, false, false, false, false, false, false, false, false, false, false, false] (by kernel_rfl) rfl rfl ⟨(blk_cell BK231.out 0).trans rfl, (blk_cell BK231.out 1).trans rfl, (blk_cell BK231.out 2).trans rfl⟩ (fun hHeld => ?_); refine with_tabW ecdysisref20_Val.tab9 ecdysisref20_Val.bits9 (fun HT_ HW_ => ?_)
             generalize w103.drew = w107 at BK229 BK230 BK231 HB hHeld ⊢
             refine zp 0 (zb 25 1) ?_ rfl rfl HT_ (by kernel_rfl) (fun _ _ _ h => h) rfl ?_ ?_ ?_ ?_; rotate_left; (intro w'; go_simp; with_reducible rfl); rotate_left; (simp only [zs]; rfl)
             refine zt 1 (zb 25 3) ?_ rfl rfl HT_ HW_ (by kernel_rfl) (fun _ _ _ h => h) rfl ?_ hHeld ?_ ?_ ?_; rotate_left; (rintro w' ⟨s0, s1, s2⟩; go_simp; with_reducible rfl); rotate_left; (simp only [zs]; rfl)
             refine zp 2 (zb 25 7) ?_ rfl rfl HT_ (by kernel_rfl) (fun _ _ _ h => h) rfl ?_ ?_ ?_ ?_; rotate_left; (intro w'; go_simp; with_reducible rfl); rotate_left; (simp only [zs]; rfl)
             refine zp 3 (zb 25 15) ?_ rfl rfl HT_ (by kernel_rfl) (fun _ _ _ h => h) rfl ?_ ?_ ?_ ?_; rotate_left; (intro w'; go_simp; with_reducible rfl); rotate_left; (simp only [zs]; rfl)
             refine zp 4 (zb 25 31) ?_ rfl rfl HT_ (by kernel_rfl) (fun _ _ _ h => h) rfl ?_ ?_ ?_ ?_; rotate_left; (intro w'; go_simp; with_reducible rfl); rotate_left; (simp only [zs]; rfl)
             refine zt 5 (zb 25 63) ?_ rfl rfl HT_ HW_ (by kernel_rfl) (fun _ _ _ h => h) rfl ?_ hHeld ?_ ?_ ?_; rotate_left; (rintro w' ⟨s0, s1, s2⟩; go_simp; with_reducible rfl); rotate_left; (simp only [zs]; rfl)
             refine zp 6 (zb 25 127) ?_ rfl rfl HT_ (by kernel_rfl) (fun _ _ _ h => h) rfl ?_ ?_ ?_ ?_; rotate_left; (intro w'; go_simp; with_reducible rfl); rotate_left; (simp only [zs]; rfl)
             refine zp 7 (zb 25 255) ?_ rfl rfl HT_ (by kernel_rfl) (fun _ _ _ h => h) rfl ?_ ?_ ?_ ?_; rotate_left; (intro w'; go_simp; with_reducible rfl); rotate_left; (simp only [zs]; rfl)
             refine zp 8 (zb 25 511) ?_ rfl rfl HT_ (by kernel_rfl) (fun _ _ _ h => h) rfl ?_ ?_ ?_ ?_; rotate_left; (intro w'; go_simp; with_reducible rfl); rotate_left; (simp only [zs]; rfl)
             refine zn 9 (zb 25 1023) rfl rfl HT_ (by kernel_rfl) (fun _ _ _ h => h) rfl ?_ ?_ ?_; rotate_left; (simp only [zs]; rfl)
             refine zn 10 (zb 25 2047) rfl rfl HT_ (by kernel_rfl) (fun _ _ _ h => h) rfl ?_ ?_ ?_; rotate_left; (simp only [zs]; rfl)
             refine zn 11 (zb 25 4095) rfl rfl HT_ (by kernel_rfl) (fun _ _ _ h => h) rfl ?_ ?_ ?_; rotate_left; (simp only [zs]; rfl)
             refine zn 12 (zb 25 8191) rfl rfl HT_ (by kernel_rfl) (fun _ _ _ h => h) rfl ?_ ?_ ?_; rotate_left; (simp only [zs]; rfl)
             refine zp 13 (zb 25 16383) ?_ rfl rfl HT_ (by kernel_rfl) (fun _ _ _ h => h) rfl ?_ ?_ ?_ ?_; rotate_left; (intro w'; go_simp; with_reducible rfl); rotate_left; (simp only [zs]; rfl)
             refine zp 14 (zb 25 32767) ?_ rfl rfl HT_ (by kernel_rfl) (fun _ _ _ h => h) rfl ?_ ?_ ?_ ?_; rotate_left; (intro w'; go_simp; with_reducible rfl); rotate_left; (simp only [zs]; rfl)
             refine zn 15 (zb 25 65535) rfl rfl HT_ (by kernel_rfl) (fun _ _ _ h => h) rfl ?_ ?_ ?_; rotate_left; (simp only [zs]; rfl)
             refine zn 16 (zb 25 131071) rfl rfl HT_ (by kernel_rfl) (fun _ _ _ h => h) rfl ?_ ?_ ?_; rotate_left; (simp only [zs]; rfl)
             refine zn 17 (zb 25 262143) rfl rfl HT_ (by kernel_rfl) (fun _ _ _ h => h) rfl ?_ ?_ ?_; rotate_left; (simp only [zs]; rfl)
             refine zn 18 (zb 25 524287) rfl rfl HT_ (by kernel_rfl) (fun _ _ _ h => h) rfl ?_ ?_ ?_; rotate_left; (simp only [zs]; rfl)
             refine zn 19 (zb 25 1048575) rfl rfl HT_ (by kernel_rfl) (fun _ _ _ h => h) rfl ?_ ?_ ?_; rotate_left; (simp only [zs]; rfl)
             refine zn 20 (zb 25 2097151) rfl rfl HT_ (by kernel_rfl) (fun _ _ _ h => h) rfl ?_ ?_ ?_; rotate_left; (simp only [zs]; rfl)
             refine zn 21 (zb 25 4194303) rfl rfl HT_ (by kernel_rfl) (fun _ _ _ h => h) rfl ?_ ?_ ?_; rotate_left; (simp only [zs]; rfl)
             refine zn 22 (zb 25 8388607) rfl rfl HT_ (by kernel_rfl) (fun _ _ _ h => h) rfl ?_ ?_ ?_; rotate_left; (simp only [zs]; rfl)
             refine zp 23 (zb 25 16777215) ?_ rfl rfl HT_ (by kernel_rfl) (fun _ _ _ h => h) rfl ?_ ?_ ?_ ?_; rotate_left; (intro w'; go_simp; with_reducible rfl); rotate_left; (simp only [zs]; rfl)
             refine zp 24 (zb 25 33554431) ?_ rfl rfl HT_ (by kernel_rfl) (fun _ _ _ h => h) rfl ?_ ?_ ?_ ?_; rotate_left; (intro w'; go_simp; with_reducible rfl); rotate_left; (simp only [zs]; rfl)
             refine done_ (done_of HT_.out (by kernel_rfl)) ?_
             try go_wp2
             go_ret
             exact ⟨by first | rfl , by exact HB.out⟩
         · rw [if_neg c81] at H
           have c81b0 : (a2_0 == 0) = false := beq_eq_false_iff_ne.mpr c81
           have c81b1 : (a2_0 != 0) = true := bne_iff_ne.mpr c81
           obtain rfl := Option.some.inj H
           go_enter Tryd.func13, Tryd.ntmps13
           try go_wp2_with (first | ((with_reducible refine gate_dst (N := 3) rfl ?_); (try (refine gate_guard (by rfl) ?_; dsimp only)); refine box_event ?hg (N := 3) ?hd (cs := #[.slice A0_0 l0_0.length c0_0, .slice A0_1 l0_1.length c0_1]) (t := 25) ?hr ?_; (case hd => rfl); (case hg => rfl); (case hr => first | (go_simp; done) | (go_simp; rfl)); intro gb229 hg w108 hbox hb; have n0_ := Aside0.mk (below_step HB.out hb); have n1_ := Aside0.mk (hbox); clear HB; have HB := n0_; have BK229 := n1_; clear n0_ n1_; clear hb hbox hg) | ((with_reducible refine gate_dst (N := 4) rfl ?_); (try (refine gate_guard (by rfl) ?_; dsimp only)); refine box_event ?hg (N := 4) ?hd (cs := #[.string a1_0, .int .i64 a1_1, .int .i64 a1_2, .string a1_3, .bool a1_4, .bool a1_5, .string a1_6]) (t := 36) ?hr ?_; (case hd => rfl); (case hg => rfl); (case hr => first | (go_simp; done) | (go_simp; rfl)); intro gb230 hg w109 hbox hb; have n0_ := Aside0.mk (blk_below BK229.out hb); have n1_ := Aside0.mk (below_step HB.out hb); have n2_ := Aside0.mk (hbox); have n5_ := Aside0.mk ((by rw [hg]; exact Nat.ne_of_lt (blk_lt BK229.out) : gb229 ≠ gb230)); have n6_ := Aside0.mk ((by rw [hg]; exact Nat.ne_of_gt (blk_lt BK229.out) : gb230 ≠ gb229)); clear BK229; clear HB; have BK229 := n0_; have HB := n1_; have BK230 := n2_; have NB229_230 := n5_; have NB230_229 := n6_; clear n0_ n1_ n2_ n5_ n6_; clear hb hbox hg) | ((with_reducible refine gate_dst (N := 5) rfl ?_); (try (refine gate_guard (by rfl) ?_; dsimp only)); refine box_event ?hg (N := 5) ?hd (cs := #[.int .u64 a2_0, .string a2_1, .slice A2_2 l2_2.length c2_2]) (t := 40) ?hr ?_; (case hd => rfl); (case hg => rfl); (case hr => first | (go_simp; done) | (go_simp; rfl)); intro gb231 hg w110 hbox hb; have n0_ := Aside0.mk (blk_below BK229.out hb); have n1_ := Aside0.mk (blk_below BK230.out hb); have n2_ := Aside0.mk (below_step HB.out hb); have n3_ := Aside0.mk (hbox); have n6_ := Aside0.mk ((by rw [hg]; exact Nat.ne_of_lt (blk_lt BK229.out) : gb229 ≠ gb231)); have n7_ := Aside0.mk ((by rw [hg]; exact Nat.ne_of_gt (blk_lt BK229.out) : gb231 ≠ gb229)); have n8_ := Aside0.mk ((by rw [hg]; exact Nat.ne_of_lt (blk_lt BK230.out) : gb230 ≠ gb231)); have n9_ := Aside0.mk ((by rw [hg]; exact Nat.ne_of_gt (blk_lt BK230.out) : gb231 ≠ gb230)); clear BK229; clear BK230; clear HB; have BK229 := n0_; have BK230 := n1_; have HB := n2_; have BK231 := n3_; have NB229_231 := n6_; have NB231_229 := n7_; have NB230_231 := n8_; have NB231_230 := n9_; clear n0_ n1_ n2_ n3_ n6_ n7_ n8_ n9_; clear hb hbox hg; have hnb111 := NB230_229.out; have hnc111 := NB229_230.out; have hnb112 := NB230_231.out; have hnc112 := NB231_230.out; have hcz113_0 : w110.cell? ⟨gb230, 0, none⟩ = some (.string a1_0) := (blk_cell BK230.out 0).trans rfl; have hcz113_1 : w110.cell? ⟨gb230, 1, none⟩ = some (.int .i64 a1_1) := (blk_cell BK230.out 1).trans rfl; have hcz113_2 : w110.cell? ⟨gb230, 2, none⟩ = some (.int .i64 a1_2) := (blk_cell BK230.out 2).trans rfl; have hcz113_3 : w110.cell? ⟨gb230, 3, none⟩ = some (.string a1_3) := (blk_cell BK230.out 3).trans rfl; have hcz113_4 : w110.cell? ⟨gb230, 4, none⟩ = some (.bool a1_4) := (blk_cell BK230.out 4).trans rfl; have hcz113_5 : w110.cell? ⟨gb230, 5, none⟩ = some (.bool a1_5) := (blk_cell BK230.out 5).trans rfl; have hcz113_6 : w110.cell? ⟨gb230, 6, none⟩ = some (.string a1_6) := (blk_cell BK230.out 6).trans rfl; have hfz113_0 := blk_frozen BK230.out 0; have hfz113_1 := blk_frozen BK230.out 1; have hfz113_2 := blk_frozen BK230.out 2; have hfz113_3 := blk_frozen BK230.out 3; have hfz113_4 := blk_frozen BK230.out 4; have hfz113_5 := blk_frozen BK230.out 5; have hfz113_6 := blk_frozen BK230.out 6) | ((with_reducible refine gate_callee (f := 26) rfl ?_); refine goesL_ (some 9) rfl rfl Tryd.func26 (by kernel_rfl) rfl #[.int .i64 a1_2] rfl (by (try simp only [List.map_toArray, List.map_cons, List.map_nil]); first | done | rfl | (simp only [List.length_drop, List.length_take]; rfl)) ?_; (with_reducible refine (ecdysisref11_Number.calls a1_2 false _ A4.out).mono ?_); rintro e w' ⟨rfl, ⟨nd, rfl⟩⟩; refine ⟨_, rfl, ?_⟩))
           (try (rw [drewN_self w110]; generalize hq_ : World.drewN w110 _ = w110; have n0_ : Aside0 (w110.heap[gb229]? = some (.cells #[.slice A0_0 l0_0.length c0_0, .slice A0_1 l0_1.length c0_1] 25 (0, 0))) := ⟨by rw [← hq_]; exact (by (with_reducible repeat (first | refine blk_drewN ?_ _ )); exact BK229.out)⟩; have n1_ : Aside0 (w110.heap[gb230]? = some (.cells #[.string a1_0, .int .i64 a1_1, .int .i64 a1_2, .string a1_3, .bool a1_4, .bool a1_5, .string a1_6] 36 (0, 0))) := ⟨by rw [← hq_]; exact (by (with_reducible repeat (first | refine blk_drewN ?_ _ )); exact BK230.out)⟩; have n2_ : Aside0 (w110.heap[gb231]? = some (.cells #[.int .u64 a2_0, .string a2_1, .slice A2_2 l2_2.length c2_2] 40 (0, 0))) := ⟨by rw [← hq_]; exact (by (with_reducible repeat (first | refine blk_drewN ?_ _ )); exact BK231.out)⟩; have n3_ : Aside0 (Below w.heap.size w w110) := ⟨by rw [← hq_]; exact (by repeat (first | (with_reducible first | exact HB.out | apply pw_below_drewN ) ))⟩; clear BK229 BK230 BK231 HB hq_; have BK229 := n0_; have BK230 := n1_; have BK231 := n2_; have HB := n3_; clear n0_ n1_ n2_ n3_))
           have n0_ := Aside0.mk (blk_drew BK229.out)
           have n1_ := Aside0.mk (blk_drew BK230.out)
           have n2_ := Aside0.mk (blk_drew BK231.out)
           have n3_ := Aside0.mk (below_drew1 HB.out)
           clear BK229
           clear BK230
           clear BK231
           clear HB
           have BK229 := n0_
           have BK230 := n1_
           have BK231 := n2_
           have HB := n3_
           clear n0_ n1_ n2_ n3_
           refine start_ (n := 25) (S := fun w' => w'.cell? ⟨gb231, 0, none⟩ = some (.int .u64 a2_0) ∧ w'.cell? ⟨gb231, 1, none⟩ = some (.string a2_1) ∧ w'.cell? ⟨gb231, 2, none⟩ = some (.slice A2_2 l2_2.length c2_2)) (ds := []) #[false, false, false, false, false, false, false, false, false, false, false, false, false, false, false, false, false, false, false, false, false, false, false, false, false] (by kernel_rfl) rfl rfl ⟨(blk_cell BK231.out 0).trans rfl, (blk_cell BK231.out 1).trans rfl, (blk_cell BK231.out 2).trans rfl⟩ (fun hHeld => ?_); refine with_tabW ecdysisref20_Val.tab9 ecdysisref20_Val.bits9 (fun HT_ HW_ => ?_)
           generalize w110.drew = w114 at BK229 BK230 BK231 HB hHeld ⊢
           refine zp 0 (zb 25 1) ?_ rfl rfl HT_ (by kernel_rfl) (fun _ _ _ h => h) rfl ?_ ?_ ?_ ?_; rotate_left; (intro w'; go_simp; with_reducible rfl); rotate_left; (simp only [zs]; rfl)
           refine zt 1 (zb 25 3) ?_ rfl rfl HT_ HW_ (by kernel_rfl) (fun _ _ _ h => h) rfl ?_ hHeld ?_ ?_ ?_; rotate_left; (rintro w' ⟨s0, s1, s2⟩; go_simp; with_reducible rfl); rotate_left; (simp only [zs]; rfl)
           refine zp 2 (zb 25 7) ?_ rfl rfl HT_ (by kernel_rfl) (fun _ _ _ h => h) rfl ?_ ?_ ?_ ?_; rotate_left; (intro w'; go_simp; with_reducible rfl); rotate_left; (simp only [zs]; rfl)
           refine zp 3 (zb 25 15) ?_ rfl rfl HT_ (by kernel_rfl) (fun _ _ _ h => h) rfl ?_ ?_ ?_ ?_; rotate_left; (intro w'; go_simp; with_reducible rfl); rotate_left; (simp only [zs]; rfl)
           refine zn 4 (zb 25 31) rfl rfl HT_ (by kernel_rfl) (fun _ _ _ h => h) rfl ?_ ?_ ?_; rotate_left; (simp only [zs]; rfl)
           refine zn 5 (zb 25 63) rfl rfl HT_ (by kernel_rfl) (fun _ _ _ h => h) rfl ?_ ?_ ?_; rotate_left; (simp only [zs]; rfl)
           refine zn 6 (zb 25 127) rfl rfl HT_ (by kernel_rfl) (fun _ _ _ h => h) rfl ?_ ?_ ?_; rotate_left; (simp only [zs]; rfl)
           refine zp 7 (zb 25 255) ?_ rfl rfl HT_ (by kernel_rfl) (fun _ _ _ h => h) rfl ?_ ?_ ?_ ?_; rotate_left; (intro w'; go_simp; with_reducible rfl); rotate_left; (simp only [zs]; rfl)
           refine zp 8 (zb 25 511) ?_ rfl rfl HT_ (by kernel_rfl) (fun _ _ _ h => h) rfl ?_ ?_ ?_ ?_; rotate_left; (intro w'; go_simp; with_reducible rfl); rotate_left; (simp only [zs]; rfl)
           refine zn 9 (zb 25 1023) rfl rfl HT_ (by kernel_rfl) (fun _ _ _ h => h) rfl ?_ ?_ ?_; rotate_left; (simp only [zs]; rfl)
           refine zn 10 (zb 25 2047) rfl rfl HT_ (by kernel_rfl) (fun _ _ _ h => h) rfl ?_ ?_ ?_; rotate_left; (simp only [zs]; rfl)
           refine zn 11 (zb 25 4095) rfl rfl HT_ (by kernel_rfl) (fun _ _ _ h => h) rfl ?_ ?_ ?_; rotate_left; (simp only [zs]; rfl)
           refine zn 12 (zb 25 8191) rfl rfl HT_ (by kernel_rfl) (fun _ _ _ h => h) rfl ?_ ?_ ?_; rotate_left; (simp only [zs]; rfl)
           refine zp 13 (zb 25 16383) ?_ rfl rfl HT_ (by kernel_rfl) (fun _ _ _ h => h) rfl ?_ ?_ ?_ ?_; rotate_left; (intro w'; go_simp; with_reducible rfl); rotate_left; (simp only [zs]; rfl)
           refine zp 14 (zb 25 32767) ?_ rfl rfl HT_ (by kernel_rfl) (fun _ _ _ h => h) rfl ?_ ?_ ?_ ?_; rotate_left; (intro w'; go_simp; with_reducible rfl); rotate_left; (simp only [zs]; rfl)
           refine zn 15 (zb 25 65535) rfl rfl HT_ (by kernel_rfl) (fun _ _ _ h => h) rfl ?_ ?_ ?_; rotate_left; (simp only [zs]; rfl)
           refine zn 16 (zb 25 131071) rfl rfl HT_ (by kernel_rfl) (fun _ _ _ h => h) rfl ?_ ?_ ?_; rotate_left; (simp only [zs]; rfl)
           refine zn 17 (zb 25 262143) rfl rfl HT_ (by kernel_rfl) (fun _ _ _ h => h) rfl ?_ ?_ ?_; rotate_left; (simp only [zs]; rfl)
           refine zn 18 (zb 25 524287) rfl rfl HT_ (by kernel_rfl) (fun _ _ _ h => h) rfl ?_ ?_ ?_; rotate_left; (simp only [zs]; rfl)
           refine zn 19 (zb 25 1048575) rfl rfl HT_ (by kernel_rfl) (fun _ _ _ h => h) rfl ?_ ?_ ?_; rotate_left; (simp only [zs]; rfl)
           refine zn 20 (zb 25 2097151) rfl rfl HT_ (by kernel_rfl) (fun _ _ _ h => h) rfl ?_ ?_ ?_; rotate_left; (simp only [zs]; rfl)
           refine zn 21 (zb 25 4194303) rfl rfl HT_ (by kernel_rfl) (fun _ _ _ h => h) rfl ?_ ?_ ?_; rotate_left; (simp only [zs]; rfl)
           refine zn 22 (zb 25 8388607) rfl rfl HT_ (by kernel_rfl) (fun _ _ _ h => h) rfl ?_ ?_ ?_; rotate_left; (simp only [zs]; rfl)
           refine zp 23 (zb 25 16777215) ?_ rfl rfl HT_ (by kernel_rfl) (fun _ _ _ h => h) rfl ?_ ?_ ?_ ?_; rotate_left; (intro w'; go_simp; with_reducible rfl); rotate_left; (simp only [zs]; rfl)
           refine zp 24 (zb 25 33554431) ?_ rfl rfl HT_ (by kernel_rfl) (fun _ _ _ h => h) rfl ?_ ?_ ?_ ?_; rotate_left; (intro w'; go_simp; with_reducible rfl); rotate_left; (simp only [zs]; rfl)
           refine done_ (done_of HT_.out (by kernel_rfl)) ?_
           try go_wp2
           go_ret
           exact ⟨by first | rfl , by exact HB.out⟩
       · rw [if_neg c80] at H
         have c80b0 : (a1_2 == 15) = false := beq_eq_false_iff_ne.mpr c80
         have c80b1 : (a1_2 != 15) = true := bne_iff_ne.mpr c80
         obtain rfl := Option.some.inj H
         go_enter Tryd.func13, Tryd.ntmps13
         go_wp2_with (first | ((with_reducible refine gate_dst (N := 3) rfl ?_); (try (refine gate_guard (by rfl) ?_; dsimp only)); refine box_event ?hg (N := 3) ?hd (cs := #[.slice A0_0 l0_0.length c0_0, .slice A0_1 l0_1.length c0_1]) (t := 25) ?hr ?_; (case hd => rfl); (case hg => rfl); (case hr => first | (go_simp; done) | (go_simp; rfl)); intro gb229 hg w115 hbox hb; have n0_ := Aside0.mk (below_step HB.out hb); have n1_ := Aside0.mk (hbox); clear HB; have HB := n0_; have BK229 := n1_; clear n0_ n1_; clear hb hbox hg) | ((with_reducible refine gate_dst (N := 4) rfl ?_); (try (refine gate_guard (by rfl) ?_; dsimp only)); refine box_event ?hg (N := 4) ?hd (cs := #[.string a1_0, .int .i64 a1_1, .int .i64 a1_2, .string a1_3, .bool a1_4, .bool a1_5, .string a1_6]) (t := 36) ?hr ?_; (case hd => rfl); (case hg => rfl); (case hr => first | (go_simp; done) | (go_simp; rfl)); intro gb230 hg w116 hbox hb; have n0_ := Aside0.mk (blk_below BK229.out hb); have n1_ := Aside0.mk (below_step HB.out hb); have n2_ := Aside0.mk (hbox); have n5_ := Aside0.mk ((by rw [hg]; exact Nat.ne_of_lt (blk_lt BK229.out) : gb229 ≠ gb230)); have n6_ := Aside0.mk ((by rw [hg]; exact Nat.ne_of_gt (blk_lt BK229.out) : gb230 ≠ gb229)); clear BK229; clear HB; have BK229 := n0_; have HB := n1_; have BK230 := n2_; have NB229_230 := n5_; have NB230_229 := n6_; clear n0_ n1_ n2_ n5_ n6_; clear hb hbox hg) | ((with_reducible refine gate_dst (N := 5) rfl ?_); (try (refine gate_guard (by rfl) ?_; dsimp only)); refine box_event ?hg (N := 5) ?hd (cs := #[.int .u64 a2_0, .string a2_1, .slice A2_2 l2_2.length c2_2]) (t := 40) ?hr ?_; (case hd => rfl); (case hg => rfl); (case hr => first | (go_simp; done) | (go_simp; rfl)); intro gb231 hg w117 hbox hb; have n0_ := Aside0.mk (blk_below BK229.out hb); have n1_ := Aside0.mk (blk_below BK230.out hb); have n2_ := Aside0.mk (below_step HB.out hb); have n3_ := Aside0.mk (hbox); have n6_ := Aside0.mk ((by rw [hg]; exact Nat.ne_of_lt (blk_lt BK229.out) : gb229 ≠ gb231)); have n7_ := Aside0.mk ((by rw [hg]; exact Nat.ne_of_gt (blk_lt BK229.out) : gb231 ≠ gb229)); have n8_ := Aside0.mk ((by rw [hg]; exact Nat.ne_of_lt (blk_lt BK230.out) : gb230 ≠ gb231)); have n9_ := Aside0.mk ((by rw [hg]; exact Nat.ne_of_gt (blk_lt BK230.out) : gb231 ≠ gb230)); clear BK229; clear BK230; clear HB; have BK229 := n0_; have BK230 := n1_; have HB := n2_; have BK231 := n3_; have NB229_231 := n6_; have NB231_229 := n7_; have NB230_231 := n8_; have NB231_230 := n9_; clear n0_ n1_ n2_ n3_ n6_ n7_ n8_ n9_; clear hb hbox hg; have hnb118 := NB230_229.out; have hnc118 := NB229_230.out; have hnb119 := NB230_231.out; have hnc119 := NB231_230.out; have hcz120_0 : w117.cell? ⟨gb230, 0, none⟩ = some (.string a1_0) := (blk_cell BK230.out 0).trans rfl; have hcz120_1 : w117.cell? ⟨gb230, 1, none⟩ = some (.int .i64 a1_1) := (blk_cell BK230.out 1).trans rfl; have hcz120_2 : w117.cell? ⟨gb230, 2, none⟩ = some (.int .i64 a1_2) := (blk_cell BK230.out 2).trans rfl; have hcz120_3 : w117.cell? ⟨gb230, 3, none⟩ = some (.string a1_3) := (blk_cell BK230.out 3).trans rfl; have hcz120_4 : w117.cell? ⟨gb230, 4, none⟩ = some (.bool a1_4) := (blk_cell BK230.out 4).trans rfl; have hcz120_5 : w117.cell? ⟨gb230, 5, none⟩ = some (.bool a1_5) := (blk_cell BK230.out 5).trans rfl; have hcz120_6 : w117.cell? ⟨gb230, 6, none⟩ = some (.string a1_6) := (blk_cell BK230.out 6).trans rfl; have hfz120_0 := blk_frozen BK230.out 0; have hfz120_1 := blk_frozen BK230.out 1; have hfz120_2 := blk_frozen BK230.out 2; have hfz120_3 := blk_frozen BK230.out 3; have hfz120_4 := blk_frozen BK230.out 4; have hfz120_5 := blk_frozen BK230.out 5; have hfz120_6 := blk_frozen BK230.out 6) | ((with_reducible refine gate_callee (f := 26) rfl ?_); refine goesL_ (some 9) rfl rfl Tryd.func26 (by kernel_rfl) rfl #[.int .i64 a1_2] rfl (by (try simp only [List.map_toArray, List.map_cons, List.map_nil]); first | done | rfl | (simp only [List.length_drop, List.length_take]; rfl)) ?_; (with_reducible refine (ecdysisref11_Number.calls a1_2 false _ A4.out).mono ?_); rintro e w' ⟨rfl, ⟨nd, rfl⟩⟩; refine ⟨_, rfl, ?_⟩))
         go_ret
         exact ⟨by first | rfl , by repeat (first | (with_reducible first | exact HB.out | apply pw_below_drewN ) )⟩
end Go.Proofs.YtbpnfpckoapdbaaDoor.PV20
end
section
namespace Go.Proofs.YtbpnfpckoapdbaaDoor.PV20
open Go.RowKit Go.Proofs.YtbpnfpckoapdbaaDoor.M Go.Proofs.YtbpnfpckoapdbaaDoor.KD Go.Proofs.YtbpnfpckoapdbaaDoor Go.Proofs.YtbpnfpckoapdbaaDoorW.PrintWords Go.Proofs.YtbpnfpckoapdbaaDoorW.PrintLast Go.Proofs.YtbpnfpckoapdbaaDoorW.PrintMore
attribute [local go_sem] max2_int min2_int max_two min_two max_three min_three max_four min_four   -- for this text's walks alone
set_option linter.unusedVariables false
set_option linter.unusedSimpArgs false
theorem isEmpty_bne (l : List UInt8) : l.isEmpty = !(l != []) := by cases l <;> rfl
def ecdysisref20_slot.T10 : Bool × List (List Nat × List Nat) := (true, [([], []), ([], []), ([], []), ([2], [2]), ([], []), ([3, 4], [3, 4]), ([5], [5]), ([0, 1, 6], [0, 1, 6]), ([7], [7])])
def ecdysisref20_slot.B10 : List Nat := [0, 0, 0, 4, 0, 28, 60, 127, 255]
theorem ecdysisref20_slot.tab10 : rtab .any (opsOf Tryd.f20 10) = ecdysisref20_slot.T10 := by kernel_rfl
theorem ecdysisref20_slot.bits10 : waitsOk ecdysisref20_slot.T10.2 ecdysisref20_slot.B10 = true := by kernel_rfl
set_option maxHeartbeats 8000000 in
set_option maxRecDepth 100000 in
theorem ecdysisref20_slot.callsR (k : Nat) (ih_ecdysisref20_Tree : ∀ k_, k_ < k → ∀ (A0_0 : Option Addr) (c0_0 : Nat) (l0_0 : List (S48)) (A0_1 : Option Addr) (c0_1 : Nat) (l0_1 : List (S52)) (a1 : ByteArray) (A2_0 : Option Addr) (c2_0 : Nat) (l2_0 : List (S43)) (A2_1 : Option Addr) (c2_1 : Nat) (l2_1 : List (S63)) (r : Bool) (w : World) (hT : Tabs w) (hr0_0 : Kd.C k48 w A0_0 l0_0.length l0_0) (hc0_0 : l0_0.length ≤ c0_0) (hr0_1 : Kd.C k52 w A0_1 l0_1.length l0_1) (hc0_1 : l0_1.length ≤ c0_1) (hr2_0 : Kd.C k43 w A2_0 l2_0.length l2_0) (hc2_0 : l2_0.length ≤ c2_0) (hr2_1 : Kd.C k63 w A2_1 l2_1.length l2_1) (hc2_1 : l2_1.length ≤ c2_1) (h_ : ecdysisref20_Tree.f k_ l0_0 l0_1 a1 l2_0 l2_1 = some r), Calls Tryd.prog 10 #[.agg #[.slice A0_0 l0_0.length c0_0, .slice A0_1 l0_1.length c0_1], .string a1, .agg #[.slice A2_0 l2_0.length c2_0, .slice A2_1 l2_1.length c2_1]] w fun e w' => e = .returned (.bool r) ∧ Below w.heap.size w w') (ih_ecdysisref20_Val : ∀ k_, k_ < k → ∀ (A0_0 : Option Addr) (c0_0 : Nat) (l0_0 : List (S48)) (A0_1 : Option Addr) (c0_1 : Nat) (l0_1 : List (S52)) (a1_0 : ByteArray) (a1_1 : Int) (a1_2 : Int) (a1_3 : ByteArray) (a1_4 : Bool) (a1_5 : Bool) (a1_6 : ByteArray) (a2_0 : Int) (a2_1 : ByteArray) (A2_2 : Option Addr) (c2_2 : Nat) (l2_2 : List (S29)) (r : Bool) (w : World) (hT : Tabs w) (hr0_0 : Kd.C k48 w A0_0 l0_0.length l0_0) (hc0_0 : l0_0.length ≤ c0_0) (hr0_1 : Kd.C k52 w A0_1 l0_1.length l0_1) (hc0_1 : l0_1.length ≤ c0_1) (hr2_2 : Kd.C k29 w A2_2 l2_2.length l2_2) (hc2_2 : l2_2.length ≤ c2_2) (h_ : ecdysisref20_Val.f k_ l0_0 l0_1 a1_0 a1_1 a1_2 a1_3 a1_4 a1_5 a1_6 a2_0 a2_1 l2_2 = some r), Calls Tryd.prog 13 #[.agg #[.slice A0_0 l0_0.length c0_0, .slice A0_1 l0_1.length c0_1], .agg #[.string a1_0, .int .i64 a1_1, .int .i64 a1_2, .string a1_3, .bool a1_4, .bool a1_5, .string a1_6], .agg #[.int .u64 a2_0, .string a2_1, .slice A2_2 l2_2.length c2_2]] w fun e w' => e = .returned (.bool r) ∧ Below w.heap.size w w') (ih_ecdysisref20_slot : ∀ k_, k_ < k → ∀ (A0_0 : Option Addr) (c0_0 : Nat) (l0_0 : List (S48)) (A0_1 : Option Addr) (c0_1 : Nat) (l0_1 : List (S52)) (a1_0 : ByteArray) (A1_1 : Option Addr) (c1_1 : Nat) (l1_1 : List (S36)) (A1_2 : Option Addr) (c1_2 : Nat) (l1_2 : List Int) (a2_0 : Int) (A2_1 : Option Addr) (c2_1 : Nat) (l2_1 : List (S40)) (r : Bool) (w : World) (hT : Tabs w) (hr0_0 : Kd.C k48 w A0_0 l0_0.length l0_0) (hc0_0 : l0_0.length ≤ c0_0) (hr0_1 : Kd.C k52 w A0_1 l0_1.length l0_1) (hc0_1 : l0_1.length ≤ c0_1) (hr1_1 : Kd.C k36 w A1_1 l1_1.length l1_1) (hc1_1 : l1_1.length ≤ c1_1) (hr1_2 : Kd.C (Kd.int .i64) w A1_2 l1_2.length l1_2) (hc1_2 : l1_2.length ≤ c1_2) (hr2_1 : Kd.C k40 w A2_1 l2_1.length l2_1) (hc2_1 : l2_1.length ≤ c2_1) (h_ : ecdysisref20_slot.f k_ l0_0 l0_1 a1_0 l1_1 l1_2 a2_0 l2_1 = some r), Calls Tryd.prog 20 #[.agg #[.slice A0_0 l0_0.length c0_0, .slice A0_1 l0_1.length c0_1], .agg #[.string a1_0, .slice A1_1 l1_1.length c1_1, .slice A1_2 l1_2.length c1_2], .agg #[.int .i64 a2_0, .slice A2_1 l2_1.length c2_1]] w fun e w' => e = .returned (.bool r) ∧ Below w.heap.size w w') : ∀ (A0_0 : Option Addr) (c0_0 : Nat) (l0_0 : List (S48)) (A0_1 : Option Addr) (c0_1 : Nat) (l0_1 : List (S52)) (a1_0 : ByteArray) (A1_1 : Option Addr) (c1_1 : Nat) (l1_1 : List (S36)) (A1_2 : Option Addr) (c1_2 : Nat) (l1_2 : List Int) (a2_0 : Int) (A2_1 : Option Addr) (c2_1 : Nat) (l2_1 : List (S40)) (r : Bool) (w : World) (hT : Tabs w) (hr0_0 : Kd.C k48 w A0_0 l0_0.length l0_0) (hc0_0 : l0_0.length ≤ c0_0) (hr0_1 : Kd.C k52 w A0_1 l0_1.length l0_1) (hc0_1 : l0_1.length ≤ c0_1) (hr1_1 : Kd.C k36 w A1_1 l1_1.length l1_1) (hc1_1 : l1_1.length ≤ c1_1) (hr1_2 : Kd.C (Kd.int .i64) w A1_2 l1_2.length l1_2) (hc1_2 : l1_2.length ≤ c1_2) (hr2_1 : Kd.C k40 w A2_1 l2_1.length l2_1) (hc2_1 : l2_1.length ≤ c2_1) (h : ecdysisref20_slot.f k l0_0 l0_1 a1_0 l1_1 l1_2 a2_0 l2_1 = some r),
  Calls Tryd.prog 20 #[.agg #[.slice A0_0 l0_0.length c0_0, .slice A0_1 l0_1.length c0_1], .agg #[.string a1_0, .slice A1_1 l1_1.length c1_1, .slice A1_2 l1_2.length c1_2], .agg #[.int .i64 a2_0, .slice A2_1 l2_1.length c2_1]] w fun e w' => e = .returned (.bool r) ∧ Below w.heap.size w w' := by
 intro A0_0 c0_0 l0_0 A0_1 c0_1 l0_1 a1_0 A1_1 c1_1 l1_1 A1_2 c1_2 l1_2 a2_0 A2_1 c2_1 l2_1 r w hT hr0_0 hc0_0 hr0_1 hc0_1 hr1_1 hc1_1 hr1_2 hc1_2 hr2_1 hc2_1 h
 have HU8 := Aside0.mk hT
 clear hT
 cases k with
 | zero => exact absurd h (by simp [ecdysisref20_slot.f])
 | succ k =>
 simp only [ecdysisref20_slot.f] at h
 have hu25 := Tryd.underlying25
 have hu52 := Tryd.underlying52
 have hu43 := Tryd.underlying43
 have hu36 := Tryd.underlying36
 have hu40 := Tryd.underlying40
 have HR0_0 := Aside0.mk hr0_0
 have HC0_0 := Aside0.mk hc0_0
 clear hr0_0 hc0_0
 have HR0_1 := Aside0.mk hr0_1
 have HC0_1 := Aside0.mk hc0_1
 clear hr0_1 hc0_1
 have HR1_1 := Aside0.mk hr1_1
 have HC1_1 := Aside0.mk hc1_1
 clear hr1_1 hc1_1
 have HR1_2 := Aside0.mk hr1_2
 have HC1_2 := Aside0.mk hc1_2
 clear hr1_2 hc1_2
 have HR2_1 := Aside0.mk hr2_1
 have HC2_1 := Aside0.mk hc2_1
 clear hr2_1 hc2_1
 have HB := Aside0.mk (Below.refl w.heap.size w)
 have H : ((ecdysisref16_Number.f k a1_0 l1_1 l1_2 a2_0).bind fun t240 => (if t240 < 0 then (ecdysisref20_slot.j0 k t240 true l0_0 l0_1 a1_0 l1_1 l1_2 a2_0 l2_1) else (ecdysisref20_slot.j0 k t240 ((l2_1.length : Int) == 0) l0_0 l0_1 a1_0 l1_1 l1_2 a2_0 l2_1))) = some r := h
 clear h
 replace H := Option.bind_eq_some_iff.mp H
 obtain ⟨t240, A40, H⟩ := H
 replace H : (if t240 < 0 then (ecdysisref20_slot.j0 k t240 true l0_0 l0_1 a1_0 l1_1 l1_2 a2_0 l2_1) else (ecdysisref20_slot.j0 k t240 ((l2_1.length : Int) == 0) l0_0 l0_1 a1_0 l1_1 l1_2 a2_0 l2_1)) = some r := H
 have A4 := Aside0.mk A40
 clear A40
 have HC5 := Aside0.mk H
 clear H
 go_enter Tryd.func20, Tryd.ntmps20
 go_upto_region 2 with (first | ((with_reducible refine gate_dst (N := 3) rfl ?_); (try (refine gate_guard (by rfl) ?_; dsimp only)); refine box_event ?hg (N := 3) ?hd (cs := #[.slice A0_0 l0_0.length c0_0, .slice A0_1 l0_1.length c0_1]) (t := 25) ?hr ?_; (case hd => rfl); (case hg => rfl); (case hr => first | (go_simp; done) | (go_simp; rfl)); intro gb237 hg w6 hbox hb; have n0_ := Aside0.mk (below_step HB.out hb); have n1_ := Aside0.mk (hbox); clear HB; have HB := n0_; have BK237 := n1_; clear n0_ n1_; clear hb hbox hg) | ((with_reducible refine gate_dst (N := 4) rfl ?_); (try (refine gate_guard (by rfl) ?_; dsimp only)); refine box_event ?hg (N := 4) ?hd (cs := #[.string a1_0, .slice A1_1 l1_1.length c1_1, .slice A1_2 l1_2.length c1_2]) (t := 52) ?hr ?_; (case hd => rfl); (case hg => rfl); (case hr => first | (go_simp; done) | (go_simp; rfl)); intro gb238 hg w7 hbox hb; have n0_ := Aside0.mk (blk_below BK237.out hb); have n1_ := Aside0.mk (below_step HB.out hb); have n2_ := Aside0.mk (hbox); have n5_ := Aside0.mk ((by rw [hg]; exact Nat.ne_of_lt (blk_lt BK237.out) : gb237 ≠ gb238)); have n6_ := Aside0.mk ((by rw [hg]; exact Nat.ne_of_gt (blk_lt BK237.out) : gb238 ≠ gb237)); clear BK237; clear HB; have BK237 := n0_; have HB := n1_; have BK238 := n2_; have NB237_238 := n5_; have NB238_237 := n6_; clear n0_ n1_ n2_ n5_ n6_; clear hb hbox hg) | ((with_reducible refine gate_dst (N := 5) rfl ?_); (try (refine gate_guard (by rfl) ?_; dsimp only)); refine box_event ?hg (N := 5) ?hd (cs := #[.int .i64 a2_0, .slice A2_1 l2_1.length c2_1]) (t := 43) ?hr ?_; (case hd => rfl); (case hg => rfl); (case hr => first | (go_simp; done) | (go_simp; rfl)); intro gb239 hg w8 hbox hb; have n0_ := Aside0.mk (blk_below BK237.out hb); have n1_ := Aside0.mk (blk_below BK238.out hb); have n2_ := Aside0.mk (below_step HB.out hb); have n3_ := Aside0.mk (hbox); have n6_ := Aside0.mk ((by rw [hg]; exact Nat.ne_of_lt (blk_lt BK237.out) : gb237 ≠ gb239)); have n7_ := Aside0.mk ((by rw [hg]; exact Nat.ne_of_gt (blk_lt BK237.out) : gb239 ≠ gb237)); have n8_ := Aside0.mk ((by rw [hg]; exact Nat.ne_of_lt (blk_lt BK238.out) : gb238 ≠ gb239)); have n9_ := Aside0.mk ((by rw [hg]; exact Nat.ne_of_gt (blk_lt BK238.out) : gb239 ≠ gb238)); clear BK237; clear BK238; clear HB; have BK237 := n0_; have BK238 := n1_; have HB := n2_; have BK239 := n3_; have NB237_239 := n6_; have NB239_237 := n7_; have NB238_239 := n8_; have NB239_238 := n9_; clear n0_ n1_ n2_ n3_ n6_ n7_ n8_ n9_; clear hb hbox hg; have hnb9 := NB238_237.out; have hnc9 := NB237_238.out; have hnb10 := NB238_239.out; have hnc10 := NB239_238.out; have hcz11_0 : w8.cell? ⟨gb238, 0, none⟩ = some (.string a1_0) := (blk_cell BK238.out 0).trans rfl; have hcz11_1 : w8.cell? ⟨gb238, 1, none⟩ = some (.slice A1_1 l1_1.length c1_1) := (blk_cell BK238.out 1).trans rfl; have hcz11_2 : w8.cell? ⟨gb238, 2, none⟩ = some (.slice A1_2 l1_2.length c1_2) := (blk_cell BK238.out 2).trans rfl; have hfz11_0 := blk_frozen BK238.out 0; have hfz11_1 := blk_frozen BK238.out 1; have hfz11_2 := blk_frozen BK238.out 2; have hnb12 := NB239_237.out; have hnc12 := NB237_239.out; have hcz13_0 : w8.cell? ⟨gb239, 0, none⟩ = some (.int .i64 a2_0) := (blk_cell BK239.out 0).trans rfl; have hcz13_1 : w8.cell? ⟨gb239, 1, none⟩ = some (.slice A2_1 l2_1.length c2_1) := (blk_cell BK239.out 1).trans rfl; have hfz13_0 := blk_frozen BK239.out 0; have hfz13_1 := blk_frozen BK239.out 1) | ((with_reducible refine gate_callee (f := 21) rfl ?_); refine goesL_ (some 13) rfl rfl Tryd.func21 (by kernel_rfl) rfl #[.agg #[.string a1_0, .slice A1_1 l1_1.length c1_1, .slice A1_2 l1_2.length c1_2], .int .i64 a2_0] rfl (by (try simp only [List.map_toArray, List.map_cons, List.map_nil]); first | done | rfl | (simp only [List.length_drop, List.length_take]; rfl)) ?_; (with_reducible refine (ecdysisref16_Number.calls k a1_0 _ _ l1_1 _ _ l1_2 a2_0 t240 _ ?side1 ?side2 ?side3 ?side4 A4.out).mono ?_); (case side1 => repeat (first | exact (Kd.C_below HR1_1.out HB.out) )); (case side2 => exact HC1_1.out); (case side3 => repeat (first | exact (Kd.C_below HR1_2.out HB.out) )); (case side4 => exact HC1_2.out); rintro e w14 ⟨rfl, hb⟩; refine ⟨_, rfl, ?_⟩; have n0_ := Aside0.mk (blk_below BK237.out hb); have n1_ := Aside0.mk (blk_below BK238.out hb); have n2_ := Aside0.mk (blk_below BK239.out hb); have n3_ := Aside0.mk (below_step HB.out hb); clear BK237; clear BK238; clear BK239; clear HB; have BK237 := n0_; have BK238 := n1_; have BK239 := n2_; have HB := n3_; clear n0_ n1_ n2_ n3_; (try clear hb); (try clear hb2); (try clear hk); (try clear hi)))
 (try simp only [Act.put, List.setIfInBounds_toArray, List.set_cons_zero, List.set_cons_succ])
 go_cut [21] (fun v21 wc => ∃ (kq : Nat) (x21_4 : Bool), v21 = .bool x21_4 ∧ Aside0 (ecdysisref20_slot.j0 kq t240 x21_4 l0_0 l0_1 a1_0 l1_1 l1_2 a2_0 l2_1 = some r) ∧ Aside0 (kq ≤ k) ∧ Aside0 (wc.heap[gb237]? = some (.cells #[(.slice A0_0 l0_0.length c0_0), (.slice A0_1 l0_1.length c0_1)] 25 (0, 0))) ∧ Aside0 (wc.heap[gb238]? = some (.cells #[.string a1_0, (.slice A1_1 l1_1.length c1_1), (.slice A1_2 l1_2.length c1_2)] 52 (0, 0))) ∧ Aside0 (wc.heap[gb239]? = some (.cells #[.int .i64 a2_0, (.slice A2_1 l2_1.length c2_1)] 43 (0, 0))) ∧ Aside0 (Below w.heap.size w wc))
 case first =>
  have H := HC5.out
  clear HC5
  by_cases c15 : t240 < 0
  · rw [if_pos c15] at H
    have c15b0 : decide (t240 < 0) = true := decide_eq_true c15
    clear c15
    (first | skip)
    have H' := Aside0.mk H
    clear H
    go_wp2
    go_meet
    case rel => (try rw [← Nbq31.out]); exact ⟨_, (true), (by first | rfl ), H', ⟨by first | omega ⟩, ⟨by exact BK237.out⟩, ⟨by exact BK238.out⟩, ⟨by exact BK239.out⟩, ⟨by exact HB.out⟩⟩
  · rw [if_neg c15] at H
    have c15b0 : decide (t240 < 0) = false := decide_eq_false c15
    clear c15
    (first | skip)
    have H' := Aside0.mk H
    clear H
    have hnb16 := NB239_237.out
    have hnc16 := NB237_239.out
    have hnb17 := NB239_238.out
    have hnc17 := NB238_239.out
    have hcz18_0 : w14.cell? ⟨gb239, 0, none⟩ = some (.int .i64 a2_0) := (blk_cell BK239.out 0).trans rfl
    have hcz18_1 : w14.cell? ⟨gb239, 1, none⟩ = some (.slice A2_1 l2_1.length c2_1) := (blk_cell BK239.out 1).trans rfl
    have hfz18_0 := blk_frozen BK239.out 0
    have hfz18_1 := blk_frozen BK239.out 1
    go_wp2
    go_meet
    case rel => (try rw [← Nbq31.out]); exact ⟨_, (((l2_1.length : Int) == 0)), (by first | rfl ), H', ⟨by first | omega ⟩, ⟨by exact BK237.out⟩, ⟨by exact BK238.out⟩, ⟨by exact BK239.out⟩, ⟨by exact HB.out⟩⟩
 case rest =>
  clear HC5
  try clear c1
  try clear c2
  try clear p2
  try clear c9
  try clear c10
  try clear c12
  try clear c15
  try clear c15b0
  try clear c16
  try clear c17
  try clear hcz11_0
  try clear hcz11_1
  try clear hcz11_2
  try clear hcz13_0
  try clear hcz13_1
  try clear hcz18_0
  try clear hcz18_1
  try clear hfz11_0
  try clear hfz11_1
  try clear hfz11_2
  try clear hfz13_0
  try clear hfz13_1
  try clear hfz18_0
  try clear hfz18_1
  obtain ⟨kq, x21_4, rfl, HA, HJ4, BK237, BK238, BK239, HB⟩ := hcut
  cases kq with
  | zero => exact absurd HA.out (by simp [ecdysisref20_slot.j0])
  | succ kj4 =>
    have H := HA.out
    clear HA
    simp only [ecdysisref20_slot.j0] at H
    by_cases c19 : x21_4 = true
    · subst c19
      have H1 : (some false) = some r := by rw [if_pos rfl] at H; exact H
      clear H
      have H := H1
      clear H1
      obtain rfl := Option.some.inj H
      go_wp2
      go_ret
      exact ⟨by first | rfl , by exact HB.out⟩
    · replace c19 := Bool.eq_false_iff.mpr c19
      subst c19
      have H1 : (if 0 ≤ t240 then (if t240 < (l1_1.length : Int) then (if ((rd_T36 l1_1 t240).f4 = true) then (ecdysisref20_slot.j1 kj4 false l0_0 l0_1 a2_0 l2_1 ((rd_T36 l1_1 t240).f0) ((rd_T36 l1_1 t240).f1) ((rd_T36 l1_1 t240).f2) ((rd_T36 l1_1 t240).f3) ((rd_T36 l1_1 t240).f4) ((rd_T36 l1_1 t240).f5) ((rd_T36 l1_1 t240).f6)) else (ecdysisref20_slot.j1 kj4 ((l2_1.length : Int) != 1) l0_0 l0_1 a2_0 l2_1 ((rd_T36 l1_1 t240).f0) ((rd_T36 l1_1 t240).f1) ((rd_T36 l1_1 t240).f2) ((rd_T36 l1_1 t240).f3) ((rd_T36 l1_1 t240).f4) ((rd_T36 l1_1 t240).f5) ((rd_T36 l1_1 t240).f6))) else (none)) else (none)) = some r := by rw [if_neg (show ¬ (false = true) by decide)] at H; exact H
      clear H
      have H := H1
      clear H1
      by_cases c20 : 0 ≤ t240
      · rw [if_pos c20] at H
        have c20b0 : decide (0 ≤ t240) = true := decide_eq_true c20
        clear c20
        by_cases c21 : t240 < (l1_1.length : Int)
        · rw [if_pos c21] at H
          have c21b0 : decide (t240 < (l1_1.length : Int)) = true := decide_eq_true c21
          clear c21
          have HC22 := Aside0.mk H
          clear H
          have hnb23 := NB238_237.out
          have hnc23 := NB237_238.out
          have hnb24 := NB238_239.out
          have hnc24 := NB239_238.out
          have hcz25_0 : wc.cell? ⟨gb238, 0, none⟩ = some (.string a1_0) := (blk_cell BK238.out 0).trans rfl
          have hcz25_1 : wc.cell? ⟨gb238, 1, none⟩ = some (.slice A1_1 l1_1.length c1_1) := (blk_cell BK238.out 1).trans rfl
          have hcz25_2 : wc.cell? ⟨gb238, 2, none⟩ = some (.slice A1_2 l1_2.length c1_2) := (blk_cell BK238.out 2).trans rfl
          have hfz25_0 := blk_frozen BK238.out 0
          have hfz25_1 := blk_frozen BK238.out 1
          have hfz25_2 := blk_frozen BK238.out 2
          have p241 : 0 ≤ (t240 : Int) := of_decide_eq_true (by first | (with_reducible assumption) )
          have q241 : t240 < (l1_1.length : Int) := of_decide_eq_true (by first | (with_reducible assumption) )
          obtain ⟨ad241, e241, hx241_0, hx241_1, hx241_2, hx241_3, hx241_4, hx241_5, hx241_6⟩ := at_T36 HR1_1.out t240 p241 q241
          cases e241
          replace hx241_0 := (HB.out.cell (World.block_lt_of_cell? w _ hx241_0)).trans hx241_0
          replace hx241_1 := (HB.out.cell (World.block_lt_of_cell? w _ hx241_1)).trans hx241_1
          replace hx241_2 := (HB.out.cell (World.block_lt_of_cell? w _ hx241_2)).trans hx241_2
          replace hx241_3 := (HB.out.cell (World.block_lt_of_cell? w _ hx241_3)).trans hx241_3
          replace hx241_4 := (HB.out.cell (World.block_lt_of_cell? w _ hx241_4)).trans hx241_4
          replace hx241_5 := (HB.out.cell (World.block_lt_of_cell? w _ hx241_5)).trans hx241_5
          replace hx241_6 := (HB.out.cell (World.block_lt_of_cell? w _ hx241_6)).trans hx241_6
          replace p241 := eq_true p241
          replace q241 := eq_true q241
          go_upto_region 5 with (first | ((with_reducible refine gate_dst (N := 8) rfl ?_); (try (refine gate_guard (by rfl) ?_; dsimp only)); refine box_event ?hg (N := 8) ?hd (cs := #[.string (⟨#[]⟩ : ByteArray), .int .i64 0, .int .i64 0, .string (⟨#[]⟩ : ByteArray), .bool false, .bool false, .string (⟨#[]⟩ : ByteArray)]) (t := 36) ?hr ?_; (case hd => rfl); (case hg => rfl); (case hr => first | (go_simp; done) | (go_simp; rfl)); intro gb242 hg w26 hbox hb; have n0_ := Aside0.mk (blk_below BK237.out hb); have n1_ := Aside0.mk (blk_below BK238.out hb); have n2_ := Aside0.mk (blk_below BK239.out hb); have n3_ := Aside0.mk (below_step HB.out hb); have n4_ := Aside0.mk (hbox); have n6_ := Aside0.mk ((by rw [hg]; exact (below_size HB.out) : w.heap.size ≤ gb242)); have n7_ := Aside0.mk ((by rw [hg]; exact Nat.ne_of_lt (blk_lt BK237.out) : gb237 ≠ gb242)); have n8_ := Aside0.mk ((by rw [hg]; exact Nat.ne_of_gt (blk_lt BK237.out) : gb242 ≠ gb237)); have n9_ := Aside0.mk ((by rw [hg]; exact Nat.ne_of_lt (blk_lt BK238.out) : gb238 ≠ gb242)); have n10_ := Aside0.mk ((by rw [hg]; exact Nat.ne_of_gt (blk_lt BK238.out) : gb242 ≠ gb238)); have n11_ := Aside0.mk ((by rw [hg]; exact Nat.ne_of_lt (blk_lt BK239.out) : gb239 ≠ gb242)); have n12_ := Aside0.mk ((by rw [hg]; exact Nat.ne_of_gt (blk_lt BK239.out) : gb242 ≠ gb239)); clear BK237; clear BK238; clear BK239; clear HB; have BK237 := n0_; have BK238 := n1_; have BK239 := n2_; have HB := n3_; have BK242 := n4_; have GE242 := n6_; have NB237_242 := n7_; have NB242_237 := n8_; have NB238_242 := n9_; have NB242_238 := n10_; have NB239_242 := n11_; have NB242_239 := n12_; clear n0_ n1_ n2_ n3_ n4_ n6_ n7_ n8_ n9_ n10_ n11_ n12_; clear hb hbox hg; have hnb27 := NB242_237.out; have hnc27 := NB237_242.out; have hnb28 := NB242_238.out; have hnc28 := NB238_242.out; have hnb29 := NB242_239.out; have hnc29 := NB239_242.out; have hcz30_0 : w26.cell? ⟨gb242, 0, none⟩ = some (.string (⟨#[]⟩ : ByteArray)) := (blk_cell BK242.out 0).trans rfl; have hcz30_1 : w26.cell? ⟨gb242, 1, none⟩ = some (.int .i64 0) := (blk_cell BK242.out 1).trans rfl; have hcz30_2 : w26.cell? ⟨gb242, 2, none⟩ = some (.int .i64 0) := (blk_cell BK242.out 2).trans rfl; have hcz30_3 : w26.cell? ⟨gb242, 3, none⟩ = some (.string (⟨#[]⟩ : ByteArray)) := (blk_cell BK242.out 3).trans rfl; have hcz30_4 : w26.cell? ⟨gb242, 4, none⟩ = some (.bool false) := (blk_cell BK242.out 4).trans rfl; have hcz30_5 : w26.cell? ⟨gb242, 5, none⟩ = some (.bool false) := (blk_cell BK242.out 5).trans rfl; have hcz30_6 : w26.cell? ⟨gb242, 6, none⟩ = some (.string (⟨#[]⟩ : ByteArray)) := (blk_cell BK242.out 6).trans rfl; have hfz30_0 := blk_frozen BK242.out 0; have hfz30_1 := blk_frozen BK242.out 1; have hfz30_2 := blk_frozen BK242.out 2; have hfz30_3 := blk_frozen BK242.out 3; have hfz30_4 := blk_frozen BK242.out 4; have hfz30_5 := blk_frozen BK242.out 5; have hfz30_6 := blk_frozen BK242.out 6))
          (try simp only [Act.put, List.setIfInBounds_toArray, List.set_cons_zero, List.set_cons_succ])
          go_cut [35] (fun v35 wc => ∃ (kq : Nat) (x35_21 : Bool), v35 = .bool x35_21 ∧ Aside0 (ecdysisref20_slot.j1 kq x35_21 l0_0 l0_1 a2_0 l2_1 ((rd_T36 l1_1 t240).f0) ((rd_T36 l1_1 t240).f1) ((rd_T36 l1_1 t240).f2) ((rd_T36 l1_1 t240).f3) ((rd_T36 l1_1 t240).f4) ((rd_T36 l1_1 t240).f5) ((rd_T36 l1_1 t240).f6) = some r) ∧ Aside0 (kq ≤ kj4) ∧ Aside0 (wc.heap[gb237]? = some (.cells #[(.slice A0_0 l0_0.length c0_0), (.slice A0_1 l0_1.length c0_1)] 25 (0, 0))) ∧ Aside0 (wc.heap[gb238]? = some (.cells #[.string a1_0, (.slice (some ad241) l1_1.length c1_1), (.slice A1_2 l1_2.length c1_2)] 52 (0, 0))) ∧ Aside0 (wc.heap[gb239]? = some (.cells #[.int .i64 a2_0, (.slice A2_1 l2_1.length c2_1)] 43 (0, 0))) ∧ Aside0 (wc.heap[gb242]? = some (.cells #[.string ((rd_T36 l1_1 t240).f0), .int .i64 ((rd_T36 l1_1 t240).f1), .int .i64 ((rd_T36 l1_1 t240).f2), .string ((rd_T36 l1_1 t240).f3), .bool ((rd_T36 l1_1 t240).f4), .bool ((rd_T36 l1_1 t240).f5), .string ((rd_T36 l1_1 t240).f6)] 36 (0, 0))) ∧ Aside0 (Below w.heap.size w wc))
          case first =>
           have H := HC22.out
           clear HC22
           obtain ⟨bq31, hbq31⟩ : ∃ b_ : Bool, b_ = ((rd_T36 l1_1 t240).f4) := ⟨_, rfl⟩
           replace H : (if (bq31 = true) then (ecdysisref20_slot.j1 kj4 false l0_0 l0_1 a2_0 l2_1 ((rd_T36 l1_1 t240).f0) ((rd_T36 l1_1 t240).f1) ((rd_T36 l1_1 t240).f2) ((rd_T36 l1_1 t240).f3) bq31 ((rd_T36 l1_1 t240).f5) ((rd_T36 l1_1 t240).f6)) else (ecdysisref20_slot.j1 kj4 ((l2_1.length : Int) != 1) l0_0 l0_1 a2_0 l2_1 ((rd_T36 l1_1 t240).f0) ((rd_T36 l1_1 t240).f1) ((rd_T36 l1_1 t240).f2) ((rd_T36 l1_1 t240).f3) bq31 ((rd_T36 l1_1 t240).f5) ((rd_T36 l1_1 t240).f6))) = some r := by rw [← hbq31] at H; exact H
           have Nbq31 := Aside0.mk hbq31
           clear hbq31
           (try rw [← Nbq31.out])
           by_cases c32 : (bq31 = true)
           · subst c32
             have H1 : (ecdysisref20_slot.j1 kj4 false l0_0 l0_1 a2_0 l2_1 ((rd_T36 l1_1 t240).f0) ((rd_T36 l1_1 t240).f1) ((rd_T36 l1_1 t240).f2) ((rd_T36 l1_1 t240).f3) true ((rd_T36 l1_1 t240).f5) ((rd_T36 l1_1 t240).f6)) = some r := by rw [if_pos rfl] at H; exact H
             clear H
             have H := H1
             clear H1
             have H' := Aside0.mk H
             clear H
             have hnb33 := NB242_237.out
             have hnc33 := NB237_242.out
             have hnb34 := NB242_238.out
             have hnc34 := NB238_242.out
             have hnb35 := NB242_239.out
             have hnc35 := NB239_242.out
             have hcz36_0 : w26.cell? ⟨gb242, 0, none⟩ = some (.string (⟨#[]⟩ : ByteArray)) := (blk_cell BK242.out 0).trans rfl
             have hcz36_1 : w26.cell? ⟨gb242, 1, none⟩ = some (.int .i64 0) := (blk_cell BK242.out 1).trans rfl
             have hcz36_2 : w26.cell? ⟨gb242, 2, none⟩ = some (.int .i64 0) := (blk_cell BK242.out 2).trans rfl
             have hcz36_3 : w26.cell? ⟨gb242, 3, none⟩ = some (.string (⟨#[]⟩ : ByteArray)) := (blk_cell BK242.out 3).trans rfl
             have hcz36_4 : w26.cell? ⟨gb242, 4, none⟩ = some (.bool false) := (blk_cell BK242.out 4).trans rfl
             have hcz36_5 : w26.cell? ⟨gb242, 5, none⟩ = some (.bool false) := (blk_cell BK242.out 5).trans rfl
             have hcz36_6 : w26.cell? ⟨gb242, 6, none⟩ = some (.string (⟨#[]⟩ : ByteArray)) := (blk_cell BK242.out 6).trans rfl
             have hfz36_0 := blk_frozen BK242.out 0
             have hfz36_1 := blk_frozen BK242.out 1
             have hfz36_2 := blk_frozen BK242.out 2
             have hfz36_3 := blk_frozen BK242.out 3
             have hfz36_4 := blk_frozen BK242.out 4
             have hfz36_5 := blk_frozen BK242.out 5
             have hfz36_6 := blk_frozen BK242.out 6
             go_wp2
             go_meet
             case rel => (try rw [← Nbq31.out]); exact ⟨_, (false), (by first | rfl ), H', ⟨by have := HJ4.out; first | omega | exact Nat.le_refl _⟩, ⟨by refine blk_far ?_ NB237_242.out _; refine blk_far ?_ NB237_242.out _; refine blk_far ?_ NB237_242.out _; refine blk_far ?_ NB237_242.out _; refine blk_far ?_ NB237_242.out _; refine blk_far ?_ NB237_242.out _; refine blk_far ?_ NB237_242.out _; exact BK237.out⟩, ⟨by refine blk_far ?_ NB238_242.out _; refine blk_far ?_ NB238_242.out _; refine blk_far ?_ NB238_242.out _; refine blk_far ?_ NB238_242.out _; refine blk_far ?_ NB238_242.out _; refine blk_far ?_ NB238_242.out _; refine blk_far ?_ NB238_242.out _; exact BK238.out⟩, ⟨by refine blk_far ?_ NB239_242.out _; refine blk_far ?_ NB239_242.out _; refine blk_far ?_ NB239_242.out _; refine blk_far ?_ NB239_242.out _; refine blk_far ?_ NB239_242.out _; refine blk_far ?_ NB239_242.out _; refine blk_far ?_ NB239_242.out _; exact BK239.out⟩, ⟨by refine blk_put (cs := #[.string ((rd_T36 l1_1 t240).f0), .int .i64 ((rd_T36 l1_1 t240).f1), .int .i64 ((rd_T36 l1_1 t240).f2), .string ((rd_T36 l1_1 t240).f3), .bool (true), .bool ((rd_T36 l1_1 t240).f5), .string (⟨#[]⟩ : ByteArray)]) ?_ 6 _ rfl; refine blk_put (cs := #[.string ((rd_T36 l1_1 t240).f0), .int .i64 ((rd_T36 l1_1 t240).f1), .int .i64 ((rd_T36 l1_1 t240).f2), .string ((rd_T36 l1_1 t240).f3), .bool (true), .bool false, .string (⟨#[]⟩ : ByteArray)]) ?_ 5 _ rfl; refine blk_put (cs := #[.string ((rd_T36 l1_1 t240).f0), .int .i64 ((rd_T36 l1_1 t240).f1), .int .i64 ((rd_T36 l1_1 t240).f2), .string ((rd_T36 l1_1 t240).f3), .bool false, .bool false, .string (⟨#[]⟩ : ByteArray)]) ?_ 4 _ rfl; refine blk_put (cs := #[.string ((rd_T36 l1_1 t240).f0), .int .i64 ((rd_T36 l1_1 t240).f1), .int .i64 ((rd_T36 l1_1 t240).f2), .string (⟨#[]⟩ : ByteArray), .bool false, .bool false, .string (⟨#[]⟩ : ByteArray)]) ?_ 3 _ rfl; refine blk_put (cs := #[.string ((rd_T36 l1_1 t240).f0), .int .i64 ((rd_T36 l1_1 t240).f1), .int .i64 0, .string (⟨#[]⟩ : ByteArray), .bool false, .bool false, .string (⟨#[]⟩ : ByteArray)]) ?_ 2 _ rfl; refine blk_put (cs := #[.string ((rd_T36 l1_1 t240).f0), .int .i64 0, .int .i64 0, .string (⟨#[]⟩ : ByteArray), .bool false, .bool false, .string (⟨#[]⟩ : ByteArray)]) ?_ 1 _ rfl; refine blk_put (cs := #[.string (⟨#[]⟩ : ByteArray), .int .i64 0, .int .i64 0, .string (⟨#[]⟩ : ByteArray), .bool false, .bool false, .string (⟨#[]⟩ : ByteArray)]) ?_ 0 _ rfl; exact BK242.out⟩, ⟨by repeat (first | (with_reducible first | exact HB.out | refine below_set ?_ GE242.out) )⟩⟩
           · replace c32 := Bool.eq_false_iff.mpr c32
             subst c32
             have H1 : (ecdysisref20_slot.j1 kj4 ((l2_1.length : Int) != 1) l0_0 l0_1 a2_0 l2_1 ((rd_T36 l1_1 t240).f0) ((rd_T36 l1_1 t240).f1) ((rd_T36 l1_1 t240).f2) ((rd_T36 l1_1 t240).f3) false ((rd_T36 l1_1 t240).f5) ((rd_T36 l1_1 t240).f6)) = some r := by rw [if_neg (show ¬ (false = true) by decide)] at H; exact H
             clear H
             have H := H1
             clear H1
             have H' := Aside0.mk H
             clear H
             have hnb37 := NB242_237.out
             have hnc37 := NB237_242.out
             have hnb38 := NB242_238.out
             have hnc38 := NB238_242.out
             have hnb39 := NB242_239.out
             have hnc39 := NB239_242.out
             have hcz40_0 : w26.cell? ⟨gb242, 0, none⟩ = some (.string (⟨#[]⟩ : ByteArray)) := (blk_cell BK242.out 0).trans rfl
             have hcz40_1 : w26.cell? ⟨gb242, 1, none⟩ = some (.int .i64 0) := (blk_cell BK242.out 1).trans rfl
             have hcz40_2 : w26.cell? ⟨gb242, 2, none⟩ = some (.int .i64 0) := (blk_cell BK242.out 2).trans rfl
             have hcz40_3 : w26.cell? ⟨gb242, 3, none⟩ = some (.string (⟨#[]⟩ : ByteArray)) := (blk_cell BK242.out 3).trans rfl
             have hcz40_4 : w26.cell? ⟨gb242, 4, none⟩ = some (.bool false) := (blk_cell BK242.out 4).trans rfl
             have hcz40_5 : w26.cell? ⟨gb242, 5, none⟩ = some (.bool false) := (blk_cell BK242.out 5).trans rfl
             have hcz40_6 : w26.cell? ⟨gb242, 6, none⟩ = some (.string (⟨#[]⟩ : ByteArray)) := (blk_cell BK242.out 6).trans rfl
             have hfz40_0 := blk_frozen BK242.out 0
             have hfz40_1 := blk_frozen BK242.out 1
             have hfz40_2 := blk_frozen BK242.out 2
             have hfz40_3 := blk_frozen BK242.out 3
             have hfz40_4 := blk_frozen BK242.out 4
             have hfz40_5 := blk_frozen BK242.out 5
             have hfz40_6 := blk_frozen BK242.out 6
             have hnb41 := NB239_237.out
             have hnc41 := NB237_239.out
             have hnb42 := NB239_238.out
             have hnc42 := NB238_239.out
             have hcz43_0 : w26.cell? ⟨gb239, 0, none⟩ = some (.int .i64 a2_0) := (blk_cell BK239.out 0).trans rfl
             have hcz43_1 : w26.cell? ⟨gb239, 1, none⟩ = some (.slice A2_1 l2_1.length c2_1) := (blk_cell BK239.out 1).trans rfl
             have hfz43_0 := blk_frozen BK239.out 0
             have hfz43_1 := blk_frozen BK239.out 1
             go_wp2
             go_meet
             case rel => (try rw [← Nbq31.out]); exact ⟨_, (((l2_1.length : Int) != 1)), (by first | rfl ), H', ⟨by have := HJ4.out; first | omega | exact Nat.le_refl _⟩, ⟨by refine blk_far ?_ NB237_242.out _; refine blk_far ?_ NB237_242.out _; refine blk_far ?_ NB237_242.out _; refine blk_far ?_ NB237_242.out _; refine blk_far ?_ NB237_242.out _; refine blk_far ?_ NB237_242.out _; refine blk_far ?_ NB237_242.out _; exact BK237.out⟩, ⟨by refine blk_far ?_ NB238_242.out _; refine blk_far ?_ NB238_242.out _; refine blk_far ?_ NB238_242.out _; refine blk_far ?_ NB238_242.out _; refine blk_far ?_ NB238_242.out _; refine blk_far ?_ NB238_242.out _; refine blk_far ?_ NB238_242.out _; exact BK238.out⟩, ⟨by refine blk_far ?_ NB239_242.out _; refine blk_far ?_ NB239_242.out _; refine blk_far ?_ NB239_242.out _; refine blk_far ?_ NB239_242.out _; refine blk_far ?_ NB239_242.out _; refine blk_far ?_ NB239_242.out _; refine blk_far ?_ NB239_242.out _; exact BK239.out⟩, ⟨by refine blk_put (cs := #[.string ((rd_T36 l1_1 t240).f0), .int .i64 ((rd_T36 l1_1 t240).f1), .int .i64 ((rd_T36 l1_1 t240).f2), .string ((rd_T36 l1_1 t240).f3), .bool (false), .bool ((rd_T36 l1_1 t240).f5), .string (⟨#[]⟩ : ByteArray)]) ?_ 6 _ rfl; refine blk_put (cs := #[.string ((rd_T36 l1_1 t240).f0), .int .i64 ((rd_T36 l1_1 t240).f1), .int .i64 ((rd_T36 l1_1 t240).f2), .string ((rd_T36 l1_1 t240).f3), .bool (false), .bool false, .string (⟨#[]⟩ : ByteArray)]) ?_ 5 _ rfl; refine blk_put (cs := #[.string ((rd_T36 l1_1 t240).f0), .int .i64 ((rd_T36 l1_1 t240).f1), .int .i64 ((rd_T36 l1_1 t240).f2), .string ((rd_T36 l1_1 t240).f3), .bool false, .bool false, .string (⟨#[]⟩ : ByteArray)]) ?_ 4 _ rfl; refine blk_put (cs := #[.string ((rd_T36 l1_1 t240).f0), .int .i64 ((rd_T36 l1_1 t240).f1), .int .i64 ((rd_T36 l1_1 t240).f2), .string (⟨#[]⟩ : ByteArray), .bool false, .bool false, .string (⟨#[]⟩ : ByteArray)]) ?_ 3 _ rfl; refine blk_put (cs := #[.string ((rd_T36 l1_1 t240).f0), .int .i64 ((rd_T36 l1_1 t240).f1), .int .i64 0, .string (⟨#[]⟩ : ByteArray), .bool false, .bool false, .string (⟨#[]⟩ : ByteArray)]) ?_ 2 _ rfl; refine blk_put (cs := #[.string ((rd_T36 l1_1 t240).f0), .int .i64 0, .int .i64 0, .string (⟨#[]⟩ : ByteArray), .bool false, .bool false, .string (⟨#[]⟩ : ByteArray)]) ?_ 1 _ rfl; refine blk_put (cs := #[.string (⟨#[]⟩ : ByteArray), .int .i64 0, .int .i64 0, .string (⟨#[]⟩ : ByteArray), .bool false, .bool false, .string (⟨#[]⟩ : ByteArray)]) ?_ 0 _ rfl; exact BK242.out⟩, ⟨by repeat (first | (with_reducible first | exact HB.out | refine below_set ?_ GE242.out) )⟩⟩
          case rest =>
           clear HC22
           try clear c1
           try clear c2
           try clear p2
           try clear q2
           try clear hx2
           try clear c3
           try clear q3
           try clear c4
           try clear c9
           try clear c10
           try clear c12
           try clear c15
           try clear c15b0
           try clear c16
           try clear c17
           try clear c19
           try clear c20
           try clear c20b0
           try clear c21
           try clear c21b0
           try clear c23
           try clear c24
           try clear p24
           try clear q24
           try clear hx24
           try clear c27
           try clear c28
           try clear c29
           try clear q31
           try clear c32
           try clear c33
           try clear c34
           try clear c35
           try clear c37
           try clear c38
           try clear c39
           try clear c41
           try clear c42
           try clear hcz11_0
           try clear hcz11_1
           try clear hcz11_2
           try clear hcz13_0
           try clear hcz13_1
           try clear hcz18_0
           try clear hcz18_1
           try clear hcz25_0
           try clear hcz25_1
           try clear hcz25_2
           try clear hcz30_0
           try clear hcz30_1
           try clear hcz30_2
           try clear hcz30_3
           try clear hcz30_4
           try clear hcz30_5
           try clear hcz30_6
           try clear hcz36_0
           try clear hcz36_1
           try clear hcz36_2
           try clear hcz36_3
           try clear hcz36_4
           try clear hcz36_5
           try clear hcz36_6
           try clear hcz40_0
           try clear hcz40_1
           try clear hcz40_2
           try clear hcz40_3
           try clear hcz40_4
           try clear hcz40_5
           try clear hcz40_6
           try clear hcz43_0
           try clear hcz43_1
           try clear hfz11_0
           try clear hfz11_1
           try clear hfz11_2
           try clear hfz13_0
           try clear hfz13_1
           try clear hfz18_0
           try clear hfz18_1
           try clear hfz25_0
           try clear hfz25_1
           try clear hfz25_2
           try clear hfz30_0
           try clear hfz30_1
           try clear hfz30_2
           try clear hfz30_3
           try clear hfz30_4
           try clear hfz30_5
           try clear hfz30_6
           try clear hfz36_0
           try clear hfz36_1
           try clear hfz36_2
           try clear hfz36_3
           try clear hfz36_4
           try clear hfz36_5
           try clear hfz36_6
           try clear hfz40_0
           try clear hfz40_1
           try clear hfz40_2
           try clear hfz40_3
           try clear hfz40_4
           try clear hfz40_5
           try clear hfz40_6
           try clear hfz43_0
           try clear hfz43_1
           try clear hx241_0
           try clear hx241_1
           try clear hx241_2
           try clear hx241_3
           try clear hx241_4
           try clear hx241_5
           try clear hx241_6
           try clear p2
           try clear p241
           try clear q241
           obtain ⟨kq, x35_21, rfl, HA, HJ21, BK237, BK238, BK239, BK242, HB⟩ := hcut
           cases kq with
           | zero => exact absurd HA.out (by simp [ecdysisref20_slot.j1])
           | succ kj21 =>
             have H := HA.out
             clear HA
             simp only [ecdysisref20_slot.j1] at H
             by_cases c44 : x35_21 = true
             · subst c44
               have H1 : (some false) = some r := by rw [if_pos rfl] at H; exact H
               clear H
               have H := H1
               clear H1
               obtain rfl := Option.some.inj H
               go_wp2
               go_ret
               exact ⟨by first | rfl , by exact HB.out⟩
             · replace c44 := Bool.eq_false_iff.mpr c44
               subst c44
               have H1 : (ecdysisref20_slot.l0 kj21 0 l0_0 l0_1 a2_0 l2_1 ((rd_T36 l1_1 t240).f0) ((rd_T36 l1_1 t240).f1) ((rd_T36 l1_1 t240).f2) ((rd_T36 l1_1 t240).f3) ((rd_T36 l1_1 t240).f4) ((rd_T36 l1_1 t240).f5) ((rd_T36 l1_1 t240).f6)) = some r := by rw [if_neg (show ¬ (false = true) by decide)] at H; exact H
               clear H
               have H := H1
               clear H1
               have H' := Aside0.mk H
               clear H
               go_wp2
               go_loopg [9] kj21 (fun kq v9 w' => ∃ (x9_3 : Int), v9 = .int .i64 x9_3 ∧ Aside0 (ecdysisref20_slot.l0 kq x9_3 l0_0 l0_1 a2_0 l2_1 ((rd_T36 l1_1 t240).f0) ((rd_T36 l1_1 t240).f1) ((rd_T36 l1_1 t240).f2) ((rd_T36 l1_1 t240).f3) ((rd_T36 l1_1 t240).f4) ((rd_T36 l1_1 t240).f5) ((rd_T36 l1_1 t240).f6) = some r) ∧ Aside0 (kq ≤ kj21) ∧ Aside0 (w'.heap[gb237]? = some (.cells #[(.slice A0_0 l0_0.length c0_0), (.slice A0_1 l0_1.length c0_1)] 25 (0, 0))) ∧ Aside0 (w'.heap[gb238]? = some (.cells #[.string a1_0, (.slice (some ad241) l1_1.length c1_1), (.slice A1_2 l1_2.length c1_2)] 52 (0, 0))) ∧ Aside0 (w'.heap[gb239]? = some (.cells #[.int .i64 a2_0, (.slice A2_1 l2_1.length c2_1)] 43 (0, 0))) ∧ Aside0 (w'.heap[gb242]? = some (.cells #[.string ((rd_T36 l1_1 t240).f0), .int .i64 ((rd_T36 l1_1 t240).f1), .int .i64 ((rd_T36 l1_1 t240).f2), .string ((rd_T36 l1_1 t240).f3), .bool ((rd_T36 l1_1 t240).f4), .bool ((rd_T36 l1_1 t240).f5), .string ((rd_T36 l1_1 t240).f6)] 36 (0, 0))) ∧ Aside0 (Below w.heap.size w w'))
               case atStart => exact ⟨(0), (by first | rfl ), H', ⟨Nat.le_refl _⟩, ⟨by exact BK237.out⟩, ⟨by exact BK238.out⟩, ⟨by exact BK239.out⟩, ⟨by exact BK242.out⟩, ⟨by exact HB.out⟩⟩
               case round =>
                clear H'
                try clear c1
                try clear c2
                try clear p2
                try clear q2
                try clear hx2
                try clear c3
                try clear q3
                try clear c4
                try clear c9
                try clear c10
                try clear c12
                try clear c15
                try clear c15b0
                try clear c16
                try clear c17
                try clear c19
                try clear c20
                try clear c20b0
                try clear c21
                try clear c21b0
                try clear c23
                try clear c24
                try clear p24
                try clear q24
                try clear hx24
                try clear c27
                try clear c28
                try clear c29
                try clear q31
                try clear c32
                try clear c33
                try clear c34
                try clear c35
                try clear c37
                try clear c38
                try clear c39
                try clear c41
                try clear c42
                try clear c44
                try clear hcz11_0
                try clear hcz11_1
                try clear hcz11_2
                try clear hcz13_0
                try clear hcz13_1
                try clear hcz18_0
                try clear hcz18_1
                try clear hcz25_0
                try clear hcz25_1
                try clear hcz25_2
                try clear hcz30_0
                try clear hcz30_1
                try clear hcz30_2
                try clear hcz30_3
                try clear hcz30_4
                try clear hcz30_5
                try clear hcz30_6
                try clear hcz36_0
                try clear hcz36_1
                try clear hcz36_2
                try clear hcz36_3
                try clear hcz36_4
                try clear hcz36_5
                try clear hcz36_6
                try clear hcz40_0
                try clear hcz40_1
                try clear hcz40_2
                try clear hcz40_3
                try clear hcz40_4
                try clear hcz40_5
                try clear hcz40_6
                try clear hcz43_0
                try clear hcz43_1
                try clear hfz11_0
                try clear hfz11_1
                try clear hfz11_2
                try clear hfz13_0
                try clear hfz13_1
                try clear hfz18_0
                try clear hfz18_1
                try clear hfz25_0
                try clear hfz25_1
                try clear hfz25_2
                try clear hfz30_0
                try clear hfz30_1
                try clear hfz30_2
                try clear hfz30_3
                try clear hfz30_4
                try clear hfz30_5
                try clear hfz30_6
                try clear hfz36_0
                try clear hfz36_1
                try clear hfz36_2
                try clear hfz36_3
                try clear hfz36_4
                try clear hfz36_5
                try clear hfz36_6
                try clear hfz40_0
                try clear hfz40_1
                try clear hfz40_2
                try clear hfz40_3
                try clear hfz40_4
                try clear hfz40_5
                try clear hfz40_6
                try clear hfz43_0
                try clear hfz43_1
                try clear hx241_0
                try clear hx241_1
                try clear hx241_2
                try clear hx241_3
                try clear hx241_4
                try clear hx241_5
                try clear hx241_6
                try clear p2
                try clear p24
                try clear p241
                try clear q2
                try clear q24
                try clear q241
                try clear q3
                try clear q31
                obtain ⟨x9_3, rfl, HA, HK3, BK237, BK238, BK239, BK242, HB⟩ := hrel
                cases gk with
                | zero => exact absurd HA.out (by simp [ecdysisref20_slot.l0])
                | succ k3 =>
                 have H := HA.out
                 clear HA
                 simp only [ecdysisref20_slot.l0] at H
                 by_cases c45 : x9_3 < (l2_1.length : Int)
                 · rw [if_pos c45] at H
                   have c45b0 : decide (x9_3 < (l2_1.length : Int)) = true := decide_eq_true c45
                   clear c45
                   by_cases c46 : 0 ≤ x9_3
                   · rw [if_pos c46] at H
                     have c46b0 : decide (0 ≤ x9_3) = true := decide_eq_true c46
                     clear c46
                     replace H := Option.bind_eq_some_iff.mp H
                     obtain ⟨t244, A470, H⟩ := H
                     replace H : (if t244 = true then (ecdysisref20_slot.l0 k3 (wrap64 (x9_3 + 1)) l0_0 l0_1 a2_0 l2_1 ((rd_T36 l1_1 t240).f0) ((rd_T36 l1_1 t240).f1) ((rd_T36 l1_1 t240).f2) ((rd_T36 l1_1 t240).f3) ((rd_T36 l1_1 t240).f4) ((rd_T36 l1_1 t240).f5) ((rd_T36 l1_1 t240).f6)) else (some false)) = some r := H
                     have A47 := Aside0.mk A470
                     clear A470
                     by_cases c48 : t244 = true
                     · subst c48
                       have H1 : (ecdysisref20_slot.l0 k3 (wrap64 (x9_3 + 1)) l0_0 l0_1 a2_0 l2_1 ((rd_T36 l1_1 t240).f0) ((rd_T36 l1_1 t240).f1) ((rd_T36 l1_1 t240).f2) ((rd_T36 l1_1 t240).f3) ((rd_T36 l1_1 t240).f4) ((rd_T36 l1_1 t240).f5) ((rd_T36 l1_1 t240).f6)) = some r := by rw [if_pos rfl] at H; exact H
                       clear H
                       have H := H1
                       clear H1
                       have H' := Aside0.mk H
                       clear H
                       have hnb49 := NB239_237.out
                       have hnc49 := NB237_239.out
                       have hnb50 := NB239_238.out
                       have hnc50 := NB238_239.out
                       have hnb51 := NB239_242.out
                       have hnc51 := NB242_239.out
                       have hcz52_0 : wr.cell? ⟨gb239, 0, none⟩ = some (.int .i64 a2_0) := (blk_cell BK239.out 0).trans rfl
                       have hcz52_1 : wr.cell? ⟨gb239, 1, none⟩ = some (.slice A2_1 l2_1.length c2_1) := (blk_cell BK239.out 1).trans rfl
                       have hfz52_0 := blk_frozen BK239.out 0
                       have hfz52_1 := blk_frozen BK239.out 1
                       try go_wp2
                       have n0_ := Aside0.mk (blk_drew BK237.out)
                       have n1_ := Aside0.mk (blk_drew BK238.out)
                       have n2_ := Aside0.mk (blk_drew BK239.out)
                       have n3_ := Aside0.mk (blk_drew BK242.out)
                       have n4_ := Aside0.mk (below_drew1 HB.out)
                       clear BK237
                       clear BK238
                       clear BK239
                       clear BK242
                       clear HB
                       have BK237 := n0_
                       have BK238 := n1_
                       have BK239 := n2_
                       have BK242 := n3_
                       have HB := n4_
                       clear n0_ n1_ n2_ n3_ n4_
                       have p243 : 0 ≤ (x9_3 : Int) := of_decide_eq_true (by first | (with_reducible assumption) )
                       have q243 : x9_3 < (l2_1.length : Int) := of_decide_eq_true (by first | (with_reducible assumption) )
                       obtain ⟨ad243, A243_2, c243_2, e243, hx243_0, hx243_1, hx243_2, hl243_2, hi243_2⟩ := at_T40 HR2_1.out x9_3 p243 q243
                       have hw243_2 := hx243_2
                       have hw243_1 := hx243_1
                       have hw243_0 := hx243_0
                       cases e243
                       replace hx243_0 := (HB.out.cell (World.block_lt_of_cell? w _ hx243_0)).trans hx243_0
                       replace hx243_1 := (HB.out.cell (World.block_lt_of_cell? w _ hx243_1)).trans hx243_1
                       replace hx243_2 := (HB.out.cell (World.block_lt_of_cell? w _ hx243_2)).trans hx243_2
                       have HR243_2 := Aside0.mk hi243_2
                       have HC243_2 := Aside0.mk hl243_2
                       clear hi243_2 hl243_2
                       replace p243 := eq_true p243
                       replace q243 := eq_true q243
                       refine start_ (n := 9) (S := fun w' => w'.cell? ⟨gb237, 0, none⟩ = some (.slice A0_0 l0_0.length c0_0) ∧ w'.cell? ⟨gb237, 1, none⟩ = some (.slice A0_1 l0_1.length c0_1) ∧ w'.cell? ⟨gb242, 0, none⟩ = some (.string ((rd_T36 l1_1 t240).f0)) ∧ w'.cell? ⟨gb242, 1, none⟩ = some (.int .i64 ((rd_T36 l1_1 t240).f1)) ∧ w'.cell? ⟨gb242, 2, none⟩ = some (.int .i64 ((rd_T36 l1_1 t240).f2)) ∧ w'.cell? ⟨gb242, 3, none⟩ = some (.string ((rd_T36 l1_1 t240).f3)) ∧ w'.cell? ⟨gb242, 4, none⟩ = some (.bool ((rd_T36 l1_1 t240).f4)) ∧ w'.cell? ⟨gb242, 5, none⟩ = some (.bool ((rd_T36 l1_1 t240).f5)) ∧ w'.cell? ⟨gb242, 6, none⟩ = some (.string ((rd_T36 l1_1 t240).f6)) ∧ w'.cell? ⟨gb239, 0, none⟩ = some (.int .i64 a2_0) ∧ w'.cell? ⟨gb239, 1, none⟩ = some (.slice (some ad243) l2_1.length c2_1) ∧ w'.cell? (ad243.add ((x9_3).toNat * 3)) = some (.int .u64 ((rd_T40 l2_1 x9_3).f0)) ∧ w'.cell? ⟨(ad243.add ((x9_3).toNat * 3)).block, (ad243.add ((x9_3).toNat * 3)).off + 1, none⟩ = some (.string ((rd_T40 l2_1 x9_3).f1)) ∧ w'.cell? ⟨(ad243.add ((x9_3).toNat * 3)).block, (ad243.add ((x9_3).toNat * 3)).off + 2, none⟩ = some (.slice A243_2 ((rd_T40 l2_1 x9_3).f2).length c243_2)) (ds := []) #[false, false, false, false, false, false, false, false, false] (by kernel_rfl) rfl rfl ⟨(blk_cell BK237.out 0).trans rfl, (blk_cell BK237.out 1).trans rfl, (blk_cell BK242.out 0).trans rfl, (blk_cell BK242.out 1).trans rfl, (blk_cell BK242.out 2).trans rfl, (blk_cell BK242.out 3).trans rfl, (blk_cell BK242.out 4).trans rfl, (blk_cell BK242.out 5).trans rfl, (blk_cell BK242.out 6).trans rfl, (blk_cell BK239.out 0).trans rfl, (blk_cell BK239.out 1).trans rfl, ((HB.out.cell (World.block_lt_of_cell? w _ hw243_0)).trans hw243_0), ((HB.out.cell (World.block_lt_of_cell? w _ hw243_1)).trans hw243_1), ((HB.out.cell (World.block_lt_of_cell? w _ hw243_2)).trans hw243_2)⟩ (fun hHeld => ?_); refine with_tabW ecdysisref20_slot.tab10 ecdysisref20_slot.bits10 (fun HT_ HW_ => ?_)
                       generalize wr.drew = w53 at BK237 BK238 BK239 BK242 HB HR243_2 hx243_0 hx243_1 hx243_2 hHeld ⊢
                       refine zp 2 (zb 9 4) ?_ rfl rfl HT_ (by kernel_rfl) (fun _ _ _ h => h) rfl ?_ ?_ ?_ ?_; rotate_left; (intro w'; go_simp; with_reducible rfl); rotate_left; (simp only [zs]; rfl)
                       refine zp 4 (zb 9 20) ?_ rfl rfl HT_ (by kernel_rfl) (fun _ _ _ h => h) rfl ?_ ?_ ?_ ?_; rotate_left; (intro w'; go_simp; with_reducible rfl); rotate_left; (simp only [zs]; rfl)
                       refine zt 0 (zb 9 21) ?_ rfl rfl HT_ HW_ (by kernel_rfl) (fun _ _ _ h => h) rfl ?_ hHeld ?_ ?_ ?_; rotate_left; (rintro w' ⟨s0, s1, s2, s3, s4, s5, s6, s7, s8, s9, s10, s11, s12, s13⟩; go_simp; with_reducible rfl); rotate_left; (simp only [zs]; rfl)
                       refine zt 1 (zb 9 23) ?_ rfl rfl HT_ HW_ (by kernel_rfl) (fun _ _ _ h => h) rfl ?_ hHeld ?_ ?_ ?_; rotate_left; (rintro w' ⟨s0, s1, s2, s3, s4, s5, s6, s7, s8, s9, s10, s11, s12, s13⟩; go_simp; with_reducible rfl); rotate_left; (simp only [zs]; rfl)
                       refine zt 3 (zb 9 31) ?_ rfl rfl HT_ HW_ (by kernel_rfl) (fun _ _ _ h => h) rfl ?_ hHeld ?_ ?_ ?_; rotate_left; (rintro w' ⟨s0, s1, s2, s3, s4, s5, s6, s7, s8, s9, s10, s11, s12, s13⟩; go_simp; with_reducible rfl); rotate_left; (simp only [zs]; rfl)
                       refine zp 5 (zb 9 63) ?_ rfl rfl HT_ (by kernel_rfl) (fun _ _ _ h => h) rfl ?_ ?_ ?_ ?_; rotate_left; (intro w'; go_simp; with_reducible rfl); rotate_left; (simp only [zs]; rfl)
                       refine zt 6 (zb 9 127) ?_ rfl rfl HT_ HW_ (by kernel_rfl) (fun _ _ _ h => h) rfl ?_ hHeld ?_ ?_ ?_; rotate_left; (rintro w' ⟨s0, s1, s2, s3, s4, s5, s6, s7, s8, s9, s10, s11, s12, s13⟩; go_simp; with_reducible rfl); rotate_left; (simp only [zs]; rfl)
                       refine one_ (i := 7) (N := some 50) #[true, true, true, true, true, true, true, true, false] rfl rfl (one_of HT_.out (by kernel_rfl)) (by decide) (fun K hK => ?_)
                       refine goes_ Tryd.func13 (by kernel_rfl) rfl #[.agg #[.slice A0_0 l0_0.length c0_0, .slice A0_1 l0_1.length c0_1], .agg #[.string ((rd_T36 l1_1 t240).f0), .int .i64 ((rd_T36 l1_1 t240).f1), .int .i64 ((rd_T36 l1_1 t240).f2), .string ((rd_T36 l1_1 t240).f3), .bool ((rd_T36 l1_1 t240).f4), .bool ((rd_T36 l1_1 t240).f5), .string ((rd_T36 l1_1 t240).f6)], .agg #[.int .u64 ((rd_T40 l2_1 x9_3).f0), .string ((rd_T40 l2_1 x9_3).f1), .slice A243_2 ((rd_T40 l2_1 x9_3).f2).length c243_2]] (by rfl) rfl rfl (by (try simp only [List.map_toArray, List.map_cons, List.map_nil]); first | done | rfl | (simp only [List.length_drop, List.length_take]; rfl)) ?_
                       with_reducible refine (ih_ecdysisref20_Val k3 (by have := HJ4.out; have := HJ21.out; have := HK3.out; omega) _ _ l0_0 _ _ l0_1 ((rd_T36 l1_1 t240).f0) ((rd_T36 l1_1 t240).f1) ((rd_T36 l1_1 t240).f2) ((rd_T36 l1_1 t240).f3) ((rd_T36 l1_1 t240).f4) ((rd_T36 l1_1 t240).f5) ((rd_T36 l1_1 t240).f6) ((rd_T40 l2_1 x9_3).f0) ((rd_T40 l2_1 x9_3).f1) _ _ ((rd_T40 l2_1 x9_3).f2) true _ ?sideT ?side1 ?side2 ?side3 ?side4 ?side5 ?side6 A47.out).mono ?_
                       case sideT => exact Tabs.below HU8.out HB.out
                       (case side1 => repeat (first | exact (Kd.C_below HR0_0.out HB.out) ))
                       (case side2 => exact HC0_0.out)
                       (case side3 => repeat (first | exact (Kd.C_below HR0_1.out HB.out) ))
                       (case side4 => exact HC0_1.out)
                       (case side5 => repeat (first | exact (Kd.C_below HR243_2.out HB.out) ))
                       (case side6 => exact HC243_2.out)
                       rintro e w54 ⟨rfl, hb⟩
                       refine ⟨_, rfl, ?_⟩
                       have n0_ := Aside0.mk (blk_below BK237.out hb)
                       have n1_ := Aside0.mk (blk_below BK238.out hb)
                       have n2_ := Aside0.mk (blk_below BK239.out hb)
                       have n3_ := Aside0.mk (blk_below BK242.out hb)
                       have n4_ := Aside0.mk (below_step HB.out hb)
                       clear BK237
                       clear BK238
                       clear BK239
                       clear BK242
                       clear HB
                       have BK237 := n0_
                       have BK238 := n1_
                       have BK239 := n2_
                       have BK242 := n3_
                       have HB := n4_
                       clear n0_ n1_ n2_ n3_ n4_
                       (try clear hb)
                       (try clear hb2)
                       (try clear hk)
                       (try clear hi)
                       refine hK.out _ _ ⟨(blk_cell BK237.out 0).trans rfl, (blk_cell BK237.out 1).trans rfl, (blk_cell BK242.out 0).trans rfl, (blk_cell BK242.out 1).trans rfl, (blk_cell BK242.out 2).trans rfl, (blk_cell BK242.out 3).trans rfl, (blk_cell BK242.out 4).trans rfl, (blk_cell BK242.out 5).trans rfl, (blk_cell BK242.out 6).trans rfl, (blk_cell BK239.out 0).trans rfl, (blk_cell BK239.out 1).trans rfl, ((HB.out.cell (World.block_lt_of_cell? w _ hw243_0)).trans hw243_0), ((HB.out.cell (World.block_lt_of_cell? w _ hw243_1)).trans hw243_1), ((HB.out.cell (World.block_lt_of_cell? w _ hw243_2)).trans hw243_2)⟩ (fun hHeld => ?_)
                       clear hK K
                       refine norm_ (a' := ?_) ?_ ?_
                       rotate_left
                       · show Act.put _ (some 50) _ = _
                         simp only [zs]
                         rfl
                       refine zp 8 (zb 9 511) ?_ rfl rfl HT_ (by kernel_rfl) (fun _ _ _ h => h) rfl ?_ ?_ ?_ ?_; rotate_left; (intro w'; go_simp; with_reducible rfl); rotate_left; (simp only [zs]; rfl)
                       refine done_ (done_of HT_.out (by kernel_rfl)) ?_
                       try go_wp2
                       go_roundg k3
                       case measure => have := HJ4.out; have := HJ21.out; have := HK3.out; omega
                       case rel => (try rw [← Nbq31.out]); exact ⟨(wrap64 (x9_3 + 1)), (by first | rfl ), H', ⟨by have := HJ4.out; have := HJ21.out; have := HK3.out; omega⟩, ⟨by exact BK237.out⟩, ⟨by exact BK238.out⟩, ⟨by exact BK239.out⟩, ⟨by exact BK242.out⟩, ⟨by exact HB.out⟩⟩
                     · replace c48 := Bool.eq_false_iff.mpr c48
                       subst c48
                       have H1 : (some false) = some r := by rw [if_neg (show ¬ (false = true) by decide)] at H; exact H
                       clear H
                       have H := H1
                       clear H1
                       obtain rfl := Option.some.inj H
                       have hnb55 := NB239_237.out
                       have hnc55 := NB237_239.out
                       have hnb56 := NB239_238.out
                       have hnc56 := NB238_239.out
                       have hnb57 := NB239_242.out
                       have hnc57 := NB242_239.out
                       have hcz58_0 : wr.cell? ⟨gb239, 0, none⟩ = some (.int .i64 a2_0) := (blk_cell BK239.out 0).trans rfl
                       have hcz58_1 : wr.cell? ⟨gb239, 1, none⟩ = some (.slice A2_1 l2_1.length c2_1) := (blk_cell BK239.out 1).trans rfl
                       have hfz58_0 := blk_frozen BK239.out 0
                       have hfz58_1 := blk_frozen BK239.out 1
                       try go_wp2
                       have n0_ := Aside0.mk (blk_drew BK237.out)
                       have n1_ := Aside0.mk (blk_drew BK238.out)
                       have n2_ := Aside0.mk (blk_drew BK239.out)
                       have n3_ := Aside0.mk (blk_drew BK242.out)
                       have n4_ := Aside0.mk (below_drew1 HB.out)
                       clear BK237
                       clear BK238
                       clear BK239
                       clear BK242
                       clear HB
                       have BK237 := n0_
                       have BK238 := n1_
                       have BK239 := n2_
                       have BK242 := n3_
                       have HB := n4_
                       clear n0_ n1_ n2_ n3_ n4_
                       have p243 : 0 ≤ (x9_3 : Int) := of_decide_eq_true (by first | (with_reducible assumption) )
                       have q243 : x9_3 < (l2_1.length : Int) := of_decide_eq_true (by first | (with_reducible assumption) )
                       obtain ⟨ad243, A243_2, c243_2, e243, hx243_0, hx243_1, hx243_2, hl243_2, hi243_2⟩ := at_T40 HR2_1.out x9_3 p243 q243
                       have hw243_2 := hx243_2
                       have hw243_1 := hx243_1
                       have hw243_0 := hx243_0
                       cases e243
                       replace hx243_0 := (HB.out.cell (World.block_lt_of_cell? w _ hx243_0)).trans hx243_0
                       replace hx243_1 := (HB.out.cell (World.block_lt_of_cell? w _ hx243_1)).trans hx243_1
                       replace hx243_2 := (HB.out.cell (World.block_lt_of_cell? w _ hx243_2)).trans hx243_2
                       have HR243_2 := Aside0.mk hi243_2
                       have HC243_2 := Aside0.mk hl243_2
                       clear hi243_2 hl243_2
                       replace p243 := eq_true p243
                       replace q243 := eq_true q243
                       refine start_ (n := 9) (S := fun w' => w'.cell? ⟨gb237, 0, none⟩ = some (.slice A0_0 l0_0.length c0_0) ∧ w'.cell? ⟨gb237, 1, none⟩ = some (.slice A0_1 l0_1.length c0_1) ∧ w'.cell? ⟨gb242, 0, none⟩ = some (.string ((rd_T36 l1_1 t240).f0)) ∧ w'.cell? ⟨gb242, 1, none⟩ = some (.int .i64 ((rd_T36 l1_1 t240).f1)) ∧ w'.cell? ⟨gb242, 2, none⟩ = some (.int .i64 ((rd_T36 l1_1 t240).f2)) ∧ w'.cell? ⟨gb242, 3, none⟩ = some (.string ((rd_T36 l1_1 t240).f3)) ∧ w'.cell? ⟨gb242, 4, none⟩ = some (.bool ((rd_T36 l1_1 t240).f4)) ∧ w'.cell? ⟨gb242, 5, none⟩ = some (.bool ((rd_T36 l1_1 t240).f5)) ∧ w'.cell? ⟨gb242, 6, none⟩ = some (.string ((rd_T36 l1_1 t240).f6)) ∧ w'.cell? ⟨gb239, 0, none⟩ = some (.int .i64 a2_0) ∧ w'.cell? ⟨gb239, 1, none⟩ = some (.slice (some ad243) l2_1.length c2_1) ∧ w'.cell? (ad243.add ((x9_3).toNat * 3)) = some (.int .u64 ((rd_T40 l2_1 x9_3).f0)) ∧ w'.cell? ⟨(ad243.add ((x9_3).toNat * 3)).block, (ad243.add ((x9_3).toNat * 3)).off + 1, none⟩ = some (.string ((rd_T40 l2_1 x9_3).f1)) ∧ w'.cell? ⟨(ad243.add ((x9_3).toNat * 3)).block, (ad243.add ((x9_3).toNat * 3)).off + 2, none⟩ = some (.slice A243_2 ((rd_T40 l2_1 x9_3).f2).length c243_2)) (ds := []) #[false, false, false, false, false, false, false, false, false] (by kernel_rfl) rfl rfl ⟨(blk_cell BK237.out 0).trans rfl, (blk_cell BK237.out 1).trans rfl, (blk_cell BK242.out 0).trans rfl, (blk_cell BK242.out 1).trans rfl, (blk_cell BK242.out 2).trans rfl, (blk_cell BK242.out 3).trans rfl, (blk_cell BK242.out 4).trans rfl, (blk_cell BK242.out 5).trans rfl, (blk_cell BK242.out 6).trans rfl, (blk_cell BK239.out 0).trans rfl, (blk_cell BK239.out 1).trans rfl, ((HB.out.cell (World.block_lt_of_cell? w _ hw243_0)).trans hw243_0), ((HB.out.cell (World.block_lt_of_cell? w _ hw243_1)).trans hw243_1), ((HB.out.cell (World.block_lt_of_cell? w _ hw243_2)).trans hw243_2)⟩ (fun hHeld => ?_); refine with_tabW ecdysisref20_slot.tab10 ecdysisref20_slot.bits10 (fun HT_ HW_ => ?_)
                       generalize wr.drew = w59 at BK237 BK238 BK239 BK242 HB HR243_2 hx243_0 hx243_1 hx243_2 hHeld ⊢
                       refine zp 2 (zb 9 4) ?_ rfl rfl HT_ (by kernel_rfl) (fun _ _ _ h => h) rfl ?_ ?_ ?_ ?_; rotate_left; (intro w'; go_simp; with_reducible rfl); rotate_left; (simp only [zs]; rfl)
                       refine zp 4 (zb 9 20) ?_ rfl rfl HT_ (by kernel_rfl) (fun _ _ _ h => h) rfl ?_ ?_ ?_ ?_; rotate_left; (intro w'; go_simp; with_reducible rfl); rotate_left; (simp only [zs]; rfl)
                       refine zt 0 (zb 9 21) ?_ rfl rfl HT_ HW_ (by kernel_rfl) (fun _ _ _ h => h) rfl ?_ hHeld ?_ ?_ ?_; rotate_left; (rintro w' ⟨s0, s1, s2, s3, s4, s5, s6, s7, s8, s9, s10, s11, s12, s13⟩; go_simp; with_reducible rfl); rotate_left; (simp only [zs]; rfl)
                       refine zt 1 (zb 9 23) ?_ rfl rfl HT_ HW_ (by kernel_rfl) (fun _ _ _ h => h) rfl ?_ hHeld ?_ ?_ ?_; rotate_left; (rintro w' ⟨s0, s1, s2, s3, s4, s5, s6, s7, s8, s9, s10, s11, s12, s13⟩; go_simp; with_reducible rfl); rotate_left; (simp only [zs]; rfl)
                       refine zt 3 (zb 9 31) ?_ rfl rfl HT_ HW_ (by kernel_rfl) (fun _ _ _ h => h) rfl ?_ hHeld ?_ ?_ ?_; rotate_left; (rintro w' ⟨s0, s1, s2, s3, s4, s5, s6, s7, s8, s9, s10, s11, s12, s13⟩; go_simp; with_reducible rfl); rotate_left; (simp only [zs]; rfl)
                       refine zp 5 (zb 9 63) ?_ rfl rfl HT_ (by kernel_rfl) (fun _ _ _ h => h) rfl ?_ ?_ ?_ ?_; rotate_left; (intro w'; go_simp; with_reducible rfl); rotate_left; (simp only [zs]; rfl)
                       refine zt 6 (zb 9 127) ?_ rfl rfl HT_ HW_ (by kernel_rfl) (fun _ _ _ h => h) rfl ?_ hHeld ?_ ?_ ?_; rotate_left; (rintro w' ⟨s0, s1, s2, s3, s4, s5, s6, s7, s8, s9, s10, s11, s12, s13⟩; go_simp; with_reducible rfl); rotate_left; (simp only [zs]; rfl)
                       refine one_ (i := 7) (N := some 50) #[true, true, true, true, true, true, true, true, false] rfl rfl (one_of HT_.out (by kernel_rfl)) (by decide) (fun K hK => ?_)
                       refine goes_ Tryd.func13 (by kernel_rfl) rfl #[.agg #[.slice A0_0 l0_0.length c0_0, .slice A0_1 l0_1.length c0_1], .agg #[.string ((rd_T36 l1_1 t240).f0), .int .i64 ((rd_T36 l1_1 t240).f1), .int .i64 ((rd_T36 l1_1 t240).f2), .string ((rd_T36 l1_1 t240).f3), .bool ((rd_T36 l1_1 t240).f4), .bool ((rd_T36 l1_1 t240).f5), .string ((rd_T36 l1_1 t240).f6)], .agg #[.int .u64 ((rd_T40 l2_1 x9_3).f0), .string ((rd_T40 l2_1 x9_3).f1), .slice A243_2 ((rd_T40 l2_1 x9_3).f2).length c243_2]] (by rfl) rfl rfl (by (try simp only [List.map_toArray, List.map_cons, List.map_nil]); first | done | rfl | (simp only [List.length_drop, List.length_take]; rfl)) ?_
                       with_reducible refine (ih_ecdysisref20_Val k3 (by have := HJ4.out; have := HJ21.out; have := HK3.out; omega) _ _ l0_0 _ _ l0_1 ((rd_T36 l1_1 t240).f0) ((rd_T36 l1_1 t240).f1) ((rd_T36 l1_1 t240).f2) ((rd_T36 l1_1 t240).f3) ((rd_T36 l1_1 t240).f4) ((rd_T36 l1_1 t240).f5) ((rd_T36 l1_1 t240).f6) ((rd_T40 l2_1 x9_3).f0) ((rd_T40 l2_1 x9_3).f1) _ _ ((rd_T40 l2_1 x9_3).f2) false _ ?sideT ?side1 ?side2 ?side3 ?side4 ?side5 ?side6 A47.out).mono ?_
                       case sideT => exact Tabs.below HU8.out HB.out
                       (case side1 => repeat (first | exact (Kd.C_below HR0_0.out HB.out) ))
                       (case side2 => exact HC0_0.out)
                       (case side3 => repeat (first | exact (Kd.C_below HR0_1.out HB.out) ))
                       (case side4 => exact HC0_1.out)
                       (case side5 => repeat (first | exact (Kd.C_below HR243_2.out HB.out) ))
                       (case side6 => exact HC243_2.out)
                       rintro e w60 ⟨rfl, hb⟩
                       refine ⟨_, rfl, ?_⟩
                       have n0_ := Aside0.mk (blk_below BK237.out hb)
                       have n1_ := Aside0.mk (blk_below BK238.out hb)
                       have n2_ := Aside0.mk (blk_below BK239.out hb)
                       have n3_ := Aside0.mk (blk_below BK242.out hb)
                       have n4_ := Aside0.mk (below_step HB.out hb)
                       clear BK237
                       clear BK238
                       clear BK239
                       clear BK242
                       clear HB
                       have BK237 := n0_
                       have BK238 := n1_
                       have BK239 := n2_
                       have BK242 := n3_
                       have HB := n4_
                       clear n0_ n1_ n2_ n3_ n4_
                       (try clear hb)
                       (try clear hb2)
                       (try clear hk)
                       (try clear hi)
                       refine hK.out _ _ ⟨(blk_cell BK237.out 0).trans rfl, (blk_cell BK237.out 1).trans rfl, (blk_cell BK242.out 0).trans rfl, (blk_cell BK242.out 1).trans rfl, (blk_cell BK242.out 2).trans rfl, (blk_cell BK242.out 3).trans rfl, (blk_cell BK242.out 4).trans rfl, (blk_cell BK242.out 5).trans rfl, (blk_cell BK242.out 6).trans rfl, (blk_cell BK239.out 0).trans rfl, (blk_cell BK239.out 1).trans rfl, ((HB.out.cell (World.block_lt_of_cell? w _ hw243_0)).trans hw243_0), ((HB.out.cell (World.block_lt_of_cell? w _ hw243_1)).trans hw243_1), ((HB.out.cell (World.block_lt_of_cell? w _ hw243_2)).trans hw243_2)⟩ (fun hHeld => ?_)
                       clear hK K
                       refine norm_ (a' := ?_) ?_ ?_
                       rotate_left
                       · show Act.put _ (some 50) _ = _
                         simp only [zs]
                         rfl
                       refine zp 8 (zb 9 511) ?_ rfl rfl HT_ (by kernel_rfl) (fun _ _ _ h => h) rfl ?_ ?_ ?_ ?_; rotate_left; (intro w'; go_simp; with_reducible rfl); rotate_left; (simp only [zs]; rfl)
                       refine done_ (done_of HT_.out (by kernel_rfl)) ?_
                       try go_wp2
                       go_ret
                       exact ⟨by first | rfl , by exact HB.out⟩
                   · rw [if_neg c46] at H
                     exact absurd H (by simp)
                 · rw [if_neg c45] at H
                   have c45b0 : decide (x9_3 < (l2_1.length : Int)) = false := decide_eq_false c45
                   clear c45
                   replace H := Option.bind_eq_some_iff.mp H
                   obtain ⟨t245, A610, H⟩ := H
                   replace H : (if t245 = true then (if 0 < (l2_1.length : Int) then (if ((rd_T40 l2_1 0).f0) = 0 then (some (((rd_T40 l2_1 0).f1).toList != ([] : List UInt8))) else (some true)) else (none)) else (some true)) = some r := H
                   have A61 := Aside0.mk A610
                   clear A610
                   by_cases c62 : t245 = true
                   · subst c62
                     have H1 : (if 0 < (l2_1.length : Int) then (if ((rd_T40 l2_1 0).f0) = 0 then (some (((rd_T40 l2_1 0).f1).toList != ([] : List UInt8))) else (some true)) else (none)) = some r := by rw [if_pos rfl] at H; exact H
                     clear H
                     have H := H1
                     clear H1
                     by_cases c63 : 0 < (l2_1.length : Int)
                     · rw [if_pos c63] at H
                       have c63b0 : decide (0 < (l2_1.length : Int)) = true := decide_eq_true c63
                       have c63b1 : decide (0 < l2_1.length) = true := decide_eq_true (by omega)
                       clear c63
                       by_cases c64 : ((rd_T40 l2_1 0).f0) = 0
                       · rw [if_pos c64] at H
                         have c64b0 : (((rd_T40 l2_1 0).f0) == 0) = true := beq_iff_eq.mpr c64
                         have c64b1 : (((rd_T40 l2_1 0).f0) != 0) = false := bne_eq_false_iff_eq.mpr c64
                         clear c64
                         obtain rfl := Option.some.inj H
                         have hnb65 := NB239_237.out
                         have hnc65 := NB237_239.out
                         have hnb66 := NB239_238.out
                         have hnc66 := NB238_239.out
                         have hnb67 := NB239_242.out
                         have hnc67 := NB242_239.out
                         have hcz68_0 : wr.cell? ⟨gb239, 0, none⟩ = some (.int .i64 a2_0) := (blk_cell BK239.out 0).trans rfl
                         have hcz68_1 : wr.cell? ⟨gb239, 1, none⟩ = some (.slice A2_1 l2_1.length c2_1) := (blk_cell BK239.out 1).trans rfl
                         have hfz68_0 := blk_frozen BK239.out 0
                         have hfz68_1 := blk_frozen BK239.out 1
                         have hnb69 := NB242_237.out
                         have hnc69 := NB237_242.out
                         have hnb70 := NB242_238.out
                         have hnc70 := NB238_242.out
                         have hcz71_0 : wr.cell? ⟨gb242, 0, none⟩ = some (.string ((rd_T36 l1_1 t240).f0)) := (blk_cell BK242.out 0).trans rfl
                         have hcz71_1 : wr.cell? ⟨gb242, 1, none⟩ = some (.int .i64 ((rd_T36 l1_1 t240).f1)) := (blk_cell BK242.out 1).trans rfl
                         have hcz71_2 : wr.cell? ⟨gb242, 2, none⟩ = some (.int .i64 ((rd_T36 l1_1 t240).f2)) := (blk_cell BK242.out 2).trans rfl
                         have hcz71_3 : wr.cell? ⟨gb242, 3, none⟩ = some (.string ((rd_T36 l1_1 t240).f3)) := (blk_cell BK242.out 3).trans rfl
                         have hcz71_4 : wr.cell? ⟨gb242, 4, none⟩ = some (.bool ((rd_T36 l1_1 t240).f4)) := (blk_cell BK242.out 4).trans rfl
                         have hcz71_5 : wr.cell? ⟨gb242, 5, none⟩ = some (.bool ((rd_T36 l1_1 t240).f5)) := (blk_cell BK242.out 5).trans rfl
                         have hcz71_6 : wr.cell? ⟨gb242, 6, none⟩ = some (.string ((rd_T36 l1_1 t240).f6)) := (blk_cell BK242.out 6).trans rfl
                         have hfz71_0 := blk_frozen BK242.out 0
                         have hfz71_1 := blk_frozen BK242.out 1
                         have hfz71_2 := blk_frozen BK242.out 2
                         have hfz71_3 := blk_frozen BK242.out 3
                         have hfz71_4 := blk_frozen BK242.out 4
                         have hfz71_5 := blk_frozen BK242.out 5
                         have hfz71_6 := blk_frozen BK242.out 6
                         go_wp2_with (first | ((with_reducible refine gate_callee (f := 34) rfl ?_); refine goesL_ (some 53) rfl rfl Tryd.func34 (by kernel_rfl) rfl #[.agg #[.string ((rd_T36 l1_1 t240).f0), .int .i64 ((rd_T36 l1_1 t240).f1), .int .i64 ((rd_T36 l1_1 t240).f2), .string ((rd_T36 l1_1 t240).f3), .bool ((rd_T36 l1_1 t240).f4), .bool ((rd_T36 l1_1 t240).f5), .string ((rd_T36 l1_1 t240).f6)]] rfl (by (try simp only [List.map_toArray, List.map_cons, List.map_nil]); first | done | rfl | (simp only [List.length_drop, List.length_take]; rfl)) ?_; (with_reducible refine (ecdysisref14_Hidden.calls ((rd_T36 l1_1 t240).f0) ((rd_T36 l1_1 t240).f1) ((rd_T36 l1_1 t240).f2) ((rd_T36 l1_1 t240).f3) ((rd_T36 l1_1 t240).f4) ((rd_T36 l1_1 t240).f5) ((rd_T36 l1_1 t240).f6) true _ A61.out).mono ?_); rintro e w72 ⟨rfl, hb⟩; refine ⟨_, rfl, ?_⟩; have n0_ := Aside0.mk (blk_below BK237.out hb); have n1_ := Aside0.mk (blk_below BK238.out hb); have n2_ := Aside0.mk (blk_below BK239.out hb); have n3_ := Aside0.mk (blk_below BK242.out hb); have n4_ := Aside0.mk (below_step HB.out hb); clear BK237; clear BK238; clear BK239; clear BK242; clear HB; have BK237 := n0_; have BK238 := n1_; have BK239 := n2_; have BK242 := n3_; have HB := n4_; clear n0_ n1_ n2_ n3_ n4_; (try clear hb); (try clear hb2); (try clear hk); (try clear hi); have hcz73_0 : w72.cell? ⟨gb239, 0, none⟩ = some (.int .i64 a2_0) := (blk_cell BK239.out 0).trans rfl; have hcz73_1 : w72.cell? ⟨gb239, 1, none⟩ = some (.slice A2_1 l2_1.length c2_1) := (blk_cell BK239.out 1).trans rfl; have hfz73_0 := blk_frozen BK239.out 0; have hfz73_1 := blk_frozen BK239.out 1; have p246 : 0 ≤ (0 : Int) := (by omega); have q246 : 0 < (l2_1.length : Int) := of_decide_eq_true (by first | (with_reducible assumption) ); obtain ⟨ad246, A246_2, c246_2, e246, hx246_0, hx246_1, hx246_2, hl246_2, hi246_2⟩ := at_T40 HR2_1.out 0 p246 q246; cases e246; have qi246 : (0 < l2_1.length) = True := eq_true (by omega); (try rw [show ((0 : Int)).toNat = 0 from rfl] at hx246_0); (try rw [show 0 * 3 = 0 from rfl] at hx246_0); (try rw [Addr.add_zero'] at hx246_0); (try rw [show ((0 : Int)).toNat = 0 from rfl] at hx246_1); (try rw [show 0 * 3 = 0 from rfl] at hx246_1); (try rw [Addr.add_zero'] at hx246_1); (try rw [show ((0 : Int)).toNat = 0 from rfl] at hx246_2); (try rw [show 0 * 3 = 0 from rfl] at hx246_2); (try rw [Addr.add_zero'] at hx246_2); replace hx246_0 := (HB.out.cell (World.block_lt_of_cell? w _ hx246_0)).trans hx246_0; replace hx246_1 := (HB.out.cell (World.block_lt_of_cell? w _ hx246_1)).trans hx246_1; replace hx246_2 := (HB.out.cell (World.block_lt_of_cell? w _ hx246_2)).trans hx246_2; have HR246_2 := Aside0.mk hi246_2; have HC246_2 := Aside0.mk hl246_2; clear hi246_2 hl246_2; replace p246 := eq_true p246; replace q246 := eq_true q246; have p247 : 0 ≤ (0 : Int) := (by omega); have q247 : 0 < (l2_1.length : Int) := of_decide_eq_true (by first | (with_reducible assumption) ); obtain ⟨ad247, A247_2, c247_2, e247, hx247_0, hx247_1, hx247_2, hl247_2, hi247_2⟩ := at_T40 HR2_1.out 0 p247 q247; obtain rfl : ad246 = ad247 := (by injection e247); have qi247 : (0 < l2_1.length) = True := eq_true (by omega); (try rw [show ((0 : Int)).toNat = 0 from rfl] at hx247_0); (try rw [show 0 * 3 = 0 from rfl] at hx247_0); (try rw [Addr.add_zero'] at hx247_0); (try rw [show ((0 : Int)).toNat = 0 from rfl] at hx247_1); (try rw [show 0 * 3 = 0 from rfl] at hx247_1); (try rw [Addr.add_zero'] at hx247_1); (try rw [show ((0 : Int)).toNat = 0 from rfl] at hx247_2); (try rw [show 0 * 3 = 0 from rfl] at hx247_2); (try rw [Addr.add_zero'] at hx247_2); replace hx247_0 := (HB.out.cell (World.block_lt_of_cell? w _ hx247_0)).trans hx247_0; replace hx247_1 := (HB.out.cell (World.block_lt_of_cell? w _ hx247_1)).trans hx247_1; replace hx247_2 := (HB.out.cell (World.block_lt_of_cell? w _ hx247_2)).trans hx247_2; have HR247_2 := Aside0.mk hi247_2; have HC247_2 := Aside0.mk hl247_2; clear hi247_2 hl247_2; replace p247 := eq_true p247; replace q247 := eq_true q247; have ea_ := Option.some.inj (hx246_2.symm.trans hx247_2); injection ea_ with ea_ en_ ec_; subst ea_; subst ec_; clear en_))
                         go_ret
                         exact ⟨by first | (simp [*, errW_none, errW_some]; exact isEmpty_bne _), by exact HB.out⟩
                       · rw [if_neg c64] at H
                         have c64b0 : (((rd_T40 l2_1 0).f0) == 0) = false := beq_eq_false_iff_ne.mpr c64
                         have c64b1 : (((rd_T40 l2_1 0).f0) != 0) = true := bne_iff_ne.mpr c64
                         obtain rfl := Option.some.inj H
                         have hnb74 := NB239_237.out
                         have hnc74 := NB237_239.out
                         have hnb75 := NB239_238.out
                         have hnc75 := NB238_239.out
                         have hnb76 := NB239_242.out
                         have hnc76 := NB242_239.out
                         have hcz77_0 : wr.cell? ⟨gb239, 0, none⟩ = some (.int .i64 a2_0) := (blk_cell BK239.out 0).trans rfl
                         have hcz77_1 : wr.cell? ⟨gb239, 1, none⟩ = some (.slice A2_1 l2_1.length c2_1) := (blk_cell BK239.out 1).trans rfl
                         have hfz77_0 := blk_frozen BK239.out 0
                         have hfz77_1 := blk_frozen BK239.out 1
                         have hnb78 := NB242_237.out
                         have hnc78 := NB237_242.out
                         have hnb79 := NB242_238.out
                         have hnc79 := NB238_242.out
                         have hcz80_0 : wr.cell? ⟨gb242, 0, none⟩ = some (.string ((rd_T36 l1_1 t240).f0)) := (blk_cell BK242.out 0).trans rfl
                         have hcz80_1 : wr.cell? ⟨gb242, 1, none⟩ = some (.int .i64 ((rd_T36 l1_1 t240).f1)) := (blk_cell BK242.out 1).trans rfl
                         have hcz80_2 : wr.cell? ⟨gb242, 2, none⟩ = some (.int .i64 ((rd_T36 l1_1 t240).f2)) := (blk_cell BK242.out 2).trans rfl
                         have hcz80_3 : wr.cell? ⟨gb242, 3, none⟩ = some (.string ((rd_T36 l1_1 t240).f3)) := (blk_cell BK242.out 3).trans rfl
                         have hcz80_4 : wr.cell? ⟨gb242, 4, none⟩ = some (.bool ((rd_T36 l1_1 t240).f4)) := (blk_cell BK242.out 4).trans rfl
                         have hcz80_5 : wr.cell? ⟨gb242, 5, none⟩ = some (.bool ((rd_T36 l1_1 t240).f5)) := (blk_cell BK242.out 5).trans rfl
                         have hcz80_6 : wr.cell? ⟨gb242, 6, none⟩ = some (.string ((rd_T36 l1_1 t240).f6)) := (blk_cell BK242.out 6).trans rfl
                         have hfz80_0 := blk_frozen BK242.out 0
                         have hfz80_1 := blk_frozen BK242.out 1
                         have hfz80_2 := blk_frozen BK242.out 2
                         have hfz80_3 := blk_frozen BK242.out 3
                         have hfz80_4 := blk_frozen BK242.out 4
                         have hfz80_5 := blk_frozen BK242.out 5
                         have hfz80_6 := blk_frozen BK242.out 6
                         go_wp2_with (first | ((with_reducible refine gate_callee (f := 34) rfl ?_); refine goesL_ (some 53) rfl rfl Tryd.func34 (by kernel_rfl) rfl #[.agg #[.string ((rd_T36 l1_1 t240).f0), .int .i64 ((rd_T36 l1_1 t240).f1), .int .i64 ((rd_T36 l1_1 t240).f2), .string ((rd_T36 l1_1 t240).f3), .bool ((rd_T36 l1_1 t240).f4), .bool ((rd_T36 l1_1 t240).f5), .string ((rd_T36 l1_1 t240).f6)]] rfl (by (try simp only [List.map_toArray, List.map_cons, List.map_nil]); first | done | rfl | (simp only [List.length_drop, List.length_take]; rfl)) ?_; (with_reducible refine (ecdysisref14_Hidden.calls ((rd_T36 l1_1 t240).f0) ((rd_T36 l1_1 t240).f1) ((rd_T36 l1_1 t240).f2) ((rd_T36 l1_1 t240).f3) ((rd_T36 l1_1 t240).f4) ((rd_T36 l1_1 t240).f5) ((rd_T36 l1_1 t240).f6) true _ A61.out).mono ?_); rintro e w81 ⟨rfl, hb⟩; refine ⟨_, rfl, ?_⟩; have n0_ := Aside0.mk (blk_below BK237.out hb); have n1_ := Aside0.mk (blk_below BK238.out hb); have n2_ := Aside0.mk (blk_below BK239.out hb); have n3_ := Aside0.mk (blk_below BK242.out hb); have n4_ := Aside0.mk (below_step HB.out hb); clear BK237; clear BK238; clear BK239; clear BK242; clear HB; have BK237 := n0_; have BK238 := n1_; have BK239 := n2_; have BK242 := n3_; have HB := n4_; clear n0_ n1_ n2_ n3_ n4_; (try clear hb); (try clear hb2); (try clear hk); (try clear hi); have hcz82_0 : w81.cell? ⟨gb239, 0, none⟩ = some (.int .i64 a2_0) := (blk_cell BK239.out 0).trans rfl; have hcz82_1 : w81.cell? ⟨gb239, 1, none⟩ = some (.slice A2_1 l2_1.length c2_1) := (blk_cell BK239.out 1).trans rfl; have hfz82_0 := blk_frozen BK239.out 0; have hfz82_1 := blk_frozen BK239.out 1; have p246 : 0 ≤ (0 : Int) := (by omega); have q246 : 0 < (l2_1.length : Int) := of_decide_eq_true (by first | (with_reducible assumption) ); obtain ⟨ad246, A246_2, c246_2, e246, hx246_0, hx246_1, hx246_2, hl246_2, hi246_2⟩ := at_T40 HR2_1.out 0 p246 q246; cases e246; have qi246 : (0 < l2_1.length) = True := eq_true (by omega); (try rw [show ((0 : Int)).toNat = 0 from rfl] at hx246_0); (try rw [show 0 * 3 = 0 from rfl] at hx246_0); (try rw [Addr.add_zero'] at hx246_0); (try rw [show ((0 : Int)).toNat = 0 from rfl] at hx246_1); (try rw [show 0 * 3 = 0 from rfl] at hx246_1); (try rw [Addr.add_zero'] at hx246_1); (try rw [show ((0 : Int)).toNat = 0 from rfl] at hx246_2); (try rw [show 0 * 3 = 0 from rfl] at hx246_2); (try rw [Addr.add_zero'] at hx246_2); replace hx246_0 := (HB.out.cell (World.block_lt_of_cell? w _ hx246_0)).trans hx246_0; replace hx246_1 := (HB.out.cell (World.block_lt_of_cell? w _ hx246_1)).trans hx246_1; replace hx246_2 := (HB.out.cell (World.block_lt_of_cell? w _ hx246_2)).trans hx246_2; have HR246_2 := Aside0.mk hi246_2; have HC246_2 := Aside0.mk hl246_2; clear hi246_2 hl246_2; replace p246 := eq_true p246; replace q246 := eq_true q246))
                         go_ret
                         exact ⟨by first | rfl , by exact HB.out⟩
                     · rw [if_neg c63] at H
                       exact absurd H (by simp)
                   · replace c62 := Bool.eq_false_iff.mpr c62
                     subst c62
                     have H1 : (some true) = some r := by rw [if_neg (show ¬ (false = true) by decide)] at H; exact H
                     clear H
                     have H := H1
                     clear H1
                     obtain rfl := Option.some.inj H
                     have hnb83 := NB239_237.out
                     have hnc83 := NB237_239.out
                     have hnb84 := NB239_238.out
                     have hnc84 := NB238_239.out
                     have hnb85 := NB239_242.out
                     have hnc85 := NB242_239.out
                     have hcz86_0 : wr.cell? ⟨gb239, 0, none⟩ = some (.int .i64 a2_0) := (blk_cell BK239.out 0).trans rfl
                     have hcz86_1 : wr.cell? ⟨gb239, 1, none⟩ = some (.slice A2_1 l2_1.length c2_1) := (blk_cell BK239.out 1).trans rfl
                     have hfz86_0 := blk_frozen BK239.out 0
                     have hfz86_1 := blk_frozen BK239.out 1
                     have hnb87 := NB242_237.out
                     have hnc87 := NB237_242.out
                     have hnb88 := NB242_238.out
                     have hnc88 := NB238_242.out
                     have hcz89_0 : wr.cell? ⟨gb242, 0, none⟩ = some (.string ((rd_T36 l1_1 t240).f0)) := (blk_cell BK242.out 0).trans rfl
                     have hcz89_1 : wr.cell? ⟨gb242, 1, none⟩ = some (.int .i64 ((rd_T36 l1_1 t240).f1)) := (blk_cell BK242.out 1).trans rfl
                     have hcz89_2 : wr.cell? ⟨gb242, 2, none⟩ = some (.int .i64 ((rd_T36 l1_1 t240).f2)) := (blk_cell BK242.out 2).trans rfl
                     have hcz89_3 : wr.cell? ⟨gb242, 3, none⟩ = some (.string ((rd_T36 l1_1 t240).f3)) := (blk_cell BK242.out 3).trans rfl
                     have hcz89_4 : wr.cell? ⟨gb242, 4, none⟩ = some (.bool ((rd_T36 l1_1 t240).f4)) := (blk_cell BK242.out 4).trans rfl
                     have hcz89_5 : wr.cell? ⟨gb242, 5, none⟩ = some (.bool ((rd_T36 l1_1 t240).f5)) := (blk_cell BK242.out 5).trans rfl
                     have hcz89_6 : wr.cell? ⟨gb242, 6, none⟩ = some (.string ((rd_T36 l1_1 t240).f6)) := (blk_cell BK242.out 6).trans rfl
                     have hfz89_0 := blk_frozen BK242.out 0
                     have hfz89_1 := blk_frozen BK242.out 1
                     have hfz89_2 := blk_frozen BK242.out 2
                     have hfz89_3 := blk_frozen BK242.out 3
                     have hfz89_4 := blk_frozen BK242.out 4
                     have hfz89_5 := blk_frozen BK242.out 5
                     have hfz89_6 := blk_frozen BK242.out 6
                     go_wp2_with (first | ((with_reducible refine gate_callee (f := 34) rfl ?_); refine goesL_ (some 53) rfl rfl Tryd.func34 (by kernel_rfl) rfl #[.agg #[.string ((rd_T36 l1_1 t240).f0), .int .i64 ((rd_T36 l1_1 t240).f1), .int .i64 ((rd_T36 l1_1 t240).f2), .string ((rd_T36 l1_1 t240).f3), .bool ((rd_T36 l1_1 t240).f4), .bool ((rd_T36 l1_1 t240).f5), .string ((rd_T36 l1_1 t240).f6)]] rfl (by (try simp only [List.map_toArray, List.map_cons, List.map_nil]); first | done | rfl | (simp only [List.length_drop, List.length_take]; rfl)) ?_; (with_reducible refine (ecdysisref14_Hidden.calls ((rd_T36 l1_1 t240).f0) ((rd_T36 l1_1 t240).f1) ((rd_T36 l1_1 t240).f2) ((rd_T36 l1_1 t240).f3) ((rd_T36 l1_1 t240).f4) ((rd_T36 l1_1 t240).f5) ((rd_T36 l1_1 t240).f6) false _ A61.out).mono ?_); rintro e w90 ⟨rfl, hb⟩; refine ⟨_, rfl, ?_⟩; have n0_ := Aside0.mk (blk_below BK237.out hb); have n1_ := Aside0.mk (blk_below BK238.out hb); have n2_ := Aside0.mk (blk_below BK239.out hb); have n3_ := Aside0.mk (blk_below BK242.out hb); have n4_ := Aside0.mk (below_step HB.out hb); clear BK237; clear BK238; clear BK239; clear BK242; clear HB; have BK237 := n0_; have BK238 := n1_; have BK239 := n2_; have BK242 := n3_; have HB := n4_; clear n0_ n1_ n2_ n3_ n4_; (try clear hb); (try clear hb2); (try clear hk); (try clear hi)))
                     go_ret
                     exact ⟨by first | rfl , by exact HB.out⟩
        · rw [if_neg c21] at H
          exact absurd H (by simp)
      · rw [if_neg c20] at H
        exact absurd H (by simp)
end Go.Proofs.YtbpnfpckoapdbaaDoor.PV20
end
section
namespace Go.Proofs.YtbpnfpckoapdbaaDoor.PV20
open Go.RowKit Go.Proofs.YtbpnfpckoapdbaaDoor.M Go.Proofs.YtbpnfpckoapdbaaDoor.KD Go.Proofs.YtbpnfpckoapdbaaDoor Go.Proofs.YtbpnfpckoapdbaaDoorW.PrintWords Go.Proofs.YtbpnfpckoapdbaaDoorW.PrintLast Go.Proofs.YtbpnfpckoapdbaaDoorW.PrintMore
attribute [local go_sem] max2_int min2_int max_two min_two max_three min_three max_four min_four   -- for this text's walks alone
set_option linter.unusedVariables false
set_option linter.unusedSimpArgs false
theorem grp_ecdysisref20_Tree.calls (k : Nat) : (∀ (A0_0 : Option Addr) (c0_0 : Nat) (l0_0 : List (S48)) (A0_1 : Option Addr) (c0_1 : Nat) (l0_1 : List (S52)) (a1 : ByteArray) (A2_0 : Option Addr) (c2_0 : Nat) (l2_0 : List (S43)) (A2_1 : Option Addr) (c2_1 : Nat) (l2_1 : List (S63)) (r : Bool) (w : World) (hT : Tabs w) (hr0_0 : Kd.C k48 w A0_0 l0_0.length l0_0) (hc0_0 : l0_0.length ≤ c0_0) (hr0_1 : Kd.C k52 w A0_1 l0_1.length l0_1) (hc0_1 : l0_1.length ≤ c0_1) (hr2_0 : Kd.C k43 w A2_0 l2_0.length l2_0) (hc2_0 : l2_0.length ≤ c2_0) (hr2_1 : Kd.C k63 w A2_1 l2_1.length l2_1) (hc2_1 : l2_1.length ≤ c2_1) (h : ecdysisref20_Tree.f k l0_0 l0_1 a1 l2_0 l2_1 = some r), Calls Tryd.prog 10 #[.agg #[.slice A0_0 l0_0.length c0_0, .slice A0_1 l0_1.length c0_1], .string a1, .agg #[.slice A2_0 l2_0.length c2_0, .slice A2_1 l2_1.length c2_1]] w fun e w' => e = .returned (.bool r) ∧ Below w.heap.size w w') ∧ (∀ (A0_0 : Option Addr) (c0_0 : Nat) (l0_0 : List (S48)) (A0_1 : Option Addr) (c0_1 : Nat) (l0_1 : List (S52)) (a1_0 : ByteArray) (a1_1 : Int) (a1_2 : Int) (a1_3 : ByteArray) (a1_4 : Bool) (a1_5 : Bool) (a1_6 : ByteArray) (a2_0 : Int) (a2_1 : ByteArray) (A2_2 : Option Addr) (c2_2 : Nat) (l2_2 : List (S29)) (r : Bool) (w : World) (hT : Tabs w) (hr0_0 : Kd.C k48 w A0_0 l0_0.length l0_0) (hc0_0 : l0_0.length ≤ c0_0) (hr0_1 : Kd.C k52 w A0_1 l0_1.length l0_1) (hc0_1 : l0_1.length ≤ c0_1) (hr2_2 : Kd.C k29 w A2_2 l2_2.length l2_2) (hc2_2 : l2_2.length ≤ c2_2) (h : ecdysisref20_Val.f k l0_0 l0_1 a1_0 a1_1 a1_2 a1_3 a1_4 a1_5 a1_6 a2_0 a2_1 l2_2 = some r), Calls Tryd.prog 13 #[.agg #[.slice A0_0 l0_0.length c0_0, .slice A0_1 l0_1.length c0_1], .agg #[.string a1_0, .int .i64 a1_1, .int .i64 a1_2, .string a1_3, .bool a1_4, .bool a1_5, .string a1_6], .agg #[.int .u64 a2_0, .string a2_1, .slice A2_2 l2_2.length c2_2]] w fun e w' => e = .returned (.bool r) ∧ Below w.heap.size w w') ∧ (∀ (A0_0 : Option Addr) (c0_0 : Nat) (l0_0 : List (S48)) (A0_1 : Option Addr) (c0_1 : Nat) (l0_1 : List (S52)) (a1_0 : ByteArray) (A1_1 : Option Addr) (c1_1 : Nat) (l1_1 : List (S36)) (A1_2 : Option Addr) (c1_2 : Nat) (l1_2 : List Int) (a2_0 : Int) (A2_1 : Option Addr) (c2_1 : Nat) (l2_1 : List (S40)) (r : Bool) (w : World) (hT : Tabs w) (hr0_0 : Kd.C k48 w A0_0 l0_0.length l0_0) (hc0_0 : l0_0.length ≤ c0_0) (hr0_1 : Kd.C k52 w A0_1 l0_1.length l0_1) (hc0_1 : l0_1.length ≤ c0_1) (hr1_1 : Kd.C k36 w A1_1 l1_1.length l1_1) (hc1_1 : l1_1.length ≤ c1_1) (hr1_2 : Kd.C (Kd.int .i64) w A1_2 l1_2.length l1_2) (hc1_2 : l1_2.length ≤ c1_2) (hr2_1 : Kd.C k40 w A2_1 l2_1.length l2_1) (hc2_1 : l2_1.length ≤ c2_1) (h : ecdysisref20_slot.f k l0_0 l0_1 a1_0 l1_1 l1_2 a2_0 l2_1 = some r), Calls Tryd.prog 20 #[.agg #[.slice A0_0 l0_0.length c0_0, .slice A0_1 l0_1.length c0_1], .agg #[.string a1_0, .slice A1_1 l1_1.length c1_1, .slice A1_2 l1_2.length c1_2], .agg #[.int .i64 a2_0, .slice A2_1 l2_1.length c2_1]] w fun e w' => e = .returned (.bool r) ∧ Below w.heap.size w w') := by
 induction k using Nat.strongRecOn with
 | _ k ih =>
 exact ⟨ecdysisref20_Tree.callsR k (fun k_ hk_ => (ih k_ hk_).1) (fun k_ hk_ => (ih k_ hk_).2.1) (fun k_ hk_ => (ih k_ hk_).2.2), ecdysisref20_Val.callsR k (fun k_ hk_ => (ih k_ hk_).1) (fun k_ hk_ => (ih k_ hk_).2.1) (fun k_ hk_ => (ih k_ hk_).2.2), ecdysisref20_slot.callsR k (fun k_ hk_ => (ih k_ hk_).1) (fun k_ hk_ => (ih k_ hk_).2.1) (fun k_ hk_ => (ih k_ hk_).2.2)⟩
theorem ecdysisref20_Val.calls (k : Nat) (A0_0 : Option Addr) (c0_0 : Nat) (l0_0 : List (S48)) (A0_1 : Option Addr) (c0_1 : Nat) (l0_1 : List (S52)) (a1_0 : ByteArray) (a1_1 : Int) (a1_2 : Int) (a1_3 : ByteArray) (a1_4 : Bool) (a1_5 : Bool) (a1_6 : ByteArray) (a2_0 : Int) (a2_1 : ByteArray) (A2_2 : Option Addr) (c2_2 : Nat) (l2_2 : List (S29)) (r : Bool) (w : World) (hT : Tabs w) (hr0_0 : Kd.C k48 w A0_0 l0_0.length l0_0) (hc0_0 : l0_0.length ≤ c0_0) (hr0_1 : Kd.C k52 w A0_1 l0_1.length l0_1) (hc0_1 : l0_1.length ≤ c0_1) (hr2_2 : Kd.C k29 w A2_2 l2_2.length l2_2) (hc2_2 : l2_2.length ≤ c2_2) (h : ecdysisref20_Val.f k l0_0 l0_1 a1_0 a1_1 a1_2 a1_3 a1_4 a1_5 a1_6 a2_0 a2_1 l2_2 = some r) :
 Calls Tryd.prog 13 #[.agg #[.slice A0_0 l0_0.length c0_0, .slice A0_1 l0_1.length c0_1], .agg #[.string a1_0, .int .i64 a1_1, .int .i64 a1_2, .string a1_3, .bool a1_4, .bool a1_5, .string a1_6], .agg #[.int .u64 a2_0, .string a2_1, .slice A2_2 l2_2.length c2_2]] w fun e w' => e = .returned (.bool r) ∧ Below w.heap.size w w' := (grp_ecdysisref20_Tree.calls k).2.1 A0_0 c0_0 l0_0 A0_1 c0_1 l0_1 a1_0 a1_1 a1_2 a1_3 a1_4 a1_5 a1_6 a2_0 a2_1 A2_2 c2_2 l2_2 r w hT hr0_0 hc0_0 hr0_1 hc0_1 hr2_2 hc2_2 h
end Go.Proofs.YtbpnfpckoapdbaaDoor.PV20
end
section
namespace Go.Proofs.YtbpnfpckoapdbaaDoor.PV20
open Go.RowKit Go.Proofs.YtbpnfpckoapdbaaDoor.M Go.Proofs.YtbpnfpckoapdbaaDoor.KD Go.Proofs.YtbpnfpckoapdbaaDoor Go.Proofs.YtbpnfpckoapdbaaDoorW.PrintWords Go.Proofs.YtbpnfpckoapdbaaDoorW.PrintLast Go.Proofs.YtbpnfpckoapdbaaDoorW.PrintMore
attribute [local go_sem] max2_int min2_int max_two min_two max_three min_three max_four min_four   -- for this text's walks alone
set_option linter.unusedVariables false
set_option linter.unusedSimpArgs false
end Go.Proofs.YtbpnfpckoapdbaaDoor.PV20
end
section
namespace Go.Proofs.YtbpnfpckoapdbaaDoor.PV20
open Go.RowKit Go.Proofs.YtbpnfpckoapdbaaDoor.M Go.Proofs.YtbpnfpckoapdbaaDoor.KD Go.Proofs.YtbpnfpckoapdbaaDoor Go.Proofs.YtbpnfpckoapdbaaDoorW.PrintWords Go.Proofs.YtbpnfpckoapdbaaDoorW.PrintLast Go.Proofs.YtbpnfpckoapdbaaDoorW.PrintMore
attribute [local go_sem] max2_int min2_int max_two min_two max_three min_three max_four min_four   -- for this text's walks alone
set_option linter.unusedVariables false
set_option linter.unusedSimpArgs false
def valid_Knows.f (l0_0 : List (S48)) (l0_1 : List (S52)) (a1 : ByteArray) (a2 : Int) : Option (Bool) := (find_Message.f l0_0 l0_1 a1).bind fun t307 => (if t307 ≥ 0 then (if 0 ≤ t307 then (if t307 < (l0_1.length : Int) then ((find_Number.f ((rd_T52 l0_1 t307).f0) ((rd_T52 l0_1 t307).f1) ((rd_T52 l0_1 t307).f2) a2).bind fun t309 => (some (decide (t309 ≥ 0)))) else (none)) else (none)) else (some false))
set_option maxHeartbeats 8000000 in
set_option maxRecDepth 100000 in
theorem valid_Knows.calls (A0_0 : Option Addr) (c0_0 : Nat) (l0_0 : List (S48)) (A0_1 : Option Addr) (c0_1 : Nat) (l0_1 : List (S52)) (a1 : ByteArray) (a2 : Int) (r : Bool) (w : World) (hr0_0 : Kd.C k48 w A0_0 l0_0.length l0_0) (hc0_0 : l0_0.length ≤ c0_0) (hr0_1 : Kd.C k52 w A0_1 l0_1.length l0_1) (hc0_1 : l0_1.length ≤ c0_1) (h : valid_Knows.f l0_0 l0_1 a1 a2 = some r) :
   Calls Tryd.prog 14 #[.agg #[.slice A0_0 l0_0.length c0_0, .slice A0_1 l0_1.length c0_1], .string a1, .int .i64 a2] w fun e w' => e = .returned (.bool r) ∧ Below w.heap.size w w' := by
 have hu25 := Tryd.underlying25
 have hu52 := Tryd.underlying52
 have HR0_0 := Aside0.mk hr0_0
 have HC0_0 := Aside0.mk hc0_0
 clear hr0_0 hc0_0
 have HR0_1 := Aside0.mk hr0_1
 have HC0_1 := Aside0.mk hc0_1
 clear hr0_1 hc0_1
 have HB := Aside0.mk (Below.refl w.heap.size w)
 have H : ((find_Message.f l0_0 l0_1 a1).bind fun t307 => (if t307 ≥ 0 then (if 0 ≤ t307 then (if t307 < (l0_1.length : Int) then ((find_Number.f ((rd_T52 l0_1 t307).f0) ((rd_T52 l0_1 t307).f1) ((rd_T52 l0_1 t307).f2) a2).bind fun t309 => (some (decide (t309 ≥ 0)))) else (none)) else (none)) else (some false))) = some r := h
 clear h
 replace H := Option.bind_eq_some_iff.mp H
 obtain ⟨t307, A40, H⟩ := H
 replace H : (if t307 ≥ 0 then (if 0 ≤ t307 then (if t307 < (l0_1.length : Int) then ((find_Number.f ((rd_T52 l0_1 t307).f0) ((rd_T52 l0_1 t307).f1) ((rd_T52 l0_1 t307).f2) a2).bind fun t309 => (some (decide (t309 ≥ 0)))) else (none)) else (none)) else (some false)) = some r := H
 have A4 := Aside0.mk A40
 clear A40
 by_cases c5 : t307 ≥ 0
 · rw [if_pos c5] at H
   have c5b0 : decide (0 ≤ t307) = true := decide_eq_true c5
   clear c5
   by_cases c6 : 0 ≤ t307
   · rw [if_pos c6] at H
     have c6b0 : decide (0 ≤ t307) = true := decide_eq_true c6
     clear c6
     by_cases c7 : t307 < (l0_1.length : Int)
     · rw [if_pos c7] at H
       have c7b0 : decide (t307 < (l0_1.length : Int)) = true := decide_eq_true c7
       clear c7
       replace H := Option.bind_eq_some_iff.mp H
       obtain ⟨t309, A80, H⟩ := H
       replace H : (some (decide (t309 ≥ 0))) = some r := H
       have A8 := Aside0.mk A80
       clear A80
       obtain rfl := Option.some.inj H
       go_enter Tryd.func14, Tryd.ntmps14
       go_wp2_with (first | ((with_reducible refine gate_dst (N := 3) rfl ?_); refine box_event ?hg (N := 3) ?hd (cs := #[.slice A0_0 l0_0.length c0_0, .slice A0_1 l0_1.length c0_1]) (t := 25) ?hr ?_; (case hd => rfl); (case hg => rfl); (case hr => first | (go_simp; done) | (go_simp; rfl)); intro gb306 hg w9 hbox hb; have n0_ := Aside0.mk (below_step HB.out hb); have n1_ := Aside0.mk (hbox); clear HB; have HB := n0_; have BK306 := n1_; clear n0_ n1_; clear hb hbox hg; have hcz10_0 : w9.cell? ⟨gb306, 0, none⟩ = some (.slice A0_0 l0_0.length c0_0) := (blk_cell BK306.out 0).trans rfl; have hcz10_1 : w9.cell? ⟨gb306, 1, none⟩ = some (.slice A0_1 l0_1.length c0_1) := (blk_cell BK306.out 1).trans rfl; have hfz10_0 := blk_frozen BK306.out 0; have hfz10_1 := blk_frozen BK306.out 1) | ((with_reducible refine gate_callee (f := 17) rfl ?_); refine goesL_ (some 10) rfl rfl Tryd.func17 (by kernel_rfl) rfl #[.agg #[.slice A0_0 l0_0.length c0_0, .slice A0_1 l0_1.length c0_1], .string a1] rfl (by (try simp only [List.map_toArray, List.map_cons, List.map_nil]); first | done | rfl | (simp only [List.length_drop, List.length_take]; rfl)) ?_; (with_reducible refine (find_Message.calls _ _ l0_0 _ _ l0_1 a1 t307 _ ?side1 ?side2 ?side3 ?side4 A4.out).mono ?_); (case side1 => repeat (first | exact (Kd.C_below HR0_0.out HB.out) )); (case side2 => exact HC0_0.out); (case side3 => repeat (first | exact (Kd.C_below HR0_1.out HB.out) )); (case side4 => exact HC0_1.out); rintro e w11 ⟨rfl, hb⟩; refine ⟨_, rfl, ?_⟩; have n0_ := Aside0.mk (blk_below BK306.out hb); have n1_ := Aside0.mk (below_step HB.out hb); clear BK306; clear HB; have BK306 := n0_; have HB := n1_; clear n0_ n1_; (try clear hb); (try clear hb2); (try clear hk); (try clear hi); have hcz12_0 : w11.cell? ⟨gb306, 0, none⟩ = some (.slice A0_0 l0_0.length c0_0) := (blk_cell BK306.out 0).trans rfl; have hcz12_1 : w11.cell? ⟨gb306, 1, none⟩ = some (.slice A0_1 l0_1.length c0_1) := (blk_cell BK306.out 1).trans rfl; have hfz12_0 := blk_frozen BK306.out 0; have hfz12_1 := blk_frozen BK306.out 1; have p308 : 0 ≤ (t307 : Int) := of_decide_eq_true (by first | (with_reducible assumption) ); have q308 : t307 < (l0_1.length : Int) := of_decide_eq_true (by first | (with_reducible assumption) ); obtain ⟨ad308, A308_1, c308_1, A308_2, c308_2, e308, hx308_0, hx308_1, hx308_2, hl308_1, hi308_1, hl308_2, hi308_2⟩ := at_T52 HR0_1.out t307 p308 q308; cases e308; replace hx308_0 := (HB.out.cell (World.block_lt_of_cell? w _ hx308_0)).trans hx308_0; replace hx308_1 := (HB.out.cell (World.block_lt_of_cell? w _ hx308_1)).trans hx308_1; replace hx308_2 := (HB.out.cell (World.block_lt_of_cell? w _ hx308_2)).trans hx308_2; have HR308_1 := Aside0.mk hi308_1; have HC308_1 := Aside0.mk hl308_1; clear hi308_1 hl308_1; have HR308_2 := Aside0.mk hi308_2; have HC308_2 := Aside0.mk hl308_2; clear hi308_2 hl308_2; replace p308 := eq_true p308; replace q308 := eq_true q308) | (go_at_call 28; (with_reducible refine (find_Number.calls ((rd_T52 l0_1 t307).f0) _ _ ((rd_T52 l0_1 t307).f1) _ _ ((rd_T52 l0_1 t307).f2) a2 t309 _ ?side1 ?side2 ?side3 ?side4 A8.out).mono ?_); (case side1 => repeat (first | exact (Kd.C_below HR308_1.out HB.out) )); (case side2 => exact HC308_1.out); (case side3 => repeat (first | exact (Kd.C_below HR308_2.out HB.out) )); (case side4 => exact HC308_2.out); rintro e w13 ⟨rfl, hb⟩; have n0_ := Aside0.mk (blk_below BK306.out hb); have n1_ := Aside0.mk (below_step HB.out hb); clear BK306; clear HB; have BK306 := n0_; have HB := n1_; clear n0_ n1_; (try clear hb); (try clear hb2); (try clear hk); (try clear hi)))
       go_ret
       exact ⟨by first | rfl , by exact HB.out⟩
     · rw [if_neg c7] at H
       exact absurd H (by simp)
   · rw [if_neg c6] at H
     exact absurd H (by simp)
 · rw [if_neg c5] at H
   have c5b0 : decide (0 ≤ t307) = false := decide_eq_false c5
   clear c5
   obtain rfl := Option.some.inj H
   go_enter Tryd.func14, Tryd.ntmps14
   go_wp2_with (first | ((with_reducible refine gate_dst (N := 3) rfl ?_); refine box_event ?hg (N := 3) ?hd (cs := #[.slice A0_0 l0_0.length c0_0, .slice A0_1 l0_1.length c0_1]) (t := 25) ?hr ?_; (case hd => rfl); (case hg => rfl); (case hr => first | (go_simp; done) | (go_simp; rfl)); intro gb306 hg w14 hbox hb; have n0_ := Aside0.mk (below_step HB.out hb); have n1_ := Aside0.mk (hbox); clear HB; have HB := n0_; have BK306 := n1_; clear n0_ n1_; clear hb hbox hg; have hcz15_0 : w14.cell? ⟨gb306, 0, none⟩ = some (.slice A0_0 l0_0.length c0_0) := (blk_cell BK306.out 0).trans rfl; have hcz15_1 : w14.cell? ⟨gb306, 1, none⟩ = some (.slice A0_1 l0_1.length c0_1) := (blk_cell BK306.out 1).trans rfl; have hfz15_0 := blk_frozen BK306.out 0; have hfz15_1 := blk_frozen BK306.out 1) | ((with_reducible refine gate_callee (f := 17) rfl ?_); refine goesL_ (some 10) rfl rfl Tryd.func17 (by kernel_rfl) rfl #[.agg #[.slice A0_0 l0_0.length c0_0, .slice A0_1 l0_1.length c0_1], .string a1] rfl (by (try simp only [List.map_toArray, List.map_cons, List.map_nil]); first | done | rfl | (simp only [List.length_drop, List.length_take]; rfl)) ?_; (with_reducible refine (find_Message.calls _ _ l0_0 _ _ l0_1 a1 t307 _ ?side1 ?side2 ?side3 ?side4 A4.out).mono ?_); (case side1 => repeat (first | exact (Kd.C_below HR0_0.out HB.out) )); (case side2 => exact HC0_0.out); (case side3 => repeat (first | exact (Kd.C_below HR0_1.out HB.out) )); (case side4 => exact HC0_1.out); rintro e w16 ⟨rfl, hb⟩; refine ⟨_, rfl, ?_⟩; have n0_ := Aside0.mk (blk_below BK306.out hb); have n1_ := Aside0.mk (below_step HB.out hb); clear BK306; clear HB; have BK306 := n0_; have HB := n1_; clear n0_ n1_; (try clear hb); (try clear hb2); (try clear hk); (try clear hi)))
   go_ret
   exact ⟨by first | rfl , by exact HB.out⟩
def ecdysisref20_Knows.f (k : Nat) (l0_0 : List (S48)) (l0_1 : List (S52)) (a1 : ByteArray) (a2 : Int) : Option (Bool) := (ecdysisref15_Message.f k l0_0 l0_1 a1).bind fun t311 => (if t311 ≥ 0 then (if 0 ≤ t311 then (if t311 < (l0_1.length : Int) then ((ecdysisref16_Number.f k ((rd_T52 l0_1 t311).f0) ((rd_T52 l0_1 t311).f1) ((rd_T52 l0_1 t311).f2) a2).bind fun t313 => (some (decide (t313 ≥ 0)))) else (none)) else (none)) else (some false))
set_option maxHeartbeats 8000000 in
set_option maxRecDepth 100000 in
theorem ecdysisref20_Knows.calls (k : Nat) (A0_0 : Option Addr) (c0_0 : Nat) (l0_0 : List (S48)) (A0_1 : Option Addr) (c0_1 : Nat) (l0_1 : List (S52)) (a1 : ByteArray) (a2 : Int) (r : Bool) (w : World) (hr0_0 : Kd.C k48 w A0_0 l0_0.length l0_0) (hc0_0 : l0_0.length ≤ c0_0) (hr0_1 : Kd.C k52 w A0_1 l0_1.length l0_1) (hc0_1 : l0_1.length ≤ c0_1) (h : ecdysisref20_Knows.f k l0_0 l0_1 a1 a2 = some r) :
   Calls Tryd.prog 15 #[.agg #[.slice A0_0 l0_0.length c0_0, .slice A0_1 l0_1.length c0_1], .string a1, .int .i64 a2] w fun e w' => e = .returned (.bool r) ∧ Below w.heap.size w w' := by
 have hu25 := Tryd.underlying25
 have hu52 := Tryd.underlying52
 have HR0_0 := Aside0.mk hr0_0
 have HC0_0 := Aside0.mk hc0_0
 clear hr0_0 hc0_0
 have HR0_1 := Aside0.mk hr0_1
 have HC0_1 := Aside0.mk hc0_1
 clear hr0_1 hc0_1
 have HB := Aside0.mk (Below.refl w.heap.size w)
 have H : ((ecdysisref15_Message.f k l0_0 l0_1 a1).bind fun t311 => (if t311 ≥ 0 then (if 0 ≤ t311 then (if t311 < (l0_1.length : Int) then ((ecdysisref16_Number.f k ((rd_T52 l0_1 t311).f0) ((rd_T52 l0_1 t311).f1) ((rd_T52 l0_1 t311).f2) a2).bind fun t313 => (some (decide (t313 ≥ 0)))) else (none)) else (none)) else (some false))) = some r := h
 clear h
 replace H := Option.bind_eq_some_iff.mp H
 obtain ⟨t311, A40, H⟩ := H
 replace H : (if t311 ≥ 0 then (if 0 ≤ t311 then (if t311 < (l0_1.length : Int) then ((ecdysisref16_Number.f k ((rd_T52 l0_1 t311).f0) ((rd_T52 l0_1 t311).f1) ((rd_T52 l0_1 t311).f2) a2).bind fun t313 => (some (decide (t313 ≥ 0)))) else (none)) else (none)) else (some false)) = some r := H
 have A4 := Aside0.mk A40
 clear A40
 by_cases c5 : t311 ≥ 0
 · rw [if_pos c5] at H
   have c5b0 : decide (0 ≤ t311) = true := decide_eq_true c5
   clear c5
   by_cases c6 : 0 ≤ t311
   · rw [if_pos c6] at H
     have c6b0 : decide (0 ≤ t311) = true := decide_eq_true c6
     clear c6
     by_cases c7 : t311 < (l0_1.length : Int)
     · rw [if_pos c7] at H
       have c7b0 : decide (t311 < (l0_1.length : Int)) = true := decide_eq_true c7
       clear c7
       replace H := Option.bind_eq_some_iff.mp H
       obtain ⟨t313, A80, H⟩ := H
       replace H : (some (decide (t313 ≥ 0))) = some r := H
       have A8 := Aside0.mk A80
       clear A80
       obtain rfl := Option.some.inj H
       go_enter Tryd.func15, Tryd.ntmps15
       go_wp2_with (first | ((with_reducible refine gate_dst (N := 3) rfl ?_); refine box_event ?hg (N := 3) ?hd (cs := #[.slice A0_0 l0_0.length c0_0, .slice A0_1 l0_1.length c0_1]) (t := 25) ?hr ?_; (case hd => rfl); (case hg => rfl); (case hr => first | (go_simp; done) | (go_simp; rfl)); intro gb310 hg w9 hbox hb; have n0_ := Aside0.mk (below_step HB.out hb); have n1_ := Aside0.mk (hbox); clear HB; have HB := n0_; have BK310 := n1_; clear n0_ n1_; clear hb hbox hg; have hcz10_0 : w9.cell? ⟨gb310, 0, none⟩ = some (.slice A0_0 l0_0.length c0_0) := (blk_cell BK310.out 0).trans rfl; have hcz10_1 : w9.cell? ⟨gb310, 1, none⟩ = some (.slice A0_1 l0_1.length c0_1) := (blk_cell BK310.out 1).trans rfl; have hfz10_0 := blk_frozen BK310.out 0; have hfz10_1 := blk_frozen BK310.out 1) | ((with_reducible refine gate_callee (f := 11) rfl ?_); refine goesL_ (some 10) rfl rfl Tryd.func11 (by kernel_rfl) rfl #[.agg #[.slice A0_0 l0_0.length c0_0, .slice A0_1 l0_1.length c0_1], .string a1] rfl (by (try simp only [List.map_toArray, List.map_cons, List.map_nil]); first | done | rfl | (simp only [List.length_drop, List.length_take]; rfl)) ?_; (with_reducible refine (ecdysisref15_Message.calls k _ _ l0_0 _ _ l0_1 a1 t311 _ ?side1 ?side2 ?side3 ?side4 A4.out).mono ?_); (case side1 => repeat (first | exact (Kd.C_below HR0_0.out HB.out) )); (case side2 => exact HC0_0.out); (case side3 => repeat (first | exact (Kd.C_below HR0_1.out HB.out) )); (case side4 => exact HC0_1.out); rintro e w11 ⟨rfl, hb⟩; refine ⟨_, rfl, ?_⟩; have n0_ := Aside0.mk (blk_below BK310.out hb); have n1_ := Aside0.mk (below_step HB.out hb); clear BK310; clear HB; have BK310 := n0_; have HB := n1_; clear n0_ n1_; (try clear hb); (try clear hb2); (try clear hk); (try clear hi); have hcz12_0 : w11.cell? ⟨gb310, 0, none⟩ = some (.slice A0_0 l0_0.length c0_0) := (blk_cell BK310.out 0).trans rfl; have hcz12_1 : w11.cell? ⟨gb310, 1, none⟩ = some (.slice A0_1 l0_1.length c0_1) := (blk_cell BK310.out 1).trans rfl; have hfz12_0 := blk_frozen BK310.out 0; have hfz12_1 := blk_frozen BK310.out 1; have p312 : 0 ≤ (t311 : Int) := of_decide_eq_true (by first | (with_reducible assumption) ); have q312 : t311 < (l0_1.length : Int) := of_decide_eq_true (by first | (with_reducible assumption) ); obtain ⟨ad312, A312_1, c312_1, A312_2, c312_2, e312, hx312_0, hx312_1, hx312_2, hl312_1, hi312_1, hl312_2, hi312_2⟩ := at_T52 HR0_1.out t311 p312 q312; cases e312; replace hx312_0 := (HB.out.cell (World.block_lt_of_cell? w _ hx312_0)).trans hx312_0; replace hx312_1 := (HB.out.cell (World.block_lt_of_cell? w _ hx312_1)).trans hx312_1; replace hx312_2 := (HB.out.cell (World.block_lt_of_cell? w _ hx312_2)).trans hx312_2; have HR312_1 := Aside0.mk hi312_1; have HC312_1 := Aside0.mk hl312_1; clear hi312_1 hl312_1; have HR312_2 := Aside0.mk hi312_2; have HC312_2 := Aside0.mk hl312_2; clear hi312_2 hl312_2; replace p312 := eq_true p312; replace q312 := eq_true q312) | (go_at_call 21; (with_reducible refine (ecdysisref16_Number.calls k ((rd_T52 l0_1 t311).f0) _ _ ((rd_T52 l0_1 t311).f1) _ _ ((rd_T52 l0_1 t311).f2) a2 t313 _ ?side1 ?side2 ?side3 ?side4 A8.out).mono ?_); (case side1 => repeat (first | exact (Kd.C_below HR312_1.out HB.out) )); (case side2 => exact HC312_1.out); (case side3 => repeat (first | exact (Kd.C_below HR312_2.out HB.out) )); (case side4 => exact HC312_2.out); rintro e w13 ⟨rfl, hb⟩; have n0_ := Aside0.mk (blk_below BK310.out hb); have n1_ := Aside0.mk (below_step HB.out hb); clear BK310; clear HB; have BK310 := n0_; have HB := n1_; clear n0_ n1_; (try clear hb); (try clear hb2); (try clear hk); (try clear hi)))
       go_ret
       exact ⟨by first | rfl , by exact HB.out⟩
     · rw [if_neg c7] at H
       exact absurd H (by simp)
   · rw [if_neg c6] at H
     exact absurd H (by simp)
 · rw [if_neg c5] at H
   have c5b0 : decide (0 ≤ t311) = false := decide_eq_false c5
   clear c5
   obtain rfl := Option.some.inj H
   go_enter Tryd.func15, Tryd.ntmps15
   go_wp2_with (first | ((with_reducible refine gate_dst (N := 3) rfl ?_); refine box_event ?hg (N := 3) ?hd (cs := #[.slice A0_0 l0_0.length c0_0, .slice A0_1 l0_1.length c0_1]) (t := 25) ?hr ?_; (case hd => rfl); (case hg => rfl); (case hr => first | (go_simp; done) | (go_simp; rfl)); intro gb310 hg w14 hbox hb; have n0_ := Aside0.mk (below_step HB.out hb); have n1_ := Aside0.mk (hbox); clear HB; have HB := n0_; have BK310 := n1_; clear n0_ n1_; clear hb hbox hg; have hcz15_0 : w14.cell? ⟨gb310, 0, none⟩ = some (.slice A0_0 l0_0.length c0_0) := (blk_cell BK310.out 0).trans rfl; have hcz15_1 : w14.cell? ⟨gb310, 1, none⟩ = some (.slice A0_1 l0_1.length c0_1) := (blk_cell BK310.out 1).trans rfl; have hfz15_0 := blk_frozen BK310.out 0; have hfz15_1 := blk_frozen BK310.out 1) | ((with_reducible refine gate_callee (f := 11) rfl ?_); refine goesL_ (some 10) rfl rfl Tryd.func11 (by kernel_rfl) rfl #[.agg #[.slice A0_0 l0_0.length c0_0, .slice A0_1 l0_1.length c0_1], .string a1] rfl (by (try simp only [List.map_toArray, List.map_cons, List.map_nil]); first | done | rfl | (simp only [List.length_drop, List.length_take]; rfl)) ?_; (with_reducible refine (ecdysisref15_Message.calls k _ _ l0_0 _ _ l0_1 a1 t311 _ ?side1 ?side2 ?side3 ?side4 A4.out).mono ?_); (case side1 => repeat (first | exact (Kd.C_below HR0_0.out HB.out) )); (case side2 => exact HC0_0.out); (case side3 => repeat (first | exact (Kd.C_below HR0_1.out HB.out) )); (case side4 => exact HC0_1.out); rintro e w16 ⟨rfl, hb⟩; refine ⟨_, rfl, ?_⟩; have n0_ := Aside0.mk (blk_below BK310.out hb); have n1_ := Aside0.mk (below_step HB.out hb); clear BK310; clear HB; have BK310 := n0_; have HB := n1_; clear n0_ n1_; (try clear hb); (try clear hb2); (try clear hk); (try clear hi)))
   go_ret
   exact ⟨by first | rfl , by exact HB.out⟩
end Go.Proofs.YtbpnfpckoapdbaaDoor.PV20
end

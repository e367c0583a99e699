/- The law ValidVals holds for every input that the row lets in (text 6 of 6; some of it the words and functions that the kit's print and this claim's programs wrote) -/
import Derived.Test.YtbpnfpckoapdbaaDoorQValidVals4
import Derived.Deep.Slices
import Derived.ChangeArms
import Derived.ChangeSame
import Derived.ProofKit
import Derived.SizedLaws
import Derived.Test.YtbpnfpckoapdbaaDoorProg
import Derived.KernelRfl
import Derived.Test.YtbpnfpckoapdbaaDoorRows
import Derived.Test.YtbpnfpckoapdbaaDoorTie
import Derived.Test.YtbpnfpckoapdbaaDoorCards
import Derived.WalkKit
import Derived.LaidMore
import Derived.OpenShut
import Derived.ShutString
import Derived.ChangeOld
import Derived.Below
import Derived.LaidLaws
import Derived.Lib.LaidU8T
import Derived.SevenTiedAt
import Derived.MakeChecks
import Derived.Lay
section
namespace Go.Proofs.YtbpnfpckoapdbaaDoor.PV20
open Go.RowKit Go.Proofs.YtbpnfpckoapdbaaDoor.M Go.Proofs.YtbpnfpckoapdbaaDoor.KD Go.Proofs.YtbpnfpckoapdbaaDoor Go.Proofs.YtbpnfpckoapdbaaDoorW.PrintWords Go.Proofs.YtbpnfpckoapdbaaDoorW.PrintLast Go.Proofs.YtbpnfpckoapdbaaDoorW.PrintMore
attribute [local go_sem] max2_int min2_int max_two min_two max_three min_three max_four min_four   -- for this text's walks alone
set_option linter.unusedVariables false
set_option linter.unusedSimpArgs false
def ecdysislaw20_ValidVals.j0 : Nat → Bool → List (S48) → List (S52) → ByteArray → Int → Int → ByteArray → Bool → Bool → ByteArray → Int → ByteArray → List (S29) → Option (Bool)
 | 0, _, _, _, _, _, _, _, _, _, _, _, _, _ => none
 | k + 1, x18, x315000, x315001, x316000, x316001, x316002, x316003, x316004, x316005, x316006, x317000, x317001, x317002 => if x18 = true then ((ecdysislaw20_live.f k).bind fun t325 => (some t325)) else ((valid_Val.f k x315000 x315001 x316000 x316001 x316002 x316003 x316004 x316005 x316006 x317000 x317001 x317002).bind fun t326 => ((ecdysisref20_Val.f k x315000 x315001 x316000 x316001 x316002 x316003 x316004 x316005 x316006 x317000 x317001 x317002).bind fun t327 => (if (t326 == t327) = true then ((valid_Knows.f x315000 x315001 x316003 x316001).bind fun t328 => ((ecdysisref20_Knows.f k x315000 x315001 x316003 x316001).bind fun t329 => (if (t328 == t329) = true then ((ecdysislaw20_live.f k).bind fun t330 => (some t330)) else (some false)))) else (some false))))
def ecdysislaw20_ValidVals.f (k : Nat) (l0_0 : List (S48)) (l0_1 : List (S52)) (a1_0 : ByteArray) (a1_1 : Int) (a1_2 : Int) (a1_3 : ByteArray) (a1_4 : Bool) (a1_5 : Bool) (a1_6 : ByteArray) (a2_0 : Int) (a2_1 : ByteArray) (l2_2 : List (S29)) : Option (Bool) := (ecdysisref15_Small.f k l0_0 l0_1).bind fun t317 => (if t317 = true then ((ecdysisref19_Small.f k (([(⟨0, (([(⟨a2_0, a2_1, l2_2⟩ : S40)] : List (S40)))⟩ : S43)] : List (S43))) ([] : List (S63))).bind fun t324 => (ecdysislaw20_ValidVals.j0 k (!t324) l0_0 l0_1 a1_0 a1_1 a1_2 a1_3 a1_4 a1_5 a1_6 a2_0 a2_1 l2_2)) else (ecdysislaw20_ValidVals.j0 k true l0_0 l0_1 a1_0 a1_1 a1_2 a1_3 a1_4 a1_5 a1_6 a2_0 a2_1 l2_2))
def ecdysislaw20_ValidVals.T3 : Bool × List (List Nat × List Nat) := (true, [([], []), ([], []), ([], []), ([0, 1, 2], [0, 1, 2]), ([], []), ([], []), ([], []), ([4, 5, 6, 3], [4, 5, 6]), ([3, 7], [3, 7]), ([8, 7], [8]), ([9], [9]), ([9], [9]), ([11, 9], [9, 11]), ([9], [9]), ([13, 9], [9, 13]), ([10, 12, 14, 9, 9], [9, 10, 12, 14]), ([9], [9]), ([9], [9]), ([17, 9], [9, 17]), ([9], [9]), ([19, 9], [9, 19]), ([16, 18, 20, 15, 9], [9, 16, 18, 20]), ([15, 21, 9], [9, 15, 21]), ([9, 22], [9, 22]), ([23, 21], [23]), ([24, 24], [24]), ([24, 25], [24, 25]), ([26, 25, 0, 1, 2, 3, 4, 5, 6, 7, 8, 9, 10, 11, 12, 13, 14, 15, 16, 17, 18, 19, 20, 21, 22, 23, 24, 25, 26], [26])])
def ecdysislaw20_ValidVals.B3 : List Nat := [0, 0, 0, 7, 0, 0, 0, 127, 255, 511, 1023, 1023, 3071, 1023, 9215, 32767, 1023, 1023, 132095, 1023, 525311, 2097151, 4194303, 8388607, 16777215, 33554431, 67108863, 134217727]
theorem ecdysislaw20_ValidVals.tab3 : rtab .any (opsOf Tryd.f5 3) = ecdysislaw20_ValidVals.T3 := by kernel_rfl
theorem ecdysislaw20_ValidVals.bits3 : waitsOk ecdysislaw20_ValidVals.T3.2 ecdysislaw20_ValidVals.B3 = true := by kernel_rfl
set_option maxHeartbeats 8000000 in
set_option maxRecDepth 100000 in
theorem ecdysislaw20_ValidVals.calls (k : Nat) (A0_0 : Option Addr) (c0_0 : Nat) (l0_0 : List (S48)) (A0_1 : Option Addr) (c0_1 : Nat) (l0_1 : List (S52)) (a1_0 : ByteArray) (a1_1 : Int) (a1_2 : Int) (a1_3 : ByteArray) (a1_4 : Bool) (a1_5 : Bool) (a1_6 : ByteArray) (a2_0 : Int) (a2_1 : ByteArray) (P2_2_ : Nat → Prop) (A2_2 : Option Addr) (c2_2 : Nat) (l2_2 : List (S29)) (r : Bool) (w : World) (hT : Tabs w) (hr0_0 : Kd.C k48 w A0_0 l0_0.length l0_0) (hc0_0 : l0_0.length ≤ c0_0) (hr0_1 : Kd.C k52 w A0_1 l0_1.length l0_1) (hc0_1 : l0_1.length ≤ c0_1) (hs2_2 : Kd.V k29 29 w w.heap.size (fun k_ => P2_2_ k_) (.slice A2_2 l2_2.length c2_2) l2_2) (h : ecdysislaw20_ValidVals.f k l0_0 l0_1 a1_0 a1_1 a1_2 a1_3 a1_4 a1_5 a1_6 a2_0 a2_1 l2_2 = some r) :
  Calls Tryd.prog 5 #[.agg #[.slice A0_0 l0_0.length c0_0, .slice A0_1 l0_1.length c0_1], .agg #[.string a1_0, .int .i64 a1_1, .int .i64 a1_2, .string a1_3, .bool a1_4, .bool a1_5, .string a1_6], .agg #[.int .u64 a2_0, .string a2_1, .slice A2_2 l2_2.length c2_2]] w fun e w' => e = .returned (.bool r) ∧ Below w.heap.size w w' := by
 have HU8 := Aside0.mk hT
 clear hT
 have hu25 := Tryd.underlying25
 have hu36 := Tryd.underlying36
 have hu40 := Tryd.underlying40
 have hu43 := Tryd.underlying43
 have hu29 := Tryd.underlying29
 have HR0_0 := Aside0.mk hr0_0
 have HC0_0 := Aside0.mk hc0_0
 clear hr0_0 hc0_0
 have HR0_1 := Aside0.mk hr0_1
 have HC0_1 := Aside0.mk hc0_1
 clear hr0_1 hc0_1
 have HO2_2 := Aside0.mk (show Kd.V k29 29 w w.heap.size (fun k_ => (P2_2_ k_ ∨ w.heap.size ≤ k_)) (.slice A2_2 l2_2.length c2_2) l2_2 from Kd.V_mono hs2_2 (fun k_ hk => .inl hk))
 have HB := Aside0.mk (Below.refl w.heap.size w)
 have H : ((ecdysisref15_Small.f k l0_0 l0_1).bind fun t317 => (if t317 = true then ((ecdysisref19_Small.f k (([(⟨0, (([(⟨a2_0, a2_1, l2_2⟩ : S40)] : List (S40)))⟩ : S43)] : List (S43))) ([] : List (S63))).bind fun t324 => (ecdysislaw20_ValidVals.j0 k (!t324) l0_0 l0_1 a1_0 a1_1 a1_2 a1_3 a1_4 a1_5 a1_6 a2_0 a2_1 l2_2)) else (ecdysislaw20_ValidVals.j0 k true l0_0 l0_1 a1_0 a1_1 a1_2 a1_3 a1_4 a1_5 a1_6 a2_0 a2_1 l2_2))) = some r := h
 clear h
 have HC4 := Aside0.mk H
 clear H
 go_enter Tryd.func5, Tryd.ntmps5
 go_upto_region 1 with (first | ((with_reducible refine gate_dst (N := 3) rfl ?_); (try (refine gate_guard (by rfl) ?_; dsimp only)); refine box_event ?hg (N := 3) ?hd (cs := #[.slice A0_0 l0_0.length c0_0, .slice A0_1 l0_1.length c0_1]) (t := 25) ?hr ?_; (case hd => rfl); (case hg => rfl); (case hr => first | (go_simp; done) | (go_simp; rfl)); intro gb314 hg w5 hbox hb; have n0_ := Aside0.mk (Kd.V_below (Kd.V_elderB HO2_2.out gb314 (Nat.le_of_eq hg.symm)) hb); have n1_ := Aside0.mk (below_step HB.out hb); have n2_ := Aside0.mk (hbox); clear HO2_2; clear HB; have HO2_2 := n0_; have HB := n1_; have BK314 := n2_; clear n0_ n1_ n2_; clear hb hbox hg) | ((with_reducible refine gate_dst (N := 4) rfl ?_); (try (refine gate_guard (by rfl) ?_; dsimp only)); refine box_event ?hg (N := 4) ?hd (cs := #[.string a1_0, .int .i64 a1_1, .int .i64 a1_2, .string a1_3, .bool a1_4, .bool a1_5, .string a1_6]) (t := 36) ?hr ?_; (case hd => rfl); (case hg => rfl); (case hr => first | (go_simp; done) | (go_simp; rfl)); intro gb315 hg w6 hbox hb; have n0_ := Aside0.mk (Kd.V_below (Kd.V_elderB HO2_2.out gb315 (Nat.le_of_eq hg.symm)) hb); have n1_ := Aside0.mk (blk_below BK314.out hb); have n2_ := Aside0.mk (below_step HB.out hb); have n3_ := Aside0.mk (hbox); have n6_ := Aside0.mk ((by rw [hg]; exact Nat.ne_of_lt (blk_lt BK314.out) : gb314 ≠ gb315)); have n7_ := Aside0.mk ((by rw [hg]; exact Nat.ne_of_gt (blk_lt BK314.out) : gb315 ≠ gb314)); clear HO2_2; clear BK314; clear HB; have HO2_2 := n0_; have BK314 := n1_; have HB := n2_; have BK315 := n3_; have NB314_315 := n6_; have NB315_314 := n7_; clear n0_ n1_ n2_ n3_ n6_ n7_; clear hb hbox hg) | ((with_reducible refine gate_dst (N := 5) rfl ?_); (try (refine gate_guard (by rfl) ?_; dsimp only)); refine box_event ?hg (N := 5) ?hd (cs := #[.int .u64 a2_0, .string a2_1, .slice A2_2 l2_2.length c2_2]) (t := 40) ?hr ?_; (case hd => rfl); (case hg => rfl); (case hr => first | (go_simp; done) | (go_simp; rfl)); intro gb316 hg w7 hbox hb; have n0_ := Aside0.mk (Kd.V_below (Kd.V_elderB HO2_2.out gb316 (Nat.le_of_eq hg.symm)) hb); have n1_ := Aside0.mk (blk_below BK314.out hb); have n2_ := Aside0.mk (blk_below BK315.out hb); have n3_ := Aside0.mk (below_step HB.out hb); have n4_ := Aside0.mk (hbox); have n7_ := Aside0.mk ((by rw [hg]; exact Nat.ne_of_lt (blk_lt BK314.out) : gb314 ≠ gb316)); have n8_ := Aside0.mk ((by rw [hg]; exact Nat.ne_of_gt (blk_lt BK314.out) : gb316 ≠ gb314)); have n9_ := Aside0.mk ((by rw [hg]; exact Nat.ne_of_lt (blk_lt BK315.out) : gb315 ≠ gb316)); have n10_ := Aside0.mk ((by rw [hg]; exact Nat.ne_of_gt (blk_lt BK315.out) : gb316 ≠ gb315)); clear HO2_2; clear BK314; clear BK315; clear HB; have HO2_2 := n0_; have BK314 := n1_; have BK315 := n2_; have HB := n3_; have BK316 := n4_; have NB314_316 := n7_; have NB316_314 := n8_; have NB315_316 := n9_; have NB316_315 := n10_; clear n0_ n1_ n2_ n3_ n4_ n7_ n8_ n9_ n10_; clear hb hbox hg))
 (try simp only [Act.put, List.setIfInBounds_toArray, List.set_cons_zero, List.set_cons_succ])
 go_cut [18] (fun v18 wc => ∃ (kq : Nat) (x18_3 : Bool), v18 = .bool x18_3 ∧ Aside0 (ecdysislaw20_ValidVals.j0 kq x18_3 l0_0 l0_1 a1_0 a1_1 a1_2 a1_3 a1_4 a1_5 a1_6 a2_0 a2_1 l2_2 = some r) ∧ Aside0 (kq ≤ k) ∧ Aside0 (Kd.V k29 29 wc w.heap.size (fun k_ => (P2_2_ k_ ∨ w.heap.size ≤ k_) ∧ k_ ≠ gb314 ∧ k_ ≠ gb315 ∧ k_ ≠ gb316) (.slice A2_2 l2_2.length c2_2) l2_2) ∧ Aside0 (wc.heap[gb314]? = some (.cells #[(.slice A0_0 l0_0.length c0_0), (.slice A0_1 l0_1.length c0_1)] 25 (0, 0))) ∧ Aside0 (wc.heap[gb315]? = some (.cells #[.string a1_0, .int .i64 a1_1, .int .i64 a1_2, .string a1_3, .bool a1_4, .bool a1_5, .string a1_6] 36 (0, 0))) ∧ Aside0 (wc.heap[gb316]? = some (.cells #[.int .u64 a2_0, .string a2_1, (.slice A2_2 l2_2.length c2_2)] 40 (0, 0))) ∧ Aside0 (Below w.heap.size w wc))
 case first =>
  have H := HC4.out
  clear HC4
  replace H := Option.bind_eq_some_iff.mp H
  obtain ⟨t317, A80, H⟩ := H
  replace H : (if t317 = true then ((ecdysisref19_Small.f k (([(⟨0, (([(⟨a2_0, a2_1, l2_2⟩ : S40)] : List (S40)))⟩ : S43)] : List (S43))) ([] : List (S63))).bind fun t324 => (ecdysislaw20_ValidVals.j0 k (!t324) l0_0 l0_1 a1_0 a1_1 a1_2 a1_3 a1_4 a1_5 a1_6 a2_0 a2_1 l2_2)) else (ecdysislaw20_ValidVals.j0 k true l0_0 l0_1 a1_0 a1_1 a1_2 a1_3 a1_4 a1_5 a1_6 a2_0 a2_1 l2_2)) = some r := H
  have A8 := Aside0.mk A80
  clear A80
  by_cases c9 : t317 = true
  · subst c9
    have H1 : ((ecdysisref19_Small.f k (([(⟨0, (([(⟨a2_0, a2_1, l2_2⟩ : S40)] : List (S40)))⟩ : S43)] : List (S43))) ([] : List (S63))).bind fun t324 => (ecdysislaw20_ValidVals.j0 k (!t324) l0_0 l0_1 a1_0 a1_1 a1_2 a1_3 a1_4 a1_5 a1_6 a2_0 a2_1 l2_2)) = some r := by rw [if_pos rfl] at H; exact H
    clear H
    have H := H1
    clear H1
    obtain ⟨y318, hy318⟩ : ∃ y_ : List (S40), y_ = (([(⟨a2_0, a2_1, l2_2⟩ : S40)] : List (S40))) := ⟨_, rfl⟩
    replace H : ((ecdysisref19_Small.f k (([(⟨0, y318⟩ : S43)] : List (S43))) ([] : List (S63))).bind fun t324 => (ecdysislaw20_ValidVals.j0 k (!t324) l0_0 l0_1 a1_0 a1_1 a1_2 a1_3 a1_4 a1_5 a1_6 a2_0 a2_1 l2_2)) = some r := by first | (rw [hy318]; with_reducible exact H) 
    have Ny318 := Aside0.mk hy318
    clear hy318
    obtain ⟨y321, hy321⟩ : ∃ y_ : List (S43), y_ = (([(⟨0, y318⟩ : S43)] : List (S43))) := ⟨_, rfl⟩
    replace H : ((ecdysisref19_Small.f k y321 ([] : List (S63))).bind fun t324 => (ecdysislaw20_ValidVals.j0 k (!t324) l0_0 l0_1 a1_0 a1_1 a1_2 a1_3 a1_4 a1_5 a1_6 a2_0 a2_1 l2_2)) = some r := by first | (rw [hy321]; with_reducible exact H) 
    have Ny321 := Aside0.mk hy321
    clear hy321
    replace H := Option.bind_eq_some_iff.mp H
    obtain ⟨t324, A100, H⟩ := H
    replace H : (ecdysislaw20_ValidVals.j0 k (!t324) l0_0 l0_1 a1_0 a1_1 a1_2 a1_3 a1_4 a1_5 a1_6 a2_0 a2_1 l2_2) = some r := H
    have A10 := Aside0.mk A100
    clear A100
    have H' := Aside0.mk H
    clear H
    have hnb11 := NB314_315.out
    have hnc11 := NB315_314.out
    have hnb12 := NB314_316.out
    have hnc12 := NB316_314.out
    have hcz13_0 : w7.cell? ⟨gb314, 0, none⟩ = some (.slice A0_0 l0_0.length c0_0) := (blk_cell BK314.out 0).trans rfl
    have hcz13_1 : w7.cell? ⟨gb314, 1, none⟩ = some (.slice A0_1 l0_1.length c0_1) := (blk_cell BK314.out 1).trans rfl
    have hfz13_0 := blk_frozen BK314.out 0
    have hfz13_1 := blk_frozen BK314.out 1
    go_wp2_with (first | ((with_reducible refine gate_callee (f := 6) rfl ?_); refine goesL_ (some 8) rfl rfl Tryd.func6 (by kernel_rfl) rfl #[.agg #[.slice A0_0 l0_0.length c0_0, .slice A0_1 l0_1.length c0_1]] rfl (by (try simp only [List.map_toArray, List.map_cons, List.map_nil]); first | done | rfl | (simp only [List.length_drop, List.length_take]; rfl)) ?_; (with_reducible refine (ecdysisref15_Small.calls k _ _ l0_0 _ _ l0_1 true _ ?side1 ?side2 ?side3 ?side4 A8.out).mono ?_); (case side1 => repeat (first | exact (Kd.C_below HR0_0.out HB.out) )); (case side2 => exact HC0_0.out); (case side3 => repeat (first | exact (Kd.C_below HR0_1.out HB.out) )); (case side4 => exact HC0_1.out); rintro e w14 ⟨rfl, hb⟩; refine ⟨_, rfl, ?_⟩; have n0_ := Aside0.mk (Kd.V_below HO2_2.out hb); have n1_ := Aside0.mk (blk_below BK314.out hb); have n2_ := Aside0.mk (blk_below BK315.out hb); have n3_ := Aside0.mk (blk_below BK316.out hb); have n4_ := Aside0.mk (below_step HB.out hb); clear HO2_2; clear BK314; clear BK315; clear BK316; clear HB; have HO2_2 := n0_; have BK314 := n1_; have BK315 := n2_; have BK316 := n3_; have HB := n4_; clear n0_ n1_ n2_ n3_ n4_; (try clear hb); (try clear hb2); (try clear hk); (try clear hi); have hnb15 := NB316_315.out; have hnc15 := NB315_316.out; have hcz16_0 : w14.cell? ⟨gb316, 0, none⟩ = some (.int .u64 a2_0) := (blk_cell BK316.out 0).trans rfl; have hcz16_1 : w14.cell? ⟨gb316, 1, none⟩ = some (.string a2_1) := (blk_cell BK316.out 1).trans rfl; have hcz16_2 : w14.cell? ⟨gb316, 2, none⟩ = some (.slice A2_2 l2_2.length c2_2) := (blk_cell BK316.out 2).trans rfl; have hfz16_0 := blk_frozen BK316.out 0; have hfz16_1 := blk_frozen BK316.out 1; have hfz16_2 := blk_frozen BK316.out 2) | ((with_reducible refine gate_dst (N := 12) rfl ?_); (try (refine gate_guard (by rfl) ?_; dsimp only)); refine Kd.N_lit k40 _ 40 ?hg (N' := 12) ?hd (xs := ([(⟨a2_0, a2_1, l2_2⟩ : S40)] : List (S40))) (inner := [.int .u64 a2_0, .string a2_1, .slice A2_2 l2_2.length c2_2]) (ok := (fun k_ => (P2_2_ k_ ∨ w.heap.size ≤ k_) ∧ k_ ≠ gb314 ∧ k_ ≠ gb315 ∧ k_ ≠ gb316)) (okp := (fun k_ => (P2_2_ k_ ∨ w.heap.size ≤ k_) ∧ k_ ≠ gb314 ∧ k_ ≠ gb315 ∧ k_ ≠ gb316)) ?hr ?hp (fun _ hk => hk) ((show ∀ k_, w14.heap.size ≤ k_ → (fun k_ => (P2_2_ k_ ∨ w.heap.size ≤ k_) ∧ k_ ≠ gb314 ∧ k_ ≠ gb315 ∧ k_ ≠ gb316) k_ from fun k_ hk => ⟨(.inr (Nat.le_trans (below_size HB.out) hk)), Kd.freshB (g := gb314) (o := .cells #[.slice A0_0 l0_0.length c0_0, .slice A0_1 l0_1.length c0_1] 25 (0, 0)) BK314.out k_ hk, Kd.freshB (g := gb315) (o := .cells #[.string a1_0, .int .i64 a1_1, .int .i64 a1_2, .string a1_3, .bool a1_4, .bool a1_5, .string a1_6] 36 (0, 0)) BK315.out k_ hk, Kd.freshB (g := gb316) (o := .cells #[.int .u64 a2_0, .string a2_1, .slice A2_2 l2_2.length c2_2] 40 (0, 0)) BK316.out k_ hk⟩) _ (Nat.le_refl _)) (Below.refl _ _) (Nat.le_refl _) (by simp) ?_; (case hd => rfl); (case hg => rfl); (case hr => first | (go_simp; done) | (go_simp; rfl)); (case hp => exact (Reps.c3 (show Kd.FK k40 _ _ (⟨a2_0, a2_1, l2_2⟩ : S40) [.int .u64 a2_0, .string a2_1, .slice A2_2 l2_2.length c2_2] from (k40_mkF _ _ (⟨a2_0, a2_1, l2_2⟩ : S40) (Kd.V_reads' (Kd.V_mono (ok' := (fun k_ => (P2_2_ k_ ∨ w.heap.size ≤ k_) ∧ k_ ≠ gb314 ∧ k_ ≠ gb315 ∧ k_ ≠ gb316)) (HO2_2.out) (fun k_ hk => ⟨hk.1.1.1, ⟨hk.1.1.2, ⟨hk.1.2, hk.2⟩⟩⟩))).2.1 (Kd.V_F (Kd.V_mono (ok' := (fun k_ => (P2_2_ k_ ∨ w.heap.size ≤ k_) ∧ k_ ≠ gb314 ∧ k_ ≠ gb315 ∧ k_ ≠ gb316)) (HO2_2.out) (fun k_ hk => ⟨hk.1.1.1, ⟨hk.1.1.2, ⟨hk.1.2, hk.2⟩⟩⟩))))) (Reps.none _ _))); intro v319 w17 ho18 hb hg_ hnew_; clear hg_ hnew_; (first | rw [← Ny318.out] at ho18 ); have n0_ := Aside0.mk (Kd.V_elder' HO2_2.out (Kd.N_base ho18) hb); have n1_ := Aside0.mk (Kd.N_lower ho18 (below_size HB.out)); have n2_ := Aside0.mk (blk_below BK314.out hb); have n3_ := Aside0.mk (blk_below BK315.out hb); have n4_ := Aside0.mk (blk_below BK316.out hb); have n5_ := Aside0.mk (below_step HB.out hb); clear HO2_2; clear BK314; clear BK315; clear BK316; clear HB; have HO2_2 := n0_; have HO320 := n1_; have BK314 := n2_; have BK315 := n3_; have BK316 := n4_; have HB := n5_; clear n0_ n1_ n2_ n3_ n4_ n5_; clear hb ho18; obtain ⟨Ao19, co19, eo19⟩ := Kd.N_slice HO320.out; subst eo19) | ((with_reducible refine gate_dst (N := 14) rfl ?_); (try (refine gate_guard (by rfl) ?_; dsimp only)); refine Kd.N_lit k43 _ 43 ?hg (N' := 14) ?hd (xs := ([(⟨0, y318⟩ : S43)] : List (S43))) (inner := [.int .i64 0, .slice Ao19 y318.length co19]) (ok := (fun k_ => (P2_2_ k_ ∨ w.heap.size ≤ k_) ∧ k_ ≠ gb314 ∧ k_ ≠ gb315 ∧ k_ ≠ gb316)) (okp := (fun k_ => (P2_2_ k_ ∨ w.heap.size ≤ k_) ∧ k_ ≠ gb314 ∧ k_ ≠ gb315 ∧ k_ ≠ gb316)) ?hr ?hp (fun _ hk => hk) ((show ∀ k_, w17.heap.size ≤ k_ → (fun k_ => (P2_2_ k_ ∨ w.heap.size ≤ k_) ∧ k_ ≠ gb314 ∧ k_ ≠ gb315 ∧ k_ ≠ gb316) k_ from fun k_ hk => ⟨(.inr (Nat.le_trans (below_size HB.out) hk)), Kd.freshB (g := gb314) (o := .cells #[.slice A0_0 l0_0.length c0_0, .slice A0_1 l0_1.length c0_1] 25 (0, 0)) BK314.out k_ hk, Kd.freshB (g := gb315) (o := .cells #[.string a1_0, .int .i64 a1_1, .int .i64 a1_2, .string a1_3, .bool a1_4, .bool a1_5, .string a1_6] 36 (0, 0)) BK315.out k_ hk, Kd.freshB (g := gb316) (o := .cells #[.int .u64 a2_0, .string a2_1, .slice A2_2 l2_2.length c2_2] 40 (0, 0)) BK316.out k_ hk⟩) _ (Nat.le_refl _)) (Below.refl _ _) (Nat.le_refl _) (by simp) ?_; (case hd => rfl); (case hg => rfl); (case hr => first | (go_simp; done) | (go_simp; rfl)); (case hp => exact (Reps.c2 (show Kd.FK k43 _ _ (⟨0, y318⟩ : S43) [.int .i64 0, .slice Ao19 y318.length co19] from (k43_mkF _ _ (⟨0, y318⟩ : S43) (Kd.N_reads' (Kd.N_mono (ok' := (fun k_ => (P2_2_ k_ ∨ w.heap.size ≤ k_) ∧ k_ ≠ gb314 ∧ k_ ≠ gb315 ∧ k_ ≠ gb316)) (HO320.out) (fun k_ hk => ⟨hk.1, ⟨hk.2.1, ⟨hk.2.2.1, hk.2.2.2⟩⟩⟩))).2.1 (Kd.N_F (Kd.N_mono (ok' := (fun k_ => (P2_2_ k_ ∨ w.heap.size ≤ k_) ∧ k_ ≠ gb314 ∧ k_ ≠ gb315 ∧ k_ ≠ gb316)) (HO320.out) (fun k_ hk => ⟨hk.1, ⟨hk.2.1, ⟨hk.2.2.1, hk.2.2.2⟩⟩⟩))))) (Reps.none _ _))); intro v322 w20 ho21 hb hg_ hnew_; clear hg_ hnew_; (first | rw [← Ny321.out] at ho21 ); have n0_ := Aside0.mk (Kd.V_elder' HO2_2.out (Kd.N_base ho21) hb); have n1_ := Aside0.mk (Kd.N_lower ho21 (below_size HB.out)); have n2_ := Aside0.mk (blk_below BK314.out hb); have n3_ := Aside0.mk (blk_below BK315.out hb); have n4_ := Aside0.mk (blk_below BK316.out hb); have n5_ := Aside0.mk (below_step HB.out hb); clear HO2_2; clear BK314; clear BK315; clear BK316; clear HB; clear HO320; have HO2_2 := n0_; have HO323 := n1_; have BK314 := n2_; have BK315 := n3_; have BK316 := n4_; have HB := n5_; clear n0_ n1_ n2_ n3_ n4_ n5_; clear hb ho21; obtain ⟨Ao22, co22, eo22⟩ := Kd.N_slice HO323.out; subst eo22) | (go_at_call 7; (refine (ecdysisref19_Small.calls k _ _ y321 _ _ ([] : List (S63)) t324 _ ?side1 ?side2 ?side3 ?side4 A10.out).mono ?_); (case side1 => repeat (first | exact (Kd.N_reads' HO323.out).2.2 )); (case side2 => exact (Kd.N_reads' HO323.out).2.1); (case side3 => exact Kd.C_nil _ _); (case side4 => exact Nat.le_refl _); rintro e w23 ⟨rfl, hb⟩; have n0_ := Aside0.mk (Kd.V_below HO2_2.out hb); have n1_ := Aside0.mk (Kd.N_below HO323.out hb); have n2_ := Aside0.mk (blk_below BK314.out hb); have n3_ := Aside0.mk (blk_below BK315.out hb); have n4_ := Aside0.mk (blk_below BK316.out hb); have n5_ := Aside0.mk (below_step HB.out hb); clear HO2_2; clear HO323; clear BK314; clear BK315; clear BK316; clear HB; have HO2_2 := n0_; have HO323 := n1_; have BK314 := n2_; have BK315 := n3_; have BK316 := n4_; have HB := n5_; clear n0_ n1_ n2_ n3_ n4_ n5_; (try clear hb); (try clear hb2); (try clear hk); (try clear hi)))
    go_meet
    case rel => exact ⟨_, (!t324), (by first | rfl ), H', ⟨by first | omega ⟩, ⟨by exact Kd.V_mono HO2_2.out (fun _ hk => ⟨hk.1.1.1.1.1, ⟨hk.1.1.1.1.2, ⟨hk.1.1.1.2, hk.1.1.2⟩⟩⟩)⟩, ⟨by exact BK314.out⟩, ⟨by exact BK315.out⟩, ⟨by exact BK316.out⟩, ⟨by exact HB.out⟩⟩
  · replace c9 := Bool.eq_false_iff.mpr c9
    subst c9
    have H1 : (ecdysislaw20_ValidVals.j0 k true l0_0 l0_1 a1_0 a1_1 a1_2 a1_3 a1_4 a1_5 a1_6 a2_0 a2_1 l2_2) = some r := by rw [if_neg (show ¬ (false = true) by decide)] at H; exact H
    clear H
    have H := H1
    clear H1
    have H' := Aside0.mk H
    clear H
    have hnb24 := NB314_315.out
    have hnc24 := NB315_314.out
    have hnb25 := NB314_316.out
    have hnc25 := NB316_314.out
    have hcz26_0 : w7.cell? ⟨gb314, 0, none⟩ = some (.slice A0_0 l0_0.length c0_0) := (blk_cell BK314.out 0).trans rfl
    have hcz26_1 : w7.cell? ⟨gb314, 1, none⟩ = some (.slice A0_1 l0_1.length c0_1) := (blk_cell BK314.out 1).trans rfl
    have hfz26_0 := blk_frozen BK314.out 0
    have hfz26_1 := blk_frozen BK314.out 1
    go_wp2_with (first | ((with_reducible refine gate_callee (f := 6) rfl ?_); refine goesL_ (some 8) rfl rfl Tryd.func6 (by kernel_rfl) rfl #[.agg #[.slice A0_0 l0_0.length c0_0, .slice A0_1 l0_1.length c0_1]] rfl (by (try simp only [List.map_toArray, List.map_cons, List.map_nil]); first | done | rfl | (simp only [List.length_drop, List.length_take]; rfl)) ?_; (with_reducible refine (ecdysisref15_Small.calls k _ _ l0_0 _ _ l0_1 false _ ?side1 ?side2 ?side3 ?side4 A8.out).mono ?_); (case side1 => repeat (first | exact (Kd.C_below HR0_0.out HB.out) )); (case side2 => exact HC0_0.out); (case side3 => repeat (first | exact (Kd.C_below HR0_1.out HB.out) )); (case side4 => exact HC0_1.out); rintro e w27 ⟨rfl, hb⟩; refine ⟨_, rfl, ?_⟩; have n0_ := Aside0.mk (Kd.V_below HO2_2.out hb); have n1_ := Aside0.mk (blk_below BK314.out hb); have n2_ := Aside0.mk (blk_below BK315.out hb); have n3_ := Aside0.mk (blk_below BK316.out hb); have n4_ := Aside0.mk (below_step HB.out hb); clear HO2_2; clear BK314; clear BK315; clear BK316; clear HB; have HO2_2 := n0_; have BK314 := n1_; have BK315 := n2_; have BK316 := n3_; have HB := n4_; clear n0_ n1_ n2_ n3_ n4_; (try clear hb); (try clear hb2); (try clear hk); (try clear hi)))
    go_meet
    case rel => exact ⟨_, (true), (by first | rfl ), H', ⟨by first | omega ⟩, ⟨by exact Kd.V_mono HO2_2.out (fun _ hk => ⟨hk.1.1.1, ⟨hk.1.1.2, ⟨hk.1.2, hk.2⟩⟩⟩)⟩, ⟨by exact BK314.out⟩, ⟨by exact BK315.out⟩, ⟨by exact BK316.out⟩, ⟨by exact HB.out⟩⟩
 case rest =>
  clear HC4
  try clear c1
  try clear c2
  try clear p2
  try clear c3
  try clear c5
  try clear c6
  try clear c9
  try clear c11
  try clear c12
  try clear c15
  try clear c24
  try clear c25
  try clear hcz13_0
  try clear hcz13_1
  try clear hcz16_0
  try clear hcz16_1
  try clear hcz16_2
  try clear hcz26_0
  try clear hcz26_1
  try clear hfz13_0
  try clear hfz13_1
  try clear hfz16_0
  try clear hfz16_1
  try clear hfz16_2
  try clear hfz26_0
  try clear hfz26_1
  obtain ⟨kq, x18_3, rfl, HA, HJ3, HO_317002, BK314, BK315, BK316, HB⟩ := hcut
  cases kq with
  | zero => exact absurd HA.out (by simp [ecdysislaw20_ValidVals.j0])
  | succ kj3 =>
    have H := HA.out
    clear HA
    simp only [ecdysislaw20_ValidVals.j0] at H
    by_cases c28 : x18_3 = true
    · subst c28
      have H1 : ((ecdysislaw20_live.f kj3).bind fun t325 => (some t325)) = some r := by rw [if_pos rfl] at H; exact H
      clear H
      have H := H1
      clear H1
      replace H := Option.bind_eq_some_iff.mp H
      obtain ⟨t325, A290, H⟩ := H
      replace H : (some t325) = some r := H
      have A29 := Aside0.mk A290
      clear A290
      obtain rfl := Option.some.inj H
      go_wp2_with (first | ((with_reducible refine gate_callee (f := 8) rfl ?_); refine goesL_ (some 19) rfl rfl Tryd.func8 (by kernel_rfl) rfl #[] rfl (by (try simp only [List.map_toArray, List.map_cons, List.map_nil]); first | done | rfl | (simp only [List.length_drop, List.length_take]; rfl)) ?_; (with_reducible refine (ecdysislaw20_live.calls kj3  t325 _ ?sideT A29.out).mono ?_); (case sideT => exact Tabs.below HU8.out HB.out); rintro e w30 ⟨rfl, hb⟩; refine ⟨_, rfl, ?_⟩; have n0_ := Aside0.mk (Kd.V_below HO_317002.out hb); have n1_ := Aside0.mk (blk_below BK314.out hb); have n2_ := Aside0.mk (blk_below BK315.out hb); have n3_ := Aside0.mk (blk_below BK316.out hb); have n4_ := Aside0.mk (below_step HB.out hb); clear HO_317002; clear BK314; clear BK315; clear BK316; clear HB; have HO_317002 := n0_; have BK314 := n1_; have BK315 := n2_; have BK316 := n3_; have HB := n4_; clear n0_ n1_ n2_ n3_ n4_; (try clear hb); (try clear hb2); (try clear hk); (try clear hi)))
      go_ret
      exact ⟨by first | rfl , by exact HB.out⟩
    · replace c28 := Bool.eq_false_iff.mpr c28
      subst c28
      have H1 : ((valid_Val.f kj3 l0_0 l0_1 a1_0 a1_1 a1_2 a1_3 a1_4 a1_5 a1_6 a2_0 a2_1 l2_2).bind fun t326 => ((ecdysisref20_Val.f kj3 l0_0 l0_1 a1_0 a1_1 a1_2 a1_3 a1_4 a1_5 a1_6 a2_0 a2_1 l2_2).bind fun t327 => (if (t326 == t327) = true then ((valid_Knows.f l0_0 l0_1 a1_3 a1_1).bind fun t328 => ((ecdysisref20_Knows.f kj3 l0_0 l0_1 a1_3 a1_1).bind fun t329 => (if (t328 == t329) = true then ((ecdysislaw20_live.f kj3).bind fun t330 => (some t330)) else (some false)))) else (some false)))) = some r := by rw [if_neg (show ¬ (false = true) by decide)] at H; exact H
      clear H
      have H := H1
      clear H1
      replace H := Option.bind_eq_some_iff.mp H
      obtain ⟨t326, A310, H⟩ := H
      replace H : ((ecdysisref20_Val.f kj3 l0_0 l0_1 a1_0 a1_1 a1_2 a1_3 a1_4 a1_5 a1_6 a2_0 a2_1 l2_2).bind fun t327 => (if (t326 == t327) = true then ((valid_Knows.f l0_0 l0_1 a1_3 a1_1).bind fun t328 => ((ecdysisref20_Knows.f kj3 l0_0 l0_1 a1_3 a1_1).bind fun t329 => (if (t328 == t329) = true then ((ecdysislaw20_live.f kj3).bind fun t330 => (some t330)) else (some false)))) else (some false))) = some r := H
      have A31 := Aside0.mk A310
      clear A310
      replace H := Option.bind_eq_some_iff.mp H
      obtain ⟨t327, A320, H⟩ := H
      replace H : (if (t326 == t327) = true then ((valid_Knows.f l0_0 l0_1 a1_3 a1_1).bind fun t328 => ((ecdysisref20_Knows.f kj3 l0_0 l0_1 a1_3 a1_1).bind fun t329 => (if (t328 == t329) = true then ((ecdysislaw20_live.f kj3).bind fun t330 => (some t330)) else (some false)))) else (some false)) = some r := H
      have A32 := Aside0.mk A320
      clear A320
      by_cases c33 : (t326 == t327) = true
      · rw [if_pos c33] at H
        have c33b0 : (t326 == t327) = true := c33
        (try (have c33b1 : decide (t326 = t327) = true := by simpa using c33))
        (try (have c33b2 : (t326 == t327) = true := by simpa using c33))
        clear c33
        replace H := Option.bind_eq_some_iff.mp H
        obtain ⟨t328, A340, H⟩ := H
        replace H : ((ecdysisref20_Knows.f kj3 l0_0 l0_1 a1_3 a1_1).bind fun t329 => (if (t328 == t329) = true then ((ecdysislaw20_live.f kj3).bind fun t330 => (some t330)) else (some false))) = some r := H
        have A34 := Aside0.mk A340
        clear A340
        replace H := Option.bind_eq_some_iff.mp H
        obtain ⟨t329, A350, H⟩ := H
        replace H : (if (t328 == t329) = true then ((ecdysislaw20_live.f kj3).bind fun t330 => (some t330)) else (some false)) = some r := H
        have A35 := Aside0.mk A350
        clear A350
        by_cases c36 : (t328 == t329) = true
        · rw [if_pos c36] at H
          have c36b0 : (t328 == t329) = true := c36
          (try (have c36b1 : decide (t328 = t329) = true := by simpa using c36))
          (try (have c36b2 : (t328 == t329) = true := by simpa using c36))
          clear c36
          replace H := Option.bind_eq_some_iff.mp H
          obtain ⟨t330, A370, H⟩ := H
          replace H : (some t330) = some r := H
          have A37 := Aside0.mk A370
          clear A370
          obtain rfl := Option.some.inj H
          try go_wp2
          have n0_ := Aside0.mk (Kd.V_drew HO_317002.out)
          have n1_ := Aside0.mk (blk_drew BK314.out)
          have n2_ := Aside0.mk (blk_drew BK315.out)
          have n3_ := Aside0.mk (blk_drew BK316.out)
          have n4_ := Aside0.mk (below_drew1 HB.out)
          clear HO_317002
          clear BK314
          clear BK315
          clear BK316
          clear HB
          have HO_317002 := n0_
          have BK314 := n1_
          have BK315 := n2_
          have BK316 := n3_
          have HB := n4_
          clear n0_ n1_ n2_ n3_ n4_
          refine start_ (n := 28) (S := fun w' => w'.cell? ⟨gb314, 0, none⟩ = some (.slice A0_0 l0_0.length c0_0) ∧ w'.cell? ⟨gb314, 1, none⟩ = some (.slice A0_1 l0_1.length c0_1) ∧ w'.cell? ⟨gb315, 0, none⟩ = some (.string a1_0) ∧ w'.cell? ⟨gb315, 1, none⟩ = some (.int .i64 a1_1) ∧ w'.cell? ⟨gb315, 2, none⟩ = some (.int .i64 a1_2) ∧ w'.cell? ⟨gb315, 3, none⟩ = some (.string a1_3) ∧ w'.cell? ⟨gb315, 4, none⟩ = some (.bool a1_4) ∧ w'.cell? ⟨gb315, 5, none⟩ = some (.bool a1_5) ∧ w'.cell? ⟨gb315, 6, none⟩ = some (.string a1_6) ∧ w'.cell? ⟨gb316, 0, none⟩ = some (.int .u64 a2_0) ∧ w'.cell? ⟨gb316, 1, none⟩ = some (.string a2_1) ∧ w'.cell? ⟨gb316, 2, none⟩ = some (.slice A2_2 l2_2.length c2_2)) (ds := []) #[false, false, false, false, false, false, false, false, false, false, false, false, false, false, false, false, false, false, false, false, false, false, false, false, false, false, false, false] (by kernel_rfl) rfl rfl ⟨(blk_cell BK314.out 0).trans rfl, (blk_cell BK314.out 1).trans rfl, (blk_cell BK315.out 0).trans rfl, (blk_cell BK315.out 1).trans rfl, (blk_cell BK315.out 2).trans rfl, (blk_cell BK315.out 3).trans rfl, (blk_cell BK315.out 4).trans rfl, (blk_cell BK315.out 5).trans rfl, (blk_cell BK315.out 6).trans rfl, (blk_cell BK316.out 0).trans rfl, (blk_cell BK316.out 1).trans rfl, (blk_cell BK316.out 2).trans rfl⟩ (fun hHeld => ?_); refine with_tabW ecdysislaw20_ValidVals.tab3 ecdysislaw20_ValidVals.bits3 (fun HT_ HW_ => ?_)
          generalize wc.drew = w38 at HO_317002 BK314 BK315 BK316 HB hHeld ⊢
          refine zt 0 (zb 28 1) ?_ rfl rfl HT_ HW_ (by kernel_rfl) (fun _ _ _ h => h) rfl ?_ hHeld ?_ ?_ ?_; rotate_left; (rintro w' ⟨s0, s1, s2, s3, s4, s5, s6, s7, s8, s9, s10, s11⟩; go_simp; with_reducible rfl); rotate_left; (simp only [zs]; rfl)
          refine zt 1 (zb 28 3) ?_ rfl rfl HT_ HW_ (by kernel_rfl) (fun _ _ _ h => h) rfl ?_ hHeld ?_ ?_ ?_; rotate_left; (rintro w' ⟨s0, s1, s2, s3, s4, s5, s6, s7, s8, s9, s10, s11⟩; go_simp; with_reducible rfl); rotate_left; (simp only [zs]; rfl)
          refine zt 2 (zb 28 7) ?_ rfl rfl HT_ HW_ (by kernel_rfl) (fun _ _ _ h => h) rfl ?_ hHeld ?_ ?_ ?_; rotate_left; (rintro w' ⟨s0, s1, s2, s3, s4, s5, s6, s7, s8, s9, s10, s11⟩; go_simp; with_reducible rfl); rotate_left; (simp only [zs]; rfl)
          refine zt 4 (zb 28 23) ?_ rfl rfl HT_ HW_ (by kernel_rfl) (fun _ _ _ h => h) rfl ?_ hHeld ?_ ?_ ?_; rotate_left; (rintro w' ⟨s0, s1, s2, s3, s4, s5, s6, s7, s8, s9, s10, s11⟩; go_simp; with_reducible rfl); rotate_left; (simp only [zs]; rfl)
          refine zt 5 (zb 28 55) ?_ rfl rfl HT_ HW_ (by kernel_rfl) (fun _ _ _ h => h) rfl ?_ hHeld ?_ ?_ ?_; rotate_left; (rintro w' ⟨s0, s1, s2, s3, s4, s5, s6, s7, s8, s9, s10, s11⟩; go_simp; with_reducible rfl); rotate_left; (simp only [zs]; rfl)
          refine zt 6 (zb 28 119) ?_ rfl rfl HT_ HW_ (by kernel_rfl) (fun _ _ _ h => h) rfl ?_ hHeld ?_ ?_ ?_; rotate_left; (rintro w' ⟨s0, s1, s2, s3, s4, s5, s6, s7, s8, s9, s10, s11⟩; go_simp; with_reducible rfl); rotate_left; (simp only [zs]; rfl)
          refine one_ (i := 3) (N := some 23) #[true, true, true, true, true, true, true, false, false, false, false, false, false, false, false, false, false, false, false, false, false, false, false, false, false, false, false, false] rfl rfl (one_of HT_.out (by kernel_rfl)) (by decide) (fun K hK => ?_)
          refine goes_ Tryd.func12 (by kernel_rfl) rfl #[.agg #[.slice A0_0 l0_0.length c0_0, .slice A0_1 l0_1.length c0_1], .agg #[.string a1_0, .int .i64 a1_1, .int .i64 a1_2, .string a1_3, .bool a1_4, .bool a1_5, .string a1_6], .agg #[.int .u64 a2_0, .string a2_1, .slice A2_2 l2_2.length c2_2]] (by rfl) rfl rfl (by (try simp only [List.map_toArray, List.map_cons, List.map_nil]); first | done | rfl | (simp only [List.length_drop, List.length_take]; rfl)) ?_
          with_reducible refine (valid_Val.calls kj3 _ _ l0_0 _ _ l0_1 a1_0 a1_1 a1_2 a1_3 a1_4 a1_5 a1_6 a2_0 a2_1 _ _ l2_2 t326 _ ?sideT ?side1 ?side2 ?side3 ?side4 ?side5 ?side6 A31.out).mono ?_
          case sideT => exact Tabs.below HU8.out HB.out
          (case side1 => repeat (first | exact (Kd.C_below HR0_0.out HB.out) ))
          (case side2 => exact HC0_0.out)
          (case side3 => repeat (first | exact (Kd.C_below HR0_1.out HB.out) ))
          (case side4 => exact HC0_1.out)
          (case side5 => repeat (first | exact (Kd.V_reads' HO_317002.out).2.2 ))
          (case side6 => exact (Kd.V_reads' HO_317002.out).2.1)
          rintro e w39 ⟨rfl, hb⟩
          refine ⟨_, rfl, ?_⟩
          have n0_ := Aside0.mk (Kd.V_below HO_317002.out hb)
          have n1_ := Aside0.mk (blk_below BK314.out hb)
          have n2_ := Aside0.mk (blk_below BK315.out hb)
          have n3_ := Aside0.mk (blk_below BK316.out hb)
          have n4_ := Aside0.mk (below_step HB.out hb)
          clear HO_317002
          clear BK314
          clear BK315
          clear BK316
          clear HB
          have HO_317002 := n0_
          have BK314 := n1_
          have BK315 := n2_
          have BK316 := n3_
          have HB := n4_
          clear n0_ n1_ n2_ n3_ n4_
          (try clear hb)
          (try clear hb2)
          (try clear hk)
          (try clear hi)
          refine hK.out _ _ ⟨(blk_cell BK314.out 0).trans rfl, (blk_cell BK314.out 1).trans rfl, (blk_cell BK315.out 0).trans rfl, (blk_cell BK315.out 1).trans rfl, (blk_cell BK315.out 2).trans rfl, (blk_cell BK315.out 3).trans rfl, (blk_cell BK315.out 4).trans rfl, (blk_cell BK315.out 5).trans rfl, (blk_cell BK315.out 6).trans rfl, (blk_cell BK316.out 0).trans rfl, (blk_cell BK316.out 1).trans rfl, (blk_cell BK316.out 2).trans rfl⟩ (fun hHeld => ?_)
          clear hK K
          refine norm_ (a' := ?_) ?_ ?_
          rotate_left
          · show Act.put _ (some 23) _ = _
            simp only [zs]
            rfl
          refine one_ (i := 7) (N := some 27) #[true, true, true, true, true, true, true, true, false, false, false, false, false, false, false, false, false, false, false, false, false, false, false, false, false, false, false, false] rfl rfl (one_of HT_.out (by kernel_rfl)) (by decide) (fun K hK => ?_)
          refine goes_ Tryd.func13 (by kernel_rfl) rfl #[.agg #[.slice A0_0 l0_0.length c0_0, .slice A0_1 l0_1.length c0_1], .agg #[.string a1_0, .int .i64 a1_1, .int .i64 a1_2, .string a1_3, .bool a1_4, .bool a1_5, .string a1_6], .agg #[.int .u64 a2_0, .string a2_1, .slice A2_2 l2_2.length c2_2]] (by rfl) rfl rfl (by (try simp only [List.map_toArray, List.map_cons, List.map_nil]); first | done | rfl | (simp only [List.length_drop, List.length_take]; rfl)) ?_
          with_reducible refine (ecdysisref20_Val.calls kj3 _ _ l0_0 _ _ l0_1 a1_0 a1_1 a1_2 a1_3 a1_4 a1_5 a1_6 a2_0 a2_1 _ _ l2_2 t327 _ ?sideT ?side1 ?side2 ?side3 ?side4 ?side5 ?side6 A32.out).mono ?_
          case sideT => exact Tabs.below HU8.out HB.out
          (case side1 => repeat (first | exact (Kd.C_below HR0_0.out HB.out) ))
          (case side2 => exact HC0_0.out)
          (case side3 => repeat (first | exact (Kd.C_below HR0_1.out HB.out) ))
          (case side4 => exact HC0_1.out)
          (case side5 => repeat (first | exact (Kd.V_reads' HO_317002.out).2.2 ))
          (case side6 => exact (Kd.V_reads' HO_317002.out).2.1)
          rintro e w40 ⟨rfl, hb⟩
          refine ⟨_, rfl, ?_⟩
          have n0_ := Aside0.mk (Kd.V_below HO_317002.out hb)
          have n1_ := Aside0.mk (blk_below BK314.out hb)
          have n2_ := Aside0.mk (blk_below BK315.out hb)
          have n3_ := Aside0.mk (blk_below BK316.out hb)
          have n4_ := Aside0.mk (below_step HB.out hb)
          clear HO_317002
          clear BK314
          clear BK315
          clear BK316
          clear HB
          have HO_317002 := n0_
          have BK314 := n1_
          have BK315 := n2_
          have BK316 := n3_
          have HB := n4_
          clear n0_ n1_ n2_ n3_ n4_
          (try clear hb)
          (try clear hb2)
          (try clear hk)
          (try clear hi)
          refine hK.out _ _ ⟨(blk_cell BK314.out 0).trans rfl, (blk_cell BK314.out 1).trans rfl, (blk_cell BK315.out 0).trans rfl, (blk_cell BK315.out 1).trans rfl, (blk_cell BK315.out 2).trans rfl, (blk_cell BK315.out 3).trans rfl, (blk_cell BK315.out 4).trans rfl, (blk_cell BK315.out 5).trans rfl, (blk_cell BK315.out 6).trans rfl, (blk_cell BK316.out 0).trans rfl, (blk_cell BK316.out 1).trans rfl, (blk_cell BK316.out 2).trans rfl⟩ (fun hHeld => ?_)
          clear hK K
          refine norm_ (a' := ?_) ?_ ?_
          rotate_left
          · show Act.put _ (some 27) _ = _
            simp only [zs]
            rfl
          refine zp 8 (zb 28 511) ?_ rfl rfl HT_ (by kernel_rfl) (fun _ _ _ h => h) rfl ?_ ?_ ?_ ?_; rotate_left; (intro w'; go_simp; with_reducible rfl); rotate_left; (simp only [zs]; rfl)
          refine zp 9 (zb 28 1023) ?_ rfl rfl HT_ (by kernel_rfl) (fun _ _ _ h => h) rfl ?_ ?_ ?_ ?_; rotate_left; (intro w'; go_simp; with_reducible rfl); rotate_left; (simp only [zs]; rfl)
          refine zp 11 (zb 28 3071) ?_ rfl rfl HT_ (by kernel_rfl) (fun _ _ _ h => h) rfl ?_ ?_ ?_ ?_; rotate_left; (intro w'; go_simp; with_reducible rfl); rotate_left; (simp only [zs]; rfl)
          refine zp 13 (zb 28 11263) ?_ rfl rfl HT_ (by kernel_rfl) (fun _ _ _ h => h) rfl ?_ ?_ ?_ ?_; rotate_left; (intro w'; go_simp; with_reducible rfl); rotate_left; (simp only [zs]; rfl)
          refine zp 17 (zb 28 142335) ?_ rfl rfl HT_ (by kernel_rfl) (fun _ _ _ h => h) rfl ?_ ?_ ?_ ?_; rotate_left; (intro w'; go_simp; with_reducible rfl); rotate_left; (simp only [zs]; rfl)
          refine zp 19 (zb 28 666623) ?_ rfl rfl HT_ (by kernel_rfl) (fun _ _ _ h => h) rfl ?_ ?_ ?_ ?_; rotate_left; (intro w'; go_simp; with_reducible rfl); rotate_left; (simp only [zs]; rfl)
          refine zt 10 (zb 28 667647) ?_ rfl rfl HT_ HW_ (by kernel_rfl) (fun _ _ _ h => h) rfl ?_ hHeld ?_ ?_ ?_; rotate_left; (rintro w' ⟨s0, s1, s2, s3, s4, s5, s6, s7, s8, s9, s10, s11⟩; go_simp; with_reducible rfl); rotate_left; (simp only [zs]; rfl)
          refine zt 12 (zb 28 671743) ?_ rfl rfl HT_ HW_ (by kernel_rfl) (fun _ _ _ h => h) rfl ?_ hHeld ?_ ?_ ?_; rotate_left; (rintro w' ⟨s0, s1, s2, s3, s4, s5, s6, s7, s8, s9, s10, s11⟩; go_simp; with_reducible rfl); rotate_left; (simp only [zs]; rfl)
          refine zt 14 (zb 28 688127) ?_ rfl rfl HT_ HW_ (by kernel_rfl) (fun _ _ _ h => h) rfl ?_ hHeld ?_ ?_ ?_; rotate_left; (rintro w' ⟨s0, s1, s2, s3, s4, s5, s6, s7, s8, s9, s10, s11⟩; go_simp; with_reducible rfl); rotate_left; (simp only [zs]; rfl)
          refine zt 16 (zb 28 753663) ?_ rfl rfl HT_ HW_ (by kernel_rfl) (fun _ _ _ h => h) rfl ?_ hHeld ?_ ?_ ?_; rotate_left; (rintro w' ⟨s0, s1, s2, s3, s4, s5, s6, s7, s8, s9, s10, s11⟩; go_simp; with_reducible rfl); rotate_left; (simp only [zs]; rfl)
          refine zt 18 (zb 28 1015807) ?_ rfl rfl HT_ HW_ (by kernel_rfl) (fun _ _ _ h => h) rfl ?_ hHeld ?_ ?_ ?_; rotate_left; (rintro w' ⟨s0, s1, s2, s3, s4, s5, s6, s7, s8, s9, s10, s11⟩; go_simp; with_reducible rfl); rotate_left; (simp only [zs]; rfl)
          refine zt 20 (zb 28 2064383) ?_ rfl rfl HT_ HW_ (by kernel_rfl) (fun _ _ _ h => h) rfl ?_ hHeld ?_ ?_ ?_; rotate_left; (rintro w' ⟨s0, s1, s2, s3, s4, s5, s6, s7, s8, s9, s10, s11⟩; go_simp; with_reducible rfl); rotate_left; (simp only [zs]; rfl)
          refine one_ (i := 15) (N := some 35) #[true, true, true, true, true, true, true, true, true, true, true, true, true, true, true, true, true, true, true, true, true, false, false, false, false, false, false, false] rfl rfl (one_of HT_.out (by kernel_rfl)) (by decide) (fun K hK => ?_)
          refine goes_ Tryd.func14 (by kernel_rfl) rfl #[.agg #[.slice A0_0 l0_0.length c0_0, .slice A0_1 l0_1.length c0_1], .string a1_3, .int .i64 a1_1] (by rfl) rfl rfl (by (try simp only [List.map_toArray, List.map_cons, List.map_nil]); first | done | rfl | (simp only [List.length_drop, List.length_take]; rfl)) ?_
          with_reducible refine (valid_Knows.calls _ _ l0_0 _ _ l0_1 a1_3 a1_1 t328 _ ?side1 ?side2 ?side3 ?side4 A34.out).mono ?_
          (case side1 => repeat (first | exact (Kd.C_below HR0_0.out HB.out) ))
          (case side2 => exact HC0_0.out)
          (case side3 => repeat (first | exact (Kd.C_below HR0_1.out HB.out) ))
          (case side4 => exact HC0_1.out)
          rintro e w41 ⟨rfl, hb⟩
          refine ⟨_, rfl, ?_⟩
          have n0_ := Aside0.mk (Kd.V_below HO_317002.out hb)
          have n1_ := Aside0.mk (blk_below BK314.out hb)
          have n2_ := Aside0.mk (blk_below BK315.out hb)
          have n3_ := Aside0.mk (blk_below BK316.out hb)
          have n4_ := Aside0.mk (below_step HB.out hb)
          clear HO_317002
          clear BK314
          clear BK315
          clear BK316
          clear HB
          have HO_317002 := n0_
          have BK314 := n1_
          have BK315 := n2_
          have BK316 := n3_
          have HB := n4_
          clear n0_ n1_ n2_ n3_ n4_
          (try clear hb)
          (try clear hb2)
          (try clear hk)
          (try clear hi)
          refine hK.out _ _ ⟨(blk_cell BK314.out 0).trans rfl, (blk_cell BK314.out 1).trans rfl, (blk_cell BK315.out 0).trans rfl, (blk_cell BK315.out 1).trans rfl, (blk_cell BK315.out 2).trans rfl, (blk_cell BK315.out 3).trans rfl, (blk_cell BK315.out 4).trans rfl, (blk_cell BK315.out 5).trans rfl, (blk_cell BK315.out 6).trans rfl, (blk_cell BK316.out 0).trans rfl, (blk_cell BK316.out 1).trans rfl, (blk_cell BK316.out 2).trans rfl⟩ (fun hHeld => ?_)
          clear hK K
          refine norm_ (a' := ?_) ?_ ?_
          rotate_left
          · show Act.put _ (some 35) _ = _
            simp only [zs]
            rfl
          refine one_ (i := 21) (N := some 41) #[true, true, true, true, true, true, true, true, true, true, true, true, true, true, true, true, true, true, true, true, true, true, false, false, false, false, false, false] rfl rfl (one_of HT_.out (by kernel_rfl)) (by decide) (fun K hK => ?_)
          refine goes_ Tryd.func15 (by kernel_rfl) rfl #[.agg #[.slice A0_0 l0_0.length c0_0, .slice A0_1 l0_1.length c0_1], .string a1_3, .int .i64 a1_1] (by rfl) rfl rfl (by (try simp only [List.map_toArray, List.map_cons, List.map_nil]); first | done | rfl | (simp only [List.length_drop, List.length_take]; rfl)) ?_
          with_reducible refine (ecdysisref20_Knows.calls kj3 _ _ l0_0 _ _ l0_1 a1_3 a1_1 t329 _ ?side1 ?side2 ?side3 ?side4 A35.out).mono ?_
          (case side1 => repeat (first | exact (Kd.C_below HR0_0.out HB.out) ))
          (case side2 => exact HC0_0.out)
          (case side3 => repeat (first | exact (Kd.C_below HR0_1.out HB.out) ))
          (case side4 => exact HC0_1.out)
          rintro e w42 ⟨rfl, hb⟩
          refine ⟨_, rfl, ?_⟩
          have n0_ := Aside0.mk (Kd.V_below HO_317002.out hb)
          have n1_ := Aside0.mk (blk_below BK314.out hb)
          have n2_ := Aside0.mk (blk_below BK315.out hb)
          have n3_ := Aside0.mk (blk_below BK316.out hb)
          have n4_ := Aside0.mk (below_step HB.out hb)
          clear HO_317002
          clear BK314
          clear BK315
          clear BK316
          clear HB
          have HO_317002 := n0_
          have BK314 := n1_
          have BK315 := n2_
          have BK316 := n3_
          have HB := n4_
          clear n0_ n1_ n2_ n3_ n4_
          (try clear hb)
          (try clear hb2)
          (try clear hk)
          (try clear hi)
          refine hK.out _ _ ⟨(blk_cell BK314.out 0).trans rfl, (blk_cell BK314.out 1).trans rfl, (blk_cell BK315.out 0).trans rfl, (blk_cell BK315.out 1).trans rfl, (blk_cell BK315.out 2).trans rfl, (blk_cell BK315.out 3).trans rfl, (blk_cell BK315.out 4).trans rfl, (blk_cell BK315.out 5).trans rfl, (blk_cell BK315.out 6).trans rfl, (blk_cell BK316.out 0).trans rfl, (blk_cell BK316.out 1).trans rfl, (blk_cell BK316.out 2).trans rfl⟩ (fun hHeld => ?_)
          clear hK K
          refine norm_ (a' := ?_) ?_ ?_
          rotate_left
          · show Act.put _ (some 41) _ = _
            simp only [zs]
            rfl
          refine zp 22 (zb 28 8388607) ?_ rfl rfl HT_ (by kernel_rfl) (fun _ _ _ h => h) rfl ?_ ?_ ?_ ?_; rotate_left; (intro w'; go_simp; with_reducible rfl); rotate_left; (simp only [zs]; rfl)
          refine zp 23 (zb 28 16777215) ?_ rfl rfl HT_ (by kernel_rfl) (fun _ _ _ h => h) rfl ?_ ?_ ?_ ?_; rotate_left; (intro w'; go_simp; with_reducible rfl); rotate_left; (simp only [zs]; rfl)
          refine zp 24 (zb 28 33554431) ?_ rfl rfl HT_ (by kernel_rfl) (fun _ _ _ h => h) rfl ?_ ?_ ?_ ?_; rotate_left; (intro w'; go_simp; with_reducible rfl); rotate_left; (simp only [zs]; rfl)
          refine one_ (i := 25) (N := some 45) #[true, true, true, true, true, true, true, true, true, true, true, true, true, true, true, true, true, true, true, true, true, true, true, true, true, true, false, false] rfl rfl (one_of HT_.out (by kernel_rfl)) (by decide) (fun K hK => ?_)
          refine goes_ Tryd.func8 (by kernel_rfl) rfl #[] (by rfl) rfl rfl (by (try simp only [List.map_toArray, List.map_cons, List.map_nil]); first | done | rfl | (simp only [List.length_drop, List.length_take]; rfl)) ?_
          with_reducible refine (ecdysislaw20_live.calls kj3  t330 _ ?sideT A37.out).mono ?_
          case sideT => exact Tabs.below HU8.out HB.out
          rintro e w43 ⟨rfl, hb⟩
          refine ⟨_, rfl, ?_⟩
          have n0_ := Aside0.mk (Kd.V_below HO_317002.out hb)
          have n1_ := Aside0.mk (blk_below BK314.out hb)
          have n2_ := Aside0.mk (blk_below BK315.out hb)
          have n3_ := Aside0.mk (blk_below BK316.out hb)
          have n4_ := Aside0.mk (below_step HB.out hb)
          clear HO_317002
          clear BK314
          clear BK315
          clear BK316
          clear HB
          have HO_317002 := n0_
          have BK314 := n1_
          have BK315 := n2_
          have BK316 := n3_
          have HB := n4_
          clear n0_ n1_ n2_ n3_ n4_
          (try clear hb)
          (try clear hb2)
          (try clear hk)
          (try clear hi)
          refine hK.out _ _ ⟨(blk_cell BK314.out 0).trans rfl, (blk_cell BK314.out 1).trans rfl, (blk_cell BK315.out 0).trans rfl, (blk_cell BK315.out 1).trans rfl, (blk_cell BK315.out 2).trans rfl, (blk_cell BK315.out 3).trans rfl, (blk_cell BK315.out 4).trans rfl, (blk_cell BK315.out 5).trans rfl, (blk_cell BK315.out 6).trans rfl, (blk_cell BK316.out 0).trans rfl, (blk_cell BK316.out 1).trans rfl, (blk_cell BK316.out 2).trans rfl⟩ (fun hHeld => ?_)
          clear hK K
          refine norm_ (a' := ?_) ?_ ?_
          rotate_left
          · show Act.put _ (some 45) _ = _
            simp only [zs]
            rfl
          refine zp 26 (zb 28 134217727) ?_ rfl rfl HT_ (by kernel_rfl) (fun _ _ _ h => h) rfl ?_ ?_ ?_ ?_; rotate_left; (intro w'; go_simp; with_reducible rfl); rotate_left; (simp only [zs]; rfl)
          refine zp 27 (zb 28 268435455) ?_ rfl rfl HT_ (by kernel_rfl) (fun _ _ _ h => h) rfl ?_ ?_ ?_ ?_; rotate_left; (intro w'; go_simp; with_reducible rfl); rotate_left; (simp only [zs]; rfl)
          refine done_ (done_of HT_.out (by kernel_rfl)) ?_
          try go_wp2
          go_ret
          exact ⟨by first | rfl , by exact HB.out⟩
        · rw [if_neg c36] at H
          have c36b0 : (t328 == t329) = false := by simpa using c36
          (try (have c36b1 : decide (t328 = t329) = false := by simpa using c36))
          (try (have c36b2 : (t328 == t329) = false := by simpa using c36))
          (try (have c36b3 : ¬ (t328 = t329) := by simpa using c36))
          clear c36
          obtain rfl := Option.some.inj H
          try go_wp2
          have n0_ := Aside0.mk (Kd.V_drew HO_317002.out)
          have n1_ := Aside0.mk (blk_drew BK314.out)
          have n2_ := Aside0.mk (blk_drew BK315.out)
          have n3_ := Aside0.mk (blk_drew BK316.out)
          have n4_ := Aside0.mk (below_drew1 HB.out)
          clear HO_317002
          clear BK314
          clear BK315
          clear BK316
          clear HB
          have HO_317002 := n0_
          have BK314 := n1_
          have BK315 := n2_
          have BK316 := n3_
          have HB := n4_
          clear n0_ n1_ n2_ n3_ n4_
          refine start_ (n := 28) (S := fun w' => w'.cell? ⟨gb314, 0, none⟩ = some (.slice A0_0 l0_0.length c0_0) ∧ w'.cell? ⟨gb314, 1, none⟩ = some (.slice A0_1 l0_1.length c0_1) ∧ w'.cell? ⟨gb315, 0, none⟩ = some (.string a1_0) ∧ w'.cell? ⟨gb315, 1, none⟩ = some (.int .i64 a1_1) ∧ w'.cell? ⟨gb315, 2, none⟩ = some (.int .i64 a1_2) ∧ w'.cell? ⟨gb315, 3, none⟩ = some (.string a1_3) ∧ w'.cell? ⟨gb315, 4, none⟩ = some (.bool a1_4) ∧ w'.cell? ⟨gb315, 5, none⟩ = some (.bool a1_5) ∧ w'.cell? ⟨gb315, 6, none⟩ = some (.string a1_6) ∧ w'.cell? ⟨gb316, 0, none⟩ = some (.int .u64 a2_0) ∧ w'.cell? ⟨gb316, 1, none⟩ = some (.string a2_1) ∧ w'.cell? ⟨gb316, 2, none⟩ = some (.slice A2_2 l2_2.length c2_2)) (ds := []) #[false, false, false, false, false, false, false, false, false, false, false, false, false, false, false, false, false, false, false, false, false, false, false, false, false, false, false, false] (by kernel_rfl) rfl rfl ⟨(blk_cell BK314.out 0).trans rfl, (blk_cell BK314.out 1).trans rfl, (blk_cell BK315.out 0).trans rfl, (blk_cell BK315.out 1).trans rfl, (blk_cell BK315.out 2).trans rfl, (blk_cell BK315.out 3).trans rfl, (blk_cell BK315.out 4).trans rfl, (blk_cell BK315.out 5).trans rfl, (blk_cell BK315.out 6).trans rfl, (blk_cell BK316.out 0).trans rfl, (blk_cell BK316.out 1).trans rfl, (blk_cell BK316.out 2).trans rfl⟩ (fun hHeld => ?_); refine with_tabW ecdysislaw20_ValidVals.tab3 ecdysislaw20_ValidVals.bits3 (fun HT_ HW_ => ?_)
          generalize wc.drew = w44 at HO_317002 BK314 BK315 BK316 HB hHeld ⊢
          refine zt 0 (zb 28 1) ?_ rfl rfl HT_ HW_ (by kernel_rfl) (fun _ _ _ h => h) rfl ?_ hHeld ?_ ?_ ?_; rotate_left; (rintro w' ⟨s0, s1, s2, s3, s4, s5, s6, s7, s8, s9, s10, s11⟩; go_simp; with_reducible rfl); rotate_left; (simp only [zs]; rfl)
          refine zt 1 (zb 28 3) ?_ rfl rfl HT_ HW_ (by kernel_rfl) (fun _ _ _ h => h) rfl ?_ hHeld ?_ ?_ ?_; rotate_left; (rintro w' ⟨s0, s1, s2, s3, s4, s5, s6, s7, s8, s9, s10, s11⟩; go_simp; with_reducible rfl); rotate_left; (simp only [zs]; rfl)
          refine zt 2 (zb 28 7) ?_ rfl rfl HT_ HW_ (by kernel_rfl) (fun _ _ _ h => h) rfl ?_ hHeld ?_ ?_ ?_; rotate_left; (rintro w' ⟨s0, s1, s2, s3, s4, s5, s6, s7, s8, s9, s10, s11⟩; go_simp; with_reducible rfl); rotate_left; (simp only [zs]; rfl)
          refine zt 4 (zb 28 23) ?_ rfl rfl HT_ HW_ (by kernel_rfl) (fun _ _ _ h => h) rfl ?_ hHeld ?_ ?_ ?_; rotate_left; (rintro w' ⟨s0, s1, s2, s3, s4, s5, s6, s7, s8, s9, s10, s11⟩; go_simp; with_reducible rfl); rotate_left; (simp only [zs]; rfl)
          refine zt 5 (zb 28 55) ?_ rfl rfl HT_ HW_ (by kernel_rfl) (fun _ _ _ h => h) rfl ?_ hHeld ?_ ?_ ?_; rotate_left; (rintro w' ⟨s0, s1, s2, s3, s4, s5, s6, s7, s8, s9, s10, s11⟩; go_simp; with_reducible rfl); rotate_left; (simp only [zs]; rfl)
          refine zt 6 (zb 28 119) ?_ rfl rfl HT_ HW_ (by kernel_rfl) (fun _ _ _ h => h) rfl ?_ hHeld ?_ ?_ ?_; rotate_left; (rintro w' ⟨s0, s1, s2, s3, s4, s5, s6, s7, s8, s9, s10, s11⟩; go_simp; with_reducible rfl); rotate_left; (simp only [zs]; rfl)
          refine one_ (i := 3) (N := some 23) #[true, true, true, true, true, true, true, false, false, false, false, false, false, false, false, false, false, false, false, false, false, false, false, false, false, false, false, false] rfl rfl (one_of HT_.out (by kernel_rfl)) (by decide) (fun K hK => ?_)
          refine goes_ Tryd.func12 (by kernel_rfl) rfl #[.agg #[.slice A0_0 l0_0.length c0_0, .slice A0_1 l0_1.length c0_1], .agg #[.string a1_0, .int .i64 a1_1, .int .i64 a1_2, .string a1_3, .bool a1_4, .bool a1_5, .string a1_6], .agg #[.int .u64 a2_0, .string a2_1, .slice A2_2 l2_2.length c2_2]] (by rfl) rfl rfl (by (try simp only [List.map_toArray, List.map_cons, List.map_nil]); first | done | rfl | (simp only [List.length_drop, List.length_take]; rfl)) ?_
          with_reducible refine (valid_Val.calls kj3 _ _ l0_0 _ _ l0_1 a1_0 a1_1 a1_2 a1_3 a1_4 a1_5 a1_6 a2_0 a2_1 _ _ l2_2 t326 _ ?sideT ?side1 ?side2 ?side3 ?side4 ?side5 ?side6 A31.out).mono ?_
          case sideT => exact Tabs.below HU8.out HB.out
          (case side1 => repeat (first | exact (Kd.C_below HR0_0.out HB.out) ))
          (case side2 => exact HC0_0.out)
          (case side3 => repeat (first | exact (Kd.C_below HR0_1.out HB.out) ))
          (case side4 => exact HC0_1.out)
          (case side5 => repeat (first | exact (Kd.V_reads' HO_317002.out).2.2 ))
          (case side6 => exact (Kd.V_reads' HO_317002.out).2.1)
          rintro e w45 ⟨rfl, hb⟩
          refine ⟨_, rfl, ?_⟩
          have n0_ := Aside0.mk (Kd.V_below HO_317002.out hb)
          have n1_ := Aside0.mk (blk_below BK314.out hb)
          have n2_ := Aside0.mk (blk_below BK315.out hb)
          have n3_ := Aside0.mk (blk_below BK316.out hb)
          have n4_ := Aside0.mk (below_step HB.out hb)
          clear HO_317002
          clear BK314
          clear BK315
          clear BK316
          clear HB
          have HO_317002 := n0_
          have BK314 := n1_
          have BK315 := n2_
          have BK316 := n3_
          have HB := n4_
          clear n0_ n1_ n2_ n3_ n4_
          (try clear hb)
          (try clear hb2)
          (try clear hk)
          (try clear hi)
          refine hK.out _ _ ⟨(blk_cell BK314.out 0).trans rfl, (blk_cell BK314.out 1).trans rfl, (blk_cell BK315.out 0).trans rfl, (blk_cell BK315.out 1).trans rfl, (blk_cell BK315.out 2).trans rfl, (blk_cell BK315.out 3).trans rfl, (blk_cell BK315.out 4).trans rfl, (blk_cell BK315.out 5).trans rfl, (blk_cell BK315.out 6).trans rfl, (blk_cell BK316.out 0).trans rfl, (blk_cell BK316.out 1).trans rfl, (blk_cell BK316.out 2).trans rfl⟩ (fun hHeld => ?_)
          clear hK K
          refine norm_ (a' := ?_) ?_ ?_
          rotate_left
          · show Act.put _ (some 23) _ = _
            simp only [zs]
            rfl
          refine one_ (i := 7) (N := some 27) #[true, true, true, true, true, true, true, true, false, false, false, false, false, false, false, false, false, false, false, false, false, false, false, false, false, false, false, false] rfl rfl (one_of HT_.out (by kernel_rfl)) (by decide) (fun K hK => ?_)
          refine goes_ Tryd.func13 (by kernel_rfl) rfl #[.agg #[.slice A0_0 l0_0.length c0_0, .slice A0_1 l0_1.length c0_1], .agg #[.string a1_0, .int .i64 a1_1, .int .i64 a1_2, .string a1_3, .bool a1_4, .bool a1_5, .string a1_6], .agg #[.int .u64 a2_0, .string a2_1, .slice A2_2 l2_2.length c2_2]] (by rfl) rfl rfl (by (try simp only [List.map_toArray, List.map_cons, List.map_nil]); first | done | rfl | (simp only [List.length_drop, List.length_take]; rfl)) ?_
          with_reducible refine (ecdysisref20_Val.calls kj3 _ _ l0_0 _ _ l0_1 a1_0 a1_1 a1_2 a1_3 a1_4 a1_5 a1_6 a2_0 a2_1 _ _ l2_2 t327 _ ?sideT ?side1 ?side2 ?side3 ?side4 ?side5 ?side6 A32.out).mono ?_
          case sideT => exact Tabs.below HU8.out HB.out
          (case side1 => repeat (first | exact (Kd.C_below HR0_0.out HB.out) ))
          (case side2 => exact HC0_0.out)
          (case side3 => repeat (first | exact (Kd.C_below HR0_1.out HB.out) ))
          (case side4 => exact HC0_1.out)
          (case side5 => repeat (first | exact (Kd.V_reads' HO_317002.out).2.2 ))
          (case side6 => exact (Kd.V_reads' HO_317002.out).2.1)
          rintro e w46 ⟨rfl, hb⟩
          refine ⟨_, rfl, ?_⟩
          have n0_ := Aside0.mk (Kd.V_below HO_317002.out hb)
          have n1_ := Aside0.mk (blk_below BK314.out hb)
          have n2_ := Aside0.mk (blk_below BK315.out hb)
          have n3_ := Aside0.mk (blk_below BK316.out hb)
          have n4_ := Aside0.mk (below_step HB.out hb)
          clear HO_317002
          clear BK314
          clear BK315
          clear BK316
          clear HB
          have HO_317002 := n0_
          have BK314 := n1_
          have BK315 := n2_
          have BK316 := n3_
          have HB := n4_
          clear n0_ n1_ n2_ n3_ n4_
          (try clear hb)
          (try clear hb2)
          (try clear hk)
          (try clear hi)
          refine hK.out _ _ ⟨(blk_cell BK314.out 0).trans rfl, (blk_cell BK314.out 1).trans rfl, (blk_cell BK315.out 0).trans rfl, (blk_cell BK315.out 1).trans rfl, (blk_cell BK315.out 2).trans rfl, (blk_cell BK315.out 3).trans rfl, (blk_cell BK315.out 4).trans rfl, (blk_cell BK315.out 5).trans rfl, (blk_cell BK315.out 6).trans rfl, (blk_cell BK316.out 0).trans rfl, (blk_cell BK316.out 1).trans rfl, (blk_cell BK316.out 2).trans rfl⟩ (fun hHeld => ?_)
          clear hK K
          refine norm_ (a' := ?_) ?_ ?_
          rotate_left
          · show Act.put _ (some 27) _ = _
            simp only [zs]
            rfl
          refine zp 8 (zb 28 511) ?_ rfl rfl HT_ (by kernel_rfl) (fun _ _ _ h => h) rfl ?_ ?_ ?_ ?_; rotate_left; (intro w'; go_simp; with_reducible rfl); rotate_left; (simp only [zs]; rfl)
          refine zp 9 (zb 28 1023) ?_ rfl rfl HT_ (by kernel_rfl) (fun _ _ _ h => h) rfl ?_ ?_ ?_ ?_; rotate_left; (intro w'; go_simp; with_reducible rfl); rotate_left; (simp only [zs]; rfl)
          refine zp 11 (zb 28 3071) ?_ rfl rfl HT_ (by kernel_rfl) (fun _ _ _ h => h) rfl ?_ ?_ ?_ ?_; rotate_left; (intro w'; go_simp; with_reducible rfl); rotate_left; (simp only [zs]; rfl)
          refine zp 13 (zb 28 11263) ?_ rfl rfl HT_ (by kernel_rfl) (fun _ _ _ h => h) rfl ?_ ?_ ?_ ?_; rotate_left; (intro w'; go_simp; with_reducible rfl); rotate_left; (simp only [zs]; rfl)
          refine zp 17 (zb 28 142335) ?_ rfl rfl HT_ (by kernel_rfl) (fun _ _ _ h => h) rfl ?_ ?_ ?_ ?_; rotate_left; (intro w'; go_simp; with_reducible rfl); rotate_left; (simp only [zs]; rfl)
          refine zp 19 (zb 28 666623) ?_ rfl rfl HT_ (by kernel_rfl) (fun _ _ _ h => h) rfl ?_ ?_ ?_ ?_; rotate_left; (intro w'; go_simp; with_reducible rfl); rotate_left; (simp only [zs]; rfl)
          refine zt 10 (zb 28 667647) ?_ rfl rfl HT_ HW_ (by kernel_rfl) (fun _ _ _ h => h) rfl ?_ hHeld ?_ ?_ ?_; rotate_left; (rintro w' ⟨s0, s1, s2, s3, s4, s5, s6, s7, s8, s9, s10, s11⟩; go_simp; with_reducible rfl); rotate_left; (simp only [zs]; rfl)
          refine zt 12 (zb 28 671743) ?_ rfl rfl HT_ HW_ (by kernel_rfl) (fun _ _ _ h => h) rfl ?_ hHeld ?_ ?_ ?_; rotate_left; (rintro w' ⟨s0, s1, s2, s3, s4, s5, s6, s7, s8, s9, s10, s11⟩; go_simp; with_reducible rfl); rotate_left; (simp only [zs]; rfl)
          refine zt 14 (zb 28 688127) ?_ rfl rfl HT_ HW_ (by kernel_rfl) (fun _ _ _ h => h) rfl ?_ hHeld ?_ ?_ ?_; rotate_left; (rintro w' ⟨s0, s1, s2, s3, s4, s5, s6, s7, s8, s9, s10, s11⟩; go_simp; with_reducible rfl); rotate_left; (simp only [zs]; rfl)
          refine zt 16 (zb 28 753663) ?_ rfl rfl HT_ HW_ (by kernel_rfl) (fun _ _ _ h => h) rfl ?_ hHeld ?_ ?_ ?_; rotate_left; (rintro w' ⟨s0, s1, s2, s3, s4, s5, s6, s7, s8, s9, s10, s11⟩; go_simp; with_reducible rfl); rotate_left; (simp only [zs]; rfl)
          refine zt 18 (zb 28 1015807) ?_ rfl rfl HT_ HW_ (by kernel_rfl) (fun _ _ _ h => h) rfl ?_ hHeld ?_ ?_ ?_; rotate_left; (rintro w' ⟨s0, s1, s2, s3, s4, s5, s6, s7, s8, s9, s10, s11⟩; go_simp; with_reducible rfl); rotate_left; (simp only [zs]; rfl)
          refine zt 20 (zb 28 2064383) ?_ rfl rfl HT_ HW_ (by kernel_rfl) (fun _ _ _ h => h) rfl ?_ hHeld ?_ ?_ ?_; rotate_left; (rintro w' ⟨s0, s1, s2, s3, s4, s5, s6, s7, s8, s9, s10, s11⟩; go_simp; with_reducible rfl); rotate_left; (simp only [zs]; rfl)
          refine one_ (i := 15) (N := some 35) #[true, true, true, true, true, true, true, true, true, true, true, true, true, true, true, true, true, true, true, true, true, false, false, false, false, false, false, false] rfl rfl (one_of HT_.out (by kernel_rfl)) (by decide) (fun K hK => ?_)
          refine goes_ Tryd.func14 (by kernel_rfl) rfl #[.agg #[.slice A0_0 l0_0.length c0_0, .slice A0_1 l0_1.length c0_1], .string a1_3, .int .i64 a1_1] (by rfl) rfl rfl (by (try simp only [List.map_toArray, List.map_cons, List.map_nil]); first | done | rfl | (simp only [List.length_drop, List.length_take]; rfl)) ?_
          with_reducible refine (valid_Knows.calls _ _ l0_0 _ _ l0_1 a1_3 a1_1 t328 _ ?side1 ?side2 ?side3 ?side4 A34.out).mono ?_
          (case side1 => repeat (first | exact (Kd.C_below HR0_0.out HB.out) ))
          (case side2 => exact HC0_0.out)
          (case side3 => repeat (first | exact (Kd.C_below HR0_1.out HB.out) ))
          (case side4 => exact HC0_1.out)
          rintro e w47 ⟨rfl, hb⟩
          refine ⟨_, rfl, ?_⟩
          have n0_ := Aside0.mk (Kd.V_below HO_317002.out hb)
          have n1_ := Aside0.mk (blk_below BK314.out hb)
          have n2_ := Aside0.mk (blk_below BK315.out hb)
          have n3_ := Aside0.mk (blk_below BK316.out hb)
          have n4_ := Aside0.mk (below_step HB.out hb)
          clear HO_317002
          clear BK314
          clear BK315
          clear BK316
          clear HB
          have HO_317002 := n0_
          have BK314 := n1_
          have BK315 := n2_
          have BK316 := n3_
          have HB := n4_
          clear n0_ n1_ n2_ n3_ n4_
          (try clear hb)
          (try clear hb2)
          (try clear hk)
          (try clear hi)
          refine hK.out _ _ ⟨(blk_cell BK314.out 0).trans rfl, (blk_cell BK314.out 1).trans rfl, (blk_cell BK315.out 0).trans rfl, (blk_cell BK315.out 1).trans rfl, (blk_cell BK315.out 2).trans rfl, (blk_cell BK315.out 3).trans rfl, (blk_cell BK315.out 4).trans rfl, (blk_cell BK315.out 5).trans rfl, (blk_cell BK315.out 6).trans rfl, (blk_cell BK316.out 0).trans rfl, (blk_cell BK316.out 1).trans rfl, (blk_cell BK316.out 2).trans rfl⟩ (fun hHeld => ?_)
          clear hK K
          refine norm_ (a' := ?_) ?_ ?_
          rotate_left
          · show Act.put _ (some 35) _ = _
            simp only [zs]
            rfl
          refine one_ (i := 21) (N := some 41) #[true, true, true, true, true, true, true, true, true, true, true, true, true, true, true, true, true, true, true, true, true, true, false, false, false, false, false, false] rfl rfl (one_of HT_.out (by kernel_rfl)) (by decide) (fun K hK => ?_)
          refine goes_ Tryd.func15 (by kernel_rfl) rfl #[.agg #[.slice A0_0 l0_0.length c0_0, .slice A0_1 l0_1.length c0_1], .string a1_3, .int .i64 a1_1] (by rfl) rfl rfl (by (try simp only [List.map_toArray, List.map_cons, List.map_nil]); first | done | rfl | (simp only [List.length_drop, List.length_take]; rfl)) ?_
          with_reducible refine (ecdysisref20_Knows.calls kj3 _ _ l0_0 _ _ l0_1 a1_3 a1_1 t329 _ ?side1 ?side2 ?side3 ?side4 A35.out).mono ?_
          (case side1 => repeat (first | exact (Kd.C_below HR0_0.out HB.out) ))
          (case side2 => exact HC0_0.out)
          (case side3 => repeat (first | exact (Kd.C_below HR0_1.out HB.out) ))
          (case side4 => exact HC0_1.out)
          rintro e w48 ⟨rfl, hb⟩
          refine ⟨_, rfl, ?_⟩
          have n0_ := Aside0.mk (Kd.V_below HO_317002.out hb)
          have n1_ := Aside0.mk (blk_below BK314.out hb)
          have n2_ := Aside0.mk (blk_below BK315.out hb)
          have n3_ := Aside0.mk (blk_below BK316.out hb)
          have n4_ := Aside0.mk (below_step HB.out hb)
          clear HO_317002
          clear BK314
          clear BK315
          clear BK316
          clear HB
          have HO_317002 := n0_
          have BK314 := n1_
          have BK315 := n2_
          have BK316 := n3_
          have HB := n4_
          clear n0_ n1_ n2_ n3_ n4_
          (try clear hb)
          (try clear hb2)
          (try clear hk)
          (try clear hi)
          refine hK.out _ _ ⟨(blk_cell BK314.out 0).trans rfl, (blk_cell BK314.out 1).trans rfl, (blk_cell BK315.out 0).trans rfl, (blk_cell BK315.out 1).trans rfl, (blk_cell BK315.out 2).trans rfl, (blk_cell BK315.out 3).trans rfl, (blk_cell BK315.out 4).trans rfl, (blk_cell BK315.out 5).trans rfl, (blk_cell BK315.out 6).trans rfl, (blk_cell BK316.out 0).trans rfl, (blk_cell BK316.out 1).trans rfl, (blk_cell BK316.out 2).trans rfl⟩ (fun hHeld => ?_)
          clear hK K
          refine norm_ (a' := ?_) ?_ ?_
          rotate_left
          · show Act.put _ (some 41) _ = _
            simp only [zs]
            rfl
          refine zp 22 (zb 28 8388607) ?_ rfl rfl HT_ (by kernel_rfl) (fun _ _ _ h => h) rfl ?_ ?_ ?_ ?_; rotate_left; (intro w'; go_simp; with_reducible rfl); rotate_left; (simp only [zs]; rfl)
          refine zp 23 (zb 28 16777215) ?_ rfl rfl HT_ (by kernel_rfl) (fun _ _ _ h => h) rfl ?_ ?_ ?_ ?_; rotate_left; (intro w'; go_simp; with_reducible rfl); rotate_left; (simp only [zs]; rfl)
          refine zp 24 (zb 28 33554431) ?_ rfl rfl HT_ (by kernel_rfl) (fun _ _ _ h => h) rfl ?_ ?_ ?_ ?_; rotate_left; (intro w'; go_simp; with_reducible rfl); rotate_left; (simp only [zs]; rfl)
          refine zn 25 (zb 28 67108863) rfl rfl HT_ (by kernel_rfl) (fun _ _ _ h => h) rfl ?_ ?_ ?_; rotate_left; (simp only [zs]; rfl)
          refine zp 26 (zb 28 134217727) ?_ rfl rfl HT_ (by kernel_rfl) (fun _ _ _ h => h) rfl ?_ ?_ ?_ ?_; rotate_left; (intro w'; go_simp; with_reducible rfl); rotate_left; (simp only [zs]; rfl)
          refine zp 27 (zb 28 268435455) ?_ rfl rfl HT_ (by kernel_rfl) (fun _ _ _ h => h) rfl ?_ ?_ ?_ ?_; rotate_left; (intro w'; go_simp; with_reducible rfl); rotate_left; (simp only [zs]; rfl)
          refine done_ (done_of HT_.out (by kernel_rfl)) ?_
          try go_wp2
          go_ret
          exact ⟨by first | rfl , by exact HB.out⟩
      · rw [if_neg c33] at H
        have c33b0 : (t326 == t327) = false := by simpa using c33
        (try (have c33b1 : decide (t326 = t327) = false := by simpa using c33))
        (try (have c33b2 : (t326 == t327) = false := by simpa using c33))
        (try (have c33b3 : ¬ (t326 = t327) := by simpa using c33))
        clear c33
        obtain rfl := Option.some.inj H
        try go_wp2
        have n0_ := Aside0.mk (Kd.V_drew HO_317002.out)
        have n1_ := Aside0.mk (blk_drew BK314.out)
        have n2_ := Aside0.mk (blk_drew BK315.out)
        have n3_ := Aside0.mk (blk_drew BK316.out)
        have n4_ := Aside0.mk (below_drew1 HB.out)
        clear HO_317002
        clear BK314
        clear BK315
        clear BK316
        clear HB
        have HO_317002 := n0_
        have BK314 := n1_
        have BK315 := n2_
        have BK316 := n3_
        have HB := n4_
        clear n0_ n1_ n2_ n3_ n4_
        refine start_ (n := 28) (S := fun w' => w'.cell? ⟨gb314, 0, none⟩ = some (.slice A0_0 l0_0.length c0_0) ∧ w'.cell? ⟨gb314, 1, none⟩ = some (.slice A0_1 l0_1.length c0_1) ∧ w'.cell? ⟨gb315, 0, none⟩ = some (.string a1_0) ∧ w'.cell? ⟨gb315, 1, none⟩ = some (.int .i64 a1_1) ∧ w'.cell? ⟨gb315, 2, none⟩ = some (.int .i64 a1_2) ∧ w'.cell? ⟨gb315, 3, none⟩ = some (.string a1_3) ∧ w'.cell? ⟨gb315, 4, none⟩ = some (.bool a1_4) ∧ w'.cell? ⟨gb315, 5, none⟩ = some (.bool a1_5) ∧ w'.cell? ⟨gb315, 6, none⟩ = some (.string a1_6) ∧ w'.cell? ⟨gb316, 0, none⟩ = some (.int .u64 a2_0) ∧ w'.cell? ⟨gb316, 1, none⟩ = some (.string a2_1) ∧ w'.cell? ⟨gb316, 2, none⟩ = some (.slice A2_2 l2_2.length c2_2)) (ds := []) #[false, false, false, false, false, false, false, false, false, false, false, false, false, false, false, false, false, false, false, false, false, false, false, false, false, false, false, false] (by kernel_rfl) rfl rfl ⟨(blk_cell BK314.out 0).trans rfl, (blk_cell BK314.out 1).trans rfl, (blk_cell BK315.out 0).trans rfl, (blk_cell BK315.out 1).trans rfl, (blk_cell BK315.out 2).trans rfl, (blk_cell BK315.out 3).trans rfl, (blk_cell BK315.out 4).trans rfl, (blk_cell BK315.out 5).trans rfl, (blk_cell BK315.out 6).trans rfl, (blk_cell BK316.out 0).trans rfl, (blk_cell BK316.out 1).trans rfl, (blk_cell BK316.out 2).trans rfl⟩ (fun hHeld => ?_); refine with_tabW ecdysislaw20_ValidVals.tab3 ecdysislaw20_ValidVals.bits3 (fun HT_ HW_ => ?_)
        generalize wc.drew = w49 at HO_317002 BK314 BK315 BK316 HB hHeld ⊢
        refine zt 0 (zb 28 1) ?_ rfl rfl HT_ HW_ (by kernel_rfl) (fun _ _ _ h => h) rfl ?_ hHeld ?_ ?_ ?_; rotate_left; (rintro w' ⟨s0, s1, s2, s3, s4, s5, s6, s7, s8, s9, s10, s11⟩; go_simp; with_reducible rfl); rotate_left; (simp only [zs]; rfl)
        refine zt 1 (zb 28 3) ?_ rfl rfl HT_ HW_ (by kernel_rfl) (fun _ _ _ h => h) rfl ?_ hHeld ?_ ?_ ?_; rotate_left; (rintro w' ⟨s0, s1, s2, s3, s4, s5, s6, s7, s8, s9, s10, s11⟩; go_simp; with_reducible rfl); rotate_left; (simp only [zs]; rfl)
        refine zt 2 (zb 28 7) ?_ rfl rfl HT_ HW_ (by kernel_rfl) (fun _ _ _ h => h) rfl ?_ hHeld ?_ ?_ ?_; rotate_left; (rintro w' ⟨s0, s1, s2, s3, s4, s5, s6, s7, s8, s9, s10, s11⟩; go_simp; with_reducible rfl); rotate_left; (simp only [zs]; rfl)
        refine zt 4 (zb 28 23) ?_ rfl rfl HT_ HW_ (by kernel_rfl) (fun _ _ _ h => h) rfl ?_ hHeld ?_ ?_ ?_; rotate_left; (rintro w' ⟨s0, s1, s2, s3, s4, s5, s6, s7, s8, s9, s10, s11⟩; go_simp; with_reducible rfl); rotate_left; (simp only [zs]; rfl)
        refine zt 5 (zb 28 55) ?_ rfl rfl HT_ HW_ (by kernel_rfl) (fun _ _ _ h => h) rfl ?_ hHeld ?_ ?_ ?_; rotate_left; (rintro w' ⟨s0, s1, s2, s3, s4, s5, s6, s7, s8, s9, s10, s11⟩; go_simp; with_reducible rfl); rotate_left; (simp only [zs]; rfl)
        refine zt 6 (zb 28 119) ?_ rfl rfl HT_ HW_ (by kernel_rfl) (fun _ _ _ h => h) rfl ?_ hHeld ?_ ?_ ?_; rotate_left; (rintro w' ⟨s0, s1, s2, s3, s4, s5, s6, s7, s8, s9, s10, s11⟩; go_simp; with_reducible rfl); rotate_left; (simp only [zs]; rfl)
        refine one_ (i := 3) (N := some 23) #[true, true, true, true, true, true, true, false, false, false, false, false, false, false, false, false, false, false, false, false, false, false, false, false, false, false, false, false] rfl rfl (one_of HT_.out (by kernel_rfl)) (by decide) (fun K hK => ?_)
        refine goes_ Tryd.func12 (by kernel_rfl) rfl #[.agg #[.slice A0_0 l0_0.length c0_0, .slice A0_1 l0_1.length c0_1], .agg #[.string a1_0, .int .i64 a1_1, .int .i64 a1_2, .string a1_3, .bool a1_4, .bool a1_5, .string a1_6], .agg #[.int .u64 a2_0, .string a2_1, .slice A2_2 l2_2.length c2_2]] (by rfl) rfl rfl (by (try simp only [List.map_toArray, List.map_cons, List.map_nil]); first | done | rfl | (simp only [List.length_drop, List.length_take]; rfl)) ?_
        with_reducible refine (valid_Val.calls kj3 _ _ l0_0 _ _ l0_1 a1_0 a1_1 a1_2 a1_3 a1_4 a1_5 a1_6 a2_0 a2_1 _ _ l2_2 t326 _ ?sideT ?side1 ?side2 ?side3 ?side4 ?side5 ?side6 A31.out).mono ?_
        case sideT => exact Tabs.below HU8.out HB.out
        (case side1 => repeat (first | exact (Kd.C_below HR0_0.out HB.out) ))
        (case side2 => exact HC0_0.out)
        (case side3 => repeat (first | exact (Kd.C_below HR0_1.out HB.out) ))
        (case side4 => exact HC0_1.out)
        (case side5 => repeat (first | exact (Kd.V_reads' HO_317002.out).2.2 ))
        (case side6 => exact (Kd.V_reads' HO_317002.out).2.1)
        rintro e w50 ⟨rfl, hb⟩
        refine ⟨_, rfl, ?_⟩
        have n0_ := Aside0.mk (Kd.V_below HO_317002.out hb)
        have n1_ := Aside0.mk (blk_below BK314.out hb)
        have n2_ := Aside0.mk (blk_below BK315.out hb)
        have n3_ := Aside0.mk (blk_below BK316.out hb)
        have n4_ := Aside0.mk (below_step HB.out hb)
        clear HO_317002
        clear BK314
        clear BK315
        clear BK316
        clear HB
        have HO_317002 := n0_
        have BK314 := n1_
        have BK315 := n2_
        have BK316 := n3_
        have HB := n4_
        clear n0_ n1_ n2_ n3_ n4_
        (try clear hb)
        (try clear hb2)
        (try clear hk)
        (try clear hi)
        refine hK.out _ _ ⟨(blk_cell BK314.out 0).trans rfl, (blk_cell BK314.out 1).trans rfl, (blk_cell BK315.out 0).trans rfl, (blk_cell BK315.out 1).trans rfl, (blk_cell BK315.out 2).trans rfl, (blk_cell BK315.out 3).trans rfl, (blk_cell BK315.out 4).trans rfl, (blk_cell BK315.out 5).trans rfl, (blk_cell BK315.out 6).trans rfl, (blk_cell BK316.out 0).trans rfl, (blk_cell BK316.out 1).trans rfl, (blk_cell BK316.out 2).trans rfl⟩ (fun hHeld => ?_)
        clear hK K
        refine norm_ (a' := ?_) ?_ ?_
        rotate_left
        · show Act.put _ (some 23) _ = _
          simp only [zs]
          rfl
        refine one_ (i := 7) (N := some 27) #[true, true, true, true, true, true, true, true, false, false, false, false, false, false, false, false, false, false, false, false, false, false, false, false, false, false, false, false] rfl rfl (one_of HT_.out (by kernel_rfl)) (by decide) (fun K hK => ?_)
        refine goes_ Tryd.func13 (by kernel_rfl) rfl #[.agg #[.slice A0_0 l0_0.length c0_0, .slice A0_1 l0_1.length c0_1], .agg #[.string a1_0, .int .i64 a1_1, .int .i64 a1_2, .string a1_3, .bool a1_4, .bool a1_5, .string a1_6], .agg #[.int .u64 a2_0, .string a2_1, .slice A2_2 l2_2.length c2_2]] (by rfl) rfl rfl (by (try simp only [List.map_toArray, List.map_cons, List.map_nil]); first | done | rfl | (simp only [List.length_drop, List.length_take]; rfl)) ?_
        with_reducible refine (ecdysisref20_Val.calls kj3 _ _ l0_0 _ _ l0_1 a1_0 a1_1 a1_2 a1_3 a1_4 a1_5 a1_6 a2_0 a2_1 _ _ l2_2 t327 _ ?sideT ?side1 ?side2 ?side3 ?side4 ?side5 ?side6 A32.out).mono ?_
        case sideT => exact Tabs.below HU8.out HB.out
        (case side1 => repeat (first | exact (Kd.C_below HR0_0.out HB.out) ))
        (case side2 => exact HC0_0.out)
        (case side3 => repeat (first | exact (Kd.C_below HR0_1.out HB.out) ))
        (case side4 => exact HC0_1.out)
        (case side5 => repeat (first | exact (Kd.V_reads' HO_317002.out).2.2 ))
        (case side6 => exact (Kd.V_reads' HO_317002.out).2.1)
        rintro e w51 ⟨rfl, hb⟩
        refine ⟨_, rfl, ?_⟩
        have n0_ := Aside0.mk (Kd.V_below HO_317002.out hb)
        have n1_ := Aside0.mk (blk_below BK314.out hb)
        have n2_ := Aside0.mk (blk_below BK315.out hb)
        have n3_ := Aside0.mk (blk_below BK316.out hb)
        have n4_ := Aside0.mk (below_step HB.out hb)
        clear HO_317002
        clear BK314
        clear BK315
        clear BK316
        clear HB
        have HO_317002 := n0_
        have BK314 := n1_
        have BK315 := n2_
        have BK316 := n3_
        have HB := n4_
        clear n0_ n1_ n2_ n3_ n4_
        (try clear hb)
        (try clear hb2)
        (try clear hk)
        (try clear hi)
        refine hK.out _ _ ⟨(blk_cell BK314.out 0).trans rfl, (blk_cell BK314.out 1).trans rfl, (blk_cell BK315.out 0).trans rfl, (blk_cell BK315.out 1).trans rfl, (blk_cell BK315.out 2).trans rfl, (blk_cell BK315.out 3).trans rfl, (blk_cell BK315.out 4).trans rfl, (blk_cell BK315.out 5).trans rfl, (blk_cell BK315.out 6).trans rfl, (blk_cell BK316.out 0).trans rfl, (blk_cell BK316.out 1).trans rfl, (blk_cell BK316.out 2).trans rfl⟩ (fun hHeld => ?_)
        clear hK K
        refine norm_ (a' := ?_) ?_ ?_
        rotate_left
        · show Act.put _ (some 27) _ = _
          simp only [zs]
          rfl
        refine zp 8 (zb 28 511) ?_ rfl rfl HT_ (by kernel_rfl) (fun _ _ _ h => h) rfl ?_ ?_ ?_ ?_; rotate_left; (intro w'; go_simp; with_reducible rfl); rotate_left; (simp only [zs]; rfl)
        refine zp 9 (zb 28 1023) ?_ rfl rfl HT_ (by kernel_rfl) (fun _ _ _ h => h) rfl ?_ ?_ ?_ ?_; rotate_left; (intro w'; go_simp; with_reducible rfl); rotate_left; (simp only [zs]; rfl)
        refine zn 10 (zb 28 2047) rfl rfl HT_ (by kernel_rfl) (fun _ _ _ h => h) rfl ?_ ?_ ?_; rotate_left; (simp only [zs]; rfl)
        refine zn 11 (zb 28 4095) rfl rfl HT_ (by kernel_rfl) (fun _ _ _ h => h) rfl ?_ ?_ ?_; rotate_left; (simp only [zs]; rfl)
        refine zn 12 (zb 28 8191) rfl rfl HT_ (by kernel_rfl) (fun _ _ _ h => h) rfl ?_ ?_ ?_; rotate_left; (simp only [zs]; rfl)
        refine zn 13 (zb 28 16383) rfl rfl HT_ (by kernel_rfl) (fun _ _ _ h => h) rfl ?_ ?_ ?_; rotate_left; (simp only [zs]; rfl)
        refine zn 14 (zb 28 32767) rfl rfl HT_ (by kernel_rfl) (fun _ _ _ h => h) rfl ?_ ?_ ?_; rotate_left; (simp only [zs]; rfl)
        refine zn 15 (zb 28 65535) rfl rfl HT_ (by kernel_rfl) (fun _ _ _ h => h) rfl ?_ ?_ ?_; rotate_left; (simp only [zs]; rfl)
        refine zn 16 (zb 28 131071) rfl rfl HT_ (by kernel_rfl) (fun _ _ _ h => h) rfl ?_ ?_ ?_; rotate_left; (simp only [zs]; rfl)
        refine zn 17 (zb 28 262143) rfl rfl HT_ (by kernel_rfl) (fun _ _ _ h => h) rfl ?_ ?_ ?_; rotate_left; (simp only [zs]; rfl)
        refine zn 18 (zb 28 524287) rfl rfl HT_ (by kernel_rfl) (fun _ _ _ h => h) rfl ?_ ?_ ?_; rotate_left; (simp only [zs]; rfl)
        refine zn 19 (zb 28 1048575) rfl rfl HT_ (by kernel_rfl) (fun _ _ _ h => h) rfl ?_ ?_ ?_; rotate_left; (simp only [zs]; rfl)
        refine zn 20 (zb 28 2097151) rfl rfl HT_ (by kernel_rfl) (fun _ _ _ h => h) rfl ?_ ?_ ?_; rotate_left; (simp only [zs]; rfl)
        refine zn 21 (zb 28 4194303) rfl rfl HT_ (by kernel_rfl) (fun _ _ _ h => h) rfl ?_ ?_ ?_; rotate_left; (simp only [zs]; rfl)
        refine zn 22 (zb 28 8388607) rfl rfl HT_ (by kernel_rfl) (fun _ _ _ h => h) rfl ?_ ?_ ?_; rotate_left; (simp only [zs]; rfl)
        refine zp 23 (zb 28 16777215) ?_ rfl rfl HT_ (by kernel_rfl) (fun _ _ _ h => h) rfl ?_ ?_ ?_ ?_; rotate_left; (intro w'; go_simp; with_reducible rfl); rotate_left; (simp only [zs]; rfl)
        refine zp 24 (zb 28 33554431) ?_ rfl rfl HT_ (by kernel_rfl) (fun _ _ _ h => h) rfl ?_ ?_ ?_ ?_; rotate_left; (intro w'; go_simp; with_reducible rfl); rotate_left; (simp only [zs]; rfl)
        refine zn 25 (zb 28 67108863) rfl rfl HT_ (by kernel_rfl) (fun _ _ _ h => h) rfl ?_ ?_ ?_; rotate_left; (simp only [zs]; rfl)
        refine zp 26 (zb 28 134217727) ?_ rfl rfl HT_ (by kernel_rfl) (fun _ _ _ h => h) rfl ?_ ?_ ?_ ?_; rotate_left; (intro w'; go_simp; with_reducible rfl); rotate_left; (simp only [zs]; rfl)
        refine zp 27 (zb 28 268435455) ?_ rfl rfl HT_ (by kernel_rfl) (fun _ _ _ h => h) rfl ?_ ?_ ?_ ?_; rotate_left; (intro w'; go_simp; with_reducible rfl); rotate_left; (simp only [zs]; rfl)
        refine done_ (done_of HT_.out (by kernel_rfl)) ?_
        try go_wp2
        go_ret
        exact ⟨by first | rfl , by exact HB.out⟩
end Go.Proofs.YtbpnfpckoapdbaaDoor.PV20
end
section
namespace Go.Proofs.YtbpnfpckoapdbaaDoor.PV20
open Go.RowKit Go.Proofs.YtbpnfpckoapdbaaDoor.M Go.Proofs.YtbpnfpckoapdbaaDoor.KD Go.Proofs.YtbpnfpckoapdbaaDoor Go.Proofs.YtbpnfpckoapdbaaDoorW.PrintWords Go.Proofs.YtbpnfpckoapdbaaDoorW.PrintLast Go.Proofs.YtbpnfpckoapdbaaDoorW.PrintMore
attribute [local go_sem] max2_int min2_int max_two min_two max_three min_three max_four min_four   -- for this text's walks alone
set_option linter.unusedVariables false
set_option linter.unusedSimpArgs false
end Go.Proofs.YtbpnfpckoapdbaaDoor.PV20
end
section
namespace Go.Proofs.YtbpnfpckoapdbaaDoor.Ev
open Go.RowKit Go.Proofs.YtbpnfpckoapdbaaDoorW.PrintWords
set_option linter.unusedVariables false
/-- With enough rounds it tells r. -/
def E {α : Type} (g : Nat → Option α) (r : α) : Prop := ∃ k0, ∀ k, k0 ≤ k → g k = some r
theorem E.const {α : Type} {r : α} : E (fun _ => some r) r := ⟨0, fun _ _ => rfl⟩
theorem E.of {α : Type} {g : Nat → Option α} {r : α} (h : ∀ k, g k = some r) : E g r := ⟨0, fun k _ => h k⟩
theorem E.congr {α : Type} {g h : Nat → Option α} {r : α} (hh : E h r) (e : ∀ k, g k = h k) : E g r := by
 obtain ⟨k0, hk⟩ := hh
 exact ⟨k0, fun k hk0 => by rw [e]; exact hk k hk0⟩
theorem E.succ {α : Type} {g h : Nat → Option α} {r : α} (hh : E h r) (e : ∀ k, g (k + 1) = h k) : E g r := by
 obtain ⟨k0, hk⟩ := hh
 refine ⟨k0 + 1, fun k hk0 => ?_⟩
 obtain ⟨m, rfl⟩ : ∃ m, k = m + 1 := ⟨k - 1, by omega⟩
 rw [e]
 exact hk m (by omega)
theorem E.step {α : Type} {g : Nat → Option α} {r : α} (h : E (fun k => g (k + 1)) r) : E g r := E.succ h fun _ => rfl
theorem E.bind {α β : Type} {f : Nat → Option α} {a : α} {g : Nat → α → Option β} {r : β} (hf : E f a) (hg : E (fun k => g k a) r) : E (fun k => (f k).bind (g k)) r := by
 obtain ⟨k0, h0⟩ := hf
 obtain ⟨k1, h1⟩ := hg
 refine ⟨max k0 k1, fun k hk => ?_⟩
 show (f k).bind (g k) = some r
 rw [h0 k (Nat.le_trans (Nat.le_max_left _ _) hk)]
 exact h1 k (Nat.le_trans (Nat.le_max_right _ _) hk)
theorem E.bind0 {α β : Type} {f : Option α} {a : α} {g : Nat → α → Option β} {r : β} (hf : f = some a) (hg : E (fun k => g k a) r) : E (fun k => f.bind (g k)) r := E.bind (f := fun _ => f) (E.of fun _ => hf) hg
theorem E.ite {α : Type} {c : Prop} [Decidable c] {g h : Nat → Option α} {r : α} (hg : c → E g r) (hh : ¬ c → E h r) : E (fun k => if c then g k else h k) r := by
 by_cases hc : c
 · exact (hg hc).congr fun k => if_pos hc
 · exact (hh hc).congr fun k => if_neg hc
theorem E.yes {α : Type} {c : Prop} [Decidable c] {g h : Nat → Option α} {r : α} (hc : c) (hg : E g r) : E (fun k => if c then g k else h k) r := hg.congr fun k => if_pos hc
theorem E.no {α : Type} {c : Prop} [Decidable c] {g h : Nat → Option α} {r : α} (hc : ¬ c) (hh : E h r) : E (fun k => if c then g k else h k) r := hh.congr fun k => if_neg hc
theorem E.get {α : Type} {g : Nat → Option α} {r : α} (h : E g r) : ∃ k, g k = some r := by
 obtain ⟨k, hk⟩ := h
 exact ⟨k, hk k (Nat.le_refl _)⟩
/-- From the end on, step by step. -/
theorem up {C : Nat → Prop} (n : Nat) (hend : ∀ i, n ≤ i → C i) (hstep : ∀ i, i < n → C (i + 1) → C i) (i : Nat) : C i := by
 obtain ⟨d, hd⟩ : ∃ d, d = n - i := ⟨_, rfl⟩
 induction d generalizing i with
 | zero => exact hend i (by omega)
 | succ d ih => exact hstep i (by omega) (ih (i + 1) (by omega))
theorem drop_getD {α : Type} {xs : List α} {i : Nat} (z : α) (h : i < xs.length) : xs.drop i = xs.getD i z :: xs.drop (i + 1) := by
 rw [List.drop_eq_getElem_cons h, List.getD_eq_getElem?_getD, List.getElem?_eq_getElem h]
 rfl
theorem w1 {i n : Nat} (h : i < n) (hn : n ≤ 9000000000000000000) : wrap64 ((i : Int) + 1) = ((i + 1 : Nat) : Int) := by unfold wrap64; omega
end Go.Proofs.YtbpnfpckoapdbaaDoor.Ev
end
section
namespace Go.Proofs.YtbpnfpckoapdbaaDoor.Open
open Go.RowKit Go.ChangeShapes Go.WideShapes Go.Deep Go.Proofs.YtbpnfpckoapdbaaDoorW.PrintWords
set_option linter.unusedVariables false
/-- What can be read at type t is of kind d, and Ok. -/
def Opens {α : Type} (P : Program) (d : Kd α) (Ok : α → Prop) (t : TypeId) : Prop :=
 ∀ (H : Type) (enc : TypeId × Value → H) (w : World) (base : Nat) (spare : Nat → Bool) (held : Bool) (fuel : Nat) (cs : List Value) (x : DataW H × List MemPlace), DataW.trod enc P w base spare held fuel t cs = some x → ∃ y, d.K w y cs ∧ Ok y
theorem opens_int {P : Program} {t : TypeId} {k : IntKind} (hu : P.underlying t = some (.int k)) : Opens P (Kd.int k) (fun n => (Lit.int k n).wf = true) t := by
 intro H enc w base spare held fuel cs x h
 obtain ⟨n, rfl, _, hw⟩ := DataW.trod_int hu h
 exact ⟨n, rfl, hw⟩
theorem opens_bool {P : Program} {t : TypeId} (hu : P.underlying t = some .bool) : Opens P Kd.bool (fun _ => True) t := by
 intro H enc w base spare held fuel cs x h
 obtain ⟨b, rfl, _⟩ := DataW.trod_bool hu h
 exact ⟨b, rfl, trivial⟩
theorem list_of {α : Type} (p : Nat → α → Prop) : ∀ n, (∀ i, i < n → ∃ y, p i y) → ∃ l : List α, l.length = n ∧ ∀ i y, l[i]? = some y → p i y
 | 0, _ => ⟨[], rfl, fun i y h => by simp at h⟩
 | n + 1, h => by
  obtain ⟨l, hl, hp⟩ := list_of p n (fun i hi => h i (by omega))
  obtain ⟨y, hy⟩ := h n (by omega)
  refine ⟨l ++ [y], by rw [List.length_append, hl, List.length_singleton], fun i z hz => ?_⟩
  rcases Nat.lt_or_ge i l.length with hi | hi
  · rw [List.getElem?_append_left hi] at hz
    exact hp i z hz
  · rw [List.getElem?_append_right hi] at hz
    have hi2 : i = n := by
     have := (List.getElem?_eq_some_iff.1 hz).1
     rw [List.length_singleton] at this
     omega
    subst hi2
    rw [hl, Nat.sub_self] at hz
    have : y = z := by simpa using hz
    exact this ▸ hy
/-- Fields from a place on. -/
def Fields {β : Type} (P : Program) (d : Kd β) (Ok : β → Prop) (off : Nat) (fs : List Field) : Prop :=
 ∀ (H : Type) (enc : TypeId × Value → H) (w : World) (base : Nat) (spare : Nat → Bool) (held : Bool) (n : Nat) (cs : List Value), cs.length = off + d.sz →
  (∀ f ∈ fs, ∃ x, DataW.trod enc P w base spare held n f.type ((cs.drop f.offset).take (P.cellsOf f.type)) = some x) → ∃ y, d.K w y (cs.drop off) ∧ Ok y
end Go.Proofs.YtbpnfpckoapdbaaDoor.Open
end
section
namespace Go.Proofs.YtbpnfpckoapdbaaDoor.Open
open Go.RowKit Go.ChangeShapes Go.WideShapes Go.Deep Go.Proofs.YtbpnfpckoapdbaaDoorW.PrintWords
set_option linter.unusedVariables false
def Light {H : Type} (P : Program) (t : TypeId) (x : DataW H) : Prop := ∀ n ∈ DataW.weights P t x, n ≤ reachBytes
def OpensW {α : Type} (fuel : Nat) (P : Program) (d : Kd α) (Ok : α → Prop) (t : TypeId) : Prop :=
 ∀ (H : Type) (enc : TypeId × Value → H) (w : World) (base : Nat) (spare : Nat → Bool) (held : Bool) (cs : List Value) (x : DataW H × List MemPlace), DataW.trod enc P w base spare held fuel t cs = some x → Light P t x.1 → ∃ y, d.K w y cs ∧ Ok y
theorem Opens.toW {α : Type} {P : Program} {d : Kd α} {Ok : α → Prop} {t : TypeId} (h : Opens P d Ok t) (fuel : Nat) : OpensW fuel P d Ok t := fun H enc w base spare held cs x hx _ => h H enc w base spare held fuel cs x hx
theorem opensW_string {P : Program} {t : TypeId} {fuel : Nat} (hu : P.underlying t = some .string) : OpensW fuel P Kd.string (fun s => s.size ≤ reachBytes) t := by
 intro H enc w base spare held cs x h hl
 obtain ⟨s, rfl, hx, hs⟩ := DataW.trod_string hu h
 refine ⟨s, rfl, ?_⟩
 have := hl s.size (by rw [hx]; simp [DataW.weights])
 exact this
theorem mem_weightsAll {H : Type} {P : Program} {e : TypeId} {n : Nat} : ∀ {l : List (DataW H)} {d : DataW H}, d ∈ l → n ∈ DataW.weights P e d → n ∈ DataW.weightsAll P e l
 | [], d, h, _ => by cases h
 | a :: l, d, h, hn => by
  rcases List.mem_cons.1 h with rfl | h
  · simp [DataW.weightsAll, hn]
  · simp [DataW.weightsAll, mem_weightsAll h hn]
theorem opensW_slice {α : Type} {P : Program} {d : Kd α} {Ok : α → Prop} {t e : TypeId} {fuel : Nat} {B : Nat} (hu : P.underlying t = some (.slice e)) (hc : P.cellsOf e = d.sz) (hB : P.bytesOf e = B) (he : ∀ n, fuel = n + 1 → OpensW n P d Ok e) : OpensW fuel P (Kd.slice e d) (fun l => l.length * B ≤ reachBytes ∧ ∀ y ∈ l, Ok y) t := by
 intro H enc w base spare held cs x h hw
 rcases DataW.trod_slice hu h with ⟨rfl, _⟩ | ⟨a, len, cap, elems, rest, n, hf, rfl, rfl, hb, hl, hm, hlen, hi, _, _⟩
 · exact ⟨[], ⟨none, 0, rfl, Nat.le_refl _, Kd.C_nil d w⟩, by simp⟩
 · have hw1 : ∀ k ∈ (elems.length + rest.length) * P.bytesOf e :: (DataW.weightsAll P e (elems.map (·.1)) ++ DataW.weightsAll P e (rest.map (·.1))), k ≤ reachBytes := by
     intro k hk
     refine hw k ?_
     simp only [DataW.weights, hu, List.length_map]
     exact hk
   obtain ⟨l, hl1, hl2⟩ := list_of (fun i y => ∃ c, c.length = d.sz ∧ d.K w y c ∧ (∀ j u, c[j]? = some u → w.cell? (a.add (i * d.sz + j)) = some u) ∧ Ok y) len (fun i hil => by
     have hi1 := hi i hil
     rw [List.getElem?_eq_getElem (by omega : i < elems.length)] at hi1
     obtain ⟨cs', h1, h2⟩ := Option.bind_eq_some_iff.1 hi1
     obtain ⟨y, hy, ho⟩ := he n hf H enc w base spare held cs' _ h2 (fun k hk => hw1 k (by
      refine List.mem_cons_of_mem _ (List.mem_append_left _ (mem_weightsAll (List.mem_map.2 ⟨_, List.getElem_mem _, rfl⟩) hk))))
     refine ⟨y, cs', d.K_len hy, hy, fun j u hj => ?_, ho⟩
     obtain ⟨_, hcl, hat⟩ := World.cells?_some h1
     have hjl : j < P.cellsOf e := by
      have := (List.getElem?_eq_some_iff.1 hj).1
      rw [hcl] at this
      exact this
     have h3 := hat j hjl
     rw [Go.Deep.add_add, hc] at h3
     rw [h3, hj])
   refine ⟨l, ⟨some a, cap, by rw [hl1], by omega, rfl, by simp only [maxLen] at hm; omega, fun _ => ⟨a, rfl, fun j p hj => ?_⟩⟩, ?_, fun y hy => ?_⟩
   · obtain ⟨c, h1, h2, h3, _⟩ := hl2 j p hj
     exact ⟨c, h1, h2, h3⟩
   · have h1 := hw1 _ (List.mem_cons_self)
     rw [hB] at h1
     have h2 : l.length * B ≤ (elems.length + rest.length) * B := Nat.mul_le_mul_right _ (by omega)
     exact Nat.le_trans h2 h1
   · obtain ⟨i, hi⟩ := List.getElem?_of_mem hy
     obtain ⟨_, _, _, _, h4⟩ := hl2 i y hi
     exact h4
/-- Fields from a place on. -/
def FieldsW {β : Type} (fuel : Nat) (P : Program) (d : Kd β) (Ok : β → Prop) (off : Nat) (fs : List Field) : Prop :=
 ∀ (H : Type) (enc : TypeId × Value → H) (w : World) (base : Nat) (spare : Nat → Bool) (held : Bool) (cs : List Value), cs.length = off + d.sz →
  (∀ f ∈ fs, ∃ x, DataW.trod enc P w base spare held fuel f.type ((cs.drop f.offset).take (P.cellsOf f.type)) = some x ∧ Light P f.type x.1) → ∃ y, d.K w y (cs.drop off) ∧ Ok y
theorem fieldsW_last {α : Type} {P : Program} {d : Kd α} {Ok : α → Prop} {off n : Nat} {f : Field} (ho : f.offset = off) (hc : P.cellsOf f.type = d.sz) (h : OpensW n P d Ok f.type) : FieldsW n P d Ok off [f] := by
 intro H enc w base spare held cs hl hf
 obtain ⟨x, hx, hg⟩ := hf f (by simp)
 obtain ⟨y, hy, hk⟩ := h H enc w base spare held _ x hx hg
 rw [ho, hc, List.take_of_length_le (by rw [List.length_drop]; omega)] at hy
 exact ⟨y, hy, hk⟩
theorem fieldsW_cons {α β : Type} {P : Program} {d : Kd α} {d' : Kd β} {Ok : α → Prop} {Ok' : β → Prop} {off off' n : Nat} {f : Field} {fs : List Field} (ho : f.offset = off) (hc : P.cellsOf f.type = d.sz) (h : OpensW n P d Ok f.type) (hoff : off + d.sz = off') (h' : FieldsW n P d' Ok' off' fs) : FieldsW n P (Kd.pair d d') (fun x => Ok x.1 ∧ Ok' x.2) off (f :: fs) := by
 intro H enc w base spare held cs hl hf
 obtain ⟨x, hx, hg⟩ := hf f (by simp)
 obtain ⟨y, hy, hk⟩ := h H enc w base spare held _ x hx hg
 rw [ho, hc] at hy
 have hl' : cs.length = off + (d.sz + d'.sz) := hl
 obtain ⟨y', hy', hk'⟩ := h' H enc w base spare held cs (by omega) (fun g hg => hf g (by simp [hg]))
 refine ⟨(y, y'), ⟨(cs.drop off).take d.sz, cs.drop off', ?_, hy, hy'⟩, hk, hk'⟩
 rw [← hoff, ← List.drop_drop, List.take_append_drop]
theorem opensW_struct {β γ : Type} {P : Program} {d : Kd β} {Ok : β → Prop} {t : TypeId} {fs : Array Field} {fuel : Nat} (mk : β → γ) (proj : γ → β) (hmk : ∀ y, proj (mk y) = y) (hu : P.underlying t = some (.struct fs)) (hc : P.cellsOf t = d.sz) (h : ∀ n, fuel = n + 1 → FieldsW n P d Ok 0 fs.toList) : OpensW fuel P (Kd.iso d proj) (fun x => Ok (proj x)) t := by
 intro H enc w base spare held cs x ht hw
 obtain ⟨xs, n, hn, hx, hl, hxs, hf⟩ := DataW.trod_struct hu ht
 obtain ⟨y, hy, hk⟩ := h n hn H enc w base spare held cs (by omega) (fun f hfm => by
  obtain ⟨i, hi⟩ := List.getElem?_of_mem hfm
  have hi' : fs[i]? = some f := by rw [← Array.getElem?_toList]; exact hi
  have h1 := hf i f hi'
  have hlt : i < xs.length := by rw [hxs]; exact (Array.getElem?_eq_some_iff.1 hi').1
  refine ⟨xs[i], by rw [h1, List.getElem?_eq_getElem hlt], fun k hk => hw k ?_⟩
  rw [hx]
  simp only [DataW.weights, hu]
  exact DataW.weights_mem_each (j := i) (by rw [List.getElem?_map, hi]; rfl) (by rw [List.getElem?_map, List.getElem?_eq_getElem hlt]; rfl) k hk)
 refine ⟨mk y, ?_, by show Ok (proj (mk y)); rw [hmk]; exact hk⟩
 show d.K w (proj (mk y)) cs
 rw [hmk]
 exact hy
theorem opensW_zero {α : Type} {P : Program} {d : Kd α} {Ok : α → Prop} {t : TypeId} : OpensW 0 P d Ok t := fun H enc w base spare held cs x hx _ => by simp [DataW.trod] at hx
end Go.Proofs.YtbpnfpckoapdbaaDoor.Open
end
section
namespace Go.Proofs.YtbpnfpckoapdbaaDoor.Ops
open Go.RowKit Go.Proofs.YtbpnfpckoapdbaaDoorW.PrintWords Go.Proofs.YtbpnfpckoapdbaaDoor.KD Go.Proofs.YtbpnfpckoapdbaaDoor.Open
set_option linter.unusedVariables false
set_option maxHeartbeats 1000000
abbrev TR := S63
abbrev TV := S40
abbrev TS := S43
abbrev TT := S29
def okRaw (x : TR) : Prop := (Lit.int .i64 x.f0).wf = true ∧ (Lit.int .i64 x.f1).wf = true ∧ (Lit.int .u64 x.f2).wf = true ∧ x.f3.size ≤ reachBytes
def okVal (O : TT → Prop) (x : TV) : Prop := (Lit.int .u64 x.f0).wf = true ∧ x.f1.size ≤ reachBytes ∧ (x.f2.length * 48 ≤ reachBytes ∧ ∀ y ∈ x.f2, O y)
def okSlot (O : TT → Prop) (x : TS) : Prop := (Lit.int .i64 x.f0).wf = true ∧ (x.f1.length * 48 ≤ reachBytes ∧ ∀ y ∈ x.f1, okVal O y)
/-- A tree that is no deeper than so much, and no greater than a machine's. -/
def okTree (O : TT → Prop) (x : TT) : Prop := (x.f0.length * 32 ≤ reachBytes ∧ ∀ y ∈ x.f0, okSlot O y) ∧ (x.f1.length * 40 ≤ reachBytes ∧ ∀ y ∈ x.f1, okRaw y)
def okT : Nat → TT → Prop
 | 0 => fun _ => False
 | n + 1 => okTree (okT n)
theorem opensRaw (n : Nat) : OpensW n Tryd.prog k63 okRaw 63 :=
 opensW_struct (mk := fun y : Int × Int × Int × ByteArray => (⟨y.1, y.2.1, y.2.2.1, y.2.2.2⟩ : TR)) (proj := fun x => (x.f0, x.f1, x.f2, x.f3)) (fun _ => rfl) Tryd.underlying63 (by kernel_rfl) fun n _ =>
  fieldsW_cons rfl (by kernel_rfl) ((opens_int Tryd.underlying3).toW n) rfl (fieldsW_cons rfl (by kernel_rfl) ((opens_int Tryd.underlying3).toW n) rfl (fieldsW_cons rfl (by kernel_rfl) ((opens_int Tryd.underlying37).toW n) rfl (fieldsW_last rfl (by kernel_rfl) (opensW_string Tryd.underlying9))))
theorem cellsT : Tryd.prog.cellsOf 29 = 2 := by kernel_rfl
theorem cellsS : Tryd.prog.cellsOf 43 = 2 := by kernel_rfl
theorem cellsV : Tryd.prog.cellsOf 40 = 3 := by kernel_rfl
section
variable {d : Kd TT} {ok : TT → Prop}
theorem opensV (hd : d.sz = 2) (fuel : Nat) (h : ∀ n, fuel = n + 2 → OpensW n Tryd.prog d ok 29) : OpensW fuel Tryd.prog (g40 d) (okVal ok) 40 := by
 have h1 : Tryd.prog.cellsOf 40 = (Kd.pair (Kd.int .u64) (Kd.pair (Kd.string) (Kd.slice 29 d))).sz := cellsV
 refine opensW_struct (d := Kd.pair (Kd.int .u64) (Kd.pair (Kd.string) (Kd.slice 29 d))) (Ok := fun x : Int × ByteArray × List TT => ((Lit.int .u64 x.1).wf = true) ∧ (x.2.1.size ≤ reachBytes) ∧ (x.2.2.length * 48 ≤ reachBytes ∧ ∀ y ∈ x.2.2, ok y)) (mk := fun y => (⟨y.1, y.2.1, y.2.2⟩ : TV)) (proj := fun x => (x.f0, x.f1, x.f2)) (fun _ => rfl) Tryd.underlying40 h1 fun f e => ?_
 have c0 : Tryd.prog.cellsOf 37 = 1 := by kernel_rfl
 have c1 : Tryd.prog.cellsOf 9 = 1 := by kernel_rfl
 have c2 : Tryd.prog.cellsOf 38 = 1 := by kernel_rfl
 have g0 : OpensW f Tryd.prog (Kd.int .u64) (fun n => (Lit.int .u64 n).wf = true) 37 := (opens_int Tryd.underlying37).toW f
 have g1 : OpensW f Tryd.prog Kd.string (fun x => x.size ≤ reachBytes) 9 := opensW_string Tryd.underlying9
 have b2 : Tryd.prog.bytesOf 29 = 48 := by kernel_rfl
 have g2 : OpensW f Tryd.prog (Kd.slice 29 d) (fun l => l.length * 48 ≤ reachBytes ∧ ∀ y ∈ l, ok y) 38 := opensW_slice Tryd.underlying38 (cellsT.trans hd.symm) b2 fun f1 e1 => h f1 (by omega)
 refine fieldsW_cons (off' := 1) (Ok := fun x : Int => (Lit.int .u64 x).wf = true) (Ok' := fun x : ByteArray × List TT => (x.1.size ≤ reachBytes) ∧ (x.2.length * 48 ≤ reachBytes ∧ ∀ y ∈ x.2, ok y)) ?_ ?_ ?_ ?_ ?_
 · exact rfl
 · exact c0
 · exact g0
 · exact rfl
 refine fieldsW_cons (off' := 2) (Ok := fun x : ByteArray => x.size ≤ reachBytes) (Ok' := fun x : List TT => (x.length * 48 ≤ reachBytes ∧ ∀ y ∈ x, ok y)) ?_ ?_ ?_ ?_ ?_
 · exact rfl
 · exact c1
 · exact g1
 · exact rfl
 refine fieldsW_last ?_ ?_ ?_
 · exact rfl
 · exact c2
 · exact g2
theorem opensS (hd : d.sz = 2) (fuel : Nat) (h : ∀ n, fuel = n + 4 → OpensW n Tryd.prog d ok 29) : OpensW fuel Tryd.prog (g43 d) (okSlot ok) 43 := by
 have h1 : Tryd.prog.cellsOf 43 = (Kd.pair (Kd.int .i64) (Kd.slice 40 (g40 d))).sz := cellsS
 refine opensW_struct (d := Kd.pair (Kd.int .i64) (Kd.slice 40 (g40 d))) (Ok := fun x : Int × List TV => ((Lit.int .i64 x.1).wf = true) ∧ (x.2.length * 48 ≤ reachBytes ∧ ∀ y ∈ x.2, okVal ok y)) (mk := fun y => (⟨y.1, y.2⟩ : TS)) (proj := fun x => (x.f0, x.f1)) (fun _ => rfl) Tryd.underlying43 h1 fun f e => ?_
 have c0 : Tryd.prog.cellsOf 3 = 1 := by kernel_rfl
 have c1 : Tryd.prog.cellsOf 41 = 1 := by kernel_rfl
 have g0 : OpensW f Tryd.prog (Kd.int .i64) (fun n => (Lit.int .i64 n).wf = true) 3 := (opens_int Tryd.underlying3).toW f
 have b1 : Tryd.prog.bytesOf 40 = 48 := by kernel_rfl
 have g1 : OpensW f Tryd.prog (Kd.slice 40 (g40 d)) (fun l => l.length * 48 ≤ reachBytes ∧ ∀ y ∈ l, okVal ok y) 41 := opensW_slice Tryd.underlying41 cellsV b1 fun f1 e1 => opensV hd f1 fun f2 e2 => h f2 (by omega)
 refine fieldsW_cons (off' := 1) (Ok := fun x : Int => (Lit.int .i64 x).wf = true) (Ok' := fun x : List TV => (x.length * 48 ≤ reachBytes ∧ ∀ y ∈ x, okVal ok y)) ?_ ?_ ?_ ?_ ?_
 · exact rfl
 · exact c0
 · exact g0
 · exact rfl
 refine fieldsW_last ?_ ?_ ?_
 · exact rfl
 · exact c1
 · exact g1
theorem opensTof (hd : d.sz = 2) (fuel : Nat) (h : ∀ n, fuel = n + 6 → OpensW n Tryd.prog d ok 29) : OpensW fuel Tryd.prog (F29 d) (okTree ok) 29 := by
 have h1 : Tryd.prog.cellsOf 29 = (Kd.pair (Kd.slice 43 (g43 d)) (Kd.slice 63 k63)).sz := cellsT
 refine opensW_struct (d := Kd.pair (Kd.slice 43 (g43 d)) (Kd.slice 63 k63)) (Ok := fun x : List TS × List TR => (x.1.length * 32 ≤ reachBytes ∧ ∀ y ∈ x.1, okSlot ok y) ∧ (x.2.length * 40 ≤ reachBytes ∧ ∀ y ∈ x.2, okRaw y)) (mk := fun y => (⟨y.1, y.2⟩ : TT)) (proj := fun x => (x.f0, x.f1)) (fun _ => rfl) Tryd.underlying29 h1 fun f e => ?_
 have c0 : Tryd.prog.cellsOf 26 = 1 := by kernel_rfl
 have c1 : Tryd.prog.cellsOf 27 = 1 := by kernel_rfl
 have b0 : Tryd.prog.bytesOf 43 = 32 := by kernel_rfl
 have g0 : OpensW f Tryd.prog (Kd.slice 43 (g43 d)) (fun l => l.length * 32 ≤ reachBytes ∧ ∀ y ∈ l, okSlot ok y) 26 := opensW_slice Tryd.underlying26 cellsS b0 fun f1 e1 => opensS hd f1 fun f2 e2 => h f2 (by omega)
 have b1 : Tryd.prog.bytesOf 63 = 40 := by kernel_rfl
 have g1 : OpensW f Tryd.prog (Kd.slice 63 k63) (fun l => l.length * 40 ≤ reachBytes ∧ ∀ y ∈ l, okRaw y) 27 := opensW_slice Tryd.underlying27 (by kernel_rfl) b1 fun f1 e1 => opensRaw f1
 refine fieldsW_cons (off' := 1) (Ok := fun x : List TS => (x.length * 32 ≤ reachBytes ∧ ∀ y ∈ x, okSlot ok y)) (Ok' := fun x : List TR => (x.length * 40 ≤ reachBytes ∧ ∀ y ∈ x, okRaw y)) ?_ ?_ ?_ ?_ ?_
 · exact rfl
 · exact c0
 · exact g0
 · exact rfl
 refine fieldsW_last ?_ ?_ ?_
 · exact rfl
 · exact c1
 · exact g1
end
theorem OpensW.lift {α : Type} {fuel : Nat} {P : Program} {d d' : Kd α} {Ok : α → Prop} {t : TypeId} (h : OpensW fuel P d Ok t) (hk : ∀ w x cs, d.K w x cs → d'.K w x cs) : OpensW fuel P d' Ok t := fun H enc w base spare held cs x hx hl => by
 obtain ⟨y, h1, h2⟩ := h H enc w base spare held cs x hx hl
 exact ⟨y, hk _ _ _ h1, h2⟩
theorem szTree : k29.sz = 2 := rfl
theorem opensT : ∀ (n fuel : Nat), fuel ≤ n → OpensW fuel Tryd.prog k29 (okT n) 29
 | 0, fuel, h => by
  obtain rfl : fuel = 0 := by omega
  exact opensW_zero
 | n + 1, fuel, h => OpensW.lift (opensTof (d := k29) (ok := okT n) szTree fuel fun m hm => opensT n m (by omega)) fun _ _ _ hk => fo29K hk
theorem opensVal (n fuel : Nat) (h : fuel ≤ n) : OpensW fuel Tryd.prog k40 (okVal (okT n)) 40 := opensV (d := k29) szTree fuel fun m hm => opensT n m (by omega)
end Go.Proofs.YtbpnfpckoapdbaaDoor.Ops
end
section
namespace Go.Proofs.YtbpnfpckoapdbaaDoor.P20
open Go.RowKit Go.Proofs.YtbpnfpckoapdbaaDoorW.PrintWords Go.Proofs.YtbpnfpckoapdbaaDoorW.PrintLast Go.Proofs.YtbpnfpckoapdbaaDoorW.PrintMore Go.Proofs.YtbpnfpckoapdbaaDoor.KD Go.Proofs.YtbpnfpckoapdbaaDoor.M Go.Proofs.YtbpnfpckoapdbaaDoor.PV20 Go.Proofs.YtbpnfpckoapdbaaDoor.Ev
set_option linter.unusedVariables false
set_option linter.unusedSimpArgs false
abbrev SE := S48
abbrev SM := S52
abbrev SF := S36
abbrev SR := S63
abbrev SV := S40
abbrev SS := S43
abbrev ST := S29
theorem E.uniq {α : Type} {g : Nat → Option α} {r r' : α} (h : E g r) (h' : E g r') : r = r' := by
 obtain ⟨k0, h0⟩ := h
 obtain ⟨k1, h1⟩ := h'
 have e0 := h0 (max k0 k1) (Nat.le_max_left _ _)
 have e1 := h1 (max k0 k1) (Nat.le_max_right _ _)
 rw [e0] at e1
 exact Option.some.inj e1
theorem six (a : Int) : (a < 0 ∨ 16 ≤ a) ∨ a = 0 ∨ a = 1 ∨ a = 2 ∨ a = 3 ∨ a = 4 ∨ a = 5 ∨ a = 6 ∨ a = 7 ∨ a = 8 ∨ a = 9 ∨ a = 10 ∨ a = 11 ∨ a = 12 ∨ a = 13 ∨ a = 14 ∨ a = 15 := by omega
def numB (a : Int) : Bool := decide (1 ≤ a ∧ a ≤ 11) || a == 14
theorem kind_out {a : Int} (h : a < 0 ∨ 16 ≤ a) : scalar_kind.f a = some 0 := by unfold scalar_kind.f; rw [if_pos h]
theorem num_v (a : Int) : scalar_Number.f a = some (numB a) := by
 unfold scalar_Number.f
 rcases six a with h | rfl | rfl | rfl | rfl | rfl | rfl | rfl | rfl | rfl | rfl | rfl | rfl | rfl | rfl | rfl | rfl
 · rw [kind_out h, Option.bind_some]
   have h1 : ¬ (1 ≤ a ∧ a ≤ 11) := by omega
   have h2 : (a == 14) = false := by rw [beq_eq_false_iff_ne]; omega
   rw [numB, decide_eq_false h1, h2]
   rfl
 all_goals rfl
theorem num_r (a : Int) : ecdysisref11_Number.f a = some (numB a) := by
 unfold ecdysisref11_Number.f ecdysisref11_Whole.f numB
 rcases six a with h | rfl | rfl | rfl | rfl | rfl | rfl | rfl | rfl | rfl | rfl | rfl | rfl | rfl | rfl | rfl | rfl
 · have h1 : ¬ (1 ≤ a ∧ a ≤ 11) := by omega
   rw [decide_eq_false h1, Bool.false_or]
   rcases h with h | h
   · rw [if_neg (by omega), if_neg (by omega), Option.bind_some, if_neg (by simp), if_neg (by omega)]
   · rw [if_pos (by omega), if_neg (by omega), if_pos (by omega), decide_eq_false (by omega : ¬ a ≤ 11), Option.bind_some, if_neg (by simp), if_neg (by omega)]
 all_goals rfl
def fit32 (n : Int) : Bool := decide (-2147483648 ≤ wrap64 n ∧ wrap64 n ≤ 2147483647)
theorem fits_r (n : Int) : ecdysisref02_Fits.f (wrap64 n) = some (fit32 n) := by
 unfold ecdysisref02_Fits.f fit32
 by_cases h : wrap64 n ≥ -2147483648
 · rw [if_pos h]
   by_cases h2 : wrap64 n ≤ 2147483647
   · rw [decide_eq_true h2, decide_eq_true ⟨h, h2⟩]
   · rw [decide_eq_false h2, decide_eq_false (fun x => h2 x.2)]
 · rw [if_neg h, decide_eq_false (fun x => h x.1)]
theorem fits_v (n : Int) : zig_Fits.f (wrap64 n) = some (fit32 n) := by
 unfold zig_Fits.f fit32
 have h1 : -9223372036854775808 ≤ wrap64 n ∧ wrap64 n ≤ 9223372036854775807 := by unfold wrap64; omega
 have h2 : ∀ x : Int, -9223372036854775808 ≤ x → x ≤ 9223372036854775807 → ((wrap64 (wrap32 x)) == x) = decide (-2147483648 ≤ x ∧ x ≤ 2147483647) := by
  intro x a b
  by_cases h : -2147483648 ≤ x ∧ x ≤ 2147483647
  · rw [decide_eq_true h, beq_iff_eq]
    unfold wrap64 wrap32
    omega
  · rw [decide_eq_false h, beq_eq_false_iff_ne]
    unfold wrap64 wrap32
    omega
 rw [h2 _ h1.1 h1.2]
def wideB (a : Int) : Bool := a == 2 || a == 4 || a == 6 || a == 9 || a == 11
def sgnB (a : Int) : Bool := a == 1 || a == 2 || a == 5 || a == 6 || a == 10 || a == 11 || a == 14
def mayB (a n : Int) : Bool := if a < 1 ∨ 15 < a then false else if wideB a = true then true else if sgnB a = true then fit32 n else if a = 3 ∨ a = 8 then decide (n < 4294967296) else if a = 7 then decide (n < 2) else n == 0
theorem small_div {n : Int} (h : 0 ≤ n) : ((n / 4294967296) == 0) = decide (n < 4294967296) := by
 by_cases h1 : n < 4294967296
 · rw [decide_eq_true h1, beq_iff_eq]; omega
 · rw [decide_eq_false h1, beq_eq_false_iff_ne]; omega
theorem le_one {n : Int} : decide (n ≤ 1) = decide (n < 2) := decide_eq_decide.2 (by omega)
theorem may_v (a n : Int) (h : 0 ≤ n) : E (fun k => scalar_May.f k a n) (mayB a n) := by
 by_cases h0 : a < 1 ∨ 15 < a
 · rw [mayB, if_pos h0]
   refine E.congr (h := fun k => scalar_May.j0 k a n true) ?_ fun k => ?_
   · exact E.succ E.const fun k => by simp only [scalar_May.j0]; rw [if_pos trivial]
   · unfold scalar_May.f
     rcases h0 with h1 | h1
     · rw [if_pos h1]
     · rw [if_neg (by omega), decide_eq_true (show a > 15 from h1)]
 · refine E.congr (h := fun k => scalar_May.j0 k a n false) ?_ fun k => ?_
   · refine E.succ (h := fun _ => some (mayB a n)) E.const fun k => ?_
     simp only [scalar_May.j0]
     rw [if_neg (by simp), fits_v, small_div h, le_one, mayB]
     have hc : a = 1 ∨ a = 2 ∨ a = 3 ∨ a = 4 ∨ a = 5 ∨ a = 6 ∨ a = 7 ∨ a = 8 ∨ a = 9 ∨ a = 10 ∨ a = 11 ∨ a = 12 ∨ a = 13 ∨ a = 14 ∨ a = 15 := by omega
     clear h0 h
     generalize fit32 n = f1
     generalize decide (n < 4294967296) = f2
     rcases hc with rfl | rfl | rfl | rfl | rfl | rfl | rfl | rfl | rfl | rfl | rfl | rfl | rfl | rfl | rfl <;> rfl
   · unfold scalar_May.f
     rw [if_neg (by omega), decide_eq_false (by omega)]
theorem may_r (a n : Int) : E (fun k => ecdysisref11_May.f k a n) (mayB a n) := by
 by_cases h0 : a < 1 ∨ 15 < a
 · rw [mayB, if_pos h0]
   refine E.congr (h := fun k => ecdysisref11_May.j0 k a n true) ?_ fun k => ?_
   · exact E.succ E.const fun k => by simp only [ecdysisref11_May.j0]; rw [if_pos trivial]
   · unfold ecdysisref11_May.f
     rcases h0 with h1 | h1
     · rw [if_pos h1]
     · rw [if_neg (by omega), decide_eq_true (show a > 15 from h1)]
 · refine E.congr (h := fun k => ecdysisref11_May.j0 k a n false) ?_ fun k => ?_
   · refine E.step (E.step ?_)
     refine E.succ (h := fun _ => some (mayB a n)) E.const fun k => ?_
     simp only [ecdysisref11_May.j0, ecdysisref11_May.j1]
     rw [if_neg (by simp), fits_r, mayB]
     have hc : a = 1 ∨ a = 2 ∨ a = 3 ∨ a = 4 ∨ a = 5 ∨ a = 6 ∨ a = 7 ∨ a = 8 ∨ a = 9 ∨ a = 10 ∨ a = 11 ∨ a = 12 ∨ a = 13 ∨ a = 14 ∨ a = 15 := by omega
     clear h0
     generalize fit32 n = f1
     rcases hc with rfl | rfl | rfl | rfl | rfl | rfl | rfl | rfl | rfl | rfl | rfl | rfl | rfl | rfl | rfl <;> rfl
   · unfold ecdysisref11_May.f
     rw [if_neg (by omega), decide_eq_false (by omega)]
def hidB (x : SF) : Bool := !x.f4 && x.f6.toList == [] && x.f2 != 15
theorem hid_v (x : SF) : field_Hidden.f x.f0 x.f1 x.f2 x.f3 x.f4 x.f5 x.f6 = some (hidB x) := by
 unfold field_Hidden.f hidB
 by_cases h : x.f4 = true
 · rw [if_pos h, h]; rfl
 · rw [if_neg h]
   rw [Bool.not_eq_true] at h
   rw [h]
   by_cases h1 : x.f6.toList = []
   · rw [if_pos h1, h1]; rfl
   · rw [if_neg h1, beq_eq_false_iff_ne.2 h1]; rfl
theorem hid_r (x : SF) : ecdysisref14_Hidden.f x.f0 x.f1 x.f2 x.f3 x.f4 x.f5 x.f6 = some (hidB x) := hid_v x
theorem tag_same (a b : Int) : PR20.tag_Right.f 2 a b = ecdysisref04_Right.f a b := by
 unfold PR20.tag_Right.f ecdysisref04_Right.f
 simp only [PR20.tag_Right.j0, PR20.tag_number.f]
 by_cases h1 : a ≥ 1 <;> by_cases h2 : a ≤ 536870911 <;> by_cases b0 : b = 0 <;> by_cases b1 : b = 1 <;> by_cases b2 : b = 2 <;> by_cases b5 : b = 5 <;> simp [*]
theorem right_r (x : SR) (h2 : 0 ≤ x.f2) : ecdysisref07_Right.f x.f0 x.f1 x.f2 x.f3 = some (rightR x) := by
 rw [← rightR_f]
 unfold ecdysisref07_Right.f PR20.raw_Right.f
 rw [tag_same]
 have e : (x.f2 / 4294967296 = 0) ↔ x.f2 < 4294967296 := by omega
 rcases ecdysisref04_Right.f x.f0 x.f1 with _ | b
 · rfl
 · rw [Option.bind_some, Option.bind_some]
   cases b
   · rfl
   · by_cases a2 : x.f1 = 2
     · simp [a2]
     · by_cases a5 : x.f1 = 5
       · simp only [a5, e]
         by_cases e1 : x.f2 < 4294967296 <;> by_cases e2 : x.f3.toList = [] <;> simp [e1, e2]
       · by_cases e2 : x.f3.toList = [] <;> simp [a2, a5, e2]
theorem rdM (xs : List SM) (i : Nat) : rd_T52 xs (i : Int) = xs.getD i z52 := rfl
theorem rdF (xs : List SF) (i : Nat) : rd_T36 xs (i : Int) = xs.getD i z36 := rfl
theorem rdS (xs : List SS) (i : Nat) : rd_T43 xs (i : Int) = xs.getD i z43 := rfl
theorem toL {x y : ByteArray} : (x.toList == y.toList) = true ↔ x.toList = y.toList := by simp
theorem ixF_cons {α : Type} (p : α → Bool) (x : α) (l : List α) (i : Nat) : ixF p (x :: l) i = if p x = true then (i : Int) else ixF p l (i + 1) := rfl
theorem ixF_bd {α : Type} (p : α → Bool) : ∀ (l : List α) (i : Nat), -1 ≤ ixF p l i ∧ ixF p l i < (i : Int) + l.length
 | [], i => by show -1 ≤ (-1 : Int) ∧ (-1 : Int) < _; simp; omega
 | x :: l, i => by
  have := ixF_bd p l (i + 1)
  rw [ixF_cons, List.length_cons]
  split <;> omega
theorem message_E (l0 : List SE) (l1 : List SM) (a : ByteArray) (h : l1.length ≤ 9000000000000000000) : E (fun k => ecdysisref15_Message.f k l0 l1 a) (ixF (fun x => x.f0.toList == a.toList) l1 0) := by
 have key := up (C := fun i => E (fun k => ecdysisref15_Message.l0 k a (i : Int) l0 l1) (ixF (fun x => x.f0.toList == a.toList) (l1.drop i) i)) l1.length (fun i hi => ?_) (fun i hi ih => ?_) 0
 · exact key
 · rw [List.drop_eq_nil_of_le hi]
   exact E.succ E.const fun k => by simp only [ecdysisref15_Message.l0]; rw [if_neg (by omega)]; rfl
 · rw [drop_getD z52 hi, ixF_cons]
   by_cases he : ((l1.getD i z52).f0.toList == a.toList) = true
   · rw [if_pos he]
     exact E.succ E.const fun k => by simp only [ecdysisref15_Message.l0]; rw [if_pos (by omega), if_pos (by omega), rdM, if_pos (toL.1 he)]
   · rw [if_neg he]
     exact E.succ ih fun k => by simp only [ecdysisref15_Message.l0]; rw [if_pos (by omega), if_pos (by omega), rdM, if_neg (fun h => he (toL.2 h)), w1 hi h]
theorem number_E (n : ByteArray) (l1 : List SF) (l2 : List Int) (a : Int) (h : l1.length ≤ 9000000000000000000) : E (fun k => ecdysisref16_Number.f k n l1 l2 a) (ixF (fun x => x.f1 == a) l1 0) := by
 have key := up (C := fun i => E (fun k => ecdysisref16_Number.l0 k a (i : Int) n l1 l2) (ixF (fun x => x.f1 == a) (l1.drop i) i)) l1.length (fun i hi => ?_) (fun i hi ih => ?_) 0
 · exact key
 · rw [List.drop_eq_nil_of_le hi]
   exact E.succ E.const fun k => by simp only [ecdysisref16_Number.l0]; rw [if_neg (by omega)]; rfl
 · rw [drop_getD z36 hi, ixF_cons]
   by_cases he : ((l1.getD i z36).f1 == a) = true
   · rw [if_pos he]
     exact E.succ E.const fun k => by simp only [ecdysisref16_Number.l0]; rw [if_pos (by omega), if_pos (by omega), rdF, if_pos (by simpa using he)]
   · rw [if_neg he]
     exact E.succ ih fun k => by simp only [ecdysisref16_Number.l0]; rw [if_pos (by omega), if_pos (by omega), rdF, if_neg (fun h => he (by simpa using h)), w1 hi h]
end Go.Proofs.YtbpnfpckoapdbaaDoor.P20
end
section
namespace Go.Proofs.YtbpnfpckoapdbaaDoor.P20
open Go.RowKit Go.Proofs.YtbpnfpckoapdbaaDoorW.PrintWords Go.Proofs.YtbpnfpckoapdbaaDoorW.PrintLast Go.Proofs.YtbpnfpckoapdbaaDoorW.PrintMore Go.Proofs.YtbpnfpckoapdbaaDoor.KD Go.Proofs.YtbpnfpckoapdbaaDoor.M Go.Proofs.YtbpnfpckoapdbaaDoor.PV20 Go.Proofs.YtbpnfpckoapdbaaDoor.Ev
set_option linter.unusedVariables false
set_option linter.unusedSimpArgs false
theorem turn {b x : Bool} (h : b = !x) : x = !b := by rw [h, Bool.not_not]
section
variable (s0 : List SE) (s1 : List SM)
abbrev vVal (f : SF) (v : SV) : Nat → Option Bool := fun k => valid_Val.f k s0 s1 f.f0 f.f1 f.f2 f.f3 f.f4 f.f5 f.f6 v.f0 v.f1 v.f2
abbrev rVal (f : SF) (v : SV) : Nat → Option Bool := fun k => ecdysisref20_Val.f k s0 s1 f.f0 f.f1 f.f2 f.f3 f.f4 f.f5 f.f6 v.f0 v.f1 v.f2
abbrev vTree (name : ByteArray) (t : ST) : Nat → Option Bool := fun k => valid_Tree.f k s0 s1 name t.f0 t.f1
abbrev rTree (name : ByteArray) (t : ST) : Nat → Option Bool := fun k => ecdysisref20_Tree.f k s0 s1 name t.f0 t.f1
/-- Whether a value may be a field's. -/
noncomputable def vB (f : SF) (v : SV) : Bool := @decide (E (vVal s0 s1 f v) true) (Classical.propDecidable _)
variable {s0 s1}
theorem vB_E {f : SF} {v : SV} {r : Bool} (h : E (vVal s0 s1 f v) r) : vB s0 s1 f v = r := by
 cases r with
 | true => exact @decide_eq_true _ (Classical.propDecidable _) h
 | false => exact @decide_eq_false _ (Classical.propDecidable _) (fun h' => by have := E.uniq h h'; cases this)
/-- Of a value and a message below it. -/
def valB (T : ByteArray → ST → Bool) (f : SF) (v : SV) : Bool :=
 if numB f.f2 = true then (mayB f.f2 v.f0 && v.f1.toList == []) && v.f2.length == 0
 else if f.f2 = 12 then (v.f0 == 0 && v.f2.length == 0) && Lib.validD v.f1.data.toList
 else if f.f2 = 13 then v.f0 == 0 && v.f2.length == 0
 else if f.f2 = 15 then ((v.f0 == 0 && v.f1.toList == []) && v.f2.length == 1) && T f.f3 (rd_T29 v.f2 0)
 else false
theorem val_v {f : SF} {v : SV} {T : ByteArray → ST → Bool} (h0 : 0 ≤ v.f0) (h1 : v.f1.size ≤ 9000000000000000000) (hT : ∀ t ∈ v.f2, E (vTree s0 s1 f.f3 t) (T f.f3 t)) : E (vVal s0 s1 f v) (valB T f v) := by
 have hl : ((v.f2.length : Int) == 0) = (v.f2.length == 0) := by rw [Bool.eq_iff_iff, beq_iff_eq, beq_iff_eq]; omega
 have key : ∀ x7, x7 = (v.f0 == 0 && v.f2.length == 0) → E (fun k => valid_Val.j0 k x7 s0 s1 f.f0 f.f1 f.f2 f.f3 f.f4 f.f5 f.f6 v.f0 v.f1 v.f2) (valB T f v) := by
   intro x7 hx
   refine E.step ?_
   simp only [valid_Val.j0]
   refine E.bind0 (num_v _) ?_
   unfold valB
   by_cases hn : numB f.f2 = true
   · rw [if_pos hn]
     refine E.yes hn (E.bind (may_v _ _ h0) ?_)
     by_cases hm : mayB f.f2 v.f0 = true
     · rw [hm]
       refine E.yes rfl ?_
       by_cases he : v.f1.toList = []
       · rw [he, hl]; exact E.yes rfl E.const
       · rw [beq_eq_false_iff_ne.2 he]; exact E.no he E.const
     · refine E.no hm ?_
       rw [Bool.not_eq_true] at hm
       rw [hm]; exact E.const
   rw [if_neg hn]
   refine E.no hn ?_
   by_cases h12 : f.f2 = 12
   · rw [if_pos h12]
     refine E.yes h12 ?_
     cases x7 with
     | true => rw [← hx]; exact E.yes rfl (E.bind0 (a := Lib.validD v.f1.data.toList) (by unfold utf8_ValidString.f; rw [if_pos (by omega)]) E.const)
     | false => rw [← hx]; exact E.no (by simp) E.const
   rw [if_neg h12]
   refine E.no h12 ?_
   by_cases h13 : f.f2 = 13
   · rw [if_pos h13, ← hx]
     exact E.yes h13 E.const
   rw [if_neg h13]
   refine E.no h13 ?_
   by_cases h15 : f.f2 = 15
   · rw [if_pos h15]
     refine E.yes h15 ?_
     by_cases hz : v.f0 = 0
     · refine E.yes hz ?_
       rw [hz]
       by_cases he : v.f1.toList = []
       · refine E.yes he ?_
         rw [he]
         by_cases h1 : v.f2.length = 1
         · rw [h1]
           refine E.yes rfl (E.yes (by decide) ?_)
           exact E.bind (hT (rd_T29 v.f2 0) (by match hv : v.f2, h1 with | [a], _ => simp [rd_T29])) E.const
         · rw [show (v.f2.length == 1) = false by rw [beq_eq_false_iff_ne]; exact h1]
           exact E.no (by omega) E.const
       · rw [beq_eq_false_iff_ne.2 he]
         exact E.no he E.const
     · rw [beq_eq_false_iff_ne.2 hz]
       exact E.no hz E.const
   rw [if_neg h15]
   exact E.no h15 E.const
 by_cases hz : v.f0 = 0
 · refine E.succ (key _ rfl) fun k => ?_
   simp only [valid_Val.f]
   rw [if_pos hz, hl, hz]
   rfl
 · refine E.succ (key _ rfl) fun k => ?_
   simp only [valid_Val.f]
   rw [if_neg hz, beq_eq_false_iff_ne.2 hz]
   rfl
theorem val_r {f : SF} {v : SV} {T : ByteArray → ST → Bool} (h0 : 0 ≤ v.f0) (h1 : v.f1.size ≤ 9000000000000000000) (hT : ∀ t ∈ v.f2, E (rTree s0 s1 f.f3 t) (T f.f3 t)) : E (rVal s0 s1 f v) (valB T f v) := by
 have hl : ((v.f2.length : Int) == 0) = (v.f2.length == 0) := by rw [Bool.eq_iff_iff, beq_iff_eq, beq_iff_eq]; omega
 refine E.step ?_
 show E (fun k => ecdysisref20_Val.f (k + 1) _ _ _ _ _ _ _ _ _ _ _ _) _
 simp only [ecdysisref20_Val.f]
 refine E.bind0 (num_r _) ?_
 unfold valB
 by_cases hn : numB f.f2 = true
 · rw [if_pos hn]
   refine E.yes hn (E.bind (may_r _ _) ?_)
   by_cases hm : mayB f.f2 v.f0 = true
   · rw [hm]
     refine E.yes rfl ?_
     by_cases he : v.f1.toList = []
     · rw [he, hl]; exact E.yes rfl E.const
     · rw [beq_eq_false_iff_ne.2 he]; exact E.no he E.const
   · refine E.no hm ?_
     rw [Bool.not_eq_true] at hm
     rw [hm]; exact E.const
 rw [if_neg hn]
 refine E.no hn ?_
 by_cases h12 : f.f2 = 12
 · rw [if_pos h12]
   refine E.yes h12 ?_
   by_cases hz : v.f0 = 0
   · refine E.yes hz ?_
     rw [hz]
     by_cases hn : v.f2.length = 0
     · rw [hn]
       exact E.yes (by rfl) (E.bind0 (a := Lib.validD v.f1.data.toList) (by unfold utf8_ValidString.f; rw [if_pos (by omega)]) E.const)
     · rw [show (v.f2.length == 0) = false by rw [beq_eq_false_iff_ne]; exact hn]
       exact E.no (by omega) E.const
   · rw [beq_eq_false_iff_ne.2 hz]
     exact E.no hz E.const
 rw [if_neg h12]
 refine E.no h12 ?_
 by_cases h13 : f.f2 = 13
 · rw [if_pos h13]
   refine E.yes h13 ?_
   by_cases hz : v.f0 = 0
   · rw [hz, hl]; exact E.yes rfl E.const
   · rw [beq_eq_false_iff_ne.2 hz]; exact E.no hz E.const
 rw [if_neg h13]
 refine E.no h13 ?_
 by_cases h15 : f.f2 = 15
 · rw [if_pos h15]
   refine E.yes h15 ?_
   by_cases hz : v.f0 = 0
   · refine E.yes hz ?_
     rw [hz]
     by_cases he : v.f1.toList = []
     · refine E.yes he ?_
       rw [he]
       by_cases h1 : v.f2.length = 1
       · rw [h1]
         refine E.yes rfl (E.yes (by decide) ?_)
         exact E.bind (hT (rd_T29 v.f2 0) (by match hv : v.f2, h1 with | [a], _ => simp [rd_T29])) E.const
       · rw [show (v.f2.length == 1) = false by rw [beq_eq_false_iff_ne]; exact h1]
         exact E.no (by omega) E.const
     · rw [beq_eq_false_iff_ne.2 he]
       exact E.no he E.const
   · rw [beq_eq_false_iff_ne.2 hz]
     exact E.no hz E.const
 rw [if_neg h15]
 exact E.no h15 E.const
/-- A value and what its field may not have unsaid. -/
noncomputable def oneB (s0 : List SE) (s1 : List SM) (f : SF) (v : SV) : Bool := vB s0 s1 f v && !(hidB f && v.f0 == 0 && v.f1.toList == [])
noncomputable def valsB (s0 : List SE) (s1 : List SM) (f : SF) (l : List SV) : Bool := (l.length != 0 && (f.f4 || decide (l.length ≤ 1))) && l.all (oneB s0 s1 f)
theorem vals_v {f : SF} {l : List SV} (hn : l.length ≤ 9000000000000000000) (h : ∀ v ∈ l, E (vVal s0 s1 f v) (vB s0 s1 f v)) : E (fun k => valid_vals.f k s0 s1 f.f0 f.f1 f.f2 f.f3 f.f4 f.f5 f.f6 l) (valsB s0 s1 f l) := by
 have loop := up (C := fun i => E (fun k => valid_vals.l0 k l (l.length : Int) (i : Int) s0 s1 f.f0 f.f1 f.f2 f.f3 f.f4 f.f5 f.f6) ((l.drop i).all (oneB s0 s1 f))) l.length (fun i hi => ?_) (fun i hi ih => ?_) 0
 · have key : ∀ b, b = !(l.length != 0 && (f.f4 || decide (l.length ≤ 1))) → E (fun k => valid_vals.j0 k l b s0 s1 f.f0 f.f1 f.f2 f.f3 f.f4 f.f5 f.f6) (valsB s0 s1 f l) := by
     intro b hb
     unfold valsB
     cases b with
     | true =>
       rw [turn hb]
       exact E.succ E.const fun k => by simp only [valid_vals.j0]; rw [if_pos trivial]; rfl
     | false =>
       rw [turn hb, Bool.not_false, Bool.true_and]
       exact E.succ loop fun k => by simp only [valid_vals.j0]; rw [if_neg (by simp)]; rfl
   by_cases hz : l.length = 0
   · exact E.succ (key true (by rw [hz]; rfl)) fun k => by simp only [valid_vals.f]; rw [if_pos (by omega)]
   · have hb : (l.length != 0) = true := bne_iff_ne.2 hz
     by_cases h4 : f.f4 = true
     · exact E.succ (key false (by rw [hb, h4]; rfl)) fun k => by simp only [valid_vals.f]; rw [if_neg (by omega), if_pos h4]
     · refine E.succ (key (decide ((l.length : Int) > 1)) ?_) fun k => by simp only [valid_vals.f]; rw [if_neg (by omega), if_neg h4]
       rw [Bool.not_eq_true] at h4
       rw [hb, h4, Bool.true_and, Bool.false_or]
       by_cases h1 : l.length ≤ 1
       · rw [decide_eq_true h1, decide_eq_false (by omega)]; rfl
       · rw [decide_eq_false h1, decide_eq_true (by omega)]; rfl
 · rw [List.drop_eq_nil_of_le hi]
   exact E.succ E.const fun k => by simp only [valid_vals.l0]; rw [if_neg (by omega)]; rfl
 · rw [drop_getD z40 hi, List.all_cons]
   have hv := h (l.getD i z40) (by rw [List.getD_eq_getElem?_getD, List.getElem?_eq_getElem hi]; exact List.getElem_mem _)
   refine E.step ?_
   simp only [valid_vals.l0, w1 hi hn]
   refine E.yes (by omega) (E.yes (by omega) (E.yes (by omega) (E.bind hv ?_)))
   generalize (List.drop (i + 1) l).all (oneB s0 s1 f) = Q at ih ⊢
   unfold oneB
   cases hvb : vB s0 s1 f (l.getD i z40) with
   | false => exact E.no (by simp) E.const
   | true =>
     refine E.yes rfl (E.bind0 (hid_v f) ?_)
     cases hh : hidB f with
     | false => exact E.no (by simp) ih
     | true =>
       refine E.yes rfl ?_
       by_cases hz : (l.getD i z40).f0 = 0
       · refine E.yes hz ?_
         rw [hz]
         by_cases he : (l.getD i z40).f1.toList = []
         · rw [he]; exact E.yes he E.const
         · rw [beq_eq_false_iff_ne.2 he]; exact E.no he ih
       · rw [beq_eq_false_iff_ne.2 hz]
         exact E.no hz ih
theorem slot_r {f : SF} {i : Int} {n : ByteArray} {fs : List SF} {bs : List Int} {num : Int} {l : List SV} (hfs : fs.length ≤ 9000000000000000000) (hn : l.length ≤ 9000000000000000000) (hi : i = ixF (fun x => x.f1 == num) fs 0) (hf : f = rd_T36 fs i) (h : ∀ v ∈ l, E (rVal s0 s1 f v) (vB s0 s1 f v)) : E (fun k => ecdysisref20_slot.f k s0 s1 n fs bs num l) (decide (0 ≤ i) && valsB s0 s1 f l) := by
 have bd := ixF_bd (fun x : SF => x.f1 == num) fs 0
 rw [← hi] at bd
 have bad : E (fun k => ecdysisref20_slot.j0 k i true s0 s1 n fs bs num l) false := E.succ E.const fun k => by simp only [ecdysisref20_slot.j0]; rw [if_pos trivial]
 refine E.step ?_
 simp only [ecdysisref20_slot.f]
 refine E.bind (number_E n fs bs num hfs) ?_
 rw [← hi]
 by_cases h0 : i < 0
 · rw [decide_eq_false (by omega)]
   exact E.yes h0 bad
 rw [decide_eq_true (by omega), Bool.true_and]
 refine E.no h0 ?_
 by_cases hz : l.length = 0
 · rw [show ((l.length : Int) == 0) = true by rw [beq_iff_eq]; omega, valsB, hz]
   exact bad
 rw [show ((l.length : Int) == 0) = false by rw [beq_eq_false_iff_ne]; omega]
 refine E.step ?_
 simp only [ecdysisref20_slot.j0]
 refine E.no (by simp) (E.yes (by omega) (E.yes (by omega) ?_))
 rw [← hf]
 have hb : (l.length != 0) = true := bne_iff_ne.2 hz
 have bad1 : E (fun k => ecdysisref20_slot.j1 k true s0 s1 num l f.f0 f.f1 f.f2 f.f3 f.f4 f.f5 f.f6) false := E.succ E.const fun k => by simp only [ecdysisref20_slot.j1]; rw [if_pos trivial]
 have loop : (f.f4 = true ∨ l.length = 1) → E (fun k => ecdysisref20_slot.l0 k 0 s0 s1 num l f.f0 f.f1 f.f2 f.f3 f.f4 f.f5 f.f6) (l.all (oneB s0 s1 f)) := by
   intro hone
   have hidone : hidB f = true → l.length = 1 := fun hh => by
     rcases hone with h4 | h1
     · unfold hidB at hh; rw [h4] at hh; simp at hh
     · exact h1
   have go := up (C := fun i => E (fun k => ecdysisref20_slot.l0 k (i : Int) s0 s1 num l f.f0 f.f1 f.f2 f.f3 f.f4 f.f5 f.f6) ((l.drop i).all (vB s0 s1 f) && (!hidB f || !((rd_T40 l 0).f0 == 0 && (rd_T40 l 0).f1.toList == [])))) l.length (fun i hi => ?_) (fun i hi ih => ?_) 0
   · have e : l.all (oneB s0 s1 f) = (l.all (vB s0 s1 f) && (!hidB f || !((rd_T40 l 0).f0 == 0 && (rd_T40 l 0).f1.toList == []))) := by
       cases hh : hidB f with
       | false => rw [Bool.not_false, Bool.true_or, Bool.and_true]; congr 1; funext v; unfold oneB; rw [hh]; simp
       | true =>
         have h1 := hidone hh
         match l, h1 with
         | [a], _ => simp [oneB, hh, rd_T40]
     rw [e]
     exact go
   · rw [List.drop_eq_nil_of_le hi]
     refine E.step ?_
     simp only [ecdysisref20_slot.l0]
     refine E.no (by omega) (E.bind0 (hid_r f) ?_)
     cases hh : hidB f with
     | false => exact E.no (by simp) E.const
     | true =>
       refine E.yes rfl (E.yes (by omega) ?_)
       by_cases hz : (rd_T40 l 0).f0 = 0
       · refine E.yes hz ?_
         rw [hz]
         by_cases he : (rd_T40 l 0).f1.toList = []
         · rw [he]; exact E.const
         · rw [beq_eq_false_iff_ne.2 he, bne_iff_ne.2 he]; exact E.const
       · rw [beq_eq_false_iff_ne.2 hz]
         exact E.no hz E.const
   · rw [drop_getD z40 hi, List.all_cons]
     have hv := h (l.getD i z40) (by rw [List.getD_eq_getElem?_getD, List.getElem?_eq_getElem hi]; exact List.getElem_mem _)
     refine E.step ?_
     simp only [ecdysisref20_slot.l0, w1 hi hn]
     refine E.yes (by omega) (E.yes (by omega) (E.bind hv ?_))
     cases hvb : vB s0 s1 f (l.getD i z40) with
     | false => exact E.no (by simp) E.const
     | true => exact E.yes rfl ih
 have fin : ∀ b, b = !(f.f4 || decide (l.length ≤ 1)) → E (fun k => ecdysisref20_slot.j1 k b s0 s1 num l f.f0 f.f1 f.f2 f.f3 f.f4 f.f5 f.f6) (valsB s0 s1 f l) := by
   intro b hb'
   unfold valsB
   rw [hb, Bool.true_and]
   cases b with
   | true =>
     rw [turn hb']
     exact bad1
   | false =>
     have e1 : (f.f4 || decide (l.length ≤ 1)) = true := turn hb'
     rw [e1, Bool.true_and]
     refine E.succ (loop ?_) fun k => by simp only [ecdysisref20_slot.j1]; rw [if_neg (by simp)]
     rw [Bool.or_eq_true, decide_eq_true_eq] at e1
     rcases e1 with e1 | e1
     · exact .inl e1
     · exact .inr (by omega)
 by_cases h4 : f.f4 = true
 · exact E.yes h4 (fin false (by rw [h4]; rfl))
 · refine E.no h4 (fin _ ?_)
   rw [Bool.not_eq_true] at h4
   rw [h4, Bool.false_or]
   by_cases h1 : l.length ≤ 1
   · rw [decide_eq_true h1, show ((l.length : Int) != 1) = false by rw [bne_eq_false_iff_eq]; omega]; rfl
   · rw [decide_eq_false h1, show ((l.length : Int) != 1) = true by rw [bne_iff_ne]; omega]; rfl
end
end Go.Proofs.YtbpnfpckoapdbaaDoor.P20
end
section
namespace Go.Proofs.YtbpnfpckoapdbaaDoor.P20
open Go.RowKit Go.Proofs.YtbpnfpckoapdbaaDoorW.PrintWords Go.Proofs.YtbpnfpckoapdbaaDoorW.PrintLast Go.Proofs.YtbpnfpckoapdbaaDoorW.PrintMore Go.Proofs.YtbpnfpckoapdbaaDoor.KD Go.Proofs.YtbpnfpckoapdbaaDoor.M Go.Proofs.YtbpnfpckoapdbaaDoor.PV20 Go.Proofs.YtbpnfpckoapdbaaDoor.Ev
set_option linter.unusedVariables false
set_option linter.unusedSimpArgs false
def atF (fs : List SF) (num : Int) : Int := ixF (fun x => x.f1 == num) fs 0
def fld (fs : List SF) (num : Int) : SF := rd_T36 fs (atF fs num)
def okNum : Option Int → Int → Bool
 | none, _ => true
 | some p, n => decide (p < n)
theorem okNum_some (p n : Int) : okNum (some p) n = decide (p < n) := rfl
def fresh (one : ByteArray) (ones : List ByteArray) : Bool := one.toList == [] || !(ones.any fun o => o.toList == one.toList)
noncomputable def slB (s0 : List SE) (s1 : List SM) (fs : List SF) : Option Int → List ByteArray → List SS → Bool
 | _, _, [] => true
 | prev, ones, x :: r => (decide (0 ≤ atF fs x.f0) && (okNum prev x.f0 && valsB s0 s1 (fld fs x.f0) x.f1)) && (fresh (fld fs x.f0).f6 ones && slB s0 s1 fs (some x.f0) ((fld fs x.f0).f6 :: ones) r)
def prevOf (l : List SS) : Nat → Option Int
 | 0 => none
 | i + 1 => some (l.getD i z43).f0
theorem mcnt_any (s : ByteArray) : ∀ l, (0 < mcnt s l) ↔ (l.any fun o => o.toList == s.toList) = true
 | [] => by simp [mcnt]
 | x :: l => by
  have h0 := mcnt_le s l
  have ih := mcnt_any s l
  rw [List.any_cons]
  simp only [mcnt]
  by_cases h : x.data.toList = s.data.toList
  · rw [if_pos h, show (x.toList == s.toList) = true by rw [beq_iff_eq, ByteArray.toList_eq, ByteArray.toList_eq]; exact h]
    simp; omega
  · rw [if_neg h, show (x.toList == s.toList) = false by rw [beq_eq_false_iff_ne, ByteArray.toList_eq, ByteArray.toList_eq]; exact h, Bool.false_or]
    exact ih
theorem atF_bd (fs : List SF) (num : Int) : -1 ≤ atF fs num ∧ atF fs num < fs.length := by
 have := ixF_bd (fun x : SF => x.f1 == num) fs 0
 unfold atF; omega
theorem fld_mem {fs : List SF} {num : Int} (h : 0 ≤ atF fs num) : fld fs num ∈ fs := by
 have := atF_bd fs num
 obtain ⟨j, hj⟩ : ∃ j : Nat, atF fs num = (j : Int) := ⟨(atF fs num).toNat, by omega⟩
 unfold fld
 rw [hj, rdF, List.getD_eq_getElem?_getD, List.getElem?_eq_getElem (by omega)]
 exact List.getElem_mem _
theorem mem_getD {α : Type} {l : List α} {i : Nat} (z : α) (h : i < l.length) : l.getD i z ∈ l := by
 rw [List.getD_eq_getElem?_getD, List.getElem?_eq_getElem h]; exact List.getElem_mem _
theorem wm {i n : Nat} (h : i + 1 < n) (hn : n ≤ 9000000000000000000) : wrap64 (((i + 1 : Nat) : Int) - 1) = (i : Int) := by unfold wrap64; omega
/-- A schema no greater than a machine's. -/
structure Sch (fs : List SF) : Prop where
 n : fs.length ≤ 9000000000000000000
 one : ∀ f ∈ fs, f.f6.size ≤ 140737488351232
section
variable {s0 : List SE} {s1 : List SM}
def Vals (s0 : List SE) (s1 : List SM) (l : List SS) : Prop := ∀ x ∈ l, x.f1.length ≤ 9000000000000000000 ∧ ∀ f, ∀ v ∈ x.f1, E (vVal s0 s1 f v) (vB s0 s1 f v) ∧ E (rVal s0 s1 f v) (vB s0 s1 f v)
theorem slots_v {n : ByteArray} {fs : List SF} {bs : List Int} {l : List SS} (hfs : Sch fs) (hl : l.length ≤ 4398046511104) (hv : Vals s0 s1 l) : E (fun k => valid_slots.f k s0 s1 n fs bs l) (slB s0 s1 fs none [] l) := by
 have hl' : l.length ≤ 9000000000000000000 := by omega
 have loop := up (C := fun i => ∀ ones : List ByteArray, ones.length = i → E (fun k => valid_slots.l0 k l l (l.length : Int) (i : Int) s0 s1 n fs bs ones) (slB s0 s1 fs (prevOf l i) ones (l.drop i))) l.length (fun i hi => ?_) (fun i hi ih => ?_) 0
 · exact E.succ (loop [] rfl) fun k => by simp only [valid_slots.f]; rfl
 · intro ones ho
   rw [List.drop_eq_nil_of_le hi]
   exact E.succ E.const fun k => by simp only [valid_slots.l0]; rw [if_neg (by omega)]; rfl
 · intro ones ho
   rw [drop_getD z43 hi]
   have hx := hv _ (mem_getD z43 hi)
   have hr : rd_T43 l (i : Int) = l.getD i z43 := rfl
   have hp : prevOf l (i + 1) = some (l.getD i z43).f0 := rfl
   rw [hp] at ih
   generalize l.getD i z43 = x at hx hr ih
   have bd := atF_bd fs x.f0
   have hf : rd_T36 fs (atF fs x.f0) = fld fs x.f0 := rfl
   have bad : ∀ at_, E (fun k => valid_slots.j1 k l at_ l (l.length : Int) (i : Int) true s0 s1 n fs bs ones) false := fun at_ => E.succ E.const fun k => by simp only [valid_slots.j1]; rw [if_pos trivial]
   have good : 0 ≤ atF fs x.f0 → E (fun k => valid_slots.j1 k l (atF fs x.f0) l (l.length : Int) (i : Int) false s0 s1 n fs bs ones) (fresh (fld fs x.f0).f6 ones && slB s0 s1 fs (some x.f0) ((fld fs x.f0).f6 :: ones) (l.drop (i + 1))) := by
     intro h0
     have hk : keyOkM (fld fs x.f0).f6 ones = true := by
       have := hfs.one _ (fld_mem h0)
       unfold keyOkM maxLen
       rw [Bool.and_eq_true, decide_eq_true_eq, decide_eq_true_eq]
       omega
     have ih1 := ih ((fld fs x.f0).f6 :: ones) (by rw [List.length_cons, ho])
     refine E.step ?_
     simp only [valid_slots.j1, w1 hi hl']
     refine E.no (by simp) (E.yes h0 (E.yes bd.2 (E.yes hk ?_)))
     simp only [hf]
     unfold fresh
     by_cases he : (fld fs x.f0).f6.toList = []
     · rw [he]
       exact E.yes rfl ih1
     · rw [beq_eq_false_iff_ne.2 he, Bool.false_or]
       refine E.no he ?_
       have hm := mcnt_any (fld fs x.f0).f6 ones
       have hm0 := mcnt_le (fld fs x.f0).f6 ones
       cases ha : (ones.any fun o => o.toList == (fld fs x.f0).f6.toList) with
       | true =>
         rw [ha] at hm
         have := hm.2 rfl
         exact E.yes (by rw [mcnt_same]; omega) E.const
       | false =>
         rw [ha] at hm
         have : ¬ (0 < mcnt (fld fs x.f0).f6 ones) := fun h => by have := hm.1 h; cases this
         exact E.no (by rw [mcnt_same]; omega) ih1
   have vals : E (fun k => valid_vals.f k s0 s1 (fld fs x.f0).f0 (fld fs x.f0).f1 (fld fs x.f0).f2 (fld fs x.f0).f3 (fld fs x.f0).f4 (fld fs x.f0).f5 (fld fs x.f0).f6 x.f1) (valsB s0 s1 (fld fs x.f0) x.f1) := vals_v hx.1 fun v hm => (hx.2 _ v hm).1
   have last : 0 ≤ atF fs x.f0 → E (fun k => if 0 ≤ atF fs x.f0 then if atF fs x.f0 < (fs.length : Int) then (valid_vals.f k s0 s1 (fld fs x.f0).f0 (fld fs x.f0).f1 (fld fs x.f0).f2 (fld fs x.f0).f3 (fld fs x.f0).f4 (fld fs x.f0).f5 (fld fs x.f0).f6 x.f1).bind fun t => valid_slots.j1 k l (atF fs x.f0) l (l.length : Int) (i : Int) (!t) s0 s1 n fs bs ones else none else none) (valsB s0 s1 (fld fs x.f0) x.f1 && (fresh (fld fs x.f0).f6 ones && slB s0 s1 fs (some x.f0) ((fld fs x.f0).f6 :: ones) (l.drop (i + 1)))) := by
     intro h0
     refine E.yes h0 (E.yes bd.2 (E.bind vals ?_))
     cases valsB s0 s1 (fld fs x.f0) x.f1 with
     | false => exact bad _
     | true => exact good h0
   refine E.step ?_
   simp only [valid_slots.l0, hr]
   refine E.yes (by omega) (E.yes (by omega) (E.yes (by omega) (E.bind0 (a := atF fs x.f0) rfl ?_)))
   rw [slB]
   by_cases h0 : atF fs x.f0 < 0
   · rw [decide_eq_false (by omega)]
     exact E.yes h0 (bad _)
   · rw [decide_eq_true (by omega), Bool.true_and]
     refine E.no h0 ?_
     cases i with
     | zero =>
       refine E.no (by omega) ?_
       exact last (by omega)
     | succ j =>
       have hw := wm hi hl'
       refine E.yes (by omega) ?_
       rw [hw]
       refine E.yes (by omega) (E.yes (by omega) ?_)
       simp only [rdS]
       show E _ (okNum (some (l.getD j z43).f0) x.f0 && _ && _)
       rw [okNum_some]
       by_cases hc : (l.getD j z43).f0 ≥ x.f0
       · rw [decide_eq_false (by omega)]
         exact E.yes hc (bad _)
       · rw [decide_eq_true (by omega), Bool.true_and]
         exact E.no hc (last (by omega))
def restB (fs : List SF) (l : List SR) : Bool := l.all fun x => rightR x && !knownR fs x.f0
theorem rest_r {n : ByteArray} {fs : List SF} {bs : List Int} {sl : List SS} {l : List SR} (hfs : fs.length ≤ 9000000000000000000) (hl : l.length ≤ 9000000000000000000) (h0 : ∀ x ∈ l, 0 ≤ x.f2) : E (fun k => ecdysisref20_Tree.l2 k 0 sl l n fs bs) (restB fs l) := by
 have loop := up (C := fun i => E (fun k => ecdysisref20_Tree.l2 k (i : Int) sl l n fs bs) (restB fs (l.drop i))) l.length (fun i hi => ?_) (fun i hi ih => ?_) 0
 · exact loop
 · rw [List.drop_eq_nil_of_le hi]
   exact E.succ E.const fun k => by simp only [ecdysisref20_Tree.l2]; rw [if_neg (by omega)]; rfl
 · unfold restB at ih ⊢
   rw [drop_getD z63 hi, List.all_cons]
   have hx := h0 _ (mem_getD z63 hi)
   have hr : rd_T63 l (i : Int) = l.getD i z63 := rfl
   generalize l.getD i z63 = x at hx hr
   refine E.step ?_
   simp only [ecdysisref20_Tree.l2, w1 hi hl, hr]
   refine E.yes (by omega) (E.yes (by omega) (E.bind0 (right_r x hx) ?_))
   cases rightR x with
   | false => exact E.no (by simp) E.const
   | true =>
    refine E.yes rfl (E.bind (number_E n fs bs x.f0 hfs) ?_)
    unfold knownR
    by_cases hk : ixF (fun y : SF => y.f1 == x.f0) fs 0 ≥ 0
    · rw [decide_eq_true hk]
      exact E.yes hk E.const
    · rw [decide_eq_false hk]
      exact E.no hk ih
theorem ones_r {n : ByteArray} {fs : List SF} {bs : List Int} {sl : List SS} {l : List SR} {i : Nat} {one : ByteArray} {ones : List ByteArray} {R : Bool} (hi : i < sl.length) (hsl : sl.length ≤ 4398046511104) (ho : ones.length = i)
   (h : E (fun k => ecdysisref20_Tree.l0 k (one :: ones).reverse ((i + 1 : Nat) : Int) s0 s1 sl l n fs bs) R) : E (fun k => ecdysisref20_Tree.l1 k ones.reverse (i : Int) one 0 s0 s1 sl l n fs bs) (fresh one ones && R) := by
 have hn : ones.reverse.length ≤ 9000000000000000000 := by rw [List.length_reverse]; omega
 have loop := up (C := fun j => E (fun k => ecdysisref20_Tree.l1 k ones.reverse (i : Int) one (j : Int) s0 s1 sl l n fs bs) (fresh one (ones.reverse.drop j) && R)) ones.reverse.length (fun j hj => ?_) (fun j hj ih => ?_) 0
 · have e : fresh one (ones.reverse.drop 0) = fresh one ones := by unfold fresh; rw [List.drop_zero, List.any_reverse]
   rw [e] at loop
   exact loop
 · rw [List.drop_eq_nil_of_le hj, show fresh one [] = true by simp [fresh], Bool.true_and]
   refine E.step ?_
   simp only [ecdysisref20_Tree.l1]
   refine E.no (by omega) (E.yes (by rw [List.length_reverse]; omega) ?_)
   rw [w1 hi (by omega), ← List.reverse_cons]
   exact h
 · have hr : rdOf ByteArray.empty ones.reverse (j : Int) = ones.reverse.getD j ByteArray.empty := rfl
   have hd : fresh one (ones.reverse.drop j) = (one.toList == [] || (!((ones.reverse.getD j ByteArray.empty).toList == one.toList) && !((ones.reverse.drop (j + 1)).any fun o => o.toList == one.toList))) := by
     unfold fresh; rw [drop_getD ByteArray.empty hj, List.any_cons, Bool.not_or]
   rw [hd]
   unfold fresh at ih
   generalize ones.reverse.getD j ByteArray.empty = o at hr
   generalize (!((ones.reverse.drop (j + 1)).any fun o => o.toList == one.toList)) = Q at ih
   refine E.step ?_
   simp only [ecdysisref20_Tree.l1, hr, w1 hj hn]
   refine E.yes (by omega) ?_
   by_cases he : one.toList = []
   · rw [he] at ih ⊢
     exact E.yes rfl ih
   · rw [beq_eq_false_iff_ne.2 he, Bool.false_or] at ih ⊢
     refine E.no he (E.yes (by omega) ?_)
     by_cases hc : o.toList = one.toList
     · rw [hc, show (one.toList == one.toList) = true by simp]
       exact E.yes rfl E.const
     · rw [beq_eq_false_iff_ne.2 hc]
       exact E.no hc ih
theorem slots_r {n : ByteArray} {fs : List SF} {bs : List Int} {l : List SS} {re : List SR} (hfs : Sch fs) (hl : l.length ≤ 4398046511104) (hre : re.length ≤ 9000000000000000000) (h0 : ∀ x ∈ re, 0 ≤ x.f2) (hv : Vals s0 s1 l) : E (fun k => ecdysisref20_Tree.l0 k [] 0 s0 s1 l re n fs bs) (slB s0 s1 fs none [] l && restB fs re) := by
 have hl' : l.length ≤ 9000000000000000000 := by omega
 have loop := up (C := fun i => ∀ ones : List ByteArray, ones.length = i → E (fun k => ecdysisref20_Tree.l0 k ones.reverse (i : Int) s0 s1 l re n fs bs) (slB s0 s1 fs (prevOf l i) ones (l.drop i) && restB fs re)) l.length (fun i hi => ?_) (fun i hi ih => ?_) 0
 · exact loop [] rfl
 · intro ones ho
   rw [List.drop_eq_nil_of_le hi]
   exact E.succ (rest_r (bs := bs) hfs.n hre h0) fun k => by simp only [ecdysisref20_Tree.l0]; rw [if_neg (by omega)]
 · intro ones ho
   rw [drop_getD z43 hi]
   have hx := hv _ (mem_getD z43 hi)
   have hr : rd_T43 l (i : Int) = l.getD i z43 := rfl
   have hp : prevOf l (i + 1) = some (l.getD i z43).f0 := rfl
   rw [hp] at ih
   generalize l.getD i z43 = x at hx hr ih
   have bd := atF_bd fs x.f0
   have hf : rd_T36 fs (atF fs x.f0) = fld fs x.f0 := rfl
   rw [slB]
   simp only [Bool.and_assoc]
   have bad : E (fun k => ecdysisref20_Tree.j1 k ones.reverse (i : Int) true s0 s1 l re n fs bs) false := E.succ E.const fun k => by simp only [ecdysisref20_Tree.j1]; rw [if_pos trivial]
   have good : 0 ≤ atF fs x.f0 → E (fun k => ecdysisref20_Tree.j1 k ones.reverse (i : Int) false s0 s1 l re n fs bs) (fresh (fld fs x.f0).f6 ones && (slB s0 s1 fs (some x.f0) ((fld fs x.f0).f6 :: ones) (l.drop (i + 1)) && restB fs re)) := by
    intro h1
    refine E.step ?_
    simp only [ecdysisref20_Tree.j1, hr]
    refine E.no (by simp) (E.yes (by omega) (E.yes (by omega) (E.bind (number_E n fs bs x.f0 hfs.n) ?_)))
    show E (fun k => if 0 ≤ atF fs x.f0 then if atF fs x.f0 < (fs.length : Int) then ecdysisref20_Tree.l1 k ones.reverse (i : Int) (fld fs x.f0).f6 0 s0 s1 l re n fs bs else none else none) _
    exact E.yes h1 (E.yes bd.2 (ones_r hi hl ho (ih _ (by rw [List.length_cons, ho]))))
   have slot : E (fun k => ecdysisref20_slot.f k s0 s1 n fs bs x.f0 x.f1) (decide (0 ≤ atF fs x.f0) && valsB s0 s1 (fld fs x.f0) x.f1) := slot_r hfs.n hx.1 rfl rfl fun v hm => (hx.2 _ v hm).2
   have last : E (fun k => (ecdysisref20_slot.f k s0 s1 n fs bs x.f0 x.f1).bind fun t => ecdysisref20_Tree.j1 k ones.reverse (i : Int) (!t) s0 s1 l re n fs bs) (decide (0 ≤ atF fs x.f0) && (valsB s0 s1 (fld fs x.f0) x.f1 && (fresh (fld fs x.f0).f6 ones && (slB s0 s1 fs (some x.f0) ((fld fs x.f0).f6 :: ones) (l.drop (i + 1)) && restB fs re)))) := by
    refine E.bind slot ?_
    by_cases h1 : 0 ≤ atF fs x.f0
    · rw [decide_eq_true h1, Bool.true_and]
      cases valsB s0 s1 (fld fs x.f0) x.f1 with
      | false => exact bad
      | true => exact good h1
    · rw [decide_eq_false h1]
      exact bad
   refine E.step ?_
   simp only [ecdysisref20_Tree.l0, hr]
   refine E.yes (by omega) ?_
   cases i with
   | zero =>
    refine E.no (by omega) (E.yes (by omega) ?_)
    exact last
   | succ j =>
    have hw := wm hi hl'
    refine E.yes (by omega) ?_
    rw [hw]
    refine E.yes (by omega) (E.yes (by omega) (E.yes (by omega) ?_))
    simp only [rdS]
    show E _ (decide (0 ≤ atF fs x.f0) && (okNum (some (l.getD j z43).f0) x.f0 && _))
    rw [okNum_some]
    by_cases hc : (l.getD j z43).f0 ≥ x.f0
    · rw [decide_eq_false (show ¬ (l.getD j z43).f0 < x.f0 by omega), Bool.false_and, Bool.and_false]
      exact E.yes hc bad
    · rw [decide_eq_true (show (l.getD j z43).f0 < x.f0 by omega), Bool.true_and]
      exact E.no hc last
/-- A schema no greater than a machine's. -/
structure Sc (s1 : List SM) : Prop where
 n : s1.length ≤ 9000000000000000000
 fs : ∀ m ∈ s1, Sch m.f1
def atM (s1 : List SM) (name : ByteArray) : Int := ixF (fun x => x.f0.toList == name.toList) s1 0
/-- Whether a tree is a message's value. -/
noncomputable def treeB (s0 : List SE) (s1 : List SM) (name : ByteArray) (t : ST) : Bool :=
 decide (0 ≤ atM s1 name) && (slB s0 s1 (rd_T52 s1 (atM s1 name)).f1 none [] t.f0 && restB (rd_T52 s1 (atM s1 name)).f1 t.f1)
theorem atM_mem {s1 : List SM} {name : ByteArray} (h : 0 ≤ atM s1 name) : rd_T52 s1 (atM s1 name) ∈ s1 ∧ atM s1 name < s1.length := by
 have h1 := ixF_bd (fun x : SM => x.f0.toList == name.toList) s1 0
 have h2 : atM s1 name < s1.length := by unfold atM; omega
 obtain ⟨j, hj⟩ : ∃ j : Nat, atM s1 name = (j : Int) := ⟨(atM s1 name).toNat, by omega⟩
 refine ⟨?_, h2⟩
 rw [hj] at h2 ⊢
 rw [rdM]
 exact mem_getD _ (by omega)
theorem tree_v (hs : Sc s1) {name : ByteArray} {t : ST} (hl : t.f0.length ≤ 4398046511104) (hv : Vals s0 s1 t.f0) : E (vTree s0 s1 name t) (treeB s0 s1 name t) := by
 refine E.step ?_
 show E (fun k => valid_Tree.f (k + 1) _ _ _ _ _) _
 simp only [valid_Tree.f]
 refine E.bind0 (a := atM s1 name) rfl ?_
 unfold treeB
 by_cases h : 0 ≤ atM s1 name
 · have hm := atM_mem h
   rw [decide_eq_true h, Bool.true_and]
   refine E.yes h (E.yes h (E.yes hm.2 (E.bind (slots_v (hs.fs _ hm.1) hl hv) ?_)))
   cases slB s0 s1 (rd_T52 s1 (atM s1 name)).f1 none [] t.f0 with
   | false => exact E.no (by simp) E.const
   | true => exact E.yes rfl (E.bind0 (a := restB (rd_T52 s1 (atM s1 name)).f1 t.f1) rfl E.const)
 · rw [decide_eq_false h]
   exact E.no h E.const
theorem tree_r (hs : Sc s1) {name : ByteArray} {t : ST} (hl : t.f0.length ≤ 4398046511104) (hre : t.f1.length ≤ 9000000000000000000) (h0 : ∀ x ∈ t.f1, 0 ≤ x.f2) (hv : Vals s0 s1 t.f0) : E (rTree s0 s1 name t) (treeB s0 s1 name t) := by
 refine E.step ?_
 show E (fun k => ecdysisref20_Tree.f (k + 1) _ _ _ _ _) _
 simp only [ecdysisref20_Tree.f]
 refine E.bind (a := atM s1 name) (message_E s0 s1 name hs.n) ?_
 unfold treeB
 by_cases h : 0 ≤ atM s1 name
 · have hm := atM_mem h
   rw [decide_eq_true h, Bool.true_and]
   exact E.no (by omega) (E.yes h (E.yes hm.2 (slots_r (hs.fs _ hm.1) hl hre h0 hv)))
 · rw [decide_eq_false h]
   exact E.yes (by omega) E.const
end
section
open Go.Proofs.YtbpnfpckoapdbaaDoor.Ops
theorem reach : reachBytes = 140737488351232 := by decide
theorem u64_ge {n : Int} (h : (Lit.int .u64 n).wf = true) : 0 ≤ n ∧ n < 18446744073709551616 := by
 simp only [Lit.wf, Bool.and_eq_true, decide_eq_true_eq] at h
 obtain ⟨h1, h2⟩ := h
 have e1 : IntKind.u64.min = 0 := by decide
 have e2 : IntKind.u64.max = 18446744073709551615 := by decide
 omega
/-- Whatever a tree: the program and the document tell the same. -/
theorem level {s0 : List SE} {s1 : List SM} (hs : Sc s1) : ∀ (n : Nat) (t : ST), okT n t → Vals s0 s1 t.f0 ∧ ∀ name, E (vTree s0 s1 name t) (treeB s0 s1 name t) ∧ E (rTree s0 s1 name t) (treeB s0 s1 name t)
 | 0, t, h => h.elim
 | n + 1, t, h => by
  obtain ⟨⟨hl, hx⟩, hre, hr⟩ := h
  rw [reach] at hl hre
  have hv : Vals s0 s1 t.f0 := fun x hm => by
   obtain ⟨_, hlv, hvv⟩ := hx x hm
   rw [reach] at hlv
   refine ⟨by omega, fun f v hmv => ?_⟩
   obtain ⟨w0, w1, hlt, hlow⟩ := hvv v hmv
   rw [reach] at w1
   have h1 := val_v (s0 := s0) (s1 := s1) (f := f) (v := v) (T := treeB s0 s1) (u64_ge w0).1 (by omega) fun t ht => ((level hs n t (hlow t ht)).2 _).1
   have h2 := val_r (s0 := s0) (s1 := s1) (f := f) (v := v) (T := treeB s0 s1) (u64_ge w0).1 (by omega) fun t ht => ((level hs n t (hlow t ht)).2 _).2
   rw [vB_E h1]
   exact ⟨h1, h2⟩
  refine ⟨hv, fun name => ⟨tree_v hs (by omega) hv, tree_r hs (by omega) (by omega) (fun x hm => (u64_ge (hr x hm).2.2.1).1) hv⟩⟩
theorem vals_level {s0 : List SE} {s1 : List SM} (hs : Sc s1) {n : Nat} {f : SF} {v : SV} (h : okVal (okT n) v) : E (vVal s0 s1 f v) (vB s0 s1 f v) ∧ E (rVal s0 s1 f v) (vB s0 s1 f v) := by
 obtain ⟨w0, w1, hlt, hlow⟩ := h
 rw [reach] at w1
 have h1 := val_v (s0 := s0) (s1 := s1) (f := f) (v := v) (T := treeB s0 s1) (u64_ge w0).1 (by omega) fun t ht => ((level hs n t (hlow t ht)).2 _).1
 have h2 := val_r (s0 := s0) (s1 := s1) (f := f) (v := v) (T := treeB s0 s1) (u64_ge w0).1 (by omega) fun t ht => ((level hs n t (hlow t ht)).2 _).2
 rw [vB_E h1]
 exact ⟨h1, h2⟩
end
end Go.Proofs.YtbpnfpckoapdbaaDoor.P20
end
section
namespace Go.Proofs.YtbpnfpckoapdbaaDoor.Ops
open Go.RowKit Go.Proofs.YtbpnfpckoapdbaaDoorW.PrintWords Go.Proofs.YtbpnfpckoapdbaaDoor.KD Go.Proofs.YtbpnfpckoapdbaaDoor.Open
set_option linter.unusedVariables false
set_option maxHeartbeats 1000000
def ok54 (x : S54) : Prop := x.f0.size ≤ reachBytes ∧ (Lit.int .i64 x.f1).wf = true
theorem opens54 (fuel : Nat) : OpensW fuel Tryd.prog k54 ok54 54 := by
 have c0 : Tryd.prog.cellsOf 9 = Kd.string.sz := by kernel_rfl
 have c1 : Tryd.prog.cellsOf 3 = (Kd.int .i64).sz := by kernel_rfl
 refine (opensW_struct (P := Tryd.prog) (t := 54) (fuel := fuel) (d := (Kd.pair Kd.string ((Kd.int .i64)))) (Ok := fun x_ : ByteArray × Int => (x_.1).size ≤ reachBytes ∧ (Lit.int .i64 (x_.2)).wf = true) (mk := fun y => (⟨y.1, y.2⟩ : S54)) (proj := fun x => (x.f0, x.f1)) (fun _ => rfl) Tryd.underlying54 (by kernel_rfl) fun f_ e_ => ?_)
 refine fieldsW_cons (off' := 1) (Ok := fun x_ : ByteArray => x_.size ≤ reachBytes) (Ok' := fun x_ : Int => (Lit.int .i64 x_).wf = true) ?_ ?_ ?_ ?_ ?_
 · exact rfl
 · exact c0
 · exact (opensW_string Tryd.underlying9)
 · exact rfl
 refine fieldsW_last ?_ ?_ ?_
 · exact rfl
 · exact c1
 · exact ((opens_int Tryd.underlying3).toW _)
def ok48 (x : S48) : Prop := x.f0.size ≤ reachBytes ∧ (x.f1.length * 24 ≤ reachBytes ∧ ∀ y_ ∈ x.f1, ok54 y_)
theorem opens48 (fuel : Nat) : OpensW fuel Tryd.prog k48 ok48 48 := by
 have c0 : Tryd.prog.cellsOf 9 = Kd.string.sz := by kernel_rfl
 have c1 : Tryd.prog.cellsOf 46 = (Kd.slice 54 k54).sz := by kernel_rfl
 refine (opensW_struct (P := Tryd.prog) (t := 48) (fuel := fuel) (d := (Kd.pair Kd.string ((Kd.slice 54 k54)))) (Ok := fun x_ : ByteArray × (List S54) => (x_.1).size ≤ reachBytes ∧ ((x_.2).length * 24 ≤ reachBytes ∧ ∀ y_ ∈ (x_.2), ok54 y_)) (mk := fun y => (⟨y.1, y.2⟩ : S48)) (proj := fun x => (x.f0, x.f1)) (fun _ => rfl) Tryd.underlying48 (by kernel_rfl) fun f_ e_ => ?_)
 refine fieldsW_cons (off' := 1) (Ok := fun x_ : ByteArray => x_.size ≤ reachBytes) (Ok' := fun x_ : (List S54) => (x_.length * 24 ≤ reachBytes ∧ ∀ y_ ∈ x_, ok54 y_)) ?_ ?_ ?_ ?_ ?_
 · exact rfl
 · exact c0
 · exact (opensW_string Tryd.underlying9)
 · exact rfl
 refine fieldsW_last ?_ ?_ ?_
 · exact rfl
 · exact c1
 · exact (opensW_slice (B := 24) Tryd.underlying46 (by kernel_rfl) (by kernel_rfl) (fun _ _ => (opens54 _)))
def ok36 (x : S36) : Prop := x.f0.size ≤ reachBytes ∧ (Lit.int .i64 x.f1).wf = true ∧ (Lit.int .i64 x.f2).wf = true ∧ x.f3.size ≤ reachBytes ∧ True ∧ True ∧ x.f6.size ≤ reachBytes
theorem opens36 (fuel : Nat) : OpensW fuel Tryd.prog k36 ok36 36 := by
 have c0 : Tryd.prog.cellsOf 9 = Kd.string.sz := by kernel_rfl
 have c1 : Tryd.prog.cellsOf 3 = (Kd.int .i64).sz := by kernel_rfl
 have c2 : Tryd.prog.cellsOf 3 = (Kd.int .i64).sz := by kernel_rfl
 have c3 : Tryd.prog.cellsOf 9 = Kd.string.sz := by kernel_rfl
 have c4 : Tryd.prog.cellsOf 4 = Kd.bool.sz := by kernel_rfl
 have c5 : Tryd.prog.cellsOf 4 = Kd.bool.sz := by kernel_rfl
 have c6 : Tryd.prog.cellsOf 9 = Kd.string.sz := by kernel_rfl
 refine (opensW_struct (P := Tryd.prog) (t := 36) (fuel := fuel) (d := (Kd.pair Kd.string (Kd.pair (Kd.int .i64) (Kd.pair (Kd.int .i64) (Kd.pair Kd.string (Kd.pair Kd.bool (Kd.pair Kd.bool (Kd.string)))))))) (Ok := fun x_ : ByteArray × Int × Int × ByteArray × Bool × Bool × ByteArray => (x_.1).size ≤ reachBytes ∧ (Lit.int .i64 (x_.2.1)).wf = true ∧ (Lit.int .i64 (x_.2.2.1)).wf = true ∧ (x_.2.2.2.1).size ≤ reachBytes ∧ True ∧ True ∧ (x_.2.2.2.2.2.2).size ≤ reachBytes) (mk := fun y => (⟨y.1, y.2.1, y.2.2.1, y.2.2.2.1, y.2.2.2.2.1, y.2.2.2.2.2.1, y.2.2.2.2.2.2⟩ : S36)) (proj := fun x => (x.f0, x.f1, x.f2, x.f3, x.f4, x.f5, x.f6)) (fun _ => rfl) Tryd.underlying36 (by kernel_rfl) fun f_ e_ => ?_)
 refine fieldsW_cons (off' := 1) (Ok := fun x_ : ByteArray => x_.size ≤ reachBytes) (Ok' := fun x_ : Int × Int × ByteArray × Bool × Bool × ByteArray => (Lit.int .i64 (x_.1)).wf = true ∧ (Lit.int .i64 (x_.2.1)).wf = true ∧ (x_.2.2.1).size ≤ reachBytes ∧ True ∧ True ∧ (x_.2.2.2.2.2).size ≤ reachBytes) ?_ ?_ ?_ ?_ ?_
 · exact rfl
 · exact c0
 · exact (opensW_string Tryd.underlying9)
 · exact rfl
 refine fieldsW_cons (off' := 2) (Ok := fun x_ : Int => (Lit.int .i64 x_).wf = true) (Ok' := fun x_ : Int × ByteArray × Bool × Bool × ByteArray => (Lit.int .i64 (x_.1)).wf = true ∧ (x_.2.1).size ≤ reachBytes ∧ True ∧ True ∧ (x_.2.2.2.2).size ≤ reachBytes) ?_ ?_ ?_ ?_ ?_
 · exact rfl
 · exact c1
 · exact ((opens_int Tryd.underlying3).toW _)
 · exact rfl
 refine fieldsW_cons (off' := 3) (Ok := fun x_ : Int => (Lit.int .i64 x_).wf = true) (Ok' := fun x_ : ByteArray × Bool × Bool × ByteArray => (x_.1).size ≤ reachBytes ∧ True ∧ True ∧ (x_.2.2.2).size ≤ reachBytes) ?_ ?_ ?_ ?_ ?_
 · exact rfl
 · exact c2
 · exact ((opens_int Tryd.underlying3).toW _)
 · exact rfl
 refine fieldsW_cons (off' := 4) (Ok := fun x_ : ByteArray => x_.size ≤ reachBytes) (Ok' := fun x_ : Bool × Bool × ByteArray => True ∧ True ∧ (x_.2.2).size ≤ reachBytes) ?_ ?_ ?_ ?_ ?_
 · exact rfl
 · exact c3
 · exact (opensW_string Tryd.underlying9)
 · exact rfl
 refine fieldsW_cons (off' := 5) (Ok := fun x_ : Bool => True) (Ok' := fun x_ : Bool × ByteArray => True ∧ (x_.2).size ≤ reachBytes) ?_ ?_ ?_ ?_ ?_
 · exact rfl
 · exact c4
 · exact ((opens_bool Tryd.underlying4).toW _)
 · exact rfl
 refine fieldsW_cons (off' := 6) (Ok := fun x_ : Bool => True) (Ok' := fun x_ : ByteArray => x_.size ≤ reachBytes) ?_ ?_ ?_ ?_ ?_
 · exact rfl
 · exact c5
 · exact ((opens_bool Tryd.underlying4).toW _)
 · exact rfl
 refine fieldsW_last ?_ ?_ ?_
 · exact rfl
 · exact c6
 · exact (opensW_string Tryd.underlying9)
def ok52 (x : S52) : Prop := x.f0.size ≤ reachBytes ∧ (x.f1.length * 72 ≤ reachBytes ∧ ∀ y_ ∈ x.f1, ok36 y_) ∧ (x.f2.length * 8 ≤ reachBytes ∧ ∀ y_ ∈ x.f2, (Lit.int .i64 y_).wf = true)
theorem opens52 (fuel : Nat) : OpensW fuel Tryd.prog k52 ok52 52 := by
 have c0 : Tryd.prog.cellsOf 9 = Kd.string.sz := by kernel_rfl
 have c1 : Tryd.prog.cellsOf 49 = (Kd.slice 36 k36).sz := by kernel_rfl
 have c2 : Tryd.prog.cellsOf 50 = (Kd.slice 3 (Kd.int .i64)).sz := by kernel_rfl
 refine (opensW_struct (P := Tryd.prog) (t := 52) (fuel := fuel) (d := (Kd.pair Kd.string (Kd.pair (Kd.slice 36 k36) ((Kd.slice 3 (Kd.int .i64)))))) (Ok := fun x_ : ByteArray × (List S36) × (List Int) => (x_.1).size ≤ reachBytes ∧ ((x_.2.1).length * 72 ≤ reachBytes ∧ ∀ y_ ∈ (x_.2.1), ok36 y_) ∧ ((x_.2.2).length * 8 ≤ reachBytes ∧ ∀ y_ ∈ (x_.2.2), (Lit.int .i64 y_).wf = true)) (mk := fun y => (⟨y.1, y.2.1, y.2.2⟩ : S52)) (proj := fun x => (x.f0, x.f1, x.f2)) (fun _ => rfl) Tryd.underlying52 (by kernel_rfl) fun f_ e_ => ?_)
 refine fieldsW_cons (off' := 1) (Ok := fun x_ : ByteArray => x_.size ≤ reachBytes) (Ok' := fun x_ : (List S36) × (List Int) => ((x_.1).length * 72 ≤ reachBytes ∧ ∀ y_ ∈ (x_.1), ok36 y_) ∧ ((x_.2).length * 8 ≤ reachBytes ∧ ∀ y_ ∈ (x_.2), (Lit.int .i64 y_).wf = true)) ?_ ?_ ?_ ?_ ?_
 · exact rfl
 · exact c0
 · exact (opensW_string Tryd.underlying9)
 · exact rfl
 refine fieldsW_cons (off' := 2) (Ok := fun x_ : List S36 => (x_.length * 72 ≤ reachBytes ∧ ∀ y_ ∈ x_, ok36 y_)) (Ok' := fun x_ : (List Int) => (x_.length * 8 ≤ reachBytes ∧ ∀ y_ ∈ x_, (Lit.int .i64 y_).wf = true)) ?_ ?_ ?_ ?_ ?_
 · exact rfl
 · exact c1
 · exact (opensW_slice (B := 72) Tryd.underlying49 (by kernel_rfl) (by kernel_rfl) (fun _ _ => (opens36 _)))
 · exact rfl
 refine fieldsW_last ?_ ?_ ?_
 · exact rfl
 · exact c2
 · exact (opensW_slice (B := 8) Tryd.underlying50 (by kernel_rfl) (by kernel_rfl) (fun _ _ => ((opens_int Tryd.underlying3).toW _)))
def ok25 (x : S25) : Prop := (x.f0.length * 40 ≤ reachBytes ∧ ∀ y_ ∈ x.f0, ok48 y_) ∧ (x.f1.length * 64 ≤ reachBytes ∧ ∀ y_ ∈ x.f1, ok52 y_)
theorem opens25 (fuel : Nat) : OpensW fuel Tryd.prog k25 ok25 25 := by
 have c0 : Tryd.prog.cellsOf 22 = (Kd.slice 48 k48).sz := by kernel_rfl
 have c1 : Tryd.prog.cellsOf 23 = (Kd.slice 52 k52).sz := by kernel_rfl
 refine (opensW_struct (P := Tryd.prog) (t := 25) (fuel := fuel) (d := (Kd.pair (Kd.slice 48 k48) ((Kd.slice 52 k52)))) (Ok := fun x_ : (List S48) × (List S52) => ((x_.1).length * 40 ≤ reachBytes ∧ ∀ y_ ∈ (x_.1), ok48 y_) ∧ ((x_.2).length * 64 ≤ reachBytes ∧ ∀ y_ ∈ (x_.2), ok52 y_)) (mk := fun y => (⟨y.1, y.2⟩ : S25)) (proj := fun x => (x.f0, x.f1)) (fun _ => rfl) Tryd.underlying25 (by kernel_rfl) fun f_ e_ => ?_)
 refine fieldsW_cons (off' := 1) (Ok := fun x_ : List S48 => (x_.length * 40 ≤ reachBytes ∧ ∀ y_ ∈ x_, ok48 y_)) (Ok' := fun x_ : (List S52) => (x_.length * 64 ≤ reachBytes ∧ ∀ y_ ∈ x_, ok52 y_)) ?_ ?_ ?_ ?_ ?_
 · exact rfl
 · exact c0
 · exact (opensW_slice (B := 40) Tryd.underlying22 (by kernel_rfl) (by kernel_rfl) (fun _ _ => (opens48 _)))
 · exact rfl
 refine fieldsW_last ?_ ?_ ?_
 · exact rfl
 · exact c1
 · exact (opensW_slice (B := 64) Tryd.underlying23 (by kernel_rfl) (by kernel_rfl) (fun _ _ => (opens52 _)))
end Go.Proofs.YtbpnfpckoapdbaaDoor.Ops
end
section
namespace Go.Proofs.YtbpnfpckoapdbaaDoor.P20
open Go.RowKit Go.Proofs.YtbpnfpckoapdbaaDoorW.PrintWords Go.Proofs.YtbpnfpckoapdbaaDoorW.PrintLast Go.Proofs.YtbpnfpckoapdbaaDoorW.PrintMore Go.Proofs.YtbpnfpckoapdbaaDoor.KD Go.Proofs.YtbpnfpckoapdbaaDoor.M Go.Proofs.YtbpnfpckoapdbaaDoor.PV20 Go.Proofs.YtbpnfpckoapdbaaDoor.Ev Go.Proofs.YtbpnfpckoapdbaaDoor.Ops
set_option linter.unusedVariables false
set_option linter.unusedSimpArgs false
/-- It tells something. -/
def T {α : Type} (g : Nat → Option α) : Prop := ∃ r, E g r
theorem T.const {α : Type} {r : α} : T (fun _ => some r) := ⟨r, E.const⟩
theorem T.step {α : Type} {g : Nat → Option α} (h : T (fun k => g (k + 1))) : T g := ⟨h.choose, E.step h.choose_spec⟩
theorem T.yes {α : Type} {c : Prop} [Decidable c] {g h : Nat → Option α} (hc : c) (hg : T g) : T (fun k => if c then g k else h k) := ⟨hg.choose, E.yes hc hg.choose_spec⟩
theorem T.no {α : Type} {c : Prop} [Decidable c] {g h : Nat → Option α} (hc : ¬ c) (hh : T h) : T (fun k => if c then g k else h k) := ⟨hh.choose, E.no hc hh.choose_spec⟩
theorem T.ite {α : Type} {c : Prop} [Decidable c] {g h : Nat → Option α} (hg : c → T g) (hh : ¬ c → T h) : T (fun k => if c then g k else h k) := by
 by_cases hc : c
 · exact T.yes hc (hg hc)
 · exact T.no hc (hh hc)
theorem T.bind {α β : Type} {f : Nat → Option α} {g : Nat → α → Option β} (hf : T f) (hg : ∀ a, E f a → T (fun k => g k a)) : T (fun k => (f k).bind (g k)) := by
 obtain ⟨a, ha⟩ := hf
 obtain ⟨r, hr⟩ := hg a ha
 exact ⟨r, E.bind ha hr⟩
theorem w1' {i n : Nat} (h : i < n) (hn : n ≤ 140737488351232) : wrap64 ((i : Int) + 1) = ((i + 1 : Nat) : Int) := by unfold wrap64; omega
/-- A schema no greater than a machine's, whole. -/
structure Big (s0 : List SE) (s1 : List SM) : Prop where
 n0 : s0.length ≤ 140737488351232
 n1 : s1.length ≤ 140737488351232
 v0 : ∀ x ∈ s0, x.f1.length ≤ 140737488351232
 f1 : ∀ m ∈ s1, m.f1.length ≤ 140737488351232
theorem rdE_mem {s0 : List SE} {i : Nat} (h : i < s0.length) : rd_T48 s0 (i : Int) ∈ s0 := mem_getD z48 h
theorem rdM_mem {s1 : List SM} {i : Nat} (h : i < s1.length) : rd_T52 s1 (i : Int) ∈ s1 := mem_getD z52 h
theorem small_T {s0 : List SE} {s1 : List SM} (B : Big s0 s1) : T (fun k => ecdysisref15_Small.f k s0 s1) := by
 have l45 := up (C := fun i => T (fun k => ecdysisref15_Small.l4 k (i : Int) s0 s1)) s1.length (fun i hi => by
   refine T.step ?_
   simp only [ecdysisref15_Small.l4]
   exact T.no (by omega) T.const) (fun i hi ih => by
   refine T.step ?_
   simp only [ecdysisref15_Small.l4]
   refine T.yes (by omega) ?_
   have hm := B.f1 _ (rdM_mem hi)
   generalize hx : rd_T52 s1 (i : Int) = x at hm
   have inner := up (C := fun j => T (fun k => ecdysisref15_Small.l5 k (i : Int) (j : Int) s0 s1)) x.f1.length (fun j hj => by
    refine T.step ?_
    simp only [ecdysisref15_Small.l5, hx, w1' hi B.n1]
    exact T.yes (by omega) (T.yes (by omega) (T.no (by omega) ih))) (fun j hj ihj => by
    refine T.step ?_
    simp only [ecdysisref15_Small.l5, hx, w1' hi B.n1, w1' hj hm]
    exact T.yes (by omega) (T.yes (by omega) (T.yes (by omega) (T.yes (by omega) (T.ite (fun _ => T.const) fun _ => T.ite (fun _ => T.const) fun _ => T.ite (fun _ => T.const) fun _ => ihj))))) 0
   exact inner) 0
 have l23 := up (C := fun i => T (fun k => ecdysisref15_Small.l2 k (i : Int) s0 s1)) s0.length (fun i hi => by
   refine T.step ?_
   simp only [ecdysisref15_Small.l2]
   exact T.no (by omega) l45) (fun i hi ih => by
   refine T.step ?_
   simp only [ecdysisref15_Small.l2]
   refine T.yes (by omega) ?_
   have hm := B.v0 _ (rdE_mem hi)
   generalize hx : rd_T48 s0 (i : Int) = x at hm
   have inner := up (C := fun j => T (fun k => ecdysisref15_Small.l3 k (i : Int) (j : Int) s0 s1)) x.f1.length (fun j hj => by
    refine T.step ?_
    simp only [ecdysisref15_Small.l3, hx, w1' hi B.n0]
    exact T.yes (by omega) (T.yes (by omega) (T.no (by omega) ih))) (fun j hj ihj => by
    refine T.step ?_
    simp only [ecdysisref15_Small.l3, hx, w1' hi B.n0, w1' hj hm]
    exact T.yes (by omega) (T.yes (by omega) (T.yes (by omega) (T.yes (by omega) (T.ite (fun _ => T.const) fun _ => ihj))))) 0
   exact inner) 0
 have j3 : ∀ x, T (fun k => ecdysisref15_Small.j3 k x s0 s1) := fun x => by
  refine T.step ?_
  simp only [ecdysisref15_Small.j3]
  exact T.ite (fun _ => T.const) fun _ => l23
 have l1 := up (C := fun i => ∀ x, T (fun k => ecdysisref15_Small.l1 k x (i : Int) s0 s1)) s1.length (fun i hi x => by
   refine T.step ?_
   simp only [ecdysisref15_Small.l1]
   exact T.no (by omega) (j3 x)) (fun i hi ih x => by
   refine T.step ?_
   simp only [ecdysisref15_Small.l1, w1' hi B.n1]
   exact T.yes (by omega) (T.ite (fun _ => T.yes (by omega) (ih _)) fun _ => j3 x)) 0
 have j1 : ∀ x, T (fun k => ecdysisref15_Small.j1 k x s0 s1) := fun x => by
  refine T.step ?_
  simp only [ecdysisref15_Small.j1]
  exact l1 x
 have l0 := up (C := fun i => ∀ x, T (fun k => ecdysisref15_Small.l0 k x (i : Int) s0 s1)) s0.length (fun i hi x => by
   refine T.step ?_
   simp only [ecdysisref15_Small.l0]
   exact T.no (by omega) (j1 x)) (fun i hi ih x => by
   refine T.step ?_
   simp only [ecdysisref15_Small.l0, w1' hi B.n0]
   exact T.yes (by omega) (T.ite (fun _ => T.yes (by omega) (ih _)) fun _ => j1 x)) 0
 exact l0 _
theorem left_T : ∀ (n : Nat) (t : ST), okT n t → ∀ a d, T (fun k => ecdysisref19_left.f k t.f0 t.f1 a d)
 | 0, t, h => h.elim
 | n + 1, t, h => by
  obtain ⟨⟨hl, hx⟩, hre, hr⟩ := h
  rw [reach] at hl hre
  intro a d
  have l1 := up (C := fun i => ∀ a, T (fun k => ecdysisref19_left.l1 k a d (i : Int) t.f0 t.f1)) t.f0.length (fun i hi a => by
   refine T.step ?_
   simp only [ecdysisref19_left.l1]
   refine T.no (by omega) (T.step ?_)
   simp only [ecdysisref19_left.j3]
   exact T.no (by simp) T.const) (fun i hi ih a => by
   have hs := hx _ (mem_getD z43 hi)
   have hrd : rd_T43 t.f0 (i : Int) = t.f0.getD i z43 := rfl
   generalize t.f0.getD i z43 = x at hs hrd
   obtain ⟨_, hvl, hvv⟩ := hs
   rw [reach] at hvl
   have l2 := up (C := fun j => ∀ a, T (fun k => ecdysisref19_left.l2 k a d (i : Int) (j : Int) t.f0 t.f1)) x.f1.length (fun j hj a => by
    refine T.step ?_
    simp only [ecdysisref19_left.l2, hrd]
    refine T.yes (by omega) (T.yes (by omega) (T.no (by omega) (T.step ?_)))
    simp only [ecdysisref19_left.j5, w1' hi (by omega : t.f0.length ≤ 140737488351232)]
    exact T.no (by simp) (ih a)) (fun j hj ihj a => by
    have hv := hvv _ (mem_getD z40 hj)
    have hrv : rd_T40 x.f1 (j : Int) = x.f1.getD j z40 := rfl
    generalize x.f1.getD j z40 = v at hv hrv
    obtain ⟨_, _, hml, hmm⟩ := hv
    rw [reach] at hml
    have l3 := up (C := fun m => ∀ a, T (fun k => ecdysisref19_left.l3 k a d (i : Int) (j : Int) (m : Int) t.f0 t.f1)) v.f2.length (fun m hm a => by
     refine T.step ?_
     simp only [ecdysisref19_left.l3, hrd, hrv, w1' hj (by omega : x.f1.length ≤ 140737488351232)]
     exact T.yes (by omega) (T.yes (by omega) (T.yes (by omega) (T.yes (by omega) (T.no (by omega) (ihj a)))))) (fun m hm ihm a => by
     have ht := hmm _ (mem_getD z29 hm)
     have hrt : rd_T29 v.f2 (m : Int) = v.f2.getD m z29 := rfl
     generalize v.f2.getD m z29 = y at ht hrt
     refine T.step ?_
     simp only [ecdysisref19_left.l3, hrd, hrv, hrt, w1' hj (by omega : x.f1.length ≤ 140737488351232), w1' hm (by omega : v.f2.length ≤ 140737488351232)]
     exact T.yes (by omega) (T.yes (by omega) (T.yes (by omega) (T.yes (by omega) (T.yes (by omega) (T.ite (fun _ => T.yes (by omega) (T.bind (left_T n y ht _ _) fun b _ => ihm b)) fun _ => ihj a)))))) 0
    refine T.step ?_
    simp only [ecdysisref19_left.l2, hrd]
    refine T.yes (by omega) (T.yes (by omega) (T.yes (by omega) (T.step ?_)))
    simp only [ecdysisref19_left.j5, hrd, hrv, w1' hi (by omega : t.f0.length ≤ 140737488351232)]
    exact T.ite (fun _ => T.yes (by omega) (T.yes (by omega) (T.yes (by omega) (T.yes (by omega) (l3 _))))) fun _ => ih a) 0
   refine T.step ?_
   simp only [ecdysisref19_left.l1]
   refine T.yes (by omega) (T.step ?_)
   simp only [ecdysisref19_left.j3, hrd]
   exact T.ite (fun _ => T.yes (by omega) (T.yes (by omega) (l2 _))) fun _ => T.const) 0
  have l0 := up (C := fun i => ∀ a, T (fun k => ecdysisref19_left.l0 k a d (i : Int) t.f0 t.f1)) t.f1.length (fun i hi a => by
   refine T.step ?_
   simp only [ecdysisref19_left.l0]
   refine T.no (by omega) (T.step ?_)
   simp only [ecdysisref19_left.j1]
   exact l1 a) (fun i hi ih a => by
   refine T.step ?_
   simp only [ecdysisref19_left.l0, w1' hi (by omega : t.f1.length ≤ 140737488351232)]
   refine T.yes (by omega) (T.ite (fun _ => T.yes (by omega) (ih _)) fun _ => T.step ?_)
   simp only [ecdysisref19_left.j1]
   exact l1 a) 0
  refine T.step ?_
  show T (fun k => ecdysisref19_left.f (k + 1) _ _ _ _)
  simp only [ecdysisref19_left.f]
  exact T.ite (fun _ => T.const) fun _ => l0 _
theorem small19_T {n : Nat} {t : ST} (h : okT n t) : T (fun k => ecdysisref19_Small.f k t.f0 t.f1) := T.bind (left_T n t h 400 40) fun b _ => T.const
def lvSch : List SM := [⟨⟨#[77]⟩, [⟨⟨#[97]⟩, 1, 1, ⟨#[]⟩, false, false, ⟨#[]⟩⟩], []⟩]
def lvTree (n : Int) : ST := ⟨[⟨1, [⟨n, ⟨#[]⟩, []⟩]⟩], []⟩
theorem lvSc : Sc lvSch := ⟨by decide, fun m hm => by
 obtain rfl := List.mem_singleton.1 hm
 exact ⟨by decide, fun f hf => by obtain rfl := List.mem_singleton.1 hf; decide⟩⟩
theorem lvOk {n : Int} (h : (Lit.int .u64 n).wf = true) : okT 2 (lvTree n) := by
 refine ⟨⟨by show 1 * 32 ≤ _; decide, fun x hx => ?_⟩, by show 0 * 40 ≤ _; decide, fun x hx => by cases hx⟩
 obtain rfl := List.mem_singleton.1 hx
 refine ⟨by show (Lit.int .i64 1).wf = true; decide, by show 1 * 48 ≤ _; decide, fun v hv => ?_⟩
 obtain rfl := List.mem_singleton.1 hv
 exact ⟨h, by show (0 : Nat) ≤ _; decide, by show 0 * 48 ≤ _; decide, fun y hy => by cases hy⟩
theorem lv_B {n : Int} (h : (Lit.int .u64 n).wf = true) (hf : fit32 n = true) : treeB [] lvSch ⟨#[77]⟩ (lvTree n) = decide (n ≠ 0) := by
 have hv : vB [] lvSch ⟨⟨#[97]⟩, 1, 1, ⟨#[]⟩, false, false, ⟨#[]⟩⟩ ⟨n, ⟨#[]⟩, []⟩ = true := by
  refine vB_E ?_
  have h1 := val_v (s0 := []) (s1 := lvSch) (f := ⟨⟨#[97]⟩, 1, 1, ⟨#[]⟩, false, false, ⟨#[]⟩⟩) (v := ⟨n, ⟨#[]⟩, []⟩) (T := fun _ _ => false) (u64_ge h).1 (by show (0 : Nat) ≤ _; decide) (fun t ht => by cases ht)
  have h2 : valB (fun _ _ => false) ⟨⟨#[97]⟩, 1, 1, ⟨#[]⟩, false, false, ⟨#[]⟩⟩ ⟨n, ⟨#[]⟩, []⟩ = true := by
   simp [valB, numB, mayB, wideB, sgnB, hf, ByteArray.toList_eq]
  rw [h2] at h1
  exact h1
 have ha : atM lvSch ⟨#[77]⟩ = 0 := by simp [atM, lvSch, ixF, ByteArray.toList_eq]
 have hm : rd_T52 lvSch 0 = ⟨⟨#[77]⟩, [⟨⟨#[97]⟩, 1, 1, ⟨#[]⟩, false, false, ⟨#[]⟩⟩], []⟩ := rfl
 have hat : atF [⟨⟨#[97]⟩, 1, 1, ⟨#[]⟩, false, false, ⟨#[]⟩⟩] 1 = 0 := by simp [atF, ixF]
 have hfl : fld [⟨⟨#[97]⟩, 1, 1, ⟨#[]⟩, false, false, ⟨#[]⟩⟩] 1 = ⟨⟨#[97]⟩, 1, 1, ⟨#[]⟩, false, false, ⟨#[]⟩⟩ := by unfold fld; rw [hat]; rfl
 unfold treeB
 rw [ha, hm]
 simp only [lvTree, slB, hat, hfl, restB, valsB, oneB, List.all_cons, List.all_nil, hv, okNum, fresh, hidB, ByteArray.toList_eq]
 by_cases hn : n = 0 <;> simp [hn]
theorem live_E : E (fun k => ecdysislaw20_live.f k) true := by
 have h5 := (level (s0 := []) lvSc 2 (lvTree 5) (lvOk (by decide))).2 ⟨#[77]⟩ |>.1
 have h0 := (level (s0 := []) lvSc 2 (lvTree 0) (lvOk (by decide))).2 ⟨#[77]⟩ |>.1
 rw [lv_B (by decide) (by unfold fit32 wrap64; decide)] at h5
 rw [lv_B (by decide) (by unfold fit32 wrap64; decide)] at h0
 unfold ecdysislaw20_live.f
 refine E.bind0 rfl (E.bind h5 (E.yes rfl (E.bind h0 E.const)))
/-- Everything that comes in, no greater than a machine's. -/
structure In (s0 : List SE) (s1 : List SM) : Prop where
 big : Big s0 s1
 sc : Sc s1
theorem In.mk' {s : S25} (h : ok25 s) : In s.f0 s.f1 := by
 obtain ⟨⟨h0, h1⟩, h2, h3⟩ := h
 rw [reach] at h0 h2
 refine ⟨⟨by omega, by omega, fun x hx => ?_, fun m hm => ?_⟩, ⟨by omega, fun m hm => ⟨?_, fun f hf => ?_⟩⟩⟩
 · have := (h1 x hx).2.1
   rw [reach] at this; omega
 · have := (h3 m hm).2.1.1
   rw [reach] at this; omega
 · have := (h3 m hm).2.1.1
   rw [reach] at this; omega
 · have := ((h3 m hm).2.1.2 f hf).2.2.2.2.2.2
   rw [reach] at this; exact this
theorem live_some : E (fun k => (ecdysislaw20_live.f k).bind fun t => some t) true := E.bind live_E E.const
theorem knows {s0 : List SE} {s1 : List SM} (hs : Sc s1) (name : ByteArray) (num : Int) : ∃ b, valid_Knows.f s0 s1 name num = some b ∧ E (fun k => ecdysisref20_Knows.f k s0 s1 name num) b := by
 by_cases h : 0 ≤ atM s1 name
 · have hm := atM_mem h
   refine ⟨decide (atF (rd_T52 s1 (atM s1 name)).f1 num ≥ 0), ?_, ?_⟩
   · show (some (atM s1 name)).bind _ = _
     rw [Option.bind_some, if_pos h, if_pos h, if_pos hm.2]
     rfl
   · exact E.bind (a := atM s1 name) (message_E s0 s1 name hs.n) (E.yes h (E.yes h (E.yes hm.2 (E.bind (number_E _ _ _ num (hs.fs _ hm.1).n) E.const))))
 · refine ⟨false, ?_, ?_⟩
   · show (some (atM s1 name)).bind _ = _
     rw [Option.bind_some, if_neg h]
   · exact E.bind (a := atM s1 name) (message_E s0 s1 name hs.n) (E.no h E.const)
theorem ValidVals {s0 : List SE} {s1 : List SM} {f : SF} {v : SV} {n : Nat} (hs : In s0 s1) (ht : okVal (okT n) v) : ∃ k, ecdysislaw20_ValidVals.f k s0 s1 f.f0 f.f1 f.f2 f.f3 f.f4 f.f5 f.f6 v.f0 v.f1 v.f2 = some true := by
 obtain ⟨v0, v1, v2⟩ := v
 have same : E (fun k => ecdysislaw20_ValidVals.j0 k false s0 s1 f.f0 f.f1 f.f2 f.f3 f.f4 f.f5 f.f6 v0 v1 v2) true := by
  have hh := vals_level (s0 := s0) (f := f) hs.sc ht
  obtain ⟨b, k1, k2⟩ := knows (s0 := s0) hs.sc f.f3 f.f1
  refine E.step ?_
  simp only [ecdysislaw20_ValidVals.j0]
  exact E.no (by simp) (E.bind hh.1 (E.bind hh.2 (E.yes (by simp) (E.bind0 k1 (E.bind k2 (E.yes (by simp) live_some))))))
 have other : E (fun k => ecdysislaw20_ValidVals.j0 k true s0 s1 f.f0 f.f1 f.f2 f.f3 f.f4 f.f5 f.f6 v0 v1 v2) true := by
  refine E.step ?_
  simp only [ecdysislaw20_ValidVals.j0]
  exact E.yes trivial live_some
 have hx : okT (n + 1) (⟨[⟨0, [⟨v0, v1, v2⟩]⟩], []⟩ : ST) := by
  refine ⟨⟨by show 1 * 32 ≤ _; decide, fun x hx => ?_⟩, by show 0 * 40 ≤ _; decide, fun x hx => by cases hx⟩
  obtain rfl := List.mem_singleton.1 hx
  refine ⟨by show (Lit.int .i64 0).wf = true; decide, by show 1 * 48 ≤ _; decide, fun y hy => ?_⟩
  obtain rfl := List.mem_singleton.1 hy
  exact ht
 obtain ⟨b, hb⟩ := small_T hs.big
 obtain ⟨c, hc⟩ := small19_T hx
 refine E.get ?_
 refine E.bind hb ?_
 cases b with
 | false => exact E.no (by simp) other
 | true =>
  refine E.yes rfl (E.bind hc ?_)
  cases c with
  | false => exact other
  | true => exact same
end Go.Proofs.YtbpnfpckoapdbaaDoor.P20
end
section
namespace Go.Proofs.YtbpnfpckoapdbaaDoor.validVals
open Go.ChangeShapes Go.WideShapes Go.ChangeAt Go.RowKit Go.Lib
open Go.ChangeMaps (open_string shut_string)
open Go.Proofs.YtbpnfpckoapdbaaDoor.KD Go.Proofs.YtbpnfpckoapdbaaDoorW.PrintWords
set_option linter.unusedVariables false
theorem own : ownKnob Tryd.prog.godebug = none := by kernel_rfl
theorem laidOut : laidOutB Tryd.prog = true := by kernel_rfl
theorem first_is : Rows.laid_unicode_utf8_first = Lib.firstData := by kernel_rfl
theorem accept_is : (Rows.laid_unicode_utf8_acceptRanges : DataW Unit) = Lib.acceptData := by kernel_rfl
/-- What the condition gives the walks: the tables. -/
theorem tabs {W : World} (h : laidMetH Tryd.prog Rows.validValsRow.laid W) : M.Tabs W := by
 rw [MakeChecks.laidMetH_plain _ _ _ (by kernel_rfl)] at h
 exact utf8Tabs_of_readsT (U8Types.of196 Tryd.laysValid) ⟨by kernel_rfl, by kernel_rfl, by kernel_rfl, by kernel_rfl, by kernel_rfl, by kernel_rfl, by kernel_rfl⟩
  (first_is ▸ Lib.laidMet.reads h (.tail _ (.head _))) (accept_is ▸ Lib.laidMet.reads h (.head _))
set_option maxRecDepth 100000 in
theorem lifted (os : Os) (started : os.Started) (H : Type) (enc : TypeId × Value → H) :
  ReturnsInHanded {} Tryd.checked os 5 .any (fun w args => (Rows.validValsSpec.pre enc Tryd.prog Tryd.f5 Rows.validValsRow.domain false w args ∧ laidMetH Tryd.prog Rows.validValsRow.laid w) ∧ sizedMet enc Tryd.prog Tryd.f5 (OpenSpec.ofChange Rows.validValsSpec) false w args) (Rows.validValsSpec.post enc Tryd.prog Tryd.f5 false true false false) := by
 refine returnsInHanded_of_change_and (C := Tryd.checked) (X := fun w _ => laidMetH Tryd.prog Rows.validValsRow.laid w) (fun _ _ _ hh h => h.of_heap hh) own started (by kernel_rfl) Tryd.func5
  (ChangeSpec.witness_shaped (enc := enc) (C := Tryd.checked) (os := os) (X := fun w _ => laidMetH Tryd.prog Rows.validValsRow.laid w) false (World.laidAll Tryd.prog os Rows.validValsRow.laid) #[.agg #[.slice none 0 0, .slice none 0 0], .agg #[.string ByteArray.empty, .int .i64 0, .int .i64 0, .string ByteArray.empty, .bool false, .bool false, .string ByteArray.empty], .agg #[.int .u64 0, .string ByteArray.empty, .slice none 0 0]] 8 (World.laidAll_os _ _ _)
   (World.shaped_of_ZipB (by kernel_rfl) (by kernel_rfl)) (by kernel_rfl) (by kernel_rfl) (by kernel_rfl)
   (by rw [MakeChecks.laidMetH_plain _ _ _ (by kernel_rfl)]; exact laidMet_laidAll _ (by kernel_rfl) (by kernel_rfl))) ?_
 intro W base args ds gs before hval0 hW hcnd hsz0 hL _
 have hT := tabs hL
 have hsz : (DataW.weightsEach Tryd.prog (Tryd.f5.params.toList ++ Rows.validValsSpec.plain.varTypes Tryd.prog) (ds ++ gs)).all (· ≤ reachBytes) = true := hsz0
 have hval : ∀ (j : Nat) t v, Tryd.f5.params[j]? = some t → args[j]? = some v → Value.okWide Tryd.prog W .any base t v := hval0
 have hW' := hW
 obtain ⟨p, q, hA0, hV, rfl, hfz, hnd⟩ := hW
 have hA : DataW.TrodAll enc Tryd.prog W 0 (fun _ => true) true Tryd.f5.params.toList args.toList ds p := hA0
 rw [Tryd.params5] at hA hval hsz
 obtain ⟨v0, vs0, d0, ds0, p0, q0, hargs, rfl, rfl, h0, r0⟩ := trodAll_cons hA
 obtain ⟨v1, vs1, d1, ds1, p1, q1, rfl, rfl, rfl, h1, r1⟩ := trodAll_cons r0
 obtain ⟨v2, vs2, d2, ds2, p2, q2, rfl, rfl, rfl, h2, r2⟩ := trodAll_cons r1
 obtain ⟨rfl, rfl, rfl⟩ := trodAll_nil r2
 obtain rfl : args = #[v0, v1, v2] := by cases args; simp_all
 obtain ⟨rfl, rfl⟩ := trodVars_none hV
 obtain ⟨cs0, rfl, _⟩ := okWide_struct Tryd.underlying25 (hval 0 25 v0 rfl rfl)
 have k0 := h0
 have lt0 : ∀ x ∈ p0, x.block < W.heap.size := by obtain ⟨m, hm⟩ := k0; exact DataW.trod_lt m _ _ _ hm
 have li0 : Open.Light Tryd.prog 25 d0 := fun n hn => by simpa using List.all_eq_true.1 hsz n (DataW.weights_mem_each (j := 0) rfl rfl n hn)
 obtain ⟨fu0, hf0⟩ := h0
 obtain ⟨y0, hk0, w0⟩ := Ops.opens25 fu0 _ enc W 0 (fun _ => true) true _ _ hf0 li0
 have ec0 : (Value.agg cs0).cells.toList.toArray = cs0 := by simp [Value.cells]
 obtain ⟨A0_0, c0_0, A0_1, c0_1, hcs0, hl0_0, hc0_0, hl0_1, hc0_1⟩ := k25_open hk0
 rw [hcs0] at ec0
 obtain ⟨cs1, rfl, _⟩ := okWide_struct Tryd.underlying36 (hval 1 36 v1 rfl rfl)
 have k1 := h1
 have lt1 : ∀ x ∈ p1, x.block < W.heap.size := by obtain ⟨m, hm⟩ := k1; exact DataW.trod_lt m _ _ _ hm
 have li1 : Open.Light Tryd.prog 36 d1 := fun n hn => by simpa using List.all_eq_true.1 hsz n (DataW.weights_mem_each (j := 1) rfl rfl n hn)
 obtain ⟨fu1, hf1⟩ := h1
 obtain ⟨y1, hk1, w1⟩ := Ops.opens36 fu1 _ enc W 0 (fun _ => true) true _ _ hf1 li1
 have ec1 : (Value.agg cs1).cells.toList.toArray = cs1 := by simp [Value.cells]
 obtain hcs1 := k36_open hk1
 rw [hcs1] at ec1
 obtain ⟨cs2, rfl, _⟩ := okWide_struct Tryd.underlying40 (hval 2 40 v2 rfl rfl)
 have k2 := h2
 have lt2 : ∀ x ∈ p2, x.block < W.heap.size := by obtain ⟨m, hm⟩ := k2; exact DataW.trod_lt m _ _ _ hm
 have li2 : Open.Light Tryd.prog 40 d2 := fun n hn => by simpa using List.all_eq_true.1 hsz n (DataW.weights_mem_each (j := 2) rfl rfl n hn)
 obtain ⟨fu2, hf2⟩ := h2
 obtain ⟨y2, hk2, w2⟩ := Ops.opensVal fu2 fu2 (Nat.le_refl _) _ enc W 0 (fun _ => true) true _ _ hf2 li2
 have ec2 : (Value.agg cs2).cells.toList.toArray = cs2 := by simp [Value.cells]
 obtain ⟨A2_2, c2_2, hcs2, hl2_2, hc2_2⟩ := k40_open hk2
 rw [hcs2] at ec2
 clear hA0 hval0 hsz0 hsz hL
 obtain ⟨k, hP⟩ := (P20.ValidVals (f := y1) (P20.In.mk' w0) w2)
 have hcall := PV20.ecdysislaw20_ValidVals.calls k A0_0 c0_0 y0.f0 A0_1 c0_1 y0.f1 y1.f0 y1.f1 y1.f2 y1.f3 y1.f4 y1.f5 y1.f6 y2.f0 y2.f1 (fun _ => True) A2_2 c2_2 y2.f2 true W hT hc0_0 hl0_0 hc0_1 hl0_1 (Kd.V_mk hl2_2 (fun W2 hW2 => Kd.Heap.C k29_heap (fun k_ hk_ => hW2 k_ trivial hk_) hc2_2)) hP
 have ec0' := ec0.symm
 subst ec0'
 have ec1' := ec1.symm
 subst ec1'
 have ec2' := ec2.symm
 subst ec2'
 refine hcall.mono fun e W' ⟨he, bel0⟩ => ?_
 have bel : Below W.heap.size W W' := bel0
 subst he
 exact ⟨_, rfl, _, _, _, [], _, [], hW', trodAll_mk1 (shut_bool Tryd.underlying4 _), (trodAll_cons_mk (Below.trod laidOut (by kernel_rfl) (of_decide_eq_true (by kernel_rfl)) k0 bel lt0) (trodAll_cons_mk (Below.trod laidOut (by kernel_rfl) (of_decide_eq_true (by kernel_rfl)) k1 bel lt1) (trodAll_cons_mk (Below.trod laidOut (by kernel_rfl) (of_decide_eq_true (by kernel_rfl)) k2 bel lt2) trodAll_mk0))), rfl, bel.frame _, fun h => by cases h⟩
theorem over : Rows.validValsRow.holds Tryd.pinned (OpenSpec.ofChange Rows.validValsSpec) :=
 OpenClaim.holds_of_wide 5 Tryd.f5 rfl rfl rfl rfl rfl rfl rfl ⟨rfl, rfl, rfl, rfl, rfl⟩ rfl rfl rfl rfl rfl (by kernel_rfl) Tryd.func5 (by kernel_rfl)
  (of_decide_eq_true (by kernel_rfl)) (by unfold Func.isWrapper; first | (rw [if_pos (by decide +kernel)]; kernel_rfl) | (rw [if_neg (by decide +kernel)]; exact ⟨rfl, rfl⟩))
  (fun os started H enc _ => lifted os started H enc)
theorem proved : Rows.ValidValsSaid := over
theorem card_proved : Rows.ValidValsCardSaid :=
 Claim7.holds_tied_plain_at .later [] [.data, .pinned] true Rows.validValsCard.stood.harness false
  over (fun _ h => by cases h) (by kernel_rfl) (fun _ h => by cases h) validVals_row_tie rfl ⟨rfl, rfl⟩ (by kernel_rfl) rfl
  (fun f fn hf hfn => by
   obtain rfl : f = 5 := Option.some.inj ((show Tryd.prog.funcNamed Rows.validValsRow.func = some 5 by kernel_rfl).symm.trans hf) |>.symm
   obtain rfl : fn = Tryd.f5 := (Option.some.inj (Tryd.func5.symm.trans hfn)).symm
   exact ⟨by kernel_rfl, fun j t ht => by
    rw [Tryd.params5] at ht
    have hm : t ∈ [25, 36, 40] := by simpa using Array.mem_of_getElem? ht
    have hall : ([25, 36, 40].all fun u => !Tryd.prog.wantsStandIn u) = true := by kernel_rfl
    exact (show Tryd.prog.wantsStandIn t = false by simpa using List.all_eq_true.1 hall t hm)⟩)
  (by kernel_rfl)
#print axioms card_proved
end Go.Proofs.YtbpnfpckoapdbaaDoor.validVals
namespace Go.Proofs.YtbpnfpckoapdbaaDoor
/-- The tied card, under a short name, for the claim. -/
theorem validVals_holds : Rows.ValidValsCardSaid := validVals.card_proved
end Go.Proofs.YtbpnfpckoapdbaaDoor
end

/- The law ValidLess holds for every input that the row lets in (text 4 of 5; some of it the words and functions that the kit's print and this claim's programs wrote) -/
import Derived.Test.YtbpnfpckoapdbaaDoorQValidLess2
import Derived.Deep.Slices
import Derived.ChangeArms
import Derived.ChangeSame
import Derived.ProofKit
import Derived.SizedLaws
import Derived.Test.YtbpnfpckoapdbaaDoorProg
import Derived.KernelRfl
section
namespace Go.Proofs.YtbpnfpckoapdbaaDoor.PV20
open Go.RowKit Go.Proofs.YtbpnfpckoapdbaaDoor.M Go.Proofs.YtbpnfpckoapdbaaDoor.KD Go.Proofs.YtbpnfpckoapdbaaDoor Go.Proofs.YtbpnfpckoapdbaaDoorW.PrintWords Go.Proofs.YtbpnfpckoapdbaaDoorW.PrintLast Go.Proofs.YtbpnfpckoapdbaaDoorW.PrintMore
attribute [local go_sem] max2_int min2_int max_two min_two max_three min_three max_four min_four   -- for this text's walks alone
set_option linter.unusedVariables false
set_option linter.unusedSimpArgs false
end Go.Proofs.YtbpnfpckoapdbaaDoor.PV20
end
section
namespace Go.Proofs.YtbpnfpckoapdbaaDoor.PV20
open Go.RowKit Go.Proofs.YtbpnfpckoapdbaaDoor.M Go.Proofs.YtbpnfpckoapdbaaDoor.KD Go.Proofs.YtbpnfpckoapdbaaDoor Go.Proofs.YtbpnfpckoapdbaaDoorW.PrintWords Go.Proofs.YtbpnfpckoapdbaaDoorW.PrintLast Go.Proofs.YtbpnfpckoapdbaaDoorW.PrintMore
attribute [local go_sem] max2_int min2_int max_two min_two max_three min_three max_four min_four   -- for this text's walks alone
set_option linter.unusedVariables false
set_option linter.unusedSimpArgs false
mutual
def ecdysislaw20_ValidLess.j0 : Nat → ByteArray → Bool → List (S48) → List (S52) → List (S43) → List (S63) → Option (Bool)
 | 0, _, _, _, _, _, _ => none
 | k + 1, x1, x18, x257000, x257001, x258000, x258001 => if x18 = true then ((ecdysislaw20_live.f k).bind fun t260 => (some t260)) else ((valid_Tree.f k x257000 x257001 x1 ([] : List (S43)) ([] : List (S63))).bind fun t261 => ((ecdysisref15_Message.f k x257000 x257001 x1).bind fun t262 => (if (t261 != (decide (t262 ≥ 0))) = true then (some false) else ((valid_Tree.f k x257000 x257001 x1 x258000 x258001).bind fun t263 => (if t263 = true then (ecdysislaw20_ValidLess.l0 k x1 0 x257000 x257001 x258000 x258001) else ((ecdysislaw20_live.f k).bind fun t264 => (some t264)))))))
def ecdysislaw20_ValidLess.l0 : Nat → ByteArray → Int → List (S48) → List (S52) → List (S43) → List (S63) → Option (Bool)
 | 0, _, _, _, _, _, _ => none
 | k + 1, x1, x7, x257000, x257001, x258000, x258001 => if x7 < (x258000.length : Int) then ((some (([] : List (S43)) : List (S43))).bind fun y266 => (if 0 ≤ x7 then (if x7 ≤ (x258000.length : Int) then ((some (x258000.take (x7 : Int).toNat : List (S43))).bind fun y269 => (if y266.length + y269.length < 4398046511104 then ((some (y266 ++ y269 : List (S43))).bind fun y274 => (if 0 ≤ (wrap64 (x7 + 1)) then (if (wrap64 (x7 + 1)) ≤ (x258000.length : Int) then ((some (x258000.drop ((wrap64 (x7 + 1)) : Int).toNat : List (S43))).bind fun y277 => (if y274.length + y277.length < 4398046511104 then ((valid_Tree.f k x257000 x257001 x1 (y274 ++ y277) x258001).bind fun t285 => (if t285 = true then (ecdysislaw20_ValidLess.l0 k x1 (wrap64 (x7 + 1)) x257000 x257001 x258000 x258001) else (some false))) else (none))) else (none)) else (none))) else (none))) else (none)) else (none))) else (ecdysislaw20_ValidLess.l1 k x1 0 x257000 x257001 x258000 x258001)
def ecdysislaw20_ValidLess.l1 : Nat → ByteArray → Int → List (S48) → List (S52) → List (S43) → List (S63) → Option (Bool)
 | 0, _, _, _, _, _, _ => none
 | k + 1, x1, x9, x257000, x257001, x258000, x258001 => if x9 < (x258001.length : Int) then ((some (([] : List (S63)) : List (S63))).bind fun y287 => (if 0 ≤ x9 then (if x9 ≤ (x258001.length : Int) then ((some (x258001.take (x9 : Int).toNat : List (S63))).bind fun y290 => (if y287.length + y290.length < 3518437208883 then ((some (y287 ++ y290 : List (S63))).bind fun y294 => (if 0 ≤ (wrap64 (x9 + 1)) then (if (wrap64 (x9 + 1)) ≤ (x258001.length : Int) then ((some (x258001.drop ((wrap64 (x9 + 1)) : Int).toNat : List (S63))).bind fun y297 => (if y294.length + y297.length < 3518437208883 then ((valid_Tree.f k x257000 x257001 x1 x258000 (y294 ++ y297)).bind fun t304 => (if t304 = true then (ecdysislaw20_ValidLess.l1 k x1 (wrap64 (x9 + 1)) x257000 x257001 x258000 x258001) else (some false))) else (none))) else (none)) else (none))) else (none))) else (none)) else (none))) else ((ecdysislaw20_live.f k).bind fun t305 => (some t305))
end
def ecdysislaw20_ValidLess.f (k : Nat) (l0_0 : List (S48)) (l0_1 : List (S52)) (a1 : ByteArray) (l2_0 : List (S43)) (l2_1 : List (S63)) : Option (Bool) := (ecdysisref15_Small.f k l0_0 l0_1).bind fun t258 => (if t258 = true then ((ecdysisref19_Small.f k l2_0 l2_1).bind fun t259 => (ecdysislaw20_ValidLess.j0 k a1 (!t259) l0_0 l0_1 l2_0 l2_1)) else (ecdysislaw20_ValidLess.j0 k a1 true l0_0 l0_1 l2_0 l2_1))
def ecdysislaw20_ValidLess.T3 : Bool × List (List Nat × List Nat) := (true, [([], []), ([], []), ([], []), ([0, 1, 2], [0, 1, 2]), ([], []), ([], []), ([4, 5, 3], [4, 5]), ([6], [6]), ([3, 7], [3, 7])])
def ecdysislaw20_ValidLess.B3 : List Nat := [0, 0, 0, 7, 0, 0, 63, 127, 255]
theorem ecdysislaw20_ValidLess.tab3 : rtab .any (opsOf Tryd.f4 3) = ecdysislaw20_ValidLess.T3 := by kernel_rfl
theorem ecdysislaw20_ValidLess.bits3 : waitsOk ecdysislaw20_ValidLess.T3.2 ecdysislaw20_ValidLess.B3 = true := by kernel_rfl
def ecdysislaw20_ValidLess.T11 : Bool × List (List Nat × List Nat) := (true, [([], []), ([], []), ([1], [1]), ([], []), ([2, 3], [2, 3]), ([0, 4], [0, 4]), ([], []), ([6], [6]), ([], []), ([8], [8]), ([7, 9], [7, 9]), ([5, 10, 5], [5, 10]), ([0, 1, 2, 3, 4, 5, 6, 7, 8, 9, 10, 11], []), ([12, 11, 11, 0, 1, 2, 3, 4, 5, 6, 7, 8, 9, 10, 11], [11, 12])])
def ecdysislaw20_ValidLess.B11 : List Nat := [0, 0, 2, 0, 14, 31, 0, 64, 0, 256, 960, 2047, 4095, 8191]
theorem ecdysislaw20_ValidLess.tab11 : rtab .any (opsOf Tryd.f4 11) = ecdysislaw20_ValidLess.T11 := by kernel_rfl
theorem ecdysislaw20_ValidLess.bits11 : waitsOk ecdysislaw20_ValidLess.T11.2 ecdysislaw20_ValidLess.B11 = true := by kernel_rfl
def ecdysislaw20_ValidLess.T18 : Bool × List (List Nat × List Nat) := (true, [([], []), ([], []), ([1], [1]), ([], []), ([2, 3], [2, 3]), ([0, 4], [0, 4]), ([], []), ([6], [6]), ([], []), ([8], [8]), ([7, 9], [7, 9]), ([5, 10, 5], [5, 10]), ([0, 1, 2, 3, 4, 5, 6, 7, 8, 9, 10, 11], []), ([12, 11, 11, 0, 1, 2, 3, 4, 5, 6, 7, 8, 9, 10, 11], [11, 12])])
def ecdysislaw20_ValidLess.B18 : List Nat := [0, 0, 2, 0, 14, 31, 0, 64, 0, 256, 960, 2047, 4095, 8191]
theorem ecdysislaw20_ValidLess.tab18 : rtab .any (opsOf Tryd.f4 18) = ecdysislaw20_ValidLess.T18 := by kernel_rfl
theorem ecdysislaw20_ValidLess.bits18 : waitsOk ecdysislaw20_ValidLess.T18.2 ecdysislaw20_ValidLess.B18 = true := by kernel_rfl
set_option maxHeartbeats 8000000 in
set_option maxRecDepth 100000 in
theorem ecdysislaw20_ValidLess.calls (k : Nat) (A0_0 : Option Addr) (c0_0 : Nat) (l0_0 : List (S48)) (A0_1 : Option Addr) (c0_1 : Nat) (l0_1 : List (S52)) (a1 : ByteArray) (P2_0_ : Nat → Prop) (A2_0 : Option Addr) (c2_0 : Nat) (l2_0 : List (S43)) (A2_1 : Option Addr) (c2_1 : Nat) (l2_1 : List (S63)) (r : Bool) (w : World) (hT : Tabs w) (hr0_0 : Kd.C k48 w A0_0 l0_0.length l0_0) (hc0_0 : l0_0.length ≤ c0_0) (hr0_1 : Kd.C k52 w A0_1 l0_1.length l0_1) (hc0_1 : l0_1.length ≤ c0_1) (hs2_0 : Kd.V k43 43 w w.heap.size (fun k_ => P2_0_ k_) (.slice A2_0 l2_0.length c2_0) l2_0) (hr2_1 : Kd.C k63 w A2_1 l2_1.length l2_1) (hc2_1 : l2_1.length ≤ c2_1) (h : ecdysislaw20_ValidLess.f k l0_0 l0_1 a1 l2_0 l2_1 = some r) :
  Calls Tryd.prog 4 #[.agg #[.slice A0_0 l0_0.length c0_0, .slice A0_1 l0_1.length c0_1], .string a1, .agg #[.slice A2_0 l2_0.length c2_0, .slice A2_1 l2_1.length c2_1]] w fun e w' => e = .returned (.bool r) ∧ Below w.heap.size w w' := by
 have HU8 := Aside0.mk hT
 clear hT
 have hu25 := Tryd.underlying25
 have hu29 := Tryd.underlying29
 have HR0_0 := Aside0.mk hr0_0
 have HC0_0 := Aside0.mk hc0_0
 clear hr0_0 hc0_0
 have HR0_1 := Aside0.mk hr0_1
 have HC0_1 := Aside0.mk hc0_1
 clear hr0_1 hc0_1
 have HO2_0 := Aside0.mk (show Kd.V k43 43 w w.heap.size (fun k_ => (P2_0_ k_ ∨ w.heap.size ≤ k_)) (.slice A2_0 l2_0.length c2_0) l2_0 from Kd.V_mono hs2_0 (fun k_ hk => .inl hk))
 have HR2_1 := Aside0.mk hr2_1
 have HC2_1 := Aside0.mk hc2_1
 clear hr2_1 hc2_1
 have HB := Aside0.mk (Below.refl w.heap.size w)
 have H : ((ecdysisref15_Small.f k l0_0 l0_1).bind fun t258 => (if t258 = true then ((ecdysisref19_Small.f k l2_0 l2_1).bind fun t259 => (ecdysislaw20_ValidLess.j0 k a1 (!t259) l0_0 l0_1 l2_0 l2_1)) else (ecdysislaw20_ValidLess.j0 k a1 true l0_0 l0_1 l2_0 l2_1))) = some r := h
 clear h
 have HC4 := Aside0.mk H
 clear H
 go_enter Tryd.func4, Tryd.ntmps4
 go_upto_region 1 with (first | ((with_reducible refine gate_dst (N := 3) rfl ?_); refine box_event ?hg (N := 3) ?hd (cs := #[.slice A0_0 l0_0.length c0_0, .slice A0_1 l0_1.length c0_1]) (t := 25) ?hr ?_; (case hd => rfl); (case hg => rfl); (case hr => first | (go_simp; done) | (go_simp; rfl)); intro gb256 hg w5 hbox hb; have n0_ := Aside0.mk (Kd.V_below (Kd.V_elderB HO2_0.out gb256 (Nat.le_of_eq hg.symm)) hb); have n1_ := Aside0.mk (below_step HB.out hb); have n2_ := Aside0.mk (hbox); clear HO2_0; clear HB; have HO2_0 := n0_; have HB := n1_; have BK256 := n2_; clear n0_ n1_ n2_; clear hb hbox hg) | ((with_reducible refine gate_dst (N := 5) rfl ?_); refine box_event ?hg (N := 5) ?hd (cs := #[.slice A2_0 l2_0.length c2_0, .slice A2_1 l2_1.length c2_1]) (t := 29) ?hr ?_; (case hd => rfl); (case hg => rfl); (case hr => first | (go_simp; done) | (go_simp; rfl)); intro gb257 hg w6 hbox hb; have n0_ := Aside0.mk (Kd.V_below (Kd.V_elderB HO2_0.out gb257 (Nat.le_of_eq hg.symm)) hb); have n1_ := Aside0.mk (blk_below BK256.out hb); have n2_ := Aside0.mk (below_step HB.out hb); have n3_ := Aside0.mk (hbox); have n6_ := Aside0.mk ((by rw [hg]; exact Nat.ne_of_lt (blk_lt BK256.out) : gb256 ≠ gb257)); have n7_ := Aside0.mk ((by rw [hg]; exact Nat.ne_of_gt (blk_lt BK256.out) : gb257 ≠ gb256)); clear HO2_0; clear BK256; clear HB; have HO2_0 := n0_; have BK256 := n1_; have HB := n2_; have BK257 := n3_; have NB256_257 := n6_; have NB257_256 := n7_; clear n0_ n1_ n2_ n3_ n6_ n7_; clear hb hbox hg))
 (try simp only [Act.put, List.setIfInBounds_toArray, List.set_cons_zero, List.set_cons_succ])
 go_cut [18] (fun v18 wc => ∃ (kq : Nat) (x18_3 : Bool), v18 = .bool x18_3 ∧ Aside0 (ecdysislaw20_ValidLess.j0 kq a1 x18_3 l0_0 l0_1 l2_0 l2_1 = some r) ∧ Aside0 (kq ≤ k) ∧ Aside0 (Kd.V k43 43 wc w.heap.size (fun k_ => (P2_0_ k_ ∨ w.heap.size ≤ k_) ∧ k_ ≠ gb256 ∧ k_ ≠ gb257) (.slice A2_0 l2_0.length c2_0) l2_0) ∧ Aside0 (wc.heap[gb256]? = some (.cells #[(.slice A0_0 l0_0.length c0_0), (.slice A0_1 l0_1.length c0_1)] 25 (0, 0))) ∧ Aside0 (wc.heap[gb257]? = some (.cells #[(.slice A2_0 l2_0.length c2_0), (.slice A2_1 l2_1.length c2_1)] 29 (0, 0))) ∧ Aside0 (Below w.heap.size w wc))
 case first =>
  have H := HC4.out
  clear HC4
  replace H := Option.bind_eq_some_iff.mp H
  obtain ⟨t258, A70, H⟩ := H
  replace H : (if t258 = true then ((ecdysisref19_Small.f k l2_0 l2_1).bind fun t259 => (ecdysislaw20_ValidLess.j0 k a1 (!t259) l0_0 l0_1 l2_0 l2_1)) else (ecdysislaw20_ValidLess.j0 k a1 true l0_0 l0_1 l2_0 l2_1)) = some r := H
  have A7 := Aside0.mk A70
  clear A70
  by_cases c8 : t258 = true
  · subst c8
    have H1 : ((ecdysisref19_Small.f k l2_0 l2_1).bind fun t259 => (ecdysislaw20_ValidLess.j0 k a1 (!t259) l0_0 l0_1 l2_0 l2_1)) = some r := by rw [if_pos rfl] at H; exact H
    clear H
    have H := H1
    clear H1
    replace H := Option.bind_eq_some_iff.mp H
    obtain ⟨t259, A90, H⟩ := H
    replace H : (ecdysislaw20_ValidLess.j0 k a1 (!t259) l0_0 l0_1 l2_0 l2_1) = some r := H
    have A9 := Aside0.mk A90
    clear A90
    have H' := Aside0.mk H
    clear H
    have hnb10 := NB256_257.out
    have hnc10 := NB257_256.out
    have hcz11_0 : w6.cell? ⟨gb256, 0, none⟩ = some (.slice A0_0 l0_0.length c0_0) := (blk_cell BK256.out 0).trans rfl
    have hcz11_1 : w6.cell? ⟨gb256, 1, none⟩ = some (.slice A0_1 l0_1.length c0_1) := (blk_cell BK256.out 1).trans rfl
    have hfz11_0 := blk_frozen BK256.out 0
    have hfz11_1 := blk_frozen BK256.out 1
    go_wp2_with (first | ((with_reducible refine gate_callee (f := 6) rfl ?_); refine goesL_ (some 12) rfl rfl Tryd.func6 (by kernel_rfl) rfl #[.agg #[.slice A0_0 l0_0.length c0_0, .slice A0_1 l0_1.length c0_1]] rfl (by (try simp only [List.map_toArray, List.map_cons, List.map_nil]); first | done | rfl | (simp only [List.length_drop, List.length_take]; rfl)) ?_; (with_reducible refine (ecdysisref15_Small.calls k _ _ l0_0 _ _ l0_1 true _ ?side1 ?side2 ?side3 ?side4 A7.out).mono ?_); (case side1 => repeat (first | exact (Kd.C_below HR0_0.out HB.out) )); (case side2 => exact HC0_0.out); (case side3 => repeat (first | exact (Kd.C_below HR0_1.out HB.out) )); (case side4 => exact HC0_1.out); rintro e w12 ⟨rfl, hb⟩; refine ⟨_, rfl, ?_⟩; have n0_ := Aside0.mk (Kd.V_below HO2_0.out hb); have n1_ := Aside0.mk (blk_below BK256.out hb); have n2_ := Aside0.mk (blk_below BK257.out hb); have n3_ := Aside0.mk (below_step HB.out hb); clear HO2_0; clear BK256; clear BK257; clear HB; have HO2_0 := n0_; have BK256 := n1_; have BK257 := n2_; have HB := n3_; clear n0_ n1_ n2_ n3_; (try clear hb); (try clear hb2); (try clear hk); (try clear hi); have hcz13_0 : w12.cell? ⟨gb257, 0, none⟩ = some (.slice A2_0 l2_0.length c2_0) := (blk_cell BK257.out 0).trans rfl; have hcz13_1 : w12.cell? ⟨gb257, 1, none⟩ = some (.slice A2_1 l2_1.length c2_1) := (blk_cell BK257.out 1).trans rfl; have hfz13_0 := blk_frozen BK257.out 0; have hfz13_1 := blk_frozen BK257.out 1) | (go_at_call 7; (with_reducible refine (ecdysisref19_Small.calls k _ _ l2_0 _ _ l2_1 t259 _ ?side1 ?side2 ?side3 ?side4 A9.out).mono ?_); (case side1 => repeat (first | exact (Kd.V_reads' HO2_0.out).2.2 )); (case side2 => exact (Kd.V_reads' HO2_0.out).2.1); (case side3 => repeat (first | exact (Kd.C_below HR2_1.out HB.out) )); (case side4 => exact HC2_1.out); rintro e w14 ⟨rfl, hb⟩; have n0_ := Aside0.mk (Kd.V_below HO2_0.out hb); have n1_ := Aside0.mk (blk_below BK256.out hb); have n2_ := Aside0.mk (blk_below BK257.out hb); have n3_ := Aside0.mk (below_step HB.out hb); clear HO2_0; clear BK256; clear BK257; clear HB; have HO2_0 := n0_; have BK256 := n1_; have BK257 := n2_; have HB := n3_; clear n0_ n1_ n2_ n3_; (try clear hb); (try clear hb2); (try clear hk); (try clear hi)))
    go_meet
    case rel => exact ⟨_, (!t259), (by first | rfl ), H', ⟨by first | omega ⟩, ⟨by exact Kd.V_mono HO2_0.out (fun _ hk => ⟨hk.1.1, ⟨hk.1.2, hk.2⟩⟩)⟩, ⟨by exact BK256.out⟩, ⟨by exact BK257.out⟩, ⟨by exact HB.out⟩⟩
  · replace c8 := Bool.eq_false_iff.mpr c8
    subst c8
    have H1 : (ecdysislaw20_ValidLess.j0 k a1 true l0_0 l0_1 l2_0 l2_1) = some r := by rw [if_neg (show ¬ (false = true) by decide)] at H; exact H
    clear H
    have H := H1
    clear H1
    have H' := Aside0.mk H
    clear H
    have hnb15 := NB256_257.out
    have hnc15 := NB257_256.out
    have hcz16_0 : w6.cell? ⟨gb256, 0, none⟩ = some (.slice A0_0 l0_0.length c0_0) := (blk_cell BK256.out 0).trans rfl
    have hcz16_1 : w6.cell? ⟨gb256, 1, none⟩ = some (.slice A0_1 l0_1.length c0_1) := (blk_cell BK256.out 1).trans rfl
    have hfz16_0 := blk_frozen BK256.out 0
    have hfz16_1 := blk_frozen BK256.out 1
    go_wp2_with (first | ((with_reducible refine gate_callee (f := 6) rfl ?_); refine goesL_ (some 12) rfl rfl Tryd.func6 (by kernel_rfl) rfl #[.agg #[.slice A0_0 l0_0.length c0_0, .slice A0_1 l0_1.length c0_1]] rfl (by (try simp only [List.map_toArray, List.map_cons, List.map_nil]); first | done | rfl | (simp only [List.length_drop, List.length_take]; rfl)) ?_; (with_reducible refine (ecdysisref15_Small.calls k _ _ l0_0 _ _ l0_1 false _ ?side1 ?side2 ?side3 ?side4 A7.out).mono ?_); (case side1 => repeat (first | exact (Kd.C_below HR0_0.out HB.out) )); (case side2 => exact HC0_0.out); (case side3 => repeat (first | exact (Kd.C_below HR0_1.out HB.out) )); (case side4 => exact HC0_1.out); rintro e w17 ⟨rfl, hb⟩; refine ⟨_, rfl, ?_⟩; have n0_ := Aside0.mk (Kd.V_below HO2_0.out hb); have n1_ := Aside0.mk (blk_below BK256.out hb); have n2_ := Aside0.mk (blk_below BK257.out hb); have n3_ := Aside0.mk (below_step HB.out hb); clear HO2_0; clear BK256; clear BK257; clear HB; have HO2_0 := n0_; have BK256 := n1_; have BK257 := n2_; have HB := n3_; clear n0_ n1_ n2_ n3_; (try clear hb); (try clear hb2); (try clear hk); (try clear hi)))
    go_meet
    case rel => exact ⟨_, (true), (by first | rfl ), H', ⟨by first | omega ⟩, ⟨by exact Kd.V_mono HO2_0.out (fun _ hk => ⟨hk.1.1, ⟨hk.1.2, hk.2⟩⟩)⟩, ⟨by exact BK256.out⟩, ⟨by exact BK257.out⟩, ⟨by exact HB.out⟩⟩
 case rest =>
  clear HC4
  try clear c1
  try clear c2
  try clear p2
  try clear c4
  try clear c6
  try clear c8
  try clear c10
  try clear c15
  try clear hcz11_0
  try clear hcz11_1
  try clear hcz13_0
  try clear hcz13_1
  try clear hcz16_0
  try clear hcz16_1
  try clear hfz11_0
  try clear hfz11_1
  try clear hfz13_0
  try clear hfz13_1
  try clear hfz16_0
  try clear hfz16_1
  obtain ⟨kq, x18_3, rfl, HA, HJ3, HO_258000, BK256, BK257, HB⟩ := hcut
  cases kq with
  | zero => exact absurd HA.out (by simp [ecdysislaw20_ValidLess.j0])
  | succ kj3 =>
    have H := HA.out
    clear HA
    simp only [ecdysislaw20_ValidLess.j0] at H
    by_cases c18 : x18_3 = true
    · subst c18
      have H1 : ((ecdysislaw20_live.f kj3).bind fun t260 => (some t260)) = some r := by rw [if_pos rfl] at H; exact H
      clear H
      have H := H1
      clear H1
      replace H := Option.bind_eq_some_iff.mp H
      obtain ⟨t260, A190, H⟩ := H
      replace H : (some t260) = some r := H
      have A19 := Aside0.mk A190
      clear A190
      obtain rfl := Option.some.inj H
      go_wp2_with (first | ((with_reducible refine gate_callee (f := 8) rfl ?_); refine goesL_ (some 19) rfl rfl Tryd.func8 (by kernel_rfl) rfl #[] rfl (by (try simp only [List.map_toArray, List.map_cons, List.map_nil]); first | done | rfl | (simp only [List.length_drop, List.length_take]; rfl)) ?_; (with_reducible refine (ecdysislaw20_live.calls kj3  t260 _ ?sideT A19.out).mono ?_); (case sideT => exact Tabs.below HU8.out HB.out); rintro e w20 ⟨rfl, hb⟩; refine ⟨_, rfl, ?_⟩; have n0_ := Aside0.mk (Kd.V_below HO_258000.out hb); have n1_ := Aside0.mk (blk_below BK256.out hb); have n2_ := Aside0.mk (blk_below BK257.out hb); have n3_ := Aside0.mk (below_step HB.out hb); clear HO_258000; clear BK256; clear BK257; clear HB; have HO_258000 := n0_; have BK256 := n1_; have BK257 := n2_; have HB := n3_; clear n0_ n1_ n2_ n3_; (try clear hb); (try clear hb2); (try clear hk); (try clear hi)))
      go_ret
      exact ⟨by first | rfl , by exact HB.out⟩
    · replace c18 := Bool.eq_false_iff.mpr c18
      subst c18
      have H1 : ((valid_Tree.f kj3 l0_0 l0_1 a1 ([] : List (S43)) ([] : List (S63))).bind fun t261 => ((ecdysisref15_Message.f kj3 l0_0 l0_1 a1).bind fun t262 => (if (t261 != (decide (t262 ≥ 0))) = true then (some false) else ((valid_Tree.f kj3 l0_0 l0_1 a1 l2_0 l2_1).bind fun t263 => (if t263 = true then (ecdysislaw20_ValidLess.l0 kj3 a1 0 l0_0 l0_1 l2_0 l2_1) else ((ecdysislaw20_live.f kj3).bind fun t264 => (some t264))))))) = some r := by rw [if_neg (show ¬ (false = true) by decide)] at H; exact H
      clear H
      have H := H1
      clear H1
      replace H := Option.bind_eq_some_iff.mp H
      obtain ⟨t261, A210, H⟩ := H
      replace H : ((ecdysisref15_Message.f kj3 l0_0 l0_1 a1).bind fun t262 => (if (t261 != (decide (t262 ≥ 0))) = true then (some false) else ((valid_Tree.f kj3 l0_0 l0_1 a1 l2_0 l2_1).bind fun t263 => (if t263 = true then (ecdysislaw20_ValidLess.l0 kj3 a1 0 l0_0 l0_1 l2_0 l2_1) else ((ecdysislaw20_live.f kj3).bind fun t264 => (some t264)))))) = some r := H
      have A21 := Aside0.mk A210
      clear A210
      replace H := Option.bind_eq_some_iff.mp H
      obtain ⟨t262, A220, H⟩ := H
      replace H : (if (t261 != (decide (t262 ≥ 0))) = true then (some false) else ((valid_Tree.f kj3 l0_0 l0_1 a1 l2_0 l2_1).bind fun t263 => (if t263 = true then (ecdysislaw20_ValidLess.l0 kj3 a1 0 l0_0 l0_1 l2_0 l2_1) else ((ecdysislaw20_live.f kj3).bind fun t264 => (some t264))))) = some r := H
      have A22 := Aside0.mk A220
      clear A220
      by_cases c23 : (t261 != (decide (t262 ≥ 0))) = true
      · rw [if_pos c23] at H
        have c23b0 : (t261 != (decide (t262 ≥ 0))) = true := c23
        (try (have c23b1 : decide (t261 = (decide (t262 ≥ 0))) = false := by simpa using c23))
        (try (have c23b2 : (t261 == (decide (t262 ≥ 0))) = false := by simpa using c23))
        (try (have c23b3 : ¬ (t261 = (decide (t262 ≥ 0))) := by simpa using c23))
        clear c23
        obtain rfl := Option.some.inj H
        try go_wp2
        have n0_ := Aside0.mk (Kd.V_drew HO_258000.out)
        have n1_ := Aside0.mk (blk_drew BK256.out)
        have n2_ := Aside0.mk (blk_drew BK257.out)
        have n3_ := Aside0.mk (below_drew1 HB.out)
        clear HO_258000
        clear BK256
        clear BK257
        clear HB
        have HO_258000 := n0_
        have BK256 := n1_
        have BK257 := n2_
        have HB := n3_
        clear n0_ n1_ n2_ n3_
        refine start_ (n := 9) (S := fun w' => w'.cell? ⟨gb256, 0, none⟩ = some (.slice A0_0 l0_0.length c0_0) ∧ w'.cell? ⟨gb256, 1, none⟩ = some (.slice A0_1 l0_1.length c0_1)) (ds := []) #[false, false, false, false, false, false, false, false, false] (by kernel_rfl) rfl rfl ⟨(blk_cell BK256.out 0).trans rfl, (blk_cell BK256.out 1).trans rfl⟩ (fun hHeld => ?_); refine with_tabW ecdysislaw20_ValidLess.tab3 ecdysislaw20_ValidLess.bits3 (fun HT_ HW_ => ?_)
        generalize wc.drew = w24 at HO_258000 BK256 BK257 HB hHeld ⊢
        refine zp 1 (zb 9 2) ?_ rfl rfl HT_ (by kernel_rfl) (fun _ _ _ h => h) rfl ?_ ?_ ?_ ?_; rotate_left; (intro w'; go_simp; with_reducible rfl); rotate_left; (simp only [zs]; rfl)
        refine zp 2 (zb 9 6) ?_ rfl rfl HT_ (by kernel_rfl) (fun _ _ _ h => h) rfl ?_ ?_ ?_ ?_; rotate_left; (intro w'; go_simp; with_reducible rfl); rotate_left; (simp only [zs]; rfl)
        refine zp 5 (zb 9 38) ?_ rfl rfl HT_ (by kernel_rfl) (fun _ _ _ h => h) rfl ?_ ?_ ?_ ?_; rotate_left; (intro w'; go_simp; with_reducible rfl); rotate_left; (simp only [zs]; rfl)
        refine zt 0 (zb 9 39) ?_ rfl rfl HT_ HW_ (by kernel_rfl) (fun _ _ _ h => h) rfl ?_ hHeld ?_ ?_ ?_; rotate_left; (rintro w' ⟨s0, s1⟩; go_simp; with_reducible rfl); rotate_left; (simp only [zs]; rfl)
        refine zt 4 (zb 9 55) ?_ rfl rfl HT_ HW_ (by kernel_rfl) (fun _ _ _ h => h) rfl ?_ hHeld ?_ ?_ ?_; rotate_left; (rintro w' ⟨s0, s1⟩; go_simp; with_reducible rfl); rotate_left; (simp only [zs]; rfl)
        refine one_ (i := 3) (N := some 23) #[true, true, true, true, true, true, false, false, false] rfl rfl (one_of HT_.out (by kernel_rfl)) (by decide) (fun K hK => ?_)
        refine goes_ Tryd.func9 (by kernel_rfl) rfl #[.agg #[.slice A0_0 l0_0.length c0_0, .slice A0_1 l0_1.length c0_1], .string a1, .agg #[.slice none 0 0, .slice none 0 0]] (by rfl) rfl rfl (by (try simp only [List.map_toArray, List.map_cons, List.map_nil]); first | done | rfl | (simp only [List.length_drop, List.length_take]; rfl)) ?_
        refine (valid_Tree.calls kj3 _ _ l0_0 _ _ l0_1 a1 _ _ ([] : List (S43)) _ _ ([] : List (S63)) t261 _ ?sideT ?side1 ?side2 ?side3 ?side4 ?side5 ?side6 ?side7 ?side8 A21.out).mono ?_
        case sideT => exact Tabs.below HU8.out HB.out
        (case side1 => repeat (first | exact (Kd.C_below HR0_0.out HB.out) ))
        (case side2 => exact HC0_0.out)
        (case side3 => repeat (first | exact (Kd.C_below HR0_1.out HB.out) ))
        (case side4 => exact HC0_1.out)
        (case side5 => exact Kd.C_nil _ _)
        (case side6 => exact Nat.le_refl _)
        (case side7 => exact Kd.C_nil _ _)
        (case side8 => exact Nat.le_refl _)
        rintro e w25 ⟨rfl, hb⟩
        refine ⟨_, rfl, ?_⟩
        have n0_ := Aside0.mk (Kd.V_below HO_258000.out hb)
        have n1_ := Aside0.mk (blk_below BK256.out hb)
        have n2_ := Aside0.mk (blk_below BK257.out hb)
        have n3_ := Aside0.mk (below_step HB.out hb)
        clear HO_258000
        clear BK256
        clear BK257
        clear HB
        have HO_258000 := n0_
        have BK256 := n1_
        have BK257 := n2_
        have HB := n3_
        clear n0_ n1_ n2_ n3_
        (try clear hb)
        (try clear hb2)
        (try clear hk)
        (try clear hi)
        refine hK.out _ _ ⟨(blk_cell BK256.out 0).trans rfl, (blk_cell BK256.out 1).trans rfl⟩ (fun hHeld => ?_)
        clear hK K
        refine norm_ (a' := ?_) ?_ ?_
        rotate_left
        · show Act.put _ (some 23) _ = _
          simp only [zs]
          rfl
        refine one_ (i := 6) (N := some 26) #[true, true, true, true, true, true, true, false, false] rfl rfl (one_of HT_.out (by kernel_rfl)) (by decide) (fun K hK => ?_)
        refine goes_ Tryd.func11 (by kernel_rfl) rfl #[.agg #[.slice A0_0 l0_0.length c0_0, .slice A0_1 l0_1.length c0_1], .string a1] (by rfl) rfl rfl (by (try simp only [List.map_toArray, List.map_cons, List.map_nil]); first | done | rfl | (simp only [List.length_drop, List.length_take]; rfl)) ?_
        with_reducible refine (ecdysisref15_Message.calls kj3 _ _ l0_0 _ _ l0_1 a1 t262 _ ?side1 ?side2 ?side3 ?side4 A22.out).mono ?_
        (case side1 => repeat (first | exact (Kd.C_below HR0_0.out HB.out) ))
        (case side2 => exact HC0_0.out)
        (case side3 => repeat (first | exact (Kd.C_below HR0_1.out HB.out) ))
        (case side4 => exact HC0_1.out)
        rintro e w26 ⟨rfl, hb⟩
        refine ⟨_, rfl, ?_⟩
        have n0_ := Aside0.mk (Kd.V_below HO_258000.out hb)
        have n1_ := Aside0.mk (blk_below BK256.out hb)
        have n2_ := Aside0.mk (blk_below BK257.out hb)
        have n3_ := Aside0.mk (below_step HB.out hb)
        clear HO_258000
        clear BK256
        clear BK257
        clear HB
        have HO_258000 := n0_
        have BK256 := n1_
        have BK257 := n2_
        have HB := n3_
        clear n0_ n1_ n2_ n3_
        (try clear hb)
        (try clear hb2)
        (try clear hk)
        (try clear hi)
        refine hK.out _ _ ⟨(blk_cell BK256.out 0).trans rfl, (blk_cell BK256.out 1).trans rfl⟩ (fun hHeld => ?_)
        clear hK K
        refine norm_ (a' := ?_) ?_ ?_
        rotate_left
        · show Act.put _ (some 26) _ = _
          simp only [zs]
          rfl
        refine zp 7 (zb 9 255) ?_ rfl rfl HT_ (by kernel_rfl) (fun _ _ _ h => h) rfl ?_ ?_ ?_ ?_; rotate_left; (intro w'; go_simp; with_reducible rfl); rotate_left; (simp only [zs]; rfl)
        refine zp 8 (zb 9 511) ?_ rfl rfl HT_ (by kernel_rfl) (fun _ _ _ h => h) rfl ?_ ?_ ?_ ?_; rotate_left; (intro w'; go_simp; with_reducible rfl); rotate_left; (simp only [zs]; rfl)
        refine done_ (done_of HT_.out (by kernel_rfl)) ?_
        try go_wp2
        go_ret
        exact ⟨by first | rfl , by exact HB.out⟩
      · rw [if_neg c23] at H
        have c23b0 : (t261 != (decide (t262 ≥ 0))) = false := by simpa using c23
        (try (have c23b1 : decide (t261 = (decide (t262 ≥ 0))) = true := by simpa using c23))
        (try (have c23b2 : (t261 == (decide (t262 ≥ 0))) = true := by simpa using c23))
        clear c23
        replace H := Option.bind_eq_some_iff.mp H
        obtain ⟨t263, A270, H⟩ := H
        replace H : (if t263 = true then (ecdysislaw20_ValidLess.l0 kj3 a1 0 l0_0 l0_1 l2_0 l2_1) else ((ecdysislaw20_live.f kj3).bind fun t264 => (some t264))) = some r := H
        have A27 := Aside0.mk A270
        clear A270
        by_cases c28 : t263 = true
        · subst c28
          have H1 : (ecdysislaw20_ValidLess.l0 kj3 a1 0 l0_0 l0_1 l2_0 l2_1) = some r := by rw [if_pos rfl] at H; exact H
          clear H
          have H := H1
          clear H1
          have H' := Aside0.mk H
          clear H
          try go_wp2
          have n0_ := Aside0.mk (Kd.V_drew HO_258000.out)
          have n1_ := Aside0.mk (blk_drew BK256.out)
          have n2_ := Aside0.mk (blk_drew BK257.out)
          have n3_ := Aside0.mk (below_drew1 HB.out)
          clear HO_258000
          clear BK256
          clear BK257
          clear HB
          have HO_258000 := n0_
          have BK256 := n1_
          have BK257 := n2_
          have HB := n3_
          clear n0_ n1_ n2_ n3_
          refine start_ (n := 9) (S := fun w' => w'.cell? ⟨gb256, 0, none⟩ = some (.slice A0_0 l0_0.length c0_0) ∧ w'.cell? ⟨gb256, 1, none⟩ = some (.slice A0_1 l0_1.length c0_1)) (ds := []) #[false, false, false, false, false, false, false, false, false] (by kernel_rfl) rfl rfl ⟨(blk_cell BK256.out 0).trans rfl, (blk_cell BK256.out 1).trans rfl⟩ (fun hHeld => ?_); refine with_tabW ecdysislaw20_ValidLess.tab3 ecdysislaw20_ValidLess.bits3 (fun HT_ HW_ => ?_)
          generalize wc.drew = w29 at HO_258000 BK256 BK257 HB hHeld ⊢
          refine zp 1 (zb 9 2) ?_ rfl rfl HT_ (by kernel_rfl) (fun _ _ _ h => h) rfl ?_ ?_ ?_ ?_; rotate_left; (intro w'; go_simp; with_reducible rfl); rotate_left; (simp only [zs]; rfl)
          refine zp 2 (zb 9 6) ?_ rfl rfl HT_ (by kernel_rfl) (fun _ _ _ h => h) rfl ?_ ?_ ?_ ?_; rotate_left; (intro w'; go_simp; with_reducible rfl); rotate_left; (simp only [zs]; rfl)
          refine zp 5 (zb 9 38) ?_ rfl rfl HT_ (by kernel_rfl) (fun _ _ _ h => h) rfl ?_ ?_ ?_ ?_; rotate_left; (intro w'; go_simp; with_reducible rfl); rotate_left; (simp only [zs]; rfl)
          refine zt 0 (zb 9 39) ?_ rfl rfl HT_ HW_ (by kernel_rfl) (fun _ _ _ h => h) rfl ?_ hHeld ?_ ?_ ?_; rotate_left; (rintro w' ⟨s0, s1⟩; go_simp; with_reducible rfl); rotate_left; (simp only [zs]; rfl)
          refine zt 4 (zb 9 55) ?_ rfl rfl HT_ HW_ (by kernel_rfl) (fun _ _ _ h => h) rfl ?_ hHeld ?_ ?_ ?_; rotate_left; (rintro w' ⟨s0, s1⟩; go_simp; with_reducible rfl); rotate_left; (simp only [zs]; rfl)
          refine one_ (i := 3) (N := some 23) #[true, true, true, true, true, true, false, false, false] rfl rfl (one_of HT_.out (by kernel_rfl)) (by decide) (fun K hK => ?_)
          refine goes_ Tryd.func9 (by kernel_rfl) rfl #[.agg #[.slice A0_0 l0_0.length c0_0, .slice A0_1 l0_1.length c0_1], .string a1, .agg #[.slice none 0 0, .slice none 0 0]] (by rfl) rfl rfl (by (try simp only [List.map_toArray, List.map_cons, List.map_nil]); first | done | rfl | (simp only [List.length_drop, List.length_take]; rfl)) ?_
          refine (valid_Tree.calls kj3 _ _ l0_0 _ _ l0_1 a1 _ _ ([] : List (S43)) _ _ ([] : List (S63)) t261 _ ?sideT ?side1 ?side2 ?side3 ?side4 ?side5 ?side6 ?side7 ?side8 A21.out).mono ?_
          case sideT => exact Tabs.below HU8.out HB.out
          (case side1 => repeat (first | exact (Kd.C_below HR0_0.out HB.out) ))
          (case side2 => exact HC0_0.out)
          (case side3 => repeat (first | exact (Kd.C_below HR0_1.out HB.out) ))
          (case side4 => exact HC0_1.out)
          (case side5 => exact Kd.C_nil _ _)
          (case side6 => exact Nat.le_refl _)
          (case side7 => exact Kd.C_nil _ _)
          (case side8 => exact Nat.le_refl _)
          rintro e w30 ⟨rfl, hb⟩
          refine ⟨_, rfl, ?_⟩
          have n0_ := Aside0.mk (Kd.V_below HO_258000.out hb)
          have n1_ := Aside0.mk (blk_below BK256.out hb)
          have n2_ := Aside0.mk (blk_below BK257.out hb)
          have n3_ := Aside0.mk (below_step HB.out hb)
          clear HO_258000
          clear BK256
          clear BK257
          clear HB
          have HO_258000 := n0_
          have BK256 := n1_
          have BK257 := n2_
          have HB := n3_
          clear n0_ n1_ n2_ n3_
          (try clear hb)
          (try clear hb2)
          (try clear hk)
          (try clear hi)
          refine hK.out _ _ ⟨(blk_cell BK256.out 0).trans rfl, (blk_cell BK256.out 1).trans rfl⟩ (fun hHeld => ?_)
          clear hK K
          refine norm_ (a' := ?_) ?_ ?_
          rotate_left
          · show Act.put _ (some 23) _ = _
            simp only [zs]
            rfl
          refine one_ (i := 6) (N := some 26) #[true, true, true, true, true, true, true, false, false] rfl rfl (one_of HT_.out (by kernel_rfl)) (by decide) (fun K hK => ?_)
          refine goes_ Tryd.func11 (by kernel_rfl) rfl #[.agg #[.slice A0_0 l0_0.length c0_0, .slice A0_1 l0_1.length c0_1], .string a1] (by rfl) rfl rfl (by (try simp only [List.map_toArray, List.map_cons, List.map_nil]); first | done | rfl | (simp only [List.length_drop, List.length_take]; rfl)) ?_
          with_reducible refine (ecdysisref15_Message.calls kj3 _ _ l0_0 _ _ l0_1 a1 t262 _ ?side1 ?side2 ?side3 ?side4 A22.out).mono ?_
          (case side1 => repeat (first | exact (Kd.C_below HR0_0.out HB.out) ))
          (case side2 => exact HC0_0.out)
          (case side3 => repeat (first | exact (Kd.C_below HR0_1.out HB.out) ))
          (case side4 => exact HC0_1.out)
          rintro e w31 ⟨rfl, hb⟩
          refine ⟨_, rfl, ?_⟩
          have n0_ := Aside0.mk (Kd.V_below HO_258000.out hb)
          have n1_ := Aside0.mk (blk_below BK256.out hb)
          have n2_ := Aside0.mk (blk_below BK257.out hb)
          have n3_ := Aside0.mk (below_step HB.out hb)
          clear HO_258000
          clear BK256
          clear BK257
          clear HB
          have HO_258000 := n0_
          have BK256 := n1_
          have BK257 := n2_
          have HB := n3_
          clear n0_ n1_ n2_ n3_
          (try clear hb)
          (try clear hb2)
          (try clear hk)
          (try clear hi)
          refine hK.out _ _ ⟨(blk_cell BK256.out 0).trans rfl, (blk_cell BK256.out 1).trans rfl⟩ (fun hHeld => ?_)
          clear hK K
          refine norm_ (a' := ?_) ?_ ?_
          rotate_left
          · show Act.put _ (some 26) _ = _
            simp only [zs]
            rfl
          refine zp 7 (zb 9 255) ?_ rfl rfl HT_ (by kernel_rfl) (fun _ _ _ h => h) rfl ?_ ?_ ?_ ?_; rotate_left; (intro w'; go_simp; with_reducible rfl); rotate_left; (simp only [zs]; rfl)
          refine zp 8 (zb 9 511) ?_ rfl rfl HT_ (by kernel_rfl) (fun _ _ _ h => h) rfl ?_ ?_ ?_ ?_; rotate_left; (intro w'; go_simp; with_reducible rfl); rotate_left; (simp only [zs]; rfl)
          refine done_ (done_of HT_.out (by kernel_rfl)) ?_
          have hnb32 := NB256_257.out
          have hnc32 := NB257_256.out
          have hcz33_0 : w31.cell? ⟨gb256, 0, none⟩ = some (.slice A0_0 l0_0.length c0_0) := (blk_cell BK256.out 0).trans rfl
          have hcz33_1 : w31.cell? ⟨gb256, 1, none⟩ = some (.slice A0_1 l0_1.length c0_1) := (blk_cell BK256.out 1).trans rfl
          have hfz33_0 := blk_frozen BK256.out 0
          have hfz33_1 := blk_frozen BK256.out 1
          have hcz34_0 : w31.cell? ⟨gb257, 0, none⟩ = some (.slice A2_0 l2_0.length c2_0) := (blk_cell BK257.out 0).trans rfl
          have hcz34_1 : w31.cell? ⟨gb257, 1, none⟩ = some (.slice A2_1 l2_1.length c2_1) := (blk_cell BK257.out 1).trans rfl
          have hfz34_0 := blk_frozen BK257.out 0
          have hfz34_1 := blk_frozen BK257.out 1
          try go_wp2_with (first | ((with_reducible refine gate_callee (f := 9) rfl ?_); refine goesL_ (some 32) rfl rfl Tryd.func9 (by kernel_rfl) rfl #[.agg #[.slice A0_0 l0_0.length c0_0, .slice A0_1 l0_1.length c0_1], .string a1, .agg #[.slice A2_0 l2_0.length c2_0, .slice A2_1 l2_1.length c2_1]] rfl (by (try simp only [List.map_toArray, List.map_cons, List.map_nil]); first | done | rfl | (simp only [List.length_drop, List.length_take]; rfl)) ?_; (with_reducible refine (valid_Tree.calls kj3 _ _ l0_0 _ _ l0_1 a1 _ _ l2_0 _ _ l2_1 true _ ?sideT ?side1 ?side2 ?side3 ?side4 ?side5 ?side6 ?side7 ?side8 A27.out).mono ?_); (case sideT => exact Tabs.below HU8.out HB.out); (case side1 => repeat (first | exact (Kd.C_below HR0_0.out HB.out) )); (case side2 => exact HC0_0.out); (case side3 => repeat (first | exact (Kd.C_below HR0_1.out HB.out) )); (case side4 => exact HC0_1.out); (case side5 => repeat (first | exact (Kd.V_reads' HO_258000.out).2.2 )); (case side6 => exact (Kd.V_reads' HO_258000.out).2.1); (case side7 => repeat (first | exact (Kd.C_below HR2_1.out HB.out) )); (case side8 => exact HC2_1.out); rintro e w35 ⟨rfl, hb⟩; refine ⟨_, rfl, ?_⟩; have n0_ := Aside0.mk (Kd.V_below HO_258000.out hb); have n1_ := Aside0.mk (blk_below BK256.out hb); have n2_ := Aside0.mk (blk_below BK257.out hb); have n3_ := Aside0.mk (below_step HB.out hb); clear HO_258000; clear BK256; clear BK257; clear HB; have HO_258000 := n0_; have BK256 := n1_; have BK257 := n2_; have HB := n3_; clear n0_ n1_ n2_ n3_; (try clear hb); (try clear hb2); (try clear hk); (try clear hi)))
          go_loopg [7] kj3 (fun kq v7 w' => ∃ (x7_2 : Int), v7 = .int .i64 x7_2 ∧ Aside0 (ecdysislaw20_ValidLess.l0 kq a1 x7_2 l0_0 l0_1 l2_0 l2_1 = some r) ∧ Aside0 (kq ≤ kj3) ∧ Aside0 (Kd.V k43 43 w' w.heap.size (fun k_ => (P2_0_ k_ ∨ w.heap.size ≤ k_) ∧ k_ ≠ gb256 ∧ k_ ≠ gb257) (.slice A2_0 l2_0.length c2_0) l2_0) ∧ Aside0 (w'.heap[gb256]? = some (.cells #[(.slice A0_0 l0_0.length c0_0), (.slice A0_1 l0_1.length c0_1)] 25 (0, 0))) ∧ Aside0 (w'.heap[gb257]? = some (.cells #[(.slice A2_0 l2_0.length c2_0), (.slice A2_1 l2_1.length c2_1)] 29 (0, 0))) ∧ Aside0 (Below w.heap.size w w'))
          case atStart => exact ⟨(0), (by first | rfl ), H', ⟨Nat.le_refl _⟩, ⟨by exact HO_258000.out⟩, ⟨by exact BK256.out⟩, ⟨by exact BK257.out⟩, ⟨by exact HB.out⟩⟩
          case round =>
            clear H'
            try clear c1
            try clear c2
            try clear p2
            try clear c3
            try clear c4
            try clear c6
            try clear c8
            try clear c9
            try clear c10
            try clear c11
            try clear c15
            try clear c18
            try clear c23
            try clear c23b0
            try clear c23b1
            try clear c23b2
            try clear c28
            try clear c32
            try clear hcz11_0
            try clear hcz11_1
            try clear hcz13_0
            try clear hcz13_1
            try clear hcz16_0
            try clear hcz16_1
            try clear hcz33_0
            try clear hcz33_1
            try clear hcz34_0
            try clear hcz34_1
            try clear hfz11_0
            try clear hfz11_1
            try clear hfz13_0
            try clear hfz13_1
            try clear hfz16_0
            try clear hfz16_1
            try clear hfz33_0
            try clear hfz33_1
            try clear hfz34_0
            try clear hfz34_1
            try clear p2
            obtain ⟨x7_2, rfl, HA, HK2, HO_258000, BK256, BK257, HB⟩ := hrel
            cases gk with
            | zero => exact absurd HA.out (by simp [ecdysislaw20_ValidLess.l0])
            | succ k2 =>
             have H := HA.out
             clear HA
             simp only [ecdysislaw20_ValidLess.l0] at H
             by_cases c36 : x7_2 < (l2_0.length : Int)
             · rw [if_pos c36] at H
               have c36b0 : decide (x7_2 < (l2_0.length : Int)) = true := decide_eq_true c36
               clear c36
               obtain ⟨y266, hy266⟩ : ∃ y_ : List (S43), y_ = (([] : List (S43))) := ⟨_, rfl⟩
               replace H : (if 0 ≤ x7_2 then (if x7_2 ≤ (l2_0.length : Int) then ((some (l2_0.take (x7_2 : Int).toNat : List (S43))).bind fun y269 => (if y266.length + y269.length < 4398046511104 then ((some (y266 ++ y269 : List (S43))).bind fun y274 => (if 0 ≤ (wrap64 (x7_2 + 1)) then (if (wrap64 (x7_2 + 1)) ≤ (l2_0.length : Int) then ((some (l2_0.drop ((wrap64 (x7_2 + 1)) : Int).toNat : List (S43))).bind fun y277 => (if y274.length + y277.length < 4398046511104 then ((valid_Tree.f k2 l0_0 l0_1 a1 (y274 ++ y277) l2_1).bind fun t285 => (if t285 = true then (ecdysislaw20_ValidLess.l0 k2 a1 (wrap64 (x7_2 + 1)) l0_0 l0_1 l2_0 l2_1) else (some false))) else (none))) else (none)) else (none))) else (none))) else (none)) else (none)) = some r := by first | (have H2_ := (Option.bind_some _ _).symm.trans H; rw [hy266]; with_reducible exact H2_) 
               have Ny266 := Aside0.mk hy266
               clear hy266
               by_cases c37 : 0 ≤ x7_2
               · rw [if_pos c37] at H
                 have c37b0 := eq_true c37
                 have c37b1 : decide (0 ≤ x7_2) = true := decide_eq_true c37
                 clear c37
                 by_cases c38 : x7_2 ≤ (l2_0.length : Int)
                 · rw [if_pos c38] at H
                   have c38b0 := eq_true c38
                   have c38b1 : decide (x7_2 ≤ (l2_0.length : Int)) = true := decide_eq_true c38
                   clear c38
                   obtain ⟨y269, hy269⟩ : ∃ y_ : List (S43), y_ = (l2_0.take (x7_2 : Int).toNat) := ⟨_, rfl⟩
                   replace H : (if y266.length + y269.length < 4398046511104 then ((some (y266 ++ y269 : List (S43))).bind fun y274 => (if 0 ≤ (wrap64 (x7_2 + 1)) then (if (wrap64 (x7_2 + 1)) ≤ (l2_0.length : Int) then ((some (l2_0.drop ((wrap64 (x7_2 + 1)) : Int).toNat : List (S43))).bind fun y277 => (if y274.length + y277.length < 4398046511104 then ((valid_Tree.f k2 l0_0 l0_1 a1 (y274 ++ y277) l2_1).bind fun t285 => (if t285 = true then (ecdysislaw20_ValidLess.l0 k2 a1 (wrap64 (x7_2 + 1)) l0_0 l0_1 l2_0 l2_1) else (some false))) else (none))) else (none)) else (none))) else (none)) = some r := by first | (have H2_ := (Option.bind_some _ _).symm.trans H; rw [hy269]; with_reducible exact H2_) 
                   have Ny269 := Aside0.mk hy269
                   clear hy269
                   by_cases c39 : y266.length + y269.length < 4398046511104
                   · rw [if_pos c39] at H
                     have LMc39 := Aside0.mk c39
                     clear c39
                     obtain ⟨y274, hy274⟩ : ∃ y_ : List (S43), y_ = (y266 ++ y269) := ⟨_, rfl⟩
                     replace H : (if 0 ≤ (wrap64 (x7_2 + 1)) then (if (wrap64 (x7_2 + 1)) ≤ (l2_0.length : Int) then ((some (l2_0.drop ((wrap64 (x7_2 + 1)) : Int).toNat : List (S43))).bind fun y277 => (if y274.length + y277.length < 4398046511104 then ((valid_Tree.f k2 l0_0 l0_1 a1 (y274 ++ y277) l2_1).bind fun t285 => (if t285 = true then (ecdysislaw20_ValidLess.l0 k2 a1 (wrap64 (x7_2 + 1)) l0_0 l0_1 l2_0 l2_1) else (some false))) else (none))) else (none)) else (none)) = some r := by first | (have H2_ := (Option.bind_some _ _).symm.trans H; rw [hy274]; with_reducible exact H2_) 
                     have Ny274 := Aside0.mk hy274
                     clear hy274
                     obtain ⟨ji40, hji40⟩ : ∃ j_ : Int, (wrap64 (x7_2 + 1)) = j_ := ⟨_, rfl⟩
                     replace H : (if 0 ≤ (ji40) then (if (ji40) ≤ (l2_0.length : Int) then ((some (l2_0.drop ((ji40) : Int).toNat : List (S43))).bind fun y277 => (if y274.length + y277.length < 4398046511104 then ((valid_Tree.f k2 l0_0 l0_1 a1 (y274 ++ y277) l2_1).bind fun t285 => (if t285 = true then (ecdysislaw20_ValidLess.l0 k2 a1 ji40 l0_0 l0_1 l2_0 l2_1) else (some false))) else (none))) else (none)) else (none)) = some r := by first | (rw [hji40] at H; exact H) 
                     have hji40w : (IntKind.i64.wrap (x7_2 + 1)) = ji40 := (i64_w _).trans hji40
                     by_cases c41 : 0 ≤ (ji40)
                     · rw [if_pos c41] at H
                       have c41b0 := eq_true c41
                       have c41b1 : decide (0 ≤ (ji40)) = true := decide_eq_true c41
                       clear c41
                       by_cases c42 : (ji40) ≤ (l2_0.length : Int)
                       · rw [if_pos c42] at H
                         have c42b0 := eq_true c42
                         have c42b1 : decide ((ji40) ≤ (l2_0.length : Int)) = true := decide_eq_true c42
                         clear c42
                         obtain ⟨y277, hy277⟩ : ∃ y_ : List (S43), y_ = (l2_0.drop ((ji40) : Int).toNat) := ⟨_, rfl⟩
                         replace H : (if y274.length + y277.length < 4398046511104 then ((valid_Tree.f k2 l0_0 l0_1 a1 (y274 ++ y277) l2_1).bind fun t285 => (if t285 = true then (ecdysislaw20_ValidLess.l0 k2 a1 ji40 l0_0 l0_1 l2_0 l2_1) else (some false))) else (none)) = some r := by first | (have H2_ := (Option.bind_some _ _).symm.trans H; rw [hy277]; with_reducible exact H2_) 
                         have Ny277 := Aside0.mk hy277
                         clear hy277
                         by_cases c43 : y274.length + y277.length < 4398046511104
                         · rw [if_pos c43] at H
                           have LMc43 := Aside0.mk c43
                           clear c43
                           obtain ⟨y282, hy282⟩ : ∃ y_ : List (S43), y_ = (y274 ++ y277) := ⟨_, rfl⟩
                           replace H : ((valid_Tree.f k2 l0_0 l0_1 a1 y282 l2_1).bind fun t285 => (if t285 = true then (ecdysislaw20_ValidLess.l0 k2 a1 ji40 l0_0 l0_1 l2_0 l2_1) else (some false))) = some r := by first | (rw [hy282]; with_reducible exact H) 
                           have Ny282 := Aside0.mk hy282
                           clear hy282
                           replace H := Option.bind_eq_some_iff.mp H
                           obtain ⟨t285, A440, H⟩ := H
                           replace H : (if t285 = true then (ecdysislaw20_ValidLess.l0 k2 a1 ji40 l0_0 l0_1 l2_0 l2_1) else (some false)) = some r := H
                           have A44 := Aside0.mk A440
                           clear A440
                           by_cases c45 : t285 = true
                           · subst c45
                             have H1 : (ecdysislaw20_ValidLess.l0 k2 a1 ji40 l0_0 l0_1 l2_0 l2_1) = some r := by rw [if_pos rfl] at H; exact H
                             clear H
                             have H := H1
                             clear H1
                             have H' := Aside0.mk H
                             clear H
                             have hnb46 := NB257_256.out
                             have hnc46 := NB256_257.out
                             have hcz47_0 : wr.cell? ⟨gb257, 0, none⟩ = some (.slice A2_0 l2_0.length c2_0) := (blk_cell BK257.out 0).trans rfl
                             have hcz47_1 : wr.cell? ⟨gb257, 1, none⟩ = some (.slice A2_1 l2_1.length c2_1) := (blk_cell BK257.out 1).trans rfl
                             have hfz47_0 := blk_frozen BK257.out 0
                             have hfz47_1 := blk_frozen BK257.out 1
                             try go_wp2_with (first | ((with_reducible refine gate_dst (N := 8) rfl ?_); refine box_event ?hg (N := 8) ?hd (cs := #[.slice none 0 0, .slice none 0 0]) (t := 29) ?hr ?_; (case hd => rfl); (case hg => rfl); (case hr => first | (go_simp; done) | (go_simp; rfl)); intro gb265 hg w48 hbox hb; have n0_ := Aside0.mk (Kd.V_below (Kd.V_elderB HO_258000.out gb265 (Nat.le_of_eq hg.symm)) hb); have n1_ := Aside0.mk (blk_below BK256.out hb); have n2_ := Aside0.mk (blk_below BK257.out hb); have n3_ := Aside0.mk (below_step HB.out hb); have n4_ := Aside0.mk (hbox); have n6_ := Aside0.mk ((by rw [hg]; exact (below_size HB.out) : w.heap.size ≤ gb265)); have n7_ := Aside0.mk ((by rw [hg]; exact Nat.ne_of_lt (blk_lt BK256.out) : gb256 ≠ gb265)); have n8_ := Aside0.mk ((by rw [hg]; exact Nat.ne_of_gt (blk_lt BK256.out) : gb265 ≠ gb256)); have n9_ := Aside0.mk ((by rw [hg]; exact Nat.ne_of_lt (blk_lt BK257.out) : gb257 ≠ gb265)); have n10_ := Aside0.mk ((by rw [hg]; exact Nat.ne_of_gt (blk_lt BK257.out) : gb265 ≠ gb257)); clear HO_258000; clear BK256; clear BK257; clear HB; have HO_258000 := n0_; have BK256 := n1_; have BK257 := n2_; have HB := n3_; have BK265 := n4_; have GE265 := n6_; have NB256_265 := n7_; have NB265_256 := n8_; have NB257_265 := n9_; have NB265_257 := n10_; clear n0_ n1_ n2_ n3_ n4_ n6_ n7_ n8_ n9_ n10_; clear hb hbox hg; have hnb49 := NB265_256.out; have hnc49 := NB256_265.out; have hnb50 := NB265_257.out; have hnc50 := NB257_265.out; have hcz51_0 : w48.cell? ⟨gb265, 0, none⟩ = some (.slice none 0 0) := (blk_cell BK265.out 0).trans rfl; have hcz51_1 : w48.cell? ⟨gb265, 1, none⟩ = some (.slice none 0 0) := (blk_cell BK265.out 1).trans rfl; have hfz51_0 := blk_frozen BK265.out 0; have hfz51_1 := blk_frozen BK265.out 1))
                             have n0_ : Aside0 (Kd.V k43 43 ((w48.setCell ⟨gb265, 0, none⟩ (.slice A2_0 l2_0.length c2_0)).setCell ⟨gb265, 1, none⟩ (.slice A2_1 l2_1.length c2_1)) w.heap.size (fun k_ => (P2_0_ k_ ∨ w.heap.size ≤ k_) ∧ k_ ≠ gb256 ∧ k_ ≠ gb257 ∧ k_ ≠ gb265) (.slice A2_0 l2_0.length c2_0) l2_0) := ⟨by exact Kd.V_mono (Kd.V_far (p := ⟨gb265, 1, none⟩) (Kd.V_far (p := ⟨gb265, 0, none⟩) (Kd.V_mono HO_258000.out (fun k_ hk => (⟨hk, hk.2⟩ : _ ∧ k_ ≠ gb265))) (fun _ hk => hk.2) (.slice A2_0 l2_0.length c2_0)) (fun _ hk => hk.2) (.slice A2_1 l2_1.length c2_1)) (fun _ hk => ⟨hk.1.1.1, ⟨hk.1.1.2.1, ⟨hk.1.1.2.2, hk.1.2⟩⟩⟩)⟩
                             have n1_ : Aside0 (((w48.setCell ⟨gb265, 0, none⟩ (.slice A2_0 l2_0.length c2_0)).setCell ⟨gb265, 1, none⟩ (.slice A2_1 l2_1.length c2_1)).heap[gb256]? = some (.cells #[.slice A0_0 l0_0.length c0_0, .slice A0_1 l0_1.length c0_1] 25 (0, 0))) := ⟨by refine blk_far ?_ NB256_265.out _; refine blk_far ?_ NB256_265.out _; exact BK256.out⟩
                             have n2_ : Aside0 (((w48.setCell ⟨gb265, 0, none⟩ (.slice A2_0 l2_0.length c2_0)).setCell ⟨gb265, 1, none⟩ (.slice A2_1 l2_1.length c2_1)).heap[gb257]? = some (.cells #[.slice A2_0 l2_0.length c2_0, .slice A2_1 l2_1.length c2_1] 29 (0, 0))) := ⟨by refine blk_far ?_ NB257_265.out _; refine blk_far ?_ NB257_265.out _; exact BK257.out⟩
                             have n3_ : Aside0 (((w48.setCell ⟨gb265, 0, none⟩ (.slice A2_0 l2_0.length c2_0)).setCell ⟨gb265, 1, none⟩ (.slice A2_1 l2_1.length c2_1)).heap[gb265]? = some (.cells #[.slice A2_0 l2_0.length c2_0, .slice A2_1 l2_1.length c2_1] 29 (0, 0))) := ⟨by refine blk_put (cs := #[.slice A2_0 l2_0.length c2_0, .slice none 0 0]) ?_ 1 _ rfl; refine blk_put (cs := #[.slice none 0 0, .slice none 0 0]) ?_ 0 _ rfl; exact BK265.out⟩
                             have n4_ : Aside0 (Below w.heap.size w ((w48.setCell ⟨gb265, 0, none⟩ (.slice A2_0 l2_0.length c2_0)).setCell ⟨gb265, 1, none⟩ (.slice A2_1 l2_1.length c2_1))) := ⟨by repeat (first | (with_reducible first | exact HB.out | refine below_set ?_ GE265.out) )⟩
                             (try clear HO_258000)
                             (try clear BK256)
                             (try clear BK257)
                             (try clear BK265)
                             (try clear HB)
                             generalize ((w48.setCell ⟨gb265, 0, none⟩ (.slice A2_0 l2_0.length c2_0)).setCell ⟨gb265, 1, none⟩ (.slice A2_1 l2_1.length c2_1)) = w52 at n0_ n1_ n2_ n3_ n4_ ⊢
                             have HO_258000 := n0_
                             have BK256 := n1_
                             have BK257 := n2_
                             have BK265 := n3_
                             have HB := n4_
                             clear n0_ n1_ n2_ n3_ n4_
                             have n0_ := Aside0.mk (Kd.V_drew HO_258000.out)
                             have n1_ := Aside0.mk (blk_drew BK256.out)
                             have n2_ := Aside0.mk (blk_drew BK257.out)
                             have n3_ := Aside0.mk (blk_drew BK265.out)
                             have n4_ := Aside0.mk (below_drew1 HB.out)
                             clear HO_258000
                             clear BK256
                             clear BK257
                             clear BK265
                             clear HB
                             have HO_258000 := n0_
                             have BK256 := n1_
                             have BK257 := n2_
                             have BK265 := n3_
                             have HB := n4_
                             clear n0_ n1_ n2_ n3_ n4_
                             have q54 : (x7_2 : Int) ≤ ((l2_0.length : Int) : Int) := of_decide_eq_true (by first | (with_reducible assumption) )
                             obtain ⟨i054, hi054, _, hsz54, _⟩ := info_parts info43
                             have hroom54 : l2_0.length ≤ c2_0 := (Kd.V_reads' HO_258000.out).2.1
                             have hC54 : Kd.F k43 _ _ A2_0 l2_0.length l2_0 := (Kd.V_at (base := w.heap.size) HO_258000.out).2.2
                             have hcut54 := cut_to (P := Tryd.prog) 26 43 .i64 Tryd.underlying26 hi054 A2_0 l2_0.length c2_0 x7_2 (of_decide_eq_true (by first | (with_reducible assumption) )) q54 hroom54
                             have hr54 := Kd.F_take (m := (x7_2 : Int).toNat) hC54 (by omega)
                             have hy54 : y269.length = (x7_2 : Int).toNat := (by rw [Ny269.out, List.length_take]; omega)
                             rw [← Ny269.out] at hr54
                             rw [← hy54] at hcut54
                             have HO273 := Aside0.mk (show Kd.V k43 43 _ w.heap.size _ (.slice A2_0 y269.length c2_0) y269 from Kd.V_mk (by omega) hr54)
                             have HC273 := Aside0.mk (show y269.length ≤ c2_0 from by omega)
                             clear hr54 hC54 hroom54 hi054 hsz54
                             have KY54 := Aside0.mk hy54
                             clear hy54
                             replace q54 := eq_true q54
                             have q55 : ((ji40) : Int) ≤ ((l2_0.length : Int) : Int) := of_decide_eq_true (by first | (with_reducible assumption) )
                             obtain ⟨i055, hi055, _, hsz55, _⟩ := info_parts info43
                             have hroom55 : l2_0.length ≤ c2_0 := (Kd.V_reads' HO_258000.out).2.1
                             have hC55 : Kd.F k43 _ _ A2_0 l2_0.length l2_0 := (Kd.V_at (base := w.heap.size) HO_258000.out).2.2
                             have q055 : (0 : Int) ≤ ((ji40) : Int) := of_decide_eq_true (by first | (with_reducible assumption) )
                             have hcut55 := cut_from (P := Tryd.prog) 26 43 .i64 Tryd.underlying26 hi055 2 hsz55 A2_0 l2_0.length c2_0 (ji40) q055 q55
                             have hr55 := Kd.F_cut (m := ((ji40) : Int).toNat) (c := c2_0) hC55 (by omega) hroom55
                             obtain ⟨A55, hA55⟩ : ∃ A1, A1 = (if c2_0 = ((ji40) : Int).toNat then A2_0 else (A2_0 : Option Addr).map (·.add (((ji40) : Int).toNat * 2))) := ⟨_, rfl⟩
                             obtain ⟨c55, hc55⟩ : ∃ c1, c1 = c2_0 - ((ji40) : Int).toNat := ⟨_, rfl⟩
                             have hy55 : y277.length = l2_0.length - ((ji40) : Int).toNat := (by rw [Ny277.out, List.length_drop] <;> omega)
                             rw [show (l2_0).drop ((ji40) : Int).toNat = y277 from Ny277.out.symm] at hr55
                             replace hr55 : Kd.F k43 _ _ A55 y277.length y277 := (by rw [hA55]; exact hr55)
                             rw [← hy55, ← hA55, ← hc55] at hcut55
                             have HO281 := Aside0.mk (show Kd.V k43 43 _ w.heap.size _ (.slice A55 y277.length c55) y277 from Kd.V_mk (by rw [hy55, hc55]; exact Nat.sub_le_sub_right hroom55 _) hr55)
                             have HC281 := Aside0.mk (show y277.length ≤ c55 from by rw [hy55, hc55]; exact Nat.sub_le_sub_right hroom55 _)
                             clear hr55 hC55 hroom55 hi055 hsz55 hc55
                             have KY55 := Aside0.mk hy55
                             have KA55 := Aside0.mk hA55
                             clear hy55 hA55
                             replace q55 := eq_true q55
                             refine start_ (n := 14) (S := fun w' => w'.cell? ⟨gb257, 0, none⟩ = some (.slice A2_0 l2_0.length c2_0) ∧ w'.cell? ⟨gb257, 1, none⟩ = some (.slice A2_1 l2_1.length c2_1)) (ds := []) #[false, false, false, false, false, false, false, false, false, false, false, false, false, false] (by kernel_rfl) rfl rfl ⟨(blk_cell BK257.out 0).trans rfl, (blk_cell BK257.out 1).trans rfl⟩ (fun hHeld => ?_); refine with_tabW ecdysislaw20_ValidLess.tab11 ecdysislaw20_ValidLess.bits11 (fun HT_ HW_ => ?_)
                             generalize w52.drew = w53 at HO_258000 BK256 BK257 BK265 HB HO273 HO281 hHeld ⊢
                             refine zp 1 (zb 14 2) ?_ rfl rfl HT_ (by kernel_rfl) (fun _ _ _ h => h) rfl ?_ ?_ ?_ ?_; rotate_left; (intro w'; go_simp; with_reducible rfl); rotate_left; (simp only [zs]; rfl)
                             refine zp 3 (zb 14 10) ?_ rfl rfl HT_ (by kernel_rfl) (fun _ _ _ h => h) rfl ?_ ?_ ?_ ?_; rotate_left; (intro w'; go_simp; with_reducible rfl); rotate_left; (simp only [zs]; rfl)
                             refine zp 6 (zb 14 74) ?_ rfl rfl HT_ (by kernel_rfl) (fun _ _ _ h => h) rfl ?_ ?_ ?_ ?_; rotate_left; (intro w'; go_simp; with_reducible rfl); rotate_left; (simp only [zs]; rfl)
                             refine zp 8 (zb 14 330) ?_ rfl rfl HT_ (by kernel_rfl) (fun _ _ _ h => h) rfl ?_ ?_ ?_ ?_; rotate_left; (intro w'; go_simp; with_reducible rfl); rotate_left; (simp only [zs]; rfl)
                             refine zp 9 (zb 14 842) ?_ rfl rfl HT_ (by kernel_rfl) (fun _ _ _ h => h) rfl ?_ ?_ ?_ ?_; rotate_left; (intro w'; go_simp; with_reducible rfl); rotate_left; (simp only [zs]; rfl)
                             refine zt 2 (zb 14 846) ?_ rfl rfl HT_ HW_ (by kernel_rfl) (fun _ _ _ h => h) rfl ?_ hHeld ?_ ?_ ?_; rotate_left; (rintro w' ⟨s0, s1⟩; go_simp; with_reducible rfl); rotate_left; (simp only [zs]; rfl)
                             refine zp 4 (zb 14 862) ?_ rfl rfl HT_ (by kernel_rfl) (fun _ _ _ h => h) rfl ?_ ?_ ?_ ?_; rotate_left; (intro w'; go_simp; with_reducible rfl); rotate_left; (simp only [zs]; rfl)
                             refine zt 7 (zb 14 990) ?_ rfl rfl HT_ HW_ (by kernel_rfl) (fun _ _ _ h => h) rfl ?_ hHeld ?_ ?_ ?_; rotate_left; (rintro w' ⟨s0, s1⟩; go_simp; with_reducible rfl); rotate_left; (simp only [zs]; rfl)
                             refine zp 10 (zb 14 2014) ?_ rfl rfl HT_ (by kernel_rfl) (fun _ _ _ h => h) rfl ?_ ?_ ?_ ?_; rotate_left; (intro w'; go_simp; with_reducible rfl); rotate_left; (simp only [zs]; rfl)
                             refine one_ (i := 0) (N := some 43) #[true, true, true, true, true, false, true, true, true, true, true, false, false, false] rfl rfl (one_of HT_.out (by kernel_rfl)) (by decide) (fun K hK => ?_)
                             refine Kd.N_lit_step k43 _ 43 ?hg (N' := 43) ?hd (xs := ([] : List (S43))) (inner := []) (ok := (fun k_ => (P2_0_ k_ ∨ w.heap.size ≤ k_) ∧ k_ ≠ gb256 ∧ k_ ≠ gb257 ∧ k_ ≠ gb265)) (okp := (fun k_ => (P2_0_ k_ ∨ w.heap.size ≤ k_) ∧ k_ ≠ gb256 ∧ k_ ≠ gb257 ∧ k_ ≠ gb265)) ?hr ?hp (fun _ hk => hk) ((show ∀ k_, w53.heap.size ≤ k_ → (fun k_ => (P2_0_ k_ ∨ w.heap.size ≤ k_) ∧ k_ ≠ gb256 ∧ k_ ≠ gb257 ∧ k_ ≠ gb265) k_ from fun k_ hk => ⟨(.inr (Nat.le_trans (below_size HB.out) hk)), Kd.freshB (g := gb256) (o := .cells #[.slice A0_0 l0_0.length c0_0, .slice A0_1 l0_1.length c0_1] 25 (0, 0)) BK256.out k_ hk, Kd.freshB (g := gb257) (o := .cells #[.slice A2_0 l2_0.length c2_0, .slice A2_1 l2_1.length c2_1] 29 (0, 0)) BK257.out k_ hk, Kd.freshB (g := gb265) (o := .cells #[.slice A2_0 l2_0.length c2_0, .slice A2_1 l2_1.length c2_1] 29 (0, 0)) BK265.out k_ hk⟩) _ (Nat.le_refl _)) (Below.refl _ _) (Nat.le_refl _) (by simp) ?_; (case hd => rfl); (case hg => rfl); (case hr => first | (go_simp; done) | (go_simp; rfl)); (case hp => exact (Reps.none _ _))
                             intro v267 w56 ho57 hb hg_ hnew_
                             clear hg_ hnew_
                             (first | rw [← Ny266.out] at ho57 )
                             have n0_ := Aside0.mk (Kd.V_elder' HO_258000.out (Kd.N_base ho57) hb)
                             have n1_ := Aside0.mk (Kd.V_elder' HO273.out (Kd.N_base ho57) hb)
                             have n2_ := Aside0.mk (Kd.V_elder' HO281.out (Kd.N_base ho57) hb)
                             have n3_ := Aside0.mk (Kd.N_lower ho57 (below_size HB.out))
                             have n4_ := Aside0.mk (blk_below BK256.out hb)
                             have n5_ := Aside0.mk (blk_below BK257.out hb)
                             have n6_ := Aside0.mk (blk_below BK265.out hb)
                             have n7_ := Aside0.mk (below_step HB.out hb)
                             clear HO_258000
                             clear HO273
                             clear HO281
                             clear BK256
                             clear BK257
                             clear BK265
                             clear HB
                             have HO_258000 := n0_
                             have HO273 := n1_
                             have HO281 := n2_
                             have HO268 := n3_
                             have BK256 := n4_
                             have BK257 := n5_
                             have BK265 := n6_
                             have HB := n7_
                             clear n0_ n1_ n2_ n3_ n4_ n5_ n6_ n7_
                             clear hb ho57
                             refine hK.out _ _ ⟨(blk_cell BK257.out 0).trans rfl, (blk_cell BK257.out 1).trans rfl⟩ (fun hHeld => ?_)
                             clear hK K
                             refine norm_ (a' := ?_) ?_ ?_
                             rotate_left
                             · show Act.put _ (some 43) _ = _
                               simp only [zs]
                               rfl
                             refine one_ (i := 5) (N := some 48) #[true, true, true, true, true, true, true, true, true, true, true, false, false, false] rfl rfl (one_of HT_.out (by kernel_rfl)) (by decide) (fun K hK => ?_)
                             refine Kd.N_append_rows_step k43 (w0 := w) w.heap.size (by rfl) (.tmp 43) (.tmp 47) 26 43 (.agg #[(.int .i64 0), (.slice none 0 0)]) 32 rfl Tryd.underlying26 info43 rfl (by decide) (by omega) v267 y266 y269 _ _ _ (fun k_ => (P2_0_ k_ ∨ w.heap.size ≤ k_) ∧ k_ ≠ gb256 ∧ k_ ≠ gb257 ∧ k_ ≠ gb265) (fun k_ => ((fun k_ => (P2_0_ k_ ∨ w.heap.size ≤ k_) ∧ k_ ≠ gb256 ∧ k_ ≠ gb257 ∧ k_ ≠ gb265)) k_ ∧ some k_ ≠ (v267 : Value).ownBlock) rfl rfl ?aO ?aR (fun _ hk => hk) ?aF ?aB ?aS ?aL ?_
                             (case aR => exact (by skip; exact Kd.V_F (Kd.V_mono (ok' := (fun k_ => ((fun k_ => (P2_0_ k_ ∨ w.heap.size ≤ k_) ∧ k_ ≠ gb256 ∧ k_ ≠ gb257 ∧ k_ ≠ gb265)) k_ ∧ some k_ ≠ (v267 : Value).ownBlock)) (HO273.out) (fun k_ hk => ⟨⟨hk.1.1, ⟨hk.1.2.1, ⟨hk.1.2.2.1, hk.1.2.2.2⟩⟩⟩, hk.2⟩))))
                             (case aB => exact HB.out)
                             (case aF => exact (fun k_ hk => ⟨(.inr (Nat.le_trans (below_size HB.out) hk)), Kd.freshB (g := gb256) (o := .cells #[.slice A0_0 l0_0.length c0_0, .slice A0_1 l0_1.length c0_1] 25 (0, 0)) BK256.out k_ hk, Kd.freshB (g := gb257) (o := .cells #[.slice A2_0 l2_0.length c2_0, .slice A2_1 l2_1.length c2_1] 29 (0, 0)) BK257.out k_ hk, Kd.freshB (g := gb265) (o := .cells #[.slice A2_0 l2_0.length c2_0, .slice A2_1 l2_1.length c2_1] 29 (0, 0)) BK265.out k_ hk⟩))
                             (case aO => exact HO268.out)
                             (case aS => exact (below_size HB.out))
                             (case aL => have := LMc39.out; omega)
                             intro v275 w58 ho hb hg hat
                             rw [← Ny274.out] at ho
                             have n0_ := Aside0.mk (Kd.V_afterv (ok := (fun k_ => (P2_0_ k_ ∨ w.heap.size ≤ k_) ∧ k_ ≠ gb256 ∧ k_ ≠ gb257 ∧ k_ ≠ gb265)) HO_258000.out hg hat)
                             have n1_ := Aside0.mk (blk_grown (g := gb256) (o := .cells #[.slice A0_0 l0_0.length c0_0, .slice A0_1 l0_1.length c0_1] 25 (0, 0)) BK256.out hg (Kd.N_ne HO268.out BK256.out (by decide)))
                             have n2_ := Aside0.mk (blk_grown (g := gb257) (o := .cells #[.slice A2_0 l2_0.length c2_0, .slice A2_1 l2_1.length c2_1] 29 (0, 0)) BK257.out hg (Kd.N_ne HO268.out BK257.out (by decide)))
                             have n3_ := Aside0.mk (blk_grown (g := gb265) (o := .cells #[.slice A2_0 l2_0.length c2_0, .slice A2_1 l2_1.length c2_1] 29 (0, 0)) BK265.out hg (Kd.N_ne HO268.out BK265.out (by decide)))
                             have n4_ := Aside0.mk (Kd.V_afterv (ok := (fun k_ => (P2_0_ k_ ∨ w.heap.size ≤ k_) ∧ k_ ≠ gb256 ∧ k_ ≠ gb257 ∧ k_ ≠ gb265)) HO273.out hg hat)
                             have n5_ := Aside0.mk (Kd.V_afterv (ok := (fun k_ => (P2_0_ k_ ∨ w.heap.size ≤ k_) ∧ k_ ≠ gb256 ∧ k_ ≠ gb257 ∧ k_ ≠ gb265)) HO281.out hg hat)
                             have n6_ := Aside0.mk (hb)
                             have n7_ := Aside0.mk (ho)
                             clear HO_258000
                             clear BK256
                             clear BK257
                             clear BK265
                             clear HO273
                             clear HO281
                             clear HB
                             clear HO268
                             have HO_258000 := n0_
                             have BK256 := n1_
                             have BK257 := n2_
                             have BK265 := n3_
                             have HO273 := n4_
                             have HO281 := n5_
                             have HB := n6_
                             have HO276 := n7_
                             clear n0_ n1_ n2_ n3_ n4_ n5_ n6_ n7_
                             clear ho hb hg hat
                             refine hK.out _ _ ⟨(blk_cell BK257.out 0).trans rfl, (blk_cell BK257.out 1).trans rfl⟩ (fun hHeld => ?_)
                             clear hK K
                             refine norm_ (a' := ?_) ?_ ?_
                             rotate_left
                             · show Act.put _ (some 48) _ = _
                               simp only [zs]
                               rfl
                             refine one_ (i := 11) (N := some 54) #[true, true, true, true, true, true, true, true, true, true, true, true, false, false] rfl rfl (one_of HT_.out (by kernel_rfl)) (by decide) (fun K hK => ?_)
                             refine Kd.N_append_rows_step k43 (w0 := w) w.heap.size (by rfl) (.tmp 48) (.tmp 53) 26 43 (.agg #[(.int .i64 0), (.slice none 0 0)]) 32 rfl Tryd.underlying26 info43 rfl (by decide) (by omega) v275 y274 y277 _ _ _ (fun k_ => (P2_0_ k_ ∨ w.heap.size ≤ k_) ∧ k_ ≠ gb256 ∧ k_ ≠ gb257 ∧ k_ ≠ gb265) (fun k_ => ((fun k_ => (P2_0_ k_ ∨ w.heap.size ≤ k_) ∧ k_ ≠ gb256 ∧ k_ ≠ gb257 ∧ k_ ≠ gb265)) k_ ∧ some k_ ≠ (v275 : Value).ownBlock) rfl rfl ?aO ?aR (fun _ hk => hk) ?aF ?aB ?aS ?aL ?_
                             (case aR => exact (by skip; exact Kd.V_F (Kd.V_mono (ok' := (fun k_ => ((fun k_ => (P2_0_ k_ ∨ w.heap.size ≤ k_) ∧ k_ ≠ gb256 ∧ k_ ≠ gb257 ∧ k_ ≠ gb265)) k_ ∧ some k_ ≠ (v275 : Value).ownBlock)) (HO281.out) (fun k_ hk => ⟨⟨hk.1.1, ⟨hk.1.2.1, ⟨hk.1.2.2.1, hk.1.2.2.2⟩⟩⟩, hk.2⟩))))
                             (case aB => exact HB.out)
                             (case aF => exact (fun k_ hk => ⟨(.inr (Nat.le_trans (below_size HB.out) hk)), Kd.freshB (g := gb256) (o := .cells #[.slice A0_0 l0_0.length c0_0, .slice A0_1 l0_1.length c0_1] 25 (0, 0)) BK256.out k_ hk, Kd.freshB (g := gb257) (o := .cells #[.slice A2_0 l2_0.length c2_0, .slice A2_1 l2_1.length c2_1] 29 (0, 0)) BK257.out k_ hk, Kd.freshB (g := gb265) (o := .cells #[.slice A2_0 l2_0.length c2_0, .slice A2_1 l2_1.length c2_1] 29 (0, 0)) BK265.out k_ hk⟩))
                             (case aO => exact HO276.out)
                             (case aS => exact (below_size HB.out))
                             (case aL => have := LMc43.out; omega)
                             intro v283 w59 ho hb hg hat
                             rw [← Ny282.out] at ho
                             have n0_ := Aside0.mk (Kd.V_afterv (ok := (fun k_ => (P2_0_ k_ ∨ w.heap.size ≤ k_) ∧ k_ ≠ gb256 ∧ k_ ≠ gb257 ∧ k_ ≠ gb265)) HO_258000.out hg hat)
                             have n1_ := Aside0.mk (blk_grown (g := gb256) (o := .cells #[.slice A0_0 l0_0.length c0_0, .slice A0_1 l0_1.length c0_1] 25 (0, 0)) BK256.out hg (Kd.N_ne HO276.out BK256.out (by decide)))
                             have n2_ := Aside0.mk (blk_grown (g := gb257) (o := .cells #[.slice A2_0 l2_0.length c2_0, .slice A2_1 l2_1.length c2_1] 29 (0, 0)) BK257.out hg (Kd.N_ne HO276.out BK257.out (by decide)))
                             have n3_ := Aside0.mk (blk_grown (g := gb265) (o := .cells #[.slice A2_0 l2_0.length c2_0, .slice A2_1 l2_1.length c2_1] 29 (0, 0)) BK265.out hg (Kd.N_ne HO276.out BK265.out (by decide)))
                             have n4_ := Aside0.mk (Kd.V_afterv (ok := (fun k_ => (P2_0_ k_ ∨ w.heap.size ≤ k_) ∧ k_ ≠ gb256 ∧ k_ ≠ gb257 ∧ k_ ≠ gb265)) HO273.out hg hat)
                             have n5_ := Aside0.mk (Kd.V_afterv (ok := (fun k_ => (P2_0_ k_ ∨ w.heap.size ≤ k_) ∧ k_ ≠ gb256 ∧ k_ ≠ gb257 ∧ k_ ≠ gb265)) HO281.out hg hat)
                             have n6_ := Aside0.mk (hb)
                             have n7_ := Aside0.mk (ho)
                             clear HO_258000
                             clear BK256
                             clear BK257
                             clear BK265
                             clear HO273
                             clear HO281
                             clear HB
                             clear HO276
                             have HO_258000 := n0_
                             have BK256 := n1_
                             have BK257 := n2_
                             have BK265 := n3_
                             have HO273 := n4_
                             have HO281 := n5_
                             have HB := n6_
                             have HO284 := n7_
                             clear n0_ n1_ n2_ n3_ n4_ n5_ n6_ n7_
                             clear ho hb hg hat
                             obtain ⟨Ao60, co60, eo60⟩ := Kd.N_slice HO284.out
                             (first | subst eo60 )
                             refine hK.out _ _ ⟨(blk_cell BK257.out 0).trans rfl, (blk_cell BK257.out 1).trans rfl⟩ (fun hHeld => ?_)
                             clear hK K
                             refine norm_ (a' := ?_) ?_ ?_
                             rotate_left
                             · show Act.put _ (some 54) _ = _
                               simp only [zs]
                               rfl
                             refine zp 12 (zb 14 8191) ?_ rfl rfl HT_ (by kernel_rfl) (fun _ _ _ h => h) rfl ?_ ?_ ?_ ?_; rotate_left; (intro w'; go_simp; with_reducible rfl); rotate_left; (simp only [zs]; rfl)
                             refine one_ (i := 13) (N := none) #[true, true, true, true, true, true, true, true, true, true, true, true, true, true] rfl rfl (one_of HT_.out (by kernel_rfl)) (by decide) (fun K hK => ?_)
                             have hs61 : w59.cell? ⟨gb265, 0, none⟩ = some (.slice A2_0 l2_0.length c2_0) := (blk_cell BK265.out 0).trans rfl
                             have hfs61 := blk_frozen BK265.out 0
                             have hns61_0 := NB256_265.out
                             have hns61_1 := NB257_265.out
                             have hms61_0 := NB265_256.out
                             have hms61_1 := NB265_257.out
                             refine skip_ (w1 := ?_) (by rfl) rfl ?_ ?_
                             rotate_left
                             · go_simp
                               rfl
                             refine hK.out _ _ ⟨((cell_far (p := ⟨gb265, _, none⟩) NB257_265.out _).trans (hHeld.1)), ((cell_far (p := ⟨gb265, _, none⟩) NB257_265.out _).trans (hHeld.2))⟩ (fun hHeld => ?_)
                             clear hK K
                             refine done_ (done_of HT_.out (by kernel_rfl)) ?_
                             have hcz62_0 : w59.cell? ⟨gb256, 0, none⟩ = some (.slice A0_0 l0_0.length c0_0) := (blk_cell BK256.out 0).trans rfl
                             have hcz62_1 : w59.cell? ⟨gb256, 1, none⟩ = some (.slice A0_1 l0_1.length c0_1) := (blk_cell BK256.out 1).trans rfl
                             have hfz62_0 := blk_frozen BK256.out 0
                             have hfz62_1 := blk_frozen BK256.out 1
                             have hcz63_0 : w59.cell? ⟨gb265, 0, none⟩ = some (.slice A2_0 l2_0.length c2_0) := (blk_cell BK265.out 0).trans rfl
                             have hcz63_1 : w59.cell? ⟨gb265, 1, none⟩ = some (.slice A2_1 l2_1.length c2_1) := (blk_cell BK265.out 1).trans rfl
                             have hfz63_0 := blk_frozen BK265.out 0
                             have hfz63_1 := blk_frozen BK265.out 1
                             try go_wp2_with (first | ((with_reducible refine gate_callee (f := 9) rfl ?_); refine goesL_ (some 59) rfl rfl Tryd.func9 (by kernel_rfl) rfl #[.agg #[.slice A0_0 l0_0.length c0_0, .slice A0_1 l0_1.length c0_1], .string a1, .agg #[.slice Ao60 y282.length co60, .slice A2_1 l2_1.length c2_1]] rfl (by (try simp only [List.map_toArray, List.map_cons, List.map_nil]); first | done | rfl | (simp only [List.length_drop, List.length_take]; rfl)) ?_; (with_reducible refine (valid_Tree.calls k2 _ _ l0_0 _ _ l0_1 a1 _ _ y282 _ _ l2_1 true _ ?sideT ?side1 ?side2 ?side3 ?side4 ?side5 ?side6 ?side7 ?side8 A44.out).mono ?_); (case sideT => exact Tabs.below HU8.out (by repeat (first | (with_reducible first | exact HB.out | refine below_set ?_ GE265.out ) ))); (case side1 => exact Kd.C_below HR0_0.out (by repeat (first | (with_reducible first | exact HB.out | refine below_set ?_ GE265.out) ))); (case side2 => exact HC0_0.out); (case side3 => exact Kd.C_below HR0_1.out (by repeat (first | (with_reducible first | exact HB.out | refine below_set ?_ GE265.out) ))); (case side4 => exact HC0_1.out); (case side5 => refine (Kd.N_reads' (e := 43) (base := w.heap.size) (ok := fun k_ => ((P2_0_ k_ ∨ w.heap.size ≤ k_) ∧ (k_ ≠ gb256 ∧ (k_ ≠ gb257 ∧ k_ ≠ gb265)))) (n := y282.length) (c := co60) ?_).2.2; exact (by exact (Kd.N_mono (Kd.N_far (p := ⟨gb265, 0, none⟩) (Kd.N_mono HO284.out (fun k_ hk => (⟨hk, hk.2.2.2⟩ : _ ∧ k_ ≠ gb265))) (fun _ hk => hk.2) (.slice Ao60 y282.length co60)) (fun _ h_ => h_.1)))); (case side6 => exact (Kd.N_reads' HO284.out).2.1); (case side7 => exact Kd.C_below HR2_1.out (by repeat (first | (with_reducible first | exact HB.out | refine below_set ?_ GE265.out) ))); (case side8 => exact HC2_1.out); rintro e w64 ⟨rfl, hb⟩; refine ⟨_, rfl, ?_⟩; have n0_ := Aside0.mk (Kd.V_below (by exact (Kd.V_mono (Kd.V_far (p := ⟨gb265, 0, none⟩) (Kd.V_mono HO_258000.out (fun k_ hk => (⟨hk, hk.1.2.2.2⟩ : _ ∧ k_ ≠ gb265))) (fun _ hk => hk.2) (.slice Ao60 y282.length co60)) (fun _ h_ => h_.1))) hb); have n1_ := Aside0.mk (Kd.V_below (by exact (Kd.V_mono (Kd.V_far (p := ⟨gb265, 0, none⟩) (Kd.V_mono HO273.out (fun k_ hk => (⟨hk, hk.1.2.2.2⟩ : _ ∧ k_ ≠ gb265))) (fun _ hk => hk.2) (.slice Ao60 y282.length co60)) (fun _ h_ => h_.1))) hb); have n2_ := Aside0.mk (Kd.V_below (by exact (Kd.V_mono (Kd.V_far (p := ⟨gb265, 0, none⟩) (Kd.V_mono HO281.out (fun k_ hk => (⟨hk, hk.1.2.2.2⟩ : _ ∧ k_ ≠ gb265))) (fun _ hk => hk.2) (.slice Ao60 y282.length co60)) (fun _ h_ => h_.1))) hb); have n3_ := Aside0.mk (Kd.N_below (by exact (Kd.N_mono (Kd.N_far (p := ⟨gb265, 0, none⟩) (Kd.N_mono HO284.out (fun k_ hk => (⟨hk, hk.2.2.2⟩ : _ ∧ k_ ≠ gb265))) (fun _ hk => hk.2) (.slice Ao60 y282.length co60)) (fun _ h_ => h_.1))) hb); have n4_ := Aside0.mk (blk_below (g := gb256) (o := .cells #[.slice A0_0 l0_0.length c0_0, .slice A0_1 l0_1.length c0_1] 25 (0, 0)) (by refine blk_far ?_ NB256_265.out _; exact BK256.out) hb); have n5_ := Aside0.mk (blk_below (g := gb257) (o := .cells #[.slice A2_0 l2_0.length c2_0, .slice A2_1 l2_1.length c2_1] 29 (0, 0)) (by refine blk_far ?_ NB257_265.out _; exact BK257.out) hb); have n6_ := Aside0.mk (blk_below (g := gb265) (o := .cells #[.slice Ao60 y282.length co60, .slice A2_1 l2_1.length c2_1] 29 (0, 0)) (by refine blk_put (cs := #[.slice A2_0 l2_0.length c2_0, .slice A2_1 l2_1.length c2_1]) ?_ 0 _ rfl; exact BK265.out) hb); have n7_ := Aside0.mk (below_step (by repeat (first | (with_reducible first | exact HB.out | refine below_set ?_ GE265.out) )) hb); clear HO_258000; clear HO273; clear HO281; clear HO284; clear BK256; clear BK257; clear BK265; clear HB; have HO_258000 := n0_; have HO273 := n1_; have HO281 := n2_; have HO284 := n3_; have BK256 := n4_; have BK257 := n5_; have BK265 := n6_; have HB := n7_; clear n0_ n1_ n2_ n3_ n4_ n5_ n6_ n7_; (try clear hb); (try clear hb2); (try clear hk); (try clear hi)))
                             go_roundg k2
                             case measure => have := HJ3.out; have := HK2.out; omega
                             case rel => exact ⟨(ji40), (by first | rfl ), H', ⟨by have := HJ3.out; have := HK2.out; omega⟩, ⟨by exact Kd.V_mono HO_258000.out (fun _ hk => ⟨hk.1.1, ⟨hk.1.2.1, hk.1.2.2.1⟩⟩)⟩, ⟨by exact BK256.out⟩, ⟨by exact BK257.out⟩, ⟨by exact HB.out⟩⟩
                           · replace c45 := Bool.eq_false_iff.mpr c45
                             subst c45
                             have H1 : (some false) = some r := by rw [if_neg (show ¬ (false = true) by decide)] at H; exact H
                             clear H
                             have H := H1
                             clear H1
                             obtain rfl := Option.some.inj H
                             have hnb65 := NB257_256.out
                             have hnc65 := NB256_257.out
                             have hcz66_0 : wr.cell? ⟨gb257, 0, none⟩ = some (.slice A2_0 l2_0.length c2_0) := (blk_cell BK257.out 0).trans rfl
                             have hcz66_1 : wr.cell? ⟨gb257, 1, none⟩ = some (.slice A2_1 l2_1.length c2_1) := (blk_cell BK257.out 1).trans rfl
                             have hfz66_0 := blk_frozen BK257.out 0
                             have hfz66_1 := blk_frozen BK257.out 1
                             try go_wp2_with (first | ((with_reducible refine gate_dst (N := 8) rfl ?_); refine box_event ?hg (N := 8) ?hd (cs := #[.slice none 0 0, .slice none 0 0]) (t := 29) ?hr ?_; (case hd => rfl); (case hg => rfl); (case hr => first | (go_simp; done) | (go_simp; rfl)); intro gb265 hg w67 hbox hb; have n0_ := Aside0.mk (Kd.V_below (Kd.V_elderB HO_258000.out gb265 (Nat.le_of_eq hg.symm)) hb); have n1_ := Aside0.mk (blk_below BK256.out hb); have n2_ := Aside0.mk (blk_below BK257.out hb); have n3_ := Aside0.mk (below_step HB.out hb); have n4_ := Aside0.mk (hbox); have n6_ := Aside0.mk ((by rw [hg]; exact (below_size HB.out) : w.heap.size ≤ gb265)); have n7_ := Aside0.mk ((by rw [hg]; exact Nat.ne_of_lt (blk_lt BK256.out) : gb256 ≠ gb265)); have n8_ := Aside0.mk ((by rw [hg]; exact Nat.ne_of_gt (blk_lt BK256.out) : gb265 ≠ gb256)); have n9_ := Aside0.mk ((by rw [hg]; exact Nat.ne_of_lt (blk_lt BK257.out) : gb257 ≠ gb265)); have n10_ := Aside0.mk ((by rw [hg]; exact Nat.ne_of_gt (blk_lt BK257.out) : gb265 ≠ gb257)); clear HO_258000; clear BK256; clear BK257; clear HB; have HO_258000 := n0_; have BK256 := n1_; have BK257 := n2_; have HB := n3_; have BK265 := n4_; have GE265 := n6_; have NB256_265 := n7_; have NB265_256 := n8_; have NB257_265 := n9_; have NB265_257 := n10_; clear n0_ n1_ n2_ n3_ n4_ n6_ n7_ n8_ n9_ n10_; clear hb hbox hg; have hnb68 := NB265_256.out; have hnc68 := NB256_265.out; have hnb69 := NB265_257.out; have hnc69 := NB257_265.out; have hcz70_0 : w67.cell? ⟨gb265, 0, none⟩ = some (.slice none 0 0) := (blk_cell BK265.out 0).trans rfl; have hcz70_1 : w67.cell? ⟨gb265, 1, none⟩ = some (.slice none 0 0) := (blk_cell BK265.out 1).trans rfl; have hfz70_0 := blk_frozen BK265.out 0; have hfz70_1 := blk_frozen BK265.out 1))
                             have n0_ : Aside0 (Kd.V k43 43 ((w67.setCell ⟨gb265, 0, none⟩ (.slice A2_0 l2_0.length c2_0)).setCell ⟨gb265, 1, none⟩ (.slice A2_1 l2_1.length c2_1)) w.heap.size (fun k_ => (P2_0_ k_ ∨ w.heap.size ≤ k_) ∧ k_ ≠ gb256 ∧ k_ ≠ gb257 ∧ k_ ≠ gb265) (.slice A2_0 l2_0.length c2_0) l2_0) := ⟨by exact Kd.V_mono (Kd.V_far (p := ⟨gb265, 1, none⟩) (Kd.V_far (p := ⟨gb265, 0, none⟩) (Kd.V_mono HO_258000.out (fun k_ hk => (⟨hk, hk.2⟩ : _ ∧ k_ ≠ gb265))) (fun _ hk => hk.2) (.slice A2_0 l2_0.length c2_0)) (fun _ hk => hk.2) (.slice A2_1 l2_1.length c2_1)) (fun _ hk => ⟨hk.1.1.1, ⟨hk.1.1.2.1, ⟨hk.1.1.2.2, hk.1.2⟩⟩⟩)⟩
                             have n1_ : Aside0 (((w67.setCell ⟨gb265, 0, none⟩ (.slice A2_0 l2_0.length c2_0)).setCell ⟨gb265, 1, none⟩ (.slice A2_1 l2_1.length c2_1)).heap[gb256]? = some (.cells #[.slice A0_0 l0_0.length c0_0, .slice A0_1 l0_1.length c0_1] 25 (0, 0))) := ⟨by refine blk_far ?_ NB256_265.out _; refine blk_far ?_ NB256_265.out _; exact BK256.out⟩
                             have n2_ : Aside0 (((w67.setCell ⟨gb265, 0, none⟩ (.slice A2_0 l2_0.length c2_0)).setCell ⟨gb265, 1, none⟩ (.slice A2_1 l2_1.length c2_1)).heap[gb257]? = some (.cells #[.slice A2_0 l2_0.length c2_0, .slice A2_1 l2_1.length c2_1] 29 (0, 0))) := ⟨by refine blk_far ?_ NB257_265.out _; refine blk_far ?_ NB257_265.out _; exact BK257.out⟩
                             have n3_ : Aside0 (((w67.setCell ⟨gb265, 0, none⟩ (.slice A2_0 l2_0.length c2_0)).setCell ⟨gb265, 1, none⟩ (.slice A2_1 l2_1.length c2_1)).heap[gb265]? = some (.cells #[.slice A2_0 l2_0.length c2_0, .slice A2_1 l2_1.length c2_1] 29 (0, 0))) := ⟨by refine blk_put (cs := #[.slice A2_0 l2_0.length c2_0, .slice none 0 0]) ?_ 1 _ rfl; refine blk_put (cs := #[.slice none 0 0, .slice none 0 0]) ?_ 0 _ rfl; exact BK265.out⟩
                             have n4_ : Aside0 (Below w.heap.size w ((w67.setCell ⟨gb265, 0, none⟩ (.slice A2_0 l2_0.length c2_0)).setCell ⟨gb265, 1, none⟩ (.slice A2_1 l2_1.length c2_1))) := ⟨by repeat (first | (with_reducible first | exact HB.out | refine below_set ?_ GE265.out) )⟩
                             (try clear HO_258000)
                             (try clear BK256)
                             (try clear BK257)
                             (try clear BK265)
                             (try clear HB)
                             generalize ((w67.setCell ⟨gb265, 0, none⟩ (.slice A2_0 l2_0.length c2_0)).setCell ⟨gb265, 1, none⟩ (.slice A2_1 l2_1.length c2_1)) = w71 at n0_ n1_ n2_ n3_ n4_ ⊢
                             have HO_258000 := n0_
                             have BK256 := n1_
                             have BK257 := n2_
                             have BK265 := n3_
                             have HB := n4_
                             clear n0_ n1_ n2_ n3_ n4_
                             have n0_ := Aside0.mk (Kd.V_drew HO_258000.out)
                             have n1_ := Aside0.mk (blk_drew BK256.out)
                             have n2_ := Aside0.mk (blk_drew BK257.out)
                             have n3_ := Aside0.mk (blk_drew BK265.out)
                             have n4_ := Aside0.mk (below_drew1 HB.out)
                             clear HO_258000
                             clear BK256
                             clear BK257
                             clear BK265
                             clear HB
                             have HO_258000 := n0_
                             have BK256 := n1_
                             have BK257 := n2_
                             have BK265 := n3_
                             have HB := n4_
                             clear n0_ n1_ n2_ n3_ n4_
                             have q73 : (x7_2 : Int) ≤ ((l2_0.length : Int) : Int) := of_decide_eq_true (by first | (with_reducible assumption) )
                             obtain ⟨i073, hi073, _, hsz73, _⟩ := info_parts info43
                             have hroom73 : l2_0.length ≤ c2_0 := (Kd.V_reads' HO_258000.out).2.1
                             have hC73 : Kd.F k43 _ _ A2_0 l2_0.length l2_0 := (Kd.V_at (base := w.heap.size) HO_258000.out).2.2
                             have hcut73 := cut_to (P := Tryd.prog) 26 43 .i64 Tryd.underlying26 hi073 A2_0 l2_0.length c2_0 x7_2 (of_decide_eq_true (by first | (with_reducible assumption) )) q73 hroom73
                             have hr73 := Kd.F_take (m := (x7_2 : Int).toNat) hC73 (by omega)
                             have hy73 : y269.length = (x7_2 : Int).toNat := (by rw [Ny269.out, List.length_take]; omega)
                             rw [← Ny269.out] at hr73
                             rw [← hy73] at hcut73
                             have HO273 := Aside0.mk (show Kd.V k43 43 _ w.heap.size _ (.slice A2_0 y269.length c2_0) y269 from Kd.V_mk (by omega) hr73)
                             have HC273 := Aside0.mk (show y269.length ≤ c2_0 from by omega)
                             clear hr73 hC73 hroom73 hi073 hsz73
                             have KY73 := Aside0.mk hy73
                             clear hy73
                             replace q73 := eq_true q73
                             have q74 : ((ji40) : Int) ≤ ((l2_0.length : Int) : Int) := of_decide_eq_true (by first | (with_reducible assumption) )
                             obtain ⟨i074, hi074, _, hsz74, _⟩ := info_parts info43
                             have hroom74 : l2_0.length ≤ c2_0 := (Kd.V_reads' HO_258000.out).2.1
                             have hC74 : Kd.F k43 _ _ A2_0 l2_0.length l2_0 := (Kd.V_at (base := w.heap.size) HO_258000.out).2.2
                             have q074 : (0 : Int) ≤ ((ji40) : Int) := of_decide_eq_true (by first | (with_reducible assumption) )
                             have hcut74 := cut_from (P := Tryd.prog) 26 43 .i64 Tryd.underlying26 hi074 2 hsz74 A2_0 l2_0.length c2_0 (ji40) q074 q74
                             have hr74 := Kd.F_cut (m := ((ji40) : Int).toNat) (c := c2_0) hC74 (by omega) hroom74
                             obtain ⟨A74, hA74⟩ : ∃ A1, A1 = (if c2_0 = ((ji40) : Int).toNat then A2_0 else (A2_0 : Option Addr).map (·.add (((ji40) : Int).toNat * 2))) := ⟨_, rfl⟩
                             obtain ⟨c74, hc74⟩ : ∃ c1, c1 = c2_0 - ((ji40) : Int).toNat := ⟨_, rfl⟩
                             have hy74 : y277.length = l2_0.length - ((ji40) : Int).toNat := (by rw [Ny277.out, List.length_drop] <;> omega)
                             rw [show (l2_0).drop ((ji40) : Int).toNat = y277 from Ny277.out.symm] at hr74
                             replace hr74 : Kd.F k43 _ _ A74 y277.length y277 := (by rw [hA74]; exact hr74)
                             rw [← hy74, ← hA74, ← hc74] at hcut74
                             have HO281 := Aside0.mk (show Kd.V k43 43 _ w.heap.size _ (.slice A74 y277.length c74) y277 from Kd.V_mk (by rw [hy74, hc74]; exact Nat.sub_le_sub_right hroom74 _) hr74)
                             have HC281 := Aside0.mk (show y277.length ≤ c74 from by rw [hy74, hc74]; exact Nat.sub_le_sub_right hroom74 _)
                             clear hr74 hC74 hroom74 hi074 hsz74 hc74
                             have KY74 := Aside0.mk hy74
                             have KA74 := Aside0.mk hA74
                             clear hy74 hA74
                             replace q74 := eq_true q74
                             refine start_ (n := 14) (S := fun w' => w'.cell? ⟨gb257, 0, none⟩ = some (.slice A2_0 l2_0.length c2_0) ∧ w'.cell? ⟨gb257, 1, none⟩ = some (.slice A2_1 l2_1.length c2_1)) (ds := []) #[false, false, false, false, false, false, false, false, false, false, false, false, false, false] (by kernel_rfl) rfl rfl ⟨(blk_cell BK257.out 0).trans rfl, (blk_cell BK257.out 1).trans rfl⟩ (fun hHeld => ?_); refine with_tabW ecdysislaw20_ValidLess.tab11 ecdysislaw20_ValidLess.bits11 (fun HT_ HW_ => ?_)
                             generalize w71.drew = w72 at HO_258000 BK256 BK257 BK265 HB HO273 HO281 hHeld ⊢
                             refine zp 1 (zb 14 2) ?_ rfl rfl HT_ (by kernel_rfl) (fun _ _ _ h => h) rfl ?_ ?_ ?_ ?_; rotate_left; (intro w'; go_simp; with_reducible rfl); rotate_left; (simp only [zs]; rfl)
                             refine zp 3 (zb 14 10) ?_ rfl rfl HT_ (by kernel_rfl) (fun _ _ _ h => h) rfl ?_ ?_ ?_ ?_; rotate_left; (intro w'; go_simp; with_reducible rfl); rotate_left; (simp only [zs]; rfl)
                             refine zp 6 (zb 14 74) ?_ rfl rfl HT_ (by kernel_rfl) (fun _ _ _ h => h) rfl ?_ ?_ ?_ ?_; rotate_left; (intro w'; go_simp; with_reducible rfl); rotate_left; (simp only [zs]; rfl)
                             refine zp 8 (zb 14 330) ?_ rfl rfl HT_ (by kernel_rfl) (fun _ _ _ h => h) rfl ?_ ?_ ?_ ?_; rotate_left; (intro w'; go_simp; with_reducible rfl); rotate_left; (simp only [zs]; rfl)
                             refine zp 9 (zb 14 842) ?_ rfl rfl HT_ (by kernel_rfl) (fun _ _ _ h => h) rfl ?_ ?_ ?_ ?_; rotate_left; (intro w'; go_simp; with_reducible rfl); rotate_left; (simp only [zs]; rfl)
                             refine zt 2 (zb 14 846) ?_ rfl rfl HT_ HW_ (by kernel_rfl) (fun _ _ _ h => h) rfl ?_ hHeld ?_ ?_ ?_; rotate_left; (rintro w' ⟨s0, s1⟩; go_simp; with_reducible rfl); rotate_left; (simp only [zs]; rfl)
                             refine zp 4 (zb 14 862) ?_ rfl rfl HT_ (by kernel_rfl) (fun _ _ _ h => h) rfl ?_ ?_ ?_ ?_; rotate_left; (intro w'; go_simp; with_reducible rfl); rotate_left; (simp only [zs]; rfl)
                             refine zt 7 (zb 14 990) ?_ rfl rfl HT_ HW_ (by kernel_rfl) (fun _ _ _ h => h) rfl ?_ hHeld ?_ ?_ ?_; rotate_left; (rintro w' ⟨s0, s1⟩; go_simp; with_reducible rfl); rotate_left; (simp only [zs]; rfl)
                             refine zp 10 (zb 14 2014) ?_ rfl rfl HT_ (by kernel_rfl) (fun _ _ _ h => h) rfl ?_ ?_ ?_ ?_; rotate_left; (intro w'; go_simp; with_reducible rfl); rotate_left; (simp only [zs]; rfl)
                             refine one_ (i := 0) (N := some 43) #[true, true, true, true, true, false, true, true, true, true, true, false, false, false] rfl rfl (one_of HT_.out (by kernel_rfl)) (by decide) (fun K hK => ?_)
                             refine Kd.N_lit_step k43 _ 43 ?hg (N' := 43) ?hd (xs := ([] : List (S43))) (inner := []) (ok := (fun k_ => (P2_0_ k_ ∨ w.heap.size ≤ k_) ∧ k_ ≠ gb256 ∧ k_ ≠ gb257 ∧ k_ ≠ gb265)) (okp := (fun k_ => (P2_0_ k_ ∨ w.heap.size ≤ k_) ∧ k_ ≠ gb256 ∧ k_ ≠ gb257 ∧ k_ ≠ gb265)) ?hr ?hp (fun _ hk => hk) ((show ∀ k_, w72.heap.size ≤ k_ → (fun k_ => (P2_0_ k_ ∨ w.heap.size ≤ k_) ∧ k_ ≠ gb256 ∧ k_ ≠ gb257 ∧ k_ ≠ gb265) k_ from fun k_ hk => ⟨(.inr (Nat.le_trans (below_size HB.out) hk)), Kd.freshB (g := gb256) (o := .cells #[.slice A0_0 l0_0.length c0_0, .slice A0_1 l0_1.length c0_1] 25 (0, 0)) BK256.out k_ hk, Kd.freshB (g := gb257) (o := .cells #[.slice A2_0 l2_0.length c2_0, .slice A2_1 l2_1.length c2_1] 29 (0, 0)) BK257.out k_ hk, Kd.freshB (g := gb265) (o := .cells #[.slice A2_0 l2_0.length c2_0, .slice A2_1 l2_1.length c2_1] 29 (0, 0)) BK265.out k_ hk⟩) _ (Nat.le_refl _)) (Below.refl _ _) (Nat.le_refl _) (by simp) ?_; (case hd => rfl); (case hg => rfl); (case hr => first | (go_simp; done) | (go_simp; rfl)); (case hp => exact (Reps.none _ _))
                             intro v267 w75 ho76 hb hg_ hnew_
                             clear hg_ hnew_
                             (first | rw [← Ny266.out] at ho76 )
                             have n0_ := Aside0.mk (Kd.V_elder' HO_258000.out (Kd.N_base ho76) hb)
                             have n1_ := Aside0.mk (Kd.V_elder' HO273.out (Kd.N_base ho76) hb)
                             have n2_ := Aside0.mk (Kd.V_elder' HO281.out (Kd.N_base ho76) hb)
                             have n3_ := Aside0.mk (Kd.N_lower ho76 (below_size HB.out))
                             have n4_ := Aside0.mk (blk_below BK256.out hb)
                             have n5_ := Aside0.mk (blk_below BK257.out hb)
                             have n6_ := Aside0.mk (blk_below BK265.out hb)
                             have n7_ := Aside0.mk (below_step HB.out hb)
                             clear HO_258000
                             clear HO273
                             clear HO281
                             clear BK256
                             clear BK257
                             clear BK265
                             clear HB
                             have HO_258000 := n0_
                             have HO273 := n1_
                             have HO281 := n2_
                             have HO268 := n3_
                             have BK256 := n4_
                             have BK257 := n5_
                             have BK265 := n6_
                             have HB := n7_
                             clear n0_ n1_ n2_ n3_ n4_ n5_ n6_ n7_
                             clear hb ho76
                             refine hK.out _ _ ⟨(blk_cell BK257.out 0).trans rfl, (blk_cell BK257.out 1).trans rfl⟩ (fun hHeld => ?_)
                             clear hK K
                             refine norm_ (a' := ?_) ?_ ?_
                             rotate_left
                             · show Act.put _ (some 43) _ = _
                               simp only [zs]
                               rfl
                             refine one_ (i := 5) (N := some 48) #[true, true, true, true, true, true, true, true, true, true, true, false, false, false] rfl rfl (one_of HT_.out (by kernel_rfl)) (by decide) (fun K hK => ?_)
                             refine Kd.N_append_rows_step k43 (w0 := w) w.heap.size (by rfl) (.tmp 43) (.tmp 47) 26 43 (.agg #[(.int .i64 0), (.slice none 0 0)]) 32 rfl Tryd.underlying26 info43 rfl (by decide) (by omega) v267 y266 y269 _ _ _ (fun k_ => (P2_0_ k_ ∨ w.heap.size ≤ k_) ∧ k_ ≠ gb256 ∧ k_ ≠ gb257 ∧ k_ ≠ gb265) (fun k_ => ((fun k_ => (P2_0_ k_ ∨ w.heap.size ≤ k_) ∧ k_ ≠ gb256 ∧ k_ ≠ gb257 ∧ k_ ≠ gb265)) k_ ∧ some k_ ≠ (v267 : Value).ownBlock) rfl rfl ?aO ?aR (fun _ hk => hk) ?aF ?aB ?aS ?aL ?_
                             (case aR => exact (by skip; exact Kd.V_F (Kd.V_mono (ok' := (fun k_ => ((fun k_ => (P2_0_ k_ ∨ w.heap.size ≤ k_) ∧ k_ ≠ gb256 ∧ k_ ≠ gb257 ∧ k_ ≠ gb265)) k_ ∧ some k_ ≠ (v267 : Value).ownBlock)) (HO273.out) (fun k_ hk => ⟨⟨hk.1.1, ⟨hk.1.2.1, ⟨hk.1.2.2.1, hk.1.2.2.2⟩⟩⟩, hk.2⟩))))
                             (case aB => exact HB.out)
                             (case aF => exact (fun k_ hk => ⟨(.inr (Nat.le_trans (below_size HB.out) hk)), Kd.freshB (g := gb256) (o := .cells #[.slice A0_0 l0_0.length c0_0, .slice A0_1 l0_1.length c0_1] 25 (0, 0)) BK256.out k_ hk, Kd.freshB (g := gb257) (o := .cells #[.slice A2_0 l2_0.length c2_0, .slice A2_1 l2_1.length c2_1] 29 (0, 0)) BK257.out k_ hk, Kd.freshB (g := gb265) (o := .cells #[.slice A2_0 l2_0.length c2_0, .slice A2_1 l2_1.length c2_1] 29 (0, 0)) BK265.out k_ hk⟩))
                             (case aO => exact HO268.out)
                             (case aS => exact (below_size HB.out))
                             (case aL => have := LMc39.out; omega)
                             intro v275 w77 ho hb hg hat
                             rw [← Ny274.out] at ho
                             have n0_ := Aside0.mk (Kd.V_afterv (ok := (fun k_ => (P2_0_ k_ ∨ w.heap.size ≤ k_) ∧ k_ ≠ gb256 ∧ k_ ≠ gb257 ∧ k_ ≠ gb265)) HO_258000.out hg hat)
                             have n1_ := Aside0.mk (blk_grown (g := gb256) (o := .cells #[.slice A0_0 l0_0.length c0_0, .slice A0_1 l0_1.length c0_1] 25 (0, 0)) BK256.out hg (Kd.N_ne HO268.out BK256.out (by decide)))
                             have n2_ := Aside0.mk (blk_grown (g := gb257) (o := .cells #[.slice A2_0 l2_0.length c2_0, .slice A2_1 l2_1.length c2_1] 29 (0, 0)) BK257.out hg (Kd.N_ne HO268.out BK257.out (by decide)))
                             have n3_ := Aside0.mk (blk_grown (g := gb265) (o := .cells #[.slice A2_0 l2_0.length c2_0, .slice A2_1 l2_1.length c2_1] 29 (0, 0)) BK265.out hg (Kd.N_ne HO268.out BK265.out (by decide)))
                             have n4_ := Aside0.mk (Kd.V_afterv (ok := (fun k_ => (P2_0_ k_ ∨ w.heap.size ≤ k_) ∧ k_ ≠ gb256 ∧ k_ ≠ gb257 ∧ k_ ≠ gb265)) HO273.out hg hat)
                             have n5_ := Aside0.mk (Kd.V_afterv (ok := (fun k_ => (P2_0_ k_ ∨ w.heap.size ≤ k_) ∧ k_ ≠ gb256 ∧ k_ ≠ gb257 ∧ k_ ≠ gb265)) HO281.out hg hat)
                             have n6_ := Aside0.mk (hb)
                             have n7_ := Aside0.mk (ho)
                             clear HO_258000
                             clear BK256
                             clear BK257
                             clear BK265
                             clear HO273
                             clear HO281
                             clear HB
                             clear HO268
                             have HO_258000 := n0_
                             have BK256 := n1_
                             have BK257 := n2_
                             have BK265 := n3_
                             have HO273 := n4_
                             have HO281 := n5_
                             have HB := n6_
                             have HO276 := n7_
                             clear n0_ n1_ n2_ n3_ n4_ n5_ n6_ n7_
                             clear ho hb hg hat
                             refine hK.out _ _ ⟨(blk_cell BK257.out 0).trans rfl, (blk_cell BK257.out 1).trans rfl⟩ (fun hHeld => ?_)
                             clear hK K
                             refine norm_ (a' := ?_) ?_ ?_
                             rotate_left
                             · show Act.put _ (some 48) _ = _
                               simp only [zs]
                               rfl
                             refine one_ (i := 11) (N := some 54) #[true, true, true, true, true, true, true, true, true, true, true, true, false, false] rfl rfl (one_of HT_.out (by kernel_rfl)) (by decide) (fun K hK => ?_)
                             refine Kd.N_append_rows_step k43 (w0 := w) w.heap.size (by rfl) (.tmp 48) (.tmp 53) 26 43 (.agg #[(.int .i64 0), (.slice none 0 0)]) 32 rfl Tryd.underlying26 info43 rfl (by decide) (by omega) v275 y274 y277 _ _ _ (fun k_ => (P2_0_ k_ ∨ w.heap.size ≤ k_) ∧ k_ ≠ gb256 ∧ k_ ≠ gb257 ∧ k_ ≠ gb265) (fun k_ => ((fun k_ => (P2_0_ k_ ∨ w.heap.size ≤ k_) ∧ k_ ≠ gb256 ∧ k_ ≠ gb257 ∧ k_ ≠ gb265)) k_ ∧ some k_ ≠ (v275 : Value).ownBlock) rfl rfl ?aO ?aR (fun _ hk => hk) ?aF ?aB ?aS ?aL ?_
                             (case aR => exact (by skip; exact Kd.V_F (Kd.V_mono (ok' := (fun k_ => ((fun k_ => (P2_0_ k_ ∨ w.heap.size ≤ k_) ∧ k_ ≠ gb256 ∧ k_ ≠ gb257 ∧ k_ ≠ gb265)) k_ ∧ some k_ ≠ (v275 : Value).ownBlock)) (HO281.out) (fun k_ hk => ⟨⟨hk.1.1, ⟨hk.1.2.1, ⟨hk.1.2.2.1, hk.1.2.2.2⟩⟩⟩, hk.2⟩))))
                             (case aB => exact HB.out)
                             (case aF => exact (fun k_ hk => ⟨(.inr (Nat.le_trans (below_size HB.out) hk)), Kd.freshB (g := gb256) (o := .cells #[.slice A0_0 l0_0.length c0_0, .slice A0_1 l0_1.length c0_1] 25 (0, 0)) BK256.out k_ hk, Kd.freshB (g := gb257) (o := .cells #[.slice A2_0 l2_0.length c2_0, .slice A2_1 l2_1.length c2_1] 29 (0, 0)) BK257.out k_ hk, Kd.freshB (g := gb265) (o := .cells #[.slice A2_0 l2_0.length c2_0, .slice A2_1 l2_1.length c2_1] 29 (0, 0)) BK265.out k_ hk⟩))
                             (case aO => exact HO276.out)
                             (case aS => exact (below_size HB.out))
                             (case aL => have := LMc43.out; omega)
                             intro v283 w78 ho hb hg hat
                             rw [← Ny282.out] at ho
                             have n0_ := Aside0.mk (Kd.V_afterv (ok := (fun k_ => (P2_0_ k_ ∨ w.heap.size ≤ k_) ∧ k_ ≠ gb256 ∧ k_ ≠ gb257 ∧ k_ ≠ gb265)) HO_258000.out hg hat)
                             have n1_ := Aside0.mk (blk_grown (g := gb256) (o := .cells #[.slice A0_0 l0_0.length c0_0, .slice A0_1 l0_1.length c0_1] 25 (0, 0)) BK256.out hg (Kd.N_ne HO276.out BK256.out (by decide)))
                             have n2_ := Aside0.mk (blk_grown (g := gb257) (o := .cells #[.slice A2_0 l2_0.length c2_0, .slice A2_1 l2_1.length c2_1] 29 (0, 0)) BK257.out hg (Kd.N_ne HO276.out BK257.out (by decide)))
                             have n3_ := Aside0.mk (blk_grown (g := gb265) (o := .cells #[.slice A2_0 l2_0.length c2_0, .slice A2_1 l2_1.length c2_1] 29 (0, 0)) BK265.out hg (Kd.N_ne HO276.out BK265.out (by decide)))
                             have n4_ := Aside0.mk (Kd.V_afterv (ok := (fun k_ => (P2_0_ k_ ∨ w.heap.size ≤ k_) ∧ k_ ≠ gb256 ∧ k_ ≠ gb257 ∧ k_ ≠ gb265)) HO273.out hg hat)
                             have n5_ := Aside0.mk (Kd.V_afterv (ok := (fun k_ => (P2_0_ k_ ∨ w.heap.size ≤ k_) ∧ k_ ≠ gb256 ∧ k_ ≠ gb257 ∧ k_ ≠ gb265)) HO281.out hg hat)
                             have n6_ := Aside0.mk (hb)
                             have n7_ := Aside0.mk (ho)
                             clear HO_258000
                             clear BK256
                             clear BK257
                             clear BK265
                             clear HO273
                             clear HO281
                             clear HB
                             clear HO276
                             have HO_258000 := n0_
                             have BK256 := n1_
                             have BK257 := n2_
                             have BK265 := n3_
                             have HO273 := n4_
                             have HO281 := n5_
                             have HB := n6_
                             have HO284 := n7_
                             clear n0_ n1_ n2_ n3_ n4_ n5_ n6_ n7_
                             clear ho hb hg hat
                             obtain ⟨Ao79, co79, eo79⟩ := Kd.N_slice HO284.out
                             (first | subst eo79 )
                             refine hK.out _ _ ⟨(blk_cell BK257.out 0).trans rfl, (blk_cell BK257.out 1).trans rfl⟩ (fun hHeld => ?_)
                             clear hK K
                             refine norm_ (a' := ?_) ?_ ?_
                             rotate_left
                             · show Act.put _ (some 54) _ = _
                               simp only [zs]
                               rfl
                             refine zp 12 (zb 14 8191) ?_ rfl rfl HT_ (by kernel_rfl) (fun _ _ _ h => h) rfl ?_ ?_ ?_ ?_; rotate_left; (intro w'; go_simp; with_reducible rfl); rotate_left; (simp only [zs]; rfl)
                             refine one_ (i := 13) (N := none) #[true, true, true, true, true, true, true, true, true, true, true, true, true, true] rfl rfl (one_of HT_.out (by kernel_rfl)) (by decide) (fun K hK => ?_)
                             have hs80 : w78.cell? ⟨gb265, 0, none⟩ = some (.slice A2_0 l2_0.length c2_0) := (blk_cell BK265.out 0).trans rfl
                             have hfs80 := blk_frozen BK265.out 0
                             have hns80_0 := NB256_265.out
                             have hns80_1 := NB257_265.out
                             have hms80_0 := NB265_256.out
                             have hms80_1 := NB265_257.out
                             refine skip_ (w1 := ?_) (by rfl) rfl ?_ ?_
                             rotate_left
                             · go_simp
                               rfl
                             refine hK.out _ _ ⟨((cell_far (p := ⟨gb265, _, none⟩) NB257_265.out _).trans (hHeld.1)), ((cell_far (p := ⟨gb265, _, none⟩) NB257_265.out _).trans (hHeld.2))⟩ (fun hHeld => ?_)
                             clear hK K
                             refine done_ (done_of HT_.out (by kernel_rfl)) ?_
                             have hcz81_0 : w78.cell? ⟨gb256, 0, none⟩ = some (.slice A0_0 l0_0.length c0_0) := (blk_cell BK256.out 0).trans rfl
                             have hcz81_1 : w78.cell? ⟨gb256, 1, none⟩ = some (.slice A0_1 l0_1.length c0_1) := (blk_cell BK256.out 1).trans rfl
                             have hfz81_0 := blk_frozen BK256.out 0
                             have hfz81_1 := blk_frozen BK256.out 1
                             have hcz82_0 : w78.cell? ⟨gb265, 0, none⟩ = some (.slice A2_0 l2_0.length c2_0) := (blk_cell BK265.out 0).trans rfl
                             have hcz82_1 : w78.cell? ⟨gb265, 1, none⟩ = some (.slice A2_1 l2_1.length c2_1) := (blk_cell BK265.out 1).trans rfl
                             have hfz82_0 := blk_frozen BK265.out 0
                             have hfz82_1 := blk_frozen BK265.out 1
                             try go_wp2_with (first | ((with_reducible refine gate_callee (f := 9) rfl ?_); refine goesL_ (some 59) rfl rfl Tryd.func9 (by kernel_rfl) rfl #[.agg #[.slice A0_0 l0_0.length c0_0, .slice A0_1 l0_1.length c0_1], .string a1, .agg #[.slice Ao79 y282.length co79, .slice A2_1 l2_1.length c2_1]] rfl (by (try simp only [List.map_toArray, List.map_cons, List.map_nil]); first | done | rfl | (simp only [List.length_drop, List.length_take]; rfl)) ?_; (with_reducible refine (valid_Tree.calls k2 _ _ l0_0 _ _ l0_1 a1 _ _ y282 _ _ l2_1 false _ ?sideT ?side1 ?side2 ?side3 ?side4 ?side5 ?side6 ?side7 ?side8 A44.out).mono ?_); (case sideT => exact Tabs.below HU8.out (by repeat (first | (with_reducible first | exact HB.out | refine below_set ?_ GE265.out ) ))); (case side1 => exact Kd.C_below HR0_0.out (by repeat (first | (with_reducible first | exact HB.out | refine below_set ?_ GE265.out) ))); (case side2 => exact HC0_0.out); (case side3 => exact Kd.C_below HR0_1.out (by repeat (first | (with_reducible first | exact HB.out | refine below_set ?_ GE265.out) ))); (case side4 => exact HC0_1.out); (case side5 => refine (Kd.N_reads' (e := 43) (base := w.heap.size) (ok := fun k_ => ((P2_0_ k_ ∨ w.heap.size ≤ k_) ∧ (k_ ≠ gb256 ∧ (k_ ≠ gb257 ∧ k_ ≠ gb265)))) (n := y282.length) (c := co79) ?_).2.2; exact (by exact (Kd.N_mono (Kd.N_far (p := ⟨gb265, 0, none⟩) (Kd.N_mono HO284.out (fun k_ hk => (⟨hk, hk.2.2.2⟩ : _ ∧ k_ ≠ gb265))) (fun _ hk => hk.2) (.slice Ao79 y282.length co79)) (fun _ h_ => h_.1)))); (case side6 => exact (Kd.N_reads' HO284.out).2.1); (case side7 => exact Kd.C_below HR2_1.out (by repeat (first | (with_reducible first | exact HB.out | refine below_set ?_ GE265.out) ))); (case side8 => exact HC2_1.out); rintro e w83 ⟨rfl, hb⟩; refine ⟨_, rfl, ?_⟩; have n0_ := Aside0.mk (Kd.V_below (by exact (Kd.V_mono (Kd.V_far (p := ⟨gb265, 0, none⟩) (Kd.V_mono HO_258000.out (fun k_ hk => (⟨hk, hk.1.2.2.2⟩ : _ ∧ k_ ≠ gb265))) (fun _ hk => hk.2) (.slice Ao79 y282.length co79)) (fun _ h_ => h_.1))) hb); have n1_ := Aside0.mk (Kd.V_below (by exact (Kd.V_mono (Kd.V_far (p := ⟨gb265, 0, none⟩) (Kd.V_mono HO273.out (fun k_ hk => (⟨hk, hk.1.2.2.2⟩ : _ ∧ k_ ≠ gb265))) (fun _ hk => hk.2) (.slice Ao79 y282.length co79)) (fun _ h_ => h_.1))) hb); have n2_ := Aside0.mk (Kd.V_below (by exact (Kd.V_mono (Kd.V_far (p := ⟨gb265, 0, none⟩) (Kd.V_mono HO281.out (fun k_ hk => (⟨hk, hk.1.2.2.2⟩ : _ ∧ k_ ≠ gb265))) (fun _ hk => hk.2) (.slice Ao79 y282.length co79)) (fun _ h_ => h_.1))) hb); have n3_ := Aside0.mk (Kd.N_below (by exact (Kd.N_mono (Kd.N_far (p := ⟨gb265, 0, none⟩) (Kd.N_mono HO284.out (fun k_ hk => (⟨hk, hk.2.2.2⟩ : _ ∧ k_ ≠ gb265))) (fun _ hk => hk.2) (.slice Ao79 y282.length co79)) (fun _ h_ => h_.1))) hb); have n4_ := Aside0.mk (blk_below (g := gb256) (o := .cells #[.slice A0_0 l0_0.length c0_0, .slice A0_1 l0_1.length c0_1] 25 (0, 0)) (by refine blk_far ?_ NB256_265.out _; exact BK256.out) hb); have n5_ := Aside0.mk (blk_below (g := gb257) (o := .cells #[.slice A2_0 l2_0.length c2_0, .slice A2_1 l2_1.length c2_1] 29 (0, 0)) (by refine blk_far ?_ NB257_265.out _; exact BK257.out) hb); have n6_ := Aside0.mk (blk_below (g := gb265) (o := .cells #[.slice Ao79 y282.length co79, .slice A2_1 l2_1.length c2_1] 29 (0, 0)) (by refine blk_put (cs := #[.slice A2_0 l2_0.length c2_0, .slice A2_1 l2_1.length c2_1]) ?_ 0 _ rfl; exact BK265.out) hb); have n7_ := Aside0.mk (below_step (by repeat (first | (with_reducible first | exact HB.out | refine below_set ?_ GE265.out) )) hb); clear HO_258000; clear HO273; clear HO281; clear HO284; clear BK256; clear BK257; clear BK265; clear HB; have HO_258000 := n0_; have HO273 := n1_; have HO281 := n2_; have HO284 := n3_; have BK256 := n4_; have BK257 := n5_; have BK265 := n6_; have HB := n7_; clear n0_ n1_ n2_ n3_ n4_ n5_ n6_ n7_; (try clear hb); (try clear hb2); (try clear hk); (try clear hi)))
                             go_ret
                             exact ⟨by first | rfl , by exact HB.out⟩
                         · rw [if_neg c43] at H
                           exact absurd H (by simp)
                       · rw [if_neg c42] at H
                         exact absurd H (by simp)
                     · rw [if_neg c41] at H
                       exact absurd H (by simp)
                   · rw [if_neg c39] at H
                     exact absurd H (by simp)
                 · rw [if_neg c38] at H
                   exact absurd H (by simp)
               · rw [if_neg c37] at H
                 exact absurd H (by simp)
             · rw [if_neg c36] at H
               have c36b0 : decide (x7_2 < (l2_0.length : Int)) = false := decide_eq_false c36
               clear c36
               have H' := Aside0.mk H
               clear H
               have hnb84 := NB257_256.out
               have hnc84 := NB256_257.out
               have hcz85_0 : wr.cell? ⟨gb257, 0, none⟩ = some (.slice A2_0 l2_0.length c2_0) := (blk_cell BK257.out 0).trans rfl
               have hcz85_1 : wr.cell? ⟨gb257, 1, none⟩ = some (.slice A2_1 l2_1.length c2_1) := (blk_cell BK257.out 1).trans rfl
               have hfz85_0 := blk_frozen BK257.out 0
               have hfz85_1 := blk_frozen BK257.out 1
               go_wp2
               go_loopg [9] k2 (fun kq v9 w' => ∃ (x9_3 : Int), v9 = .int .i64 x9_3 ∧ Aside0 (ecdysislaw20_ValidLess.l1 kq a1 x9_3 l0_0 l0_1 l2_0 l2_1 = some r) ∧ Aside0 (kq ≤ k2) ∧ Aside0 (Kd.V k43 43 w' w.heap.size (fun k_ => (P2_0_ k_ ∨ w.heap.size ≤ k_) ∧ k_ ≠ gb256 ∧ k_ ≠ gb257) (.slice A2_0 l2_0.length c2_0) l2_0) ∧ Aside0 (w'.heap[gb256]? = some (.cells #[(.slice A0_0 l0_0.length c0_0), (.slice A0_1 l0_1.length c0_1)] 25 (0, 0))) ∧ Aside0 (w'.heap[gb257]? = some (.cells #[(.slice A2_0 l2_0.length c2_0), (.slice A2_1 l2_1.length c2_1)] 29 (0, 0))) ∧ Aside0 (Below w.heap.size w w'))
               case atStart => exact ⟨(0), (by first | rfl ), H', ⟨Nat.le_refl _⟩, ⟨by exact HO_258000.out⟩, ⟨by exact BK256.out⟩, ⟨by exact BK257.out⟩, ⟨by exact HB.out⟩⟩
               case round =>
                 clear H'
                 try clear c1
                 try clear c2
                 try clear p2
                 try clear c3
                 try clear c4
                 try clear c5
                 try clear q5
                 try clear c6
                 try clear c7
                 try clear q7
                 try clear c8
                 try clear c9
                 try clear c36
                 try clear c36b0
                 try clear c37
                 try clear c38
                 try clear c39
                 try clear c41
                 try clear c42
                 try clear c43
                 try clear c45
                 try clear q54
                 try clear c55
                 try clear q55
                 try clear c65
                 try clear c68
                 try clear c69
                 try clear q73
                 try clear c74
                 try clear q74
                 try clear c84
                 try clear hcz62_0
                 try clear hcz62_1
                 try clear hcz63_0
                 try clear hcz63_1
                 try clear hcz66_0
                 try clear hcz66_1
                 try clear hcz70_0
                 try clear hcz70_1
                 try clear hcz81_0
                 try clear hcz81_1
                 try clear hcz82_0
                 try clear hcz82_1
                 try clear hcz85_0
                 try clear hcz85_1
                 try clear hfz62_0
                 try clear hfz62_1
                 try clear hfz63_0
                 try clear hfz63_1
                 try clear hfz66_0
                 try clear hfz66_1
                 try clear hfz70_0
                 try clear hfz70_1
                 try clear hfz81_0
                 try clear hfz81_1
                 try clear hfz82_0
                 try clear hfz82_1
                 try clear hfz85_0
                 try clear hfz85_1
                 try clear q055
                 try clear q074
                 try clear q54
                 try clear q55
                 try clear q73
                 try clear q74
                 obtain ⟨x9_3, rfl, HA, HK3, HO_258000, BK256, BK257, HB⟩ := hrel
                 cases gk with
                 | zero => exact absurd HA.out (by simp [ecdysislaw20_ValidLess.l1])
                 | succ k3 =>
                   have H := HA.out
                   clear HA
                   simp only [ecdysislaw20_ValidLess.l1] at H
                   by_cases c86 : x9_3 < (l2_1.length : Int)
                   · rw [if_pos c86] at H
                     have c86b0 : decide (x9_3 < (l2_1.length : Int)) = true := decide_eq_true c86
                     clear c86
                     obtain ⟨y287, hy287⟩ : ∃ y_ : List (S63), y_ = (([] : List (S63))) := ⟨_, rfl⟩
                     replace H : (if 0 ≤ x9_3 then (if x9_3 ≤ (l2_1.length : Int) then ((some (l2_1.take (x9_3 : Int).toNat : List (S63))).bind fun y290 => (if y287.length + y290.length < 3518437208883 then ((some (y287 ++ y290 : List (S63))).bind fun y294 => (if 0 ≤ (wrap64 (x9_3 + 1)) then (if (wrap64 (x9_3 + 1)) ≤ (l2_1.length : Int) then ((some (l2_1.drop ((wrap64 (x9_3 + 1)) : Int).toNat : List (S63))).bind fun y297 => (if y294.length + y297.length < 3518437208883 then ((valid_Tree.f k3 l0_0 l0_1 a1 l2_0 (y294 ++ y297)).bind fun t304 => (if t304 = true then (ecdysislaw20_ValidLess.l1 k3 a1 (wrap64 (x9_3 + 1)) l0_0 l0_1 l2_0 l2_1) else (some false))) else (none))) else (none)) else (none))) else (none))) else (none)) else (none)) = some r := by first | (have H2_ := (Option.bind_some _ _).symm.trans H; rw [hy287]; with_reducible exact H2_) 
                     have Ny287 := Aside0.mk hy287
                     clear hy287
                     by_cases c87 : 0 ≤ x9_3
                     · rw [if_pos c87] at H
                       have c87b0 := eq_true c87
                       have c87b1 : decide (0 ≤ x9_3) = true := decide_eq_true c87
                       clear c87
                       by_cases c88 : x9_3 ≤ (l2_1.length : Int)
                       · rw [if_pos c88] at H
                         have c88b0 := eq_true c88
                         have c88b1 : decide (x9_3 ≤ (l2_1.length : Int)) = true := decide_eq_true c88
                         clear c88
                         obtain ⟨y290, hy290⟩ : ∃ y_ : List (S63), y_ = (l2_1.take (x9_3 : Int).toNat) := ⟨_, rfl⟩
                         replace H : (if y287.length + y290.length < 3518437208883 then ((some (y287 ++ y290 : List (S63))).bind fun y294 => (if 0 ≤ (wrap64 (x9_3 + 1)) then (if (wrap64 (x9_3 + 1)) ≤ (l2_1.length : Int) then ((some (l2_1.drop ((wrap64 (x9_3 + 1)) : Int).toNat : List (S63))).bind fun y297 => (if y294.length + y297.length < 3518437208883 then ((valid_Tree.f k3 l0_0 l0_1 a1 l2_0 (y294 ++ y297)).bind fun t304 => (if t304 = true then (ecdysislaw20_ValidLess.l1 k3 a1 (wrap64 (x9_3 + 1)) l0_0 l0_1 l2_0 l2_1) else (some false))) else (none))) else (none)) else (none))) else (none)) = some r := by first | (have H2_ := (Option.bind_some _ _).symm.trans H; rw [hy290]; with_reducible exact H2_) 
                         have Ny290 := Aside0.mk hy290
                         clear hy290
                         by_cases c89 : y287.length + y290.length < 3518437208883
                         · rw [if_pos c89] at H
                           have LMc89 := Aside0.mk c89
                           clear c89
                           obtain ⟨y294, hy294⟩ : ∃ y_ : List (S63), y_ = (y287 ++ y290) := ⟨_, rfl⟩
                           replace H : (if 0 ≤ (wrap64 (x9_3 + 1)) then (if (wrap64 (x9_3 + 1)) ≤ (l2_1.length : Int) then ((some (l2_1.drop ((wrap64 (x9_3 + 1)) : Int).toNat : List (S63))).bind fun y297 => (if y294.length + y297.length < 3518437208883 then ((valid_Tree.f k3 l0_0 l0_1 a1 l2_0 (y294 ++ y297)).bind fun t304 => (if t304 = true then (ecdysislaw20_ValidLess.l1 k3 a1 (wrap64 (x9_3 + 1)) l0_0 l0_1 l2_0 l2_1) else (some false))) else (none))) else (none)) else (none)) = some r := by first | (have H2_ := (Option.bind_some _ _).symm.trans H; rw [hy294]; with_reducible exact H2_) 
                           have Ny294 := Aside0.mk hy294
                           clear hy294
                           obtain ⟨ji90, hji90⟩ : ∃ j_ : Int, (wrap64 (x9_3 + 1)) = j_ := ⟨_, rfl⟩
                           replace H : (if 0 ≤ (ji90) then (if (ji90) ≤ (l2_1.length : Int) then ((some (l2_1.drop ((ji90) : Int).toNat : List (S63))).bind fun y297 => (if y294.length + y297.length < 3518437208883 then ((valid_Tree.f k3 l0_0 l0_1 a1 l2_0 (y294 ++ y297)).bind fun t304 => (if t304 = true then (ecdysislaw20_ValidLess.l1 k3 a1 ji90 l0_0 l0_1 l2_0 l2_1) else (some false))) else (none))) else (none)) else (none)) = some r := by first | (rw [hji90] at H; exact H) 
                           have hji90w : (IntKind.i64.wrap (x9_3 + 1)) = ji90 := (i64_w _).trans hji90
                           by_cases c91 : 0 ≤ (ji90)
                           · rw [if_pos c91] at H
                             have c91b0 := eq_true c91
                             have c91b1 : decide (0 ≤ (ji90)) = true := decide_eq_true c91
                             clear c91
                             by_cases c92 : (ji90) ≤ (l2_1.length : Int)
                             · rw [if_pos c92] at H
                               have c92b0 := eq_true c92
                               have c92b1 : decide ((ji90) ≤ (l2_1.length : Int)) = true := decide_eq_true c92
                               clear c92
                               obtain ⟨y297, hy297⟩ : ∃ y_ : List (S63), y_ = (l2_1.drop ((ji90) : Int).toNat) := ⟨_, rfl⟩
                               replace H : (if y294.length + y297.length < 3518437208883 then ((valid_Tree.f k3 l0_0 l0_1 a1 l2_0 (y294 ++ y297)).bind fun t304 => (if t304 = true then (ecdysislaw20_ValidLess.l1 k3 a1 ji90 l0_0 l0_1 l2_0 l2_1) else (some false))) else (none)) = some r := by first | (have H2_ := (Option.bind_some _ _).symm.trans H; rw [hy297]; with_reducible exact H2_) 
                               have Ny297 := Aside0.mk hy297
                               clear hy297
                               by_cases c93 : y294.length + y297.length < 3518437208883
                               · rw [if_pos c93] at H
                                 have LMc93 := Aside0.mk c93
                                 clear c93
                                 obtain ⟨y301, hy301⟩ : ∃ y_ : List (S63), y_ = (y294 ++ y297) := ⟨_, rfl⟩
                                 replace H : ((valid_Tree.f k3 l0_0 l0_1 a1 l2_0 y301).bind fun t304 => (if t304 = true then (ecdysislaw20_ValidLess.l1 k3 a1 ji90 l0_0 l0_1 l2_0 l2_1) else (some false))) = some r := by first | (rw [hy301]; with_reducible exact H) 
                                 have Ny301 := Aside0.mk hy301
                                 clear hy301
                                 replace H := Option.bind_eq_some_iff.mp H
                                 obtain ⟨t304, A940, H⟩ := H
                                 replace H : (if t304 = true then (ecdysislaw20_ValidLess.l1 k3 a1 ji90 l0_0 l0_1 l2_0 l2_1) else (some false)) = some r := H
                                 have A94 := Aside0.mk A940
                                 clear A940
                                 by_cases c95 : t304 = true
                                 · subst c95
                                   have H1 : (ecdysislaw20_ValidLess.l1 k3 a1 ji90 l0_0 l0_1 l2_0 l2_1) = some r := by rw [if_pos rfl] at H; exact H
                                   clear H
                                   have H := H1
                                   clear H1
                                   have H' := Aside0.mk H
                                   clear H
                                   have hnb96 := NB257_256.out
                                   have hnc96 := NB256_257.out
                                   have hcz97_0 : wr.cell? ⟨gb257, 0, none⟩ = some (.slice A2_0 l2_0.length c2_0) := (blk_cell BK257.out 0).trans rfl
                                   have hcz97_1 : wr.cell? ⟨gb257, 1, none⟩ = some (.slice A2_1 l2_1.length c2_1) := (blk_cell BK257.out 1).trans rfl
                                   have hfz97_0 := blk_frozen BK257.out 0
                                   have hfz97_1 := blk_frozen BK257.out 1
                                   try go_wp2_with (first | ((with_reducible refine gate_dst (N := 10) rfl ?_); refine box_event ?hg (N := 10) ?hd (cs := #[.slice none 0 0, .slice none 0 0]) (t := 29) ?hr ?_; (case hd => rfl); (case hg => rfl); (case hr => first | (go_simp; done) | (go_simp; rfl)); intro gb286 hg w98 hbox hb; have n0_ := Aside0.mk (Kd.V_below (Kd.V_elderB HO_258000.out gb286 (Nat.le_of_eq hg.symm)) hb); have n1_ := Aside0.mk (blk_below BK256.out hb); have n2_ := Aside0.mk (blk_below BK257.out hb); have n3_ := Aside0.mk (below_step HB.out hb); have n4_ := Aside0.mk (hbox); have n6_ := Aside0.mk ((by rw [hg]; exact (below_size HB.out) : w.heap.size ≤ gb286)); have n7_ := Aside0.mk ((by rw [hg]; exact Nat.ne_of_lt (blk_lt BK256.out) : gb256 ≠ gb286)); have n8_ := Aside0.mk ((by rw [hg]; exact Nat.ne_of_gt (blk_lt BK256.out) : gb286 ≠ gb256)); have n9_ := Aside0.mk ((by rw [hg]; exact Nat.ne_of_lt (blk_lt BK257.out) : gb257 ≠ gb286)); have n10_ := Aside0.mk ((by rw [hg]; exact Nat.ne_of_gt (blk_lt BK257.out) : gb286 ≠ gb257)); clear HO_258000; clear BK256; clear BK257; clear HB; have HO_258000 := n0_; have BK256 := n1_; have BK257 := n2_; have HB := n3_; have BK286 := n4_; have GE286 := n6_; have NB256_286 := n7_; have NB286_256 := n8_; have NB257_286 := n9_; have NB286_257 := n10_; clear n0_ n1_ n2_ n3_ n4_ n6_ n7_ n8_ n9_ n10_; clear hb hbox hg; have hnb99 := NB286_256.out; have hnc99 := NB256_286.out; have hnb100 := NB286_257.out; have hnc100 := NB257_286.out; have hcz101_0 : w98.cell? ⟨gb286, 0, none⟩ = some (.slice none 0 0) := (blk_cell BK286.out 0).trans rfl; have hcz101_1 : w98.cell? ⟨gb286, 1, none⟩ = some (.slice none 0 0) := (blk_cell BK286.out 1).trans rfl; have hfz101_0 := blk_frozen BK286.out 0; have hfz101_1 := blk_frozen BK286.out 1))
                                   have n0_ : Aside0 (Kd.V k43 43 ((w98.setCell ⟨gb286, 0, none⟩ (.slice A2_0 l2_0.length c2_0)).setCell ⟨gb286, 1, none⟩ (.slice A2_1 l2_1.length c2_1)) w.heap.size (fun k_ => (P2_0_ k_ ∨ w.heap.size ≤ k_) ∧ k_ ≠ gb256 ∧ k_ ≠ gb257 ∧ k_ ≠ gb286) (.slice A2_0 l2_0.length c2_0) l2_0) := ⟨by exact Kd.V_mono (Kd.V_far (p := ⟨gb286, 1, none⟩) (Kd.V_far (p := ⟨gb286, 0, none⟩) (Kd.V_mono HO_258000.out (fun k_ hk => (⟨hk, hk.2⟩ : _ ∧ k_ ≠ gb286))) (fun _ hk => hk.2) (.slice A2_0 l2_0.length c2_0)) (fun _ hk => hk.2) (.slice A2_1 l2_1.length c2_1)) (fun _ hk => ⟨hk.1.1.1, ⟨hk.1.1.2.1, ⟨hk.1.1.2.2, hk.1.2⟩⟩⟩)⟩
                                   have n1_ : Aside0 (((w98.setCell ⟨gb286, 0, none⟩ (.slice A2_0 l2_0.length c2_0)).setCell ⟨gb286, 1, none⟩ (.slice A2_1 l2_1.length c2_1)).heap[gb256]? = some (.cells #[.slice A0_0 l0_0.length c0_0, .slice A0_1 l0_1.length c0_1] 25 (0, 0))) := ⟨by refine blk_far ?_ NB256_286.out _; refine blk_far ?_ NB256_286.out _; exact BK256.out⟩
                                   have n2_ : Aside0 (((w98.setCell ⟨gb286, 0, none⟩ (.slice A2_0 l2_0.length c2_0)).setCell ⟨gb286, 1, none⟩ (.slice A2_1 l2_1.length c2_1)).heap[gb257]? = some (.cells #[.slice A2_0 l2_0.length c2_0, .slice A2_1 l2_1.length c2_1] 29 (0, 0))) := ⟨by refine blk_far ?_ NB257_286.out _; refine blk_far ?_ NB257_286.out _; exact BK257.out⟩
                                   have n3_ : Aside0 (((w98.setCell ⟨gb286, 0, none⟩ (.slice A2_0 l2_0.length c2_0)).setCell ⟨gb286, 1, none⟩ (.slice A2_1 l2_1.length c2_1)).heap[gb286]? = some (.cells #[.slice A2_0 l2_0.length c2_0, .slice A2_1 l2_1.length c2_1] 29 (0, 0))) := ⟨by refine blk_put (cs := #[.slice A2_0 l2_0.length c2_0, .slice none 0 0]) ?_ 1 _ rfl; refine blk_put (cs := #[.slice none 0 0, .slice none 0 0]) ?_ 0 _ rfl; exact BK286.out⟩
                                   have n4_ : Aside0 (Below w.heap.size w ((w98.setCell ⟨gb286, 0, none⟩ (.slice A2_0 l2_0.length c2_0)).setCell ⟨gb286, 1, none⟩ (.slice A2_1 l2_1.length c2_1))) := ⟨by repeat (first | (with_reducible first | exact HB.out | refine below_set ?_ GE286.out) )⟩
                                   (try clear HO_258000)
                                   (try clear BK256)
                                   (try clear BK257)
                                   (try clear BK286)
                                   (try clear HB)
                                   generalize ((w98.setCell ⟨gb286, 0, none⟩ (.slice A2_0 l2_0.length c2_0)).setCell ⟨gb286, 1, none⟩ (.slice A2_1 l2_1.length c2_1)) = w102 at n0_ n1_ n2_ n3_ n4_ ⊢
                                   have HO_258000 := n0_
                                   have BK256 := n1_
                                   have BK257 := n2_
                                   have BK286 := n3_
                                   have HB := n4_
                                   clear n0_ n1_ n2_ n3_ n4_
                                   have n0_ := Aside0.mk (Kd.V_drew HO_258000.out)
                                   have n1_ := Aside0.mk (blk_drew BK256.out)
                                   have n2_ := Aside0.mk (blk_drew BK257.out)
                                   have n3_ := Aside0.mk (blk_drew BK286.out)
                                   have n4_ := Aside0.mk (below_drew1 HB.out)
                                   clear HO_258000
                                   clear BK256
                                   clear BK257
                                   clear BK286
                                   clear HB
                                   have HO_258000 := n0_
                                   have BK256 := n1_
                                   have BK257 := n2_
                                   have BK286 := n3_
                                   have HB := n4_
                                   clear n0_ n1_ n2_ n3_ n4_
                                   have q104 : (x9_3 : Int) ≤ ((l2_1.length : Int) : Int) := of_decide_eq_true (by first | (with_reducible assumption) )
                                   obtain ⟨i0104, hi0104, _, hsz104, _⟩ := info_parts info63
                                   have hroom104 : l2_1.length ≤ c2_1 := HC2_1.out
                                   have hC104 : Kd.C k63 _ A2_1 l2_1.length l2_1 := HR2_1.out
                                   have hcut104 := cut_to (P := Tryd.prog) 27 63 .i64 Tryd.underlying27 hi0104 A2_1 l2_1.length c2_1 x9_3 (of_decide_eq_true (by first | (with_reducible assumption) )) q104 hroom104
                                   have hr104 := Kd.C_take (m := (x9_3 : Int).toNat) hC104 (by omega)
                                   have hy104 : y290.length = (x9_3 : Int).toNat := (by rw [Ny290.out, List.length_take]; omega)
                                   rw [← Ny290.out] at hr104
                                   rw [← hy104] at hcut104
                                   have HR293 := Aside0.mk hr104
                                   have HC293 := Aside0.mk (show y290.length ≤ c2_1 from by omega)
                                   clear hr104 hC104 hroom104 hi0104 hsz104
                                   have KY104 := Aside0.mk hy104
                                   clear hy104
                                   replace q104 := eq_true q104
                                   have q105 : ((ji90) : Int) ≤ ((l2_1.length : Int) : Int) := of_decide_eq_true (by first | (with_reducible assumption) )
                                   obtain ⟨i0105, hi0105, _, hsz105, _⟩ := info_parts info63
                                   have hroom105 : l2_1.length ≤ c2_1 := HC2_1.out
                                   have hC105 : Kd.C k63 _ A2_1 l2_1.length l2_1 := HR2_1.out
                                   have q0105 : (0 : Int) ≤ ((ji90) : Int) := of_decide_eq_true (by first | (with_reducible assumption) )
                                   have hcut105 := cut_from (P := Tryd.prog) 27 63 .i64 Tryd.underlying27 hi0105 4 hsz105 A2_1 l2_1.length c2_1 (ji90) q0105 q105
                                   have hr105 := Kd.C_drop (m := ((ji90) : Int).toNat) (c := c2_1) hC105 (by omega) hroom105
                                   obtain ⟨A105, hA105⟩ : ∃ A1, A1 = (if c2_1 = ((ji90) : Int).toNat then A2_1 else (A2_1 : Option Addr).map (·.add (((ji90) : Int).toNat * 4))) := ⟨_, rfl⟩
                                   obtain ⟨c105, hc105⟩ : ∃ c1, c1 = c2_1 - ((ji90) : Int).toNat := ⟨_, rfl⟩
                                   have hy105 : y297.length = l2_1.length - ((ji90) : Int).toNat := (by rw [Ny297.out, List.length_drop] <;> omega)
                                   rw [show (l2_1).drop ((ji90) : Int).toNat = y297 from Ny297.out.symm] at hr105
                                   replace hr105 : Kd.C k63 _ A105 y297.length y297 := (by rw [hA105]; exact hr105)
                                   rw [← hy105, ← hA105, ← hc105] at hcut105
                                   have HR300 := Aside0.mk hr105
                                   have HC300 := Aside0.mk (show y297.length ≤ c105 from by rw [hy105, hc105]; exact Nat.sub_le_sub_right hroom105 _)
                                   clear hr105 hC105 hroom105 hi0105 hsz105 hc105
                                   have KY105 := Aside0.mk hy105
                                   have KA105 := Aside0.mk hA105
                                   clear hy105 hA105
                                   replace q105 := eq_true q105
                                   refine start_ (n := 14) (S := fun w' => w'.cell? ⟨gb257, 0, none⟩ = some (.slice A2_0 l2_0.length c2_0) ∧ w'.cell? ⟨gb257, 1, none⟩ = some (.slice A2_1 l2_1.length c2_1)) (ds := []) #[false, false, false, false, false, false, false, false, false, false, false, false, false, false] (by kernel_rfl) rfl rfl ⟨(blk_cell BK257.out 0).trans rfl, (blk_cell BK257.out 1).trans rfl⟩ (fun hHeld => ?_); refine with_tabW ecdysislaw20_ValidLess.tab18 ecdysislaw20_ValidLess.bits18 (fun HT_ HW_ => ?_)
                                   generalize w102.drew = w103 at HO_258000 BK256 BK257 BK286 HB HR293 HR300 hHeld ⊢
                                   refine zp 1 (zb 14 2) ?_ rfl rfl HT_ (by kernel_rfl) (fun _ _ _ h => h) rfl ?_ ?_ ?_ ?_; rotate_left; (intro w'; go_simp; with_reducible rfl); rotate_left; (simp only [zs]; rfl)
                                   refine zp 3 (zb 14 10) ?_ rfl rfl HT_ (by kernel_rfl) (fun _ _ _ h => h) rfl ?_ ?_ ?_ ?_; rotate_left; (intro w'; go_simp; with_reducible rfl); rotate_left; (simp only [zs]; rfl)
                                   refine zp 6 (zb 14 74) ?_ rfl rfl HT_ (by kernel_rfl) (fun _ _ _ h => h) rfl ?_ ?_ ?_ ?_; rotate_left; (intro w'; go_simp; with_reducible rfl); rotate_left; (simp only [zs]; rfl)
                                   refine zp 8 (zb 14 330) ?_ rfl rfl HT_ (by kernel_rfl) (fun _ _ _ h => h) rfl ?_ ?_ ?_ ?_; rotate_left; (intro w'; go_simp; with_reducible rfl); rotate_left; (simp only [zs]; rfl)
                                   refine zp 9 (zb 14 842) ?_ rfl rfl HT_ (by kernel_rfl) (fun _ _ _ h => h) rfl ?_ ?_ ?_ ?_; rotate_left; (intro w'; go_simp; with_reducible rfl); rotate_left; (simp only [zs]; rfl)
                                   refine zt 2 (zb 14 846) ?_ rfl rfl HT_ HW_ (by kernel_rfl) (fun _ _ _ h => h) rfl ?_ hHeld ?_ ?_ ?_; rotate_left; (rintro w' ⟨s0, s1⟩; go_simp; with_reducible rfl); rotate_left; (simp only [zs]; rfl)
                                   refine zp 4 (zb 14 862) ?_ rfl rfl HT_ (by kernel_rfl) (fun _ _ _ h => h) rfl ?_ ?_ ?_ ?_; rotate_left; (intro w'; go_simp; with_reducible rfl); rotate_left; (simp only [zs]; rfl)
                                   refine zt 7 (zb 14 990) ?_ rfl rfl HT_ HW_ (by kernel_rfl) (fun _ _ _ h => h) rfl ?_ hHeld ?_ ?_ ?_; rotate_left; (rintro w' ⟨s0, s1⟩; go_simp; with_reducible rfl); rotate_left; (simp only [zs]; rfl)
                                   refine zp 10 (zb 14 2014) ?_ rfl rfl HT_ (by kernel_rfl) (fun _ _ _ h => h) rfl ?_ ?_ ?_ ?_; rotate_left; (intro w'; go_simp; with_reducible rfl); rotate_left; (simp only [zs]; rfl)
                                   refine one_ (i := 0) (N := some 69) #[true, true, true, true, true, false, true, true, true, true, true, false, false, false] rfl rfl (one_of HT_.out (by kernel_rfl)) (by decide) (fun K hK => ?_)
                                   refine Kd.R_lit_step k63 _ 63 ?hg (N := 69) ?hd (xs := ([] : List (S63))) (inner := []) (ok := fun _ => True) (okp := fun _ => True) ?hr ?hp (fun _ hk => hk) trivial (Below.refl _ _) (Nat.le_refl _) (by simp) ?_; (case hd => rfl); (case hg => rfl); (case hr => first | (go_simp; done) | (go_simp; rfl)); (case hp => exact (Reps.none _ _))
                                   intro v288 w106 ho107 hb hg_ hnew_
                                   clear hg_ hnew_
                                   (first | rw [← Ny287.out] at ho107 )
                                   have n0_ := Aside0.mk (Kd.V_elder' HO_258000.out (Kd.R_base ho107) hb)
                                   have n1_ := Aside0.mk (Kd.R_lower (Kd.R_newM (M := fun k_ => (w.heap.size ≤ k_)) ho107 (below_size HB.out) (fun k_ h_ => h_)) (below_size HB.out))
                                   have n2_ := Aside0.mk (blk_below BK256.out hb)
                                   have n3_ := Aside0.mk (blk_below BK257.out hb)
                                   have n4_ := Aside0.mk (blk_below BK286.out hb)
                                   have n5_ := Aside0.mk (below_step HB.out hb)
                                   clear HO_258000
                                   clear BK256
                                   clear BK257
                                   clear BK286
                                   clear HB
                                   have HO_258000 := n0_
                                   have HO289 := n1_
                                   have BK256 := n2_
                                   have BK257 := n3_
                                   have BK286 := n4_
                                   have HB := n5_
                                   clear n0_ n1_ n2_ n3_ n4_ n5_
                                   clear hb ho107
                                   refine hK.out _ _ ⟨(blk_cell BK257.out 0).trans rfl, (blk_cell BK257.out 1).trans rfl⟩ (fun hHeld => ?_)
                                   clear hK K
                                   refine norm_ (a' := ?_) ?_ ?_
                                   rotate_left
                                   · show Act.put _ (some 69) _ = _
                                     simp only [zs]
                                     rfl
                                   refine one_ (i := 5) (N := some 74) #[true, true, true, true, true, true, true, true, true, true, true, false, false, false] rfl rfl (one_of HT_.out (by kernel_rfl)) (by decide) (fun K hK => ?_)
                                   refine Kd.R_append_rows_step k63 (w0 := w) w.heap.size (by rfl) (.tmp 69) (.tmp 73) 27 63 (.agg #[(.int .i64 0), (.int .i64 0), (.int .u64 0), (.string ⟨#[]⟩)]) 40 rfl Tryd.underlying27 info63 rfl (by decide) (by omega) v288 y287 y290 _ _ _ (fun k_ => (w.heap.size ≤ k_)) (fun _ => False) rfl rfl ?aO ?aR (fun _ _ h => h) (fun _ h => h.elim) ?aF ?aB ?aS ?aL ?_
                                   (case aR => repeat (first | exact (Kd.C_below HR293.out HB.out) ))
                                   (case aB => exact HB.out)
                                   (case aF => exact (fun k_ hk => (Nat.le_trans (below_size HB.out) hk)))
                                   (case aO => exact (by exact Kd.R_mono HO289.out (fun _ hk => hk.1)))
                                   (case aS => exact (below_size HB.out))
                                   (case aL => have := LMc89.out; omega)
                                   intro v295 w108 ho hb hg hat
                                   rw [← Ny294.out] at ho
                                   have n0_ := Aside0.mk (Kd.V_afterv (ok := (fun k_ => (P2_0_ k_ ∨ w.heap.size ≤ k_) ∧ k_ ≠ gb256 ∧ k_ ≠ gb257 ∧ k_ ≠ gb286)) HO_258000.out hg hat)
                                   have n1_ := Aside0.mk (blk_grown (g := gb256) (o := .cells #[.slice A0_0 l0_0.length c0_0, .slice A0_1 l0_1.length c0_1] 25 (0, 0)) BK256.out hg (Kd.R_ne HO289.out BK256.out (by decide)))
                                   have n2_ := Aside0.mk (blk_grown (g := gb257) (o := .cells #[.slice A2_0 l2_0.length c2_0, .slice A2_1 l2_1.length c2_1] 29 (0, 0)) BK257.out hg (Kd.R_ne HO289.out BK257.out (by decide)))
                                   have n3_ := Aside0.mk (blk_grown (g := gb286) (o := .cells #[.slice A2_0 l2_0.length c2_0, .slice A2_1 l2_1.length c2_1] 29 (0, 0)) BK286.out hg (Kd.R_ne HO289.out BK286.out (by decide)))
                                   have n4_ := Aside0.mk (hb)
                                   have n5_ := Aside0.mk (ho)
                                   clear HO_258000
                                   clear BK256
                                   clear BK257
                                   clear BK286
                                   clear HB
                                   clear HO289
                                   have HO_258000 := n0_
                                   have BK256 := n1_
                                   have BK257 := n2_
                                   have BK286 := n3_
                                   have HB := n4_
                                   have HO296 := n5_
                                   clear n0_ n1_ n2_ n3_ n4_ n5_
                                   clear ho hb hg hat
                                   refine hK.out _ _ ⟨(blk_cell BK257.out 0).trans rfl, (blk_cell BK257.out 1).trans rfl⟩ (fun hHeld => ?_)
                                   clear hK K
                                   refine norm_ (a' := ?_) ?_ ?_
                                   rotate_left
                                   · show Act.put _ (some 74) _ = _
                                     simp only [zs]
                                     rfl
                                   refine one_ (i := 11) (N := some 80) #[true, true, true, true, true, true, true, true, true, true, true, true, false, false] rfl rfl (one_of HT_.out (by kernel_rfl)) (by decide) (fun K hK => ?_)
                                   refine Kd.R_append_rows_step k63 (w0 := w) w.heap.size (by rfl) (.tmp 74) (.tmp 79) 27 63 (.agg #[(.int .i64 0), (.int .i64 0), (.int .u64 0), (.string ⟨#[]⟩)]) 40 rfl Tryd.underlying27 info63 rfl (by decide) (by omega) v295 y294 y297 _ _ _ (fun k_ => (w.heap.size ≤ k_)) (fun _ => False) rfl rfl ?aO ?aR (fun _ _ h => h) (fun _ h => h.elim) ?aF ?aB ?aS ?aL ?_
                                   (case aR => repeat (first | exact (Kd.C_below HR300.out HB.out) ))
                                   (case aB => exact HB.out)
                                   (case aF => exact (fun k_ hk => (Nat.le_trans (below_size HB.out) hk)))
                                   (case aO => exact HO296.out)
                                   (case aS => exact (below_size HB.out))
                                   (case aL => have := LMc93.out; omega)
                                   intro v302 w109 ho hb hg hat
                                   rw [← Ny301.out] at ho
                                   have n0_ := Aside0.mk (Kd.V_afterv (ok := (fun k_ => (P2_0_ k_ ∨ w.heap.size ≤ k_) ∧ k_ ≠ gb256 ∧ k_ ≠ gb257 ∧ k_ ≠ gb286)) HO_258000.out hg hat)
                                   have n1_ := Aside0.mk (blk_grown (g := gb256) (o := .cells #[.slice A0_0 l0_0.length c0_0, .slice A0_1 l0_1.length c0_1] 25 (0, 0)) BK256.out hg (Kd.R_ne HO296.out BK256.out (by decide)))
                                   have n2_ := Aside0.mk (blk_grown (g := gb257) (o := .cells #[.slice A2_0 l2_0.length c2_0, .slice A2_1 l2_1.length c2_1] 29 (0, 0)) BK257.out hg (Kd.R_ne HO296.out BK257.out (by decide)))
                                   have n3_ := Aside0.mk (blk_grown (g := gb286) (o := .cells #[.slice A2_0 l2_0.length c2_0, .slice A2_1 l2_1.length c2_1] 29 (0, 0)) BK286.out hg (Kd.R_ne HO296.out BK286.out (by decide)))
                                   have n4_ := Aside0.mk (hb)
                                   have n5_ := Aside0.mk (ho)
                                   clear HO_258000
                                   clear BK256
                                   clear BK257
                                   clear BK286
                                   clear HB
                                   clear HO296
                                   have HO_258000 := n0_
                                   have BK256 := n1_
                                   have BK257 := n2_
                                   have BK286 := n3_
                                   have HB := n4_
                                   have HO303 := n5_
                                   clear n0_ n1_ n2_ n3_ n4_ n5_
                                   clear ho hb hg hat
                                   obtain ⟨Ao110, co110, eo110⟩ := Kd.R_slice HO303.out
                                   (first | subst eo110 )
                                   refine hK.out _ _ ⟨(blk_cell BK257.out 0).trans rfl, (blk_cell BK257.out 1).trans rfl⟩ (fun hHeld => ?_)
                                   clear hK K
                                   refine norm_ (a' := ?_) ?_ ?_
                                   rotate_left
                                   · show Act.put _ (some 80) _ = _
                                     simp only [zs]
                                     rfl
                                   refine zp 12 (zb 14 8191) ?_ rfl rfl HT_ (by kernel_rfl) (fun _ _ _ h => h) rfl ?_ ?_ ?_ ?_; rotate_left; (intro w'; go_simp; with_reducible rfl); rotate_left; (simp only [zs]; rfl)
                                   refine one_ (i := 13) (N := none) #[true, true, true, true, true, true, true, true, true, true, true, true, true, true] rfl rfl (one_of HT_.out (by kernel_rfl)) (by decide) (fun K hK => ?_)
                                   have hs111 : w109.cell? ⟨gb286, 1, none⟩ = some (.slice A2_1 l2_1.length c2_1) := (blk_cell BK286.out 1).trans rfl
                                   have hfs111 := blk_frozen BK286.out 1
                                   have hns111_0 := NB256_286.out
                                   have hns111_1 := NB257_286.out
                                   have hms111_0 := NB286_256.out
                                   have hms111_1 := NB286_257.out
                                   refine skip_ (w1 := ?_) (by rfl) rfl ?_ ?_
                                   rotate_left
                                   · go_simp
                                     rfl
                                   refine hK.out _ _ ⟨((cell_far (p := ⟨gb286, _, none⟩) NB257_286.out _).trans (hHeld.1)), ((cell_far (p := ⟨gb286, _, none⟩) NB257_286.out _).trans (hHeld.2))⟩ (fun hHeld => ?_)
                                   clear hK K
                                   refine done_ (done_of HT_.out (by kernel_rfl)) ?_
                                   have hcz112_0 : w109.cell? ⟨gb256, 0, none⟩ = some (.slice A0_0 l0_0.length c0_0) := (blk_cell BK256.out 0).trans rfl
                                   have hcz112_1 : w109.cell? ⟨gb256, 1, none⟩ = some (.slice A0_1 l0_1.length c0_1) := (blk_cell BK256.out 1).trans rfl
                                   have hfz112_0 := blk_frozen BK256.out 0
                                   have hfz112_1 := blk_frozen BK256.out 1
                                   have hcz113_0 : w109.cell? ⟨gb286, 0, none⟩ = some (.slice A2_0 l2_0.length c2_0) := (blk_cell BK286.out 0).trans rfl
                                   have hcz113_1 : w109.cell? ⟨gb286, 1, none⟩ = some (.slice A2_1 l2_1.length c2_1) := (blk_cell BK286.out 1).trans rfl
                                   have hfz113_0 := blk_frozen BK286.out 0
                                   have hfz113_1 := blk_frozen BK286.out 1
                                   try go_wp2_with (first | ((with_reducible refine gate_callee (f := 9) rfl ?_); refine goesL_ (some 85) rfl rfl Tryd.func9 (by kernel_rfl) rfl #[.agg #[.slice A0_0 l0_0.length c0_0, .slice A0_1 l0_1.length c0_1], .string a1, .agg #[.slice A2_0 l2_0.length c2_0, .slice Ao110 y301.length co110]] rfl (by (try simp only [List.map_toArray, List.map_cons, List.map_nil]); first | done | rfl | (simp only [List.length_drop, List.length_take]; rfl)) ?_; (with_reducible refine (valid_Tree.calls k3 _ _ l0_0 _ _ l0_1 a1 _ _ l2_0 _ _ y301 true _ ?sideT ?side1 ?side2 ?side3 ?side4 ?side5 ?side6 ?side7 ?side8 A94.out).mono ?_); (case sideT => exact Tabs.below HU8.out (by repeat (first | (with_reducible first | exact HB.out | refine below_set ?_ GE286.out) ))); (case side1 => exact Kd.C_below HR0_0.out (by repeat (first | (with_reducible first | exact HB.out | refine below_set ?_ GE286.out) ))); (case side2 => exact HC0_0.out); (case side3 => exact Kd.C_below HR0_1.out (by repeat (first | (with_reducible first | exact HB.out | refine below_set ?_ GE286.out) ))); (case side4 => exact HC0_1.out); (case side5 => refine (Kd.V_reads' (e := 43) (base := w.heap.size) (ok := fun k_ => (((P2_0_ k_ ∨ w.heap.size ≤ k_) ∧ (k_ ≠ gb256 ∧ (k_ ≠ gb257 ∧ k_ ≠ gb286))) ∧ some k_ ≠ (.slice Ao110 y301.length co110 : Value).ownBlock)) (n := l2_0.length) (c := c2_0) ?_).2.2; exact (by exact (Kd.V_mono (Kd.V_far (p := ⟨gb286, 1, none⟩) (Kd.V_mono HO_258000.out (fun k_ hk => (⟨hk, hk.1.2.2.2⟩ : _ ∧ k_ ≠ gb286))) (fun _ hk => hk.2) (.slice Ao110 y301.length co110)) (fun _ h_ => h_.1)))); (case side6 => exact (Kd.V_reads' HO_258000.out).2.1); (case side7 => refine (Kd.R_reads' (e := 63) (base := w.heap.size) (ok := fun k_ => (w.heap.size ≤ k_)) (n := y301.length) (c := co110) ?_).2.2; exact (by exact (Kd.R_mono (Kd.R_far (p := ⟨gb286, 1, none⟩) (Kd.R_types HO303.out BK286.out (by decide)) (fun _ hk => hk.2) (.slice Ao110 y301.length co110)) (fun _ h_ => h_.1)))); (case side8 => exact (Kd.R_reads' HO303.out).2.1); rintro e w114 ⟨rfl, hb⟩; refine ⟨_, rfl, ?_⟩; have n0_ := Aside0.mk (Kd.V_below (by exact (Kd.V_mono (Kd.V_far (p := ⟨gb286, 1, none⟩) (Kd.V_mono HO_258000.out (fun k_ hk => (⟨hk, hk.1.2.2.2⟩ : _ ∧ k_ ≠ gb286))) (fun _ hk => hk.2) (.slice Ao110 y301.length co110)) (fun _ h_ => h_.1))) hb); have n1_ := Aside0.mk (Kd.R_below (by exact (Kd.R_mono (Kd.R_far (p := ⟨gb286, 1, none⟩) (Kd.R_types HO303.out BK286.out (by decide)) (fun _ hk => hk.2) (.slice Ao110 y301.length co110)) (fun _ h_ => h_.1))) hb); have n2_ := Aside0.mk (blk_below (g := gb256) (o := .cells #[.slice A0_0 l0_0.length c0_0, .slice A0_1 l0_1.length c0_1] 25 (0, 0)) (by refine blk_far ?_ NB256_286.out _; exact BK256.out) hb); have n3_ := Aside0.mk (blk_below (g := gb257) (o := .cells #[.slice A2_0 l2_0.length c2_0, .slice A2_1 l2_1.length c2_1] 29 (0, 0)) (by refine blk_far ?_ NB257_286.out _; exact BK257.out) hb); have n4_ := Aside0.mk (blk_below (g := gb286) (o := .cells #[.slice A2_0 l2_0.length c2_0, .slice Ao110 y301.length co110] 29 (0, 0)) (by refine blk_put (cs := #[.slice A2_0 l2_0.length c2_0, .slice A2_1 l2_1.length c2_1]) ?_ 1 _ rfl; exact BK286.out) hb); have n5_ := Aside0.mk (below_step (by repeat (first | (with_reducible first | exact HB.out | refine below_set ?_ GE286.out) )) hb); clear HO_258000; clear HO303; clear BK256; clear BK257; clear BK286; clear HB; have HO_258000 := n0_; have HO303 := n1_; have BK256 := n2_; have BK257 := n3_; have BK286 := n4_; have HB := n5_; clear n0_ n1_ n2_ n3_ n4_ n5_; (try clear hb); (try clear hb2); (try clear hk); (try clear hi)))
                                   go_roundg k3
                                   case measure => have := HJ3.out; have := HK2.out; have := HK3.out; omega
                                   case rel => exact ⟨(ji90), (by first | rfl ), H', ⟨by have := HJ3.out; have := HK2.out; have := HK3.out; omega⟩, ⟨by exact Kd.V_mono HO_258000.out (fun _ hk => ⟨hk.1.1, ⟨hk.1.2.1, hk.1.2.2.1⟩⟩)⟩, ⟨by exact BK256.out⟩, ⟨by exact BK257.out⟩, ⟨by exact HB.out⟩⟩
                                 · replace c95 := Bool.eq_false_iff.mpr c95
                                   subst c95
                                   have H1 : (some false) = some r := by rw [if_neg (show ¬ (false = true) by decide)] at H; exact H
                                   clear H
                                   have H := H1
                                   clear H1
                                   obtain rfl := Option.some.inj H
                                   have hnb115 := NB257_256.out
                                   have hnc115 := NB256_257.out
                                   have hcz116_0 : wr.cell? ⟨gb257, 0, none⟩ = some (.slice A2_0 l2_0.length c2_0) := (blk_cell BK257.out 0).trans rfl
                                   have hcz116_1 : wr.cell? ⟨gb257, 1, none⟩ = some (.slice A2_1 l2_1.length c2_1) := (blk_cell BK257.out 1).trans rfl
                                   have hfz116_0 := blk_frozen BK257.out 0
                                   have hfz116_1 := blk_frozen BK257.out 1
                                   try go_wp2_with (first | ((with_reducible refine gate_dst (N := 10) rfl ?_); refine box_event ?hg (N := 10) ?hd (cs := #[.slice none 0 0, .slice none 0 0]) (t := 29) ?hr ?_; (case hd => rfl); (case hg => rfl); (case hr => first | (go_simp; done) | (go_simp; rfl)); intro gb286 hg w117 hbox hb; have n0_ := Aside0.mk (Kd.V_below (Kd.V_elderB HO_258000.out gb286 (Nat.le_of_eq hg.symm)) hb); have n1_ := Aside0.mk (blk_below BK256.out hb); have n2_ := Aside0.mk (blk_below BK257.out hb); have n3_ := Aside0.mk (below_step HB.out hb); have n4_ := Aside0.mk (hbox); have n6_ := Aside0.mk ((by rw [hg]; exact (below_size HB.out) : w.heap.size ≤ gb286)); have n7_ := Aside0.mk ((by rw [hg]; exact Nat.ne_of_lt (blk_lt BK256.out) : gb256 ≠ gb286)); have n8_ := Aside0.mk ((by rw [hg]; exact Nat.ne_of_gt (blk_lt BK256.out) : gb286 ≠ gb256)); have n9_ := Aside0.mk ((by rw [hg]; exact Nat.ne_of_lt (blk_lt BK257.out) : gb257 ≠ gb286)); have n10_ := Aside0.mk ((by rw [hg]; exact Nat.ne_of_gt (blk_lt BK257.out) : gb286 ≠ gb257)); clear HO_258000; clear BK256; clear BK257; clear HB; have HO_258000 := n0_; have BK256 := n1_; have BK257 := n2_; have HB := n3_; have BK286 := n4_; have GE286 := n6_; have NB256_286 := n7_; have NB286_256 := n8_; have NB257_286 := n9_; have NB286_257 := n10_; clear n0_ n1_ n2_ n3_ n4_ n6_ n7_ n8_ n9_ n10_; clear hb hbox hg; have hnb118 := NB286_256.out; have hnc118 := NB256_286.out; have hnb119 := NB286_257.out; have hnc119 := NB257_286.out; have hcz120_0 : w117.cell? ⟨gb286, 0, none⟩ = some (.slice none 0 0) := (blk_cell BK286.out 0).trans rfl; have hcz120_1 : w117.cell? ⟨gb286, 1, none⟩ = some (.slice none 0 0) := (blk_cell BK286.out 1).trans rfl; have hfz120_0 := blk_frozen BK286.out 0; have hfz120_1 := blk_frozen BK286.out 1))
                                   have n0_ : Aside0 (Kd.V k43 43 ((w117.setCell ⟨gb286, 0, none⟩ (.slice A2_0 l2_0.length c2_0)).setCell ⟨gb286, 1, none⟩ (.slice A2_1 l2_1.length c2_1)) w.heap.size (fun k_ => (P2_0_ k_ ∨ w.heap.size ≤ k_) ∧ k_ ≠ gb256 ∧ k_ ≠ gb257 ∧ k_ ≠ gb286) (.slice A2_0 l2_0.length c2_0) l2_0) := ⟨by exact Kd.V_mono (Kd.V_far (p := ⟨gb286, 1, none⟩) (Kd.V_far (p := ⟨gb286, 0, none⟩) (Kd.V_mono HO_258000.out (fun k_ hk => (⟨hk, hk.2⟩ : _ ∧ k_ ≠ gb286))) (fun _ hk => hk.2) (.slice A2_0 l2_0.length c2_0)) (fun _ hk => hk.2) (.slice A2_1 l2_1.length c2_1)) (fun _ hk => ⟨hk.1.1.1, ⟨hk.1.1.2.1, ⟨hk.1.1.2.2, hk.1.2⟩⟩⟩)⟩
                                   have n1_ : Aside0 (((w117.setCell ⟨gb286, 0, none⟩ (.slice A2_0 l2_0.length c2_0)).setCell ⟨gb286, 1, none⟩ (.slice A2_1 l2_1.length c2_1)).heap[gb256]? = some (.cells #[.slice A0_0 l0_0.length c0_0, .slice A0_1 l0_1.length c0_1] 25 (0, 0))) := ⟨by refine blk_far ?_ NB256_286.out _; refine blk_far ?_ NB256_286.out _; exact BK256.out⟩
                                   have n2_ : Aside0 (((w117.setCell ⟨gb286, 0, none⟩ (.slice A2_0 l2_0.length c2_0)).setCell ⟨gb286, 1, none⟩ (.slice A2_1 l2_1.length c2_1)).heap[gb257]? = some (.cells #[.slice A2_0 l2_0.length c2_0, .slice A2_1 l2_1.length c2_1] 29 (0, 0))) := ⟨by refine blk_far ?_ NB257_286.out _; refine blk_far ?_ NB257_286.out _; exact BK257.out⟩
                                   have n3_ : Aside0 (((w117.setCell ⟨gb286, 0, none⟩ (.slice A2_0 l2_0.length c2_0)).setCell ⟨gb286, 1, none⟩ (.slice A2_1 l2_1.length c2_1)).heap[gb286]? = some (.cells #[.slice A2_0 l2_0.length c2_0, .slice A2_1 l2_1.length c2_1] 29 (0, 0))) := ⟨by refine blk_put (cs := #[.slice A2_0 l2_0.length c2_0, .slice none 0 0]) ?_ 1 _ rfl; refine blk_put (cs := #[.slice none 0 0, .slice none 0 0]) ?_ 0 _ rfl; exact BK286.out⟩
                                   have n4_ : Aside0 (Below w.heap.size w ((w117.setCell ⟨gb286, 0, none⟩ (.slice A2_0 l2_0.length c2_0)).setCell ⟨gb286, 1, none⟩ (.slice A2_1 l2_1.length c2_1))) := ⟨by repeat (first | (with_reducible first | exact HB.out | refine below_set ?_ GE286.out) )⟩
                                   (try clear HO_258000)
                                   (try clear BK256)
                                   (try clear BK257)
                                   (try clear BK286)
                                   (try clear HB)
                                   generalize ((w117.setCell ⟨gb286, 0, none⟩ (.slice A2_0 l2_0.length c2_0)).setCell ⟨gb286, 1, none⟩ (.slice A2_1 l2_1.length c2_1)) = w121 at n0_ n1_ n2_ n3_ n4_ ⊢
                                   have HO_258000 := n0_
                                   have BK256 := n1_
                                   have BK257 := n2_
                                   have BK286 := n3_
                                   have HB := n4_
                                   clear n0_ n1_ n2_ n3_ n4_
                                   have n0_ := Aside0.mk (Kd.V_drew HO_258000.out)
                                   have n1_ := Aside0.mk (blk_drew BK256.out)
                                   have n2_ := Aside0.mk (blk_drew BK257.out)
                                   have n3_ := Aside0.mk (blk_drew BK286.out)
                                   have n4_ := Aside0.mk (below_drew1 HB.out)
                                   clear HO_258000
                                   clear BK256
                                   clear BK257
                                   clear BK286
                                   clear HB
                                   have HO_258000 := n0_
                                   have BK256 := n1_
                                   have BK257 := n2_
                                   have BK286 := n3_
                                   have HB := n4_
                                   clear n0_ n1_ n2_ n3_ n4_
                                   have q123 : (x9_3 : Int) ≤ ((l2_1.length : Int) : Int) := of_decide_eq_true (by first | (with_reducible assumption) )
                                   obtain ⟨i0123, hi0123, _, hsz123, _⟩ := info_parts info63
                                   have hroom123 : l2_1.length ≤ c2_1 := HC2_1.out
                                   have hC123 : Kd.C k63 _ A2_1 l2_1.length l2_1 := HR2_1.out
                                   have hcut123 := cut_to (P := Tryd.prog) 27 63 .i64 Tryd.underlying27 hi0123 A2_1 l2_1.length c2_1 x9_3 (of_decide_eq_true (by first | (with_reducible assumption) )) q123 hroom123
                                   have hr123 := Kd.C_take (m := (x9_3 : Int).toNat) hC123 (by omega)
                                   have hy123 : y290.length = (x9_3 : Int).toNat := (by rw [Ny290.out, List.length_take]; omega)
                                   rw [← Ny290.out] at hr123
                                   rw [← hy123] at hcut123
                                   have HR293 := Aside0.mk hr123
                                   have HC293 := Aside0.mk (show y290.length ≤ c2_1 from by omega)
                                   clear hr123 hC123 hroom123 hi0123 hsz123
                                   have KY123 := Aside0.mk hy123
                                   clear hy123
                                   replace q123 := eq_true q123
                                   have q124 : ((ji90) : Int) ≤ ((l2_1.length : Int) : Int) := of_decide_eq_true (by first | (with_reducible assumption) )
                                   obtain ⟨i0124, hi0124, _, hsz124, _⟩ := info_parts info63
                                   have hroom124 : l2_1.length ≤ c2_1 := HC2_1.out
                                   have hC124 : Kd.C k63 _ A2_1 l2_1.length l2_1 := HR2_1.out
                                   have q0124 : (0 : Int) ≤ ((ji90) : Int) := of_decide_eq_true (by first | (with_reducible assumption) )
                                   have hcut124 := cut_from (P := Tryd.prog) 27 63 .i64 Tryd.underlying27 hi0124 4 hsz124 A2_1 l2_1.length c2_1 (ji90) q0124 q124
                                   have hr124 := Kd.C_drop (m := ((ji90) : Int).toNat) (c := c2_1) hC124 (by omega) hroom124
                                   obtain ⟨A124, hA124⟩ : ∃ A1, A1 = (if c2_1 = ((ji90) : Int).toNat then A2_1 else (A2_1 : Option Addr).map (·.add (((ji90) : Int).toNat * 4))) := ⟨_, rfl⟩
                                   obtain ⟨c124, hc124⟩ : ∃ c1, c1 = c2_1 - ((ji90) : Int).toNat := ⟨_, rfl⟩
                                   have hy124 : y297.length = l2_1.length - ((ji90) : Int).toNat := (by rw [Ny297.out, List.length_drop] <;> omega)
                                   rw [show (l2_1).drop ((ji90) : Int).toNat = y297 from Ny297.out.symm] at hr124
                                   replace hr124 : Kd.C k63 _ A124 y297.length y297 := (by rw [hA124]; exact hr124)
                                   rw [← hy124, ← hA124, ← hc124] at hcut124
                                   have HR300 := Aside0.mk hr124
                                   have HC300 := Aside0.mk (show y297.length ≤ c124 from by rw [hy124, hc124]; exact Nat.sub_le_sub_right hroom124 _)
                                   clear hr124 hC124 hroom124 hi0124 hsz124 hc124
                                   have KY124 := Aside0.mk hy124
                                   have KA124 := Aside0.mk hA124
                                   clear hy124 hA124
                                   replace q124 := eq_true q124
                                   refine start_ (n := 14) (S := fun w' => w'.cell? ⟨gb257, 0, none⟩ = some (.slice A2_0 l2_0.length c2_0) ∧ w'.cell? ⟨gb257, 1, none⟩ = some (.slice A2_1 l2_1.length c2_1)) (ds := []) #[false, false, false, false, false, false, false, false, false, false, false, false, false, false] (by kernel_rfl) rfl rfl ⟨(blk_cell BK257.out 0).trans rfl, (blk_cell BK257.out 1).trans rfl⟩ (fun hHeld => ?_); refine with_tabW ecdysislaw20_ValidLess.tab18 ecdysislaw20_ValidLess.bits18 (fun HT_ HW_ => ?_)
                                   generalize w121.drew = w122 at HO_258000 BK256 BK257 BK286 HB HR293 HR300 hHeld ⊢
                                   refine zp 1 (zb 14 2) ?_ rfl rfl HT_ (by kernel_rfl) (fun _ _ _ h => h) rfl ?_ ?_ ?_ ?_; rotate_left; (intro w'; go_simp; with_reducible rfl); rotate_left; (simp only [zs]; rfl)
                                   refine zp 3 (zb 14 10) ?_ rfl rfl HT_ (by kernel_rfl) (fun _ _ _ h => h) rfl ?_ ?_ ?_ ?_; rotate_left; (intro w'; go_simp; with_reducible rfl); rotate_left; (simp only [zs]; rfl)
                                   refine zp 6 (zb 14 74) ?_ rfl rfl HT_ (by kernel_rfl) (fun _ _ _ h => h) rfl ?_ ?_ ?_ ?_; rotate_left; (intro w'; go_simp; with_reducible rfl); rotate_left; (simp only [zs]; rfl)
                                   refine zp 8 (zb 14 330) ?_ rfl rfl HT_ (by kernel_rfl) (fun _ _ _ h => h) rfl ?_ ?_ ?_ ?_; rotate_left; (intro w'; go_simp; with_reducible rfl); rotate_left; (simp only [zs]; rfl)
                                   refine zp 9 (zb 14 842) ?_ rfl rfl HT_ (by kernel_rfl) (fun _ _ _ h => h) rfl ?_ ?_ ?_ ?_; rotate_left; (intro w'; go_simp; with_reducible rfl); rotate_left; (simp only [zs]; rfl)
                                   refine zt 2 (zb 14 846) ?_ rfl rfl HT_ HW_ (by kernel_rfl) (fun _ _ _ h => h) rfl ?_ hHeld ?_ ?_ ?_; rotate_left; (rintro w' ⟨s0, s1⟩; go_simp; with_reducible rfl); rotate_left; (simp only [zs]; rfl)
                                   refine zp 4 (zb 14 862) ?_ rfl rfl HT_ (by kernel_rfl) (fun _ _ _ h => h) rfl ?_ ?_ ?_ ?_; rotate_left; (intro w'; go_simp; with_reducible rfl); rotate_left; (simp only [zs]; rfl)
                                   refine zt 7 (zb 14 990) ?_ rfl rfl HT_ HW_ (by kernel_rfl) (fun _ _ _ h => h) rfl ?_ hHeld ?_ ?_ ?_; rotate_left; (rintro w' ⟨s0, s1⟩; go_simp; with_reducible rfl); rotate_left; (simp only [zs]; rfl)
                                   refine zp 10 (zb 14 2014) ?_ rfl rfl HT_ (by kernel_rfl) (fun _ _ _ h => h) rfl ?_ ?_ ?_ ?_; rotate_left; (intro w'; go_simp; with_reducible rfl); rotate_left; (simp only [zs]; rfl)
                                   refine one_ (i := 0) (N := some 69) #[true, true, true, true, true, false, true, true, true, true, true, false, false, false] rfl rfl (one_of HT_.out (by kernel_rfl)) (by decide) (fun K hK => ?_)
                                   refine Kd.R_lit_step k63 _ 63 ?hg (N := 69) ?hd (xs := ([] : List (S63))) (inner := []) (ok := fun _ => True) (okp := fun _ => True) ?hr ?hp (fun _ hk => hk) trivial (Below.refl _ _) (Nat.le_refl _) (by simp) ?_; (case hd => rfl); (case hg => rfl); (case hr => first | (go_simp; done) | (go_simp; rfl)); (case hp => exact (Reps.none _ _))
                                   intro v288 w125 ho126 hb hg_ hnew_
                                   clear hg_ hnew_
                                   (first | rw [← Ny287.out] at ho126 )
                                   have n0_ := Aside0.mk (Kd.V_elder' HO_258000.out (Kd.R_base ho126) hb)
                                   have n1_ := Aside0.mk (Kd.R_lower (Kd.R_newM (M := fun k_ => (w.heap.size ≤ k_)) ho126 (below_size HB.out) (fun k_ h_ => h_)) (below_size HB.out))
                                   have n2_ := Aside0.mk (blk_below BK256.out hb)
                                   have n3_ := Aside0.mk (blk_below BK257.out hb)
                                   have n4_ := Aside0.mk (blk_below BK286.out hb)
                                   have n5_ := Aside0.mk (below_step HB.out hb)
                                   clear HO_258000
                                   clear BK256
                                   clear BK257
                                   clear BK286
                                   clear HB
                                   have HO_258000 := n0_
                                   have HO289 := n1_
                                   have BK256 := n2_
                                   have BK257 := n3_
                                   have BK286 := n4_
                                   have HB := n5_
                                   clear n0_ n1_ n2_ n3_ n4_ n5_
                                   clear hb ho126
                                   refine hK.out _ _ ⟨(blk_cell BK257.out 0).trans rfl, (blk_cell BK257.out 1).trans rfl⟩ (fun hHeld => ?_)
                                   clear hK K
                                   refine norm_ (a' := ?_) ?_ ?_
                                   rotate_left
                                   · show Act.put _ (some 69) _ = _
                                     simp only [zs]
                                     rfl
                                   refine one_ (i := 5) (N := some 74) #[true, true, true, true, true, true, true, true, true, true, true, false, false, false] rfl rfl (one_of HT_.out (by kernel_rfl)) (by decide) (fun K hK => ?_)
                                   refine Kd.R_append_rows_step k63 (w0 := w) w.heap.size (by rfl) (.tmp 69) (.tmp 73) 27 63 (.agg #[(.int .i64 0), (.int .i64 0), (.int .u64 0), (.string ⟨#[]⟩)]) 40 rfl Tryd.underlying27 info63 rfl (by decide) (by omega) v288 y287 y290 _ _ _ (fun k_ => (w.heap.size ≤ k_)) (fun _ => False) rfl rfl ?aO ?aR (fun _ _ h => h) (fun _ h => h.elim) ?aF ?aB ?aS ?aL ?_
                                   (case aR => repeat (first | exact (Kd.C_below HR293.out HB.out) ))
                                   (case aB => exact HB.out)
                                   (case aF => exact (fun k_ hk => (Nat.le_trans (below_size HB.out) hk)))
                                   (case aO => exact (by exact Kd.R_mono HO289.out (fun _ hk => hk.1)))
                                   (case aS => exact (below_size HB.out))
                                   (case aL => have := LMc89.out; omega)
                                   intro v295 w127 ho hb hg hat
                                   rw [← Ny294.out] at ho
                                   have n0_ := Aside0.mk (Kd.V_afterv (ok := (fun k_ => (P2_0_ k_ ∨ w.heap.size ≤ k_) ∧ k_ ≠ gb256 ∧ k_ ≠ gb257 ∧ k_ ≠ gb286)) HO_258000.out hg hat)
                                   have n1_ := Aside0.mk (blk_grown (g := gb256) (o := .cells #[.slice A0_0 l0_0.length c0_0, .slice A0_1 l0_1.length c0_1] 25 (0, 0)) BK256.out hg (Kd.R_ne HO289.out BK256.out (by decide)))
                                   have n2_ := Aside0.mk (blk_grown (g := gb257) (o := .cells #[.slice A2_0 l2_0.length c2_0, .slice A2_1 l2_1.length c2_1] 29 (0, 0)) BK257.out hg (Kd.R_ne HO289.out BK257.out (by decide)))
                                   have n3_ := Aside0.mk (blk_grown (g := gb286) (o := .cells #[.slice A2_0 l2_0.length c2_0, .slice A2_1 l2_1.length c2_1] 29 (0, 0)) BK286.out hg (Kd.R_ne HO289.out BK286.out (by decide)))
                                   have n4_ := Aside0.mk (hb)
                                   have n5_ := Aside0.mk (ho)
                                   clear HO_258000
                                   clear BK256
                                   clear BK257
                                   clear BK286
                                   clear HB
                                   clear HO289
                                   have HO_258000 := n0_
                                   have BK256 := n1_
                                   have BK257 := n2_
                                   have BK286 := n3_
                                   have HB := n4_
                                   have HO296 := n5_
                                   clear n0_ n1_ n2_ n3_ n4_ n5_
                                   clear ho hb hg hat
                                   refine hK.out _ _ ⟨(blk_cell BK257.out 0).trans rfl, (blk_cell BK257.out 1).trans rfl⟩ (fun hHeld => ?_)
                                   clear hK K
                                   refine norm_ (a' := ?_) ?_ ?_
                                   rotate_left
                                   · show Act.put _ (some 74) _ = _
                                     simp only [zs]
                                     rfl
                                   refine one_ (i := 11) (N := some 80) #[true, true, true, true, true, true, true, true, true, true, true, true, false, false] rfl rfl (one_of HT_.out (by kernel_rfl)) (by decide) (fun K hK => ?_)
                                   refine Kd.R_append_rows_step k63 (w0 := w) w.heap.size (by rfl) (.tmp 74) (.tmp 79) 27 63 (.agg #[(.int .i64 0), (.int .i64 0), (.int .u64 0), (.string ⟨#[]⟩)]) 40 rfl Tryd.underlying27 info63 rfl (by decide) (by omega) v295 y294 y297 _ _ _ (fun k_ => (w.heap.size ≤ k_)) (fun _ => False) rfl rfl ?aO ?aR (fun _ _ h => h) (fun _ h => h.elim) ?aF ?aB ?aS ?aL ?_
                                   (case aR => repeat (first | exact (Kd.C_below HR300.out HB.out) ))
                                   (case aB => exact HB.out)
                                   (case aF => exact (fun k_ hk => (Nat.le_trans (below_size HB.out) hk)))
                                   (case aO => exact HO296.out)
                                   (case aS => exact (below_size HB.out))
                                   (case aL => have := LMc93.out; omega)
                                   intro v302 w128 ho hb hg hat
                                   rw [← Ny301.out] at ho
                                   have n0_ := Aside0.mk (Kd.V_afterv (ok := (fun k_ => (P2_0_ k_ ∨ w.heap.size ≤ k_) ∧ k_ ≠ gb256 ∧ k_ ≠ gb257 ∧ k_ ≠ gb286)) HO_258000.out hg hat)
                                   have n1_ := Aside0.mk (blk_grown (g := gb256) (o := .cells #[.slice A0_0 l0_0.length c0_0, .slice A0_1 l0_1.length c0_1] 25 (0, 0)) BK256.out hg (Kd.R_ne HO296.out BK256.out (by decide)))
                                   have n2_ := Aside0.mk (blk_grown (g := gb257) (o := .cells #[.slice A2_0 l2_0.length c2_0, .slice A2_1 l2_1.length c2_1] 29 (0, 0)) BK257.out hg (Kd.R_ne HO296.out BK257.out (by decide)))
                                   have n3_ := Aside0.mk (blk_grown (g := gb286) (o := .cells #[.slice A2_0 l2_0.length c2_0, .slice A2_1 l2_1.length c2_1] 29 (0, 0)) BK286.out hg (Kd.R_ne HO296.out BK286.out (by decide)))
                                   have n4_ := Aside0.mk (hb)
                                   have n5_ := Aside0.mk (ho)
                                   clear HO_258000
                                   clear BK256
                                   clear BK257
                                   clear BK286
                                   clear HB
                                   clear HO296
                                   have HO_258000 := n0_
                                   have BK256 := n1_
                                   have BK257 := n2_
                                   have BK286 := n3_
                                   have HB := n4_
                                   have HO303 := n5_
                                   clear n0_ n1_ n2_ n3_ n4_ n5_
                                   clear ho hb hg hat
                                   obtain ⟨Ao129, co129, eo129⟩ := Kd.R_slice HO303.out
                                   (first | subst eo129 )
                                   refine hK.out _ _ ⟨(blk_cell BK257.out 0).trans rfl, (blk_cell BK257.out 1).trans rfl⟩ (fun hHeld => ?_)
                                   clear hK K
                                   refine norm_ (a' := ?_) ?_ ?_
                                   rotate_left
                                   · show Act.put _ (some 80) _ = _
                                     simp only [zs]
                                     rfl
                                   refine zp 12 (zb 14 8191) ?_ rfl rfl HT_ (by kernel_rfl) (fun _ _ _ h => h) rfl ?_ ?_ ?_ ?_; rotate_left; (intro w'; go_simp; with_reducible rfl); rotate_left; (simp only [zs]; rfl)
                                   refine one_ (i := 13) (N := none) #[true, true, true, true, true, true, true, true, true, true, true, true, true, true] rfl rfl (one_of HT_.out (by kernel_rfl)) (by decide) (fun K hK => ?_)
                                   have hs130 : w128.cell? ⟨gb286, 1, none⟩ = some (.slice A2_1 l2_1.length c2_1) := (blk_cell BK286.out 1).trans rfl
                                   have hfs130 := blk_frozen BK286.out 1
                                   have hns130_0 := NB256_286.out
                                   have hns130_1 := NB257_286.out
                                   have hms130_0 := NB286_256.out
                                   have hms130_1 := NB286_257.out
                                   refine skip_ (w1 := ?_) (by rfl) rfl ?_ ?_
                                   rotate_left
                                   · go_simp
                                     rfl
                                   refine hK.out _ _ ⟨((cell_far (p := ⟨gb286, _, none⟩) NB257_286.out _).trans (hHeld.1)), ((cell_far (p := ⟨gb286, _, none⟩) NB257_286.out _).trans (hHeld.2))⟩ (fun hHeld => ?_)
                                   clear hK K
                                   refine done_ (done_of HT_.out (by kernel_rfl)) ?_
                                   have hcz131_0 : w128.cell? ⟨gb256, 0, none⟩ = some (.slice A0_0 l0_0.length c0_0) := (blk_cell BK256.out 0).trans rfl
                                   have hcz131_1 : w128.cell? ⟨gb256, 1, none⟩ = some (.slice A0_1 l0_1.length c0_1) := (blk_cell BK256.out 1).trans rfl
                                   have hfz131_0 := blk_frozen BK256.out 0
                                   have hfz131_1 := blk_frozen BK256.out 1
                                   have hcz132_0 : w128.cell? ⟨gb286, 0, none⟩ = some (.slice A2_0 l2_0.length c2_0) := (blk_cell BK286.out 0).trans rfl
                                   have hcz132_1 : w128.cell? ⟨gb286, 1, none⟩ = some (.slice A2_1 l2_1.length c2_1) := (blk_cell BK286.out 1).trans rfl
                                   have hfz132_0 := blk_frozen BK286.out 0
                                   have hfz132_1 := blk_frozen BK286.out 1
                                   try go_wp2_with (first | ((with_reducible refine gate_callee (f := 9) rfl ?_); refine goesL_ (some 85) rfl rfl Tryd.func9 (by kernel_rfl) rfl #[.agg #[.slice A0_0 l0_0.length c0_0, .slice A0_1 l0_1.length c0_1], .string a1, .agg #[.slice A2_0 l2_0.length c2_0, .slice Ao129 y301.length co129]] rfl (by (try simp only [List.map_toArray, List.map_cons, List.map_nil]); first | done | rfl | (simp only [List.length_drop, List.length_take]; rfl)) ?_; (with_reducible refine (valid_Tree.calls k3 _ _ l0_0 _ _ l0_1 a1 _ _ l2_0 _ _ y301 false _ ?sideT ?side1 ?side2 ?side3 ?side4 ?side5 ?side6 ?side7 ?side8 A94.out).mono ?_); (case sideT => exact Tabs.below HU8.out (by repeat (first | (with_reducible first | exact HB.out | refine below_set ?_ GE286.out) ))); (case side1 => exact Kd.C_below HR0_0.out (by repeat (first | (with_reducible first | exact HB.out | refine below_set ?_ GE286.out) ))); (case side2 => exact HC0_0.out); (case side3 => exact Kd.C_below HR0_1.out (by repeat (first | (with_reducible first | exact HB.out | refine below_set ?_ GE286.out) ))); (case side4 => exact HC0_1.out); (case side5 => refine (Kd.V_reads' (e := 43) (base := w.heap.size) (ok := fun k_ => (((P2_0_ k_ ∨ w.heap.size ≤ k_) ∧ (k_ ≠ gb256 ∧ (k_ ≠ gb257 ∧ k_ ≠ gb286))) ∧ some k_ ≠ (.slice Ao129 y301.length co129 : Value).ownBlock)) (n := l2_0.length) (c := c2_0) ?_).2.2; exact (by exact (Kd.V_mono (Kd.V_far (p := ⟨gb286, 1, none⟩) (Kd.V_mono HO_258000.out (fun k_ hk => (⟨hk, hk.1.2.2.2⟩ : _ ∧ k_ ≠ gb286))) (fun _ hk => hk.2) (.slice Ao129 y301.length co129)) (fun _ h_ => h_.1)))); (case side6 => exact (Kd.V_reads' HO_258000.out).2.1); (case side7 => refine (Kd.R_reads' (e := 63) (base := w.heap.size) (ok := fun k_ => (w.heap.size ≤ k_)) (n := y301.length) (c := co129) ?_).2.2; exact (by exact (Kd.R_mono (Kd.R_far (p := ⟨gb286, 1, none⟩) (Kd.R_types HO303.out BK286.out (by decide)) (fun _ hk => hk.2) (.slice Ao129 y301.length co129)) (fun _ h_ => h_.1)))); (case side8 => exact (Kd.R_reads' HO303.out).2.1); rintro e w133 ⟨rfl, hb⟩; refine ⟨_, rfl, ?_⟩; have n0_ := Aside0.mk (Kd.V_below (by exact (Kd.V_mono (Kd.V_far (p := ⟨gb286, 1, none⟩) (Kd.V_mono HO_258000.out (fun k_ hk => (⟨hk, hk.1.2.2.2⟩ : _ ∧ k_ ≠ gb286))) (fun _ hk => hk.2) (.slice Ao129 y301.length co129)) (fun _ h_ => h_.1))) hb); have n1_ := Aside0.mk (Kd.R_below (by exact (Kd.R_mono (Kd.R_far (p := ⟨gb286, 1, none⟩) (Kd.R_types HO303.out BK286.out (by decide)) (fun _ hk => hk.2) (.slice Ao129 y301.length co129)) (fun _ h_ => h_.1))) hb); have n2_ := Aside0.mk (blk_below (g := gb256) (o := .cells #[.slice A0_0 l0_0.length c0_0, .slice A0_1 l0_1.length c0_1] 25 (0, 0)) (by refine blk_far ?_ NB256_286.out _; exact BK256.out) hb); have n3_ := Aside0.mk (blk_below (g := gb257) (o := .cells #[.slice A2_0 l2_0.length c2_0, .slice A2_1 l2_1.length c2_1] 29 (0, 0)) (by refine blk_far ?_ NB257_286.out _; exact BK257.out) hb); have n4_ := Aside0.mk (blk_below (g := gb286) (o := .cells #[.slice A2_0 l2_0.length c2_0, .slice Ao129 y301.length co129] 29 (0, 0)) (by refine blk_put (cs := #[.slice A2_0 l2_0.length c2_0, .slice A2_1 l2_1.length c2_1]) ?_ 1 _ rfl; exact BK286.out) hb); have n5_ := Aside0.mk (below_step (by repeat (first | (with_reducible first | exact HB.out | refine below_set ?_ GE286.out) )) hb); clear HO_258000; clear HO303; clear BK256; clear BK257; clear BK286; clear HB; have HO_258000 := n0_; have HO303 := n1_; have BK256 := n2_; have BK257 := n3_; have BK286 := n4_; have HB := n5_; clear n0_ n1_ n2_ n3_ n4_ n5_; (try clear hb); (try clear hb2); (try clear hk); (try clear hi)))
                                   go_ret
                                   exact ⟨by first | rfl , by exact HB.out⟩
                               · rw [if_neg c93] at H
                                 exact absurd H (by simp)
                             · rw [if_neg c92] at H
                               exact absurd H (by simp)
                           · rw [if_neg c91] at H
                             exact absurd H (by simp)
                         · rw [if_neg c89] at H
                           exact absurd H (by simp)
                       · rw [if_neg c88] at H
                         exact absurd H (by simp)
                     · rw [if_neg c87] at H
                       exact absurd H (by simp)
                   · rw [if_neg c86] at H
                     have c86b0 : decide (x9_3 < (l2_1.length : Int)) = false := decide_eq_false c86
                     clear c86
                     replace H := Option.bind_eq_some_iff.mp H
                     obtain ⟨t305, A1340, H⟩ := H
                     replace H : (some t305) = some r := H
                     have A134 := Aside0.mk A1340
                     clear A1340
                     obtain rfl := Option.some.inj H
                     have hnb135 := NB257_256.out
                     have hnc135 := NB256_257.out
                     have hcz136_0 : wr.cell? ⟨gb257, 0, none⟩ = some (.slice A2_0 l2_0.length c2_0) := (blk_cell BK257.out 0).trans rfl
                     have hcz136_1 : wr.cell? ⟨gb257, 1, none⟩ = some (.slice A2_1 l2_1.length c2_1) := (blk_cell BK257.out 1).trans rfl
                     have hfz136_0 := blk_frozen BK257.out 0
                     have hfz136_1 := blk_frozen BK257.out 1
                     go_wp2_with (first | ((with_reducible refine gate_callee (f := 8) rfl ?_); refine goesL_ (some 87) rfl rfl Tryd.func8 (by kernel_rfl) rfl #[] rfl (by (try simp only [List.map_toArray, List.map_cons, List.map_nil]); first | done | rfl | (simp only [List.length_drop, List.length_take]; rfl)) ?_; (with_reducible refine (ecdysislaw20_live.calls k3  t305 _ ?sideT A134.out).mono ?_); (case sideT => exact Tabs.below HU8.out HB.out); rintro e w137 ⟨rfl, hb⟩; refine ⟨_, rfl, ?_⟩; have n0_ := Aside0.mk (Kd.V_below HO_258000.out hb); have n1_ := Aside0.mk (blk_below BK256.out hb); have n2_ := Aside0.mk (blk_below BK257.out hb); have n3_ := Aside0.mk (below_step HB.out hb); clear HO_258000; clear BK256; clear BK257; clear HB; have HO_258000 := n0_; have BK256 := n1_; have BK257 := n2_; have HB := n3_; clear n0_ n1_ n2_ n3_; (try clear hb); (try clear hb2); (try clear hk); (try clear hi)))
                     go_ret
                     exact ⟨by first | rfl , by exact HB.out⟩
        · replace c28 := Bool.eq_false_iff.mpr c28
          subst c28
          have H1 : ((ecdysislaw20_live.f kj3).bind fun t264 => (some t264)) = some r := by rw [if_neg (show ¬ (false = true) by decide)] at H; exact H
          clear H
          have H := H1
          clear H1
          replace H := Option.bind_eq_some_iff.mp H
          obtain ⟨t264, A1380, H⟩ := H
          replace H : (some t264) = some r := H
          have A138 := Aside0.mk A1380
          clear A1380
          obtain rfl := Option.some.inj H
          try go_wp2
          have n0_ := Aside0.mk (Kd.V_drew HO_258000.out)
          have n1_ := Aside0.mk (blk_drew BK256.out)
          have n2_ := Aside0.mk (blk_drew BK257.out)
          have n3_ := Aside0.mk (below_drew1 HB.out)
          clear HO_258000
          clear BK256
          clear BK257
          clear HB
          have HO_258000 := n0_
          have BK256 := n1_
          have BK257 := n2_
          have HB := n3_
          clear n0_ n1_ n2_ n3_
          refine start_ (n := 9) (S := fun w' => w'.cell? ⟨gb256, 0, none⟩ = some (.slice A0_0 l0_0.length c0_0) ∧ w'.cell? ⟨gb256, 1, none⟩ = some (.slice A0_1 l0_1.length c0_1)) (ds := []) #[false, false, false, false, false, false, false, false, false] (by kernel_rfl) rfl rfl ⟨(blk_cell BK256.out 0).trans rfl, (blk_cell BK256.out 1).trans rfl⟩ (fun hHeld => ?_); refine with_tabW ecdysislaw20_ValidLess.tab3 ecdysislaw20_ValidLess.bits3 (fun HT_ HW_ => ?_)
          generalize wc.drew = w139 at HO_258000 BK256 BK257 HB hHeld ⊢
          refine zp 1 (zb 9 2) ?_ rfl rfl HT_ (by kernel_rfl) (fun _ _ _ h => h) rfl ?_ ?_ ?_ ?_; rotate_left; (intro w'; go_simp; with_reducible rfl); rotate_left; (simp only [zs]; rfl)
          refine zp 2 (zb 9 6) ?_ rfl rfl HT_ (by kernel_rfl) (fun _ _ _ h => h) rfl ?_ ?_ ?_ ?_; rotate_left; (intro w'; go_simp; with_reducible rfl); rotate_left; (simp only [zs]; rfl)
          refine zp 5 (zb 9 38) ?_ rfl rfl HT_ (by kernel_rfl) (fun _ _ _ h => h) rfl ?_ ?_ ?_ ?_; rotate_left; (intro w'; go_simp; with_reducible rfl); rotate_left; (simp only [zs]; rfl)
          refine zt 0 (zb 9 39) ?_ rfl rfl HT_ HW_ (by kernel_rfl) (fun _ _ _ h => h) rfl ?_ hHeld ?_ ?_ ?_; rotate_left; (rintro w' ⟨s0, s1⟩; go_simp; with_reducible rfl); rotate_left; (simp only [zs]; rfl)
          refine zt 4 (zb 9 55) ?_ rfl rfl HT_ HW_ (by kernel_rfl) (fun _ _ _ h => h) rfl ?_ hHeld ?_ ?_ ?_; rotate_left; (rintro w' ⟨s0, s1⟩; go_simp; with_reducible rfl); rotate_left; (simp only [zs]; rfl)
          refine one_ (i := 3) (N := some 23) #[true, true, true, true, true, true, false, false, false] rfl rfl (one_of HT_.out (by kernel_rfl)) (by decide) (fun K hK => ?_)
          refine goes_ Tryd.func9 (by kernel_rfl) rfl #[.agg #[.slice A0_0 l0_0.length c0_0, .slice A0_1 l0_1.length c0_1], .string a1, .agg #[.slice none 0 0, .slice none 0 0]] (by rfl) rfl rfl (by (try simp only [List.map_toArray, List.map_cons, List.map_nil]); first | done | rfl | (simp only [List.length_drop, List.length_take]; rfl)) ?_
          refine (valid_Tree.calls kj3 _ _ l0_0 _ _ l0_1 a1 _ _ ([] : List (S43)) _ _ ([] : List (S63)) t261 _ ?sideT ?side1 ?side2 ?side3 ?side4 ?side5 ?side6 ?side7 ?side8 A21.out).mono ?_
          case sideT => exact Tabs.below HU8.out HB.out
          (case side1 => repeat (first | exact (Kd.C_below HR0_0.out HB.out) ))
          (case side2 => exact HC0_0.out)
          (case side3 => repeat (first | exact (Kd.C_below HR0_1.out HB.out) ))
          (case side4 => exact HC0_1.out)
          (case side5 => exact Kd.C_nil _ _)
          (case side6 => exact Nat.le_refl _)
          (case side7 => exact Kd.C_nil _ _)
          (case side8 => exact Nat.le_refl _)
          rintro e w140 ⟨rfl, hb⟩
          refine ⟨_, rfl, ?_⟩
          have n0_ := Aside0.mk (Kd.V_below HO_258000.out hb)
          have n1_ := Aside0.mk (blk_below BK256.out hb)
          have n2_ := Aside0.mk (blk_below BK257.out hb)
          have n3_ := Aside0.mk (below_step HB.out hb)
          clear HO_258000
          clear BK256
          clear BK257
          clear HB
          have HO_258000 := n0_
          have BK256 := n1_
          have BK257 := n2_
          have HB := n3_
          clear n0_ n1_ n2_ n3_
          (try clear hb)
          (try clear hb2)
          (try clear hk)
          (try clear hi)
          refine hK.out _ _ ⟨(blk_cell BK256.out 0).trans rfl, (blk_cell BK256.out 1).trans rfl⟩ (fun hHeld => ?_)
          clear hK K
          refine norm_ (a' := ?_) ?_ ?_
          rotate_left
          · show Act.put _ (some 23) _ = _
            simp only [zs]
            rfl
          refine one_ (i := 6) (N := some 26) #[true, true, true, true, true, true, true, false, false] rfl rfl (one_of HT_.out (by kernel_rfl)) (by decide) (fun K hK => ?_)
          refine goes_ Tryd.func11 (by kernel_rfl) rfl #[.agg #[.slice A0_0 l0_0.length c0_0, .slice A0_1 l0_1.length c0_1], .string a1] (by rfl) rfl rfl (by (try simp only [List.map_toArray, List.map_cons, List.map_nil]); first | done | rfl | (simp only [List.length_drop, List.length_take]; rfl)) ?_
          with_reducible refine (ecdysisref15_Message.calls kj3 _ _ l0_0 _ _ l0_1 a1 t262 _ ?side1 ?side2 ?side3 ?side4 A22.out).mono ?_
          (case side1 => repeat (first | exact (Kd.C_below HR0_0.out HB.out) ))
          (case side2 => exact HC0_0.out)
          (case side3 => repeat (first | exact (Kd.C_below HR0_1.out HB.out) ))
          (case side4 => exact HC0_1.out)
          rintro e w141 ⟨rfl, hb⟩
          refine ⟨_, rfl, ?_⟩
          have n0_ := Aside0.mk (Kd.V_below HO_258000.out hb)
          have n1_ := Aside0.mk (blk_below BK256.out hb)
          have n2_ := Aside0.mk (blk_below BK257.out hb)
          have n3_ := Aside0.mk (below_step HB.out hb)
          clear HO_258000
          clear BK256
          clear BK257
          clear HB
          have HO_258000 := n0_
          have BK256 := n1_
          have BK257 := n2_
          have HB := n3_
          clear n0_ n1_ n2_ n3_
          (try clear hb)
          (try clear hb2)
          (try clear hk)
          (try clear hi)
          refine hK.out _ _ ⟨(blk_cell BK256.out 0).trans rfl, (blk_cell BK256.out 1).trans rfl⟩ (fun hHeld => ?_)
          clear hK K
          refine norm_ (a' := ?_) ?_ ?_
          rotate_left
          · show Act.put _ (some 26) _ = _
            simp only [zs]
            rfl
          refine zp 7 (zb 9 255) ?_ rfl rfl HT_ (by kernel_rfl) (fun _ _ _ h => h) rfl ?_ ?_ ?_ ?_; rotate_left; (intro w'; go_simp; with_reducible rfl); rotate_left; (simp only [zs]; rfl)
          refine zp 8 (zb 9 511) ?_ rfl rfl HT_ (by kernel_rfl) (fun _ _ _ h => h) rfl ?_ ?_ ?_ ?_; rotate_left; (intro w'; go_simp; with_reducible rfl); rotate_left; (simp only [zs]; rfl)
          refine done_ (done_of HT_.out (by kernel_rfl)) ?_
          have hnb142 := NB256_257.out
          have hnc142 := NB257_256.out
          have hcz143_0 : w141.cell? ⟨gb256, 0, none⟩ = some (.slice A0_0 l0_0.length c0_0) := (blk_cell BK256.out 0).trans rfl
          have hcz143_1 : w141.cell? ⟨gb256, 1, none⟩ = some (.slice A0_1 l0_1.length c0_1) := (blk_cell BK256.out 1).trans rfl
          have hfz143_0 := blk_frozen BK256.out 0
          have hfz143_1 := blk_frozen BK256.out 1
          have hcz144_0 : w141.cell? ⟨gb257, 0, none⟩ = some (.slice A2_0 l2_0.length c2_0) := (blk_cell BK257.out 0).trans rfl
          have hcz144_1 : w141.cell? ⟨gb257, 1, none⟩ = some (.slice A2_1 l2_1.length c2_1) := (blk_cell BK257.out 1).trans rfl
          have hfz144_0 := blk_frozen BK257.out 0
          have hfz144_1 := blk_frozen BK257.out 1
          try go_wp2_with (first | ((with_reducible refine gate_callee (f := 9) rfl ?_); refine goesL_ (some 32) rfl rfl Tryd.func9 (by kernel_rfl) rfl #[.agg #[.slice A0_0 l0_0.length c0_0, .slice A0_1 l0_1.length c0_1], .string a1, .agg #[.slice A2_0 l2_0.length c2_0, .slice A2_1 l2_1.length c2_1]] rfl (by (try simp only [List.map_toArray, List.map_cons, List.map_nil]); first | done | rfl | (simp only [List.length_drop, List.length_take]; rfl)) ?_; (with_reducible refine (valid_Tree.calls kj3 _ _ l0_0 _ _ l0_1 a1 _ _ l2_0 _ _ l2_1 false _ ?sideT ?side1 ?side2 ?side3 ?side4 ?side5 ?side6 ?side7 ?side8 A27.out).mono ?_); (case sideT => exact Tabs.below HU8.out HB.out); (case side1 => repeat (first | exact (Kd.C_below HR0_0.out HB.out) )); (case side2 => exact HC0_0.out); (case side3 => repeat (first | exact (Kd.C_below HR0_1.out HB.out) )); (case side4 => exact HC0_1.out); (case side5 => repeat (first | exact (Kd.V_reads' HO_258000.out).2.2 )); (case side6 => exact (Kd.V_reads' HO_258000.out).2.1); (case side7 => repeat (first | exact (Kd.C_below HR2_1.out HB.out) )); (case side8 => exact HC2_1.out); rintro e w145 ⟨rfl, hb⟩; refine ⟨_, rfl, ?_⟩; have n0_ := Aside0.mk (Kd.V_below HO_258000.out hb); have n1_ := Aside0.mk (blk_below BK256.out hb); have n2_ := Aside0.mk (blk_below BK257.out hb); have n3_ := Aside0.mk (below_step HB.out hb); clear HO_258000; clear BK256; clear BK257; clear HB; have HO_258000 := n0_; have BK256 := n1_; have BK257 := n2_; have HB := n3_; clear n0_ n1_ n2_ n3_; (try clear hb); (try clear hb2); (try clear hk); (try clear hi)) | ((with_reducible refine gate_callee (f := 8) rfl ?_); refine goesL_ (some 34) rfl rfl Tryd.func8 (by kernel_rfl) rfl #[] rfl (by (try simp only [List.map_toArray, List.map_cons, List.map_nil]); first | done | rfl | (simp only [List.length_drop, List.length_take]; rfl)) ?_; (with_reducible refine (ecdysislaw20_live.calls kj3  t264 _ ?sideT A138.out).mono ?_); (case sideT => exact Tabs.below HU8.out HB.out); rintro e w146 ⟨rfl, hb⟩; refine ⟨_, rfl, ?_⟩; have n0_ := Aside0.mk (Kd.V_below HO_258000.out hb); have n1_ := Aside0.mk (blk_below BK256.out hb); have n2_ := Aside0.mk (blk_below BK257.out hb); have n3_ := Aside0.mk (below_step HB.out hb); clear HO_258000; clear BK256; clear BK257; clear HB; have HO_258000 := n0_; have BK256 := n1_; have BK257 := n2_; have HB := n3_; clear n0_ n1_ n2_ n3_; (try clear hb); (try clear hb2); (try clear hk); (try clear hi)))
          go_ret
          exact ⟨by first | rfl , by exact HB.out⟩
end Go.Proofs.YtbpnfpckoapdbaaDoor.PV20
end
section
namespace Go.Proofs.YtbpnfpckoapdbaaDoor.PV20
open Go.RowKit Go.Proofs.YtbpnfpckoapdbaaDoor.M Go.Proofs.YtbpnfpckoapdbaaDoor.KD Go.Proofs.YtbpnfpckoapdbaaDoor Go.Proofs.YtbpnfpckoapdbaaDoorW.PrintWords Go.Proofs.YtbpnfpckoapdbaaDoorW.PrintLast Go.Proofs.YtbpnfpckoapdbaaDoorW.PrintMore
attribute [local go_sem] max2_int min2_int max_two min_two max_three min_three max_four min_four   -- for this text's walks alone
set_option linter.unusedVariables false
set_option linter.unusedSimpArgs false
end Go.Proofs.YtbpnfpckoapdbaaDoor.PV20
end
section
namespace Go.Proofs.YtbpnfpckoapdbaaDoor.PV20
open Go.RowKit Go.Proofs.YtbpnfpckoapdbaaDoor.M Go.Proofs.YtbpnfpckoapdbaaDoor.KD Go.Proofs.YtbpnfpckoapdbaaDoor Go.Proofs.YtbpnfpckoapdbaaDoorW.PrintWords Go.Proofs.YtbpnfpckoapdbaaDoorW.PrintLast Go.Proofs.YtbpnfpckoapdbaaDoorW.PrintMore
attribute [local go_sem] max2_int min2_int max_two min_two max_three min_three max_four min_four   -- for this text's walks alone
set_option linter.unusedVariables false
set_option linter.unusedSimpArgs false
end Go.Proofs.YtbpnfpckoapdbaaDoor.PV20
end
section
namespace Go.Proofs.YtbpnfpckoapdbaaDoor.PV20
open Go.RowKit Go.Proofs.YtbpnfpckoapdbaaDoor.M Go.Proofs.YtbpnfpckoapdbaaDoor.KD Go.Proofs.YtbpnfpckoapdbaaDoor Go.Proofs.YtbpnfpckoapdbaaDoorW.PrintWords Go.Proofs.YtbpnfpckoapdbaaDoorW.PrintLast Go.Proofs.YtbpnfpckoapdbaaDoorW.PrintMore
attribute [local go_sem] max2_int min2_int max_two min_two max_three min_three max_four min_four   -- for this text's walks alone
set_option linter.unusedVariables false
set_option linter.unusedSimpArgs false
end Go.Proofs.YtbpnfpckoapdbaaDoor.PV20
end
section
namespace Go.Proofs.YtbpnfpckoapdbaaDoor.Ev
open Go.RowKit Go.Proofs.YtbpnfpckoapdbaaDoorW.PrintWords
set_option linter.unusedVariables false
/-- With enough rounds it tells r. -/
def E {α : Type} (g : Nat → Option α) (r : α) : Prop := ∃ k0, ∀ k, k0 ≤ k → g k = some r
theorem E.const {α : Type} {r : α} : E (fun _ => some r) r := ⟨0, fun _ _ => rfl⟩
theorem E.of {α : Type} {g : Nat → Option α} {r : α} (h : ∀ k, g k = some r) : E g r := ⟨0, fun k _ => h k⟩
theorem E.congr {α : Type} {g h : Nat → Option α} {r : α} (hh : E h r) (e : ∀ k, g k = h k) : E g r := by
 obtain ⟨k0, hk⟩ := hh
 exact ⟨k0, fun k hk0 => by rw [e]; exact hk k hk0⟩
theorem E.succ {α : Type} {g h : Nat → Option α} {r : α} (hh : E h r) (e : ∀ k, g (k + 1) = h k) : E g r := by
 obtain ⟨k0, hk⟩ := hh
 refine ⟨k0 + 1, fun k hk0 => ?_⟩
 obtain ⟨m, rfl⟩ : ∃ m, k = m + 1 := ⟨k - 1, by omega⟩
 rw [e]
 exact hk m (by omega)
theorem E.step {α : Type} {g : Nat → Option α} {r : α} (h : E (fun k => g (k + 1)) r) : E g r := E.succ h fun _ => rfl
theorem E.bind {α β : Type} {f : Nat → Option α} {a : α} {g : Nat → α → Option β} {r : β} (hf : E f a) (hg : E (fun k => g k a) r) : E (fun k => (f k).bind (g k)) r := by
 obtain ⟨k0, h0⟩ := hf
 obtain ⟨k1, h1⟩ := hg
 refine ⟨max k0 k1, fun k hk => ?_⟩
 show (f k).bind (g k) = some r
 rw [h0 k (Nat.le_trans (Nat.le_max_left _ _) hk)]
 exact h1 k (Nat.le_trans (Nat.le_max_right _ _) hk)
theorem E.bind0 {α β : Type} {f : Option α} {a : α} {g : Nat → α → Option β} {r : β} (hf : f = some a) (hg : E (fun k => g k a) r) : E (fun k => f.bind (g k)) r := E.bind (f := fun _ => f) (E.of fun _ => hf) hg
theorem E.ite {α : Type} {c : Prop} [Decidable c] {g h : Nat → Option α} {r : α} (hg : c → E g r) (hh : ¬ c → E h r) : E (fun k => if c then g k else h k) r := by
 by_cases hc : c
 · exact (hg hc).congr fun k => if_pos hc
 · exact (hh hc).congr fun k => if_neg hc
theorem E.yes {α : Type} {c : Prop} [Decidable c] {g h : Nat → Option α} {r : α} (hc : c) (hg : E g r) : E (fun k => if c then g k else h k) r := hg.congr fun k => if_pos hc
theorem E.no {α : Type} {c : Prop} [Decidable c] {g h : Nat → Option α} {r : α} (hc : ¬ c) (hh : E h r) : E (fun k => if c then g k else h k) r := hh.congr fun k => if_neg hc
theorem E.get {α : Type} {g : Nat → Option α} {r : α} (h : E g r) : ∃ k, g k = some r := by
 obtain ⟨k, hk⟩ := h
 exact ⟨k, hk k (Nat.le_refl _)⟩
/-- From the end on, step by step. -/
theorem up {C : Nat → Prop} (n : Nat) (hend : ∀ i, n ≤ i → C i) (hstep : ∀ i, i < n → C (i + 1) → C i) (i : Nat) : C i := by
 obtain ⟨d, hd⟩ : ∃ d, d = n - i := ⟨_, rfl⟩
 induction d generalizing i with
 | zero => exact hend i (by omega)
 | succ d ih => exact hstep i (by omega) (ih (i + 1) (by omega))
theorem drop_getD {α : Type} {xs : List α} {i : Nat} (z : α) (h : i < xs.length) : xs.drop i = xs.getD i z :: xs.drop (i + 1) := by
 rw [List.drop_eq_getElem_cons h, List.getD_eq_getElem?_getD, List.getElem?_eq_getElem h]
 rfl
theorem w1 {i n : Nat} (h : i < n) (hn : n ≤ 9000000000000000000) : wrap64 ((i : Int) + 1) = ((i + 1 : Nat) : Int) := by unfold wrap64; omega
end Go.Proofs.YtbpnfpckoapdbaaDoor.Ev
end
section
namespace Go.Proofs.YtbpnfpckoapdbaaDoor.Open
open Go.RowKit Go.ChangeShapes Go.WideShapes Go.Deep Go.Proofs.YtbpnfpckoapdbaaDoorW.PrintWords
set_option linter.unusedVariables false
/-- What can be read at type t is of kind d, and Ok. -/
def Opens {α : Type} (P : Program) (d : Kd α) (Ok : α → Prop) (t : TypeId) : Prop :=
 ∀ (H : Type) (enc : TypeId × Value → H) (w : World) (base : Nat) (spare : Nat → Bool) (held : Bool) (fuel : Nat) (cs : List Value) (x : DataW H × List MemPlace), DataW.trod enc P w base spare held fuel t cs = some x → ∃ y, d.K w y cs ∧ Ok y
theorem opens_int {P : Program} {t : TypeId} {k : IntKind} (hu : P.underlying t = some (.int k)) : Opens P (Kd.int k) (fun n => (Lit.int k n).wf = true) t := by
 intro H enc w base spare held fuel cs x h
 obtain ⟨n, rfl, _, hw⟩ := DataW.trod_int hu h
 exact ⟨n, rfl, hw⟩
theorem opens_bool {P : Program} {t : TypeId} (hu : P.underlying t = some .bool) : Opens P Kd.bool (fun _ => True) t := by
 intro H enc w base spare held fuel cs x h
 obtain ⟨b, rfl, _⟩ := DataW.trod_bool hu h
 exact ⟨b, rfl, trivial⟩
theorem list_of {α : Type} (p : Nat → α → Prop) : ∀ n, (∀ i, i < n → ∃ y, p i y) → ∃ l : List α, l.length = n ∧ ∀ i y, l[i]? = some y → p i y
 | 0, _ => ⟨[], rfl, fun i y h => by simp at h⟩
 | n + 1, h => by
  obtain ⟨l, hl, hp⟩ := list_of p n (fun i hi => h i (by omega))
  obtain ⟨y, hy⟩ := h n (by omega)
  refine ⟨l ++ [y], by rw [List.length_append, hl, List.length_singleton], fun i z hz => ?_⟩
  rcases Nat.lt_or_ge i l.length with hi | hi
  · rw [List.getElem?_append_left hi] at hz
    exact hp i z hz
  · rw [List.getElem?_append_right hi] at hz
    have hi2 : i = n := by
     have := (List.getElem?_eq_some_iff.1 hz).1
     rw [List.length_singleton] at this
     omega
    subst hi2
    rw [hl, Nat.sub_self] at hz
    have : y = z := by simpa using hz
    exact this ▸ hy
/-- Fields from a place on. -/
def Fields {β : Type} (P : Program) (d : Kd β) (Ok : β → Prop) (off : Nat) (fs : List Field) : Prop :=
 ∀ (H : Type) (enc : TypeId × Value → H) (w : World) (base : Nat) (spare : Nat → Bool) (held : Bool) (n : Nat) (cs : List Value), cs.length = off + d.sz →
  (∀ f ∈ fs, ∃ x, DataW.trod enc P w base spare held n f.type ((cs.drop f.offset).take (P.cellsOf f.type)) = some x) → ∃ y, d.K w y (cs.drop off) ∧ Ok y
end Go.Proofs.YtbpnfpckoapdbaaDoor.Open
end
section
namespace Go.Proofs.YtbpnfpckoapdbaaDoor.Open
open Go.RowKit Go.ChangeShapes Go.WideShapes Go.Deep Go.Proofs.YtbpnfpckoapdbaaDoorW.PrintWords
set_option linter.unusedVariables false
def Light {H : Type} (P : Program) (t : TypeId) (x : DataW H) : Prop := ∀ n ∈ DataW.weights P t x, n ≤ reachBytes
def OpensW {α : Type} (fuel : Nat) (P : Program) (d : Kd α) (Ok : α → Prop) (t : TypeId) : Prop :=
 ∀ (H : Type) (enc : TypeId × Value → H) (w : World) (base : Nat) (spare : Nat → Bool) (held : Bool) (cs : List Value) (x : DataW H × List MemPlace), DataW.trod enc P w base spare held fuel t cs = some x → Light P t x.1 → ∃ y, d.K w y cs ∧ Ok y
theorem Opens.toW {α : Type} {P : Program} {d : Kd α} {Ok : α → Prop} {t : TypeId} (h : Opens P d Ok t) (fuel : Nat) : OpensW fuel P d Ok t := fun H enc w base spare held cs x hx _ => h H enc w base spare held fuel cs x hx
theorem opensW_string {P : Program} {t : TypeId} {fuel : Nat} (hu : P.underlying t = some .string) : OpensW fuel P Kd.string (fun s => s.size ≤ reachBytes) t := by
 intro H enc w base spare held cs x h hl
 obtain ⟨s, rfl, hx, hs⟩ := DataW.trod_string hu h
 refine ⟨s, rfl, ?_⟩
 have := hl s.size (by rw [hx]; simp [DataW.weights])
 exact this
theorem mem_weightsAll {H : Type} {P : Program} {e : TypeId} {n : Nat} : ∀ {l : List (DataW H)} {d : DataW H}, d ∈ l → n ∈ DataW.weights P e d → n ∈ DataW.weightsAll P e l
 | [], d, h, _ => by cases h
 | a :: l, d, h, hn => by
  rcases List.mem_cons.1 h with rfl | h
  · simp [DataW.weightsAll, hn]
  · simp [DataW.weightsAll, mem_weightsAll h hn]
theorem opensW_slice {α : Type} {P : Program} {d : Kd α} {Ok : α → Prop} {t e : TypeId} {fuel : Nat} {B : Nat} (hu : P.underlying t = some (.slice e)) (hc : P.cellsOf e = d.sz) (hB : P.bytesOf e = B) (he : ∀ n, fuel = n + 1 → OpensW n P d Ok e) : OpensW fuel P (Kd.slice e d) (fun l => l.length * B ≤ reachBytes ∧ ∀ y ∈ l, Ok y) t := by
 intro H enc w base spare held cs x h hw
 rcases DataW.trod_slice hu h with ⟨rfl, _⟩ | ⟨a, len, cap, elems, rest, n, hf, rfl, rfl, hb, hl, hm, hlen, hi, _, _⟩
 · exact ⟨[], ⟨none, 0, rfl, Nat.le_refl _, Kd.C_nil d w⟩, by simp⟩
 · have hw1 : ∀ k ∈ (elems.length + rest.length) * P.bytesOf e :: (DataW.weightsAll P e (elems.map (·.1)) ++ DataW.weightsAll P e (rest.map (·.1))), k ≤ reachBytes := by
     intro k hk
     refine hw k ?_
     simp only [DataW.weights, hu, List.length_map]
     exact hk
   obtain ⟨l, hl1, hl2⟩ := list_of (fun i y => ∃ c, c.length = d.sz ∧ d.K w y c ∧ (∀ j u, c[j]? = some u → w.cell? (a.add (i * d.sz + j)) = some u) ∧ Ok y) len (fun i hil => by
     have hi1 := hi i hil
     rw [List.getElem?_eq_getElem (by omega : i < elems.length)] at hi1
     obtain ⟨cs', h1, h2⟩ := Option.bind_eq_some_iff.1 hi1
     obtain ⟨y, hy, ho⟩ := he n hf H enc w base spare held cs' _ h2 (fun k hk => hw1 k (by
      refine List.mem_cons_of_mem _ (List.mem_append_left _ (mem_weightsAll (List.mem_map.2 ⟨_, List.getElem_mem _, rfl⟩) hk))))
     refine ⟨y, cs', d.K_len hy, hy, fun j u hj => ?_, ho⟩
     obtain ⟨_, hcl, hat⟩ := World.cells?_some h1
     have hjl : j < P.cellsOf e := by
      have := (List.getElem?_eq_some_iff.1 hj).1
      rw [hcl] at this
      exact this
     have h3 := hat j hjl
     rw [Go.Deep.add_add, hc] at h3
     rw [h3, hj])
   refine ⟨l, ⟨some a, cap, by rw [hl1], by omega, rfl, by simp only [maxLen] at hm; omega, fun _ => ⟨a, rfl, fun j p hj => ?_⟩⟩, ?_, fun y hy => ?_⟩
   · obtain ⟨c, h1, h2, h3, _⟩ := hl2 j p hj
     exact ⟨c, h1, h2, h3⟩
   · have h1 := hw1 _ (List.mem_cons_self)
     rw [hB] at h1
     have h2 : l.length * B ≤ (elems.length + rest.length) * B := Nat.mul_le_mul_right _ (by omega)
     exact Nat.le_trans h2 h1
   · obtain ⟨i, hi⟩ := List.getElem?_of_mem hy
     obtain ⟨_, _, _, _, h4⟩ := hl2 i y hi
     exact h4
/-- Fields from a place on. -/
def FieldsW {β : Type} (fuel : Nat) (P : Program) (d : Kd β) (Ok : β → Prop) (off : Nat) (fs : List Field) : Prop :=
 ∀ (H : Type) (enc : TypeId × Value → H) (w : World) (base : Nat) (spare : Nat → Bool) (held : Bool) (cs : List Value), cs.length = off + d.sz →
  (∀ f ∈ fs, ∃ x, DataW.trod enc P w base spare held fuel f.type ((cs.drop f.offset).take (P.cellsOf f.type)) = some x ∧ Light P f.type x.1) → ∃ y, d.K w y (cs.drop off) ∧ Ok y
theorem fieldsW_last {α : Type} {P : Program} {d : Kd α} {Ok : α → Prop} {off n : Nat} {f : Field} (ho : f.offset = off) (hc : P.cellsOf f.type = d.sz) (h : OpensW n P d Ok f.type) : FieldsW n P d Ok off [f] := by
 intro H enc w base spare held cs hl hf
 obtain ⟨x, hx, hg⟩ := hf f (by simp)
 obtain ⟨y, hy, hk⟩ := h H enc w base spare held _ x hx hg
 rw [ho, hc, List.take_of_length_le (by rw [List.length_drop]; omega)] at hy
 exact ⟨y, hy, hk⟩
theorem fieldsW_cons {α β : Type} {P : Program} {d : Kd α} {d' : Kd β} {Ok : α → Prop} {Ok' : β → Prop} {off off' n : Nat} {f : Field} {fs : List Field} (ho : f.offset = off) (hc : P.cellsOf f.type = d.sz) (h : OpensW n P d Ok f.type) (hoff : off + d.sz = off') (h' : FieldsW n P d' Ok' off' fs) : FieldsW n P (Kd.pair d d') (fun x => Ok x.1 ∧ Ok' x.2) off (f :: fs) := by
 intro H enc w base spare held cs hl hf
 obtain ⟨x, hx, hg⟩ := hf f (by simp)
 obtain ⟨y, hy, hk⟩ := h H enc w base spare held _ x hx hg
 rw [ho, hc] at hy
 have hl' : cs.length = off + (d.sz + d'.sz) := hl
 obtain ⟨y', hy', hk'⟩ := h' H enc w base spare held cs (by omega) (fun g hg => hf g (by simp [hg]))
 refine ⟨(y, y'), ⟨(cs.drop off).take d.sz, cs.drop off', ?_, hy, hy'⟩, hk, hk'⟩
 rw [← hoff, ← List.drop_drop, List.take_append_drop]
theorem opensW_struct {β γ : Type} {P : Program} {d : Kd β} {Ok : β → Prop} {t : TypeId} {fs : Array Field} {fuel : Nat} (mk : β → γ) (proj : γ → β) (hmk : ∀ y, proj (mk y) = y) (hu : P.underlying t = some (.struct fs)) (hc : P.cellsOf t = d.sz) (h : ∀ n, fuel = n + 1 → FieldsW n P d Ok 0 fs.toList) : OpensW fuel P (Kd.iso d proj) (fun x => Ok (proj x)) t := by
 intro H enc w base spare held cs x ht hw
 obtain ⟨xs, n, hn, hx, hl, hxs, hf⟩ := DataW.trod_struct hu ht
 obtain ⟨y, hy, hk⟩ := h n hn H enc w base spare held cs (by omega) (fun f hfm => by
  obtain ⟨i, hi⟩ := List.getElem?_of_mem hfm
  have hi' : fs[i]? = some f := by rw [← Array.getElem?_toList]; exact hi
  have h1 := hf i f hi'
  have hlt : i < xs.length := by rw [hxs]; exact (Array.getElem?_eq_some_iff.1 hi').1
  refine ⟨xs[i], by rw [h1, List.getElem?_eq_getElem hlt], fun k hk => hw k ?_⟩
  rw [hx]
  simp only [DataW.weights, hu]
  exact DataW.weights_mem_each (j := i) (by rw [List.getElem?_map, hi]; rfl) (by rw [List.getElem?_map, List.getElem?_eq_getElem hlt]; rfl) k hk)
 refine ⟨mk y, ?_, by show Ok (proj (mk y)); rw [hmk]; exact hk⟩
 show d.K w (proj (mk y)) cs
 rw [hmk]
 exact hy
theorem opensW_zero {α : Type} {P : Program} {d : Kd α} {Ok : α → Prop} {t : TypeId} : OpensW 0 P d Ok t := fun H enc w base spare held cs x hx _ => by simp [DataW.trod] at hx
end Go.Proofs.YtbpnfpckoapdbaaDoor.Open
end
section
namespace Go.Proofs.YtbpnfpckoapdbaaDoor.Ops
open Go.RowKit Go.Proofs.YtbpnfpckoapdbaaDoorW.PrintWords Go.Proofs.YtbpnfpckoapdbaaDoor.KD Go.Proofs.YtbpnfpckoapdbaaDoor.Open
set_option linter.unusedVariables false
set_option maxHeartbeats 1000000
abbrev TR := S63
abbrev TV := S40
abbrev TS := S43
abbrev TT := S29
def okRaw (x : TR) : Prop := (Lit.int .i64 x.f0).wf = true ∧ (Lit.int .i64 x.f1).wf = true ∧ (Lit.int .u64 x.f2).wf = true ∧ x.f3.size ≤ reachBytes
def okVal (O : TT → Prop) (x : TV) : Prop := (Lit.int .u64 x.f0).wf = true ∧ x.f1.size ≤ reachBytes ∧ (x.f2.length * 48 ≤ reachBytes ∧ ∀ y ∈ x.f2, O y)
def okSlot (O : TT → Prop) (x : TS) : Prop := (Lit.int .i64 x.f0).wf = true ∧ (x.f1.length * 48 ≤ reachBytes ∧ ∀ y ∈ x.f1, okVal O y)
/-- A tree that is no deeper than so much, and no greater than a machine's. -/
def okTree (O : TT → Prop) (x : TT) : Prop := (x.f0.length * 32 ≤ reachBytes ∧ ∀ y ∈ x.f0, okSlot O y) ∧ (x.f1.length * 40 ≤ reachBytes ∧ ∀ y ∈ x.f1, okRaw y)
def okT : Nat → TT → Prop
 | 0 => fun _ => False
 | n + 1 => okTree (okT n)
theorem opensRaw (n : Nat) : OpensW n Tryd.prog k63 okRaw 63 :=
 opensW_struct (mk := fun y : Int × Int × Int × ByteArray => (⟨y.1, y.2.1, y.2.2.1, y.2.2.2⟩ : TR)) (proj := fun x => (x.f0, x.f1, x.f2, x.f3)) (fun _ => rfl) Tryd.underlying63 (by kernel_rfl) fun n _ =>
  fieldsW_cons rfl (by kernel_rfl) ((opens_int Tryd.underlying3).toW n) rfl (fieldsW_cons rfl (by kernel_rfl) ((opens_int Tryd.underlying3).toW n) rfl (fieldsW_cons rfl (by kernel_rfl) ((opens_int Tryd.underlying37).toW n) rfl (fieldsW_last rfl (by kernel_rfl) (opensW_string Tryd.underlying9))))
theorem cellsT : Tryd.prog.cellsOf 29 = 2 := by kernel_rfl
theorem cellsS : Tryd.prog.cellsOf 43 = 2 := by kernel_rfl
theorem cellsV : Tryd.prog.cellsOf 40 = 3 := by kernel_rfl
section
variable {d : Kd TT} {ok : TT → Prop}
theorem opensV (hd : d.sz = 2) (fuel : Nat) (h : ∀ n, fuel = n + 2 → OpensW n Tryd.prog d ok 29) : OpensW fuel Tryd.prog (g40 d) (okVal ok) 40 := by
 have h1 : Tryd.prog.cellsOf 40 = (Kd.pair (Kd.int .u64) (Kd.pair (Kd.string) (Kd.slice 29 d))).sz := cellsV
 refine opensW_struct (d := Kd.pair (Kd.int .u64) (Kd.pair (Kd.string) (Kd.slice 29 d))) (Ok := fun x : Int × ByteArray × List TT => ((Lit.int .u64 x.1).wf = true) ∧ (x.2.1.size ≤ reachBytes) ∧ (x.2.2.length * 48 ≤ reachBytes ∧ ∀ y ∈ x.2.2, ok y)) (mk := fun y => (⟨y.1, y.2.1, y.2.2⟩ : TV)) (proj := fun x => (x.f0, x.f1, x.f2)) (fun _ => rfl) Tryd.underlying40 h1 fun f e => ?_
 have c0 : Tryd.prog.cellsOf 37 = 1 := by kernel_rfl
 have c1 : Tryd.prog.cellsOf 9 = 1 := by kernel_rfl
 have c2 : Tryd.prog.cellsOf 38 = 1 := by kernel_rfl
 have g0 : OpensW f Tryd.prog (Kd.int .u64) (fun n => (Lit.int .u64 n).wf = true) 37 := (opens_int Tryd.underlying37).toW f
 have g1 : OpensW f Tryd.prog Kd.string (fun x => x.size ≤ reachBytes) 9 := opensW_string Tryd.underlying9
 have b2 : Tryd.prog.bytesOf 29 = 48 := by kernel_rfl
 have g2 : OpensW f Tryd.prog (Kd.slice 29 d) (fun l => l.length * 48 ≤ reachBytes ∧ ∀ y ∈ l, ok y) 38 := opensW_slice Tryd.underlying38 (cellsT.trans hd.symm) b2 fun f1 e1 => h f1 (by omega)
 refine fieldsW_cons (off' := 1) (Ok := fun x : Int => (Lit.int .u64 x).wf = true) (Ok' := fun x : ByteArray × List TT => (x.1.size ≤ reachBytes) ∧ (x.2.length * 48 ≤ reachBytes ∧ ∀ y ∈ x.2, ok y)) ?_ ?_ ?_ ?_ ?_
 · exact rfl
 · exact c0
 · exact g0
 · exact rfl
 refine fieldsW_cons (off' := 2) (Ok := fun x : ByteArray => x.size ≤ reachBytes) (Ok' := fun x : List TT => (x.length * 48 ≤ reachBytes ∧ ∀ y ∈ x, ok y)) ?_ ?_ ?_ ?_ ?_
 · exact rfl
 · exact c1
 · exact g1
 · exact rfl
 refine fieldsW_last ?_ ?_ ?_
 · exact rfl
 · exact c2
 · exact g2
theorem opensS (hd : d.sz = 2) (fuel : Nat) (h : ∀ n, fuel = n + 4 → OpensW n Tryd.prog d ok 29) : OpensW fuel Tryd.prog (g43 d) (okSlot ok) 43 := by
 have h1 : Tryd.prog.cellsOf 43 = (Kd.pair (Kd.int .i64) (Kd.slice 40 (g40 d))).sz := cellsS
 refine opensW_struct (d := Kd.pair (Kd.int .i64) (Kd.slice 40 (g40 d))) (Ok := fun x : Int × List TV => ((Lit.int .i64 x.1).wf = true) ∧ (x.2.length * 48 ≤ reachBytes ∧ ∀ y ∈ x.2, okVal ok y)) (mk := fun y => (⟨y.1, y.2⟩ : TS)) (proj := fun x => (x.f0, x.f1)) (fun _ => rfl) Tryd.underlying43 h1 fun f e => ?_
 have c0 : Tryd.prog.cellsOf 3 = 1 := by kernel_rfl
 have c1 : Tryd.prog.cellsOf 41 = 1 := by kernel_rfl
 have g0 : OpensW f Tryd.prog (Kd.int .i64) (fun n => (Lit.int .i64 n).wf = true) 3 := (opens_int Tryd.underlying3).toW f
 have b1 : Tryd.prog.bytesOf 40 = 48 := by kernel_rfl
 have g1 : OpensW f Tryd.prog (Kd.slice 40 (g40 d)) (fun l => l.length * 48 ≤ reachBytes ∧ ∀ y ∈ l, okVal ok y) 41 := opensW_slice Tryd.underlying41 cellsV b1 fun f1 e1 => opensV hd f1 fun f2 e2 => h f2 (by omega)
 refine fieldsW_cons (off' := 1) (Ok := fun x : Int => (Lit.int .i64 x).wf = true) (Ok' := fun x : List TV => (x.length * 48 ≤ reachBytes ∧ ∀ y ∈ x, okVal ok y)) ?_ ?_ ?_ ?_ ?_
 · exact rfl
 · exact c0
 · exact g0
 · exact rfl
 refine fieldsW_last ?_ ?_ ?_
 · exact rfl
 · exact c1
 · exact g1
theorem opensTof (hd : d.sz = 2) (fuel : Nat) (h : ∀ n, fuel = n + 6 → OpensW n Tryd.prog d ok 29) : OpensW fuel Tryd.prog (F29 d) (okTree ok) 29 := by
 have h1 : Tryd.prog.cellsOf 29 = (Kd.pair (Kd.slice 43 (g43 d)) (Kd.slice 63 k63)).sz := cellsT
 refine opensW_struct (d := Kd.pair (Kd.slice 43 (g43 d)) (Kd.slice 63 k63)) (Ok := fun x : List TS × List TR => (x.1.length * 32 ≤ reachBytes ∧ ∀ y ∈ x.1, okSlot ok y) ∧ (x.2.length * 40 ≤ reachBytes ∧ ∀ y ∈ x.2, okRaw y)) (mk := fun y => (⟨y.1, y.2⟩ : TT)) (proj := fun x => (x.f0, x.f1)) (fun _ => rfl) Tryd.underlying29 h1 fun f e => ?_
 have c0 : Tryd.prog.cellsOf 26 = 1 := by kernel_rfl
 have c1 : Tryd.prog.cellsOf 27 = 1 := by kernel_rfl
 have b0 : Tryd.prog.bytesOf 43 = 32 := by kernel_rfl
 have g0 : OpensW f Tryd.prog (Kd.slice 43 (g43 d)) (fun l => l.length * 32 ≤ reachBytes ∧ ∀ y ∈ l, okSlot ok y) 26 := opensW_slice Tryd.underlying26 cellsS b0 fun f1 e1 => opensS hd f1 fun f2 e2 => h f2 (by omega)
 have b1 : Tryd.prog.bytesOf 63 = 40 := by kernel_rfl
 have g1 : OpensW f Tryd.prog (Kd.slice 63 k63) (fun l => l.length * 40 ≤ reachBytes ∧ ∀ y ∈ l, okRaw y) 27 := opensW_slice Tryd.underlying27 (by kernel_rfl) b1 fun f1 e1 => opensRaw f1
 refine fieldsW_cons (off' := 1) (Ok := fun x : List TS => (x.length * 32 ≤ reachBytes ∧ ∀ y ∈ x, okSlot ok y)) (Ok' := fun x : List TR => (x.length * 40 ≤ reachBytes ∧ ∀ y ∈ x, okRaw y)) ?_ ?_ ?_ ?_ ?_
 · exact rfl
 · exact c0
 · exact g0
 · exact rfl
 refine fieldsW_last ?_ ?_ ?_
 · exact rfl
 · exact c1
 · exact g1
end
theorem OpensW.lift {α : Type} {fuel : Nat} {P : Program} {d d' : Kd α} {Ok : α → Prop} {t : TypeId} (h : OpensW fuel P d Ok t) (hk : ∀ w x cs, d.K w x cs → d'.K w x cs) : OpensW fuel P d' Ok t := fun H enc w base spare held cs x hx hl => by
 obtain ⟨y, h1, h2⟩ := h H enc w base spare held cs x hx hl
 exact ⟨y, hk _ _ _ h1, h2⟩
theorem szTree : k29.sz = 2 := rfl
theorem opensT : ∀ (n fuel : Nat), fuel ≤ n → OpensW fuel Tryd.prog k29 (okT n) 29
 | 0, fuel, h => by
  obtain rfl : fuel = 0 := by omega
  exact opensW_zero
 | n + 1, fuel, h => OpensW.lift (opensTof (d := k29) (ok := okT n) szTree fuel fun m hm => opensT n m (by omega)) fun _ _ _ hk => fo29K hk
end Go.Proofs.YtbpnfpckoapdbaaDoor.Ops
end
section
namespace Go.Proofs.YtbpnfpckoapdbaaDoor.P20
open Go.RowKit Go.Proofs.YtbpnfpckoapdbaaDoorW.PrintWords Go.Proofs.YtbpnfpckoapdbaaDoorW.PrintLast Go.Proofs.YtbpnfpckoapdbaaDoorW.PrintMore Go.Proofs.YtbpnfpckoapdbaaDoor.KD Go.Proofs.YtbpnfpckoapdbaaDoor.M Go.Proofs.YtbpnfpckoapdbaaDoor.PV20 Go.Proofs.YtbpnfpckoapdbaaDoor.Ev
set_option linter.unusedVariables false
set_option linter.unusedSimpArgs false
abbrev SE := S48
abbrev SM := S52
abbrev SF := S36
abbrev SR := S63
abbrev SV := S40
abbrev SS := S43
abbrev ST := S29
theorem E.uniq {α : Type} {g : Nat → Option α} {r r' : α} (h : E g r) (h' : E g r') : r = r' := by
 obtain ⟨k0, h0⟩ := h
 obtain ⟨k1, h1⟩ := h'
 have e0 := h0 (max k0 k1) (Nat.le_max_left _ _)
 have e1 := h1 (max k0 k1) (Nat.le_max_right _ _)
 rw [e0] at e1
 exact Option.some.inj e1
theorem six (a : Int) : (a < 0 ∨ 16 ≤ a) ∨ a = 0 ∨ a = 1 ∨ a = 2 ∨ a = 3 ∨ a = 4 ∨ a = 5 ∨ a = 6 ∨ a = 7 ∨ a = 8 ∨ a = 9 ∨ a = 10 ∨ a = 11 ∨ a = 12 ∨ a = 13 ∨ a = 14 ∨ a = 15 := by omega
def numB (a : Int) : Bool := decide (1 ≤ a ∧ a ≤ 11) || a == 14
theorem kind_out {a : Int} (h : a < 0 ∨ 16 ≤ a) : scalar_kind.f a = some 0 := by unfold scalar_kind.f; rw [if_pos h]
theorem num_v (a : Int) : scalar_Number.f a = some (numB a) := by
 unfold scalar_Number.f
 rcases six a with h | rfl | rfl | rfl | rfl | rfl | rfl | rfl | rfl | rfl | rfl | rfl | rfl | rfl | rfl | rfl | rfl
 · rw [kind_out h, Option.bind_some]
   have h1 : ¬ (1 ≤ a ∧ a ≤ 11) := by omega
   have h2 : (a == 14) = false := by rw [beq_eq_false_iff_ne]; omega
   rw [numB, decide_eq_false h1, h2]
   rfl
 all_goals rfl
theorem num_r (a : Int) : ecdysisref11_Number.f a = some (numB a) := by
 unfold ecdysisref11_Number.f ecdysisref11_Whole.f numB
 rcases six a with h | rfl | rfl | rfl | rfl | rfl | rfl | rfl | rfl | rfl | rfl | rfl | rfl | rfl | rfl | rfl | rfl
 · have h1 : ¬ (1 ≤ a ∧ a ≤ 11) := by omega
   rw [decide_eq_false h1, Bool.false_or]
   rcases h with h | h
   · rw [if_neg (by omega), if_neg (by omega), Option.bind_some, if_neg (by simp), if_neg (by omega)]
   · rw [if_pos (by omega), if_neg (by omega), if_pos (by omega), decide_eq_false (by omega : ¬ a ≤ 11), Option.bind_some, if_neg (by simp), if_neg (by omega)]
 all_goals rfl
def fit32 (n : Int) : Bool := decide (-2147483648 ≤ wrap64 n ∧ wrap64 n ≤ 2147483647)
theorem fits_r (n : Int) : ecdysisref02_Fits.f (wrap64 n) = some (fit32 n) := by
 unfold ecdysisref02_Fits.f fit32
 by_cases h : wrap64 n ≥ -2147483648
 · rw [if_pos h]
   by_cases h2 : wrap64 n ≤ 2147483647
   · rw [decide_eq_true h2, decide_eq_true ⟨h, h2⟩]
   · rw [decide_eq_false h2, decide_eq_false (fun x => h2 x.2)]
 · rw [if_neg h, decide_eq_false (fun x => h x.1)]
theorem fits_v (n : Int) : zig_Fits.f (wrap64 n) = some (fit32 n) := by
 unfold zig_Fits.f fit32
 have h1 : -9223372036854775808 ≤ wrap64 n ∧ wrap64 n ≤ 9223372036854775807 := by unfold wrap64; omega
 have h2 : ∀ x : Int, -9223372036854775808 ≤ x → x ≤ 9223372036854775807 → ((wrap64 (wrap32 x)) == x) = decide (-2147483648 ≤ x ∧ x ≤ 2147483647) := by
  intro x a b
  by_cases h : -2147483648 ≤ x ∧ x ≤ 2147483647
  · rw [decide_eq_true h, beq_iff_eq]
    unfold wrap64 wrap32
    omega
  · rw [decide_eq_false h, beq_eq_false_iff_ne]
    unfold wrap64 wrap32
    omega
 rw [h2 _ h1.1 h1.2]
def wideB (a : Int) : Bool := a == 2 || a == 4 || a == 6 || a == 9 || a == 11
def sgnB (a : Int) : Bool := a == 1 || a == 2 || a == 5 || a == 6 || a == 10 || a == 11 || a == 14
def mayB (a n : Int) : Bool := if a < 1 ∨ 15 < a then false else if wideB a = true then true else if sgnB a = true then fit32 n else if a = 3 ∨ a = 8 then decide (n < 4294967296) else if a = 7 then decide (n < 2) else n == 0
theorem small_div {n : Int} (h : 0 ≤ n) : ((n / 4294967296) == 0) = decide (n < 4294967296) := by
 by_cases h1 : n < 4294967296
 · rw [decide_eq_true h1, beq_iff_eq]; omega
 · rw [decide_eq_false h1, beq_eq_false_iff_ne]; omega
theorem le_one {n : Int} : decide (n ≤ 1) = decide (n < 2) := decide_eq_decide.2 (by omega)
theorem may_v (a n : Int) (h : 0 ≤ n) : E (fun k => scalar_May.f k a n) (mayB a n) := by
 by_cases h0 : a < 1 ∨ 15 < a
 · rw [mayB, if_pos h0]
   refine E.congr (h := fun k => scalar_May.j0 k a n true) ?_ fun k => ?_
   · exact E.succ E.const fun k => by simp only [scalar_May.j0]; rw [if_pos trivial]
   · unfold scalar_May.f
     rcases h0 with h1 | h1
     · rw [if_pos h1]
     · rw [if_neg (by omega), decide_eq_true (show a > 15 from h1)]
 · refine E.congr (h := fun k => scalar_May.j0 k a n false) ?_ fun k => ?_
   · refine E.succ (h := fun _ => some (mayB a n)) E.const fun k => ?_
     simp only [scalar_May.j0]
     rw [if_neg (by simp), fits_v, small_div h, le_one, mayB]
     have hc : a = 1 ∨ a = 2 ∨ a = 3 ∨ a = 4 ∨ a = 5 ∨ a = 6 ∨ a = 7 ∨ a = 8 ∨ a = 9 ∨ a = 10 ∨ a = 11 ∨ a = 12 ∨ a = 13 ∨ a = 14 ∨ a = 15 := by omega
     clear h0 h
     generalize fit32 n = f1
     generalize decide (n < 4294967296) = f2
     rcases hc with rfl | rfl | rfl | rfl | rfl | rfl | rfl | rfl | rfl | rfl | rfl | rfl | rfl | rfl | rfl <;> rfl
   · unfold scalar_May.f
     rw [if_neg (by omega), decide_eq_false (by omega)]
theorem may_r (a n : Int) : E (fun k => ecdysisref11_May.f k a n) (mayB a n) := by
 by_cases h0 : a < 1 ∨ 15 < a
 · rw [mayB, if_pos h0]
   refine E.congr (h := fun k => ecdysisref11_May.j0 k a n true) ?_ fun k => ?_
   · exact E.succ E.const fun k => by simp only [ecdysisref11_May.j0]; rw [if_pos trivial]
   · unfold ecdysisref11_May.f
     rcases h0 with h1 | h1
     · rw [if_pos h1]
     · rw [if_neg (by omega), decide_eq_true (show a > 15 from h1)]
 · refine E.congr (h := fun k => ecdysisref11_May.j0 k a n false) ?_ fun k => ?_
   · refine E.step (E.step ?_)
     refine E.succ (h := fun _ => some (mayB a n)) E.const fun k => ?_
     simp only [ecdysisref11_May.j0, ecdysisref11_May.j1]
     rw [if_neg (by simp), fits_r, mayB]
     have hc : a = 1 ∨ a = 2 ∨ a = 3 ∨ a = 4 ∨ a = 5 ∨ a = 6 ∨ a = 7 ∨ a = 8 ∨ a = 9 ∨ a = 10 ∨ a = 11 ∨ a = 12 ∨ a = 13 ∨ a = 14 ∨ a = 15 := by omega
     clear h0
     generalize fit32 n = f1
     rcases hc with rfl | rfl | rfl | rfl | rfl | rfl | rfl | rfl | rfl | rfl | rfl | rfl | rfl | rfl | rfl <;> rfl
   · unfold ecdysisref11_May.f
     rw [if_neg (by omega), decide_eq_false (by omega)]
def hidB (x : SF) : Bool := !x.f4 && x.f6.toList == [] && x.f2 != 15
theorem hid_v (x : SF) : field_Hidden.f x.f0 x.f1 x.f2 x.f3 x.f4 x.f5 x.f6 = some (hidB x) := by
 unfold field_Hidden.f hidB
 by_cases h : x.f4 = true
 · rw [if_pos h, h]; rfl
 · rw [if_neg h]
   rw [Bool.not_eq_true] at h
   rw [h]
   by_cases h1 : x.f6.toList = []
   · rw [if_pos h1, h1]; rfl
   · rw [if_neg h1, beq_eq_false_iff_ne.2 h1]; rfl
theorem hid_r (x : SF) : ecdysisref14_Hidden.f x.f0 x.f1 x.f2 x.f3 x.f4 x.f5 x.f6 = some (hidB x) := hid_v x
theorem tag_same (a b : Int) : PR20.tag_Right.f 2 a b = ecdysisref04_Right.f a b := by
 unfold PR20.tag_Right.f ecdysisref04_Right.f
 simp only [PR20.tag_Right.j0, PR20.tag_number.f]
 by_cases h1 : a ≥ 1 <;> by_cases h2 : a ≤ 536870911 <;> by_cases b0 : b = 0 <;> by_cases b1 : b = 1 <;> by_cases b2 : b = 2 <;> by_cases b5 : b = 5 <;> simp [*]
theorem right_r (x : SR) (h2 : 0 ≤ x.f2) : ecdysisref07_Right.f x.f0 x.f1 x.f2 x.f3 = some (rightR x) := by
 rw [← rightR_f]
 unfold ecdysisref07_Right.f PR20.raw_Right.f
 rw [tag_same]
 have e : (x.f2 / 4294967296 = 0) ↔ x.f2 < 4294967296 := by omega
 rcases ecdysisref04_Right.f x.f0 x.f1 with _ | b
 · rfl
 · rw [Option.bind_some, Option.bind_some]
   cases b
   · rfl
   · by_cases a2 : x.f1 = 2
     · simp [a2]
     · by_cases a5 : x.f1 = 5
       · simp only [a5, e]
         by_cases e1 : x.f2 < 4294967296 <;> by_cases e2 : x.f3.toList = [] <;> simp [e1, e2]
       · by_cases e2 : x.f3.toList = [] <;> simp [a2, a5, e2]
theorem rdM (xs : List SM) (i : Nat) : rd_T52 xs (i : Int) = xs.getD i z52 := rfl
theorem rdF (xs : List SF) (i : Nat) : rd_T36 xs (i : Int) = xs.getD i z36 := rfl
theorem rdS (xs : List SS) (i : Nat) : rd_T43 xs (i : Int) = xs.getD i z43 := rfl
theorem toL {x y : ByteArray} : (x.toList == y.toList) = true ↔ x.toList = y.toList := by simp
theorem ixF_cons {α : Type} (p : α → Bool) (x : α) (l : List α) (i : Nat) : ixF p (x :: l) i = if p x = true then (i : Int) else ixF p l (i + 1) := rfl
theorem ixF_bd {α : Type} (p : α → Bool) : ∀ (l : List α) (i : Nat), -1 ≤ ixF p l i ∧ ixF p l i < (i : Int) + l.length
 | [], i => by show -1 ≤ (-1 : Int) ∧ (-1 : Int) < _; simp; omega
 | x :: l, i => by
  have := ixF_bd p l (i + 1)
  rw [ixF_cons, List.length_cons]
  split <;> omega
theorem message_E (l0 : List SE) (l1 : List SM) (a : ByteArray) (h : l1.length ≤ 9000000000000000000) : E (fun k => ecdysisref15_Message.f k l0 l1 a) (ixF (fun x => x.f0.toList == a.toList) l1 0) := by
 have key := up (C := fun i => E (fun k => ecdysisref15_Message.l0 k a (i : Int) l0 l1) (ixF (fun x => x.f0.toList == a.toList) (l1.drop i) i)) l1.length (fun i hi => ?_) (fun i hi ih => ?_) 0
 · exact key
 · rw [List.drop_eq_nil_of_le hi]
   exact E.succ E.const fun k => by simp only [ecdysisref15_Message.l0]; rw [if_neg (by omega)]; rfl
 · rw [drop_getD z52 hi, ixF_cons]
   by_cases he : ((l1.getD i z52).f0.toList == a.toList) = true
   · rw [if_pos he]
     exact E.succ E.const fun k => by simp only [ecdysisref15_Message.l0]; rw [if_pos (by omega), if_pos (by omega), rdM, if_pos (toL.1 he)]
   · rw [if_neg he]
     exact E.succ ih fun k => by simp only [ecdysisref15_Message.l0]; rw [if_pos (by omega), if_pos (by omega), rdM, if_neg (fun h => he (toL.2 h)), w1 hi h]
theorem number_E (n : ByteArray) (l1 : List SF) (l2 : List Int) (a : Int) (h : l1.length ≤ 9000000000000000000) : E (fun k => ecdysisref16_Number.f k n l1 l2 a) (ixF (fun x => x.f1 == a) l1 0) := by
 have key := up (C := fun i => E (fun k => ecdysisref16_Number.l0 k a (i : Int) n l1 l2) (ixF (fun x => x.f1 == a) (l1.drop i) i)) l1.length (fun i hi => ?_) (fun i hi ih => ?_) 0
 · exact key
 · rw [List.drop_eq_nil_of_le hi]
   exact E.succ E.const fun k => by simp only [ecdysisref16_Number.l0]; rw [if_neg (by omega)]; rfl
 · rw [drop_getD z36 hi, ixF_cons]
   by_cases he : ((l1.getD i z36).f1 == a) = true
   · rw [if_pos he]
     exact E.succ E.const fun k => by simp only [ecdysisref16_Number.l0]; rw [if_pos (by omega), if_pos (by omega), rdF, if_pos (by simpa using he)]
   · rw [if_neg he]
     exact E.succ ih fun k => by simp only [ecdysisref16_Number.l0]; rw [if_pos (by omega), if_pos (by omega), rdF, if_neg (fun h => he (by simpa using h)), w1 hi h]
end Go.Proofs.YtbpnfpckoapdbaaDoor.P20
end
section
namespace Go.Proofs.YtbpnfpckoapdbaaDoor.P20
open Go.RowKit Go.Proofs.YtbpnfpckoapdbaaDoorW.PrintWords Go.Proofs.YtbpnfpckoapdbaaDoorW.PrintLast Go.Proofs.YtbpnfpckoapdbaaDoorW.PrintMore Go.Proofs.YtbpnfpckoapdbaaDoor.KD Go.Proofs.YtbpnfpckoapdbaaDoor.M Go.Proofs.YtbpnfpckoapdbaaDoor.PV20 Go.Proofs.YtbpnfpckoapdbaaDoor.Ev
set_option linter.unusedVariables false
set_option linter.unusedSimpArgs false
theorem turn {b x : Bool} (h : b = !x) : x = !b := by rw [h, Bool.not_not]
section
variable (s0 : List SE) (s1 : List SM)
abbrev vVal (f : SF) (v : SV) : Nat → Option Bool := fun k => valid_Val.f k s0 s1 f.f0 f.f1 f.f2 f.f3 f.f4 f.f5 f.f6 v.f0 v.f1 v.f2
abbrev rVal (f : SF) (v : SV) : Nat → Option Bool := fun k => ecdysisref20_Val.f k s0 s1 f.f0 f.f1 f.f2 f.f3 f.f4 f.f5 f.f6 v.f0 v.f1 v.f2
abbrev vTree (name : ByteArray) (t : ST) : Nat → Option Bool := fun k => valid_Tree.f k s0 s1 name t.f0 t.f1
abbrev rTree (name : ByteArray) (t : ST) : Nat → Option Bool := fun k => ecdysisref20_Tree.f k s0 s1 name t.f0 t.f1
/-- Whether a value may be a field's. -/
noncomputable def vB (f : SF) (v : SV) : Bool := @decide (E (vVal s0 s1 f v) true) (Classical.propDecidable _)
variable {s0 s1}
theorem vB_E {f : SF} {v : SV} {r : Bool} (h : E (vVal s0 s1 f v) r) : vB s0 s1 f v = r := by
 cases r with
 | true => exact @decide_eq_true _ (Classical.propDecidable _) h
 | false => exact @decide_eq_false _ (Classical.propDecidable _) (fun h' => by have := E.uniq h h'; cases this)
/-- Of a value and a message below it. -/
def valB (T : ByteArray → ST → Bool) (f : SF) (v : SV) : Bool :=
 if numB f.f2 = true then (mayB f.f2 v.f0 && v.f1.toList == []) && v.f2.length == 0
 else if f.f2 = 12 then (v.f0 == 0 && v.f2.length == 0) && Lib.validD v.f1.data.toList
 else if f.f2 = 13 then v.f0 == 0 && v.f2.length == 0
 else if f.f2 = 15 then ((v.f0 == 0 && v.f1.toList == []) && v.f2.length == 1) && T f.f3 (rd_T29 v.f2 0)
 else false
theorem val_v {f : SF} {v : SV} {T : ByteArray → ST → Bool} (h0 : 0 ≤ v.f0) (h1 : v.f1.size ≤ 9000000000000000000) (hT : ∀ t ∈ v.f2, E (vTree s0 s1 f.f3 t) (T f.f3 t)) : E (vVal s0 s1 f v) (valB T f v) := by
 have hl : ((v.f2.length : Int) == 0) = (v.f2.length == 0) := by rw [Bool.eq_iff_iff, beq_iff_eq, beq_iff_eq]; omega
 have key : ∀ x7, x7 = (v.f0 == 0 && v.f2.length == 0) → E (fun k => valid_Val.j0 k x7 s0 s1 f.f0 f.f1 f.f2 f.f3 f.f4 f.f5 f.f6 v.f0 v.f1 v.f2) (valB T f v) := by
   intro x7 hx
   refine E.step ?_
   simp only [valid_Val.j0]
   refine E.bind0 (num_v _) ?_
   unfold valB
   by_cases hn : numB f.f2 = true
   · rw [if_pos hn]
     refine E.yes hn (E.bind (may_v _ _ h0) ?_)
     by_cases hm : mayB f.f2 v.f0 = true
     · rw [hm]
       refine E.yes rfl ?_
       by_cases he : v.f1.toList = []
       · rw [he, hl]; exact E.yes rfl E.const
       · rw [beq_eq_false_iff_ne.2 he]; exact E.no he E.const
     · refine E.no hm ?_
       rw [Bool.not_eq_true] at hm
       rw [hm]; exact E.const
   rw [if_neg hn]
   refine E.no hn ?_
   by_cases h12 : f.f2 = 12
   · rw [if_pos h12]
     refine E.yes h12 ?_
     cases x7 with
     | true => rw [← hx]; exact E.yes rfl (E.bind0 (a := Lib.validD v.f1.data.toList) (by unfold utf8_ValidString.f; rw [if_pos (by omega)]) E.const)
     | false => rw [← hx]; exact E.no (by simp) E.const
   rw [if_neg h12]
   refine E.no h12 ?_
   by_cases h13 : f.f2 = 13
   · rw [if_pos h13, ← hx]
     exact E.yes h13 E.const
   rw [if_neg h13]
   refine E.no h13 ?_
   by_cases h15 : f.f2 = 15
   · rw [if_pos h15]
     refine E.yes h15 ?_
     by_cases hz : v.f0 = 0
     · refine E.yes hz ?_
       rw [hz]
       by_cases he : v.f1.toList = []
       · refine E.yes he ?_
         rw [he]
         by_cases h1 : v.f2.length = 1
         · rw [h1]
           refine E.yes rfl (E.yes (by decide) ?_)
           exact E.bind (hT (rd_T29 v.f2 0) (by match hv : v.f2, h1 with | [a], _ => simp [rd_T29])) E.const
         · rw [show (v.f2.length == 1) = false by rw [beq_eq_false_iff_ne]; exact h1]
           exact E.no (by omega) E.const
       · rw [beq_eq_false_iff_ne.2 he]
         exact E.no he E.const
     · rw [beq_eq_false_iff_ne.2 hz]
       exact E.no hz E.const
   rw [if_neg h15]
   exact E.no h15 E.const
 by_cases hz : v.f0 = 0
 · refine E.succ (key _ rfl) fun k => ?_
   simp only [valid_Val.f]
   rw [if_pos hz, hl, hz]
   rfl
 · refine E.succ (key _ rfl) fun k => ?_
   simp only [valid_Val.f]
   rw [if_neg hz, beq_eq_false_iff_ne.2 hz]
   rfl
theorem val_r {f : SF} {v : SV} {T : ByteArray → ST → Bool} (h0 : 0 ≤ v.f0) (h1 : v.f1.size ≤ 9000000000000000000) (hT : ∀ t ∈ v.f2, E (rTree s0 s1 f.f3 t) (T f.f3 t)) : E (rVal s0 s1 f v) (valB T f v) := by
 have hl : ((v.f2.length : Int) == 0) = (v.f2.length == 0) := by rw [Bool.eq_iff_iff, beq_iff_eq, beq_iff_eq]; omega
 refine E.step ?_
 show E (fun k => ecdysisref20_Val.f (k + 1) _ _ _ _ _ _ _ _ _ _ _ _) _
 simp only [ecdysisref20_Val.f]
 refine E.bind0 (num_r _) ?_
 unfold valB
 by_cases hn : numB f.f2 = true
 · rw [if_pos hn]
   refine E.yes hn (E.bind (may_r _ _) ?_)
   by_cases hm : mayB f.f2 v.f0 = true
   · rw [hm]
     refine E.yes rfl ?_
     by_cases he : v.f1.toList = []
     · rw [he, hl]; exact E.yes rfl E.const
     · rw [beq_eq_false_iff_ne.2 he]; exact E.no he E.const
   · refine E.no hm ?_
     rw [Bool.not_eq_true] at hm
     rw [hm]; exact E.const
 rw [if_neg hn]
 refine E.no hn ?_
 by_cases h12 : f.f2 = 12
 · rw [if_pos h12]
   refine E.yes h12 ?_
   by_cases hz : v.f0 = 0
   · refine E.yes hz ?_
     rw [hz]
     by_cases hn : v.f2.length = 0
     · rw [hn]
       exact E.yes (by rfl) (E.bind0 (a := Lib.validD v.f1.data.toList) (by unfold utf8_ValidString.f; rw [if_pos (by omega)]) E.const)
     · rw [show (v.f2.length == 0) = false by rw [beq_eq_false_iff_ne]; exact hn]
       exact E.no (by omega) E.const
   · rw [beq_eq_false_iff_ne.2 hz]
     exact E.no hz E.const
 rw [if_neg h12]
 refine E.no h12 ?_
 by_cases h13 : f.f2 = 13
 · rw [if_pos h13]
   refine E.yes h13 ?_
   by_cases hz : v.f0 = 0
   · rw [hz, hl]; exact E.yes rfl E.const
   · rw [beq_eq_false_iff_ne.2 hz]; exact E.no hz E.const
 rw [if_neg h13]
 refine E.no h13 ?_
 by_cases h15 : f.f2 = 15
 · rw [if_pos h15]
   refine E.yes h15 ?_
   by_cases hz : v.f0 = 0
   · refine E.yes hz ?_
     rw [hz]
     by_cases he : v.f1.toList = []
     · refine E.yes he ?_
       rw [he]
       by_cases h1 : v.f2.length = 1
       · rw [h1]
         refine E.yes rfl (E.yes (by decide) ?_)
         exact E.bind (hT (rd_T29 v.f2 0) (by match hv : v.f2, h1 with | [a], _ => simp [rd_T29])) E.const
       · rw [show (v.f2.length == 1) = false by rw [beq_eq_false_iff_ne]; exact h1]
         exact E.no (by omega) E.const
     · rw [beq_eq_false_iff_ne.2 he]
       exact E.no he E.const
   · rw [beq_eq_false_iff_ne.2 hz]
     exact E.no hz E.const
 rw [if_neg h15]
 exact E.no h15 E.const
/-- A value and what its field may not have unsaid. -/
noncomputable def oneB (s0 : List SE) (s1 : List SM) (f : SF) (v : SV) : Bool := vB s0 s1 f v && !(hidB f && v.f0 == 0 && v.f1.toList == [])
noncomputable def valsB (s0 : List SE) (s1 : List SM) (f : SF) (l : List SV) : Bool := (l.length != 0 && (f.f4 || decide (l.length ≤ 1))) && l.all (oneB s0 s1 f)
theorem vals_v {f : SF} {l : List SV} (hn : l.length ≤ 9000000000000000000) (h : ∀ v ∈ l, E (vVal s0 s1 f v) (vB s0 s1 f v)) : E (fun k => valid_vals.f k s0 s1 f.f0 f.f1 f.f2 f.f3 f.f4 f.f5 f.f6 l) (valsB s0 s1 f l) := by
 have loop := up (C := fun i => E (fun k => valid_vals.l0 k l (l.length : Int) (i : Int) s0 s1 f.f0 f.f1 f.f2 f.f3 f.f4 f.f5 f.f6) ((l.drop i).all (oneB s0 s1 f))) l.length (fun i hi => ?_) (fun i hi ih => ?_) 0
 · have key : ∀ b, b = !(l.length != 0 && (f.f4 || decide (l.length ≤ 1))) → E (fun k => valid_vals.j0 k l b s0 s1 f.f0 f.f1 f.f2 f.f3 f.f4 f.f5 f.f6) (valsB s0 s1 f l) := by
     intro b hb
     unfold valsB
     cases b with
     | true =>
       rw [turn hb]
       exact E.succ E.const fun k => by simp only [valid_vals.j0]; rw [if_pos trivial]; rfl
     | false =>
       rw [turn hb, Bool.not_false, Bool.true_and]
       exact E.succ loop fun k => by simp only [valid_vals.j0]; rw [if_neg (by simp)]; rfl
   by_cases hz : l.length = 0
   · exact E.succ (key true (by rw [hz]; rfl)) fun k => by simp only [valid_vals.f]; rw [if_pos (by omega)]
   · have hb : (l.length != 0) = true := bne_iff_ne.2 hz
     by_cases h4 : f.f4 = true
     · exact E.succ (key false (by rw [hb, h4]; rfl)) fun k => by simp only [valid_vals.f]; rw [if_neg (by omega), if_pos h4]
     · refine E.succ (key (decide ((l.length : Int) > 1)) ?_) fun k => by simp only [valid_vals.f]; rw [if_neg (by omega), if_neg h4]
       rw [Bool.not_eq_true] at h4
       rw [hb, h4, Bool.true_and, Bool.false_or]
       by_cases h1 : l.length ≤ 1
       · rw [decide_eq_true h1, decide_eq_false (by omega)]; rfl
       · rw [decide_eq_false h1, decide_eq_true (by omega)]; rfl
 · rw [List.drop_eq_nil_of_le hi]
   exact E.succ E.const fun k => by simp only [valid_vals.l0]; rw [if_neg (by omega)]; rfl
 · rw [drop_getD z40 hi, List.all_cons]
   have hv := h (l.getD i z40) (by rw [List.getD_eq_getElem?_getD, List.getElem?_eq_getElem hi]; exact List.getElem_mem _)
   refine E.step ?_
   simp only [valid_vals.l0, w1 hi hn]
   refine E.yes (by omega) (E.yes (by omega) (E.yes (by omega) (E.bind hv ?_)))
   generalize (List.drop (i + 1) l).all (oneB s0 s1 f) = Q at ih ⊢
   unfold oneB
   cases hvb : vB s0 s1 f (l.getD i z40) with
   | false => exact E.no (by simp) E.const
   | true =>
     refine E.yes rfl (E.bind0 (hid_v f) ?_)
     cases hh : hidB f with
     | false => exact E.no (by simp) ih
     | true =>
       refine E.yes rfl ?_
       by_cases hz : (l.getD i z40).f0 = 0
       · refine E.yes hz ?_
         rw [hz]
         by_cases he : (l.getD i z40).f1.toList = []
         · rw [he]; exact E.yes he E.const
         · rw [beq_eq_false_iff_ne.2 he]; exact E.no he ih
       · rw [beq_eq_false_iff_ne.2 hz]
         exact E.no hz ih
theorem slot_r {f : SF} {i : Int} {n : ByteArray} {fs : List SF} {bs : List Int} {num : Int} {l : List SV} (hfs : fs.length ≤ 9000000000000000000) (hn : l.length ≤ 9000000000000000000) (hi : i = ixF (fun x => x.f1 == num) fs 0) (hf : f = rd_T36 fs i) (h : ∀ v ∈ l, E (rVal s0 s1 f v) (vB s0 s1 f v)) : E (fun k => ecdysisref20_slot.f k s0 s1 n fs bs num l) (decide (0 ≤ i) && valsB s0 s1 f l) := by
 have bd := ixF_bd (fun x : SF => x.f1 == num) fs 0
 rw [← hi] at bd
 have bad : E (fun k => ecdysisref20_slot.j0 k i true s0 s1 n fs bs num l) false := E.succ E.const fun k => by simp only [ecdysisref20_slot.j0]; rw [if_pos trivial]
 refine E.step ?_
 simp only [ecdysisref20_slot.f]
 refine E.bind (number_E n fs bs num hfs) ?_
 rw [← hi]
 by_cases h0 : i < 0
 · rw [decide_eq_false (by omega)]
   exact E.yes h0 bad
 rw [decide_eq_true (by omega), Bool.true_and]
 refine E.no h0 ?_
 by_cases hz : l.length = 0
 · rw [show ((l.length : Int) == 0) = true by rw [beq_iff_eq]; omega, valsB, hz]
   exact bad
 rw [show ((l.length : Int) == 0) = false by rw [beq_eq_false_iff_ne]; omega]
 refine E.step ?_
 simp only [ecdysisref20_slot.j0]
 refine E.no (by simp) (E.yes (by omega) (E.yes (by omega) ?_))
 rw [← hf]
 have hb : (l.length != 0) = true := bne_iff_ne.2 hz
 have bad1 : E (fun k => ecdysisref20_slot.j1 k true s0 s1 num l f.f0 f.f1 f.f2 f.f3 f.f4 f.f5 f.f6) false := E.succ E.const fun k => by simp only [ecdysisref20_slot.j1]; rw [if_pos trivial]
 have loop : (f.f4 = true ∨ l.length = 1) → E (fun k => ecdysisref20_slot.l0 k 0 s0 s1 num l f.f0 f.f1 f.f2 f.f3 f.f4 f.f5 f.f6) (l.all (oneB s0 s1 f)) := by
   intro hone
   have hidone : hidB f = true → l.length = 1 := fun hh => by
     rcases hone with h4 | h1
     · unfold hidB at hh; rw [h4] at hh; simp at hh
     · exact h1
   have go := up (C := fun i => E (fun k => ecdysisref20_slot.l0 k (i : Int) s0 s1 num l f.f0 f.f1 f.f2 f.f3 f.f4 f.f5 f.f6) ((l.drop i).all (vB s0 s1 f) && (!hidB f || !((rd_T40 l 0).f0 == 0 && (rd_T40 l 0).f1.toList == [])))) l.length (fun i hi => ?_) (fun i hi ih => ?_) 0
   · have e : l.all (oneB s0 s1 f) = (l.all (vB s0 s1 f) && (!hidB f || !((rd_T40 l 0).f0 == 0 && (rd_T40 l 0).f1.toList == []))) := by
       cases hh : hidB f with
       | false => rw [Bool.not_false, Bool.true_or, Bool.and_true]; congr 1; funext v; unfold oneB; rw [hh]; simp
       | true =>
         have h1 := hidone hh
         match l, h1 with
         | [a], _ => simp [oneB, hh, rd_T40]
     rw [e]
     exact go
   · rw [List.drop_eq_nil_of_le hi]
     refine E.step ?_
     simp only [ecdysisref20_slot.l0]
     refine E.no (by omega) (E.bind0 (hid_r f) ?_)
     cases hh : hidB f with
     | false => exact E.no (by simp) E.const
     | true =>
       refine E.yes rfl (E.yes (by omega) ?_)
       by_cases hz : (rd_T40 l 0).f0 = 0
       · refine E.yes hz ?_
         rw [hz]
         by_cases he : (rd_T40 l 0).f1.toList = []
         · rw [he]; exact E.const
         · rw [beq_eq_false_iff_ne.2 he, bne_iff_ne.2 he]; exact E.const
       · rw [beq_eq_false_iff_ne.2 hz]
         exact E.no hz E.const
   · rw [drop_getD z40 hi, List.all_cons]
     have hv := h (l.getD i z40) (by rw [List.getD_eq_getElem?_getD, List.getElem?_eq_getElem hi]; exact List.getElem_mem _)
     refine E.step ?_
     simp only [ecdysisref20_slot.l0, w1 hi hn]
     refine E.yes (by omega) (E.yes (by omega) (E.bind hv ?_))
     cases hvb : vB s0 s1 f (l.getD i z40) with
     | false => exact E.no (by simp) E.const
     | true => exact E.yes rfl ih
 have fin : ∀ b, b = !(f.f4 || decide (l.length ≤ 1)) → E (fun k => ecdysisref20_slot.j1 k b s0 s1 num l f.f0 f.f1 f.f2 f.f3 f.f4 f.f5 f.f6) (valsB s0 s1 f l) := by
   intro b hb'
   unfold valsB
   rw [hb, Bool.true_and]
   cases b with
   | true =>
     rw [turn hb']
     exact bad1
   | false =>
     have e1 : (f.f4 || decide (l.length ≤ 1)) = true := turn hb'
     rw [e1, Bool.true_and]
     refine E.succ (loop ?_) fun k => by simp only [ecdysisref20_slot.j1]; rw [if_neg (by simp)]
     rw [Bool.or_eq_true, decide_eq_true_eq] at e1
     rcases e1 with e1 | e1
     · exact .inl e1
     · exact .inr (by omega)
 by_cases h4 : f.f4 = true
 · exact E.yes h4 (fin false (by rw [h4]; rfl))
 · refine E.no h4 (fin _ ?_)
   rw [Bool.not_eq_true] at h4
   rw [h4, Bool.false_or]
   by_cases h1 : l.length ≤ 1
   · rw [decide_eq_true h1, show ((l.length : Int) != 1) = false by rw [bne_eq_false_iff_eq]; omega]; rfl
   · rw [decide_eq_false h1, show ((l.length : Int) != 1) = true by rw [bne_iff_ne]; omega]; rfl
end
end Go.Proofs.YtbpnfpckoapdbaaDoor.P20
end
section
namespace Go.Proofs.YtbpnfpckoapdbaaDoor.P20
open Go.RowKit Go.Proofs.YtbpnfpckoapdbaaDoorW.PrintWords Go.Proofs.YtbpnfpckoapdbaaDoorW.PrintLast Go.Proofs.YtbpnfpckoapdbaaDoorW.PrintMore Go.Proofs.YtbpnfpckoapdbaaDoor.KD Go.Proofs.YtbpnfpckoapdbaaDoor.M Go.Proofs.YtbpnfpckoapdbaaDoor.PV20 Go.Proofs.YtbpnfpckoapdbaaDoor.Ev
set_option linter.unusedVariables false
set_option linter.unusedSimpArgs false
def atF (fs : List SF) (num : Int) : Int := ixF (fun x => x.f1 == num) fs 0
def fld (fs : List SF) (num : Int) : SF := rd_T36 fs (atF fs num)
def okNum : Option Int → Int → Bool
 | none, _ => true
 | some p, n => decide (p < n)
theorem okNum_some (p n : Int) : okNum (some p) n = decide (p < n) := rfl
def fresh (one : ByteArray) (ones : List ByteArray) : Bool := one.toList == [] || !(ones.any fun o => o.toList == one.toList)
noncomputable def slB (s0 : List SE) (s1 : List SM) (fs : List SF) : Option Int → List ByteArray → List SS → Bool
 | _, _, [] => true
 | prev, ones, x :: r => (decide (0 ≤ atF fs x.f0) && (okNum prev x.f0 && valsB s0 s1 (fld fs x.f0) x.f1)) && (fresh (fld fs x.f0).f6 ones && slB s0 s1 fs (some x.f0) ((fld fs x.f0).f6 :: ones) r)
def prevOf (l : List SS) : Nat → Option Int
 | 0 => none
 | i + 1 => some (l.getD i z43).f0
theorem mcnt_any (s : ByteArray) : ∀ l, (0 < mcnt s l) ↔ (l.any fun o => o.toList == s.toList) = true
 | [] => by simp [mcnt]
 | x :: l => by
  have h0 := mcnt_le s l
  have ih := mcnt_any s l
  rw [List.any_cons]
  simp only [mcnt]
  by_cases h : x.data.toList = s.data.toList
  · rw [if_pos h, show (x.toList == s.toList) = true by rw [beq_iff_eq, ByteArray.toList_eq, ByteArray.toList_eq]; exact h]
    simp; omega
  · rw [if_neg h, show (x.toList == s.toList) = false by rw [beq_eq_false_iff_ne, ByteArray.toList_eq, ByteArray.toList_eq]; exact h, Bool.false_or]
    exact ih
theorem atF_bd (fs : List SF) (num : Int) : -1 ≤ atF fs num ∧ atF fs num < fs.length := by
 have := ixF_bd (fun x : SF => x.f1 == num) fs 0
 unfold atF; omega
theorem fld_mem {fs : List SF} {num : Int} (h : 0 ≤ atF fs num) : fld fs num ∈ fs := by
 have := atF_bd fs num
 obtain ⟨j, hj⟩ : ∃ j : Nat, atF fs num = (j : Int) := ⟨(atF fs num).toNat, by omega⟩
 unfold fld
 rw [hj, rdF, List.getD_eq_getElem?_getD, List.getElem?_eq_getElem (by omega)]
 exact List.getElem_mem _
theorem mem_getD {α : Type} {l : List α} {i : Nat} (z : α) (h : i < l.length) : l.getD i z ∈ l := by
 rw [List.getD_eq_getElem?_getD, List.getElem?_eq_getElem h]; exact List.getElem_mem _
theorem wm {i n : Nat} (h : i + 1 < n) (hn : n ≤ 9000000000000000000) : wrap64 (((i + 1 : Nat) : Int) - 1) = (i : Int) := by unfold wrap64; omega
/-- A schema no greater than a machine's. -/
structure Sch (fs : List SF) : Prop where
 n : fs.length ≤ 9000000000000000000
 one : ∀ f ∈ fs, f.f6.size ≤ 140737488351232
section
variable {s0 : List SE} {s1 : List SM}
def Vals (s0 : List SE) (s1 : List SM) (l : List SS) : Prop := ∀ x ∈ l, x.f1.length ≤ 9000000000000000000 ∧ ∀ f, ∀ v ∈ x.f1, E (vVal s0 s1 f v) (vB s0 s1 f v) ∧ E (rVal s0 s1 f v) (vB s0 s1 f v)
theorem slots_v {n : ByteArray} {fs : List SF} {bs : List Int} {l : List SS} (hfs : Sch fs) (hl : l.length ≤ 4398046511104) (hv : Vals s0 s1 l) : E (fun k => valid_slots.f k s0 s1 n fs bs l) (slB s0 s1 fs none [] l) := by
 have hl' : l.length ≤ 9000000000000000000 := by omega
 have loop := up (C := fun i => ∀ ones : List ByteArray, ones.length = i → E (fun k => valid_slots.l0 k l l (l.length : Int) (i : Int) s0 s1 n fs bs ones) (slB s0 s1 fs (prevOf l i) ones (l.drop i))) l.length (fun i hi => ?_) (fun i hi ih => ?_) 0
 · exact E.succ (loop [] rfl) fun k => by simp only [valid_slots.f]; rfl
 · intro ones ho
   rw [List.drop_eq_nil_of_le hi]
   exact E.succ E.const fun k => by simp only [valid_slots.l0]; rw [if_neg (by omega)]; rfl
 · intro ones ho
   rw [drop_getD z43 hi]
   have hx := hv _ (mem_getD z43 hi)
   have hr : rd_T43 l (i : Int) = l.getD i z43 := rfl
   have hp : prevOf l (i + 1) = some (l.getD i z43).f0 := rfl
   rw [hp] at ih
   generalize l.getD i z43 = x at hx hr ih
   have bd := atF_bd fs x.f0
   have hf : rd_T36 fs (atF fs x.f0) = fld fs x.f0 := rfl
   have bad : ∀ at_, E (fun k => valid_slots.j1 k l at_ l (l.length : Int) (i : Int) true s0 s1 n fs bs ones) false := fun at_ => E.succ E.const fun k => by simp only [valid_slots.j1]; rw [if_pos trivial]
   have good : 0 ≤ atF fs x.f0 → E (fun k => valid_slots.j1 k l (atF fs x.f0) l (l.length : Int) (i : Int) false s0 s1 n fs bs ones) (fresh (fld fs x.f0).f6 ones && slB s0 s1 fs (some x.f0) ((fld fs x.f0).f6 :: ones) (l.drop (i + 1))) := by
     intro h0
     have hk : keyOkM (fld fs x.f0).f6 ones = true := by
       have := hfs.one _ (fld_mem h0)
       unfold keyOkM maxLen
       rw [Bool.and_eq_true, decide_eq_true_eq, decide_eq_true_eq]
       omega
     have ih1 := ih ((fld fs x.f0).f6 :: ones) (by rw [List.length_cons, ho])
     refine E.step ?_
     simp only [valid_slots.j1, w1 hi hl']
     refine E.no (by simp) (E.yes h0 (E.yes bd.2 (E.yes hk ?_)))
     simp only [hf]
     unfold fresh
     by_cases he : (fld fs x.f0).f6.toList = []
     · rw [he]
       exact E.yes rfl ih1
     · rw [beq_eq_false_iff_ne.2 he, Bool.false_or]
       refine E.no he ?_
       have hm := mcnt_any (fld fs x.f0).f6 ones
       have hm0 := mcnt_le (fld fs x.f0).f6 ones
       cases ha : (ones.any fun o => o.toList == (fld fs x.f0).f6.toList) with
       | true =>
         rw [ha] at hm
         have := hm.2 rfl
         exact E.yes (by rw [mcnt_same]; omega) E.const
       | false =>
         rw [ha] at hm
         have : ¬ (0 < mcnt (fld fs x.f0).f6 ones) := fun h => by have := hm.1 h; cases this
         exact E.no (by rw [mcnt_same]; omega) ih1
   have vals : E (fun k => valid_vals.f k s0 s1 (fld fs x.f0).f0 (fld fs x.f0).f1 (fld fs x.f0).f2 (fld fs x.f0).f3 (fld fs x.f0).f4 (fld fs x.f0).f5 (fld fs x.f0).f6 x.f1) (valsB s0 s1 (fld fs x.f0) x.f1) := vals_v hx.1 fun v hm => (hx.2 _ v hm).1
   have last : 0 ≤ atF fs x.f0 → E (fun k => if 0 ≤ atF fs x.f0 then if atF fs x.f0 < (fs.length : Int) then (valid_vals.f k s0 s1 (fld fs x.f0).f0 (fld fs x.f0).f1 (fld fs x.f0).f2 (fld fs x.f0).f3 (fld fs x.f0).f4 (fld fs x.f0).f5 (fld fs x.f0).f6 x.f1).bind fun t => valid_slots.j1 k l (atF fs x.f0) l (l.length : Int) (i : Int) (!t) s0 s1 n fs bs ones else none else none) (valsB s0 s1 (fld fs x.f0) x.f1 && (fresh (fld fs x.f0).f6 ones && slB s0 s1 fs (some x.f0) ((fld fs x.f0).f6 :: ones) (l.drop (i + 1)))) := by
     intro h0
     refine E.yes h0 (E.yes bd.2 (E.bind vals ?_))
     cases valsB s0 s1 (fld fs x.f0) x.f1 with
     | false => exact bad _
     | true => exact good h0
   refine E.step ?_
   simp only [valid_slots.l0, hr]
   refine E.yes (by omega) (E.yes (by omega) (E.yes (by omega) (E.bind0 (a := atF fs x.f0) rfl ?_)))
   rw [slB]
   by_cases h0 : atF fs x.f0 < 0
   · rw [decide_eq_false (by omega)]
     exact E.yes h0 (bad _)
   · rw [decide_eq_true (by omega), Bool.true_and]
     refine E.no h0 ?_
     cases i with
     | zero =>
       refine E.no (by omega) ?_
       exact last (by omega)
     | succ j =>
       have hw := wm hi hl'
       refine E.yes (by omega) ?_
       rw [hw]
       refine E.yes (by omega) (E.yes (by omega) ?_)
       simp only [rdS]
       show E _ (okNum (some (l.getD j z43).f0) x.f0 && _ && _)
       rw [okNum_some]
       by_cases hc : (l.getD j z43).f0 ≥ x.f0
       · rw [decide_eq_false (by omega)]
         exact E.yes hc (bad _)
       · rw [decide_eq_true (by omega), Bool.true_and]
         exact E.no hc (last (by omega))
def restB (fs : List SF) (l : List SR) : Bool := l.all fun x => rightR x && !knownR fs x.f0
theorem rest_r {n : ByteArray} {fs : List SF} {bs : List Int} {sl : List SS} {l : List SR} (hfs : fs.length ≤ 9000000000000000000) (hl : l.length ≤ 9000000000000000000) (h0 : ∀ x ∈ l, 0 ≤ x.f2) : E (fun k => ecdysisref20_Tree.l2 k 0 sl l n fs bs) (restB fs l) := by
 have loop := up (C := fun i => E (fun k => ecdysisref20_Tree.l2 k (i : Int) sl l n fs bs) (restB fs (l.drop i))) l.length (fun i hi => ?_) (fun i hi ih => ?_) 0
 · exact loop
 · rw [List.drop_eq_nil_of_le hi]
   exact E.succ E.const fun k => by simp only [ecdysisref20_Tree.l2]; rw [if_neg (by omega)]; rfl
 · unfold restB at ih ⊢
   rw [drop_getD z63 hi, List.all_cons]
   have hx := h0 _ (mem_getD z63 hi)
   have hr : rd_T63 l (i : Int) = l.getD i z63 := rfl
   generalize l.getD i z63 = x at hx hr
   refine E.step ?_
   simp only [ecdysisref20_Tree.l2, w1 hi hl, hr]
   refine E.yes (by omega) (E.yes (by omega) (E.bind0 (right_r x hx) ?_))
   cases rightR x with
   | false => exact E.no (by simp) E.const
   | true =>
    refine E.yes rfl (E.bind (number_E n fs bs x.f0 hfs) ?_)
    unfold knownR
    by_cases hk : ixF (fun y : SF => y.f1 == x.f0) fs 0 ≥ 0
    · rw [decide_eq_true hk]
      exact E.yes hk E.const
    · rw [decide_eq_false hk]
      exact E.no hk ih
theorem ones_r {n : ByteArray} {fs : List SF} {bs : List Int} {sl : List SS} {l : List SR} {i : Nat} {one : ByteArray} {ones : List ByteArray} {R : Bool} (hi : i < sl.length) (hsl : sl.length ≤ 4398046511104) (ho : ones.length = i)
   (h : E (fun k => ecdysisref20_Tree.l0 k (one :: ones).reverse ((i + 1 : Nat) : Int) s0 s1 sl l n fs bs) R) : E (fun k => ecdysisref20_Tree.l1 k ones.reverse (i : Int) one 0 s0 s1 sl l n fs bs) (fresh one ones && R) := by
 have hn : ones.reverse.length ≤ 9000000000000000000 := by rw [List.length_reverse]; omega
 have loop := up (C := fun j => E (fun k => ecdysisref20_Tree.l1 k ones.reverse (i : Int) one (j : Int) s0 s1 sl l n fs bs) (fresh one (ones.reverse.drop j) && R)) ones.reverse.length (fun j hj => ?_) (fun j hj ih => ?_) 0
 · have e : fresh one (ones.reverse.drop 0) = fresh one ones := by unfold fresh; rw [List.drop_zero, List.any_reverse]
   rw [e] at loop
   exact loop
 · rw [List.drop_eq_nil_of_le hj, show fresh one [] = true by simp [fresh], Bool.true_and]
   refine E.step ?_
   simp only [ecdysisref20_Tree.l1]
   refine E.no (by omega) (E.yes (by rw [List.length_reverse]; omega) ?_)
   rw [w1 hi (by omega), ← List.reverse_cons]
   exact h
 · have hr : rdOf ByteArray.empty ones.reverse (j : Int) = ones.reverse.getD j ByteArray.empty := rfl
   have hd : fresh one (ones.reverse.drop j) = (one.toList == [] || (!((ones.reverse.getD j ByteArray.empty).toList == one.toList) && !((ones.reverse.drop (j + 1)).any fun o => o.toList == one.toList))) := by
     unfold fresh; rw [drop_getD ByteArray.empty hj, List.any_cons, Bool.not_or]
   rw [hd]
   unfold fresh at ih
   generalize ones.reverse.getD j ByteArray.empty = o at hr
   generalize (!((ones.reverse.drop (j + 1)).any fun o => o.toList == one.toList)) = Q at ih
   refine E.step ?_
   simp only [ecdysisref20_Tree.l1, hr, w1 hj hn]
   refine E.yes (by omega) ?_
   by_cases he : one.toList = []
   · rw [he] at ih ⊢
     exact E.yes rfl ih
   · rw [beq_eq_false_iff_ne.2 he, Bool.false_or] at ih ⊢
     refine E.no he (E.yes (by omega) ?_)
     by_cases hc : o.toList = one.toList
     · rw [hc, show (one.toList == one.toList) = true by simp]
       exact E.yes rfl E.const
     · rw [beq_eq_false_iff_ne.2 hc]
       exact E.no hc ih
theorem slots_r {n : ByteArray} {fs : List SF} {bs : List Int} {l : List SS} {re : List SR} (hfs : Sch fs) (hl : l.length ≤ 4398046511104) (hre : re.length ≤ 9000000000000000000) (h0 : ∀ x ∈ re, 0 ≤ x.f2) (hv : Vals s0 s1 l) : E (fun k => ecdysisref20_Tree.l0 k [] 0 s0 s1 l re n fs bs) (slB s0 s1 fs none [] l && restB fs re) := by
 have hl' : l.length ≤ 9000000000000000000 := by omega
 have loop := up (C := fun i => ∀ ones : List ByteArray, ones.length = i → E (fun k => ecdysisref20_Tree.l0 k ones.reverse (i : Int) s0 s1 l re n fs bs) (slB s0 s1 fs (prevOf l i) ones (l.drop i) && restB fs re)) l.length (fun i hi => ?_) (fun i hi ih => ?_) 0
 · exact loop [] rfl
 · intro ones ho
   rw [List.drop_eq_nil_of_le hi]
   exact E.succ (rest_r (bs := bs) hfs.n hre h0) fun k => by simp only [ecdysisref20_Tree.l0]; rw [if_neg (by omega)]
 · intro ones ho
   rw [drop_getD z43 hi]
   have hx := hv _ (mem_getD z43 hi)
   have hr : rd_T43 l (i : Int) = l.getD i z43 := rfl
   have hp : prevOf l (i + 1) = some (l.getD i z43).f0 := rfl
   rw [hp] at ih
   generalize l.getD i z43 = x at hx hr ih
   have bd := atF_bd fs x.f0
   have hf : rd_T36 fs (atF fs x.f0) = fld fs x.f0 := rfl
   rw [slB]
   simp only [Bool.and_assoc]
   have bad : E (fun k => ecdysisref20_Tree.j1 k ones.reverse (i : Int) true s0 s1 l re n fs bs) false := E.succ E.const fun k => by simp only [ecdysisref20_Tree.j1]; rw [if_pos trivial]
   have good : 0 ≤ atF fs x.f0 → E (fun k => ecdysisref20_Tree.j1 k ones.reverse (i : Int) false s0 s1 l re n fs bs) (fresh (fld fs x.f0).f6 ones && (slB s0 s1 fs (some x.f0) ((fld fs x.f0).f6 :: ones) (l.drop (i + 1)) && restB fs re)) := by
    intro h1
    refine E.step ?_
    simp only [ecdysisref20_Tree.j1, hr]
    refine E.no (by simp) (E.yes (by omega) (E.yes (by omega) (E.bind (number_E n fs bs x.f0 hfs.n) ?_)))
    show E (fun k => if 0 ≤ atF fs x.f0 then if atF fs x.f0 < (fs.length : Int) then ecdysisref20_Tree.l1 k ones.reverse (i : Int) (fld fs x.f0).f6 0 s0 s1 l re n fs bs else none else none) _
    exact E.yes h1 (E.yes bd.2 (ones_r hi hl ho (ih _ (by rw [List.length_cons, ho]))))
   have slot : E (fun k => ecdysisref20_slot.f k s0 s1 n fs bs x.f0 x.f1) (decide (0 ≤ atF fs x.f0) && valsB s0 s1 (fld fs x.f0) x.f1) := slot_r hfs.n hx.1 rfl rfl fun v hm => (hx.2 _ v hm).2
   have last : E (fun k => (ecdysisref20_slot.f k s0 s1 n fs bs x.f0 x.f1).bind fun t => ecdysisref20_Tree.j1 k ones.reverse (i : Int) (!t) s0 s1 l re n fs bs) (decide (0 ≤ atF fs x.f0) && (valsB s0 s1 (fld fs x.f0) x.f1 && (fresh (fld fs x.f0).f6 ones && (slB s0 s1 fs (some x.f0) ((fld fs x.f0).f6 :: ones) (l.drop (i + 1)) && restB fs re)))) := by
    refine E.bind slot ?_
    by_cases h1 : 0 ≤ atF fs x.f0
    · rw [decide_eq_true h1, Bool.true_and]
      cases valsB s0 s1 (fld fs x.f0) x.f1 with
      | false => exact bad
      | true => exact good h1
    · rw [decide_eq_false h1]
      exact bad
   refine E.step ?_
   simp only [ecdysisref20_Tree.l0, hr]
   refine E.yes (by omega) ?_
   cases i with
   | zero =>
    refine E.no (by omega) (E.yes (by omega) ?_)
    exact last
   | succ j =>
    have hw := wm hi hl'
    refine E.yes (by omega) ?_
    rw [hw]
    refine E.yes (by omega) (E.yes (by omega) (E.yes (by omega) ?_))
    simp only [rdS]
    show E _ (decide (0 ≤ atF fs x.f0) && (okNum (some (l.getD j z43).f0) x.f0 && _))
    rw [okNum_some]
    by_cases hc : (l.getD j z43).f0 ≥ x.f0
    · rw [decide_eq_false (show ¬ (l.getD j z43).f0 < x.f0 by omega), Bool.false_and, Bool.and_false]
      exact E.yes hc bad
    · rw [decide_eq_true (show (l.getD j z43).f0 < x.f0 by omega), Bool.true_and]
      exact E.no hc last
/-- A schema no greater than a machine's. -/
structure Sc (s1 : List SM) : Prop where
 n : s1.length ≤ 9000000000000000000
 fs : ∀ m ∈ s1, Sch m.f1
def atM (s1 : List SM) (name : ByteArray) : Int := ixF (fun x => x.f0.toList == name.toList) s1 0
/-- Whether a tree is a message's value. -/
noncomputable def treeB (s0 : List SE) (s1 : List SM) (name : ByteArray) (t : ST) : Bool :=
 decide (0 ≤ atM s1 name) && (slB s0 s1 (rd_T52 s1 (atM s1 name)).f1 none [] t.f0 && restB (rd_T52 s1 (atM s1 name)).f1 t.f1)
theorem atM_mem {s1 : List SM} {name : ByteArray} (h : 0 ≤ atM s1 name) : rd_T52 s1 (atM s1 name) ∈ s1 ∧ atM s1 name < s1.length := by
 have h1 := ixF_bd (fun x : SM => x.f0.toList == name.toList) s1 0
 have h2 : atM s1 name < s1.length := by unfold atM; omega
 obtain ⟨j, hj⟩ : ∃ j : Nat, atM s1 name = (j : Int) := ⟨(atM s1 name).toNat, by omega⟩
 refine ⟨?_, h2⟩
 rw [hj] at h2 ⊢
 rw [rdM]
 exact mem_getD _ (by omega)
theorem tree_v (hs : Sc s1) {name : ByteArray} {t : ST} (hl : t.f0.length ≤ 4398046511104) (hv : Vals s0 s1 t.f0) : E (vTree s0 s1 name t) (treeB s0 s1 name t) := by
 refine E.step ?_
 show E (fun k => valid_Tree.f (k + 1) _ _ _ _ _) _
 simp only [valid_Tree.f]
 refine E.bind0 (a := atM s1 name) rfl ?_
 unfold treeB
 by_cases h : 0 ≤ atM s1 name
 · have hm := atM_mem h
   rw [decide_eq_true h, Bool.true_and]
   refine E.yes h (E.yes h (E.yes hm.2 (E.bind (slots_v (hs.fs _ hm.1) hl hv) ?_)))
   cases slB s0 s1 (rd_T52 s1 (atM s1 name)).f1 none [] t.f0 with
   | false => exact E.no (by simp) E.const
   | true => exact E.yes rfl (E.bind0 (a := restB (rd_T52 s1 (atM s1 name)).f1 t.f1) rfl E.const)
 · rw [decide_eq_false h]
   exact E.no h E.const
theorem tree_r (hs : Sc s1) {name : ByteArray} {t : ST} (hl : t.f0.length ≤ 4398046511104) (hre : t.f1.length ≤ 9000000000000000000) (h0 : ∀ x ∈ t.f1, 0 ≤ x.f2) (hv : Vals s0 s1 t.f0) : E (rTree s0 s1 name t) (treeB s0 s1 name t) := by
 refine E.step ?_
 show E (fun k => ecdysisref20_Tree.f (k + 1) _ _ _ _ _) _
 simp only [ecdysisref20_Tree.f]
 refine E.bind (a := atM s1 name) (message_E s0 s1 name hs.n) ?_
 unfold treeB
 by_cases h : 0 ≤ atM s1 name
 · have hm := atM_mem h
   rw [decide_eq_true h, Bool.true_and]
   exact E.no (by omega) (E.yes h (E.yes hm.2 (slots_r (hs.fs _ hm.1) hl hre h0 hv)))
 · rw [decide_eq_false h]
   exact E.yes (by omega) E.const
end
section
open Go.Proofs.YtbpnfpckoapdbaaDoor.Ops
theorem reach : reachBytes = 140737488351232 := by decide
theorem u64_ge {n : Int} (h : (Lit.int .u64 n).wf = true) : 0 ≤ n ∧ n < 18446744073709551616 := by
 simp only [Lit.wf, Bool.and_eq_true, decide_eq_true_eq] at h
 obtain ⟨h1, h2⟩ := h
 have e1 : IntKind.u64.min = 0 := by decide
 have e2 : IntKind.u64.max = 18446744073709551615 := by decide
 omega
/-- Whatever a tree: the program and the document tell the same. -/
theorem level {s0 : List SE} {s1 : List SM} (hs : Sc s1) : ∀ (n : Nat) (t : ST), okT n t → Vals s0 s1 t.f0 ∧ ∀ name, E (vTree s0 s1 name t) (treeB s0 s1 name t) ∧ E (rTree s0 s1 name t) (treeB s0 s1 name t)
 | 0, t, h => h.elim
 | n + 1, t, h => by
  obtain ⟨⟨hl, hx⟩, hre, hr⟩ := h
  rw [reach] at hl hre
  have hv : Vals s0 s1 t.f0 := fun x hm => by
   obtain ⟨_, hlv, hvv⟩ := hx x hm
   rw [reach] at hlv
   refine ⟨by omega, fun f v hmv => ?_⟩
   obtain ⟨w0, w1, hlt, hlow⟩ := hvv v hmv
   rw [reach] at w1
   have h1 := val_v (s0 := s0) (s1 := s1) (f := f) (v := v) (T := treeB s0 s1) (u64_ge w0).1 (by omega) fun t ht => ((level hs n t (hlow t ht)).2 _).1
   have h2 := val_r (s0 := s0) (s1 := s1) (f := f) (v := v) (T := treeB s0 s1) (u64_ge w0).1 (by omega) fun t ht => ((level hs n t (hlow t ht)).2 _).2
   rw [vB_E h1]
   exact ⟨h1, h2⟩
  refine ⟨hv, fun name => ⟨tree_v hs (by omega) hv, tree_r hs (by omega) (by omega) (fun x hm => (u64_ge (hr x hm).2.2.1).1) hv⟩⟩
end
end Go.Proofs.YtbpnfpckoapdbaaDoor.P20
end
section
namespace Go.Proofs.YtbpnfpckoapdbaaDoor.Ops
open Go.RowKit Go.Proofs.YtbpnfpckoapdbaaDoorW.PrintWords Go.Proofs.YtbpnfpckoapdbaaDoor.KD Go.Proofs.YtbpnfpckoapdbaaDoor.Open
set_option linter.unusedVariables false
set_option maxHeartbeats 1000000
def ok54 (x : S54) : Prop := x.f0.size ≤ reachBytes ∧ (Lit.int .i64 x.f1).wf = true
theorem opens54 (fuel : Nat) : OpensW fuel Tryd.prog k54 ok54 54 := by
 have c0 : Tryd.prog.cellsOf 9 = Kd.string.sz := by kernel_rfl
 have c1 : Tryd.prog.cellsOf 3 = (Kd.int .i64).sz := by kernel_rfl
 refine (opensW_struct (P := Tryd.prog) (t := 54) (fuel := fuel) (d := (Kd.pair Kd.string ((Kd.int .i64)))) (Ok := fun x_ : ByteArray × Int => (x_.1).size ≤ reachBytes ∧ (Lit.int .i64 (x_.2)).wf = true) (mk := fun y => (⟨y.1, y.2⟩ : S54)) (proj := fun x => (x.f0, x.f1)) (fun _ => rfl) Tryd.underlying54 (by kernel_rfl) fun f_ e_ => ?_)
 refine fieldsW_cons (off' := 1) (Ok := fun x_ : ByteArray => x_.size ≤ reachBytes) (Ok' := fun x_ : Int => (Lit.int .i64 x_).wf = true) ?_ ?_ ?_ ?_ ?_
 · exact rfl
 · exact c0
 · exact (opensW_string Tryd.underlying9)
 · exact rfl
 refine fieldsW_last ?_ ?_ ?_
 · exact rfl
 · exact c1
 · exact ((opens_int Tryd.underlying3).toW _)
def ok48 (x : S48) : Prop := x.f0.size ≤ reachBytes ∧ (x.f1.length * 24 ≤ reachBytes ∧ ∀ y_ ∈ x.f1, ok54 y_)
theorem opens48 (fuel : Nat) : OpensW fuel Tryd.prog k48 ok48 48 := by
 have c0 : Tryd.prog.cellsOf 9 = Kd.string.sz := by kernel_rfl
 have c1 : Tryd.prog.cellsOf 46 = (Kd.slice 54 k54).sz := by kernel_rfl
 refine (opensW_struct (P := Tryd.prog) (t := 48) (fuel := fuel) (d := (Kd.pair Kd.string ((Kd.slice 54 k54)))) (Ok := fun x_ : ByteArray × (List S54) => (x_.1).size ≤ reachBytes ∧ ((x_.2).length * 24 ≤ reachBytes ∧ ∀ y_ ∈ (x_.2), ok54 y_)) (mk := fun y => (⟨y.1, y.2⟩ : S48)) (proj := fun x => (x.f0, x.f1)) (fun _ => rfl) Tryd.underlying48 (by kernel_rfl) fun f_ e_ => ?_)
 refine fieldsW_cons (off' := 1) (Ok := fun x_ : ByteArray => x_.size ≤ reachBytes) (Ok' := fun x_ : (List S54) => (x_.length * 24 ≤ reachBytes ∧ ∀ y_ ∈ x_, ok54 y_)) ?_ ?_ ?_ ?_ ?_
 · exact rfl
 · exact c0
 · exact (opensW_string Tryd.underlying9)
 · exact rfl
 refine fieldsW_last ?_ ?_ ?_
 · exact rfl
 · exact c1
 · exact (opensW_slice (B := 24) Tryd.underlying46 (by kernel_rfl) (by kernel_rfl) (fun _ _ => (opens54 _)))
def ok36 (x : S36) : Prop := x.f0.size ≤ reachBytes ∧ (Lit.int .i64 x.f1).wf = true ∧ (Lit.int .i64 x.f2).wf = true ∧ x.f3.size ≤ reachBytes ∧ True ∧ True ∧ x.f6.size ≤ reachBytes
theorem opens36 (fuel : Nat) : OpensW fuel Tryd.prog k36 ok36 36 := by
 have c0 : Tryd.prog.cellsOf 9 = Kd.string.sz := by kernel_rfl
 have c1 : Tryd.prog.cellsOf 3 = (Kd.int .i64).sz := by kernel_rfl
 have c2 : Tryd.prog.cellsOf 3 = (Kd.int .i64).sz := by kernel_rfl
 have c3 : Tryd.prog.cellsOf 9 = Kd.string.sz := by kernel_rfl
 have c4 : Tryd.prog.cellsOf 4 = Kd.bool.sz := by kernel_rfl
 have c5 : Tryd.prog.cellsOf 4 = Kd.bool.sz := by kernel_rfl
 have c6 : Tryd.prog.cellsOf 9 = Kd.string.sz := by kernel_rfl
 refine (opensW_struct (P := Tryd.prog) (t := 36) (fuel := fuel) (d := (Kd.pair Kd.string (Kd.pair (Kd.int .i64) (Kd.pair (Kd.int .i64) (Kd.pair Kd.string (Kd.pair Kd.bool (Kd.pair Kd.bool (Kd.string)))))))) (Ok := fun x_ : ByteArray × Int × Int × ByteArray × Bool × Bool × ByteArray => (x_.1).size ≤ reachBytes ∧ (Lit.int .i64 (x_.2.1)).wf = true ∧ (Lit.int .i64 (x_.2.2.1)).wf = true ∧ (x_.2.2.2.1).size ≤ reachBytes ∧ True ∧ True ∧ (x_.2.2.2.2.2.2).size ≤ reachBytes) (mk := fun y => (⟨y.1, y.2.1, y.2.2.1, y.2.2.2.1, y.2.2.2.2.1, y.2.2.2.2.2.1, y.2.2.2.2.2.2⟩ : S36)) (proj := fun x => (x.f0, x.f1, x.f2, x.f3, x.f4, x.f5, x.f6)) (fun _ => rfl) Tryd.underlying36 (by kernel_rfl) fun f_ e_ => ?_)
 refine fieldsW_cons (off' := 1) (Ok := fun x_ : ByteArray => x_.size ≤ reachBytes) (Ok' := fun x_ : Int × Int × ByteArray × Bool × Bool × ByteArray => (Lit.int .i64 (x_.1)).wf = true ∧ (Lit.int .i64 (x_.2.1)).wf = true ∧ (x_.2.2.1).size ≤ reachBytes ∧ True ∧ True ∧ (x_.2.2.2.2.2).size ≤ reachBytes) ?_ ?_ ?_ ?_ ?_
 · exact rfl
 · exact c0
 · exact (opensW_string Tryd.underlying9)
 · exact rfl
 refine fieldsW_cons (off' := 2) (Ok := fun x_ : Int => (Lit.int .i64 x_).wf = true) (Ok' := fun x_ : Int × ByteArray × Bool × Bool × ByteArray => (Lit.int .i64 (x_.1)).wf = true ∧ (x_.2.1).size ≤ reachBytes ∧ True ∧ True ∧ (x_.2.2.2.2).size ≤ reachBytes) ?_ ?_ ?_ ?_ ?_
 · exact rfl
 · exact c1
 · exact ((opens_int Tryd.underlying3).toW _)
 · exact rfl
 refine fieldsW_cons (off' := 3) (Ok := fun x_ : Int => (Lit.int .i64 x_).wf = true) (Ok' := fun x_ : ByteArray × Bool × Bool × ByteArray => (x_.1).size ≤ reachBytes ∧ True ∧ True ∧ (x_.2.2.2).size ≤ reachBytes) ?_ ?_ ?_ ?_ ?_
 · exact rfl
 · exact c2
 · exact ((opens_int Tryd.underlying3).toW _)
 · exact rfl
 refine fieldsW_cons (off' := 4) (Ok := fun x_ : ByteArray => x_.size ≤ reachBytes) (Ok' := fun x_ : Bool × Bool × ByteArray => True ∧ True ∧ (x_.2.2).size ≤ reachBytes) ?_ ?_ ?_ ?_ ?_
 · exact rfl
 · exact c3
 · exact (opensW_string Tryd.underlying9)
 · exact rfl
 refine fieldsW_cons (off' := 5) (Ok := fun x_ : Bool => True) (Ok' := fun x_ : Bool × ByteArray => True ∧ (x_.2).size ≤ reachBytes) ?_ ?_ ?_ ?_ ?_
 · exact rfl
 · exact c4
 · exact ((opens_bool Tryd.underlying4).toW _)
 · exact rfl
 refine fieldsW_cons (off' := 6) (Ok := fun x_ : Bool => True) (Ok' := fun x_ : ByteArray => x_.size ≤ reachBytes) ?_ ?_ ?_ ?_ ?_
 · exact rfl
 · exact c5
 · exact ((opens_bool Tryd.underlying4).toW _)
 · exact rfl
 refine fieldsW_last ?_ ?_ ?_
 · exact rfl
 · exact c6
 · exact (opensW_string Tryd.underlying9)
def ok52 (x : S52) : Prop := x.f0.size ≤ reachBytes ∧ (x.f1.length * 72 ≤ reachBytes ∧ ∀ y_ ∈ x.f1, ok36 y_) ∧ (x.f2.length * 8 ≤ reachBytes ∧ ∀ y_ ∈ x.f2, (Lit.int .i64 y_).wf = true)
theorem opens52 (fuel : Nat) : OpensW fuel Tryd.prog k52 ok52 52 := by
 have c0 : Tryd.prog.cellsOf 9 = Kd.string.sz := by kernel_rfl
 have c1 : Tryd.prog.cellsOf 49 = (Kd.slice 36 k36).sz := by kernel_rfl
 have c2 : Tryd.prog.cellsOf 50 = (Kd.slice 3 (Kd.int .i64)).sz := by kernel_rfl
 refine (opensW_struct (P := Tryd.prog) (t := 52) (fuel := fuel) (d := (Kd.pair Kd.string (Kd.pair (Kd.slice 36 k36) ((Kd.slice 3 (Kd.int .i64)))))) (Ok := fun x_ : ByteArray × (List S36) × (List Int) => (x_.1).size ≤ reachBytes ∧ ((x_.2.1).length * 72 ≤ reachBytes ∧ ∀ y_ ∈ (x_.2.1), ok36 y_) ∧ ((x_.2.2).length * 8 ≤ reachBytes ∧ ∀ y_ ∈ (x_.2.2), (Lit.int .i64 y_).wf = true)) (mk := fun y => (⟨y.1, y.2.1, y.2.2⟩ : S52)) (proj := fun x => (x.f0, x.f1, x.f2)) (fun _ => rfl) Tryd.underlying52 (by kernel_rfl) fun f_ e_ => ?_)
 refine fieldsW_cons (off' := 1) (Ok := fun x_ : ByteArray => x_.size ≤ reachBytes) (Ok' := fun x_ : (List S36) × (List Int) => ((x_.1).length * 72 ≤ reachBytes ∧ ∀ y_ ∈ (x_.1), ok36 y_) ∧ ((x_.2).length * 8 ≤ reachBytes ∧ ∀ y_ ∈ (x_.2), (Lit.int .i64 y_).wf = true)) ?_ ?_ ?_ ?_ ?_
 · exact rfl
 · exact c0
 · exact (opensW_string Tryd.underlying9)
 · exact rfl
 refine fieldsW_cons (off' := 2) (Ok := fun x_ : List S36 => (x_.length * 72 ≤ reachBytes ∧ ∀ y_ ∈ x_, ok36 y_)) (Ok' := fun x_ : (List Int) => (x_.length * 8 ≤ reachBytes ∧ ∀ y_ ∈ x_, (Lit.int .i64 y_).wf = true)) ?_ ?_ ?_ ?_ ?_
 · exact rfl
 · exact c1
 · exact (opensW_slice (B := 72) Tryd.underlying49 (by kernel_rfl) (by kernel_rfl) (fun _ _ => (opens36 _)))
 · exact rfl
 refine fieldsW_last ?_ ?_ ?_
 · exact rfl
 · exact c2
 · exact (opensW_slice (B := 8) Tryd.underlying50 (by kernel_rfl) (by kernel_rfl) (fun _ _ => ((opens_int Tryd.underlying3).toW _)))
def ok25 (x : S25) : Prop := (x.f0.length * 40 ≤ reachBytes ∧ ∀ y_ ∈ x.f0, ok48 y_) ∧ (x.f1.length * 64 ≤ reachBytes ∧ ∀ y_ ∈ x.f1, ok52 y_)
theorem opens25 (fuel : Nat) : OpensW fuel Tryd.prog k25 ok25 25 := by
 have c0 : Tryd.prog.cellsOf 22 = (Kd.slice 48 k48).sz := by kernel_rfl
 have c1 : Tryd.prog.cellsOf 23 = (Kd.slice 52 k52).sz := by kernel_rfl
 refine (opensW_struct (P := Tryd.prog) (t := 25) (fuel := fuel) (d := (Kd.pair (Kd.slice 48 k48) ((Kd.slice 52 k52)))) (Ok := fun x_ : (List S48) × (List S52) => ((x_.1).length * 40 ≤ reachBytes ∧ ∀ y_ ∈ (x_.1), ok48 y_) ∧ ((x_.2).length * 64 ≤ reachBytes ∧ ∀ y_ ∈ (x_.2), ok52 y_)) (mk := fun y => (⟨y.1, y.2⟩ : S25)) (proj := fun x => (x.f0, x.f1)) (fun _ => rfl) Tryd.underlying25 (by kernel_rfl) fun f_ e_ => ?_)
 refine fieldsW_cons (off' := 1) (Ok := fun x_ : List S48 => (x_.length * 40 ≤ reachBytes ∧ ∀ y_ ∈ x_, ok48 y_)) (Ok' := fun x_ : (List S52) => (x_.length * 64 ≤ reachBytes ∧ ∀ y_ ∈ x_, ok52 y_)) ?_ ?_ ?_ ?_ ?_
 · exact rfl
 · exact c0
 · exact (opensW_slice (B := 40) Tryd.underlying22 (by kernel_rfl) (by kernel_rfl) (fun _ _ => (opens48 _)))
 · exact rfl
 refine fieldsW_last ?_ ?_ ?_
 · exact rfl
 · exact c1
 · exact (opensW_slice (B := 64) Tryd.underlying23 (by kernel_rfl) (by kernel_rfl) (fun _ _ => (opens52 _)))
end Go.Proofs.YtbpnfpckoapdbaaDoor.Ops
end

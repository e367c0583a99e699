/- The law that what is told is closed: for every schema it tells true; no conditions but those of the row. (text 6 of 7; some of it the words and functions that the kit's print and this claim's programs wrote) -/
import Derived.Test.YtbpnfpckoapdbaaQFindCloses4
import Derived.Deep.Slices
import Derived.ChangeArms
import Derived.ChangeSame
import Derived.ProofKit
import Derived.SizedLaws
import Derived.Test.YtbpnfpckoapdbaaProg
import Derived.KernelRfl
section
namespace Go.Proofs.Ytbpnfpckoapdbaa.PF16
open Go.RowKit Go.Proofs.Ytbpnfpckoapdbaa.M Go.Proofs.Ytbpnfpckoapdbaa.KD Go.Proofs.Ytbpnfpckoapdbaa Go.Proofs.YtbpnfpckoapdbaaW.PrintWords Go.Proofs.YtbpnfpckoapdbaaW.PrintLast Go.Proofs.YtbpnfpckoapdbaaW.PrintMore
attribute [local go_sem] max2_int min2_int max_two min_two max_three min_three max_four min_four   -- for this text's walks alone
set_option linter.unusedVariables false
set_option linter.unusedSimpArgs false
def ecdysisref15_Check.f (k : Nat) (l0_0 : List (S86)) (l0_1 : List (S47)) : Option (Int) := (ecdysisref15_many.f k l0_0 l0_1).bind fun t406 => (if t406 = true then (some 4) else ((ecdysisref15_none.f k l0_0 l0_1).bind fun t407 => (if t407 = true then (some 5) else ((ecdysisref15_text.f k l0_0 l0_1).bind fun t408 => (if t408 = true then (some 2) else ((ecdysisref15_fields.f k l0_0 l0_1).bind fun t409 => (if t409 = 0 then ((ecdysisref15_twice.f k l0_0 l0_1).bind fun t410 => (if t410 = true then (some 6) else ((ecdysisref15_order.f k l0_0 l0_1).bind fun t411 => (if t411 = true then (some 1) else ((ecdysisref15_barred.f k l0_0 l0_1).bind fun t412 => (if t412 = true then (some 6) else ((ecdysisref15_refs.f k l0_0 l0_1).bind fun t413 => (if t413 = true then (some 5) else (some 0))))))))) else (some t409))))))))
set_option maxHeartbeats 8000000 in
set_option maxRecDepth 100000 in
theorem ecdysisref15_Check.calls (k : Nat) (A0_0 : Option Addr) (c0_0 : Nat) (l0_0 : List (S86)) (A0_1 : Option Addr) (c0_1 : Nat) (l0_1 : List (S47)) (r : Int) (w : World) (hr0_0 : Kd.C k86 w A0_0 l0_0.length l0_0) (hc0_0 : l0_0.length ≤ c0_0) (hr0_1 : Kd.C k47 w A0_1 l0_1.length l0_1) (hc0_1 : l0_1.length ≤ c0_1) (h : ecdysisref15_Check.f k l0_0 l0_1 = some r) :
   Calls Try.prog 26 #[.agg #[.slice A0_0 l0_0.length c0_0, .slice A0_1 l0_1.length c0_1]] w fun e w' => e = .returned (.int .i64 r) ∧ Below w.heap.size w w' := by
 have hu35 := Try.underlying35
 have HR0_0 := Aside0.mk hr0_0
 have HC0_0 := Aside0.mk hc0_0
 clear hr0_0 hc0_0
 have HR0_1 := Aside0.mk hr0_1
 have HC0_1 := Aside0.mk hc0_1
 clear hr0_1 hc0_1
 have HB := Aside0.mk (Below.refl w.heap.size w)
 have H : ((ecdysisref15_many.f k l0_0 l0_1).bind fun t406 => (if t406 = true then (some 4) else ((ecdysisref15_none.f k l0_0 l0_1).bind fun t407 => (if t407 = true then (some 5) else ((ecdysisref15_text.f k l0_0 l0_1).bind fun t408 => (if t408 = true then (some 2) else ((ecdysisref15_fields.f k l0_0 l0_1).bind fun t409 => (if t409 = 0 then ((ecdysisref15_twice.f k l0_0 l0_1).bind fun t410 => (if t410 = true then (some 6) else ((ecdysisref15_order.f k l0_0 l0_1).bind fun t411 => (if t411 = true then (some 1) else ((ecdysisref15_barred.f k l0_0 l0_1).bind fun t412 => (if t412 = true then (some 6) else ((ecdysisref15_refs.f k l0_0 l0_1).bind fun t413 => (if t413 = true then (some 5) else (some 0))))))))) else (some t409))))))))) = some r := h
 clear h
 replace H := Option.bind_eq_some_iff.mp H
 obtain ⟨t406, A20, H⟩ := H
 replace H : (if t406 = true then (some 4) else ((ecdysisref15_none.f k l0_0 l0_1).bind fun t407 => (if t407 = true then (some 5) else ((ecdysisref15_text.f k l0_0 l0_1).bind fun t408 => (if t408 = true then (some 2) else ((ecdysisref15_fields.f k l0_0 l0_1).bind fun t409 => (if t409 = 0 then ((ecdysisref15_twice.f k l0_0 l0_1).bind fun t410 => (if t410 = true then (some 6) else ((ecdysisref15_order.f k l0_0 l0_1).bind fun t411 => (if t411 = true then (some 1) else ((ecdysisref15_barred.f k l0_0 l0_1).bind fun t412 => (if t412 = true then (some 6) else ((ecdysisref15_refs.f k l0_0 l0_1).bind fun t413 => (if t413 = true then (some 5) else (some 0))))))))) else (some t409)))))))) = some r := H
 have A2 := Aside0.mk A20
 clear A20
 by_cases c3 : t406 = true
 · subst c3
   have H1 : (some 4) = some r := by rw [if_pos rfl] at H; exact H
   clear H
   have H := H1
   clear H1
   obtain rfl := Option.some.inj H
   go_enter Try.func26, Try.ntmps26
   go_wp2_with (first | ((with_reducible refine gate_dst (N := 1) rfl ?_); refine box_event ?hg (N := 1) ?hd (cs := #[.slice A0_0 l0_0.length c0_0, .slice A0_1 l0_1.length c0_1]) (t := 35) ?hr ?_; (case hd => rfl); (case hg => rfl); (case hr => first | (go_simp; done) | (go_simp; rfl)); intro gb405 hg w4 hbox hb; have n0_ := Aside0.mk (below_step HB.out hb); have n1_ := Aside0.mk (hbox); clear HB; have HB := n0_; have BK405 := n1_; clear n0_ n1_; clear hb hbox hg; have hcz5_0 : w4.cell? ⟨gb405, 0, none⟩ = some (.slice A0_0 l0_0.length c0_0) := (blk_cell BK405.out 0).trans rfl; have hcz5_1 : w4.cell? ⟨gb405, 1, none⟩ = some (.slice A0_1 l0_1.length c0_1) := (blk_cell BK405.out 1).trans rfl; have hfz5_0 := blk_frozen BK405.out 0; have hfz5_1 := blk_frozen BK405.out 1) | ((with_reducible refine gate_callee (f := 63) rfl ?_); refine goesL_ (some 5) rfl rfl Try.func63 (by kernel_rfl) rfl #[.agg #[.slice A0_0 l0_0.length c0_0, .slice A0_1 l0_1.length c0_1]] rfl (by (try simp only [List.map_toArray, List.map_cons, List.map_nil]); first | done | rfl | (simp only [List.length_drop, List.length_take]; rfl)) ?_; (with_reducible refine (ecdysisref15_many.calls k _ _ l0_0 _ _ l0_1 true _ ?side1 ?side2 ?side3 ?side4 A2.out).mono ?_); (case side1 => repeat (first | exact (Kd.C_below HR0_0.out HB.out) )); (case side2 => exact HC0_0.out); (case side3 => repeat (first | exact (Kd.C_below HR0_1.out HB.out) )); (case side4 => exact HC0_1.out); rintro e w6 ⟨rfl, hb⟩; refine ⟨_, rfl, ?_⟩; have n0_ := Aside0.mk (blk_below BK405.out hb); have n1_ := Aside0.mk (below_step HB.out hb); clear BK405; clear HB; have BK405 := n0_; have HB := n1_; clear n0_ n1_; (try clear hb); (try clear hb2); (try clear hk); (try clear hi)))
   go_ret
   exact ⟨by first | rfl , by exact HB.out⟩
 · replace c3 := Bool.eq_false_iff.mpr c3
   subst c3
   have H1 : ((ecdysisref15_none.f k l0_0 l0_1).bind fun t407 => (if t407 = true then (some 5) else ((ecdysisref15_text.f k l0_0 l0_1).bind fun t408 => (if t408 = true then (some 2) else ((ecdysisref15_fields.f k l0_0 l0_1).bind fun t409 => (if t409 = 0 then ((ecdysisref15_twice.f k l0_0 l0_1).bind fun t410 => (if t410 = true then (some 6) else ((ecdysisref15_order.f k l0_0 l0_1).bind fun t411 => (if t411 = true then (some 1) else ((ecdysisref15_barred.f k l0_0 l0_1).bind fun t412 => (if t412 = true then (some 6) else ((ecdysisref15_refs.f k l0_0 l0_1).bind fun t413 => (if t413 = true then (some 5) else (some 0))))))))) else (some t409))))))) = some r := by rw [if_neg (show ¬ (false = true) by decide)] at H; exact H
   clear H
   have H := H1
   clear H1
   replace H := Option.bind_eq_some_iff.mp H
   obtain ⟨t407, A70, H⟩ := H
   replace H : (if t407 = true then (some 5) else ((ecdysisref15_text.f k l0_0 l0_1).bind fun t408 => (if t408 = true then (some 2) else ((ecdysisref15_fields.f k l0_0 l0_1).bind fun t409 => (if t409 = 0 then ((ecdysisref15_twice.f k l0_0 l0_1).bind fun t410 => (if t410 = true then (some 6) else ((ecdysisref15_order.f k l0_0 l0_1).bind fun t411 => (if t411 = true then (some 1) else ((ecdysisref15_barred.f k l0_0 l0_1).bind fun t412 => (if t412 = true then (some 6) else ((ecdysisref15_refs.f k l0_0 l0_1).bind fun t413 => (if t413 = true then (some 5) else (some 0))))))))) else (some t409)))))) = some r := H
   have A7 := Aside0.mk A70
   clear A70
   by_cases c8 : t407 = true
   · subst c8
     have H1 : (some 5) = some r := by rw [if_pos rfl] at H; exact H
     clear H
     have H := H1
     clear H1
     obtain rfl := Option.some.inj H
     go_enter Try.func26, Try.ntmps26
     go_wp2_with (first | ((with_reducible refine gate_dst (N := 1) rfl ?_); refine box_event ?hg (N := 1) ?hd (cs := #[.slice A0_0 l0_0.length c0_0, .slice A0_1 l0_1.length c0_1]) (t := 35) ?hr ?_; (case hd => rfl); (case hg => rfl); (case hr => first | (go_simp; done) | (go_simp; rfl)); intro gb405 hg w9 hbox hb; have n0_ := Aside0.mk (below_step HB.out hb); have n1_ := Aside0.mk (hbox); clear HB; have HB := n0_; have BK405 := n1_; clear n0_ n1_; clear hb hbox hg; have hcz10_0 : w9.cell? ⟨gb405, 0, none⟩ = some (.slice A0_0 l0_0.length c0_0) := (blk_cell BK405.out 0).trans rfl; have hcz10_1 : w9.cell? ⟨gb405, 1, none⟩ = some (.slice A0_1 l0_1.length c0_1) := (blk_cell BK405.out 1).trans rfl; have hfz10_0 := blk_frozen BK405.out 0; have hfz10_1 := blk_frozen BK405.out 1) | ((with_reducible refine gate_callee (f := 63) rfl ?_); refine goesL_ (some 5) rfl rfl Try.func63 (by kernel_rfl) rfl #[.agg #[.slice A0_0 l0_0.length c0_0, .slice A0_1 l0_1.length c0_1]] rfl (by (try simp only [List.map_toArray, List.map_cons, List.map_nil]); first | done | rfl | (simp only [List.length_drop, List.length_take]; rfl)) ?_; (with_reducible refine (ecdysisref15_many.calls k _ _ l0_0 _ _ l0_1 false _ ?side1 ?side2 ?side3 ?side4 A2.out).mono ?_); (case side1 => repeat (first | exact (Kd.C_below HR0_0.out HB.out) )); (case side2 => exact HC0_0.out); (case side3 => repeat (first | exact (Kd.C_below HR0_1.out HB.out) )); (case side4 => exact HC0_1.out); rintro e w11 ⟨rfl, hb⟩; refine ⟨_, rfl, ?_⟩; have n0_ := Aside0.mk (blk_below BK405.out hb); have n1_ := Aside0.mk (below_step HB.out hb); clear BK405; clear HB; have BK405 := n0_; have HB := n1_; clear n0_ n1_; (try clear hb); (try clear hb2); (try clear hk); (try clear hi); have hcz12_0 : w11.cell? ⟨gb405, 0, none⟩ = some (.slice A0_0 l0_0.length c0_0) := (blk_cell BK405.out 0).trans rfl; have hcz12_1 : w11.cell? ⟨gb405, 1, none⟩ = some (.slice A0_1 l0_1.length c0_1) := (blk_cell BK405.out 1).trans rfl; have hfz12_0 := blk_frozen BK405.out 0; have hfz12_1 := blk_frozen BK405.out 1) | ((with_reducible refine gate_callee (f := 64) rfl ?_); refine goesL_ (some 7) rfl rfl Try.func64 (by kernel_rfl) rfl #[.agg #[.slice A0_0 l0_0.length c0_0, .slice A0_1 l0_1.length c0_1]] rfl (by (try simp only [List.map_toArray, List.map_cons, List.map_nil]); first | done | rfl | (simp only [List.length_drop, List.length_take]; rfl)) ?_; (with_reducible refine (ecdysisref15_none.calls k _ _ l0_0 _ _ l0_1 true _ ?side1 ?side2 ?side3 ?side4 A7.out).mono ?_); (case side1 => repeat (first | exact (Kd.C_below HR0_0.out HB.out) )); (case side2 => exact HC0_0.out); (case side3 => repeat (first | exact (Kd.C_below HR0_1.out HB.out) )); (case side4 => exact HC0_1.out); rintro e w13 ⟨rfl, hb⟩; refine ⟨_, rfl, ?_⟩; have n0_ := Aside0.mk (blk_below BK405.out hb); have n1_ := Aside0.mk (below_step HB.out hb); clear BK405; clear HB; have BK405 := n0_; have HB := n1_; clear n0_ n1_; (try clear hb); (try clear hb2); (try clear hk); (try clear hi)))
     go_ret
     exact ⟨by first | rfl , by exact HB.out⟩
   · replace c8 := Bool.eq_false_iff.mpr c8
     subst c8
     have H1 : ((ecdysisref15_text.f k l0_0 l0_1).bind fun t408 => (if t408 = true then (some 2) else ((ecdysisref15_fields.f k l0_0 l0_1).bind fun t409 => (if t409 = 0 then ((ecdysisref15_twice.f k l0_0 l0_1).bind fun t410 => (if t410 = true then (some 6) else ((ecdysisref15_order.f k l0_0 l0_1).bind fun t411 => (if t411 = true then (some 1) else ((ecdysisref15_barred.f k l0_0 l0_1).bind fun t412 => (if t412 = true then (some 6) else ((ecdysisref15_refs.f k l0_0 l0_1).bind fun t413 => (if t413 = true then (some 5) else (some 0))))))))) else (some t409))))) = some r := by rw [if_neg (show ¬ (false = true) by decide)] at H; exact H
     clear H
     have H := H1
     clear H1
     replace H := Option.bind_eq_some_iff.mp H
     obtain ⟨t408, A140, H⟩ := H
     replace H : (if t408 = true then (some 2) else ((ecdysisref15_fields.f k l0_0 l0_1).bind fun t409 => (if t409 = 0 then ((ecdysisref15_twice.f k l0_0 l0_1).bind fun t410 => (if t410 = true then (some 6) else ((ecdysisref15_order.f k l0_0 l0_1).bind fun t411 => (if t411 = true then (some 1) else ((ecdysisref15_barred.f k l0_0 l0_1).bind fun t412 => (if t412 = true then (some 6) else ((ecdysisref15_refs.f k l0_0 l0_1).bind fun t413 => (if t413 = true then (some 5) else (some 0))))))))) else (some t409)))) = some r := H
     have A14 := Aside0.mk A140
     clear A140
     by_cases c15 : t408 = true
     · subst c15
       have H1 : (some 2) = some r := by rw [if_pos rfl] at H; exact H
       clear H
       have H := H1
       clear H1
       obtain rfl := Option.some.inj H
       go_enter Try.func26, Try.ntmps26
       go_wp2_with (first | ((with_reducible refine gate_dst (N := 1) rfl ?_); refine box_event ?hg (N := 1) ?hd (cs := #[.slice A0_0 l0_0.length c0_0, .slice A0_1 l0_1.length c0_1]) (t := 35) ?hr ?_; (case hd => rfl); (case hg => rfl); (case hr => first | (go_simp; done) | (go_simp; rfl)); intro gb405 hg w16 hbox hb; have n0_ := Aside0.mk (below_step HB.out hb); have n1_ := Aside0.mk (hbox); clear HB; have HB := n0_; have BK405 := n1_; clear n0_ n1_; clear hb hbox hg; have hcz17_0 : w16.cell? ⟨gb405, 0, none⟩ = some (.slice A0_0 l0_0.length c0_0) := (blk_cell BK405.out 0).trans rfl; have hcz17_1 : w16.cell? ⟨gb405, 1, none⟩ = some (.slice A0_1 l0_1.length c0_1) := (blk_cell BK405.out 1).trans rfl; have hfz17_0 := blk_frozen BK405.out 0; have hfz17_1 := blk_frozen BK405.out 1) | ((with_reducible refine gate_callee (f := 63) rfl ?_); refine goesL_ (some 5) rfl rfl Try.func63 (by kernel_rfl) rfl #[.agg #[.slice A0_0 l0_0.length c0_0, .slice A0_1 l0_1.length c0_1]] rfl (by (try simp only [List.map_toArray, List.map_cons, List.map_nil]); first | done | rfl | (simp only [List.length_drop, List.length_take]; rfl)) ?_; (with_reducible refine (ecdysisref15_many.calls k _ _ l0_0 _ _ l0_1 false _ ?side1 ?side2 ?side3 ?side4 A2.out).mono ?_); (case side1 => repeat (first | exact (Kd.C_below HR0_0.out HB.out) )); (case side2 => exact HC0_0.out); (case side3 => repeat (first | exact (Kd.C_below HR0_1.out HB.out) )); (case side4 => exact HC0_1.out); rintro e w18 ⟨rfl, hb⟩; refine ⟨_, rfl, ?_⟩; have n0_ := Aside0.mk (blk_below BK405.out hb); have n1_ := Aside0.mk (below_step HB.out hb); clear BK405; clear HB; have BK405 := n0_; have HB := n1_; clear n0_ n1_; (try clear hb); (try clear hb2); (try clear hk); (try clear hi); have hcz19_0 : w18.cell? ⟨gb405, 0, none⟩ = some (.slice A0_0 l0_0.length c0_0) := (blk_cell BK405.out 0).trans rfl; have hcz19_1 : w18.cell? ⟨gb405, 1, none⟩ = some (.slice A0_1 l0_1.length c0_1) := (blk_cell BK405.out 1).trans rfl; have hfz19_0 := blk_frozen BK405.out 0; have hfz19_1 := blk_frozen BK405.out 1) | ((with_reducible refine gate_callee (f := 64) rfl ?_); refine goesL_ (some 7) rfl rfl Try.func64 (by kernel_rfl) rfl #[.agg #[.slice A0_0 l0_0.length c0_0, .slice A0_1 l0_1.length c0_1]] rfl (by (try simp only [List.map_toArray, List.map_cons, List.map_nil]); first | done | rfl | (simp only [List.length_drop, List.length_take]; rfl)) ?_; (with_reducible refine (ecdysisref15_none.calls k _ _ l0_0 _ _ l0_1 false _ ?side1 ?side2 ?side3 ?side4 A7.out).mono ?_); (case side1 => repeat (first | exact (Kd.C_below HR0_0.out HB.out) )); (case side2 => exact HC0_0.out); (case side3 => repeat (first | exact (Kd.C_below HR0_1.out HB.out) )); (case side4 => exact HC0_1.out); rintro e w20 ⟨rfl, hb⟩; refine ⟨_, rfl, ?_⟩; have n0_ := Aside0.mk (blk_below BK405.out hb); have n1_ := Aside0.mk (below_step HB.out hb); clear BK405; clear HB; have BK405 := n0_; have HB := n1_; clear n0_ n1_; (try clear hb); (try clear hb2); (try clear hk); (try clear hi); have hcz21_0 : w20.cell? ⟨gb405, 0, none⟩ = some (.slice A0_0 l0_0.length c0_0) := (blk_cell BK405.out 0).trans rfl; have hcz21_1 : w20.cell? ⟨gb405, 1, none⟩ = some (.slice A0_1 l0_1.length c0_1) := (blk_cell BK405.out 1).trans rfl; have hfz21_0 := blk_frozen BK405.out 0; have hfz21_1 := blk_frozen BK405.out 1) | ((with_reducible refine gate_callee (f := 65) rfl ?_); refine goesL_ (some 9) rfl rfl Try.func65 (by kernel_rfl) rfl #[.agg #[.slice A0_0 l0_0.length c0_0, .slice A0_1 l0_1.length c0_1]] rfl (by (try simp only [List.map_toArray, List.map_cons, List.map_nil]); first | done | rfl | (simp only [List.length_drop, List.length_take]; rfl)) ?_; (with_reducible refine (ecdysisref15_text.calls k _ _ l0_0 _ _ l0_1 true _ ?side1 ?side2 ?side3 ?side4 A14.out).mono ?_); (case side1 => repeat (first | exact (Kd.C_below HR0_0.out HB.out) )); (case side2 => exact HC0_0.out); (case side3 => repeat (first | exact (Kd.C_below HR0_1.out HB.out) )); (case side4 => exact HC0_1.out); rintro e w22 ⟨rfl, hb⟩; refine ⟨_, rfl, ?_⟩; have n0_ := Aside0.mk (blk_below BK405.out hb); have n1_ := Aside0.mk (below_step HB.out hb); clear BK405; clear HB; have BK405 := n0_; have HB := n1_; clear n0_ n1_; (try clear hb); (try clear hb2); (try clear hk); (try clear hi)))
       go_ret
       exact ⟨by first | rfl , by exact HB.out⟩
     · replace c15 := Bool.eq_false_iff.mpr c15
       subst c15
       have H1 : ((ecdysisref15_fields.f k l0_0 l0_1).bind fun t409 => (if t409 = 0 then ((ecdysisref15_twice.f k l0_0 l0_1).bind fun t410 => (if t410 = true then (some 6) else ((ecdysisref15_order.f k l0_0 l0_1).bind fun t411 => (if t411 = true then (some 1) else ((ecdysisref15_barred.f k l0_0 l0_1).bind fun t412 => (if t412 = true then (some 6) else ((ecdysisref15_refs.f k l0_0 l0_1).bind fun t413 => (if t413 = true then (some 5) else (some 0))))))))) else (some t409))) = some r := by rw [if_neg (show ¬ (false = true) by decide)] at H; exact H
       clear H
       have H := H1
       clear H1
       replace H := Option.bind_eq_some_iff.mp H
       obtain ⟨t409, A230, H⟩ := H
       replace H : (if t409 = 0 then ((ecdysisref15_twice.f k l0_0 l0_1).bind fun t410 => (if t410 = true then (some 6) else ((ecdysisref15_order.f k l0_0 l0_1).bind fun t411 => (if t411 = true then (some 1) else ((ecdysisref15_barred.f k l0_0 l0_1).bind fun t412 => (if t412 = true then (some 6) else ((ecdysisref15_refs.f k l0_0 l0_1).bind fun t413 => (if t413 = true then (some 5) else (some 0))))))))) else (some t409)) = some r := H
       have A23 := Aside0.mk A230
       clear A230
       by_cases c24 : t409 = 0
       · rw [if_pos c24] at H
         have c24b0 : (t409 == 0) = true := beq_iff_eq.mpr c24
         have c24b1 : (t409 != 0) = false := bne_eq_false_iff_eq.mpr c24
         clear c24
         replace H := Option.bind_eq_some_iff.mp H
         obtain ⟨t410, A250, H⟩ := H
         replace H : (if t410 = true then (some 6) else ((ecdysisref15_order.f k l0_0 l0_1).bind fun t411 => (if t411 = true then (some 1) else ((ecdysisref15_barred.f k l0_0 l0_1).bind fun t412 => (if t412 = true then (some 6) else ((ecdysisref15_refs.f k l0_0 l0_1).bind fun t413 => (if t413 = true then (some 5) else (some 0)))))))) = some r := H
         have A25 := Aside0.mk A250
         clear A250
         by_cases c26 : t410 = true
         · subst c26
           have H1 : (some 6) = some r := by rw [if_pos rfl] at H; exact H
           clear H
           have H := H1
           clear H1
           obtain rfl := Option.some.inj H
           go_enter Try.func26, Try.ntmps26
           go_wp2_with (first | ((with_reducible refine gate_dst (N := 1) rfl ?_); refine box_event ?hg (N := 1) ?hd (cs := #[.slice A0_0 l0_0.length c0_0, .slice A0_1 l0_1.length c0_1]) (t := 35) ?hr ?_; (case hd => rfl); (case hg => rfl); (case hr => first | (go_simp; done) | (go_simp; rfl)); intro gb405 hg w27 hbox hb; have n0_ := Aside0.mk (below_step HB.out hb); have n1_ := Aside0.mk (hbox); clear HB; have HB := n0_; have BK405 := n1_; clear n0_ n1_; clear hb hbox hg; have hcz28_0 : w27.cell? ⟨gb405, 0, none⟩ = some (.slice A0_0 l0_0.length c0_0) := (blk_cell BK405.out 0).trans rfl; have hcz28_1 : w27.cell? ⟨gb405, 1, none⟩ = some (.slice A0_1 l0_1.length c0_1) := (blk_cell BK405.out 1).trans rfl; have hfz28_0 := blk_frozen BK405.out 0; have hfz28_1 := blk_frozen BK405.out 1) | ((with_reducible refine gate_callee (f := 63) rfl ?_); refine goesL_ (some 5) rfl rfl Try.func63 (by kernel_rfl) rfl #[.agg #[.slice A0_0 l0_0.length c0_0, .slice A0_1 l0_1.length c0_1]] rfl (by (try simp only [List.map_toArray, List.map_cons, List.map_nil]); first | done | rfl | (simp only [List.length_drop, List.length_take]; rfl)) ?_; (with_reducible refine (ecdysisref15_many.calls k _ _ l0_0 _ _ l0_1 false _ ?side1 ?side2 ?side3 ?side4 A2.out).mono ?_); (case side1 => repeat (first | exact (Kd.C_below HR0_0.out HB.out) )); (case side2 => exact HC0_0.out); (case side3 => repeat (first | exact (Kd.C_below HR0_1.out HB.out) )); (case side4 => exact HC0_1.out); rintro e w29 ⟨rfl, hb⟩; refine ⟨_, rfl, ?_⟩; have n0_ := Aside0.mk (blk_below BK405.out hb); have n1_ := Aside0.mk (below_step HB.out hb); clear BK405; clear HB; have BK405 := n0_; have HB := n1_; clear n0_ n1_; (try clear hb); (try clear hb2); (try clear hk); (try clear hi); have hcz30_0 : w29.cell? ⟨gb405, 0, none⟩ = some (.slice A0_0 l0_0.length c0_0) := (blk_cell BK405.out 0).trans rfl; have hcz30_1 : w29.cell? ⟨gb405, 1, none⟩ = some (.slice A0_1 l0_1.length c0_1) := (blk_cell BK405.out 1).trans rfl; have hfz30_0 := blk_frozen BK405.out 0; have hfz30_1 := blk_frozen BK405.out 1) | ((with_reducible refine gate_callee (f := 64) rfl ?_); refine goesL_ (some 7) rfl rfl Try.func64 (by kernel_rfl) rfl #[.agg #[.slice A0_0 l0_0.length c0_0, .slice A0_1 l0_1.length c0_1]] rfl (by (try simp only [List.map_toArray, List.map_cons, List.map_nil]); first | done | rfl | (simp only [List.length_drop, List.length_take]; rfl)) ?_; (with_reducible refine (ecdysisref15_none.calls k _ _ l0_0 _ _ l0_1 false _ ?side1 ?side2 ?side3 ?side4 A7.out).mono ?_); (case side1 => repeat (first | exact (Kd.C_below HR0_0.out HB.out) )); (case side2 => exact HC0_0.out); (case side3 => repeat (first | exact (Kd.C_below HR0_1.out HB.out) )); (case side4 => exact HC0_1.out); rintro e w31 ⟨rfl, hb⟩; refine ⟨_, rfl, ?_⟩; have n0_ := Aside0.mk (blk_below BK405.out hb); have n1_ := Aside0.mk (below_step HB.out hb); clear BK405; clear HB; have BK405 := n0_; have HB := n1_; clear n0_ n1_; (try clear hb); (try clear hb2); (try clear hk); (try clear hi); have hcz32_0 : w31.cell? ⟨gb405, 0, none⟩ = some (.slice A0_0 l0_0.length c0_0) := (blk_cell BK405.out 0).trans rfl; have hcz32_1 : w31.cell? ⟨gb405, 1, none⟩ = some (.slice A0_1 l0_1.length c0_1) := (blk_cell BK405.out 1).trans rfl; have hfz32_0 := blk_frozen BK405.out 0; have hfz32_1 := blk_frozen BK405.out 1) | ((with_reducible refine gate_callee (f := 65) rfl ?_); refine goesL_ (some 9) rfl rfl Try.func65 (by kernel_rfl) rfl #[.agg #[.slice A0_0 l0_0.length c0_0, .slice A0_1 l0_1.length c0_1]] rfl (by (try simp only [List.map_toArray, List.map_cons, List.map_nil]); first | done | rfl | (simp only [List.length_drop, List.length_take]; rfl)) ?_; (with_reducible refine (ecdysisref15_text.calls k _ _ l0_0 _ _ l0_1 false _ ?side1 ?side2 ?side3 ?side4 A14.out).mono ?_); (case side1 => repeat (first | exact (Kd.C_below HR0_0.out HB.out) )); (case side2 => exact HC0_0.out); (case side3 => repeat (first | exact (Kd.C_below HR0_1.out HB.out) )); (case side4 => exact HC0_1.out); rintro e w33 ⟨rfl, hb⟩; refine ⟨_, rfl, ?_⟩; have n0_ := Aside0.mk (blk_below BK405.out hb); have n1_ := Aside0.mk (below_step HB.out hb); clear BK405; clear HB; have BK405 := n0_; have HB := n1_; clear n0_ n1_; (try clear hb); (try clear hb2); (try clear hk); (try clear hi); have hcz34_0 : w33.cell? ⟨gb405, 0, none⟩ = some (.slice A0_0 l0_0.length c0_0) := (blk_cell BK405.out 0).trans rfl; have hcz34_1 : w33.cell? ⟨gb405, 1, none⟩ = some (.slice A0_1 l0_1.length c0_1) := (blk_cell BK405.out 1).trans rfl; have hfz34_0 := blk_frozen BK405.out 0; have hfz34_1 := blk_frozen BK405.out 1) | ((with_reducible refine gate_callee (f := 66) rfl ?_); refine goesL_ (some 11) rfl rfl Try.func66 (by kernel_rfl) rfl #[.agg #[.slice A0_0 l0_0.length c0_0, .slice A0_1 l0_1.length c0_1]] rfl (by (try simp only [List.map_toArray, List.map_cons, List.map_nil]); first | done | rfl | (simp only [List.length_drop, List.length_take]; rfl)) ?_; (with_reducible refine (ecdysisref15_fields.calls k _ _ l0_0 _ _ l0_1 t409 _ ?side1 ?side2 ?side3 ?side4 A23.out).mono ?_); (case side1 => repeat (first | exact (Kd.C_below HR0_0.out HB.out) )); (case side2 => exact HC0_0.out); (case side3 => repeat (first | exact (Kd.C_below HR0_1.out HB.out) )); (case side4 => exact HC0_1.out); rintro e w35 ⟨rfl, hb⟩; refine ⟨_, rfl, ?_⟩; have n0_ := Aside0.mk (blk_below BK405.out hb); have n1_ := Aside0.mk (below_step HB.out hb); clear BK405; clear HB; have BK405 := n0_; have HB := n1_; clear n0_ n1_; (try clear hb); (try clear hb2); (try clear hk); (try clear hi); have hcz36_0 : w35.cell? ⟨gb405, 0, none⟩ = some (.slice A0_0 l0_0.length c0_0) := (blk_cell BK405.out 0).trans rfl; have hcz36_1 : w35.cell? ⟨gb405, 1, none⟩ = some (.slice A0_1 l0_1.length c0_1) := (blk_cell BK405.out 1).trans rfl; have hfz36_0 := blk_frozen BK405.out 0; have hfz36_1 := blk_frozen BK405.out 1) | ((with_reducible refine gate_callee (f := 67) rfl ?_); refine goesL_ (some 16) rfl rfl Try.func67 (by kernel_rfl) rfl #[.agg #[.slice A0_0 l0_0.length c0_0, .slice A0_1 l0_1.length c0_1]] rfl (by (try simp only [List.map_toArray, List.map_cons, List.map_nil]); first | done | rfl | (simp only [List.length_drop, List.length_take]; rfl)) ?_; (with_reducible refine (ecdysisref15_twice.calls k _ _ l0_0 _ _ l0_1 true _ ?side1 ?side2 ?side3 ?side4 A25.out).mono ?_); (case side1 => repeat (first | exact (Kd.C_below HR0_0.out HB.out) )); (case side2 => exact HC0_0.out); (case side3 => repeat (first | exact (Kd.C_below HR0_1.out HB.out) )); (case side4 => exact HC0_1.out); rintro e w37 ⟨rfl, hb⟩; refine ⟨_, rfl, ?_⟩; have n0_ := Aside0.mk (blk_below BK405.out hb); have n1_ := Aside0.mk (below_step HB.out hb); clear BK405; clear HB; have BK405 := n0_; have HB := n1_; clear n0_ n1_; (try clear hb); (try clear hb2); (try clear hk); (try clear hi)))
           go_ret
           exact ⟨by first | rfl , by exact HB.out⟩
         · replace c26 := Bool.eq_false_iff.mpr c26
           subst c26
           have H1 : ((ecdysisref15_order.f k l0_0 l0_1).bind fun t411 => (if t411 = true then (some 1) else ((ecdysisref15_barred.f k l0_0 l0_1).bind fun t412 => (if t412 = true then (some 6) else ((ecdysisref15_refs.f k l0_0 l0_1).bind fun t413 => (if t413 = true then (some 5) else (some 0))))))) = some r := by rw [if_neg (show ¬ (false = true) by decide)] at H; exact H
           clear H
           have H := H1
           clear H1
           replace H := Option.bind_eq_some_iff.mp H
           obtain ⟨t411, A380, H⟩ := H
           replace H : (if t411 = true then (some 1) else ((ecdysisref15_barred.f k l0_0 l0_1).bind fun t412 => (if t412 = true then (some 6) else ((ecdysisref15_refs.f k l0_0 l0_1).bind fun t413 => (if t413 = true then (some 5) else (some 0)))))) = some r := H
           have A38 := Aside0.mk A380
           clear A380
           by_cases c39 : t411 = true
           · subst c39
             have H1 : (some 1) = some r := by rw [if_pos rfl] at H; exact H
             clear H
             have H := H1
             clear H1
             obtain rfl := Option.some.inj H
             go_enter Try.func26, Try.ntmps26
             go_wp2_with (first | ((with_reducible refine gate_dst (N := 1) rfl ?_); refine box_event ?hg (N := 1) ?hd (cs := #[.slice A0_0 l0_0.length c0_0, .slice A0_1 l0_1.length c0_1]) (t := 35) ?hr ?_; (case hd => rfl); (case hg => rfl); (case hr => first | (go_simp; done) | (go_simp; rfl)); intro gb405 hg w40 hbox hb; have n0_ := Aside0.mk (below_step HB.out hb); have n1_ := Aside0.mk (hbox); clear HB; have HB := n0_; have BK405 := n1_; clear n0_ n1_; clear hb hbox hg; have hcz41_0 : w40.cell? ⟨gb405, 0, none⟩ = some (.slice A0_0 l0_0.length c0_0) := (blk_cell BK405.out 0).trans rfl; have hcz41_1 : w40.cell? ⟨gb405, 1, none⟩ = some (.slice A0_1 l0_1.length c0_1) := (blk_cell BK405.out 1).trans rfl; have hfz41_0 := blk_frozen BK405.out 0; have hfz41_1 := blk_frozen BK405.out 1) | ((with_reducible refine gate_callee (f := 63) rfl ?_); refine goesL_ (some 5) rfl rfl Try.func63 (by kernel_rfl) rfl #[.agg #[.slice A0_0 l0_0.length c0_0, .slice A0_1 l0_1.length c0_1]] rfl (by (try simp only [List.map_toArray, List.map_cons, List.map_nil]); first | done | rfl | (simp only [List.length_drop, List.length_take]; rfl)) ?_; (with_reducible refine (ecdysisref15_many.calls k _ _ l0_0 _ _ l0_1 false _ ?side1 ?side2 ?side3 ?side4 A2.out).mono ?_); (case side1 => repeat (first | exact (Kd.C_below HR0_0.out HB.out) )); (case side2 => exact HC0_0.out); (case side3 => repeat (first | exact (Kd.C_below HR0_1.out HB.out) )); (case side4 => exact HC0_1.out); rintro e w42 ⟨rfl, hb⟩; refine ⟨_, rfl, ?_⟩; have n0_ := Aside0.mk (blk_below BK405.out hb); have n1_ := Aside0.mk (below_step HB.out hb); clear BK405; clear HB; have BK405 := n0_; have HB := n1_; clear n0_ n1_; (try clear hb); (try clear hb2); (try clear hk); (try clear hi); have hcz43_0 : w42.cell? ⟨gb405, 0, none⟩ = some (.slice A0_0 l0_0.length c0_0) := (blk_cell BK405.out 0).trans rfl; have hcz43_1 : w42.cell? ⟨gb405, 1, none⟩ = some (.slice A0_1 l0_1.length c0_1) := (blk_cell BK405.out 1).trans rfl; have hfz43_0 := blk_frozen BK405.out 0; have hfz43_1 := blk_frozen BK405.out 1) | ((with_reducible refine gate_callee (f := 64) rfl ?_); refine goesL_ (some 7) rfl rfl Try.func64 (by kernel_rfl) rfl #[.agg #[.slice A0_0 l0_0.length c0_0, .slice A0_1 l0_1.length c0_1]] rfl (by (try simp only [List.map_toArray, List.map_cons, List.map_nil]); first | done | rfl | (simp only [List.length_drop, List.length_take]; rfl)) ?_; (with_reducible refine (ecdysisref15_none.calls k _ _ l0_0 _ _ l0_1 false _ ?side1 ?side2 ?side3 ?side4 A7.out).mono ?_); (case side1 => repeat (first | exact (Kd.C_below HR0_0.out HB.out) )); (case side2 => exact HC0_0.out); (case side3 => repeat (first | exact (Kd.C_below HR0_1.out HB.out) )); (case side4 => exact HC0_1.out); rintro e w44 ⟨rfl, hb⟩; refine ⟨_, rfl, ?_⟩; have n0_ := Aside0.mk (blk_below BK405.out hb); have n1_ := Aside0.mk (below_step HB.out hb); clear BK405; clear HB; have BK405 := n0_; have HB := n1_; clear n0_ n1_; (try clear hb); (try clear hb2); (try clear hk); (try clear hi); have hcz45_0 : w44.cell? ⟨gb405, 0, none⟩ = some (.slice A0_0 l0_0.length c0_0) := (blk_cell BK405.out 0).trans rfl; have hcz45_1 : w44.cell? ⟨gb405, 1, none⟩ = some (.slice A0_1 l0_1.length c0_1) := (blk_cell BK405.out 1).trans rfl; have hfz45_0 := blk_frozen BK405.out 0; have hfz45_1 := blk_frozen BK405.out 1) | ((with_reducible refine gate_callee (f := 65) rfl ?_); refine goesL_ (some 9) rfl rfl Try.func65 (by kernel_rfl) rfl #[.agg #[.slice A0_0 l0_0.length c0_0, .slice A0_1 l0_1.length c0_1]] rfl (by (try simp only [List.map_toArray, List.map_cons, List.map_nil]); first | done | rfl | (simp only [List.length_drop, List.length_take]; rfl)) ?_; (with_reducible refine (ecdysisref15_text.calls k _ _ l0_0 _ _ l0_1 false _ ?side1 ?side2 ?side3 ?side4 A14.out).mono ?_); (case side1 => repeat (first | exact (Kd.C_below HR0_0.out HB.out) )); (case side2 => exact HC0_0.out); (case side3 => repeat (first | exact (Kd.C_below HR0_1.out HB.out) )); (case side4 => exact HC0_1.out); rintro e w46 ⟨rfl, hb⟩; refine ⟨_, rfl, ?_⟩; have n0_ := Aside0.mk (blk_below BK405.out hb); have n1_ := Aside0.mk (below_step HB.out hb); clear BK405; clear HB; have BK405 := n0_; have HB := n1_; clear n0_ n1_; (try clear hb); (try clear hb2); (try clear hk); (try clear hi); have hcz47_0 : w46.cell? ⟨gb405, 0, none⟩ = some (.slice A0_0 l0_0.length c0_0) := (blk_cell BK405.out 0).trans rfl; have hcz47_1 : w46.cell? ⟨gb405, 1, none⟩ = some (.slice A0_1 l0_1.length c0_1) := (blk_cell BK405.out 1).trans rfl; have hfz47_0 := blk_frozen BK405.out 0; have hfz47_1 := blk_frozen BK405.out 1) | ((with_reducible refine gate_callee (f := 66) rfl ?_); refine goesL_ (some 11) rfl rfl Try.func66 (by kernel_rfl) rfl #[.agg #[.slice A0_0 l0_0.length c0_0, .slice A0_1 l0_1.length c0_1]] rfl (by (try simp only [List.map_toArray, List.map_cons, List.map_nil]); first | done | rfl | (simp only [List.length_drop, List.length_take]; rfl)) ?_; (with_reducible refine (ecdysisref15_fields.calls k _ _ l0_0 _ _ l0_1 t409 _ ?side1 ?side2 ?side3 ?side4 A23.out).mono ?_); (case side1 => repeat (first | exact (Kd.C_below HR0_0.out HB.out) )); (case side2 => exact HC0_0.out); (case side3 => repeat (first | exact (Kd.C_below HR0_1.out HB.out) )); (case side4 => exact HC0_1.out); rintro e w48 ⟨rfl, hb⟩; refine ⟨_, rfl, ?_⟩; have n0_ := Aside0.mk (blk_below BK405.out hb); have n1_ := Aside0.mk (below_step HB.out hb); clear BK405; clear HB; have BK405 := n0_; have HB := n1_; clear n0_ n1_; (try clear hb); (try clear hb2); (try clear hk); (try clear hi); have hcz49_0 : w48.cell? ⟨gb405, 0, none⟩ = some (.slice A0_0 l0_0.length c0_0) := (blk_cell BK405.out 0).trans rfl; have hcz49_1 : w48.cell? ⟨gb405, 1, none⟩ = some (.slice A0_1 l0_1.length c0_1) := (blk_cell BK405.out 1).trans rfl; have hfz49_0 := blk_frozen BK405.out 0; have hfz49_1 := blk_frozen BK405.out 1) | ((with_reducible refine gate_callee (f := 67) rfl ?_); refine goesL_ (some 16) rfl rfl Try.func67 (by kernel_rfl) rfl #[.agg #[.slice A0_0 l0_0.length c0_0, .slice A0_1 l0_1.length c0_1]] rfl (by (try simp only [List.map_toArray, List.map_cons, List.map_nil]); first | done | rfl | (simp only [List.length_drop, List.length_take]; rfl)) ?_; (with_reducible refine (ecdysisref15_twice.calls k _ _ l0_0 _ _ l0_1 false _ ?side1 ?side2 ?side3 ?side4 A25.out).mono ?_); (case side1 => repeat (first | exact (Kd.C_below HR0_0.out HB.out) )); (case side2 => exact HC0_0.out); (case side3 => repeat (first | exact (Kd.C_below HR0_1.out HB.out) )); (case side4 => exact HC0_1.out); rintro e w50 ⟨rfl, hb⟩; refine ⟨_, rfl, ?_⟩; have n0_ := Aside0.mk (blk_below BK405.out hb); have n1_ := Aside0.mk (below_step HB.out hb); clear BK405; clear HB; have BK405 := n0_; have HB := n1_; clear n0_ n1_; (try clear hb); (try clear hb2); (try clear hk); (try clear hi); have hcz51_0 : w50.cell? ⟨gb405, 0, none⟩ = some (.slice A0_0 l0_0.length c0_0) := (blk_cell BK405.out 0).trans rfl; have hcz51_1 : w50.cell? ⟨gb405, 1, none⟩ = some (.slice A0_1 l0_1.length c0_1) := (blk_cell BK405.out 1).trans rfl; have hfz51_0 := blk_frozen BK405.out 0; have hfz51_1 := blk_frozen BK405.out 1) | ((with_reducible refine gate_callee (f := 68) rfl ?_); refine goesL_ (some 18) rfl rfl Try.func68 (by kernel_rfl) rfl #[.agg #[.slice A0_0 l0_0.length c0_0, .slice A0_1 l0_1.length c0_1]] rfl (by (try simp only [List.map_toArray, List.map_cons, List.map_nil]); first | done | rfl | (simp only [List.length_drop, List.length_take]; rfl)) ?_; (with_reducible refine (ecdysisref15_order.calls k _ _ l0_0 _ _ l0_1 true _ ?side1 ?side2 ?side3 ?side4 A38.out).mono ?_); (case side1 => repeat (first | exact (Kd.C_below HR0_0.out HB.out) )); (case side2 => exact HC0_0.out); (case side3 => repeat (first | exact (Kd.C_below HR0_1.out HB.out) )); (case side4 => exact HC0_1.out); rintro e w52 ⟨rfl, hb⟩; refine ⟨_, rfl, ?_⟩; have n0_ := Aside0.mk (blk_below BK405.out hb); have n1_ := Aside0.mk (below_step HB.out hb); clear BK405; clear HB; have BK405 := n0_; have HB := n1_; clear n0_ n1_; (try clear hb); (try clear hb2); (try clear hk); (try clear hi)))
             go_ret
             exact ⟨by first | rfl , by exact HB.out⟩
           · replace c39 := Bool.eq_false_iff.mpr c39
             subst c39
             have H1 : ((ecdysisref15_barred.f k l0_0 l0_1).bind fun t412 => (if t412 = true then (some 6) else ((ecdysisref15_refs.f k l0_0 l0_1).bind fun t413 => (if t413 = true then (some 5) else (some 0))))) = some r := by rw [if_neg (show ¬ (false = true) by decide)] at H; exact H
             clear H
             have H := H1
             clear H1
             replace H := Option.bind_eq_some_iff.mp H
             obtain ⟨t412, A530, H⟩ := H
             replace H : (if t412 = true then (some 6) else ((ecdysisref15_refs.f k l0_0 l0_1).bind fun t413 => (if t413 = true then (some 5) else (some 0)))) = some r := H
             have A53 := Aside0.mk A530
             clear A530
             by_cases c54 : t412 = true
             · subst c54
               have H1 : (some 6) = some r := by rw [if_pos rfl] at H; exact H
               clear H
               have H := H1
               clear H1
               obtain rfl := Option.some.inj H
               go_enter Try.func26, Try.ntmps26
               go_wp2_with (first | ((with_reducible refine gate_dst (N := 1) rfl ?_); refine box_event ?hg (N := 1) ?hd (cs := #[.slice A0_0 l0_0.length c0_0, .slice A0_1 l0_1.length c0_1]) (t := 35) ?hr ?_; (case hd => rfl); (case hg => rfl); (case hr => first | (go_simp; done) | (go_simp; rfl)); intro gb405 hg w55 hbox hb; have n0_ := Aside0.mk (below_step HB.out hb); have n1_ := Aside0.mk (hbox); clear HB; have HB := n0_; have BK405 := n1_; clear n0_ n1_; clear hb hbox hg; have hcz56_0 : w55.cell? ⟨gb405, 0, none⟩ = some (.slice A0_0 l0_0.length c0_0) := (blk_cell BK405.out 0).trans rfl; have hcz56_1 : w55.cell? ⟨gb405, 1, none⟩ = some (.slice A0_1 l0_1.length c0_1) := (blk_cell BK405.out 1).trans rfl; have hfz56_0 := blk_frozen BK405.out 0; have hfz56_1 := blk_frozen BK405.out 1) | ((with_reducible refine gate_callee (f := 63) rfl ?_); refine goesL_ (some 5) rfl rfl Try.func63 (by kernel_rfl) rfl #[.agg #[.slice A0_0 l0_0.length c0_0, .slice A0_1 l0_1.length c0_1]] rfl (by (try simp only [List.map_toArray, List.map_cons, List.map_nil]); first | done | rfl | (simp only [List.length_drop, List.length_take]; rfl)) ?_; (with_reducible refine (ecdysisref15_many.calls k _ _ l0_0 _ _ l0_1 false _ ?side1 ?side2 ?side3 ?side4 A2.out).mono ?_); (case side1 => repeat (first | exact (Kd.C_below HR0_0.out HB.out) )); (case side2 => exact HC0_0.out); (case side3 => repeat (first | exact (Kd.C_below HR0_1.out HB.out) )); (case side4 => exact HC0_1.out); rintro e w57 ⟨rfl, hb⟩; refine ⟨_, rfl, ?_⟩; have n0_ := Aside0.mk (blk_below BK405.out hb); have n1_ := Aside0.mk (below_step HB.out hb); clear BK405; clear HB; have BK405 := n0_; have HB := n1_; clear n0_ n1_; (try clear hb); (try clear hb2); (try clear hk); (try clear hi); have hcz58_0 : w57.cell? ⟨gb405, 0, none⟩ = some (.slice A0_0 l0_0.length c0_0) := (blk_cell BK405.out 0).trans rfl; have hcz58_1 : w57.cell? ⟨gb405, 1, none⟩ = some (.slice A0_1 l0_1.length c0_1) := (blk_cell BK405.out 1).trans rfl; have hfz58_0 := blk_frozen BK405.out 0; have hfz58_1 := blk_frozen BK405.out 1) | ((with_reducible refine gate_callee (f := 64) rfl ?_); refine goesL_ (some 7) rfl rfl Try.func64 (by kernel_rfl) rfl #[.agg #[.slice A0_0 l0_0.length c0_0, .slice A0_1 l0_1.length c0_1]] rfl (by (try simp only [List.map_toArray, List.map_cons, List.map_nil]); first | done | rfl | (simp only [List.length_drop, List.length_take]; rfl)) ?_; (with_reducible refine (ecdysisref15_none.calls k _ _ l0_0 _ _ l0_1 false _ ?side1 ?side2 ?side3 ?side4 A7.out).mono ?_); (case side1 => repeat (first | exact (Kd.C_below HR0_0.out HB.out) )); (case side2 => exact HC0_0.out); (case side3 => repeat (first | exact (Kd.C_below HR0_1.out HB.out) )); (case side4 => exact HC0_1.out); rintro e w59 ⟨rfl, hb⟩; refine ⟨_, rfl, ?_⟩; have n0_ := Aside0.mk (blk_below BK405.out hb); have n1_ := Aside0.mk (below_step HB.out hb); clear BK405; clear HB; have BK405 := n0_; have HB := n1_; clear n0_ n1_; (try clear hb); (try clear hb2); (try clear hk); (try clear hi); have hcz60_0 : w59.cell? ⟨gb405, 0, none⟩ = some (.slice A0_0 l0_0.length c0_0) := (blk_cell BK405.out 0).trans rfl; have hcz60_1 : w59.cell? ⟨gb405, 1, none⟩ = some (.slice A0_1 l0_1.length c0_1) := (blk_cell BK405.out 1).trans rfl; have hfz60_0 := blk_frozen BK405.out 0; have hfz60_1 := blk_frozen BK405.out 1) | ((with_reducible refine gate_callee (f := 65) rfl ?_); refine goesL_ (some 9) rfl rfl Try.func65 (by kernel_rfl) rfl #[.agg #[.slice A0_0 l0_0.length c0_0, .slice A0_1 l0_1.length c0_1]] rfl (by (try simp only [List.map_toArray, List.map_cons, List.map_nil]); first | done | rfl | (simp only [List.length_drop, List.length_take]; rfl)) ?_; (with_reducible refine (ecdysisref15_text.calls k _ _ l0_0 _ _ l0_1 false _ ?side1 ?side2 ?side3 ?side4 A14.out).mono ?_); (case side1 => repeat (first | exact (Kd.C_below HR0_0.out HB.out) )); (case side2 => exact HC0_0.out); (case side3 => repeat (first | exact (Kd.C_below HR0_1.out HB.out) )); (case side4 => exact HC0_1.out); rintro e w61 ⟨rfl, hb⟩; refine ⟨_, rfl, ?_⟩; have n0_ := Aside0.mk (blk_below BK405.out hb); have n1_ := Aside0.mk (below_step HB.out hb); clear BK405; clear HB; have BK405 := n0_; have HB := n1_; clear n0_ n1_; (try clear hb); (try clear hb2); (try clear hk); (try clear hi); have hcz62_0 : w61.cell? ⟨gb405, 0, none⟩ = some (.slice A0_0 l0_0.length c0_0) := (blk_cell BK405.out 0).trans rfl; have hcz62_1 : w61.cell? ⟨gb405, 1, none⟩ = some (.slice A0_1 l0_1.length c0_1) := (blk_cell BK405.out 1).trans rfl; have hfz62_0 := blk_frozen BK405.out 0; have hfz62_1 := blk_frozen BK405.out 1) | ((with_reducible refine gate_callee (f := 66) rfl ?_); refine goesL_ (some 11) rfl rfl Try.func66 (by kernel_rfl) rfl #[.agg #[.slice A0_0 l0_0.length c0_0, .slice A0_1 l0_1.length c0_1]] rfl (by (try simp only [List.map_toArray, List.map_cons, List.map_nil]); first | done | rfl | (simp only [List.length_drop, List.length_take]; rfl)) ?_; (with_reducible refine (ecdysisref15_fields.calls k _ _ l0_0 _ _ l0_1 t409 _ ?side1 ?side2 ?side3 ?side4 A23.out).mono ?_); (case side1 => repeat (first | exact (Kd.C_below HR0_0.out HB.out) )); (case side2 => exact HC0_0.out); (case side3 => repeat (first | exact (Kd.C_below HR0_1.out HB.out) )); (case side4 => exact HC0_1.out); rintro e w63 ⟨rfl, hb⟩; refine ⟨_, rfl, ?_⟩; have n0_ := Aside0.mk (blk_below BK405.out hb); have n1_ := Aside0.mk (below_step HB.out hb); clear BK405; clear HB; have BK405 := n0_; have HB := n1_; clear n0_ n1_; (try clear hb); (try clear hb2); (try clear hk); (try clear hi); have hcz64_0 : w63.cell? ⟨gb405, 0, none⟩ = some (.slice A0_0 l0_0.length c0_0) := (blk_cell BK405.out 0).trans rfl; have hcz64_1 : w63.cell? ⟨gb405, 1, none⟩ = some (.slice A0_1 l0_1.length c0_1) := (blk_cell BK405.out 1).trans rfl; have hfz64_0 := blk_frozen BK405.out 0; have hfz64_1 := blk_frozen BK405.out 1) | ((with_reducible refine gate_callee (f := 67) rfl ?_); refine goesL_ (some 16) rfl rfl Try.func67 (by kernel_rfl) rfl #[.agg #[.slice A0_0 l0_0.length c0_0, .slice A0_1 l0_1.length c0_1]] rfl (by (try simp only [List.map_toArray, List.map_cons, List.map_nil]); first | done | rfl | (simp only [List.length_drop, List.length_take]; rfl)) ?_; (with_reducible refine (ecdysisref15_twice.calls k _ _ l0_0 _ _ l0_1 false _ ?side1 ?side2 ?side3 ?side4 A25.out).mono ?_); (case side1 => repeat (first | exact (Kd.C_below HR0_0.out HB.out) )); (case side2 => exact HC0_0.out); (case side3 => repeat (first | exact (Kd.C_below HR0_1.out HB.out) )); (case side4 => exact HC0_1.out); rintro e w65 ⟨rfl, hb⟩; refine ⟨_, rfl, ?_⟩; have n0_ := Aside0.mk (blk_below BK405.out hb); have n1_ := Aside0.mk (below_step HB.out hb); clear BK405; clear HB; have BK405 := n0_; have HB := n1_; clear n0_ n1_; (try clear hb); (try clear hb2); (try clear hk); (try clear hi); have hcz66_0 : w65.cell? ⟨gb405, 0, none⟩ = some (.slice A0_0 l0_0.length c0_0) := (blk_cell BK405.out 0).trans rfl; have hcz66_1 : w65.cell? ⟨gb405, 1, none⟩ = some (.slice A0_1 l0_1.length c0_1) := (blk_cell BK405.out 1).trans rfl; have hfz66_0 := blk_frozen BK405.out 0; have hfz66_1 := blk_frozen BK405.out 1) | ((with_reducible refine gate_callee (f := 68) rfl ?_); refine goesL_ (some 18) rfl rfl Try.func68 (by kernel_rfl) rfl #[.agg #[.slice A0_0 l0_0.length c0_0, .slice A0_1 l0_1.length c0_1]] rfl (by (try simp only [List.map_toArray, List.map_cons, List.map_nil]); first | done | rfl | (simp only [List.length_drop, List.length_take]; rfl)) ?_; (with_reducible refine (ecdysisref15_order.calls k _ _ l0_0 _ _ l0_1 false _ ?side1 ?side2 ?side3 ?side4 A38.out).mono ?_); (case side1 => repeat (first | exact (Kd.C_below HR0_0.out HB.out) )); (case side2 => exact HC0_0.out); (case side3 => repeat (first | exact (Kd.C_below HR0_1.out HB.out) )); (case side4 => exact HC0_1.out); rintro e w67 ⟨rfl, hb⟩; refine ⟨_, rfl, ?_⟩; have n0_ := Aside0.mk (blk_below BK405.out hb); have n1_ := Aside0.mk (below_step HB.out hb); clear BK405; clear HB; have BK405 := n0_; have HB := n1_; clear n0_ n1_; (try clear hb); (try clear hb2); (try clear hk); (try clear hi); have hcz68_0 : w67.cell? ⟨gb405, 0, none⟩ = some (.slice A0_0 l0_0.length c0_0) := (blk_cell BK405.out 0).trans rfl; have hcz68_1 : w67.cell? ⟨gb405, 1, none⟩ = some (.slice A0_1 l0_1.length c0_1) := (blk_cell BK405.out 1).trans rfl; have hfz68_0 := blk_frozen BK405.out 0; have hfz68_1 := blk_frozen BK405.out 1) | ((with_reducible refine gate_callee (f := 69) rfl ?_); refine goesL_ (some 20) rfl rfl Try.func69 (by kernel_rfl) rfl #[.agg #[.slice A0_0 l0_0.length c0_0, .slice A0_1 l0_1.length c0_1]] rfl (by (try simp only [List.map_toArray, List.map_cons, List.map_nil]); first | done | rfl | (simp only [List.length_drop, List.length_take]; rfl)) ?_; (with_reducible refine (ecdysisref15_barred.calls k _ _ l0_0 _ _ l0_1 true _ ?side1 ?side2 ?side3 ?side4 A53.out).mono ?_); (case side1 => repeat (first | exact (Kd.C_below HR0_0.out HB.out) )); (case side2 => exact HC0_0.out); (case side3 => repeat (first | exact (Kd.C_below HR0_1.out HB.out) )); (case side4 => exact HC0_1.out); rintro e w69 ⟨rfl, hb⟩; refine ⟨_, rfl, ?_⟩; have n0_ := Aside0.mk (blk_below BK405.out hb); have n1_ := Aside0.mk (below_step HB.out hb); clear BK405; clear HB; have BK405 := n0_; have HB := n1_; clear n0_ n1_; (try clear hb); (try clear hb2); (try clear hk); (try clear hi)))
               go_ret
               exact ⟨by first | rfl , by exact HB.out⟩
             · replace c54 := Bool.eq_false_iff.mpr c54
               subst c54
               have H1 : ((ecdysisref15_refs.f k l0_0 l0_1).bind fun t413 => (if t413 = true then (some 5) else (some 0))) = some r := by rw [if_neg (show ¬ (false = true) by decide)] at H; exact H
               clear H
               have H := H1
               clear H1
               replace H := Option.bind_eq_some_iff.mp H
               obtain ⟨t413, A700, H⟩ := H
               replace H : (if t413 = true then (some 5) else (some 0)) = some r := H
               have A70 := Aside0.mk A700
               clear A700
               by_cases c71 : t413 = true
               · subst c71
                 have H1 : (some 5) = some r := by rw [if_pos rfl] at H; exact H
                 clear H
                 have H := H1
                 clear H1
                 obtain rfl := Option.some.inj H
                 go_enter Try.func26, Try.ntmps26
                 go_wp2_with (first | ((with_reducible refine gate_dst (N := 1) rfl ?_); refine box_event ?hg (N := 1) ?hd (cs := #[.slice A0_0 l0_0.length c0_0, .slice A0_1 l0_1.length c0_1]) (t := 35) ?hr ?_; (case hd => rfl); (case hg => rfl); (case hr => first | (go_simp; done) | (go_simp; rfl)); intro gb405 hg w72 hbox hb; have n0_ := Aside0.mk (below_step HB.out hb); have n1_ := Aside0.mk (hbox); clear HB; have HB := n0_; have BK405 := n1_; clear n0_ n1_; clear hb hbox hg; have hcz73_0 : w72.cell? ⟨gb405, 0, none⟩ = some (.slice A0_0 l0_0.length c0_0) := (blk_cell BK405.out 0).trans rfl; have hcz73_1 : w72.cell? ⟨gb405, 1, none⟩ = some (.slice A0_1 l0_1.length c0_1) := (blk_cell BK405.out 1).trans rfl; have hfz73_0 := blk_frozen BK405.out 0; have hfz73_1 := blk_frozen BK405.out 1) | ((with_reducible refine gate_callee (f := 63) rfl ?_); refine goesL_ (some 5) rfl rfl Try.func63 (by kernel_rfl) rfl #[.agg #[.slice A0_0 l0_0.length c0_0, .slice A0_1 l0_1.length c0_1]] rfl (by (try simp only [List.map_toArray, List.map_cons, List.map_nil]); first | done | rfl | (simp only [List.length_drop, List.length_take]; rfl)) ?_; (with_reducible refine (ecdysisref15_many.calls k _ _ l0_0 _ _ l0_1 false _ ?side1 ?side2 ?side3 ?side4 A2.out).mono ?_); (case side1 => repeat (first | exact (Kd.C_below HR0_0.out HB.out) )); (case side2 => exact HC0_0.out); (case side3 => repeat (first | exact (Kd.C_below HR0_1.out HB.out) )); (case side4 => exact HC0_1.out); rintro e w74 ⟨rfl, hb⟩; refine ⟨_, rfl, ?_⟩; have n0_ := Aside0.mk (blk_below BK405.out hb); have n1_ := Aside0.mk (below_step HB.out hb); clear BK405; clear HB; have BK405 := n0_; have HB := n1_; clear n0_ n1_; (try clear hb); (try clear hb2); (try clear hk); (try clear hi); have hcz75_0 : w74.cell? ⟨gb405, 0, none⟩ = some (.slice A0_0 l0_0.length c0_0) := (blk_cell BK405.out 0).trans rfl; have hcz75_1 : w74.cell? ⟨gb405, 1, none⟩ = some (.slice A0_1 l0_1.length c0_1) := (blk_cell BK405.out 1).trans rfl; have hfz75_0 := blk_frozen BK405.out 0; have hfz75_1 := blk_frozen BK405.out 1) | ((with_reducible refine gate_callee (f := 64) rfl ?_); refine goesL_ (some 7) rfl rfl Try.func64 (by kernel_rfl) rfl #[.agg #[.slice A0_0 l0_0.length c0_0, .slice A0_1 l0_1.length c0_1]] rfl (by (try simp only [List.map_toArray, List.map_cons, List.map_nil]); first | done | rfl | (simp only [List.length_drop, List.length_take]; rfl)) ?_; (with_reducible refine (ecdysisref15_none.calls k _ _ l0_0 _ _ l0_1 false _ ?side1 ?side2 ?side3 ?side4 A7.out).mono ?_); (case side1 => repeat (first | exact (Kd.C_below HR0_0.out HB.out) )); (case side2 => exact HC0_0.out); (case side3 => repeat (first | exact (Kd.C_below HR0_1.out HB.out) )); (case side4 => exact HC0_1.out); rintro e w76 ⟨rfl, hb⟩; refine ⟨_, rfl, ?_⟩; have n0_ := Aside0.mk (blk_below BK405.out hb); have n1_ := Aside0.mk (below_step HB.out hb); clear BK405; clear HB; have BK405 := n0_; have HB := n1_; clear n0_ n1_; (try clear hb); (try clear hb2); (try clear hk); (try clear hi); have hcz77_0 : w76.cell? ⟨gb405, 0, none⟩ = some (.slice A0_0 l0_0.length c0_0) := (blk_cell BK405.out 0).trans rfl; have hcz77_1 : w76.cell? ⟨gb405, 1, none⟩ = some (.slice A0_1 l0_1.length c0_1) := (blk_cell BK405.out 1).trans rfl; have hfz77_0 := blk_frozen BK405.out 0; have hfz77_1 := blk_frozen BK405.out 1) | ((with_reducible refine gate_callee (f := 65) rfl ?_); refine goesL_ (some 9) rfl rfl Try.func65 (by kernel_rfl) rfl #[.agg #[.slice A0_0 l0_0.length c0_0, .slice A0_1 l0_1.length c0_1]] rfl (by (try simp only [List.map_toArray, List.map_cons, List.map_nil]); first | done | rfl | (simp only [List.length_drop, List.length_take]; rfl)) ?_; (with_reducible refine (ecdysisref15_text.calls k _ _ l0_0 _ _ l0_1 false _ ?side1 ?side2 ?side3 ?side4 A14.out).mono ?_); (case side1 => repeat (first | exact (Kd.C_below HR0_0.out HB.out) )); (case side2 => exact HC0_0.out); (case side3 => repeat (first | exact (Kd.C_below HR0_1.out HB.out) )); (case side4 => exact HC0_1.out); rintro e w78 ⟨rfl, hb⟩; refine ⟨_, rfl, ?_⟩; have n0_ := Aside0.mk (blk_below BK405.out hb); have n1_ := Aside0.mk (below_step HB.out hb); clear BK405; clear HB; have BK405 := n0_; have HB := n1_; clear n0_ n1_; (try clear hb); (try clear hb2); (try clear hk); (try clear hi); have hcz79_0 : w78.cell? ⟨gb405, 0, none⟩ = some (.slice A0_0 l0_0.length c0_0) := (blk_cell BK405.out 0).trans rfl; have hcz79_1 : w78.cell? ⟨gb405, 1, none⟩ = some (.slice A0_1 l0_1.length c0_1) := (blk_cell BK405.out 1).trans rfl; have hfz79_0 := blk_frozen BK405.out 0; have hfz79_1 := blk_frozen BK405.out 1) | ((with_reducible refine gate_callee (f := 66) rfl ?_); refine goesL_ (some 11) rfl rfl Try.func66 (by kernel_rfl) rfl #[.agg #[.slice A0_0 l0_0.length c0_0, .slice A0_1 l0_1.length c0_1]] rfl (by (try simp only [List.map_toArray, List.map_cons, List.map_nil]); first | done | rfl | (simp only [List.length_drop, List.length_take]; rfl)) ?_; (with_reducible refine (ecdysisref15_fields.calls k _ _ l0_0 _ _ l0_1 t409 _ ?side1 ?side2 ?side3 ?side4 A23.out).mono ?_); (case side1 => repeat (first | exact (Kd.C_below HR0_0.out HB.out) )); (case side2 => exact HC0_0.out); (case side3 => repeat (first | exact (Kd.C_below HR0_1.out HB.out) )); (case side4 => exact HC0_1.out); rintro e w80 ⟨rfl, hb⟩; refine ⟨_, rfl, ?_⟩; have n0_ := Aside0.mk (blk_below BK405.out hb); have n1_ := Aside0.mk (below_step HB.out hb); clear BK405; clear HB; have BK405 := n0_; have HB := n1_; clear n0_ n1_; (try clear hb); (try clear hb2); (try clear hk); (try clear hi); have hcz81_0 : w80.cell? ⟨gb405, 0, none⟩ = some (.slice A0_0 l0_0.length c0_0) := (blk_cell BK405.out 0).trans rfl; have hcz81_1 : w80.cell? ⟨gb405, 1, none⟩ = some (.slice A0_1 l0_1.length c0_1) := (blk_cell BK405.out 1).trans rfl; have hfz81_0 := blk_frozen BK405.out 0; have hfz81_1 := blk_frozen BK405.out 1) | ((with_reducible refine gate_callee (f := 67) rfl ?_); refine goesL_ (some 16) rfl rfl Try.func67 (by kernel_rfl) rfl #[.agg #[.slice A0_0 l0_0.length c0_0, .slice A0_1 l0_1.length c0_1]] rfl (by (try simp only [List.map_toArray, List.map_cons, List.map_nil]); first | done | rfl | (simp only [List.length_drop, List.length_take]; rfl)) ?_; (with_reducible refine (ecdysisref15_twice.calls k _ _ l0_0 _ _ l0_1 false _ ?side1 ?side2 ?side3 ?side4 A25.out).mono ?_); (case side1 => repeat (first | exact (Kd.C_below HR0_0.out HB.out) )); (case side2 => exact HC0_0.out); (case side3 => repeat (first | exact (Kd.C_below HR0_1.out HB.out) )); (case side4 => exact HC0_1.out); rintro e w82 ⟨rfl, hb⟩; refine ⟨_, rfl, ?_⟩; have n0_ := Aside0.mk (blk_below BK405.out hb); have n1_ := Aside0.mk (below_step HB.out hb); clear BK405; clear HB; have BK405 := n0_; have HB := n1_; clear n0_ n1_; (try clear hb); (try clear hb2); (try clear hk); (try clear hi); have hcz83_0 : w82.cell? ⟨gb405, 0, none⟩ = some (.slice A0_0 l0_0.length c0_0) := (blk_cell BK405.out 0).trans rfl; have hcz83_1 : w82.cell? ⟨gb405, 1, none⟩ = some (.slice A0_1 l0_1.length c0_1) := (blk_cell BK405.out 1).trans rfl; have hfz83_0 := blk_frozen BK405.out 0; have hfz83_1 := blk_frozen BK405.out 1) | ((with_reducible refine gate_callee (f := 68) rfl ?_); refine goesL_ (some 18) rfl rfl Try.func68 (by kernel_rfl) rfl #[.agg #[.slice A0_0 l0_0.length c0_0, .slice A0_1 l0_1.length c0_1]] rfl (by (try simp only [List.map_toArray, List.map_cons, List.map_nil]); first | done | rfl | (simp only [List.length_drop, List.length_take]; rfl)) ?_; (with_reducible refine (ecdysisref15_order.calls k _ _ l0_0 _ _ l0_1 false _ ?side1 ?side2 ?side3 ?side4 A38.out).mono ?_); (case side1 => repeat (first | exact (Kd.C_below HR0_0.out HB.out) )); (case side2 => exact HC0_0.out); (case side3 => repeat (first | exact (Kd.C_below HR0_1.out HB.out) )); (case side4 => exact HC0_1.out); rintro e w84 ⟨rfl, hb⟩; refine ⟨_, rfl, ?_⟩; have n0_ := Aside0.mk (blk_below BK405.out hb); have n1_ := Aside0.mk (below_step HB.out hb); clear BK405; clear HB; have BK405 := n0_; have HB := n1_; clear n0_ n1_; (try clear hb); (try clear hb2); (try clear hk); (try clear hi); have hcz85_0 : w84.cell? ⟨gb405, 0, none⟩ = some (.slice A0_0 l0_0.length c0_0) := (blk_cell BK405.out 0).trans rfl; have hcz85_1 : w84.cell? ⟨gb405, 1, none⟩ = some (.slice A0_1 l0_1.length c0_1) := (blk_cell BK405.out 1).trans rfl; have hfz85_0 := blk_frozen BK405.out 0; have hfz85_1 := blk_frozen BK405.out 1) | ((with_reducible refine gate_callee (f := 69) rfl ?_); refine goesL_ (some 20) rfl rfl Try.func69 (by kernel_rfl) rfl #[.agg #[.slice A0_0 l0_0.length c0_0, .slice A0_1 l0_1.length c0_1]] rfl (by (try simp only [List.map_toArray, List.map_cons, List.map_nil]); first | done | rfl | (simp only [List.length_drop, List.length_take]; rfl)) ?_; (with_reducible refine (ecdysisref15_barred.calls k _ _ l0_0 _ _ l0_1 false _ ?side1 ?side2 ?side3 ?side4 A53.out).mono ?_); (case side1 => repeat (first | exact (Kd.C_below HR0_0.out HB.out) )); (case side2 => exact HC0_0.out); (case side3 => repeat (first | exact (Kd.C_below HR0_1.out HB.out) )); (case side4 => exact HC0_1.out); rintro e w86 ⟨rfl, hb⟩; refine ⟨_, rfl, ?_⟩; have n0_ := Aside0.mk (blk_below BK405.out hb); have n1_ := Aside0.mk (below_step HB.out hb); clear BK405; clear HB; have BK405 := n0_; have HB := n1_; clear n0_ n1_; (try clear hb); (try clear hb2); (try clear hk); (try clear hi); have hcz87_0 : w86.cell? ⟨gb405, 0, none⟩ = some (.slice A0_0 l0_0.length c0_0) := (blk_cell BK405.out 0).trans rfl; have hcz87_1 : w86.cell? ⟨gb405, 1, none⟩ = some (.slice A0_1 l0_1.length c0_1) := (blk_cell BK405.out 1).trans rfl; have hfz87_0 := blk_frozen BK405.out 0; have hfz87_1 := blk_frozen BK405.out 1) | ((with_reducible refine gate_callee (f := 70) rfl ?_); refine goesL_ (some 22) rfl rfl Try.func70 (by kernel_rfl) rfl #[.agg #[.slice A0_0 l0_0.length c0_0, .slice A0_1 l0_1.length c0_1]] rfl (by (try simp only [List.map_toArray, List.map_cons, List.map_nil]); first | done | rfl | (simp only [List.length_drop, List.length_take]; rfl)) ?_; (with_reducible refine (ecdysisref15_refs.calls k _ _ l0_0 _ _ l0_1 true _ ?side1 ?side2 ?side3 ?side4 A70.out).mono ?_); (case side1 => repeat (first | exact (Kd.C_below HR0_0.out HB.out) )); (case side2 => exact HC0_0.out); (case side3 => repeat (first | exact (Kd.C_below HR0_1.out HB.out) )); (case side4 => exact HC0_1.out); rintro e w88 ⟨rfl, hb⟩; refine ⟨_, rfl, ?_⟩; have n0_ := Aside0.mk (blk_below BK405.out hb); have n1_ := Aside0.mk (below_step HB.out hb); clear BK405; clear HB; have BK405 := n0_; have HB := n1_; clear n0_ n1_; (try clear hb); (try clear hb2); (try clear hk); (try clear hi)))
                 go_ret
                 exact ⟨by first | rfl , by exact HB.out⟩
               · replace c71 := Bool.eq_false_iff.mpr c71
                 subst c71
                 have H1 : (some 0) = some r := by rw [if_neg (show ¬ (false = true) by decide)] at H; exact H
                 clear H
                 have H := H1
                 clear H1
                 obtain rfl := Option.some.inj H
                 go_enter Try.func26, Try.ntmps26
                 go_wp2_with (first | ((with_reducible refine gate_dst (N := 1) rfl ?_); refine box_event ?hg (N := 1) ?hd (cs := #[.slice A0_0 l0_0.length c0_0, .slice A0_1 l0_1.length c0_1]) (t := 35) ?hr ?_; (case hd => rfl); (case hg => rfl); (case hr => first | (go_simp; done) | (go_simp; rfl)); intro gb405 hg w89 hbox hb; have n0_ := Aside0.mk (below_step HB.out hb); have n1_ := Aside0.mk (hbox); clear HB; have HB := n0_; have BK405 := n1_; clear n0_ n1_; clear hb hbox hg; have hcz90_0 : w89.cell? ⟨gb405, 0, none⟩ = some (.slice A0_0 l0_0.length c0_0) := (blk_cell BK405.out 0).trans rfl; have hcz90_1 : w89.cell? ⟨gb405, 1, none⟩ = some (.slice A0_1 l0_1.length c0_1) := (blk_cell BK405.out 1).trans rfl; have hfz90_0 := blk_frozen BK405.out 0; have hfz90_1 := blk_frozen BK405.out 1) | ((with_reducible refine gate_callee (f := 63) rfl ?_); refine goesL_ (some 5) rfl rfl Try.func63 (by kernel_rfl) rfl #[.agg #[.slice A0_0 l0_0.length c0_0, .slice A0_1 l0_1.length c0_1]] rfl (by (try simp only [List.map_toArray, List.map_cons, List.map_nil]); first | done | rfl | (simp only [List.length_drop, List.length_take]; rfl)) ?_; (with_reducible refine (ecdysisref15_many.calls k _ _ l0_0 _ _ l0_1 false _ ?side1 ?side2 ?side3 ?side4 A2.out).mono ?_); (case side1 => repeat (first | exact (Kd.C_below HR0_0.out HB.out) )); (case side2 => exact HC0_0.out); (case side3 => repeat (first | exact (Kd.C_below HR0_1.out HB.out) )); (case side4 => exact HC0_1.out); rintro e w91 ⟨rfl, hb⟩; refine ⟨_, rfl, ?_⟩; have n0_ := Aside0.mk (blk_below BK405.out hb); have n1_ := Aside0.mk (below_step HB.out hb); clear BK405; clear HB; have BK405 := n0_; have HB := n1_; clear n0_ n1_; (try clear hb); (try clear hb2); (try clear hk); (try clear hi); have hcz92_0 : w91.cell? ⟨gb405, 0, none⟩ = some (.slice A0_0 l0_0.length c0_0) := (blk_cell BK405.out 0).trans rfl; have hcz92_1 : w91.cell? ⟨gb405, 1, none⟩ = some (.slice A0_1 l0_1.length c0_1) := (blk_cell BK405.out 1).trans rfl; have hfz92_0 := blk_frozen BK405.out 0; have hfz92_1 := blk_frozen BK405.out 1) | ((with_reducible refine gate_callee (f := 64) rfl ?_); refine goesL_ (some 7) rfl rfl Try.func64 (by kernel_rfl) rfl #[.agg #[.slice A0_0 l0_0.length c0_0, .slice A0_1 l0_1.length c0_1]] rfl (by (try simp only [List.map_toArray, List.map_cons, List.map_nil]); first | done | rfl | (simp only [List.length_drop, List.length_take]; rfl)) ?_; (with_reducible refine (ecdysisref15_none.calls k _ _ l0_0 _ _ l0_1 false _ ?side1 ?side2 ?side3 ?side4 A7.out).mono ?_); (case side1 => repeat (first | exact (Kd.C_below HR0_0.out HB.out) )); (case side2 => exact HC0_0.out); (case side3 => repeat (first | exact (Kd.C_below HR0_1.out HB.out) )); (case side4 => exact HC0_1.out); rintro e w93 ⟨rfl, hb⟩; refine ⟨_, rfl, ?_⟩; have n0_ := Aside0.mk (blk_below BK405.out hb); have n1_ := Aside0.mk (below_step HB.out hb); clear BK405; clear HB; have BK405 := n0_; have HB := n1_; clear n0_ n1_; (try clear hb); (try clear hb2); (try clear hk); (try clear hi); have hcz94_0 : w93.cell? ⟨gb405, 0, none⟩ = some (.slice A0_0 l0_0.length c0_0) := (blk_cell BK405.out 0).trans rfl; have hcz94_1 : w93.cell? ⟨gb405, 1, none⟩ = some (.slice A0_1 l0_1.length c0_1) := (blk_cell BK405.out 1).trans rfl; have hfz94_0 := blk_frozen BK405.out 0; have hfz94_1 := blk_frozen BK405.out 1) | ((with_reducible refine gate_callee (f := 65) rfl ?_); refine goesL_ (some 9) rfl rfl Try.func65 (by kernel_rfl) rfl #[.agg #[.slice A0_0 l0_0.length c0_0, .slice A0_1 l0_1.length c0_1]] rfl (by (try simp only [List.map_toArray, List.map_cons, List.map_nil]); first | done | rfl | (simp only [List.length_drop, List.length_take]; rfl)) ?_; (with_reducible refine (ecdysisref15_text.calls k _ _ l0_0 _ _ l0_1 false _ ?side1 ?side2 ?side3 ?side4 A14.out).mono ?_); (case side1 => repeat (first | exact (Kd.C_below HR0_0.out HB.out) )); (case side2 => exact HC0_0.out); (case side3 => repeat (first | exact (Kd.C_below HR0_1.out HB.out) )); (case side4 => exact HC0_1.out); rintro e w95 ⟨rfl, hb⟩; refine ⟨_, rfl, ?_⟩; have n0_ := Aside0.mk (blk_below BK405.out hb); have n1_ := Aside0.mk (below_step HB.out hb); clear BK405; clear HB; have BK405 := n0_; have HB := n1_; clear n0_ n1_; (try clear hb); (try clear hb2); (try clear hk); (try clear hi); have hcz96_0 : w95.cell? ⟨gb405, 0, none⟩ = some (.slice A0_0 l0_0.length c0_0) := (blk_cell BK405.out 0).trans rfl; have hcz96_1 : w95.cell? ⟨gb405, 1, none⟩ = some (.slice A0_1 l0_1.length c0_1) := (blk_cell BK405.out 1).trans rfl; have hfz96_0 := blk_frozen BK405.out 0; have hfz96_1 := blk_frozen BK405.out 1) | ((with_reducible refine gate_callee (f := 66) rfl ?_); refine goesL_ (some 11) rfl rfl Try.func66 (by kernel_rfl) rfl #[.agg #[.slice A0_0 l0_0.length c0_0, .slice A0_1 l0_1.length c0_1]] rfl (by (try simp only [List.map_toArray, List.map_cons, List.map_nil]); first | done | rfl | (simp only [List.length_drop, List.length_take]; rfl)) ?_; (with_reducible refine (ecdysisref15_fields.calls k _ _ l0_0 _ _ l0_1 t409 _ ?side1 ?side2 ?side3 ?side4 A23.out).mono ?_); (case side1 => repeat (first | exact (Kd.C_below HR0_0.out HB.out) )); (case side2 => exact HC0_0.out); (case side3 => repeat (first | exact (Kd.C_below HR0_1.out HB.out) )); (case side4 => exact HC0_1.out); rintro e w97 ⟨rfl, hb⟩; refine ⟨_, rfl, ?_⟩; have n0_ := Aside0.mk (blk_below BK405.out hb); have n1_ := Aside0.mk (below_step HB.out hb); clear BK405; clear HB; have BK405 := n0_; have HB := n1_; clear n0_ n1_; (try clear hb); (try clear hb2); (try clear hk); (try clear hi); have hcz98_0 : w97.cell? ⟨gb405, 0, none⟩ = some (.slice A0_0 l0_0.length c0_0) := (blk_cell BK405.out 0).trans rfl; have hcz98_1 : w97.cell? ⟨gb405, 1, none⟩ = some (.slice A0_1 l0_1.length c0_1) := (blk_cell BK405.out 1).trans rfl; have hfz98_0 := blk_frozen BK405.out 0; have hfz98_1 := blk_frozen BK405.out 1) | ((with_reducible refine gate_callee (f := 67) rfl ?_); refine goesL_ (some 16) rfl rfl Try.func67 (by kernel_rfl) rfl #[.agg #[.slice A0_0 l0_0.length c0_0, .slice A0_1 l0_1.length c0_1]] rfl (by (try simp only [List.map_toArray, List.map_cons, List.map_nil]); first | done | rfl | (simp only [List.length_drop, List.length_take]; rfl)) ?_; (with_reducible refine (ecdysisref15_twice.calls k _ _ l0_0 _ _ l0_1 false _ ?side1 ?side2 ?side3 ?side4 A25.out).mono ?_); (case side1 => repeat (first | exact (Kd.C_below HR0_0.out HB.out) )); (case side2 => exact HC0_0.out); (case side3 => repeat (first | exact (Kd.C_below HR0_1.out HB.out) )); (case side4 => exact HC0_1.out); rintro e w99 ⟨rfl, hb⟩; refine ⟨_, rfl, ?_⟩; have n0_ := Aside0.mk (blk_below BK405.out hb); have n1_ := Aside0.mk (below_step HB.out hb); clear BK405; clear HB; have BK405 := n0_; have HB := n1_; clear n0_ n1_; (try clear hb); (try clear hb2); (try clear hk); (try clear hi); have hcz100_0 : w99.cell? ⟨gb405, 0, none⟩ = some (.slice A0_0 l0_0.length c0_0) := (blk_cell BK405.out 0).trans rfl; have hcz100_1 : w99.cell? ⟨gb405, 1, none⟩ = some (.slice A0_1 l0_1.length c0_1) := (blk_cell BK405.out 1).trans rfl; have hfz100_0 := blk_frozen BK405.out 0; have hfz100_1 := blk_frozen BK405.out 1) | ((with_reducible refine gate_callee (f := 68) rfl ?_); refine goesL_ (some 18) rfl rfl Try.func68 (by kernel_rfl) rfl #[.agg #[.slice A0_0 l0_0.length c0_0, .slice A0_1 l0_1.length c0_1]] rfl (by (try simp only [List.map_toArray, List.map_cons, List.map_nil]); first | done | rfl | (simp only [List.length_drop, List.length_take]; rfl)) ?_; (with_reducible refine (ecdysisref15_order.calls k _ _ l0_0 _ _ l0_1 false _ ?side1 ?side2 ?side3 ?side4 A38.out).mono ?_); (case side1 => repeat (first | exact (Kd.C_below HR0_0.out HB.out) )); (case side2 => exact HC0_0.out); (case side3 => repeat (first | exact (Kd.C_below HR0_1.out HB.out) )); (case side4 => exact HC0_1.out); rintro e w101 ⟨rfl, hb⟩; refine ⟨_, rfl, ?_⟩; have n0_ := Aside0.mk (blk_below BK405.out hb); have n1_ := Aside0.mk (below_step HB.out hb); clear BK405; clear HB; have BK405 := n0_; have HB := n1_; clear n0_ n1_; (try clear hb); (try clear hb2); (try clear hk); (try clear hi); have hcz102_0 : w101.cell? ⟨gb405, 0, none⟩ = some (.slice A0_0 l0_0.length c0_0) := (blk_cell BK405.out 0).trans rfl; have hcz102_1 : w101.cell? ⟨gb405, 1, none⟩ = some (.slice A0_1 l0_1.length c0_1) := (blk_cell BK405.out 1).trans rfl; have hfz102_0 := blk_frozen BK405.out 0; have hfz102_1 := blk_frozen BK405.out 1) | ((with_reducible refine gate_callee (f := 69) rfl ?_); refine goesL_ (some 20) rfl rfl Try.func69 (by kernel_rfl) rfl #[.agg #[.slice A0_0 l0_0.length c0_0, .slice A0_1 l0_1.length c0_1]] rfl (by (try simp only [List.map_toArray, List.map_cons, List.map_nil]); first | done | rfl | (simp only [List.length_drop, List.length_take]; rfl)) ?_; (with_reducible refine (ecdysisref15_barred.calls k _ _ l0_0 _ _ l0_1 false _ ?side1 ?side2 ?side3 ?side4 A53.out).mono ?_); (case side1 => repeat (first | exact (Kd.C_below HR0_0.out HB.out) )); (case side2 => exact HC0_0.out); (case side3 => repeat (first | exact (Kd.C_below HR0_1.out HB.out) )); (case side4 => exact HC0_1.out); rintro e w103 ⟨rfl, hb⟩; refine ⟨_, rfl, ?_⟩; have n0_ := Aside0.mk (blk_below BK405.out hb); have n1_ := Aside0.mk (below_step HB.out hb); clear BK405; clear HB; have BK405 := n0_; have HB := n1_; clear n0_ n1_; (try clear hb); (try clear hb2); (try clear hk); (try clear hi); have hcz104_0 : w103.cell? ⟨gb405, 0, none⟩ = some (.slice A0_0 l0_0.length c0_0) := (blk_cell BK405.out 0).trans rfl; have hcz104_1 : w103.cell? ⟨gb405, 1, none⟩ = some (.slice A0_1 l0_1.length c0_1) := (blk_cell BK405.out 1).trans rfl; have hfz104_0 := blk_frozen BK405.out 0; have hfz104_1 := blk_frozen BK405.out 1) | ((with_reducible refine gate_callee (f := 70) rfl ?_); refine goesL_ (some 22) rfl rfl Try.func70 (by kernel_rfl) rfl #[.agg #[.slice A0_0 l0_0.length c0_0, .slice A0_1 l0_1.length c0_1]] rfl (by (try simp only [List.map_toArray, List.map_cons, List.map_nil]); first | done | rfl | (simp only [List.length_drop, List.length_take]; rfl)) ?_; (with_reducible refine (ecdysisref15_refs.calls k _ _ l0_0 _ _ l0_1 false _ ?side1 ?side2 ?side3 ?side4 A70.out).mono ?_); (case side1 => repeat (first | exact (Kd.C_below HR0_0.out HB.out) )); (case side2 => exact HC0_0.out); (case side3 => repeat (first | exact (Kd.C_below HR0_1.out HB.out) )); (case side4 => exact HC0_1.out); rintro e w105 ⟨rfl, hb⟩; refine ⟨_, rfl, ?_⟩; have n0_ := Aside0.mk (blk_below BK405.out hb); have n1_ := Aside0.mk (below_step HB.out hb); clear BK405; clear HB; have BK405 := n0_; have HB := n1_; clear n0_ n1_; (try clear hb); (try clear hb2); (try clear hk); (try clear hi)))
                 go_ret
                 exact ⟨by first | rfl , by exact HB.out⟩
       · rw [if_neg c24] at H
         have c24b0 : (t409 == 0) = false := beq_eq_false_iff_ne.mpr c24
         have c24b1 : (t409 != 0) = true := bne_iff_ne.mpr c24
         obtain rfl := Option.some.inj H
         go_enter Try.func26, Try.ntmps26
         go_wp2_with (first | ((with_reducible refine gate_dst (N := 1) rfl ?_); refine box_event ?hg (N := 1) ?hd (cs := #[.slice A0_0 l0_0.length c0_0, .slice A0_1 l0_1.length c0_1]) (t := 35) ?hr ?_; (case hd => rfl); (case hg => rfl); (case hr => first | (go_simp; done) | (go_simp; rfl)); intro gb405 hg w106 hbox hb; have n0_ := Aside0.mk (below_step HB.out hb); have n1_ := Aside0.mk (hbox); clear HB; have HB := n0_; have BK405 := n1_; clear n0_ n1_; clear hb hbox hg; have hcz107_0 : w106.cell? ⟨gb405, 0, none⟩ = some (.slice A0_0 l0_0.length c0_0) := (blk_cell BK405.out 0).trans rfl; have hcz107_1 : w106.cell? ⟨gb405, 1, none⟩ = some (.slice A0_1 l0_1.length c0_1) := (blk_cell BK405.out 1).trans rfl; have hfz107_0 := blk_frozen BK405.out 0; have hfz107_1 := blk_frozen BK405.out 1) | ((with_reducible refine gate_callee (f := 63) rfl ?_); refine goesL_ (some 5) rfl rfl Try.func63 (by kernel_rfl) rfl #[.agg #[.slice A0_0 l0_0.length c0_0, .slice A0_1 l0_1.length c0_1]] rfl (by (try simp only [List.map_toArray, List.map_cons, List.map_nil]); first | done | rfl | (simp only [List.length_drop, List.length_take]; rfl)) ?_; (with_reducible refine (ecdysisref15_many.calls k _ _ l0_0 _ _ l0_1 false _ ?side1 ?side2 ?side3 ?side4 A2.out).mono ?_); (case side1 => repeat (first | exact (Kd.C_below HR0_0.out HB.out) )); (case side2 => exact HC0_0.out); (case side3 => repeat (first | exact (Kd.C_below HR0_1.out HB.out) )); (case side4 => exact HC0_1.out); rintro e w108 ⟨rfl, hb⟩; refine ⟨_, rfl, ?_⟩; have n0_ := Aside0.mk (blk_below BK405.out hb); have n1_ := Aside0.mk (below_step HB.out hb); clear BK405; clear HB; have BK405 := n0_; have HB := n1_; clear n0_ n1_; (try clear hb); (try clear hb2); (try clear hk); (try clear hi); have hcz109_0 : w108.cell? ⟨gb405, 0, none⟩ = some (.slice A0_0 l0_0.length c0_0) := (blk_cell BK405.out 0).trans rfl; have hcz109_1 : w108.cell? ⟨gb405, 1, none⟩ = some (.slice A0_1 l0_1.length c0_1) := (blk_cell BK405.out 1).trans rfl; have hfz109_0 := blk_frozen BK405.out 0; have hfz109_1 := blk_frozen BK405.out 1) | ((with_reducible refine gate_callee (f := 64) rfl ?_); refine goesL_ (some 7) rfl rfl Try.func64 (by kernel_rfl) rfl #[.agg #[.slice A0_0 l0_0.length c0_0, .slice A0_1 l0_1.length c0_1]] rfl (by (try simp only [List.map_toArray, List.map_cons, List.map_nil]); first | done | rfl | (simp only [List.length_drop, List.length_take]; rfl)) ?_; (with_reducible refine (ecdysisref15_none.calls k _ _ l0_0 _ _ l0_1 false _ ?side1 ?side2 ?side3 ?side4 A7.out).mono ?_); (case side1 => repeat (first | exact (Kd.C_below HR0_0.out HB.out) )); (case side2 => exact HC0_0.out); (case side3 => repeat (first | exact (Kd.C_below HR0_1.out HB.out) )); (case side4 => exact HC0_1.out); rintro e w110 ⟨rfl, hb⟩; refine ⟨_, rfl, ?_⟩; have n0_ := Aside0.mk (blk_below BK405.out hb); have n1_ := Aside0.mk (below_step HB.out hb); clear BK405; clear HB; have BK405 := n0_; have HB := n1_; clear n0_ n1_; (try clear hb); (try clear hb2); (try clear hk); (try clear hi); have hcz111_0 : w110.cell? ⟨gb405, 0, none⟩ = some (.slice A0_0 l0_0.length c0_0) := (blk_cell BK405.out 0).trans rfl; have hcz111_1 : w110.cell? ⟨gb405, 1, none⟩ = some (.slice A0_1 l0_1.length c0_1) := (blk_cell BK405.out 1).trans rfl; have hfz111_0 := blk_frozen BK405.out 0; have hfz111_1 := blk_frozen BK405.out 1) | ((with_reducible refine gate_callee (f := 65) rfl ?_); refine goesL_ (some 9) rfl rfl Try.func65 (by kernel_rfl) rfl #[.agg #[.slice A0_0 l0_0.length c0_0, .slice A0_1 l0_1.length c0_1]] rfl (by (try simp only [List.map_toArray, List.map_cons, List.map_nil]); first | done | rfl | (simp only [List.length_drop, List.length_take]; rfl)) ?_; (with_reducible refine (ecdysisref15_text.calls k _ _ l0_0 _ _ l0_1 false _ ?side1 ?side2 ?side3 ?side4 A14.out).mono ?_); (case side1 => repeat (first | exact (Kd.C_below HR0_0.out HB.out) )); (case side2 => exact HC0_0.out); (case side3 => repeat (first | exact (Kd.C_below HR0_1.out HB.out) )); (case side4 => exact HC0_1.out); rintro e w112 ⟨rfl, hb⟩; refine ⟨_, rfl, ?_⟩; have n0_ := Aside0.mk (blk_below BK405.out hb); have n1_ := Aside0.mk (below_step HB.out hb); clear BK405; clear HB; have BK405 := n0_; have HB := n1_; clear n0_ n1_; (try clear hb); (try clear hb2); (try clear hk); (try clear hi); have hcz113_0 : w112.cell? ⟨gb405, 0, none⟩ = some (.slice A0_0 l0_0.length c0_0) := (blk_cell BK405.out 0).trans rfl; have hcz113_1 : w112.cell? ⟨gb405, 1, none⟩ = some (.slice A0_1 l0_1.length c0_1) := (blk_cell BK405.out 1).trans rfl; have hfz113_0 := blk_frozen BK405.out 0; have hfz113_1 := blk_frozen BK405.out 1) | ((with_reducible refine gate_callee (f := 66) rfl ?_); refine goesL_ (some 11) rfl rfl Try.func66 (by kernel_rfl) rfl #[.agg #[.slice A0_0 l0_0.length c0_0, .slice A0_1 l0_1.length c0_1]] rfl (by (try simp only [List.map_toArray, List.map_cons, List.map_nil]); first | done | rfl | (simp only [List.length_drop, List.length_take]; rfl)) ?_; (with_reducible refine (ecdysisref15_fields.calls k _ _ l0_0 _ _ l0_1 t409 _ ?side1 ?side2 ?side3 ?side4 A23.out).mono ?_); (case side1 => repeat (first | exact (Kd.C_below HR0_0.out HB.out) )); (case side2 => exact HC0_0.out); (case side3 => repeat (first | exact (Kd.C_below HR0_1.out HB.out) )); (case side4 => exact HC0_1.out); rintro e w114 ⟨rfl, hb⟩; refine ⟨_, rfl, ?_⟩; have n0_ := Aside0.mk (blk_below BK405.out hb); have n1_ := Aside0.mk (below_step HB.out hb); clear BK405; clear HB; have BK405 := n0_; have HB := n1_; clear n0_ n1_; (try clear hb); (try clear hb2); (try clear hk); (try clear hi)))
         go_ret
         exact ⟨by first | rfl , by exact HB.out⟩
end Go.Proofs.Ytbpnfpckoapdbaa.PF16
end
section
namespace Go.Proofs.Ytbpnfpckoapdbaa.PF16
open Go.RowKit Go.Proofs.Ytbpnfpckoapdbaa.M Go.Proofs.Ytbpnfpckoapdbaa.KD Go.Proofs.Ytbpnfpckoapdbaa Go.Proofs.YtbpnfpckoapdbaaW.PrintWords Go.Proofs.YtbpnfpckoapdbaaW.PrintLast Go.Proofs.YtbpnfpckoapdbaaW.PrintMore
attribute [local go_sem] max2_int min2_int max_two min_two max_three min_three max_four min_four   -- for this text's walks alone
set_option linter.unusedVariables false
set_option linter.unusedSimpArgs false
mutual
def ecdysislaw16_FindCloses.j0 : Nat → Bool → List (S86) → List (S47) → Option (Bool)
 | 0, _, _, _ => none
 | k + 1, x19, x415000, x415001 => if x19 = true then ((ecdysislaw16_live.f k).bind fun t417 => (some t417)) else ((ecdysislaw16_kin.f x415000 x415001 (-1)).bind fun bt418 => (if bt418.2 = true then (if (bt418.1.length : Int) = 0 then (ecdysislaw16_FindCloses.j1 k bt418.1 true x415000 x415001) else (if (bt418.1.length : Int) > (x415001.length : Int) then (ecdysislaw16_FindCloses.j1 k bt418.1 true x415000 x415001) else (if 0 < (bt418.1.length : Int) then (if 0 < (x415001.length : Int) then (ecdysislaw16_FindCloses.j1 k bt418.1 ((rdOf ByteArray.empty bt418.1 0).toList != ((rd_T47 x415001 0).f0).toList) x415000 x415001) else (none)) else (none)))) else (ecdysislaw16_FindCloses.j1 k bt418.1 true x415000 x415001)))
def ecdysislaw16_FindCloses.j1 : Nat → List ByteArray → Bool → List (S86) → List (S47) → Option (Bool)
 | 0, _, _, _, _ => none
 | k + 1, x3, x51, x415000, x415001 => if x51 = true then (some false) else (ecdysislaw16_FindCloses.l0 k x3 0 x415000 x415001)
def ecdysislaw16_FindCloses.l0 : Nat → List ByteArray → Int → List (S86) → List (S47) → Option (Bool)
 | 0, _, _, _, _ => none
 | k + 1, x3, x5, x415000, x415001 => if x5 < (x3.length : Int) then (if 0 ≤ x5 then ((ecdysisref15_Message.f k x415000 x415001 (rdOf ByteArray.empty x3 x5)).bind fun t426 => (ecdysislaw16_FindCloses.l1 k x3 x5 t426 0 x415000 x415001)) else (none)) else ((ecdysislaw16_live.f k).bind fun t424 => (some t424))
def ecdysislaw16_FindCloses.l1 : Nat → List ByteArray → Int → Int → Int → List (S86) → List (S47) → Option (Bool)
 | 0, _, _, _, _, _, _ => none
 | k + 1, x3, x5, x6, x7, x415000, x415001 => if x7 < x5 then (if 0 ≤ x7 then (if x7 < (x3.length : Int) then (if 0 ≤ x5 then (if x5 < (x3.length : Int) then (if (rdOf ByteArray.empty x3 x7).toList = (rdOf ByteArray.empty x3 x5).toList then (some false) else (ecdysislaw16_FindCloses.l1 k x3 x5 x6 (wrap64 (x7 + 1)) x415000 x415001)) else (none)) else (none)) else (none)) else (none)) else (ecdysislaw16_FindCloses.l2 k x3 x5 x6 0 x415000 x415001)
def ecdysislaw16_FindCloses.l2 : Nat → List ByteArray → Int → Int → Int → List (S86) → List (S47) → Option (Bool)
 | 0, _, _, _, _, _, _ => none
 | k + 1, x3, x5, x6, x8, x415000, x415001 => if x6 ≥ 0 then (if 0 ≤ x6 then (if x6 < (x415001.length : Int) then (ecdysislaw16_FindCloses.j5 k x3 x5 x6 x8 (decide (x8 < (((rd_T47 x415001 x6).f1).length : Int))) x415000 x415001) else (none)) else (none)) else (ecdysislaw16_FindCloses.j5 k x3 x5 x6 x8 false x415000 x415001)
def ecdysislaw16_FindCloses.j5 : Nat → List ByteArray → Int → Int → Int → Bool → List (S86) → List (S47) → Option (Bool)
 | 0, _, _, _, _, _, _, _ => none
 | k + 1, x3, x5, x6, x8, x90, x415000, x415001 => if x90 = true then (if 0 ≤ x6 then (if x6 < (x415001.length : Int) then (if 0 ≤ x8 then (if x8 < (((rd_T47 x415001 x6).f1).length : Int) then (ecdysislaw16_FindCloses.l3 k x3 x5 x6 x8 (((rd_T50 ((rd_T47 x415001 x6).f1) x8).f2) != 15) 0 x415000 x415001 ((rd_T50 ((rd_T47 x415001 x6).f1) x8).f0) ((rd_T50 ((rd_T47 x415001 x6).f1) x8).f1) ((rd_T50 ((rd_T47 x415001 x6).f1) x8).f2) ((rd_T50 ((rd_T47 x415001 x6).f1) x8).f3) ((rd_T50 ((rd_T47 x415001 x6).f1) x8).f4) ((rd_T50 ((rd_T47 x415001 x6).f1) x8).f5) ((rd_T50 ((rd_T47 x415001 x6).f1) x8).f6)) else (none)) else (none)) else (none)) else (none)) else (if x6 < 0 then (some false) else (ecdysislaw16_FindCloses.l0 k x3 (wrap64 (x5 + 1)) x415000 x415001))
def ecdysislaw16_FindCloses.l3 : Nat → List ByteArray → Int → Int → Int → Bool → Int → List (S86) → List (S47) → ByteArray → Int → Int → ByteArray → Bool → Bool → ByteArray → Option (Bool)
 | 0, _, _, _, _, _, _, _, _, _, _, _, _, _, _, _ => none
 | k + 1, x3, x5, x6, x8, x10, x11, x415000, x415001, x433000, x433001, x433002, x433003, x433004, x433005, x433006 => if x11 < (x3.length : Int) then (if x10 = true then (ecdysislaw16_FindCloses.l3 k x3 x5 x6 x8 true (wrap64 (x11 + 1)) x415000 x415001 x433000 x433001 x433002 x433003 x433004 x433005 x433006) else (if 0 ≤ x11 then (ecdysislaw16_FindCloses.l3 k x3 x5 x6 x8 ((rdOf ByteArray.empty x3 x11).toList == x433003.toList) (wrap64 (x11 + 1)) x415000 x415001 x433000 x433001 x433002 x433003 x433004 x433005 x433006) else (none))) else (if x10 = true then (ecdysislaw16_FindCloses.l2 k x3 x5 x6 (wrap64 (x8 + 1)) x415000 x415001) else (some false))
end
def ecdysislaw16_FindCloses.f (k : Nat) (l0_0 : List (S86)) (l0_1 : List (S47)) : Option (Bool) := (ecdysisref15_Small.f k l0_0 l0_1).bind fun t415 => (if t415 = true then ((ecdysisref15_Check.f k l0_0 l0_1).bind fun t416 => (ecdysislaw16_FindCloses.j0 k (t416 != 0) l0_0 l0_1)) else (ecdysislaw16_FindCloses.j0 k true l0_0 l0_1))
def ecdysislaw16_FindCloses.T4 : Bool × List (List Nat × List Nat) := (true, [([], []), ([0], [0]), ([1], [1]), ([2], [2]), ([3, 2], [2, 3]), ([4, 2], [2, 4]), ([2, 5], [2, 5]), ([6, 2], [6]), ([7], [7]), ([8, 7], [7, 8]), ([7], [7]), ([10, 7], [7, 10]), ([11, 7], [7, 11]), ([9, 12, 7], [7, 9, 12]), ([7, 13], [7, 13]), ([14, 7], [14]), ([15], [15]), ([16, 15], [15, 16]), ([17, 15], [15, 17]), ([15], [15]), ([19, 15], [15, 19]), ([20, 15], [15, 20]), ([21, 15], [15, 21]), ([22, 15], [15, 22]), ([18, 23, 15], [15, 18, 23]), ([15, 24], [15, 24])])
def ecdysislaw16_FindCloses.B4 : List Nat := [0, 1, 3, 7, 15, 31, 63, 127, 255, 511, 255, 1279, 3327, 8191, 16383, 32767, 65535, 131071, 262143, 65535, 589823, 1638399, 3735551, 7929855, 16777215, 33554431]
theorem ecdysislaw16_FindCloses.tab4 : rtab .any (opsOf Try.f6 4) = ecdysislaw16_FindCloses.T4 := by kernel_rfl
theorem ecdysislaw16_FindCloses.bits4 : waitsOk ecdysislaw16_FindCloses.T4.2 ecdysislaw16_FindCloses.B4 = true := by kernel_rfl
def ecdysislaw16_FindCloses.T13 : Bool × List (List Nat × List Nat) := (true, [([], []), ([], []), ([0, 1], [0, 1]), ([2], [2]), ([], []), ([], []), ([4, 5], [4, 5]), ([6], [6]), ([3, 7], [3, 7])])
def ecdysislaw16_FindCloses.B13 : List Nat := [0, 0, 3, 7, 0, 0, 48, 112, 255]
theorem ecdysislaw16_FindCloses.tab13 : rtab .any (opsOf Try.f6 13) = ecdysislaw16_FindCloses.T13 := by kernel_rfl
theorem ecdysislaw16_FindCloses.bits13 : waitsOk ecdysislaw16_FindCloses.T13.2 ecdysislaw16_FindCloses.B13 = true := by kernel_rfl
def ecdysislaw16_FindCloses.T23 : Bool × List (List Nat × List Nat) := (true, [([], []), ([0], [0]), ([1], [1]), ([1], [1]), ([2, 3, 1], [1, 2, 3]), ([4, 1], [1, 4]), ([1], [1]), ([6, 1], [1, 6]), ([5, 7, 1], [1, 5, 7]), ([1, 8], [1, 8]), ([9, 1, 0, 1, 2, 3, 4, 5, 6, 7, 8, 9], [0, 9])])
def ecdysislaw16_FindCloses.B23 : List Nat := [0, 1, 3, 3, 15, 31, 3, 67, 255, 511, 1023]
theorem ecdysislaw16_FindCloses.tab23 : rtab .any (opsOf Try.f6 23) = ecdysislaw16_FindCloses.T23 := by kernel_rfl
theorem ecdysislaw16_FindCloses.bits23 : waitsOk ecdysislaw16_FindCloses.T23.2 ecdysislaw16_FindCloses.B23 = true := by kernel_rfl
set_option maxHeartbeats 8000000 in
set_option maxRecDepth 100000 in
theorem ecdysislaw16_FindCloses.calls (k : Nat) (A0_0 : Option Addr) (c0_0 : Nat) (l0_0 : List (S86)) (A0_1 : Option Addr) (c0_1 : Nat) (l0_1 : List (S47)) (r : Bool) (w : World) (hr0_0 : Kd.C k86 w A0_0 l0_0.length l0_0) (hc0_0 : l0_0.length ≤ c0_0) (hr0_1 : Kd.C k47 w A0_1 l0_1.length l0_1) (hc0_1 : l0_1.length ≤ c0_1) (h : ecdysislaw16_FindCloses.f k l0_0 l0_1 = some r) :
  Calls Try.prog 6 #[.agg #[.slice A0_0 l0_0.length c0_0, .slice A0_1 l0_1.length c0_1]] w fun e w' => e = .returned (.bool r) ∧ Below w.heap.size w w' := by
 have hu35 := Try.underlying35
 have hu50 := Try.underlying50
 have HR0_0 := Aside0.mk hr0_0
 have HC0_0 := Aside0.mk hc0_0
 clear hr0_0 hc0_0
 have HR0_1 := Aside0.mk hr0_1
 have HC0_1 := Aside0.mk hc0_1
 clear hr0_1 hc0_1
 have HB := Aside0.mk (Below.refl w.heap.size w)
 have H : ((ecdysisref15_Small.f k l0_0 l0_1).bind fun t415 => (if t415 = true then ((ecdysisref15_Check.f k l0_0 l0_1).bind fun t416 => (ecdysislaw16_FindCloses.j0 k (t416 != 0) l0_0 l0_1)) else (ecdysislaw16_FindCloses.j0 k true l0_0 l0_1))) = some r := h
 clear h
 have HC2 := Aside0.mk H
 clear H
 go_enter Try.func6, Try.ntmps6
 go_upto_region 1 with (first | ((with_reducible refine gate_dst (N := 1) rfl ?_); (try (refine gate_guard (by rfl) ?_; dsimp only)); refine box_event ?hg (N := 1) ?hd (cs := #[.slice A0_0 l0_0.length c0_0, .slice A0_1 l0_1.length c0_1]) (t := 35) ?hr ?_; (case hd => rfl); (case hg => rfl); (case hr => first | (go_simp; done) | (go_simp; rfl)); intro gb414 hg w3 hbox hb; have n0_ := Aside0.mk (below_step HB.out hb); have n1_ := Aside0.mk (hbox); clear HB; have HB := n0_; have BK414 := n1_; clear n0_ n1_; clear hb hbox hg))
 (try simp only [Act.put, List.setIfInBounds_toArray, List.set_cons_zero, List.set_cons_succ])
 go_cut [19] (fun v19 wc => ∃ (kq : Nat) (x19_1 : Bool), v19 = .bool x19_1 ∧ Aside0 (ecdysislaw16_FindCloses.j0 kq x19_1 l0_0 l0_1 = some r) ∧ Aside0 (kq ≤ k) ∧ Aside0 (wc.heap[gb414]? = some (.cells #[(.slice A0_0 l0_0.length c0_0), (.slice A0_1 l0_1.length c0_1)] 35 (0, 0))) ∧ Aside0 (Below w.heap.size w wc))
 case first =>
  have H := HC2.out
  clear HC2
  replace H := Option.bind_eq_some_iff.mp H
  obtain ⟨t415, A40, H⟩ := H
  replace H : (if t415 = true then ((ecdysisref15_Check.f k l0_0 l0_1).bind fun t416 => (ecdysislaw16_FindCloses.j0 k (t416 != 0) l0_0 l0_1)) else (ecdysislaw16_FindCloses.j0 k true l0_0 l0_1)) = some r := H
  have A4 := Aside0.mk A40
  clear A40
  by_cases c5 : t415 = true
  · subst c5
    have H1 : ((ecdysisref15_Check.f k l0_0 l0_1).bind fun t416 => (ecdysislaw16_FindCloses.j0 k (t416 != 0) l0_0 l0_1)) = some r := by rw [if_pos rfl] at H; exact H
    clear H
    have H := H1
    clear H1
    replace H := Option.bind_eq_some_iff.mp H
    obtain ⟨t416, A60, H⟩ := H
    replace H : (ecdysislaw16_FindCloses.j0 k (t416 != 0) l0_0 l0_1) = some r := H
    have A6 := Aside0.mk A60
    clear A60
    have H' := Aside0.mk H
    clear H
    have hcz7_0 : w3.cell? ⟨gb414, 0, none⟩ = some (.slice A0_0 l0_0.length c0_0) := (blk_cell BK414.out 0).trans rfl
    have hcz7_1 : w3.cell? ⟨gb414, 1, none⟩ = some (.slice A0_1 l0_1.length c0_1) := (blk_cell BK414.out 1).trans rfl
    have hfz7_0 := blk_frozen BK414.out 0
    have hfz7_1 := blk_frozen BK414.out 1
    go_wp2_with (first | ((with_reducible refine gate_callee (f := 21) rfl ?_); refine goesL_ (some 13) rfl rfl Try.func21 (by kernel_rfl) rfl #[.agg #[.slice A0_0 l0_0.length c0_0, .slice A0_1 l0_1.length c0_1]] rfl (by (try simp only [List.map_toArray, List.map_cons, List.map_nil]); first | done | rfl | (simp only [List.length_drop, List.length_take]; rfl)) ?_; (with_reducible refine (ecdysisref15_Small.calls k _ _ l0_0 _ _ l0_1 true _ ?side1 ?side2 ?side3 ?side4 A4.out).mono ?_); (case side1 => repeat (first | exact (Kd.C_below HR0_0.out HB.out) )); (case side2 => exact HC0_0.out); (case side3 => repeat (first | exact (Kd.C_below HR0_1.out HB.out) )); (case side4 => exact HC0_1.out); rintro e w8 ⟨rfl, hb⟩; refine ⟨_, rfl, ?_⟩; have n0_ := Aside0.mk (blk_below BK414.out hb); have n1_ := Aside0.mk (below_step HB.out hb); clear BK414; clear HB; have BK414 := n0_; have HB := n1_; clear n0_ n1_; (try clear hb); (try clear hb2); (try clear hk); (try clear hi); have hcz9_0 : w8.cell? ⟨gb414, 0, none⟩ = some (.slice A0_0 l0_0.length c0_0) := (blk_cell BK414.out 0).trans rfl; have hcz9_1 : w8.cell? ⟨gb414, 1, none⟩ = some (.slice A0_1 l0_1.length c0_1) := (blk_cell BK414.out 1).trans rfl; have hfz9_0 := blk_frozen BK414.out 0; have hfz9_1 := blk_frozen BK414.out 1) | (go_at_call 26; (with_reducible refine (ecdysisref15_Check.calls k _ _ l0_0 _ _ l0_1 t416 _ ?side1 ?side2 ?side3 ?side4 A6.out).mono ?_); (case side1 => repeat (first | exact (Kd.C_below HR0_0.out HB.out) )); (case side2 => exact HC0_0.out); (case side3 => repeat (first | exact (Kd.C_below HR0_1.out HB.out) )); (case side4 => exact HC0_1.out); rintro e w10 ⟨rfl, hb⟩; have n0_ := Aside0.mk (blk_below BK414.out hb); have n1_ := Aside0.mk (below_step HB.out hb); clear BK414; clear HB; have BK414 := n0_; have HB := n1_; clear n0_ n1_; (try clear hb); (try clear hb2); (try clear hk); (try clear hi)))
    go_meet
    case rel => exact ⟨_, ((t416 != 0)), (by first | rfl ), H', ⟨by first | omega ⟩, ⟨by exact BK414.out⟩, ⟨by exact HB.out⟩⟩
  · replace c5 := Bool.eq_false_iff.mpr c5
    subst c5
    have H1 : (ecdysislaw16_FindCloses.j0 k true l0_0 l0_1) = some r := by rw [if_neg (show ¬ (false = true) by decide)] at H; exact H
    clear H
    have H := H1
    clear H1
    have H' := Aside0.mk H
    clear H
    have hcz11_0 : w3.cell? ⟨gb414, 0, none⟩ = some (.slice A0_0 l0_0.length c0_0) := (blk_cell BK414.out 0).trans rfl
    have hcz11_1 : w3.cell? ⟨gb414, 1, none⟩ = some (.slice A0_1 l0_1.length c0_1) := (blk_cell BK414.out 1).trans rfl
    have hfz11_0 := blk_frozen BK414.out 0
    have hfz11_1 := blk_frozen BK414.out 1
    go_wp2_with (first | ((with_reducible refine gate_callee (f := 21) rfl ?_); refine goesL_ (some 13) rfl rfl Try.func21 (by kernel_rfl) rfl #[.agg #[.slice A0_0 l0_0.length c0_0, .slice A0_1 l0_1.length c0_1]] rfl (by (try simp only [List.map_toArray, List.map_cons, List.map_nil]); first | done | rfl | (simp only [List.length_drop, List.length_take]; rfl)) ?_; (with_reducible refine (ecdysisref15_Small.calls k _ _ l0_0 _ _ l0_1 false _ ?side1 ?side2 ?side3 ?side4 A4.out).mono ?_); (case side1 => repeat (first | exact (Kd.C_below HR0_0.out HB.out) )); (case side2 => exact HC0_0.out); (case side3 => repeat (first | exact (Kd.C_below HR0_1.out HB.out) )); (case side4 => exact HC0_1.out); rintro e w12 ⟨rfl, hb⟩; refine ⟨_, rfl, ?_⟩; have n0_ := Aside0.mk (blk_below BK414.out hb); have n1_ := Aside0.mk (below_step HB.out hb); clear BK414; clear HB; have BK414 := n0_; have HB := n1_; clear n0_ n1_; (try clear hb); (try clear hb2); (try clear hk); (try clear hi)))
    go_meet
    case rel => exact ⟨_, (true), (by first | rfl ), H', ⟨by first | omega ⟩, ⟨by exact BK414.out⟩, ⟨by exact HB.out⟩⟩
 case rest =>
  clear HC2
  try clear c2
  try clear p2
  try clear c5
  try clear c6
  try clear hcz11_0
  try clear hcz11_1
  try clear hcz7_0
  try clear hcz7_1
  try clear hcz9_0
  try clear hcz9_1
  try clear hfz11_0
  try clear hfz11_1
  try clear hfz7_0
  try clear hfz7_1
  try clear hfz9_0
  try clear hfz9_1
  obtain ⟨kq, x19_1, rfl, HA, HJ1, BK414, HB⟩ := hcut
  cases kq with
  | zero => exact absurd HA.out (by simp [ecdysislaw16_FindCloses.j0])
  | succ kj1 =>
    have H := HA.out
    clear HA
    simp only [ecdysislaw16_FindCloses.j0] at H
    by_cases c13 : x19_1 = true
    · subst c13
      have H1 : ((ecdysislaw16_live.f kj1).bind fun t417 => (some t417)) = some r := by rw [if_pos rfl] at H; exact H
      clear H
      have H := H1
      clear H1
      replace H := Option.bind_eq_some_iff.mp H
      obtain ⟨t417, A140, H⟩ := H
      replace H : (some t417) = some r := H
      have A14 := Aside0.mk A140
      clear A140
      obtain rfl := Option.some.inj H
      go_wp2_with (first | ((with_reducible refine gate_callee (f := 22) rfl ?_); refine goesL_ (some 20) rfl rfl Try.func22 (by kernel_rfl) rfl #[] rfl (by (try simp only [List.map_toArray, List.map_cons, List.map_nil]); first | done | rfl | (simp only [List.length_drop, List.length_take]; rfl)) ?_; (with_reducible refine (ecdysislaw16_live.calls kj1  t417 _ A14.out).mono ?_); rintro e w15 ⟨rfl, hb⟩; refine ⟨_, rfl, ?_⟩; have n0_ := Aside0.mk (blk_below BK414.out hb); have n1_ := Aside0.mk (below_step HB.out hb); clear BK414; clear HB; have BK414 := n0_; have HB := n1_; clear n0_ n1_; (try clear hb); (try clear hb2); (try clear hk); (try clear hi)))
      go_ret
      exact ⟨by first | rfl , by exact HB.out⟩
    · replace c13 := Bool.eq_false_iff.mpr c13
      subst c13
      have H1 : ((ecdysislaw16_kin.f l0_0 l0_1 (-1)).bind fun bt418 => (if bt418.2 = true then (if (bt418.1.length : Int) = 0 then (ecdysislaw16_FindCloses.j1 kj1 bt418.1 true l0_0 l0_1) else (if (bt418.1.length : Int) > (l0_1.length : Int) then (ecdysislaw16_FindCloses.j1 kj1 bt418.1 true l0_0 l0_1) else (if 0 < (bt418.1.length : Int) then (if 0 < (l0_1.length : Int) then (ecdysislaw16_FindCloses.j1 kj1 bt418.1 ((rdOf ByteArray.empty bt418.1 0).toList != ((rd_T47 l0_1 0).f0).toList) l0_0 l0_1) else (none)) else (none)))) else (ecdysislaw16_FindCloses.j1 kj1 bt418.1 true l0_0 l0_1))) = some r := by rw [if_neg (show ¬ (false = true) by decide)] at H; exact H
      clear H
      have H := H1
      clear H1
      replace H := Option.bind_eq_some_iff.mp H
      obtain ⟨⟨t418, t421⟩, A160, H⟩ := H
      replace H : (if t421 = true then (if (t418.length : Int) = 0 then (ecdysislaw16_FindCloses.j1 kj1 t418 true l0_0 l0_1) else (if (t418.length : Int) > (l0_1.length : Int) then (ecdysislaw16_FindCloses.j1 kj1 t418 true l0_0 l0_1) else (if 0 < (t418.length : Int) then (if 0 < (l0_1.length : Int) then (ecdysislaw16_FindCloses.j1 kj1 t418 ((rdOf ByteArray.empty t418 0).toList != ((rd_T47 l0_1 0).f0).toList) l0_0 l0_1) else (none)) else (none)))) else (ecdysislaw16_FindCloses.j1 kj1 t418 true l0_0 l0_1)) = some r := H
      have A16 := Aside0.mk A160
      clear A160
      have HC17 := Aside0.mk H
      clear H
      have hcz18_0 : wc.cell? ⟨gb414, 0, none⟩ = some (.slice A0_0 l0_0.length c0_0) := (blk_cell BK414.out 0).trans rfl
      have hcz18_1 : wc.cell? ⟨gb414, 1, none⟩ = some (.slice A0_1 l0_1.length c0_1) := (blk_cell BK414.out 1).trans rfl
      have hfz18_0 := blk_frozen BK414.out 0
      have hfz18_1 := blk_frozen BK414.out 1
      go_upto_region 4 with (first | ((with_reducible refine gate_callee (f := 23) rfl ?_); refine goesL_ (some 23) rfl rfl Try.func23 (by kernel_rfl) rfl #[.agg #[.slice A0_0 l0_0.length c0_0, .slice A0_1 l0_1.length c0_1], .int .i64 (-1)] rfl (by (try simp only [List.map_toArray, List.map_cons, List.map_nil]); first | done | rfl | (simp only [List.length_drop, List.length_take]; rfl)) ?_; (with_reducible refine (ecdysislaw16_kin.calls _ _ l0_0 _ _ l0_1 (-1) t418 t421 _ ?side1 ?side2 ?side3 ?side4 A16.out).mono ?_); (case side1 => repeat (first | exact (Kd.C_below HR0_0.out HB.out) )); (case side2 => exact HC0_0.out); (case side3 => repeat (first | exact (Kd.C_below HR0_1.out HB.out) )); (case side4 => exact HC0_1.out); rintro e w19 ⟨v419, rfl, ho0, hb⟩; refine ⟨_, rfl, ?_⟩; have n0_ := Aside0.mk (Kd.R_lower ho0 (below_size HB.out)); have n1_ := Aside0.mk (blk_below BK414.out hb); have n2_ := Aside0.mk (below_step HB.out hb); clear BK414; clear HB; have HO420 := n0_; have BK414 := n1_; have HB := n2_; clear n0_ n1_ n2_; (try clear hb); (try clear hb2); (try clear hk); (try clear hi); (try clear ho0)))
      (try simp only [Act.put, List.setIfInBounds_toArray, List.set_cons_zero, List.set_cons_succ])
      go_cut [51] (fun v51 wc => ∃ (kq : Nat) (x51_16 : Bool), v51 = .bool x51_16 ∧ Aside0 (ecdysislaw16_FindCloses.j1 kq t418 x51_16 l0_0 l0_1 = some r) ∧ Aside0 (kq ≤ kj1) ∧ Aside0 (Kd.R Kd.string 9 wc w.heap.size (fun _ => True) v419 t418) ∧ Aside0 (wc.heap[gb414]? = some (.cells #[(.slice A0_0 l0_0.length c0_0), (.slice A0_1 l0_1.length c0_1)] 35 (0, 0))) ∧ Aside0 (Below w.heap.size w wc))
      case first =>
       have H := HC17.out
       clear HC17
       by_cases c20 : t421 = true
       · subst c20
         have H1 : (if (t418.length : Int) = 0 then (ecdysislaw16_FindCloses.j1 kj1 t418 true l0_0 l0_1) else (if (t418.length : Int) > (l0_1.length : Int) then (ecdysislaw16_FindCloses.j1 kj1 t418 true l0_0 l0_1) else (if 0 < (t418.length : Int) then (if 0 < (l0_1.length : Int) then (ecdysislaw16_FindCloses.j1 kj1 t418 ((rdOf ByteArray.empty t418 0).toList != ((rd_T47 l0_1 0).f0).toList) l0_0 l0_1) else (none)) else (none)))) = some r := by rw [if_pos rfl] at H; exact H
         clear H
         have H := H1
         clear H1
         by_cases c21 : (t418.length : Int) = 0
         · rw [if_pos c21] at H
           have c21b0 : ((t418.length : Int) == 0) = true := beq_iff_eq.mpr c21
           have c21b1 : ((t418.length : Int) != 0) = false := bne_eq_false_iff_eq.mpr c21
           clear c21
           (first | skip)
           have H' := Aside0.mk H
           clear H
           try go_wp2
           have n0_ := Aside0.mk (Kd.R_drew HO420.out)
           have n1_ := Aside0.mk (blk_drew BK414.out)
           have n2_ := Aside0.mk (below_drew1 HB.out)
           clear HO420
           clear BK414
           clear HB
           have HO420 := n0_
           have BK414 := n1_
           have HB := n2_
           clear n0_ n1_ n2_
           obtain ⟨Ao23, co23, eo23⟩ := Kd.R_slice HO420.out
           (first | subst eo23 )
           refine start_ (n := 26) (S := fun w' => True) (ds := []) #[false, false, false, false, false, false, false, false, false, false, false, false, false, false, false, false, false, false, false, false, false, false, false, false, false, false] (by kernel_rfl) rfl rfl trivial (fun hHeld => ?_); refine with_tabW ecdysislaw16_FindCloses.tab4 ecdysislaw16_FindCloses.bits4 (fun HT_ HW_ => ?_)
           generalize w19.drew = w22 at HO420 BK414 HB hHeld ⊢
           refine zp 0 (zb 26 1) ?_ rfl rfl HT_ (by kernel_rfl) (fun _ _ _ h => h) rfl ?_ ?_ ?_ ?_; rotate_left; (intro w'; go_simp; with_reducible rfl); rotate_left; (simp only [zs]; rfl)
           refine zp 1 (zb 26 3) ?_ rfl rfl HT_ (by kernel_rfl) (fun _ _ _ h => h) rfl ?_ ?_ ?_ ?_; rotate_left; (intro w'; go_simp; with_reducible rfl); rotate_left; (simp only [zs]; rfl)
           refine zp 2 (zb 26 7) ?_ rfl rfl HT_ (by kernel_rfl) (fun _ _ _ h => h) rfl ?_ ?_ ?_ ?_; rotate_left; (intro w'; go_simp; with_reducible rfl); rotate_left; (simp only [zs]; rfl)
           refine zp 3 (zb 26 15) ?_ rfl rfl HT_ (by kernel_rfl) (fun _ _ _ h => h) rfl ?_ ?_ ?_ ?_; rotate_left; (intro w'; go_simp; with_reducible rfl); rotate_left; (simp only [zs]; rfl)
           refine zp 4 (zb 26 31) ?_ rfl rfl HT_ (by kernel_rfl) (fun _ _ _ h => h) rfl ?_ ?_ ?_ ?_; rotate_left; (intro w'; go_simp; with_reducible rfl); rotate_left; (simp only [zs]; rfl)
           refine zp 5 (zb 26 63) ?_ rfl rfl HT_ (by kernel_rfl) (fun _ _ _ h => h) rfl ?_ ?_ ?_ ?_; rotate_left; (intro w'; go_simp; with_reducible rfl); rotate_left; (simp only [zs]; rfl)
           refine zp 6 (zb 26 127) ?_ rfl rfl HT_ (by kernel_rfl) (fun _ _ _ h => h) rfl ?_ ?_ ?_ ?_; rotate_left; (intro w'; go_simp; with_reducible rfl); rotate_left; (simp only [zs]; rfl)
           refine zp 7 (zb 26 255) ?_ rfl rfl HT_ (by kernel_rfl) (fun _ _ _ h => h) rfl ?_ ?_ ?_ ?_; rotate_left; (intro w'; go_simp; with_reducible rfl); rotate_left; (simp only [zs]; rfl)
           refine zn 8 (zb 26 511) rfl rfl HT_ (by kernel_rfl) (fun _ _ _ h => h) rfl ?_ ?_ ?_; rotate_left; (simp only [zs]; rfl)
           refine zn 9 (zb 26 1023) rfl rfl HT_ (by kernel_rfl) (fun _ _ _ h => h) rfl ?_ ?_ ?_; rotate_left; (simp only [zs]; rfl)
           refine zn 10 (zb 26 2047) rfl rfl HT_ (by kernel_rfl) (fun _ _ _ h => h) rfl ?_ ?_ ?_; rotate_left; (simp only [zs]; rfl)
           refine zn 11 (zb 26 4095) rfl rfl HT_ (by kernel_rfl) (fun _ _ _ h => h) rfl ?_ ?_ ?_; rotate_left; (simp only [zs]; rfl)
           refine zn 12 (zb 26 8191) rfl rfl HT_ (by kernel_rfl) (fun _ _ _ h => h) rfl ?_ ?_ ?_; rotate_left; (simp only [zs]; rfl)
           refine zn 13 (zb 26 16383) rfl rfl HT_ (by kernel_rfl) (fun _ _ _ h => h) rfl ?_ ?_ ?_; rotate_left; (simp only [zs]; rfl)
           refine zp 14 (zb 26 32767) ?_ rfl rfl HT_ (by kernel_rfl) (fun _ _ _ h => h) rfl ?_ ?_ ?_ ?_; rotate_left; (intro w'; go_simp; with_reducible rfl); rotate_left; (simp only [zs]; rfl)
           refine zp 15 (zb 26 65535) ?_ rfl rfl HT_ (by kernel_rfl) (fun _ _ _ h => h) rfl ?_ ?_ ?_ ?_; rotate_left; (intro w'; go_simp; with_reducible rfl); rotate_left; (simp only [zs]; rfl)
           refine zn 16 (zb 26 131071) rfl rfl HT_ (by kernel_rfl) (fun _ _ _ h => h) rfl ?_ ?_ ?_; rotate_left; (simp only [zs]; rfl)
           refine zn 17 (zb 26 262143) rfl rfl HT_ (by kernel_rfl) (fun _ _ _ h => h) rfl ?_ ?_ ?_; rotate_left; (simp only [zs]; rfl)
           refine zn 18 (zb 26 524287) rfl rfl HT_ (by kernel_rfl) (fun _ _ _ h => h) rfl ?_ ?_ ?_; rotate_left; (simp only [zs]; rfl)
           refine zn 19 (zb 26 1048575) rfl rfl HT_ (by kernel_rfl) (fun _ _ _ h => h) rfl ?_ ?_ ?_; rotate_left; (simp only [zs]; rfl)
           refine zn 20 (zb 26 2097151) rfl rfl HT_ (by kernel_rfl) (fun _ _ _ h => h) rfl ?_ ?_ ?_; rotate_left; (simp only [zs]; rfl)
           refine zn 21 (zb 26 4194303) rfl rfl HT_ (by kernel_rfl) (fun _ _ _ h => h) rfl ?_ ?_ ?_; rotate_left; (simp only [zs]; rfl)
           refine zn 22 (zb 26 8388607) rfl rfl HT_ (by kernel_rfl) (fun _ _ _ h => h) rfl ?_ ?_ ?_; rotate_left; (simp only [zs]; rfl)
           refine zn 23 (zb 26 16777215) rfl rfl HT_ (by kernel_rfl) (fun _ _ _ h => h) rfl ?_ ?_ ?_; rotate_left; (simp only [zs]; rfl)
           refine zn 24 (zb 26 33554431) rfl rfl HT_ (by kernel_rfl) (fun _ _ _ h => h) rfl ?_ ?_ ?_; rotate_left; (simp only [zs]; rfl)
           refine zp 25 (zb 26 67108863) ?_ rfl rfl HT_ (by kernel_rfl) (fun _ _ _ h => h) rfl ?_ ?_ ?_ ?_; rotate_left; (intro w'; go_simp; with_reducible rfl); rotate_left; (simp only [zs]; rfl)
           refine done_ (done_of HT_.out (by kernel_rfl)) ?_
           try go_wp2
           go_meet
           case rel => exact ⟨_, (true), (by first | rfl ), H', ⟨by have := HJ1.out; first | omega | exact Nat.le_refl _⟩, ⟨by exact HO420.out⟩, ⟨by exact BK414.out⟩, ⟨by exact HB.out⟩⟩
         · rw [if_neg c21] at H
           have c21b0 : ((t418.length : Int) == 0) = false := beq_eq_false_iff_ne.mpr c21
           have c21b1 : ((t418.length : Int) != 0) = true := bne_iff_ne.mpr c21
           have c21b2 : ¬ (t418 = []) := fun h_ => c21 (by rw [h_]; rfl)
           (first | skip)
           by_cases c24 : (t418.length : Int) > (l0_1.length : Int)
           · rw [if_pos c24] at H
             have c24b0 : decide ((l0_1.length : Int) < (t418.length : Int)) = true := decide_eq_true c24
             have c24b1 : decide (l0_1.length < t418.length) = true := decide_eq_true (Int.ofNat_lt.mp c24)
             clear c24
             have H' := Aside0.mk H
             clear H
             try go_wp2
             have n0_ := Aside0.mk (Kd.R_drew HO420.out)
             have n1_ := Aside0.mk (blk_drew BK414.out)
             have n2_ := Aside0.mk (below_drew1 HB.out)
             clear HO420
             clear BK414
             clear HB
             have HO420 := n0_
             have BK414 := n1_
             have HB := n2_
             clear n0_ n1_ n2_
             obtain ⟨Ao26, co26, eo26⟩ := Kd.R_slice HO420.out
             (first | subst eo26 )
             refine start_ (n := 26) (S := fun w' => w'.cell? ⟨gb414, 0, none⟩ = some (.slice A0_0 l0_0.length c0_0) ∧ w'.cell? ⟨gb414, 1, none⟩ = some (.slice A0_1 l0_1.length c0_1)) (ds := []) #[false, false, false, false, false, false, false, false, false, false, false, false, false, false, false, false, false, false, false, false, false, false, false, false, false, false] (by kernel_rfl) rfl rfl ⟨(blk_cell BK414.out 0).trans rfl, (blk_cell BK414.out 1).trans rfl⟩ (fun hHeld => ?_); refine with_tabW ecdysislaw16_FindCloses.tab4 ecdysislaw16_FindCloses.bits4 (fun HT_ HW_ => ?_)
             generalize w19.drew = w25 at HO420 BK414 HB hHeld ⊢
             refine zp 0 (zb 26 1) ?_ rfl rfl HT_ (by kernel_rfl) (fun _ _ _ h => h) rfl ?_ ?_ ?_ ?_; rotate_left; (intro w'; go_simp; with_reducible rfl); rotate_left; (simp only [zs]; rfl)
             refine zp 1 (zb 26 3) ?_ rfl rfl HT_ (by kernel_rfl) (fun _ _ _ h => h) rfl ?_ ?_ ?_ ?_; rotate_left; (intro w'; go_simp; with_reducible rfl); rotate_left; (simp only [zs]; rfl)
             refine zp 2 (zb 26 7) ?_ rfl rfl HT_ (by kernel_rfl) (fun _ _ _ h => h) rfl ?_ ?_ ?_ ?_; rotate_left; (intro w'; go_simp; with_reducible rfl); rotate_left; (simp only [zs]; rfl)
             refine zp 3 (zb 26 15) ?_ rfl rfl HT_ (by kernel_rfl) (fun _ _ _ h => h) rfl ?_ ?_ ?_ ?_; rotate_left; (intro w'; go_simp; with_reducible rfl); rotate_left; (simp only [zs]; rfl)
             refine zp 4 (zb 26 31) ?_ rfl rfl HT_ (by kernel_rfl) (fun _ _ _ h => h) rfl ?_ ?_ ?_ ?_; rotate_left; (intro w'; go_simp; with_reducible rfl); rotate_left; (simp only [zs]; rfl)
             refine zp 5 (zb 26 63) ?_ rfl rfl HT_ (by kernel_rfl) (fun _ _ _ h => h) rfl ?_ ?_ ?_ ?_; rotate_left; (intro w'; go_simp; with_reducible rfl); rotate_left; (simp only [zs]; rfl)
             refine zp 6 (zb 26 127) ?_ rfl rfl HT_ (by kernel_rfl) (fun _ _ _ h => h) rfl ?_ ?_ ?_ ?_; rotate_left; (intro w'; go_simp; with_reducible rfl); rotate_left; (simp only [zs]; rfl)
             refine zp 7 (zb 26 255) ?_ rfl rfl HT_ (by kernel_rfl) (fun _ _ _ h => h) rfl ?_ ?_ ?_ ?_; rotate_left; (intro w'; go_simp; with_reducible rfl); rotate_left; (simp only [zs]; rfl)
             refine zp 8 (zb 26 511) ?_ rfl rfl HT_ (by kernel_rfl) (fun _ _ _ h => h) rfl ?_ ?_ ?_ ?_; rotate_left; (intro w'; go_simp; with_reducible rfl); rotate_left; (simp only [zs]; rfl)
             refine zp 9 (zb 26 1023) ?_ rfl rfl HT_ (by kernel_rfl) (fun _ _ _ h => h) rfl ?_ ?_ ?_ ?_; rotate_left; (intro w'; go_simp; with_reducible rfl); rotate_left; (simp only [zs]; rfl)
             refine zp 10 (zb 26 2047) ?_ rfl rfl HT_ (by kernel_rfl) (fun _ _ _ h => h) rfl ?_ ?_ ?_ ?_; rotate_left; (intro w'; go_simp; with_reducible rfl); rotate_left; (simp only [zs]; rfl)
             refine zt 11 (zb 26 4095) ?_ rfl rfl HT_ HW_ (by kernel_rfl) (fun _ _ _ h => h) rfl ?_ hHeld ?_ ?_ ?_; rotate_left; (rintro w' ⟨s0, s1⟩; go_simp; with_reducible rfl); rotate_left; (simp only [zs]; rfl)
             refine zp 12 (zb 26 8191) ?_ rfl rfl HT_ (by kernel_rfl) (fun _ _ _ h => h) rfl ?_ ?_ ?_ ?_; rotate_left; (intro w'; go_simp; with_reducible rfl); rotate_left; (simp only [zs]; rfl)
             refine zp 13 (zb 26 16383) ?_ rfl rfl HT_ (by kernel_rfl) (fun _ _ _ h => h) rfl ?_ ?_ ?_ ?_; rotate_left; (intro w'; go_simp; with_reducible rfl); rotate_left; (simp only [zs]; rfl)
             refine zp 14 (zb 26 32767) ?_ rfl rfl HT_ (by kernel_rfl) (fun _ _ _ h => h) rfl ?_ ?_ ?_ ?_; rotate_left; (intro w'; go_simp; with_reducible rfl); rotate_left; (simp only [zs]; rfl)
             refine zp 15 (zb 26 65535) ?_ rfl rfl HT_ (by kernel_rfl) (fun _ _ _ h => h) rfl ?_ ?_ ?_ ?_; rotate_left; (intro w'; go_simp; with_reducible rfl); rotate_left; (simp only [zs]; rfl)
             refine zn 16 (zb 26 131071) rfl rfl HT_ (by kernel_rfl) (fun _ _ _ h => h) rfl ?_ ?_ ?_; rotate_left; (simp only [zs]; rfl)
             refine zn 17 (zb 26 262143) rfl rfl HT_ (by kernel_rfl) (fun _ _ _ h => h) rfl ?_ ?_ ?_; rotate_left; (simp only [zs]; rfl)
             refine zn 18 (zb 26 524287) rfl rfl HT_ (by kernel_rfl) (fun _ _ _ h => h) rfl ?_ ?_ ?_; rotate_left; (simp only [zs]; rfl)
             refine zn 19 (zb 26 1048575) rfl rfl HT_ (by kernel_rfl) (fun _ _ _ h => h) rfl ?_ ?_ ?_; rotate_left; (simp only [zs]; rfl)
             refine zn 20 (zb 26 2097151) rfl rfl HT_ (by kernel_rfl) (fun _ _ _ h => h) rfl ?_ ?_ ?_; rotate_left; (simp only [zs]; rfl)
             refine zn 21 (zb 26 4194303) rfl rfl HT_ (by kernel_rfl) (fun _ _ _ h => h) rfl ?_ ?_ ?_; rotate_left; (simp only [zs]; rfl)
             refine zn 22 (zb 26 8388607) rfl rfl HT_ (by kernel_rfl) (fun _ _ _ h => h) rfl ?_ ?_ ?_; rotate_left; (simp only [zs]; rfl)
             refine zn 23 (zb 26 16777215) rfl rfl HT_ (by kernel_rfl) (fun _ _ _ h => h) rfl ?_ ?_ ?_; rotate_left; (simp only [zs]; rfl)
             refine zn 24 (zb 26 33554431) rfl rfl HT_ (by kernel_rfl) (fun _ _ _ h => h) rfl ?_ ?_ ?_; rotate_left; (simp only [zs]; rfl)
             refine zp 25 (zb 26 67108863) ?_ rfl rfl HT_ (by kernel_rfl) (fun _ _ _ h => h) rfl ?_ ?_ ?_ ?_; rotate_left; (intro w'; go_simp; with_reducible rfl); rotate_left; (simp only [zs]; rfl)
             refine done_ (done_of HT_.out (by kernel_rfl)) ?_
             try go_wp2
             go_meet
             case rel => exact ⟨_, (true), (by first | rfl ), H', ⟨by have := HJ1.out; first | omega | exact Nat.le_refl _⟩, ⟨by exact HO420.out⟩, ⟨by exact BK414.out⟩, ⟨by exact HB.out⟩⟩
           · rw [if_neg c24] at H
             have c24b0 : decide ((l0_1.length : Int) < (t418.length : Int)) = false := decide_eq_false c24
             have c24b1 : decide (l0_1.length < t418.length) = false := decide_eq_false (fun h => c24 (Int.ofNat_lt.mpr h))
             clear c24
             by_cases c27 : 0 < (t418.length : Int)
             · rw [if_pos c27] at H
               have c27b0 : decide (0 < (t418.length : Int)) = true := decide_eq_true c27
               have c27b1 : decide (0 < t418.length) = true := decide_eq_true (by omega)
               clear c27
               by_cases c28 : 0 < (l0_1.length : Int)
               · rw [if_pos c28] at H
                 have c28b0 : decide (0 < (l0_1.length : Int)) = true := decide_eq_true c28
                 have c28b1 : decide (0 < l0_1.length) = true := decide_eq_true (by omega)
                 clear c28
                 have H' := Aside0.mk H
                 clear H
                 try go_wp2
                 have n0_ := Aside0.mk (Kd.R_drew HO420.out)
                 have n1_ := Aside0.mk (blk_drew BK414.out)
                 have n2_ := Aside0.mk (below_drew1 HB.out)
                 clear HO420
                 clear BK414
                 clear HB
                 have HO420 := n0_
                 have BK414 := n1_
                 have HB := n2_
                 clear n0_ n1_ n2_
                 obtain ⟨Ao30, co30, eo30⟩ := Kd.R_slice HO420.out
                 (first | subst eo30 )
                 have p422 : 0 ≤ (0 : Int) := (by omega)
                 have q422 : 0 < (t418.length : Int) := of_decide_eq_true (by first | (with_reducible assumption) )
                 obtain ⟨ad422, e422, hx422_0⟩ := Kd.at_string (Kd.R_reads' HO420.out).2.2 0 p422 q422
                 cases e422
                 have qi422 : (0 < t418.length) = True := eq_true (by omega)
                 (try rw [show ((0 : Int)).toNat = 0 from rfl] at hx422_0)
                 (try rw [Addr.add_zero'] at hx422_0)
                 replace p422 := eq_true p422
                 replace q422 := eq_true q422
                 have p423 : 0 ≤ (0 : Int) := (by omega)
                 have q423 : 0 < (l0_1.length : Int) := of_decide_eq_true (by first | (with_reducible assumption) )
                 obtain ⟨ad423, A423_1, c423_1, A423_2, c423_2, e423, hx423_0, hx423_1, hx423_2, hl423_1, hi423_1, hl423_2, hi423_2⟩ := at_T47 HR0_1.out 0 p423 q423
                 have hw423_2 := hx423_2
                 (try rw [show ((0 : Int)).toNat = 0 from rfl] at hw423_2)
                 (try rw [show 0 * 3 = 0 from rfl] at hw423_2)
                 (try rw [Addr.add_zero'] at hw423_2)
                 have hw423_1 := hx423_1
                 (try rw [show ((0 : Int)).toNat = 0 from rfl] at hw423_1)
                 (try rw [show 0 * 3 = 0 from rfl] at hw423_1)
                 (try rw [Addr.add_zero'] at hw423_1)
                 have hw423_0 := hx423_0
                 (try rw [show ((0 : Int)).toNat = 0 from rfl] at hw423_0)
                 (try rw [show 0 * 3 = 0 from rfl] at hw423_0)
                 (try rw [Addr.add_zero'] at hw423_0)
                 cases e423
                 have qi423 : (0 < l0_1.length) = True := eq_true (by omega)
                 (try rw [show ((0 : Int)).toNat = 0 from rfl] at hx423_0)
                 (try rw [show 0 * 3 = 0 from rfl] at hx423_0)
                 (try rw [Addr.add_zero'] at hx423_0)
                 (try rw [show ((0 : Int)).toNat = 0 from rfl] at hx423_1)
                 (try rw [show 0 * 3 = 0 from rfl] at hx423_1)
                 (try rw [Addr.add_zero'] at hx423_1)
                 (try rw [show ((0 : Int)).toNat = 0 from rfl] at hx423_2)
                 (try rw [show 0 * 3 = 0 from rfl] at hx423_2)
                 (try rw [Addr.add_zero'] at hx423_2)
                 replace hx423_0 := (HB.out.cell (World.block_lt_of_cell? w _ hx423_0)).trans hx423_0
                 replace hx423_1 := (HB.out.cell (World.block_lt_of_cell? w _ hx423_1)).trans hx423_1
                 replace hx423_2 := (HB.out.cell (World.block_lt_of_cell? w _ hx423_2)).trans hx423_2
                 have HR423_1 := Aside0.mk hi423_1
                 have HC423_1 := Aside0.mk hl423_1
                 clear hi423_1 hl423_1
                 have HR423_2 := Aside0.mk hi423_2
                 have HC423_2 := Aside0.mk hl423_2
                 clear hi423_2 hl423_2
                 replace p423 := eq_true p423
                 replace q423 := eq_true q423
                 refine start_ (n := 26) (S := fun w' => w'.cell? ⟨gb414, 0, none⟩ = some (.slice A0_0 l0_0.length c0_0) ∧ w'.cell? ⟨gb414, 1, none⟩ = some (.slice (some ad423) l0_1.length c0_1) ∧ w'.cell? ad422 = some (.string (rdOf ByteArray.empty t418 0)) ∧ w'.cell? ad423 = some (.string ((rd_T47 l0_1 0).f0)) ∧ w'.cell? ⟨ad423.block, ad423.off + 1, none⟩ = some (.slice A423_1 ((rd_T47 l0_1 0).f1).length c423_1) ∧ w'.cell? ⟨ad423.block, ad423.off + 2, none⟩ = some (.slice A423_2 ((rd_T47 l0_1 0).f2).length c423_2)) (ds := []) #[false, false, false, false, false, false, false, false, false, false, false, false, false, false, false, false, false, false, false, false, false, false, false, false, false, false] (by kernel_rfl) rfl rfl ⟨(blk_cell BK414.out 0).trans rfl, (blk_cell BK414.out 1).trans rfl, hx422_0, ((HB.out.cell (World.block_lt_of_cell? w _ hw423_0)).trans hw423_0), ((HB.out.cell (World.block_lt_of_cell? w _ hw423_1)).trans hw423_1), ((HB.out.cell (World.block_lt_of_cell? w _ hw423_2)).trans hw423_2)⟩ (fun hHeld => ?_); refine with_tabW ecdysislaw16_FindCloses.tab4 ecdysislaw16_FindCloses.bits4 (fun HT_ HW_ => ?_)
                 generalize w19.drew = w29 at HO420 BK414 HB HR423_1 HR423_2 hx422_0 hx423_0 hx423_1 hx423_2 hHeld ⊢
                 refine zp 0 (zb 26 1) ?_ rfl rfl HT_ (by kernel_rfl) (fun _ _ _ h => h) rfl ?_ ?_ ?_ ?_; rotate_left; (intro w'; go_simp; with_reducible rfl); rotate_left; (simp only [zs]; rfl)
                 refine zp 1 (zb 26 3) ?_ rfl rfl HT_ (by kernel_rfl) (fun _ _ _ h => h) rfl ?_ ?_ ?_ ?_; rotate_left; (intro w'; go_simp; with_reducible rfl); rotate_left; (simp only [zs]; rfl)
                 refine zp 2 (zb 26 7) ?_ rfl rfl HT_ (by kernel_rfl) (fun _ _ _ h => h) rfl ?_ ?_ ?_ ?_; rotate_left; (intro w'; go_simp; with_reducible rfl); rotate_left; (simp only [zs]; rfl)
                 refine zp 3 (zb 26 15) ?_ rfl rfl HT_ (by kernel_rfl) (fun _ _ _ h => h) rfl ?_ ?_ ?_ ?_; rotate_left; (intro w'; go_simp; with_reducible rfl); rotate_left; (simp only [zs]; rfl)
                 refine zp 4 (zb 26 31) ?_ rfl rfl HT_ (by kernel_rfl) (fun _ _ _ h => h) rfl ?_ ?_ ?_ ?_; rotate_left; (intro w'; go_simp; with_reducible rfl); rotate_left; (simp only [zs]; rfl)
                 refine zp 5 (zb 26 63) ?_ rfl rfl HT_ (by kernel_rfl) (fun _ _ _ h => h) rfl ?_ ?_ ?_ ?_; rotate_left; (intro w'; go_simp; with_reducible rfl); rotate_left; (simp only [zs]; rfl)
                 refine zp 6 (zb 26 127) ?_ rfl rfl HT_ (by kernel_rfl) (fun _ _ _ h => h) rfl ?_ ?_ ?_ ?_; rotate_left; (intro w'; go_simp; with_reducible rfl); rotate_left; (simp only [zs]; rfl)
                 refine zp 7 (zb 26 255) ?_ rfl rfl HT_ (by kernel_rfl) (fun _ _ _ h => h) rfl ?_ ?_ ?_ ?_; rotate_left; (intro w'; go_simp; with_reducible rfl); rotate_left; (simp only [zs]; rfl)
                 refine zp 8 (zb 26 511) ?_ rfl rfl HT_ (by kernel_rfl) (fun _ _ _ h => h) rfl ?_ ?_ ?_ ?_; rotate_left; (intro w'; go_simp; with_reducible rfl); rotate_left; (simp only [zs]; rfl)
                 refine zp 9 (zb 26 1023) ?_ rfl rfl HT_ (by kernel_rfl) (fun _ _ _ h => h) rfl ?_ ?_ ?_ ?_; rotate_left; (intro w'; go_simp; with_reducible rfl); rotate_left; (simp only [zs]; rfl)
                 refine zp 10 (zb 26 2047) ?_ rfl rfl HT_ (by kernel_rfl) (fun _ _ _ h => h) rfl ?_ ?_ ?_ ?_; rotate_left; (intro w'; go_simp; with_reducible rfl); rotate_left; (simp only [zs]; rfl)
                 refine zt 11 (zb 26 4095) ?_ rfl rfl HT_ HW_ (by kernel_rfl) (fun _ _ _ h => h) rfl ?_ hHeld ?_ ?_ ?_; rotate_left; (rintro w' ⟨s0, s1, s2, s3, s4, s5⟩; go_simp; with_reducible rfl); rotate_left; (simp only [zs]; rfl)
                 refine zp 12 (zb 26 8191) ?_ rfl rfl HT_ (by kernel_rfl) (fun _ _ _ h => h) rfl ?_ ?_ ?_ ?_; rotate_left; (intro w'; go_simp; with_reducible rfl); rotate_left; (simp only [zs]; rfl)
                 refine zp 13 (zb 26 16383) ?_ rfl rfl HT_ (by kernel_rfl) (fun _ _ _ h => h) rfl ?_ ?_ ?_ ?_; rotate_left; (intro w'; go_simp; with_reducible rfl); rotate_left; (simp only [zs]; rfl)
                 refine zp 14 (zb 26 32767) ?_ rfl rfl HT_ (by kernel_rfl) (fun _ _ _ h => h) rfl ?_ ?_ ?_ ?_; rotate_left; (intro w'; go_simp; with_reducible rfl); rotate_left; (simp only [zs]; rfl)
                 refine zp 15 (zb 26 65535) ?_ rfl rfl HT_ (by kernel_rfl) (fun _ _ _ h => h) rfl ?_ ?_ ?_ ?_; rotate_left; (intro w'; go_simp; with_reducible rfl); rotate_left; (simp only [zs]; rfl)
                 refine zp 16 (zb 26 131071) ?_ rfl rfl HT_ (by kernel_rfl) (fun _ _ _ h => h) rfl ?_ ?_ ?_ ?_; rotate_left; (intro w'; go_simp; with_reducible rfl); rotate_left; (simp only [zs]; rfl)
                 refine zp 17 (zb 26 262143) ?_ rfl rfl HT_ (by kernel_rfl) (fun _ _ _ h => h) rfl ?_ ?_ ?_ ?_; rotate_left; (intro w'; go_simp; with_reducible rfl); rotate_left; (simp only [zs]; rfl)
                 refine zp 19 (zb 26 786431) ?_ rfl rfl HT_ (by kernel_rfl) (fun _ _ _ h => h) rfl ?_ ?_ ?_ ?_; rotate_left; (intro w'; go_simp; with_reducible rfl); rotate_left; (simp only [zs]; rfl)
                 refine zt 18 (zb 26 1048575) ?_ rfl rfl HT_ HW_ (by kernel_rfl) (fun _ _ _ h => h) rfl ?_ hHeld ?_ ?_ ?_; rotate_left; (rintro w' ⟨s0, s1, s2, s3, s4, s5⟩; go_simp; with_reducible rfl); rotate_left; (simp only [zs]; rfl)
                 refine zt 20 (zb 26 2097151) ?_ rfl rfl HT_ HW_ (by kernel_rfl) (fun _ _ _ h => h) rfl ?_ hHeld ?_ ?_ ?_; rotate_left; (rintro w' ⟨s0, s1, s2, s3, s4, s5⟩; go_simp; with_reducible rfl); rotate_left; (simp only [zs]; rfl)
                 refine zp 21 (zb 26 4194303) ?_ rfl rfl HT_ (by kernel_rfl) (fun _ _ _ h => h) rfl ?_ ?_ ?_ ?_; rotate_left; (intro w'; go_simp; with_reducible rfl); rotate_left; (simp only [zs]; rfl)
                 refine zp 22 (zb 26 8388607) ?_ rfl rfl HT_ (by kernel_rfl) (fun _ _ _ h => h) rfl ?_ ?_ ?_ ?_; rotate_left; (intro w'; go_simp; with_reducible rfl); rotate_left; (simp only [zs]; rfl)
                 refine zt 23 (zb 26 16777215) ?_ rfl rfl HT_ HW_ (by kernel_rfl) (fun _ _ _ h => h) rfl ?_ hHeld ?_ ?_ ?_; rotate_left; (rintro w' ⟨s0, s1, s2, s3, s4, s5⟩; go_simp; with_reducible rfl); rotate_left; (simp only [zs]; rfl)
                 refine zp 24 (zb 26 33554431) ?_ rfl rfl HT_ (by kernel_rfl) (fun _ _ _ h => h) rfl ?_ ?_ ?_ ?_; rotate_left; (intro w'; go_simp; with_reducible rfl); rotate_left; (simp only [zs]; rfl)
                 refine zp 25 (zb 26 67108863) ?_ rfl rfl HT_ (by kernel_rfl) (fun _ _ _ h => h) rfl ?_ ?_ ?_ ?_; rotate_left; (intro w'; go_simp; with_reducible rfl); rotate_left; (simp only [zs]; rfl)
                 refine done_ (done_of HT_.out (by kernel_rfl)) ?_
                 try go_wp2
                 go_meet
                 case rel => exact ⟨_, (((rdOf ByteArray.empty t418 0).toList != ((rd_T47 l0_1 0).f0).toList)), (by first | rfl ), H', ⟨by have := HJ1.out; first | omega | exact Nat.le_refl _⟩, ⟨by exact HO420.out⟩, ⟨by exact BK414.out⟩, ⟨by exact HB.out⟩⟩
               · rw [if_neg c28] at H
                 exact absurd H (by simp)
             · rw [if_neg c27] at H
               exact absurd H (by simp)
       · replace c20 := Bool.eq_false_iff.mpr c20
         subst c20
         have H1 : (ecdysislaw16_FindCloses.j1 kj1 t418 true l0_0 l0_1) = some r := by rw [if_neg (show ¬ (false = true) by decide)] at H; exact H
         clear H
         have H := H1
         clear H1
         have H' := Aside0.mk H
         clear H
         try go_wp2
         have n0_ := Aside0.mk (Kd.R_drew HO420.out)
         have n1_ := Aside0.mk (blk_drew BK414.out)
         have n2_ := Aside0.mk (below_drew1 HB.out)
         clear HO420
         clear BK414
         clear HB
         have HO420 := n0_
         have BK414 := n1_
         have HB := n2_
         clear n0_ n1_ n2_
         refine start_ (n := 26) (S := fun w' => True) (ds := []) #[false, false, false, false, false, false, false, false, false, false, false, false, false, false, false, false, false, false, false, false, false, false, false, false, false, false] (by kernel_rfl) rfl rfl trivial (fun hHeld => ?_); refine with_tabW ecdysislaw16_FindCloses.tab4 ecdysislaw16_FindCloses.bits4 (fun HT_ HW_ => ?_)
         generalize w19.drew = w31 at HO420 BK414 HB hHeld ⊢
         refine zp 0 (zb 26 1) ?_ rfl rfl HT_ (by kernel_rfl) (fun _ _ _ h => h) rfl ?_ ?_ ?_ ?_; rotate_left; (intro w'; go_simp; with_reducible rfl); rotate_left; (simp only [zs]; rfl)
         refine zp 1 (zb 26 3) ?_ rfl rfl HT_ (by kernel_rfl) (fun _ _ _ h => h) rfl ?_ ?_ ?_ ?_; rotate_left; (intro w'; go_simp; with_reducible rfl); rotate_left; (simp only [zs]; rfl)
         refine zp 2 (zb 26 7) ?_ rfl rfl HT_ (by kernel_rfl) (fun _ _ _ h => h) rfl ?_ ?_ ?_ ?_; rotate_left; (intro w'; go_simp; with_reducible rfl); rotate_left; (simp only [zs]; rfl)
         refine zn 3 (zb 26 15) rfl rfl HT_ (by kernel_rfl) (fun _ _ _ h => h) rfl ?_ ?_ ?_; rotate_left; (simp only [zs]; rfl)
         refine zn 4 (zb 26 31) rfl rfl HT_ (by kernel_rfl) (fun _ _ _ h => h) rfl ?_ ?_ ?_; rotate_left; (simp only [zs]; rfl)
         refine zn 5 (zb 26 63) rfl rfl HT_ (by kernel_rfl) (fun _ _ _ h => h) rfl ?_ ?_ ?_; rotate_left; (simp only [zs]; rfl)
         refine zp 6 (zb 26 127) ?_ rfl rfl HT_ (by kernel_rfl) (fun _ _ _ h => h) rfl ?_ ?_ ?_ ?_; rotate_left; (intro w'; go_simp; with_reducible rfl); rotate_left; (simp only [zs]; rfl)
         refine zp 7 (zb 26 255) ?_ rfl rfl HT_ (by kernel_rfl) (fun _ _ _ h => h) rfl ?_ ?_ ?_ ?_; rotate_left; (intro w'; go_simp; with_reducible rfl); rotate_left; (simp only [zs]; rfl)
         refine zn 8 (zb 26 511) rfl rfl HT_ (by kernel_rfl) (fun _ _ _ h => h) rfl ?_ ?_ ?_; rotate_left; (simp only [zs]; rfl)
         refine zn 9 (zb 26 1023) rfl rfl HT_ (by kernel_rfl) (fun _ _ _ h => h) rfl ?_ ?_ ?_; rotate_left; (simp only [zs]; rfl)
         refine zn 10 (zb 26 2047) rfl rfl HT_ (by kernel_rfl) (fun _ _ _ h => h) rfl ?_ ?_ ?_; rotate_left; (simp only [zs]; rfl)
         refine zn 11 (zb 26 4095) rfl rfl HT_ (by kernel_rfl) (fun _ _ _ h => h) rfl ?_ ?_ ?_; rotate_left; (simp only [zs]; rfl)
         refine zn 12 (zb 26 8191) rfl rfl HT_ (by kernel_rfl) (fun _ _ _ h => h) rfl ?_ ?_ ?_; rotate_left; (simp only [zs]; rfl)
         refine zn 13 (zb 26 16383) rfl rfl HT_ (by kernel_rfl) (fun _ _ _ h => h) rfl ?_ ?_ ?_; rotate_left; (simp only [zs]; rfl)
         refine zp 14 (zb 26 32767) ?_ rfl rfl HT_ (by kernel_rfl) (fun _ _ _ h => h) rfl ?_ ?_ ?_ ?_; rotate_left; (intro w'; go_simp; with_reducible rfl); rotate_left; (simp only [zs]; rfl)
         refine zp 15 (zb 26 65535) ?_ rfl rfl HT_ (by kernel_rfl) (fun _ _ _ h => h) rfl ?_ ?_ ?_ ?_; rotate_left; (intro w'; go_simp; with_reducible rfl); rotate_left; (simp only [zs]; rfl)
         refine zn 16 (zb 26 131071) rfl rfl HT_ (by kernel_rfl) (fun _ _ _ h => h) rfl ?_ ?_ ?_; rotate_left; (simp only [zs]; rfl)
         refine zn 17 (zb 26 262143) rfl rfl HT_ (by kernel_rfl) (fun _ _ _ h => h) rfl ?_ ?_ ?_; rotate_left; (simp only [zs]; rfl)
         refine zn 18 (zb 26 524287) rfl rfl HT_ (by kernel_rfl) (fun _ _ _ h => h) rfl ?_ ?_ ?_; rotate_left; (simp only [zs]; rfl)
         refine zn 19 (zb 26 1048575) rfl rfl HT_ (by kernel_rfl) (fun _ _ _ h => h) rfl ?_ ?_ ?_; rotate_left; (simp only [zs]; rfl)
         refine zn 20 (zb 26 2097151) rfl rfl HT_ (by kernel_rfl) (fun _ _ _ h => h) rfl ?_ ?_ ?_; rotate_left; (simp only [zs]; rfl)
         refine zn 21 (zb 26 4194303) rfl rfl HT_ (by kernel_rfl) (fun _ _ _ h => h) rfl ?_ ?_ ?_; rotate_left; (simp only [zs]; rfl)
         refine zn 22 (zb 26 8388607) rfl rfl HT_ (by kernel_rfl) (fun _ _ _ h => h) rfl ?_ ?_ ?_; rotate_left; (simp only [zs]; rfl)
         refine zn 23 (zb 26 16777215) rfl rfl HT_ (by kernel_rfl) (fun _ _ _ h => h) rfl ?_ ?_ ?_; rotate_left; (simp only [zs]; rfl)
         refine zn 24 (zb 26 33554431) rfl rfl HT_ (by kernel_rfl) (fun _ _ _ h => h) rfl ?_ ?_ ?_; rotate_left; (simp only [zs]; rfl)
         refine zp 25 (zb 26 67108863) ?_ rfl rfl HT_ (by kernel_rfl) (fun _ _ _ h => h) rfl ?_ ?_ ?_ ?_; rotate_left; (intro w'; go_simp; with_reducible rfl); rotate_left; (simp only [zs]; rfl)
         refine done_ (done_of HT_.out (by kernel_rfl)) ?_
         try go_wp2
         go_meet
         case rel => exact ⟨_, (true), (by first | rfl ), H', ⟨by have := HJ1.out; first | omega | exact Nat.le_refl _⟩, ⟨by exact HO420.out⟩, ⟨by exact BK414.out⟩, ⟨by exact HB.out⟩⟩
      case rest =>
       clear HC17
       try clear c2
       try clear p2
       try clear c4
       try clear p4
       try clear q4
       try clear hx4
       try clear qi4
       try clear c20
       try clear c24
       try clear c24b0
       try clear c24b1
       try clear c27
       try clear c27b0
       try clear c27b1
       try clear c28
       try clear c28b0
       try clear c28b1
       try clear hx422_0
       try clear hx423_0
       try clear hx423_1
       try clear hx423_2
       try clear p422
       try clear p423
       try clear q422
       try clear q423
       obtain ⟨kq, x51_16, rfl, HA, HJ16, HO_3, BK414, HB⟩ := hcut
       cases kq with
       | zero => exact absurd HA.out (by simp [ecdysislaw16_FindCloses.j1])
       | succ kj16 =>
         have H := HA.out
         clear HA
         simp only [ecdysislaw16_FindCloses.j1] at H
         by_cases c32 : x51_16 = true
         · subst c32
           have H1 : (some false) = some r := by rw [if_pos rfl] at H; exact H
           clear H
           have H := H1
           clear H1
           obtain rfl := Option.some.inj H
           go_wp2
           go_ret
           exact ⟨by first | rfl , by exact HB.out⟩
         · replace c32 := Bool.eq_false_iff.mpr c32
           subst c32
           have H1 : (ecdysislaw16_FindCloses.l0 kj16 t418 0 l0_0 l0_1) = some r := by rw [if_neg (show ¬ (false = true) by decide)] at H; exact H
           clear H
           have H := H1
           clear H1
           have H' := Aside0.mk H
           clear H
           go_wp2
           go_loopg [5] kj16 (fun kq v5 w' => ∃ (x5_3 : Int), v5 = .int .i64 x5_3 ∧ Aside0 (ecdysislaw16_FindCloses.l0 kq t418 x5_3 l0_0 l0_1 = some r) ∧ Aside0 (kq ≤ kj16) ∧ Aside0 (Kd.R Kd.string 9 w' w.heap.size (fun _ => True) v419 t418) ∧ Aside0 (w'.heap[gb414]? = some (.cells #[(.slice A0_0 l0_0.length c0_0), (.slice A0_1 l0_1.length c0_1)] 35 (0, 0))) ∧ Aside0 (Below w.heap.size w w'))
           case atStart => exact ⟨(0), (by first | rfl ), H', ⟨Nat.le_refl _⟩, ⟨by exact HO_3.out⟩, ⟨by exact BK414.out⟩, ⟨by exact HB.out⟩⟩
           case round =>
             clear H'
             try clear c2
             try clear p2
             try clear c3
             try clear c4
             try clear p4
             try clear q4
             try clear hx4
             try clear qi4
             try clear c20
             try clear c24
             try clear c24b0
             try clear c24b1
             try clear c27
             try clear c27b0
             try clear c27b1
             try clear c28
             try clear c28b0
             try clear c28b1
             try clear c32
             try clear hx422_0
             try clear hx423_0
             try clear hx423_1
             try clear hx423_2
             try clear p2
             try clear p4
             try clear p422
             try clear p423
             try clear q4
             try clear q422
             try clear q423
             obtain ⟨x5_3, rfl, HA, HK3, HO_3, BK414, HB⟩ := hrel
             cases gk with
             | zero => exact absurd HA.out (by simp [ecdysislaw16_FindCloses.l0])
             | succ k3 =>
               have H := HA.out
               clear HA
               simp only [ecdysislaw16_FindCloses.l0] at H
               by_cases c33 : x5_3 < (t418.length : Int)
               · rw [if_pos c33] at H
                 have c33b0 : decide (x5_3 < (t418.length : Int)) = true := decide_eq_true c33
                 clear c33
                 by_cases c34 : 0 ≤ x5_3
                 · rw [if_pos c34] at H
                   have c34b0 : decide (0 ≤ x5_3) = true := decide_eq_true c34
                   clear c34
                   replace H := Option.bind_eq_some_iff.mp H
                   obtain ⟨t426, A350, H⟩ := H
                   replace H : (ecdysislaw16_FindCloses.l1 k3 t418 x5_3 t426 0 l0_0 l0_1) = some r := H
                   have A35 := Aside0.mk A350
                   clear A350
                   have H' := Aside0.mk H
                   clear H
                   obtain ⟨Ao36, co36, eo36⟩ := Kd.R_slice HO_3.out
                   subst eo36
                   try go_wp2
                   have n0_ := Aside0.mk (Kd.R_drew HO_3.out)
                   have n1_ := Aside0.mk (blk_drew BK414.out)
                   have n2_ := Aside0.mk (below_drew1 HB.out)
                   clear HO_3
                   clear BK414
                   clear HB
                   have HO_3 := n0_
                   have BK414 := n1_
                   have HB := n2_
                   clear n0_ n1_ n2_
                   have p425 : 0 ≤ (x5_3 : Int) := of_decide_eq_true (by first | (with_reducible assumption) )
                   have q425 : x5_3 < (t418.length : Int) := of_decide_eq_true (by first | (with_reducible assumption) )
                   obtain ⟨ad425, e425, hx425_0⟩ := Kd.at_string (Kd.R_reads' HO_3.out).2.2 x5_3 p425 q425
                   cases e425
                   replace p425 := eq_true p425
                   replace q425 := eq_true q425
                   refine start_ (n := 7) (S := fun w' => w'.cell? ⟨gb414, 0, none⟩ = some (.slice A0_0 l0_0.length c0_0) ∧ w'.cell? ⟨gb414, 1, none⟩ = some (.slice A0_1 l0_1.length c0_1) ∧ w'.cell? (ad425.add (x5_3).toNat) = some (.string (rdOf ByteArray.empty t418 x5_3))) (ds := []) #[false, false, false, false, false, false, false] (by kernel_rfl) rfl rfl ⟨(blk_cell BK414.out 0).trans rfl, (blk_cell BK414.out 1).trans rfl, hx425_0⟩ (fun hHeld => ?_)
                   generalize wr.drew = w37 at HO_3 BK414 HB hx425_0 hHeld ⊢
                   refine pure_ (i := 1) (N := some 59) (v := ?_) (a' := ?_) #[false, true, false, false, false, false, false] rfl rfl (by kernel_rfl) (fun _ _ _ h => h) (Or.inl ⟨by rfl, ?_⟩) ?_ ?_
                   rotate_left
                   · intro w'
                     go_simp
                     with_reducible rfl
                   rotate_left
                   · simp only [zs]
                     rfl
                   refine pure_ (i := 2) (N := some 60) (v := ?_) (a' := ?_) #[false, true, true, false, false, false, false] rfl rfl (by kernel_rfl) (fun _ _ _ h => h) (Or.inl ⟨by rfl, ?_⟩) ?_ ?_
                   rotate_left
                   · intro w'
                     go_simp
                     with_reducible rfl
                   rotate_left
                   · simp only [zs]
                     rfl
                   refine pure_ (i := 3) (N := some 61) (v := ?_) (a' := ?_) #[false, true, true, true, false, false, false] rfl rfl (by kernel_rfl) (fun _ _ _ h => h) (Or.inl ⟨by rfl, ?_⟩) ?_ ?_
                   rotate_left
                   · intro w'
                     go_simp
                     with_reducible rfl
                   rotate_left
                   · simp only [zs]
                     rfl
                   refine take_ (i := 0) (N := some 58) (v := ?_) (a' := ?_) #[true, true, true, true, false, false, false] rfl rfl (by kernel_rfl) (fun _ _ _ h => h) (Or.inl ⟨by rfl, ?_⟩) hHeld ?_ ?_
                   rotate_left
                   · rintro w' ⟨s0, s1, s2⟩
                     go_simp
                     with_reducible rfl
                   rotate_left
                   · simp only [zs]
                     rfl
                   refine take_ (i := 4) (N := some 62) (v := ?_) (a' := ?_) #[true, true, true, true, true, false, false] rfl rfl (by kernel_rfl) (fun _ _ _ h => h) (Or.inl ⟨by rfl, ?_⟩) hHeld ?_ ?_
                   rotate_left
                   · rintro w' ⟨s0, s1, s2⟩
                     go_simp
                     with_reducible rfl
                   rotate_left
                   · simp only [zs]
                     rfl
                   refine one_ (i := 5) (N := some 63) #[true, true, true, true, true, true, false] rfl rfl (by kernel_rfl) (by decide) (fun K hK => ?_)
                   refine goes_ Try.func27 (by kernel_rfl) rfl #[.agg #[.slice A0_0 l0_0.length c0_0, .slice A0_1 l0_1.length c0_1], .string (rdOf ByteArray.empty t418 x5_3)] (by rfl) rfl rfl (by (try simp only [List.map_toArray, List.map_cons, List.map_nil]); first | done | rfl | (simp only [List.length_drop, List.length_take]; rfl)) ?_
                   with_reducible refine (ecdysisref15_Message.calls k3 _ _ l0_0 _ _ l0_1 (rdOf ByteArray.empty t418 x5_3) t426 _ ?side1 ?side2 ?side3 ?side4 A35.out).mono ?_
                   (case side1 => repeat (first | exact (Kd.C_below HR0_0.out HB.out) ))
                   (case side2 => exact HC0_0.out)
                   (case side3 => repeat (first | exact (Kd.C_below HR0_1.out HB.out) ))
                   (case side4 => exact HC0_1.out)
                   rintro e w38 ⟨rfl, hb⟩
                   have HS2_ := (hb.cell (World.block_lt_of_cell? _ _ (hHeld.2.2))).trans (hHeld.2.2)
                   refine ⟨_, rfl, ?_⟩
                   have n0_ := Aside0.mk (Kd.R_below HO_3.out hb)
                   have n1_ := Aside0.mk (blk_below BK414.out hb)
                   have n2_ := Aside0.mk (below_step HB.out hb)
                   clear HO_3
                   clear BK414
                   clear HB
                   have HO_3 := n0_
                   have BK414 := n1_
                   have HB := n2_
                   clear n0_ n1_ n2_
                   (try clear hb)
                   (try clear hb2)
                   (try clear hk)
                   (try clear hi)
                   refine hK.out _ _ ⟨(blk_cell BK414.out 0).trans rfl, (blk_cell BK414.out 1).trans rfl, HS2_⟩ (fun hHeld => ?_)
                   clear hK K
                   refine norm_ (a' := ?_) ?_ ?_
                   rotate_left
                   · show Act.put _ (some 63) _ = _
                     simp only [zs]
                     rfl
                   refine pure_ (i := 6) (N := some 6) (v := ?_) (a' := ?_) #[true, true, true, true, true, true, true] rfl rfl (by kernel_rfl) (fun _ _ _ h => h) (Or.inl ⟨by rfl, ?_⟩) ?_ ?_
                   rotate_left
                   · intro w'
                     go_simp
                     with_reducible rfl
                   rotate_left
                   · simp only [zs]
                     rfl
                   refine done_ (by kernel_rfl) ?_
                   try go_wp2
                   go_loopg [7] k3 (fun kq v7 w' => ∃ (x7_4 : Int), v7 = .int .i64 x7_4 ∧ Aside0 (ecdysislaw16_FindCloses.l1 kq t418 x5_3 t426 x7_4 l0_0 l0_1 = some r) ∧ Aside0 (kq ≤ k3) ∧ Aside0 (Kd.R Kd.string 9 w' w.heap.size (fun _ => True) (.slice (some ad425) t418.length co36) t418) ∧ Aside0 (w'.heap[gb414]? = some (.cells #[(.slice A0_0 l0_0.length c0_0), (.slice A0_1 l0_1.length c0_1)] 35 (0, 0))) ∧ Aside0 (Below w.heap.size w w'))
                   case atStart => exact ⟨(0), (by first | rfl ), H', ⟨Nat.le_refl _⟩, ⟨by exact HO_3.out⟩, ⟨by exact BK414.out⟩, ⟨by exact HB.out⟩⟩
                   case round =>
                     clear H'
                     try clear c2
                     try clear p2
                     try clear c3
                     try clear c4
                     try clear p4
                     try clear q4
                     try clear hx4
                     try clear qi4
                     try clear c20
                     try clear c24
                     try clear c24b0
                     try clear c24b1
                     try clear c27
                     try clear c27b0
                     try clear c27b1
                     try clear c28
                     try clear c28b0
                     try clear c28b1
                     try clear c32
                     try clear c33
                     try clear c33b0
                     try clear c34
                     try clear c34b0
                     try clear hx422_0
                     try clear hx423_0
                     try clear hx423_1
                     try clear hx423_2
                     try clear hx425_0
                     try clear p2
                     try clear p4
                     try clear p422
                     try clear p423
                     try clear p425
                     try clear q4
                     try clear q422
                     try clear q423
                     try clear q425
                     obtain ⟨x7_4, rfl, HA, HK4, HO_3, BK414, HB⟩ := hrel
                     cases gk with
                     | zero => exact absurd HA.out (by simp [ecdysislaw16_FindCloses.l1])
                     | succ k4 =>
                      have H := HA.out
                      clear HA
                      simp only [ecdysislaw16_FindCloses.l1] at H
                      by_cases c39 : x7_4 < x5_3
                      · rw [if_pos c39] at H
                        have c39b0 : decide (x7_4 < x5_3) = true := decide_eq_true c39
                        clear c39
                        by_cases c40 : 0 ≤ x7_4
                        · rw [if_pos c40] at H
                          have c40b0 : decide (0 ≤ x7_4) = true := decide_eq_true c40
                          clear c40
                          by_cases c41 : x7_4 < (t418.length : Int)
                          · rw [if_pos c41] at H
                            have c41b0 : decide (x7_4 < (t418.length : Int)) = true := decide_eq_true c41
                            clear c41
                            by_cases c42 : 0 ≤ x5_3
                            · rw [if_pos c42] at H
                              have c42b0 : decide (0 ≤ x5_3) = true := decide_eq_true c42
                              clear c42
                              by_cases c43 : x5_3 < (t418.length : Int)
                              · rw [if_pos c43] at H
                                have c43b0 : decide (x5_3 < (t418.length : Int)) = true := decide_eq_true c43
                                clear c43
                                by_cases c44 : (rdOf ByteArray.empty t418 x7_4).toList = (rdOf ByteArray.empty t418 x5_3).toList
                                · rw [if_pos c44] at H
                                  have c44b0 : ((rdOf ByteArray.empty t418 x7_4).toList == (rdOf ByteArray.empty t418 x5_3).toList) = true := beq_iff_eq.mpr c44
                                  have c44b1 : ((rdOf ByteArray.empty t418 x7_4).toList != (rdOf ByteArray.empty t418 x5_3).toList) = false := bne_eq_false_iff_eq.mpr c44
                                  clear c44
                                  obtain rfl := Option.some.inj H
                                  try go_wp2
                                  have n0_ := Aside0.mk (Kd.R_drew HO_3.out)
                                  have n1_ := Aside0.mk (blk_drew BK414.out)
                                  have n2_ := Aside0.mk (below_drew1 HB.out)
                                  clear HO_3
                                  clear BK414
                                  clear HB
                                  have HO_3 := n0_
                                  have BK414 := n1_
                                  have HB := n2_
                                  clear n0_ n1_ n2_
                                  have p427 : 0 ≤ (x7_4 : Int) := of_decide_eq_true (by first | (with_reducible assumption) )
                                  have q427 : x7_4 < (t418.length : Int) := of_decide_eq_true (by first | (with_reducible assumption) )
                                  obtain ⟨ad427, e427, hx427_0⟩ := Kd.at_string (Kd.R_reads' HO_3.out).2.2 x7_4 p427 q427
                                  obtain rfl : ad425 = ad427 := (by injection e427)
                                  replace p427 := eq_true p427
                                  replace q427 := eq_true q427
                                  have p428 : 0 ≤ (x5_3 : Int) := of_decide_eq_true (by first | (with_reducible assumption) )
                                  have q428 : x5_3 < (t418.length : Int) := of_decide_eq_true (by first | (with_reducible assumption) )
                                  obtain ⟨ad428, e428, hx428_0⟩ := Kd.at_string (Kd.R_reads' HO_3.out).2.2 x5_3 p428 q428
                                  obtain rfl : ad425 = ad428 := (by injection e428)
                                  replace p428 := eq_true p428
                                  replace q428 := eq_true q428
                                  refine start_ (n := 9) (S := fun w' => w'.cell? (ad425.add (x7_4).toNat) = some (.string (rdOf ByteArray.empty t418 x7_4)) ∧ w'.cell? (ad425.add (x5_3).toNat) = some (.string (rdOf ByteArray.empty t418 x5_3))) (ds := []) #[false, false, false, false, false, false, false, false, false] (by kernel_rfl) rfl rfl ⟨hx427_0, hx428_0⟩ (fun hHeld => ?_); refine with_tabW ecdysislaw16_FindCloses.tab13 ecdysislaw16_FindCloses.bits13 (fun HT_ HW_ => ?_)
                                  generalize wr.drew = w45 at HO_3 BK414 HB hx427_0 hx428_0 hHeld ⊢
                                  refine zp 0 (zb 9 1) ?_ rfl rfl HT_ (by kernel_rfl) (fun _ _ _ h => h) rfl ?_ ?_ ?_ ?_; rotate_left; (intro w'; go_simp; with_reducible rfl); rotate_left; (simp only [zs]; rfl)
                                  refine zp 1 (zb 9 3) ?_ rfl rfl HT_ (by kernel_rfl) (fun _ _ _ h => h) rfl ?_ ?_ ?_ ?_; rotate_left; (intro w'; go_simp; with_reducible rfl); rotate_left; (simp only [zs]; rfl)
                                  refine zp 2 (zb 9 7) ?_ rfl rfl HT_ (by kernel_rfl) (fun _ _ _ h => h) rfl ?_ ?_ ?_ ?_; rotate_left; (intro w'; go_simp; with_reducible rfl); rotate_left; (simp only [zs]; rfl)
                                  refine zp 4 (zb 9 23) ?_ rfl rfl HT_ (by kernel_rfl) (fun _ _ _ h => h) rfl ?_ ?_ ?_ ?_; rotate_left; (intro w'; go_simp; with_reducible rfl); rotate_left; (simp only [zs]; rfl)
                                  refine zp 5 (zb 9 55) ?_ rfl rfl HT_ (by kernel_rfl) (fun _ _ _ h => h) rfl ?_ ?_ ?_ ?_; rotate_left; (intro w'; go_simp; with_reducible rfl); rotate_left; (simp only [zs]; rfl)
                                  refine zp 6 (zb 9 119) ?_ rfl rfl HT_ (by kernel_rfl) (fun _ _ _ h => h) rfl ?_ ?_ ?_ ?_; rotate_left; (intro w'; go_simp; with_reducible rfl); rotate_left; (simp only [zs]; rfl)
                                  refine zt 3 (zb 9 127) ?_ rfl rfl HT_ HW_ (by kernel_rfl) (fun _ _ _ h => h) rfl ?_ hHeld ?_ ?_ ?_; rotate_left; (rintro w' ⟨s0, s1⟩; go_simp; with_reducible rfl); rotate_left; (simp only [zs]; rfl)
                                  refine zt 7 (zb 9 255) ?_ rfl rfl HT_ HW_ (by kernel_rfl) (fun _ _ _ h => h) rfl ?_ hHeld ?_ ?_ ?_; rotate_left; (rintro w' ⟨s0, s1⟩; go_simp; with_reducible rfl); rotate_left; (simp only [zs]; rfl)
                                  refine zp 8 (zb 9 511) ?_ rfl rfl HT_ (by kernel_rfl) (fun _ _ _ h => h) rfl ?_ ?_ ?_ ?_; rotate_left; (intro w'; go_simp; with_reducible rfl); rotate_left; (simp only [zs]; rfl)
                                  refine done_ (done_of HT_.out (by kernel_rfl)) ?_
                                  try go_wp2
                                  go_ret
                                  exact ⟨by first | rfl , by exact HB.out⟩
                                · rw [if_neg c44] at H
                                  have c44b0 : ((rdOf ByteArray.empty t418 x7_4).toList == (rdOf ByteArray.empty t418 x5_3).toList) = false := beq_eq_false_iff_ne.mpr c44
                                  have c44b1 : ((rdOf ByteArray.empty t418 x7_4).toList != (rdOf ByteArray.empty t418 x5_3).toList) = true := bne_iff_ne.mpr c44
                                  have H' := Aside0.mk H
                                  clear H
                                  try go_wp2
                                  have n0_ := Aside0.mk (Kd.R_drew HO_3.out)
                                  have n1_ := Aside0.mk (blk_drew BK414.out)
                                  have n2_ := Aside0.mk (below_drew1 HB.out)
                                  clear HO_3
                                  clear BK414
                                  clear HB
                                  have HO_3 := n0_
                                  have BK414 := n1_
                                  have HB := n2_
                                  clear n0_ n1_ n2_
                                  have p427 : 0 ≤ (x7_4 : Int) := of_decide_eq_true (by first | (with_reducible assumption) )
                                  have q427 : x7_4 < (t418.length : Int) := of_decide_eq_true (by first | (with_reducible assumption) )
                                  obtain ⟨ad427, e427, hx427_0⟩ := Kd.at_string (Kd.R_reads' HO_3.out).2.2 x7_4 p427 q427
                                  obtain rfl : ad425 = ad427 := (by injection e427)
                                  replace p427 := eq_true p427
                                  replace q427 := eq_true q427
                                  have p428 : 0 ≤ (x5_3 : Int) := of_decide_eq_true (by first | (with_reducible assumption) )
                                  have q428 : x5_3 < (t418.length : Int) := of_decide_eq_true (by first | (with_reducible assumption) )
                                  obtain ⟨ad428, e428, hx428_0⟩ := Kd.at_string (Kd.R_reads' HO_3.out).2.2 x5_3 p428 q428
                                  obtain rfl : ad425 = ad428 := (by injection e428)
                                  replace p428 := eq_true p428
                                  replace q428 := eq_true q428
                                  refine start_ (n := 9) (S := fun w' => w'.cell? (ad425.add (x7_4).toNat) = some (.string (rdOf ByteArray.empty t418 x7_4)) ∧ w'.cell? (ad425.add (x5_3).toNat) = some (.string (rdOf ByteArray.empty t418 x5_3))) (ds := []) #[false, false, false, false, false, false, false, false, false] (by kernel_rfl) rfl rfl ⟨hx427_0, hx428_0⟩ (fun hHeld => ?_); refine with_tabW ecdysislaw16_FindCloses.tab13 ecdysislaw16_FindCloses.bits13 (fun HT_ HW_ => ?_)
                                  generalize wr.drew = w46 at HO_3 BK414 HB hx427_0 hx428_0 hHeld ⊢
                                  refine zp 0 (zb 9 1) ?_ rfl rfl HT_ (by kernel_rfl) (fun _ _ _ h => h) rfl ?_ ?_ ?_ ?_; rotate_left; (intro w'; go_simp; with_reducible rfl); rotate_left; (simp only [zs]; rfl)
                                  refine zp 1 (zb 9 3) ?_ rfl rfl HT_ (by kernel_rfl) (fun _ _ _ h => h) rfl ?_ ?_ ?_ ?_; rotate_left; (intro w'; go_simp; with_reducible rfl); rotate_left; (simp only [zs]; rfl)
                                  refine zp 2 (zb 9 7) ?_ rfl rfl HT_ (by kernel_rfl) (fun _ _ _ h => h) rfl ?_ ?_ ?_ ?_; rotate_left; (intro w'; go_simp; with_reducible rfl); rotate_left; (simp only [zs]; rfl)
                                  refine zp 4 (zb 9 23) ?_ rfl rfl HT_ (by kernel_rfl) (fun _ _ _ h => h) rfl ?_ ?_ ?_ ?_; rotate_left; (intro w'; go_simp; with_reducible rfl); rotate_left; (simp only [zs]; rfl)
                                  refine zp 5 (zb 9 55) ?_ rfl rfl HT_ (by kernel_rfl) (fun _ _ _ h => h) rfl ?_ ?_ ?_ ?_; rotate_left; (intro w'; go_simp; with_reducible rfl); rotate_left; (simp only [zs]; rfl)
                                  refine zp 6 (zb 9 119) ?_ rfl rfl HT_ (by kernel_rfl) (fun _ _ _ h => h) rfl ?_ ?_ ?_ ?_; rotate_left; (intro w'; go_simp; with_reducible rfl); rotate_left; (simp only [zs]; rfl)
                                  refine zt 3 (zb 9 127) ?_ rfl rfl HT_ HW_ (by kernel_rfl) (fun _ _ _ h => h) rfl ?_ hHeld ?_ ?_ ?_; rotate_left; (rintro w' ⟨s0, s1⟩; go_simp; with_reducible rfl); rotate_left; (simp only [zs]; rfl)
                                  refine zt 7 (zb 9 255) ?_ rfl rfl HT_ HW_ (by kernel_rfl) (fun _ _ _ h => h) rfl ?_ hHeld ?_ ?_ ?_; rotate_left; (rintro w' ⟨s0, s1⟩; go_simp; with_reducible rfl); rotate_left; (simp only [zs]; rfl)
                                  refine zp 8 (zb 9 511) ?_ rfl rfl HT_ (by kernel_rfl) (fun _ _ _ h => h) rfl ?_ ?_ ?_ ?_; rotate_left; (intro w'; go_simp; with_reducible rfl); rotate_left; (simp only [zs]; rfl)
                                  refine done_ (done_of HT_.out (by kernel_rfl)) ?_
                                  try go_wp2
                                  go_roundg k4
                                  case measure => have := HJ1.out; have := HJ16.out; have := HK3.out; have := HK4.out; omega
                                  case rel => exact ⟨(wrap64 (x7_4 + 1)), (by first | rfl ), H', ⟨by have := HJ1.out; have := HJ16.out; have := HK3.out; have := HK4.out; omega⟩, ⟨by exact HO_3.out⟩, ⟨by exact BK414.out⟩, ⟨by exact HB.out⟩⟩
                              · rw [if_neg c43] at H
                                exact absurd H (by simp)
                            · rw [if_neg c42] at H
                              exact absurd H (by simp)
                          · rw [if_neg c41] at H
                            exact absurd H (by simp)
                        · rw [if_neg c40] at H
                          exact absurd H (by simp)
                      · rw [if_neg c39] at H
                        have c39b0 : decide (x7_4 < x5_3) = false := decide_eq_false c39
                        clear c39
                        have H' := Aside0.mk H
                        clear H
                        go_wp2
                        go_loopg [8] k4 (fun kq v8 w' => ∃ (x8_5 : Int), v8 = .int .i64 x8_5 ∧ Aside0 (ecdysislaw16_FindCloses.l2 kq t418 x5_3 t426 x8_5 l0_0 l0_1 = some r) ∧ Aside0 (kq ≤ k4) ∧ Aside0 (Kd.R Kd.string 9 w' w.heap.size (fun _ => True) (.slice (some ad425) t418.length co36) t418) ∧ Aside0 (w'.heap[gb414]? = some (.cells #[(.slice A0_0 l0_0.length c0_0), (.slice A0_1 l0_1.length c0_1)] 35 (0, 0))) ∧ Aside0 (Below w.heap.size w w'))
                        case atStart => exact ⟨(0), (by first | rfl ), H', ⟨Nat.le_refl _⟩, ⟨by exact HO_3.out⟩, ⟨by exact BK414.out⟩, ⟨by exact HB.out⟩⟩
                        case round =>
                          clear H'
                          try clear c2
                          try clear p2
                          try clear c3
                          try clear c4
                          try clear p4
                          try clear q4
                          try clear hx4
                          try clear qi4
                          try clear p6
                          try clear c20
                          try clear c24
                          try clear c24b0
                          try clear c24b1
                          try clear c27
                          try clear c27b0
                          try clear c27b1
                          try clear c28
                          try clear c28b0
                          try clear c28b1
                          try clear c32
                          try clear c33
                          try clear c33b0
                          try clear c34
                          try clear c34b0
                          try clear c39
                          try clear c39b0
                          try clear c40
                          try clear c40b0
                          try clear c41
                          try clear c41b0
                          try clear c42
                          try clear c42b0
                          try clear p42
                          try clear q42
                          try clear hx42
                          try clear c43
                          try clear c43b0
                          try clear c44
                          try clear c44b0
                          try clear c44b1
                          try clear hx422_0
                          try clear hx423_0
                          try clear hx423_1
                          try clear hx423_2
                          try clear hx425_0
                          try clear hx427_0
                          try clear hx428_0
                          try clear p2
                          try clear p4
                          try clear p422
                          try clear p423
                          try clear p425
                          try clear p427
                          try clear p428
                          try clear q4
                          try clear q422
                          try clear q423
                          try clear q425
                          try clear q427
                          try clear q428
                          obtain ⟨x8_5, rfl, HA, HK5, HO_3, BK414, HB⟩ := hrel
                          cases gk with
                          | zero => exact absurd HA.out (by simp [ecdysislaw16_FindCloses.l2])
                          | succ k5 =>
                            have H := HA.out
                            clear HA
                            simp only [ecdysislaw16_FindCloses.l2] at H
                            have HC47 := Aside0.mk H
                            clear H
                            go_upto_region 16 with (fail)
                            go_cut [90] (fun v90 wc => ∃ (kq : Nat) (x90_46 : Bool), v90 = .bool x90_46 ∧ Aside0 (ecdysislaw16_FindCloses.j5 kq t418 x5_3 t426 x8_5 x90_46 l0_0 l0_1 = some r) ∧ Aside0 (kq ≤ k5) ∧ Aside0 (Kd.R Kd.string 9 wc w.heap.size (fun _ => True) (.slice (some ad425) t418.length co36) t418) ∧ Aside0 (wc.heap[gb414]? = some (.cells #[(.slice A0_0 l0_0.length c0_0), (.slice A0_1 l0_1.length c0_1)] 35 (0, 0))) ∧ Aside0 (Below w.heap.size w wc))
                            case first =>
                              have H := HC47.out
                              clear HC47
                              by_cases c48 : t426 ≥ 0
                              · rw [if_pos c48] at H
                                have c48b0 : decide (0 ≤ t426) = true := decide_eq_true c48
                                clear c48
                                (first | skip)
                                by_cases c49 : 0 ≤ t426
                                · rw [if_pos c49] at H
                                  have c49b0 : decide (0 ≤ t426) = true := decide_eq_true c49
                                  clear c49
                                  by_cases c50 : t426 < (l0_1.length : Int)
                                  · rw [if_pos c50] at H
                                    have c50b0 : decide (t426 < (l0_1.length : Int)) = true := decide_eq_true c50
                                    clear c50
                                    have H' := Aside0.mk H
                                    clear H
                                    have hcz51_0 : wr.cell? ⟨gb414, 0, none⟩ = some (.slice A0_0 l0_0.length c0_0) := (blk_cell BK414.out 0).trans rfl
                                    have hcz51_1 : wr.cell? ⟨gb414, 1, none⟩ = some (.slice A0_1 l0_1.length c0_1) := (blk_cell BK414.out 1).trans rfl
                                    have hfz51_0 := blk_frozen BK414.out 0
                                    have hfz51_1 := blk_frozen BK414.out 1
                                    have p429 : 0 ≤ (t426 : Int) := of_decide_eq_true (by first | (with_reducible assumption) )
                                    have q429 : t426 < (l0_1.length : Int) := of_decide_eq_true (by first | (with_reducible assumption) )
                                    obtain ⟨ad429, A429_1, c429_1, A429_2, c429_2, e429, hx429_0, hx429_1, hx429_2, hl429_1, hi429_1, hl429_2, hi429_2⟩ := at_T47 HR0_1.out t426 p429 q429
                                    cases e429
                                    replace hx429_0 := (HB.out.cell (World.block_lt_of_cell? w _ hx429_0)).trans hx429_0
                                    replace hx429_1 := (HB.out.cell (World.block_lt_of_cell? w _ hx429_1)).trans hx429_1
                                    replace hx429_2 := (HB.out.cell (World.block_lt_of_cell? w _ hx429_2)).trans hx429_2
                                    have HR429_1 := Aside0.mk hi429_1
                                    have HC429_1 := Aside0.mk hl429_1
                                    clear hi429_1 hl429_1
                                    have HR429_2 := Aside0.mk hi429_2
                                    have HC429_2 := Aside0.mk hl429_2
                                    clear hi429_2 hl429_2
                                    replace p429 := eq_true p429
                                    replace q429 := eq_true q429
                                    go_wp2
                                    go_meet
                                    case rel => exact ⟨_, (decide (x8_5 < (((rd_T47 l0_1 t426).f1).length : Int))), (by first | rfl ), H', ⟨by have := HJ1.out; have := HJ16.out; have := HK3.out; have := HK4.out; have := HK5.out; first | omega | exact Nat.le_refl _⟩, ⟨by exact HO_3.out⟩, ⟨by exact BK414.out⟩, ⟨by exact HB.out⟩⟩
                                  · rw [if_neg c50] at H
                                    exact absurd H (by simp)
                                · rw [if_neg c49] at H
                                  exact absurd H (by simp)
                              · rw [if_neg c48] at H
                                have c48b0 : decide (0 ≤ t426) = false := decide_eq_false c48
                                clear c48
                                (first | skip)
                                have H' := Aside0.mk H
                                clear H
                                go_wp2
                                go_meet
                                case rel => exact ⟨_, (false), (by first | rfl ), H', ⟨by have := HJ1.out; have := HJ16.out; have := HK3.out; have := HK4.out; have := HK5.out; first | omega | exact Nat.le_refl _⟩, ⟨by exact HO_3.out⟩, ⟨by exact BK414.out⟩, ⟨by exact HB.out⟩⟩
                            case rest =>
                              clear HC47
                              try clear c2
                              try clear p2
                              try clear c3
                              try clear c4
                              try clear p4
                              try clear q4
                              try clear hx4
                              try clear qi4
                              try clear c5
                              try clear p6
                              try clear c20
                              try clear c24
                              try clear c24b0
                              try clear c24b1
                              try clear c27
                              try clear c27b0
                              try clear c27b1
                              try clear c28
                              try clear c28b0
                              try clear c28b1
                              try clear c32
                              try clear c33
                              try clear c33b0
                              try clear c34
                              try clear c34b0
                              try clear c39
                              try clear c39b0
                              try clear c40
                              try clear c40b0
                              try clear c41
                              try clear c41b0
                              try clear c42
                              try clear c42b0
                              try clear p42
                              try clear q42
                              try clear hx42
                              try clear c43
                              try clear c43b0
                              try clear c44
                              try clear c44b0
                              try clear c44b1
                              try clear c48
                              try clear c48b0
                              try clear c49
                              try clear c49b0
                              try clear c50
                              try clear c50b0
                              try clear hcz51_0
                              try clear hcz51_1
                              try clear hfz51_0
                              try clear hfz51_1
                              try clear hx422_0
                              try clear hx423_0
                              try clear hx423_1
                              try clear hx423_2
                              try clear hx425_0
                              try clear hx427_0
                              try clear hx428_0
                              try clear hx429_0
                              try clear hx429_1
                              try clear hx429_2
                              try clear p2
                              try clear p4
                              try clear p42
                              try clear p422
                              try clear p423
                              try clear p425
                              try clear p427
                              try clear p428
                              try clear p429
                              try clear p6
                              try clear q4
                              try clear q42
                              try clear q422
                              try clear q423
                              try clear q425
                              try clear q427
                              try clear q428
                              try clear q429
                              obtain ⟨kq, x90_46, rfl, HA, HJ46, HO_3, BK414, HB⟩ := hcut
                              cases kq with
                              | zero => exact absurd HA.out (by simp [ecdysislaw16_FindCloses.j5])
                              | succ kj46 =>
                                have H := HA.out
                                clear HA
                                simp only [ecdysislaw16_FindCloses.j5] at H
                                by_cases c52 : x90_46 = true
                                · subst c52
                                  have H1 : (if 0 ≤ t426 then (if t426 < (l0_1.length : Int) then (if 0 ≤ x8_5 then (if x8_5 < (((rd_T47 l0_1 t426).f1).length : Int) then (ecdysislaw16_FindCloses.l3 kj46 t418 x5_3 t426 x8_5 (((rd_T50 ((rd_T47 l0_1 t426).f1) x8_5).f2) != 15) 0 l0_0 l0_1 ((rd_T50 ((rd_T47 l0_1 t426).f1) x8_5).f0) ((rd_T50 ((rd_T47 l0_1 t426).f1) x8_5).f1) ((rd_T50 ((rd_T47 l0_1 t426).f1) x8_5).f2) ((rd_T50 ((rd_T47 l0_1 t426).f1) x8_5).f3) ((rd_T50 ((rd_T47 l0_1 t426).f1) x8_5).f4) ((rd_T50 ((rd_T47 l0_1 t426).f1) x8_5).f5) ((rd_T50 ((rd_T47 l0_1 t426).f1) x8_5).f6)) else (none)) else (none)) else (none)) else (none)) = some r := by rw [if_pos rfl] at H; exact H
                                  clear H
                                  have H := H1
                                  clear H1
                                  by_cases c53 : 0 ≤ t426
                                  · rw [if_pos c53] at H
                                    have c53b0 : decide (0 ≤ t426) = true := decide_eq_true c53
                                    clear c53
                                    by_cases c54 : t426 < (l0_1.length : Int)
                                    · rw [if_pos c54] at H
                                      have c54b0 : decide (t426 < (l0_1.length : Int)) = true := decide_eq_true c54
                                      clear c54
                                      by_cases c55 : 0 ≤ x8_5
                                      · rw [if_pos c55] at H
                                        have c55b0 : decide (0 ≤ x8_5) = true := decide_eq_true c55
                                        clear c55
                                        by_cases c56 : x8_5 < (((rd_T47 l0_1 t426).f1).length : Int)
                                        · rw [if_pos c56] at H
                                          have c56b0 : decide (x8_5 < (((rd_T47 l0_1 t426).f1).length : Int)) = true := decide_eq_true c56
                                          clear c56
                                          have H' := Aside0.mk H
                                          clear H
                                          have hcz57_0 : wc.cell? ⟨gb414, 0, none⟩ = some (.slice A0_0 l0_0.length c0_0) := (blk_cell BK414.out 0).trans rfl
                                          have hcz57_1 : wc.cell? ⟨gb414, 1, none⟩ = some (.slice A0_1 l0_1.length c0_1) := (blk_cell BK414.out 1).trans rfl
                                          have hfz57_0 := blk_frozen BK414.out 0
                                          have hfz57_1 := blk_frozen BK414.out 1
                                          have p430 : 0 ≤ (t426 : Int) := of_decide_eq_true (by first | (with_reducible assumption) )
                                          have q430 : t426 < (l0_1.length : Int) := of_decide_eq_true (by first | (with_reducible assumption) )
                                          obtain ⟨ad430, A430_1, c430_1, A430_2, c430_2, e430, hx430_0, hx430_1, hx430_2, hl430_1, hi430_1, hl430_2, hi430_2⟩ := at_T47 HR0_1.out t426 p430 q430
                                          cases e430
                                          replace hx430_0 := (HB.out.cell (World.block_lt_of_cell? w _ hx430_0)).trans hx430_0
                                          replace hx430_1 := (HB.out.cell (World.block_lt_of_cell? w _ hx430_1)).trans hx430_1
                                          replace hx430_2 := (HB.out.cell (World.block_lt_of_cell? w _ hx430_2)).trans hx430_2
                                          have HR430_1 := Aside0.mk hi430_1
                                          have HC430_1 := Aside0.mk hl430_1
                                          clear hi430_1 hl430_1
                                          have HR430_2 := Aside0.mk hi430_2
                                          have HC430_2 := Aside0.mk hl430_2
                                          clear hi430_2 hl430_2
                                          replace p430 := eq_true p430
                                          replace q430 := eq_true q430
                                          have p431 : 0 ≤ (x8_5 : Int) := of_decide_eq_true (by first | (with_reducible assumption) )
                                          have q431 : x8_5 < (((rd_T47 l0_1 t426).f1).length : Int) := of_decide_eq_true (by first | (with_reducible assumption) )
                                          obtain ⟨ad431, e431, hx431_0, hx431_1, hx431_2, hx431_3, hx431_4, hx431_5, hx431_6⟩ := at_T50 HR430_1.out x8_5 p431 q431
                                          cases e431
                                          replace hx431_0 := (HB.out.cell (World.block_lt_of_cell? w _ hx431_0)).trans hx431_0
                                          replace hx431_1 := (HB.out.cell (World.block_lt_of_cell? w _ hx431_1)).trans hx431_1
                                          replace hx431_2 := (HB.out.cell (World.block_lt_of_cell? w _ hx431_2)).trans hx431_2
                                          replace hx431_3 := (HB.out.cell (World.block_lt_of_cell? w _ hx431_3)).trans hx431_3
                                          replace hx431_4 := (HB.out.cell (World.block_lt_of_cell? w _ hx431_4)).trans hx431_4
                                          replace hx431_5 := (HB.out.cell (World.block_lt_of_cell? w _ hx431_5)).trans hx431_5
                                          replace hx431_6 := (HB.out.cell (World.block_lt_of_cell? w _ hx431_6)).trans hx431_6
                                          replace p431 := eq_true p431
                                          replace q431 := eq_true q431
                                          go_wp2_with (first | ((with_reducible refine gate_dst (N := 9) rfl ?_); (try (refine gate_guard (by rfl) ?_; dsimp only)); refine box_event ?hg (N := 9) ?hd (cs := #[.string (⟨#[]⟩ : ByteArray), .int .i64 0, .int .i64 0, .string (⟨#[]⟩ : ByteArray), .bool false, .bool false, .string (⟨#[]⟩ : ByteArray)]) (t := 50) ?hr ?_; (case hd => rfl); (case hg => rfl); (case hr => first | (go_simp; done) | (go_simp; rfl)); intro gb432 hg w58 hbox hb; have n0_ := Aside0.mk (Kd.R_below HO_3.out hb); have n1_ := Aside0.mk (blk_below BK414.out hb); have n2_ := Aside0.mk (below_step HB.out hb); have n3_ := Aside0.mk (hbox); have n5_ := Aside0.mk ((by rw [hg]; exact (below_size HB.out) : w.heap.size ≤ gb432)); have n6_ := Aside0.mk ((by rw [hg]; exact Nat.ne_of_lt (blk_lt BK414.out) : gb414 ≠ gb432)); have n7_ := Aside0.mk ((by rw [hg]; exact Nat.ne_of_gt (blk_lt BK414.out) : gb432 ≠ gb414)); clear HO_3; clear BK414; clear HB; have HO_3 := n0_; have BK414 := n1_; have HB := n2_; have BK432 := n3_; have GE432 := n5_; have NB414_432 := n6_; have NB432_414 := n7_; clear n0_ n1_ n2_ n3_ n5_ n6_ n7_; clear hb hbox hg; have hnb59 := NB432_414.out; have hnc59 := NB414_432.out; have hcz60_0 : w58.cell? ⟨gb432, 0, none⟩ = some (.string (⟨#[]⟩ : ByteArray)) := (blk_cell BK432.out 0).trans rfl; have hcz60_1 : w58.cell? ⟨gb432, 1, none⟩ = some (.int .i64 0) := (blk_cell BK432.out 1).trans rfl; have hcz60_2 : w58.cell? ⟨gb432, 2, none⟩ = some (.int .i64 0) := (blk_cell BK432.out 2).trans rfl; have hcz60_3 : w58.cell? ⟨gb432, 3, none⟩ = some (.string (⟨#[]⟩ : ByteArray)) := (blk_cell BK432.out 3).trans rfl; have hcz60_4 : w58.cell? ⟨gb432, 4, none⟩ = some (.bool false) := (blk_cell BK432.out 4).trans rfl; have hcz60_5 : w58.cell? ⟨gb432, 5, none⟩ = some (.bool false) := (blk_cell BK432.out 5).trans rfl; have hcz60_6 : w58.cell? ⟨gb432, 6, none⟩ = some (.string (⟨#[]⟩ : ByteArray)) := (blk_cell BK432.out 6).trans rfl; have hfz60_0 := blk_frozen BK432.out 0; have hfz60_1 := blk_frozen BK432.out 1; have hfz60_2 := blk_frozen BK432.out 2; have hfz60_3 := blk_frozen BK432.out 3; have hfz60_4 := blk_frozen BK432.out 4; have hfz60_5 := blk_frozen BK432.out 5; have hfz60_6 := blk_frozen BK432.out 6))
                                          go_loopg [10, 11] kj46 (fun kq v10 v11 w' => ∃ (x10_7 : Bool) (x11_7 : Int), v10 = .bool x10_7 ∧ v11 = .int .i64 x11_7 ∧ Aside0 (ecdysislaw16_FindCloses.l3 kq t418 x5_3 t426 x8_5 x10_7 x11_7 l0_0 l0_1 ((rd_T50 ((rd_T47 l0_1 t426).f1) x8_5).f0) ((rd_T50 ((rd_T47 l0_1 t426).f1) x8_5).f1) ((rd_T50 ((rd_T47 l0_1 t426).f1) x8_5).f2) ((rd_T50 ((rd_T47 l0_1 t426).f1) x8_5).f3) ((rd_T50 ((rd_T47 l0_1 t426).f1) x8_5).f4) ((rd_T50 ((rd_T47 l0_1 t426).f1) x8_5).f5) ((rd_T50 ((rd_T47 l0_1 t426).f1) x8_5).f6) = some r) ∧ Aside0 (kq ≤ kj46) ∧ Aside0 (Kd.R Kd.string 9 w' w.heap.size (fun _ => True) (.slice (some ad425) t418.length co36) t418) ∧ Aside0 (w'.heap[gb414]? = some (.cells #[(.slice A0_0 l0_0.length c0_0), (.slice (some ad430) l0_1.length c0_1)] 35 (0, 0))) ∧ Aside0 (w'.heap[gb432]? = some (.cells #[.string ((rd_T50 ((rd_T47 l0_1 t426).f1) x8_5).f0), .int .i64 ((rd_T50 ((rd_T47 l0_1 t426).f1) x8_5).f1), .int .i64 ((rd_T50 ((rd_T47 l0_1 t426).f1) x8_5).f2), .string ((rd_T50 ((rd_T47 l0_1 t426).f1) x8_5).f3), .bool ((rd_T50 ((rd_T47 l0_1 t426).f1) x8_5).f4), .bool ((rd_T50 ((rd_T47 l0_1 t426).f1) x8_5).f5), .string ((rd_T50 ((rd_T47 l0_1 t426).f1) x8_5).f6)] 50 (0, 0))) ∧ Aside0 (Below w.heap.size w w'))
                                          case atStart => exact ⟨((((rd_T50 ((rd_T47 l0_1 t426).f1) x8_5).f2) != 15)), (0), (by first | rfl ), (by first | rfl ), H', ⟨Nat.le_refl _⟩, ⟨by exact Kd.R_mono (Kd.R_far (p := ⟨gb432, 6, none⟩) (Kd.R_far (p := ⟨gb432, 5, none⟩) (Kd.R_far (p := ⟨gb432, 4, none⟩) (Kd.R_far (p := ⟨gb432, 3, none⟩) (Kd.R_far (p := ⟨gb432, 2, none⟩) (Kd.R_far (p := ⟨gb432, 1, none⟩) (Kd.R_far (p := ⟨gb432, 0, none⟩) (Kd.R_types HO_3.out BK432.out (by decide)) (fun _ hk => hk.2) (.string ((rd_T50 ((rd_T47 l0_1 t426).f1) x8_5).f0))) (fun _ hk => hk.2) (.int .i64 ((rd_T50 ((rd_T47 l0_1 t426).f1) x8_5).f1))) (fun _ hk => hk.2) (.int .i64 ((rd_T50 ((rd_T47 l0_1 t426).f1) x8_5).f2))) (fun _ hk => hk.2) (.string ((rd_T50 ((rd_T47 l0_1 t426).f1) x8_5).f3))) (fun _ hk => hk.2) (.bool ((rd_T50 ((rd_T47 l0_1 t426).f1) x8_5).f4))) (fun _ hk => hk.2) (.bool ((rd_T50 ((rd_T47 l0_1 t426).f1) x8_5).f5))) (fun _ hk => hk.2) (.string ((rd_T50 ((rd_T47 l0_1 t426).f1) x8_5).f6))) (fun _ hk => trivial)⟩, ⟨by refine blk_far ?_ NB414_432.out _; refine blk_far ?_ NB414_432.out _; refine blk_far ?_ NB414_432.out _; refine blk_far ?_ NB414_432.out _; refine blk_far ?_ NB414_432.out _; refine blk_far ?_ NB414_432.out _; refine blk_far ?_ NB414_432.out _; exact BK414.out⟩, ⟨by refine blk_put (cs := #[.string ((rd_T50 ((rd_T47 l0_1 t426).f1) x8_5).f0), .int .i64 ((rd_T50 ((rd_T47 l0_1 t426).f1) x8_5).f1), .int .i64 ((rd_T50 ((rd_T47 l0_1 t426).f1) x8_5).f2), .string ((rd_T50 ((rd_T47 l0_1 t426).f1) x8_5).f3), .bool ((rd_T50 ((rd_T47 l0_1 t426).f1) x8_5).f4), .bool ((rd_T50 ((rd_T47 l0_1 t426).f1) x8_5).f5), .string (⟨#[]⟩ : ByteArray)]) ?_ 6 _ rfl; refine blk_put (cs := #[.string ((rd_T50 ((rd_T47 l0_1 t426).f1) x8_5).f0), .int .i64 ((rd_T50 ((rd_T47 l0_1 t426).f1) x8_5).f1), .int .i64 ((rd_T50 ((rd_T47 l0_1 t426).f1) x8_5).f2), .string ((rd_T50 ((rd_T47 l0_1 t426).f1) x8_5).f3), .bool ((rd_T50 ((rd_T47 l0_1 t426).f1) x8_5).f4), .bool false, .string (⟨#[]⟩ : ByteArray)]) ?_ 5 _ rfl; refine blk_put (cs := #[.string ((rd_T50 ((rd_T47 l0_1 t426).f1) x8_5).f0), .int .i64 ((rd_T50 ((rd_T47 l0_1 t426).f1) x8_5).f1), .int .i64 ((rd_T50 ((rd_T47 l0_1 t426).f1) x8_5).f2), .string ((rd_T50 ((rd_T47 l0_1 t426).f1) x8_5).f3), .bool false, .bool false, .string (⟨#[]⟩ : ByteArray)]) ?_ 4 _ rfl; refine blk_put (cs := #[.string ((rd_T50 ((rd_T47 l0_1 t426).f1) x8_5).f0), .int .i64 ((rd_T50 ((rd_T47 l0_1 t426).f1) x8_5).f1), .int .i64 ((rd_T50 ((rd_T47 l0_1 t426).f1) x8_5).f2), .string (⟨#[]⟩ : ByteArray), .bool false, .bool false, .string (⟨#[]⟩ : ByteArray)]) ?_ 3 _ rfl; refine blk_put (cs := #[.string ((rd_T50 ((rd_T47 l0_1 t426).f1) x8_5).f0), .int .i64 ((rd_T50 ((rd_T47 l0_1 t426).f1) x8_5).f1), .int .i64 0, .string (⟨#[]⟩ : ByteArray), .bool false, .bool false, .string (⟨#[]⟩ : ByteArray)]) ?_ 2 _ rfl; refine blk_put (cs := #[.string ((rd_T50 ((rd_T47 l0_1 t426).f1) x8_5).f0), .int .i64 0, .int .i64 0, .string (⟨#[]⟩ : ByteArray), .bool false, .bool false, .string (⟨#[]⟩ : ByteArray)]) ?_ 1 _ rfl; refine blk_put (cs := #[.string (⟨#[]⟩ : ByteArray), .int .i64 0, .int .i64 0, .string (⟨#[]⟩ : ByteArray), .bool false, .bool false, .string (⟨#[]⟩ : ByteArray)]) ?_ 0 _ rfl; exact BK432.out⟩, ⟨by repeat (first | (with_reducible first | exact HB.out | refine below_set ?_ GE432.out) )⟩⟩
                                          case round =>
                                           clear H'
                                           try clear c2
                                           try clear p2
                                           try clear c3
                                           try clear c4
                                           try clear p4
                                           try clear q4
                                           try clear hx4
                                           try clear qi4
                                           try clear c5
                                           try clear p6
                                           try clear c20
                                           try clear c24
                                           try clear c24b0
                                           try clear c24b1
                                           try clear c27
                                           try clear c27b0
                                           try clear c27b1
                                           try clear c28
                                           try clear c28b0
                                           try clear c28b1
                                           try clear c32
                                           try clear c33
                                           try clear c33b0
                                           try clear c34
                                           try clear c34b0
                                           try clear c39
                                           try clear c39b0
                                           try clear c40
                                           try clear c40b0
                                           try clear c41
                                           try clear c41b0
                                           try clear c42
                                           try clear c42b0
                                           try clear p42
                                           try clear q42
                                           try clear hx42
                                           try clear c43
                                           try clear c43b0
                                           try clear p43
                                           try clear q43
                                           try clear hx43
                                           try clear c44
                                           try clear c44b0
                                           try clear c44b1
                                           try clear c48
                                           try clear c48b0
                                           try clear c49
                                           try clear c49b0
                                           try clear c50
                                           try clear c50b0
                                           try clear c52
                                           try clear c53
                                           try clear c53b0
                                           try clear c54
                                           try clear c54b0
                                           try clear c55
                                           try clear c55b0
                                           try clear c56
                                           try clear c56b0
                                           try clear c59
                                           try clear hcz51_0
                                           try clear hcz51_1
                                           try clear hcz57_0
                                           try clear hcz57_1
                                           try clear hcz60_0
                                           try clear hcz60_1
                                           try clear hcz60_2
                                           try clear hcz60_3
                                           try clear hcz60_4
                                           try clear hcz60_5
                                           try clear hcz60_6
                                           try clear hfz51_0
                                           try clear hfz51_1
                                           try clear hfz57_0
                                           try clear hfz57_1
                                           try clear hfz60_0
                                           try clear hfz60_1
                                           try clear hfz60_2
                                           try clear hfz60_3
                                           try clear hfz60_4
                                           try clear hfz60_5
                                           try clear hfz60_6
                                           try clear hx422_0
                                           try clear hx423_0
                                           try clear hx423_1
                                           try clear hx423_2
                                           try clear hx425_0
                                           try clear hx427_0
                                           try clear hx428_0
                                           try clear hx429_0
                                           try clear hx429_1
                                           try clear hx429_2
                                           try clear hx430_0
                                           try clear hx430_1
                                           try clear hx430_2
                                           try clear hx431_0
                                           try clear hx431_1
                                           try clear hx431_2
                                           try clear hx431_3
                                           try clear hx431_4
                                           try clear hx431_5
                                           try clear hx431_6
                                           try clear p2
                                           try clear p4
                                           try clear p42
                                           try clear p422
                                           try clear p423
                                           try clear p425
                                           try clear p427
                                           try clear p428
                                           try clear p429
                                           try clear p430
                                           try clear p431
                                           try clear p6
                                           try clear q4
                                           try clear q42
                                           try clear q422
                                           try clear q423
                                           try clear q425
                                           try clear q427
                                           try clear q428
                                           try clear q429
                                           try clear q430
                                           try clear q431
                                           obtain ⟨x10_7, x11_7, rfl, rfl, HA, HK7, HO_3, BK414, BK432, HB⟩ := hrel
                                           cases gk with
                                           | zero => exact absurd HA.out (by simp [ecdysislaw16_FindCloses.l3])
                                           | succ k7 =>
                                            have H := HA.out
                                            clear HA
                                            simp only [ecdysislaw16_FindCloses.l3] at H
                                            by_cases c61 : x11_7 < (t418.length : Int)
                                            · rw [if_pos c61] at H
                                              have c61b0 : decide (x11_7 < (t418.length : Int)) = true := decide_eq_true c61
                                              clear c61
                                              by_cases c62 : x10_7 = true
                                              · subst c62
                                                have H1 : (ecdysislaw16_FindCloses.l3 k7 t418 x5_3 t426 x8_5 true (wrap64 (x11_7 + 1)) l0_0 l0_1 ((rd_T50 ((rd_T47 l0_1 t426).f1) x8_5).f0) ((rd_T50 ((rd_T47 l0_1 t426).f1) x8_5).f1) ((rd_T50 ((rd_T47 l0_1 t426).f1) x8_5).f2) ((rd_T50 ((rd_T47 l0_1 t426).f1) x8_5).f3) ((rd_T50 ((rd_T47 l0_1 t426).f1) x8_5).f4) ((rd_T50 ((rd_T47 l0_1 t426).f1) x8_5).f5) ((rd_T50 ((rd_T47 l0_1 t426).f1) x8_5).f6)) = some r := by rw [if_pos rfl] at H; exact H
                                                clear H
                                                have H := H1
                                                clear H1
                                                have H' := Aside0.mk H
                                                clear H
                                                try go_wp2
                                                have n0_ := Aside0.mk (Kd.R_drew HO_3.out)
                                                have n1_ := Aside0.mk (blk_drew BK414.out)
                                                have n2_ := Aside0.mk (blk_drew BK432.out)
                                                have n3_ := Aside0.mk (below_drew1 HB.out)
                                                clear HO_3
                                                clear BK414
                                                clear BK432
                                                clear HB
                                                have HO_3 := n0_
                                                have BK414 := n1_
                                                have BK432 := n2_
                                                have HB := n3_
                                                clear n0_ n1_ n2_ n3_
                                                refine start_ (n := 11) (S := fun w' => True) (ds := []) #[false, false, false, false, false, false, false, false, false, false, false] (by kernel_rfl) rfl rfl trivial (fun hHeld => ?_); refine with_tabW ecdysislaw16_FindCloses.tab23 ecdysislaw16_FindCloses.bits23 (fun HT_ HW_ => ?_)
                                                generalize wr.drew = w63 at HO_3 BK414 BK432 HB hHeld ⊢
                                                refine zp 0 (zb 11 1) ?_ rfl rfl HT_ (by kernel_rfl) (fun _ _ _ h => h) rfl ?_ ?_ ?_ ?_; rotate_left; (intro w'; go_simp; with_reducible rfl); rotate_left; (simp only [zs]; rfl)
                                                refine zp 1 (zb 11 3) ?_ rfl rfl HT_ (by kernel_rfl) (fun _ _ _ h => h) rfl ?_ ?_ ?_ ?_; rotate_left; (intro w'; go_simp; with_reducible rfl); rotate_left; (simp only [zs]; rfl)
                                                refine zn 2 (zb 11 7) rfl rfl HT_ (by kernel_rfl) (fun _ _ _ h => h) rfl ?_ ?_ ?_; rotate_left; (simp only [zs]; rfl)
                                                refine zn 3 (zb 11 15) rfl rfl HT_ (by kernel_rfl) (fun _ _ _ h => h) rfl ?_ ?_ ?_; rotate_left; (simp only [zs]; rfl)
                                                refine zn 4 (zb 11 31) rfl rfl HT_ (by kernel_rfl) (fun _ _ _ h => h) rfl ?_ ?_ ?_; rotate_left; (simp only [zs]; rfl)
                                                refine zn 5 (zb 11 63) rfl rfl HT_ (by kernel_rfl) (fun _ _ _ h => h) rfl ?_ ?_ ?_; rotate_left; (simp only [zs]; rfl)
                                                refine zn 6 (zb 11 127) rfl rfl HT_ (by kernel_rfl) (fun _ _ _ h => h) rfl ?_ ?_ ?_; rotate_left; (simp only [zs]; rfl)
                                                refine zn 7 (zb 11 255) rfl rfl HT_ (by kernel_rfl) (fun _ _ _ h => h) rfl ?_ ?_ ?_; rotate_left; (simp only [zs]; rfl)
                                                refine zn 8 (zb 11 511) rfl rfl HT_ (by kernel_rfl) (fun _ _ _ h => h) rfl ?_ ?_ ?_; rotate_left; (simp only [zs]; rfl)
                                                refine zp 9 (zb 11 1023) ?_ rfl rfl HT_ (by kernel_rfl) (fun _ _ _ h => h) rfl ?_ ?_ ?_ ?_; rotate_left; (intro w'; go_simp; with_reducible rfl); rotate_left; (simp only [zs]; rfl)
                                                refine zp 10 (zb 11 2047) ?_ rfl rfl HT_ (by kernel_rfl) (fun _ _ _ h => h) rfl ?_ ?_ ?_ ?_; rotate_left; (intro w'; go_simp; with_reducible rfl); rotate_left; (simp only [zs]; rfl)
                                                refine done_ (done_of HT_.out (by kernel_rfl)) ?_
                                                try go_wp2
                                                go_roundg k7
                                                case measure => have := HJ1.out; have := HJ16.out; have := HK3.out; have := HK4.out; have := HK5.out; have := HJ46.out; have := HK7.out; omega
                                                case rel => exact ⟨(true), (wrap64 (x11_7 + 1)), (by first | rfl ), (by first | rfl ), H', ⟨by have := HJ1.out; have := HJ16.out; have := HK3.out; have := HK4.out; have := HK5.out; have := HJ46.out; have := HK7.out; omega⟩, ⟨by exact HO_3.out⟩, ⟨by exact BK414.out⟩, ⟨by exact BK432.out⟩, ⟨by exact HB.out⟩⟩
                                              · replace c62 := Bool.eq_false_iff.mpr c62
                                                subst c62
                                                have H1 : (if 0 ≤ x11_7 then (ecdysislaw16_FindCloses.l3 k7 t418 x5_3 t426 x8_5 ((rdOf ByteArray.empty t418 x11_7).toList == ((rd_T50 ((rd_T47 l0_1 t426).f1) x8_5).f3).toList) (wrap64 (x11_7 + 1)) l0_0 l0_1 ((rd_T50 ((rd_T47 l0_1 t426).f1) x8_5).f0) ((rd_T50 ((rd_T47 l0_1 t426).f1) x8_5).f1) ((rd_T50 ((rd_T47 l0_1 t426).f1) x8_5).f2) ((rd_T50 ((rd_T47 l0_1 t426).f1) x8_5).f3) ((rd_T50 ((rd_T47 l0_1 t426).f1) x8_5).f4) ((rd_T50 ((rd_T47 l0_1 t426).f1) x8_5).f5) ((rd_T50 ((rd_T47 l0_1 t426).f1) x8_5).f6)) else (none)) = some r := by rw [if_neg (show ¬ (false = true) by decide)] at H; exact H
                                                clear H
                                                have H := H1
                                                clear H1
                                                by_cases c64 : 0 ≤ x11_7
                                                · rw [if_pos c64] at H
                                                  have c64b0 : decide (0 ≤ x11_7) = true := decide_eq_true c64
                                                  clear c64
                                                  have H' := Aside0.mk H
                                                  clear H
                                                  try go_wp2
                                                  have n0_ := Aside0.mk (Kd.R_drew HO_3.out)
                                                  have n1_ := Aside0.mk (blk_drew BK414.out)
                                                  have n2_ := Aside0.mk (blk_drew BK432.out)
                                                  have n3_ := Aside0.mk (below_drew1 HB.out)
                                                  clear HO_3
                                                  clear BK414
                                                  clear BK432
                                                  clear HB
                                                  have HO_3 := n0_
                                                  have BK414 := n1_
                                                  have BK432 := n2_
                                                  have HB := n3_
                                                  clear n0_ n1_ n2_ n3_
                                                  have p433 : 0 ≤ (x11_7 : Int) := of_decide_eq_true (by first | (with_reducible assumption) )
                                                  have q433 : x11_7 < (t418.length : Int) := of_decide_eq_true (by first | (with_reducible assumption) )
                                                  obtain ⟨ad433, e433, hx433_0⟩ := Kd.at_string (Kd.R_reads' HO_3.out).2.2 x11_7 p433 q433
                                                  obtain rfl : ad425 = ad433 := (by injection e433)
                                                  replace p433 := eq_true p433
                                                  replace q433 := eq_true q433
                                                  refine start_ (n := 11) (S := fun w' => w'.cell? ⟨gb432, 0, none⟩ = some (.string ((rd_T50 ((rd_T47 l0_1 t426).f1) x8_5).f0)) ∧ w'.cell? ⟨gb432, 1, none⟩ = some (.int .i64 ((rd_T50 ((rd_T47 l0_1 t426).f1) x8_5).f1)) ∧ w'.cell? ⟨gb432, 2, none⟩ = some (.int .i64 ((rd_T50 ((rd_T47 l0_1 t426).f1) x8_5).f2)) ∧ w'.cell? ⟨gb432, 3, none⟩ = some (.string ((rd_T50 ((rd_T47 l0_1 t426).f1) x8_5).f3)) ∧ w'.cell? ⟨gb432, 4, none⟩ = some (.bool ((rd_T50 ((rd_T47 l0_1 t426).f1) x8_5).f4)) ∧ w'.cell? ⟨gb432, 5, none⟩ = some (.bool ((rd_T50 ((rd_T47 l0_1 t426).f1) x8_5).f5)) ∧ w'.cell? ⟨gb432, 6, none⟩ = some (.string ((rd_T50 ((rd_T47 l0_1 t426).f1) x8_5).f6)) ∧ w'.cell? (ad425.add (x11_7).toNat) = some (.string (rdOf ByteArray.empty t418 x11_7))) (ds := []) #[false, false, false, false, false, false, false, false, false, false, false] (by kernel_rfl) rfl rfl ⟨(blk_cell BK432.out 0).trans rfl, (blk_cell BK432.out 1).trans rfl, (blk_cell BK432.out 2).trans rfl, (blk_cell BK432.out 3).trans rfl, (blk_cell BK432.out 4).trans rfl, (blk_cell BK432.out 5).trans rfl, (blk_cell BK432.out 6).trans rfl, hx433_0⟩ (fun hHeld => ?_); refine with_tabW ecdysislaw16_FindCloses.tab23 ecdysislaw16_FindCloses.bits23 (fun HT_ HW_ => ?_)
                                                  generalize wr.drew = w65 at HO_3 BK414 BK432 HB hx433_0 hHeld ⊢
                                                  refine zp 0 (zb 11 1) ?_ rfl rfl HT_ (by kernel_rfl) (fun _ _ _ h => h) rfl ?_ ?_ ?_ ?_; rotate_left; (intro w'; go_simp; with_reducible rfl); rotate_left; (simp only [zs]; rfl)
                                                  refine zp 1 (zb 11 3) ?_ rfl rfl HT_ (by kernel_rfl) (fun _ _ _ h => h) rfl ?_ ?_ ?_ ?_; rotate_left; (intro w'; go_simp; with_reducible rfl); rotate_left; (simp only [zs]; rfl)
                                                  refine zp 2 (zb 11 7) ?_ rfl rfl HT_ (by kernel_rfl) (fun _ _ _ h => h) rfl ?_ ?_ ?_ ?_; rotate_left; (intro w'; go_simp; with_reducible rfl); rotate_left; (simp only [zs]; rfl)
                                                  refine zp 3 (zb 11 15) ?_ rfl rfl HT_ (by kernel_rfl) (fun _ _ _ h => h) rfl ?_ ?_ ?_ ?_; rotate_left; (intro w'; go_simp; with_reducible rfl); rotate_left; (simp only [zs]; rfl)
                                                  refine zp 4 (zb 11 31) ?_ rfl rfl HT_ (by kernel_rfl) (fun _ _ _ h => h) rfl ?_ ?_ ?_ ?_; rotate_left; (intro w'; go_simp; with_reducible rfl); rotate_left; (simp only [zs]; rfl)
                                                  refine zp 6 (zb 11 95) ?_ rfl rfl HT_ (by kernel_rfl) (fun _ _ _ h => h) rfl ?_ ?_ ?_ ?_; rotate_left; (intro w'; go_simp; with_reducible rfl); rotate_left; (simp only [zs]; rfl)
                                                  refine zt 5 (zb 11 127) ?_ rfl rfl HT_ HW_ (by kernel_rfl) (fun _ _ _ h => h) rfl ?_ hHeld ?_ ?_ ?_; rotate_left; (rintro w' ⟨s0, s1, s2, s3, s4, s5, s6, s7⟩; go_simp; with_reducible rfl); rotate_left; (simp only [zs]; rfl)
                                                  refine zt 7 (zb 11 255) ?_ rfl rfl HT_ HW_ (by kernel_rfl) (fun _ _ _ h => h) rfl ?_ hHeld ?_ ?_ ?_; rotate_left; (rintro w' ⟨s0, s1, s2, s3, s4, s5, s6, s7⟩; go_simp; with_reducible rfl); rotate_left; (simp only [zs]; rfl)
                                                  refine zp 8 (zb 11 511) ?_ rfl rfl HT_ (by kernel_rfl) (fun _ _ _ h => h) rfl ?_ ?_ ?_ ?_; rotate_left; (intro w'; go_simp; with_reducible rfl); rotate_left; (simp only [zs]; rfl)
                                                  refine zp 9 (zb 11 1023) ?_ rfl rfl HT_ (by kernel_rfl) (fun _ _ _ h => h) rfl ?_ ?_ ?_ ?_; rotate_left; (intro w'; go_simp; with_reducible rfl); rotate_left; (simp only [zs]; rfl)
                                                  refine zp 10 (zb 11 2047) ?_ rfl rfl HT_ (by kernel_rfl) (fun _ _ _ h => h) rfl ?_ ?_ ?_ ?_; rotate_left; (intro w'; go_simp; with_reducible rfl); rotate_left; (simp only [zs]; rfl)
                                                  refine done_ (done_of HT_.out (by kernel_rfl)) ?_
                                                  try go_wp2
                                                  go_roundg k7
                                                  case measure => have := HJ1.out; have := HJ16.out; have := HK3.out; have := HK4.out; have := HK5.out; have := HJ46.out; have := HK7.out; omega
                                                  case rel => exact ⟨(((rdOf ByteArray.empty t418 x11_7).toList == ((rd_T50 ((rd_T47 l0_1 t426).f1) x8_5).f3).toList)), (wrap64 (x11_7 + 1)), (by first | rfl ), (by first | rfl ), H', ⟨by have := HJ1.out; have := HJ16.out; have := HK3.out; have := HK4.out; have := HK5.out; have := HJ46.out; have := HK7.out; omega⟩, ⟨by exact HO_3.out⟩, ⟨by exact BK414.out⟩, ⟨by exact BK432.out⟩, ⟨by exact HB.out⟩⟩
                                                · rw [if_neg c64] at H
                                                  exact absurd H (by simp)
                                            · rw [if_neg c61] at H
                                              have c61b0 : decide (x11_7 < (t418.length : Int)) = false := decide_eq_false c61
                                              clear c61
                                              by_cases c66 : x10_7 = true
                                              · subst c66
                                                have H1 : (ecdysislaw16_FindCloses.l2 k7 t418 x5_3 t426 (wrap64 (x8_5 + 1)) l0_0 l0_1) = some r := by rw [if_pos rfl] at H; exact H
                                                clear H
                                                have H := H1
                                                clear H1
                                                have H' := Aside0.mk H
                                                clear H
                                                go_wp2
                                                go_roundg k7
                                                case measure => have := HJ1.out; have := HJ16.out; have := HK3.out; have := HK4.out; have := HK5.out; have := HJ46.out; have := HK7.out; omega
                                                case rel => exact ⟨(wrap64 (x8_5 + 1)), (by first | rfl ), H', ⟨by have := HJ1.out; have := HJ16.out; have := HK3.out; have := HK4.out; have := HK5.out; have := HJ46.out; have := HK7.out; omega⟩, ⟨by exact HO_3.out⟩, ⟨by exact BK414.out⟩, ⟨by exact HB.out⟩⟩
                                              · replace c66 := Bool.eq_false_iff.mpr c66
                                                subst c66
                                                have H1 : (some false) = some r := by rw [if_neg (show ¬ (false = true) by decide)] at H; exact H
                                                clear H
                                                have H := H1
                                                clear H1
                                                obtain rfl := Option.some.inj H
                                                go_wp2
                                                go_ret
                                                exact ⟨by first | rfl , by exact HB.out⟩
                                        · rw [if_neg c56] at H
                                          exact absurd H (by simp)
                                      · rw [if_neg c55] at H
                                        exact absurd H (by simp)
                                    · rw [if_neg c54] at H
                                      exact absurd H (by simp)
                                  · rw [if_neg c53] at H
                                    exact absurd H (by simp)
                                · replace c52 := Bool.eq_false_iff.mpr c52
                                  subst c52
                                  have H1 : (if t426 < 0 then (some false) else (ecdysislaw16_FindCloses.l0 kj46 t418 (wrap64 (x5_3 + 1)) l0_0 l0_1)) = some r := by rw [if_neg (show ¬ (false = true) by decide)] at H; exact H
                                  clear H
                                  have H := H1
                                  clear H1
                                  by_cases c67 : t426 < 0
                                  · rw [if_pos c67] at H
                                    have c67b0 : decide (t426 < 0) = true := decide_eq_true c67
                                    clear c67
                                    obtain rfl := Option.some.inj H
                                    go_wp2
                                    go_ret
                                    exact ⟨by first | rfl , by exact HB.out⟩
                                  · rw [if_neg c67] at H
                                    have c67b0 : decide (t426 < 0) = false := decide_eq_false c67
                                    clear c67
                                    have H' := Aside0.mk H
                                    clear H
                                    go_wp2
                                    go_roundg kj46
                                    case measure => have := HJ1.out; have := HJ16.out; have := HK3.out; have := HK4.out; have := HK5.out; have := HJ46.out; omega
                                    case rel => exact ⟨(wrap64 (x5_3 + 1)), (by first | rfl ), H', ⟨by have := HJ1.out; have := HJ16.out; have := HK3.out; have := HK4.out; have := HK5.out; have := HJ46.out; omega⟩, ⟨by exact HO_3.out⟩, ⟨by exact BK414.out⟩, ⟨by exact HB.out⟩⟩
                 · rw [if_neg c34] at H
                   exact absurd H (by simp)
               · rw [if_neg c33] at H
                 have c33b0 : decide (x5_3 < (t418.length : Int)) = false := decide_eq_false c33
                 clear c33
                 replace H := Option.bind_eq_some_iff.mp H
                 obtain ⟨t424, A680, H⟩ := H
                 replace H : (some t424) = some r := H
                 have A68 := Aside0.mk A680
                 clear A680
                 obtain rfl := Option.some.inj H
                 obtain ⟨Ao69, co69, eo69⟩ := Kd.R_slice HO_3.out
                 subst eo69
                 go_wp2_with (first | ((with_reducible refine gate_callee (f := 22) rfl ?_); refine goesL_ (some 125) rfl rfl Try.func22 (by kernel_rfl) rfl #[] rfl (by (try simp only [List.map_toArray, List.map_cons, List.map_nil]); first | done | rfl | (simp only [List.length_drop, List.length_take]; rfl)) ?_; (with_reducible refine (ecdysislaw16_live.calls k3  t424 _ A68.out).mono ?_); rintro e w70 ⟨rfl, hb⟩; refine ⟨_, rfl, ?_⟩; have n0_ := Aside0.mk (Kd.R_below HO_3.out hb); have n1_ := Aside0.mk (blk_below BK414.out hb); have n2_ := Aside0.mk (below_step HB.out hb); clear HO_3; clear BK414; clear HB; have HO_3 := n0_; have BK414 := n1_; have HB := n2_; clear n0_ n1_ n2_; (try clear hb); (try clear hb2); (try clear hk); (try clear hi)))
                 go_ret
                 exact ⟨by first | rfl , by exact HB.out⟩
end Go.Proofs.Ytbpnfpckoapdbaa.PF16
end
section
namespace Go.Proofs.Ytbpnfpckoapdbaa.PF16
open Go.RowKit Go.Proofs.Ytbpnfpckoapdbaa.M Go.Proofs.Ytbpnfpckoapdbaa.KD Go.Proofs.Ytbpnfpckoapdbaa Go.Proofs.YtbpnfpckoapdbaaW.PrintWords Go.Proofs.YtbpnfpckoapdbaaW.PrintLast Go.Proofs.YtbpnfpckoapdbaaW.PrintMore
attribute [local go_sem] max2_int min2_int max_two min_two max_three min_three max_four min_four   -- for this text's walks alone
set_option linter.unusedVariables false
set_option linter.unusedSimpArgs false
end Go.Proofs.Ytbpnfpckoapdbaa.PF16
end
section
namespace Go.Proofs.Ytbpnfpckoapdbaa.Ev
open Go.RowKit Go.Proofs.YtbpnfpckoapdbaaW.PrintWords
set_option linter.unusedVariables false
/-- With enough rounds it tells r. -/
def E {α : Type} (g : Nat → Option α) (r : α) : Prop := ∃ k0, ∀ k, k0 ≤ k → g k = some r
theorem E.const {α : Type} {r : α} : E (fun _ => some r) r := ⟨0, fun _ _ => rfl⟩
theorem E.of {α : Type} {g : Nat → Option α} {r : α} (h : ∀ k, g k = some r) : E g r := ⟨0, fun k _ => h k⟩
theorem E.congr {α : Type} {g h : Nat → Option α} {r : α} (hh : E h r) (e : ∀ k, g k = h k) : E g r := by
 obtain ⟨k0, hk⟩ := hh
 exact ⟨k0, fun k hk0 => by rw [e]; exact hk k hk0⟩
theorem E.succ {α : Type} {g h : Nat → Option α} {r : α} (hh : E h r) (e : ∀ k, g (k + 1) = h k) : E g r := by
 obtain ⟨k0, hk⟩ := hh
 refine ⟨k0 + 1, fun k hk0 => ?_⟩
 obtain ⟨m, rfl⟩ : ∃ m, k = m + 1 := ⟨k - 1, by omega⟩
 rw [e]
 exact hk m (by omega)
theorem E.step {α : Type} {g : Nat → Option α} {r : α} (h : E (fun k => g (k + 1)) r) : E g r := E.succ h fun _ => rfl
theorem E.bind {α β : Type} {f : Nat → Option α} {a : α} {g : Nat → α → Option β} {r : β} (hf : E f a) (hg : E (fun k => g k a) r) : E (fun k => (f k).bind (g k)) r := by
 obtain ⟨k0, h0⟩ := hf
 obtain ⟨k1, h1⟩ := hg
 refine ⟨max k0 k1, fun k hk => ?_⟩
 show (f k).bind (g k) = some r
 rw [h0 k (Nat.le_trans (Nat.le_max_left _ _) hk)]
 exact h1 k (Nat.le_trans (Nat.le_max_right _ _) hk)
theorem E.bind1 {α β : Type} {f : Nat → Option α} {a : α} {g : α → Option β} {r : β} (hf : E f a) (hg : g a = some r) : E (fun k => (f k).bind g) r := E.bind (g := fun _ => g) hf (E.of fun _ => hg)
theorem E.bind0 {α β : Type} {f : Option α} {a : α} {g : Nat → α → Option β} {r : β} (hf : f = some a) (hg : E (fun k => g k a) r) : E (fun k => f.bind (g k)) r := E.bind (f := fun _ => f) (E.of fun _ => hf) hg
theorem E.ite {α : Type} {c : Prop} [Decidable c] {g h : Nat → Option α} {r : α} (hg : c → E g r) (hh : ¬ c → E h r) : E (fun k => if c then g k else h k) r := by
 by_cases hc : c
 · exact (hg hc).congr fun k => if_pos hc
 · exact (hh hc).congr fun k => if_neg hc
theorem E.yes {α : Type} {c : Prop} [Decidable c] {g h : Nat → Option α} {r : α} (hc : c) (hg : E g r) : E (fun k => if c then g k else h k) r := hg.congr fun k => if_pos hc
theorem E.no {α : Type} {c : Prop} [Decidable c] {g h : Nat → Option α} {r : α} (hc : ¬ c) (hh : E h r) : E (fun k => if c then g k else h k) r := hh.congr fun k => if_neg hc
theorem E.get {α : Type} {g : Nat → Option α} {r : α} (h : E g r) : ∃ k, g k = some r := by
 obtain ⟨k, hk⟩ := h
 exact ⟨k, hk k (Nat.le_refl _)⟩
/-- From the end on, step by step. -/
theorem up {C : Nat → Prop} (n : Nat) (hend : ∀ i, n ≤ i → C i) (hstep : ∀ i, i < n → C (i + 1) → C i) (i : Nat) : C i := by
 obtain ⟨d, hd⟩ : ∃ d, d = n - i := ⟨_, rfl⟩
 induction d generalizing i with
 | zero => exact hend i (by omega)
 | succ d ih => exact hstep i (by omega) (ih (i + 1) (by omega))
theorem drop_getD {α : Type} {xs : List α} {i : Nat} (z : α) (h : i < xs.length) : xs.drop i = xs.getD i z :: xs.drop (i + 1) := by
 rw [List.drop_eq_getElem_cons h, List.getD_eq_getElem?_getD, List.getElem?_eq_getElem h]
 rfl
theorem w1 {i n : Nat} (h : i < n) (hn : n ≤ 9000000000000000000) : wrap64 ((i : Int) + 1) = ((i + 1 : Nat) : Int) := by unfold wrap64; omega
end Go.Proofs.Ytbpnfpckoapdbaa.Ev
end
section
namespace Go.Proofs.Ytbpnfpckoapdbaa.P16
open Go.RowKit Go.Proofs.YtbpnfpckoapdbaaW.PrintWords Go.Proofs.YtbpnfpckoapdbaaW.PrintLast Go.Proofs.YtbpnfpckoapdbaaW.PrintMore Go.Proofs.Ytbpnfpckoapdbaa.KD Go.Proofs.Ytbpnfpckoapdbaa.M Go.Proofs.Ytbpnfpckoapdbaa.PF16 Go.Proofs.Ytbpnfpckoapdbaa.Ev
set_option linter.unusedVariables false
set_option linter.unusedSimpArgs false
abbrev SE := S86
abbrev SM := S47
abbrev SF := S50
theorem rdM (xs : List SM) (i : Nat) : rd_T47 xs (i : Int) = xs.getD i z47 := rfl
theorem rdE (xs : List SE) (i : Nat) : rd_T86 xs (i : Int) = xs.getD i z86 := rfl
theorem rdF (xs : List SF) (i : Nat) : rd_T50 xs (i : Int) = xs.getD i z50 := rfl
theorem toL {x y : ByteArray} : (x.toList == y.toList) = true ↔ x.toList = y.toList := by simp
theorem ixF_cons {α : Type} (p : α → Bool) (x : α) (l : List α) (i : Nat) : ixF p (x :: l) i = if p x = true then (i : Int) else ixF p l (i + 1) := rfl
theorem message_E (l0 : List SE) (l1 : List SM) (a : ByteArray) (h : l1.length ≤ 9000000000000000000) : E (fun k => ecdysisref15_Message.f k l0 l1 a) (ixF (fun x => x.f0.toList == a.toList) l1 0) := by
 have key := up (C := fun i => E (fun k => ecdysisref15_Message.l0 k a (i : Int) l0 l1) (ixF (fun x => x.f0.toList == a.toList) (l1.drop i) i)) l1.length (fun i hi => ?_) (fun i hi ih => ?_) 0
 · exact key
 · rw [List.drop_eq_nil_of_le hi]
   exact E.succ E.const fun k => by simp only [ecdysisref15_Message.l0]; rw [if_neg (by omega)]; rfl
 · rw [drop_getD z47 hi, ixF_cons]
   by_cases he : ((l1.getD i z47).f0.toList == a.toList) = true
   · rw [if_pos he]
     exact E.succ E.const fun k => by simp only [ecdysisref15_Message.l0]; rw [if_pos (by omega), if_pos (by omega), rdM, if_pos (toL.1 he)]
   · rw [if_neg he]
     exact E.succ ih fun k => by simp only [ecdysisref15_Message.l0]; rw [if_pos (by omega), if_pos (by omega), rdM, if_neg (fun h => he (toL.2 h)), w1 hi h]
theorem refsL_cons (x : SF) (l : List SF) : refsL (x :: l) = if x.f2 = 15 then x.f3 :: refsL l else refsL l := by
 unfold refsL
 rw [List.filter_cons]
 by_cases h : x.f2 = 15 <;> simp [h]
theorem names_E (l : List ByteArray) (h : l.length ≤ 9000000000000000000) : E (fun k => ecdysisref01_Names.f k l l) true := by
 have key := up (C := fun i => E (fun k => ecdysisref01_Names.l0 k l l (i : Int)) true) l.length (fun i hi => ?_) (fun i hi ih => ?_) 0
 · exact E.yes rfl key
 · exact E.succ E.const fun k => by simp only [ecdysisref01_Names.l0]; rw [if_neg (by omega)]
 · exact E.succ ih fun k => by simp only [ecdysisref01_Names.l0]; rw [if_pos (by omega), if_pos (by omega), if_pos (by omega), if_pos trivial, w1 hi h]
end Go.Proofs.Ytbpnfpckoapdbaa.P16
end
section
namespace Go.Proofs.Ytbpnfpckoapdbaa.Open
open Go.RowKit Go.ChangeShapes Go.WideShapes Go.Deep Go.Proofs.YtbpnfpckoapdbaaW.PrintWords
set_option linter.unusedVariables false
/-- What can be read at type t is of kind d, and Ok. -/
def Opens {α : Type} (P : Program) (d : Kd α) (Ok : α → Prop) (t : TypeId) : Prop :=
 ∀ (H : Type) (enc : TypeId × Value → H) (w : World) (base : Nat) (spare : Nat → Bool) (held : Bool) (fuel : Nat) (cs : List Value) (x : DataW H × List MemPlace), DataW.trod enc P w base spare held fuel t cs = some x → ∃ y, d.K w y cs ∧ Ok y
theorem opens_int {P : Program} {t : TypeId} {k : IntKind} (hu : P.underlying t = some (.int k)) : Opens P (Kd.int k) (fun n => (Lit.int k n).wf = true) t := by
 intro H enc w base spare held fuel cs x h
 obtain ⟨n, rfl, _, hw⟩ := DataW.trod_int hu h
 exact ⟨n, rfl, hw⟩
theorem opens_bool {P : Program} {t : TypeId} (hu : P.underlying t = some .bool) : Opens P Kd.bool (fun _ => True) t := by
 intro H enc w base spare held fuel cs x h
 obtain ⟨b, rfl, _⟩ := DataW.trod_bool hu h
 exact ⟨b, rfl, trivial⟩
theorem list_of {α : Type} (p : Nat → α → Prop) : ∀ n, (∀ i, i < n → ∃ y, p i y) → ∃ l : List α, l.length = n ∧ ∀ i y, l[i]? = some y → p i y
 | 0, _ => ⟨[], rfl, fun i y h => by simp at h⟩
 | n + 1, h => by
  obtain ⟨l, hl, hp⟩ := list_of p n (fun i hi => h i (by omega))
  obtain ⟨y, hy⟩ := h n (by omega)
  refine ⟨l ++ [y], by rw [List.length_append, hl, List.length_singleton], fun i z hz => ?_⟩
  rcases Nat.lt_or_ge i l.length with hi | hi
  · rw [List.getElem?_append_left hi] at hz
    exact hp i z hz
  · rw [List.getElem?_append_right hi] at hz
    have hi2 : i = n := by
     have := (List.getElem?_eq_some_iff.1 hz).1
     rw [List.length_singleton] at this
     omega
    subst hi2
    rw [hl, Nat.sub_self] at hz
    have : y = z := by simpa using hz
    exact this ▸ hy
/-- Fields from a place on. -/
def Fields {β : Type} (P : Program) (d : Kd β) (Ok : β → Prop) (off : Nat) (fs : List Field) : Prop :=
 ∀ (H : Type) (enc : TypeId × Value → H) (w : World) (base : Nat) (spare : Nat → Bool) (held : Bool) (n : Nat) (cs : List Value), cs.length = off + d.sz →
  (∀ f ∈ fs, ∃ x, DataW.trod enc P w base spare held n f.type ((cs.drop f.offset).take (P.cellsOf f.type)) = some x) → ∃ y, d.K w y (cs.drop off) ∧ Ok y
end Go.Proofs.Ytbpnfpckoapdbaa.Open
end
section
namespace Go.Proofs.Ytbpnfpckoapdbaa.Open
open Go.RowKit Go.ChangeShapes Go.WideShapes Go.Deep Go.Proofs.YtbpnfpckoapdbaaW.PrintWords
set_option linter.unusedVariables false
def Light {H : Type} (P : Program) (t : TypeId) (x : DataW H) : Prop := ∀ n ∈ DataW.weights P t x, n ≤ reachBytes
def OpensW {α : Type} (fuel : Nat) (P : Program) (d : Kd α) (Ok : α → Prop) (t : TypeId) : Prop :=
 ∀ (H : Type) (enc : TypeId × Value → H) (w : World) (base : Nat) (spare : Nat → Bool) (held : Bool) (cs : List Value) (x : DataW H × List MemPlace), DataW.trod enc P w base spare held fuel t cs = some x → Light P t x.1 → ∃ y, d.K w y cs ∧ Ok y
theorem Opens.toW {α : Type} {P : Program} {d : Kd α} {Ok : α → Prop} {t : TypeId} (h : Opens P d Ok t) (fuel : Nat) : OpensW fuel P d Ok t := fun H enc w base spare held cs x hx _ => h H enc w base spare held fuel cs x hx
theorem opensW_string {P : Program} {t : TypeId} {fuel : Nat} (hu : P.underlying t = some .string) : OpensW fuel P Kd.string (fun s => s.size ≤ reachBytes) t := by
 intro H enc w base spare held cs x h hl
 obtain ⟨s, rfl, hx, hs⟩ := DataW.trod_string hu h
 refine ⟨s, rfl, ?_⟩
 have := hl s.size (by rw [hx]; simp [DataW.weights])
 exact this
theorem mem_weightsAll {H : Type} {P : Program} {e : TypeId} {n : Nat} : ∀ {l : List (DataW H)} {d : DataW H}, d ∈ l → n ∈ DataW.weights P e d → n ∈ DataW.weightsAll P e l
 | [], d, h, _ => by cases h
 | a :: l, d, h, hn => by
  rcases List.mem_cons.1 h with rfl | h
  · simp [DataW.weightsAll, hn]
  · simp [DataW.weightsAll, mem_weightsAll h hn]
theorem opensW_slice {α : Type} {P : Program} {d : Kd α} {Ok : α → Prop} {t e : TypeId} {fuel : Nat} {B : Nat} (hu : P.underlying t = some (.slice e)) (hc : P.cellsOf e = d.sz) (hB : P.bytesOf e = B) (he : ∀ n, fuel = n + 1 → OpensW n P d Ok e) : OpensW fuel P (Kd.slice e d) (fun l => l.length * B ≤ reachBytes ∧ ∀ y ∈ l, Ok y) t := by
 intro H enc w base spare held cs x h hw
 rcases DataW.trod_slice hu h with ⟨rfl, _⟩ | ⟨a, len, cap, elems, rest, n, hf, rfl, rfl, hb, hl, hm, hlen, hi, _, _⟩
 · exact ⟨[], ⟨none, 0, rfl, Nat.le_refl _, Kd.C_nil d w⟩, by simp⟩
 · have hw1 : ∀ k ∈ (elems.length + rest.length) * P.bytesOf e :: (DataW.weightsAll P e (elems.map (·.1)) ++ DataW.weightsAll P e (rest.map (·.1))), k ≤ reachBytes := by
     intro k hk
     refine hw k ?_
     simp only [DataW.weights, hu, List.length_map]
     exact hk
   obtain ⟨l, hl1, hl2⟩ := list_of (fun i y => ∃ c, c.length = d.sz ∧ d.K w y c ∧ (∀ j u, c[j]? = some u → w.cell? (a.add (i * d.sz + j)) = some u) ∧ Ok y) len (fun i hil => by
     have hi1 := hi i hil
     rw [List.getElem?_eq_getElem (by omega : i < elems.length)] at hi1
     obtain ⟨cs', h1, h2⟩ := Option.bind_eq_some_iff.1 hi1
     obtain ⟨y, hy, ho⟩ := he n hf H enc w base spare held cs' _ h2 (fun k hk => hw1 k (by
      refine List.mem_cons_of_mem _ (List.mem_append_left _ (mem_weightsAll (List.mem_map.2 ⟨_, List.getElem_mem _, rfl⟩) hk))))
     refine ⟨y, cs', d.K_len hy, hy, fun j u hj => ?_, ho⟩
     obtain ⟨_, hcl, hat⟩ := World.cells?_some h1
     have hjl : j < P.cellsOf e := by
      have := (List.getElem?_eq_some_iff.1 hj).1
      rw [hcl] at this
      exact this
     have h3 := hat j hjl
     rw [Go.Deep.add_add, hc] at h3
     rw [h3, hj])
   refine ⟨l, ⟨some a, cap, by rw [hl1], by omega, rfl, by simp only [maxLen] at hm; omega, fun _ => ⟨a, rfl, fun j p hj => ?_⟩⟩, ?_, fun y hy => ?_⟩
   · obtain ⟨c, h1, h2, h3, _⟩ := hl2 j p hj
     exact ⟨c, h1, h2, h3⟩
   · have h1 := hw1 _ (List.mem_cons_self)
     rw [hB] at h1
     have h2 : l.length * B ≤ (elems.length + rest.length) * B := Nat.mul_le_mul_right _ (by omega)
     exact Nat.le_trans h2 h1
   · obtain ⟨i, hi⟩ := List.getElem?_of_mem hy
     obtain ⟨_, _, _, _, h4⟩ := hl2 i y hi
     exact h4
/-- Fields from a place on. -/
def FieldsW {β : Type} (fuel : Nat) (P : Program) (d : Kd β) (Ok : β → Prop) (off : Nat) (fs : List Field) : Prop :=
 ∀ (H : Type) (enc : TypeId × Value → H) (w : World) (base : Nat) (spare : Nat → Bool) (held : Bool) (cs : List Value), cs.length = off + d.sz →
  (∀ f ∈ fs, ∃ x, DataW.trod enc P w base spare held fuel f.type ((cs.drop f.offset).take (P.cellsOf f.type)) = some x ∧ Light P f.type x.1) → ∃ y, d.K w y (cs.drop off) ∧ Ok y
theorem fieldsW_last {α : Type} {P : Program} {d : Kd α} {Ok : α → Prop} {off n : Nat} {f : Field} (ho : f.offset = off) (hc : P.cellsOf f.type = d.sz) (h : OpensW n P d Ok f.type) : FieldsW n P d Ok off [f] := by
 intro H enc w base spare held cs hl hf
 obtain ⟨x, hx, hg⟩ := hf f (by simp)
 obtain ⟨y, hy, hk⟩ := h H enc w base spare held _ x hx hg
 rw [ho, hc, List.take_of_length_le (by rw [List.length_drop]; omega)] at hy
 exact ⟨y, hy, hk⟩
theorem fieldsW_cons {α β : Type} {P : Program} {d : Kd α} {d' : Kd β} {Ok : α → Prop} {Ok' : β → Prop} {off off' n : Nat} {f : Field} {fs : List Field} (ho : f.offset = off) (hc : P.cellsOf f.type = d.sz) (h : OpensW n P d Ok f.type) (hoff : off + d.sz = off') (h' : FieldsW n P d' Ok' off' fs) : FieldsW n P (Kd.pair d d') (fun x => Ok x.1 ∧ Ok' x.2) off (f :: fs) := by
 intro H enc w base spare held cs hl hf
 obtain ⟨x, hx, hg⟩ := hf f (by simp)
 obtain ⟨y, hy, hk⟩ := h H enc w base spare held _ x hx hg
 rw [ho, hc] at hy
 have hl' : cs.length = off + (d.sz + d'.sz) := hl
 obtain ⟨y', hy', hk'⟩ := h' H enc w base spare held cs (by omega) (fun g hg => hf g (by simp [hg]))
 refine ⟨(y, y'), ⟨(cs.drop off).take d.sz, cs.drop off', ?_, hy, hy'⟩, hk, hk'⟩
 rw [← hoff, ← List.drop_drop, List.take_append_drop]
theorem opensW_struct {β γ : Type} {P : Program} {d : Kd β} {Ok : β → Prop} {t : TypeId} {fs : Array Field} {fuel : Nat} (mk : β → γ) (proj : γ → β) (hmk : ∀ y, proj (mk y) = y) (hu : P.underlying t = some (.struct fs)) (hc : P.cellsOf t = d.sz) (h : ∀ n, fuel = n + 1 → FieldsW n P d Ok 0 fs.toList) : OpensW fuel P (Kd.iso d proj) (fun x => Ok (proj x)) t := by
 intro H enc w base spare held cs x ht hw
 obtain ⟨xs, n, hn, hx, hl, hxs, hf⟩ := DataW.trod_struct hu ht
 obtain ⟨y, hy, hk⟩ := h n hn H enc w base spare held cs (by omega) (fun f hfm => by
  obtain ⟨i, hi⟩ := List.getElem?_of_mem hfm
  have hi' : fs[i]? = some f := by rw [← Array.getElem?_toList]; exact hi
  have h1 := hf i f hi'
  have hlt : i < xs.length := by rw [hxs]; exact (Array.getElem?_eq_some_iff.1 hi').1
  refine ⟨xs[i], by rw [h1, List.getElem?_eq_getElem hlt], fun k hk => hw k ?_⟩
  rw [hx]
  simp only [DataW.weights, hu]
  exact DataW.weights_mem_each (j := i) (by rw [List.getElem?_map, hi]; rfl) (by rw [List.getElem?_map, List.getElem?_eq_getElem hlt]; rfl) k hk)
 refine ⟨mk y, ?_, by show Ok (proj (mk y)); rw [hmk]; exact hk⟩
 show d.K w (proj (mk y)) cs
 rw [hmk]
 exact hy
end Go.Proofs.Ytbpnfpckoapdbaa.Open
end
section
namespace Go.Proofs.Ytbpnfpckoapdbaa.Ops
open Go.RowKit Go.Proofs.YtbpnfpckoapdbaaW.PrintWords Go.Proofs.Ytbpnfpckoapdbaa.KD Go.Proofs.Ytbpnfpckoapdbaa.Open
set_option linter.unusedVariables false
set_option maxHeartbeats 1000000
def ok88 (x : S88) : Prop := x.f0.size ≤ reachBytes ∧ (Lit.int .i64 x.f1).wf = true
theorem opens88 (fuel : Nat) : OpensW fuel Try.prog k88 ok88 88 := by
 have c0 : Try.prog.cellsOf 9 = Kd.string.sz := by kernel_rfl
 have c1 : Try.prog.cellsOf 3 = (Kd.int .i64).sz := by kernel_rfl
 refine (opensW_struct (P := Try.prog) (t := 88) (fuel := fuel) (d := (Kd.pair Kd.string ((Kd.int .i64)))) (Ok := fun x_ : ByteArray × Int => (x_.1).size ≤ reachBytes ∧ (Lit.int .i64 (x_.2)).wf = true) (mk := fun y => (⟨y.1, y.2⟩ : S88)) (proj := fun x => (x.f0, x.f1)) (fun _ => rfl) Try.underlying88 (by kernel_rfl) fun f_ e_ => ?_)
 refine fieldsW_cons (off' := 1) (Ok := fun x_ : ByteArray => x_.size ≤ reachBytes) (Ok' := fun x_ : Int => (Lit.int .i64 x_).wf = true) ?_ ?_ ?_ ?_ ?_
 · exact rfl
 · exact c0
 · exact (opensW_string Try.underlying9)
 · exact rfl
 refine fieldsW_last ?_ ?_ ?_
 · exact rfl
 · exact c1
 · exact ((opens_int Try.underlying3).toW _)
def ok86 (x : S86) : Prop := x.f0.size ≤ reachBytes ∧ (x.f1.length * 24 ≤ reachBytes ∧ ∀ y_ ∈ x.f1, ok88 y_)
theorem opens86 (fuel : Nat) : OpensW fuel Try.prog k86 ok86 86 := by
 have c0 : Try.prog.cellsOf 9 = Kd.string.sz := by kernel_rfl
 have c1 : Try.prog.cellsOf 84 = (Kd.slice 88 k88).sz := by kernel_rfl
 refine (opensW_struct (P := Try.prog) (t := 86) (fuel := fuel) (d := (Kd.pair Kd.string ((Kd.slice 88 k88)))) (Ok := fun x_ : ByteArray × (List S88) => (x_.1).size ≤ reachBytes ∧ ((x_.2).length * 24 ≤ reachBytes ∧ ∀ y_ ∈ (x_.2), ok88 y_)) (mk := fun y => (⟨y.1, y.2⟩ : S86)) (proj := fun x => (x.f0, x.f1)) (fun _ => rfl) Try.underlying86 (by kernel_rfl) fun f_ e_ => ?_)
 refine fieldsW_cons (off' := 1) (Ok := fun x_ : ByteArray => x_.size ≤ reachBytes) (Ok' := fun x_ : (List S88) => (x_.length * 24 ≤ reachBytes ∧ ∀ y_ ∈ x_, ok88 y_)) ?_ ?_ ?_ ?_ ?_
 · exact rfl
 · exact c0
 · exact (opensW_string Try.underlying9)
 · exact rfl
 refine fieldsW_last ?_ ?_ ?_
 · exact rfl
 · exact c1
 · exact (opensW_slice (B := 24) Try.underlying84 (by kernel_rfl) (by kernel_rfl) (fun _ _ => (opens88 _)))
def ok50 (x : S50) : Prop := x.f0.size ≤ reachBytes ∧ (Lit.int .i64 x.f1).wf = true ∧ (Lit.int .i64 x.f2).wf = true ∧ x.f3.size ≤ reachBytes ∧ True ∧ True ∧ x.f6.size ≤ reachBytes
theorem opens50 (fuel : Nat) : OpensW fuel Try.prog k50 ok50 50 := by
 have c0 : Try.prog.cellsOf 9 = Kd.string.sz := by kernel_rfl
 have c1 : Try.prog.cellsOf 3 = (Kd.int .i64).sz := by kernel_rfl
 have c2 : Try.prog.cellsOf 3 = (Kd.int .i64).sz := by kernel_rfl
 have c3 : Try.prog.cellsOf 9 = Kd.string.sz := by kernel_rfl
 have c4 : Try.prog.cellsOf 4 = Kd.bool.sz := by kernel_rfl
 have c5 : Try.prog.cellsOf 4 = Kd.bool.sz := by kernel_rfl
 have c6 : Try.prog.cellsOf 9 = Kd.string.sz := by kernel_rfl
 refine (opensW_struct (P := Try.prog) (t := 50) (fuel := fuel) (d := (Kd.pair Kd.string (Kd.pair (Kd.int .i64) (Kd.pair (Kd.int .i64) (Kd.pair Kd.string (Kd.pair Kd.bool (Kd.pair Kd.bool (Kd.string)))))))) (Ok := fun x_ : ByteArray × Int × Int × ByteArray × Bool × Bool × ByteArray => (x_.1).size ≤ reachBytes ∧ (Lit.int .i64 (x_.2.1)).wf = true ∧ (Lit.int .i64 (x_.2.2.1)).wf = true ∧ (x_.2.2.2.1).size ≤ reachBytes ∧ True ∧ True ∧ (x_.2.2.2.2.2.2).size ≤ reachBytes) (mk := fun y => (⟨y.1, y.2.1, y.2.2.1, y.2.2.2.1, y.2.2.2.2.1, y.2.2.2.2.2.1, y.2.2.2.2.2.2⟩ : S50)) (proj := fun x => (x.f0, x.f1, x.f2, x.f3, x.f4, x.f5, x.f6)) (fun _ => rfl) Try.underlying50 (by kernel_rfl) fun f_ e_ => ?_)
 refine fieldsW_cons (off' := 1) (Ok := fun x_ : ByteArray => x_.size ≤ reachBytes) (Ok' := fun x_ : Int × Int × ByteArray × Bool × Bool × ByteArray => (Lit.int .i64 (x_.1)).wf = true ∧ (Lit.int .i64 (x_.2.1)).wf = true ∧ (x_.2.2.1).size ≤ reachBytes ∧ True ∧ True ∧ (x_.2.2.2.2.2).size ≤ reachBytes) ?_ ?_ ?_ ?_ ?_
 · exact rfl
 · exact c0
 · exact (opensW_string Try.underlying9)
 · exact rfl
 refine fieldsW_cons (off' := 2) (Ok := fun x_ : Int => (Lit.int .i64 x_).wf = true) (Ok' := fun x_ : Int × ByteArray × Bool × Bool × ByteArray => (Lit.int .i64 (x_.1)).wf = true ∧ (x_.2.1).size ≤ reachBytes ∧ True ∧ True ∧ (x_.2.2.2.2).size ≤ reachBytes) ?_ ?_ ?_ ?_ ?_
 · exact rfl
 · exact c1
 · exact ((opens_int Try.underlying3).toW _)
 · exact rfl
 refine fieldsW_cons (off' := 3) (Ok := fun x_ : Int => (Lit.int .i64 x_).wf = true) (Ok' := fun x_ : ByteArray × Bool × Bool × ByteArray => (x_.1).size ≤ reachBytes ∧ True ∧ True ∧ (x_.2.2.2).size ≤ reachBytes) ?_ ?_ ?_ ?_ ?_
 · exact rfl
 · exact c2
 · exact ((opens_int Try.underlying3).toW _)
 · exact rfl
 refine fieldsW_cons (off' := 4) (Ok := fun x_ : ByteArray => x_.size ≤ reachBytes) (Ok' := fun x_ : Bool × Bool × ByteArray => True ∧ True ∧ (x_.2.2).size ≤ reachBytes) ?_ ?_ ?_ ?_ ?_
 · exact rfl
 · exact c3
 · exact (opensW_string Try.underlying9)
 · exact rfl
 refine fieldsW_cons (off' := 5) (Ok := fun x_ : Bool => True) (Ok' := fun x_ : Bool × ByteArray => True ∧ (x_.2).size ≤ reachBytes) ?_ ?_ ?_ ?_ ?_
 · exact rfl
 · exact c4
 · exact ((opens_bool Try.underlying4).toW _)
 · exact rfl
 refine fieldsW_cons (off' := 6) (Ok := fun x_ : Bool => True) (Ok' := fun x_ : ByteArray => x_.size ≤ reachBytes) ?_ ?_ ?_ ?_ ?_
 · exact rfl
 · exact c5
 · exact ((opens_bool Try.underlying4).toW _)
 · exact rfl
 refine fieldsW_last ?_ ?_ ?_
 · exact rfl
 · exact c6
 · exact (opensW_string Try.underlying9)
def ok47 (x : S47) : Prop := x.f0.size ≤ reachBytes ∧ (x.f1.length * 72 ≤ reachBytes ∧ ∀ y_ ∈ x.f1, ok50 y_) ∧ (x.f2.length * 8 ≤ reachBytes ∧ ∀ y_ ∈ x.f2, (Lit.int .i64 y_).wf = true)
theorem opens47 (fuel : Nat) : OpensW fuel Try.prog k47 ok47 47 := by
 have c0 : Try.prog.cellsOf 9 = Kd.string.sz := by kernel_rfl
 have c1 : Try.prog.cellsOf 44 = (Kd.slice 50 k50).sz := by kernel_rfl
 have c2 : Try.prog.cellsOf 45 = (Kd.slice 3 (Kd.int .i64)).sz := by kernel_rfl
 refine (opensW_struct (P := Try.prog) (t := 47) (fuel := fuel) (d := (Kd.pair Kd.string (Kd.pair (Kd.slice 50 k50) ((Kd.slice 3 (Kd.int .i64)))))) (Ok := fun x_ : ByteArray × (List S50) × (List Int) => (x_.1).size ≤ reachBytes ∧ ((x_.2.1).length * 72 ≤ reachBytes ∧ ∀ y_ ∈ (x_.2.1), ok50 y_) ∧ ((x_.2.2).length * 8 ≤ reachBytes ∧ ∀ y_ ∈ (x_.2.2), (Lit.int .i64 y_).wf = true)) (mk := fun y => (⟨y.1, y.2.1, y.2.2⟩ : S47)) (proj := fun x => (x.f0, x.f1, x.f2)) (fun _ => rfl) Try.underlying47 (by kernel_rfl) fun f_ e_ => ?_)
 refine fieldsW_cons (off' := 1) (Ok := fun x_ : ByteArray => x_.size ≤ reachBytes) (Ok' := fun x_ : (List S50) × (List Int) => ((x_.1).length * 72 ≤ reachBytes ∧ ∀ y_ ∈ (x_.1), ok50 y_) ∧ ((x_.2).length * 8 ≤ reachBytes ∧ ∀ y_ ∈ (x_.2), (Lit.int .i64 y_).wf = true)) ?_ ?_ ?_ ?_ ?_
 · exact rfl
 · exact c0
 · exact (opensW_string Try.underlying9)
 · exact rfl
 refine fieldsW_cons (off' := 2) (Ok := fun x_ : List S50 => (x_.length * 72 ≤ reachBytes ∧ ∀ y_ ∈ x_, ok50 y_)) (Ok' := fun x_ : (List Int) => (x_.length * 8 ≤ reachBytes ∧ ∀ y_ ∈ x_, (Lit.int .i64 y_).wf = true)) ?_ ?_ ?_ ?_ ?_
 · exact rfl
 · exact c1
 · exact (opensW_slice (B := 72) Try.underlying44 (by kernel_rfl) (by kernel_rfl) (fun _ _ => (opens50 _)))
 · exact rfl
 refine fieldsW_last ?_ ?_ ?_
 · exact rfl
 · exact c2
 · exact (opensW_slice (B := 8) Try.underlying45 (by kernel_rfl) (by kernel_rfl) (fun _ _ => ((opens_int Try.underlying3).toW _)))
def ok35 (x : S35) : Prop := (x.f0.length * 40 ≤ reachBytes ∧ ∀ y_ ∈ x.f0, ok86 y_) ∧ (x.f1.length * 64 ≤ reachBytes ∧ ∀ y_ ∈ x.f1, ok47 y_)
theorem opens35 (fuel : Nat) : OpensW fuel Try.prog k35 ok35 35 := by
 have c0 : Try.prog.cellsOf 32 = (Kd.slice 86 k86).sz := by kernel_rfl
 have c1 : Try.prog.cellsOf 33 = (Kd.slice 47 k47).sz := by kernel_rfl
 refine (opensW_struct (P := Try.prog) (t := 35) (fuel := fuel) (d := (Kd.pair (Kd.slice 86 k86) ((Kd.slice 47 k47)))) (Ok := fun x_ : (List S86) × (List S47) => ((x_.1).length * 40 ≤ reachBytes ∧ ∀ y_ ∈ (x_.1), ok86 y_) ∧ ((x_.2).length * 64 ≤ reachBytes ∧ ∀ y_ ∈ (x_.2), ok47 y_)) (mk := fun y => (⟨y.1, y.2⟩ : S35)) (proj := fun x => (x.f0, x.f1)) (fun _ => rfl) Try.underlying35 (by kernel_rfl) fun f_ e_ => ?_)
 refine fieldsW_cons (off' := 1) (Ok := fun x_ : List S86 => (x_.length * 40 ≤ reachBytes ∧ ∀ y_ ∈ x_, ok86 y_)) (Ok' := fun x_ : (List S47) => (x_.length * 64 ≤ reachBytes ∧ ∀ y_ ∈ x_, ok47 y_)) ?_ ?_ ?_ ?_ ?_
 · exact rfl
 · exact c0
 · exact (opensW_slice (B := 40) Try.underlying32 (by kernel_rfl) (by kernel_rfl) (fun _ _ => (opens86 _)))
 · exact rfl
 refine fieldsW_last ?_ ?_ ?_
 · exact rfl
 · exact c1
 · exact (opensW_slice (B := 64) Try.underlying33 (by kernel_rfl) (by kernel_rfl) (fun _ _ => (opens47 _)))
end Go.Proofs.Ytbpnfpckoapdbaa.Ops
end
section
namespace Go.Proofs.Ytbpnfpckoapdbaa.P16
open Go.RowKit Go.Proofs.YtbpnfpckoapdbaaW.PrintWords Go.Proofs.YtbpnfpckoapdbaaW.PrintLast Go.Proofs.YtbpnfpckoapdbaaW.PrintMore Go.Proofs.Ytbpnfpckoapdbaa.KD Go.Proofs.Ytbpnfpckoapdbaa.M Go.Proofs.Ytbpnfpckoapdbaa.PF16 Go.Proofs.Ytbpnfpckoapdbaa.Ev Go.Proofs.Ytbpnfpckoapdbaa.Ops
set_option linter.unusedVariables false
set_option linter.unusedSimpArgs false
theorem getD_mem {α : Type} {xs : List α} {i : Nat} {z : α} (h : i < xs.length) : xs.getD i z ∈ xs := by
 rw [List.getD_eq_getElem?_getD, List.getElem?_eq_getElem h]
 exact List.getElem_mem _
theorem reach_eq : reachBytes = 140737488351232 := by rfl
/-- What is known of a schema that comes in. -/
structure OkS (l0 : List SE) (l1 : List SM) : Prop where
 le0 : l0.length ≤ 4000000000000
 le1 : l1.length ≤ 4000000000000
 e : ∀ x ∈ l0, x.f1.length ≤ 10000000000000 ∧ x.f0.size ≤ 140737488351232
 m : ∀ x ∈ l1, x.f1.length ≤ 10000000000000 ∧ x.f2.length ≤ 20000000000000 ∧ x.f0.size ≤ 140737488351232
theorem okS_of {l0 : List SE} {l1 : List SM} (h : ok35 ⟨l0, l1⟩) : OkS l0 l1 := by
 unfold ok35 at h
 rw [reach_eq] at h
 obtain ⟨⟨h0, h1⟩, h2, h3⟩ := h
 simp only at h0 h1 h2 h3
 refine ⟨by omega, by omega, fun x hx => ?_, fun x hx => ?_⟩
 · have := h1 x hx
   unfold ok86 at this
   rw [reach_eq] at this
   obtain ⟨a, b, _⟩ := this
   exact ⟨by omega, a⟩
 · have := h3 x hx
   unfold ok47 at this
   rw [reach_eq] at this
   obtain ⟨a, ⟨b, _⟩, c, _⟩ := this
   exact ⟨by omega, by omega, a⟩
theorem live_E : E (fun k => ecdysislaw16_live.f k) true := by
 unfold ecdysislaw16_live.f
 refine E.bind0 rfl (E.bind0 (a := ([(⟨#[77]⟩ : ByteArray)], true)) ?_ (E.yes rfl (E.bind (names_E _ (by decide)) (E.yes rfl (E.bind0 (a := 1) ?_ E.const)))))
 · unfold ecdysislaw16_kin.f
   rw [if_pos (by decide)]
   simp [kinL, kinR, extR, addR, refsL, fieldsAt, msgAt, ixF, has]
 · simp [find_Uses.f, usesM, cntR, refsL, wrap64]
/-- The end of the way through. -/
theorem small45 {l0 : List SE} {l1 : List SM} (ok : OkS l0 l1) : ∃ b, E (fun k => ecdysisref15_Small.l4 k 0 l0 l1) b := by
 have h1 : l1.length ≤ 9000000000000000000 := by have := ok.le1; omega
 have key := up (C := fun i => ∃ b, E (fun k => ecdysisref15_Small.l4 k (i : Int) l0 l1) b) l1.length (fun i hi => ?_) (fun i hi ih => ?_) 0
 · exact key
 · exact ⟨true, E.succ E.const fun k => by simp only [ecdysisref15_Small.l4]; rw [if_neg (by omega)]⟩
 · have hf : (l1.getD i z47).f1.length ≤ 9000000000000000000 := by have := (ok.m _ (getD_mem (z := z47) hi)).1; omega
   have inner := up (C := fun j => ∃ b, E (fun k => ecdysisref15_Small.l5 k (i : Int) (j : Int) l0 l1) b) (l1.getD i z47).f1.length (fun j hj => ?_) (fun j hj jh => ?_) 0
   · obtain ⟨b, hb⟩ := inner
     exact ⟨b, E.succ hb fun k => by simp only [ecdysisref15_Small.l4]; rw [if_pos (by omega)]; rfl⟩
   · obtain ⟨b, hb⟩ := ih
     exact ⟨b, E.succ hb fun k => by simp only [ecdysisref15_Small.l5]; rw [if_pos (by omega), if_pos (by omega), rdM, if_neg (by omega), w1 hi h1]⟩
   · obtain ⟨b, hb⟩ := jh
     by_cases e0 : ((((l1.getD i z47).f1.getD j z50).f0).size : Int) > 1000
     · exact ⟨false, E.succ E.const fun k => by simp only [ecdysisref15_Small.l5]; rw [if_pos (by omega), if_pos (by omega), rdM, if_pos (by omega), if_pos (by omega), rdF, if_pos e0]⟩
     · by_cases e1 : ((((l1.getD i z47).f1.getD j z50).f3).size : Int) > 1000
       · exact ⟨false, E.succ E.const fun k => by simp only [ecdysisref15_Small.l5]; rw [if_pos (by omega), if_pos (by omega), rdM, if_pos (by omega), if_pos (by omega), rdF, if_neg e0, if_pos e1]⟩
       · by_cases e2 : ((((l1.getD i z47).f1.getD j z50).f6).size : Int) > 1000
         · exact ⟨false, E.succ E.const fun k => by simp only [ecdysisref15_Small.l5]; rw [if_pos (by omega), if_pos (by omega), rdM, if_pos (by omega), if_pos (by omega), rdF, if_neg e0, if_neg e1, if_pos e2]⟩
         · exact ⟨b, E.succ hb fun k => by simp only [ecdysisref15_Small.l5]; rw [if_pos (by omega), if_pos (by omega), rdM, if_pos (by omega), if_pos (by omega), rdF, if_neg e0, if_neg e1, if_neg e2, w1 hj hf]⟩
theorem rdV (xs : List S88) (i : Nat) : rd_T88 xs (i : Int) = xs.getD i z88 := rfl
theorem small23 {l0 : List SE} {l1 : List SM} (ok : OkS l0 l1) : ∃ b, E (fun k => ecdysisref15_Small.l2 k 0 l0 l1) b := by
 have h0 : l0.length ≤ 9000000000000000000 := by have := ok.le0; omega
 have key := up (C := fun i => ∃ b, E (fun k => ecdysisref15_Small.l2 k (i : Int) l0 l1) b) l0.length (fun i hi => ?_) (fun i hi ih => ?_) 0
 · exact key
 · obtain ⟨b, hb⟩ := small45 ok
   exact ⟨b, E.succ hb fun k => by simp only [ecdysisref15_Small.l2]; rw [if_neg (by omega)]⟩
 · have hf : (l0.getD i z86).f1.length ≤ 9000000000000000000 := by have := (ok.e _ (getD_mem (z := z86) hi)).1; omega
   have inner := up (C := fun j => ∃ b, E (fun k => ecdysisref15_Small.l3 k (i : Int) (j : Int) l0 l1) b) (l0.getD i z86).f1.length (fun j hj => ?_) (fun j hj jh => ?_) 0
   · obtain ⟨b, hb⟩ := inner
     exact ⟨b, E.succ hb fun k => by simp only [ecdysisref15_Small.l2]; rw [if_pos (by omega)]; rfl⟩
   · obtain ⟨b, hb⟩ := ih
     exact ⟨b, E.succ hb fun k => by simp only [ecdysisref15_Small.l3]; rw [if_pos (by omega), if_pos (by omega), rdE, if_neg (by omega), w1 hi h0]⟩
   · obtain ⟨b, hb⟩ := jh
     by_cases e0 : ((((l0.getD i z86).f1.getD j z88).f0).size : Int) > 1000
     · exact ⟨false, E.succ E.const fun k => by simp only [ecdysisref15_Small.l3]; rw [if_pos (by omega), if_pos (by omega), rdE, if_pos (by omega), if_pos (by omega), rdV, if_pos e0]⟩
     · exact ⟨b, E.succ hb fun k => by simp only [ecdysisref15_Small.l3]; rw [if_pos (by omega), if_pos (by omega), rdE, if_pos (by omega), if_pos (by omega), rdV, if_neg e0, w1 hj hf]⟩
/-- Is a schema small? If so, it has few messages. -/
theorem small_E {l0 : List SE} {l1 : List SM} (ok : OkS l0 l1) : ∃ b, E (fun k => ecdysisref15_Small.f k l0 l1) b ∧ (b = true → l1.length < 200) := by
 have h0 : l0.length ≤ 9000000000000000000 := by have := ok.le0; omega
 have h1 : l1.length ≤ 9000000000000000000 := by have := ok.le1; omega
 have j3 : ∀ n : Int, (l1.length : Int) ≤ n → ∃ b, E (fun k => ecdysisref15_Small.j3 k n l0 l1) b ∧ (b = true → l1.length < 200) := by
   intro n hn
   by_cases h : n ≥ 200
   · exact ⟨false, E.succ E.const fun k => by simp only [ecdysisref15_Small.j3]; rw [if_pos h], fun h => by cases h⟩
   · obtain ⟨b, hb⟩ := small23 ok
     exact ⟨b, E.succ hb fun k => by simp only [ecdysisref15_Small.j3]; rw [if_neg h], fun _ => by omega⟩
 have k1 := up (C := fun i => ∀ n : Int, (l1.length : Int) ≤ n → ∃ b, E (fun k => ecdysisref15_Small.l1 k n (i : Int) l0 l1) b ∧ (b = true → l1.length < 200)) l1.length (fun i hi => ?_) (fun i hi ih => ?_) 0
 · have k0 := up (C := fun i => ∀ n : Int, (l1.length : Int) ≤ n → ∃ b, E (fun k => ecdysisref15_Small.l0 k n (i : Int) l0 l1) b ∧ (b = true → l1.length < 200)) l0.length (fun i hi => ?_) (fun i hi ih => ?_) 0
   · have hw : wrap64 ((l0.length : Int) + (l1.length : Int)) = (l0.length : Int) + (l1.length : Int) := by have := ok.le0; have := ok.le1; unfold wrap64; omega
     obtain ⟨b, hb, hc⟩ := k0 ((l0.length : Int) + (l1.length : Int)) (by omega)
     exact ⟨b, hb.congr fun k => by unfold ecdysisref15_Small.f; rw [hw]; rfl, hc⟩
   · intro n hn
     obtain ⟨b, hb, hc⟩ := k1 n hn
     have hj : E (fun k => ecdysisref15_Small.j1 k n l0 l1) b := E.succ hb fun k => by simp only [ecdysisref15_Small.j1]; rfl
     exact ⟨b, E.succ hj fun k => by simp only [ecdysisref15_Small.l0]; rw [if_neg (by omega)], hc⟩
   · intro n hn
     by_cases h2 : n < 200
     · have he := ok.e _ (getD_mem (z := z86) hi)
       have hw : wrap64 (wrap64 (n + (((l0.getD i z86).f1).length : Int)) + wrap64 (((((l0.getD i z86).f0).size : Int) / 10))) = n + (((l0.getD i z86).f1).length : Int) + ((((l0.getD i z86).f0).size : Int) / 10) := by unfold wrap64; omega
       obtain ⟨b, hb, hc⟩ := ih (n + (((l0.getD i z86).f1).length : Int) + ((((l0.getD i z86).f0).size : Int) / 10)) (by omega)
       exact ⟨b, E.succ hb fun k => by simp only [ecdysisref15_Small.l0]; rw [if_pos (by omega), if_pos h2, if_pos (by omega), rdE, hw, w1 hi h0], hc⟩
     · obtain ⟨b, hb, hc⟩ := k1 n hn
       have hj : E (fun k => ecdysisref15_Small.j1 k n l0 l1) b := E.succ hb fun k => by simp only [ecdysisref15_Small.j1]; rfl
       exact ⟨b, E.succ hj fun k => by simp only [ecdysisref15_Small.l0]; rw [if_pos (by omega), if_neg h2], hc⟩
 · intro n hn
   obtain ⟨b, hb, hc⟩ := j3 n hn
   exact ⟨b, E.succ hb fun k => by simp only [ecdysisref15_Small.l1]; rw [if_neg (by omega)], hc⟩
 · intro n hn
   by_cases h2 : n < 200
   · have he := ok.m _ (getD_mem (z := z47) hi)
     have hw : wrap64 (wrap64 (wrap64 (n + (((l1.getD i z47).f1).length : Int)) + (((l1.getD i z47).f2).length : Int)) + wrap64 (((((l1.getD i z47).f0).size : Int) / 10))) = n + (((l1.getD i z47).f1).length : Int) + (((l1.getD i z47).f2).length : Int) + ((((l1.getD i z47).f0).size : Int) / 10) := by unfold wrap64; omega
     obtain ⟨b, hb, hc⟩ := ih (n + (((l1.getD i z47).f1).length : Int) + (((l1.getD i z47).f2).length : Int) + ((((l1.getD i z47).f0).size : Int) / 10)) (by omega)
     exact ⟨b, E.succ hb fun k => by simp only [ecdysisref15_Small.l1]; rw [if_pos (by omega), if_pos h2, if_pos (by omega), rdM, hw, w1 hi h1], hc⟩
   · obtain ⟨b, hb, hc⟩ := j3 n hn
     exact ⟨b, E.succ hb fun k => by simp only [ecdysisref15_Small.l1]; rw [if_pos (by omega), if_neg h2], hc⟩
end Go.Proofs.Ytbpnfpckoapdbaa.P16
end
section
namespace Go.Proofs.Ytbpnfpckoapdbaa.P16
open Go.RowKit Go.Proofs.YtbpnfpckoapdbaaW.PrintWords Go.Proofs.YtbpnfpckoapdbaaW.PrintLast Go.Proofs.YtbpnfpckoapdbaaW.PrintMore Go.Proofs.Ytbpnfpckoapdbaa.KD Go.Proofs.Ytbpnfpckoapdbaa.M Go.Proofs.Ytbpnfpckoapdbaa.PF16 Go.Proofs.Ytbpnfpckoapdbaa.Ev Go.Proofs.Ytbpnfpckoapdbaa.Ops
set_option linter.unusedVariables false
set_option linter.unusedSimpArgs false
/-- All that is told, from place i on. -/
def kinA (ms : List SM) : Nat → Nat → List ByteArray → List ByteArray
 | 0, _, told => told
 | f + 1, i, told => match told[i]? with
  | none => told
  | some x => kinA ms f (i + 1) (extR ms told (refsL (fieldsAt ms x)))
theorem kinA_pre (ms : List SM) : ∀ (f i : Nat) (told : List ByteArray), told <+: kinA ms f i told
 | 0, _, _ => List.prefix_refl _
 | f + 1, i, told => by
  unfold kinA
  split
  · exact List.prefix_refl _
  · exact (extR_pre ms _ told).trans (kinA_pre ms f (i + 1) _)
theorem kinA_told {ms : List SM} : ∀ {f i : Nat} {told : List ByteArray}, M.Told ms told → M.Told ms (kinA ms f i told)
 | 0, _, _, h => h
 | f + 1, i, told, h => by
  unfold kinA
  split
  · exact h
  · exact kinA_told h.ext
theorem pre_take {α : Type} {a b : List α} (h : a <+: b) (n : Nat) (hn : n ≤ a.length) : a.take n = b.take n := by
 obtain ⟨c, rfl⟩ := h
 rw [List.take_append_of_le_length hn]
theorem kinR_A {ms : List SM} {most : Int} : ∀ (f i : Nat) (told : List ByteArray), M.Told ms told → i ≤ told.length → ms.length < f + i → kinR ms most f i told (told.take i) = if (i : Int) + 1 ≤ most ∧ most ≤ ((kinA ms f i told).length : Int) then (kinA ms f i told).take most.toNat else kinA ms f i told
 | 0, i, told, ht, hi, hf => by
  have := ht.le
  omega
 | f + 1, i, told, ht, hi, hf => by
  rcases hx : told[i]? with _ | x
  · rw [kinR_end hx]
    have hl : told.length ≤ i := List.getElem?_eq_none_iff.1 hx
    have hA : kinA ms (f + 1) i told = told := by simp only [kinA, hx]
    rw [hA, List.take_of_length_le hl, if_neg (by omega)]
  · have hl := (List.getElem?_eq_some_iff.1 hx).1
    have hlen : (told.take i).length = i := by rw [List.length_take]; omega
    have hsn : told.take i ++ [x] = told.take (i + 1) := (take_snoc' hx).symm
    have hA : kinA ms (f + 1) i told = kinA ms f (i + 1) (extR ms told (refsL (fieldsAt ms x))) := by simp only [kinA, hx]
    have hp := extR_pre ms (refsL (fieldsAt ms x)) told
    have hpA := hp.trans (kinA_pre ms f (i + 1) (extR ms told (refsL (fieldsAt ms x))))
    by_cases hm : ((((told.take i).length + 1 : Nat) : Int) != most) = true
    · rw [kinR_go hx hm, hsn, hA]
      have hle := hp.length_le
      rw [pre_take hp (i + 1) (by omega), kinR_A f (i + 1) _ ht.ext (by omega) (by omega)]
      have hne : ((i : Int) + 1) ≠ most := by rw [hlen] at hm; simpa using hm
      by_cases hc : ((i + 1 : Nat) : Int) + 1 ≤ most ∧ most ≤ ((kinA ms f (i + 1) (extR ms told (refsL (fieldsAt ms x)))).length : Int)
      · rw [if_pos hc, if_pos (by omega)]
      · rw [if_neg hc, if_neg (by omega)]
    · replace hm : ((((told.take i).length + 1 : Nat) : Int) != most) = false := by simpa using hm
      rw [kinR_stop hx hm, hsn, hA]
      have he : ((i : Int) + 1) = most := by rw [hlen] at hm; simpa using hm
      have hle := hpA.length_le
      rw [if_pos (by omega), ← he, pre_take hpA (i + 1) (by omega)]
      rfl
end Go.Proofs.Ytbpnfpckoapdbaa.P16
end
section
namespace Go.Proofs.Ytbpnfpckoapdbaa.P16
open Go.RowKit Go.Proofs.YtbpnfpckoapdbaaW.PrintWords Go.Proofs.YtbpnfpckoapdbaaW.PrintLast Go.Proofs.YtbpnfpckoapdbaaW.PrintMore Go.Proofs.Ytbpnfpckoapdbaa.KD Go.Proofs.Ytbpnfpckoapdbaa.M Go.Proofs.Ytbpnfpckoapdbaa.PF16 Go.Proofs.Ytbpnfpckoapdbaa.Ev
set_option linter.unusedVariables false
set_option linter.unusedSimpArgs false
theorem enum_E (l0 : List SE) (l1 : List SM) (a : ByteArray) (h : l0.length ≤ 9000000000000000000) : E (fun k => ecdysisref15_Enum.f k l0 l1 a) (ixF (fun x => x.f0.toList == a.toList) l0 0) := by
 have key := up (C := fun i => E (fun k => ecdysisref15_Enum.l0 k a (i : Int) l0 l1) (ixF (fun x => x.f0.toList == a.toList) (l0.drop i) i)) l0.length (fun i hi => ?_) (fun i hi ih => ?_) 0
 · exact key
 · rw [List.drop_eq_nil_of_le hi]
   exact E.succ E.const fun k => by simp only [ecdysisref15_Enum.l0]; rw [if_neg (by omega)]; rfl
 · rw [drop_getD z86 hi, ixF_cons]
   by_cases he : ((l0.getD i z86).f0.toList == a.toList) = true
   · rw [if_pos he]
     exact E.succ E.const fun k => by simp only [ecdysisref15_Enum.l0]; rw [if_pos (by omega), if_pos (by omega), rdE, if_pos (toL.1 he)]
   · rw [if_neg he]
     exact E.succ ih fun k => by simp only [ecdysisref15_Enum.l0]; rw [if_pos (by omega), if_pos (by omega), rdE, if_neg (fun h => he (toL.2 h)), w1 hi h]
theorem rdI (xs : List Int) (i : Nat) : rd xs (i : Int) = xs.getD i 0 := rfl
theorem has_E (l : List Int) (x : Int) (h : l.length ≤ 9000000000000000000) : E (fun k => ecdysisref15_Has.f k l x) (l.any (fun y => y == x)) := by
 have key := up (C := fun i => E (fun k => ecdysisref15_Has.l0 k l x (i : Int)) ((l.drop i).any (fun y => y == x))) l.length (fun i hi => ?_) (fun i hi ih => ?_) 0
 · exact key
 · rw [List.drop_eq_nil_of_le hi]
   exact E.succ E.const fun k => by simp only [ecdysisref15_Has.l0]; rw [if_neg (by omega)]; rfl
 · rw [drop_getD 0 hi, List.any_cons]
   by_cases he : l.getD i 0 = x
   · rw [he, show (x == x) = true by simp, Bool.true_or]
     exact E.succ E.const fun k => by simp only [ecdysisref15_Has.l0]; rw [if_pos (by omega), if_pos (by omega), rdI, if_pos he]
   · rw [beq_eq_false_iff_ne.2 he, Bool.false_or]
     exact E.succ ih fun k => by simp only [ecdysisref15_Has.l0]; rw [if_pos (by omega), if_pos (by omega), rdI, if_neg he, w1 hi h]
end Go.Proofs.Ytbpnfpckoapdbaa.P16
end

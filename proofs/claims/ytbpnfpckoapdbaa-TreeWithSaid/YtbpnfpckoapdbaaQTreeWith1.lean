/- The law TreeWith: the values of every number, and every tree with others there; no conditions but those of the row. (text 2 of 4; some of it the words and functions that the kit's print and this claim's programs wrote) -/
import Derived.Test.YtbpnfpckoapdbaaQTreeWith0
section
namespace Go.Proofs.Ytbpnfpckoapdbaa.PT19
open Go.RowKit Go.Proofs.Ytbpnfpckoapdbaa.M Go.Proofs.Ytbpnfpckoapdbaa.KD Go.Proofs.Ytbpnfpckoapdbaa Go.Proofs.YtbpnfpckoapdbaaW.PrintWords Go.Proofs.YtbpnfpckoapdbaaW.PrintLast Go.Proofs.YtbpnfpckoapdbaaW.PrintMore
attribute [local go_sem] max2_int min2_int max_two min_two max_three min_three max_four min_four   -- for this text's walks alone
set_option linter.unusedVariables false
set_option linter.unusedSimpArgs false
def ecdysisref19_Same.T6 : Bool × List (List Nat × List Nat) := (true, [([], []), ([0], [0]), ([], []), ([1, 2], [1, 2]), ([3], [3]), ([4], [4]), ([], []), ([6], [6]), ([], []), ([7, 8], [7, 8]), ([9], [9]), ([10], [10]), ([5, 11], [5, 11]), ([12], [12]), ([13], [13]), ([14, 13], [13, 14]), ([13], [13]), ([15, 16, 13], [13, 15, 16]), ([17, 13], [13, 17]), ([18, 13], [13, 18]), ([13], [13]), ([20, 13], [13, 20]), ([13], [13]), ([21, 22, 13], [13, 21, 22]), ([23, 13], [13, 23]), ([24, 13], [13, 24]), ([19, 25, 13, 13], [13, 19, 25]), ([26, 13], [13, 26]), ([13, 27], [13, 27])])
def ecdysisref19_Same.B6 : List Nat := [0, 1, 0, 7, 15, 31, 0, 64, 0, 448, 960, 1984, 4095, 8191, 16383, 32767, 16383, 131071, 262143, 524287, 16383, 1064959, 16383, 7356415, 15745023, 32522239, 67108863, 134217727, 268435455]
theorem ecdysisref19_Same.tab6 : rtab .any (opsOf Try.f14 6) = ecdysisref19_Same.T6 := by kernel_rfl
theorem ecdysisref19_Same.bits6 : waitsOk ecdysisref19_Same.T6.2 ecdysisref19_Same.B6 = true := by kernel_rfl
set_option maxHeartbeats 8000000 in
set_option maxRecDepth 100000 in
theorem ecdysisref19_Same.callsR (k : Nat) (ih_ecdysisref19_Same : ∀ k_, k_ < k → ∀ (A0_0 : Option Addr) (c0_0 : Nat) (l0_0 : List (S59)) (A0_1 : Option Addr) (c0_1 : Nat) (l0_1 : List (S73)) (A1_0 : Option Addr) (c1_0 : Nat) (l1_0 : List (S59)) (A1_1 : Option Addr) (c1_1 : Nat) (l1_1 : List (S73)) (r : Bool) (w : World) (hr0_0 : Kd.C k59 w A0_0 l0_0.length l0_0) (hc0_0 : l0_0.length ≤ c0_0) (hr0_1 : Kd.C k73 w A0_1 l0_1.length l0_1) (hc0_1 : l0_1.length ≤ c0_1) (hr1_0 : Kd.C k59 w A1_0 l1_0.length l1_0) (hc1_0 : l1_0.length ≤ c1_0) (hr1_1 : Kd.C k73 w A1_1 l1_1.length l1_1) (hc1_1 : l1_1.length ≤ c1_1) (h_ : ecdysisref19_Same.f k_ l0_0 l0_1 l1_0 l1_1 = some r), Calls Try.prog 14 #[.agg #[.slice A0_0 l0_0.length c0_0, .slice A0_1 l0_1.length c0_1], .agg #[.slice A1_0 l1_0.length c1_0, .slice A1_1 l1_1.length c1_1]] w fun e w' => e = .returned (.bool r) ∧ Below w.heap.size w w') (ih_ecdysisref19_SameVals : ∀ k_, k_ < k → ∀ (A0 : Option Addr) (c0 : Nat) (l0 : List (S70)) (A1 : Option Addr) (c1 : Nat) (l1 : List (S70)) (r : Bool) (w : World) (hr0 : Kd.C k70 w A0 l0.length l0) (hc0 : l0.length ≤ c0) (hr1 : Kd.C k70 w A1 l1.length l1) (hc1 : l1.length ≤ c1) (h_ : ecdysisref19_SameVals.f k_ l0 l1 = some r), Calls Try.prog 43 #[.slice A0 l0.length c0, .slice A1 l1.length c1] w fun e w' => e = .returned (.bool r) ∧ Below w.heap.size w w') : ∀ (A0_0 : Option Addr) (c0_0 : Nat) (l0_0 : List (S59)) (A0_1 : Option Addr) (c0_1 : Nat) (l0_1 : List (S73)) (A1_0 : Option Addr) (c1_0 : Nat) (l1_0 : List (S59)) (A1_1 : Option Addr) (c1_1 : Nat) (l1_1 : List (S73)) (r : Bool) (w : World) (hr0_0 : Kd.C k59 w A0_0 l0_0.length l0_0) (hc0_0 : l0_0.length ≤ c0_0) (hr0_1 : Kd.C k73 w A0_1 l0_1.length l0_1) (hc0_1 : l0_1.length ≤ c0_1) (hr1_0 : Kd.C k59 w A1_0 l1_0.length l1_0) (hc1_0 : l1_0.length ≤ c1_0) (hr1_1 : Kd.C k73 w A1_1 l1_1.length l1_1) (hc1_1 : l1_1.length ≤ c1_1) (h : ecdysisref19_Same.f k l0_0 l0_1 l1_0 l1_1 = some r),
  Calls Try.prog 14 #[.agg #[.slice A0_0 l0_0.length c0_0, .slice A0_1 l0_1.length c0_1], .agg #[.slice A1_0 l1_0.length c1_0, .slice A1_1 l1_1.length c1_1]] w fun e w' => e = .returned (.bool r) ∧ Below w.heap.size w w' := by
 intro A0_0 c0_0 l0_0 A0_1 c0_1 l0_1 A1_0 c1_0 l1_0 A1_1 c1_1 l1_1 r w hr0_0 hc0_0 hr0_1 hc0_1 hr1_0 hc1_0 hr1_1 hc1_1 h
 cases k with
 | zero => exact absurd h (by simp [ecdysisref19_Same.f])
 | succ k =>
 simp only [ecdysisref19_Same.f] at h
 have hu25 := Try.underlying25
 have HR0_0 := Aside0.mk hr0_0
 have HC0_0 := Aside0.mk hc0_0
 clear hr0_0 hc0_0
 have HR0_1 := Aside0.mk hr0_1
 have HC0_1 := Aside0.mk hc0_1
 clear hr0_1 hc0_1
 have HR1_0 := Aside0.mk hr1_0
 have HC1_0 := Aside0.mk hc1_0
 clear hr1_0 hc1_0
 have HR1_1 := Aside0.mk hr1_1
 have HC1_1 := Aside0.mk hc1_1
 clear hr1_1 hc1_1
 have HB := Aside0.mk (Below.refl w.heap.size w)
 have H : (if (l0_0.length : Int) = (l1_0.length : Int) then ((ecdysisref07_Same.f k l0_1 l1_1).bind fun t121 => (ecdysisref19_Same.j0 k (!t121) l0_0 l0_1 l1_0 l1_1)) else (ecdysisref19_Same.j0 k true l0_0 l0_1 l1_0 l1_1)) = some r := h
 clear h
 have HC3 := Aside0.mk H
 clear H
 go_enter Try.func14, Try.ntmps14
 go_upto_region 1 with (first | ((with_reducible refine gate_dst (N := 2) rfl ?_); refine box_event ?hg (N := 2) ?hd (cs := #[.slice A0_0 l0_0.length c0_0, .slice A0_1 l0_1.length c0_1]) (t := 25) ?hr ?_; (case hd => rfl); (case hg => rfl); (case hr => first | (go_simp; done) | (go_simp; rfl)); intro gb119 hg w4 hbox hb; have n0_ := Aside0.mk (below_step HB.out hb); have n1_ := Aside0.mk (hbox); clear HB; have HB := n0_; have BK119 := n1_; clear n0_ n1_; clear hb hbox hg) | ((with_reducible refine gate_dst (N := 3) rfl ?_); refine box_event ?hg (N := 3) ?hd (cs := #[.slice A1_0 l1_0.length c1_0, .slice A1_1 l1_1.length c1_1]) (t := 25) ?hr ?_; (case hd => rfl); (case hg => rfl); (case hr => first | (go_simp; done) | (go_simp; rfl)); intro gb120 hg w5 hbox hb; have n0_ := Aside0.mk (blk_below BK119.out hb); have n1_ := Aside0.mk (below_step HB.out hb); have n2_ := Aside0.mk (hbox); have n5_ := Aside0.mk ((by rw [hg]; exact Nat.ne_of_lt (blk_lt BK119.out) : gb119 ≠ gb120)); have n6_ := Aside0.mk ((by rw [hg]; exact Nat.ne_of_gt (blk_lt BK119.out) : gb120 ≠ gb119)); clear BK119; clear HB; have BK119 := n0_; have HB := n1_; have BK120 := n2_; have NB119_120 := n5_; have NB120_119 := n6_; clear n0_ n1_ n2_ n5_ n6_; clear hb hbox hg))
 (try simp only [Act.put, List.setIfInBounds_toArray, List.set_cons_zero, List.set_cons_succ])
 go_cut [20] (fun v20 wc => ∃ (kq : Nat) (x20_2 : Bool), v20 = .bool x20_2 ∧ Aside0 (ecdysisref19_Same.j0 kq x20_2 l0_0 l0_1 l1_0 l1_1 = some r) ∧ Aside0 (kq ≤ k) ∧ Aside0 (wc.heap[gb119]? = some (.cells #[(.slice A0_0 l0_0.length c0_0), (.slice A0_1 l0_1.length c0_1)] 25 (0, 0))) ∧ Aside0 (wc.heap[gb120]? = some (.cells #[(.slice A1_0 l1_0.length c1_0), (.slice A1_1 l1_1.length c1_1)] 25 (0, 0))) ∧ Aside0 (Below w.heap.size w wc))
 case first =>
  have H := HC3.out
  clear HC3
  by_cases c6 : (l0_0.length : Int) = (l1_0.length : Int)
  · rw [if_pos c6] at H
    have c6b0 : ((l0_0.length : Int) == (l1_0.length : Int)) = true := beq_iff_eq.mpr c6
    have c6b1 : ((l0_0.length : Int) != (l1_0.length : Int)) = false := bne_eq_false_iff_eq.mpr c6
    have c6b2 : (l0_0.length == l1_0.length) = true := by first | (simp at c6 ⊢; omega)
    clear c6
    (first | skip)
    replace H := Option.bind_eq_some_iff.mp H
    obtain ⟨t121, A70, H⟩ := H
    replace H : (ecdysisref19_Same.j0 k (!t121) l0_0 l0_1 l1_0 l1_1) = some r := H
    have A7 := Aside0.mk A70
    clear A70
    have H' := Aside0.mk H
    clear H
    have hnb8 := NB119_120.out
    have hnc8 := NB120_119.out
    have hcz9_0 : w5.cell? ⟨gb119, 0, none⟩ = some (.slice A0_0 l0_0.length c0_0) := (blk_cell BK119.out 0).trans rfl
    have hcz9_1 : w5.cell? ⟨gb119, 1, none⟩ = some (.slice A0_1 l0_1.length c0_1) := (blk_cell BK119.out 1).trans rfl
    have hfz9_0 := blk_frozen BK119.out 0
    have hfz9_1 := blk_frozen BK119.out 1
    have hcz10_0 : w5.cell? ⟨gb120, 0, none⟩ = some (.slice A1_0 l1_0.length c1_0) := (blk_cell BK120.out 0).trans rfl
    have hcz10_1 : w5.cell? ⟨gb120, 1, none⟩ = some (.slice A1_1 l1_1.length c1_1) := (blk_cell BK120.out 1).trans rfl
    have hfz10_0 := blk_frozen BK120.out 0
    have hfz10_1 := blk_frozen BK120.out 1
    go_wp2_with (first | (go_at_call 52; (with_reducible refine (ecdysisref07_Same.calls k _ _ l0_1 _ _ l1_1 t121 _ ?side1 ?side2 ?side3 ?side4 A7.out).mono ?_); (case side1 => repeat (first | exact (Kd.C_below HR0_1.out HB.out) )); (case side2 => exact HC0_1.out); (case side3 => repeat (first | exact (Kd.C_below HR1_1.out HB.out) )); (case side4 => exact HC1_1.out); rintro e w' ⟨rfl, ⟨nd, rfl⟩⟩))
    go_meet
    case rel => exact ⟨_, (!t121), (by first | rfl ), H', ⟨by first | omega ⟩, ⟨by (with_reducible repeat (first | refine blk_drewN ?_ _ )); exact BK119.out⟩, ⟨by (with_reducible repeat (first | refine blk_drewN ?_ _ )); exact BK120.out⟩, ⟨by repeat (first | (with_reducible first | exact HB.out | apply pw_below_drewN ) )⟩⟩
  · rw [if_neg c6] at H
    have c6b0 : ((l0_0.length : Int) == (l1_0.length : Int)) = false := beq_eq_false_iff_ne.mpr c6
    have c6b1 : ((l0_0.length : Int) != (l1_0.length : Int)) = true := bne_iff_ne.mpr c6
    have c6b2 : (l0_0.length == l1_0.length) = false := by first | (simp at c6 ⊢; omega)
    (first | skip)
    have H' := Aside0.mk H
    clear H
    have hnb11 := NB119_120.out
    have hnc11 := NB120_119.out
    have hcz12_0 : w5.cell? ⟨gb119, 0, none⟩ = some (.slice A0_0 l0_0.length c0_0) := (blk_cell BK119.out 0).trans rfl
    have hcz12_1 : w5.cell? ⟨gb119, 1, none⟩ = some (.slice A0_1 l0_1.length c0_1) := (blk_cell BK119.out 1).trans rfl
    have hfz12_0 := blk_frozen BK119.out 0
    have hfz12_1 := blk_frozen BK119.out 1
    have hcz13_0 : w5.cell? ⟨gb120, 0, none⟩ = some (.slice A1_0 l1_0.length c1_0) := (blk_cell BK120.out 0).trans rfl
    have hcz13_1 : w5.cell? ⟨gb120, 1, none⟩ = some (.slice A1_1 l1_1.length c1_1) := (blk_cell BK120.out 1).trans rfl
    have hfz13_0 := blk_frozen BK120.out 0
    have hfz13_1 := blk_frozen BK120.out 1
    go_wp2
    go_meet
    case rel => exact ⟨_, (true), (by first | rfl ), H', ⟨by first | omega ⟩, ⟨by exact BK119.out⟩, ⟨by exact BK120.out⟩, ⟨by exact HB.out⟩⟩
 case rest =>
  clear HC3
  try clear c1
  try clear p2
  try clear c6
  try clear c6b0
  try clear c6b1
  try clear c6b2
  try clear c8
  try clear c11
  try clear hcz10_0
  try clear hcz10_1
  try clear hcz12_0
  try clear hcz12_1
  try clear hcz13_0
  try clear hcz13_1
  try clear hcz9_0
  try clear hcz9_1
  try clear hfz10_0
  try clear hfz10_1
  try clear hfz12_0
  try clear hfz12_1
  try clear hfz13_0
  try clear hfz13_1
  try clear hfz9_0
  try clear hfz9_1
  obtain ⟨kq, x20_2, rfl, HA, HJ2, BK119, BK120, HB⟩ := hcut
  cases kq with
  | zero => exact absurd HA.out (by simp [ecdysisref19_Same.j0])
  | succ kj2 =>
    have H := HA.out
    clear HA
    simp only [ecdysisref19_Same.j0] at H
    by_cases c14 : x20_2 = true
    · subst c14
      have H1 : (some false) = some r := by rw [if_pos rfl] at H; exact H
      clear H
      have H := H1
      clear H1
      obtain rfl := Option.some.inj H
      go_wp2
      go_ret
      exact ⟨by first | rfl , by exact HB.out⟩
    · replace c14 := Bool.eq_false_iff.mpr c14
      subst c14
      have H1 : (ecdysisref19_Same.l0 kj2 0 l0_0 l0_1 l1_0 l1_1) = some r := by rw [if_neg (show ¬ (false = true) by decide)] at H; exact H
      clear H
      have H := H1
      clear H1
      have H' := Aside0.mk H
      clear H
      go_wp2
      go_loopg [5] kj2 (fun kq v5 w' => ∃ (x5_2 : Int), v5 = .int .i64 x5_2 ∧ Aside0 (ecdysisref19_Same.l0 kq x5_2 l0_0 l0_1 l1_0 l1_1 = some r) ∧ Aside0 (kq ≤ kj2) ∧ Aside0 (w'.heap[gb119]? = some (.cells #[(.slice A0_0 l0_0.length c0_0), (.slice A0_1 l0_1.length c0_1)] 25 (0, 0))) ∧ Aside0 (w'.heap[gb120]? = some (.cells #[(.slice A1_0 l1_0.length c1_0), (.slice A1_1 l1_1.length c1_1)] 25 (0, 0))) ∧ Aside0 (Below w.heap.size w w'))
      case atStart => exact ⟨(0), (by first | rfl ), H', ⟨Nat.le_refl _⟩, ⟨by exact BK119.out⟩, ⟨by exact BK120.out⟩, ⟨by exact HB.out⟩⟩
      case round =>
       clear H'
       try clear c1
       try clear p2
       try clear c6
       try clear c6b0
       try clear c6b1
       try clear c6b2
       try clear c8
       try clear c11
       try clear c14
       try clear hcz10_0
       try clear hcz10_1
       try clear hcz12_0
       try clear hcz12_1
       try clear hcz13_0
       try clear hcz13_1
       try clear hcz9_0
       try clear hcz9_1
       try clear hfz10_0
       try clear hfz10_1
       try clear hfz12_0
       try clear hfz12_1
       try clear hfz13_0
       try clear hfz13_1
       try clear hfz9_0
       try clear hfz9_1
       try clear p2
       obtain ⟨x5_2, rfl, HA, HK2, BK119, BK120, HB⟩ := hrel
       cases gk with
       | zero => exact absurd HA.out (by simp [ecdysisref19_Same.l0])
       | succ k2 =>
        have H := HA.out
        clear HA
        simp only [ecdysisref19_Same.l0] at H
        by_cases c15 : x5_2 < (l0_0.length : Int)
        · rw [if_pos c15] at H
          have c15b0 : decide (x5_2 < (l0_0.length : Int)) = true := decide_eq_true c15
          clear c15
          by_cases c16 : 0 ≤ x5_2
          · rw [if_pos c16] at H
            have c16b0 : decide (0 ≤ x5_2) = true := decide_eq_true c16
            clear c16
            by_cases c17 : x5_2 < (l1_0.length : Int)
            · rw [if_pos c17] at H
              have c17b0 : decide (x5_2 < (l1_0.length : Int)) = true := decide_eq_true c17
              clear c17
              by_cases c18 : ((rd_T59 l0_0 x5_2).f0) = ((rd_T59 l1_0 x5_2).f0)
              · rw [if_pos c18] at H
                have c18b0 : (((rd_T59 l0_0 x5_2).f0) == ((rd_T59 l1_0 x5_2).f0)) = true := beq_iff_eq.mpr c18
                have c18b1 : (((rd_T59 l0_0 x5_2).f0) != ((rd_T59 l1_0 x5_2).f0)) = false := bne_eq_false_iff_eq.mpr c18
                clear c18
                replace H := Option.bind_eq_some_iff.mp H
                obtain ⟨t126, A190, H⟩ := H
                replace H : (if t126 = true then (ecdysisref19_Same.l0 k2 (wrap64 (x5_2 + 1)) l0_0 l0_1 l1_0 l1_1) else (some false)) = some r := H
                have A19 := Aside0.mk A190
                clear A190
                by_cases c20 : t126 = true
                · subst c20
                  have H1 : (ecdysisref19_Same.l0 k2 (wrap64 (x5_2 + 1)) l0_0 l0_1 l1_0 l1_1) = some r := by rw [if_pos rfl] at H; exact H
                  clear H
                  have H := H1
                  clear H1
                  have H' := Aside0.mk H
                  clear H
                  have hnb21 := NB119_120.out
                  have hnc21 := NB120_119.out
                  have hcz22_0 : wr.cell? ⟨gb119, 0, none⟩ = some (.slice A0_0 l0_0.length c0_0) := (blk_cell BK119.out 0).trans rfl
                  have hcz22_1 : wr.cell? ⟨gb119, 1, none⟩ = some (.slice A0_1 l0_1.length c0_1) := (blk_cell BK119.out 1).trans rfl
                  have hfz22_0 := blk_frozen BK119.out 0
                  have hfz22_1 := blk_frozen BK119.out 1
                  try go_wp2
                  have n0_ := Aside0.mk (blk_drew BK119.out)
                  have n1_ := Aside0.mk (blk_drew BK120.out)
                  have n2_ := Aside0.mk (below_drew1 HB.out)
                  clear BK119
                  clear BK120
                  clear HB
                  have BK119 := n0_
                  have BK120 := n1_
                  have HB := n2_
                  clear n0_ n1_ n2_
                  have p122 : 0 ≤ (x5_2 : Int) := of_decide_eq_true (by first | (with_reducible assumption) )
                  have q122 : x5_2 < (l0_0.length : Int) := of_decide_eq_true (by first | (with_reducible assumption) )
                  obtain ⟨ad122, A122_1, c122_1, e122, hx122_0, hx122_1, hl122_1, hi122_1⟩ := at_T59 HR0_0.out x5_2 p122 q122
                  have hw122_1 := hx122_1
                  have hw122_0 := hx122_0
                  cases e122
                  replace hx122_0 := (HB.out.cell (World.block_lt_of_cell? w _ hx122_0)).trans hx122_0
                  replace hx122_1 := (HB.out.cell (World.block_lt_of_cell? w _ hx122_1)).trans hx122_1
                  have HR122_1 := Aside0.mk hi122_1
                  have HC122_1 := Aside0.mk hl122_1
                  clear hi122_1 hl122_1
                  replace p122 := eq_true p122
                  replace q122 := eq_true q122
                  have p123 : 0 ≤ (x5_2 : Int) := of_decide_eq_true (by first | (with_reducible assumption) )
                  have q123 : x5_2 < (l1_0.length : Int) := of_decide_eq_true (by first | (with_reducible assumption) )
                  obtain ⟨ad123, A123_1, c123_1, e123, hx123_0, hx123_1, hl123_1, hi123_1⟩ := at_T59 HR1_0.out x5_2 p123 q123
                  have hw123_1 := hx123_1
                  have hw123_0 := hx123_0
                  cases e123
                  replace hx123_0 := (HB.out.cell (World.block_lt_of_cell? w _ hx123_0)).trans hx123_0
                  replace hx123_1 := (HB.out.cell (World.block_lt_of_cell? w _ hx123_1)).trans hx123_1
                  have HR123_1 := Aside0.mk hi123_1
                  have HC123_1 := Aside0.mk hl123_1
                  clear hi123_1 hl123_1
                  replace p123 := eq_true p123
                  replace q123 := eq_true q123
                  have p124 : 0 ≤ (x5_2 : Int) := of_decide_eq_true (by first | (with_reducible assumption) )
                  have q124 : x5_2 < (l0_0.length : Int) := of_decide_eq_true (by first | (with_reducible assumption) )
                  obtain ⟨ad124, A124_1, c124_1, e124, hx124_0, hx124_1, hl124_1, hi124_1⟩ := at_T59 HR0_0.out x5_2 p124 q124
                  have hw124_1 := hx124_1
                  have hw124_0 := hx124_0
                  obtain rfl : ad122 = ad124 := (by injection e124)
                  replace hx124_0 := (HB.out.cell (World.block_lt_of_cell? w _ hx124_0)).trans hx124_0
                  replace hx124_1 := (HB.out.cell (World.block_lt_of_cell? w _ hx124_1)).trans hx124_1
                  have HR124_1 := Aside0.mk hi124_1
                  have HC124_1 := Aside0.mk hl124_1
                  clear hi124_1 hl124_1
                  replace p124 := eq_true p124
                  replace q124 := eq_true q124
                  have ea_ := Option.some.inj (hx122_1.symm.trans hx124_1)
                  injection ea_ with ea_ en_ ec_
                  subst ea_
                  subst ec_
                  clear en_
                  have p125 : 0 ≤ (x5_2 : Int) := of_decide_eq_true (by first | (with_reducible assumption) )
                  have q125 : x5_2 < (l1_0.length : Int) := of_decide_eq_true (by first | (with_reducible assumption) )
                  obtain ⟨ad125, A125_1, c125_1, e125, hx125_0, hx125_1, hl125_1, hi125_1⟩ := at_T59 HR1_0.out x5_2 p125 q125
                  have hw125_1 := hx125_1
                  have hw125_0 := hx125_0
                  obtain rfl : ad123 = ad125 := (by injection e125)
                  replace hx125_0 := (HB.out.cell (World.block_lt_of_cell? w _ hx125_0)).trans hx125_0
                  replace hx125_1 := (HB.out.cell (World.block_lt_of_cell? w _ hx125_1)).trans hx125_1
                  have HR125_1 := Aside0.mk hi125_1
                  have HC125_1 := Aside0.mk hl125_1
                  clear hi125_1 hl125_1
                  replace p125 := eq_true p125
                  replace q125 := eq_true q125
                  have ea_ := Option.some.inj (hx123_1.symm.trans hx125_1)
                  injection ea_ with ea_ en_ ec_
                  subst ea_
                  subst ec_
                  clear en_
                  refine start_ (n := 29) (S := fun w' => w'.cell? ⟨gb119, 0, none⟩ = some (.slice (some ad122) l0_0.length c0_0) ∧ w'.cell? ⟨gb119, 1, none⟩ = some (.slice A0_1 l0_1.length c0_1) ∧ w'.cell? ⟨gb120, 0, none⟩ = some (.slice (some ad123) l1_0.length c1_0) ∧ w'.cell? ⟨gb120, 1, none⟩ = some (.slice A1_1 l1_1.length c1_1) ∧ w'.cell? (ad122.add ((x5_2).toNat * 2)) = some (.int .i64 ((rd_T59 l0_0 x5_2).f0)) ∧ w'.cell? ⟨(ad122.add ((x5_2).toNat * 2)).block, (ad122.add ((x5_2).toNat * 2)).off + 1, none⟩ = some (.slice A122_1 ((rd_T59 l0_0 x5_2).f1).length c122_1) ∧ w'.cell? (ad123.add ((x5_2).toNat * 2)) = some (.int .i64 ((rd_T59 l1_0 x5_2).f0)) ∧ w'.cell? ⟨(ad123.add ((x5_2).toNat * 2)).block, (ad123.add ((x5_2).toNat * 2)).off + 1, none⟩ = some (.slice A123_1 ((rd_T59 l1_0 x5_2).f1).length c123_1) ∧ w'.cell? (ad122.add ((x5_2).toNat * 2)) = some (.int .i64 ((rd_T59 l0_0 x5_2).f0)) ∧ w'.cell? ⟨(ad122.add ((x5_2).toNat * 2)).block, (ad122.add ((x5_2).toNat * 2)).off + 1, none⟩ = some (.slice A122_1 ((rd_T59 l0_0 x5_2).f1).length c122_1) ∧ w'.cell? (ad123.add ((x5_2).toNat * 2)) = some (.int .i64 ((rd_T59 l1_0 x5_2).f0)) ∧ w'.cell? ⟨(ad123.add ((x5_2).toNat * 2)).block, (ad123.add ((x5_2).toNat * 2)).off + 1, none⟩ = some (.slice A123_1 ((rd_T59 l1_0 x5_2).f1).length c123_1)) (ds := []) #[false, false, false, false, false, false, false, false, false, false, false, false, false, false, false, false, false, false, false, false, false, false, false, false, false, false, false, false, false] (by kernel_rfl) rfl rfl ⟨(blk_cell BK119.out 0).trans rfl, (blk_cell BK119.out 1).trans rfl, (blk_cell BK120.out 0).trans rfl, (blk_cell BK120.out 1).trans rfl, ((HB.out.cell (World.block_lt_of_cell? w _ hw122_0)).trans hw122_0), ((HB.out.cell (World.block_lt_of_cell? w _ hw122_1)).trans hw122_1), ((HB.out.cell (World.block_lt_of_cell? w _ hw123_0)).trans hw123_0), ((HB.out.cell (World.block_lt_of_cell? w _ hw123_1)).trans hw123_1), ((HB.out.cell (World.block_lt_of_cell? w _ hw124_0)).trans hw124_0), ((HB.out.cell (World.block_lt_of_cell? w _ hw124_1)).trans hw124_1), ((HB.out.cell (World.block_lt_of_cell? w _ hw125_0)).trans hw125_0), ((HB.out.cell (World.block_lt_of_cell? w _ hw125_1)).trans hw125_1)⟩ (fun hHeld => ?_); refine with_tabW ecdysisref19_Same.tab6 ecdysisref19_Same.bits6 (fun HT_ HW_ => ?_)
                  generalize wr.drew = w23 at BK119 BK120 HB HR122_1 HR123_1 HR124_1 HR125_1 hx122_0 hx122_1 hx123_0 hx123_1 hx124_0 hx124_1 hx125_0 hx125_1 hHeld ⊢
                  refine zp 0 (zb 29 1) ?_ rfl rfl HT_ (by kernel_rfl) (fun _ _ _ h => h) rfl ?_ ?_ ?_ ?_; rotate_left; (intro w'; go_simp; with_reducible rfl); rotate_left; (simp only [zs]; rfl)
                  refine zp 2 (zb 29 5) ?_ rfl rfl HT_ (by kernel_rfl) (fun _ _ _ h => h) rfl ?_ ?_ ?_ ?_; rotate_left; (intro w'; go_simp; with_reducible rfl); rotate_left; (simp only [zs]; rfl)
                  refine zp 6 (zb 29 69) ?_ rfl rfl HT_ (by kernel_rfl) (fun _ _ _ h => h) rfl ?_ ?_ ?_ ?_; rotate_left; (intro w'; go_simp; with_reducible rfl); rotate_left; (simp only [zs]; rfl)
                  refine zp 8 (zb 29 325) ?_ rfl rfl HT_ (by kernel_rfl) (fun _ _ _ h => h) rfl ?_ ?_ ?_ ?_; rotate_left; (intro w'; go_simp; with_reducible rfl); rotate_left; (simp only [zs]; rfl)
                  refine zt 1 (zb 29 327) ?_ rfl rfl HT_ HW_ (by kernel_rfl) (fun _ _ _ h => h) rfl ?_ hHeld ?_ ?_ ?_; rotate_left; (rintro w' ⟨s0, s1, s2, s3, s4, s5, s6, s7, s8, s9, s10, s11⟩; go_simp; with_reducible rfl); rotate_left; (simp only [zs]; rfl)
                  refine zp 3 (zb 29 335) ?_ rfl rfl HT_ (by kernel_rfl) (fun _ _ _ h => h) rfl ?_ ?_ ?_ ?_; rotate_left; (intro w'; go_simp; with_reducible rfl); rotate_left; (simp only [zs]; rfl)
                  refine zp 4 (zb 29 351) ?_ rfl rfl HT_ (by kernel_rfl) (fun _ _ _ h => h) rfl ?_ ?_ ?_ ?_; rotate_left; (intro w'; go_simp; with_reducible rfl); rotate_left; (simp only [zs]; rfl)
                  refine zt 5 (zb 29 383) ?_ rfl rfl HT_ HW_ (by kernel_rfl) (fun _ _ _ h => h) rfl ?_ hHeld ?_ ?_ ?_; rotate_left; (rintro w' ⟨s0, s1, s2, s3, s4, s5, s6, s7, s8, s9, s10, s11⟩; go_simp; with_reducible rfl); rotate_left; (simp only [zs]; rfl)
                  refine zt 7 (zb 29 511) ?_ rfl rfl HT_ HW_ (by kernel_rfl) (fun _ _ _ h => h) rfl ?_ hHeld ?_ ?_ ?_; rotate_left; (rintro w' ⟨s0, s1, s2, s3, s4, s5, s6, s7, s8, s9, s10, s11⟩; go_simp; with_reducible rfl); rotate_left; (simp only [zs]; rfl)
                  refine zp 9 (zb 29 1023) ?_ rfl rfl HT_ (by kernel_rfl) (fun _ _ _ h => h) rfl ?_ ?_ ?_ ?_; rotate_left; (intro w'; go_simp; with_reducible rfl); rotate_left; (simp only [zs]; rfl)
                  refine zp 10 (zb 29 2047) ?_ rfl rfl HT_ (by kernel_rfl) (fun _ _ _ h => h) rfl ?_ ?_ ?_ ?_; rotate_left; (intro w'; go_simp; with_reducible rfl); rotate_left; (simp only [zs]; rfl)
                  refine zt 11 (zb 29 4095) ?_ rfl rfl HT_ HW_ (by kernel_rfl) (fun _ _ _ h => h) rfl ?_ hHeld ?_ ?_ ?_; rotate_left; (rintro w' ⟨s0, s1, s2, s3, s4, s5, s6, s7, s8, s9, s10, s11⟩; go_simp; with_reducible rfl); rotate_left; (simp only [zs]; rfl)
                  refine zp 12 (zb 29 8191) ?_ rfl rfl HT_ (by kernel_rfl) (fun _ _ _ h => h) rfl ?_ ?_ ?_ ?_; rotate_left; (intro w'; go_simp; with_reducible rfl); rotate_left; (simp only [zs]; rfl)
                  refine zp 13 (zb 29 16383) ?_ rfl rfl HT_ (by kernel_rfl) (fun _ _ _ h => h) rfl ?_ ?_ ?_ ?_; rotate_left; (intro w'; go_simp; with_reducible rfl); rotate_left; (simp only [zs]; rfl)
                  refine zp 14 (zb 29 32767) ?_ rfl rfl HT_ (by kernel_rfl) (fun _ _ _ h => h) rfl ?_ ?_ ?_ ?_; rotate_left; (intro w'; go_simp; with_reducible rfl); rotate_left; (simp only [zs]; rfl)
                  refine zp 16 (zb 29 98303) ?_ rfl rfl HT_ (by kernel_rfl) (fun _ _ _ h => h) rfl ?_ ?_ ?_ ?_; rotate_left; (intro w'; go_simp; with_reducible rfl); rotate_left; (simp only [zs]; rfl)
                  refine zp 20 (zb 29 1146879) ?_ rfl rfl HT_ (by kernel_rfl) (fun _ _ _ h => h) rfl ?_ ?_ ?_ ?_; rotate_left; (intro w'; go_simp; with_reducible rfl); rotate_left; (simp only [zs]; rfl)
                  refine zp 22 (zb 29 5341183) ?_ rfl rfl HT_ (by kernel_rfl) (fun _ _ _ h => h) rfl ?_ ?_ ?_ ?_; rotate_left; (intro w'; go_simp; with_reducible rfl); rotate_left; (simp only [zs]; rfl)
                  refine zt 15 (zb 29 5373951) ?_ rfl rfl HT_ HW_ (by kernel_rfl) (fun _ _ _ h => h) rfl ?_ hHeld ?_ ?_ ?_; rotate_left; (rintro w' ⟨s0, s1, s2, s3, s4, s5, s6, s7, s8, s9, s10, s11⟩; go_simp; with_reducible rfl); rotate_left; (simp only [zs]; rfl)
                  refine zp 17 (zb 29 5505023) ?_ rfl rfl HT_ (by kernel_rfl) (fun _ _ _ h => h) rfl ?_ ?_ ?_ ?_; rotate_left; (intro w'; go_simp; with_reducible rfl); rotate_left; (simp only [zs]; rfl)
                  refine zp 18 (zb 29 5767167) ?_ rfl rfl HT_ (by kernel_rfl) (fun _ _ _ h => h) rfl ?_ ?_ ?_ ?_; rotate_left; (intro w'; go_simp; with_reducible rfl); rotate_left; (simp only [zs]; rfl)
                  refine zt 19 (zb 29 6291455) ?_ rfl rfl HT_ HW_ (by kernel_rfl) (fun _ _ _ h => h) rfl ?_ hHeld ?_ ?_ ?_; rotate_left; (rintro w' ⟨s0, s1, s2, s3, s4, s5, s6, s7, s8, s9, s10, s11⟩; go_simp; with_reducible rfl); rotate_left; (simp only [zs]; rfl)
                  refine zt 21 (zb 29 8388607) ?_ rfl rfl HT_ HW_ (by kernel_rfl) (fun _ _ _ h => h) rfl ?_ hHeld ?_ ?_ ?_; rotate_left; (rintro w' ⟨s0, s1, s2, s3, s4, s5, s6, s7, s8, s9, s10, s11⟩; go_simp; with_reducible rfl); rotate_left; (simp only [zs]; rfl)
                  refine zp 23 (zb 29 16777215) ?_ rfl rfl HT_ (by kernel_rfl) (fun _ _ _ h => h) rfl ?_ ?_ ?_ ?_; rotate_left; (intro w'; go_simp; with_reducible rfl); rotate_left; (simp only [zs]; rfl)
                  refine zp 24 (zb 29 33554431) ?_ rfl rfl HT_ (by kernel_rfl) (fun _ _ _ h => h) rfl ?_ ?_ ?_ ?_; rotate_left; (intro w'; go_simp; with_reducible rfl); rotate_left; (simp only [zs]; rfl)
                  refine zt 25 (zb 29 67108863) ?_ rfl rfl HT_ HW_ (by kernel_rfl) (fun _ _ _ h => h) rfl ?_ hHeld ?_ ?_ ?_; rotate_left; (rintro w' ⟨s0, s1, s2, s3, s4, s5, s6, s7, s8, s9, s10, s11⟩; go_simp; with_reducible rfl); rotate_left; (simp only [zs]; rfl)
                  refine one_ (i := 26) (N := some 54) #[true, true, true, true, true, true, true, true, true, true, true, true, true, true, true, true, true, true, true, true, true, true, true, true, true, true, true, false, false] rfl rfl (one_of HT_.out (by kernel_rfl)) (by decide) (fun K hK => ?_)
                  refine goes_ Try.func43 (by kernel_rfl) rfl #[.slice A122_1 ((rd_T59 l0_0 x5_2).f1).length c122_1, .slice A123_1 ((rd_T59 l1_0 x5_2).f1).length c123_1] (by rfl) rfl rfl (by (try simp only [List.map_toArray, List.map_cons, List.map_nil]); first | done | rfl | (simp only [List.length_drop, List.length_take]; rfl)) ?_
                  with_reducible refine (ih_ecdysisref19_SameVals k2 (by have := HJ2.out; have := HK2.out; omega) _ _ ((rd_T59 l0_0 x5_2).f1) _ _ ((rd_T59 l1_0 x5_2).f1) true _ ?side1 ?side2 ?side3 ?side4 A19.out).mono ?_
                  (case side1 => repeat (first | exact (Kd.C_below HR124_1.out HB.out) ))
                  (case side2 => exact HC124_1.out)
                  (case side3 => repeat (first | exact (Kd.C_below HR125_1.out HB.out) ))
                  (case side4 => exact HC125_1.out)
                  rintro e w24 ⟨rfl, hb⟩
                  refine ⟨_, rfl, ?_⟩
                  have n0_ := Aside0.mk (blk_below BK119.out hb)
                  have n1_ := Aside0.mk (blk_below BK120.out hb)
                  have n2_ := Aside0.mk (below_step HB.out hb)
                  clear BK119
                  clear BK120
                  clear HB
                  have BK119 := n0_
                  have BK120 := n1_
                  have HB := n2_
                  clear n0_ n1_ n2_
                  (try clear hb)
                  (try clear hb2)
                  (try clear hk)
                  (try clear hi)
                  refine hK.out _ _ ⟨(blk_cell BK119.out 0).trans rfl, (blk_cell BK119.out 1).trans rfl, (blk_cell BK120.out 0).trans rfl, (blk_cell BK120.out 1).trans rfl, ((HB.out.cell (World.block_lt_of_cell? w _ hw122_0)).trans hw122_0), ((HB.out.cell (World.block_lt_of_cell? w _ hw122_1)).trans hw122_1), ((HB.out.cell (World.block_lt_of_cell? w _ hw123_0)).trans hw123_0), ((HB.out.cell (World.block_lt_of_cell? w _ hw123_1)).trans hw123_1), ((HB.out.cell (World.block_lt_of_cell? w _ hw124_0)).trans hw124_0), ((HB.out.cell (World.block_lt_of_cell? w _ hw124_1)).trans hw124_1), ((HB.out.cell (World.block_lt_of_cell? w _ hw125_0)).trans hw125_0), ((HB.out.cell (World.block_lt_of_cell? w _ hw125_1)).trans hw125_1)⟩ (fun hHeld => ?_)
                  clear hK K
                  refine norm_ (a' := ?_) ?_ ?_
                  rotate_left
                  · show Act.put _ (some 54) _ = _
                    simp only [zs]
                    rfl
                  refine zp 27 (zb 29 268435455) ?_ rfl rfl HT_ (by kernel_rfl) (fun _ _ _ h => h) rfl ?_ ?_ ?_ ?_; rotate_left; (intro w'; go_simp; with_reducible rfl); rotate_left; (simp only [zs]; rfl)
                  refine zp 28 (zb 29 536870911) ?_ rfl rfl HT_ (by kernel_rfl) (fun _ _ _ h => h) rfl ?_ ?_ ?_ ?_; rotate_left; (intro w'; go_simp; with_reducible rfl); rotate_left; (simp only [zs]; rfl)
                  refine done_ (done_of HT_.out (by kernel_rfl)) ?_
                  try go_wp2
                  go_roundg k2
                  case measure => have := HJ2.out; have := HK2.out; omega
                  case rel => exact ⟨(wrap64 (x5_2 + 1)), (by first | rfl ), H', ⟨by have := HJ2.out; have := HK2.out; omega⟩, ⟨by exact BK119.out⟩, ⟨by exact BK120.out⟩, ⟨by exact HB.out⟩⟩
                · replace c20 := Bool.eq_false_iff.mpr c20
                  subst c20
                  have H1 : (some false) = some r := by rw [if_neg (show ¬ (false = true) by decide)] at H; exact H
                  clear H
                  have H := H1
                  clear H1
                  obtain rfl := Option.some.inj H
                  have hnb25 := NB119_120.out
                  have hnc25 := NB120_119.out
                  have hcz26_0 : wr.cell? ⟨gb119, 0, none⟩ = some (.slice A0_0 l0_0.length c0_0) := (blk_cell BK119.out 0).trans rfl
                  have hcz26_1 : wr.cell? ⟨gb119, 1, none⟩ = some (.slice A0_1 l0_1.length c0_1) := (blk_cell BK119.out 1).trans rfl
                  have hfz26_0 := blk_frozen BK119.out 0
                  have hfz26_1 := blk_frozen BK119.out 1
                  try go_wp2
                  have n0_ := Aside0.mk (blk_drew BK119.out)
                  have n1_ := Aside0.mk (blk_drew BK120.out)
                  have n2_ := Aside0.mk (below_drew1 HB.out)
                  clear BK119
                  clear BK120
                  clear HB
                  have BK119 := n0_
                  have BK120 := n1_
                  have HB := n2_
                  clear n0_ n1_ n2_
                  have p122 : 0 ≤ (x5_2 : Int) := of_decide_eq_true (by first | (with_reducible assumption) )
                  have q122 : x5_2 < (l0_0.length : Int) := of_decide_eq_true (by first | (with_reducible assumption) )
                  obtain ⟨ad122, A122_1, c122_1, e122, hx122_0, hx122_1, hl122_1, hi122_1⟩ := at_T59 HR0_0.out x5_2 p122 q122
                  have hw122_1 := hx122_1
                  have hw122_0 := hx122_0
                  cases e122
                  replace hx122_0 := (HB.out.cell (World.block_lt_of_cell? w _ hx122_0)).trans hx122_0
                  replace hx122_1 := (HB.out.cell (World.block_lt_of_cell? w _ hx122_1)).trans hx122_1
                  have HR122_1 := Aside0.mk hi122_1
                  have HC122_1 := Aside0.mk hl122_1
                  clear hi122_1 hl122_1
                  replace p122 := eq_true p122
                  replace q122 := eq_true q122
                  have p123 : 0 ≤ (x5_2 : Int) := of_decide_eq_true (by first | (with_reducible assumption) )
                  have q123 : x5_2 < (l1_0.length : Int) := of_decide_eq_true (by first | (with_reducible assumption) )
                  obtain ⟨ad123, A123_1, c123_1, e123, hx123_0, hx123_1, hl123_1, hi123_1⟩ := at_T59 HR1_0.out x5_2 p123 q123
                  have hw123_1 := hx123_1
                  have hw123_0 := hx123_0
                  cases e123
                  replace hx123_0 := (HB.out.cell (World.block_lt_of_cell? w _ hx123_0)).trans hx123_0
                  replace hx123_1 := (HB.out.cell (World.block_lt_of_cell? w _ hx123_1)).trans hx123_1
                  have HR123_1 := Aside0.mk hi123_1
                  have HC123_1 := Aside0.mk hl123_1
                  clear hi123_1 hl123_1
                  replace p123 := eq_true p123
                  replace q123 := eq_true q123
                  have p124 : 0 ≤ (x5_2 : Int) := of_decide_eq_true (by first | (with_reducible assumption) )
                  have q124 : x5_2 < (l0_0.length : Int) := of_decide_eq_true (by first | (with_reducible assumption) )
                  obtain ⟨ad124, A124_1, c124_1, e124, hx124_0, hx124_1, hl124_1, hi124_1⟩ := at_T59 HR0_0.out x5_2 p124 q124
                  have hw124_1 := hx124_1
                  have hw124_0 := hx124_0
                  obtain rfl : ad122 = ad124 := (by injection e124)
                  replace hx124_0 := (HB.out.cell (World.block_lt_of_cell? w _ hx124_0)).trans hx124_0
                  replace hx124_1 := (HB.out.cell (World.block_lt_of_cell? w _ hx124_1)).trans hx124_1
                  have HR124_1 := Aside0.mk hi124_1
                  have HC124_1 := Aside0.mk hl124_1
                  clear hi124_1 hl124_1
                  replace p124 := eq_true p124
                  replace q124 := eq_true q124
                  have ea_ := Option.some.inj (hx122_1.symm.trans hx124_1)
                  injection ea_ with ea_ en_ ec_
                  subst ea_
                  subst ec_
                  clear en_
                  have p125 : 0 ≤ (x5_2 : Int) := of_decide_eq_true (by first | (with_reducible assumption) )
                  have q125 : x5_2 < (l1_0.length : Int) := of_decide_eq_true (by first | (with_reducible assumption) )
                  obtain ⟨ad125, A125_1, c125_1, e125, hx125_0, hx125_1, hl125_1, hi125_1⟩ := at_T59 HR1_0.out x5_2 p125 q125
                  have hw125_1 := hx125_1
                  have hw125_0 := hx125_0
                  obtain rfl : ad123 = ad125 := (by injection e125)
                  replace hx125_0 := (HB.out.cell (World.block_lt_of_cell? w _ hx125_0)).trans hx125_0
                  replace hx125_1 := (HB.out.cell (World.block_lt_of_cell? w _ hx125_1)).trans hx125_1
                  have HR125_1 := Aside0.mk hi125_1
                  have HC125_1 := Aside0.mk hl125_1
                  clear hi125_1 hl125_1
                  replace p125 := eq_true p125
                  replace q125 := eq_true q125
                  have ea_ := Option.some.inj (hx123_1.symm.trans hx125_1)
                  injection ea_ with ea_ en_ ec_
                  subst ea_
                  subst ec_
                  clear en_
                  refine start_ (n := 29) (S := fun w' => w'.cell? ⟨gb119, 0, none⟩ = some (.slice (some ad122) l0_0.length c0_0) ∧ w'.cell? ⟨gb119, 1, none⟩ = some (.slice A0_1 l0_1.length c0_1) ∧ w'.cell? ⟨gb120, 0, none⟩ = some (.slice (some ad123) l1_0.length c1_0) ∧ w'.cell? ⟨gb120, 1, none⟩ = some (.slice A1_1 l1_1.length c1_1) ∧ w'.cell? (ad122.add ((x5_2).toNat * 2)) = some (.int .i64 ((rd_T59 l0_0 x5_2).f0)) ∧ w'.cell? ⟨(ad122.add ((x5_2).toNat * 2)).block, (ad122.add ((x5_2).toNat * 2)).off + 1, none⟩ = some (.slice A122_1 ((rd_T59 l0_0 x5_2).f1).length c122_1) ∧ w'.cell? (ad123.add ((x5_2).toNat * 2)) = some (.int .i64 ((rd_T59 l1_0 x5_2).f0)) ∧ w'.cell? ⟨(ad123.add ((x5_2).toNat * 2)).block, (ad123.add ((x5_2).toNat * 2)).off + 1, none⟩ = some (.slice A123_1 ((rd_T59 l1_0 x5_2).f1).length c123_1) ∧ w'.cell? (ad122.add ((x5_2).toNat * 2)) = some (.int .i64 ((rd_T59 l0_0 x5_2).f0)) ∧ w'.cell? ⟨(ad122.add ((x5_2).toNat * 2)).block, (ad122.add ((x5_2).toNat * 2)).off + 1, none⟩ = some (.slice A122_1 ((rd_T59 l0_0 x5_2).f1).length c122_1) ∧ w'.cell? (ad123.add ((x5_2).toNat * 2)) = some (.int .i64 ((rd_T59 l1_0 x5_2).f0)) ∧ w'.cell? ⟨(ad123.add ((x5_2).toNat * 2)).block, (ad123.add ((x5_2).toNat * 2)).off + 1, none⟩ = some (.slice A123_1 ((rd_T59 l1_0 x5_2).f1).length c123_1)) (ds := []) #[false, false, false, false, false, false, false, false, false, false, false, false, false, false, false, false, false, false, false, false, false, false, false, false, false, false, false, false, false] (by kernel_rfl) rfl rfl ⟨(blk_cell BK119.out 0).trans rfl, (blk_cell BK119.out 1).trans rfl, (blk_cell BK120.out 0).trans rfl, (blk_cell BK120.out 1).trans rfl, ((HB.out.cell (World.block_lt_of_cell? w _ hw122_0)).trans hw122_0), ((HB.out.cell (World.block_lt_of_cell? w _ hw122_1)).trans hw122_1), ((HB.out.cell (World.block_lt_of_cell? w _ hw123_0)).trans hw123_0), ((HB.out.cell (World.block_lt_of_cell? w _ hw123_1)).trans hw123_1), ((HB.out.cell (World.block_lt_of_cell? w _ hw124_0)).trans hw124_0), ((HB.out.cell (World.block_lt_of_cell? w _ hw124_1)).trans hw124_1), ((HB.out.cell (World.block_lt_of_cell? w _ hw125_0)).trans hw125_0), ((HB.out.cell (World.block_lt_of_cell? w _ hw125_1)).trans hw125_1)⟩ (fun hHeld => ?_); refine with_tabW ecdysisref19_Same.tab6 ecdysisref19_Same.bits6 (fun HT_ HW_ => ?_)
                  generalize wr.drew = w27 at BK119 BK120 HB HR122_1 HR123_1 HR124_1 HR125_1 hx122_0 hx122_1 hx123_0 hx123_1 hx124_0 hx124_1 hx125_0 hx125_1 hHeld ⊢
                  refine zp 0 (zb 29 1) ?_ rfl rfl HT_ (by kernel_rfl) (fun _ _ _ h => h) rfl ?_ ?_ ?_ ?_; rotate_left; (intro w'; go_simp; with_reducible rfl); rotate_left; (simp only [zs]; rfl)
                  refine zp 2 (zb 29 5) ?_ rfl rfl HT_ (by kernel_rfl) (fun _ _ _ h => h) rfl ?_ ?_ ?_ ?_; rotate_left; (intro w'; go_simp; with_reducible rfl); rotate_left; (simp only [zs]; rfl)
                  refine zp 6 (zb 29 69) ?_ rfl rfl HT_ (by kernel_rfl) (fun _ _ _ h => h) rfl ?_ ?_ ?_ ?_; rotate_left; (intro w'; go_simp; with_reducible rfl); rotate_left; (simp only [zs]; rfl)
                  refine zp 8 (zb 29 325) ?_ rfl rfl HT_ (by kernel_rfl) (fun _ _ _ h => h) rfl ?_ ?_ ?_ ?_; rotate_left; (intro w'; go_simp; with_reducible rfl); rotate_left; (simp only [zs]; rfl)
                  refine zt 1 (zb 29 327) ?_ rfl rfl HT_ HW_ (by kernel_rfl) (fun _ _ _ h => h) rfl ?_ hHeld ?_ ?_ ?_; rotate_left; (rintro w' ⟨s0, s1, s2, s3, s4, s5, s6, s7, s8, s9, s10, s11⟩; go_simp; with_reducible rfl); rotate_left; (simp only [zs]; rfl)
                  refine zp 3 (zb 29 335) ?_ rfl rfl HT_ (by kernel_rfl) (fun _ _ _ h => h) rfl ?_ ?_ ?_ ?_; rotate_left; (intro w'; go_simp; with_reducible rfl); rotate_left; (simp only [zs]; rfl)
                  refine zp 4 (zb 29 351) ?_ rfl rfl HT_ (by kernel_rfl) (fun _ _ _ h => h) rfl ?_ ?_ ?_ ?_; rotate_left; (intro w'; go_simp; with_reducible rfl); rotate_left; (simp only [zs]; rfl)
                  refine zt 5 (zb 29 383) ?_ rfl rfl HT_ HW_ (by kernel_rfl) (fun _ _ _ h => h) rfl ?_ hHeld ?_ ?_ ?_; rotate_left; (rintro w' ⟨s0, s1, s2, s3, s4, s5, s6, s7, s8, s9, s10, s11⟩; go_simp; with_reducible rfl); rotate_left; (simp only [zs]; rfl)
                  refine zt 7 (zb 29 511) ?_ rfl rfl HT_ HW_ (by kernel_rfl) (fun _ _ _ h => h) rfl ?_ hHeld ?_ ?_ ?_; rotate_left; (rintro w' ⟨s0, s1, s2, s3, s4, s5, s6, s7, s8, s9, s10, s11⟩; go_simp; with_reducible rfl); rotate_left; (simp only [zs]; rfl)
                  refine zp 9 (zb 29 1023) ?_ rfl rfl HT_ (by kernel_rfl) (fun _ _ _ h => h) rfl ?_ ?_ ?_ ?_; rotate_left; (intro w'; go_simp; with_reducible rfl); rotate_left; (simp only [zs]; rfl)
                  refine zp 10 (zb 29 2047) ?_ rfl rfl HT_ (by kernel_rfl) (fun _ _ _ h => h) rfl ?_ ?_ ?_ ?_; rotate_left; (intro w'; go_simp; with_reducible rfl); rotate_left; (simp only [zs]; rfl)
                  refine zt 11 (zb 29 4095) ?_ rfl rfl HT_ HW_ (by kernel_rfl) (fun _ _ _ h => h) rfl ?_ hHeld ?_ ?_ ?_; rotate_left; (rintro w' ⟨s0, s1, s2, s3, s4, s5, s6, s7, s8, s9, s10, s11⟩; go_simp; with_reducible rfl); rotate_left; (simp only [zs]; rfl)
                  refine zp 12 (zb 29 8191) ?_ rfl rfl HT_ (by kernel_rfl) (fun _ _ _ h => h) rfl ?_ ?_ ?_ ?_; rotate_left; (intro w'; go_simp; with_reducible rfl); rotate_left; (simp only [zs]; rfl)
                  refine zp 13 (zb 29 16383) ?_ rfl rfl HT_ (by kernel_rfl) (fun _ _ _ h => h) rfl ?_ ?_ ?_ ?_; rotate_left; (intro w'; go_simp; with_reducible rfl); rotate_left; (simp only [zs]; rfl)
                  refine zp 14 (zb 29 32767) ?_ rfl rfl HT_ (by kernel_rfl) (fun _ _ _ h => h) rfl ?_ ?_ ?_ ?_; rotate_left; (intro w'; go_simp; with_reducible rfl); rotate_left; (simp only [zs]; rfl)
                  refine zp 16 (zb 29 98303) ?_ rfl rfl HT_ (by kernel_rfl) (fun _ _ _ h => h) rfl ?_ ?_ ?_ ?_; rotate_left; (intro w'; go_simp; with_reducible rfl); rotate_left; (simp only [zs]; rfl)
                  refine zp 20 (zb 29 1146879) ?_ rfl rfl HT_ (by kernel_rfl) (fun _ _ _ h => h) rfl ?_ ?_ ?_ ?_; rotate_left; (intro w'; go_simp; with_reducible rfl); rotate_left; (simp only [zs]; rfl)
                  refine zp 22 (zb 29 5341183) ?_ rfl rfl HT_ (by kernel_rfl) (fun _ _ _ h => h) rfl ?_ ?_ ?_ ?_; rotate_left; (intro w'; go_simp; with_reducible rfl); rotate_left; (simp only [zs]; rfl)
                  refine zt 15 (zb 29 5373951) ?_ rfl rfl HT_ HW_ (by kernel_rfl) (fun _ _ _ h => h) rfl ?_ hHeld ?_ ?_ ?_; rotate_left; (rintro w' ⟨s0, s1, s2, s3, s4, s5, s6, s7, s8, s9, s10, s11⟩; go_simp; with_reducible rfl); rotate_left; (simp only [zs]; rfl)
                  refine zp 17 (zb 29 5505023) ?_ rfl rfl HT_ (by kernel_rfl) (fun _ _ _ h => h) rfl ?_ ?_ ?_ ?_; rotate_left; (intro w'; go_simp; with_reducible rfl); rotate_left; (simp only [zs]; rfl)
                  refine zp 18 (zb 29 5767167) ?_ rfl rfl HT_ (by kernel_rfl) (fun _ _ _ h => h) rfl ?_ ?_ ?_ ?_; rotate_left; (intro w'; go_simp; with_reducible rfl); rotate_left; (simp only [zs]; rfl)
                  refine zt 19 (zb 29 6291455) ?_ rfl rfl HT_ HW_ (by kernel_rfl) (fun _ _ _ h => h) rfl ?_ hHeld ?_ ?_ ?_; rotate_left; (rintro w' ⟨s0, s1, s2, s3, s4, s5, s6, s7, s8, s9, s10, s11⟩; go_simp; with_reducible rfl); rotate_left; (simp only [zs]; rfl)
                  refine zt 21 (zb 29 8388607) ?_ rfl rfl HT_ HW_ (by kernel_rfl) (fun _ _ _ h => h) rfl ?_ hHeld ?_ ?_ ?_; rotate_left; (rintro w' ⟨s0, s1, s2, s3, s4, s5, s6, s7, s8, s9, s10, s11⟩; go_simp; with_reducible rfl); rotate_left; (simp only [zs]; rfl)
                  refine zp 23 (zb 29 16777215) ?_ rfl rfl HT_ (by kernel_rfl) (fun _ _ _ h => h) rfl ?_ ?_ ?_ ?_; rotate_left; (intro w'; go_simp; with_reducible rfl); rotate_left; (simp only [zs]; rfl)
                  refine zp 24 (zb 29 33554431) ?_ rfl rfl HT_ (by kernel_rfl) (fun _ _ _ h => h) rfl ?_ ?_ ?_ ?_; rotate_left; (intro w'; go_simp; with_reducible rfl); rotate_left; (simp only [zs]; rfl)
                  refine zt 25 (zb 29 67108863) ?_ rfl rfl HT_ HW_ (by kernel_rfl) (fun _ _ _ h => h) rfl ?_ hHeld ?_ ?_ ?_; rotate_left; (rintro w' ⟨s0, s1, s2, s3, s4, s5, s6, s7, s8, s9, s10, s11⟩; go_simp; with_reducible rfl); rotate_left; (simp only [zs]; rfl)
                  refine one_ (i := 26) (N := some 54) #[true, true, true, true, true, true, true, true, true, true, true, true, true, true, true, true, true, true, true, true, true, true, true, true, true, true, true, false, false] rfl rfl (one_of HT_.out (by kernel_rfl)) (by decide) (fun K hK => ?_)
                  refine goes_ Try.func43 (by kernel_rfl) rfl #[.slice A122_1 ((rd_T59 l0_0 x5_2).f1).length c122_1, .slice A123_1 ((rd_T59 l1_0 x5_2).f1).length c123_1] (by rfl) rfl rfl (by (try simp only [List.map_toArray, List.map_cons, List.map_nil]); first | done | rfl | (simp only [List.length_drop, List.length_take]; rfl)) ?_
                  with_reducible refine (ih_ecdysisref19_SameVals k2 (by have := HJ2.out; have := HK2.out; omega) _ _ ((rd_T59 l0_0 x5_2).f1) _ _ ((rd_T59 l1_0 x5_2).f1) false _ ?side1 ?side2 ?side3 ?side4 A19.out).mono ?_
                  (case side1 => repeat (first | exact (Kd.C_below HR124_1.out HB.out) ))
                  (case side2 => exact HC124_1.out)
                  (case side3 => repeat (first | exact (Kd.C_below HR125_1.out HB.out) ))
                  (case side4 => exact HC125_1.out)
                  rintro e w28 ⟨rfl, hb⟩
                  refine ⟨_, rfl, ?_⟩
                  have n0_ := Aside0.mk (blk_below BK119.out hb)
                  have n1_ := Aside0.mk (blk_below BK120.out hb)
                  have n2_ := Aside0.mk (below_step HB.out hb)
                  clear BK119
                  clear BK120
                  clear HB
                  have BK119 := n0_
                  have BK120 := n1_
                  have HB := n2_
                  clear n0_ n1_ n2_
                  (try clear hb)
                  (try clear hb2)
                  (try clear hk)
                  (try clear hi)
                  refine hK.out _ _ ⟨(blk_cell BK119.out 0).trans rfl, (blk_cell BK119.out 1).trans rfl, (blk_cell BK120.out 0).trans rfl, (blk_cell BK120.out 1).trans rfl, ((HB.out.cell (World.block_lt_of_cell? w _ hw122_0)).trans hw122_0), ((HB.out.cell (World.block_lt_of_cell? w _ hw122_1)).trans hw122_1), ((HB.out.cell (World.block_lt_of_cell? w _ hw123_0)).trans hw123_0), ((HB.out.cell (World.block_lt_of_cell? w _ hw123_1)).trans hw123_1), ((HB.out.cell (World.block_lt_of_cell? w _ hw124_0)).trans hw124_0), ((HB.out.cell (World.block_lt_of_cell? w _ hw124_1)).trans hw124_1), ((HB.out.cell (World.block_lt_of_cell? w _ hw125_0)).trans hw125_0), ((HB.out.cell (World.block_lt_of_cell? w _ hw125_1)).trans hw125_1)⟩ (fun hHeld => ?_)
                  clear hK K
                  refine norm_ (a' := ?_) ?_ ?_
                  rotate_left
                  · show Act.put _ (some 54) _ = _
                    simp only [zs]
                    rfl
                  refine zp 27 (zb 29 268435455) ?_ rfl rfl HT_ (by kernel_rfl) (fun _ _ _ h => h) rfl ?_ ?_ ?_ ?_; rotate_left; (intro w'; go_simp; with_reducible rfl); rotate_left; (simp only [zs]; rfl)
                  refine zp 28 (zb 29 536870911) ?_ rfl rfl HT_ (by kernel_rfl) (fun _ _ _ h => h) rfl ?_ ?_ ?_ ?_; rotate_left; (intro w'; go_simp; with_reducible rfl); rotate_left; (simp only [zs]; rfl)
                  refine done_ (done_of HT_.out (by kernel_rfl)) ?_
                  try go_wp2
                  go_ret
                  exact ⟨by first | rfl , by exact HB.out⟩
              · rw [if_neg c18] at H
                have c18b0 : (((rd_T59 l0_0 x5_2).f0) == ((rd_T59 l1_0 x5_2).f0)) = false := beq_eq_false_iff_ne.mpr c18
                have c18b1 : (((rd_T59 l0_0 x5_2).f0) != ((rd_T59 l1_0 x5_2).f0)) = true := bne_iff_ne.mpr c18
                obtain rfl := Option.some.inj H
                have hnb29 := NB119_120.out
                have hnc29 := NB120_119.out
                have hcz30_0 : wr.cell? ⟨gb119, 0, none⟩ = some (.slice A0_0 l0_0.length c0_0) := (blk_cell BK119.out 0).trans rfl
                have hcz30_1 : wr.cell? ⟨gb119, 1, none⟩ = some (.slice A0_1 l0_1.length c0_1) := (blk_cell BK119.out 1).trans rfl
                have hfz30_0 := blk_frozen BK119.out 0
                have hfz30_1 := blk_frozen BK119.out 1
                try go_wp2
                have n0_ := Aside0.mk (blk_drew BK119.out)
                have n1_ := Aside0.mk (blk_drew BK120.out)
                have n2_ := Aside0.mk (below_drew1 HB.out)
                clear BK119
                clear BK120
                clear HB
                have BK119 := n0_
                have BK120 := n1_
                have HB := n2_
                clear n0_ n1_ n2_
                have p122 : 0 ≤ (x5_2 : Int) := of_decide_eq_true (by first | (with_reducible assumption) )
                have q122 : x5_2 < (l0_0.length : Int) := of_decide_eq_true (by first | (with_reducible assumption) )
                obtain ⟨ad122, A122_1, c122_1, e122, hx122_0, hx122_1, hl122_1, hi122_1⟩ := at_T59 HR0_0.out x5_2 p122 q122
                have hw122_1 := hx122_1
                have hw122_0 := hx122_0
                cases e122
                replace hx122_0 := (HB.out.cell (World.block_lt_of_cell? w _ hx122_0)).trans hx122_0
                replace hx122_1 := (HB.out.cell (World.block_lt_of_cell? w _ hx122_1)).trans hx122_1
                have HR122_1 := Aside0.mk hi122_1
                have HC122_1 := Aside0.mk hl122_1
                clear hi122_1 hl122_1
                replace p122 := eq_true p122
                replace q122 := eq_true q122
                have p123 : 0 ≤ (x5_2 : Int) := of_decide_eq_true (by first | (with_reducible assumption) )
                have q123 : x5_2 < (l1_0.length : Int) := of_decide_eq_true (by first | (with_reducible assumption) )
                obtain ⟨ad123, A123_1, c123_1, e123, hx123_0, hx123_1, hl123_1, hi123_1⟩ := at_T59 HR1_0.out x5_2 p123 q123
                have hw123_1 := hx123_1
                have hw123_0 := hx123_0
                cases e123
                replace hx123_0 := (HB.out.cell (World.block_lt_of_cell? w _ hx123_0)).trans hx123_0
                replace hx123_1 := (HB.out.cell (World.block_lt_of_cell? w _ hx123_1)).trans hx123_1
                have HR123_1 := Aside0.mk hi123_1
                have HC123_1 := Aside0.mk hl123_1
                clear hi123_1 hl123_1
                replace p123 := eq_true p123
                replace q123 := eq_true q123
                refine start_ (n := 29) (S := fun w' => w'.cell? ⟨gb119, 0, none⟩ = some (.slice (some ad122) l0_0.length c0_0) ∧ w'.cell? ⟨gb119, 1, none⟩ = some (.slice A0_1 l0_1.length c0_1) ∧ w'.cell? ⟨gb120, 0, none⟩ = some (.slice (some ad123) l1_0.length c1_0) ∧ w'.cell? ⟨gb120, 1, none⟩ = some (.slice A1_1 l1_1.length c1_1) ∧ w'.cell? (ad122.add ((x5_2).toNat * 2)) = some (.int .i64 ((rd_T59 l0_0 x5_2).f0)) ∧ w'.cell? ⟨(ad122.add ((x5_2).toNat * 2)).block, (ad122.add ((x5_2).toNat * 2)).off + 1, none⟩ = some (.slice A122_1 ((rd_T59 l0_0 x5_2).f1).length c122_1) ∧ w'.cell? (ad123.add ((x5_2).toNat * 2)) = some (.int .i64 ((rd_T59 l1_0 x5_2).f0)) ∧ w'.cell? ⟨(ad123.add ((x5_2).toNat * 2)).block, (ad123.add ((x5_2).toNat * 2)).off + 1, none⟩ = some (.slice A123_1 ((rd_T59 l1_0 x5_2).f1).length c123_1)) (ds := []) #[false, false, false, false, false, false, false, false, false, false, false, false, false, false, false, false, false, false, false, false, false, false, false, false, false, false, false, false, false] (by kernel_rfl) rfl rfl ⟨(blk_cell BK119.out 0).trans rfl, (blk_cell BK119.out 1).trans rfl, (blk_cell BK120.out 0).trans rfl, (blk_cell BK120.out 1).trans rfl, ((HB.out.cell (World.block_lt_of_cell? w _ hw122_0)).trans hw122_0), ((HB.out.cell (World.block_lt_of_cell? w _ hw122_1)).trans hw122_1), ((HB.out.cell (World.block_lt_of_cell? w _ hw123_0)).trans hw123_0), ((HB.out.cell (World.block_lt_of_cell? w _ hw123_1)).trans hw123_1)⟩ (fun hHeld => ?_); refine with_tabW ecdysisref19_Same.tab6 ecdysisref19_Same.bits6 (fun HT_ HW_ => ?_)
                generalize wr.drew = w31 at BK119 BK120 HB HR122_1 HR123_1 hx122_0 hx122_1 hx123_0 hx123_1 hHeld ⊢
                refine zp 0 (zb 29 1) ?_ rfl rfl HT_ (by kernel_rfl) (fun _ _ _ h => h) rfl ?_ ?_ ?_ ?_; rotate_left; (intro w'; go_simp; with_reducible rfl); rotate_left; (simp only [zs]; rfl)
                refine zp 2 (zb 29 5) ?_ rfl rfl HT_ (by kernel_rfl) (fun _ _ _ h => h) rfl ?_ ?_ ?_ ?_; rotate_left; (intro w'; go_simp; with_reducible rfl); rotate_left; (simp only [zs]; rfl)
                refine zp 6 (zb 29 69) ?_ rfl rfl HT_ (by kernel_rfl) (fun _ _ _ h => h) rfl ?_ ?_ ?_ ?_; rotate_left; (intro w'; go_simp; with_reducible rfl); rotate_left; (simp only [zs]; rfl)
                refine zp 8 (zb 29 325) ?_ rfl rfl HT_ (by kernel_rfl) (fun _ _ _ h => h) rfl ?_ ?_ ?_ ?_; rotate_left; (intro w'; go_simp; with_reducible rfl); rotate_left; (simp only [zs]; rfl)
                refine zt 1 (zb 29 327) ?_ rfl rfl HT_ HW_ (by kernel_rfl) (fun _ _ _ h => h) rfl ?_ hHeld ?_ ?_ ?_; rotate_left; (rintro w' ⟨s0, s1, s2, s3, s4, s5, s6, s7⟩; go_simp; with_reducible rfl); rotate_left; (simp only [zs]; rfl)
                refine zp 3 (zb 29 335) ?_ rfl rfl HT_ (by kernel_rfl) (fun _ _ _ h => h) rfl ?_ ?_ ?_ ?_; rotate_left; (intro w'; go_simp; with_reducible rfl); rotate_left; (simp only [zs]; rfl)
                refine zp 4 (zb 29 351) ?_ rfl rfl HT_ (by kernel_rfl) (fun _ _ _ h => h) rfl ?_ ?_ ?_ ?_; rotate_left; (intro w'; go_simp; with_reducible rfl); rotate_left; (simp only [zs]; rfl)
                refine zt 5 (zb 29 383) ?_ rfl rfl HT_ HW_ (by kernel_rfl) (fun _ _ _ h => h) rfl ?_ hHeld ?_ ?_ ?_; rotate_left; (rintro w' ⟨s0, s1, s2, s3, s4, s5, s6, s7⟩; go_simp; with_reducible rfl); rotate_left; (simp only [zs]; rfl)
                refine zt 7 (zb 29 511) ?_ rfl rfl HT_ HW_ (by kernel_rfl) (fun _ _ _ h => h) rfl ?_ hHeld ?_ ?_ ?_; rotate_left; (rintro w' ⟨s0, s1, s2, s3, s4, s5, s6, s7⟩; go_simp; with_reducible rfl); rotate_left; (simp only [zs]; rfl)
                refine zp 9 (zb 29 1023) ?_ rfl rfl HT_ (by kernel_rfl) (fun _ _ _ h => h) rfl ?_ ?_ ?_ ?_; rotate_left; (intro w'; go_simp; with_reducible rfl); rotate_left; (simp only [zs]; rfl)
                refine zp 10 (zb 29 2047) ?_ rfl rfl HT_ (by kernel_rfl) (fun _ _ _ h => h) rfl ?_ ?_ ?_ ?_; rotate_left; (intro w'; go_simp; with_reducible rfl); rotate_left; (simp only [zs]; rfl)
                refine zt 11 (zb 29 4095) ?_ rfl rfl HT_ HW_ (by kernel_rfl) (fun _ _ _ h => h) rfl ?_ hHeld ?_ ?_ ?_; rotate_left; (rintro w' ⟨s0, s1, s2, s3, s4, s5, s6, s7⟩; go_simp; with_reducible rfl); rotate_left; (simp only [zs]; rfl)
                refine zp 12 (zb 29 8191) ?_ rfl rfl HT_ (by kernel_rfl) (fun _ _ _ h => h) rfl ?_ ?_ ?_ ?_; rotate_left; (intro w'; go_simp; with_reducible rfl); rotate_left; (simp only [zs]; rfl)
                refine zp 13 (zb 29 16383) ?_ rfl rfl HT_ (by kernel_rfl) (fun _ _ _ h => h) rfl ?_ ?_ ?_ ?_; rotate_left; (intro w'; go_simp; with_reducible rfl); rotate_left; (simp only [zs]; rfl)
                refine zn 14 (zb 29 32767) rfl rfl HT_ (by kernel_rfl) (fun _ _ _ h => h) rfl ?_ ?_ ?_; rotate_left; (simp only [zs]; rfl)
                refine zn 15 (zb 29 65535) rfl rfl HT_ (by kernel_rfl) (fun _ _ _ h => h) rfl ?_ ?_ ?_; rotate_left; (simp only [zs]; rfl)
                refine zn 16 (zb 29 131071) rfl rfl HT_ (by kernel_rfl) (fun _ _ _ h => h) rfl ?_ ?_ ?_; rotate_left; (simp only [zs]; rfl)
                refine zn 17 (zb 29 262143) rfl rfl HT_ (by kernel_rfl) (fun _ _ _ h => h) rfl ?_ ?_ ?_; rotate_left; (simp only [zs]; rfl)
                refine zn 18 (zb 29 524287) rfl rfl HT_ (by kernel_rfl) (fun _ _ _ h => h) rfl ?_ ?_ ?_; rotate_left; (simp only [zs]; rfl)
                refine zn 19 (zb 29 1048575) rfl rfl HT_ (by kernel_rfl) (fun _ _ _ h => h) rfl ?_ ?_ ?_; rotate_left; (simp only [zs]; rfl)
                refine zn 20 (zb 29 2097151) rfl rfl HT_ (by kernel_rfl) (fun _ _ _ h => h) rfl ?_ ?_ ?_; rotate_left; (simp only [zs]; rfl)
                refine zn 21 (zb 29 4194303) rfl rfl HT_ (by kernel_rfl) (fun _ _ _ h => h) rfl ?_ ?_ ?_; rotate_left; (simp only [zs]; rfl)
                refine zn 22 (zb 29 8388607) rfl rfl HT_ (by kernel_rfl) (fun _ _ _ h => h) rfl ?_ ?_ ?_; rotate_left; (simp only [zs]; rfl)
                refine zn 23 (zb 29 16777215) rfl rfl HT_ (by kernel_rfl) (fun _ _ _ h => h) rfl ?_ ?_ ?_; rotate_left; (simp only [zs]; rfl)
                refine zn 24 (zb 29 33554431) rfl rfl HT_ (by kernel_rfl) (fun _ _ _ h => h) rfl ?_ ?_ ?_; rotate_left; (simp only [zs]; rfl)
                refine zn 25 (zb 29 67108863) rfl rfl HT_ (by kernel_rfl) (fun _ _ _ h => h) rfl ?_ ?_ ?_; rotate_left; (simp only [zs]; rfl)
                refine zn 26 (zb 29 134217727) rfl rfl HT_ (by kernel_rfl) (fun _ _ _ h => h) rfl ?_ ?_ ?_; rotate_left; (simp only [zs]; rfl)
                refine zn 27 (zb 29 268435455) rfl rfl HT_ (by kernel_rfl) (fun _ _ _ h => h) rfl ?_ ?_ ?_; rotate_left; (simp only [zs]; rfl)
                refine zp 28 (zb 29 536870911) ?_ rfl rfl HT_ (by kernel_rfl) (fun _ _ _ h => h) rfl ?_ ?_ ?_ ?_; rotate_left; (intro w'; go_simp; with_reducible rfl); rotate_left; (simp only [zs]; rfl)
                refine done_ (done_of HT_.out (by kernel_rfl)) ?_
                try go_wp2
                go_ret
                exact ⟨by first | rfl , by exact HB.out⟩
            · rw [if_neg c17] at H
              exact absurd H (by simp)
          · rw [if_neg c16] at H
            exact absurd H (by simp)
        · rw [if_neg c15] at H
          have c15b0 : decide (x5_2 < (l0_0.length : Int)) = false := decide_eq_false c15
          clear c15
          obtain rfl := Option.some.inj H
          have hnb32 := NB119_120.out
          have hnc32 := NB120_119.out
          have hcz33_0 : wr.cell? ⟨gb119, 0, none⟩ = some (.slice A0_0 l0_0.length c0_0) := (blk_cell BK119.out 0).trans rfl
          have hcz33_1 : wr.cell? ⟨gb119, 1, none⟩ = some (.slice A0_1 l0_1.length c0_1) := (blk_cell BK119.out 1).trans rfl
          have hfz33_0 := blk_frozen BK119.out 0
          have hfz33_1 := blk_frozen BK119.out 1
          go_wp2
          go_ret
          exact ⟨by first | rfl , by exact HB.out⟩
end Go.Proofs.Ytbpnfpckoapdbaa.PT19
end
section
namespace Go.Proofs.Ytbpnfpckoapdbaa.PT19
open Go.RowKit Go.Proofs.Ytbpnfpckoapdbaa.M Go.Proofs.Ytbpnfpckoapdbaa.KD Go.Proofs.Ytbpnfpckoapdbaa Go.Proofs.YtbpnfpckoapdbaaW.PrintWords Go.Proofs.YtbpnfpckoapdbaaW.PrintLast Go.Proofs.YtbpnfpckoapdbaaW.PrintMore
attribute [local go_sem] max2_int min2_int max_two min_two max_three min_three max_four min_four   -- for this text's walks alone
set_option linter.unusedVariables false
set_option linter.unusedSimpArgs false
def ecdysisref19_SameVals.T6 : Bool × List (List Nat × List Nat) := (true, [([], []), ([], []), ([0, 1], [0, 1]), ([2], [2]), ([3], [3]), ([], []), ([], []), ([5, 6], [5, 6]), ([7], [7]), ([8], [8]), ([4, 9], [4, 9]), ([10], [10]), ([11], [11]), ([11], [11]), ([12, 13, 11], [11, 12, 13]), ([14, 11], [11, 14]), ([15, 11], [11, 15]), ([11], [11]), ([11], [11]), ([17, 18, 11], [11, 17, 18]), ([19, 11], [11, 19]), ([20, 11], [11, 20]), ([16, 21, 11], [11, 16, 21]), ([11, 22], [11, 22]), ([23, 11], [23]), ([24], [24]), ([24], [24]), ([25, 26, 24], [24, 25, 26]), ([27, 24], [24, 27]), ([28, 24], [24, 28]), ([29, 24], [24, 29]), ([24], [24]), ([24], [24]), ([31, 32, 24], [24, 31, 32]), ([33, 24], [24, 33]), ([34, 24], [24, 34]), ([35, 24], [24, 35]), ([30, 36, 24], [24, 30, 36]), ([24, 37], [24, 37])])
def ecdysisref19_SameVals.B6 : List Nat := [0, 0, 3, 7, 15, 0, 0, 96, 224, 480, 1023, 2047, 4095, 4095, 16383, 32767, 65535, 4095, 4095, 397311, 921599, 1970175, 4194303, 8388607, 16777215, 33554431, 33554431, 134217727, 268435455, 536870911, 1073741823, 33554431, 33554431, 6476005375, 15065939967, 32245809151, 66605547519, 137438953471, 274877906943]
theorem ecdysisref19_SameVals.tab6 : rtab .any (opsOf Try.f43 6) = ecdysisref19_SameVals.T6 := by kernel_rfl
theorem ecdysisref19_SameVals.bits6 : waitsOk ecdysisref19_SameVals.T6.2 ecdysisref19_SameVals.B6 = true := by kernel_rfl
def ecdysisref19_SameVals.T11 : Bool × List (List Nat × List Nat) := (true, [([], []), ([], []), ([0, 1], [0, 1]), ([2], [2]), ([3], [3]), ([], []), ([4, 5], [4, 5]), ([6], [6]), ([], []), ([], []), ([8, 9], [8, 9]), ([10], [10]), ([11], [11]), ([], []), ([12, 13], [12, 13]), ([14], [14]), ([7, 15], [7, 15]), ([16], [16])])
def ecdysisref19_SameVals.B11 : List Nat := [0, 0, 3, 7, 15, 0, 63, 127, 0, 0, 768, 1792, 3840, 0, 16128, 32512, 65535, 131071]
theorem ecdysisref19_SameVals.tab11 : rtab .any (opsOf Try.f43 11) = ecdysisref19_SameVals.T11 := by kernel_rfl
theorem ecdysisref19_SameVals.bits11 : waitsOk ecdysisref19_SameVals.T11.2 ecdysisref19_SameVals.B11 = true := by kernel_rfl
set_option maxHeartbeats 8000000 in
set_option maxRecDepth 100000 in
theorem ecdysisref19_SameVals.callsR (k : Nat) (ih_ecdysisref19_Same : ∀ k_, k_ < k → ∀ (A0_0 : Option Addr) (c0_0 : Nat) (l0_0 : List (S59)) (A0_1 : Option Addr) (c0_1 : Nat) (l0_1 : List (S73)) (A1_0 : Option Addr) (c1_0 : Nat) (l1_0 : List (S59)) (A1_1 : Option Addr) (c1_1 : Nat) (l1_1 : List (S73)) (r : Bool) (w : World) (hr0_0 : Kd.C k59 w A0_0 l0_0.length l0_0) (hc0_0 : l0_0.length ≤ c0_0) (hr0_1 : Kd.C k73 w A0_1 l0_1.length l0_1) (hc0_1 : l0_1.length ≤ c0_1) (hr1_0 : Kd.C k59 w A1_0 l1_0.length l1_0) (hc1_0 : l1_0.length ≤ c1_0) (hr1_1 : Kd.C k73 w A1_1 l1_1.length l1_1) (hc1_1 : l1_1.length ≤ c1_1) (h_ : ecdysisref19_Same.f k_ l0_0 l0_1 l1_0 l1_1 = some r), Calls Try.prog 14 #[.agg #[.slice A0_0 l0_0.length c0_0, .slice A0_1 l0_1.length c0_1], .agg #[.slice A1_0 l1_0.length c1_0, .slice A1_1 l1_1.length c1_1]] w fun e w' => e = .returned (.bool r) ∧ Below w.heap.size w w') (ih_ecdysisref19_SameVals : ∀ k_, k_ < k → ∀ (A0 : Option Addr) (c0 : Nat) (l0 : List (S70)) (A1 : Option Addr) (c1 : Nat) (l1 : List (S70)) (r : Bool) (w : World) (hr0 : Kd.C k70 w A0 l0.length l0) (hc0 : l0.length ≤ c0) (hr1 : Kd.C k70 w A1 l1.length l1) (hc1 : l1.length ≤ c1) (h_ : ecdysisref19_SameVals.f k_ l0 l1 = some r), Calls Try.prog 43 #[.slice A0 l0.length c0, .slice A1 l1.length c1] w fun e w' => e = .returned (.bool r) ∧ Below w.heap.size w w') : ∀ (A0 : Option Addr) (c0 : Nat) (l0 : List (S70)) (A1 : Option Addr) (c1 : Nat) (l1 : List (S70)) (r : Bool) (w : World) (hr0 : Kd.C k70 w A0 l0.length l0) (hc0 : l0.length ≤ c0) (hr1 : Kd.C k70 w A1 l1.length l1) (hc1 : l1.length ≤ c1) (h : ecdysisref19_SameVals.f k l0 l1 = some r),
   Calls Try.prog 43 #[.slice A0 l0.length c0, .slice A1 l1.length c1] w fun e w' => e = .returned (.bool r) ∧ Below w.heap.size w w' := by
 intro A0 c0 l0 A1 c1 l1 r w hr0 hc0 hr1 hc1 h
 cases k with
 | zero => exact absurd h (by simp [ecdysisref19_SameVals.f])
 | succ k =>
 simp only [ecdysisref19_SameVals.f] at h
 have hu25 := Try.underlying25
 have HR0 := Aside0.mk hr0
 have HC0 := Aside0.mk hc0
 clear hr0 hc0
 have HR1 := Aside0.mk hr1
 have HC1 := Aside0.mk hc1
 clear hr1 hc1
 have HB := Aside0.mk (Below.refl w.heap.size w)
 have H : (if (l0.length : Int) = (l1.length : Int) then (ecdysisref19_SameVals.l0 k l0 l1 0) else (some false)) = some r := h
 clear h
 by_cases c3 : (l0.length : Int) = (l1.length : Int)
 · rw [if_pos c3] at H
   have c3b0 : ((l0.length : Int) == (l1.length : Int)) = true := beq_iff_eq.mpr c3
   have c3b1 : ((l0.length : Int) != (l1.length : Int)) = false := bne_eq_false_iff_eq.mpr c3
   have c3b2 : (l0.length == l1.length) = true := by first | (simp at c3 ⊢; omega)
   clear c3
   have H' := Aside0.mk H
   clear H
   go_enter Try.func43, Try.ntmps43
   go_wp2
   go_loopg [5] k (fun kq v5 w' => ∃ (x5_1 : Int), v5 = .int .i64 x5_1 ∧ Aside0 (ecdysisref19_SameVals.l0 kq l0 l1 x5_1 = some r) ∧ Aside0 (kq ≤ k) ∧ Aside0 (Below w.heap.size w w'))
   case atStart => exact ⟨(0), (by first | rfl ), H', ⟨Nat.le_refl _⟩, ⟨by exact HB.out⟩⟩
   case round =>
    clear H'
    try clear c1
    try clear p2
    try clear c3
    try clear c3b0
    try clear c3b1
    try clear c3b2
    obtain ⟨x5_1, rfl, HA, HK1, HB⟩ := hrel
    cases gk with
    | zero => exact absurd HA.out (by simp [ecdysisref19_SameVals.l0])
    | succ k1 =>
     have H := HA.out
     clear HA
     simp only [ecdysisref19_SameVals.l0] at H
     by_cases c4 : x5_1 < (l0.length : Int)
     · rw [if_pos c4] at H
       have c4b0 : decide (x5_1 < (l0.length : Int)) = true := decide_eq_true c4
       clear c4
       have HC5 := Aside0.mk H
       clear H
       go_upto_region 6 with (fail)
       go_cut [56] (fun v56 wc => ∃ (kq : Nat) (x56_4 : Bool), v56 = .bool x56_4 ∧ Aside0 (ecdysisref19_SameVals.j1 kq l0 l1 x5_1 x56_4 = some r) ∧ Aside0 (kq ≤ k1) ∧ Aside0 (Below w.heap.size w wc))
       case first =>
        have H := HC5.out
        clear HC5
        by_cases c6 : 0 ≤ x5_1
        · rw [if_pos c6] at H
          have c6b0 : decide (0 ≤ x5_1) = true := decide_eq_true c6
          clear c6
          (first | skip)
          by_cases c7 : x5_1 < (l1.length : Int)
          · rw [if_pos c7] at H
            have c7b0 : decide (x5_1 < (l1.length : Int)) = true := decide_eq_true c7
            clear c7
            by_cases c8 : ((rd_T70 l0 x5_1).f0) = ((rd_T70 l1 x5_1).f0)
            · rw [if_pos c8] at H
              have c8b0 : (((rd_T70 l0 x5_1).f0) == ((rd_T70 l1 x5_1).f0)) = true := beq_iff_eq.mpr c8
              have c8b1 : (((rd_T70 l0 x5_1).f0) != ((rd_T70 l1 x5_1).f0)) = false := bne_eq_false_iff_eq.mpr c8
              clear c8
              by_cases c9 : ((rd_T70 l0 x5_1).f1).toList = ((rd_T70 l1 x5_1).f1).toList
              · rw [if_pos c9] at H
                have c9b0 : (((rd_T70 l0 x5_1).f1).toList == ((rd_T70 l1 x5_1).f1).toList) = true := beq_iff_eq.mpr c9
                have c9b1 : (((rd_T70 l0 x5_1).f1).toList != ((rd_T70 l1 x5_1).f1).toList) = false := bne_eq_false_iff_eq.mpr c9
                clear c9
                have H' := Aside0.mk H
                clear H
                try go_wp2
                have n0_ := Aside0.mk (below_drew1 HB.out)
                clear HB
                have HB := n0_
                clear n0_
                have p127 : 0 ≤ (x5_1 : Int) := of_decide_eq_true (by first | (with_reducible assumption) )
                have q127 : x5_1 < (l0.length : Int) := of_decide_eq_true (by first | (with_reducible assumption) )
                obtain ⟨ad127, A127_2, c127_2, e127, hx127_0, hx127_1, hx127_2, hl127_2, hi127_2⟩ := at_T70 HR0.out x5_1 p127 q127
                have hw127_2 := hx127_2
                have hw127_1 := hx127_1
                have hw127_0 := hx127_0
                cases e127
                replace hx127_0 := (HB.out.cell (World.block_lt_of_cell? w _ hx127_0)).trans hx127_0
                replace hx127_1 := (HB.out.cell (World.block_lt_of_cell? w _ hx127_1)).trans hx127_1
                replace hx127_2 := (HB.out.cell (World.block_lt_of_cell? w _ hx127_2)).trans hx127_2
                have HR127_2 := Aside0.mk hi127_2
                have HC127_2 := Aside0.mk hl127_2
                clear hi127_2 hl127_2
                replace p127 := eq_true p127
                replace q127 := eq_true q127
                have p128 : 0 ≤ (x5_1 : Int) := of_decide_eq_true (by first | (with_reducible assumption) )
                have q128 : x5_1 < (l1.length : Int) := of_decide_eq_true (by first | (with_reducible assumption) )
                obtain ⟨ad128, A128_2, c128_2, e128, hx128_0, hx128_1, hx128_2, hl128_2, hi128_2⟩ := at_T70 HR1.out x5_1 p128 q128
                have hw128_2 := hx128_2
                have hw128_1 := hx128_1
                have hw128_0 := hx128_0
                cases e128
                replace hx128_0 := (HB.out.cell (World.block_lt_of_cell? w _ hx128_0)).trans hx128_0
                replace hx128_1 := (HB.out.cell (World.block_lt_of_cell? w _ hx128_1)).trans hx128_1
                replace hx128_2 := (HB.out.cell (World.block_lt_of_cell? w _ hx128_2)).trans hx128_2
                have HR128_2 := Aside0.mk hi128_2
                have HC128_2 := Aside0.mk hl128_2
                clear hi128_2 hl128_2
                replace p128 := eq_true p128
                replace q128 := eq_true q128
                have p129 : 0 ≤ (x5_1 : Int) := of_decide_eq_true (by first | (with_reducible assumption) )
                have q129 : x5_1 < (l0.length : Int) := of_decide_eq_true (by first | (with_reducible assumption) )
                obtain ⟨ad129, A129_2, c129_2, e129, hx129_0, hx129_1, hx129_2, hl129_2, hi129_2⟩ := at_T70 HR0.out x5_1 p129 q129
                have hw129_2 := hx129_2
                have hw129_1 := hx129_1
                have hw129_0 := hx129_0
                obtain rfl : ad127 = ad129 := (by injection e129)
                replace hx129_0 := (HB.out.cell (World.block_lt_of_cell? w _ hx129_0)).trans hx129_0
                replace hx129_1 := (HB.out.cell (World.block_lt_of_cell? w _ hx129_1)).trans hx129_1
                replace hx129_2 := (HB.out.cell (World.block_lt_of_cell? w _ hx129_2)).trans hx129_2
                have HR129_2 := Aside0.mk hi129_2
                have HC129_2 := Aside0.mk hl129_2
                clear hi129_2 hl129_2
                replace p129 := eq_true p129
                replace q129 := eq_true q129
                have ea_ := Option.some.inj (hx127_2.symm.trans hx129_2)
                injection ea_ with ea_ en_ ec_
                subst ea_
                subst ec_
                clear en_
                have p130 : 0 ≤ (x5_1 : Int) := of_decide_eq_true (by first | (with_reducible assumption) )
                have q130 : x5_1 < (l1.length : Int) := of_decide_eq_true (by first | (with_reducible assumption) )
                obtain ⟨ad130, A130_2, c130_2, e130, hx130_0, hx130_1, hx130_2, hl130_2, hi130_2⟩ := at_T70 HR1.out x5_1 p130 q130
                have hw130_2 := hx130_2
                have hw130_1 := hx130_1
                have hw130_0 := hx130_0
                obtain rfl : ad128 = ad130 := (by injection e130)
                replace hx130_0 := (HB.out.cell (World.block_lt_of_cell? w _ hx130_0)).trans hx130_0
                replace hx130_1 := (HB.out.cell (World.block_lt_of_cell? w _ hx130_1)).trans hx130_1
                replace hx130_2 := (HB.out.cell (World.block_lt_of_cell? w _ hx130_2)).trans hx130_2
                have HR130_2 := Aside0.mk hi130_2
                have HC130_2 := Aside0.mk hl130_2
                clear hi130_2 hl130_2
                replace p130 := eq_true p130
                replace q130 := eq_true q130
                have ea_ := Option.some.inj (hx128_2.symm.trans hx130_2)
                injection ea_ with ea_ en_ ec_
                subst ea_
                subst ec_
                clear en_
                have p131 : 0 ≤ (x5_1 : Int) := of_decide_eq_true (by first | (with_reducible assumption) )
                have q131 : x5_1 < (l0.length : Int) := of_decide_eq_true (by first | (with_reducible assumption) )
                obtain ⟨ad131, A131_2, c131_2, e131, hx131_0, hx131_1, hx131_2, hl131_2, hi131_2⟩ := at_T70 HR0.out x5_1 p131 q131
                have hw131_2 := hx131_2
                have hw131_1 := hx131_1
                have hw131_0 := hx131_0
                obtain rfl : ad127 = ad131 := (by injection e131)
                replace hx131_0 := (HB.out.cell (World.block_lt_of_cell? w _ hx131_0)).trans hx131_0
                replace hx131_1 := (HB.out.cell (World.block_lt_of_cell? w _ hx131_1)).trans hx131_1
                replace hx131_2 := (HB.out.cell (World.block_lt_of_cell? w _ hx131_2)).trans hx131_2
                have HR131_2 := Aside0.mk hi131_2
                have HC131_2 := Aside0.mk hl131_2
                clear hi131_2 hl131_2
                replace p131 := eq_true p131
                replace q131 := eq_true q131
                have ea_ := Option.some.inj (hx127_2.symm.trans hx131_2)
                injection ea_ with ea_ en_ ec_
                subst ea_
                subst ec_
                clear en_
                have p132 : 0 ≤ (x5_1 : Int) := of_decide_eq_true (by first | (with_reducible assumption) )
                have q132 : x5_1 < (l1.length : Int) := of_decide_eq_true (by first | (with_reducible assumption) )
                obtain ⟨ad132, A132_2, c132_2, e132, hx132_0, hx132_1, hx132_2, hl132_2, hi132_2⟩ := at_T70 HR1.out x5_1 p132 q132
                have hw132_2 := hx132_2
                have hw132_1 := hx132_1
                have hw132_0 := hx132_0
                obtain rfl : ad128 = ad132 := (by injection e132)
                replace hx132_0 := (HB.out.cell (World.block_lt_of_cell? w _ hx132_0)).trans hx132_0
                replace hx132_1 := (HB.out.cell (World.block_lt_of_cell? w _ hx132_1)).trans hx132_1
                replace hx132_2 := (HB.out.cell (World.block_lt_of_cell? w _ hx132_2)).trans hx132_2
                have HR132_2 := Aside0.mk hi132_2
                have HC132_2 := Aside0.mk hl132_2
                clear hi132_2 hl132_2
                replace p132 := eq_true p132
                replace q132 := eq_true q132
                have ea_ := Option.some.inj (hx128_2.symm.trans hx132_2)
                injection ea_ with ea_ en_ ec_
                subst ea_
                subst ec_
                clear en_
                refine start_ (n := 39) (S := fun w' => w'.cell? (ad127.add ((x5_1).toNat * 3)) = some (.int .u64 ((rd_T70 l0 x5_1).f0)) ∧ w'.cell? ⟨(ad127.add ((x5_1).toNat * 3)).block, (ad127.add ((x5_1).toNat * 3)).off + 1, none⟩ = some (.string ((rd_T70 l0 x5_1).f1)) ∧ w'.cell? ⟨(ad127.add ((x5_1).toNat * 3)).block, (ad127.add ((x5_1).toNat * 3)).off + 2, none⟩ = some (.slice A127_2 ((rd_T70 l0 x5_1).f2).length c127_2) ∧ w'.cell? (ad128.add ((x5_1).toNat * 3)) = some (.int .u64 ((rd_T70 l1 x5_1).f0)) ∧ w'.cell? ⟨(ad128.add ((x5_1).toNat * 3)).block, (ad128.add ((x5_1).toNat * 3)).off + 1, none⟩ = some (.string ((rd_T70 l1 x5_1).f1)) ∧ w'.cell? ⟨(ad128.add ((x5_1).toNat * 3)).block, (ad128.add ((x5_1).toNat * 3)).off + 2, none⟩ = some (.slice A128_2 ((rd_T70 l1 x5_1).f2).length c128_2) ∧ w'.cell? (ad127.add ((x5_1).toNat * 3)) = some (.int .u64 ((rd_T70 l0 x5_1).f0)) ∧ w'.cell? ⟨(ad127.add ((x5_1).toNat * 3)).block, (ad127.add ((x5_1).toNat * 3)).off + 1, none⟩ = some (.string ((rd_T70 l0 x5_1).f1)) ∧ w'.cell? ⟨(ad127.add ((x5_1).toNat * 3)).block, (ad127.add ((x5_1).toNat * 3)).off + 2, none⟩ = some (.slice A127_2 ((rd_T70 l0 x5_1).f2).length c127_2) ∧ w'.cell? (ad128.add ((x5_1).toNat * 3)) = some (.int .u64 ((rd_T70 l1 x5_1).f0)) ∧ w'.cell? ⟨(ad128.add ((x5_1).toNat * 3)).block, (ad128.add ((x5_1).toNat * 3)).off + 1, none⟩ = some (.string ((rd_T70 l1 x5_1).f1)) ∧ w'.cell? ⟨(ad128.add ((x5_1).toNat * 3)).block, (ad128.add ((x5_1).toNat * 3)).off + 2, none⟩ = some (.slice A128_2 ((rd_T70 l1 x5_1).f2).length c128_2) ∧ w'.cell? (ad127.add ((x5_1).toNat * 3)) = some (.int .u64 ((rd_T70 l0 x5_1).f0)) ∧ w'.cell? ⟨(ad127.add ((x5_1).toNat * 3)).block, (ad127.add ((x5_1).toNat * 3)).off + 1, none⟩ = some (.string ((rd_T70 l0 x5_1).f1)) ∧ w'.cell? ⟨(ad127.add ((x5_1).toNat * 3)).block, (ad127.add ((x5_1).toNat * 3)).off + 2, none⟩ = some (.slice A127_2 ((rd_T70 l0 x5_1).f2).length c127_2) ∧ w'.cell? (ad128.add ((x5_1).toNat * 3)) = some (.int .u64 ((rd_T70 l1 x5_1).f0)) ∧ w'.cell? ⟨(ad128.add ((x5_1).toNat * 3)).block, (ad128.add ((x5_1).toNat * 3)).off + 1, none⟩ = some (.string ((rd_T70 l1 x5_1).f1)) ∧ w'.cell? ⟨(ad128.add ((x5_1).toNat * 3)).block, (ad128.add ((x5_1).toNat * 3)).off + 2, none⟩ = some (.slice A128_2 ((rd_T70 l1 x5_1).f2).length c128_2)) (ds := []) #[false, false, false, false, false, false, false, false, false, false, false, false, false, false, false, false, false, false, false, false, false, false, false, false, false, false, false, false, false, false, false, false, false, false, false, false, false, false, false] (by kernel_rfl) rfl rfl ⟨((HB.out.cell (World.block_lt_of_cell? w _ hw127_0)).trans hw127_0), ((HB.out.cell (World.block_lt_of_cell? w _ hw127_1)).trans hw127_1), ((HB.out.cell (World.block_lt_of_cell? w _ hw127_2)).trans hw127_2), ((HB.out.cell (World.block_lt_of_cell? w _ hw128_0)).trans hw128_0), ((HB.out.cell (World.block_lt_of_cell? w _ hw128_1)).trans hw128_1), ((HB.out.cell (World.block_lt_of_cell? w _ hw128_2)).trans hw128_2), ((HB.out.cell (World.block_lt_of_cell? w _ hw129_0)).trans hw129_0), ((HB.out.cell (World.block_lt_of_cell? w _ hw129_1)).trans hw129_1), ((HB.out.cell (World.block_lt_of_cell? w _ hw129_2)).trans hw129_2), ((HB.out.cell (World.block_lt_of_cell? w _ hw130_0)).trans hw130_0), ((HB.out.cell (World.block_lt_of_cell? w _ hw130_1)).trans hw130_1), ((HB.out.cell (World.block_lt_of_cell? w _ hw130_2)).trans hw130_2), ((HB.out.cell (World.block_lt_of_cell? w _ hw131_0)).trans hw131_0), ((HB.out.cell (World.block_lt_of_cell? w _ hw131_1)).trans hw131_1), ((HB.out.cell (World.block_lt_of_cell? w _ hw131_2)).trans hw131_2), ((HB.out.cell (World.block_lt_of_cell? w _ hw132_0)).trans hw132_0), ((HB.out.cell (World.block_lt_of_cell? w _ hw132_1)).trans hw132_1), ((HB.out.cell (World.block_lt_of_cell? w _ hw132_2)).trans hw132_2)⟩ (fun hHeld => ?_); refine with_tabW ecdysisref19_SameVals.tab6 ecdysisref19_SameVals.bits6 (fun HT_ HW_ => ?_)
                generalize wr.drew = w10 at HB HR127_2 HR128_2 HR129_2 HR130_2 HR131_2 HR132_2 hx127_0 hx127_1 hx127_2 hx128_0 hx128_1 hx128_2 hx129_0 hx129_1 hx129_2 hx130_0 hx130_1 hx130_2 hx131_0 hx131_1 hx131_2 hx132_0 hx132_1 hx132_2 hHeld ⊢
                refine zp 0 (zb 39 1) ?_ rfl rfl HT_ (by kernel_rfl) (fun _ _ _ h => h) rfl ?_ ?_ ?_ ?_; rotate_left; (intro w'; go_simp; with_reducible rfl); rotate_left; (simp only [zs]; rfl)
                refine zp 1 (zb 39 3) ?_ rfl rfl HT_ (by kernel_rfl) (fun _ _ _ h => h) rfl ?_ ?_ ?_ ?_; rotate_left; (intro w'; go_simp; with_reducible rfl); rotate_left; (simp only [zs]; rfl)
                refine zp 2 (zb 39 7) ?_ rfl rfl HT_ (by kernel_rfl) (fun _ _ _ h => h) rfl ?_ ?_ ?_ ?_; rotate_left; (intro w'; go_simp; with_reducible rfl); rotate_left; (simp only [zs]; rfl)
                refine zp 3 (zb 39 15) ?_ rfl rfl HT_ (by kernel_rfl) (fun _ _ _ h => h) rfl ?_ ?_ ?_ ?_; rotate_left; (intro w'; go_simp; with_reducible rfl); rotate_left; (simp only [zs]; rfl)
                refine zp 5 (zb 39 47) ?_ rfl rfl HT_ (by kernel_rfl) (fun _ _ _ h => h) rfl ?_ ?_ ?_ ?_; rotate_left; (intro w'; go_simp; with_reducible rfl); rotate_left; (simp only [zs]; rfl)
                refine zp 6 (zb 39 111) ?_ rfl rfl HT_ (by kernel_rfl) (fun _ _ _ h => h) rfl ?_ ?_ ?_ ?_; rotate_left; (intro w'; go_simp; with_reducible rfl); rotate_left; (simp only [zs]; rfl)
                refine zp 7 (zb 39 239) ?_ rfl rfl HT_ (by kernel_rfl) (fun _ _ _ h => h) rfl ?_ ?_ ?_ ?_; rotate_left; (intro w'; go_simp; with_reducible rfl); rotate_left; (simp only [zs]; rfl)
                refine zp 8 (zb 39 495) ?_ rfl rfl HT_ (by kernel_rfl) (fun _ _ _ h => h) rfl ?_ ?_ ?_ ?_; rotate_left; (intro w'; go_simp; with_reducible rfl); rotate_left; (simp only [zs]; rfl)
                refine zt 4 (zb 39 511) ?_ rfl rfl HT_ HW_ (by kernel_rfl) (fun _ _ _ h => h) rfl ?_ hHeld ?_ ?_ ?_; rotate_left; (rintro w' ⟨s0, s1, s2, s3, s4, s5, s6, s7, s8, s9, s10, s11, s12, s13, s14, s15, s16, s17⟩; go_simp; with_reducible rfl); rotate_left; (simp only [zs]; rfl)
                refine zt 9 (zb 39 1023) ?_ rfl rfl HT_ HW_ (by kernel_rfl) (fun _ _ _ h => h) rfl ?_ hHeld ?_ ?_ ?_; rotate_left; (rintro w' ⟨s0, s1, s2, s3, s4, s5, s6, s7, s8, s9, s10, s11, s12, s13, s14, s15, s16, s17⟩; go_simp; with_reducible rfl); rotate_left; (simp only [zs]; rfl)
                refine zp 10 (zb 39 2047) ?_ rfl rfl HT_ (by kernel_rfl) (fun _ _ _ h => h) rfl ?_ ?_ ?_ ?_; rotate_left; (intro w'; go_simp; with_reducible rfl); rotate_left; (simp only [zs]; rfl)
                refine zp 11 (zb 39 4095) ?_ rfl rfl HT_ (by kernel_rfl) (fun _ _ _ h => h) rfl ?_ ?_ ?_ ?_; rotate_left; (intro w'; go_simp; with_reducible rfl); rotate_left; (simp only [zs]; rfl)
                refine zp 12 (zb 39 8191) ?_ rfl rfl HT_ (by kernel_rfl) (fun _ _ _ h => h) rfl ?_ ?_ ?_ ?_; rotate_left; (intro w'; go_simp; with_reducible rfl); rotate_left; (simp only [zs]; rfl)
                refine zp 13 (zb 39 16383) ?_ rfl rfl HT_ (by kernel_rfl) (fun _ _ _ h => h) rfl ?_ ?_ ?_ ?_; rotate_left; (intro w'; go_simp; with_reducible rfl); rotate_left; (simp only [zs]; rfl)
                refine zp 14 (zb 39 32767) ?_ rfl rfl HT_ (by kernel_rfl) (fun _ _ _ h => h) rfl ?_ ?_ ?_ ?_; rotate_left; (intro w'; go_simp; with_reducible rfl); rotate_left; (simp only [zs]; rfl)
                refine zp 15 (zb 39 65535) ?_ rfl rfl HT_ (by kernel_rfl) (fun _ _ _ h => h) rfl ?_ ?_ ?_ ?_; rotate_left; (intro w'; go_simp; with_reducible rfl); rotate_left; (simp only [zs]; rfl)
                refine zp 17 (zb 39 196607) ?_ rfl rfl HT_ (by kernel_rfl) (fun _ _ _ h => h) rfl ?_ ?_ ?_ ?_; rotate_left; (intro w'; go_simp; with_reducible rfl); rotate_left; (simp only [zs]; rfl)
                refine zp 18 (zb 39 458751) ?_ rfl rfl HT_ (by kernel_rfl) (fun _ _ _ h => h) rfl ?_ ?_ ?_ ?_; rotate_left; (intro w'; go_simp; with_reducible rfl); rotate_left; (simp only [zs]; rfl)
                refine zp 19 (zb 39 983039) ?_ rfl rfl HT_ (by kernel_rfl) (fun _ _ _ h => h) rfl ?_ ?_ ?_ ?_; rotate_left; (intro w'; go_simp; with_reducible rfl); rotate_left; (simp only [zs]; rfl)
                refine zp 20 (zb 39 2031615) ?_ rfl rfl HT_ (by kernel_rfl) (fun _ _ _ h => h) rfl ?_ ?_ ?_ ?_; rotate_left; (intro w'; go_simp; with_reducible rfl); rotate_left; (simp only [zs]; rfl)
                refine zt 16 (zb 39 2097151) ?_ rfl rfl HT_ HW_ (by kernel_rfl) (fun _ _ _ h => h) rfl ?_ hHeld ?_ ?_ ?_; rotate_left; (rintro w' ⟨s0, s1, s2, s3, s4, s5, s6, s7, s8, s9, s10, s11, s12, s13, s14, s15, s16, s17⟩; go_simp; with_reducible rfl); rotate_left; (simp only [zs]; rfl)
                refine zt 21 (zb 39 4194303) ?_ rfl rfl HT_ HW_ (by kernel_rfl) (fun _ _ _ h => h) rfl ?_ hHeld ?_ ?_ ?_; rotate_left; (rintro w' ⟨s0, s1, s2, s3, s4, s5, s6, s7, s8, s9, s10, s11, s12, s13, s14, s15, s16, s17⟩; go_simp; with_reducible rfl); rotate_left; (simp only [zs]; rfl)
                refine zp 22 (zb 39 8388607) ?_ rfl rfl HT_ (by kernel_rfl) (fun _ _ _ h => h) rfl ?_ ?_ ?_ ?_; rotate_left; (intro w'; go_simp; with_reducible rfl); rotate_left; (simp only [zs]; rfl)
                refine zp 23 (zb 39 16777215) ?_ rfl rfl HT_ (by kernel_rfl) (fun _ _ _ h => h) rfl ?_ ?_ ?_ ?_; rotate_left; (intro w'; go_simp; with_reducible rfl); rotate_left; (simp only [zs]; rfl)
                refine zp 24 (zb 39 33554431) ?_ rfl rfl HT_ (by kernel_rfl) (fun _ _ _ h => h) rfl ?_ ?_ ?_ ?_; rotate_left; (intro w'; go_simp; with_reducible rfl); rotate_left; (simp only [zs]; rfl)
                refine zp 25 (zb 39 67108863) ?_ rfl rfl HT_ (by kernel_rfl) (fun _ _ _ h => h) rfl ?_ ?_ ?_ ?_; rotate_left; (intro w'; go_simp; with_reducible rfl); rotate_left; (simp only [zs]; rfl)
                refine zp 26 (zb 39 134217727) ?_ rfl rfl HT_ (by kernel_rfl) (fun _ _ _ h => h) rfl ?_ ?_ ?_ ?_; rotate_left; (intro w'; go_simp; with_reducible rfl); rotate_left; (simp only [zs]; rfl)
                refine zp 27 (zb 39 268435455) ?_ rfl rfl HT_ (by kernel_rfl) (fun _ _ _ h => h) rfl ?_ ?_ ?_ ?_; rotate_left; (intro w'; go_simp; with_reducible rfl); rotate_left; (simp only [zs]; rfl)
                refine zp 28 (zb 39 536870911) ?_ rfl rfl HT_ (by kernel_rfl) (fun _ _ _ h => h) rfl ?_ ?_ ?_ ?_; rotate_left; (intro w'; go_simp; with_reducible rfl); rotate_left; (simp only [zs]; rfl)
                refine zp 31 (zb 39 2684354559) ?_ rfl rfl HT_ (by kernel_rfl) (fun _ _ _ h => h) rfl ?_ ?_ ?_ ?_; rotate_left; (intro w'; go_simp; with_reducible rfl); rotate_left; (simp only [zs]; rfl)
                refine zp 32 (zb 39 6979321855) ?_ rfl rfl HT_ (by kernel_rfl) (fun _ _ _ h => h) rfl ?_ ?_ ?_ ?_; rotate_left; (intro w'; go_simp; with_reducible rfl); rotate_left; (simp only [zs]; rfl)
                refine zp 33 (zb 39 15569256447) ?_ rfl rfl HT_ (by kernel_rfl) (fun _ _ _ h => h) rfl ?_ ?_ ?_ ?_; rotate_left; (intro w'; go_simp; with_reducible rfl); rotate_left; (simp only [zs]; rfl)
                refine zp 34 (zb 39 32749125631) ?_ rfl rfl HT_ (by kernel_rfl) (fun _ _ _ h => h) rfl ?_ ?_ ?_ ?_; rotate_left; (intro w'; go_simp; with_reducible rfl); rotate_left; (simp only [zs]; rfl)
                refine zt 29 (zb 39 33285996543) ?_ rfl rfl HT_ HW_ (by kernel_rfl) (fun _ _ _ h => h) rfl ?_ hHeld ?_ ?_ ?_; rotate_left; (rintro w' ⟨s0, s1, s2, s3, s4, s5, s6, s7, s8, s9, s10, s11, s12, s13, s14, s15, s16, s17⟩; go_simp; with_reducible rfl); rotate_left; (simp only [zs]; rfl)
                refine zp 30 (zb 39 34359738367) ?_ rfl rfl HT_ (by kernel_rfl) (fun _ _ _ h => h) rfl ?_ ?_ ?_ ?_; rotate_left; (intro w'; go_simp; with_reducible rfl); rotate_left; (simp only [zs]; rfl)
                refine zt 35 (zb 39 68719476735) ?_ rfl rfl HT_ HW_ (by kernel_rfl) (fun _ _ _ h => h) rfl ?_ hHeld ?_ ?_ ?_; rotate_left; (rintro w' ⟨s0, s1, s2, s3, s4, s5, s6, s7, s8, s9, s10, s11, s12, s13, s14, s15, s16, s17⟩; go_simp; with_reducible rfl); rotate_left; (simp only [zs]; rfl)
                refine zp 36 (zb 39 137438953471) ?_ rfl rfl HT_ (by kernel_rfl) (fun _ _ _ h => h) rfl ?_ ?_ ?_ ?_; rotate_left; (intro w'; go_simp; with_reducible rfl); rotate_left; (simp only [zs]; rfl)
                refine zp 37 (zb 39 274877906943) ?_ rfl rfl HT_ (by kernel_rfl) (fun _ _ _ h => h) rfl ?_ ?_ ?_ ?_; rotate_left; (intro w'; go_simp; with_reducible rfl); rotate_left; (simp only [zs]; rfl)
                refine zp 38 (zb 39 549755813887) ?_ rfl rfl HT_ (by kernel_rfl) (fun _ _ _ h => h) rfl ?_ ?_ ?_ ?_; rotate_left; (intro w'; go_simp; with_reducible rfl); rotate_left; (simp only [zs]; rfl)
                refine done_ (done_of HT_.out (by kernel_rfl)) ?_
                try go_wp2
                go_meet
                case rel => exact ⟨_, (((((rd_T70 l0 x5_1).f2).length : Int) != (((rd_T70 l1 x5_1).f2).length : Int))), (by first | rfl ), H', ⟨by have := HK1.out; first | omega | exact Nat.le_refl _⟩, ⟨by exact HB.out⟩⟩
              · rw [if_neg c9] at H
                have c9b0 : (((rd_T70 l0 x5_1).f1).toList == ((rd_T70 l1 x5_1).f1).toList) = false := beq_eq_false_iff_ne.mpr c9
                have c9b1 : (((rd_T70 l0 x5_1).f1).toList != ((rd_T70 l1 x5_1).f1).toList) = true := bne_iff_ne.mpr c9
                have H' := Aside0.mk H
                clear H
                try go_wp2
                have n0_ := Aside0.mk (below_drew1 HB.out)
                clear HB
                have HB := n0_
                clear n0_
                have p127 : 0 ≤ (x5_1 : Int) := of_decide_eq_true (by first | (with_reducible assumption) )
                have q127 : x5_1 < (l0.length : Int) := of_decide_eq_true (by first | (with_reducible assumption) )
                obtain ⟨ad127, A127_2, c127_2, e127, hx127_0, hx127_1, hx127_2, hl127_2, hi127_2⟩ := at_T70 HR0.out x5_1 p127 q127
                have hw127_2 := hx127_2
                have hw127_1 := hx127_1
                have hw127_0 := hx127_0
                cases e127
                replace hx127_0 := (HB.out.cell (World.block_lt_of_cell? w _ hx127_0)).trans hx127_0
                replace hx127_1 := (HB.out.cell (World.block_lt_of_cell? w _ hx127_1)).trans hx127_1
                replace hx127_2 := (HB.out.cell (World.block_lt_of_cell? w _ hx127_2)).trans hx127_2
                have HR127_2 := Aside0.mk hi127_2
                have HC127_2 := Aside0.mk hl127_2
                clear hi127_2 hl127_2
                replace p127 := eq_true p127
                replace q127 := eq_true q127
                have p128 : 0 ≤ (x5_1 : Int) := of_decide_eq_true (by first | (with_reducible assumption) )
                have q128 : x5_1 < (l1.length : Int) := of_decide_eq_true (by first | (with_reducible assumption) )
                obtain ⟨ad128, A128_2, c128_2, e128, hx128_0, hx128_1, hx128_2, hl128_2, hi128_2⟩ := at_T70 HR1.out x5_1 p128 q128
                have hw128_2 := hx128_2
                have hw128_1 := hx128_1
                have hw128_0 := hx128_0
                cases e128
                replace hx128_0 := (HB.out.cell (World.block_lt_of_cell? w _ hx128_0)).trans hx128_0
                replace hx128_1 := (HB.out.cell (World.block_lt_of_cell? w _ hx128_1)).trans hx128_1
                replace hx128_2 := (HB.out.cell (World.block_lt_of_cell? w _ hx128_2)).trans hx128_2
                have HR128_2 := Aside0.mk hi128_2
                have HC128_2 := Aside0.mk hl128_2
                clear hi128_2 hl128_2
                replace p128 := eq_true p128
                replace q128 := eq_true q128
                have p129 : 0 ≤ (x5_1 : Int) := of_decide_eq_true (by first | (with_reducible assumption) )
                have q129 : x5_1 < (l0.length : Int) := of_decide_eq_true (by first | (with_reducible assumption) )
                obtain ⟨ad129, A129_2, c129_2, e129, hx129_0, hx129_1, hx129_2, hl129_2, hi129_2⟩ := at_T70 HR0.out x5_1 p129 q129
                have hw129_2 := hx129_2
                have hw129_1 := hx129_1
                have hw129_0 := hx129_0
                obtain rfl : ad127 = ad129 := (by injection e129)
                replace hx129_0 := (HB.out.cell (World.block_lt_of_cell? w _ hx129_0)).trans hx129_0
                replace hx129_1 := (HB.out.cell (World.block_lt_of_cell? w _ hx129_1)).trans hx129_1
                replace hx129_2 := (HB.out.cell (World.block_lt_of_cell? w _ hx129_2)).trans hx129_2
                have HR129_2 := Aside0.mk hi129_2
                have HC129_2 := Aside0.mk hl129_2
                clear hi129_2 hl129_2
                replace p129 := eq_true p129
                replace q129 := eq_true q129
                have ea_ := Option.some.inj (hx127_2.symm.trans hx129_2)
                injection ea_ with ea_ en_ ec_
                subst ea_
                subst ec_
                clear en_
                have p130 : 0 ≤ (x5_1 : Int) := of_decide_eq_true (by first | (with_reducible assumption) )
                have q130 : x5_1 < (l1.length : Int) := of_decide_eq_true (by first | (with_reducible assumption) )
                obtain ⟨ad130, A130_2, c130_2, e130, hx130_0, hx130_1, hx130_2, hl130_2, hi130_2⟩ := at_T70 HR1.out x5_1 p130 q130
                have hw130_2 := hx130_2
                have hw130_1 := hx130_1
                have hw130_0 := hx130_0
                obtain rfl : ad128 = ad130 := (by injection e130)
                replace hx130_0 := (HB.out.cell (World.block_lt_of_cell? w _ hx130_0)).trans hx130_0
                replace hx130_1 := (HB.out.cell (World.block_lt_of_cell? w _ hx130_1)).trans hx130_1
                replace hx130_2 := (HB.out.cell (World.block_lt_of_cell? w _ hx130_2)).trans hx130_2
                have HR130_2 := Aside0.mk hi130_2
                have HC130_2 := Aside0.mk hl130_2
                clear hi130_2 hl130_2
                replace p130 := eq_true p130
                replace q130 := eq_true q130
                have ea_ := Option.some.inj (hx128_2.symm.trans hx130_2)
                injection ea_ with ea_ en_ ec_
                subst ea_
                subst ec_
                clear en_
                refine start_ (n := 39) (S := fun w' => w'.cell? (ad127.add ((x5_1).toNat * 3)) = some (.int .u64 ((rd_T70 l0 x5_1).f0)) ∧ w'.cell? ⟨(ad127.add ((x5_1).toNat * 3)).block, (ad127.add ((x5_1).toNat * 3)).off + 1, none⟩ = some (.string ((rd_T70 l0 x5_1).f1)) ∧ w'.cell? ⟨(ad127.add ((x5_1).toNat * 3)).block, (ad127.add ((x5_1).toNat * 3)).off + 2, none⟩ = some (.slice A127_2 ((rd_T70 l0 x5_1).f2).length c127_2) ∧ w'.cell? (ad128.add ((x5_1).toNat * 3)) = some (.int .u64 ((rd_T70 l1 x5_1).f0)) ∧ w'.cell? ⟨(ad128.add ((x5_1).toNat * 3)).block, (ad128.add ((x5_1).toNat * 3)).off + 1, none⟩ = some (.string ((rd_T70 l1 x5_1).f1)) ∧ w'.cell? ⟨(ad128.add ((x5_1).toNat * 3)).block, (ad128.add ((x5_1).toNat * 3)).off + 2, none⟩ = some (.slice A128_2 ((rd_T70 l1 x5_1).f2).length c128_2) ∧ w'.cell? (ad127.add ((x5_1).toNat * 3)) = some (.int .u64 ((rd_T70 l0 x5_1).f0)) ∧ w'.cell? ⟨(ad127.add ((x5_1).toNat * 3)).block, (ad127.add ((x5_1).toNat * 3)).off + 1, none⟩ = some (.string ((rd_T70 l0 x5_1).f1)) ∧ w'.cell? ⟨(ad127.add ((x5_1).toNat * 3)).block, (ad127.add ((x5_1).toNat * 3)).off + 2, none⟩ = some (.slice A127_2 ((rd_T70 l0 x5_1).f2).length c127_2) ∧ w'.cell? (ad128.add ((x5_1).toNat * 3)) = some (.int .u64 ((rd_T70 l1 x5_1).f0)) ∧ w'.cell? ⟨(ad128.add ((x5_1).toNat * 3)).block, (ad128.add ((x5_1).toNat * 3)).off + 1, none⟩ = some (.string ((rd_T70 l1 x5_1).f1)) ∧ w'.cell? ⟨(ad128.add ((x5_1).toNat * 3)).block, (ad128.add ((x5_1).toNat * 3)).off + 2, none⟩ = some (.slice A128_2 ((rd_T70 l1 x5_1).f2).length c128_2)) (ds := []) #[false, false, false, false, false, false, false, false, false, false, false, false, false, false, false, false, false, false, false, false, false, false, false, false, false, false, false, false, false, false, false, false, false, false, false, false, false, false, false] (by kernel_rfl) rfl rfl ⟨((HB.out.cell (World.block_lt_of_cell? w _ hw127_0)).trans hw127_0), ((HB.out.cell (World.block_lt_of_cell? w _ hw127_1)).trans hw127_1), ((HB.out.cell (World.block_lt_of_cell? w _ hw127_2)).trans hw127_2), ((HB.out.cell (World.block_lt_of_cell? w _ hw128_0)).trans hw128_0), ((HB.out.cell (World.block_lt_of_cell? w _ hw128_1)).trans hw128_1), ((HB.out.cell (World.block_lt_of_cell? w _ hw128_2)).trans hw128_2), ((HB.out.cell (World.block_lt_of_cell? w _ hw129_0)).trans hw129_0), ((HB.out.cell (World.block_lt_of_cell? w _ hw129_1)).trans hw129_1), ((HB.out.cell (World.block_lt_of_cell? w _ hw129_2)).trans hw129_2), ((HB.out.cell (World.block_lt_of_cell? w _ hw130_0)).trans hw130_0), ((HB.out.cell (World.block_lt_of_cell? w _ hw130_1)).trans hw130_1), ((HB.out.cell (World.block_lt_of_cell? w _ hw130_2)).trans hw130_2)⟩ (fun hHeld => ?_); refine with_tabW ecdysisref19_SameVals.tab6 ecdysisref19_SameVals.bits6 (fun HT_ HW_ => ?_)
                generalize wr.drew = w11 at HB HR127_2 HR128_2 HR129_2 HR130_2 hx127_0 hx127_1 hx127_2 hx128_0 hx128_1 hx128_2 hx129_0 hx129_1 hx129_2 hx130_0 hx130_1 hx130_2 hHeld ⊢
                refine zp 0 (zb 39 1) ?_ rfl rfl HT_ (by kernel_rfl) (fun _ _ _ h => h) rfl ?_ ?_ ?_ ?_; rotate_left; (intro w'; go_simp; with_reducible rfl); rotate_left; (simp only [zs]; rfl)
                refine zp 1 (zb 39 3) ?_ rfl rfl HT_ (by kernel_rfl) (fun _ _ _ h => h) rfl ?_ ?_ ?_ ?_; rotate_left; (intro w'; go_simp; with_reducible rfl); rotate_left; (simp only [zs]; rfl)
                refine zp 2 (zb 39 7) ?_ rfl rfl HT_ (by kernel_rfl) (fun _ _ _ h => h) rfl ?_ ?_ ?_ ?_; rotate_left; (intro w'; go_simp; with_reducible rfl); rotate_left; (simp only [zs]; rfl)
                refine zp 3 (zb 39 15) ?_ rfl rfl HT_ (by kernel_rfl) (fun _ _ _ h => h) rfl ?_ ?_ ?_ ?_; rotate_left; (intro w'; go_simp; with_reducible rfl); rotate_left; (simp only [zs]; rfl)
                refine zp 5 (zb 39 47) ?_ rfl rfl HT_ (by kernel_rfl) (fun _ _ _ h => h) rfl ?_ ?_ ?_ ?_; rotate_left; (intro w'; go_simp; with_reducible rfl); rotate_left; (simp only [zs]; rfl)
                refine zp 6 (zb 39 111) ?_ rfl rfl HT_ (by kernel_rfl) (fun _ _ _ h => h) rfl ?_ ?_ ?_ ?_; rotate_left; (intro w'; go_simp; with_reducible rfl); rotate_left; (simp only [zs]; rfl)
                refine zp 7 (zb 39 239) ?_ rfl rfl HT_ (by kernel_rfl) (fun _ _ _ h => h) rfl ?_ ?_ ?_ ?_; rotate_left; (intro w'; go_simp; with_reducible rfl); rotate_left; (simp only [zs]; rfl)
                refine zp 8 (zb 39 495) ?_ rfl rfl HT_ (by kernel_rfl) (fun _ _ _ h => h) rfl ?_ ?_ ?_ ?_; rotate_left; (intro w'; go_simp; with_reducible rfl); rotate_left; (simp only [zs]; rfl)
                refine zt 4 (zb 39 511) ?_ rfl rfl HT_ HW_ (by kernel_rfl) (fun _ _ _ h => h) rfl ?_ hHeld ?_ ?_ ?_; rotate_left; (rintro w' ⟨s0, s1, s2, s3, s4, s5, s6, s7, s8, s9, s10, s11⟩; go_simp; with_reducible rfl); rotate_left; (simp only [zs]; rfl)
                refine zt 9 (zb 39 1023) ?_ rfl rfl HT_ HW_ (by kernel_rfl) (fun _ _ _ h => h) rfl ?_ hHeld ?_ ?_ ?_; rotate_left; (rintro w' ⟨s0, s1, s2, s3, s4, s5, s6, s7, s8, s9, s10, s11⟩; go_simp; with_reducible rfl); rotate_left; (simp only [zs]; rfl)
                refine zp 10 (zb 39 2047) ?_ rfl rfl HT_ (by kernel_rfl) (fun _ _ _ h => h) rfl ?_ ?_ ?_ ?_; rotate_left; (intro w'; go_simp; with_reducible rfl); rotate_left; (simp only [zs]; rfl)
                refine zp 11 (zb 39 4095) ?_ rfl rfl HT_ (by kernel_rfl) (fun _ _ _ h => h) rfl ?_ ?_ ?_ ?_; rotate_left; (intro w'; go_simp; with_reducible rfl); rotate_left; (simp only [zs]; rfl)
                refine zp 12 (zb 39 8191) ?_ rfl rfl HT_ (by kernel_rfl) (fun _ _ _ h => h) rfl ?_ ?_ ?_ ?_; rotate_left; (intro w'; go_simp; with_reducible rfl); rotate_left; (simp only [zs]; rfl)
                refine zp 13 (zb 39 16383) ?_ rfl rfl HT_ (by kernel_rfl) (fun _ _ _ h => h) rfl ?_ ?_ ?_ ?_; rotate_left; (intro w'; go_simp; with_reducible rfl); rotate_left; (simp only [zs]; rfl)
                refine zp 14 (zb 39 32767) ?_ rfl rfl HT_ (by kernel_rfl) (fun _ _ _ h => h) rfl ?_ ?_ ?_ ?_; rotate_left; (intro w'; go_simp; with_reducible rfl); rotate_left; (simp only [zs]; rfl)
                refine zp 15 (zb 39 65535) ?_ rfl rfl HT_ (by kernel_rfl) (fun _ _ _ h => h) rfl ?_ ?_ ?_ ?_; rotate_left; (intro w'; go_simp; with_reducible rfl); rotate_left; (simp only [zs]; rfl)
                refine zp 17 (zb 39 196607) ?_ rfl rfl HT_ (by kernel_rfl) (fun _ _ _ h => h) rfl ?_ ?_ ?_ ?_; rotate_left; (intro w'; go_simp; with_reducible rfl); rotate_left; (simp only [zs]; rfl)
                refine zp 18 (zb 39 458751) ?_ rfl rfl HT_ (by kernel_rfl) (fun _ _ _ h => h) rfl ?_ ?_ ?_ ?_; rotate_left; (intro w'; go_simp; with_reducible rfl); rotate_left; (simp only [zs]; rfl)
                refine zp 19 (zb 39 983039) ?_ rfl rfl HT_ (by kernel_rfl) (fun _ _ _ h => h) rfl ?_ ?_ ?_ ?_; rotate_left; (intro w'; go_simp; with_reducible rfl); rotate_left; (simp only [zs]; rfl)
                refine zp 20 (zb 39 2031615) ?_ rfl rfl HT_ (by kernel_rfl) (fun _ _ _ h => h) rfl ?_ ?_ ?_ ?_; rotate_left; (intro w'; go_simp; with_reducible rfl); rotate_left; (simp only [zs]; rfl)
                refine zt 16 (zb 39 2097151) ?_ rfl rfl HT_ HW_ (by kernel_rfl) (fun _ _ _ h => h) rfl ?_ hHeld ?_ ?_ ?_; rotate_left; (rintro w' ⟨s0, s1, s2, s3, s4, s5, s6, s7, s8, s9, s10, s11⟩; go_simp; with_reducible rfl); rotate_left; (simp only [zs]; rfl)
                refine zt 21 (zb 39 4194303) ?_ rfl rfl HT_ HW_ (by kernel_rfl) (fun _ _ _ h => h) rfl ?_ hHeld ?_ ?_ ?_; rotate_left; (rintro w' ⟨s0, s1, s2, s3, s4, s5, s6, s7, s8, s9, s10, s11⟩; go_simp; with_reducible rfl); rotate_left; (simp only [zs]; rfl)
                refine zp 22 (zb 39 8388607) ?_ rfl rfl HT_ (by kernel_rfl) (fun _ _ _ h => h) rfl ?_ ?_ ?_ ?_; rotate_left; (intro w'; go_simp; with_reducible rfl); rotate_left; (simp only [zs]; rfl)
                refine zp 23 (zb 39 16777215) ?_ rfl rfl HT_ (by kernel_rfl) (fun _ _ _ h => h) rfl ?_ ?_ ?_ ?_; rotate_left; (intro w'; go_simp; with_reducible rfl); rotate_left; (simp only [zs]; rfl)
                refine zp 24 (zb 39 33554431) ?_ rfl rfl HT_ (by kernel_rfl) (fun _ _ _ h => h) rfl ?_ ?_ ?_ ?_; rotate_left; (intro w'; go_simp; with_reducible rfl); rotate_left; (simp only [zs]; rfl)
                refine zn 25 (zb 39 67108863) rfl rfl HT_ (by kernel_rfl) (fun _ _ _ h => h) rfl ?_ ?_ ?_; rotate_left; (simp only [zs]; rfl)
                refine zn 26 (zb 39 134217727) rfl rfl HT_ (by kernel_rfl) (fun _ _ _ h => h) rfl ?_ ?_ ?_; rotate_left; (simp only [zs]; rfl)
                refine zn 27 (zb 39 268435455) rfl rfl HT_ (by kernel_rfl) (fun _ _ _ h => h) rfl ?_ ?_ ?_; rotate_left; (simp only [zs]; rfl)
                refine zn 28 (zb 39 536870911) rfl rfl HT_ (by kernel_rfl) (fun _ _ _ h => h) rfl ?_ ?_ ?_; rotate_left; (simp only [zs]; rfl)
                refine zn 29 (zb 39 1073741823) rfl rfl HT_ (by kernel_rfl) (fun _ _ _ h => h) rfl ?_ ?_ ?_; rotate_left; (simp only [zs]; rfl)
                refine zn 30 (zb 39 2147483647) rfl rfl HT_ (by kernel_rfl) (fun _ _ _ h => h) rfl ?_ ?_ ?_; rotate_left; (simp only [zs]; rfl)
                refine zn 31 (zb 39 4294967295) rfl rfl HT_ (by kernel_rfl) (fun _ _ _ h => h) rfl ?_ ?_ ?_; rotate_left; (simp only [zs]; rfl)
                refine zn 32 (zb 39 8589934591) rfl rfl HT_ (by kernel_rfl) (fun _ _ _ h => h) rfl ?_ ?_ ?_; rotate_left; (simp only [zs]; rfl)
                refine zn 33 (zb 39 17179869183) rfl rfl HT_ (by kernel_rfl) (fun _ _ _ h => h) rfl ?_ ?_ ?_; rotate_left; (simp only [zs]; rfl)
                refine zn 34 (zb 39 34359738367) rfl rfl HT_ (by kernel_rfl) (fun _ _ _ h => h) rfl ?_ ?_ ?_; rotate_left; (simp only [zs]; rfl)
                refine zn 35 (zb 39 68719476735) rfl rfl HT_ (by kernel_rfl) (fun _ _ _ h => h) rfl ?_ ?_ ?_; rotate_left; (simp only [zs]; rfl)
                refine zn 36 (zb 39 137438953471) rfl rfl HT_ (by kernel_rfl) (fun _ _ _ h => h) rfl ?_ ?_ ?_; rotate_left; (simp only [zs]; rfl)
                refine zn 37 (zb 39 274877906943) rfl rfl HT_ (by kernel_rfl) (fun _ _ _ h => h) rfl ?_ ?_ ?_; rotate_left; (simp only [zs]; rfl)
                refine zp 38 (zb 39 549755813887) ?_ rfl rfl HT_ (by kernel_rfl) (fun _ _ _ h => h) rfl ?_ ?_ ?_ ?_; rotate_left; (intro w'; go_simp; with_reducible rfl); rotate_left; (simp only [zs]; rfl)
                refine done_ (done_of HT_.out (by kernel_rfl)) ?_
                try go_wp2
                go_meet
                case rel => exact ⟨_, (true), (by first | rfl ), H', ⟨by have := HK1.out; first | omega | exact Nat.le_refl _⟩, ⟨by exact HB.out⟩⟩
            · rw [if_neg c8] at H
              have c8b0 : (((rd_T70 l0 x5_1).f0) == ((rd_T70 l1 x5_1).f0)) = false := beq_eq_false_iff_ne.mpr c8
              have c8b1 : (((rd_T70 l0 x5_1).f0) != ((rd_T70 l1 x5_1).f0)) = true := bne_iff_ne.mpr c8
              have H' := Aside0.mk H
              clear H
              try go_wp2
              have n0_ := Aside0.mk (below_drew1 HB.out)
              clear HB
              have HB := n0_
              clear n0_
              have p127 : 0 ≤ (x5_1 : Int) := of_decide_eq_true (by first | (with_reducible assumption) )
              have q127 : x5_1 < (l0.length : Int) := of_decide_eq_true (by first | (with_reducible assumption) )
              obtain ⟨ad127, A127_2, c127_2, e127, hx127_0, hx127_1, hx127_2, hl127_2, hi127_2⟩ := at_T70 HR0.out x5_1 p127 q127
              have hw127_2 := hx127_2
              have hw127_1 := hx127_1
              have hw127_0 := hx127_0
              cases e127
              replace hx127_0 := (HB.out.cell (World.block_lt_of_cell? w _ hx127_0)).trans hx127_0
              replace hx127_1 := (HB.out.cell (World.block_lt_of_cell? w _ hx127_1)).trans hx127_1
              replace hx127_2 := (HB.out.cell (World.block_lt_of_cell? w _ hx127_2)).trans hx127_2
              have HR127_2 := Aside0.mk hi127_2
              have HC127_2 := Aside0.mk hl127_2
              clear hi127_2 hl127_2
              replace p127 := eq_true p127
              replace q127 := eq_true q127
              have p128 : 0 ≤ (x5_1 : Int) := of_decide_eq_true (by first | (with_reducible assumption) )
              have q128 : x5_1 < (l1.length : Int) := of_decide_eq_true (by first | (with_reducible assumption) )
              obtain ⟨ad128, A128_2, c128_2, e128, hx128_0, hx128_1, hx128_2, hl128_2, hi128_2⟩ := at_T70 HR1.out x5_1 p128 q128
              have hw128_2 := hx128_2
              have hw128_1 := hx128_1
              have hw128_0 := hx128_0
              cases e128
              replace hx128_0 := (HB.out.cell (World.block_lt_of_cell? w _ hx128_0)).trans hx128_0
              replace hx128_1 := (HB.out.cell (World.block_lt_of_cell? w _ hx128_1)).trans hx128_1
              replace hx128_2 := (HB.out.cell (World.block_lt_of_cell? w _ hx128_2)).trans hx128_2
              have HR128_2 := Aside0.mk hi128_2
              have HC128_2 := Aside0.mk hl128_2
              clear hi128_2 hl128_2
              replace p128 := eq_true p128
              replace q128 := eq_true q128
              refine start_ (n := 39) (S := fun w' => w'.cell? (ad127.add ((x5_1).toNat * 3)) = some (.int .u64 ((rd_T70 l0 x5_1).f0)) ∧ w'.cell? ⟨(ad127.add ((x5_1).toNat * 3)).block, (ad127.add ((x5_1).toNat * 3)).off + 1, none⟩ = some (.string ((rd_T70 l0 x5_1).f1)) ∧ w'.cell? ⟨(ad127.add ((x5_1).toNat * 3)).block, (ad127.add ((x5_1).toNat * 3)).off + 2, none⟩ = some (.slice A127_2 ((rd_T70 l0 x5_1).f2).length c127_2) ∧ w'.cell? (ad128.add ((x5_1).toNat * 3)) = some (.int .u64 ((rd_T70 l1 x5_1).f0)) ∧ w'.cell? ⟨(ad128.add ((x5_1).toNat * 3)).block, (ad128.add ((x5_1).toNat * 3)).off + 1, none⟩ = some (.string ((rd_T70 l1 x5_1).f1)) ∧ w'.cell? ⟨(ad128.add ((x5_1).toNat * 3)).block, (ad128.add ((x5_1).toNat * 3)).off + 2, none⟩ = some (.slice A128_2 ((rd_T70 l1 x5_1).f2).length c128_2)) (ds := []) #[false, false, false, false, false, false, false, false, false, false, false, false, false, false, false, false, false, false, false, false, false, false, false, false, false, false, false, false, false, false, false, false, false, false, false, false, false, false, false] (by kernel_rfl) rfl rfl ⟨((HB.out.cell (World.block_lt_of_cell? w _ hw127_0)).trans hw127_0), ((HB.out.cell (World.block_lt_of_cell? w _ hw127_1)).trans hw127_1), ((HB.out.cell (World.block_lt_of_cell? w _ hw127_2)).trans hw127_2), ((HB.out.cell (World.block_lt_of_cell? w _ hw128_0)).trans hw128_0), ((HB.out.cell (World.block_lt_of_cell? w _ hw128_1)).trans hw128_1), ((HB.out.cell (World.block_lt_of_cell? w _ hw128_2)).trans hw128_2)⟩ (fun hHeld => ?_); refine with_tabW ecdysisref19_SameVals.tab6 ecdysisref19_SameVals.bits6 (fun HT_ HW_ => ?_)
              generalize wr.drew = w12 at HB HR127_2 HR128_2 hx127_0 hx127_1 hx127_2 hx128_0 hx128_1 hx128_2 hHeld ⊢
              refine zp 0 (zb 39 1) ?_ rfl rfl HT_ (by kernel_rfl) (fun _ _ _ h => h) rfl ?_ ?_ ?_ ?_; rotate_left; (intro w'; go_simp; with_reducible rfl); rotate_left; (simp only [zs]; rfl)
              refine zp 1 (zb 39 3) ?_ rfl rfl HT_ (by kernel_rfl) (fun _ _ _ h => h) rfl ?_ ?_ ?_ ?_; rotate_left; (intro w'; go_simp; with_reducible rfl); rotate_left; (simp only [zs]; rfl)
              refine zp 2 (zb 39 7) ?_ rfl rfl HT_ (by kernel_rfl) (fun _ _ _ h => h) rfl ?_ ?_ ?_ ?_; rotate_left; (intro w'; go_simp; with_reducible rfl); rotate_left; (simp only [zs]; rfl)
              refine zp 3 (zb 39 15) ?_ rfl rfl HT_ (by kernel_rfl) (fun _ _ _ h => h) rfl ?_ ?_ ?_ ?_; rotate_left; (intro w'; go_simp; with_reducible rfl); rotate_left; (simp only [zs]; rfl)
              refine zp 5 (zb 39 47) ?_ rfl rfl HT_ (by kernel_rfl) (fun _ _ _ h => h) rfl ?_ ?_ ?_ ?_; rotate_left; (intro w'; go_simp; with_reducible rfl); rotate_left; (simp only [zs]; rfl)
              refine zp 6 (zb 39 111) ?_ rfl rfl HT_ (by kernel_rfl) (fun _ _ _ h => h) rfl ?_ ?_ ?_ ?_; rotate_left; (intro w'; go_simp; with_reducible rfl); rotate_left; (simp only [zs]; rfl)
              refine zp 7 (zb 39 239) ?_ rfl rfl HT_ (by kernel_rfl) (fun _ _ _ h => h) rfl ?_ ?_ ?_ ?_; rotate_left; (intro w'; go_simp; with_reducible rfl); rotate_left; (simp only [zs]; rfl)
              refine zp 8 (zb 39 495) ?_ rfl rfl HT_ (by kernel_rfl) (fun _ _ _ h => h) rfl ?_ ?_ ?_ ?_; rotate_left; (intro w'; go_simp; with_reducible rfl); rotate_left; (simp only [zs]; rfl)
              refine zt 4 (zb 39 511) ?_ rfl rfl HT_ HW_ (by kernel_rfl) (fun _ _ _ h => h) rfl ?_ hHeld ?_ ?_ ?_; rotate_left; (rintro w' ⟨s0, s1, s2, s3, s4, s5⟩; go_simp; with_reducible rfl); rotate_left; (simp only [zs]; rfl)
              refine zt 9 (zb 39 1023) ?_ rfl rfl HT_ HW_ (by kernel_rfl) (fun _ _ _ h => h) rfl ?_ hHeld ?_ ?_ ?_; rotate_left; (rintro w' ⟨s0, s1, s2, s3, s4, s5⟩; go_simp; with_reducible rfl); rotate_left; (simp only [zs]; rfl)
              refine zp 10 (zb 39 2047) ?_ rfl rfl HT_ (by kernel_rfl) (fun _ _ _ h => h) rfl ?_ ?_ ?_ ?_; rotate_left; (intro w'; go_simp; with_reducible rfl); rotate_left; (simp only [zs]; rfl)
              refine zp 11 (zb 39 4095) ?_ rfl rfl HT_ (by kernel_rfl) (fun _ _ _ h => h) rfl ?_ ?_ ?_ ?_; rotate_left; (intro w'; go_simp; with_reducible rfl); rotate_left; (simp only [zs]; rfl)
              refine zn 12 (zb 39 8191) rfl rfl HT_ (by kernel_rfl) (fun _ _ _ h => h) rfl ?_ ?_ ?_; rotate_left; (simp only [zs]; rfl)
              refine zn 13 (zb 39 16383) rfl rfl HT_ (by kernel_rfl) (fun _ _ _ h => h) rfl ?_ ?_ ?_; rotate_left; (simp only [zs]; rfl)
              refine zn 14 (zb 39 32767) rfl rfl HT_ (by kernel_rfl) (fun _ _ _ h => h) rfl ?_ ?_ ?_; rotate_left; (simp only [zs]; rfl)
              refine zn 15 (zb 39 65535) rfl rfl HT_ (by kernel_rfl) (fun _ _ _ h => h) rfl ?_ ?_ ?_; rotate_left; (simp only [zs]; rfl)
              refine zn 16 (zb 39 131071) rfl rfl HT_ (by kernel_rfl) (fun _ _ _ h => h) rfl ?_ ?_ ?_; rotate_left; (simp only [zs]; rfl)
              refine zn 17 (zb 39 262143) rfl rfl HT_ (by kernel_rfl) (fun _ _ _ h => h) rfl ?_ ?_ ?_; rotate_left; (simp only [zs]; rfl)
              refine zn 18 (zb 39 524287) rfl rfl HT_ (by kernel_rfl) (fun _ _ _ h => h) rfl ?_ ?_ ?_; rotate_left; (simp only [zs]; rfl)
              refine zn 19 (zb 39 1048575) rfl rfl HT_ (by kernel_rfl) (fun _ _ _ h => h) rfl ?_ ?_ ?_; rotate_left; (simp only [zs]; rfl)
              refine zn 20 (zb 39 2097151) rfl rfl HT_ (by kernel_rfl) (fun _ _ _ h => h) rfl ?_ ?_ ?_; rotate_left; (simp only [zs]; rfl)
              refine zn 21 (zb 39 4194303) rfl rfl HT_ (by kernel_rfl) (fun _ _ _ h => h) rfl ?_ ?_ ?_; rotate_left; (simp only [zs]; rfl)
              refine zn 22 (zb 39 8388607) rfl rfl HT_ (by kernel_rfl) (fun _ _ _ h => h) rfl ?_ ?_ ?_; rotate_left; (simp only [zs]; rfl)
              refine zp 23 (zb 39 16777215) ?_ rfl rfl HT_ (by kernel_rfl) (fun _ _ _ h => h) rfl ?_ ?_ ?_ ?_; rotate_left; (intro w'; go_simp; with_reducible rfl); rotate_left; (simp only [zs]; rfl)
              refine zp 24 (zb 39 33554431) ?_ rfl rfl HT_ (by kernel_rfl) (fun _ _ _ h => h) rfl ?_ ?_ ?_ ?_; rotate_left; (intro w'; go_simp; with_reducible rfl); rotate_left; (simp only [zs]; rfl)
              refine zn 25 (zb 39 67108863) rfl rfl HT_ (by kernel_rfl) (fun _ _ _ h => h) rfl ?_ ?_ ?_; rotate_left; (simp only [zs]; rfl)
              refine zn 26 (zb 39 134217727) rfl rfl HT_ (by kernel_rfl) (fun _ _ _ h => h) rfl ?_ ?_ ?_; rotate_left; (simp only [zs]; rfl)
              refine zn 27 (zb 39 268435455) rfl rfl HT_ (by kernel_rfl) (fun _ _ _ h => h) rfl ?_ ?_ ?_; rotate_left; (simp only [zs]; rfl)
              refine zn 28 (zb 39 536870911) rfl rfl HT_ (by kernel_rfl) (fun _ _ _ h => h) rfl ?_ ?_ ?_; rotate_left; (simp only [zs]; rfl)
              refine zn 29 (zb 39 1073741823) rfl rfl HT_ (by kernel_rfl) (fun _ _ _ h => h) rfl ?_ ?_ ?_; rotate_left; (simp only [zs]; rfl)
              refine zn 30 (zb 39 2147483647) rfl rfl HT_ (by kernel_rfl) (fun _ _ _ h => h) rfl ?_ ?_ ?_; rotate_left; (simp only [zs]; rfl)
              refine zn 31 (zb 39 4294967295) rfl rfl HT_ (by kernel_rfl) (fun _ _ _ h => h) rfl ?_ ?_ ?_; rotate_left; (simp only [zs]; rfl)
              refine zn 32 (zb 39 8589934591) rfl rfl HT_ (by kernel_rfl) (fun _ _ _ h => h) rfl ?_ ?_ ?_; rotate_left; (simp only [zs]; rfl)
              refine zn 33 (zb 39 17179869183) rfl rfl HT_ (by kernel_rfl) (fun _ _ _ h => h) rfl ?_ ?_ ?_; rotate_left; (simp only [zs]; rfl)
              refine zn 34 (zb 39 34359738367) rfl rfl HT_ (by kernel_rfl) (fun _ _ _ h => h) rfl ?_ ?_ ?_; rotate_left; (simp only [zs]; rfl)
              refine zn 35 (zb 39 68719476735) rfl rfl HT_ (by kernel_rfl) (fun _ _ _ h => h) rfl ?_ ?_ ?_; rotate_left; (simp only [zs]; rfl)
              refine zn 36 (zb 39 137438953471) rfl rfl HT_ (by kernel_rfl) (fun _ _ _ h => h) rfl ?_ ?_ ?_; rotate_left; (simp only [zs]; rfl)
              refine zn 37 (zb 39 274877906943) rfl rfl HT_ (by kernel_rfl) (fun _ _ _ h => h) rfl ?_ ?_ ?_; rotate_left; (simp only [zs]; rfl)
              refine zp 38 (zb 39 549755813887) ?_ rfl rfl HT_ (by kernel_rfl) (fun _ _ _ h => h) rfl ?_ ?_ ?_ ?_; rotate_left; (intro w'; go_simp; with_reducible rfl); rotate_left; (simp only [zs]; rfl)
              refine done_ (done_of HT_.out (by kernel_rfl)) ?_
              try go_wp2
              go_meet
              case rel => exact ⟨_, (true), (by first | rfl ), H', ⟨by have := HK1.out; first | omega | exact Nat.le_refl _⟩, ⟨by exact HB.out⟩⟩
          · rw [if_neg c7] at H
            exact absurd H (by simp)
        · rw [if_neg c6] at H
          exact absurd H (by simp)
       case rest =>
        clear HC5
        try clear c1
        try clear p1
        try clear q1
        try clear hx1
        try clear p2
        try clear c6
        try clear c7
        try clear c8
        try clear c8b0
        try clear c8b1
        try clear c12
        try clear p12
        try clear q12
        try clear hx12
        try clear hx127_0
        try clear hx127_1
        try clear hx127_2
        try clear hx128_0
        try clear hx128_1
        try clear hx128_2
        try clear hx129_0
        try clear hx129_1
        try clear hx129_2
        try clear hx130_0
        try clear hx130_1
        try clear hx130_2
        try clear p127
        try clear p128
        try clear p129
        try clear p130
        try clear q127
        try clear q128
        try clear q129
        try clear q130
        obtain ⟨kq, x56_4, rfl, HA, HJ4, HB⟩ := hcut
        cases kq with
        | zero => exact absurd HA.out (by simp [ecdysisref19_SameVals.j1])
        | succ kj4 =>
          have H := HA.out
          clear HA
          simp only [ecdysisref19_SameVals.j1] at H
          by_cases c13 : x56_4 = true
          · subst c13
            have H1 : (some false) = some r := by rw [if_pos rfl] at H; exact H
            clear H
            have H := H1
            clear H1
            obtain rfl := Option.some.inj H
            go_wp2
            go_ret
            exact ⟨by first | rfl , by exact HB.out⟩
          · replace c13 := Bool.eq_false_iff.mpr c13
            subst c13
            have H1 : (ecdysisref19_SameVals.l1 kj4 l0 l1 x5_1 0) = some r := by rw [if_neg (show ¬ (false = true) by decide)] at H; exact H
            clear H
            have H := H1
            clear H1
            have H' := Aside0.mk H
            clear H
            go_wp2
            go_loopg [6] kj4 (fun kq v6 w' => ∃ (x6_3 : Int), v6 = .int .i64 x6_3 ∧ Aside0 (ecdysisref19_SameVals.l1 kq l0 l1 x5_1 x6_3 = some r) ∧ Aside0 (kq ≤ kj4) ∧ Aside0 (Below w.heap.size w w'))
            case atStart => exact ⟨(0), (by first | rfl ), H', ⟨Nat.le_refl _⟩, ⟨by exact HB.out⟩⟩
            case round =>
              clear H'
              try clear c1
              try clear p1
              try clear q1
              try clear hx1
              try clear p2
              try clear c6
              try clear c7
              try clear c8
              try clear c8b0
              try clear c8b1
              try clear c12
              try clear p12
              try clear q12
              try clear hx12
              try clear c13
              try clear p13
              try clear q13
              try clear hx13
              try clear hx127_0
              try clear hx127_1
              try clear hx127_2
              try clear hx128_0
              try clear hx128_1
              try clear hx128_2
              try clear hx129_0
              try clear hx129_1
              try clear hx129_2
              try clear hx130_0
              try clear hx130_1
              try clear hx130_2
              try clear p1
              try clear p12
              try clear p127
              try clear p128
              try clear p129
              try clear p130
              try clear p2
              try clear q1
              try clear q12
              try clear q127
              try clear q128
              try clear q129
              try clear q130
              obtain ⟨x6_3, rfl, HA, HK3, HB⟩ := hrel
              cases gk with
              | zero => exact absurd HA.out (by simp [ecdysisref19_SameVals.l1])
              | succ k3 =>
                have H := HA.out
                clear HA
                simp only [ecdysisref19_SameVals.l1] at H
                by_cases c14 : 0 ≤ x5_1
                · rw [if_pos c14] at H
                  have c14b0 : decide (0 ≤ x5_1) = true := decide_eq_true c14
                  clear c14
                  by_cases c15 : x5_1 < (l0.length : Int)
                  · rw [if_pos c15] at H
                    have c15b0 : decide (x5_1 < (l0.length : Int)) = true := decide_eq_true c15
                    clear c15
                    by_cases c16 : x6_3 < (((rd_T70 l0 x5_1).f2).length : Int)
                    · rw [if_pos c16] at H
                      have c16b0 : decide (x6_3 < (((rd_T70 l0 x5_1).f2).length : Int)) = true := decide_eq_true c16
                      clear c16
                      by_cases c17 : 0 ≤ x6_3
                      · rw [if_pos c17] at H
                        have c17b0 : decide (0 ≤ x6_3) = true := decide_eq_true c17
                        clear c17
                        by_cases c18 : x5_1 < (l1.length : Int)
                        · rw [if_pos c18] at H
                          have c18b0 : decide (x5_1 < (l1.length : Int)) = true := decide_eq_true c18
                          clear c18
                          by_cases c19 : x6_3 < (((rd_T70 l1 x5_1).f2).length : Int)
                          · rw [if_pos c19] at H
                            have c19b0 : decide (x6_3 < (((rd_T70 l1 x5_1).f2).length : Int)) = true := decide_eq_true c19
                            clear c19
                            replace H := Option.bind_eq_some_iff.mp H
                            obtain ⟨t138, A200, H⟩ := H
                            replace H : (if t138 = true then (ecdysisref19_SameVals.l1 k3 l0 l1 x5_1 (wrap64 (x6_3 + 1))) else (some false)) = some r := H
                            have A20 := Aside0.mk A200
                            clear A200
                            by_cases c21 : t138 = true
                            · subst c21
                              have H1 : (ecdysisref19_SameVals.l1 k3 l0 l1 x5_1 (wrap64 (x6_3 + 1))) = some r := by rw [if_pos rfl] at H; exact H
                              clear H
                              have H := H1
                              clear H1
                              have H' := Aside0.mk H
                              clear H
                              have p133 : 0 ≤ (x5_1 : Int) := of_decide_eq_true (by first | (with_reducible assumption) )
                              have q133 : x5_1 < (l0.length : Int) := of_decide_eq_true (by first | (with_reducible assumption) )
                              obtain ⟨ad133, A133_2, c133_2, e133, hx133_0, hx133_1, hx133_2, hl133_2, hi133_2⟩ := at_T70 HR0.out x5_1 p133 q133
                              cases e133
                              replace hx133_0 := (HB.out.cell (World.block_lt_of_cell? w _ hx133_0)).trans hx133_0
                              replace hx133_1 := (HB.out.cell (World.block_lt_of_cell? w _ hx133_1)).trans hx133_1
                              replace hx133_2 := (HB.out.cell (World.block_lt_of_cell? w _ hx133_2)).trans hx133_2
                              have HR133_2 := Aside0.mk hi133_2
                              have HC133_2 := Aside0.mk hl133_2
                              clear hi133_2 hl133_2
                              replace p133 := eq_true p133
                              replace q133 := eq_true q133
                              try go_wp2
                              have n0_ := Aside0.mk (below_drew1 HB.out)
                              clear HB
                              have HB := n0_
                              clear n0_
                              have p134 : 0 ≤ (x5_1 : Int) := of_decide_eq_true (by first | (with_reducible assumption) )
                              have q134 : x5_1 < (l0.length : Int) := of_decide_eq_true (by first | (with_reducible assumption) )
                              obtain ⟨ad134, A134_2, c134_2, e134, hx134_0, hx134_1, hx134_2, hl134_2, hi134_2⟩ := at_T70 HR0.out x5_1 p134 q134
                              have hw134_2 := hx134_2
                              have hw134_1 := hx134_1
                              have hw134_0 := hx134_0
                              obtain rfl : ad133 = ad134 := (by injection e134)
                              replace hx134_0 := (HB.out.cell (World.block_lt_of_cell? w _ hx134_0)).trans hx134_0
                              replace hx134_1 := (HB.out.cell (World.block_lt_of_cell? w _ hx134_1)).trans hx134_1
                              replace hx134_2 := (HB.out.cell (World.block_lt_of_cell? w _ hx134_2)).trans hx134_2
                              have HR134_2 := Aside0.mk hi134_2
                              have HC134_2 := Aside0.mk hl134_2
                              clear hi134_2 hl134_2
                              replace p134 := eq_true p134
                              replace q134 := eq_true q134
                              have p135 : 0 ≤ (x6_3 : Int) := of_decide_eq_true (by first | (with_reducible assumption) )
                              have q135 : x6_3 < (((rd_T70 l0 x5_1).f2).length : Int) := of_decide_eq_true (by first | (with_reducible assumption) )
                              obtain ⟨ad135, A135_0, c135_0, A135_1, c135_1, e135, hx135_0, hx135_1, hl135_0, hi135_0, hl135_1, hi135_1⟩ := at_T25 HR134_2.out x6_3 p135 q135
                              have hw135_1 := hx135_1
                              have hw135_0 := hx135_0
                              cases e135
                              replace hx135_0 := (HB.out.cell (World.block_lt_of_cell? w _ hx135_0)).trans hx135_0
                              replace hx135_1 := (HB.out.cell (World.block_lt_of_cell? w _ hx135_1)).trans hx135_1
                              have HR135_0 := Aside0.mk hi135_0
                              have HC135_0 := Aside0.mk hl135_0
                              clear hi135_0 hl135_0
                              have HR135_1 := Aside0.mk hi135_1
                              have HC135_1 := Aside0.mk hl135_1
                              clear hi135_1 hl135_1
                              replace p135 := eq_true p135
                              replace q135 := eq_true q135
                              have p136 : 0 ≤ (x5_1 : Int) := of_decide_eq_true (by first | (with_reducible assumption) )
                              have q136 : x5_1 < (l1.length : Int) := of_decide_eq_true (by first | (with_reducible assumption) )
                              obtain ⟨ad136, A136_2, c136_2, e136, hx136_0, hx136_1, hx136_2, hl136_2, hi136_2⟩ := at_T70 HR1.out x5_1 p136 q136
                              have hw136_2 := hx136_2
                              have hw136_1 := hx136_1
                              have hw136_0 := hx136_0
                              cases e136
                              replace hx136_0 := (HB.out.cell (World.block_lt_of_cell? w _ hx136_0)).trans hx136_0
                              replace hx136_1 := (HB.out.cell (World.block_lt_of_cell? w _ hx136_1)).trans hx136_1
                              replace hx136_2 := (HB.out.cell (World.block_lt_of_cell? w _ hx136_2)).trans hx136_2
                              have HR136_2 := Aside0.mk hi136_2
                              have HC136_2 := Aside0.mk hl136_2
                              clear hi136_2 hl136_2
                              replace p136 := eq_true p136
                              replace q136 := eq_true q136
                              have p137 : 0 ≤ (x6_3 : Int) := of_decide_eq_true (by first | (with_reducible assumption) )
                              have q137 : x6_3 < (((rd_T70 l1 x5_1).f2).length : Int) := of_decide_eq_true (by first | (with_reducible assumption) )
                              obtain ⟨ad137, A137_0, c137_0, A137_1, c137_1, e137, hx137_0, hx137_1, hl137_0, hi137_0, hl137_1, hi137_1⟩ := at_T25 HR136_2.out x6_3 p137 q137
                              have hw137_1 := hx137_1
                              have hw137_0 := hx137_0
                              cases e137
                              replace hx137_0 := (HB.out.cell (World.block_lt_of_cell? w _ hx137_0)).trans hx137_0
                              replace hx137_1 := (HB.out.cell (World.block_lt_of_cell? w _ hx137_1)).trans hx137_1
                              have HR137_0 := Aside0.mk hi137_0
                              have HC137_0 := Aside0.mk hl137_0
                              clear hi137_0 hl137_0
                              have HR137_1 := Aside0.mk hi137_1
                              have HC137_1 := Aside0.mk hl137_1
                              clear hi137_1 hl137_1
                              replace p137 := eq_true p137
                              replace q137 := eq_true q137
                              refine start_ (n := 18) (S := fun w' => w'.cell? (ad133.add ((x5_1).toNat * 3)) = some (.int .u64 ((rd_T70 l0 x5_1).f0)) ∧ w'.cell? ⟨(ad133.add ((x5_1).toNat * 3)).block, (ad133.add ((x5_1).toNat * 3)).off + 1, none⟩ = some (.string ((rd_T70 l0 x5_1).f1)) ∧ w'.cell? ⟨(ad133.add ((x5_1).toNat * 3)).block, (ad133.add ((x5_1).toNat * 3)).off + 2, none⟩ = some (.slice (some ad135) ((rd_T70 l0 x5_1).f2).length c134_2) ∧ w'.cell? (ad135.add ((x6_3).toNat * 2)) = some (.slice A135_0 ((rd_T25 ((rd_T70 l0 x5_1).f2) x6_3).f0).length c135_0) ∧ w'.cell? ⟨(ad135.add ((x6_3).toNat * 2)).block, (ad135.add ((x6_3).toNat * 2)).off + 1, none⟩ = some (.slice A135_1 ((rd_T25 ((rd_T70 l0 x5_1).f2) x6_3).f1).length c135_1) ∧ w'.cell? (ad136.add ((x5_1).toNat * 3)) = some (.int .u64 ((rd_T70 l1 x5_1).f0)) ∧ w'.cell? ⟨(ad136.add ((x5_1).toNat * 3)).block, (ad136.add ((x5_1).toNat * 3)).off + 1, none⟩ = some (.string ((rd_T70 l1 x5_1).f1)) ∧ w'.cell? ⟨(ad136.add ((x5_1).toNat * 3)).block, (ad136.add ((x5_1).toNat * 3)).off + 2, none⟩ = some (.slice (some ad137) ((rd_T70 l1 x5_1).f2).length c136_2) ∧ w'.cell? (ad137.add ((x6_3).toNat * 2)) = some (.slice A137_0 ((rd_T25 ((rd_T70 l1 x5_1).f2) x6_3).f0).length c137_0) ∧ w'.cell? ⟨(ad137.add ((x6_3).toNat * 2)).block, (ad137.add ((x6_3).toNat * 2)).off + 1, none⟩ = some (.slice A137_1 ((rd_T25 ((rd_T70 l1 x5_1).f2) x6_3).f1).length c137_1)) (ds := []) #[false, false, false, false, false, false, false, false, false, false, false, false, false, false, false, false, false, false] (by kernel_rfl) rfl rfl ⟨((HB.out.cell (World.block_lt_of_cell? w _ hw134_0)).trans hw134_0), ((HB.out.cell (World.block_lt_of_cell? w _ hw134_1)).trans hw134_1), ((HB.out.cell (World.block_lt_of_cell? w _ hw134_2)).trans hw134_2), ((HB.out.cell (World.block_lt_of_cell? w _ hw135_0)).trans hw135_0), ((HB.out.cell (World.block_lt_of_cell? w _ hw135_1)).trans hw135_1), ((HB.out.cell (World.block_lt_of_cell? w _ hw136_0)).trans hw136_0), ((HB.out.cell (World.block_lt_of_cell? w _ hw136_1)).trans hw136_1), ((HB.out.cell (World.block_lt_of_cell? w _ hw136_2)).trans hw136_2), ((HB.out.cell (World.block_lt_of_cell? w _ hw137_0)).trans hw137_0), ((HB.out.cell (World.block_lt_of_cell? w _ hw137_1)).trans hw137_1)⟩ (fun hHeld => ?_); refine with_tabW ecdysisref19_SameVals.tab11 ecdysisref19_SameVals.bits11 (fun HT_ HW_ => ?_)
                              generalize wr.drew = w22 at HB HR134_2 HR135_0 HR135_1 HR136_2 HR137_0 HR137_1 hx134_0 hx134_1 hx134_2 hx135_0 hx135_1 hx136_0 hx136_1 hx136_2 hx137_0 hx137_1 hHeld ⊢
                              refine zp 0 (zb 18 1) ?_ rfl rfl HT_ (by kernel_rfl) (fun _ _ _ h => h) rfl ?_ ?_ ?_ ?_; rotate_left; (intro w'; go_simp; with_reducible rfl); rotate_left; (simp only [zs]; rfl)
                              refine zp 1 (zb 18 3) ?_ rfl rfl HT_ (by kernel_rfl) (fun _ _ _ h => h) rfl ?_ ?_ ?_ ?_; rotate_left; (intro w'; go_simp; with_reducible rfl); rotate_left; (simp only [zs]; rfl)
                              refine zp 2 (zb 18 7) ?_ rfl rfl HT_ (by kernel_rfl) (fun _ _ _ h => h) rfl ?_ ?_ ?_ ?_; rotate_left; (intro w'; go_simp; with_reducible rfl); rotate_left; (simp only [zs]; rfl)
                              refine zp 3 (zb 18 15) ?_ rfl rfl HT_ (by kernel_rfl) (fun _ _ _ h => h) rfl ?_ ?_ ?_ ?_; rotate_left; (intro w'; go_simp; with_reducible rfl); rotate_left; (simp only [zs]; rfl)
                              refine zp 5 (zb 18 47) ?_ rfl rfl HT_ (by kernel_rfl) (fun _ _ _ h => h) rfl ?_ ?_ ?_ ?_; rotate_left; (intro w'; go_simp; with_reducible rfl); rotate_left; (simp only [zs]; rfl)
                              refine zp 8 (zb 18 303) ?_ rfl rfl HT_ (by kernel_rfl) (fun _ _ _ h => h) rfl ?_ ?_ ?_ ?_; rotate_left; (intro w'; go_simp; with_reducible rfl); rotate_left; (simp only [zs]; rfl)
                              refine zp 9 (zb 18 815) ?_ rfl rfl HT_ (by kernel_rfl) (fun _ _ _ h => h) rfl ?_ ?_ ?_ ?_; rotate_left; (intro w'; go_simp; with_reducible rfl); rotate_left; (simp only [zs]; rfl)
                              refine zp 10 (zb 18 1839) ?_ rfl rfl HT_ (by kernel_rfl) (fun _ _ _ h => h) rfl ?_ ?_ ?_ ?_; rotate_left; (intro w'; go_simp; with_reducible rfl); rotate_left; (simp only [zs]; rfl)
                              refine zp 11 (zb 18 3887) ?_ rfl rfl HT_ (by kernel_rfl) (fun _ _ _ h => h) rfl ?_ ?_ ?_ ?_; rotate_left; (intro w'; go_simp; with_reducible rfl); rotate_left; (simp only [zs]; rfl)
                              refine zp 13 (zb 18 12079) ?_ rfl rfl HT_ (by kernel_rfl) (fun _ _ _ h => h) rfl ?_ ?_ ?_ ?_; rotate_left; (intro w'; go_simp; with_reducible rfl); rotate_left; (simp only [zs]; rfl)
                              refine zt 4 (zb 18 12095) ?_ rfl rfl HT_ HW_ (by kernel_rfl) (fun _ _ _ h => h) rfl ?_ hHeld ?_ ?_ ?_; rotate_left; (rintro w' ⟨s0, s1, s2, s3, s4, s5, s6, s7, s8, s9⟩; go_simp; with_reducible rfl); rotate_left; (simp only [zs]; rfl)
                              refine zp 6 (zb 18 12159) ?_ rfl rfl HT_ (by kernel_rfl) (fun _ _ _ h => h) rfl ?_ ?_ ?_ ?_; rotate_left; (intro w'; go_simp; with_reducible rfl); rotate_left; (simp only [zs]; rfl)
                              refine zt 7 (zb 18 12287) ?_ rfl rfl HT_ HW_ (by kernel_rfl) (fun _ _ _ h => h) rfl ?_ hHeld ?_ ?_ ?_; rotate_left; (rintro w' ⟨s0, s1, s2, s3, s4, s5, s6, s7, s8, s9⟩; go_simp; with_reducible rfl); rotate_left; (simp only [zs]; rfl)
                              refine zt 12 (zb 18 16383) ?_ rfl rfl HT_ HW_ (by kernel_rfl) (fun _ _ _ h => h) rfl ?_ hHeld ?_ ?_ ?_; rotate_left; (rintro w' ⟨s0, s1, s2, s3, s4, s5, s6, s7, s8, s9⟩; go_simp; with_reducible rfl); rotate_left; (simp only [zs]; rfl)
                              refine zp 14 (zb 18 32767) ?_ rfl rfl HT_ (by kernel_rfl) (fun _ _ _ h => h) rfl ?_ ?_ ?_ ?_; rotate_left; (intro w'; go_simp; with_reducible rfl); rotate_left; (simp only [zs]; rfl)
                              refine zt 15 (zb 18 65535) ?_ rfl rfl HT_ HW_ (by kernel_rfl) (fun _ _ _ h => h) rfl ?_ hHeld ?_ ?_ ?_; rotate_left; (rintro w' ⟨s0, s1, s2, s3, s4, s5, s6, s7, s8, s9⟩; go_simp; with_reducible rfl); rotate_left; (simp only [zs]; rfl)
                              refine one_ (i := 16) (N := some 83) #[true, true, true, true, true, true, true, true, true, true, true, true, true, true, true, true, true, false] rfl rfl (one_of HT_.out (by kernel_rfl)) (by decide) (fun K hK => ?_)
                              refine goes_ Try.func14 (by kernel_rfl) rfl #[.agg #[.slice A135_0 ((rd_T25 ((rd_T70 l0 x5_1).f2) x6_3).f0).length c135_0, .slice A135_1 ((rd_T25 ((rd_T70 l0 x5_1).f2) x6_3).f1).length c135_1], .agg #[.slice A137_0 ((rd_T25 ((rd_T70 l1 x5_1).f2) x6_3).f0).length c137_0, .slice A137_1 ((rd_T25 ((rd_T70 l1 x5_1).f2) x6_3).f1).length c137_1]] (by rfl) rfl rfl (by (try simp only [List.map_toArray, List.map_cons, List.map_nil]); first | done | rfl | (simp only [List.length_drop, List.length_take]; rfl)) ?_
                              with_reducible refine (ih_ecdysisref19_Same k3 (by have := HK1.out; have := HJ4.out; have := HK3.out; omega) _ _ ((rd_T25 ((rd_T70 l0 x5_1).f2) x6_3).f0) _ _ ((rd_T25 ((rd_T70 l0 x5_1).f2) x6_3).f1) _ _ ((rd_T25 ((rd_T70 l1 x5_1).f2) x6_3).f0) _ _ ((rd_T25 ((rd_T70 l1 x5_1).f2) x6_3).f1) true _ ?side1 ?side2 ?side3 ?side4 ?side5 ?side6 ?side7 ?side8 A20.out).mono ?_
                              (case side1 => repeat (first | exact (Kd.C_below HR135_0.out HB.out) ))
                              (case side2 => exact HC135_0.out)
                              (case side3 => repeat (first | exact (Kd.C_below HR135_1.out HB.out) ))
                              (case side4 => exact HC135_1.out)
                              (case side5 => repeat (first | exact (Kd.C_below HR137_0.out HB.out) ))
                              (case side6 => exact HC137_0.out)
                              (case side7 => repeat (first | exact (Kd.C_below HR137_1.out HB.out) ))
                              (case side8 => exact HC137_1.out)
                              rintro e w23 ⟨rfl, hb⟩
                              refine ⟨_, rfl, ?_⟩
                              have n0_ := Aside0.mk (below_step HB.out hb)
                              clear HB
                              have HB := n0_
                              clear n0_
                              (try clear hb)
                              (try clear hb2)
                              (try clear hk)
                              (try clear hi)
                              refine hK.out _ _ ⟨((HB.out.cell (World.block_lt_of_cell? w _ hw134_0)).trans hw134_0), ((HB.out.cell (World.block_lt_of_cell? w _ hw134_1)).trans hw134_1), ((HB.out.cell (World.block_lt_of_cell? w _ hw134_2)).trans hw134_2), ((HB.out.cell (World.block_lt_of_cell? w _ hw135_0)).trans hw135_0), ((HB.out.cell (World.block_lt_of_cell? w _ hw135_1)).trans hw135_1), ((HB.out.cell (World.block_lt_of_cell? w _ hw136_0)).trans hw136_0), ((HB.out.cell (World.block_lt_of_cell? w _ hw136_1)).trans hw136_1), ((HB.out.cell (World.block_lt_of_cell? w _ hw136_2)).trans hw136_2), ((HB.out.cell (World.block_lt_of_cell? w _ hw137_0)).trans hw137_0), ((HB.out.cell (World.block_lt_of_cell? w _ hw137_1)).trans hw137_1)⟩ (fun hHeld => ?_)
                              clear hK K
                              refine norm_ (a' := ?_) ?_ ?_
                              rotate_left
                              · show Act.put _ (some 83) _ = _
                                simp only [zs]
                                rfl
                              refine zp 17 (zb 18 262143) ?_ rfl rfl HT_ (by kernel_rfl) (fun _ _ _ h => h) rfl ?_ ?_ ?_ ?_; rotate_left; (intro w'; go_simp; with_reducible rfl); rotate_left; (simp only [zs]; rfl)
                              refine done_ (done_of HT_.out (by kernel_rfl)) ?_
                              try go_wp2
                              go_roundg k3
                              case measure => have := HK1.out; have := HJ4.out; have := HK3.out; omega
                              case rel => exact ⟨(wrap64 (x6_3 + 1)), (by first | rfl ), H', ⟨by have := HK1.out; have := HJ4.out; have := HK3.out; omega⟩, ⟨by exact HB.out⟩⟩
                            · replace c21 := Bool.eq_false_iff.mpr c21
                              subst c21
                              have H1 : (some false) = some r := by rw [if_neg (show ¬ (false = true) by decide)] at H; exact H
                              clear H
                              have H := H1
                              clear H1
                              obtain rfl := Option.some.inj H
                              have p133 : 0 ≤ (x5_1 : Int) := of_decide_eq_true (by first | (with_reducible assumption) )
                              have q133 : x5_1 < (l0.length : Int) := of_decide_eq_true (by first | (with_reducible assumption) )
                              obtain ⟨ad133, A133_2, c133_2, e133, hx133_0, hx133_1, hx133_2, hl133_2, hi133_2⟩ := at_T70 HR0.out x5_1 p133 q133
                              cases e133
                              replace hx133_0 := (HB.out.cell (World.block_lt_of_cell? w _ hx133_0)).trans hx133_0
                              replace hx133_1 := (HB.out.cell (World.block_lt_of_cell? w _ hx133_1)).trans hx133_1
                              replace hx133_2 := (HB.out.cell (World.block_lt_of_cell? w _ hx133_2)).trans hx133_2
                              have HR133_2 := Aside0.mk hi133_2
                              have HC133_2 := Aside0.mk hl133_2
                              clear hi133_2 hl133_2
                              replace p133 := eq_true p133
                              replace q133 := eq_true q133
                              try go_wp2
                              have n0_ := Aside0.mk (below_drew1 HB.out)
                              clear HB
                              have HB := n0_
                              clear n0_
                              have p134 : 0 ≤ (x5_1 : Int) := of_decide_eq_true (by first | (with_reducible assumption) )
                              have q134 : x5_1 < (l0.length : Int) := of_decide_eq_true (by first | (with_reducible assumption) )
                              obtain ⟨ad134, A134_2, c134_2, e134, hx134_0, hx134_1, hx134_2, hl134_2, hi134_2⟩ := at_T70 HR0.out x5_1 p134 q134
                              have hw134_2 := hx134_2
                              have hw134_1 := hx134_1
                              have hw134_0 := hx134_0
                              obtain rfl : ad133 = ad134 := (by injection e134)
                              replace hx134_0 := (HB.out.cell (World.block_lt_of_cell? w _ hx134_0)).trans hx134_0
                              replace hx134_1 := (HB.out.cell (World.block_lt_of_cell? w _ hx134_1)).trans hx134_1
                              replace hx134_2 := (HB.out.cell (World.block_lt_of_cell? w _ hx134_2)).trans hx134_2
                              have HR134_2 := Aside0.mk hi134_2
                              have HC134_2 := Aside0.mk hl134_2
                              clear hi134_2 hl134_2
                              replace p134 := eq_true p134
                              replace q134 := eq_true q134
                              have p135 : 0 ≤ (x6_3 : Int) := of_decide_eq_true (by first | (with_reducible assumption) )
                              have q135 : x6_3 < (((rd_T70 l0 x5_1).f2).length : Int) := of_decide_eq_true (by first | (with_reducible assumption) )
                              obtain ⟨ad135, A135_0, c135_0, A135_1, c135_1, e135, hx135_0, hx135_1, hl135_0, hi135_0, hl135_1, hi135_1⟩ := at_T25 HR134_2.out x6_3 p135 q135
                              have hw135_1 := hx135_1
                              have hw135_0 := hx135_0
                              cases e135
                              replace hx135_0 := (HB.out.cell (World.block_lt_of_cell? w _ hx135_0)).trans hx135_0
                              replace hx135_1 := (HB.out.cell (World.block_lt_of_cell? w _ hx135_1)).trans hx135_1
                              have HR135_0 := Aside0.mk hi135_0
                              have HC135_0 := Aside0.mk hl135_0
                              clear hi135_0 hl135_0
                              have HR135_1 := Aside0.mk hi135_1
                              have HC135_1 := Aside0.mk hl135_1
                              clear hi135_1 hl135_1
                              replace p135 := eq_true p135
                              replace q135 := eq_true q135
                              have p136 : 0 ≤ (x5_1 : Int) := of_decide_eq_true (by first | (with_reducible assumption) )
                              have q136 : x5_1 < (l1.length : Int) := of_decide_eq_true (by first | (with_reducible assumption) )
                              obtain ⟨ad136, A136_2, c136_2, e136, hx136_0, hx136_1, hx136_2, hl136_2, hi136_2⟩ := at_T70 HR1.out x5_1 p136 q136
                              have hw136_2 := hx136_2
                              have hw136_1 := hx136_1
                              have hw136_0 := hx136_0
                              cases e136
                              replace hx136_0 := (HB.out.cell (World.block_lt_of_cell? w _ hx136_0)).trans hx136_0
                              replace hx136_1 := (HB.out.cell (World.block_lt_of_cell? w _ hx136_1)).trans hx136_1
                              replace hx136_2 := (HB.out.cell (World.block_lt_of_cell? w _ hx136_2)).trans hx136_2
                              have HR136_2 := Aside0.mk hi136_2
                              have HC136_2 := Aside0.mk hl136_2
                              clear hi136_2 hl136_2
                              replace p136 := eq_true p136
                              replace q136 := eq_true q136
                              have p137 : 0 ≤ (x6_3 : Int) := of_decide_eq_true (by first | (with_reducible assumption) )
                              have q137 : x6_3 < (((rd_T70 l1 x5_1).f2).length : Int) := of_decide_eq_true (by first | (with_reducible assumption) )
                              obtain ⟨ad137, A137_0, c137_0, A137_1, c137_1, e137, hx137_0, hx137_1, hl137_0, hi137_0, hl137_1, hi137_1⟩ := at_T25 HR136_2.out x6_3 p137 q137
                              have hw137_1 := hx137_1
                              have hw137_0 := hx137_0
                              cases e137
                              replace hx137_0 := (HB.out.cell (World.block_lt_of_cell? w _ hx137_0)).trans hx137_0
                              replace hx137_1 := (HB.out.cell (World.block_lt_of_cell? w _ hx137_1)).trans hx137_1
                              have HR137_0 := Aside0.mk hi137_0
                              have HC137_0 := Aside0.mk hl137_0
                              clear hi137_0 hl137_0
                              have HR137_1 := Aside0.mk hi137_1
                              have HC137_1 := Aside0.mk hl137_1
                              clear hi137_1 hl137_1
                              replace p137 := eq_true p137
                              replace q137 := eq_true q137
                              refine start_ (n := 18) (S := fun w' => w'.cell? (ad133.add ((x5_1).toNat * 3)) = some (.int .u64 ((rd_T70 l0 x5_1).f0)) ∧ w'.cell? ⟨(ad133.add ((x5_1).toNat * 3)).block, (ad133.add ((x5_1).toNat * 3)).off + 1, none⟩ = some (.string ((rd_T70 l0 x5_1).f1)) ∧ w'.cell? ⟨(ad133.add ((x5_1).toNat * 3)).block, (ad133.add ((x5_1).toNat * 3)).off + 2, none⟩ = some (.slice (some ad135) ((rd_T70 l0 x5_1).f2).length c134_2) ∧ w'.cell? (ad135.add ((x6_3).toNat * 2)) = some (.slice A135_0 ((rd_T25 ((rd_T70 l0 x5_1).f2) x6_3).f0).length c135_0) ∧ w'.cell? ⟨(ad135.add ((x6_3).toNat * 2)).block, (ad135.add ((x6_3).toNat * 2)).off + 1, none⟩ = some (.slice A135_1 ((rd_T25 ((rd_T70 l0 x5_1).f2) x6_3).f1).length c135_1) ∧ w'.cell? (ad136.add ((x5_1).toNat * 3)) = some (.int .u64 ((rd_T70 l1 x5_1).f0)) ∧ w'.cell? ⟨(ad136.add ((x5_1).toNat * 3)).block, (ad136.add ((x5_1).toNat * 3)).off + 1, none⟩ = some (.string ((rd_T70 l1 x5_1).f1)) ∧ w'.cell? ⟨(ad136.add ((x5_1).toNat * 3)).block, (ad136.add ((x5_1).toNat * 3)).off + 2, none⟩ = some (.slice (some ad137) ((rd_T70 l1 x5_1).f2).length c136_2) ∧ w'.cell? (ad137.add ((x6_3).toNat * 2)) = some (.slice A137_0 ((rd_T25 ((rd_T70 l1 x5_1).f2) x6_3).f0).length c137_0) ∧ w'.cell? ⟨(ad137.add ((x6_3).toNat * 2)).block, (ad137.add ((x6_3).toNat * 2)).off + 1, none⟩ = some (.slice A137_1 ((rd_T25 ((rd_T70 l1 x5_1).f2) x6_3).f1).length c137_1)) (ds := []) #[false, false, false, false, false, false, false, false, false, false, false, false, false, false, false, false, false, false] (by kernel_rfl) rfl rfl ⟨((HB.out.cell (World.block_lt_of_cell? w _ hw134_0)).trans hw134_0), ((HB.out.cell (World.block_lt_of_cell? w _ hw134_1)).trans hw134_1), ((HB.out.cell (World.block_lt_of_cell? w _ hw134_2)).trans hw134_2), ((HB.out.cell (World.block_lt_of_cell? w _ hw135_0)).trans hw135_0), ((HB.out.cell (World.block_lt_of_cell? w _ hw135_1)).trans hw135_1), ((HB.out.cell (World.block_lt_of_cell? w _ hw136_0)).trans hw136_0), ((HB.out.cell (World.block_lt_of_cell? w _ hw136_1)).trans hw136_1), ((HB.out.cell (World.block_lt_of_cell? w _ hw136_2)).trans hw136_2), ((HB.out.cell (World.block_lt_of_cell? w _ hw137_0)).trans hw137_0), ((HB.out.cell (World.block_lt_of_cell? w _ hw137_1)).trans hw137_1)⟩ (fun hHeld => ?_); refine with_tabW ecdysisref19_SameVals.tab11 ecdysisref19_SameVals.bits11 (fun HT_ HW_ => ?_)
                              generalize wr.drew = w24 at HB HR134_2 HR135_0 HR135_1 HR136_2 HR137_0 HR137_1 hx134_0 hx134_1 hx134_2 hx135_0 hx135_1 hx136_0 hx136_1 hx136_2 hx137_0 hx137_1 hHeld ⊢
                              refine zp 0 (zb 18 1) ?_ rfl rfl HT_ (by kernel_rfl) (fun _ _ _ h => h) rfl ?_ ?_ ?_ ?_; rotate_left; (intro w'; go_simp; with_reducible rfl); rotate_left; (simp only [zs]; rfl)
                              refine zp 1 (zb 18 3) ?_ rfl rfl HT_ (by kernel_rfl) (fun _ _ _ h => h) rfl ?_ ?_ ?_ ?_; rotate_left; (intro w'; go_simp; with_reducible rfl); rotate_left; (simp only [zs]; rfl)
                              refine zp 2 (zb 18 7) ?_ rfl rfl HT_ (by kernel_rfl) (fun _ _ _ h => h) rfl ?_ ?_ ?_ ?_; rotate_left; (intro w'; go_simp; with_reducible rfl); rotate_left; (simp only [zs]; rfl)
                              refine zp 3 (zb 18 15) ?_ rfl rfl HT_ (by kernel_rfl) (fun _ _ _ h => h) rfl ?_ ?_ ?_ ?_; rotate_left; (intro w'; go_simp; with_reducible rfl); rotate_left; (simp only [zs]; rfl)
                              refine zp 5 (zb 18 47) ?_ rfl rfl HT_ (by kernel_rfl) (fun _ _ _ h => h) rfl ?_ ?_ ?_ ?_; rotate_left; (intro w'; go_simp; with_reducible rfl); rotate_left; (simp only [zs]; rfl)
                              refine zp 8 (zb 18 303) ?_ rfl rfl HT_ (by kernel_rfl) (fun _ _ _ h => h) rfl ?_ ?_ ?_ ?_; rotate_left; (intro w'; go_simp; with_reducible rfl); rotate_left; (simp only [zs]; rfl)
                              refine zp 9 (zb 18 815) ?_ rfl rfl HT_ (by kernel_rfl) (fun _ _ _ h => h) rfl ?_ ?_ ?_ ?_; rotate_left; (intro w'; go_simp; with_reducible rfl); rotate_left; (simp only [zs]; rfl)
                              refine zp 10 (zb 18 1839) ?_ rfl rfl HT_ (by kernel_rfl) (fun _ _ _ h => h) rfl ?_ ?_ ?_ ?_; rotate_left; (intro w'; go_simp; with_reducible rfl); rotate_left; (simp only [zs]; rfl)
                              refine zp 11 (zb 18 3887) ?_ rfl rfl HT_ (by kernel_rfl) (fun _ _ _ h => h) rfl ?_ ?_ ?_ ?_; rotate_left; (intro w'; go_simp; with_reducible rfl); rotate_left; (simp only [zs]; rfl)
                              refine zp 13 (zb 18 12079) ?_ rfl rfl HT_ (by kernel_rfl) (fun _ _ _ h => h) rfl ?_ ?_ ?_ ?_; rotate_left; (intro w'; go_simp; with_reducible rfl); rotate_left; (simp only [zs]; rfl)
                              refine zt 4 (zb 18 12095) ?_ rfl rfl HT_ HW_ (by kernel_rfl) (fun _ _ _ h => h) rfl ?_ hHeld ?_ ?_ ?_; rotate_left; (rintro w' ⟨s0, s1, s2, s3, s4, s5, s6, s7, s8, s9⟩; go_simp; with_reducible rfl); rotate_left; (simp only [zs]; rfl)
                              refine zp 6 (zb 18 12159) ?_ rfl rfl HT_ (by kernel_rfl) (fun _ _ _ h => h) rfl ?_ ?_ ?_ ?_; rotate_left; (intro w'; go_simp; with_reducible rfl); rotate_left; (simp only [zs]; rfl)
                              refine zt 7 (zb 18 12287) ?_ rfl rfl HT_ HW_ (by kernel_rfl) (fun _ _ _ h => h) rfl ?_ hHeld ?_ ?_ ?_; rotate_left; (rintro w' ⟨s0, s1, s2, s3, s4, s5, s6, s7, s8, s9⟩; go_simp; with_reducible rfl); rotate_left; (simp only [zs]; rfl)
                              refine zt 12 (zb 18 16383) ?_ rfl rfl HT_ HW_ (by kernel_rfl) (fun _ _ _ h => h) rfl ?_ hHeld ?_ ?_ ?_; rotate_left; (rintro w' ⟨s0, s1, s2, s3, s4, s5, s6, s7, s8, s9⟩; go_simp; with_reducible rfl); rotate_left; (simp only [zs]; rfl)
                              refine zp 14 (zb 18 32767) ?_ rfl rfl HT_ (by kernel_rfl) (fun _ _ _ h => h) rfl ?_ ?_ ?_ ?_; rotate_left; (intro w'; go_simp; with_reducible rfl); rotate_left; (simp only [zs]; rfl)
                              refine zt 15 (zb 18 65535) ?_ rfl rfl HT_ HW_ (by kernel_rfl) (fun _ _ _ h => h) rfl ?_ hHeld ?_ ?_ ?_; rotate_left; (rintro w' ⟨s0, s1, s2, s3, s4, s5, s6, s7, s8, s9⟩; go_simp; with_reducible rfl); rotate_left; (simp only [zs]; rfl)
                              refine one_ (i := 16) (N := some 83) #[true, true, true, true, true, true, true, true, true, true, true, true, true, true, true, true, true, false] rfl rfl (one_of HT_.out (by kernel_rfl)) (by decide) (fun K hK => ?_)
                              refine goes_ Try.func14 (by kernel_rfl) rfl #[.agg #[.slice A135_0 ((rd_T25 ((rd_T70 l0 x5_1).f2) x6_3).f0).length c135_0, .slice A135_1 ((rd_T25 ((rd_T70 l0 x5_1).f2) x6_3).f1).length c135_1], .agg #[.slice A137_0 ((rd_T25 ((rd_T70 l1 x5_1).f2) x6_3).f0).length c137_0, .slice A137_1 ((rd_T25 ((rd_T70 l1 x5_1).f2) x6_3).f1).length c137_1]] (by rfl) rfl rfl (by (try simp only [List.map_toArray, List.map_cons, List.map_nil]); first | done | rfl | (simp only [List.length_drop, List.length_take]; rfl)) ?_
                              with_reducible refine (ih_ecdysisref19_Same k3 (by have := HK1.out; have := HJ4.out; have := HK3.out; omega) _ _ ((rd_T25 ((rd_T70 l0 x5_1).f2) x6_3).f0) _ _ ((rd_T25 ((rd_T70 l0 x5_1).f2) x6_3).f1) _ _ ((rd_T25 ((rd_T70 l1 x5_1).f2) x6_3).f0) _ _ ((rd_T25 ((rd_T70 l1 x5_1).f2) x6_3).f1) false _ ?side1 ?side2 ?side3 ?side4 ?side5 ?side6 ?side7 ?side8 A20.out).mono ?_
                              (case side1 => repeat (first | exact (Kd.C_below HR135_0.out HB.out) ))
                              (case side2 => exact HC135_0.out)
                              (case side3 => repeat (first | exact (Kd.C_below HR135_1.out HB.out) ))
                              (case side4 => exact HC135_1.out)
                              (case side5 => repeat (first | exact (Kd.C_below HR137_0.out HB.out) ))
                              (case side6 => exact HC137_0.out)
                              (case side7 => repeat (first | exact (Kd.C_below HR137_1.out HB.out) ))
                              (case side8 => exact HC137_1.out)
                              rintro e w25 ⟨rfl, hb⟩
                              refine ⟨_, rfl, ?_⟩
                              have n0_ := Aside0.mk (below_step HB.out hb)
                              clear HB
                              have HB := n0_
                              clear n0_
                              (try clear hb)
                              (try clear hb2)
                              (try clear hk)
                              (try clear hi)
                              refine hK.out _ _ ⟨((HB.out.cell (World.block_lt_of_cell? w _ hw134_0)).trans hw134_0), ((HB.out.cell (World.block_lt_of_cell? w _ hw134_1)).trans hw134_1), ((HB.out.cell (World.block_lt_of_cell? w _ hw134_2)).trans hw134_2), ((HB.out.cell (World.block_lt_of_cell? w _ hw135_0)).trans hw135_0), ((HB.out.cell (World.block_lt_of_cell? w _ hw135_1)).trans hw135_1), ((HB.out.cell (World.block_lt_of_cell? w _ hw136_0)).trans hw136_0), ((HB.out.cell (World.block_lt_of_cell? w _ hw136_1)).trans hw136_1), ((HB.out.cell (World.block_lt_of_cell? w _ hw136_2)).trans hw136_2), ((HB.out.cell (World.block_lt_of_cell? w _ hw137_0)).trans hw137_0), ((HB.out.cell (World.block_lt_of_cell? w _ hw137_1)).trans hw137_1)⟩ (fun hHeld => ?_)
                              clear hK K
                              refine norm_ (a' := ?_) ?_ ?_
                              rotate_left
                              · show Act.put _ (some 83) _ = _
                                simp only [zs]
                                rfl
                              refine zp 17 (zb 18 262143) ?_ rfl rfl HT_ (by kernel_rfl) (fun _ _ _ h => h) rfl ?_ ?_ ?_ ?_; rotate_left; (intro w'; go_simp; with_reducible rfl); rotate_left; (simp only [zs]; rfl)
                              refine done_ (done_of HT_.out (by kernel_rfl)) ?_
                              try go_wp2
                              go_ret
                              exact ⟨by first | rfl , by exact HB.out⟩
                          · rw [if_neg c19] at H
                            exact absurd H (by simp)
                        · rw [if_neg c18] at H
                          exact absurd H (by simp)
                      · rw [if_neg c17] at H
                        exact absurd H (by simp)
                    · rw [if_neg c16] at H
                      have c16b0 : decide (x6_3 < (((rd_T70 l0 x5_1).f2).length : Int)) = false := decide_eq_false c16
                      clear c16
                      have H' := Aside0.mk H
                      clear H
                      have p133 : 0 ≤ (x5_1 : Int) := of_decide_eq_true (by first | (with_reducible assumption) )
                      have q133 : x5_1 < (l0.length : Int) := of_decide_eq_true (by first | (with_reducible assumption) )
                      obtain ⟨ad133, A133_2, c133_2, e133, hx133_0, hx133_1, hx133_2, hl133_2, hi133_2⟩ := at_T70 HR0.out x5_1 p133 q133
                      cases e133
                      replace hx133_0 := (HB.out.cell (World.block_lt_of_cell? w _ hx133_0)).trans hx133_0
                      replace hx133_1 := (HB.out.cell (World.block_lt_of_cell? w _ hx133_1)).trans hx133_1
                      replace hx133_2 := (HB.out.cell (World.block_lt_of_cell? w _ hx133_2)).trans hx133_2
                      have HR133_2 := Aside0.mk hi133_2
                      have HC133_2 := Aside0.mk hl133_2
                      clear hi133_2 hl133_2
                      replace p133 := eq_true p133
                      replace q133 := eq_true q133
                      go_wp2
                      go_roundg k3
                      case measure => have := HK1.out; have := HJ4.out; have := HK3.out; omega
                      case rel => exact ⟨(wrap64 (x5_1 + 1)), (by first | rfl ), H', ⟨by have := HK1.out; have := HJ4.out; have := HK3.out; omega⟩, ⟨by exact HB.out⟩⟩
                  · rw [if_neg c15] at H
                    exact absurd H (by simp)
                · rw [if_neg c14] at H
                  exact absurd H (by simp)
     · rw [if_neg c4] at H
       have c4b0 : decide (x5_1 < (l0.length : Int)) = false := decide_eq_false c4
       clear c4
       obtain rfl := Option.some.inj H
       go_wp2
       go_ret
       exact ⟨by first | rfl , by exact HB.out⟩
 · rw [if_neg c3] at H
   have c3b0 : ((l0.length : Int) == (l1.length : Int)) = false := beq_eq_false_iff_ne.mpr c3
   have c3b1 : ((l0.length : Int) != (l1.length : Int)) = true := bne_iff_ne.mpr c3
   have c3b2 : (l0.length == l1.length) = false := by first | (simp at c3 ⊢; omega)
   obtain rfl := Option.some.inj H
   go_enter Try.func43, Try.ntmps43
   go_wp2
   go_ret
   exact ⟨by first | rfl , by exact HB.out⟩
end Go.Proofs.Ytbpnfpckoapdbaa.PT19
end
section
namespace Go.Proofs.Ytbpnfpckoapdbaa.PT19
open Go.RowKit Go.Proofs.Ytbpnfpckoapdbaa.M Go.Proofs.Ytbpnfpckoapdbaa.KD Go.Proofs.Ytbpnfpckoapdbaa Go.Proofs.YtbpnfpckoapdbaaW.PrintWords Go.Proofs.YtbpnfpckoapdbaaW.PrintLast Go.Proofs.YtbpnfpckoapdbaaW.PrintMore
attribute [local go_sem] max2_int min2_int max_two min_two max_three min_three max_four min_four   -- for this text's walks alone
set_option linter.unusedVariables false
set_option linter.unusedSimpArgs false
theorem grp_ecdysisref19_Same.calls (k : Nat) : (∀ (A0_0 : Option Addr) (c0_0 : Nat) (l0_0 : List (S59)) (A0_1 : Option Addr) (c0_1 : Nat) (l0_1 : List (S73)) (A1_0 : Option Addr) (c1_0 : Nat) (l1_0 : List (S59)) (A1_1 : Option Addr) (c1_1 : Nat) (l1_1 : List (S73)) (r : Bool) (w : World) (hr0_0 : Kd.C k59 w A0_0 l0_0.length l0_0) (hc0_0 : l0_0.length ≤ c0_0) (hr0_1 : Kd.C k73 w A0_1 l0_1.length l0_1) (hc0_1 : l0_1.length ≤ c0_1) (hr1_0 : Kd.C k59 w A1_0 l1_0.length l1_0) (hc1_0 : l1_0.length ≤ c1_0) (hr1_1 : Kd.C k73 w A1_1 l1_1.length l1_1) (hc1_1 : l1_1.length ≤ c1_1) (h : ecdysisref19_Same.f k l0_0 l0_1 l1_0 l1_1 = some r), Calls Try.prog 14 #[.agg #[.slice A0_0 l0_0.length c0_0, .slice A0_1 l0_1.length c0_1], .agg #[.slice A1_0 l1_0.length c1_0, .slice A1_1 l1_1.length c1_1]] w fun e w' => e = .returned (.bool r) ∧ Below w.heap.size w w') ∧ (∀ (A0 : Option Addr) (c0 : Nat) (l0 : List (S70)) (A1 : Option Addr) (c1 : Nat) (l1 : List (S70)) (r : Bool) (w : World) (hr0 : Kd.C k70 w A0 l0.length l0) (hc0 : l0.length ≤ c0) (hr1 : Kd.C k70 w A1 l1.length l1) (hc1 : l1.length ≤ c1) (h : ecdysisref19_SameVals.f k l0 l1 = some r), Calls Try.prog 43 #[.slice A0 l0.length c0, .slice A1 l1.length c1] w fun e w' => e = .returned (.bool r) ∧ Below w.heap.size w w') := by
 induction k using Nat.strongRecOn with
 | _ k ih =>
 exact ⟨ecdysisref19_Same.callsR k (fun k_ hk_ => (ih k_ hk_).1) (fun k_ hk_ => (ih k_ hk_).2), ecdysisref19_SameVals.callsR k (fun k_ hk_ => (ih k_ hk_).1) (fun k_ hk_ => (ih k_ hk_).2)⟩
theorem ecdysisref19_Same.calls (k : Nat) (A0_0 : Option Addr) (c0_0 : Nat) (l0_0 : List (S59)) (A0_1 : Option Addr) (c0_1 : Nat) (l0_1 : List (S73)) (A1_0 : Option Addr) (c1_0 : Nat) (l1_0 : List (S59)) (A1_1 : Option Addr) (c1_1 : Nat) (l1_1 : List (S73)) (r : Bool) (w : World) (hr0_0 : Kd.C k59 w A0_0 l0_0.length l0_0) (hc0_0 : l0_0.length ≤ c0_0) (hr0_1 : Kd.C k73 w A0_1 l0_1.length l0_1) (hc0_1 : l0_1.length ≤ c0_1) (hr1_0 : Kd.C k59 w A1_0 l1_0.length l1_0) (hc1_0 : l1_0.length ≤ c1_0) (hr1_1 : Kd.C k73 w A1_1 l1_1.length l1_1) (hc1_1 : l1_1.length ≤ c1_1) (h : ecdysisref19_Same.f k l0_0 l0_1 l1_0 l1_1 = some r) :
 Calls Try.prog 14 #[.agg #[.slice A0_0 l0_0.length c0_0, .slice A0_1 l0_1.length c0_1], .agg #[.slice A1_0 l1_0.length c1_0, .slice A1_1 l1_1.length c1_1]] w fun e w' => e = .returned (.bool r) ∧ Below w.heap.size w w' := (grp_ecdysisref19_Same.calls k).1 A0_0 c0_0 l0_0 A0_1 c0_1 l0_1 A1_0 c1_0 l1_0 A1_1 c1_1 l1_1 r w hr0_0 hc0_0 hr0_1 hc0_1 hr1_0 hc1_0 hr1_1 hc1_1 h
theorem ecdysisref19_SameVals.calls (k : Nat) (A0 : Option Addr) (c0 : Nat) (l0 : List (S70)) (A1 : Option Addr) (c1 : Nat) (l1 : List (S70)) (r : Bool) (w : World) (hr0 : Kd.C k70 w A0 l0.length l0) (hc0 : l0.length ≤ c0) (hr1 : Kd.C k70 w A1 l1.length l1) (hc1 : l1.length ≤ c1) (h : ecdysisref19_SameVals.f k l0 l1 = some r) :
 Calls Try.prog 43 #[.slice A0 l0.length c0, .slice A1 l1.length c1] w fun e w' => e = .returned (.bool r) ∧ Below w.heap.size w w' := (grp_ecdysisref19_Same.calls k).2 A0 c0 l0 A1 c1 l1 r w hr0 hc0 hr1 hc1 h
def ecdysisref19_Get.l0 : Nat → Int → Int → List (S59) → List (S73) → Option ((List (S70)))
 | 0, _, _, _, _ => none
 | k + 1, x1, x5, x154000, x154001 => if x5 < (x154000.length : Int) then (if 0 ≤ x5 then (if ((rd_T59 x154000 x5).f0) = x1 then (some ((rd_T59 x154000 x5).f1)) else (ecdysisref19_Get.l0 k x1 (wrap64 (x5 + 1)) x154000 x154001)) else (none)) else (some ([] : List (S70)))
def ecdysisref19_Get.f (k : Nat) (l0_0 : List (S59)) (l0_1 : List (S73)) (a1 : Int) : Option ((List (S70))) := ecdysisref19_Get.l0 k a1 0 l0_0 l0_1
set_option maxHeartbeats 8000000 in
set_option maxRecDepth 100000 in
theorem ecdysisref19_Get.calls (k : Nat) (P0_0_ : Nat → Prop) (A0_0 : Option Addr) (c0_0 : Nat) (l0_0 : List (S59)) (A0_1 : Option Addr) (c0_1 : Nat) (l0_1 : List (S73)) (a1 : Int) (r : List (S70)) (w : World) (hs0_0 : Kd.V k59 59 w w.heap.size (fun k_ => P0_0_ k_) (.slice A0_0 l0_0.length c0_0) l0_0) (hr0_1 : Kd.C k73 w A0_1 l0_1.length l0_1) (hc0_1 : l0_1.length ≤ c0_1) (h : ecdysisref19_Get.f k l0_0 l0_1 a1 = some r) :
  Calls Try.prog 45 #[.agg #[.slice A0_0 l0_0.length c0_0, .slice A0_1 l0_1.length c0_1], .int .i64 a1] w fun e w' => ∃ v0_ : Value, e = .returned (v0_) ∧ Kd.V k70 70 w' w.heap.size (fun k_ => (P0_0_ k_ ∨ w.heap.size ≤ k_)) v0_ r ∧ Below w.heap.size w w' := by
 have hu25 := Try.underlying25
 have HO0_0 := Aside0.mk (show Kd.V k59 59 w w.heap.size (fun k_ => (P0_0_ k_ ∨ w.heap.size ≤ k_)) (.slice A0_0 l0_0.length c0_0) l0_0 from Kd.V_mono hs0_0 (fun k_ hk => .inl hk))
 have HR0_1 := Aside0.mk hr0_1
 have HC0_1 := Aside0.mk hc0_1
 clear hr0_1 hc0_1
 have HB := Aside0.mk (Below.refl w.heap.size w)
 have H : (ecdysisref19_Get.l0 k a1 0 l0_0 l0_1) = some r := h
 clear h
 have H' := Aside0.mk H
 clear H
 go_enter Try.func45, Try.ntmps45
 go_wp2_with (first | ((with_reducible refine gate_dst (N := 2) rfl ?_); refine box_event ?hg (N := 2) ?hd (cs := #[.slice A0_0 l0_0.length c0_0, .slice A0_1 l0_1.length c0_1]) (t := 25) ?hr ?_; (case hd => rfl); (case hg => rfl); (case hr => first | (go_simp; done) | (go_simp; rfl)); intro gb153 hg w3 hbox hb; have n0_ := Aside0.mk (Kd.V_below (Kd.V_elderB HO0_0.out gb153 (Nat.le_of_eq hg.symm)) hb); have n1_ := Aside0.mk (below_step HB.out hb); have n2_ := Aside0.mk (hbox); clear HO0_0; clear HB; have HO0_0 := n0_; have HB := n1_; have BK153 := n2_; clear n0_ n1_ n2_; clear hb hbox hg))
 go_loopg [5] k (fun kq v5 w' => ∃ (x5_1 : Int), v5 = .int .i64 x5_1 ∧ Aside0 (ecdysisref19_Get.l0 kq a1 x5_1 l0_0 l0_1 = some r) ∧ Aside0 (kq ≤ k) ∧ Aside0 (Kd.V k59 59 w' w.heap.size (fun k_ => (P0_0_ k_ ∨ w.heap.size ≤ k_) ∧ k_ ≠ gb153) (.slice A0_0 l0_0.length c0_0) l0_0) ∧ Aside0 (w'.heap[gb153]? = some (.cells #[(.slice A0_0 l0_0.length c0_0), (.slice A0_1 l0_1.length c0_1)] 25 (0, 0))) ∧ Aside0 (Below w.heap.size w w'))
 case atStart => exact ⟨(0), (by first | rfl ), H', ⟨Nat.le_refl _⟩, ⟨by exact HO0_0.out⟩, ⟨by exact BK153.out⟩, ⟨by exact HB.out⟩⟩
 case round =>
  clear H'
  try clear p2
  obtain ⟨x5_1, rfl, HA, HK1, HO_154000, BK153, HB⟩ := hrel
  cases gk with
  | zero => exact absurd HA.out (by simp [ecdysisref19_Get.l0])
  | succ k1 =>
   have H := HA.out
   clear HA
   simp only [ecdysisref19_Get.l0] at H
   by_cases c4 : x5_1 < (l0_0.length : Int)
   · rw [if_pos c4] at H
     have c4b0 : decide (x5_1 < (l0_0.length : Int)) = true := decide_eq_true c4
     clear c4
     by_cases c5 : 0 ≤ x5_1
     · rw [if_pos c5] at H
       have c5b0 : decide (0 ≤ x5_1) = true := decide_eq_true c5
       clear c5
       by_cases c6 : ((rd_T59 l0_0 x5_1).f0) = a1
       · rw [if_pos c6] at H
         have c6b0 : (((rd_T59 l0_0 x5_1).f0) == a1) = true := beq_iff_eq.mpr c6
         have c6b1 : (((rd_T59 l0_0 x5_1).f0) != a1) = false := bne_eq_false_iff_eq.mpr c6
         clear c6
         obtain rfl := Option.some.inj H
         have hcz7_0 : wr.cell? ⟨gb153, 0, none⟩ = some (.slice A0_0 l0_0.length c0_0) := (blk_cell BK153.out 0).trans rfl
         have hcz7_1 : wr.cell? ⟨gb153, 1, none⟩ = some (.slice A0_1 l0_1.length c0_1) := (blk_cell BK153.out 1).trans rfl
         have hfz7_0 := blk_frozen BK153.out 0
         have hfz7_1 := blk_frozen BK153.out 1
         have p154 : 0 ≤ (x5_1 : Int) := of_decide_eq_true (by first | (with_reducible assumption) )
         have q154 : x5_1 < (l0_0.length : Int) := of_decide_eq_true (by first | (with_reducible assumption) )
         obtain ⟨ad154, A154_1, c154_1, e154, hx154_0, hx154_1, hl154_1, hi154_1⟩ := at_T59 (Kd.V_reads' HO_154000.out).2.2 x5_1 p154 q154
         cases e154
         obtain ⟨ce154, hce154, hMe154, hcc154⟩ := Kd.V_get HO_154000.out z59 x5_1 p154 (by first | exact q154 )
         obtain ⟨ua154_1, uc154_1, rfl, ul154_1, ge154_1⟩ := k59_openF hMe154
         have hv154_1 := hcc154 1 _ rfl
         rw [add_field _ _ 1 (by omega)] at hv154_1
         replace hv154_1 := Option.some.inj (hv154_1.symm.trans hx154_1)
         injection hv154_1 with hva_ hvn_ hvc_
         rw [hva_] at ge154_1
         rw [hvc_] at ul154_1
         have HL154_1 := Aside0.mk (show Kd.V k70 70 _ w.heap.size _ _ ((rd_T59 l0_0 x5_1).f1) from Kd.V_mk ul154_1 ge154_1)
         clear hva_ hvn_ hvc_ ge154_1 ul154_1
         clear hcc154 hce154
         have HR154_1 := Aside0.mk hi154_1
         have HC154_1 := Aside0.mk hl154_1
         clear hi154_1 hl154_1
         replace p154 := eq_true p154
         replace q154 := eq_true q154
         have p155 : 0 ≤ (x5_1 : Int) := of_decide_eq_true (by first | (with_reducible assumption) )
         have q155 : x5_1 < (l0_0.length : Int) := of_decide_eq_true (by first | (with_reducible assumption) )
         obtain ⟨ad155, A155_1, c155_1, e155, hx155_0, hx155_1, hl155_1, hi155_1⟩ := at_T59 (Kd.V_reads' HO_154000.out).2.2 x5_1 p155 q155
         obtain rfl : ad154 = ad155 := (by injection e155)
         obtain ⟨ce155, hce155, hMe155, hcc155⟩ := Kd.V_get HO_154000.out z59 x5_1 p155 (by first | exact q155 )
         obtain ⟨ua155_1, uc155_1, rfl, ul155_1, ge155_1⟩ := k59_openF hMe155
         have hv155_1 := hcc155 1 _ rfl
         rw [add_field _ _ 1 (by omega)] at hv155_1
         replace hv155_1 := Option.some.inj (hv155_1.symm.trans hx155_1)
         injection hv155_1 with hva_ hvn_ hvc_
         rw [hva_] at ge155_1
         rw [hvc_] at ul155_1
         have HL155_1 := Aside0.mk (show Kd.V k70 70 _ w.heap.size _ _ ((rd_T59 l0_0 x5_1).f1) from Kd.V_mk ul155_1 ge155_1)
         clear hva_ hvn_ hvc_ ge155_1 ul155_1
         clear hcc155 hce155
         have HR155_1 := Aside0.mk hi155_1
         have HC155_1 := Aside0.mk hl155_1
         clear hi155_1 hl155_1
         replace p155 := eq_true p155
         replace q155 := eq_true q155
         have ea_ := Option.some.inj (hx154_1.symm.trans hx155_1)
         injection ea_ with ea_ en_ ec_
         subst ea_
         subst ec_
         clear en_
         go_wp2
         go_ret
         exact ⟨_, by first | rfl , by exact Kd.V_mono HL155_1.out (fun _ hk => hk.1), by exact HB.out⟩
       · rw [if_neg c6] at H
         have c6b0 : (((rd_T59 l0_0 x5_1).f0) == a1) = false := beq_eq_false_iff_ne.mpr c6
         have c6b1 : (((rd_T59 l0_0 x5_1).f0) != a1) = true := bne_iff_ne.mpr c6
         have H' := Aside0.mk H
         clear H
         have hcz8_0 : wr.cell? ⟨gb153, 0, none⟩ = some (.slice A0_0 l0_0.length c0_0) := (blk_cell BK153.out 0).trans rfl
         have hcz8_1 : wr.cell? ⟨gb153, 1, none⟩ = some (.slice A0_1 l0_1.length c0_1) := (blk_cell BK153.out 1).trans rfl
         have hfz8_0 := blk_frozen BK153.out 0
         have hfz8_1 := blk_frozen BK153.out 1
         have p154 : 0 ≤ (x5_1 : Int) := of_decide_eq_true (by first | (with_reducible assumption) )
         have q154 : x5_1 < (l0_0.length : Int) := of_decide_eq_true (by first | (with_reducible assumption) )
         obtain ⟨ad154, A154_1, c154_1, e154, hx154_0, hx154_1, hl154_1, hi154_1⟩ := at_T59 (Kd.V_reads' HO_154000.out).2.2 x5_1 p154 q154
         cases e154
         obtain ⟨ce154, hce154, hMe154, hcc154⟩ := Kd.V_get HO_154000.out z59 x5_1 p154 (by first | exact q154 )
         obtain ⟨ua154_1, uc154_1, rfl, ul154_1, ge154_1⟩ := k59_openF hMe154
         have hv154_1 := hcc154 1 _ rfl
         rw [add_field _ _ 1 (by omega)] at hv154_1
         replace hv154_1 := Option.some.inj (hv154_1.symm.trans hx154_1)
         injection hv154_1 with hva_ hvn_ hvc_
         rw [hva_] at ge154_1
         rw [hvc_] at ul154_1
         have HL154_1 := Aside0.mk (show Kd.V k70 70 _ w.heap.size _ _ ((rd_T59 l0_0 x5_1).f1) from Kd.V_mk ul154_1 ge154_1)
         clear hva_ hvn_ hvc_ ge154_1 ul154_1
         clear hcc154 hce154
         have HR154_1 := Aside0.mk hi154_1
         have HC154_1 := Aside0.mk hl154_1
         clear hi154_1 hl154_1
         replace p154 := eq_true p154
         replace q154 := eq_true q154
         go_wp2
         go_roundg k1
         case measure => have := HK1.out; omega
         case rel => exact ⟨(wrap64 (x5_1 + 1)), (by first | rfl ), H', ⟨by have := HK1.out; omega⟩, ⟨by exact HO_154000.out⟩, ⟨by exact BK153.out⟩, ⟨by exact HB.out⟩⟩
     · rw [if_neg c5] at H
       exact absurd H (by simp)
   · rw [if_neg c4] at H
     have c4b0 : decide (x5_1 < (l0_0.length : Int)) = false := decide_eq_false c4
     clear c4
     obtain rfl := Option.some.inj H
     have hcz9_0 : wr.cell? ⟨gb153, 0, none⟩ = some (.slice A0_0 l0_0.length c0_0) := (blk_cell BK153.out 0).trans rfl
     have hcz9_1 : wr.cell? ⟨gb153, 1, none⟩ = some (.slice A0_1 l0_1.length c0_1) := (blk_cell BK153.out 1).trans rfl
     have hfz9_0 := blk_frozen BK153.out 0
     have hfz9_1 := blk_frozen BK153.out 1
     go_wp2
     go_ret
     exact ⟨_, by first | rfl , Kd.V_nil _ _ _ _ _, by exact HB.out⟩
end Go.Proofs.Ytbpnfpckoapdbaa.PT19
end
section
namespace Go.Proofs.Ytbpnfpckoapdbaa.PT19
open Go.RowKit Go.Proofs.Ytbpnfpckoapdbaa.M Go.Proofs.Ytbpnfpckoapdbaa.KD Go.Proofs.Ytbpnfpckoapdbaa Go.Proofs.YtbpnfpckoapdbaaW.PrintWords Go.Proofs.YtbpnfpckoapdbaaW.PrintLast Go.Proofs.YtbpnfpckoapdbaaW.PrintMore
attribute [local go_sem] max2_int min2_int max_two min_two max_three min_three max_four min_four   -- for this text's walks alone
set_option linter.unusedVariables false
set_option linter.unusedSimpArgs false
def ecdysisref19_With.l0 : Nat → Int → List (S70) → Bool → Int → List (S59) → List (S73) → List (S59) → List (S73) → Option ((List (S59)) × (List (S73)))
 | 0, _, _, _, _, _, _, _, _ => none
 | k + 1, x1, x2, x8, x9, x157000, x157001, x159000, x159001 => if x9 < (x157000.length : Int) then (if 0 ≤ x9 then (if ((rd_T59 x157000 x9).f0) = x1 then (ecdysisref19_With.l0 k x1 x2 x8 (wrap64 (x9 + 1)) x157000 x157001 x159000 x159001) else (if x8 = true then (if x159000.length < 4398046511104 then (ecdysisref19_With.l0 k x1 x2 x8 (wrap64 (x9 + 1)) x157000 x157001 (x159000 ++ [(⟨(rd_T59 x157000 x9).f0, (rd_T59 x157000 x9).f1⟩ : S59)]) x159001) else (none)) else (if ((rd_T59 x157000 x9).f0) > x1 then (if x159000.length < 4398046511104 then ((some (x159000 ++ [(⟨x1, x2⟩ : S59)] : List (S59))).bind fun y168 => (if y168.length < 4398046511104 then (ecdysisref19_With.l0 k x1 x2 true (wrap64 (x9 + 1)) x157000 x157001 (y168 ++ [(⟨(rd_T59 x157000 x9).f0, (rd_T59 x157000 x9).f1⟩ : S59)]) x159001) else (none))) else (none)) else (if x159000.length < 4398046511104 then (ecdysisref19_With.l0 k x1 x2 x8 (wrap64 (x9 + 1)) x157000 x157001 (x159000 ++ [(⟨(rd_T59 x157000 x9).f0, (rd_T59 x157000 x9).f1⟩ : S59)]) x159001) else (none))))) else (none)) else (if x8 = true then (some (x159000, x159001)) else (if x159000.length < 4398046511104 then (some ((x159000 ++ [(⟨x1, x2⟩ : S59)]), x159001)) else (none)))
def ecdysisref19_With.f (k : Nat) (l0_0 : List (S59)) (l0_1 : List (S73)) (a1 : Int) (l2 : List (S70)) : Option ((List (S59)) × (List (S73))) := ecdysisref19_With.l0 k a1 l2 ((l2.length : Int) == 0) 0 l0_0 l0_1 ([] : List (S59)) l0_1
def ecdysisref19_With.T10 : Bool × List (List Nat × List Nat) := (true, [([], []), ([0], [0]), ([], []), ([2], [2]), ([], []), ([3, 4], [3, 4]), ([5], [5]), ([6], [6]), ([1, 7], [1, 7]), ([0, 1, 2, 3, 4, 5, 6, 7, 8], []), ([9, 8, 8, 0, 1, 2, 3, 4, 5, 6, 7, 8], [8, 9])])
def ecdysisref19_With.B10 : List Nat := [0, 1, 0, 4, 0, 28, 60, 124, 255, 511, 1023]
theorem ecdysisref19_With.tab10 : rtab .any (opsOf Try.f46 10) = ecdysisref19_With.T10 := by kernel_rfl
theorem ecdysisref19_With.bits10 : waitsOk ecdysisref19_With.T10.2 ecdysisref19_With.B10 = true := by kernel_rfl
set_option maxHeartbeats 8000000 in
set_option maxRecDepth 100000 in
theorem ecdysisref19_With.calls (k : Nat) (P0_0_ : Nat → Prop) (A0_0 : Option Addr) (c0_0 : Nat) (l0_0 : List (S59)) (P0_1_ : Nat → Prop) (u9000_ : Value) (l0_1 : List (S73)) (a1 : Int) (P2_ : Nat → Prop) (A2 : Option Addr) (c2 : Nat) (l2 : List (S70)) (r1 : List (S59)) (r2 : List (S73)) (w0 w : World) (hB : Below w0.heap.size w0 w) (hs0_0 : Kd.V k59 59 w w0.heap.size (fun k_ => P0_0_ k_ ∧ some k_ ≠ (u9000_ : Value).ownBlock) (.slice A0_0 l0_0.length c0_0) l0_0) (ho0_1 : Kd.R k73 73 w w0.heap.size P0_1_ u9000_ l0_1) (hs2 : Kd.V k70 70 w w0.heap.size (fun k_ => P2_ k_ ∧ some k_ ≠ (u9000_ : Value).ownBlock) (.slice A2 l2.length c2) l2) (h : ecdysisref19_With.f k l0_0 l0_1 a1 l2 = some (r1, r2)) :
  Calls Try.prog 46 #[.agg #[.slice A0_0 l0_0.length c0_0, u9000_], .int .i64 a1, .slice A2 l2.length c2] w fun e w' => ∃ v0_ v1_ : Value, e = .returned (.agg #[v0_, v1_]) ∧ Kd.N k59 59 w' w.heap.size (fun k_ => ((P0_1_ k_ ∨ P0_0_ k_ ∨ P2_ k_) ∨ w.heap.size ≤ k_) ∧ some k_ ≠ (v1_ : Value).ownBlock) v0_ r1 ∧ Kd.R k73 73 w' w0.heap.size (fun k_ => (P0_1_ k_ ∨ w.heap.size ≤ k_)) v1_ r2 ∧ Below w0.heap.size w0 w' ∧ Kept w w' (fun k_ => P0_1_ k_) := by
 have hu25 := Try.underlying25
 have hu59 := Try.underlying59
 have HO0_0 := Aside0.mk (show Kd.V k59 59 w w0.heap.size (fun k_ => ((P0_1_ k_ ∨ P0_0_ k_ ∨ P2_ k_) ∨ w.heap.size ≤ k_) ∧ some k_ ≠ (u9000_ : Value).ownBlock) (.slice A0_0 l0_0.length c0_0) l0_0 from Kd.V_mono hs0_0 (fun k_ hk => ⟨.inl (.inr (.inl hk.1)), hk.2⟩))
 have HO0_1 := Aside0.mk (show Kd.R k73 73 w w0.heap.size (fun k_ => (P0_1_ k_ ∨ w.heap.size ≤ k_)) u9000_ l0_1 from Kd.R_mono ho0_1 (fun k_ hk => (.inl hk)))
 have HO2 := Aside0.mk (show Kd.V k70 70 w w0.heap.size (fun k_ => ((P0_1_ k_ ∨ P0_0_ k_ ∨ P2_ k_) ∨ w.heap.size ≤ k_) ∧ some k_ ≠ (u9000_ : Value).ownBlock) (.slice A2 l2.length c2) l2 from Kd.V_mono hs2 (fun k_ hk => ⟨.inl (.inr (.inr hk.1)), hk.2⟩))
 have HK := Aside0.mk (Kept.refl w (fun k_ => P0_1_ k_))
 have HW0 := Aside0.mk hB.size
 have HB := Aside0.mk hB
 clear hB
 have H : (ecdysisref19_With.l0 k a1 l2 ((l2.length : Int) == 0) 0 l0_0 l0_1 ([] : List (S59)) l0_1) = some (r1, r2) := h
 clear h
 have H' := Aside0.mk H
 clear H
 obtain ⟨Ao4, co4, eo4⟩ := Kd.R_slice HO0_1.out
 subst eo4
 go_enter Try.func46, Try.ntmps46
 go_wp2_with (first | ((with_reducible refine gate_dst (N := 3) rfl ?_); refine box_event ?hg (N := 3) ?hd (cs := #[.slice A0_0 l0_0.length c0_0, .slice Ao4 l0_1.length co4]) (t := 25) ?hr ?_; (case hd => rfl); (case hg => rfl); (case hr => first | (go_simp; done) | (go_simp; rfl)); intro gb156 hg w5 hbox hb; have n0_ := Aside0.mk (Kd.R_below HO0_1.out hb); have n1_ := Aside0.mk (Kd.V_below (Kd.V_elderB HO0_0.out gb156 (Nat.le_of_eq hg.symm)) hb); have n2_ := Aside0.mk (Kd.V_below (Kd.V_elderB HO2.out gb156 (Nat.le_of_eq hg.symm)) hb); have n3_ := Aside0.mk (Kept.below (S := (fun k_ => P0_1_ k_)) HK.out hb); have n4_ := Aside0.mk (below_step HB.out hb); have n5_ := Aside0.mk (hbox); clear HO0_1; clear HO0_0; clear HO2; clear HK; clear HB; have HO0_1 := n0_; have HO0_0 := n1_; have HO2 := n2_; have HK := n3_; have HB := n4_; have BK156 := n5_; clear n0_ n1_ n2_ n3_ n4_ n5_; clear hb hbox hg) | ((with_reducible refine gate_dst (N := 6) rfl ?_); refine box_event ?hg (N := 6) ?hd (cs := #[.slice none 0 0, .slice none 0 0]) (t := 25) ?hr ?_; (case hd => rfl); (case hg => rfl); (case hr => first | (go_simp; done) | (go_simp; rfl)); intro gb157 hg w6 hbox hb; have n0_ := Aside0.mk (Kd.R_below HO0_1.out hb); have n1_ := Aside0.mk (Kd.V_below (Kd.V_elderB HO0_0.out gb157 (Nat.le_of_eq hg.symm)) hb); have n2_ := Aside0.mk (Kd.V_below (Kd.V_elderB HO2.out gb157 (Nat.le_of_eq hg.symm)) hb); have n3_ := Aside0.mk (blk_below BK156.out hb); have n4_ := Aside0.mk (Kept.below (S := (fun k_ => P0_1_ k_)) HK.out hb); have n5_ := Aside0.mk (below_step HB.out hb); have n6_ := Aside0.mk (hbox); have n7_ := Aside0.mk ((by rw [hg]; exact (by first | exact HK.out.1 ) : w.heap.size ≤ gb157)); have n8_ := Aside0.mk ((by rw [hg]; exact (below_size HB.out) : w0.heap.size ≤ gb157)); have n9_ := Aside0.mk ((by rw [hg]; exact Nat.ne_of_lt (blk_lt BK156.out) : gb156 ≠ gb157)); have n10_ := Aside0.mk ((by rw [hg]; exact Nat.ne_of_gt (blk_lt BK156.out) : gb157 ≠ gb156)); clear HO0_1; clear HO0_0; clear HO2; clear BK156; clear HK; clear HB; have HO0_1 := n0_; have HO0_0 := n1_; have HO2 := n2_; have BK156 := n3_; have HK := n4_; have HB := n5_; have BK157 := n6_; have GW157 := n7_; have GE157 := n8_; have NB156_157 := n9_; have NB157_156 := n10_; clear n0_ n1_ n2_ n3_ n4_ n5_ n6_ n7_ n8_ n9_ n10_; clear hb hbox hg; have hnb7 := NB156_157.out; have hnc7 := NB157_156.out; have hcz8_0 : w6.cell? ⟨gb156, 0, none⟩ = some (.slice A0_0 l0_0.length c0_0) := (blk_cell BK156.out 0).trans rfl; have hcz8_1 : w6.cell? ⟨gb156, 1, none⟩ = some (.slice Ao4 l0_1.length co4) := (blk_cell BK156.out 1).trans rfl; have hfz8_0 := blk_frozen BK156.out 0; have hfz8_1 := blk_frozen BK156.out 1) | ((with_reducible refine gate_dst (N := 7) rfl ?_); refine box_event ?hg (N := 7) ?hd (cs := #[.slice none 0 0, .slice none 0 0]) (t := 25) ?hr ?_; (case hd => rfl); (case hg => rfl); (case hr => first | (go_simp; done) | (go_simp; rfl)); intro gb158 hg w9 hbox hb; have n0_ := Aside0.mk (Kd.R_below HO0_1.out hb); have n1_ := Aside0.mk (Kd.V_below (Kd.V_elderB HO0_0.out gb158 (Nat.le_of_eq hg.symm)) hb); have n2_ := Aside0.mk (Kd.V_below (Kd.V_elderB HO2.out gb158 (Nat.le_of_eq hg.symm)) hb); have n3_ := Aside0.mk (blk_below BK156.out hb); have n4_ := Aside0.mk (blk_below BK157.out hb); have n5_ := Aside0.mk (Kept.below (S := (fun k_ => P0_1_ k_)) HK.out hb); have n6_ := Aside0.mk (below_step HB.out hb); have n7_ := Aside0.mk (hbox); have n8_ := Aside0.mk ((by rw [hg]; exact (by first | exact HK.out.1 ) : w.heap.size ≤ gb158)); have n9_ := Aside0.mk ((by rw [hg]; exact (below_size HB.out) : w0.heap.size ≤ gb158)); have n10_ := Aside0.mk ((by rw [hg]; exact Nat.ne_of_lt (blk_lt BK156.out) : gb156 ≠ gb158)); have n11_ := Aside0.mk ((by rw [hg]; exact Nat.ne_of_gt (blk_lt BK156.out) : gb158 ≠ gb156)); have n12_ := Aside0.mk ((by rw [hg]; exact Nat.ne_of_lt (blk_lt BK157.out) : gb157 ≠ gb158)); have n13_ := Aside0.mk ((by rw [hg]; exact Nat.ne_of_gt (blk_lt BK157.out) : gb158 ≠ gb157)); clear HO0_1; clear HO0_0; clear HO2; clear BK156; clear BK157; clear HK; clear HB; have HO0_1 := n0_; have HO0_0 := n1_; have HO2 := n2_; have BK156 := n3_; have BK157 := n4_; have HK := n5_; have HB := n6_; have BK158 := n7_; have GW158 := n8_; have GE158 := n9_; have NB156_158 := n10_; have NB158_156 := n11_; have NB157_158 := n12_; have NB158_157 := n13_; clear n0_ n1_ n2_ n3_ n4_ n5_ n6_ n7_ n8_ n9_ n10_ n11_ n12_ n13_; clear hb hbox hg; have hnb10 := NB158_156.out; have hnc10 := NB156_158.out; have hnb11 := NB158_157.out; have hnc11 := NB157_158.out; have hcz12_0 : w9.cell? ⟨gb158, 0, none⟩ = some (.slice none 0 0) := (blk_cell BK158.out 0).trans rfl; have hcz12_1 : w9.cell? ⟨gb158, 1, none⟩ = some (.slice none 0 0) := (blk_cell BK158.out 1).trans rfl; have hfz12_0 := blk_frozen BK158.out 0; have hfz12_1 := blk_frozen BK158.out 1))
 go_loopg [8, 9] k (fun kq v8 v9 w' => ∃ (x8_1 : Bool) (x9_1 : Int) (x159000_1 : List (S59)) (u159000 : Value), v8 = .bool x8_1 ∧ v9 = .int .i64 x9_1 ∧ Aside0 (ecdysisref19_With.l0 kq a1 l2 x8_1 x9_1 l0_0 l0_1 x159000_1 l0_1 = some (r1, r2)) ∧ Aside0 (kq ≤ k) ∧ Aside0 (Kd.V k70 70 w' w0.heap.size (fun k_ => ((P0_1_ k_ ∨ P0_0_ k_ ∨ P2_ k_) ∨ w.heap.size ≤ k_) ∧ some k_ ≠ ((.slice Ao4 l0_1.length co4) : Value).ownBlock ∧ some k_ ≠ (u159000 : Value).ownBlock ∧ some k_ ≠ ((.slice Ao4 l0_1.length co4) : Value).ownBlock ∧ k_ ≠ gb156 ∧ k_ ≠ gb157 ∧ k_ ≠ gb158) (.slice A2 l2.length c2) l2) ∧ Aside0 (Kd.V k59 59 w' w0.heap.size (fun k_ => ((P0_1_ k_ ∨ P0_0_ k_ ∨ P2_ k_) ∨ w.heap.size ≤ k_) ∧ some k_ ≠ ((.slice Ao4 l0_1.length co4) : Value).ownBlock ∧ some k_ ≠ (u159000 : Value).ownBlock ∧ some k_ ≠ ((.slice Ao4 l0_1.length co4) : Value).ownBlock ∧ k_ ≠ gb156 ∧ k_ ≠ gb157 ∧ k_ ≠ gb158) (.slice A0_0 l0_0.length c0_0) l0_0) ∧ Aside0 (Kd.R k73 73 w' w0.heap.size (fun k_ => (P0_1_ k_ ∨ w.heap.size ≤ k_)) (.slice Ao4 l0_1.length co4) l0_1) ∧ Aside0 (Kd.N k59 59 w' w.heap.size (fun k_ => ((P0_1_ k_ ∨ P0_0_ k_ ∨ P2_ k_) ∨ w.heap.size ≤ k_) ∧ some k_ ≠ ((.slice Ao4 l0_1.length co4) : Value).ownBlock ∧ some k_ ≠ ((.slice Ao4 l0_1.length co4) : Value).ownBlock ∧ k_ ≠ gb156 ∧ k_ ≠ gb157 ∧ k_ ≠ gb158) u159000 x159000_1) ∧ Aside0 (Kd.R k73 73 w' w0.heap.size (fun k_ => (P0_1_ k_ ∨ w.heap.size ≤ k_)) (.slice Ao4 l0_1.length co4) l0_1) ∧ Aside0 (w'.heap[gb156]? = some (.cells #[(.slice A0_0 l0_0.length c0_0), (.slice Ao4 l0_1.length co4)] 25 (0, 0))) ∧ Aside0 (w'.heap[gb157]? = some (.cells #[(.slice none 0 0), (.slice none 0 0)] 25 (0, 0))) ∧ Aside0 (w'.heap[gb158]? = some (.cells #[u159000, (.slice Ao4 l0_1.length co4)] 25 (0, 0))) ∧ Aside0 (Kept w w' (fun k_ => P0_1_ k_)) ∧ Aside0 (Below w0.heap.size w0 w'))
 case atStart => exact ⟨(((l2.length : Int) == 0)), (0), (([] : List (S59))), (.slice none 0 0), (by first | rfl ), (by first | rfl ), H', ⟨Nat.le_refl _⟩, ⟨by exact Kd.V_mono (Kd.V_far (p := ⟨gb158, 1, none⟩) (Kd.V_far (p := ⟨gb158, 0, none⟩) (Kd.V_mono HO2.out (fun k_ hk => (⟨hk, hk.2⟩ : _ ∧ k_ ≠ gb158))) (fun _ hk => hk.2) (.slice none 0 0)) (fun _ hk => hk.2) (.slice Ao4 l0_1.length co4)) (fun _ hk => ⟨hk.1.1.1.1.1, ⟨hk.1.1.1.1.2, ⟨(by simp [Value.ownBlock]), ⟨hk.1.1.1.1.2, ⟨hk.1.1.1.2, ⟨hk.1.1.2, hk.1.2⟩⟩⟩⟩⟩⟩)⟩, ⟨by exact Kd.V_mono (Kd.V_far (p := ⟨gb158, 1, none⟩) (Kd.V_far (p := ⟨gb158, 0, none⟩) (Kd.V_mono HO0_0.out (fun k_ hk => (⟨hk, hk.2⟩ : _ ∧ k_ ≠ gb158))) (fun _ hk => hk.2) (.slice none 0 0)) (fun _ hk => hk.2) (.slice Ao4 l0_1.length co4)) (fun _ hk => ⟨hk.1.1.1.1.1, ⟨hk.1.1.1.1.2, ⟨(by simp [Value.ownBlock]), ⟨hk.1.1.1.1.2, ⟨hk.1.1.1.2, ⟨hk.1.1.2, hk.1.2⟩⟩⟩⟩⟩⟩)⟩, ⟨by exact Kd.R_mono (Kd.R_far (p := ⟨gb158, 1, none⟩) (Kd.R_far (p := ⟨gb158, 0, none⟩) (Kd.R_types HO0_1.out BK158.out (by decide)) (fun _ hk => hk.2) (.slice none 0 0)) (fun _ hk => hk.2) (.slice Ao4 l0_1.length co4)) (fun _ hk => hk.1)⟩, ⟨by first | exact Kd.N_nil _ _ _ _ _ ⟩, ⟨by exact Kd.R_mono (Kd.R_far (p := ⟨gb158, 1, none⟩) (Kd.R_far (p := ⟨gb158, 0, none⟩) (Kd.R_types HO0_1.out BK158.out (by decide)) (fun _ hk => hk.2) (.slice none 0 0)) (fun _ hk => hk.2) (.slice Ao4 l0_1.length co4)) (fun _ hk => hk.1)⟩, ⟨by refine blk_far ?_ NB156_158.out _; refine blk_far ?_ NB156_158.out _; exact BK156.out⟩, ⟨by refine blk_far ?_ NB157_158.out _; refine blk_far ?_ NB157_158.out _; exact BK157.out⟩, ⟨by refine blk_put (cs := #[.slice none 0 0, .slice none 0 0]) ?_ 1 _ rfl; refine blk_put (cs := #[.slice none 0 0, .slice none 0 0]) ?_ 0 _ rfl; exact BK158.out⟩, ⟨by repeat (first | (with_reducible first | exact HK.out | refine Kept.setCell ?_ (.inr GW158.out) _) )⟩, ⟨by repeat (first | (with_reducible first | exact HB.out | refine below_set ?_ GE158.out) )⟩⟩
 case round =>
  clear H'
  try clear c1
  try clear c2
  try clear p2
  try clear c4
  try clear c7
  try clear c10
  try clear c11
  try clear hcz12_0
  try clear hcz12_1
  try clear hcz8_0
  try clear hcz8_1
  try clear hfz12_0
  try clear hfz12_1
  try clear hfz8_0
  try clear hfz8_1
  obtain ⟨x8_1, x9_1, x159000_1, u159000, rfl, rfl, HA, HK1, HO_2, HO_157000, HO_157001, HO_159000, HO_159001, BK156, BK157, BK158, HK, HB⟩ := hrel
  cases gk with
  | zero => exact absurd HA.out (by simp [ecdysisref19_With.l0])
  | succ k1 =>
   have H := HA.out
   clear HA
   simp only [ecdysisref19_With.l0] at H
   by_cases c13 : x9_1 < (l0_0.length : Int)
   · rw [if_pos c13] at H
     have c13b0 : decide (x9_1 < (l0_0.length : Int)) = true := decide_eq_true c13
     clear c13
     by_cases c14 : 0 ≤ x9_1
     · rw [if_pos c14] at H
       have c14b0 : decide (0 ≤ x9_1) = true := decide_eq_true c14
       clear c14
       by_cases c15 : ((rd_T59 l0_0 x9_1).f0) = a1
       · rw [if_pos c15] at H
         have c15b0 : (((rd_T59 l0_0 x9_1).f0) == a1) = true := beq_iff_eq.mpr c15
         have c15b1 : (((rd_T59 l0_0 x9_1).f0) != a1) = false := bne_eq_false_iff_eq.mpr c15
         clear c15
         have H' := Aside0.mk H
         clear H
         have hnb16 := NB156_157.out
         have hnc16 := NB157_156.out
         have hnb17 := NB156_158.out
         have hnc17 := NB158_156.out
         have hcz18_0 : wr.cell? ⟨gb156, 0, none⟩ = some (.slice A0_0 l0_0.length c0_0) := (blk_cell BK156.out 0).trans rfl
         have hcz18_1 : wr.cell? ⟨gb156, 1, none⟩ = some (.slice Ao4 l0_1.length co4) := (blk_cell BK156.out 1).trans rfl
         have hfz18_0 := blk_frozen BK156.out 0
         have hfz18_1 := blk_frozen BK156.out 1
         have p162 : 0 ≤ (x9_1 : Int) := of_decide_eq_true (by first | (with_reducible assumption) )
         have q162 : x9_1 < (l0_0.length : Int) := of_decide_eq_true (by first | (with_reducible assumption) )
         obtain ⟨ad162, A162_1, c162_1, e162, hx162_0, hx162_1, hl162_1, hi162_1⟩ := at_T59 (Kd.V_reads' HO_157000.out).2.2 x9_1 p162 q162
         cases e162
         obtain ⟨ce162, hce162, hMe162, hcc162⟩ := Kd.V_get HO_157000.out z59 x9_1 p162 (by first | exact q162 )
         obtain ⟨ua162_1, uc162_1, rfl, ul162_1, ge162_1⟩ := k59_openF hMe162
         have hv162_1 := hcc162 1 _ rfl
         rw [add_field _ _ 1 (by omega)] at hv162_1
         replace hv162_1 := Option.some.inj (hv162_1.symm.trans hx162_1)
         injection hv162_1 with hva_ hvn_ hvc_
         rw [hva_] at ge162_1
         rw [hvc_] at ul162_1
         have HL162_1 := Aside0.mk (show Kd.V k70 70 _ w0.heap.size _ _ ((rd_T59 l0_0 x9_1).f1) from Kd.V_mk ul162_1 ge162_1)
         clear hva_ hvn_ hvc_ ge162_1 ul162_1
         clear hcc162 hce162
         have HR162_1 := Aside0.mk hi162_1
         have HC162_1 := Aside0.mk hl162_1
         clear hi162_1 hl162_1
         replace p162 := eq_true p162
         replace q162 := eq_true q162
         go_wp2
         go_roundg k1
         case measure => have := HK1.out; omega
         case rel => exact ⟨(x8_1), (wrap64 (x9_1 + 1)), (x159000_1), (u159000), (by first | rfl ), (by first | rfl ), H', ⟨by have := HK1.out; omega⟩, ⟨by exact HO_2.out⟩, ⟨by exact HO_157000.out⟩, ⟨by exact HO_157001.out⟩, ⟨by exact HO_159000.out⟩, ⟨by exact HO_159001.out⟩, ⟨by exact BK156.out⟩, ⟨by exact BK157.out⟩, ⟨by exact BK158.out⟩, ⟨by exact HK.out⟩, ⟨by exact HB.out⟩⟩
       · rw [if_neg c15] at H
         have c15b0 : (((rd_T59 l0_0 x9_1).f0) == a1) = false := beq_eq_false_iff_ne.mpr c15
         have c15b1 : (((rd_T59 l0_0 x9_1).f0) != a1) = true := bne_iff_ne.mpr c15
         by_cases c19 : x8_1 = true
         · subst c19
           have H1 : (if x159000_1.length < 4398046511104 then (ecdysisref19_With.l0 k1 a1 l2 true (wrap64 (x9_1 + 1)) l0_0 l0_1 (x159000_1 ++ [(⟨(rd_T59 l0_0 x9_1).f0, (rd_T59 l0_0 x9_1).f1⟩ : S59)]) l0_1) else (none)) = some (r1, r2) := by rw [if_pos rfl] at H; exact H
           clear H
           have H := H1
           clear H1
           by_cases c20 : x159000_1.length < 4398046511104
           · rw [if_pos c20] at H
             have LMc20 := Aside0.mk c20
             clear c20
             obtain ⟨y164, hy164⟩ : ∃ y_ : List (S59), y_ = (x159000_1 ++ [(⟨(rd_T59 l0_0 x9_1).f0, (rd_T59 l0_0 x9_1).f1⟩ : S59)]) := ⟨_, rfl⟩
             replace H : (ecdysisref19_With.l0 k1 a1 l2 true (wrap64 (x9_1 + 1)) l0_0 l0_1 y164 l0_1) = some (r1, r2) := by first | (rw [hy164]; with_reducible exact H) 
             have Ny164 := Aside0.mk hy164
             clear hy164
             have H' := Aside0.mk H
             clear H
             have hnb21 := NB156_157.out
             have hnc21 := NB157_156.out
             have hnb22 := NB156_158.out
             have hnc22 := NB158_156.out
             have hcz23_0 : wr.cell? ⟨gb156, 0, none⟩ = some (.slice A0_0 l0_0.length c0_0) := (blk_cell BK156.out 0).trans rfl
             have hcz23_1 : wr.cell? ⟨gb156, 1, none⟩ = some (.slice Ao4 l0_1.length co4) := (blk_cell BK156.out 1).trans rfl
             have hfz23_0 := blk_frozen BK156.out 0
             have hfz23_1 := blk_frozen BK156.out 1
             have p162 : 0 ≤ (x9_1 : Int) := of_decide_eq_true (by first | (with_reducible assumption) )
             have q162 : x9_1 < (l0_0.length : Int) := of_decide_eq_true (by first | (with_reducible assumption) )
             obtain ⟨ad162, A162_1, c162_1, e162, hx162_0, hx162_1, hl162_1, hi162_1⟩ := at_T59 (Kd.V_reads' HO_157000.out).2.2 x9_1 p162 q162
             cases e162
             obtain ⟨ce162, hce162, hMe162, hcc162⟩ := Kd.V_get HO_157000.out z59 x9_1 p162 (by first | exact q162 )
             obtain ⟨ua162_1, uc162_1, rfl, ul162_1, ge162_1⟩ := k59_openF hMe162
             have hv162_1 := hcc162 1 _ rfl
             rw [add_field _ _ 1 (by omega)] at hv162_1
             replace hv162_1 := Option.some.inj (hv162_1.symm.trans hx162_1)
             injection hv162_1 with hva_ hvn_ hvc_
             rw [hva_] at ge162_1
             rw [hvc_] at ul162_1
             have HL162_1 := Aside0.mk (show Kd.V k70 70 _ w0.heap.size _ _ ((rd_T59 l0_0 x9_1).f1) from Kd.V_mk ul162_1 ge162_1)
             clear hva_ hvn_ hvc_ ge162_1 ul162_1
             clear hcc162 hce162
             have HR162_1 := Aside0.mk hi162_1
             have HC162_1 := Aside0.mk hl162_1
             clear hi162_1 hl162_1
             replace p162 := eq_true p162
             replace q162 := eq_true q162
             try go_wp2
             have n0_ := Aside0.mk (Kd.V_drew HO_2.out)
             have n1_ := Aside0.mk (Kd.V_drew HO_157000.out)
             have n2_ := Aside0.mk (Kd.R_drew HO_157001.out)
             have n3_ := Aside0.mk (Kd.N_drew HO_159000.out)
             have n4_ := Aside0.mk (Kd.R_drew HO_159001.out)
             have n5_ := Aside0.mk (Kd.V_drew HL162_1.out)
             have n6_ := Aside0.mk (blk_drew BK156.out)
             have n7_ := Aside0.mk (blk_drew BK157.out)
             have n8_ := Aside0.mk (blk_drew BK158.out)
             have n9_ := Aside0.mk (Kd.C_drew HR162_1.out)
             have n10_ := Aside0.mk (Kept.drew HK.out)
             have n11_ := Aside0.mk (below_drew1 HB.out)
             clear HO_2
             clear HO_157000
             clear HO_157001
             clear HO_159000
             clear HO_159001
             clear HL162_1
             clear BK156
             clear BK157
             clear BK158
             clear HR162_1
             clear HK
             clear HB
             have HO_2 := n0_
             have HO_157000 := n1_
             have HO_157001 := n2_
             have HO_159000 := n3_
             have HO_159001 := n4_
             have HL162_1 := n5_
             have BK156 := n6_
             have BK157 := n7_
             have BK158 := n8_
             have HR162_1 := n9_
             have HK := n10_
             have HB := n11_
             clear n0_ n1_ n2_ n3_ n4_ n5_ n6_ n7_ n8_ n9_ n10_ n11_
             have p163 : 0 ≤ (x9_1 : Int) := of_decide_eq_true (by first | (with_reducible assumption) )
             have q163 : x9_1 < (l0_0.length : Int) := of_decide_eq_true (by first | (with_reducible assumption) )
             obtain ⟨ad163, A163_1, c163_1, e163, hx163_0, hx163_1, hl163_1, hi163_1⟩ := at_T59 (Kd.V_reads' HO_157000.out).2.2 x9_1 p163 q163
             obtain rfl : ad162 = ad163 := (by injection e163)
             obtain ⟨ce163, hce163, hMe163, hcc163⟩ := Kd.V_get HO_157000.out z59 x9_1 p163 (by first | exact q163 )
             obtain ⟨ua163_1, uc163_1, rfl, ul163_1, ge163_1⟩ := k59_openF hMe163
             have hv163_1 := hcc163 1 _ rfl
             rw [add_field _ _ 1 (by omega)] at hv163_1
             replace hv163_1 := Option.some.inj (hv163_1.symm.trans hx163_1)
             injection hv163_1 with hva_ hvn_ hvc_
             rw [hva_] at ge163_1
             rw [hvc_] at ul163_1
             have HL163_1 := Aside0.mk (show Kd.V k70 70 _ w0.heap.size _ _ ((rd_T59 l0_0 x9_1).f1) from Kd.V_mk ul163_1 ge163_1)
             clear hva_ hvn_ hvc_ ge163_1 ul163_1
             clear hcc163 hce163
             have HR163_1 := Aside0.mk hi163_1
             have HC163_1 := Aside0.mk hl163_1
             clear hi163_1 hl163_1
             replace p163 := eq_true p163
             replace q163 := eq_true q163
             refine start_ (n := 11) (S := fun w' => w'.cell? ⟨gb158, 0, none⟩ = some (u159000) ∧ w'.cell? ⟨gb158, 1, none⟩ = some (.slice Ao4 l0_1.length co4) ∧ w'.cell? ⟨gb156, 0, none⟩ = some (.slice (some ad162) l0_0.length c0_0) ∧ w'.cell? ⟨gb156, 1, none⟩ = some (.slice Ao4 l0_1.length co4) ∧ w'.cell? (ad162.add ((x9_1).toNat * 2)) = some (.int .i64 ((rd_T59 l0_0 x9_1).f0)) ∧ w'.cell? ⟨(ad162.add ((x9_1).toNat * 2)).block, (ad162.add ((x9_1).toNat * 2)).off + 1, none⟩ = some (.slice A163_1 ((rd_T59 l0_0 x9_1).f1).length c163_1)) (ds := [8, 10]) #[false, false, false, false, false, false, false, false, false, false, false] (by kernel_rfl) rfl rfl ⟨(blk_cell BK158.out 0).trans rfl, (blk_cell BK158.out 1).trans rfl, (blk_cell BK156.out 0).trans rfl, (blk_cell BK156.out 1).trans rfl, hx163_0, hx163_1⟩ (fun hHeld => ?_); refine with_tabW ecdysisref19_With.tab10 ecdysisref19_With.bits10 (fun HT_ HW_ => ?_)
             generalize wr.drew = w24 at HO_2 HO_157000 HO_157001 HO_159000 HO_159001 HL162_1 BK156 BK157 BK158 HR162_1 HK HB HL163_1 HR163_1 hx163_0 hx163_1 hHeld ⊢
             refine zp 0 (zb 11 1) ?_ rfl rfl HT_ (by kernel_rfl) (fun _ _ _ h => h) rfl ?_ ?_ ?_ ?_; rotate_left; (intro w'; go_simp; with_reducible rfl); rotate_left; (simp only [zs]; rfl)
             refine zp 2 (zb 11 5) ?_ rfl rfl HT_ (by kernel_rfl) (fun _ _ _ h => h) rfl ?_ ?_ ?_ ?_; rotate_left; (intro w'; go_simp; with_reducible rfl); rotate_left; (simp only [zs]; rfl)
             refine zp 4 (zb 11 21) ?_ rfl rfl HT_ (by kernel_rfl) (fun _ _ _ h => h) rfl ?_ ?_ ?_ ?_; rotate_left; (intro w'; go_simp; with_reducible rfl); rotate_left; (simp only [zs]; rfl)
             refine zt 1 (zb 11 23) ?_ rfl rfl HT_ HW_ (by kernel_rfl) (fun _ _ _ h => h) rfl ?_ hHeld ?_ ?_ ?_; rotate_left; (rintro w' ⟨s0, s1, s2, s3, s4, s5⟩; go_simp; with_reducible rfl); rotate_left; (simp only [zs]; rfl)
             refine zt 3 (zb 11 31) ?_ rfl rfl HT_ HW_ (by kernel_rfl) (fun _ _ _ h => h) rfl ?_ hHeld ?_ ?_ ?_; rotate_left; (rintro w' ⟨s0, s1, s2, s3, s4, s5⟩; go_simp; with_reducible rfl); rotate_left; (simp only [zs]; rfl)
             refine zp 5 (zb 11 63) ?_ rfl rfl HT_ (by kernel_rfl) (fun _ _ _ h => h) rfl ?_ ?_ ?_ ?_; rotate_left; (intro w'; go_simp; with_reducible rfl); rotate_left; (simp only [zs]; rfl)
             refine zt 6 (zb 11 127) ?_ rfl rfl HT_ HW_ (by kernel_rfl) (fun _ _ _ h => h) rfl ?_ hHeld ?_ ?_ ?_; rotate_left; (rintro w' ⟨s0, s1, s2, s3, s4, s5⟩; go_simp; with_reducible rfl); rotate_left; (simp only [zs]; rfl)
             refine one_ (i := 7) (N := some 58) #[true, true, true, true, true, true, true, true, false, false, false] rfl rfl (one_of HT_.out (by kernel_rfl)) (by decide) (fun K hK => ?_)
             refine value_ (w1 := ?_) (v := ?_) (by rfl) rfl ?_ ?_
             rotate_left 2
             · go_simp
               constructor
               · rfl
               · rfl
             refine hK.out _ _ ⟨(blk_cell (blk_alloc BK158.out _) 0).trans rfl, (blk_cell (blk_alloc BK158.out _) 1).trans rfl, (blk_cell (blk_alloc BK156.out _) 0).trans rfl, (blk_cell (blk_alloc BK156.out _) 1).trans rfl, (World.cell?_alloc_lt _ _ _ (World.block_lt_of_cell? _ _ (hHeld.2.2.2.2.1))).trans (hHeld.2.2.2.2.1), (World.cell?_alloc_lt _ _ _ (World.block_lt_of_cell? _ _ (hHeld.2.2.2.2.2))).trans (hHeld.2.2.2.2.2)⟩ (fun hHeld => ?_)
             clear hK K
             refine norm_ (a' := ?_) ?_ ?_
             rotate_left
             · show Act.put _ (some 58) _ = _
               simp only [zs]
               rfl
             refine last_ (i := 8) (N := some 59) #[true, true, true, true, true, true, true, true, true, false, false] rfl rfl (one_of HT_.out (by kernel_rfl)) (by decide) (fun K hK => ?_)
             refine Kd.N_append_step k59 w.heap.size rfl (.tmp 52) (.tmp 58) 22 59 (.agg #[(.int .i64 0), (.slice none 0 0)]) 32 rfl Try.underlying22 info59 rfl (by decide) (by omega) u159000 x159000_1 (⟨(rd_T59 l0_0 x9_1).f0, (rd_T59 l0_0 x9_1).f1⟩ : S59) [.int .i64 ((rd_T59 l0_0 x9_1).f0), .slice A163_1 ((rd_T59 l0_0 x9_1).f1).length c163_1] (fun k_ => ((P0_1_ k_ ∨ P0_0_ k_ ∨ P2_ k_) ∨ w.heap.size ≤ k_) ∧ some k_ ≠ (.slice Ao4 l0_1.length co4 : Value).ownBlock ∧ some k_ ≠ (.slice Ao4 l0_1.length co4 : Value).ownBlock ∧ k_ ≠ gb156 ∧ k_ ≠ gb157 ∧ k_ ≠ gb158) (fun k_ => ((fun k_ => ((P0_1_ k_ ∨ P0_0_ k_ ∨ P2_ k_) ∨ w.heap.size ≤ k_) ∧ some k_ ≠ (.slice Ao4 l0_1.length co4 : Value).ownBlock ∧ some k_ ≠ (.slice Ao4 l0_1.length co4 : Value).ownBlock ∧ k_ ≠ gb156 ∧ k_ ≠ gb157 ∧ k_ ≠ gb158)) k_ ∧ some k_ ≠ (u159000 : Value).ownBlock) rfl rfl ?aP (fun _ hk => hk) ?aF ?aO (Below.refl _ _) ?aS ?aL ?_
             (case aP => exact (k59_mkF _ _ (⟨(rd_T59 l0_0 x9_1).f0, (rd_T59 l0_0 x9_1).f1⟩ : S59) (Kd.V_reads' (Kd.V_mono (ok' := (fun k_ => ((fun k_ => ((P0_1_ k_ ∨ P0_0_ k_ ∨ P2_ k_) ∨ w.heap.size ≤ k_) ∧ some k_ ≠ (.slice Ao4 l0_1.length co4 : Value).ownBlock ∧ some k_ ≠ (.slice Ao4 l0_1.length co4 : Value).ownBlock ∧ k_ ≠ gb156 ∧ k_ ≠ gb157 ∧ k_ ≠ gb158)) k_ ∧ some k_ ≠ (u159000 : Value).ownBlock)) (HL163_1.out) (fun k_ hk => ⟨⟨hk.1, ⟨hk.2.1, ⟨hk.2.2.2.1, ⟨hk.2.2.2.2.1, ⟨hk.2.2.2.2.2.1, hk.2.2.2.2.2.2⟩⟩⟩⟩⟩, hk.2.2.1⟩))).2.1 (Kd.V_F (Kd.V_mono (ok' := (fun k_ => ((fun k_ => ((P0_1_ k_ ∨ P0_0_ k_ ∨ P2_ k_) ∨ w.heap.size ≤ k_) ∧ some k_ ≠ (.slice Ao4 l0_1.length co4 : Value).ownBlock ∧ some k_ ≠ (.slice Ao4 l0_1.length co4 : Value).ownBlock ∧ k_ ≠ gb156 ∧ k_ ≠ gb157 ∧ k_ ≠ gb158)) k_ ∧ some k_ ≠ (u159000 : Value).ownBlock)) (HL163_1.out) (fun k_ hk => ⟨⟨hk.1, ⟨hk.2.1, ⟨hk.2.2.2.1, ⟨hk.2.2.2.2.1, ⟨hk.2.2.2.2.2.1, hk.2.2.2.2.2.2⟩⟩⟩⟩⟩, hk.2.2.1⟩)))))
             (case aF => exact (fun k_ hk => ⟨(.inr (Nat.le_trans (by first | exact HK.out.1 ) hk)), Kd.fresh' (Kd.R_lt HO_157001.out) k_ hk, Kd.fresh' (Kd.R_lt HO_159001.out) k_ hk, Kd.freshB (g := gb156) (o := .cells #[.slice (some ad162) l0_0.length c0_0, .slice Ao4 l0_1.length co4] 25 (0, 0)) BK156.out k_ hk, Kd.freshB (g := gb157) (o := .cells #[.slice none 0 0, .slice none 0 0] 25 (0, 0)) BK157.out k_ hk, Kd.freshB (g := gb158) (o := .cells #[u159000, .slice Ao4 l0_1.length co4] 25 (0, 0)) BK158.out k_ hk⟩))
             (case aO => exact HO_159000.out)
             (case aS => exact (by first | exact HK.out.1 ))
             (case aL => have := LMc20.out; omega)
             intro v165 w25 ho hb hg hat
             rw [← Ny164.out] at ho
             have n0_ := Aside0.mk (Kd.V_afterv (ok := (fun k_ => ((P0_1_ k_ ∨ P0_0_ k_ ∨ P2_ k_) ∨ w.heap.size ≤ k_) ∧ some k_ ≠ (.slice Ao4 l0_1.length co4 : Value).ownBlock ∧ some k_ ≠ (.slice Ao4 l0_1.length co4 : Value).ownBlock ∧ k_ ≠ gb156 ∧ k_ ≠ gb157 ∧ k_ ≠ gb158)) (by exact Kd.V_mono HO_2.out (fun _ hk => ⟨⟨hk.1, ⟨hk.2.1, ⟨hk.2.2.2.1, ⟨hk.2.2.2.2.1, ⟨hk.2.2.2.2.2.1, hk.2.2.2.2.2.2⟩⟩⟩⟩⟩, hk.2.2.1⟩)) hg hat)
             have n1_ := Aside0.mk (Kd.V_afterv (ok := (fun k_ => ((P0_1_ k_ ∨ P0_0_ k_ ∨ P2_ k_) ∨ w.heap.size ≤ k_) ∧ some k_ ≠ (.slice Ao4 l0_1.length co4 : Value).ownBlock ∧ some k_ ≠ (.slice Ao4 l0_1.length co4 : Value).ownBlock ∧ k_ ≠ gb156 ∧ k_ ≠ gb157 ∧ k_ ≠ gb158)) (by exact Kd.V_mono HO_157000.out (fun _ hk => ⟨⟨hk.1, ⟨hk.2.1, ⟨hk.2.2.2.1, ⟨hk.2.2.2.2.1, ⟨hk.2.2.2.2.2.1, hk.2.2.2.2.2.2⟩⟩⟩⟩⟩, hk.2.2.1⟩)) hg hat)
             have n2_ := Aside0.mk (Kd.R_over' HO_157001.out (Kd.N_typed HO_159000.out) (by decide) hg)
             have n3_ := Aside0.mk (Kd.R_over' HO_159001.out (Kd.N_typed HO_159000.out) (by decide) hg)
             have n4_ := Aside0.mk (blk_grown (g := gb156) (o := .cells #[.slice (some ad162) l0_0.length c0_0, .slice Ao4 l0_1.length co4] 25 (0, 0)) BK156.out hg (Kd.N_ne HO_159000.out BK156.out (by decide)))
             have n5_ := Aside0.mk (blk_grown (g := gb157) (o := .cells #[.slice none 0 0, .slice none 0 0] 25 (0, 0)) BK157.out hg (Kd.N_ne HO_159000.out BK157.out (by decide)))
             have n6_ := Aside0.mk (blk_grown (g := gb158) (o := .cells #[u159000, .slice Ao4 l0_1.length co4] 25 (0, 0)) BK158.out hg (Kd.N_ne HO_159000.out BK158.out (by decide)))
             have n7_ := Aside0.mk (Kd.V_afterv (ok := (fun k_ => ((P0_1_ k_ ∨ P0_0_ k_ ∨ P2_ k_) ∨ w.heap.size ≤ k_) ∧ some k_ ≠ (.slice Ao4 l0_1.length co4 : Value).ownBlock ∧ some k_ ≠ (.slice Ao4 l0_1.length co4 : Value).ownBlock ∧ k_ ≠ gb156 ∧ k_ ≠ gb157 ∧ k_ ≠ gb158)) (by exact Kd.V_mono HL162_1.out (fun _ hk => ⟨⟨hk.1, ⟨hk.2.1, ⟨hk.2.2.2.1, ⟨hk.2.2.2.2.1, ⟨hk.2.2.2.2.2.1, hk.2.2.2.2.2.2⟩⟩⟩⟩⟩, hk.2.2.1⟩)) hg hat)
             have n8_ := Aside0.mk (Kd.V_afterv (ok := (fun k_ => ((P0_1_ k_ ∨ P0_0_ k_ ∨ P2_ k_) ∨ w.heap.size ≤ k_) ∧ some k_ ≠ (.slice Ao4 l0_1.length co4 : Value).ownBlock ∧ some k_ ≠ (.slice Ao4 l0_1.length co4 : Value).ownBlock ∧ k_ ≠ gb156 ∧ k_ ≠ gb157 ∧ k_ ≠ gb158)) (by exact Kd.V_mono HL163_1.out (fun _ hk => ⟨⟨hk.1, ⟨hk.2.1, ⟨hk.2.2.2.1, ⟨hk.2.2.2.2.1, ⟨hk.2.2.2.2.2.1, hk.2.2.2.2.2.2⟩⟩⟩⟩⟩, hk.2.2.1⟩)) hg hat)
             have n9_ := Aside0.mk (below_weaken HB.out HW0.out hb)
             have n10_ := Aside0.mk (Kept.of_grown (S := (fun k_ => P0_1_ k_)) hg HK.out (fun k_ e_ => .inr (Kd.N_base HO_159000.out k_ e_)))
             have n11_ := Aside0.mk (ho)
             clear HO_2
             clear HO_157000
             clear HO_157001
             clear HO_159001
             clear BK156
             clear BK157
             clear BK158
             clear HL162_1
             clear HL163_1
             clear HB
             clear HK
             clear HO_159000
             have HO_2 := n0_
             have HO_157000 := n1_
             have HO_157001 := n2_
             have HO_159001 := n3_
             have BK156 := n4_
             have BK157 := n5_
             have BK158 := n6_
             have HL162_1 := n7_
             have HL163_1 := n8_
             have HB := n9_
             have HK := n10_
             have HO166 := n11_
             clear n0_ n1_ n2_ n3_ n4_ n5_ n6_ n7_ n8_ n9_ n10_ n11_
             clear ho hb hg hat
             obtain ⟨Ao26, co26, eo26⟩ := Kd.N_slice HO166.out
             (first | subst eo26 )
             refine hK.out _ _ ?_
             clear hK K
             refine norm_ (a' := ?_) ?_ ?_
             rotate_left
             · show Act.put _ (some 59) _ = _
               simp only [zs]
               rfl
             refine zp 9 (zb 11 1023) ?_ rfl rfl HT_ (by kernel_rfl) (fun _ _ _ h => h) rfl ?_ ?_ ?_ ?_; rotate_left; (intro w'; go_simp; with_reducible rfl); rotate_left; (simp only [zs]; rfl)
             refine last_ (i := 10) (N := none) #[true, true, true, true, true, true, true, true, true, true, true] rfl rfl (one_of HT_.out (by kernel_rfl)) (by decide) (fun K hK => ?_)
             have hs27 : w25.cell? ⟨gb158, 0, none⟩ = some (u159000) := (blk_cell BK158.out 0).trans rfl
             have hfs27 := blk_frozen BK158.out 0
             have hns27_0 := NB156_158.out
             have hns27_1 := NB157_158.out
             have hms27_0 := NB158_156.out
             have hms27_1 := NB158_157.out
             refine skip_ (w1 := ?_) (by rfl) rfl ?_ ?_
             rotate_left
             · go_simp
               rfl
             refine hK.out _ _ ?_
             clear hK K
             refine done_ (done_of HT_.out (by kernel_rfl)) ?_
             try go_wp2
             go_roundg k1
             case measure => have := HK1.out; omega
             case rel => exact ⟨(true), (wrap64 (x9_1 + 1)), (y164), (.slice Ao26 y164.length co26), (by first | rfl ), (by first | rfl ), H', ⟨by have := HK1.out; omega⟩, ⟨by exact Kd.V_mono (Kd.V_far (p := ⟨gb158, 0, none⟩) (Kd.V_mono HO_2.out (fun k_ hk => (⟨hk, hk.1.2.2.2.2.2⟩ : _ ∧ k_ ≠ gb158))) (fun _ hk => hk.2) (.slice Ao26 y164.length co26)) (fun _ hk => ⟨hk.1.1.1, ⟨hk.1.1.2.1, ⟨hk.1.2, ⟨hk.1.1.2.2.1, ⟨hk.1.1.2.2.2.1, ⟨hk.1.1.2.2.2.2.1, hk.1.1.2.2.2.2.2⟩⟩⟩⟩⟩⟩)⟩, ⟨by exact Kd.V_mono (Kd.V_far (p := ⟨gb158, 0, none⟩) (Kd.V_mono HO_157000.out (fun k_ hk => (⟨hk, hk.1.2.2.2.2.2⟩ : _ ∧ k_ ≠ gb158))) (fun _ hk => hk.2) (.slice Ao26 y164.length co26)) (fun _ hk => ⟨hk.1.1.1, ⟨hk.1.1.2.1, ⟨hk.1.2, ⟨hk.1.1.2.2.1, ⟨hk.1.1.2.2.2.1, ⟨hk.1.1.2.2.2.2.1, hk.1.1.2.2.2.2.2⟩⟩⟩⟩⟩⟩)⟩, ⟨by exact Kd.R_mono (Kd.R_far (p := ⟨gb158, 0, none⟩) (Kd.R_types HO_157001.out BK158.out (by decide)) (fun _ hk => hk.2) (.slice Ao26 y164.length co26)) (fun _ hk => hk.1)⟩, ⟨by exact Kd.N_mono (Kd.N_far (p := ⟨gb158, 0, none⟩) (Kd.N_mono HO166.out (fun k_ hk => (⟨hk, hk.2.2.2.2.2⟩ : _ ∧ k_ ≠ gb158))) (fun _ hk => hk.2) (.slice Ao26 y164.length co26)) (fun _ hk => ⟨hk.1.1, ⟨hk.1.2.1, ⟨hk.1.2.2.1, ⟨hk.1.2.2.2.1, ⟨hk.1.2.2.2.2.1, hk.1.2.2.2.2.2⟩⟩⟩⟩⟩)⟩, ⟨by exact Kd.R_mono (Kd.R_far (p := ⟨gb158, 0, none⟩) (Kd.R_types HO_159001.out BK158.out (by decide)) (fun _ hk => hk.2) (.slice Ao26 y164.length co26)) (fun _ hk => hk.1)⟩, ⟨by refine blk_far ?_ NB156_158.out _; exact BK156.out⟩, ⟨by refine blk_far ?_ NB157_158.out _; exact BK157.out⟩, ⟨by refine blk_put (cs := #[u159000, .slice Ao4 l0_1.length co4]) ?_ 0 _ rfl; exact BK158.out⟩, ⟨by repeat (first | (with_reducible first | exact HK.out | refine Kept.setCell ?_ (.inr GW158.out) _) )⟩, ⟨by repeat (first | (with_reducible first | exact HB.out | refine below_set ?_ GE158.out) )⟩⟩
           · rw [if_neg c20] at H
             exact absurd H (by simp)
         · replace c19 := Bool.eq_false_iff.mpr c19
           subst c19
           have H1 : (if ((rd_T59 l0_0 x9_1).f0) > a1 then (if x159000_1.length < 4398046511104 then ((some (x159000_1 ++ [(⟨a1, l2⟩ : S59)] : List (S59))).bind fun y168 => (if y168.length < 4398046511104 then (ecdysisref19_With.l0 k1 a1 l2 true (wrap64 (x9_1 + 1)) l0_0 l0_1 (y168 ++ [(⟨(rd_T59 l0_0 x9_1).f0, (rd_T59 l0_0 x9_1).f1⟩ : S59)]) l0_1) else (none))) else (none)) else (if x159000_1.length < 4398046511104 then (ecdysisref19_With.l0 k1 a1 l2 false (wrap64 (x9_1 + 1)) l0_0 l0_1 (x159000_1 ++ [(⟨(rd_T59 l0_0 x9_1).f0, (rd_T59 l0_0 x9_1).f1⟩ : S59)]) l0_1) else (none))) = some (r1, r2) := by rw [if_neg (show ¬ (false = true) by decide)] at H; exact H
           clear H
           have H := H1
           clear H1
           by_cases c28 : ((rd_T59 l0_0 x9_1).f0) > a1
           · rw [if_pos c28] at H
             have c28b0 : decide (a1 < ((rd_T59 l0_0 x9_1).f0)) = true := decide_eq_true c28
             clear c28
             by_cases c29 : x159000_1.length < 4398046511104
             · rw [if_pos c29] at H
               have LMc29 := Aside0.mk c29
               clear c29
               obtain ⟨y168, hy168⟩ : ∃ y_ : List (S59), y_ = (x159000_1 ++ [(⟨a1, l2⟩ : S59)]) := ⟨_, rfl⟩
               replace H : (if y168.length < 4398046511104 then (ecdysisref19_With.l0 k1 a1 l2 true (wrap64 (x9_1 + 1)) l0_0 l0_1 (y168 ++ [(⟨(rd_T59 l0_0 x9_1).f0, (rd_T59 l0_0 x9_1).f1⟩ : S59)]) l0_1) else (none)) = some (r1, r2) := by first | (have H2_ := (Option.bind_some _ _).symm.trans H; rw [hy168]; with_reducible exact H2_) 
               have Ny168 := Aside0.mk hy168
               clear hy168
               by_cases c30 : y168.length < 4398046511104
               · rw [if_pos c30] at H
                 have LMc30 := Aside0.mk c30
                 clear c30
                 obtain ⟨y172, hy172⟩ : ∃ y_ : List (S59), y_ = (y168 ++ [(⟨(rd_T59 l0_0 x9_1).f0, (rd_T59 l0_0 x9_1).f1⟩ : S59)]) := ⟨_, rfl⟩
                 replace H : (ecdysisref19_With.l0 k1 a1 l2 true (wrap64 (x9_1 + 1)) l0_0 l0_1 y172 l0_1) = some (r1, r2) := by first | (rw [hy172]; with_reducible exact H) 
                 have Ny172 := Aside0.mk hy172
                 clear hy172
                 have H' := Aside0.mk H
                 clear H
                 have hnb31 := NB156_157.out
                 have hnc31 := NB157_156.out
                 have hnb32 := NB156_158.out
                 have hnc32 := NB158_156.out
                 have hcz33_0 : wr.cell? ⟨gb156, 0, none⟩ = some (.slice A0_0 l0_0.length c0_0) := (blk_cell BK156.out 0).trans rfl
                 have hcz33_1 : wr.cell? ⟨gb156, 1, none⟩ = some (.slice Ao4 l0_1.length co4) := (blk_cell BK156.out 1).trans rfl
                 have hfz33_0 := blk_frozen BK156.out 0
                 have hfz33_1 := blk_frozen BK156.out 1
                 have p162 : 0 ≤ (x9_1 : Int) := of_decide_eq_true (by first | (with_reducible assumption) )
                 have q162 : x9_1 < (l0_0.length : Int) := of_decide_eq_true (by first | (with_reducible assumption) )
                 obtain ⟨ad162, A162_1, c162_1, e162, hx162_0, hx162_1, hl162_1, hi162_1⟩ := at_T59 (Kd.V_reads' HO_157000.out).2.2 x9_1 p162 q162
                 cases e162
                 obtain ⟨ce162, hce162, hMe162, hcc162⟩ := Kd.V_get HO_157000.out z59 x9_1 p162 (by first | exact q162 )
                 obtain ⟨ua162_1, uc162_1, rfl, ul162_1, ge162_1⟩ := k59_openF hMe162
                 have hv162_1 := hcc162 1 _ rfl
                 rw [add_field _ _ 1 (by omega)] at hv162_1
                 replace hv162_1 := Option.some.inj (hv162_1.symm.trans hx162_1)
                 injection hv162_1 with hva_ hvn_ hvc_
                 rw [hva_] at ge162_1
                 rw [hvc_] at ul162_1
                 have HL162_1 := Aside0.mk (show Kd.V k70 70 _ w0.heap.size _ _ ((rd_T59 l0_0 x9_1).f1) from Kd.V_mk ul162_1 ge162_1)
                 clear hva_ hvn_ hvc_ ge162_1 ul162_1
                 clear hcc162 hce162
                 have HR162_1 := Aside0.mk hi162_1
                 have HC162_1 := Aside0.mk hl162_1
                 clear hi162_1 hl162_1
                 replace p162 := eq_true p162
                 replace q162 := eq_true q162
                 have p167 : 0 ≤ (x9_1 : Int) := of_decide_eq_true (by first | (with_reducible assumption) )
                 have q167 : x9_1 < (l0_0.length : Int) := of_decide_eq_true (by first | (with_reducible assumption) )
                 obtain ⟨ad167, A167_1, c167_1, e167, hx167_0, hx167_1, hl167_1, hi167_1⟩ := at_T59 (Kd.V_reads' HO_157000.out).2.2 x9_1 p167 q167
                 obtain rfl : ad162 = ad167 := (by injection e167)
                 obtain ⟨ce167, hce167, hMe167, hcc167⟩ := Kd.V_get HO_157000.out z59 x9_1 p167 (by first | exact q167 )
                 obtain ⟨ua167_1, uc167_1, rfl, ul167_1, ge167_1⟩ := k59_openF hMe167
                 have hv167_1 := hcc167 1 _ rfl
                 rw [add_field _ _ 1 (by omega)] at hv167_1
                 replace hv167_1 := Option.some.inj (hv167_1.symm.trans hx167_1)
                 injection hv167_1 with hva_ hvn_ hvc_
                 rw [hva_] at ge167_1
                 rw [hvc_] at ul167_1
                 have HL167_1 := Aside0.mk (show Kd.V k70 70 _ w0.heap.size _ _ ((rd_T59 l0_0 x9_1).f1) from Kd.V_mk ul167_1 ge167_1)
                 clear hva_ hvn_ hvc_ ge167_1 ul167_1
                 clear hcc167 hce167
                 have HR167_1 := Aside0.mk hi167_1
                 have HC167_1 := Aside0.mk hl167_1
                 clear hi167_1 hl167_1
                 replace p167 := eq_true p167
                 replace q167 := eq_true q167
                 have ea_ := Option.some.inj (hx162_1.symm.trans hx167_1)
                 injection ea_ with ea_ en_ ec_
                 subst ea_
                 subst ec_
                 clear en_
                 have hnb34 := NB158_157.out
                 have hnc34 := NB157_158.out
                 have hcz35_0 : wr.cell? ⟨gb158, 0, none⟩ = some (u159000) := (blk_cell BK158.out 0).trans rfl
                 have hcz35_1 : wr.cell? ⟨gb158, 1, none⟩ = some (.slice Ao4 l0_1.length co4) := (blk_cell BK158.out 1).trans rfl
                 have hfz35_0 := blk_frozen BK158.out 0
                 have hfz35_1 := blk_frozen BK158.out 1
                 try go_wp2_with (first | ((with_reducible refine gate_builtin (b := .append) (xs := #[.tmp 44, .tmp 48]) rfl ?_); at_builtin; refine Kd.N_append k59 w.heap.size rfl (.tmp 44) (.tmp 48) 22 59 (.agg #[(.int .i64 0), (.slice none 0 0)]) 32 rfl Try.underlying22 info59 rfl (by decide) (by omega) u159000 x159000_1 (⟨a1, l2⟩ : S59) [.int .i64 a1, .slice A2 l2.length c2] (fun k_ => ((P0_1_ k_ ∨ P0_0_ k_ ∨ P2_ k_) ∨ w.heap.size ≤ k_) ∧ some k_ ≠ (.slice Ao4 l0_1.length co4 : Value).ownBlock ∧ some k_ ≠ (.slice Ao4 l0_1.length co4 : Value).ownBlock ∧ k_ ≠ gb156 ∧ k_ ≠ gb157 ∧ k_ ≠ gb158) (fun k_ => ((fun k_ => ((P0_1_ k_ ∨ P0_0_ k_ ∨ P2_ k_) ∨ w.heap.size ≤ k_) ∧ some k_ ≠ (.slice Ao4 l0_1.length co4 : Value).ownBlock ∧ some k_ ≠ (.slice Ao4 l0_1.length co4 : Value).ownBlock ∧ k_ ≠ gb156 ∧ k_ ≠ gb157 ∧ k_ ≠ gb158)) k_ ∧ some k_ ≠ (u159000 : Value).ownBlock) rfl rfl ?aP (fun _ hk => hk) ?aF ?aO (Below.refl _ _) ?aS ?aL ?_; (case aP => exact (k59_mkF _ _ (⟨a1, l2⟩ : S59) (Kd.V_reads' (Kd.V_mono (ok' := (fun k_ => ((fun k_ => ((P0_1_ k_ ∨ P0_0_ k_ ∨ P2_ k_) ∨ w.heap.size ≤ k_) ∧ some k_ ≠ (.slice Ao4 l0_1.length co4 : Value).ownBlock ∧ some k_ ≠ (.slice Ao4 l0_1.length co4 : Value).ownBlock ∧ k_ ≠ gb156 ∧ k_ ≠ gb157 ∧ k_ ≠ gb158)) k_ ∧ some k_ ≠ (u159000 : Value).ownBlock)) (HO_2.out) (fun k_ hk => ⟨⟨hk.1, ⟨hk.2.1, ⟨hk.2.2.2.1, ⟨hk.2.2.2.2.1, ⟨hk.2.2.2.2.2.1, hk.2.2.2.2.2.2⟩⟩⟩⟩⟩, hk.2.2.1⟩))).2.1 (Kd.V_F (Kd.V_mono (ok' := (fun k_ => ((fun k_ => ((P0_1_ k_ ∨ P0_0_ k_ ∨ P2_ k_) ∨ w.heap.size ≤ k_) ∧ some k_ ≠ (.slice Ao4 l0_1.length co4 : Value).ownBlock ∧ some k_ ≠ (.slice Ao4 l0_1.length co4 : Value).ownBlock ∧ k_ ≠ gb156 ∧ k_ ≠ gb157 ∧ k_ ≠ gb158)) k_ ∧ some k_ ≠ (u159000 : Value).ownBlock)) (HO_2.out) (fun k_ hk => ⟨⟨hk.1, ⟨hk.2.1, ⟨hk.2.2.2.1, ⟨hk.2.2.2.2.1, ⟨hk.2.2.2.2.2.1, hk.2.2.2.2.2.2⟩⟩⟩⟩⟩, hk.2.2.1⟩))))); (case aF => exact (fun k_ hk => ⟨(.inr (Nat.le_trans (by first | exact HK.out.1 ) hk)), Kd.fresh' (Kd.R_lt HO_157001.out) k_ hk, Kd.fresh' (Kd.R_lt HO_159001.out) k_ hk, Kd.freshB (g := gb156) (o := .cells #[.slice (some ad162) l0_0.length c0_0, .slice Ao4 l0_1.length co4] 25 (0, 0)) BK156.out k_ hk, Kd.freshB (g := gb157) (o := .cells #[.slice none 0 0, .slice none 0 0] 25 (0, 0)) BK157.out k_ hk, Kd.freshB (g := gb158) (o := .cells #[u159000, .slice Ao4 l0_1.length co4] 25 (0, 0)) BK158.out k_ hk⟩)); (case aO => exact HO_159000.out); (case aS => exact (by first | exact HK.out.1 )); (case aL => have := LMc29.out; omega); intro v169 w36 ho hb hg hat; rw [← Ny168.out] at ho; have n0_ := Aside0.mk (Kd.V_afterv (ok := (fun k_ => ((P0_1_ k_ ∨ P0_0_ k_ ∨ P2_ k_) ∨ w.heap.size ≤ k_) ∧ some k_ ≠ (.slice Ao4 l0_1.length co4 : Value).ownBlock ∧ some k_ ≠ (.slice Ao4 l0_1.length co4 : Value).ownBlock ∧ k_ ≠ gb156 ∧ k_ ≠ gb157 ∧ k_ ≠ gb158)) (by exact Kd.V_mono HO_2.out (fun _ hk => ⟨⟨hk.1, ⟨hk.2.1, ⟨hk.2.2.2.1, ⟨hk.2.2.2.2.1, ⟨hk.2.2.2.2.2.1, hk.2.2.2.2.2.2⟩⟩⟩⟩⟩, hk.2.2.1⟩)) hg hat); have n1_ := Aside0.mk (Kd.V_afterv (ok := (fun k_ => ((P0_1_ k_ ∨ P0_0_ k_ ∨ P2_ k_) ∨ w.heap.size ≤ k_) ∧ some k_ ≠ (.slice Ao4 l0_1.length co4 : Value).ownBlock ∧ some k_ ≠ (.slice Ao4 l0_1.length co4 : Value).ownBlock ∧ k_ ≠ gb156 ∧ k_ ≠ gb157 ∧ k_ ≠ gb158)) (by exact Kd.V_mono HO_157000.out (fun _ hk => ⟨⟨hk.1, ⟨hk.2.1, ⟨hk.2.2.2.1, ⟨hk.2.2.2.2.1, ⟨hk.2.2.2.2.2.1, hk.2.2.2.2.2.2⟩⟩⟩⟩⟩, hk.2.2.1⟩)) hg hat); have n2_ := Aside0.mk (Kd.R_over' HO_157001.out (Kd.N_typed HO_159000.out) (by decide) hg); have n3_ := Aside0.mk (Kd.R_over' HO_159001.out (Kd.N_typed HO_159000.out) (by decide) hg); have n4_ := Aside0.mk (blk_grown (g := gb156) (o := .cells #[.slice (some ad162) l0_0.length c0_0, .slice Ao4 l0_1.length co4] 25 (0, 0)) BK156.out hg (Kd.N_ne HO_159000.out BK156.out (by decide))); have n5_ := Aside0.mk (blk_grown (g := gb157) (o := .cells #[.slice none 0 0, .slice none 0 0] 25 (0, 0)) BK157.out hg (Kd.N_ne HO_159000.out BK157.out (by decide))); have n6_ := Aside0.mk (blk_grown (g := gb158) (o := .cells #[u159000, .slice Ao4 l0_1.length co4] 25 (0, 0)) BK158.out hg (Kd.N_ne HO_159000.out BK158.out (by decide))); have n7_ := Aside0.mk (Kd.V_afterv (ok := (fun k_ => ((P0_1_ k_ ∨ P0_0_ k_ ∨ P2_ k_) ∨ w.heap.size ≤ k_) ∧ some k_ ≠ (.slice Ao4 l0_1.length co4 : Value).ownBlock ∧ some k_ ≠ (.slice Ao4 l0_1.length co4 : Value).ownBlock ∧ k_ ≠ gb156 ∧ k_ ≠ gb157 ∧ k_ ≠ gb158)) (by exact Kd.V_mono HL162_1.out (fun _ hk => ⟨⟨hk.1, ⟨hk.2.1, ⟨hk.2.2.2.1, ⟨hk.2.2.2.2.1, ⟨hk.2.2.2.2.2.1, hk.2.2.2.2.2.2⟩⟩⟩⟩⟩, hk.2.2.1⟩)) hg hat); have n8_ := Aside0.mk (Kd.V_afterv (ok := (fun k_ => ((P0_1_ k_ ∨ P0_0_ k_ ∨ P2_ k_) ∨ w.heap.size ≤ k_) ∧ some k_ ≠ (.slice Ao4 l0_1.length co4 : Value).ownBlock ∧ some k_ ≠ (.slice Ao4 l0_1.length co4 : Value).ownBlock ∧ k_ ≠ gb156 ∧ k_ ≠ gb157 ∧ k_ ≠ gb158)) (by exact Kd.V_mono HL167_1.out (fun _ hk => ⟨⟨hk.1, ⟨hk.2.1, ⟨hk.2.2.2.1, ⟨hk.2.2.2.2.1, ⟨hk.2.2.2.2.2.1, hk.2.2.2.2.2.2⟩⟩⟩⟩⟩, hk.2.2.1⟩)) hg hat); have n9_ := Aside0.mk (below_weaken HB.out HW0.out hb); have n10_ := Aside0.mk (Kept.of_grown (S := (fun k_ => P0_1_ k_)) hg HK.out (fun k_ e_ => .inr (Kd.N_base HO_159000.out k_ e_))); have n11_ := Aside0.mk (ho); clear HO_2; clear HO_157000; clear HO_157001; clear HO_159001; clear BK156; clear BK157; clear BK158; clear HL162_1; clear HL167_1; clear HB; clear HK; clear HO_159000; have HO_2 := n0_; have HO_157000 := n1_; have HO_157001 := n2_; have HO_159001 := n3_; have BK156 := n4_; have BK157 := n5_; have BK158 := n6_; have HL162_1 := n7_; have HL167_1 := n8_; have HB := n9_; have HK := n10_; have HO170 := n11_; clear n0_ n1_ n2_ n3_ n4_ n5_ n6_ n7_ n8_ n9_ n10_ n11_; clear ho hb hg hat; obtain ⟨Ao37, co37, eo37⟩ := Kd.N_slice HO170.out; subst eo37; have hcz38_0 : w36.cell? ⟨gb158, 0, none⟩ = some (u159000) := (blk_cell BK158.out 0).trans rfl; have hcz38_1 : w36.cell? ⟨gb158, 1, none⟩ = some (.slice Ao4 l0_1.length co4) := (blk_cell BK158.out 1).trans rfl; have hfz38_0 := blk_frozen BK158.out 0; have hfz38_1 := blk_frozen BK158.out 1))
                 have n0_ : Aside0 (Kd.V k70 70 (w36.setCell ⟨gb158, 0, none⟩ (.slice Ao37 y168.length co37)) w0.heap.size (fun k_ => ((P0_1_ k_ ∨ P0_0_ k_ ∨ P2_ k_) ∨ w.heap.size ≤ k_) ∧ some k_ ≠ (.slice Ao4 l0_1.length co4 : Value).ownBlock ∧ some k_ ≠ (.slice Ao4 l0_1.length co4 : Value).ownBlock ∧ some k_ ≠ (.slice Ao37 y168.length co37 : Value).ownBlock ∧ k_ ≠ gb156 ∧ k_ ≠ gb157 ∧ k_ ≠ gb158) (.slice A2 l2.length c2) l2) := ⟨by exact Kd.V_mono (Kd.V_far (p := ⟨gb158, 0, none⟩) (Kd.V_mono HO_2.out (fun k_ hk => (⟨hk, hk.1.2.2.2.2.2⟩ : _ ∧ k_ ≠ gb158))) (fun _ hk => hk.2) (.slice Ao37 y168.length co37)) (fun _ hk => ⟨hk.1.1.1, ⟨hk.1.1.2.1, ⟨hk.1.1.2.2.1, ⟨hk.1.2, ⟨hk.1.1.2.2.2.1, ⟨hk.1.1.2.2.2.2.1, hk.1.1.2.2.2.2.2⟩⟩⟩⟩⟩⟩)⟩
                 have n1_ : Aside0 (Kd.V k59 59 (w36.setCell ⟨gb158, 0, none⟩ (.slice Ao37 y168.length co37)) w0.heap.size (fun k_ => ((P0_1_ k_ ∨ P0_0_ k_ ∨ P2_ k_) ∨ w.heap.size ≤ k_) ∧ some k_ ≠ (.slice Ao4 l0_1.length co4 : Value).ownBlock ∧ some k_ ≠ (.slice Ao4 l0_1.length co4 : Value).ownBlock ∧ some k_ ≠ (.slice Ao37 y168.length co37 : Value).ownBlock ∧ k_ ≠ gb156 ∧ k_ ≠ gb157 ∧ k_ ≠ gb158) (.slice (some ad162) l0_0.length c0_0) l0_0) := ⟨by exact Kd.V_mono (Kd.V_far (p := ⟨gb158, 0, none⟩) (Kd.V_mono HO_157000.out (fun k_ hk => (⟨hk, hk.1.2.2.2.2.2⟩ : _ ∧ k_ ≠ gb158))) (fun _ hk => hk.2) (.slice Ao37 y168.length co37)) (fun _ hk => ⟨hk.1.1.1, ⟨hk.1.1.2.1, ⟨hk.1.1.2.2.1, ⟨hk.1.2, ⟨hk.1.1.2.2.2.1, ⟨hk.1.1.2.2.2.2.1, hk.1.1.2.2.2.2.2⟩⟩⟩⟩⟩⟩)⟩
                 have n2_ : Aside0 (Kd.R k73 73 (w36.setCell ⟨gb158, 0, none⟩ (.slice Ao37 y168.length co37)) w0.heap.size (fun k_ => (P0_1_ k_ ∨ w.heap.size ≤ k_)) (.slice Ao4 l0_1.length co4) l0_1) := ⟨by exact Kd.R_mono (Kd.R_far (p := ⟨gb158, 0, none⟩) (Kd.R_types HO_157001.out BK158.out (by decide)) (fun _ hk => hk.2) (.slice Ao37 y168.length co37)) (fun _ hk => hk.1)⟩
                 have n3_ : Aside0 (Kd.R k73 73 (w36.setCell ⟨gb158, 0, none⟩ (.slice Ao37 y168.length co37)) w0.heap.size (fun k_ => (P0_1_ k_ ∨ w.heap.size ≤ k_)) (.slice Ao4 l0_1.length co4) l0_1) := ⟨by exact Kd.R_mono (Kd.R_far (p := ⟨gb158, 0, none⟩) (Kd.R_types HO_159001.out BK158.out (by decide)) (fun _ hk => hk.2) (.slice Ao37 y168.length co37)) (fun _ hk => hk.1)⟩
                 have n4_ : Aside0 (Kd.V k70 70 (w36.setCell ⟨gb158, 0, none⟩ (.slice Ao37 y168.length co37)) w0.heap.size (fun k_ => ((P0_1_ k_ ∨ P0_0_ k_ ∨ P2_ k_) ∨ w.heap.size ≤ k_) ∧ some k_ ≠ (.slice Ao4 l0_1.length co4 : Value).ownBlock ∧ some k_ ≠ (.slice Ao4 l0_1.length co4 : Value).ownBlock ∧ some k_ ≠ (.slice Ao37 y168.length co37 : Value).ownBlock ∧ k_ ≠ gb156 ∧ k_ ≠ gb157 ∧ k_ ≠ gb158) (.slice A162_1 ((rd_T59 l0_0 x9_1).f1).length c162_1) ((rd_T59 l0_0 x9_1).f1)) := ⟨by exact Kd.V_mono (Kd.V_far (p := ⟨gb158, 0, none⟩) (Kd.V_mono HL162_1.out (fun k_ hk => (⟨hk, hk.1.2.2.2.2.2⟩ : _ ∧ k_ ≠ gb158))) (fun _ hk => hk.2) (.slice Ao37 y168.length co37)) (fun _ hk => ⟨hk.1.1.1, ⟨hk.1.1.2.1, ⟨hk.1.1.2.2.1, ⟨hk.1.2, ⟨hk.1.1.2.2.2.1, ⟨hk.1.1.2.2.2.2.1, hk.1.1.2.2.2.2.2⟩⟩⟩⟩⟩⟩)⟩
                 have n5_ : Aside0 (Kd.V k70 70 (w36.setCell ⟨gb158, 0, none⟩ (.slice Ao37 y168.length co37)) w0.heap.size (fun k_ => ((P0_1_ k_ ∨ P0_0_ k_ ∨ P2_ k_) ∨ w.heap.size ≤ k_) ∧ some k_ ≠ (.slice Ao4 l0_1.length co4 : Value).ownBlock ∧ some k_ ≠ (.slice Ao4 l0_1.length co4 : Value).ownBlock ∧ some k_ ≠ (.slice Ao37 y168.length co37 : Value).ownBlock ∧ k_ ≠ gb156 ∧ k_ ≠ gb157 ∧ k_ ≠ gb158) (.slice A162_1 ((rd_T59 l0_0 x9_1).f1).length c162_1) ((rd_T59 l0_0 x9_1).f1)) := ⟨by exact Kd.V_mono (Kd.V_far (p := ⟨gb158, 0, none⟩) (Kd.V_mono HL167_1.out (fun k_ hk => (⟨hk, hk.1.2.2.2.2.2⟩ : _ ∧ k_ ≠ gb158))) (fun _ hk => hk.2) (.slice Ao37 y168.length co37)) (fun _ hk => ⟨hk.1.1.1, ⟨hk.1.1.2.1, ⟨hk.1.1.2.2.1, ⟨hk.1.2, ⟨hk.1.1.2.2.2.1, ⟨hk.1.1.2.2.2.2.1, hk.1.1.2.2.2.2.2⟩⟩⟩⟩⟩⟩)⟩
                 have n6_ : Aside0 (Kd.N k59 59 (w36.setCell ⟨gb158, 0, none⟩ (.slice Ao37 y168.length co37)) w.heap.size (fun k_ => ((P0_1_ k_ ∨ P0_0_ k_ ∨ P2_ k_) ∨ w.heap.size ≤ k_) ∧ some k_ ≠ (.slice Ao4 l0_1.length co4 : Value).ownBlock ∧ some k_ ≠ (.slice Ao4 l0_1.length co4 : Value).ownBlock ∧ k_ ≠ gb156 ∧ k_ ≠ gb157 ∧ k_ ≠ gb158) (.slice Ao37 y168.length co37) y168) := ⟨by exact Kd.N_mono (Kd.N_far (p := ⟨gb158, 0, none⟩) (Kd.N_mono HO170.out (fun k_ hk => (⟨hk, hk.2.2.2.2.2⟩ : _ ∧ k_ ≠ gb158))) (fun _ hk => hk.2) (.slice Ao37 y168.length co37)) (fun _ hk => ⟨hk.1.1, ⟨hk.1.2.1, ⟨hk.1.2.2.1, ⟨hk.1.2.2.2.1, ⟨hk.1.2.2.2.2.1, hk.1.2.2.2.2.2⟩⟩⟩⟩⟩)⟩
                 have n7_ : Aside0 ((w36.setCell ⟨gb158, 0, none⟩ (.slice Ao37 y168.length co37)).heap[gb156]? = some (.cells #[.slice (some ad162) l0_0.length c0_0, .slice Ao4 l0_1.length co4] 25 (0, 0))) := ⟨by refine blk_far ?_ NB156_158.out _; exact BK156.out⟩
                 have n8_ : Aside0 ((w36.setCell ⟨gb158, 0, none⟩ (.slice Ao37 y168.length co37)).heap[gb157]? = some (.cells #[.slice none 0 0, .slice none 0 0] 25 (0, 0))) := ⟨by refine blk_far ?_ NB157_158.out _; exact BK157.out⟩
                 have n9_ : Aside0 ((w36.setCell ⟨gb158, 0, none⟩ (.slice Ao37 y168.length co37)).heap[gb158]? = some (.cells #[.slice Ao37 y168.length co37, .slice Ao4 l0_1.length co4] 25 (0, 0))) := ⟨by refine blk_put (cs := #[u159000, .slice Ao4 l0_1.length co4]) ?_ 0 _ rfl; exact BK158.out⟩
                 have n10_ : Aside0 (Kept w (w36.setCell ⟨gb158, 0, none⟩ (.slice Ao37 y168.length co37)) (fun k_ => P0_1_ k_)) := ⟨by repeat (first | (with_reducible first | exact HK.out | refine Kept.setCell ?_ (.inr GW158.out) _) )⟩
                 have n11_ : Aside0 (Below w0.heap.size w0 (w36.setCell ⟨gb158, 0, none⟩ (.slice Ao37 y168.length co37))) := ⟨by repeat (first | (with_reducible first | exact HB.out | refine below_set ?_ GE158.out) )⟩
                 (try clear HO_2)
                 (try clear HO_157000)
                 (try clear HO_157001)
                 (try clear HO_159001)
                 (try clear HL162_1)
                 (try clear HL167_1)
                 (try clear HO170)
                 (try clear BK156)
                 (try clear BK157)
                 (try clear BK158)
                 (try clear HK)
                 (try clear HB)
                 generalize (w36.setCell ⟨gb158, 0, none⟩ (.slice Ao37 y168.length co37)) = w39 at n0_ n1_ n2_ n3_ n4_ n5_ n6_ n7_ n8_ n9_ n10_ n11_ ⊢
                 have HO_2 := n0_
                 have HO_157000 := n1_
                 have HO_157001 := n2_
                 have HO_159001 := n3_
                 have HL162_1 := n4_
                 have HL167_1 := n5_
                 have HO170 := n6_
                 have BK156 := n7_
                 have BK157 := n8_
                 have BK158 := n9_
                 have HK := n10_
                 have HB := n11_
                 clear n0_ n1_ n2_ n3_ n4_ n5_ n6_ n7_ n8_ n9_ n10_ n11_
                 have n0_ := Aside0.mk (Kd.V_drew HO_2.out)
                 have n1_ := Aside0.mk (Kd.V_drew HO_157000.out)
                 have n2_ := Aside0.mk (Kd.R_drew HO_157001.out)
                 have n3_ := Aside0.mk (Kd.R_drew HO_159001.out)
                 have n4_ := Aside0.mk (Kd.V_drew HL162_1.out)
                 have n5_ := Aside0.mk (Kd.V_drew HL167_1.out)
                 have n6_ := Aside0.mk (Kd.N_drew HO170.out)
                 have n7_ := Aside0.mk (blk_drew BK156.out)
                 have n8_ := Aside0.mk (blk_drew BK157.out)
                 have n9_ := Aside0.mk (blk_drew BK158.out)
                 have n10_ := Aside0.mk (Kept.drew HK.out)
                 have n11_ := Aside0.mk (below_drew1 HB.out)
                 clear HO_2
                 clear HO_157000
                 clear HO_157001
                 clear HO_159001
                 clear HL162_1
                 clear HL167_1
                 clear HO170
                 clear BK156
                 clear BK157
                 clear BK158
                 clear HK
                 clear HB
                 have HO_2 := n0_
                 have HO_157000 := n1_
                 have HO_157001 := n2_
                 have HO_159001 := n3_
                 have HL162_1 := n4_
                 have HL167_1 := n5_
                 have HO170 := n6_
                 have BK156 := n7_
                 have BK157 := n8_
                 have BK158 := n9_
                 have HK := n10_
                 have HB := n11_
                 clear n0_ n1_ n2_ n3_ n4_ n5_ n6_ n7_ n8_ n9_ n10_ n11_
                 have p171 : 0 ≤ (x9_1 : Int) := of_decide_eq_true (by first | (with_reducible assumption) )
                 have q171 : x9_1 < (l0_0.length : Int) := of_decide_eq_true (by first | (with_reducible assumption) )
                 obtain ⟨ad171, A171_1, c171_1, e171, hx171_0, hx171_1, hl171_1, hi171_1⟩ := at_T59 (Kd.V_reads' HO_157000.out).2.2 x9_1 p171 q171
                 obtain rfl : ad162 = ad171 := (by injection e171)
                 obtain ⟨ce171, hce171, hMe171, hcc171⟩ := Kd.V_get HO_157000.out z59 x9_1 p171 (by first | exact q171 )
                 obtain ⟨ua171_1, uc171_1, rfl, ul171_1, ge171_1⟩ := k59_openF hMe171
                 have hv171_1 := hcc171 1 _ rfl
                 rw [add_field _ _ 1 (by omega)] at hv171_1
                 replace hv171_1 := Option.some.inj (hv171_1.symm.trans hx171_1)
                 injection hv171_1 with hva_ hvn_ hvc_
                 rw [hva_] at ge171_1
                 rw [hvc_] at ul171_1
                 have HL171_1 := Aside0.mk (show Kd.V k70 70 _ w0.heap.size _ _ ((rd_T59 l0_0 x9_1).f1) from Kd.V_mk ul171_1 ge171_1)
                 clear hva_ hvn_ hvc_ ge171_1 ul171_1
                 clear hcc171 hce171
                 have HR171_1 := Aside0.mk hi171_1
                 have HC171_1 := Aside0.mk hl171_1
                 clear hi171_1 hl171_1
                 replace p171 := eq_true p171
                 replace q171 := eq_true q171
                 refine start_ (n := 11) (S := fun w' => w'.cell? ⟨gb158, 0, none⟩ = some (.slice Ao37 y168.length co37) ∧ w'.cell? ⟨gb158, 1, none⟩ = some (.slice Ao4 l0_1.length co4) ∧ w'.cell? ⟨gb156, 0, none⟩ = some (.slice (some ad162) l0_0.length c0_0) ∧ w'.cell? ⟨gb156, 1, none⟩ = some (.slice Ao4 l0_1.length co4) ∧ w'.cell? (ad162.add ((x9_1).toNat * 2)) = some (.int .i64 ((rd_T59 l0_0 x9_1).f0)) ∧ w'.cell? ⟨(ad162.add ((x9_1).toNat * 2)).block, (ad162.add ((x9_1).toNat * 2)).off + 1, none⟩ = some (.slice A171_1 ((rd_T59 l0_0 x9_1).f1).length c171_1)) (ds := [8, 10]) #[false, false, false, false, false, false, false, false, false, false, false] (by kernel_rfl) rfl rfl ⟨(blk_cell BK158.out 0).trans rfl, (blk_cell BK158.out 1).trans rfl, (blk_cell BK156.out 0).trans rfl, (blk_cell BK156.out 1).trans rfl, hx171_0, hx171_1⟩ (fun hHeld => ?_); refine with_tabW ecdysisref19_With.tab10 ecdysisref19_With.bits10 (fun HT_ HW_ => ?_)
                 generalize w39.drew = w40 at HO_2 HO_157000 HO_157001 HO_159001 HL162_1 HL167_1 HO170 BK156 BK157 BK158 HK HB HL171_1 HR171_1 hx171_0 hx171_1 hHeld ⊢
                 refine zp 0 (zb 11 1) ?_ rfl rfl HT_ (by kernel_rfl) (fun _ _ _ h => h) rfl ?_ ?_ ?_ ?_; rotate_left; (intro w'; go_simp; with_reducible rfl); rotate_left; (simp only [zs]; rfl)
                 refine zp 2 (zb 11 5) ?_ rfl rfl HT_ (by kernel_rfl) (fun _ _ _ h => h) rfl ?_ ?_ ?_ ?_; rotate_left; (intro w'; go_simp; with_reducible rfl); rotate_left; (simp only [zs]; rfl)
                 refine zp 4 (zb 11 21) ?_ rfl rfl HT_ (by kernel_rfl) (fun _ _ _ h => h) rfl ?_ ?_ ?_ ?_; rotate_left; (intro w'; go_simp; with_reducible rfl); rotate_left; (simp only [zs]; rfl)
                 refine zt 1 (zb 11 23) ?_ rfl rfl HT_ HW_ (by kernel_rfl) (fun _ _ _ h => h) rfl ?_ hHeld ?_ ?_ ?_; rotate_left; (rintro w' ⟨s0, s1, s2, s3, s4, s5⟩; go_simp; with_reducible rfl); rotate_left; (simp only [zs]; rfl)
                 refine zt 3 (zb 11 31) ?_ rfl rfl HT_ HW_ (by kernel_rfl) (fun _ _ _ h => h) rfl ?_ hHeld ?_ ?_ ?_; rotate_left; (rintro w' ⟨s0, s1, s2, s3, s4, s5⟩; go_simp; with_reducible rfl); rotate_left; (simp only [zs]; rfl)
                 refine zp 5 (zb 11 63) ?_ rfl rfl HT_ (by kernel_rfl) (fun _ _ _ h => h) rfl ?_ ?_ ?_ ?_; rotate_left; (intro w'; go_simp; with_reducible rfl); rotate_left; (simp only [zs]; rfl)
                 refine zt 6 (zb 11 127) ?_ rfl rfl HT_ HW_ (by kernel_rfl) (fun _ _ _ h => h) rfl ?_ hHeld ?_ ?_ ?_; rotate_left; (rintro w' ⟨s0, s1, s2, s3, s4, s5⟩; go_simp; with_reducible rfl); rotate_left; (simp only [zs]; rfl)
                 refine one_ (i := 7) (N := some 58) #[true, true, true, true, true, true, true, true, false, false, false] rfl rfl (one_of HT_.out (by kernel_rfl)) (by decide) (fun K hK => ?_)
                 refine value_ (w1 := ?_) (v := ?_) (by rfl) rfl ?_ ?_
                 rotate_left 2
                 · go_simp
                   constructor
                   · rfl
                   · rfl
                 refine hK.out _ _ ⟨(blk_cell (blk_alloc BK158.out _) 0).trans rfl, (blk_cell (blk_alloc BK158.out _) 1).trans rfl, (blk_cell (blk_alloc BK156.out _) 0).trans rfl, (blk_cell (blk_alloc BK156.out _) 1).trans rfl, (World.cell?_alloc_lt _ _ _ (World.block_lt_of_cell? _ _ (hHeld.2.2.2.2.1))).trans (hHeld.2.2.2.2.1), (World.cell?_alloc_lt _ _ _ (World.block_lt_of_cell? _ _ (hHeld.2.2.2.2.2))).trans (hHeld.2.2.2.2.2)⟩ (fun hHeld => ?_)
                 clear hK K
                 refine norm_ (a' := ?_) ?_ ?_
                 rotate_left
                 · show Act.put _ (some 58) _ = _
                   simp only [zs]
                   rfl
                 refine last_ (i := 8) (N := some 59) #[true, true, true, true, true, true, true, true, true, false, false] rfl rfl (one_of HT_.out (by kernel_rfl)) (by decide) (fun K hK => ?_)
                 refine Kd.N_append_step k59 w.heap.size rfl (.tmp 52) (.tmp 58) 22 59 (.agg #[(.int .i64 0), (.slice none 0 0)]) 32 rfl Try.underlying22 info59 rfl (by decide) (by omega) (.slice Ao37 y168.length co37) y168 (⟨(rd_T59 l0_0 x9_1).f0, (rd_T59 l0_0 x9_1).f1⟩ : S59) [.int .i64 ((rd_T59 l0_0 x9_1).f0), .slice A171_1 ((rd_T59 l0_0 x9_1).f1).length c171_1] (fun k_ => ((P0_1_ k_ ∨ P0_0_ k_ ∨ P2_ k_) ∨ w.heap.size ≤ k_) ∧ some k_ ≠ (.slice Ao4 l0_1.length co4 : Value).ownBlock ∧ some k_ ≠ (.slice Ao4 l0_1.length co4 : Value).ownBlock ∧ k_ ≠ gb156 ∧ k_ ≠ gb157 ∧ k_ ≠ gb158) (fun k_ => ((fun k_ => ((P0_1_ k_ ∨ P0_0_ k_ ∨ P2_ k_) ∨ w.heap.size ≤ k_) ∧ some k_ ≠ (.slice Ao4 l0_1.length co4 : Value).ownBlock ∧ some k_ ≠ (.slice Ao4 l0_1.length co4 : Value).ownBlock ∧ k_ ≠ gb156 ∧ k_ ≠ gb157 ∧ k_ ≠ gb158)) k_ ∧ some k_ ≠ (.slice Ao37 y168.length co37 : Value).ownBlock) rfl rfl ?aP (fun _ hk => hk) ?aF ?aO (Below.refl _ _) ?aS ?aL ?_
                 (case aP => exact (k59_mkF _ _ (⟨(rd_T59 l0_0 x9_1).f0, (rd_T59 l0_0 x9_1).f1⟩ : S59) (Kd.V_reads' (Kd.V_mono (ok' := (fun k_ => ((fun k_ => ((P0_1_ k_ ∨ P0_0_ k_ ∨ P2_ k_) ∨ w.heap.size ≤ k_) ∧ some k_ ≠ (.slice Ao4 l0_1.length co4 : Value).ownBlock ∧ some k_ ≠ (.slice Ao4 l0_1.length co4 : Value).ownBlock ∧ k_ ≠ gb156 ∧ k_ ≠ gb157 ∧ k_ ≠ gb158)) k_ ∧ some k_ ≠ (.slice Ao37 y168.length co37 : Value).ownBlock)) (HL171_1.out) (fun k_ hk => ⟨⟨hk.1, ⟨hk.2.1, ⟨hk.2.2.1, ⟨hk.2.2.2.2.1, ⟨hk.2.2.2.2.2.1, hk.2.2.2.2.2.2⟩⟩⟩⟩⟩, hk.2.2.2.1⟩))).2.1 (Kd.V_F (Kd.V_mono (ok' := (fun k_ => ((fun k_ => ((P0_1_ k_ ∨ P0_0_ k_ ∨ P2_ k_) ∨ w.heap.size ≤ k_) ∧ some k_ ≠ (.slice Ao4 l0_1.length co4 : Value).ownBlock ∧ some k_ ≠ (.slice Ao4 l0_1.length co4 : Value).ownBlock ∧ k_ ≠ gb156 ∧ k_ ≠ gb157 ∧ k_ ≠ gb158)) k_ ∧ some k_ ≠ (.slice Ao37 y168.length co37 : Value).ownBlock)) (HL171_1.out) (fun k_ hk => ⟨⟨hk.1, ⟨hk.2.1, ⟨hk.2.2.1, ⟨hk.2.2.2.2.1, ⟨hk.2.2.2.2.2.1, hk.2.2.2.2.2.2⟩⟩⟩⟩⟩, hk.2.2.2.1⟩)))))
                 (case aF => exact (fun k_ hk => ⟨(.inr (Nat.le_trans (by first | exact HK.out.1 ) hk)), Kd.fresh' (Kd.R_lt HO_157001.out) k_ hk, Kd.fresh' (Kd.R_lt HO_159001.out) k_ hk, Kd.freshB (g := gb156) (o := .cells #[.slice (some ad162) l0_0.length c0_0, .slice Ao4 l0_1.length co4] 25 (0, 0)) BK156.out k_ hk, Kd.freshB (g := gb157) (o := .cells #[.slice none 0 0, .slice none 0 0] 25 (0, 0)) BK157.out k_ hk, Kd.freshB (g := gb158) (o := .cells #[.slice Ao37 y168.length co37, .slice Ao4 l0_1.length co4] 25 (0, 0)) BK158.out k_ hk⟩))
                 (case aO => exact HO170.out)
                 (case aS => exact (by first | exact HK.out.1 ))
                 (case aL => have := LMc30.out; omega)
                 intro v173 w41 ho hb hg hat
                 rw [← Ny172.out] at ho
                 have n0_ := Aside0.mk (Kd.V_afterv (ok := (fun k_ => ((P0_1_ k_ ∨ P0_0_ k_ ∨ P2_ k_) ∨ w.heap.size ≤ k_) ∧ some k_ ≠ (.slice Ao4 l0_1.length co4 : Value).ownBlock ∧ some k_ ≠ (.slice Ao4 l0_1.length co4 : Value).ownBlock ∧ k_ ≠ gb156 ∧ k_ ≠ gb157 ∧ k_ ≠ gb158)) (by exact Kd.V_mono HO_2.out (fun _ hk => ⟨⟨hk.1, ⟨hk.2.1, ⟨hk.2.2.1, ⟨hk.2.2.2.2.1, ⟨hk.2.2.2.2.2.1, hk.2.2.2.2.2.2⟩⟩⟩⟩⟩, hk.2.2.2.1⟩)) hg hat)
                 have n1_ := Aside0.mk (Kd.V_afterv (ok := (fun k_ => ((P0_1_ k_ ∨ P0_0_ k_ ∨ P2_ k_) ∨ w.heap.size ≤ k_) ∧ some k_ ≠ (.slice Ao4 l0_1.length co4 : Value).ownBlock ∧ some k_ ≠ (.slice Ao4 l0_1.length co4 : Value).ownBlock ∧ k_ ≠ gb156 ∧ k_ ≠ gb157 ∧ k_ ≠ gb158)) (by exact Kd.V_mono HO_157000.out (fun _ hk => ⟨⟨hk.1, ⟨hk.2.1, ⟨hk.2.2.1, ⟨hk.2.2.2.2.1, ⟨hk.2.2.2.2.2.1, hk.2.2.2.2.2.2⟩⟩⟩⟩⟩, hk.2.2.2.1⟩)) hg hat)
                 have n2_ := Aside0.mk (Kd.R_over' HO_157001.out (Kd.N_typed HO170.out) (by decide) hg)
                 have n3_ := Aside0.mk (Kd.R_over' HO_159001.out (Kd.N_typed HO170.out) (by decide) hg)
                 have n4_ := Aside0.mk (blk_grown (g := gb156) (o := .cells #[.slice (some ad162) l0_0.length c0_0, .slice Ao4 l0_1.length co4] 25 (0, 0)) BK156.out hg (Kd.N_ne HO170.out BK156.out (by decide)))
                 have n5_ := Aside0.mk (blk_grown (g := gb157) (o := .cells #[.slice none 0 0, .slice none 0 0] 25 (0, 0)) BK157.out hg (Kd.N_ne HO170.out BK157.out (by decide)))
                 have n6_ := Aside0.mk (blk_grown (g := gb158) (o := .cells #[.slice Ao37 y168.length co37, .slice Ao4 l0_1.length co4] 25 (0, 0)) BK158.out hg (Kd.N_ne HO170.out BK158.out (by decide)))
                 have n7_ := Aside0.mk (Kd.V_afterv (ok := (fun k_ => ((P0_1_ k_ ∨ P0_0_ k_ ∨ P2_ k_) ∨ w.heap.size ≤ k_) ∧ some k_ ≠ (.slice Ao4 l0_1.length co4 : Value).ownBlock ∧ some k_ ≠ (.slice Ao4 l0_1.length co4 : Value).ownBlock ∧ k_ ≠ gb156 ∧ k_ ≠ gb157 ∧ k_ ≠ gb158)) (by exact Kd.V_mono HL162_1.out (fun _ hk => ⟨⟨hk.1, ⟨hk.2.1, ⟨hk.2.2.1, ⟨hk.2.2.2.2.1, ⟨hk.2.2.2.2.2.1, hk.2.2.2.2.2.2⟩⟩⟩⟩⟩, hk.2.2.2.1⟩)) hg hat)
                 have n8_ := Aside0.mk (Kd.V_afterv (ok := (fun k_ => ((P0_1_ k_ ∨ P0_0_ k_ ∨ P2_ k_) ∨ w.heap.size ≤ k_) ∧ some k_ ≠ (.slice Ao4 l0_1.length co4 : Value).ownBlock ∧ some k_ ≠ (.slice Ao4 l0_1.length co4 : Value).ownBlock ∧ k_ ≠ gb156 ∧ k_ ≠ gb157 ∧ k_ ≠ gb158)) (by exact Kd.V_mono HL167_1.out (fun _ hk => ⟨⟨hk.1, ⟨hk.2.1, ⟨hk.2.2.1, ⟨hk.2.2.2.2.1, ⟨hk.2.2.2.2.2.1, hk.2.2.2.2.2.2⟩⟩⟩⟩⟩, hk.2.2.2.1⟩)) hg hat)
                 have n9_ := Aside0.mk (Kd.V_afterv (ok := (fun k_ => ((P0_1_ k_ ∨ P0_0_ k_ ∨ P2_ k_) ∨ w.heap.size ≤ k_) ∧ some k_ ≠ (.slice Ao4 l0_1.length co4 : Value).ownBlock ∧ some k_ ≠ (.slice Ao4 l0_1.length co4 : Value).ownBlock ∧ k_ ≠ gb156 ∧ k_ ≠ gb157 ∧ k_ ≠ gb158)) (by exact Kd.V_mono HL171_1.out (fun _ hk => ⟨⟨hk.1, ⟨hk.2.1, ⟨hk.2.2.1, ⟨hk.2.2.2.2.1, ⟨hk.2.2.2.2.2.1, hk.2.2.2.2.2.2⟩⟩⟩⟩⟩, hk.2.2.2.1⟩)) hg hat)
                 have n10_ := Aside0.mk (below_weaken HB.out HW0.out hb)
                 have n11_ := Aside0.mk (Kept.of_grown (S := (fun k_ => P0_1_ k_)) hg HK.out (fun k_ e_ => .inr (Kd.N_base HO170.out k_ e_)))
                 have n12_ := Aside0.mk (ho)
                 clear HO_2
                 clear HO_157000
                 clear HO_157001
                 clear HO_159001
                 clear BK156
                 clear BK157
                 clear BK158
                 clear HL162_1
                 clear HL167_1
                 clear HL171_1
                 clear HB
                 clear HK
                 clear HO170
                 have HO_2 := n0_
                 have HO_157000 := n1_
                 have HO_157001 := n2_
                 have HO_159001 := n3_
                 have BK156 := n4_
                 have BK157 := n5_
                 have BK158 := n6_
                 have HL162_1 := n7_
                 have HL167_1 := n8_
                 have HL171_1 := n9_
                 have HB := n10_
                 have HK := n11_
                 have HO174 := n12_
                 clear n0_ n1_ n2_ n3_ n4_ n5_ n6_ n7_ n8_ n9_ n10_ n11_ n12_
                 clear ho hb hg hat
                 obtain ⟨Ao42, co42, eo42⟩ := Kd.N_slice HO174.out
                 (first | subst eo42 )
                 refine hK.out _ _ ?_
                 clear hK K
                 refine norm_ (a' := ?_) ?_ ?_
                 rotate_left
                 · show Act.put _ (some 59) _ = _
                   simp only [zs]
                   rfl
                 refine zp 9 (zb 11 1023) ?_ rfl rfl HT_ (by kernel_rfl) (fun _ _ _ h => h) rfl ?_ ?_ ?_ ?_; rotate_left; (intro w'; go_simp; with_reducible rfl); rotate_left; (simp only [zs]; rfl)
                 refine last_ (i := 10) (N := none) #[true, true, true, true, true, true, true, true, true, true, true] rfl rfl (one_of HT_.out (by kernel_rfl)) (by decide) (fun K hK => ?_)
                 have hs43 : w41.cell? ⟨gb158, 0, none⟩ = some (.slice Ao37 y168.length co37) := (blk_cell BK158.out 0).trans rfl
                 have hfs43 := blk_frozen BK158.out 0
                 have hns43_0 := NB156_158.out
                 have hns43_1 := NB157_158.out
                 have hms43_0 := NB158_156.out
                 have hms43_1 := NB158_157.out
                 refine skip_ (w1 := ?_) (by rfl) rfl ?_ ?_
                 rotate_left
                 · go_simp
                   rfl
                 refine hK.out _ _ ?_
                 clear hK K
                 refine done_ (done_of HT_.out (by kernel_rfl)) ?_
                 try go_wp2
                 go_roundg k1
                 case measure => have := HK1.out; omega
                 case rel => exact ⟨(true), (wrap64 (x9_1 + 1)), (y172), (.slice Ao42 y172.length co42), (by first | rfl ), (by first | rfl ), H', ⟨by have := HK1.out; omega⟩, ⟨by exact Kd.V_mono (Kd.V_far (p := ⟨gb158, 0, none⟩) (Kd.V_mono HO_2.out (fun k_ hk => (⟨hk, hk.1.2.2.2.2.2⟩ : _ ∧ k_ ≠ gb158))) (fun _ hk => hk.2) (.slice Ao42 y172.length co42)) (fun _ hk => ⟨hk.1.1.1, ⟨hk.1.1.2.1, ⟨hk.1.2, ⟨hk.1.1.2.2.1, ⟨hk.1.1.2.2.2.1, ⟨hk.1.1.2.2.2.2.1, hk.1.1.2.2.2.2.2⟩⟩⟩⟩⟩⟩)⟩, ⟨by exact Kd.V_mono (Kd.V_far (p := ⟨gb158, 0, none⟩) (Kd.V_mono HO_157000.out (fun k_ hk => (⟨hk, hk.1.2.2.2.2.2⟩ : _ ∧ k_ ≠ gb158))) (fun _ hk => hk.2) (.slice Ao42 y172.length co42)) (fun _ hk => ⟨hk.1.1.1, ⟨hk.1.1.2.1, ⟨hk.1.2, ⟨hk.1.1.2.2.1, ⟨hk.1.1.2.2.2.1, ⟨hk.1.1.2.2.2.2.1, hk.1.1.2.2.2.2.2⟩⟩⟩⟩⟩⟩)⟩, ⟨by exact Kd.R_mono (Kd.R_far (p := ⟨gb158, 0, none⟩) (Kd.R_types HO_157001.out BK158.out (by decide)) (fun _ hk => hk.2) (.slice Ao42 y172.length co42)) (fun _ hk => hk.1)⟩, ⟨by exact Kd.N_mono (Kd.N_far (p := ⟨gb158, 0, none⟩) (Kd.N_mono HO174.out (fun k_ hk => (⟨hk, hk.2.2.2.2.2⟩ : _ ∧ k_ ≠ gb158))) (fun _ hk => hk.2) (.slice Ao42 y172.length co42)) (fun _ hk => ⟨hk.1.1, ⟨hk.1.2.1, ⟨hk.1.2.2.1, ⟨hk.1.2.2.2.1, ⟨hk.1.2.2.2.2.1, hk.1.2.2.2.2.2⟩⟩⟩⟩⟩)⟩, ⟨by exact Kd.R_mono (Kd.R_far (p := ⟨gb158, 0, none⟩) (Kd.R_types HO_159001.out BK158.out (by decide)) (fun _ hk => hk.2) (.slice Ao42 y172.length co42)) (fun _ hk => hk.1)⟩, ⟨by refine blk_far ?_ NB156_158.out _; exact BK156.out⟩, ⟨by refine blk_far ?_ NB157_158.out _; exact BK157.out⟩, ⟨by refine blk_put (cs := #[.slice Ao37 y168.length co37, .slice Ao4 l0_1.length co4]) ?_ 0 _ rfl; exact BK158.out⟩, ⟨by repeat (first | (with_reducible first | exact HK.out | refine Kept.setCell ?_ (.inr GW158.out) _) )⟩, ⟨by repeat (first | (with_reducible first | exact HB.out | refine below_set ?_ GE158.out) )⟩⟩
               · rw [if_neg c30] at H
                 exact absurd H (by simp)
             · rw [if_neg c29] at H
               exact absurd H (by simp)
           · rw [if_neg c28] at H
             have c28b0 : decide (a1 < ((rd_T59 l0_0 x9_1).f0)) = false := decide_eq_false c28
             clear c28
             by_cases c44 : x159000_1.length < 4398046511104
             · rw [if_pos c44] at H
               have LMc44 := Aside0.mk c44
               clear c44
               obtain ⟨y176, hy176⟩ : ∃ y_ : List (S59), y_ = (x159000_1 ++ [(⟨(rd_T59 l0_0 x9_1).f0, (rd_T59 l0_0 x9_1).f1⟩ : S59)]) := ⟨_, rfl⟩
               replace H : (ecdysisref19_With.l0 k1 a1 l2 false (wrap64 (x9_1 + 1)) l0_0 l0_1 y176 l0_1) = some (r1, r2) := by first | (rw [hy176]; with_reducible exact H) 
               have Ny176 := Aside0.mk hy176
               clear hy176
               have H' := Aside0.mk H
               clear H
               have hnb45 := NB156_157.out
               have hnc45 := NB157_156.out
               have hnb46 := NB156_158.out
               have hnc46 := NB158_156.out
               have hcz47_0 : wr.cell? ⟨gb156, 0, none⟩ = some (.slice A0_0 l0_0.length c0_0) := (blk_cell BK156.out 0).trans rfl
               have hcz47_1 : wr.cell? ⟨gb156, 1, none⟩ = some (.slice Ao4 l0_1.length co4) := (blk_cell BK156.out 1).trans rfl
               have hfz47_0 := blk_frozen BK156.out 0
               have hfz47_1 := blk_frozen BK156.out 1
               have p162 : 0 ≤ (x9_1 : Int) := of_decide_eq_true (by first | (with_reducible assumption) )
               have q162 : x9_1 < (l0_0.length : Int) := of_decide_eq_true (by first | (with_reducible assumption) )
               obtain ⟨ad162, A162_1, c162_1, e162, hx162_0, hx162_1, hl162_1, hi162_1⟩ := at_T59 (Kd.V_reads' HO_157000.out).2.2 x9_1 p162 q162
               cases e162
               obtain ⟨ce162, hce162, hMe162, hcc162⟩ := Kd.V_get HO_157000.out z59 x9_1 p162 (by first | exact q162 )
               obtain ⟨ua162_1, uc162_1, rfl, ul162_1, ge162_1⟩ := k59_openF hMe162
               have hv162_1 := hcc162 1 _ rfl
               rw [add_field _ _ 1 (by omega)] at hv162_1
               replace hv162_1 := Option.some.inj (hv162_1.symm.trans hx162_1)
               injection hv162_1 with hva_ hvn_ hvc_
               rw [hva_] at ge162_1
               rw [hvc_] at ul162_1
               have HL162_1 := Aside0.mk (show Kd.V k70 70 _ w0.heap.size _ _ ((rd_T59 l0_0 x9_1).f1) from Kd.V_mk ul162_1 ge162_1)
               clear hva_ hvn_ hvc_ ge162_1 ul162_1
               clear hcc162 hce162
               have HR162_1 := Aside0.mk hi162_1
               have HC162_1 := Aside0.mk hl162_1
               clear hi162_1 hl162_1
               replace p162 := eq_true p162
               replace q162 := eq_true q162
               have p167 : 0 ≤ (x9_1 : Int) := of_decide_eq_true (by first | (with_reducible assumption) )
               have q167 : x9_1 < (l0_0.length : Int) := of_decide_eq_true (by first | (with_reducible assumption) )
               obtain ⟨ad167, A167_1, c167_1, e167, hx167_0, hx167_1, hl167_1, hi167_1⟩ := at_T59 (Kd.V_reads' HO_157000.out).2.2 x9_1 p167 q167
               obtain rfl : ad162 = ad167 := (by injection e167)
               obtain ⟨ce167, hce167, hMe167, hcc167⟩ := Kd.V_get HO_157000.out z59 x9_1 p167 (by first | exact q167 )
               obtain ⟨ua167_1, uc167_1, rfl, ul167_1, ge167_1⟩ := k59_openF hMe167
               have hv167_1 := hcc167 1 _ rfl
               rw [add_field _ _ 1 (by omega)] at hv167_1
               replace hv167_1 := Option.some.inj (hv167_1.symm.trans hx167_1)
               injection hv167_1 with hva_ hvn_ hvc_
               rw [hva_] at ge167_1
               rw [hvc_] at ul167_1
               have HL167_1 := Aside0.mk (show Kd.V k70 70 _ w0.heap.size _ _ ((rd_T59 l0_0 x9_1).f1) from Kd.V_mk ul167_1 ge167_1)
               clear hva_ hvn_ hvc_ ge167_1 ul167_1
               clear hcc167 hce167
               have HR167_1 := Aside0.mk hi167_1
               have HC167_1 := Aside0.mk hl167_1
               clear hi167_1 hl167_1
               replace p167 := eq_true p167
               replace q167 := eq_true q167
               have ea_ := Option.some.inj (hx162_1.symm.trans hx167_1)
               injection ea_ with ea_ en_ ec_
               subst ea_
               subst ec_
               clear en_
               try go_wp2
               have n0_ := Aside0.mk (Kd.V_drew HO_2.out)
               have n1_ := Aside0.mk (Kd.V_drew HO_157000.out)
               have n2_ := Aside0.mk (Kd.R_drew HO_157001.out)
               have n3_ := Aside0.mk (Kd.N_drew HO_159000.out)
               have n4_ := Aside0.mk (Kd.R_drew HO_159001.out)
               have n5_ := Aside0.mk (Kd.V_drew HL162_1.out)
               have n6_ := Aside0.mk (Kd.V_drew HL167_1.out)
               have n7_ := Aside0.mk (blk_drew BK156.out)
               have n8_ := Aside0.mk (blk_drew BK157.out)
               have n9_ := Aside0.mk (blk_drew BK158.out)
               have n10_ := Aside0.mk (Kd.C_drew HR162_1.out)
               have n11_ := Aside0.mk (Kd.C_drew HR167_1.out)
               have n12_ := Aside0.mk (Kept.drew HK.out)
               have n13_ := Aside0.mk (below_drew1 HB.out)
               clear HO_2
               clear HO_157000
               clear HO_157001
               clear HO_159000
               clear HO_159001
               clear HL162_1
               clear HL167_1
               clear BK156
               clear BK157
               clear BK158
               clear HR162_1
               clear HR167_1
               clear HK
               clear HB
               have HO_2 := n0_
               have HO_157000 := n1_
               have HO_157001 := n2_
               have HO_159000 := n3_
               have HO_159001 := n4_
               have HL162_1 := n5_
               have HL167_1 := n6_
               have BK156 := n7_
               have BK157 := n8_
               have BK158 := n9_
               have HR162_1 := n10_
               have HR167_1 := n11_
               have HK := n12_
               have HB := n13_
               clear n0_ n1_ n2_ n3_ n4_ n5_ n6_ n7_ n8_ n9_ n10_ n11_ n12_ n13_
               have p175 : 0 ≤ (x9_1 : Int) := of_decide_eq_true (by first | (with_reducible assumption) )
               have q175 : x9_1 < (l0_0.length : Int) := of_decide_eq_true (by first | (with_reducible assumption) )
               obtain ⟨ad175, A175_1, c175_1, e175, hx175_0, hx175_1, hl175_1, hi175_1⟩ := at_T59 (Kd.V_reads' HO_157000.out).2.2 x9_1 p175 q175
               obtain rfl : ad162 = ad175 := (by injection e175)
               obtain ⟨ce175, hce175, hMe175, hcc175⟩ := Kd.V_get HO_157000.out z59 x9_1 p175 (by first | exact q175 )
               obtain ⟨ua175_1, uc175_1, rfl, ul175_1, ge175_1⟩ := k59_openF hMe175
               have hv175_1 := hcc175 1 _ rfl
               rw [add_field _ _ 1 (by omega)] at hv175_1
               replace hv175_1 := Option.some.inj (hv175_1.symm.trans hx175_1)
               injection hv175_1 with hva_ hvn_ hvc_
               rw [hva_] at ge175_1
               rw [hvc_] at ul175_1
               have HL175_1 := Aside0.mk (show Kd.V k70 70 _ w0.heap.size _ _ ((rd_T59 l0_0 x9_1).f1) from Kd.V_mk ul175_1 ge175_1)
               clear hva_ hvn_ hvc_ ge175_1 ul175_1
               clear hcc175 hce175
               have HR175_1 := Aside0.mk hi175_1
               have HC175_1 := Aside0.mk hl175_1
               clear hi175_1 hl175_1
               replace p175 := eq_true p175
               replace q175 := eq_true q175
               refine start_ (n := 11) (S := fun w' => w'.cell? ⟨gb158, 0, none⟩ = some (u159000) ∧ w'.cell? ⟨gb158, 1, none⟩ = some (.slice Ao4 l0_1.length co4) ∧ w'.cell? ⟨gb156, 0, none⟩ = some (.slice (some ad162) l0_0.length c0_0) ∧ w'.cell? ⟨gb156, 1, none⟩ = some (.slice Ao4 l0_1.length co4) ∧ w'.cell? (ad162.add ((x9_1).toNat * 2)) = some (.int .i64 ((rd_T59 l0_0 x9_1).f0)) ∧ w'.cell? ⟨(ad162.add ((x9_1).toNat * 2)).block, (ad162.add ((x9_1).toNat * 2)).off + 1, none⟩ = some (.slice A175_1 ((rd_T59 l0_0 x9_1).f1).length c175_1)) (ds := [8, 10]) #[false, false, false, false, false, false, false, false, false, false, false] (by kernel_rfl) rfl rfl ⟨(blk_cell BK158.out 0).trans rfl, (blk_cell BK158.out 1).trans rfl, (blk_cell BK156.out 0).trans rfl, (blk_cell BK156.out 1).trans rfl, hx175_0, hx175_1⟩ (fun hHeld => ?_); refine with_tabW ecdysisref19_With.tab10 ecdysisref19_With.bits10 (fun HT_ HW_ => ?_)
               generalize wr.drew = w48 at HO_2 HO_157000 HO_157001 HO_159000 HO_159001 HL162_1 HL167_1 BK156 BK157 BK158 HR162_1 HR167_1 HK HB HL175_1 HR175_1 hx175_0 hx175_1 hHeld ⊢
               refine zp 0 (zb 11 1) ?_ rfl rfl HT_ (by kernel_rfl) (fun _ _ _ h => h) rfl ?_ ?_ ?_ ?_; rotate_left; (intro w'; go_simp; with_reducible rfl); rotate_left; (simp only [zs]; rfl)
               refine zp 2 (zb 11 5) ?_ rfl rfl HT_ (by kernel_rfl) (fun _ _ _ h => h) rfl ?_ ?_ ?_ ?_; rotate_left; (intro w'; go_simp; with_reducible rfl); rotate_left; (simp only [zs]; rfl)
               refine zp 4 (zb 11 21) ?_ rfl rfl HT_ (by kernel_rfl) (fun _ _ _ h => h) rfl ?_ ?_ ?_ ?_; rotate_left; (intro w'; go_simp; with_reducible rfl); rotate_left; (simp only [zs]; rfl)
               refine zt 1 (zb 11 23) ?_ rfl rfl HT_ HW_ (by kernel_rfl) (fun _ _ _ h => h) rfl ?_ hHeld ?_ ?_ ?_; rotate_left; (rintro w' ⟨s0, s1, s2, s3, s4, s5⟩; go_simp; with_reducible rfl); rotate_left; (simp only [zs]; rfl)
               refine zt 3 (zb 11 31) ?_ rfl rfl HT_ HW_ (by kernel_rfl) (fun _ _ _ h => h) rfl ?_ hHeld ?_ ?_ ?_; rotate_left; (rintro w' ⟨s0, s1, s2, s3, s4, s5⟩; go_simp; with_reducible rfl); rotate_left; (simp only [zs]; rfl)
               refine zp 5 (zb 11 63) ?_ rfl rfl HT_ (by kernel_rfl) (fun _ _ _ h => h) rfl ?_ ?_ ?_ ?_; rotate_left; (intro w'; go_simp; with_reducible rfl); rotate_left; (simp only [zs]; rfl)
               refine zt 6 (zb 11 127) ?_ rfl rfl HT_ HW_ (by kernel_rfl) (fun _ _ _ h => h) rfl ?_ hHeld ?_ ?_ ?_; rotate_left; (rintro w' ⟨s0, s1, s2, s3, s4, s5⟩; go_simp; with_reducible rfl); rotate_left; (simp only [zs]; rfl)
               refine one_ (i := 7) (N := some 58) #[true, true, true, true, true, true, true, true, false, false, false] rfl rfl (one_of HT_.out (by kernel_rfl)) (by decide) (fun K hK => ?_)
               refine value_ (w1 := ?_) (v := ?_) (by rfl) rfl ?_ ?_
               rotate_left 2
               · go_simp
                 constructor
                 · rfl
                 · rfl
               refine hK.out _ _ ⟨(blk_cell (blk_alloc BK158.out _) 0).trans rfl, (blk_cell (blk_alloc BK158.out _) 1).trans rfl, (blk_cell (blk_alloc BK156.out _) 0).trans rfl, (blk_cell (blk_alloc BK156.out _) 1).trans rfl, (World.cell?_alloc_lt _ _ _ (World.block_lt_of_cell? _ _ (hHeld.2.2.2.2.1))).trans (hHeld.2.2.2.2.1), (World.cell?_alloc_lt _ _ _ (World.block_lt_of_cell? _ _ (hHeld.2.2.2.2.2))).trans (hHeld.2.2.2.2.2)⟩ (fun hHeld => ?_)
               clear hK K
               refine norm_ (a' := ?_) ?_ ?_
               rotate_left
               · show Act.put _ (some 58) _ = _
                 simp only [zs]
                 rfl
               refine last_ (i := 8) (N := some 59) #[true, true, true, true, true, true, true, true, true, false, false] rfl rfl (one_of HT_.out (by kernel_rfl)) (by decide) (fun K hK => ?_)
               refine Kd.N_append_step k59 w.heap.size rfl (.tmp 52) (.tmp 58) 22 59 (.agg #[(.int .i64 0), (.slice none 0 0)]) 32 rfl Try.underlying22 info59 rfl (by decide) (by omega) u159000 x159000_1 (⟨(rd_T59 l0_0 x9_1).f0, (rd_T59 l0_0 x9_1).f1⟩ : S59) [.int .i64 ((rd_T59 l0_0 x9_1).f0), .slice A175_1 ((rd_T59 l0_0 x9_1).f1).length c175_1] (fun k_ => ((P0_1_ k_ ∨ P0_0_ k_ ∨ P2_ k_) ∨ w.heap.size ≤ k_) ∧ some k_ ≠ (.slice Ao4 l0_1.length co4 : Value).ownBlock ∧ some k_ ≠ (.slice Ao4 l0_1.length co4 : Value).ownBlock ∧ k_ ≠ gb156 ∧ k_ ≠ gb157 ∧ k_ ≠ gb158) (fun k_ => ((fun k_ => ((P0_1_ k_ ∨ P0_0_ k_ ∨ P2_ k_) ∨ w.heap.size ≤ k_) ∧ some k_ ≠ (.slice Ao4 l0_1.length co4 : Value).ownBlock ∧ some k_ ≠ (.slice Ao4 l0_1.length co4 : Value).ownBlock ∧ k_ ≠ gb156 ∧ k_ ≠ gb157 ∧ k_ ≠ gb158)) k_ ∧ some k_ ≠ (u159000 : Value).ownBlock) rfl rfl ?aP (fun _ hk => hk) ?aF ?aO (Below.refl _ _) ?aS ?aL ?_
               (case aP => exact (k59_mkF _ _ (⟨(rd_T59 l0_0 x9_1).f0, (rd_T59 l0_0 x9_1).f1⟩ : S59) (Kd.V_reads' (Kd.V_mono (ok' := (fun k_ => ((fun k_ => ((P0_1_ k_ ∨ P0_0_ k_ ∨ P2_ k_) ∨ w.heap.size ≤ k_) ∧ some k_ ≠ (.slice Ao4 l0_1.length co4 : Value).ownBlock ∧ some k_ ≠ (.slice Ao4 l0_1.length co4 : Value).ownBlock ∧ k_ ≠ gb156 ∧ k_ ≠ gb157 ∧ k_ ≠ gb158)) k_ ∧ some k_ ≠ (u159000 : Value).ownBlock)) (HL175_1.out) (fun k_ hk => ⟨⟨hk.1, ⟨hk.2.1, ⟨hk.2.2.2.1, ⟨hk.2.2.2.2.1, ⟨hk.2.2.2.2.2.1, hk.2.2.2.2.2.2⟩⟩⟩⟩⟩, hk.2.2.1⟩))).2.1 (Kd.V_F (Kd.V_mono (ok' := (fun k_ => ((fun k_ => ((P0_1_ k_ ∨ P0_0_ k_ ∨ P2_ k_) ∨ w.heap.size ≤ k_) ∧ some k_ ≠ (.slice Ao4 l0_1.length co4 : Value).ownBlock ∧ some k_ ≠ (.slice Ao4 l0_1.length co4 : Value).ownBlock ∧ k_ ≠ gb156 ∧ k_ ≠ gb157 ∧ k_ ≠ gb158)) k_ ∧ some k_ ≠ (u159000 : Value).ownBlock)) (HL175_1.out) (fun k_ hk => ⟨⟨hk.1, ⟨hk.2.1, ⟨hk.2.2.2.1, ⟨hk.2.2.2.2.1, ⟨hk.2.2.2.2.2.1, hk.2.2.2.2.2.2⟩⟩⟩⟩⟩, hk.2.2.1⟩)))))
               (case aF => exact (fun k_ hk => ⟨(.inr (Nat.le_trans (by first | exact HK.out.1 ) hk)), Kd.fresh' (Kd.R_lt HO_157001.out) k_ hk, Kd.fresh' (Kd.R_lt HO_159001.out) k_ hk, Kd.freshB (g := gb156) (o := .cells #[.slice (some ad162) l0_0.length c0_0, .slice Ao4 l0_1.length co4] 25 (0, 0)) BK156.out k_ hk, Kd.freshB (g := gb157) (o := .cells #[.slice none 0 0, .slice none 0 0] 25 (0, 0)) BK157.out k_ hk, Kd.freshB (g := gb158) (o := .cells #[u159000, .slice Ao4 l0_1.length co4] 25 (0, 0)) BK158.out k_ hk⟩))
               (case aO => exact HO_159000.out)
               (case aS => exact (by first | exact HK.out.1 ))
               (case aL => have := LMc44.out; omega)
               intro v177 w49 ho hb hg hat
               rw [← Ny176.out] at ho
               have n0_ := Aside0.mk (Kd.V_afterv (ok := (fun k_ => ((P0_1_ k_ ∨ P0_0_ k_ ∨ P2_ k_) ∨ w.heap.size ≤ k_) ∧ some k_ ≠ (.slice Ao4 l0_1.length co4 : Value).ownBlock ∧ some k_ ≠ (.slice Ao4 l0_1.length co4 : Value).ownBlock ∧ k_ ≠ gb156 ∧ k_ ≠ gb157 ∧ k_ ≠ gb158)) (by exact Kd.V_mono HO_2.out (fun _ hk => ⟨⟨hk.1, ⟨hk.2.1, ⟨hk.2.2.2.1, ⟨hk.2.2.2.2.1, ⟨hk.2.2.2.2.2.1, hk.2.2.2.2.2.2⟩⟩⟩⟩⟩, hk.2.2.1⟩)) hg hat)
               have n1_ := Aside0.mk (Kd.V_afterv (ok := (fun k_ => ((P0_1_ k_ ∨ P0_0_ k_ ∨ P2_ k_) ∨ w.heap.size ≤ k_) ∧ some k_ ≠ (.slice Ao4 l0_1.length co4 : Value).ownBlock ∧ some k_ ≠ (.slice Ao4 l0_1.length co4 : Value).ownBlock ∧ k_ ≠ gb156 ∧ k_ ≠ gb157 ∧ k_ ≠ gb158)) (by exact Kd.V_mono HO_157000.out (fun _ hk => ⟨⟨hk.1, ⟨hk.2.1, ⟨hk.2.2.2.1, ⟨hk.2.2.2.2.1, ⟨hk.2.2.2.2.2.1, hk.2.2.2.2.2.2⟩⟩⟩⟩⟩, hk.2.2.1⟩)) hg hat)
               have n2_ := Aside0.mk (Kd.R_over' HO_157001.out (Kd.N_typed HO_159000.out) (by decide) hg)
               have n3_ := Aside0.mk (Kd.R_over' HO_159001.out (Kd.N_typed HO_159000.out) (by decide) hg)
               have n4_ := Aside0.mk (blk_grown (g := gb156) (o := .cells #[.slice (some ad162) l0_0.length c0_0, .slice Ao4 l0_1.length co4] 25 (0, 0)) BK156.out hg (Kd.N_ne HO_159000.out BK156.out (by decide)))
               have n5_ := Aside0.mk (blk_grown (g := gb157) (o := .cells #[.slice none 0 0, .slice none 0 0] 25 (0, 0)) BK157.out hg (Kd.N_ne HO_159000.out BK157.out (by decide)))
               have n6_ := Aside0.mk (blk_grown (g := gb158) (o := .cells #[u159000, .slice Ao4 l0_1.length co4] 25 (0, 0)) BK158.out hg (Kd.N_ne HO_159000.out BK158.out (by decide)))
               have n7_ := Aside0.mk (Kd.V_afterv (ok := (fun k_ => ((P0_1_ k_ ∨ P0_0_ k_ ∨ P2_ k_) ∨ w.heap.size ≤ k_) ∧ some k_ ≠ (.slice Ao4 l0_1.length co4 : Value).ownBlock ∧ some k_ ≠ (.slice Ao4 l0_1.length co4 : Value).ownBlock ∧ k_ ≠ gb156 ∧ k_ ≠ gb157 ∧ k_ ≠ gb158)) (by exact Kd.V_mono HL162_1.out (fun _ hk => ⟨⟨hk.1, ⟨hk.2.1, ⟨hk.2.2.2.1, ⟨hk.2.2.2.2.1, ⟨hk.2.2.2.2.2.1, hk.2.2.2.2.2.2⟩⟩⟩⟩⟩, hk.2.2.1⟩)) hg hat)
               have n8_ := Aside0.mk (Kd.V_afterv (ok := (fun k_ => ((P0_1_ k_ ∨ P0_0_ k_ ∨ P2_ k_) ∨ w.heap.size ≤ k_) ∧ some k_ ≠ (.slice Ao4 l0_1.length co4 : Value).ownBlock ∧ some k_ ≠ (.slice Ao4 l0_1.length co4 : Value).ownBlock ∧ k_ ≠ gb156 ∧ k_ ≠ gb157 ∧ k_ ≠ gb158)) (by exact Kd.V_mono HL167_1.out (fun _ hk => ⟨⟨hk.1, ⟨hk.2.1, ⟨hk.2.2.2.1, ⟨hk.2.2.2.2.1, ⟨hk.2.2.2.2.2.1, hk.2.2.2.2.2.2⟩⟩⟩⟩⟩, hk.2.2.1⟩)) hg hat)
               have n9_ := Aside0.mk (Kd.V_afterv (ok := (fun k_ => ((P0_1_ k_ ∨ P0_0_ k_ ∨ P2_ k_) ∨ w.heap.size ≤ k_) ∧ some k_ ≠ (.slice Ao4 l0_1.length co4 : Value).ownBlock ∧ some k_ ≠ (.slice Ao4 l0_1.length co4 : Value).ownBlock ∧ k_ ≠ gb156 ∧ k_ ≠ gb157 ∧ k_ ≠ gb158)) (by exact Kd.V_mono HL175_1.out (fun _ hk => ⟨⟨hk.1, ⟨hk.2.1, ⟨hk.2.2.2.1, ⟨hk.2.2.2.2.1, ⟨hk.2.2.2.2.2.1, hk.2.2.2.2.2.2⟩⟩⟩⟩⟩, hk.2.2.1⟩)) hg hat)
               have n10_ := Aside0.mk (below_weaken HB.out HW0.out hb)
               have n11_ := Aside0.mk (Kept.of_grown (S := (fun k_ => P0_1_ k_)) hg HK.out (fun k_ e_ => .inr (Kd.N_base HO_159000.out k_ e_)))
               have n12_ := Aside0.mk (ho)
               clear HO_2
               clear HO_157000
               clear HO_157001
               clear HO_159001
               clear BK156
               clear BK157
               clear BK158
               clear HL162_1
               clear HL167_1
               clear HL175_1
               clear HB
               clear HK
               clear HO_159000
               have HO_2 := n0_
               have HO_157000 := n1_
               have HO_157001 := n2_
               have HO_159001 := n3_
               have BK156 := n4_
               have BK157 := n5_
               have BK158 := n6_
               have HL162_1 := n7_
               have HL167_1 := n8_
               have HL175_1 := n9_
               have HB := n10_
               have HK := n11_
               have HO178 := n12_
               clear n0_ n1_ n2_ n3_ n4_ n5_ n6_ n7_ n8_ n9_ n10_ n11_ n12_
               clear ho hb hg hat
               obtain ⟨Ao50, co50, eo50⟩ := Kd.N_slice HO178.out
               (first | subst eo50 )
               refine hK.out _ _ ?_
               clear hK K
               refine norm_ (a' := ?_) ?_ ?_
               rotate_left
               · show Act.put _ (some 59) _ = _
                 simp only [zs]
                 rfl
               refine zp 9 (zb 11 1023) ?_ rfl rfl HT_ (by kernel_rfl) (fun _ _ _ h => h) rfl ?_ ?_ ?_ ?_; rotate_left; (intro w'; go_simp; with_reducible rfl); rotate_left; (simp only [zs]; rfl)
               refine last_ (i := 10) (N := none) #[true, true, true, true, true, true, true, true, true, true, true] rfl rfl (one_of HT_.out (by kernel_rfl)) (by decide) (fun K hK => ?_)
               have hs51 : w49.cell? ⟨gb158, 0, none⟩ = some (u159000) := (blk_cell BK158.out 0).trans rfl
               have hfs51 := blk_frozen BK158.out 0
               have hns51_0 := NB156_158.out
               have hns51_1 := NB157_158.out
               have hms51_0 := NB158_156.out
               have hms51_1 := NB158_157.out
               refine skip_ (w1 := ?_) (by rfl) rfl ?_ ?_
               rotate_left
               · go_simp
                 rfl
               refine hK.out _ _ ?_
               clear hK K
               refine done_ (done_of HT_.out (by kernel_rfl)) ?_
               try go_wp2
               go_roundg k1
               case measure => have := HK1.out; omega
               case rel => exact ⟨(false), (wrap64 (x9_1 + 1)), (y176), (.slice Ao50 y176.length co50), (by first | rfl ), (by first | rfl ), H', ⟨by have := HK1.out; omega⟩, ⟨by exact Kd.V_mono (Kd.V_far (p := ⟨gb158, 0, none⟩) (Kd.V_mono HO_2.out (fun k_ hk => (⟨hk, hk.1.2.2.2.2.2⟩ : _ ∧ k_ ≠ gb158))) (fun _ hk => hk.2) (.slice Ao50 y176.length co50)) (fun _ hk => ⟨hk.1.1.1, ⟨hk.1.1.2.1, ⟨hk.1.2, ⟨hk.1.1.2.2.1, ⟨hk.1.1.2.2.2.1, ⟨hk.1.1.2.2.2.2.1, hk.1.1.2.2.2.2.2⟩⟩⟩⟩⟩⟩)⟩, ⟨by exact Kd.V_mono (Kd.V_far (p := ⟨gb158, 0, none⟩) (Kd.V_mono HO_157000.out (fun k_ hk => (⟨hk, hk.1.2.2.2.2.2⟩ : _ ∧ k_ ≠ gb158))) (fun _ hk => hk.2) (.slice Ao50 y176.length co50)) (fun _ hk => ⟨hk.1.1.1, ⟨hk.1.1.2.1, ⟨hk.1.2, ⟨hk.1.1.2.2.1, ⟨hk.1.1.2.2.2.1, ⟨hk.1.1.2.2.2.2.1, hk.1.1.2.2.2.2.2⟩⟩⟩⟩⟩⟩)⟩, ⟨by exact Kd.R_mono (Kd.R_far (p := ⟨gb158, 0, none⟩) (Kd.R_types HO_157001.out BK158.out (by decide)) (fun _ hk => hk.2) (.slice Ao50 y176.length co50)) (fun _ hk => hk.1)⟩, ⟨by exact Kd.N_mono (Kd.N_far (p := ⟨gb158, 0, none⟩) (Kd.N_mono HO178.out (fun k_ hk => (⟨hk, hk.2.2.2.2.2⟩ : _ ∧ k_ ≠ gb158))) (fun _ hk => hk.2) (.slice Ao50 y176.length co50)) (fun _ hk => ⟨hk.1.1, ⟨hk.1.2.1, ⟨hk.1.2.2.1, ⟨hk.1.2.2.2.1, ⟨hk.1.2.2.2.2.1, hk.1.2.2.2.2.2⟩⟩⟩⟩⟩)⟩, ⟨by exact Kd.R_mono (Kd.R_far (p := ⟨gb158, 0, none⟩) (Kd.R_types HO_159001.out BK158.out (by decide)) (fun _ hk => hk.2) (.slice Ao50 y176.length co50)) (fun _ hk => hk.1)⟩, ⟨by refine blk_far ?_ NB156_158.out _; exact BK156.out⟩, ⟨by refine blk_far ?_ NB157_158.out _; exact BK157.out⟩, ⟨by refine blk_put (cs := #[u159000, .slice Ao4 l0_1.length co4]) ?_ 0 _ rfl; exact BK158.out⟩, ⟨by repeat (first | (with_reducible first | exact HK.out | refine Kept.setCell ?_ (.inr GW158.out) _) )⟩, ⟨by repeat (first | (with_reducible first | exact HB.out | refine below_set ?_ GE158.out) )⟩⟩
             · rw [if_neg c44] at H
               exact absurd H (by simp)
     · rw [if_neg c14] at H
       exact absurd H (by simp)
   · rw [if_neg c13] at H
     have c13b0 : decide (x9_1 < (l0_0.length : Int)) = false := decide_eq_false c13
     clear c13
     by_cases c52 : x8_1 = true
     · subst c52
       have H1 : (some (x159000_1, l0_1)) = some (r1, r2) := by rw [if_pos rfl] at H; exact H
       clear H
       have H := H1
       clear H1
       simp only [Option.some.injEq, Prod.mk.injEq] at H
       obtain ⟨rfl, rfl⟩ := H
       have hnb53 := NB156_157.out
       have hnc53 := NB157_156.out
       have hnb54 := NB156_158.out
       have hnc54 := NB158_156.out
       have hcz55_0 : wr.cell? ⟨gb156, 0, none⟩ = some (.slice A0_0 l0_0.length c0_0) := (blk_cell BK156.out 0).trans rfl
       have hcz55_1 : wr.cell? ⟨gb156, 1, none⟩ = some (.slice Ao4 l0_1.length co4) := (blk_cell BK156.out 1).trans rfl
       have hfz55_0 := blk_frozen BK156.out 0
       have hfz55_1 := blk_frozen BK156.out 1
       have hnb56 := NB158_157.out
       have hnc56 := NB157_158.out
       have hcz57_0 : wr.cell? ⟨gb158, 0, none⟩ = some (u159000) := (blk_cell BK158.out 0).trans rfl
       have hcz57_1 : wr.cell? ⟨gb158, 1, none⟩ = some (.slice Ao4 l0_1.length co4) := (blk_cell BK158.out 1).trans rfl
       have hfz57_0 := blk_frozen BK158.out 0
       have hfz57_1 := blk_frozen BK158.out 1
       obtain ⟨Ao58, co58, eo58⟩ := Kd.N_slice HO_159000.out
       subst eo58
       have hcz59_0 : wr.cell? ⟨gb157, 0, none⟩ = some (.slice none 0 0) := (blk_cell BK157.out 0).trans rfl
       have hcz59_1 : wr.cell? ⟨gb157, 1, none⟩ = some (.slice none 0 0) := (blk_cell BK157.out 1).trans rfl
       have hfz59_0 := blk_frozen BK157.out 0
       have hfz59_1 := blk_frozen BK157.out 1
       go_wp2
       refine bodyPost_ret (results_cell_row rfl _ _ gb157 25 #[.slice Ao58 x159000_1.length co58, .slice Ao4 l0_1.length co4] (0, 0) _ rfl (by refine blk_put (cs := #[.slice Ao58 x159000_1.length co58, .slice none 0 0]) ?_ 1 _ rfl; refine blk_put (cs := #[.slice none 0 0, .slice none 0 0]) ?_ 0 _ rfl; exact BK157.out) Try.underlying25 rfl (by kernel_rfl)) rfl ?_
       exact ⟨_, _, by first | rfl , by exact Kd.N_mono (Kd.N_far (p := ⟨gb157, 1, none⟩) (Kd.N_far (p := ⟨gb157, 0, none⟩) (Kd.N_mono HO_159000.out (fun k_ hk => (⟨hk, hk.2.2.2.2.1⟩ : _ ∧ k_ ≠ gb157))) (fun _ hk => hk.2) (.slice Ao58 x159000_1.length co58)) (fun _ hk => hk.2) (.slice Ao4 l0_1.length co4)) (fun _ hk => ⟨hk.1.1, hk.1.2.2.1⟩), by exact Kd.R_mono (Kd.R_far (p := ⟨gb157, 1, none⟩) (Kd.R_far (p := ⟨gb157, 0, none⟩) (Kd.R_types HO_159001.out BK157.out (by decide)) (fun _ hk => hk.2) (.slice Ao58 x159000_1.length co58)) (fun _ hk => hk.2) (.slice Ao4 l0_1.length co4)) (fun _ hk => hk.1), by repeat (first | (with_reducible first | exact HB.out | refine below_set ?_ GE157.out ) ), by repeat (first | (with_reducible first | exact HK.out | refine Kept.setCell ?_ (.inr GW157.out) _ ) )⟩
     · replace c52 := Bool.eq_false_iff.mpr c52
       subst c52
       have H1 : (if x159000_1.length < 4398046511104 then (some ((x159000_1 ++ [(⟨a1, l2⟩ : S59)]), l0_1)) else (none)) = some (r1, r2) := by rw [if_neg (show ¬ (false = true) by decide)] at H; exact H
       clear H
       have H := H1
       clear H1
       by_cases c60 : x159000_1.length < 4398046511104
       · rw [if_pos c60] at H
         have LMc60 := Aside0.mk c60
         clear c60
         obtain ⟨y159, hy159⟩ : ∃ y_ : List (S59), y_ = (x159000_1 ++ [(⟨a1, l2⟩ : S59)]) := ⟨_, rfl⟩
         replace H : (some (y159, l0_1)) = some (r1, r2) := by first | (rw [hy159]; with_reducible exact H) 
         have Ny159 := Aside0.mk hy159
         clear hy159
         simp only [Option.some.injEq, Prod.mk.injEq] at H
         obtain ⟨rfl, rfl⟩ := H
         have hnb61 := NB156_157.out
         have hnc61 := NB157_156.out
         have hnb62 := NB156_158.out
         have hnc62 := NB158_156.out
         have hcz63_0 : wr.cell? ⟨gb156, 0, none⟩ = some (.slice A0_0 l0_0.length c0_0) := (blk_cell BK156.out 0).trans rfl
         have hcz63_1 : wr.cell? ⟨gb156, 1, none⟩ = some (.slice Ao4 l0_1.length co4) := (blk_cell BK156.out 1).trans rfl
         have hfz63_0 := blk_frozen BK156.out 0
         have hfz63_1 := blk_frozen BK156.out 1
         have hnb64 := NB158_157.out
         have hnc64 := NB157_158.out
         have hcz65_0 : wr.cell? ⟨gb158, 0, none⟩ = some (u159000) := (blk_cell BK158.out 0).trans rfl
         have hcz65_1 : wr.cell? ⟨gb158, 1, none⟩ = some (.slice Ao4 l0_1.length co4) := (blk_cell BK158.out 1).trans rfl
         have hfz65_0 := blk_frozen BK158.out 0
         have hfz65_1 := blk_frozen BK158.out 1
         go_wp2_with (first | ((with_reducible refine gate_builtin (b := .append) (xs := #[.tmp 64, .tmp 68]) rfl ?_); at_builtin; refine Kd.N_append k59 w.heap.size rfl (.tmp 64) (.tmp 68) 22 59 (.agg #[(.int .i64 0), (.slice none 0 0)]) 32 rfl Try.underlying22 info59 rfl (by decide) (by omega) u159000 x159000_1 (⟨a1, l2⟩ : S59) [.int .i64 a1, .slice A2 l2.length c2] (fun k_ => ((P0_1_ k_ ∨ P0_0_ k_ ∨ P2_ k_) ∨ w.heap.size ≤ k_) ∧ some k_ ≠ (.slice Ao4 l0_1.length co4 : Value).ownBlock ∧ some k_ ≠ (.slice Ao4 l0_1.length co4 : Value).ownBlock ∧ k_ ≠ gb156 ∧ k_ ≠ gb157 ∧ k_ ≠ gb158) (fun k_ => ((fun k_ => ((P0_1_ k_ ∨ P0_0_ k_ ∨ P2_ k_) ∨ w.heap.size ≤ k_) ∧ some k_ ≠ (.slice Ao4 l0_1.length co4 : Value).ownBlock ∧ some k_ ≠ (.slice Ao4 l0_1.length co4 : Value).ownBlock ∧ k_ ≠ gb156 ∧ k_ ≠ gb157 ∧ k_ ≠ gb158)) k_ ∧ some k_ ≠ (u159000 : Value).ownBlock) rfl rfl ?aP (fun _ hk => hk) ?aF ?aO (Below.refl _ _) ?aS ?aL ?_; (case aP => exact (k59_mkF _ _ (⟨a1, l2⟩ : S59) (Kd.V_reads' (Kd.V_mono (ok' := (fun k_ => ((fun k_ => ((P0_1_ k_ ∨ P0_0_ k_ ∨ P2_ k_) ∨ w.heap.size ≤ k_) ∧ some k_ ≠ (.slice Ao4 l0_1.length co4 : Value).ownBlock ∧ some k_ ≠ (.slice Ao4 l0_1.length co4 : Value).ownBlock ∧ k_ ≠ gb156 ∧ k_ ≠ gb157 ∧ k_ ≠ gb158)) k_ ∧ some k_ ≠ (u159000 : Value).ownBlock)) (HO_2.out) (fun k_ hk => ⟨⟨hk.1, ⟨hk.2.1, ⟨hk.2.2.2.1, ⟨hk.2.2.2.2.1, ⟨hk.2.2.2.2.2.1, hk.2.2.2.2.2.2⟩⟩⟩⟩⟩, hk.2.2.1⟩))).2.1 (Kd.V_F (Kd.V_mono (ok' := (fun k_ => ((fun k_ => ((P0_1_ k_ ∨ P0_0_ k_ ∨ P2_ k_) ∨ w.heap.size ≤ k_) ∧ some k_ ≠ (.slice Ao4 l0_1.length co4 : Value).ownBlock ∧ some k_ ≠ (.slice Ao4 l0_1.length co4 : Value).ownBlock ∧ k_ ≠ gb156 ∧ k_ ≠ gb157 ∧ k_ ≠ gb158)) k_ ∧ some k_ ≠ (u159000 : Value).ownBlock)) (HO_2.out) (fun k_ hk => ⟨⟨hk.1, ⟨hk.2.1, ⟨hk.2.2.2.1, ⟨hk.2.2.2.2.1, ⟨hk.2.2.2.2.2.1, hk.2.2.2.2.2.2⟩⟩⟩⟩⟩, hk.2.2.1⟩))))); (case aF => exact (fun k_ hk => ⟨(.inr (Nat.le_trans (by first | exact HK.out.1 ) hk)), Kd.fresh' (Kd.R_lt HO_157001.out) k_ hk, Kd.fresh' (Kd.R_lt HO_159001.out) k_ hk, Kd.freshB (g := gb156) (o := .cells #[.slice A0_0 l0_0.length c0_0, .slice Ao4 l0_1.length co4] 25 (0, 0)) BK156.out k_ hk, Kd.freshB (g := gb157) (o := .cells #[.slice none 0 0, .slice none 0 0] 25 (0, 0)) BK157.out k_ hk, Kd.freshB (g := gb158) (o := .cells #[u159000, .slice Ao4 l0_1.length co4] 25 (0, 0)) BK158.out k_ hk⟩)); (case aO => exact HO_159000.out); (case aS => exact (by first | exact HK.out.1 )); (case aL => have := LMc60.out; omega); intro v160 w66 ho hb hg hat; rw [← Ny159.out] at ho; have n0_ := Aside0.mk (Kd.V_afterv (ok := (fun k_ => ((P0_1_ k_ ∨ P0_0_ k_ ∨ P2_ k_) ∨ w.heap.size ≤ k_) ∧ some k_ ≠ (.slice Ao4 l0_1.length co4 : Value).ownBlock ∧ some k_ ≠ (.slice Ao4 l0_1.length co4 : Value).ownBlock ∧ k_ ≠ gb156 ∧ k_ ≠ gb157 ∧ k_ ≠ gb158)) (by exact Kd.V_mono HO_2.out (fun _ hk => ⟨⟨hk.1, ⟨hk.2.1, ⟨hk.2.2.2.1, ⟨hk.2.2.2.2.1, ⟨hk.2.2.2.2.2.1, hk.2.2.2.2.2.2⟩⟩⟩⟩⟩, hk.2.2.1⟩)) hg hat); have n1_ := Aside0.mk (Kd.V_afterv (ok := (fun k_ => ((P0_1_ k_ ∨ P0_0_ k_ ∨ P2_ k_) ∨ w.heap.size ≤ k_) ∧ some k_ ≠ (.slice Ao4 l0_1.length co4 : Value).ownBlock ∧ some k_ ≠ (.slice Ao4 l0_1.length co4 : Value).ownBlock ∧ k_ ≠ gb156 ∧ k_ ≠ gb157 ∧ k_ ≠ gb158)) (by exact Kd.V_mono HO_157000.out (fun _ hk => ⟨⟨hk.1, ⟨hk.2.1, ⟨hk.2.2.2.1, ⟨hk.2.2.2.2.1, ⟨hk.2.2.2.2.2.1, hk.2.2.2.2.2.2⟩⟩⟩⟩⟩, hk.2.2.1⟩)) hg hat); have n2_ := Aside0.mk (Kd.R_over' HO_157001.out (Kd.N_typed HO_159000.out) (by decide) hg); have n3_ := Aside0.mk (Kd.R_over' HO_159001.out (Kd.N_typed HO_159000.out) (by decide) hg); have n4_ := Aside0.mk (blk_grown (g := gb156) (o := .cells #[.slice A0_0 l0_0.length c0_0, .slice Ao4 l0_1.length co4] 25 (0, 0)) BK156.out hg (Kd.N_ne HO_159000.out BK156.out (by decide))); have n5_ := Aside0.mk (blk_grown (g := gb157) (o := .cells #[.slice none 0 0, .slice none 0 0] 25 (0, 0)) BK157.out hg (Kd.N_ne HO_159000.out BK157.out (by decide))); have n6_ := Aside0.mk (blk_grown (g := gb158) (o := .cells #[u159000, .slice Ao4 l0_1.length co4] 25 (0, 0)) BK158.out hg (Kd.N_ne HO_159000.out BK158.out (by decide))); have n7_ := Aside0.mk (below_weaken HB.out HW0.out hb); have n8_ := Aside0.mk (Kept.of_grown (S := (fun k_ => P0_1_ k_)) hg HK.out (fun k_ e_ => .inr (Kd.N_base HO_159000.out k_ e_))); have n9_ := Aside0.mk (ho); clear HO_2; clear HO_157000; clear HO_157001; clear HO_159001; clear BK156; clear BK157; clear BK158; clear HB; clear HK; clear HO_159000; have HO_2 := n0_; have HO_157000 := n1_; have HO_157001 := n2_; have HO_159001 := n3_; have BK156 := n4_; have BK157 := n5_; have BK158 := n6_; have HB := n7_; have HK := n8_; have HO161 := n9_; clear n0_ n1_ n2_ n3_ n4_ n5_ n6_ n7_ n8_ n9_; clear ho hb hg hat; obtain ⟨Ao67, co67, eo67⟩ := Kd.N_slice HO161.out; subst eo67; have hcz68_0 : w66.cell? ⟨gb158, 0, none⟩ = some (u159000) := (blk_cell BK158.out 0).trans rfl; have hcz68_1 : w66.cell? ⟨gb158, 1, none⟩ = some (.slice Ao4 l0_1.length co4) := (blk_cell BK158.out 1).trans rfl; have hfz68_0 := blk_frozen BK158.out 0; have hfz68_1 := blk_frozen BK158.out 1; have hcz69_0 : w66.cell? ⟨gb157, 0, none⟩ = some (.slice none 0 0) := (blk_cell BK157.out 0).trans rfl; have hcz69_1 : w66.cell? ⟨gb157, 1, none⟩ = some (.slice none 0 0) := (blk_cell BK157.out 1).trans rfl; have hfz69_0 := blk_frozen BK157.out 0; have hfz69_1 := blk_frozen BK157.out 1))
         refine bodyPost_ret (results_cell_row rfl _ _ gb157 25 #[.slice Ao67 y159.length co67, .slice Ao4 l0_1.length co4] (0, 0) _ rfl (by refine blk_put (cs := #[.slice Ao67 y159.length co67, .slice none 0 0]) ?_ 1 _ rfl; refine blk_put (cs := #[.slice none 0 0, .slice none 0 0]) ?_ 0 _ rfl; refine blk_far ?_ NB157_158.out _; exact BK157.out) Try.underlying25 rfl (by kernel_rfl)) rfl ?_
         exact ⟨_, _, by first | rfl , by exact Kd.N_mono (Kd.N_far (p := ⟨gb157, 1, none⟩) (Kd.N_far (p := ⟨gb157, 0, none⟩) (Kd.N_far (p := ⟨gb158, 0, none⟩) (Kd.N_mono (Kd.N_mono HO161.out (fun k_ hk => (⟨hk, hk.2.2.2.2.2⟩ : _ ∧ k_ ≠ gb158))) (fun k_ hk => (⟨hk, hk.1.2.2.2.2.1⟩ : _ ∧ k_ ≠ gb157))) (fun _ hk => hk.1.2) (.slice Ao67 y159.length co67)) (fun _ hk => hk.2) (.slice Ao67 y159.length co67)) (fun _ hk => hk.2) (.slice Ao4 l0_1.length co4)) (fun _ hk => ⟨hk.1.1.1, hk.1.1.2.2.1⟩), by exact Kd.R_mono (Kd.R_far (p := ⟨gb157, 1, none⟩) (Kd.R_far (p := ⟨gb157, 0, none⟩) (Kd.R_far (p := ⟨gb158, 0, none⟩) (Kd.R_types (Kd.R_types HO_159001.out BK158.out (by decide)) BK157.out (by decide)) (fun _ hk => hk.1.2) (.slice Ao67 y159.length co67)) (fun _ hk => hk.2) (.slice Ao67 y159.length co67)) (fun _ hk => hk.2) (.slice Ao4 l0_1.length co4)) (fun _ hk => hk.1.1), by repeat (first | (with_reducible first | exact HB.out | refine below_set ?_ GE157.out | refine below_set ?_ GE158.out) ), by repeat (first | (with_reducible first | exact HK.out | refine Kept.setCell ?_ (.inr GW157.out) _ | refine Kept.setCell ?_ (.inr GW158.out) _) )⟩
       · rw [if_neg c60] at H
         exact absurd H (by simp)
end Go.Proofs.Ytbpnfpckoapdbaa.PT19
end

/- The law TreeCopies holds for every input that the row lets in (text 2 of 3; some of it the words and functions that the kit's print and this claim's programs wrote) -/
import Derived.Test.YtbpnfpckoapdbaaQTreeCopies0
section
namespace Go.Proofs.Ytbpnfpckoapdbaa.PT19
open Go.RowKit Go.Proofs.Ytbpnfpckoapdbaa.M Go.Proofs.Ytbpnfpckoapdbaa.KD Go.Proofs.Ytbpnfpckoapdbaa Go.Proofs.YtbpnfpckoapdbaaW.PrintWords Go.Proofs.YtbpnfpckoapdbaaW.PrintLast Go.Proofs.YtbpnfpckoapdbaaW.PrintMore
attribute [local go_sem] max2_int min2_int max_two min_two max_three min_three max_four min_four   -- for this text's walks alone
set_option linter.unusedVariables false
set_option linter.unusedSimpArgs false
mutual
def ecdysisref19_left.j1 : Nat → Int → Int → List (S59) → List (S73) → Option (Int)
 | 0, _, _, _, _ => none
 | k + 1, x1, x2, x102000, x102001 => ecdysisref19_left.l1 k x1 x2 0 x102000 x102001
def ecdysisref19_left.l1 : Nat → Int → Int → Int → List (S59) → List (S73) → Option (Int)
 | 0, _, _, _, _, _ => none
 | k + 1, x1, x2, x8, x102000, x102001 => if x8 < (x102000.length : Int) then (ecdysisref19_left.j3 k x1 x2 x8 (decide (x1 ≥ 0)) x102000 x102001) else (ecdysisref19_left.j3 k x1 x2 x8 false x102000 x102001)
def ecdysisref19_left.j3 : Nat → Int → Int → Int → Bool → List (S59) → List (S73) → Option (Int)
 | 0, _, _, _, _, _, _ => none
 | k + 1, x1, x2, x8, x51, x102000, x102001 => if x51 = true then (if 0 ≤ x8 then (if x8 < (x102000.length : Int) then (ecdysisref19_left.l2 k (wrap64 (x1 - (((rd_T59 x102000 x8).f1).length : Int))) x2 x8 0 x102000 x102001) else (none)) else (none)) else (some x1)
def ecdysisref19_left.l2 : Nat → Int → Int → Int → Int → List (S59) → List (S73) → Option (Int)
 | 0, _, _, _, _, _, _ => none
 | k + 1, x1, x2, x8, x9, x102000, x102001 => if 0 ≤ x8 then (if x8 < (x102000.length : Int) then (if x9 < (((rd_T59 x102000 x8).f1).length : Int) then (ecdysisref19_left.j5 k x1 x2 x8 x9 (decide (x1 ≥ 0)) x102000 x102001) else (ecdysisref19_left.j5 k x1 x2 x8 x9 false x102000 x102001)) else (none)) else (none)
def ecdysisref19_left.j5 : Nat → Int → Int → Int → Int → Bool → List (S59) → List (S73) → Option (Int)
 | 0, _, _, _, _, _, _, _ => none
 | k + 1, x1, x2, x8, x9, x75, x102000, x102001 => if x75 = true then (if 0 ≤ x8 then (if x8 < (x102000.length : Int) then (if 0 ≤ x9 then (if x9 < (((rd_T59 x102000 x8).f1).length : Int) then (ecdysisref19_left.l3 k (wrap64 (x1 - (wrap64 ((((rd_T70 ((rd_T59 x102000 x8).f1) x9).f1).size : Int) / 20)))) x2 x8 x9 0 x102000 x102001) else (none)) else (none)) else (none)) else (none)) else (ecdysisref19_left.l1 k x1 x2 (wrap64 (x8 + 1)) x102000 x102001)
def ecdysisref19_left.l3 : Nat → Int → Int → Int → Int → Int → List (S59) → List (S73) → Option (Int)
 | 0, _, _, _, _, _, _, _ => none
 | k + 1, x1, x2, x8, x9, x10, x102000, x102001 => if 0 ≤ x8 then (if x8 < (x102000.length : Int) then (if 0 ≤ x9 then (if x9 < (((rd_T59 x102000 x8).f1).length : Int) then (if x10 < (((rd_T70 ((rd_T59 x102000 x8).f1) x9).f2).length : Int) then (if x1 ≥ 0 then (if 0 ≤ x10 then ((ecdysisref19_left.f k ((rd_T25 ((rd_T70 ((rd_T59 x102000 x8).f1) x9).f2) x10).f0) ((rd_T25 ((rd_T70 ((rd_T59 x102000 x8).f1) x9).f2) x10).f1) (wrap64 (x1 - 1)) (wrap64 (x2 - 1))).bind fun t112 => (ecdysisref19_left.l3 k t112 x2 x8 x9 (wrap64 (x10 + 1)) x102000 x102001)) else (none)) else (ecdysisref19_left.l2 k x1 x2 x8 (wrap64 (x9 + 1)) x102000 x102001)) else (ecdysisref19_left.l2 k x1 x2 x8 (wrap64 (x9 + 1)) x102000 x102001)) else (none)) else (none)) else (none)) else (none)
def ecdysisref19_left.l0 : Nat → Int → Int → Int → List (S59) → List (S73) → Option (Int)
 | 0, _, _, _, _, _ => none
 | k + 1, x1, x2, x7, x102000, x102001 => if x7 < (x102001.length : Int) then (if x1 ≥ 0 then (if 0 ≤ x7 then (ecdysisref19_left.l0 k (wrap64 (x1 - (wrap64 ((((rd_T73 x102001 x7).f3).size : Int) / 20)))) x2 (wrap64 (x7 + 1)) x102000 x102001) else (none)) else (ecdysisref19_left.j1 k x1 x2 x102000 x102001)) else (ecdysisref19_left.j1 k x1 x2 x102000 x102001)
def ecdysisref19_left.f : Nat → List (S59) → List (S73) → Int → Int → Option (Int)
 | 0, _, _, _, _ => none
 | k + 1, l0_0, l0_1, a1, a2 => if a2 ≤ 0 then (some (-1)) else (ecdysisref19_left.l0 k (wrap64 ((wrap64 (a1 - (l0_1.length : Int))) - (l0_0.length : Int))) a2 0 l0_0 l0_1)
end
set_option maxHeartbeats 8000000 in
set_option maxRecDepth 100000 in
theorem ecdysisref19_left.calls (k : Nat) : ∀ (A0_0 : Option Addr) (c0_0 : Nat) (l0_0 : List (S59)) (A0_1 : Option Addr) (c0_1 : Nat) (l0_1 : List (S73)) (a1 : Int) (a2 : Int) (r : Int) (w : World) (hr0_0 : Kd.C k59 w A0_0 l0_0.length l0_0) (hc0_0 : l0_0.length ≤ c0_0) (hr0_1 : Kd.C k73 w A0_1 l0_1.length l0_1) (hc0_1 : l0_1.length ≤ c0_1) (h : ecdysisref19_left.f k l0_0 l0_1 a1 a2 = some r),
   Calls Try.prog 47 #[.agg #[.slice A0_0 l0_0.length c0_0, .slice A0_1 l0_1.length c0_1], .int .i64 a1, .int .i64 a2] w fun e w' => e = .returned (.int .i64 r) ∧ Below w.heap.size w w' := by
 induction k using Nat.strongRecOn with
 | _ k ih =>
 intro A0_0 c0_0 l0_0 A0_1 c0_1 l0_1 a1 a2 r w hr0_0 hc0_0 hr0_1 hc0_1 h
 cases k with
 | zero => exact absurd h (by simp [ecdysisref19_left.f])
 | succ k =>
 simp only [ecdysisref19_left.f] at h
 have hu25 := Try.underlying25
 have HR0_0 := Aside0.mk hr0_0
 have HC0_0 := Aside0.mk hc0_0
 clear hr0_0 hc0_0
 have HR0_1 := Aside0.mk hr0_1
 have HC0_1 := Aside0.mk hc0_1
 clear hr0_1 hc0_1
 have HB := Aside0.mk (Below.refl w.heap.size w)
 have H : (if a2 ≤ 0 then (some (-1)) else (ecdysisref19_left.l0 k (wrap64 ((wrap64 (a1 - (l0_1.length : Int))) - (l0_0.length : Int))) a2 0 l0_0 l0_1)) = some r := h
 clear h
 by_cases c4 : a2 ≤ 0
 · rw [if_pos c4] at H
   have c4b0 : decide (a2 ≤ 0) = true := decide_eq_true c4
   clear c4
   obtain rfl := Option.some.inj H
   go_enter Try.func47, Try.ntmps47
   go_wp2_with (first | ((with_reducible refine gate_dst (N := 3) rfl ?_); refine box_event ?hg (N := 3) ?hd (cs := #[.slice A0_0 l0_0.length c0_0, .slice A0_1 l0_1.length c0_1]) (t := 25) ?hr ?_; (case hd => rfl); (case hg => rfl); (case hr => first | (go_simp; done) | (go_simp; rfl)); intro gb101 hg w5 hbox hb; have n0_ := Aside0.mk (below_step HB.out hb); have n1_ := Aside0.mk (hbox); clear HB; have HB := n0_; have BK101 := n1_; clear n0_ n1_; clear hb hbox hg; have hcz6_0 : w5.cell? ⟨gb101, 0, none⟩ = some (.slice A0_0 l0_0.length c0_0) := (blk_cell BK101.out 0).trans rfl; have hcz6_1 : w5.cell? ⟨gb101, 1, none⟩ = some (.slice A0_1 l0_1.length c0_1) := (blk_cell BK101.out 1).trans rfl; have hfz6_0 := blk_frozen BK101.out 0; have hfz6_1 := blk_frozen BK101.out 1))
   go_ret
   exact ⟨by first | rfl , by exact HB.out⟩
 · rw [if_neg c4] at H
   have c4b0 : decide (a2 ≤ 0) = false := decide_eq_false c4
   clear c4
   have HC7 := Aside0.mk H
   clear H
   go_enter Try.func47, Try.ntmps47
   go_upto_block 0 with (first | ((with_reducible refine gate_dst (N := 3) rfl ?_); refine box_event ?hg (N := 3) ?hd (cs := #[.slice A0_0 l0_0.length c0_0, .slice A0_1 l0_1.length c0_1]) (t := 25) ?hr ?_; (case hd => rfl); (case hg => rfl); (case hr => first | (go_simp; done) | (go_simp; rfl)); intro gb101 hg w8 hbox hb; have n0_ := Aside0.mk (below_step HB.out hb); have n1_ := Aside0.mk (hbox); clear HB; have HB := n0_; have BK101 := n1_; clear n0_ n1_; clear hb hbox hg; have hcz9_0 : w8.cell? ⟨gb101, 0, none⟩ = some (.slice A0_0 l0_0.length c0_0) := (blk_cell BK101.out 0).trans rfl; have hcz9_1 : w8.cell? ⟨gb101, 1, none⟩ = some (.slice A0_1 l0_1.length c0_1) := (blk_cell BK101.out 1).trans rfl; have hfz9_0 := blk_frozen BK101.out 0; have hfz9_1 := blk_frozen BK101.out 1))
   (try simp only [Act.put, List.setIfInBounds_toArray, List.set_cons_zero, List.set_cons_succ])
   go_cut [1] (fun v1 wc => ∃ (kq : Nat) (x1_6 : Int), v1 = .int .i64 x1_6 ∧ Aside0 (ecdysisref19_left.j1 kq x1_6 a2 l0_0 l0_1 = some r) ∧ Aside0 (kq ≤ k) ∧ Aside0 (wc.heap[gb101]? = some (.cells #[(.slice A0_0 l0_0.length c0_0), (.slice A0_1 l0_1.length c0_1)] 25 (0, 0))) ∧ Aside0 (Below w.heap.size w wc))
   case first =>
    have H := HC7.out
    clear HC7
    have H' := Aside0.mk H
    clear H
    go_wp2
    go_loopg [1, 7] k (fun kq v1 v7 w' => ∃ (x1_1 : Int) (x7_1 : Int), v1 = .int .i64 x1_1 ∧ v7 = .int .i64 x7_1 ∧ Aside0 (ecdysisref19_left.l0 kq x1_1 a2 x7_1 l0_0 l0_1 = some r) ∧ Aside0 (kq ≤ k) ∧ Aside0 (w'.heap[gb101]? = some (.cells #[(.slice A0_0 l0_0.length c0_0), (.slice A0_1 l0_1.length c0_1)] 25 (0, 0))) ∧ Aside0 (Below w.heap.size w w'))
    case atStart => exact ⟨(wrap64 ((wrap64 (a1 - (l0_1.length : Int))) - (l0_0.length : Int))), (0), (by first | rfl ), (by first | rfl ), H', ⟨Nat.le_refl _⟩, ⟨by exact BK101.out⟩, ⟨by exact HB.out⟩⟩
    case round =>
     clear H'
     try clear p2
     try clear c4
     try clear c4b0
     try clear p6
     try clear hcz6_0
     try clear hcz6_1
     try clear hcz9_0
     try clear hcz9_1
     try clear hfz6_0
     try clear hfz6_1
     try clear hfz9_0
     try clear hfz9_1
     obtain ⟨x1_1, x7_1, rfl, rfl, HA, HK1, BK101, HB⟩ := hrel
     cases gk with
     | zero => exact absurd HA.out (by simp [ecdysisref19_left.l0])
     | succ k1 =>
      have H := HA.out
      clear HA
      simp only [ecdysisref19_left.l0] at H
      by_cases c10 : x7_1 < (l0_1.length : Int)
      · rw [if_pos c10] at H
        have c10b0 : decide (x7_1 < (l0_1.length : Int)) = true := decide_eq_true c10
        clear c10
        (first | skip)
        by_cases c11 : x1_1 ≥ 0
        · rw [if_pos c11] at H
          have c11b0 : decide (0 ≤ x1_1) = true := decide_eq_true c11
          clear c11
          by_cases c12 : 0 ≤ x7_1
          · rw [if_pos c12] at H
            have c12b0 : decide (0 ≤ x7_1) = true := decide_eq_true c12
            clear c12
            have H' := Aside0.mk H
            clear H
            have hcz13_0 : wr.cell? ⟨gb101, 0, none⟩ = some (.slice A0_0 l0_0.length c0_0) := (blk_cell BK101.out 0).trans rfl
            have hcz13_1 : wr.cell? ⟨gb101, 1, none⟩ = some (.slice A0_1 l0_1.length c0_1) := (blk_cell BK101.out 1).trans rfl
            have hfz13_0 := blk_frozen BK101.out 0
            have hfz13_1 := blk_frozen BK101.out 1
            have p102 : 0 ≤ (x7_1 : Int) := of_decide_eq_true (by first | (with_reducible assumption) )
            have q102 : x7_1 < (l0_1.length : Int) := of_decide_eq_true (by first | (with_reducible assumption) )
            obtain ⟨ad102, e102, hx102_0, hx102_1, hx102_2, hx102_3⟩ := at_T73 HR0_1.out x7_1 p102 q102
            cases e102
            replace hx102_0 := (HB.out.cell (World.block_lt_of_cell? w _ hx102_0)).trans hx102_0
            replace hx102_1 := (HB.out.cell (World.block_lt_of_cell? w _ hx102_1)).trans hx102_1
            replace hx102_2 := (HB.out.cell (World.block_lt_of_cell? w _ hx102_2)).trans hx102_2
            replace hx102_3 := (HB.out.cell (World.block_lt_of_cell? w _ hx102_3)).trans hx102_3
            replace p102 := eq_true p102
            replace q102 := eq_true q102
            go_wp2
            go_roundg k1
            case measure => have := HK1.out; omega
            case rel => exact ⟨(wrap64 (x1_1 - (wrap64 ((((rd_T73 l0_1 x7_1).f3).size : Int) / 20)))), (wrap64 (x7_1 + 1)), (by first | rfl ), (by first | rfl ), H', ⟨by have := HK1.out; omega⟩, ⟨by exact BK101.out⟩, ⟨by exact HB.out⟩⟩
          · rw [if_neg c12] at H
            exact absurd H (by simp)
        · rw [if_neg c11] at H
          have c11b0 : decide (0 ≤ x1_1) = false := decide_eq_false c11
          clear c11
          have H' := Aside0.mk H
          clear H
          have hcz14_0 : wr.cell? ⟨gb101, 0, none⟩ = some (.slice A0_0 l0_0.length c0_0) := (blk_cell BK101.out 0).trans rfl
          have hcz14_1 : wr.cell? ⟨gb101, 1, none⟩ = some (.slice A0_1 l0_1.length c0_1) := (blk_cell BK101.out 1).trans rfl
          have hfz14_0 := blk_frozen BK101.out 0
          have hfz14_1 := blk_frozen BK101.out 1
          go_wp2
          go_meet
          case rel => exact ⟨_, (x1_1), (by first | rfl ), H', ⟨by have := HK1.out; first | omega | exact Nat.le_refl _⟩, ⟨by exact BK101.out⟩, ⟨by exact HB.out⟩⟩
      · rw [if_neg c10] at H
        have c10b0 : decide (x7_1 < (l0_1.length : Int)) = false := decide_eq_false c10
        clear c10
        (first | skip)
        have H' := Aside0.mk H
        clear H
        have hcz15_0 : wr.cell? ⟨gb101, 0, none⟩ = some (.slice A0_0 l0_0.length c0_0) := (blk_cell BK101.out 0).trans rfl
        have hcz15_1 : wr.cell? ⟨gb101, 1, none⟩ = some (.slice A0_1 l0_1.length c0_1) := (blk_cell BK101.out 1).trans rfl
        have hfz15_0 := blk_frozen BK101.out 0
        have hfz15_1 := blk_frozen BK101.out 1
        go_wp2
        go_meet
        case rel => exact ⟨_, (x1_1), (by first | rfl ), H', ⟨by have := HK1.out; first | omega | exact Nat.le_refl _⟩, ⟨by exact BK101.out⟩, ⟨by exact HB.out⟩⟩
   case rest =>
    clear HC7
    try clear c1
    try clear p1
    try clear q1
    try clear hx1
    try clear p2
    try clear c4
    try clear c4b0
    try clear p6
    try clear c10
    try clear c10b0
    try clear p10
    try clear q10
    try clear hx10
    try clear c11
    try clear c11b0
    try clear c12
    try clear c12b0
    try clear hcz13_0
    try clear hcz13_1
    try clear hcz14_0
    try clear hcz14_1
    try clear hcz15_0
    try clear hcz15_1
    try clear hcz6_0
    try clear hcz6_1
    try clear hcz9_0
    try clear hcz9_1
    try clear hfz13_0
    try clear hfz13_1
    try clear hfz14_0
    try clear hfz14_1
    try clear hfz15_0
    try clear hfz15_1
    try clear hfz6_0
    try clear hfz6_1
    try clear hfz9_0
    try clear hfz9_1
    try clear hx102_0
    try clear hx102_1
    try clear hx102_2
    try clear hx102_3
    try clear p102
    try clear p2
    try clear p6
    try clear q102
    obtain ⟨kq, x1_6, rfl, HA, HJ6, BK101, HB⟩ := hcut
    cases kq with
    | zero => exact absurd HA.out (by simp [ecdysisref19_left.j1])
    | succ kj6 =>
     have H := HA.out
     clear HA
     simp only [ecdysisref19_left.j1] at H
     have H' := Aside0.mk H
     clear H
     go_wp2
     go_loopg [1, 8] kj6 (fun kq v1 v8 w' => ∃ (x1_2 : Int) (x8_2 : Int), v1 = .int .i64 x1_2 ∧ v8 = .int .i64 x8_2 ∧ Aside0 (ecdysisref19_left.l1 kq x1_2 a2 x8_2 l0_0 l0_1 = some r) ∧ Aside0 (kq ≤ kj6) ∧ Aside0 (w'.heap[gb101]? = some (.cells #[(.slice A0_0 l0_0.length c0_0), (.slice A0_1 l0_1.length c0_1)] 25 (0, 0))) ∧ Aside0 (Below w.heap.size w w'))
     case atStart => exact ⟨(x1_6), (0), (by first | rfl ), (by first | rfl ), H', ⟨Nat.le_refl _⟩, ⟨by exact BK101.out⟩, ⟨by exact HB.out⟩⟩
     case round =>
      clear H'
      try clear c1
      try clear p1
      try clear q1
      try clear hx1
      try clear p2
      try clear c4
      try clear c4b0
      try clear p6
      try clear c10
      try clear c10b0
      try clear p10
      try clear q10
      try clear hx10
      try clear c11
      try clear c11b0
      try clear c12
      try clear c12b0
      try clear hcz13_0
      try clear hcz13_1
      try clear hcz14_0
      try clear hcz14_1
      try clear hcz15_0
      try clear hcz15_1
      try clear hcz6_0
      try clear hcz6_1
      try clear hcz9_0
      try clear hcz9_1
      try clear hfz13_0
      try clear hfz13_1
      try clear hfz14_0
      try clear hfz14_1
      try clear hfz15_0
      try clear hfz15_1
      try clear hfz6_0
      try clear hfz6_1
      try clear hfz9_0
      try clear hfz9_1
      try clear hx102_0
      try clear hx102_1
      try clear hx102_2
      try clear hx102_3
      try clear p1
      try clear p10
      try clear p102
      try clear p2
      try clear p6
      try clear q1
      try clear q10
      try clear q102
      obtain ⟨x1_2, x8_2, rfl, rfl, HA, HK2, BK101, HB⟩ := hrel
      cases gk with
      | zero => exact absurd HA.out (by simp [ecdysisref19_left.l1])
      | succ k2 =>
        have H := HA.out
        clear HA
        simp only [ecdysisref19_left.l1] at H
        have HC16 := Aside0.mk H
        clear H
        go_upto_region 9 with (fail)
        go_cut [51] (fun v51 wc => ∃ (kq : Nat) (x51_15 : Bool), v51 = .bool x51_15 ∧ Aside0 (ecdysisref19_left.j3 kq x1_2 a2 x8_2 x51_15 l0_0 l0_1 = some r) ∧ Aside0 (kq ≤ k2) ∧ Aside0 (wc.heap[gb101]? = some (.cells #[(.slice A0_0 l0_0.length c0_0), (.slice A0_1 l0_1.length c0_1)] 25 (0, 0))) ∧ Aside0 (Below w.heap.size w wc))
        case first =>
          have H := HC16.out
          clear HC16
          by_cases c17 : x8_2 < (l0_0.length : Int)
          · rw [if_pos c17] at H
            have c17b0 : decide (x8_2 < (l0_0.length : Int)) = true := decide_eq_true c17
            clear c17
            (first | skip)
            have H' := Aside0.mk H
            clear H
            have hcz18_0 : wr.cell? ⟨gb101, 0, none⟩ = some (.slice A0_0 l0_0.length c0_0) := (blk_cell BK101.out 0).trans rfl
            have hcz18_1 : wr.cell? ⟨gb101, 1, none⟩ = some (.slice A0_1 l0_1.length c0_1) := (blk_cell BK101.out 1).trans rfl
            have hfz18_0 := blk_frozen BK101.out 0
            have hfz18_1 := blk_frozen BK101.out 1
            go_wp2
            go_meet
            case rel => exact ⟨_, (decide (x1_2 ≥ 0)), (by first | rfl ), H', ⟨by have := HJ6.out; have := HK2.out; first | omega | exact Nat.le_refl _⟩, ⟨by exact BK101.out⟩, ⟨by exact HB.out⟩⟩
          · rw [if_neg c17] at H
            have c17b0 : decide (x8_2 < (l0_0.length : Int)) = false := decide_eq_false c17
            clear c17
            (first | skip)
            have H' := Aside0.mk H
            clear H
            have hcz19_0 : wr.cell? ⟨gb101, 0, none⟩ = some (.slice A0_0 l0_0.length c0_0) := (blk_cell BK101.out 0).trans rfl
            have hcz19_1 : wr.cell? ⟨gb101, 1, none⟩ = some (.slice A0_1 l0_1.length c0_1) := (blk_cell BK101.out 1).trans rfl
            have hfz19_0 := blk_frozen BK101.out 0
            have hfz19_1 := blk_frozen BK101.out 1
            go_wp2
            go_meet
            case rel => exact ⟨_, (false), (by first | rfl ), H', ⟨by have := HJ6.out; have := HK2.out; first | omega | exact Nat.le_refl _⟩, ⟨by exact BK101.out⟩, ⟨by exact HB.out⟩⟩
        case rest =>
          clear HC16
          try clear c1
          try clear p1
          try clear q1
          try clear hx1
          try clear p2
          try clear c4
          try clear c4b0
          try clear p6
          try clear c10
          try clear c10b0
          try clear p10
          try clear q10
          try clear hx10
          try clear c11
          try clear c11b0
          try clear c12
          try clear c12b0
          try clear c17
          try clear c17b0
          try clear hcz13_0
          try clear hcz13_1
          try clear hcz14_0
          try clear hcz14_1
          try clear hcz15_0
          try clear hcz15_1
          try clear hcz18_0
          try clear hcz18_1
          try clear hcz19_0
          try clear hcz19_1
          try clear hcz6_0
          try clear hcz6_1
          try clear hcz9_0
          try clear hcz9_1
          try clear hfz13_0
          try clear hfz13_1
          try clear hfz14_0
          try clear hfz14_1
          try clear hfz15_0
          try clear hfz15_1
          try clear hfz18_0
          try clear hfz18_1
          try clear hfz19_0
          try clear hfz19_1
          try clear hfz6_0
          try clear hfz6_1
          try clear hfz9_0
          try clear hfz9_1
          try clear hx102_0
          try clear hx102_1
          try clear hx102_2
          try clear hx102_3
          try clear p1
          try clear p10
          try clear p102
          try clear p2
          try clear p6
          try clear q1
          try clear q10
          try clear q102
          obtain ⟨kq, x51_15, rfl, HA, HJ15, BK101, HB⟩ := hcut
          cases kq with
          | zero => exact absurd HA.out (by simp [ecdysisref19_left.j3])
          | succ kj15 =>
            have H := HA.out
            clear HA
            simp only [ecdysisref19_left.j3] at H
            by_cases c20 : x51_15 = true
            · subst c20
              have H1 : (if 0 ≤ x8_2 then (if x8_2 < (l0_0.length : Int) then (ecdysisref19_left.l2 kj15 (wrap64 (x1_2 - (((rd_T59 l0_0 x8_2).f1).length : Int))) a2 x8_2 0 l0_0 l0_1) else (none)) else (none)) = some r := by rw [if_pos rfl] at H; exact H
              clear H
              have H := H1
              clear H1
              by_cases c21 : 0 ≤ x8_2
              · rw [if_pos c21] at H
                have c21b0 : decide (0 ≤ x8_2) = true := decide_eq_true c21
                clear c21
                by_cases c22 : x8_2 < (l0_0.length : Int)
                · rw [if_pos c22] at H
                  have c22b0 : decide (x8_2 < (l0_0.length : Int)) = true := decide_eq_true c22
                  clear c22
                  have H' := Aside0.mk H
                  clear H
                  have hcz23_0 : wc.cell? ⟨gb101, 0, none⟩ = some (.slice A0_0 l0_0.length c0_0) := (blk_cell BK101.out 0).trans rfl
                  have hcz23_1 : wc.cell? ⟨gb101, 1, none⟩ = some (.slice A0_1 l0_1.length c0_1) := (blk_cell BK101.out 1).trans rfl
                  have hfz23_0 := blk_frozen BK101.out 0
                  have hfz23_1 := blk_frozen BK101.out 1
                  have p103 : 0 ≤ (x8_2 : Int) := of_decide_eq_true (by first | (with_reducible assumption) )
                  have q103 : x8_2 < (l0_0.length : Int) := of_decide_eq_true (by first | (with_reducible assumption) )
                  obtain ⟨ad103, A103_1, c103_1, e103, hx103_0, hx103_1, hl103_1, hi103_1⟩ := at_T59 HR0_0.out x8_2 p103 q103
                  cases e103
                  replace hx103_0 := (HB.out.cell (World.block_lt_of_cell? w _ hx103_0)).trans hx103_0
                  replace hx103_1 := (HB.out.cell (World.block_lt_of_cell? w _ hx103_1)).trans hx103_1
                  have HR103_1 := Aside0.mk hi103_1
                  have HC103_1 := Aside0.mk hl103_1
                  clear hi103_1 hl103_1
                  replace p103 := eq_true p103
                  replace q103 := eq_true q103
                  go_wp2
                  go_loopg [1, 9] kj15 (fun kq v1 v9 w' => ∃ (x1_4 : Int) (x9_4 : Int), v1 = .int .i64 x1_4 ∧ v9 = .int .i64 x9_4 ∧ Aside0 (ecdysisref19_left.l2 kq x1_4 a2 x8_2 x9_4 l0_0 l0_1 = some r) ∧ Aside0 (kq ≤ kj15) ∧ Aside0 (w'.heap[gb101]? = some (.cells #[(.slice (some ad103) l0_0.length c0_0), (.slice A0_1 l0_1.length c0_1)] 25 (0, 0))) ∧ Aside0 (Below w.heap.size w w'))
                  case atStart => exact ⟨(wrap64 (x1_2 - (((rd_T59 l0_0 x8_2).f1).length : Int))), (0), (by first | rfl ), (by first | rfl ), H', ⟨Nat.le_refl _⟩, ⟨by exact BK101.out⟩, ⟨by exact HB.out⟩⟩
                  case round =>
                   clear H'
                   try clear c1
                   try clear p1
                   try clear q1
                   try clear hx1
                   try clear c2
                   try clear p2
                   try clear c4
                   try clear c4b0
                   try clear p6
                   try clear c10
                   try clear c10b0
                   try clear p10
                   try clear q10
                   try clear hx10
                   try clear c11
                   try clear c11b0
                   try clear c12
                   try clear c12b0
                   try clear c17
                   try clear c17b0
                   try clear c20
                   try clear c21
                   try clear c21b0
                   try clear c22
                   try clear c22b0
                   try clear hcz13_0
                   try clear hcz13_1
                   try clear hcz14_0
                   try clear hcz14_1
                   try clear hcz15_0
                   try clear hcz15_1
                   try clear hcz18_0
                   try clear hcz18_1
                   try clear hcz19_0
                   try clear hcz19_1
                   try clear hcz23_0
                   try clear hcz23_1
                   try clear hcz6_0
                   try clear hcz6_1
                   try clear hcz9_0
                   try clear hcz9_1
                   try clear hfz13_0
                   try clear hfz13_1
                   try clear hfz14_0
                   try clear hfz14_1
                   try clear hfz15_0
                   try clear hfz15_1
                   try clear hfz18_0
                   try clear hfz18_1
                   try clear hfz19_0
                   try clear hfz19_1
                   try clear hfz23_0
                   try clear hfz23_1
                   try clear hfz6_0
                   try clear hfz6_1
                   try clear hfz9_0
                   try clear hfz9_1
                   try clear hx102_0
                   try clear hx102_1
                   try clear hx102_2
                   try clear hx102_3
                   try clear hx103_0
                   try clear hx103_1
                   try clear p1
                   try clear p10
                   try clear p102
                   try clear p103
                   try clear p2
                   try clear p6
                   try clear q1
                   try clear q10
                   try clear q102
                   try clear q103
                   obtain ⟨x1_4, x9_4, rfl, rfl, HA, HK4, BK101, HB⟩ := hrel
                   cases gk with
                   | zero => exact absurd HA.out (by simp [ecdysisref19_left.l2])
                   | succ k4 =>
                    have H := HA.out
                    clear HA
                    simp only [ecdysisref19_left.l2] at H
                    have HC24 := Aside0.mk H
                    clear H
                    go_upto_region 13 with (fail)
                    go_cut [75] (fun v75 wc => ∃ (kq : Nat) (x75_23 : Bool), v75 = .bool x75_23 ∧ Aside0 (ecdysisref19_left.j5 kq x1_4 a2 x8_2 x9_4 x75_23 l0_0 l0_1 = some r) ∧ Aside0 (kq ≤ k4) ∧ Aside0 (wc.heap[gb101]? = some (.cells #[(.slice (some ad103) l0_0.length c0_0), (.slice A0_1 l0_1.length c0_1)] 25 (0, 0))) ∧ Aside0 (Below w.heap.size w wc))
                    case first =>
                     have H := HC24.out
                     clear HC24
                     by_cases c25 : 0 ≤ x8_2
                     · rw [if_pos c25] at H
                       have c25b0 : decide (0 ≤ x8_2) = true := decide_eq_true c25
                       clear c25
                       (first | skip)
                       by_cases c26 : x8_2 < (l0_0.length : Int)
                       · rw [if_pos c26] at H
                         have c26b0 : decide (x8_2 < (l0_0.length : Int)) = true := decide_eq_true c26
                         clear c26
                         by_cases c27 : x9_4 < (((rd_T59 l0_0 x8_2).f1).length : Int)
                         · rw [if_pos c27] at H
                           have c27b0 : decide (x9_4 < (((rd_T59 l0_0 x8_2).f1).length : Int)) = true := decide_eq_true c27
                           clear c27
                           have H' := Aside0.mk H
                           clear H
                           have hcz28_0 : wr.cell? ⟨gb101, 0, none⟩ = some (.slice (some ad103) l0_0.length c0_0) := (blk_cell BK101.out 0).trans rfl
                           have hcz28_1 : wr.cell? ⟨gb101, 1, none⟩ = some (.slice A0_1 l0_1.length c0_1) := (blk_cell BK101.out 1).trans rfl
                           have hfz28_0 := blk_frozen BK101.out 0
                           have hfz28_1 := blk_frozen BK101.out 1
                           have p104 : 0 ≤ (x8_2 : Int) := of_decide_eq_true (by first | (with_reducible assumption) )
                           have q104 : x8_2 < (l0_0.length : Int) := of_decide_eq_true (by first | (with_reducible assumption) )
                           obtain ⟨ad104, A104_1, c104_1, e104, hx104_0, hx104_1, hl104_1, hi104_1⟩ := at_T59 HR0_0.out x8_2 p104 q104
                           obtain rfl : ad103 = ad104 := (by injection e104)
                           replace hx104_0 := (HB.out.cell (World.block_lt_of_cell? w _ hx104_0)).trans hx104_0
                           replace hx104_1 := (HB.out.cell (World.block_lt_of_cell? w _ hx104_1)).trans hx104_1
                           have HR104_1 := Aside0.mk hi104_1
                           have HC104_1 := Aside0.mk hl104_1
                           clear hi104_1 hl104_1
                           replace p104 := eq_true p104
                           replace q104 := eq_true q104
                           go_wp2
                           go_meet
                           case rel => exact ⟨_, (decide (x1_4 ≥ 0)), (by first | rfl ), H', ⟨by have := HJ6.out; have := HK2.out; have := HJ15.out; have := HK4.out; first | omega | exact Nat.le_refl _⟩, ⟨by exact BK101.out⟩, ⟨by exact HB.out⟩⟩
                         · rw [if_neg c27] at H
                           have c27b0 : decide (x9_4 < (((rd_T59 l0_0 x8_2).f1).length : Int)) = false := decide_eq_false c27
                           clear c27
                           have H' := Aside0.mk H
                           clear H
                           have hcz29_0 : wr.cell? ⟨gb101, 0, none⟩ = some (.slice (some ad103) l0_0.length c0_0) := (blk_cell BK101.out 0).trans rfl
                           have hcz29_1 : wr.cell? ⟨gb101, 1, none⟩ = some (.slice A0_1 l0_1.length c0_1) := (blk_cell BK101.out 1).trans rfl
                           have hfz29_0 := blk_frozen BK101.out 0
                           have hfz29_1 := blk_frozen BK101.out 1
                           have p104 : 0 ≤ (x8_2 : Int) := of_decide_eq_true (by first | (with_reducible assumption) )
                           have q104 : x8_2 < (l0_0.length : Int) := of_decide_eq_true (by first | (with_reducible assumption) )
                           obtain ⟨ad104, A104_1, c104_1, e104, hx104_0, hx104_1, hl104_1, hi104_1⟩ := at_T59 HR0_0.out x8_2 p104 q104
                           obtain rfl : ad103 = ad104 := (by injection e104)
                           replace hx104_0 := (HB.out.cell (World.block_lt_of_cell? w _ hx104_0)).trans hx104_0
                           replace hx104_1 := (HB.out.cell (World.block_lt_of_cell? w _ hx104_1)).trans hx104_1
                           have HR104_1 := Aside0.mk hi104_1
                           have HC104_1 := Aside0.mk hl104_1
                           clear hi104_1 hl104_1
                           replace p104 := eq_true p104
                           replace q104 := eq_true q104
                           go_wp2
                           go_meet
                           case rel => exact ⟨_, (false), (by first | rfl ), H', ⟨by have := HJ6.out; have := HK2.out; have := HJ15.out; have := HK4.out; first | omega | exact Nat.le_refl _⟩, ⟨by exact BK101.out⟩, ⟨by exact HB.out⟩⟩
                       · rw [if_neg c26] at H
                         exact absurd H (by simp)
                     · rw [if_neg c25] at H
                       exact absurd H (by simp)
                    case rest =>
                     clear HC24
                     try clear c1
                     try clear p1
                     try clear q1
                     try clear hx1
                     try clear c2
                     try clear p2
                     try clear c4
                     try clear c4b0
                     try clear p6
                     try clear c10
                     try clear c10b0
                     try clear p10
                     try clear q10
                     try clear hx10
                     try clear c11
                     try clear c11b0
                     try clear c12
                     try clear c12b0
                     try clear c17
                     try clear c17b0
                     try clear c20
                     try clear c21
                     try clear c21b0
                     try clear c22
                     try clear c22b0
                     try clear c25
                     try clear c25b0
                     try clear c26
                     try clear c26b0
                     try clear c27
                     try clear c27b0
                     try clear hcz13_0
                     try clear hcz13_1
                     try clear hcz14_0
                     try clear hcz14_1
                     try clear hcz15_0
                     try clear hcz15_1
                     try clear hcz18_0
                     try clear hcz18_1
                     try clear hcz19_0
                     try clear hcz19_1
                     try clear hcz23_0
                     try clear hcz23_1
                     try clear hcz28_0
                     try clear hcz28_1
                     try clear hcz29_0
                     try clear hcz29_1
                     try clear hcz6_0
                     try clear hcz6_1
                     try clear hcz9_0
                     try clear hcz9_1
                     try clear hfz13_0
                     try clear hfz13_1
                     try clear hfz14_0
                     try clear hfz14_1
                     try clear hfz15_0
                     try clear hfz15_1
                     try clear hfz18_0
                     try clear hfz18_1
                     try clear hfz19_0
                     try clear hfz19_1
                     try clear hfz23_0
                     try clear hfz23_1
                     try clear hfz28_0
                     try clear hfz28_1
                     try clear hfz29_0
                     try clear hfz29_1
                     try clear hfz6_0
                     try clear hfz6_1
                     try clear hfz9_0
                     try clear hfz9_1
                     try clear hx102_0
                     try clear hx102_1
                     try clear hx102_2
                     try clear hx102_3
                     try clear hx103_0
                     try clear hx103_1
                     try clear hx104_0
                     try clear hx104_1
                     try clear p1
                     try clear p10
                     try clear p102
                     try clear p103
                     try clear p104
                     try clear p2
                     try clear p6
                     try clear q1
                     try clear q10
                     try clear q102
                     try clear q103
                     try clear q104
                     obtain ⟨kq, x75_23, rfl, HA, HJ23, BK101, HB⟩ := hcut
                     cases kq with
                     | zero => exact absurd HA.out (by simp [ecdysisref19_left.j5])
                     | succ kj23 =>
                       have H := HA.out
                       clear HA
                       simp only [ecdysisref19_left.j5] at H
                       by_cases c30 : x75_23 = true
                       · subst c30
                         have H1 : (if 0 ≤ x8_2 then (if x8_2 < (l0_0.length : Int) then (if 0 ≤ x9_4 then (if x9_4 < (((rd_T59 l0_0 x8_2).f1).length : Int) then (ecdysisref19_left.l3 kj23 (wrap64 (x1_4 - (wrap64 ((((rd_T70 ((rd_T59 l0_0 x8_2).f1) x9_4).f1).size : Int) / 20)))) a2 x8_2 x9_4 0 l0_0 l0_1) else (none)) else (none)) else (none)) else (none)) = some r := by rw [if_pos rfl] at H; exact H
                         clear H
                         have H := H1
                         clear H1
                         by_cases c31 : 0 ≤ x8_2
                         · rw [if_pos c31] at H
                           have c31b0 : decide (0 ≤ x8_2) = true := decide_eq_true c31
                           clear c31
                           by_cases c32 : x8_2 < (l0_0.length : Int)
                           · rw [if_pos c32] at H
                             have c32b0 : decide (x8_2 < (l0_0.length : Int)) = true := decide_eq_true c32
                             clear c32
                             by_cases c33 : 0 ≤ x9_4
                             · rw [if_pos c33] at H
                               have c33b0 : decide (0 ≤ x9_4) = true := decide_eq_true c33
                               clear c33
                               by_cases c34 : x9_4 < (((rd_T59 l0_0 x8_2).f1).length : Int)
                               · rw [if_pos c34] at H
                                 have c34b0 : decide (x9_4 < (((rd_T59 l0_0 x8_2).f1).length : Int)) = true := decide_eq_true c34
                                 clear c34
                                 have H' := Aside0.mk H
                                 clear H
                                 have hcz35_0 : wc.cell? ⟨gb101, 0, none⟩ = some (.slice (some ad103) l0_0.length c0_0) := (blk_cell BK101.out 0).trans rfl
                                 have hcz35_1 : wc.cell? ⟨gb101, 1, none⟩ = some (.slice A0_1 l0_1.length c0_1) := (blk_cell BK101.out 1).trans rfl
                                 have hfz35_0 := blk_frozen BK101.out 0
                                 have hfz35_1 := blk_frozen BK101.out 1
                                 have p105 : 0 ≤ (x8_2 : Int) := of_decide_eq_true (by first | (with_reducible assumption) )
                                 have q105 : x8_2 < (l0_0.length : Int) := of_decide_eq_true (by first | (with_reducible assumption) )
                                 obtain ⟨ad105, A105_1, c105_1, e105, hx105_0, hx105_1, hl105_1, hi105_1⟩ := at_T59 HR0_0.out x8_2 p105 q105
                                 obtain rfl : ad103 = ad105 := (by injection e105)
                                 replace hx105_0 := (HB.out.cell (World.block_lt_of_cell? w _ hx105_0)).trans hx105_0
                                 replace hx105_1 := (HB.out.cell (World.block_lt_of_cell? w _ hx105_1)).trans hx105_1
                                 have HR105_1 := Aside0.mk hi105_1
                                 have HC105_1 := Aside0.mk hl105_1
                                 clear hi105_1 hl105_1
                                 replace p105 := eq_true p105
                                 replace q105 := eq_true q105
                                 have p106 : 0 ≤ (x9_4 : Int) := of_decide_eq_true (by first | (with_reducible assumption) )
                                 have q106 : x9_4 < (((rd_T59 l0_0 x8_2).f1).length : Int) := of_decide_eq_true (by first | (with_reducible assumption) )
                                 obtain ⟨ad106, A106_2, c106_2, e106, hx106_0, hx106_1, hx106_2, hl106_2, hi106_2⟩ := at_T70 HR105_1.out x9_4 p106 q106
                                 cases e106
                                 replace hx106_0 := (HB.out.cell (World.block_lt_of_cell? w _ hx106_0)).trans hx106_0
                                 replace hx106_1 := (HB.out.cell (World.block_lt_of_cell? w _ hx106_1)).trans hx106_1
                                 replace hx106_2 := (HB.out.cell (World.block_lt_of_cell? w _ hx106_2)).trans hx106_2
                                 have HR106_2 := Aside0.mk hi106_2
                                 have HC106_2 := Aside0.mk hl106_2
                                 clear hi106_2 hl106_2
                                 replace p106 := eq_true p106
                                 replace q106 := eq_true q106
                                 go_wp2
                                 go_loopg [1, 10] kj23 (fun kq v1 v10 w' => ∃ (x1_6 : Int) (x10_6 : Int), v1 = .int .i64 x1_6 ∧ v10 = .int .i64 x10_6 ∧ Aside0 (ecdysisref19_left.l3 kq x1_6 a2 x8_2 x9_4 x10_6 l0_0 l0_1 = some r) ∧ Aside0 (kq ≤ kj23) ∧ Aside0 (w'.heap[gb101]? = some (.cells #[(.slice (some ad103) l0_0.length c0_0), (.slice A0_1 l0_1.length c0_1)] 25 (0, 0))) ∧ Aside0 (Below w.heap.size w w'))
                                 case atStart => exact ⟨(wrap64 (x1_4 - (wrap64 ((((rd_T70 ((rd_T59 l0_0 x8_2).f1) x9_4).f1).size : Int) / 20)))), (0), (by first | rfl ), (by first | rfl ), H', ⟨Nat.le_refl _⟩, ⟨by exact BK101.out⟩, ⟨by exact HB.out⟩⟩
                                 case round =>
                                  clear H'
                                  try clear c1
                                  try clear p1
                                  try clear q1
                                  try clear hx1
                                  try clear c2
                                  try clear p2
                                  try clear c3
                                  try clear c4
                                  try clear c4b0
                                  try clear p6
                                  try clear c10
                                  try clear c10b0
                                  try clear p10
                                  try clear q10
                                  try clear hx10
                                  try clear c11
                                  try clear c11b0
                                  try clear c12
                                  try clear c12b0
                                  try clear c17
                                  try clear c17b0
                                  try clear c20
                                  try clear c21
                                  try clear c21b0
                                  try clear c22
                                  try clear c22b0
                                  try clear c25
                                  try clear c25b0
                                  try clear c26
                                  try clear c26b0
                                  try clear c27
                                  try clear c27b0
                                  try clear c30
                                  try clear c31
                                  try clear c31b0
                                  try clear c32
                                  try clear c32b0
                                  try clear c33
                                  try clear c33b0
                                  try clear c34
                                  try clear c34b0
                                  try clear hcz13_0
                                  try clear hcz13_1
                                  try clear hcz14_0
                                  try clear hcz14_1
                                  try clear hcz15_0
                                  try clear hcz15_1
                                  try clear hcz18_0
                                  try clear hcz18_1
                                  try clear hcz19_0
                                  try clear hcz19_1
                                  try clear hcz23_0
                                  try clear hcz23_1
                                  try clear hcz28_0
                                  try clear hcz28_1
                                  try clear hcz29_0
                                  try clear hcz29_1
                                  try clear hcz35_0
                                  try clear hcz35_1
                                  try clear hcz6_0
                                  try clear hcz6_1
                                  try clear hcz9_0
                                  try clear hcz9_1
                                  try clear hfz13_0
                                  try clear hfz13_1
                                  try clear hfz14_0
                                  try clear hfz14_1
                                  try clear hfz15_0
                                  try clear hfz15_1
                                  try clear hfz18_0
                                  try clear hfz18_1
                                  try clear hfz19_0
                                  try clear hfz19_1
                                  try clear hfz23_0
                                  try clear hfz23_1
                                  try clear hfz28_0
                                  try clear hfz28_1
                                  try clear hfz29_0
                                  try clear hfz29_1
                                  try clear hfz35_0
                                  try clear hfz35_1
                                  try clear hfz6_0
                                  try clear hfz6_1
                                  try clear hfz9_0
                                  try clear hfz9_1
                                  try clear hx102_0
                                  try clear hx102_1
                                  try clear hx102_2
                                  try clear hx102_3
                                  try clear hx103_0
                                  try clear hx103_1
                                  try clear hx104_0
                                  try clear hx104_1
                                  try clear hx105_0
                                  try clear hx105_1
                                  try clear hx106_0
                                  try clear hx106_1
                                  try clear hx106_2
                                  try clear p1
                                  try clear p10
                                  try clear p102
                                  try clear p103
                                  try clear p104
                                  try clear p105
                                  try clear p106
                                  try clear p2
                                  try clear p6
                                  try clear q1
                                  try clear q10
                                  try clear q102
                                  try clear q103
                                  try clear q104
                                  try clear q105
                                  try clear q106
                                  obtain ⟨x1_6, x10_6, rfl, rfl, HA, HK6, BK101, HB⟩ := hrel
                                  cases gk with
                                  | zero => exact absurd HA.out (by simp [ecdysisref19_left.l3])
                                  | succ k6 =>
                                   have H := HA.out
                                   clear HA
                                   simp only [ecdysisref19_left.l3] at H
                                   by_cases c36 : 0 ≤ x8_2
                                   · rw [if_pos c36] at H
                                     have c36b0 : decide (0 ≤ x8_2) = true := decide_eq_true c36
                                     clear c36
                                     by_cases c37 : x8_2 < (l0_0.length : Int)
                                     · rw [if_pos c37] at H
                                       have c37b0 : decide (x8_2 < (l0_0.length : Int)) = true := decide_eq_true c37
                                       clear c37
                                       by_cases c38 : 0 ≤ x9_4
                                       · rw [if_pos c38] at H
                                         have c38b0 : decide (0 ≤ x9_4) = true := decide_eq_true c38
                                         clear c38
                                         by_cases c39 : x9_4 < (((rd_T59 l0_0 x8_2).f1).length : Int)
                                         · rw [if_pos c39] at H
                                           have c39b0 : decide (x9_4 < (((rd_T59 l0_0 x8_2).f1).length : Int)) = true := decide_eq_true c39
                                           clear c39
                                           by_cases c40 : x10_6 < (((rd_T70 ((rd_T59 l0_0 x8_2).f1) x9_4).f2).length : Int)
                                           · rw [if_pos c40] at H
                                             have c40b0 : decide (x10_6 < (((rd_T70 ((rd_T59 l0_0 x8_2).f1) x9_4).f2).length : Int)) = true := decide_eq_true c40
                                             clear c40
                                             by_cases c41 : x1_6 ≥ 0
                                             · rw [if_pos c41] at H
                                               have c41b0 : decide (0 ≤ x1_6) = true := decide_eq_true c41
                                               clear c41
                                               by_cases c42 : 0 ≤ x10_6
                                               · rw [if_pos c42] at H
                                                 have c42b0 : decide (0 ≤ x10_6) = true := decide_eq_true c42
                                                 clear c42
                                                 replace H := Option.bind_eq_some_iff.mp H
                                                 obtain ⟨t112, A430, H⟩ := H
                                                 replace H : (ecdysisref19_left.l3 k6 t112 a2 x8_2 x9_4 (wrap64 (x10_6 + 1)) l0_0 l0_1) = some r := H
                                                 have A43 := Aside0.mk A430
                                                 clear A430
                                                 have H' := Aside0.mk H
                                                 clear H
                                                 have hcz44_0 : wr.cell? ⟨gb101, 0, none⟩ = some (.slice (some ad103) l0_0.length c0_0) := (blk_cell BK101.out 0).trans rfl
                                                 have hcz44_1 : wr.cell? ⟨gb101, 1, none⟩ = some (.slice A0_1 l0_1.length c0_1) := (blk_cell BK101.out 1).trans rfl
                                                 have hfz44_0 := blk_frozen BK101.out 0
                                                 have hfz44_1 := blk_frozen BK101.out 1
                                                 have p107 : 0 ≤ (x8_2 : Int) := of_decide_eq_true (by first | (with_reducible assumption) )
                                                 have q107 : x8_2 < (l0_0.length : Int) := of_decide_eq_true (by first | (with_reducible assumption) )
                                                 obtain ⟨ad107, A107_1, c107_1, e107, hx107_0, hx107_1, hl107_1, hi107_1⟩ := at_T59 HR0_0.out x8_2 p107 q107
                                                 obtain rfl : ad103 = ad107 := (by injection e107)
                                                 replace hx107_0 := (HB.out.cell (World.block_lt_of_cell? w _ hx107_0)).trans hx107_0
                                                 replace hx107_1 := (HB.out.cell (World.block_lt_of_cell? w _ hx107_1)).trans hx107_1
                                                 have HR107_1 := Aside0.mk hi107_1
                                                 have HC107_1 := Aside0.mk hl107_1
                                                 clear hi107_1 hl107_1
                                                 replace p107 := eq_true p107
                                                 replace q107 := eq_true q107
                                                 have p108 : 0 ≤ (x9_4 : Int) := of_decide_eq_true (by first | (with_reducible assumption) )
                                                 have q108 : x9_4 < (((rd_T59 l0_0 x8_2).f1).length : Int) := of_decide_eq_true (by first | (with_reducible assumption) )
                                                 obtain ⟨ad108, A108_2, c108_2, e108, hx108_0, hx108_1, hx108_2, hl108_2, hi108_2⟩ := at_T70 HR107_1.out x9_4 p108 q108
                                                 cases e108
                                                 replace hx108_0 := (HB.out.cell (World.block_lt_of_cell? w _ hx108_0)).trans hx108_0
                                                 replace hx108_1 := (HB.out.cell (World.block_lt_of_cell? w _ hx108_1)).trans hx108_1
                                                 replace hx108_2 := (HB.out.cell (World.block_lt_of_cell? w _ hx108_2)).trans hx108_2
                                                 have HR108_2 := Aside0.mk hi108_2
                                                 have HC108_2 := Aside0.mk hl108_2
                                                 clear hi108_2 hl108_2
                                                 replace p108 := eq_true p108
                                                 replace q108 := eq_true q108
                                                 have p109 : 0 ≤ (x8_2 : Int) := of_decide_eq_true (by first | (with_reducible assumption) )
                                                 have q109 : x8_2 < (l0_0.length : Int) := of_decide_eq_true (by first | (with_reducible assumption) )
                                                 obtain ⟨ad109, A109_1, c109_1, e109, hx109_0, hx109_1, hl109_1, hi109_1⟩ := at_T59 HR0_0.out x8_2 p109 q109
                                                 obtain rfl : ad103 = ad109 := (by injection e109)
                                                 replace hx109_0 := (HB.out.cell (World.block_lt_of_cell? w _ hx109_0)).trans hx109_0
                                                 replace hx109_1 := (HB.out.cell (World.block_lt_of_cell? w _ hx109_1)).trans hx109_1
                                                 have HR109_1 := Aside0.mk hi109_1
                                                 have HC109_1 := Aside0.mk hl109_1
                                                 clear hi109_1 hl109_1
                                                 replace p109 := eq_true p109
                                                 replace q109 := eq_true q109
                                                 have ea_ := Option.some.inj (hx107_1.symm.trans hx109_1)
                                                 injection ea_ with ea_ en_ ec_
                                                 subst ea_
                                                 subst ec_
                                                 clear en_
                                                 have p110 : 0 ≤ (x9_4 : Int) := of_decide_eq_true (by first | (with_reducible assumption) )
                                                 have q110 : x9_4 < (((rd_T59 l0_0 x8_2).f1).length : Int) := of_decide_eq_true (by first | (with_reducible assumption) )
                                                 obtain ⟨ad110, A110_2, c110_2, e110, hx110_0, hx110_1, hx110_2, hl110_2, hi110_2⟩ := at_T70 HR109_1.out x9_4 p110 q110
                                                 cases e110
                                                 replace hx110_0 := (HB.out.cell (World.block_lt_of_cell? w _ hx110_0)).trans hx110_0
                                                 replace hx110_1 := (HB.out.cell (World.block_lt_of_cell? w _ hx110_1)).trans hx110_1
                                                 replace hx110_2 := (HB.out.cell (World.block_lt_of_cell? w _ hx110_2)).trans hx110_2
                                                 have HR110_2 := Aside0.mk hi110_2
                                                 have HC110_2 := Aside0.mk hl110_2
                                                 clear hi110_2 hl110_2
                                                 replace p110 := eq_true p110
                                                 replace q110 := eq_true q110
                                                 have ea_ := Option.some.inj (hx108_2.symm.trans hx110_2)
                                                 injection ea_ with ea_ en_ ec_
                                                 subst ea_
                                                 subst ec_
                                                 clear en_
                                                 have p111 : 0 ≤ (x10_6 : Int) := of_decide_eq_true (by first | (with_reducible assumption) )
                                                 have q111 : x10_6 < (((rd_T70 ((rd_T59 l0_0 x8_2).f1) x9_4).f2).length : Int) := of_decide_eq_true (by first | (with_reducible assumption) )
                                                 obtain ⟨ad111, A111_0, c111_0, A111_1, c111_1, e111, hx111_0, hx111_1, hl111_0, hi111_0, hl111_1, hi111_1⟩ := at_T25 HR110_2.out x10_6 p111 q111
                                                 cases e111
                                                 replace hx111_0 := (HB.out.cell (World.block_lt_of_cell? w _ hx111_0)).trans hx111_0
                                                 replace hx111_1 := (HB.out.cell (World.block_lt_of_cell? w _ hx111_1)).trans hx111_1
                                                 have HR111_0 := Aside0.mk hi111_0
                                                 have HC111_0 := Aside0.mk hl111_0
                                                 clear hi111_0 hl111_0
                                                 have HR111_1 := Aside0.mk hi111_1
                                                 have HC111_1 := Aside0.mk hl111_1
                                                 clear hi111_1 hl111_1
                                                 replace p111 := eq_true p111
                                                 replace q111 := eq_true q111
                                                 go_wp2_with (first | ((with_reducible refine gate_callee (f := 47) rfl ?_); refine goesL_ (some 128) rfl rfl Try.func47 (by kernel_rfl) rfl #[.agg #[.slice A111_0 ((rd_T25 ((rd_T70 ((rd_T59 l0_0 x8_2).f1) x9_4).f2) x10_6).f0).length c111_0, .slice A111_1 ((rd_T25 ((rd_T70 ((rd_T59 l0_0 x8_2).f1) x9_4).f2) x10_6).f1).length c111_1], .int .i64 (wrap64 (x1_6 - 1)), .int .i64 (wrap64 (a2 - 1))] rfl (by (try simp only [List.map_toArray, List.map_cons, List.map_nil]); first | done | rfl | (simp only [List.length_drop, List.length_take]; rfl)) ?_; (with_reducible refine (ih k6 (by have := HJ6.out; have := HK2.out; have := HJ15.out; have := HK4.out; have := HJ23.out; have := HK6.out; omega) _ _ ((rd_T25 ((rd_T70 ((rd_T59 l0_0 x8_2).f1) x9_4).f2) x10_6).f0) _ _ ((rd_T25 ((rd_T70 ((rd_T59 l0_0 x8_2).f1) x9_4).f2) x10_6).f1) (wrap64 (x1_6 - 1)) (wrap64 (a2 - 1)) t112 _ ?side1 ?side2 ?side3 ?side4 A43.out).mono ?_); (case side1 => repeat (first | exact (Kd.C_below HR111_0.out HB.out) )); (case side2 => exact HC111_0.out); (case side3 => repeat (first | exact (Kd.C_below HR111_1.out HB.out) )); (case side4 => exact HC111_1.out); rintro e w45 ⟨rfl, hb⟩; refine ⟨_, rfl, ?_⟩; have n0_ := Aside0.mk (blk_below BK101.out hb); have n1_ := Aside0.mk (below_step HB.out hb); clear BK101; clear HB; have BK101 := n0_; have HB := n1_; clear n0_ n1_; (try clear hb); (try clear hb2); (try clear hk); (try clear hi)))
                                                 go_roundg k6
                                                 case measure => have := HJ6.out; have := HK2.out; have := HJ15.out; have := HK4.out; have := HJ23.out; have := HK6.out; omega
                                                 case rel => exact ⟨(t112), (wrap64 (x10_6 + 1)), (by first | rfl ), (by first | rfl ), H', ⟨by have := HJ6.out; have := HK2.out; have := HJ15.out; have := HK4.out; have := HJ23.out; have := HK6.out; omega⟩, ⟨by exact BK101.out⟩, ⟨by exact HB.out⟩⟩
                                               · rw [if_neg c42] at H
                                                 exact absurd H (by simp)
                                             · rw [if_neg c41] at H
                                               have c41b0 : decide (0 ≤ x1_6) = false := decide_eq_false c41
                                               clear c41
                                               have H' := Aside0.mk H
                                               clear H
                                               have hcz46_0 : wr.cell? ⟨gb101, 0, none⟩ = some (.slice (some ad103) l0_0.length c0_0) := (blk_cell BK101.out 0).trans rfl
                                               have hcz46_1 : wr.cell? ⟨gb101, 1, none⟩ = some (.slice A0_1 l0_1.length c0_1) := (blk_cell BK101.out 1).trans rfl
                                               have hfz46_0 := blk_frozen BK101.out 0
                                               have hfz46_1 := blk_frozen BK101.out 1
                                               have p107 : 0 ≤ (x8_2 : Int) := of_decide_eq_true (by first | (with_reducible assumption) )
                                               have q107 : x8_2 < (l0_0.length : Int) := of_decide_eq_true (by first | (with_reducible assumption) )
                                               obtain ⟨ad107, A107_1, c107_1, e107, hx107_0, hx107_1, hl107_1, hi107_1⟩ := at_T59 HR0_0.out x8_2 p107 q107
                                               obtain rfl : ad103 = ad107 := (by injection e107)
                                               replace hx107_0 := (HB.out.cell (World.block_lt_of_cell? w _ hx107_0)).trans hx107_0
                                               replace hx107_1 := (HB.out.cell (World.block_lt_of_cell? w _ hx107_1)).trans hx107_1
                                               have HR107_1 := Aside0.mk hi107_1
                                               have HC107_1 := Aside0.mk hl107_1
                                               clear hi107_1 hl107_1
                                               replace p107 := eq_true p107
                                               replace q107 := eq_true q107
                                               have p108 : 0 ≤ (x9_4 : Int) := of_decide_eq_true (by first | (with_reducible assumption) )
                                               have q108 : x9_4 < (((rd_T59 l0_0 x8_2).f1).length : Int) := of_decide_eq_true (by first | (with_reducible assumption) )
                                               obtain ⟨ad108, A108_2, c108_2, e108, hx108_0, hx108_1, hx108_2, hl108_2, hi108_2⟩ := at_T70 HR107_1.out x9_4 p108 q108
                                               cases e108
                                               replace hx108_0 := (HB.out.cell (World.block_lt_of_cell? w _ hx108_0)).trans hx108_0
                                               replace hx108_1 := (HB.out.cell (World.block_lt_of_cell? w _ hx108_1)).trans hx108_1
                                               replace hx108_2 := (HB.out.cell (World.block_lt_of_cell? w _ hx108_2)).trans hx108_2
                                               have HR108_2 := Aside0.mk hi108_2
                                               have HC108_2 := Aside0.mk hl108_2
                                               clear hi108_2 hl108_2
                                               replace p108 := eq_true p108
                                               replace q108 := eq_true q108
                                               go_wp2
                                               go_roundg k6
                                               case measure => have := HJ6.out; have := HK2.out; have := HJ15.out; have := HK4.out; have := HJ23.out; have := HK6.out; omega
                                               case rel => exact ⟨(x1_6), (wrap64 (x9_4 + 1)), (by first | rfl ), (by first | rfl ), H', ⟨by have := HJ6.out; have := HK2.out; have := HJ15.out; have := HK4.out; have := HJ23.out; have := HK6.out; omega⟩, ⟨by exact BK101.out⟩, ⟨by exact HB.out⟩⟩
                                           · rw [if_neg c40] at H
                                             have c40b0 : decide (x10_6 < (((rd_T70 ((rd_T59 l0_0 x8_2).f1) x9_4).f2).length : Int)) = false := decide_eq_false c40
                                             clear c40
                                             have H' := Aside0.mk H
                                             clear H
                                             have hcz47_0 : wr.cell? ⟨gb101, 0, none⟩ = some (.slice (some ad103) l0_0.length c0_0) := (blk_cell BK101.out 0).trans rfl
                                             have hcz47_1 : wr.cell? ⟨gb101, 1, none⟩ = some (.slice A0_1 l0_1.length c0_1) := (blk_cell BK101.out 1).trans rfl
                                             have hfz47_0 := blk_frozen BK101.out 0
                                             have hfz47_1 := blk_frozen BK101.out 1
                                             have p107 : 0 ≤ (x8_2 : Int) := of_decide_eq_true (by first | (with_reducible assumption) )
                                             have q107 : x8_2 < (l0_0.length : Int) := of_decide_eq_true (by first | (with_reducible assumption) )
                                             obtain ⟨ad107, A107_1, c107_1, e107, hx107_0, hx107_1, hl107_1, hi107_1⟩ := at_T59 HR0_0.out x8_2 p107 q107
                                             obtain rfl : ad103 = ad107 := (by injection e107)
                                             replace hx107_0 := (HB.out.cell (World.block_lt_of_cell? w _ hx107_0)).trans hx107_0
                                             replace hx107_1 := (HB.out.cell (World.block_lt_of_cell? w _ hx107_1)).trans hx107_1
                                             have HR107_1 := Aside0.mk hi107_1
                                             have HC107_1 := Aside0.mk hl107_1
                                             clear hi107_1 hl107_1
                                             replace p107 := eq_true p107
                                             replace q107 := eq_true q107
                                             have p108 : 0 ≤ (x9_4 : Int) := of_decide_eq_true (by first | (with_reducible assumption) )
                                             have q108 : x9_4 < (((rd_T59 l0_0 x8_2).f1).length : Int) := of_decide_eq_true (by first | (with_reducible assumption) )
                                             obtain ⟨ad108, A108_2, c108_2, e108, hx108_0, hx108_1, hx108_2, hl108_2, hi108_2⟩ := at_T70 HR107_1.out x9_4 p108 q108
                                             cases e108
                                             replace hx108_0 := (HB.out.cell (World.block_lt_of_cell? w _ hx108_0)).trans hx108_0
                                             replace hx108_1 := (HB.out.cell (World.block_lt_of_cell? w _ hx108_1)).trans hx108_1
                                             replace hx108_2 := (HB.out.cell (World.block_lt_of_cell? w _ hx108_2)).trans hx108_2
                                             have HR108_2 := Aside0.mk hi108_2
                                             have HC108_2 := Aside0.mk hl108_2
                                             clear hi108_2 hl108_2
                                             replace p108 := eq_true p108
                                             replace q108 := eq_true q108
                                             go_wp2
                                             go_roundg k6
                                             case measure => have := HJ6.out; have := HK2.out; have := HJ15.out; have := HK4.out; have := HJ23.out; have := HK6.out; omega
                                             case rel => exact ⟨(x1_6), (wrap64 (x9_4 + 1)), (by first | rfl ), (by first | rfl ), H', ⟨by have := HJ6.out; have := HK2.out; have := HJ15.out; have := HK4.out; have := HJ23.out; have := HK6.out; omega⟩, ⟨by exact BK101.out⟩, ⟨by exact HB.out⟩⟩
                                         · rw [if_neg c39] at H
                                           exact absurd H (by simp)
                                       · rw [if_neg c38] at H
                                         exact absurd H (by simp)
                                     · rw [if_neg c37] at H
                                       exact absurd H (by simp)
                                   · rw [if_neg c36] at H
                                     exact absurd H (by simp)
                               · rw [if_neg c34] at H
                                 exact absurd H (by simp)
                             · rw [if_neg c33] at H
                               exact absurd H (by simp)
                           · rw [if_neg c32] at H
                             exact absurd H (by simp)
                         · rw [if_neg c31] at H
                           exact absurd H (by simp)
                       · replace c30 := Bool.eq_false_iff.mpr c30
                         subst c30
                         have H1 : (ecdysisref19_left.l1 kj23 x1_4 a2 (wrap64 (x8_2 + 1)) l0_0 l0_1) = some r := by rw [if_neg (show ¬ (false = true) by decide)] at H; exact H
                         clear H
                         have H := H1
                         clear H1
                         have H' := Aside0.mk H
                         clear H
                         go_wp2
                         go_roundg kj23
                         case measure => have := HJ6.out; have := HK2.out; have := HJ15.out; have := HK4.out; have := HJ23.out; omega
                         case rel => exact ⟨(x1_4), (wrap64 (x8_2 + 1)), (by first | rfl ), (by first | rfl ), H', ⟨by have := HJ6.out; have := HK2.out; have := HJ15.out; have := HK4.out; have := HJ23.out; omega⟩, ⟨by exact BK101.out⟩, ⟨by exact HB.out⟩⟩
                · rw [if_neg c22] at H
                  exact absurd H (by simp)
              · rw [if_neg c21] at H
                exact absurd H (by simp)
            · replace c20 := Bool.eq_false_iff.mpr c20
              subst c20
              have H1 : (some x1_2) = some r := by rw [if_neg (show ¬ (false = true) by decide)] at H; exact H
              clear H
              have H := H1
              clear H1
              obtain rfl := Option.some.inj H
              go_wp2
              go_ret
              exact ⟨by first | rfl , by exact HB.out⟩
end Go.Proofs.Ytbpnfpckoapdbaa.PT19
end
section
namespace Go.Proofs.Ytbpnfpckoapdbaa.PT19
open Go.RowKit Go.Proofs.Ytbpnfpckoapdbaa.M Go.Proofs.Ytbpnfpckoapdbaa.KD Go.Proofs.Ytbpnfpckoapdbaa Go.Proofs.YtbpnfpckoapdbaaW.PrintWords Go.Proofs.YtbpnfpckoapdbaaW.PrintLast Go.Proofs.YtbpnfpckoapdbaaW.PrintMore
attribute [local go_sem] max2_int min2_int max_two min_two max_three min_three max_four min_four   -- for this text's walks alone
set_option linter.unusedVariables false
set_option linter.unusedSimpArgs false
attribute [local go_sem high] eqA73
def ecdysisref19_Small.f (k : Nat) (l0_0 : List (S59)) (l0_1 : List (S73)) : Option (Bool) := (ecdysisref19_left.f k l0_0 l0_1 400 40).bind fun t114 => (some (decide (t114 ≥ 0)))
set_option maxHeartbeats 8000000 in
set_option maxRecDepth 100000 in
theorem ecdysisref19_Small.calls (k : Nat) (A0_0 : Option Addr) (c0_0 : Nat) (l0_0 : List (S59)) (A0_1 : Option Addr) (c0_1 : Nat) (l0_1 : List (S73)) (r : Bool) (w : World) (hr0_0 : Kd.C k59 w A0_0 l0_0.length l0_0) (hc0_0 : l0_0.length ≤ c0_0) (hr0_1 : Kd.C k73 w A0_1 l0_1.length l0_1) (hc0_1 : l0_1.length ≤ c0_1) (h : ecdysisref19_Small.f k l0_0 l0_1 = some r) :
  Calls Try.prog 10 #[.agg #[.slice A0_0 l0_0.length c0_0, .slice A0_1 l0_1.length c0_1]] w fun e w' => e = .returned (.bool r) ∧ Below w.heap.size w w' := by
 have hu25 := Try.underlying25
 have HR0_0 := Aside0.mk hr0_0
 have HC0_0 := Aside0.mk hc0_0
 clear hr0_0 hc0_0
 have HR0_1 := Aside0.mk hr0_1
 have HC0_1 := Aside0.mk hc0_1
 clear hr0_1 hc0_1
 have HB := Aside0.mk (Below.refl w.heap.size w)
 have H : ((ecdysisref19_left.f k l0_0 l0_1 400 40).bind fun t114 => (some (decide (t114 ≥ 0)))) = some r := h
 clear h
 replace H := Option.bind_eq_some_iff.mp H
 obtain ⟨t114, A20, H⟩ := H
 replace H : (some (decide (t114 ≥ 0))) = some r := H
 have A2 := Aside0.mk A20
 clear A20
 obtain rfl := Option.some.inj H
 go_enter Try.func10, Try.ntmps10
 go_wp2_with (first | ((with_reducible refine gate_dst (N := 1) rfl ?_); refine box_event ?hg (N := 1) ?hd (cs := #[.slice A0_0 l0_0.length c0_0, .slice A0_1 l0_1.length c0_1]) (t := 25) ?hr ?_; (case hd => rfl); (case hg => rfl); (case hr => first | (go_simp; done) | (go_simp; rfl)); intro gb113 hg w3 hbox hb; have n0_ := Aside0.mk (below_step HB.out hb); have n1_ := Aside0.mk (hbox); clear HB; have HB := n0_; have BK113 := n1_; clear n0_ n1_; clear hb hbox hg; have hcz4_0 : w3.cell? ⟨gb113, 0, none⟩ = some (.slice A0_0 l0_0.length c0_0) := (blk_cell BK113.out 0).trans rfl; have hcz4_1 : w3.cell? ⟨gb113, 1, none⟩ = some (.slice A0_1 l0_1.length c0_1) := (blk_cell BK113.out 1).trans rfl; have hfz4_0 := blk_frozen BK113.out 0; have hfz4_1 := blk_frozen BK113.out 1) | ((with_reducible refine gate_callee (f := 47) rfl ?_); refine goesL_ (some 4) rfl rfl Try.func47 (by kernel_rfl) rfl #[.agg #[.slice A0_0 l0_0.length c0_0, .slice A0_1 l0_1.length c0_1], .int .i64 400, .int .i64 40] rfl (by (try simp only [List.map_toArray, List.map_cons, List.map_nil]); first | done | rfl | (simp only [List.length_drop, List.length_take]; rfl)) ?_; (with_reducible refine (ecdysisref19_left.calls k _ _ l0_0 _ _ l0_1 400 40 t114 _ ?side1 ?side2 ?side3 ?side4 A2.out).mono ?_); (case side1 => repeat (first | exact (Kd.C_below HR0_0.out HB.out) )); (case side2 => exact HC0_0.out); (case side3 => repeat (first | exact (Kd.C_below HR0_1.out HB.out) )); (case side4 => exact HC0_1.out); rintro e w5 ⟨rfl, hb⟩; refine ⟨_, rfl, ?_⟩; have n0_ := Aside0.mk (blk_below BK113.out hb); have n1_ := Aside0.mk (below_step HB.out hb); clear BK113; clear HB; have BK113 := n0_; have HB := n1_; clear n0_ n1_; (try clear hb); (try clear hb2); (try clear hk); (try clear hi)))
 go_ret
 exact ⟨by first | rfl , by exact HB.out⟩
def ecdysisref07_Same.l0 : Nat → List (S73) → List (S73) → Int → Option (Bool)
 | 0, _, _, _ => none
 | k + 1, x0, x1, x5 => if x5 < (x0.length : Int) then (if 0 ≤ x5 then (if x5 < (x1.length : Int) then (if (!(((rd_T73 x0 x5).f0) == ((rd_T73 x1 x5).f0)) || (!(((rd_T73 x0 x5).f1) == ((rd_T73 x1 x5).f1)) || (!(((rd_T73 x0 x5).f2) == ((rd_T73 x1 x5).f2)) || (!((((rd_T73 x0 x5).f3).toList) == (((rd_T73 x1 x5).f3).toList)))))) = true then (some false) else (ecdysisref07_Same.l0 k x0 x1 (wrap64 (x5 + 1)))) else (none)) else (none)) else (some true)
def ecdysisref07_Same.f (k : Nat) (l0 : List (S73)) (l1 : List (S73)) : Option (Bool) := if (l0.length : Int) = (l1.length : Int) then (ecdysisref07_Same.l0 k l0 l1 0) else (some false)
set_option maxHeartbeats 8000000 in
set_option maxRecDepth 100000 in
theorem ecdysisref07_Same.calls (k : Nat) (A0 : Option Addr) (c0 : Nat) (l0 : List (S73)) (A1 : Option Addr) (c1 : Nat) (l1 : List (S73)) (r : Bool) (w : World) (hr0 : Kd.C k73 w A0 l0.length l0) (hc0 : l0.length ≤ c0) (hr1 : Kd.C k73 w A1 l1.length l1) (hc1 : l1.length ≤ c1) (h : ecdysisref07_Same.f k l0 l1 = some r) :
   Calls Try.prog 52 #[.slice A0 l0.length c0, .slice A1 l1.length c1] w fun e w' => e = .returned (.bool r) ∧ Drawn0 w w' := by
 have hu73 := Try.underlying73
 have HR0 := Aside0.mk hr0
 have HC0 := Aside0.mk hc0
 clear hr0 hc0
 have HR1 := Aside0.mk hr1
 have HC1 := Aside0.mk hc1
 clear hr1 hc1
 have H : (if (l0.length : Int) = (l1.length : Int) then (ecdysisref07_Same.l0 k l0 l1 0) else (some false)) = some r := h
 clear h
 by_cases c3 : (l0.length : Int) = (l1.length : Int)
 · rw [if_pos c3] at H
   have c3b0 : ((l0.length : Int) == (l1.length : Int)) = true := beq_iff_eq.mpr c3
   have c3b1 : ((l0.length : Int) != (l1.length : Int)) = false := bne_eq_false_iff_eq.mpr c3
   have c3b2 : (l0.length == l1.length) = true := by first | (simp at c3 ⊢; omega)
   clear c3
   have H' := Aside0.mk H
   clear H
   go_enter Try.func52, Try.ntmps52
   go_wp2
   repeat (go_quiet (fail); try go_wp2)
   go_loopg [5] k (fun kq v5 w' => ∃ (x5_1 : Int), v5 = .int .i64 x5_1 ∧ Aside0 (ecdysisref07_Same.l0 kq l0 l1 x5_1 = some r) ∧ Aside0 (kq ≤ k) ∧ Drawn0 w w')
   case atStart => exact ⟨(0), (by first | rfl ), H', ⟨Nat.le_refl _⟩, by repeat (first | exact Drawn0.refl _ )⟩
   case round =>
    clear H'
    try clear c1
    try clear p2
    try clear c3
    try clear c3b0
    try clear c3b1
    try clear c3b2
    obtain ⟨x5_1, rfl, HA, HK1, ⟨m1, rfl⟩⟩ := hrel
    cases gk with
    | zero => exact absurd HA.out (by simp [ecdysisref07_Same.l0])
    | succ k1 =>
     have H := HA.out
     clear HA
     simp only [ecdysisref07_Same.l0] at H
     by_cases c4 : x5_1 < (l0.length : Int)
     · rw [if_pos c4] at H
       have c4b0 : decide (x5_1 < (l0.length : Int)) = true := decide_eq_true c4
       clear c4
       by_cases c5 : 0 ≤ x5_1
       · rw [if_pos c5] at H
         have c5b0 : decide (0 ≤ x5_1) = true := decide_eq_true c5
         clear c5
         by_cases c6 : x5_1 < (l1.length : Int)
         · rw [if_pos c6] at H
           have c6b0 : decide (x5_1 < (l1.length : Int)) = true := decide_eq_true c6
           clear c6
           by_cases c7 : (!(((rd_T73 l0 x5_1).f0) == ((rd_T73 l1 x5_1).f0)) || (!(((rd_T73 l0 x5_1).f1) == ((rd_T73 l1 x5_1).f1)) || (!(((rd_T73 l0 x5_1).f2) == ((rd_T73 l1 x5_1).f2)) || (!((((rd_T73 l0 x5_1).f3).toList) == (((rd_T73 l1 x5_1).f3).toList)))))) = true
           · rw [if_pos c7] at H
             have c7b0 : (!(((rd_T73 l0 x5_1).f0) == ((rd_T73 l1 x5_1).f0)) || (!(((rd_T73 l0 x5_1).f1) == ((rd_T73 l1 x5_1).f1)) || (!(((rd_T73 l0 x5_1).f2) == ((rd_T73 l1 x5_1).f2)) || (!((((rd_T73 l0 x5_1).f3).toList) == (((rd_T73 l1 x5_1).f3).toList)))))) = true := c7
             clear c7
             obtain rfl := Option.some.inj H
             have p117 : 0 ≤ (x5_1 : Int) := of_decide_eq_true (by first | (with_reducible assumption) )
             have q117 : x5_1 < (l0.length : Int) := of_decide_eq_true (by first | (with_reducible assumption) )
             obtain ⟨ad117, e117, hx117_0, hx117_1, hx117_2, hx117_3⟩ := at_T73 HR0.out x5_1 p117 q117
             cases e117
             replace p117 := eq_true p117
             replace q117 := eq_true q117
             have p118 : 0 ≤ (x5_1 : Int) := of_decide_eq_true (by first | (with_reducible assumption) )
             have q118 : x5_1 < (l1.length : Int) := of_decide_eq_true (by first | (with_reducible assumption) )
             obtain ⟨ad118, e118, hx118_0, hx118_1, hx118_2, hx118_3⟩ := at_T73 HR1.out x5_1 p118 q118
             cases e118
             replace p118 := eq_true p118
             replace q118 := eq_true q118
             go_wp2
             repeat (go_quiet (fail); try go_wp2)
             go_ret
             exact ⟨by first | rfl , by repeat (first | exact Drawn0.refl _ | apply Drawn0.step)⟩
           · rw [if_neg c7] at H
             have c7b0 : (!(((rd_T73 l0 x5_1).f0) == ((rd_T73 l1 x5_1).f0)) || (!(((rd_T73 l0 x5_1).f1) == ((rd_T73 l1 x5_1).f1)) || (!(((rd_T73 l0 x5_1).f2) == ((rd_T73 l1 x5_1).f2)) || (!((((rd_T73 l0 x5_1).f3).toList) == (((rd_T73 l1 x5_1).f3).toList)))))) = false := by simpa using c7
             clear c7
             have H' := Aside0.mk H
             clear H
             have p117 : 0 ≤ (x5_1 : Int) := of_decide_eq_true (by first | (with_reducible assumption) )
             have q117 : x5_1 < (l0.length : Int) := of_decide_eq_true (by first | (with_reducible assumption) )
             obtain ⟨ad117, e117, hx117_0, hx117_1, hx117_2, hx117_3⟩ := at_T73 HR0.out x5_1 p117 q117
             cases e117
             replace p117 := eq_true p117
             replace q117 := eq_true q117
             have p118 : 0 ≤ (x5_1 : Int) := of_decide_eq_true (by first | (with_reducible assumption) )
             have q118 : x5_1 < (l1.length : Int) := of_decide_eq_true (by first | (with_reducible assumption) )
             obtain ⟨ad118, e118, hx118_0, hx118_1, hx118_2, hx118_3⟩ := at_T73 HR1.out x5_1 p118 q118
             cases e118
             replace p118 := eq_true p118
             replace q118 := eq_true q118
             go_wp2
             repeat (go_quiet (fail); try go_wp2)
             go_roundg k1
             case measure => have := HK1.out; omega
             case rel => exact ⟨(wrap64 (x5_1 + 1)), (by first | rfl ), H', ⟨by have := HK1.out; omega⟩, by repeat (first | exact Drawn0.refl _ | apply Drawn0.step)⟩
         · rw [if_neg c6] at H
           exact absurd H (by simp)
       · rw [if_neg c5] at H
         exact absurd H (by simp)
     · rw [if_neg c4] at H
       have c4b0 : decide (x5_1 < (l0.length : Int)) = false := decide_eq_false c4
       clear c4
       obtain rfl := Option.some.inj H
       go_wp2
       repeat (go_quiet (fail); try go_wp2)
       go_ret
       exact ⟨by first | rfl , by repeat (first | exact Drawn0.refl _ | apply Drawn0.step)⟩
 · rw [if_neg c3] at H
   have c3b0 : ((l0.length : Int) == (l1.length : Int)) = false := beq_eq_false_iff_ne.mpr c3
   have c3b1 : ((l0.length : Int) != (l1.length : Int)) = true := bne_iff_ne.mpr c3
   have c3b2 : (l0.length == l1.length) = false := by first | (simp at c3 ⊢; omega)
   obtain rfl := Option.some.inj H
   go_enter Try.func52, Try.ntmps52
   go_wp2
   repeat (go_quiet (fail); try go_wp2)
   go_ret
   exact ⟨by first | rfl , by repeat (first | exact Drawn0.refl _ )⟩
mutual
def ecdysisref19_Same.j0 : Nat → Bool → List (S59) → List (S73) → List (S59) → List (S73) → Option (Bool)
 | 0, _, _, _, _, _ => none
 | k + 1, x20, x120000, x120001, x121000, x121001 => if x20 = true then (some false) else (ecdysisref19_Same.l0 k 0 x120000 x120001 x121000 x121001)
def ecdysisref19_Same.l0 : Nat → Int → List (S59) → List (S73) → List (S59) → List (S73) → Option (Bool)
 | 0, _, _, _, _, _ => none
 | k + 1, x5, x120000, x120001, x121000, x121001 => if x5 < (x120000.length : Int) then (if 0 ≤ x5 then (if x5 < (x121000.length : Int) then (if ((rd_T59 x120000 x5).f0) = ((rd_T59 x121000 x5).f0) then ((ecdysisref19_SameVals.f k ((rd_T59 x120000 x5).f1) ((rd_T59 x121000 x5).f1)).bind fun t126 => (if t126 = true then (ecdysisref19_Same.l0 k (wrap64 (x5 + 1)) x120000 x120001 x121000 x121001) else (some false))) else (some false)) else (none)) else (none)) else (some true)
def ecdysisref19_Same.f : Nat → List (S59) → List (S73) → List (S59) → List (S73) → Option (Bool)
 | 0, _, _, _, _ => none
 | k + 1, l0_0, l0_1, l1_0, l1_1 => if (l0_0.length : Int) = (l1_0.length : Int) then ((ecdysisref07_Same.f k l0_1 l1_1).bind fun t121 => (ecdysisref19_Same.j0 k (!t121) l0_0 l0_1 l1_0 l1_1)) else (ecdysisref19_Same.j0 k true l0_0 l0_1 l1_0 l1_1)
def ecdysisref19_SameVals.l0 : Nat → List (S70) → List (S70) → Int → Option (Bool)
 | 0, _, _, _ => none
 | k + 1, x0, x1, x5 => if x5 < (x0.length : Int) then (if 0 ≤ x5 then (if x5 < (x1.length : Int) then (if ((rd_T70 x0 x5).f0) = ((rd_T70 x1 x5).f0) then (if ((rd_T70 x0 x5).f1).toList = ((rd_T70 x1 x5).f1).toList then (ecdysisref19_SameVals.j1 k x0 x1 x5 ((((rd_T70 x0 x5).f2).length : Int) != (((rd_T70 x1 x5).f2).length : Int))) else (ecdysisref19_SameVals.j1 k x0 x1 x5 true)) else (ecdysisref19_SameVals.j1 k x0 x1 x5 true)) else (none)) else (none)) else (some true)
def ecdysisref19_SameVals.j1 : Nat → List (S70) → List (S70) → Int → Bool → Option (Bool)
 | 0, _, _, _, _ => none
 | k + 1, x0, x1, x5, x56 => if x56 = true then (some false) else (ecdysisref19_SameVals.l1 k x0 x1 x5 0)
def ecdysisref19_SameVals.l1 : Nat → List (S70) → List (S70) → Int → Int → Option (Bool)
 | 0, _, _, _, _ => none
 | k + 1, x0, x1, x5, x6 => if 0 ≤ x5 then (if x5 < (x0.length : Int) then (if x6 < (((rd_T70 x0 x5).f2).length : Int) then (if 0 ≤ x6 then (if x5 < (x1.length : Int) then (if x6 < (((rd_T70 x1 x5).f2).length : Int) then ((ecdysisref19_Same.f k ((rd_T25 ((rd_T70 x0 x5).f2) x6).f0) ((rd_T25 ((rd_T70 x0 x5).f2) x6).f1) ((rd_T25 ((rd_T70 x1 x5).f2) x6).f0) ((rd_T25 ((rd_T70 x1 x5).f2) x6).f1)).bind fun t138 => (if t138 = true then (ecdysisref19_SameVals.l1 k x0 x1 x5 (wrap64 (x6 + 1))) else (some false))) else (none)) else (none)) else (none)) else (ecdysisref19_SameVals.l0 k x0 x1 (wrap64 (x5 + 1)))) else (none)) else (none)
def ecdysisref19_SameVals.f : Nat → List (S70) → List (S70) → Option (Bool)
 | 0, _, _ => none
 | k + 1, l0, l1 => if (l0.length : Int) = (l1.length : Int) then (ecdysisref19_SameVals.l0 k l0 l1 0) else (some false)
end
end Go.Proofs.Ytbpnfpckoapdbaa.PT19
end
section
namespace Go.Proofs.Ytbpnfpckoapdbaa.PT19
open Go.RowKit Go.Proofs.Ytbpnfpckoapdbaa.M Go.Proofs.Ytbpnfpckoapdbaa.KD Go.Proofs.Ytbpnfpckoapdbaa Go.Proofs.YtbpnfpckoapdbaaW.PrintWords Go.Proofs.YtbpnfpckoapdbaaW.PrintLast Go.Proofs.YtbpnfpckoapdbaaW.PrintMore
attribute [local go_sem] max2_int min2_int max_two min_two max_three min_three max_four min_four   -- for this text's walks alone
set_option linter.unusedVariables false
set_option linter.unusedSimpArgs false
def ecdysisref19_Same.T6 : Bool × List (List Nat × List Nat) := (true, [([], []), ([0], [0]), ([], []), ([1, 2], [1, 2]), ([3], [3]), ([4], [4]), ([], []), ([6], [6]), ([], []), ([7, 8], [7, 8]), ([9], [9]), ([10], [10]), ([5, 11], [5, 11]), ([12], [12]), ([13], [13]), ([14, 13], [13, 14]), ([13], [13]), ([15, 16, 13], [13, 15, 16]), ([17, 13], [13, 17]), ([18, 13], [13, 18]), ([13], [13]), ([20, 13], [13, 20]), ([13], [13]), ([21, 22, 13], [13, 21, 22]), ([23, 13], [13, 23]), ([24, 13], [13, 24]), ([19, 25, 13, 13], [13, 19, 25]), ([26, 13], [13, 26]), ([13, 27], [13, 27])])
def ecdysisref19_Same.B6 : List Nat := [0, 1, 0, 7, 15, 31, 0, 64, 0, 448, 960, 1984, 4095, 8191, 16383, 32767, 16383, 131071, 262143, 524287, 16383, 1064959, 16383, 7356415, 15745023, 32522239, 67108863, 134217727, 268435455]
theorem ecdysisref19_Same.tab6 : rtab .any (opsOf Try.f14 6) = ecdysisref19_Same.T6 := by kernel_rfl
theorem ecdysisref19_Same.bits6 : waitsOk ecdysisref19_Same.T6.2 ecdysisref19_Same.B6 = true := by kernel_rfl
set_option maxHeartbeats 8000000 in
set_option maxRecDepth 100000 in
theorem ecdysisref19_Same.callsR (k : Nat) (ih_ecdysisref19_Same : ∀ k_, k_ < k → ∀ (A0_0 : Option Addr) (c0_0 : Nat) (l0_0 : List (S59)) (A0_1 : Option Addr) (c0_1 : Nat) (l0_1 : List (S73)) (A1_0 : Option Addr) (c1_0 : Nat) (l1_0 : List (S59)) (A1_1 : Option Addr) (c1_1 : Nat) (l1_1 : List (S73)) (r : Bool) (w : World) (hr0_0 : Kd.C k59 w A0_0 l0_0.length l0_0) (hc0_0 : l0_0.length ≤ c0_0) (hr0_1 : Kd.C k73 w A0_1 l0_1.length l0_1) (hc0_1 : l0_1.length ≤ c0_1) (hr1_0 : Kd.C k59 w A1_0 l1_0.length l1_0) (hc1_0 : l1_0.length ≤ c1_0) (hr1_1 : Kd.C k73 w A1_1 l1_1.length l1_1) (hc1_1 : l1_1.length ≤ c1_1) (h_ : ecdysisref19_Same.f k_ l0_0 l0_1 l1_0 l1_1 = some r), Calls Try.prog 14 #[.agg #[.slice A0_0 l0_0.length c0_0, .slice A0_1 l0_1.length c0_1], .agg #[.slice A1_0 l1_0.length c1_0, .slice A1_1 l1_1.length c1_1]] w fun e w' => e = .returned (.bool r) ∧ Below w.heap.size w w') (ih_ecdysisref19_SameVals : ∀ k_, k_ < k → ∀ (A0 : Option Addr) (c0 : Nat) (l0 : List (S70)) (A1 : Option Addr) (c1 : Nat) (l1 : List (S70)) (r : Bool) (w : World) (hr0 : Kd.C k70 w A0 l0.length l0) (hc0 : l0.length ≤ c0) (hr1 : Kd.C k70 w A1 l1.length l1) (hc1 : l1.length ≤ c1) (h_ : ecdysisref19_SameVals.f k_ l0 l1 = some r), Calls Try.prog 43 #[.slice A0 l0.length c0, .slice A1 l1.length c1] w fun e w' => e = .returned (.bool r) ∧ Below w.heap.size w w') : ∀ (A0_0 : Option Addr) (c0_0 : Nat) (l0_0 : List (S59)) (A0_1 : Option Addr) (c0_1 : Nat) (l0_1 : List (S73)) (A1_0 : Option Addr) (c1_0 : Nat) (l1_0 : List (S59)) (A1_1 : Option Addr) (c1_1 : Nat) (l1_1 : List (S73)) (r : Bool) (w : World) (hr0_0 : Kd.C k59 w A0_0 l0_0.length l0_0) (hc0_0 : l0_0.length ≤ c0_0) (hr0_1 : Kd.C k73 w A0_1 l0_1.length l0_1) (hc0_1 : l0_1.length ≤ c0_1) (hr1_0 : Kd.C k59 w A1_0 l1_0.length l1_0) (hc1_0 : l1_0.length ≤ c1_0) (hr1_1 : Kd.C k73 w A1_1 l1_1.length l1_1) (hc1_1 : l1_1.length ≤ c1_1) (h : ecdysisref19_Same.f k l0_0 l0_1 l1_0 l1_1 = some r),
  Calls Try.prog 14 #[.agg #[.slice A0_0 l0_0.length c0_0, .slice A0_1 l0_1.length c0_1], .agg #[.slice A1_0 l1_0.length c1_0, .slice A1_1 l1_1.length c1_1]] w fun e w' => e = .returned (.bool r) ∧ Below w.heap.size w w' := by
 intro A0_0 c0_0 l0_0 A0_1 c0_1 l0_1 A1_0 c1_0 l1_0 A1_1 c1_1 l1_1 r w hr0_0 hc0_0 hr0_1 hc0_1 hr1_0 hc1_0 hr1_1 hc1_1 h
 cases k with
 | zero => exact absurd h (by simp [ecdysisref19_Same.f])
 | succ k =>
 simp only [ecdysisref19_Same.f] at h
 have hu25 := Try.underlying25
 have HR0_0 := Aside0.mk hr0_0
 have HC0_0 := Aside0.mk hc0_0
 clear hr0_0 hc0_0
 have HR0_1 := Aside0.mk hr0_1
 have HC0_1 := Aside0.mk hc0_1
 clear hr0_1 hc0_1
 have HR1_0 := Aside0.mk hr1_0
 have HC1_0 := Aside0.mk hc1_0
 clear hr1_0 hc1_0
 have HR1_1 := Aside0.mk hr1_1
 have HC1_1 := Aside0.mk hc1_1
 clear hr1_1 hc1_1
 have HB := Aside0.mk (Below.refl w.heap.size w)
 have H : (if (l0_0.length : Int) = (l1_0.length : Int) then ((ecdysisref07_Same.f k l0_1 l1_1).bind fun t121 => (ecdysisref19_Same.j0 k (!t121) l0_0 l0_1 l1_0 l1_1)) else (ecdysisref19_Same.j0 k true l0_0 l0_1 l1_0 l1_1)) = some r := h
 clear h
 have HC3 := Aside0.mk H
 clear H
 go_enter Try.func14, Try.ntmps14
 go_upto_region 1 with (first | ((with_reducible refine gate_dst (N := 2) rfl ?_); refine box_event ?hg (N := 2) ?hd (cs := #[.slice A0_0 l0_0.length c0_0, .slice A0_1 l0_1.length c0_1]) (t := 25) ?hr ?_; (case hd => rfl); (case hg => rfl); (case hr => first | (go_simp; done) | (go_simp; rfl)); intro gb119 hg w4 hbox hb; have n0_ := Aside0.mk (below_step HB.out hb); have n1_ := Aside0.mk (hbox); clear HB; have HB := n0_; have BK119 := n1_; clear n0_ n1_; clear hb hbox hg) | ((with_reducible refine gate_dst (N := 3) rfl ?_); refine box_event ?hg (N := 3) ?hd (cs := #[.slice A1_0 l1_0.length c1_0, .slice A1_1 l1_1.length c1_1]) (t := 25) ?hr ?_; (case hd => rfl); (case hg => rfl); (case hr => first | (go_simp; done) | (go_simp; rfl)); intro gb120 hg w5 hbox hb; have n0_ := Aside0.mk (blk_below BK119.out hb); have n1_ := Aside0.mk (below_step HB.out hb); have n2_ := Aside0.mk (hbox); have n5_ := Aside0.mk ((by rw [hg]; exact Nat.ne_of_lt (blk_lt BK119.out) : gb119 ≠ gb120)); have n6_ := Aside0.mk ((by rw [hg]; exact Nat.ne_of_gt (blk_lt BK119.out) : gb120 ≠ gb119)); clear BK119; clear HB; have BK119 := n0_; have HB := n1_; have BK120 := n2_; have NB119_120 := n5_; have NB120_119 := n6_; clear n0_ n1_ n2_ n5_ n6_; clear hb hbox hg))
 (try simp only [Act.put, List.setIfInBounds_toArray, List.set_cons_zero, List.set_cons_succ])
 go_cut [20] (fun v20 wc => ∃ (kq : Nat) (x20_2 : Bool), v20 = .bool x20_2 ∧ Aside0 (ecdysisref19_Same.j0 kq x20_2 l0_0 l0_1 l1_0 l1_1 = some r) ∧ Aside0 (kq ≤ k) ∧ Aside0 (wc.heap[gb119]? = some (.cells #[(.slice A0_0 l0_0.length c0_0), (.slice A0_1 l0_1.length c0_1)] 25 (0, 0))) ∧ Aside0 (wc.heap[gb120]? = some (.cells #[(.slice A1_0 l1_0.length c1_0), (.slice A1_1 l1_1.length c1_1)] 25 (0, 0))) ∧ Aside0 (Below w.heap.size w wc))
 case first =>
  have H := HC3.out
  clear HC3
  by_cases c6 : (l0_0.length : Int) = (l1_0.length : Int)
  · rw [if_pos c6] at H
    have c6b0 : ((l0_0.length : Int) == (l1_0.length : Int)) = true := beq_iff_eq.mpr c6
    have c6b1 : ((l0_0.length : Int) != (l1_0.length : Int)) = false := bne_eq_false_iff_eq.mpr c6
    have c6b2 : (l0_0.length == l1_0.length) = true := by first | (simp at c6 ⊢; omega)
    clear c6
    (first | skip)
    replace H := Option.bind_eq_some_iff.mp H
    obtain ⟨t121, A70, H⟩ := H
    replace H : (ecdysisref19_Same.j0 k (!t121) l0_0 l0_1 l1_0 l1_1) = some r := H
    have A7 := Aside0.mk A70
    clear A70
    have H' := Aside0.mk H
    clear H
    have hnb8 := NB119_120.out
    have hnc8 := NB120_119.out
    have hcz9_0 : w5.cell? ⟨gb119, 0, none⟩ = some (.slice A0_0 l0_0.length c0_0) := (blk_cell BK119.out 0).trans rfl
    have hcz9_1 : w5.cell? ⟨gb119, 1, none⟩ = some (.slice A0_1 l0_1.length c0_1) := (blk_cell BK119.out 1).trans rfl
    have hfz9_0 := blk_frozen BK119.out 0
    have hfz9_1 := blk_frozen BK119.out 1
    have hcz10_0 : w5.cell? ⟨gb120, 0, none⟩ = some (.slice A1_0 l1_0.length c1_0) := (blk_cell BK120.out 0).trans rfl
    have hcz10_1 : w5.cell? ⟨gb120, 1, none⟩ = some (.slice A1_1 l1_1.length c1_1) := (blk_cell BK120.out 1).trans rfl
    have hfz10_0 := blk_frozen BK120.out 0
    have hfz10_1 := blk_frozen BK120.out 1
    go_wp2_with (first | (go_at_call 52; (with_reducible refine (ecdysisref07_Same.calls k _ _ l0_1 _ _ l1_1 t121 _ ?side1 ?side2 ?side3 ?side4 A7.out).mono ?_); (case side1 => repeat (first | exact (Kd.C_below HR0_1.out HB.out) )); (case side2 => exact HC0_1.out); (case side3 => repeat (first | exact (Kd.C_below HR1_1.out HB.out) )); (case side4 => exact HC1_1.out); rintro e w' ⟨rfl, ⟨nd, rfl⟩⟩))
    go_meet
    case rel => exact ⟨_, (!t121), (by first | rfl ), H', ⟨by first | omega ⟩, ⟨by (with_reducible repeat (first | refine blk_drewN ?_ _ )); exact BK119.out⟩, ⟨by (with_reducible repeat (first | refine blk_drewN ?_ _ )); exact BK120.out⟩, ⟨by repeat (first | (with_reducible first | exact HB.out | apply pw_below_drewN ) )⟩⟩
  · rw [if_neg c6] at H
    have c6b0 : ((l0_0.length : Int) == (l1_0.length : Int)) = false := beq_eq_false_iff_ne.mpr c6
    have c6b1 : ((l0_0.length : Int) != (l1_0.length : Int)) = true := bne_iff_ne.mpr c6
    have c6b2 : (l0_0.length == l1_0.length) = false := by first | (simp at c6 ⊢; omega)
    (first | skip)
    have H' := Aside0.mk H
    clear H
    have hnb11 := NB119_120.out
    have hnc11 := NB120_119.out
    have hcz12_0 : w5.cell? ⟨gb119, 0, none⟩ = some (.slice A0_0 l0_0.length c0_0) := (blk_cell BK119.out 0).trans rfl
    have hcz12_1 : w5.cell? ⟨gb119, 1, none⟩ = some (.slice A0_1 l0_1.length c0_1) := (blk_cell BK119.out 1).trans rfl
    have hfz12_0 := blk_frozen BK119.out 0
    have hfz12_1 := blk_frozen BK119.out 1
    have hcz13_0 : w5.cell? ⟨gb120, 0, none⟩ = some (.slice A1_0 l1_0.length c1_0) := (blk_cell BK120.out 0).trans rfl
    have hcz13_1 : w5.cell? ⟨gb120, 1, none⟩ = some (.slice A1_1 l1_1.length c1_1) := (blk_cell BK120.out 1).trans rfl
    have hfz13_0 := blk_frozen BK120.out 0
    have hfz13_1 := blk_frozen BK120.out 1
    go_wp2
    go_meet
    case rel => exact ⟨_, (true), (by first | rfl ), H', ⟨by first | omega ⟩, ⟨by exact BK119.out⟩, ⟨by exact BK120.out⟩, ⟨by exact HB.out⟩⟩
 case rest =>
  clear HC3
  try clear c1
  try clear p2
  try clear c6
  try clear c6b0
  try clear c6b1
  try clear c6b2
  try clear c8
  try clear c11
  try clear hcz10_0
  try clear hcz10_1
  try clear hcz12_0
  try clear hcz12_1
  try clear hcz13_0
  try clear hcz13_1
  try clear hcz9_0
  try clear hcz9_1
  try clear hfz10_0
  try clear hfz10_1
  try clear hfz12_0
  try clear hfz12_1
  try clear hfz13_0
  try clear hfz13_1
  try clear hfz9_0
  try clear hfz9_1
  obtain ⟨kq, x20_2, rfl, HA, HJ2, BK119, BK120, HB⟩ := hcut
  cases kq with
  | zero => exact absurd HA.out (by simp [ecdysisref19_Same.j0])
  | succ kj2 =>
    have H := HA.out
    clear HA
    simp only [ecdysisref19_Same.j0] at H
    by_cases c14 : x20_2 = true
    · subst c14
      have H1 : (some false) = some r := by rw [if_pos rfl] at H; exact H
      clear H
      have H := H1
      clear H1
      obtain rfl := Option.some.inj H
      go_wp2
      go_ret
      exact ⟨by first | rfl , by exact HB.out⟩
    · replace c14 := Bool.eq_false_iff.mpr c14
      subst c14
      have H1 : (ecdysisref19_Same.l0 kj2 0 l0_0 l0_1 l1_0 l1_1) = some r := by rw [if_neg (show ¬ (false = true) by decide)] at H; exact H
      clear H
      have H := H1
      clear H1
      have H' := Aside0.mk H
      clear H
      go_wp2
      go_loopg [5] kj2 (fun kq v5 w' => ∃ (x5_2 : Int), v5 = .int .i64 x5_2 ∧ Aside0 (ecdysisref19_Same.l0 kq x5_2 l0_0 l0_1 l1_0 l1_1 = some r) ∧ Aside0 (kq ≤ kj2) ∧ Aside0 (w'.heap[gb119]? = some (.cells #[(.slice A0_0 l0_0.length c0_0), (.slice A0_1 l0_1.length c0_1)] 25 (0, 0))) ∧ Aside0 (w'.heap[gb120]? = some (.cells #[(.slice A1_0 l1_0.length c1_0), (.slice A1_1 l1_1.length c1_1)] 25 (0, 0))) ∧ Aside0 (Below w.heap.size w w'))
      case atStart => exact ⟨(0), (by first | rfl ), H', ⟨Nat.le_refl _⟩, ⟨by exact BK119.out⟩, ⟨by exact BK120.out⟩, ⟨by exact HB.out⟩⟩
      case round =>
       clear H'
       try clear c1
       try clear p2
       try clear c6
       try clear c6b0
       try clear c6b1
       try clear c6b2
       try clear c8
       try clear c11
       try clear c14
       try clear hcz10_0
       try clear hcz10_1
       try clear hcz12_0
       try clear hcz12_1
       try clear hcz13_0
       try clear hcz13_1
       try clear hcz9_0
       try clear hcz9_1
       try clear hfz10_0
       try clear hfz10_1
       try clear hfz12_0
       try clear hfz12_1
       try clear hfz13_0
       try clear hfz13_1
       try clear hfz9_0
       try clear hfz9_1
       try clear p2
       obtain ⟨x5_2, rfl, HA, HK2, BK119, BK120, HB⟩ := hrel
       cases gk with
       | zero => exact absurd HA.out (by simp [ecdysisref19_Same.l0])
       | succ k2 =>
        have H := HA.out
        clear HA
        simp only [ecdysisref19_Same.l0] at H
        by_cases c15 : x5_2 < (l0_0.length : Int)
        · rw [if_pos c15] at H
          have c15b0 : decide (x5_2 < (l0_0.length : Int)) = true := decide_eq_true c15
          clear c15
          by_cases c16 : 0 ≤ x5_2
          · rw [if_pos c16] at H
            have c16b0 : decide (0 ≤ x5_2) = true := decide_eq_true c16
            clear c16
            by_cases c17 : x5_2 < (l1_0.length : Int)
            · rw [if_pos c17] at H
              have c17b0 : decide (x5_2 < (l1_0.length : Int)) = true := decide_eq_true c17
              clear c17
              by_cases c18 : ((rd_T59 l0_0 x5_2).f0) = ((rd_T59 l1_0 x5_2).f0)
              · rw [if_pos c18] at H
                have c18b0 : (((rd_T59 l0_0 x5_2).f0) == ((rd_T59 l1_0 x5_2).f0)) = true := beq_iff_eq.mpr c18
                have c18b1 : (((rd_T59 l0_0 x5_2).f0) != ((rd_T59 l1_0 x5_2).f0)) = false := bne_eq_false_iff_eq.mpr c18
                clear c18
                replace H := Option.bind_eq_some_iff.mp H
                obtain ⟨t126, A190, H⟩ := H
                replace H : (if t126 = true then (ecdysisref19_Same.l0 k2 (wrap64 (x5_2 + 1)) l0_0 l0_1 l1_0 l1_1) else (some false)) = some r := H
                have A19 := Aside0.mk A190
                clear A190
                by_cases c20 : t126 = true
                · subst c20
                  have H1 : (ecdysisref19_Same.l0 k2 (wrap64 (x5_2 + 1)) l0_0 l0_1 l1_0 l1_1) = some r := by rw [if_pos rfl] at H; exact H
                  clear H
                  have H := H1
                  clear H1
                  have H' := Aside0.mk H
                  clear H
                  have hnb21 := NB119_120.out
                  have hnc21 := NB120_119.out
                  have hcz22_0 : wr.cell? ⟨gb119, 0, none⟩ = some (.slice A0_0 l0_0.length c0_0) := (blk_cell BK119.out 0).trans rfl
                  have hcz22_1 : wr.cell? ⟨gb119, 1, none⟩ = some (.slice A0_1 l0_1.length c0_1) := (blk_cell BK119.out 1).trans rfl
                  have hfz22_0 := blk_frozen BK119.out 0
                  have hfz22_1 := blk_frozen BK119.out 1
                  try go_wp2
                  have n0_ := Aside0.mk (blk_drew BK119.out)
                  have n1_ := Aside0.mk (blk_drew BK120.out)
                  have n2_ := Aside0.mk (below_drew1 HB.out)
                  clear BK119
                  clear BK120
                  clear HB
                  have BK119 := n0_
                  have BK120 := n1_
                  have HB := n2_
                  clear n0_ n1_ n2_
                  have p122 : 0 ≤ (x5_2 : Int) := of_decide_eq_true (by first | (with_reducible assumption) )
                  have q122 : x5_2 < (l0_0.length : Int) := of_decide_eq_true (by first | (with_reducible assumption) )
                  obtain ⟨ad122, A122_1, c122_1, e122, hx122_0, hx122_1, hl122_1, hi122_1⟩ := at_T59 HR0_0.out x5_2 p122 q122
                  have hw122_1 := hx122_1
                  have hw122_0 := hx122_0
                  cases e122
                  replace hx122_0 := (HB.out.cell (World.block_lt_of_cell? w _ hx122_0)).trans hx122_0
                  replace hx122_1 := (HB.out.cell (World.block_lt_of_cell? w _ hx122_1)).trans hx122_1
                  have HR122_1 := Aside0.mk hi122_1
                  have HC122_1 := Aside0.mk hl122_1
                  clear hi122_1 hl122_1
                  replace p122 := eq_true p122
                  replace q122 := eq_true q122
                  have p123 : 0 ≤ (x5_2 : Int) := of_decide_eq_true (by first | (with_reducible assumption) )
                  have q123 : x5_2 < (l1_0.length : Int) := of_decide_eq_true (by first | (with_reducible assumption) )
                  obtain ⟨ad123, A123_1, c123_1, e123, hx123_0, hx123_1, hl123_1, hi123_1⟩ := at_T59 HR1_0.out x5_2 p123 q123
                  have hw123_1 := hx123_1
                  have hw123_0 := hx123_0
                  cases e123
                  replace hx123_0 := (HB.out.cell (World.block_lt_of_cell? w _ hx123_0)).trans hx123_0
                  replace hx123_1 := (HB.out.cell (World.block_lt_of_cell? w _ hx123_1)).trans hx123_1
                  have HR123_1 := Aside0.mk hi123_1
                  have HC123_1 := Aside0.mk hl123_1
                  clear hi123_1 hl123_1
                  replace p123 := eq_true p123
                  replace q123 := eq_true q123
                  have p124 : 0 ≤ (x5_2 : Int) := of_decide_eq_true (by first | (with_reducible assumption) )
                  have q124 : x5_2 < (l0_0.length : Int) := of_decide_eq_true (by first | (with_reducible assumption) )
                  obtain ⟨ad124, A124_1, c124_1, e124, hx124_0, hx124_1, hl124_1, hi124_1⟩ := at_T59 HR0_0.out x5_2 p124 q124
                  have hw124_1 := hx124_1
                  have hw124_0 := hx124_0
                  obtain rfl : ad122 = ad124 := (by injection e124)
                  replace hx124_0 := (HB.out.cell (World.block_lt_of_cell? w _ hx124_0)).trans hx124_0
                  replace hx124_1 := (HB.out.cell (World.block_lt_of_cell? w _ hx124_1)).trans hx124_1
                  have HR124_1 := Aside0.mk hi124_1
                  have HC124_1 := Aside0.mk hl124_1
                  clear hi124_1 hl124_1
                  replace p124 := eq_true p124
                  replace q124 := eq_true q124
                  have ea_ := Option.some.inj (hx122_1.symm.trans hx124_1)
                  injection ea_ with ea_ en_ ec_
                  subst ea_
                  subst ec_
                  clear en_
                  have p125 : 0 ≤ (x5_2 : Int) := of_decide_eq_true (by first | (with_reducible assumption) )
                  have q125 : x5_2 < (l1_0.length : Int) := of_decide_eq_true (by first | (with_reducible assumption) )
                  obtain ⟨ad125, A125_1, c125_1, e125, hx125_0, hx125_1, hl125_1, hi125_1⟩ := at_T59 HR1_0.out x5_2 p125 q125
                  have hw125_1 := hx125_1
                  have hw125_0 := hx125_0
                  obtain rfl : ad123 = ad125 := (by injection e125)
                  replace hx125_0 := (HB.out.cell (World.block_lt_of_cell? w _ hx125_0)).trans hx125_0
                  replace hx125_1 := (HB.out.cell (World.block_lt_of_cell? w _ hx125_1)).trans hx125_1
                  have HR125_1 := Aside0.mk hi125_1
                  have HC125_1 := Aside0.mk hl125_1
                  clear hi125_1 hl125_1
                  replace p125 := eq_true p125
                  replace q125 := eq_true q125
                  have ea_ := Option.some.inj (hx123_1.symm.trans hx125_1)
                  injection ea_ with ea_ en_ ec_
                  subst ea_
                  subst ec_
                  clear en_
                  refine start_ (n := 29) (S := fun w' => w'.cell? ⟨gb119, 0, none⟩ = some (.slice (some ad122) l0_0.length c0_0) ∧ w'.cell? ⟨gb119, 1, none⟩ = some (.slice A0_1 l0_1.length c0_1) ∧ w'.cell? ⟨gb120, 0, none⟩ = some (.slice (some ad123) l1_0.length c1_0) ∧ w'.cell? ⟨gb120, 1, none⟩ = some (.slice A1_1 l1_1.length c1_1) ∧ w'.cell? (ad122.add ((x5_2).toNat * 2)) = some (.int .i64 ((rd_T59 l0_0 x5_2).f0)) ∧ w'.cell? ⟨(ad122.add ((x5_2).toNat * 2)).block, (ad122.add ((x5_2).toNat * 2)).off + 1, none⟩ = some (.slice A122_1 ((rd_T59 l0_0 x5_2).f1).length c122_1) ∧ w'.cell? (ad123.add ((x5_2).toNat * 2)) = some (.int .i64 ((rd_T59 l1_0 x5_2).f0)) ∧ w'.cell? ⟨(ad123.add ((x5_2).toNat * 2)).block, (ad123.add ((x5_2).toNat * 2)).off + 1, none⟩ = some (.slice A123_1 ((rd_T59 l1_0 x5_2).f1).length c123_1) ∧ w'.cell? (ad122.add ((x5_2).toNat * 2)) = some (.int .i64 ((rd_T59 l0_0 x5_2).f0)) ∧ w'.cell? ⟨(ad122.add ((x5_2).toNat * 2)).block, (ad122.add ((x5_2).toNat * 2)).off + 1, none⟩ = some (.slice A122_1 ((rd_T59 l0_0 x5_2).f1).length c122_1) ∧ w'.cell? (ad123.add ((x5_2).toNat * 2)) = some (.int .i64 ((rd_T59 l1_0 x5_2).f0)) ∧ w'.cell? ⟨(ad123.add ((x5_2).toNat * 2)).block, (ad123.add ((x5_2).toNat * 2)).off + 1, none⟩ = some (.slice A123_1 ((rd_T59 l1_0 x5_2).f1).length c123_1)) (ds := []) #[false, false, false, false, false, false, false, false, false, false, false, false, false, false, false, false, false, false, false, false, false, false, false, false, false, false, false, false, false] (by kernel_rfl) rfl rfl ⟨(blk_cell BK119.out 0).trans rfl, (blk_cell BK119.out 1).trans rfl, (blk_cell BK120.out 0).trans rfl, (blk_cell BK120.out 1).trans rfl, ((HB.out.cell (World.block_lt_of_cell? w _ hw122_0)).trans hw122_0), ((HB.out.cell (World.block_lt_of_cell? w _ hw122_1)).trans hw122_1), ((HB.out.cell (World.block_lt_of_cell? w _ hw123_0)).trans hw123_0), ((HB.out.cell (World.block_lt_of_cell? w _ hw123_1)).trans hw123_1), ((HB.out.cell (World.block_lt_of_cell? w _ hw124_0)).trans hw124_0), ((HB.out.cell (World.block_lt_of_cell? w _ hw124_1)).trans hw124_1), ((HB.out.cell (World.block_lt_of_cell? w _ hw125_0)).trans hw125_0), ((HB.out.cell (World.block_lt_of_cell? w _ hw125_1)).trans hw125_1)⟩ (fun hHeld => ?_); refine with_tabW ecdysisref19_Same.tab6 ecdysisref19_Same.bits6 (fun HT_ HW_ => ?_)
                  generalize wr.drew = w23 at BK119 BK120 HB HR122_1 HR123_1 HR124_1 HR125_1 hx122_0 hx122_1 hx123_0 hx123_1 hx124_0 hx124_1 hx125_0 hx125_1 hHeld ⊢
                  refine zp 0 (zb 29 1) ?_ rfl rfl HT_ (by kernel_rfl) (fun _ _ _ h => h) rfl ?_ ?_ ?_ ?_; rotate_left; (intro w'; go_simp; with_reducible rfl); rotate_left; (simp only [zs]; rfl)
                  refine zp 2 (zb 29 5) ?_ rfl rfl HT_ (by kernel_rfl) (fun _ _ _ h => h) rfl ?_ ?_ ?_ ?_; rotate_left; (intro w'; go_simp; with_reducible rfl); rotate_left; (simp only [zs]; rfl)
                  refine zp 6 (zb 29 69) ?_ rfl rfl HT_ (by kernel_rfl) (fun _ _ _ h => h) rfl ?_ ?_ ?_ ?_; rotate_left; (intro w'; go_simp; with_reducible rfl); rotate_left; (simp only [zs]; rfl)
                  refine zp 8 (zb 29 325) ?_ rfl rfl HT_ (by kernel_rfl) (fun _ _ _ h => h) rfl ?_ ?_ ?_ ?_; rotate_left; (intro w'; go_simp; with_reducible rfl); rotate_left; (simp only [zs]; rfl)
                  refine zt 1 (zb 29 327) ?_ rfl rfl HT_ HW_ (by kernel_rfl) (fun _ _ _ h => h) rfl ?_ hHeld ?_ ?_ ?_; rotate_left; (rintro w' ⟨s0, s1, s2, s3, s4, s5, s6, s7, s8, s9, s10, s11⟩; go_simp; with_reducible rfl); rotate_left; (simp only [zs]; rfl)
                  refine zp 3 (zb 29 335) ?_ rfl rfl HT_ (by kernel_rfl) (fun _ _ _ h => h) rfl ?_ ?_ ?_ ?_; rotate_left; (intro w'; go_simp; with_reducible rfl); rotate_left; (simp only [zs]; rfl)
                  refine zp 4 (zb 29 351) ?_ rfl rfl HT_ (by kernel_rfl) (fun _ _ _ h => h) rfl ?_ ?_ ?_ ?_; rotate_left; (intro w'; go_simp; with_reducible rfl); rotate_left; (simp only [zs]; rfl)
                  refine zt 5 (zb 29 383) ?_ rfl rfl HT_ HW_ (by kernel_rfl) (fun _ _ _ h => h) rfl ?_ hHeld ?_ ?_ ?_; rotate_left; (rintro w' ⟨s0, s1, s2, s3, s4, s5, s6, s7, s8, s9, s10, s11⟩; go_simp; with_reducible rfl); rotate_left; (simp only [zs]; rfl)
                  refine zt 7 (zb 29 511) ?_ rfl rfl HT_ HW_ (by kernel_rfl) (fun _ _ _ h => h) rfl ?_ hHeld ?_ ?_ ?_; rotate_left; (rintro w' ⟨s0, s1, s2, s3, s4, s5, s6, s7, s8, s9, s10, s11⟩; go_simp; with_reducible rfl); rotate_left; (simp only [zs]; rfl)
                  refine zp 9 (zb 29 1023) ?_ rfl rfl HT_ (by kernel_rfl) (fun _ _ _ h => h) rfl ?_ ?_ ?_ ?_; rotate_left; (intro w'; go_simp; with_reducible rfl); rotate_left; (simp only [zs]; rfl)
                  refine zp 10 (zb 29 2047) ?_ rfl rfl HT_ (by kernel_rfl) (fun _ _ _ h => h) rfl ?_ ?_ ?_ ?_; rotate_left; (intro w'; go_simp; with_reducible rfl); rotate_left; (simp only [zs]; rfl)
                  refine zt 11 (zb 29 4095) ?_ rfl rfl HT_ HW_ (by kernel_rfl) (fun _ _ _ h => h) rfl ?_ hHeld ?_ ?_ ?_; rotate_left; (rintro w' ⟨s0, s1, s2, s3, s4, s5, s6, s7, s8, s9, s10, s11⟩; go_simp; with_reducible rfl); rotate_left; (simp only [zs]; rfl)
                  refine zp 12 (zb 29 8191) ?_ rfl rfl HT_ (by kernel_rfl) (fun _ _ _ h => h) rfl ?_ ?_ ?_ ?_; rotate_left; (intro w'; go_simp; with_reducible rfl); rotate_left; (simp only [zs]; rfl)
                  refine zp 13 (zb 29 16383) ?_ rfl rfl HT_ (by kernel_rfl) (fun _ _ _ h => h) rfl ?_ ?_ ?_ ?_; rotate_left; (intro w'; go_simp; with_reducible rfl); rotate_left; (simp only [zs]; rfl)
                  refine zp 14 (zb 29 32767) ?_ rfl rfl HT_ (by kernel_rfl) (fun _ _ _ h => h) rfl ?_ ?_ ?_ ?_; rotate_left; (intro w'; go_simp; with_reducible rfl); rotate_left; (simp only [zs]; rfl)
                  refine zp 16 (zb 29 98303) ?_ rfl rfl HT_ (by kernel_rfl) (fun _ _ _ h => h) rfl ?_ ?_ ?_ ?_; rotate_left; (intro w'; go_simp; with_reducible rfl); rotate_left; (simp only [zs]; rfl)
                  refine zp 20 (zb 29 1146879) ?_ rfl rfl HT_ (by kernel_rfl) (fun _ _ _ h => h) rfl ?_ ?_ ?_ ?_; rotate_left; (intro w'; go_simp; with_reducible rfl); rotate_left; (simp only [zs]; rfl)
                  refine zp 22 (zb 29 5341183) ?_ rfl rfl HT_ (by kernel_rfl) (fun _ _ _ h => h) rfl ?_ ?_ ?_ ?_; rotate_left; (intro w'; go_simp; with_reducible rfl); rotate_left; (simp only [zs]; rfl)
                  refine zt 15 (zb 29 5373951) ?_ rfl rfl HT_ HW_ (by kernel_rfl) (fun _ _ _ h => h) rfl ?_ hHeld ?_ ?_ ?_; rotate_left; (rintro w' ⟨s0, s1, s2, s3, s4, s5, s6, s7, s8, s9, s10, s11⟩; go_simp; with_reducible rfl); rotate_left; (simp only [zs]; rfl)
                  refine zp 17 (zb 29 5505023) ?_ rfl rfl HT_ (by kernel_rfl) (fun _ _ _ h => h) rfl ?_ ?_ ?_ ?_; rotate_left; (intro w'; go_simp; with_reducible rfl); rotate_left; (simp only [zs]; rfl)
                  refine zp 18 (zb 29 5767167) ?_ rfl rfl HT_ (by kernel_rfl) (fun _ _ _ h => h) rfl ?_ ?_ ?_ ?_; rotate_left; (intro w'; go_simp; with_reducible rfl); rotate_left; (simp only [zs]; rfl)
                  refine zt 19 (zb 29 6291455) ?_ rfl rfl HT_ HW_ (by kernel_rfl) (fun _ _ _ h => h) rfl ?_ hHeld ?_ ?_ ?_; rotate_left; (rintro w' ⟨s0, s1, s2, s3, s4, s5, s6, s7, s8, s9, s10, s11⟩; go_simp; with_reducible rfl); rotate_left; (simp only [zs]; rfl)
                  refine zt 21 (zb 29 8388607) ?_ rfl rfl HT_ HW_ (by kernel_rfl) (fun _ _ _ h => h) rfl ?_ hHeld ?_ ?_ ?_; rotate_left; (rintro w' ⟨s0, s1, s2, s3, s4, s5, s6, s7, s8, s9, s10, s11⟩; go_simp; with_reducible rfl); rotate_left; (simp only [zs]; rfl)
                  refine zp 23 (zb 29 16777215) ?_ rfl rfl HT_ (by kernel_rfl) (fun _ _ _ h => h) rfl ?_ ?_ ?_ ?_; rotate_left; (intro w'; go_simp; with_reducible rfl); rotate_left; (simp only [zs]; rfl)
                  refine zp 24 (zb 29 33554431) ?_ rfl rfl HT_ (by kernel_rfl) (fun _ _ _ h => h) rfl ?_ ?_ ?_ ?_; rotate_left; (intro w'; go_simp; with_reducible rfl); rotate_left; (simp only [zs]; rfl)
                  refine zt 25 (zb 29 67108863) ?_ rfl rfl HT_ HW_ (by kernel_rfl) (fun _ _ _ h => h) rfl ?_ hHeld ?_ ?_ ?_; rotate_left; (rintro w' ⟨s0, s1, s2, s3, s4, s5, s6, s7, s8, s9, s10, s11⟩; go_simp; with_reducible rfl); rotate_left; (simp only [zs]; rfl)
                  refine one_ (i := 26) (N := some 54) #[true, true, true, true, true, true, true, true, true, true, true, true, true, true, true, true, true, true, true, true, true, true, true, true, true, true, true, false, false] rfl rfl (one_of HT_.out (by kernel_rfl)) (by decide) (fun K hK => ?_)
                  refine goes_ Try.func43 (by kernel_rfl) rfl #[.slice A122_1 ((rd_T59 l0_0 x5_2).f1).length c122_1, .slice A123_1 ((rd_T59 l1_0 x5_2).f1).length c123_1] (by rfl) rfl rfl (by (try simp only [List.map_toArray, List.map_cons, List.map_nil]); first | done | rfl | (simp only [List.length_drop, List.length_take]; rfl)) ?_
                  with_reducible refine (ih_ecdysisref19_SameVals k2 (by have := HJ2.out; have := HK2.out; omega) _ _ ((rd_T59 l0_0 x5_2).f1) _ _ ((rd_T59 l1_0 x5_2).f1) true _ ?side1 ?side2 ?side3 ?side4 A19.out).mono ?_
                  (case side1 => repeat (first | exact (Kd.C_below HR124_1.out HB.out) ))
                  (case side2 => exact HC124_1.out)
                  (case side3 => repeat (first | exact (Kd.C_below HR125_1.out HB.out) ))
                  (case side4 => exact HC125_1.out)
                  rintro e w24 ⟨rfl, hb⟩
                  refine ⟨_, rfl, ?_⟩
                  have n0_ := Aside0.mk (blk_below BK119.out hb)
                  have n1_ := Aside0.mk (blk_below BK120.out hb)
                  have n2_ := Aside0.mk (below_step HB.out hb)
                  clear BK119
                  clear BK120
                  clear HB
                  have BK119 := n0_
                  have BK120 := n1_
                  have HB := n2_
                  clear n0_ n1_ n2_
                  (try clear hb)
                  (try clear hb2)
                  (try clear hk)
                  (try clear hi)
                  refine hK.out _ _ ⟨(blk_cell BK119.out 0).trans rfl, (blk_cell BK119.out 1).trans rfl, (blk_cell BK120.out 0).trans rfl, (blk_cell BK120.out 1).trans rfl, ((HB.out.cell (World.block_lt_of_cell? w _ hw122_0)).trans hw122_0), ((HB.out.cell (World.block_lt_of_cell? w _ hw122_1)).trans hw122_1), ((HB.out.cell (World.block_lt_of_cell? w _ hw123_0)).trans hw123_0), ((HB.out.cell (World.block_lt_of_cell? w _ hw123_1)).trans hw123_1), ((HB.out.cell (World.block_lt_of_cell? w _ hw124_0)).trans hw124_0), ((HB.out.cell (World.block_lt_of_cell? w _ hw124_1)).trans hw124_1), ((HB.out.cell (World.block_lt_of_cell? w _ hw125_0)).trans hw125_0), ((HB.out.cell (World.block_lt_of_cell? w _ hw125_1)).trans hw125_1)⟩ (fun hHeld => ?_)
                  clear hK K
                  refine norm_ (a' := ?_) ?_ ?_
                  rotate_left
                  · show Act.put _ (some 54) _ = _
                    simp only [zs]
                    rfl
                  refine zp 27 (zb 29 268435455) ?_ rfl rfl HT_ (by kernel_rfl) (fun _ _ _ h => h) rfl ?_ ?_ ?_ ?_; rotate_left; (intro w'; go_simp; with_reducible rfl); rotate_left; (simp only [zs]; rfl)
                  refine zp 28 (zb 29 536870911) ?_ rfl rfl HT_ (by kernel_rfl) (fun _ _ _ h => h) rfl ?_ ?_ ?_ ?_; rotate_left; (intro w'; go_simp; with_reducible rfl); rotate_left; (simp only [zs]; rfl)
                  refine done_ (done_of HT_.out (by kernel_rfl)) ?_
                  try go_wp2
                  go_roundg k2
                  case measure => have := HJ2.out; have := HK2.out; omega
                  case rel => exact ⟨(wrap64 (x5_2 + 1)), (by first | rfl ), H', ⟨by have := HJ2.out; have := HK2.out; omega⟩, ⟨by exact BK119.out⟩, ⟨by exact BK120.out⟩, ⟨by exact HB.out⟩⟩
                · replace c20 := Bool.eq_false_iff.mpr c20
                  subst c20
                  have H1 : (some false) = some r := by rw [if_neg (show ¬ (false = true) by decide)] at H; exact H
                  clear H
                  have H := H1
                  clear H1
                  obtain rfl := Option.some.inj H
                  have hnb25 := NB119_120.out
                  have hnc25 := NB120_119.out
                  have hcz26_0 : wr.cell? ⟨gb119, 0, none⟩ = some (.slice A0_0 l0_0.length c0_0) := (blk_cell BK119.out 0).trans rfl
                  have hcz26_1 : wr.cell? ⟨gb119, 1, none⟩ = some (.slice A0_1 l0_1.length c0_1) := (blk_cell BK119.out 1).trans rfl
                  have hfz26_0 := blk_frozen BK119.out 0
                  have hfz26_1 := blk_frozen BK119.out 1
                  try go_wp2
                  have n0_ := Aside0.mk (blk_drew BK119.out)
                  have n1_ := Aside0.mk (blk_drew BK120.out)
                  have n2_ := Aside0.mk (below_drew1 HB.out)
                  clear BK119
                  clear BK120
                  clear HB
                  have BK119 := n0_
                  have BK120 := n1_
                  have HB := n2_
                  clear n0_ n1_ n2_
                  have p122 : 0 ≤ (x5_2 : Int) := of_decide_eq_true (by first | (with_reducible assumption) )
                  have q122 : x5_2 < (l0_0.length : Int) := of_decide_eq_true (by first | (with_reducible assumption) )
                  obtain ⟨ad122, A122_1, c122_1, e122, hx122_0, hx122_1, hl122_1, hi122_1⟩ := at_T59 HR0_0.out x5_2 p122 q122
                  have hw122_1 := hx122_1
                  have hw122_0 := hx122_0
                  cases e122
                  replace hx122_0 := (HB.out.cell (World.block_lt_of_cell? w _ hx122_0)).trans hx122_0
                  replace hx122_1 := (HB.out.cell (World.block_lt_of_cell? w _ hx122_1)).trans hx122_1
                  have HR122_1 := Aside0.mk hi122_1
                  have HC122_1 := Aside0.mk hl122_1
                  clear hi122_1 hl122_1
                  replace p122 := eq_true p122
                  replace q122 := eq_true q122
                  have p123 : 0 ≤ (x5_2 : Int) := of_decide_eq_true (by first | (with_reducible assumption) )
                  have q123 : x5_2 < (l1_0.length : Int) := of_decide_eq_true (by first | (with_reducible assumption) )
                  obtain ⟨ad123, A123_1, c123_1, e123, hx123_0, hx123_1, hl123_1, hi123_1⟩ := at_T59 HR1_0.out x5_2 p123 q123
                  have hw123_1 := hx123_1
                  have hw123_0 := hx123_0
                  cases e123
                  replace hx123_0 := (HB.out.cell (World.block_lt_of_cell? w _ hx123_0)).trans hx123_0
                  replace hx123_1 := (HB.out.cell (World.block_lt_of_cell? w _ hx123_1)).trans hx123_1
                  have HR123_1 := Aside0.mk hi123_1
                  have HC123_1 := Aside0.mk hl123_1
                  clear hi123_1 hl123_1
                  replace p123 := eq_true p123
                  replace q123 := eq_true q123
                  have p124 : 0 ≤ (x5_2 : Int) := of_decide_eq_true (by first | (with_reducible assumption) )
                  have q124 : x5_2 < (l0_0.length : Int) := of_decide_eq_true (by first | (with_reducible assumption) )
                  obtain ⟨ad124, A124_1, c124_1, e124, hx124_0, hx124_1, hl124_1, hi124_1⟩ := at_T59 HR0_0.out x5_2 p124 q124
                  have hw124_1 := hx124_1
                  have hw124_0 := hx124_0
                  obtain rfl : ad122 = ad124 := (by injection e124)
                  replace hx124_0 := (HB.out.cell (World.block_lt_of_cell? w _ hx124_0)).trans hx124_0
                  replace hx124_1 := (HB.out.cell (World.block_lt_of_cell? w _ hx124_1)).trans hx124_1
                  have HR124_1 := Aside0.mk hi124_1
                  have HC124_1 := Aside0.mk hl124_1
                  clear hi124_1 hl124_1
                  replace p124 := eq_true p124
                  replace q124 := eq_true q124
                  have ea_ := Option.some.inj (hx122_1.symm.trans hx124_1)
                  injection ea_ with ea_ en_ ec_
                  subst ea_
                  subst ec_
                  clear en_
                  have p125 : 0 ≤ (x5_2 : Int) := of_decide_eq_true (by first | (with_reducible assumption) )
                  have q125 : x5_2 < (l1_0.length : Int) := of_decide_eq_true (by first | (with_reducible assumption) )
                  obtain ⟨ad125, A125_1, c125_1, e125, hx125_0, hx125_1, hl125_1, hi125_1⟩ := at_T59 HR1_0.out x5_2 p125 q125
                  have hw125_1 := hx125_1
                  have hw125_0 := hx125_0
                  obtain rfl : ad123 = ad125 := (by injection e125)
                  replace hx125_0 := (HB.out.cell (World.block_lt_of_cell? w _ hx125_0)).trans hx125_0
                  replace hx125_1 := (HB.out.cell (World.block_lt_of_cell? w _ hx125_1)).trans hx125_1
                  have HR125_1 := Aside0.mk hi125_1
                  have HC125_1 := Aside0.mk hl125_1
                  clear hi125_1 hl125_1
                  replace p125 := eq_true p125
                  replace q125 := eq_true q125
                  have ea_ := Option.some.inj (hx123_1.symm.trans hx125_1)
                  injection ea_ with ea_ en_ ec_
                  subst ea_
                  subst ec_
                  clear en_
                  refine start_ (n := 29) (S := fun w' => w'.cell? ⟨gb119, 0, none⟩ = some (.slice (some ad122) l0_0.length c0_0) ∧ w'.cell? ⟨gb119, 1, none⟩ = some (.slice A0_1 l0_1.length c0_1) ∧ w'.cell? ⟨gb120, 0, none⟩ = some (.slice (some ad123) l1_0.length c1_0) ∧ w'.cell? ⟨gb120, 1, none⟩ = some (.slice A1_1 l1_1.length c1_1) ∧ w'.cell? (ad122.add ((x5_2).toNat * 2)) = some (.int .i64 ((rd_T59 l0_0 x5_2).f0)) ∧ w'.cell? ⟨(ad122.add ((x5_2).toNat * 2)).block, (ad122.add ((x5_2).toNat * 2)).off + 1, none⟩ = some (.slice A122_1 ((rd_T59 l0_0 x5_2).f1).length c122_1) ∧ w'.cell? (ad123.add ((x5_2).toNat * 2)) = some (.int .i64 ((rd_T59 l1_0 x5_2).f0)) ∧ w'.cell? ⟨(ad123.add ((x5_2).toNat * 2)).block, (ad123.add ((x5_2).toNat * 2)).off + 1, none⟩ = some (.slice A123_1 ((rd_T59 l1_0 x5_2).f1).length c123_1) ∧ w'.cell? (ad122.add ((x5_2).toNat * 2)) = some (.int .i64 ((rd_T59 l0_0 x5_2).f0)) ∧ w'.cell? ⟨(ad122.add ((x5_2).toNat * 2)).block, (ad122.add ((x5_2).toNat * 2)).off + 1, none⟩ = some (.slice A122_1 ((rd_T59 l0_0 x5_2).f1).length c122_1) ∧ w'.cell? (ad123.add ((x5_2).toNat * 2)) = some (.int .i64 ((rd_T59 l1_0 x5_2).f0)) ∧ w'.cell? ⟨(ad123.add ((x5_2).toNat * 2)).block, (ad123.add ((x5_2).toNat * 2)).off + 1, none⟩ = some (.slice A123_1 ((rd_T59 l1_0 x5_2).f1).length c123_1)) (ds := []) #[false, false, false, false, false, false, false, false, false, false, false, false, false, false, false, false, false, false, false, false, false, false, false, false, false, false, false, false, false] (by kernel_rfl) rfl rfl ⟨(blk_cell BK119.out 0).trans rfl, (blk_cell BK119.out 1).trans rfl, (blk_cell BK120.out 0).trans rfl, (blk_cell BK120.out 1).trans rfl, ((HB.out.cell (World.block_lt_of_cell? w _ hw122_0)).trans hw122_0), ((HB.out.cell (World.block_lt_of_cell? w _ hw122_1)).trans hw122_1), ((HB.out.cell (World.block_lt_of_cell? w _ hw123_0)).trans hw123_0), ((HB.out.cell (World.block_lt_of_cell? w _ hw123_1)).trans hw123_1), ((HB.out.cell (World.block_lt_of_cell? w _ hw124_0)).trans hw124_0), ((HB.out.cell (World.block_lt_of_cell? w _ hw124_1)).trans hw124_1), ((HB.out.cell (World.block_lt_of_cell? w _ hw125_0)).trans hw125_0), ((HB.out.cell (World.block_lt_of_cell? w _ hw125_1)).trans hw125_1)⟩ (fun hHeld => ?_); refine with_tabW ecdysisref19_Same.tab6 ecdysisref19_Same.bits6 (fun HT_ HW_ => ?_)
                  generalize wr.drew = w27 at BK119 BK120 HB HR122_1 HR123_1 HR124_1 HR125_1 hx122_0 hx122_1 hx123_0 hx123_1 hx124_0 hx124_1 hx125_0 hx125_1 hHeld ⊢
                  refine zp 0 (zb 29 1) ?_ rfl rfl HT_ (by kernel_rfl) (fun _ _ _ h => h) rfl ?_ ?_ ?_ ?_; rotate_left; (intro w'; go_simp; with_reducible rfl); rotate_left; (simp only [zs]; rfl)
                  refine zp 2 (zb 29 5) ?_ rfl rfl HT_ (by kernel_rfl) (fun _ _ _ h => h) rfl ?_ ?_ ?_ ?_; rotate_left; (intro w'; go_simp; with_reducible rfl); rotate_left; (simp only [zs]; rfl)
                  refine zp 6 (zb 29 69) ?_ rfl rfl HT_ (by kernel_rfl) (fun _ _ _ h => h) rfl ?_ ?_ ?_ ?_; rotate_left; (intro w'; go_simp; with_reducible rfl); rotate_left; (simp only [zs]; rfl)
                  refine zp 8 (zb 29 325) ?_ rfl rfl HT_ (by kernel_rfl) (fun _ _ _ h => h) rfl ?_ ?_ ?_ ?_; rotate_left; (intro w'; go_simp; with_reducible rfl); rotate_left; (simp only [zs]; rfl)
                  refine zt 1 (zb 29 327) ?_ rfl rfl HT_ HW_ (by kernel_rfl) (fun _ _ _ h => h) rfl ?_ hHeld ?_ ?_ ?_; rotate_left; (rintro w' ⟨s0, s1, s2, s3, s4, s5, s6, s7, s8, s9, s10, s11⟩; go_simp; with_reducible rfl); rotate_left; (simp only [zs]; rfl)
                  refine zp 3 (zb 29 335) ?_ rfl rfl HT_ (by kernel_rfl) (fun _ _ _ h => h) rfl ?_ ?_ ?_ ?_; rotate_left; (intro w'; go_simp; with_reducible rfl); rotate_left; (simp only [zs]; rfl)
                  refine zp 4 (zb 29 351) ?_ rfl rfl HT_ (by kernel_rfl) (fun _ _ _ h => h) rfl ?_ ?_ ?_ ?_; rotate_left; (intro w'; go_simp; with_reducible rfl); rotate_left; (simp only [zs]; rfl)
                  refine zt 5 (zb 29 383) ?_ rfl rfl HT_ HW_ (by kernel_rfl) (fun _ _ _ h => h) rfl ?_ hHeld ?_ ?_ ?_; rotate_left; (rintro w' ⟨s0, s1, s2, s3, s4, s5, s6, s7, s8, s9, s10, s11⟩; go_simp; with_reducible rfl); rotate_left; (simp only [zs]; rfl)
                  refine zt 7 (zb 29 511) ?_ rfl rfl HT_ HW_ (by kernel_rfl) (fun _ _ _ h => h) rfl ?_ hHeld ?_ ?_ ?_; rotate_left; (rintro w' ⟨s0, s1, s2, s3, s4, s5, s6, s7, s8, s9, s10, s11⟩; go_simp; with_reducible rfl); rotate_left; (simp only [zs]; rfl)
                  refine zp 9 (zb 29 1023) ?_ rfl rfl HT_ (by kernel_rfl) (fun _ _ _ h => h) rfl ?_ ?_ ?_ ?_; rotate_left; (intro w'; go_simp; with_reducible rfl); rotate_left; (simp only [zs]; rfl)
                  refine zp 10 (zb 29 2047) ?_ rfl rfl HT_ (by kernel_rfl) (fun _ _ _ h => h) rfl ?_ ?_ ?_ ?_; rotate_left; (intro w'; go_simp; with_reducible rfl); rotate_left; (simp only [zs]; rfl)
                  refine zt 11 (zb 29 4095) ?_ rfl rfl HT_ HW_ (by kernel_rfl) (fun _ _ _ h => h) rfl ?_ hHeld ?_ ?_ ?_; rotate_left; (rintro w' ⟨s0, s1, s2, s3, s4, s5, s6, s7, s8, s9, s10, s11⟩; go_simp; with_reducible rfl); rotate_left; (simp only [zs]; rfl)
                  refine zp 12 (zb 29 8191) ?_ rfl rfl HT_ (by kernel_rfl) (fun _ _ _ h => h) rfl ?_ ?_ ?_ ?_; rotate_left; (intro w'; go_simp; with_reducible rfl); rotate_left; (simp only [zs]; rfl)
                  refine zp 13 (zb 29 16383) ?_ rfl rfl HT_ (by kernel_rfl) (fun _ _ _ h => h) rfl ?_ ?_ ?_ ?_; rotate_left; (intro w'; go_simp; with_reducible rfl); rotate_left; (simp only [zs]; rfl)
                  refine zp 14 (zb 29 32767) ?_ rfl rfl HT_ (by kernel_rfl) (fun _ _ _ h => h) rfl ?_ ?_ ?_ ?_; rotate_left; (intro w'; go_simp; with_reducible rfl); rotate_left; (simp only [zs]; rfl)
                  refine zp 16 (zb 29 98303) ?_ rfl rfl HT_ (by kernel_rfl) (fun _ _ _ h => h) rfl ?_ ?_ ?_ ?_; rotate_left; (intro w'; go_simp; with_reducible rfl); rotate_left; (simp only [zs]; rfl)
                  refine zp 20 (zb 29 1146879) ?_ rfl rfl HT_ (by kernel_rfl) (fun _ _ _ h => h) rfl ?_ ?_ ?_ ?_; rotate_left; (intro w'; go_simp; with_reducible rfl); rotate_left; (simp only [zs]; rfl)
                  refine zp 22 (zb 29 5341183) ?_ rfl rfl HT_ (by kernel_rfl) (fun _ _ _ h => h) rfl ?_ ?_ ?_ ?_; rotate_left; (intro w'; go_simp; with_reducible rfl); rotate_left; (simp only [zs]; rfl)
                  refine zt 15 (zb 29 5373951) ?_ rfl rfl HT_ HW_ (by kernel_rfl) (fun _ _ _ h => h) rfl ?_ hHeld ?_ ?_ ?_; rotate_left; (rintro w' ⟨s0, s1, s2, s3, s4, s5, s6, s7, s8, s9, s10, s11⟩; go_simp; with_reducible rfl); rotate_left; (simp only [zs]; rfl)
                  refine zp 17 (zb 29 5505023) ?_ rfl rfl HT_ (by kernel_rfl) (fun _ _ _ h => h) rfl ?_ ?_ ?_ ?_; rotate_left; (intro w'; go_simp; with_reducible rfl); rotate_left; (simp only [zs]; rfl)
                  refine zp 18 (zb 29 5767167) ?_ rfl rfl HT_ (by kernel_rfl) (fun _ _ _ h => h) rfl ?_ ?_ ?_ ?_; rotate_left; (intro w'; go_simp; with_reducible rfl); rotate_left; (simp only [zs]; rfl)
                  refine zt 19 (zb 29 6291455) ?_ rfl rfl HT_ HW_ (by kernel_rfl) (fun _ _ _ h => h) rfl ?_ hHeld ?_ ?_ ?_; rotate_left; (rintro w' ⟨s0, s1, s2, s3, s4, s5, s6, s7, s8, s9, s10, s11⟩; go_simp; with_reducible rfl); rotate_left; (simp only [zs]; rfl)
                  refine zt 21 (zb 29 8388607) ?_ rfl rfl HT_ HW_ (by kernel_rfl) (fun _ _ _ h => h) rfl ?_ hHeld ?_ ?_ ?_; rotate_left; (rintro w' ⟨s0, s1, s2, s3, s4, s5, s6, s7, s8, s9, s10, s11⟩; go_simp; with_reducible rfl); rotate_left; (simp only [zs]; rfl)
                  refine zp 23 (zb 29 16777215) ?_ rfl rfl HT_ (by kernel_rfl) (fun _ _ _ h => h) rfl ?_ ?_ ?_ ?_; rotate_left; (intro w'; go_simp; with_reducible rfl); rotate_left; (simp only [zs]; rfl)
                  refine zp 24 (zb 29 33554431) ?_ rfl rfl HT_ (by kernel_rfl) (fun _ _ _ h => h) rfl ?_ ?_ ?_ ?_; rotate_left; (intro w'; go_simp; with_reducible rfl); rotate_left; (simp only [zs]; rfl)
                  refine zt 25 (zb 29 67108863) ?_ rfl rfl HT_ HW_ (by kernel_rfl) (fun _ _ _ h => h) rfl ?_ hHeld ?_ ?_ ?_; rotate_left; (rintro w' ⟨s0, s1, s2, s3, s4, s5, s6, s7, s8, s9, s10, s11⟩; go_simp; with_reducible rfl); rotate_left; (simp only [zs]; rfl)
                  refine one_ (i := 26) (N := some 54) #[true, true, true, true, true, true, true, true, true, true, true, true, true, true, true, true, true, true, true, true, true, true, true, true, true, true, true, false, false] rfl rfl (one_of HT_.out (by kernel_rfl)) (by decide) (fun K hK => ?_)
                  refine goes_ Try.func43 (by kernel_rfl) rfl #[.slice A122_1 ((rd_T59 l0_0 x5_2).f1).length c122_1, .slice A123_1 ((rd_T59 l1_0 x5_2).f1).length c123_1] (by rfl) rfl rfl (by (try simp only [List.map_toArray, List.map_cons, List.map_nil]); first | done | rfl | (simp only [List.length_drop, List.length_take]; rfl)) ?_
                  with_reducible refine (ih_ecdysisref19_SameVals k2 (by have := HJ2.out; have := HK2.out; omega) _ _ ((rd_T59 l0_0 x5_2).f1) _ _ ((rd_T59 l1_0 x5_2).f1) false _ ?side1 ?side2 ?side3 ?side4 A19.out).mono ?_
                  (case side1 => repeat (first | exact (Kd.C_below HR124_1.out HB.out) ))
                  (case side2 => exact HC124_1.out)
                  (case side3 => repeat (first | exact (Kd.C_below HR125_1.out HB.out) ))
                  (case side4 => exact HC125_1.out)
                  rintro e w28 ⟨rfl, hb⟩
                  refine ⟨_, rfl, ?_⟩
                  have n0_ := Aside0.mk (blk_below BK119.out hb)
                  have n1_ := Aside0.mk (blk_below BK120.out hb)
                  have n2_ := Aside0.mk (below_step HB.out hb)
                  clear BK119
                  clear BK120
                  clear HB
                  have BK119 := n0_
                  have BK120 := n1_
                  have HB := n2_
                  clear n0_ n1_ n2_
                  (try clear hb)
                  (try clear hb2)
                  (try clear hk)
                  (try clear hi)
                  refine hK.out _ _ ⟨(blk_cell BK119.out 0).trans rfl, (blk_cell BK119.out 1).trans rfl, (blk_cell BK120.out 0).trans rfl, (blk_cell BK120.out 1).trans rfl, ((HB.out.cell (World.block_lt_of_cell? w _ hw122_0)).trans hw122_0), ((HB.out.cell (World.block_lt_of_cell? w _ hw122_1)).trans hw122_1), ((HB.out.cell (World.block_lt_of_cell? w _ hw123_0)).trans hw123_0), ((HB.out.cell (World.block_lt_of_cell? w _ hw123_1)).trans hw123_1), ((HB.out.cell (World.block_lt_of_cell? w _ hw124_0)).trans hw124_0), ((HB.out.cell (World.block_lt_of_cell? w _ hw124_1)).trans hw124_1), ((HB.out.cell (World.block_lt_of_cell? w _ hw125_0)).trans hw125_0), ((HB.out.cell (World.block_lt_of_cell? w _ hw125_1)).trans hw125_1)⟩ (fun hHeld => ?_)
                  clear hK K
                  refine norm_ (a' := ?_) ?_ ?_
                  rotate_left
                  · show Act.put _ (some 54) _ = _
                    simp only [zs]
                    rfl
                  refine zp 27 (zb 29 268435455) ?_ rfl rfl HT_ (by kernel_rfl) (fun _ _ _ h => h) rfl ?_ ?_ ?_ ?_; rotate_left; (intro w'; go_simp; with_reducible rfl); rotate_left; (simp only [zs]; rfl)
                  refine zp 28 (zb 29 536870911) ?_ rfl rfl HT_ (by kernel_rfl) (fun _ _ _ h => h) rfl ?_ ?_ ?_ ?_; rotate_left; (intro w'; go_simp; with_reducible rfl); rotate_left; (simp only [zs]; rfl)
                  refine done_ (done_of HT_.out (by kernel_rfl)) ?_
                  try go_wp2
                  go_ret
                  exact ⟨by first | rfl , by exact HB.out⟩
              · rw [if_neg c18] at H
                have c18b0 : (((rd_T59 l0_0 x5_2).f0) == ((rd_T59 l1_0 x5_2).f0)) = false := beq_eq_false_iff_ne.mpr c18
                have c18b1 : (((rd_T59 l0_0 x5_2).f0) != ((rd_T59 l1_0 x5_2).f0)) = true := bne_iff_ne.mpr c18
                obtain rfl := Option.some.inj H
                have hnb29 := NB119_120.out
                have hnc29 := NB120_119.out
                have hcz30_0 : wr.cell? ⟨gb119, 0, none⟩ = some (.slice A0_0 l0_0.length c0_0) := (blk_cell BK119.out 0).trans rfl
                have hcz30_1 : wr.cell? ⟨gb119, 1, none⟩ = some (.slice A0_1 l0_1.length c0_1) := (blk_cell BK119.out 1).trans rfl
                have hfz30_0 := blk_frozen BK119.out 0
                have hfz30_1 := blk_frozen BK119.out 1
                try go_wp2
                have n0_ := Aside0.mk (blk_drew BK119.out)
                have n1_ := Aside0.mk (blk_drew BK120.out)
                have n2_ := Aside0.mk (below_drew1 HB.out)
                clear BK119
                clear BK120
                clear HB
                have BK119 := n0_
                have BK120 := n1_
                have HB := n2_
                clear n0_ n1_ n2_
                have p122 : 0 ≤ (x5_2 : Int) := of_decide_eq_true (by first | (with_reducible assumption) )
                have q122 : x5_2 < (l0_0.length : Int) := of_decide_eq_true (by first | (with_reducible assumption) )
                obtain ⟨ad122, A122_1, c122_1, e122, hx122_0, hx122_1, hl122_1, hi122_1⟩ := at_T59 HR0_0.out x5_2 p122 q122
                have hw122_1 := hx122_1
                have hw122_0 := hx122_0
                cases e122
                replace hx122_0 := (HB.out.cell (World.block_lt_of_cell? w _ hx122_0)).trans hx122_0
                replace hx122_1 := (HB.out.cell (World.block_lt_of_cell? w _ hx122_1)).trans hx122_1
                have HR122_1 := Aside0.mk hi122_1
                have HC122_1 := Aside0.mk hl122_1
                clear hi122_1 hl122_1
                replace p122 := eq_true p122
                replace q122 := eq_true q122
                have p123 : 0 ≤ (x5_2 : Int) := of_decide_eq_true (by first | (with_reducible assumption) )
                have q123 : x5_2 < (l1_0.length : Int) := of_decide_eq_true (by first | (with_reducible assumption) )
                obtain ⟨ad123, A123_1, c123_1, e123, hx123_0, hx123_1, hl123_1, hi123_1⟩ := at_T59 HR1_0.out x5_2 p123 q123
                have hw123_1 := hx123_1
                have hw123_0 := hx123_0
                cases e123
                replace hx123_0 := (HB.out.cell (World.block_lt_of_cell? w _ hx123_0)).trans hx123_0
                replace hx123_1 := (HB.out.cell (World.block_lt_of_cell? w _ hx123_1)).trans hx123_1
                have HR123_1 := Aside0.mk hi123_1
                have HC123_1 := Aside0.mk hl123_1
                clear hi123_1 hl123_1
                replace p123 := eq_true p123
                replace q123 := eq_true q123
                refine start_ (n := 29) (S := fun w' => w'.cell? ⟨gb119, 0, none⟩ = some (.slice (some ad122) l0_0.length c0_0) ∧ w'.cell? ⟨gb119, 1, none⟩ = some (.slice A0_1 l0_1.length c0_1) ∧ w'.cell? ⟨gb120, 0, none⟩ = some (.slice (some ad123) l1_0.length c1_0) ∧ w'.cell? ⟨gb120, 1, none⟩ = some (.slice A1_1 l1_1.length c1_1) ∧ w'.cell? (ad122.add ((x5_2).toNat * 2)) = some (.int .i64 ((rd_T59 l0_0 x5_2).f0)) ∧ w'.cell? ⟨(ad122.add ((x5_2).toNat * 2)).block, (ad122.add ((x5_2).toNat * 2)).off + 1, none⟩ = some (.slice A122_1 ((rd_T59 l0_0 x5_2).f1).length c122_1) ∧ w'.cell? (ad123.add ((x5_2).toNat * 2)) = some (.int .i64 ((rd_T59 l1_0 x5_2).f0)) ∧ w'.cell? ⟨(ad123.add ((x5_2).toNat * 2)).block, (ad123.add ((x5_2).toNat * 2)).off + 1, none⟩ = some (.slice A123_1 ((rd_T59 l1_0 x5_2).f1).length c123_1)) (ds := []) #[false, false, false, false, false, false, false, false, false, false, false, false, false, false, false, false, false, false, false, false, false, false, false, false, false, false, false, false, false] (by kernel_rfl) rfl rfl ⟨(blk_cell BK119.out 0).trans rfl, (blk_cell BK119.out 1).trans rfl, (blk_cell BK120.out 0).trans rfl, (blk_cell BK120.out 1).trans rfl, ((HB.out.cell (World.block_lt_of_cell? w _ hw122_0)).trans hw122_0), ((HB.out.cell (World.block_lt_of_cell? w _ hw122_1)).trans hw122_1), ((HB.out.cell (World.block_lt_of_cell? w _ hw123_0)).trans hw123_0), ((HB.out.cell (World.block_lt_of_cell? w _ hw123_1)).trans hw123_1)⟩ (fun hHeld => ?_); refine with_tabW ecdysisref19_Same.tab6 ecdysisref19_Same.bits6 (fun HT_ HW_ => ?_)
                generalize wr.drew = w31 at BK119 BK120 HB HR122_1 HR123_1 hx122_0 hx122_1 hx123_0 hx123_1 hHeld ⊢
                refine zp 0 (zb 29 1) ?_ rfl rfl HT_ (by kernel_rfl) (fun _ _ _ h => h) rfl ?_ ?_ ?_ ?_; rotate_left; (intro w'; go_simp; with_reducible rfl); rotate_left; (simp only [zs]; rfl)
                refine zp 2 (zb 29 5) ?_ rfl rfl HT_ (by kernel_rfl) (fun _ _ _ h => h) rfl ?_ ?_ ?_ ?_; rotate_left; (intro w'; go_simp; with_reducible rfl); rotate_left; (simp only [zs]; rfl)
                refine zp 6 (zb 29 69) ?_ rfl rfl HT_ (by kernel_rfl) (fun _ _ _ h => h) rfl ?_ ?_ ?_ ?_; rotate_left; (intro w'; go_simp; with_reducible rfl); rotate_left; (simp only [zs]; rfl)
                refine zp 8 (zb 29 325) ?_ rfl rfl HT_ (by kernel_rfl) (fun _ _ _ h => h) rfl ?_ ?_ ?_ ?_; rotate_left; (intro w'; go_simp; with_reducible rfl); rotate_left; (simp only [zs]; rfl)
                refine zt 1 (zb 29 327) ?_ rfl rfl HT_ HW_ (by kernel_rfl) (fun _ _ _ h => h) rfl ?_ hHeld ?_ ?_ ?_; rotate_left; (rintro w' ⟨s0, s1, s2, s3, s4, s5, s6, s7⟩; go_simp; with_reducible rfl); rotate_left; (simp only [zs]; rfl)
                refine zp 3 (zb 29 335) ?_ rfl rfl HT_ (by kernel_rfl) (fun _ _ _ h => h) rfl ?_ ?_ ?_ ?_; rotate_left; (intro w'; go_simp; with_reducible rfl); rotate_left; (simp only [zs]; rfl)
                refine zp 4 (zb 29 351) ?_ rfl rfl HT_ (by kernel_rfl) (fun _ _ _ h => h) rfl ?_ ?_ ?_ ?_; rotate_left; (intro w'; go_simp; with_reducible rfl); rotate_left; (simp only [zs]; rfl)
                refine zt 5 (zb 29 383) ?_ rfl rfl HT_ HW_ (by kernel_rfl) (fun _ _ _ h => h) rfl ?_ hHeld ?_ ?_ ?_; rotate_left; (rintro w' ⟨s0, s1, s2, s3, s4, s5, s6, s7⟩; go_simp; with_reducible rfl); rotate_left; (simp only [zs]; rfl)
                refine zt 7 (zb 29 511) ?_ rfl rfl HT_ HW_ (by kernel_rfl) (fun _ _ _ h => h) rfl ?_ hHeld ?_ ?_ ?_; rotate_left; (rintro w' ⟨s0, s1, s2, s3, s4, s5, s6, s7⟩; go_simp; with_reducible rfl); rotate_left; (simp only [zs]; rfl)
                refine zp 9 (zb 29 1023) ?_ rfl rfl HT_ (by kernel_rfl) (fun _ _ _ h => h) rfl ?_ ?_ ?_ ?_; rotate_left; (intro w'; go_simp; with_reducible rfl); rotate_left; (simp only [zs]; rfl)
                refine zp 10 (zb 29 2047) ?_ rfl rfl HT_ (by kernel_rfl) (fun _ _ _ h => h) rfl ?_ ?_ ?_ ?_; rotate_left; (intro w'; go_simp; with_reducible rfl); rotate_left; (simp only [zs]; rfl)
                refine zt 11 (zb 29 4095) ?_ rfl rfl HT_ HW_ (by kernel_rfl) (fun _ _ _ h => h) rfl ?_ hHeld ?_ ?_ ?_; rotate_left; (rintro w' ⟨s0, s1, s2, s3, s4, s5, s6, s7⟩; go_simp; with_reducible rfl); rotate_left; (simp only [zs]; rfl)
                refine zp 12 (zb 29 8191) ?_ rfl rfl HT_ (by kernel_rfl) (fun _ _ _ h => h) rfl ?_ ?_ ?_ ?_; rotate_left; (intro w'; go_simp; with_reducible rfl); rotate_left; (simp only [zs]; rfl)
                refine zp 13 (zb 29 16383) ?_ rfl rfl HT_ (by kernel_rfl) (fun _ _ _ h => h) rfl ?_ ?_ ?_ ?_; rotate_left; (intro w'; go_simp; with_reducible rfl); rotate_left; (simp only [zs]; rfl)
                refine zn 14 (zb 29 32767) rfl rfl HT_ (by kernel_rfl) (fun _ _ _ h => h) rfl ?_ ?_ ?_; rotate_left; (simp only [zs]; rfl)
                refine zn 15 (zb 29 65535) rfl rfl HT_ (by kernel_rfl) (fun _ _ _ h => h) rfl ?_ ?_ ?_; rotate_left; (simp only [zs]; rfl)
                refine zn 16 (zb 29 131071) rfl rfl HT_ (by kernel_rfl) (fun _ _ _ h => h) rfl ?_ ?_ ?_; rotate_left; (simp only [zs]; rfl)
                refine zn 17 (zb 29 262143) rfl rfl HT_ (by kernel_rfl) (fun _ _ _ h => h) rfl ?_ ?_ ?_; rotate_left; (simp only [zs]; rfl)
                refine zn 18 (zb 29 524287) rfl rfl HT_ (by kernel_rfl) (fun _ _ _ h => h) rfl ?_ ?_ ?_; rotate_left; (simp only [zs]; rfl)
                refine zn 19 (zb 29 1048575) rfl rfl HT_ (by kernel_rfl) (fun _ _ _ h => h) rfl ?_ ?_ ?_; rotate_left; (simp only [zs]; rfl)
                refine zn 20 (zb 29 2097151) rfl rfl HT_ (by kernel_rfl) (fun _ _ _ h => h) rfl ?_ ?_ ?_; rotate_left; (simp only [zs]; rfl)
                refine zn 21 (zb 29 4194303) rfl rfl HT_ (by kernel_rfl) (fun _ _ _ h => h) rfl ?_ ?_ ?_; rotate_left; (simp only [zs]; rfl)
                refine zn 22 (zb 29 8388607) rfl rfl HT_ (by kernel_rfl) (fun _ _ _ h => h) rfl ?_ ?_ ?_; rotate_left; (simp only [zs]; rfl)
                refine zn 23 (zb 29 16777215) rfl rfl HT_ (by kernel_rfl) (fun _ _ _ h => h) rfl ?_ ?_ ?_; rotate_left; (simp only [zs]; rfl)
                refine zn 24 (zb 29 33554431) rfl rfl HT_ (by kernel_rfl) (fun _ _ _ h => h) rfl ?_ ?_ ?_; rotate_left; (simp only [zs]; rfl)
                refine zn 25 (zb 29 67108863) rfl rfl HT_ (by kernel_rfl) (fun _ _ _ h => h) rfl ?_ ?_ ?_; rotate_left; (simp only [zs]; rfl)
                refine zn 26 (zb 29 134217727) rfl rfl HT_ (by kernel_rfl) (fun _ _ _ h => h) rfl ?_ ?_ ?_; rotate_left; (simp only [zs]; rfl)
                refine zn 27 (zb 29 268435455) rfl rfl HT_ (by kernel_rfl) (fun _ _ _ h => h) rfl ?_ ?_ ?_; rotate_left; (simp only [zs]; rfl)
                refine zp 28 (zb 29 536870911) ?_ rfl rfl HT_ (by kernel_rfl) (fun _ _ _ h => h) rfl ?_ ?_ ?_ ?_; rotate_left; (intro w'; go_simp; with_reducible rfl); rotate_left; (simp only [zs]; rfl)
                refine done_ (done_of HT_.out (by kernel_rfl)) ?_
                try go_wp2
                go_ret
                exact ⟨by first | rfl , by exact HB.out⟩
            · rw [if_neg c17] at H
              exact absurd H (by simp)
          · rw [if_neg c16] at H
            exact absurd H (by simp)
        · rw [if_neg c15] at H
          have c15b0 : decide (x5_2 < (l0_0.length : Int)) = false := decide_eq_false c15
          clear c15
          obtain rfl := Option.some.inj H
          have hnb32 := NB119_120.out
          have hnc32 := NB120_119.out
          have hcz33_0 : wr.cell? ⟨gb119, 0, none⟩ = some (.slice A0_0 l0_0.length c0_0) := (blk_cell BK119.out 0).trans rfl
          have hcz33_1 : wr.cell? ⟨gb119, 1, none⟩ = some (.slice A0_1 l0_1.length c0_1) := (blk_cell BK119.out 1).trans rfl
          have hfz33_0 := blk_frozen BK119.out 0
          have hfz33_1 := blk_frozen BK119.out 1
          go_wp2
          go_ret
          exact ⟨by first | rfl , by exact HB.out⟩
end Go.Proofs.Ytbpnfpckoapdbaa.PT19
end
section
namespace Go.Proofs.Ytbpnfpckoapdbaa.PT19
open Go.RowKit Go.Proofs.Ytbpnfpckoapdbaa.M Go.Proofs.Ytbpnfpckoapdbaa.KD Go.Proofs.Ytbpnfpckoapdbaa Go.Proofs.YtbpnfpckoapdbaaW.PrintWords Go.Proofs.YtbpnfpckoapdbaaW.PrintLast Go.Proofs.YtbpnfpckoapdbaaW.PrintMore
attribute [local go_sem] max2_int min2_int max_two min_two max_three min_three max_four min_four   -- for this text's walks alone
set_option linter.unusedVariables false
set_option linter.unusedSimpArgs false
def ecdysisref19_SameVals.T6 : Bool × List (List Nat × List Nat) := (true, [([], []), ([], []), ([0, 1], [0, 1]), ([2], [2]), ([3], [3]), ([], []), ([], []), ([5, 6], [5, 6]), ([7], [7]), ([8], [8]), ([4, 9], [4, 9]), ([10], [10]), ([11], [11]), ([11], [11]), ([12, 13, 11], [11, 12, 13]), ([14, 11], [11, 14]), ([15, 11], [11, 15]), ([11], [11]), ([11], [11]), ([17, 18, 11], [11, 17, 18]), ([19, 11], [11, 19]), ([20, 11], [11, 20]), ([16, 21, 11], [11, 16, 21]), ([11, 22], [11, 22]), ([23, 11], [23]), ([24], [24]), ([24], [24]), ([25, 26, 24], [24, 25, 26]), ([27, 24], [24, 27]), ([28, 24], [24, 28]), ([29, 24], [24, 29]), ([24], [24]), ([24], [24]), ([31, 32, 24], [24, 31, 32]), ([33, 24], [24, 33]), ([34, 24], [24, 34]), ([35, 24], [24, 35]), ([30, 36, 24], [24, 30, 36]), ([24, 37], [24, 37])])
def ecdysisref19_SameVals.B6 : List Nat := [0, 0, 3, 7, 15, 0, 0, 96, 224, 480, 1023, 2047, 4095, 4095, 16383, 32767, 65535, 4095, 4095, 397311, 921599, 1970175, 4194303, 8388607, 16777215, 33554431, 33554431, 134217727, 268435455, 536870911, 1073741823, 33554431, 33554431, 6476005375, 15065939967, 32245809151, 66605547519, 137438953471, 274877906943]
theorem ecdysisref19_SameVals.tab6 : rtab .any (opsOf Try.f43 6) = ecdysisref19_SameVals.T6 := by kernel_rfl
theorem ecdysisref19_SameVals.bits6 : waitsOk ecdysisref19_SameVals.T6.2 ecdysisref19_SameVals.B6 = true := by kernel_rfl
def ecdysisref19_SameVals.T11 : Bool × List (List Nat × List Nat) := (true, [([], []), ([], []), ([0, 1], [0, 1]), ([2], [2]), ([3], [3]), ([], []), ([4, 5], [4, 5]), ([6], [6]), ([], []), ([], []), ([8, 9], [8, 9]), ([10], [10]), ([11], [11]), ([], []), ([12, 13], [12, 13]), ([14], [14]), ([7, 15], [7, 15]), ([16], [16])])
def ecdysisref19_SameVals.B11 : List Nat := [0, 0, 3, 7, 15, 0, 63, 127, 0, 0, 768, 1792, 3840, 0, 16128, 32512, 65535, 131071]
theorem ecdysisref19_SameVals.tab11 : rtab .any (opsOf Try.f43 11) = ecdysisref19_SameVals.T11 := by kernel_rfl
theorem ecdysisref19_SameVals.bits11 : waitsOk ecdysisref19_SameVals.T11.2 ecdysisref19_SameVals.B11 = true := by kernel_rfl
set_option maxHeartbeats 8000000 in
set_option maxRecDepth 100000 in
theorem ecdysisref19_SameVals.callsR (k : Nat) (ih_ecdysisref19_Same : ∀ k_, k_ < k → ∀ (A0_0 : Option Addr) (c0_0 : Nat) (l0_0 : List (S59)) (A0_1 : Option Addr) (c0_1 : Nat) (l0_1 : List (S73)) (A1_0 : Option Addr) (c1_0 : Nat) (l1_0 : List (S59)) (A1_1 : Option Addr) (c1_1 : Nat) (l1_1 : List (S73)) (r : Bool) (w : World) (hr0_0 : Kd.C k59 w A0_0 l0_0.length l0_0) (hc0_0 : l0_0.length ≤ c0_0) (hr0_1 : Kd.C k73 w A0_1 l0_1.length l0_1) (hc0_1 : l0_1.length ≤ c0_1) (hr1_0 : Kd.C k59 w A1_0 l1_0.length l1_0) (hc1_0 : l1_0.length ≤ c1_0) (hr1_1 : Kd.C k73 w A1_1 l1_1.length l1_1) (hc1_1 : l1_1.length ≤ c1_1) (h_ : ecdysisref19_Same.f k_ l0_0 l0_1 l1_0 l1_1 = some r), Calls Try.prog 14 #[.agg #[.slice A0_0 l0_0.length c0_0, .slice A0_1 l0_1.length c0_1], .agg #[.slice A1_0 l1_0.length c1_0, .slice A1_1 l1_1.length c1_1]] w fun e w' => e = .returned (.bool r) ∧ Below w.heap.size w w') (ih_ecdysisref19_SameVals : ∀ k_, k_ < k → ∀ (A0 : Option Addr) (c0 : Nat) (l0 : List (S70)) (A1 : Option Addr) (c1 : Nat) (l1 : List (S70)) (r : Bool) (w : World) (hr0 : Kd.C k70 w A0 l0.length l0) (hc0 : l0.length ≤ c0) (hr1 : Kd.C k70 w A1 l1.length l1) (hc1 : l1.length ≤ c1) (h_ : ecdysisref19_SameVals.f k_ l0 l1 = some r), Calls Try.prog 43 #[.slice A0 l0.length c0, .slice A1 l1.length c1] w fun e w' => e = .returned (.bool r) ∧ Below w.heap.size w w') : ∀ (A0 : Option Addr) (c0 : Nat) (l0 : List (S70)) (A1 : Option Addr) (c1 : Nat) (l1 : List (S70)) (r : Bool) (w : World) (hr0 : Kd.C k70 w A0 l0.length l0) (hc0 : l0.length ≤ c0) (hr1 : Kd.C k70 w A1 l1.length l1) (hc1 : l1.length ≤ c1) (h : ecdysisref19_SameVals.f k l0 l1 = some r),
   Calls Try.prog 43 #[.slice A0 l0.length c0, .slice A1 l1.length c1] w fun e w' => e = .returned (.bool r) ∧ Below w.heap.size w w' := by
 intro A0 c0 l0 A1 c1 l1 r w hr0 hc0 hr1 hc1 h
 cases k with
 | zero => exact absurd h (by simp [ecdysisref19_SameVals.f])
 | succ k =>
 simp only [ecdysisref19_SameVals.f] at h
 have hu25 := Try.underlying25
 have HR0 := Aside0.mk hr0
 have HC0 := Aside0.mk hc0
 clear hr0 hc0
 have HR1 := Aside0.mk hr1
 have HC1 := Aside0.mk hc1
 clear hr1 hc1
 have HB := Aside0.mk (Below.refl w.heap.size w)
 have H : (if (l0.length : Int) = (l1.length : Int) then (ecdysisref19_SameVals.l0 k l0 l1 0) else (some false)) = some r := h
 clear h
 by_cases c3 : (l0.length : Int) = (l1.length : Int)
 · rw [if_pos c3] at H
   have c3b0 : ((l0.length : Int) == (l1.length : Int)) = true := beq_iff_eq.mpr c3
   have c3b1 : ((l0.length : Int) != (l1.length : Int)) = false := bne_eq_false_iff_eq.mpr c3
   have c3b2 : (l0.length == l1.length) = true := by first | (simp at c3 ⊢; omega)
   clear c3
   have H' := Aside0.mk H
   clear H
   go_enter Try.func43, Try.ntmps43
   go_wp2
   go_loopg [5] k (fun kq v5 w' => ∃ (x5_1 : Int), v5 = .int .i64 x5_1 ∧ Aside0 (ecdysisref19_SameVals.l0 kq l0 l1 x5_1 = some r) ∧ Aside0 (kq ≤ k) ∧ Aside0 (Below w.heap.size w w'))
   case atStart => exact ⟨(0), (by first | rfl ), H', ⟨Nat.le_refl _⟩, ⟨by exact HB.out⟩⟩
   case round =>
    clear H'
    try clear c1
    try clear p2
    try clear c3
    try clear c3b0
    try clear c3b1
    try clear c3b2
    obtain ⟨x5_1, rfl, HA, HK1, HB⟩ := hrel
    cases gk with
    | zero => exact absurd HA.out (by simp [ecdysisref19_SameVals.l0])
    | succ k1 =>
     have H := HA.out
     clear HA
     simp only [ecdysisref19_SameVals.l0] at H
     by_cases c4 : x5_1 < (l0.length : Int)
     · rw [if_pos c4] at H
       have c4b0 : decide (x5_1 < (l0.length : Int)) = true := decide_eq_true c4
       clear c4
       have HC5 := Aside0.mk H
       clear H
       go_upto_region 6 with (fail)
       go_cut [56] (fun v56 wc => ∃ (kq : Nat) (x56_4 : Bool), v56 = .bool x56_4 ∧ Aside0 (ecdysisref19_SameVals.j1 kq l0 l1 x5_1 x56_4 = some r) ∧ Aside0 (kq ≤ k1) ∧ Aside0 (Below w.heap.size w wc))
       case first =>
        have H := HC5.out
        clear HC5
        by_cases c6 : 0 ≤ x5_1
        · rw [if_pos c6] at H
          have c6b0 : decide (0 ≤ x5_1) = true := decide_eq_true c6
          clear c6
          (first | skip)
          by_cases c7 : x5_1 < (l1.length : Int)
          · rw [if_pos c7] at H
            have c7b0 : decide (x5_1 < (l1.length : Int)) = true := decide_eq_true c7
            clear c7
            by_cases c8 : ((rd_T70 l0 x5_1).f0) = ((rd_T70 l1 x5_1).f0)
            · rw [if_pos c8] at H
              have c8b0 : (((rd_T70 l0 x5_1).f0) == ((rd_T70 l1 x5_1).f0)) = true := beq_iff_eq.mpr c8
              have c8b1 : (((rd_T70 l0 x5_1).f0) != ((rd_T70 l1 x5_1).f0)) = false := bne_eq_false_iff_eq.mpr c8
              clear c8
              by_cases c9 : ((rd_T70 l0 x5_1).f1).toList = ((rd_T70 l1 x5_1).f1).toList
              · rw [if_pos c9] at H
                have c9b0 : (((rd_T70 l0 x5_1).f1).toList == ((rd_T70 l1 x5_1).f1).toList) = true := beq_iff_eq.mpr c9
                have c9b1 : (((rd_T70 l0 x5_1).f1).toList != ((rd_T70 l1 x5_1).f1).toList) = false := bne_eq_false_iff_eq.mpr c9
                clear c9
                have H' := Aside0.mk H
                clear H
                try go_wp2
                have n0_ := Aside0.mk (below_drew1 HB.out)
                clear HB
                have HB := n0_
                clear n0_
                have p127 : 0 ≤ (x5_1 : Int) := of_decide_eq_true (by first | (with_reducible assumption) )
                have q127 : x5_1 < (l0.length : Int) := of_decide_eq_true (by first | (with_reducible assumption) )
                obtain ⟨ad127, A127_2, c127_2, e127, hx127_0, hx127_1, hx127_2, hl127_2, hi127_2⟩ := at_T70 HR0.out x5_1 p127 q127
                have hw127_2 := hx127_2
                have hw127_1 := hx127_1
                have hw127_0 := hx127_0
                cases e127
                replace hx127_0 := (HB.out.cell (World.block_lt_of_cell? w _ hx127_0)).trans hx127_0
                replace hx127_1 := (HB.out.cell (World.block_lt_of_cell? w _ hx127_1)).trans hx127_1
                replace hx127_2 := (HB.out.cell (World.block_lt_of_cell? w _ hx127_2)).trans hx127_2
                have HR127_2 := Aside0.mk hi127_2
                have HC127_2 := Aside0.mk hl127_2
                clear hi127_2 hl127_2
                replace p127 := eq_true p127
                replace q127 := eq_true q127
                have p128 : 0 ≤ (x5_1 : Int) := of_decide_eq_true (by first | (with_reducible assumption) )
                have q128 : x5_1 < (l1.length : Int) := of_decide_eq_true (by first | (with_reducible assumption) )
                obtain ⟨ad128, A128_2, c128_2, e128, hx128_0, hx128_1, hx128_2, hl128_2, hi128_2⟩ := at_T70 HR1.out x5_1 p128 q128
                have hw128_2 := hx128_2
                have hw128_1 := hx128_1
                have hw128_0 := hx128_0
                cases e128
                replace hx128_0 := (HB.out.cell (World.block_lt_of_cell? w _ hx128_0)).trans hx128_0
                replace hx128_1 := (HB.out.cell (World.block_lt_of_cell? w _ hx128_1)).trans hx128_1
                replace hx128_2 := (HB.out.cell (World.block_lt_of_cell? w _ hx128_2)).trans hx128_2
                have HR128_2 := Aside0.mk hi128_2
                have HC128_2 := Aside0.mk hl128_2
                clear hi128_2 hl128_2
                replace p128 := eq_true p128
                replace q128 := eq_true q128
                have p129 : 0 ≤ (x5_1 : Int) := of_decide_eq_true (by first | (with_reducible assumption) )
                have q129 : x5_1 < (l0.length : Int) := of_decide_eq_true (by first | (with_reducible assumption) )
                obtain ⟨ad129, A129_2, c129_2, e129, hx129_0, hx129_1, hx129_2, hl129_2, hi129_2⟩ := at_T70 HR0.out x5_1 p129 q129
                have hw129_2 := hx129_2
                have hw129_1 := hx129_1
                have hw129_0 := hx129_0
                obtain rfl : ad127 = ad129 := (by injection e129)
                replace hx129_0 := (HB.out.cell (World.block_lt_of_cell? w _ hx129_0)).trans hx129_0
                replace hx129_1 := (HB.out.cell (World.block_lt_of_cell? w _ hx129_1)).trans hx129_1
                replace hx129_2 := (HB.out.cell (World.block_lt_of_cell? w _ hx129_2)).trans hx129_2
                have HR129_2 := Aside0.mk hi129_2
                have HC129_2 := Aside0.mk hl129_2
                clear hi129_2 hl129_2
                replace p129 := eq_true p129
                replace q129 := eq_true q129
                have ea_ := Option.some.inj (hx127_2.symm.trans hx129_2)
                injection ea_ with ea_ en_ ec_
                subst ea_
                subst ec_
                clear en_
                have p130 : 0 ≤ (x5_1 : Int) := of_decide_eq_true (by first | (with_reducible assumption) )
                have q130 : x5_1 < (l1.length : Int) := of_decide_eq_true (by first | (with_reducible assumption) )
                obtain ⟨ad130, A130_2, c130_2, e130, hx130_0, hx130_1, hx130_2, hl130_2, hi130_2⟩ := at_T70 HR1.out x5_1 p130 q130
                have hw130_2 := hx130_2
                have hw130_1 := hx130_1
                have hw130_0 := hx130_0
                obtain rfl : ad128 = ad130 := (by injection e130)
                replace hx130_0 := (HB.out.cell (World.block_lt_of_cell? w _ hx130_0)).trans hx130_0
                replace hx130_1 := (HB.out.cell (World.block_lt_of_cell? w _ hx130_1)).trans hx130_1
                replace hx130_2 := (HB.out.cell (World.block_lt_of_cell? w _ hx130_2)).trans hx130_2
                have HR130_2 := Aside0.mk hi130_2
                have HC130_2 := Aside0.mk hl130_2
                clear hi130_2 hl130_2
                replace p130 := eq_true p130
                replace q130 := eq_true q130
                have ea_ := Option.some.inj (hx128_2.symm.trans hx130_2)
                injection ea_ with ea_ en_ ec_
                subst ea_
                subst ec_
                clear en_
                have p131 : 0 ≤ (x5_1 : Int) := of_decide_eq_true (by first | (with_reducible assumption) )
                have q131 : x5_1 < (l0.length : Int) := of_decide_eq_true (by first | (with_reducible assumption) )
                obtain ⟨ad131, A131_2, c131_2, e131, hx131_0, hx131_1, hx131_2, hl131_2, hi131_2⟩ := at_T70 HR0.out x5_1 p131 q131
                have hw131_2 := hx131_2
                have hw131_1 := hx131_1
                have hw131_0 := hx131_0
                obtain rfl : ad127 = ad131 := (by injection e131)
                replace hx131_0 := (HB.out.cell (World.block_lt_of_cell? w _ hx131_0)).trans hx131_0
                replace hx131_1 := (HB.out.cell (World.block_lt_of_cell? w _ hx131_1)).trans hx131_1
                replace hx131_2 := (HB.out.cell (World.block_lt_of_cell? w _ hx131_2)).trans hx131_2
                have HR131_2 := Aside0.mk hi131_2
                have HC131_2 := Aside0.mk hl131_2
                clear hi131_2 hl131_2
                replace p131 := eq_true p131
                replace q131 := eq_true q131
                have ea_ := Option.some.inj (hx127_2.symm.trans hx131_2)
                injection ea_ with ea_ en_ ec_
                subst ea_
                subst ec_
                clear en_
                have p132 : 0 ≤ (x5_1 : Int) := of_decide_eq_true (by first | (with_reducible assumption) )
                have q132 : x5_1 < (l1.length : Int) := of_decide_eq_true (by first | (with_reducible assumption) )
                obtain ⟨ad132, A132_2, c132_2, e132, hx132_0, hx132_1, hx132_2, hl132_2, hi132_2⟩ := at_T70 HR1.out x5_1 p132 q132
                have hw132_2 := hx132_2
                have hw132_1 := hx132_1
                have hw132_0 := hx132_0
                obtain rfl : ad128 = ad132 := (by injection e132)
                replace hx132_0 := (HB.out.cell (World.block_lt_of_cell? w _ hx132_0)).trans hx132_0
                replace hx132_1 := (HB.out.cell (World.block_lt_of_cell? w _ hx132_1)).trans hx132_1
                replace hx132_2 := (HB.out.cell (World.block_lt_of_cell? w _ hx132_2)).trans hx132_2
                have HR132_2 := Aside0.mk hi132_2
                have HC132_2 := Aside0.mk hl132_2
                clear hi132_2 hl132_2
                replace p132 := eq_true p132
                replace q132 := eq_true q132
                have ea_ := Option.some.inj (hx128_2.symm.trans hx132_2)
                injection ea_ with ea_ en_ ec_
                subst ea_
                subst ec_
                clear en_
                refine start_ (n := 39) (S := fun w' => w'.cell? (ad127.add ((x5_1).toNat * 3)) = some (.int .u64 ((rd_T70 l0 x5_1).f0)) ∧ w'.cell? ⟨(ad127.add ((x5_1).toNat * 3)).block, (ad127.add ((x5_1).toNat * 3)).off + 1, none⟩ = some (.string ((rd_T70 l0 x5_1).f1)) ∧ w'.cell? ⟨(ad127.add ((x5_1).toNat * 3)).block, (ad127.add ((x5_1).toNat * 3)).off + 2, none⟩ = some (.slice A127_2 ((rd_T70 l0 x5_1).f2).length c127_2) ∧ w'.cell? (ad128.add ((x5_1).toNat * 3)) = some (.int .u64 ((rd_T70 l1 x5_1).f0)) ∧ w'.cell? ⟨(ad128.add ((x5_1).toNat * 3)).block, (ad128.add ((x5_1).toNat * 3)).off + 1, none⟩ = some (.string ((rd_T70 l1 x5_1).f1)) ∧ w'.cell? ⟨(ad128.add ((x5_1).toNat * 3)).block, (ad128.add ((x5_1).toNat * 3)).off + 2, none⟩ = some (.slice A128_2 ((rd_T70 l1 x5_1).f2).length c128_2) ∧ w'.cell? (ad127.add ((x5_1).toNat * 3)) = some (.int .u64 ((rd_T70 l0 x5_1).f0)) ∧ w'.cell? ⟨(ad127.add ((x5_1).toNat * 3)).block, (ad127.add ((x5_1).toNat * 3)).off + 1, none⟩ = some (.string ((rd_T70 l0 x5_1).f1)) ∧ w'.cell? ⟨(ad127.add ((x5_1).toNat * 3)).block, (ad127.add ((x5_1).toNat * 3)).off + 2, none⟩ = some (.slice A127_2 ((rd_T70 l0 x5_1).f2).length c127_2) ∧ w'.cell? (ad128.add ((x5_1).toNat * 3)) = some (.int .u64 ((rd_T70 l1 x5_1).f0)) ∧ w'.cell? ⟨(ad128.add ((x5_1).toNat * 3)).block, (ad128.add ((x5_1).toNat * 3)).off + 1, none⟩ = some (.string ((rd_T70 l1 x5_1).f1)) ∧ w'.cell? ⟨(ad128.add ((x5_1).toNat * 3)).block, (ad128.add ((x5_1).toNat * 3)).off + 2, none⟩ = some (.slice A128_2 ((rd_T70 l1 x5_1).f2).length c128_2) ∧ w'.cell? (ad127.add ((x5_1).toNat * 3)) = some (.int .u64 ((rd_T70 l0 x5_1).f0)) ∧ w'.cell? ⟨(ad127.add ((x5_1).toNat * 3)).block, (ad127.add ((x5_1).toNat * 3)).off + 1, none⟩ = some (.string ((rd_T70 l0 x5_1).f1)) ∧ w'.cell? ⟨(ad127.add ((x5_1).toNat * 3)).block, (ad127.add ((x5_1).toNat * 3)).off + 2, none⟩ = some (.slice A127_2 ((rd_T70 l0 x5_1).f2).length c127_2) ∧ w'.cell? (ad128.add ((x5_1).toNat * 3)) = some (.int .u64 ((rd_T70 l1 x5_1).f0)) ∧ w'.cell? ⟨(ad128.add ((x5_1).toNat * 3)).block, (ad128.add ((x5_1).toNat * 3)).off + 1, none⟩ = some (.string ((rd_T70 l1 x5_1).f1)) ∧ w'.cell? ⟨(ad128.add ((x5_1).toNat * 3)).block, (ad128.add ((x5_1).toNat * 3)).off + 2, none⟩ = some (.slice A128_2 ((rd_T70 l1 x5_1).f2).length c128_2)) (ds := []) #[false, false, false, false, false, false, false, false, false, false, false, false, false, false, false, false, false, false, false, false, false, false, false, false, false, false, false, false, false, false, false, false, false, false, false, false, false, false, false] (by kernel_rfl) rfl rfl ⟨((HB.out.cell (World.block_lt_of_cell? w _ hw127_0)).trans hw127_0), ((HB.out.cell (World.block_lt_of_cell? w _ hw127_1)).trans hw127_1), ((HB.out.cell (World.block_lt_of_cell? w _ hw127_2)).trans hw127_2), ((HB.out.cell (World.block_lt_of_cell? w _ hw128_0)).trans hw128_0), ((HB.out.cell (World.block_lt_of_cell? w _ hw128_1)).trans hw128_1), ((HB.out.cell (World.block_lt_of_cell? w _ hw128_2)).trans hw128_2), ((HB.out.cell (World.block_lt_of_cell? w _ hw129_0)).trans hw129_0), ((HB.out.cell (World.block_lt_of_cell? w _ hw129_1)).trans hw129_1), ((HB.out.cell (World.block_lt_of_cell? w _ hw129_2)).trans hw129_2), ((HB.out.cell (World.block_lt_of_cell? w _ hw130_0)).trans hw130_0), ((HB.out.cell (World.block_lt_of_cell? w _ hw130_1)).trans hw130_1), ((HB.out.cell (World.block_lt_of_cell? w _ hw130_2)).trans hw130_2), ((HB.out.cell (World.block_lt_of_cell? w _ hw131_0)).trans hw131_0), ((HB.out.cell (World.block_lt_of_cell? w _ hw131_1)).trans hw131_1), ((HB.out.cell (World.block_lt_of_cell? w _ hw131_2)).trans hw131_2), ((HB.out.cell (World.block_lt_of_cell? w _ hw132_0)).trans hw132_0), ((HB.out.cell (World.block_lt_of_cell? w _ hw132_1)).trans hw132_1), ((HB.out.cell (World.block_lt_of_cell? w _ hw132_2)).trans hw132_2)⟩ (fun hHeld => ?_); refine with_tabW ecdysisref19_SameVals.tab6 ecdysisref19_SameVals.bits6 (fun HT_ HW_ => ?_)
                generalize wr.drew = w10 at HB HR127_2 HR128_2 HR129_2 HR130_2 HR131_2 HR132_2 hx127_0 hx127_1 hx127_2 hx128_0 hx128_1 hx128_2 hx129_0 hx129_1 hx129_2 hx130_0 hx130_1 hx130_2 hx131_0 hx131_1 hx131_2 hx132_0 hx132_1 hx132_2 hHeld ⊢
                refine zp 0 (zb 39 1) ?_ rfl rfl HT_ (by kernel_rfl) (fun _ _ _ h => h) rfl ?_ ?_ ?_ ?_; rotate_left; (intro w'; go_simp; with_reducible rfl); rotate_left; (simp only [zs]; rfl)
                refine zp 1 (zb 39 3) ?_ rfl rfl HT_ (by kernel_rfl) (fun _ _ _ h => h) rfl ?_ ?_ ?_ ?_; rotate_left; (intro w'; go_simp; with_reducible rfl); rotate_left; (simp only [zs]; rfl)
                refine zp 2 (zb 39 7) ?_ rfl rfl HT_ (by kernel_rfl) (fun _ _ _ h => h) rfl ?_ ?_ ?_ ?_; rotate_left; (intro w'; go_simp; with_reducible rfl); rotate_left; (simp only [zs]; rfl)
                refine zp 3 (zb 39 15) ?_ rfl rfl HT_ (by kernel_rfl) (fun _ _ _ h => h) rfl ?_ ?_ ?_ ?_; rotate_left; (intro w'; go_simp; with_reducible rfl); rotate_left; (simp only [zs]; rfl)
                refine zp 5 (zb 39 47) ?_ rfl rfl HT_ (by kernel_rfl) (fun _ _ _ h => h) rfl ?_ ?_ ?_ ?_; rotate_left; (intro w'; go_simp; with_reducible rfl); rotate_left; (simp only [zs]; rfl)
                refine zp 6 (zb 39 111) ?_ rfl rfl HT_ (by kernel_rfl) (fun _ _ _ h => h) rfl ?_ ?_ ?_ ?_; rotate_left; (intro w'; go_simp; with_reducible rfl); rotate_left; (simp only [zs]; rfl)
                refine zp 7 (zb 39 239) ?_ rfl rfl HT_ (by kernel_rfl) (fun _ _ _ h => h) rfl ?_ ?_ ?_ ?_; rotate_left; (intro w'; go_simp; with_reducible rfl); rotate_left; (simp only [zs]; rfl)
                refine zp 8 (zb 39 495) ?_ rfl rfl HT_ (by kernel_rfl) (fun _ _ _ h => h) rfl ?_ ?_ ?_ ?_; rotate_left; (intro w'; go_simp; with_reducible rfl); rotate_left; (simp only [zs]; rfl)
                refine zt 4 (zb 39 511) ?_ rfl rfl HT_ HW_ (by kernel_rfl) (fun _ _ _ h => h) rfl ?_ hHeld ?_ ?_ ?_; rotate_left; (rintro w' ⟨s0, s1, s2, s3, s4, s5, s6, s7, s8, s9, s10, s11, s12, s13, s14, s15, s16, s17⟩; go_simp; with_reducible rfl); rotate_left; (simp only [zs]; rfl)
                refine zt 9 (zb 39 1023) ?_ rfl rfl HT_ HW_ (by kernel_rfl) (fun _ _ _ h => h) rfl ?_ hHeld ?_ ?_ ?_; rotate_left; (rintro w' ⟨s0, s1, s2, s3, s4, s5, s6, s7, s8, s9, s10, s11, s12, s13, s14, s15, s16, s17⟩; go_simp; with_reducible rfl); rotate_left; (simp only [zs]; rfl)
                refine zp 10 (zb 39 2047) ?_ rfl rfl HT_ (by kernel_rfl) (fun _ _ _ h => h) rfl ?_ ?_ ?_ ?_; rotate_left; (intro w'; go_simp; with_reducible rfl); rotate_left; (simp only [zs]; rfl)
                refine zp 11 (zb 39 4095) ?_ rfl rfl HT_ (by kernel_rfl) (fun _ _ _ h => h) rfl ?_ ?_ ?_ ?_; rotate_left; (intro w'; go_simp; with_reducible rfl); rotate_left; (simp only [zs]; rfl)
                refine zp 12 (zb 39 8191) ?_ rfl rfl HT_ (by kernel_rfl) (fun _ _ _ h => h) rfl ?_ ?_ ?_ ?_; rotate_left; (intro w'; go_simp; with_reducible rfl); rotate_left; (simp only [zs]; rfl)
                refine zp 13 (zb 39 16383) ?_ rfl rfl HT_ (by kernel_rfl) (fun _ _ _ h => h) rfl ?_ ?_ ?_ ?_; rotate_left; (intro w'; go_simp; with_reducible rfl); rotate_left; (simp only [zs]; rfl)
                refine zp 14 (zb 39 32767) ?_ rfl rfl HT_ (by kernel_rfl) (fun _ _ _ h => h) rfl ?_ ?_ ?_ ?_; rotate_left; (intro w'; go_simp; with_reducible rfl); rotate_left; (simp only [zs]; rfl)
                refine zp 15 (zb 39 65535) ?_ rfl rfl HT_ (by kernel_rfl) (fun _ _ _ h => h) rfl ?_ ?_ ?_ ?_; rotate_left; (intro w'; go_simp; with_reducible rfl); rotate_left; (simp only [zs]; rfl)
                refine zp 17 (zb 39 196607) ?_ rfl rfl HT_ (by kernel_rfl) (fun _ _ _ h => h) rfl ?_ ?_ ?_ ?_; rotate_left; (intro w'; go_simp; with_reducible rfl); rotate_left; (simp only [zs]; rfl)
                refine zp 18 (zb 39 458751) ?_ rfl rfl HT_ (by kernel_rfl) (fun _ _ _ h => h) rfl ?_ ?_ ?_ ?_; rotate_left; (intro w'; go_simp; with_reducible rfl); rotate_left; (simp only [zs]; rfl)
                refine zp 19 (zb 39 983039) ?_ rfl rfl HT_ (by kernel_rfl) (fun _ _ _ h => h) rfl ?_ ?_ ?_ ?_; rotate_left; (intro w'; go_simp; with_reducible rfl); rotate_left; (simp only [zs]; rfl)
                refine zp 20 (zb 39 2031615) ?_ rfl rfl HT_ (by kernel_rfl) (fun _ _ _ h => h) rfl ?_ ?_ ?_ ?_; rotate_left; (intro w'; go_simp; with_reducible rfl); rotate_left; (simp only [zs]; rfl)
                refine zt 16 (zb 39 2097151) ?_ rfl rfl HT_ HW_ (by kernel_rfl) (fun _ _ _ h => h) rfl ?_ hHeld ?_ ?_ ?_; rotate_left; (rintro w' ⟨s0, s1, s2, s3, s4, s5, s6, s7, s8, s9, s10, s11, s12, s13, s14, s15, s16, s17⟩; go_simp; with_reducible rfl); rotate_left; (simp only [zs]; rfl)
                refine zt 21 (zb 39 4194303) ?_ rfl rfl HT_ HW_ (by kernel_rfl) (fun _ _ _ h => h) rfl ?_ hHeld ?_ ?_ ?_; rotate_left; (rintro w' ⟨s0, s1, s2, s3, s4, s5, s6, s7, s8, s9, s10, s11, s12, s13, s14, s15, s16, s17⟩; go_simp; with_reducible rfl); rotate_left; (simp only [zs]; rfl)
                refine zp 22 (zb 39 8388607) ?_ rfl rfl HT_ (by kernel_rfl) (fun _ _ _ h => h) rfl ?_ ?_ ?_ ?_; rotate_left; (intro w'; go_simp; with_reducible rfl); rotate_left; (simp only [zs]; rfl)
                refine zp 23 (zb 39 16777215) ?_ rfl rfl HT_ (by kernel_rfl) (fun _ _ _ h => h) rfl ?_ ?_ ?_ ?_; rotate_left; (intro w'; go_simp; with_reducible rfl); rotate_left; (simp only [zs]; rfl)
                refine zp 24 (zb 39 33554431) ?_ rfl rfl HT_ (by kernel_rfl) (fun _ _ _ h => h) rfl ?_ ?_ ?_ ?_; rotate_left; (intro w'; go_simp; with_reducible rfl); rotate_left; (simp only [zs]; rfl)
                refine zp 25 (zb 39 67108863) ?_ rfl rfl HT_ (by kernel_rfl) (fun _ _ _ h => h) rfl ?_ ?_ ?_ ?_; rotate_left; (intro w'; go_simp; with_reducible rfl); rotate_left; (simp only [zs]; rfl)
                refine zp 26 (zb 39 134217727) ?_ rfl rfl HT_ (by kernel_rfl) (fun _ _ _ h => h) rfl ?_ ?_ ?_ ?_; rotate_left; (intro w'; go_simp; with_reducible rfl); rotate_left; (simp only [zs]; rfl)
                refine zp 27 (zb 39 268435455) ?_ rfl rfl HT_ (by kernel_rfl) (fun _ _ _ h => h) rfl ?_ ?_ ?_ ?_; rotate_left; (intro w'; go_simp; with_reducible rfl); rotate_left; (simp only [zs]; rfl)
                refine zp 28 (zb 39 536870911) ?_ rfl rfl HT_ (by kernel_rfl) (fun _ _ _ h => h) rfl ?_ ?_ ?_ ?_; rotate_left; (intro w'; go_simp; with_reducible rfl); rotate_left; (simp only [zs]; rfl)
                refine zp 31 (zb 39 2684354559) ?_ rfl rfl HT_ (by kernel_rfl) (fun _ _ _ h => h) rfl ?_ ?_ ?_ ?_; rotate_left; (intro w'; go_simp; with_reducible rfl); rotate_left; (simp only [zs]; rfl)
                refine zp 32 (zb 39 6979321855) ?_ rfl rfl HT_ (by kernel_rfl) (fun _ _ _ h => h) rfl ?_ ?_ ?_ ?_; rotate_left; (intro w'; go_simp; with_reducible rfl); rotate_left; (simp only [zs]; rfl)
                refine zp 33 (zb 39 15569256447) ?_ rfl rfl HT_ (by kernel_rfl) (fun _ _ _ h => h) rfl ?_ ?_ ?_ ?_; rotate_left; (intro w'; go_simp; with_reducible rfl); rotate_left; (simp only [zs]; rfl)
                refine zp 34 (zb 39 32749125631) ?_ rfl rfl HT_ (by kernel_rfl) (fun _ _ _ h => h) rfl ?_ ?_ ?_ ?_; rotate_left; (intro w'; go_simp; with_reducible rfl); rotate_left; (simp only [zs]; rfl)
                refine zt 29 (zb 39 33285996543) ?_ rfl rfl HT_ HW_ (by kernel_rfl) (fun _ _ _ h => h) rfl ?_ hHeld ?_ ?_ ?_; rotate_left; (rintro w' ⟨s0, s1, s2, s3, s4, s5, s6, s7, s8, s9, s10, s11, s12, s13, s14, s15, s16, s17⟩; go_simp; with_reducible rfl); rotate_left; (simp only [zs]; rfl)
                refine zp 30 (zb 39 34359738367) ?_ rfl rfl HT_ (by kernel_rfl) (fun _ _ _ h => h) rfl ?_ ?_ ?_ ?_; rotate_left; (intro w'; go_simp; with_reducible rfl); rotate_left; (simp only [zs]; rfl)
                refine zt 35 (zb 39 68719476735) ?_ rfl rfl HT_ HW_ (by kernel_rfl) (fun _ _ _ h => h) rfl ?_ hHeld ?_ ?_ ?_; rotate_left; (rintro w' ⟨s0, s1, s2, s3, s4, s5, s6, s7, s8, s9, s10, s11, s12, s13, s14, s15, s16, s17⟩; go_simp; with_reducible rfl); rotate_left; (simp only [zs]; rfl)
                refine zp 36 (zb 39 137438953471) ?_ rfl rfl HT_ (by kernel_rfl) (fun _ _ _ h => h) rfl ?_ ?_ ?_ ?_; rotate_left; (intro w'; go_simp; with_reducible rfl); rotate_left; (simp only [zs]; rfl)
                refine zp 37 (zb 39 274877906943) ?_ rfl rfl HT_ (by kernel_rfl) (fun _ _ _ h => h) rfl ?_ ?_ ?_ ?_; rotate_left; (intro w'; go_simp; with_reducible rfl); rotate_left; (simp only [zs]; rfl)
                refine zp 38 (zb 39 549755813887) ?_ rfl rfl HT_ (by kernel_rfl) (fun _ _ _ h => h) rfl ?_ ?_ ?_ ?_; rotate_left; (intro w'; go_simp; with_reducible rfl); rotate_left; (simp only [zs]; rfl)
                refine done_ (done_of HT_.out (by kernel_rfl)) ?_
                try go_wp2
                go_meet
                case rel => exact ⟨_, (((((rd_T70 l0 x5_1).f2).length : Int) != (((rd_T70 l1 x5_1).f2).length : Int))), (by first | rfl ), H', ⟨by have := HK1.out; first | omega | exact Nat.le_refl _⟩, ⟨by exact HB.out⟩⟩
              · rw [if_neg c9] at H
                have c9b0 : (((rd_T70 l0 x5_1).f1).toList == ((rd_T70 l1 x5_1).f1).toList) = false := beq_eq_false_iff_ne.mpr c9
                have c9b1 : (((rd_T70 l0 x5_1).f1).toList != ((rd_T70 l1 x5_1).f1).toList) = true := bne_iff_ne.mpr c9
                have H' := Aside0.mk H
                clear H
                try go_wp2
                have n0_ := Aside0.mk (below_drew1 HB.out)
                clear HB
                have HB := n0_
                clear n0_
                have p127 : 0 ≤ (x5_1 : Int) := of_decide_eq_true (by first | (with_reducible assumption) )
                have q127 : x5_1 < (l0.length : Int) := of_decide_eq_true (by first | (with_reducible assumption) )
                obtain ⟨ad127, A127_2, c127_2, e127, hx127_0, hx127_1, hx127_2, hl127_2, hi127_2⟩ := at_T70 HR0.out x5_1 p127 q127
                have hw127_2 := hx127_2
                have hw127_1 := hx127_1
                have hw127_0 := hx127_0
                cases e127
                replace hx127_0 := (HB.out.cell (World.block_lt_of_cell? w _ hx127_0)).trans hx127_0
                replace hx127_1 := (HB.out.cell (World.block_lt_of_cell? w _ hx127_1)).trans hx127_1
                replace hx127_2 := (HB.out.cell (World.block_lt_of_cell? w _ hx127_2)).trans hx127_2
                have HR127_2 := Aside0.mk hi127_2
                have HC127_2 := Aside0.mk hl127_2
                clear hi127_2 hl127_2
                replace p127 := eq_true p127
                replace q127 := eq_true q127
                have p128 : 0 ≤ (x5_1 : Int) := of_decide_eq_true (by first | (with_reducible assumption) )
                have q128 : x5_1 < (l1.length : Int) := of_decide_eq_true (by first | (with_reducible assumption) )
                obtain ⟨ad128, A128_2, c128_2, e128, hx128_0, hx128_1, hx128_2, hl128_2, hi128_2⟩ := at_T70 HR1.out x5_1 p128 q128
                have hw128_2 := hx128_2
                have hw128_1 := hx128_1
                have hw128_0 := hx128_0
                cases e128
                replace hx128_0 := (HB.out.cell (World.block_lt_of_cell? w _ hx128_0)).trans hx128_0
                replace hx128_1 := (HB.out.cell (World.block_lt_of_cell? w _ hx128_1)).trans hx128_1
                replace hx128_2 := (HB.out.cell (World.block_lt_of_cell? w _ hx128_2)).trans hx128_2
                have HR128_2 := Aside0.mk hi128_2
                have HC128_2 := Aside0.mk hl128_2
                clear hi128_2 hl128_2
                replace p128 := eq_true p128
                replace q128 := eq_true q128
                have p129 : 0 ≤ (x5_1 : Int) := of_decide_eq_true (by first | (with_reducible assumption) )
                have q129 : x5_1 < (l0.length : Int) := of_decide_eq_true (by first | (with_reducible assumption) )
                obtain ⟨ad129, A129_2, c129_2, e129, hx129_0, hx129_1, hx129_2, hl129_2, hi129_2⟩ := at_T70 HR0.out x5_1 p129 q129
                have hw129_2 := hx129_2
                have hw129_1 := hx129_1
                have hw129_0 := hx129_0
                obtain rfl : ad127 = ad129 := (by injection e129)
                replace hx129_0 := (HB.out.cell (World.block_lt_of_cell? w _ hx129_0)).trans hx129_0
                replace hx129_1 := (HB.out.cell (World.block_lt_of_cell? w _ hx129_1)).trans hx129_1
                replace hx129_2 := (HB.out.cell (World.block_lt_of_cell? w _ hx129_2)).trans hx129_2
                have HR129_2 := Aside0.mk hi129_2
                have HC129_2 := Aside0.mk hl129_2
                clear hi129_2 hl129_2
                replace p129 := eq_true p129
                replace q129 := eq_true q129
                have ea_ := Option.some.inj (hx127_2.symm.trans hx129_2)
                injection ea_ with ea_ en_ ec_
                subst ea_
                subst ec_
                clear en_
                have p130 : 0 ≤ (x5_1 : Int) := of_decide_eq_true (by first | (with_reducible assumption) )
                have q130 : x5_1 < (l1.length : Int) := of_decide_eq_true (by first | (with_reducible assumption) )
                obtain ⟨ad130, A130_2, c130_2, e130, hx130_0, hx130_1, hx130_2, hl130_2, hi130_2⟩ := at_T70 HR1.out x5_1 p130 q130
                have hw130_2 := hx130_2
                have hw130_1 := hx130_1
                have hw130_0 := hx130_0
                obtain rfl : ad128 = ad130 := (by injection e130)
                replace hx130_0 := (HB.out.cell (World.block_lt_of_cell? w _ hx130_0)).trans hx130_0
                replace hx130_1 := (HB.out.cell (World.block_lt_of_cell? w _ hx130_1)).trans hx130_1
                replace hx130_2 := (HB.out.cell (World.block_lt_of_cell? w _ hx130_2)).trans hx130_2
                have HR130_2 := Aside0.mk hi130_2
                have HC130_2 := Aside0.mk hl130_2
                clear hi130_2 hl130_2
                replace p130 := eq_true p130
                replace q130 := eq_true q130
                have ea_ := Option.some.inj (hx128_2.symm.trans hx130_2)
                injection ea_ with ea_ en_ ec_
                subst ea_
                subst ec_
                clear en_
                refine start_ (n := 39) (S := fun w' => w'.cell? (ad127.add ((x5_1).toNat * 3)) = some (.int .u64 ((rd_T70 l0 x5_1).f0)) ∧ w'.cell? ⟨(ad127.add ((x5_1).toNat * 3)).block, (ad127.add ((x5_1).toNat * 3)).off + 1, none⟩ = some (.string ((rd_T70 l0 x5_1).f1)) ∧ w'.cell? ⟨(ad127.add ((x5_1).toNat * 3)).block, (ad127.add ((x5_1).toNat * 3)).off + 2, none⟩ = some (.slice A127_2 ((rd_T70 l0 x5_1).f2).length c127_2) ∧ w'.cell? (ad128.add ((x5_1).toNat * 3)) = some (.int .u64 ((rd_T70 l1 x5_1).f0)) ∧ w'.cell? ⟨(ad128.add ((x5_1).toNat * 3)).block, (ad128.add ((x5_1).toNat * 3)).off + 1, none⟩ = some (.string ((rd_T70 l1 x5_1).f1)) ∧ w'.cell? ⟨(ad128.add ((x5_1).toNat * 3)).block, (ad128.add ((x5_1).toNat * 3)).off + 2, none⟩ = some (.slice A128_2 ((rd_T70 l1 x5_1).f2).length c128_2) ∧ w'.cell? (ad127.add ((x5_1).toNat * 3)) = some (.int .u64 ((rd_T70 l0 x5_1).f0)) ∧ w'.cell? ⟨(ad127.add ((x5_1).toNat * 3)).block, (ad127.add ((x5_1).toNat * 3)).off + 1, none⟩ = some (.string ((rd_T70 l0 x5_1).f1)) ∧ w'.cell? ⟨(ad127.add ((x5_1).toNat * 3)).block, (ad127.add ((x5_1).toNat * 3)).off + 2, none⟩ = some (.slice A127_2 ((rd_T70 l0 x5_1).f2).length c127_2) ∧ w'.cell? (ad128.add ((x5_1).toNat * 3)) = some (.int .u64 ((rd_T70 l1 x5_1).f0)) ∧ w'.cell? ⟨(ad128.add ((x5_1).toNat * 3)).block, (ad128.add ((x5_1).toNat * 3)).off + 1, none⟩ = some (.string ((rd_T70 l1 x5_1).f1)) ∧ w'.cell? ⟨(ad128.add ((x5_1).toNat * 3)).block, (ad128.add ((x5_1).toNat * 3)).off + 2, none⟩ = some (.slice A128_2 ((rd_T70 l1 x5_1).f2).length c128_2)) (ds := []) #[false, false, false, false, false, false, false, false, false, false, false, false, false, false, false, false, false, false, false, false, false, false, false, false, false, false, false, false, false, false, false, false, false, false, false, false, false, false, false] (by kernel_rfl) rfl rfl ⟨((HB.out.cell (World.block_lt_of_cell? w _ hw127_0)).trans hw127_0), ((HB.out.cell (World.block_lt_of_cell? w _ hw127_1)).trans hw127_1), ((HB.out.cell (World.block_lt_of_cell? w _ hw127_2)).trans hw127_2), ((HB.out.cell (World.block_lt_of_cell? w _ hw128_0)).trans hw128_0), ((HB.out.cell (World.block_lt_of_cell? w _ hw128_1)).trans hw128_1), ((HB.out.cell (World.block_lt_of_cell? w _ hw128_2)).trans hw128_2), ((HB.out.cell (World.block_lt_of_cell? w _ hw129_0)).trans hw129_0), ((HB.out.cell (World.block_lt_of_cell? w _ hw129_1)).trans hw129_1), ((HB.out.cell (World.block_lt_of_cell? w _ hw129_2)).trans hw129_2), ((HB.out.cell (World.block_lt_of_cell? w _ hw130_0)).trans hw130_0), ((HB.out.cell (World.block_lt_of_cell? w _ hw130_1)).trans hw130_1), ((HB.out.cell (World.block_lt_of_cell? w _ hw130_2)).trans hw130_2)⟩ (fun hHeld => ?_); refine with_tabW ecdysisref19_SameVals.tab6 ecdysisref19_SameVals.bits6 (fun HT_ HW_ => ?_)
                generalize wr.drew = w11 at HB HR127_2 HR128_2 HR129_2 HR130_2 hx127_0 hx127_1 hx127_2 hx128_0 hx128_1 hx128_2 hx129_0 hx129_1 hx129_2 hx130_0 hx130_1 hx130_2 hHeld ⊢
                refine zp 0 (zb 39 1) ?_ rfl rfl HT_ (by kernel_rfl) (fun _ _ _ h => h) rfl ?_ ?_ ?_ ?_; rotate_left; (intro w'; go_simp; with_reducible rfl); rotate_left; (simp only [zs]; rfl)
                refine zp 1 (zb 39 3) ?_ rfl rfl HT_ (by kernel_rfl) (fun _ _ _ h => h) rfl ?_ ?_ ?_ ?_; rotate_left; (intro w'; go_simp; with_reducible rfl); rotate_left; (simp only [zs]; rfl)
                refine zp 2 (zb 39 7) ?_ rfl rfl HT_ (by kernel_rfl) (fun _ _ _ h => h) rfl ?_ ?_ ?_ ?_; rotate_left; (intro w'; go_simp; with_reducible rfl); rotate_left; (simp only [zs]; rfl)
                refine zp 3 (zb 39 15) ?_ rfl rfl HT_ (by kernel_rfl) (fun _ _ _ h => h) rfl ?_ ?_ ?_ ?_; rotate_left; (intro w'; go_simp; with_reducible rfl); rotate_left; (simp only [zs]; rfl)
                refine zp 5 (zb 39 47) ?_ rfl rfl HT_ (by kernel_rfl) (fun _ _ _ h => h) rfl ?_ ?_ ?_ ?_; rotate_left; (intro w'; go_simp; with_reducible rfl); rotate_left; (simp only [zs]; rfl)
                refine zp 6 (zb 39 111) ?_ rfl rfl HT_ (by kernel_rfl) (fun _ _ _ h => h) rfl ?_ ?_ ?_ ?_; rotate_left; (intro w'; go_simp; with_reducible rfl); rotate_left; (simp only [zs]; rfl)
                refine zp 7 (zb 39 239) ?_ rfl rfl HT_ (by kernel_rfl) (fun _ _ _ h => h) rfl ?_ ?_ ?_ ?_; rotate_left; (intro w'; go_simp; with_reducible rfl); rotate_left; (simp only [zs]; rfl)
                refine zp 8 (zb 39 495) ?_ rfl rfl HT_ (by kernel_rfl) (fun _ _ _ h => h) rfl ?_ ?_ ?_ ?_; rotate_left; (intro w'; go_simp; with_reducible rfl); rotate_left; (simp only [zs]; rfl)
                refine zt 4 (zb 39 511) ?_ rfl rfl HT_ HW_ (by kernel_rfl) (fun _ _ _ h => h) rfl ?_ hHeld ?_ ?_ ?_; rotate_left; (rintro w' ⟨s0, s1, s2, s3, s4, s5, s6, s7, s8, s9, s10, s11⟩; go_simp; with_reducible rfl); rotate_left; (simp only [zs]; rfl)
                refine zt 9 (zb 39 1023) ?_ rfl rfl HT_ HW_ (by kernel_rfl) (fun _ _ _ h => h) rfl ?_ hHeld ?_ ?_ ?_; rotate_left; (rintro w' ⟨s0, s1, s2, s3, s4, s5, s6, s7, s8, s9, s10, s11⟩; go_simp; with_reducible rfl); rotate_left; (simp only [zs]; rfl)
                refine zp 10 (zb 39 2047) ?_ rfl rfl HT_ (by kernel_rfl) (fun _ _ _ h => h) rfl ?_ ?_ ?_ ?_; rotate_left; (intro w'; go_simp; with_reducible rfl); rotate_left; (simp only [zs]; rfl)
                refine zp 11 (zb 39 4095) ?_ rfl rfl HT_ (by kernel_rfl) (fun _ _ _ h => h) rfl ?_ ?_ ?_ ?_; rotate_left; (intro w'; go_simp; with_reducible rfl); rotate_left; (simp only [zs]; rfl)
                refine zp 12 (zb 39 8191) ?_ rfl rfl HT_ (by kernel_rfl) (fun _ _ _ h => h) rfl ?_ ?_ ?_ ?_; rotate_left; (intro w'; go_simp; with_reducible rfl); rotate_left; (simp only [zs]; rfl)
                refine zp 13 (zb 39 16383) ?_ rfl rfl HT_ (by kernel_rfl) (fun _ _ _ h => h) rfl ?_ ?_ ?_ ?_; rotate_left; (intro w'; go_simp; with_reducible rfl); rotate_left; (simp only [zs]; rfl)
                refine zp 14 (zb 39 32767) ?_ rfl rfl HT_ (by kernel_rfl) (fun _ _ _ h => h) rfl ?_ ?_ ?_ ?_; rotate_left; (intro w'; go_simp; with_reducible rfl); rotate_left; (simp only [zs]; rfl)
                refine zp 15 (zb 39 65535) ?_ rfl rfl HT_ (by kernel_rfl) (fun _ _ _ h => h) rfl ?_ ?_ ?_ ?_; rotate_left; (intro w'; go_simp; with_reducible rfl); rotate_left; (simp only [zs]; rfl)
                refine zp 17 (zb 39 196607) ?_ rfl rfl HT_ (by kernel_rfl) (fun _ _ _ h => h) rfl ?_ ?_ ?_ ?_; rotate_left; (intro w'; go_simp; with_reducible rfl); rotate_left; (simp only [zs]; rfl)
                refine zp 18 (zb 39 458751) ?_ rfl rfl HT_ (by kernel_rfl) (fun _ _ _ h => h) rfl ?_ ?_ ?_ ?_; rotate_left; (intro w'; go_simp; with_reducible rfl); rotate_left; (simp only [zs]; rfl)
                refine zp 19 (zb 39 983039) ?_ rfl rfl HT_ (by kernel_rfl) (fun _ _ _ h => h) rfl ?_ ?_ ?_ ?_; rotate_left; (intro w'; go_simp; with_reducible rfl); rotate_left; (simp only [zs]; rfl)
                refine zp 20 (zb 39 2031615) ?_ rfl rfl HT_ (by kernel_rfl) (fun _ _ _ h => h) rfl ?_ ?_ ?_ ?_; rotate_left; (intro w'; go_simp; with_reducible rfl); rotate_left; (simp only [zs]; rfl)
                refine zt 16 (zb 39 2097151) ?_ rfl rfl HT_ HW_ (by kernel_rfl) (fun _ _ _ h => h) rfl ?_ hHeld ?_ ?_ ?_; rotate_left; (rintro w' ⟨s0, s1, s2, s3, s4, s5, s6, s7, s8, s9, s10, s11⟩; go_simp; with_reducible rfl); rotate_left; (simp only [zs]; rfl)
                refine zt 21 (zb 39 4194303) ?_ rfl rfl HT_ HW_ (by kernel_rfl) (fun _ _ _ h => h) rfl ?_ hHeld ?_ ?_ ?_; rotate_left; (rintro w' ⟨s0, s1, s2, s3, s4, s5, s6, s7, s8, s9, s10, s11⟩; go_simp; with_reducible rfl); rotate_left; (simp only [zs]; rfl)
                refine zp 22 (zb 39 8388607) ?_ rfl rfl HT_ (by kernel_rfl) (fun _ _ _ h => h) rfl ?_ ?_ ?_ ?_; rotate_left; (intro w'; go_simp; with_reducible rfl); rotate_left; (simp only [zs]; rfl)
                refine zp 23 (zb 39 16777215) ?_ rfl rfl HT_ (by kernel_rfl) (fun _ _ _ h => h) rfl ?_ ?_ ?_ ?_; rotate_left; (intro w'; go_simp; with_reducible rfl); rotate_left; (simp only [zs]; rfl)
                refine zp 24 (zb 39 33554431) ?_ rfl rfl HT_ (by kernel_rfl) (fun _ _ _ h => h) rfl ?_ ?_ ?_ ?_; rotate_left; (intro w'; go_simp; with_reducible rfl); rotate_left; (simp only [zs]; rfl)
                refine zn 25 (zb 39 67108863) rfl rfl HT_ (by kernel_rfl) (fun _ _ _ h => h) rfl ?_ ?_ ?_; rotate_left; (simp only [zs]; rfl)
                refine zn 26 (zb 39 134217727) rfl rfl HT_ (by kernel_rfl) (fun _ _ _ h => h) rfl ?_ ?_ ?_; rotate_left; (simp only [zs]; rfl)
                refine zn 27 (zb 39 268435455) rfl rfl HT_ (by kernel_rfl) (fun _ _ _ h => h) rfl ?_ ?_ ?_; rotate_left; (simp only [zs]; rfl)
                refine zn 28 (zb 39 536870911) rfl rfl HT_ (by kernel_rfl) (fun _ _ _ h => h) rfl ?_ ?_ ?_; rotate_left; (simp only [zs]; rfl)
                refine zn 29 (zb 39 1073741823) rfl rfl HT_ (by kernel_rfl) (fun _ _ _ h => h) rfl ?_ ?_ ?_; rotate_left; (simp only [zs]; rfl)
                refine zn 30 (zb 39 2147483647) rfl rfl HT_ (by kernel_rfl) (fun _ _ _ h => h) rfl ?_ ?_ ?_; rotate_left; (simp only [zs]; rfl)
                refine zn 31 (zb 39 4294967295) rfl rfl HT_ (by kernel_rfl) (fun _ _ _ h => h) rfl ?_ ?_ ?_; rotate_left; (simp only [zs]; rfl)
                refine zn 32 (zb 39 8589934591) rfl rfl HT_ (by kernel_rfl) (fun _ _ _ h => h) rfl ?_ ?_ ?_; rotate_left; (simp only [zs]; rfl)
                refine zn 33 (zb 39 17179869183) rfl rfl HT_ (by kernel_rfl) (fun _ _ _ h => h) rfl ?_ ?_ ?_; rotate_left; (simp only [zs]; rfl)
                refine zn 34 (zb 39 34359738367) rfl rfl HT_ (by kernel_rfl) (fun _ _ _ h => h) rfl ?_ ?_ ?_; rotate_left; (simp only [zs]; rfl)
                refine zn 35 (zb 39 68719476735) rfl rfl HT_ (by kernel_rfl) (fun _ _ _ h => h) rfl ?_ ?_ ?_; rotate_left; (simp only [zs]; rfl)
                refine zn 36 (zb 39 137438953471) rfl rfl HT_ (by kernel_rfl) (fun _ _ _ h => h) rfl ?_ ?_ ?_; rotate_left; (simp only [zs]; rfl)
                refine zn 37 (zb 39 274877906943) rfl rfl HT_ (by kernel_rfl) (fun _ _ _ h => h) rfl ?_ ?_ ?_; rotate_left; (simp only [zs]; rfl)
                refine zp 38 (zb 39 549755813887) ?_ rfl rfl HT_ (by kernel_rfl) (fun _ _ _ h => h) rfl ?_ ?_ ?_ ?_; rotate_left; (intro w'; go_simp; with_reducible rfl); rotate_left; (simp only [zs]; rfl)
                refine done_ (done_of HT_.out (by kernel_rfl)) ?_
                try go_wp2
                go_meet
                case rel => exact ⟨_, (true), (by first | rfl ), H', ⟨by have := HK1.out; first | omega | exact Nat.le_refl _⟩, ⟨by exact HB.out⟩⟩
            · rw [if_neg c8] at H
              have c8b0 : (((rd_T70 l0 x5_1).f0) == ((rd_T70 l1 x5_1).f0)) = false := beq_eq_false_iff_ne.mpr c8
              have c8b1 : (((rd_T70 l0 x5_1).f0) != ((rd_T70 l1 x5_1).f0)) = true := bne_iff_ne.mpr c8
              have H' := Aside0.mk H
              clear H
              try go_wp2
              have n0_ := Aside0.mk (below_drew1 HB.out)
              clear HB
              have HB := n0_
              clear n0_
              have p127 : 0 ≤ (x5_1 : Int) := of_decide_eq_true (by first | (with_reducible assumption) )
              have q127 : x5_1 < (l0.length : Int) := of_decide_eq_true (by first | (with_reducible assumption) )
              obtain ⟨ad127, A127_2, c127_2, e127, hx127_0, hx127_1, hx127_2, hl127_2, hi127_2⟩ := at_T70 HR0.out x5_1 p127 q127
              have hw127_2 := hx127_2
              have hw127_1 := hx127_1
              have hw127_0 := hx127_0
              cases e127
              replace hx127_0 := (HB.out.cell (World.block_lt_of_cell? w _ hx127_0)).trans hx127_0
              replace hx127_1 := (HB.out.cell (World.block_lt_of_cell? w _ hx127_1)).trans hx127_1
              replace hx127_2 := (HB.out.cell (World.block_lt_of_cell? w _ hx127_2)).trans hx127_2
              have HR127_2 := Aside0.mk hi127_2
              have HC127_2 := Aside0.mk hl127_2
              clear hi127_2 hl127_2
              replace p127 := eq_true p127
              replace q127 := eq_true q127
              have p128 : 0 ≤ (x5_1 : Int) := of_decide_eq_true (by first | (with_reducible assumption) )
              have q128 : x5_1 < (l1.length : Int) := of_decide_eq_true (by first | (with_reducible assumption) )
              obtain ⟨ad128, A128_2, c128_2, e128, hx128_0, hx128_1, hx128_2, hl128_2, hi128_2⟩ := at_T70 HR1.out x5_1 p128 q128
              have hw128_2 := hx128_2
              have hw128_1 := hx128_1
              have hw128_0 := hx128_0
              cases e128
              replace hx128_0 := (HB.out.cell (World.block_lt_of_cell? w _ hx128_0)).trans hx128_0
              replace hx128_1 := (HB.out.cell (World.block_lt_of_cell? w _ hx128_1)).trans hx128_1
              replace hx128_2 := (HB.out.cell (World.block_lt_of_cell? w _ hx128_2)).trans hx128_2
              have HR128_2 := Aside0.mk hi128_2
              have HC128_2 := Aside0.mk hl128_2
              clear hi128_2 hl128_2
              replace p128 := eq_true p128
              replace q128 := eq_true q128
              refine start_ (n := 39) (S := fun w' => w'.cell? (ad127.add ((x5_1).toNat * 3)) = some (.int .u64 ((rd_T70 l0 x5_1).f0)) ∧ w'.cell? ⟨(ad127.add ((x5_1).toNat * 3)).block, (ad127.add ((x5_1).toNat * 3)).off + 1, none⟩ = some (.string ((rd_T70 l0 x5_1).f1)) ∧ w'.cell? ⟨(ad127.add ((x5_1).toNat * 3)).block, (ad127.add ((x5_1).toNat * 3)).off + 2, none⟩ = some (.slice A127_2 ((rd_T70 l0 x5_1).f2).length c127_2) ∧ w'.cell? (ad128.add ((x5_1).toNat * 3)) = some (.int .u64 ((rd_T70 l1 x5_1).f0)) ∧ w'.cell? ⟨(ad128.add ((x5_1).toNat * 3)).block, (ad128.add ((x5_1).toNat * 3)).off + 1, none⟩ = some (.string ((rd_T70 l1 x5_1).f1)) ∧ w'.cell? ⟨(ad128.add ((x5_1).toNat * 3)).block, (ad128.add ((x5_1).toNat * 3)).off + 2, none⟩ = some (.slice A128_2 ((rd_T70 l1 x5_1).f2).length c128_2)) (ds := []) #[false, false, false, false, false, false, false, false, false, false, false, false, false, false, false, false, false, false, false, false, false, false, false, false, false, false, false, false, false, false, false, false, false, false, false, false, false, false, false] (by kernel_rfl) rfl rfl ⟨((HB.out.cell (World.block_lt_of_cell? w _ hw127_0)).trans hw127_0), ((HB.out.cell (World.block_lt_of_cell? w _ hw127_1)).trans hw127_1), ((HB.out.cell (World.block_lt_of_cell? w _ hw127_2)).trans hw127_2), ((HB.out.cell (World.block_lt_of_cell? w _ hw128_0)).trans hw128_0), ((HB.out.cell (World.block_lt_of_cell? w _ hw128_1)).trans hw128_1), ((HB.out.cell (World.block_lt_of_cell? w _ hw128_2)).trans hw128_2)⟩ (fun hHeld => ?_); refine with_tabW ecdysisref19_SameVals.tab6 ecdysisref19_SameVals.bits6 (fun HT_ HW_ => ?_)
              generalize wr.drew = w12 at HB HR127_2 HR128_2 hx127_0 hx127_1 hx127_2 hx128_0 hx128_1 hx128_2 hHeld ⊢
              refine zp 0 (zb 39 1) ?_ rfl rfl HT_ (by kernel_rfl) (fun _ _ _ h => h) rfl ?_ ?_ ?_ ?_; rotate_left; (intro w'; go_simp; with_reducible rfl); rotate_left; (simp only [zs]; rfl)
              refine zp 1 (zb 39 3) ?_ rfl rfl HT_ (by kernel_rfl) (fun _ _ _ h => h) rfl ?_ ?_ ?_ ?_; rotate_left; (intro w'; go_simp; with_reducible rfl); rotate_left; (simp only [zs]; rfl)
              refine zp 2 (zb 39 7) ?_ rfl rfl HT_ (by kernel_rfl) (fun _ _ _ h => h) rfl ?_ ?_ ?_ ?_; rotate_left; (intro w'; go_simp; with_reducible rfl); rotate_left; (simp only [zs]; rfl)
              refine zp 3 (zb 39 15) ?_ rfl rfl HT_ (by kernel_rfl) (fun _ _ _ h => h) rfl ?_ ?_ ?_ ?_; rotate_left; (intro w'; go_simp; with_reducible rfl); rotate_left; (simp only [zs]; rfl)
              refine zp 5 (zb 39 47) ?_ rfl rfl HT_ (by kernel_rfl) (fun _ _ _ h => h) rfl ?_ ?_ ?_ ?_; rotate_left; (intro w'; go_simp; with_reducible rfl); rotate_left; (simp only [zs]; rfl)
              refine zp 6 (zb 39 111) ?_ rfl rfl HT_ (by kernel_rfl) (fun _ _ _ h => h) rfl ?_ ?_ ?_ ?_; rotate_left; (intro w'; go_simp; with_reducible rfl); rotate_left; (simp only [zs]; rfl)
              refine zp 7 (zb 39 239) ?_ rfl rfl HT_ (by kernel_rfl) (fun _ _ _ h => h) rfl ?_ ?_ ?_ ?_; rotate_left; (intro w'; go_simp; with_reducible rfl); rotate_left; (simp only [zs]; rfl)
              refine zp 8 (zb 39 495) ?_ rfl rfl HT_ (by kernel_rfl) (fun _ _ _ h => h) rfl ?_ ?_ ?_ ?_; rotate_left; (intro w'; go_simp; with_reducible rfl); rotate_left; (simp only [zs]; rfl)
              refine zt 4 (zb 39 511) ?_ rfl rfl HT_ HW_ (by kernel_rfl) (fun _ _ _ h => h) rfl ?_ hHeld ?_ ?_ ?_; rotate_left; (rintro w' ⟨s0, s1, s2, s3, s4, s5⟩; go_simp; with_reducible rfl); rotate_left; (simp only [zs]; rfl)
              refine zt 9 (zb 39 1023) ?_ rfl rfl HT_ HW_ (by kernel_rfl) (fun _ _ _ h => h) rfl ?_ hHeld ?_ ?_ ?_; rotate_left; (rintro w' ⟨s0, s1, s2, s3, s4, s5⟩; go_simp; with_reducible rfl); rotate_left; (simp only [zs]; rfl)
              refine zp 10 (zb 39 2047) ?_ rfl rfl HT_ (by kernel_rfl) (fun _ _ _ h => h) rfl ?_ ?_ ?_ ?_; rotate_left; (intro w'; go_simp; with_reducible rfl); rotate_left; (simp only [zs]; rfl)
              refine zp 11 (zb 39 4095) ?_ rfl rfl HT_ (by kernel_rfl) (fun _ _ _ h => h) rfl ?_ ?_ ?_ ?_; rotate_left; (intro w'; go_simp; with_reducible rfl); rotate_left; (simp only [zs]; rfl)
              refine zn 12 (zb 39 8191) rfl rfl HT_ (by kernel_rfl) (fun _ _ _ h => h) rfl ?_ ?_ ?_; rotate_left; (simp only [zs]; rfl)
              refine zn 13 (zb 39 16383) rfl rfl HT_ (by kernel_rfl) (fun _ _ _ h => h) rfl ?_ ?_ ?_; rotate_left; (simp only [zs]; rfl)
              refine zn 14 (zb 39 32767) rfl rfl HT_ (by kernel_rfl) (fun _ _ _ h => h) rfl ?_ ?_ ?_; rotate_left; (simp only [zs]; rfl)
              refine zn 15 (zb 39 65535) rfl rfl HT_ (by kernel_rfl) (fun _ _ _ h => h) rfl ?_ ?_ ?_; rotate_left; (simp only [zs]; rfl)
              refine zn 16 (zb 39 131071) rfl rfl HT_ (by kernel_rfl) (fun _ _ _ h => h) rfl ?_ ?_ ?_; rotate_left; (simp only [zs]; rfl)
              refine zn 17 (zb 39 262143) rfl rfl HT_ (by kernel_rfl) (fun _ _ _ h => h) rfl ?_ ?_ ?_; rotate_left; (simp only [zs]; rfl)
              refine zn 18 (zb 39 524287) rfl rfl HT_ (by kernel_rfl) (fun _ _ _ h => h) rfl ?_ ?_ ?_; rotate_left; (simp only [zs]; rfl)
              refine zn 19 (zb 39 1048575) rfl rfl HT_ (by kernel_rfl) (fun _ _ _ h => h) rfl ?_ ?_ ?_; rotate_left; (simp only [zs]; rfl)
              refine zn 20 (zb 39 2097151) rfl rfl HT_ (by kernel_rfl) (fun _ _ _ h => h) rfl ?_ ?_ ?_; rotate_left; (simp only [zs]; rfl)
              refine zn 21 (zb 39 4194303) rfl rfl HT_ (by kernel_rfl) (fun _ _ _ h => h) rfl ?_ ?_ ?_; rotate_left; (simp only [zs]; rfl)
              refine zn 22 (zb 39 8388607) rfl rfl HT_ (by kernel_rfl) (fun _ _ _ h => h) rfl ?_ ?_ ?_; rotate_left; (simp only [zs]; rfl)
              refine zp 23 (zb 39 16777215) ?_ rfl rfl HT_ (by kernel_rfl) (fun _ _ _ h => h) rfl ?_ ?_ ?_ ?_; rotate_left; (intro w'; go_simp; with_reducible rfl); rotate_left; (simp only [zs]; rfl)
              refine zp 24 (zb 39 33554431) ?_ rfl rfl HT_ (by kernel_rfl) (fun _ _ _ h => h) rfl ?_ ?_ ?_ ?_; rotate_left; (intro w'; go_simp; with_reducible rfl); rotate_left; (simp only [zs]; rfl)
              refine zn 25 (zb 39 67108863) rfl rfl HT_ (by kernel_rfl) (fun _ _ _ h => h) rfl ?_ ?_ ?_; rotate_left; (simp only [zs]; rfl)
              refine zn 26 (zb 39 134217727) rfl rfl HT_ (by kernel_rfl) (fun _ _ _ h => h) rfl ?_ ?_ ?_; rotate_left; (simp only [zs]; rfl)
              refine zn 27 (zb 39 268435455) rfl rfl HT_ (by kernel_rfl) (fun _ _ _ h => h) rfl ?_ ?_ ?_; rotate_left; (simp only [zs]; rfl)
              refine zn 28 (zb 39 536870911) rfl rfl HT_ (by kernel_rfl) (fun _ _ _ h => h) rfl ?_ ?_ ?_; rotate_left; (simp only [zs]; rfl)
              refine zn 29 (zb 39 1073741823) rfl rfl HT_ (by kernel_rfl) (fun _ _ _ h => h) rfl ?_ ?_ ?_; rotate_left; (simp only [zs]; rfl)
              refine zn 30 (zb 39 2147483647) rfl rfl HT_ (by kernel_rfl) (fun _ _ _ h => h) rfl ?_ ?_ ?_; rotate_left; (simp only [zs]; rfl)
              refine zn 31 (zb 39 4294967295) rfl rfl HT_ (by kernel_rfl) (fun _ _ _ h => h) rfl ?_ ?_ ?_; rotate_left; (simp only [zs]; rfl)
              refine zn 32 (zb 39 8589934591) rfl rfl HT_ (by kernel_rfl) (fun _ _ _ h => h) rfl ?_ ?_ ?_; rotate_left; (simp only [zs]; rfl)
              refine zn 33 (zb 39 17179869183) rfl rfl HT_ (by kernel_rfl) (fun _ _ _ h => h) rfl ?_ ?_ ?_; rotate_left; (simp only [zs]; rfl)
              refine zn 34 (zb 39 34359738367) rfl rfl HT_ (by kernel_rfl) (fun _ _ _ h => h) rfl ?_ ?_ ?_; rotate_left; (simp only [zs]; rfl)
              refine zn 35 (zb 39 68719476735) rfl rfl HT_ (by kernel_rfl) (fun _ _ _ h => h) rfl ?_ ?_ ?_; rotate_left; (simp only [zs]; rfl)
              refine zn 36 (zb 39 137438953471) rfl rfl HT_ (by kernel_rfl) (fun _ _ _ h => h) rfl ?_ ?_ ?_; rotate_left; (simp only [zs]; rfl)
              refine zn 37 (zb 39 274877906943) rfl rfl HT_ (by kernel_rfl) (fun _ _ _ h => h) rfl ?_ ?_ ?_; rotate_left; (simp only [zs]; rfl)
              refine zp 38 (zb 39 549755813887) ?_ rfl rfl HT_ (by kernel_rfl) (fun _ _ _ h => h) rfl ?_ ?_ ?_ ?_; rotate_left; (intro w'; go_simp; with_reducible rfl); rotate_left; (simp only [zs]; rfl)
              refine done_ (done_of HT_.out (by kernel_rfl)) ?_
              try go_wp2
              go_meet
              case rel => exact ⟨_, (true), (by first | rfl ), H', ⟨by have := HK1.out; first | omega | exact Nat.le_refl _⟩, ⟨by exact HB.out⟩⟩
          · rw [if_neg c7] at H
            exact absurd H (by simp)
        · rw [if_neg c6] at H
          exact absurd H (by simp)
       case rest =>
        clear HC5
        try clear c1
        try clear p1
        try clear q1
        try clear hx1
        try clear p2
        try clear c6
        try clear c7
        try clear c8
        try clear c8b0
        try clear c8b1
        try clear c12
        try clear p12
        try clear q12
        try clear hx12
        try clear hx127_0
        try clear hx127_1
        try clear hx127_2
        try clear hx128_0
        try clear hx128_1
        try clear hx128_2
        try clear hx129_0
        try clear hx129_1
        try clear hx129_2
        try clear hx130_0
        try clear hx130_1
        try clear hx130_2
        try clear p127
        try clear p128
        try clear p129
        try clear p130
        try clear q127
        try clear q128
        try clear q129
        try clear q130
        obtain ⟨kq, x56_4, rfl, HA, HJ4, HB⟩ := hcut
        cases kq with
        | zero => exact absurd HA.out (by simp [ecdysisref19_SameVals.j1])
        | succ kj4 =>
          have H := HA.out
          clear HA
          simp only [ecdysisref19_SameVals.j1] at H
          by_cases c13 : x56_4 = true
          · subst c13
            have H1 : (some false) = some r := by rw [if_pos rfl] at H; exact H
            clear H
            have H := H1
            clear H1
            obtain rfl := Option.some.inj H
            go_wp2
            go_ret
            exact ⟨by first | rfl , by exact HB.out⟩
          · replace c13 := Bool.eq_false_iff.mpr c13
            subst c13
            have H1 : (ecdysisref19_SameVals.l1 kj4 l0 l1 x5_1 0) = some r := by rw [if_neg (show ¬ (false = true) by decide)] at H; exact H
            clear H
            have H := H1
            clear H1
            have H' := Aside0.mk H
            clear H
            go_wp2
            go_loopg [6] kj4 (fun kq v6 w' => ∃ (x6_3 : Int), v6 = .int .i64 x6_3 ∧ Aside0 (ecdysisref19_SameVals.l1 kq l0 l1 x5_1 x6_3 = some r) ∧ Aside0 (kq ≤ kj4) ∧ Aside0 (Below w.heap.size w w'))
            case atStart => exact ⟨(0), (by first | rfl ), H', ⟨Nat.le_refl _⟩, ⟨by exact HB.out⟩⟩
            case round =>
              clear H'
              try clear c1
              try clear p1
              try clear q1
              try clear hx1
              try clear p2
              try clear c6
              try clear c7
              try clear c8
              try clear c8b0
              try clear c8b1
              try clear c12
              try clear p12
              try clear q12
              try clear hx12
              try clear c13
              try clear p13
              try clear q13
              try clear hx13
              try clear hx127_0
              try clear hx127_1
              try clear hx127_2
              try clear hx128_0
              try clear hx128_1
              try clear hx128_2
              try clear hx129_0
              try clear hx129_1
              try clear hx129_2
              try clear hx130_0
              try clear hx130_1
              try clear hx130_2
              try clear p1
              try clear p12
              try clear p127
              try clear p128
              try clear p129
              try clear p130
              try clear p2
              try clear q1
              try clear q12
              try clear q127
              try clear q128
              try clear q129
              try clear q130
              obtain ⟨x6_3, rfl, HA, HK3, HB⟩ := hrel
              cases gk with
              | zero => exact absurd HA.out (by simp [ecdysisref19_SameVals.l1])
              | succ k3 =>
                have H := HA.out
                clear HA
                simp only [ecdysisref19_SameVals.l1] at H
                by_cases c14 : 0 ≤ x5_1
                · rw [if_pos c14] at H
                  have c14b0 : decide (0 ≤ x5_1) = true := decide_eq_true c14
                  clear c14
                  by_cases c15 : x5_1 < (l0.length : Int)
                  · rw [if_pos c15] at H
                    have c15b0 : decide (x5_1 < (l0.length : Int)) = true := decide_eq_true c15
                    clear c15
                    by_cases c16 : x6_3 < (((rd_T70 l0 x5_1).f2).length : Int)
                    · rw [if_pos c16] at H
                      have c16b0 : decide (x6_3 < (((rd_T70 l0 x5_1).f2).length : Int)) = true := decide_eq_true c16
                      clear c16
                      by_cases c17 : 0 ≤ x6_3
                      · rw [if_pos c17] at H
                        have c17b0 : decide (0 ≤ x6_3) = true := decide_eq_true c17
                        clear c17
                        by_cases c18 : x5_1 < (l1.length : Int)
                        · rw [if_pos c18] at H
                          have c18b0 : decide (x5_1 < (l1.length : Int)) = true := decide_eq_true c18
                          clear c18
                          by_cases c19 : x6_3 < (((rd_T70 l1 x5_1).f2).length : Int)
                          · rw [if_pos c19] at H
                            have c19b0 : decide (x6_3 < (((rd_T70 l1 x5_1).f2).length : Int)) = true := decide_eq_true c19
                            clear c19
                            replace H := Option.bind_eq_some_iff.mp H
                            obtain ⟨t138, A200, H⟩ := H
                            replace H : (if t138 = true then (ecdysisref19_SameVals.l1 k3 l0 l1 x5_1 (wrap64 (x6_3 + 1))) else (some false)) = some r := H
                            have A20 := Aside0.mk A200
                            clear A200
                            by_cases c21 : t138 = true
                            · subst c21
                              have H1 : (ecdysisref19_SameVals.l1 k3 l0 l1 x5_1 (wrap64 (x6_3 + 1))) = some r := by rw [if_pos rfl] at H; exact H
                              clear H
                              have H := H1
                              clear H1
                              have H' := Aside0.mk H
                              clear H
                              have p133 : 0 ≤ (x5_1 : Int) := of_decide_eq_true (by first | (with_reducible assumption) )
                              have q133 : x5_1 < (l0.length : Int) := of_decide_eq_true (by first | (with_reducible assumption) )
                              obtain ⟨ad133, A133_2, c133_2, e133, hx133_0, hx133_1, hx133_2, hl133_2, hi133_2⟩ := at_T70 HR0.out x5_1 p133 q133
                              cases e133
                              replace hx133_0 := (HB.out.cell (World.block_lt_of_cell? w _ hx133_0)).trans hx133_0
                              replace hx133_1 := (HB.out.cell (World.block_lt_of_cell? w _ hx133_1)).trans hx133_1
                              replace hx133_2 := (HB.out.cell (World.block_lt_of_cell? w _ hx133_2)).trans hx133_2
                              have HR133_2 := Aside0.mk hi133_2
                              have HC133_2 := Aside0.mk hl133_2
                              clear hi133_2 hl133_2
                              replace p133 := eq_true p133
                              replace q133 := eq_true q133
                              try go_wp2
                              have n0_ := Aside0.mk (below_drew1 HB.out)
                              clear HB
                              have HB := n0_
                              clear n0_
                              have p134 : 0 ≤ (x5_1 : Int) := of_decide_eq_true (by first | (with_reducible assumption) )
                              have q134 : x5_1 < (l0.length : Int) := of_decide_eq_true (by first | (with_reducible assumption) )
                              obtain ⟨ad134, A134_2, c134_2, e134, hx134_0, hx134_1, hx134_2, hl134_2, hi134_2⟩ := at_T70 HR0.out x5_1 p134 q134
                              have hw134_2 := hx134_2
                              have hw134_1 := hx134_1
                              have hw134_0 := hx134_0
                              obtain rfl : ad133 = ad134 := (by injection e134)
                              replace hx134_0 := (HB.out.cell (World.block_lt_of_cell? w _ hx134_0)).trans hx134_0
                              replace hx134_1 := (HB.out.cell (World.block_lt_of_cell? w _ hx134_1)).trans hx134_1
                              replace hx134_2 := (HB.out.cell (World.block_lt_of_cell? w _ hx134_2)).trans hx134_2
                              have HR134_2 := Aside0.mk hi134_2
                              have HC134_2 := Aside0.mk hl134_2
                              clear hi134_2 hl134_2
                              replace p134 := eq_true p134
                              replace q134 := eq_true q134
                              have p135 : 0 ≤ (x6_3 : Int) := of_decide_eq_true (by first | (with_reducible assumption) )
                              have q135 : x6_3 < (((rd_T70 l0 x5_1).f2).length : Int) := of_decide_eq_true (by first | (with_reducible assumption) )
                              obtain ⟨ad135, A135_0, c135_0, A135_1, c135_1, e135, hx135_0, hx135_1, hl135_0, hi135_0, hl135_1, hi135_1⟩ := at_T25 HR134_2.out x6_3 p135 q135
                              have hw135_1 := hx135_1
                              have hw135_0 := hx135_0
                              cases e135
                              replace hx135_0 := (HB.out.cell (World.block_lt_of_cell? w _ hx135_0)).trans hx135_0
                              replace hx135_1 := (HB.out.cell (World.block_lt_of_cell? w _ hx135_1)).trans hx135_1
                              have HR135_0 := Aside0.mk hi135_0
                              have HC135_0 := Aside0.mk hl135_0
                              clear hi135_0 hl135_0
                              have HR135_1 := Aside0.mk hi135_1
                              have HC135_1 := Aside0.mk hl135_1
                              clear hi135_1 hl135_1
                              replace p135 := eq_true p135
                              replace q135 := eq_true q135
                              have p136 : 0 ≤ (x5_1 : Int) := of_decide_eq_true (by first | (with_reducible assumption) )
                              have q136 : x5_1 < (l1.length : Int) := of_decide_eq_true (by first | (with_reducible assumption) )
                              obtain ⟨ad136, A136_2, c136_2, e136, hx136_0, hx136_1, hx136_2, hl136_2, hi136_2⟩ := at_T70 HR1.out x5_1 p136 q136
                              have hw136_2 := hx136_2
                              have hw136_1 := hx136_1
                              have hw136_0 := hx136_0
                              cases e136
                              replace hx136_0 := (HB.out.cell (World.block_lt_of_cell? w _ hx136_0)).trans hx136_0
                              replace hx136_1 := (HB.out.cell (World.block_lt_of_cell? w _ hx136_1)).trans hx136_1
                              replace hx136_2 := (HB.out.cell (World.block_lt_of_cell? w _ hx136_2)).trans hx136_2
                              have HR136_2 := Aside0.mk hi136_2
                              have HC136_2 := Aside0.mk hl136_2
                              clear hi136_2 hl136_2
                              replace p136 := eq_true p136
                              replace q136 := eq_true q136
                              have p137 : 0 ≤ (x6_3 : Int) := of_decide_eq_true (by first | (with_reducible assumption) )
                              have q137 : x6_3 < (((rd_T70 l1 x5_1).f2).length : Int) := of_decide_eq_true (by first | (with_reducible assumption) )
                              obtain ⟨ad137, A137_0, c137_0, A137_1, c137_1, e137, hx137_0, hx137_1, hl137_0, hi137_0, hl137_1, hi137_1⟩ := at_T25 HR136_2.out x6_3 p137 q137
                              have hw137_1 := hx137_1
                              have hw137_0 := hx137_0
                              cases e137
                              replace hx137_0 := (HB.out.cell (World.block_lt_of_cell? w _ hx137_0)).trans hx137_0
                              replace hx137_1 := (HB.out.cell (World.block_lt_of_cell? w _ hx137_1)).trans hx137_1
                              have HR137_0 := Aside0.mk hi137_0
                              have HC137_0 := Aside0.mk hl137_0
                              clear hi137_0 hl137_0
                              have HR137_1 := Aside0.mk hi137_1
                              have HC137_1 := Aside0.mk hl137_1
                              clear hi137_1 hl137_1
                              replace p137 := eq_true p137
                              replace q137 := eq_true q137
                              refine start_ (n := 18) (S := fun w' => w'.cell? (ad133.add ((x5_1).toNat * 3)) = some (.int .u64 ((rd_T70 l0 x5_1).f0)) ∧ w'.cell? ⟨(ad133.add ((x5_1).toNat * 3)).block, (ad133.add ((x5_1).toNat * 3)).off + 1, none⟩ = some (.string ((rd_T70 l0 x5_1).f1)) ∧ w'.cell? ⟨(ad133.add ((x5_1).toNat * 3)).block, (ad133.add ((x5_1).toNat * 3)).off + 2, none⟩ = some (.slice (some ad135) ((rd_T70 l0 x5_1).f2).length c134_2) ∧ w'.cell? (ad135.add ((x6_3).toNat * 2)) = some (.slice A135_0 ((rd_T25 ((rd_T70 l0 x5_1).f2) x6_3).f0).length c135_0) ∧ w'.cell? ⟨(ad135.add ((x6_3).toNat * 2)).block, (ad135.add ((x6_3).toNat * 2)).off + 1, none⟩ = some (.slice A135_1 ((rd_T25 ((rd_T70 l0 x5_1).f2) x6_3).f1).length c135_1) ∧ w'.cell? (ad136.add ((x5_1).toNat * 3)) = some (.int .u64 ((rd_T70 l1 x5_1).f0)) ∧ w'.cell? ⟨(ad136.add ((x5_1).toNat * 3)).block, (ad136.add ((x5_1).toNat * 3)).off + 1, none⟩ = some (.string ((rd_T70 l1 x5_1).f1)) ∧ w'.cell? ⟨(ad136.add ((x5_1).toNat * 3)).block, (ad136.add ((x5_1).toNat * 3)).off + 2, none⟩ = some (.slice (some ad137) ((rd_T70 l1 x5_1).f2).length c136_2) ∧ w'.cell? (ad137.add ((x6_3).toNat * 2)) = some (.slice A137_0 ((rd_T25 ((rd_T70 l1 x5_1).f2) x6_3).f0).length c137_0) ∧ w'.cell? ⟨(ad137.add ((x6_3).toNat * 2)).block, (ad137.add ((x6_3).toNat * 2)).off + 1, none⟩ = some (.slice A137_1 ((rd_T25 ((rd_T70 l1 x5_1).f2) x6_3).f1).length c137_1)) (ds := []) #[false, false, false, false, false, false, false, false, false, false, false, false, false, false, false, false, false, false] (by kernel_rfl) rfl rfl ⟨((HB.out.cell (World.block_lt_of_cell? w _ hw134_0)).trans hw134_0), ((HB.out.cell (World.block_lt_of_cell? w _ hw134_1)).trans hw134_1), ((HB.out.cell (World.block_lt_of_cell? w _ hw134_2)).trans hw134_2), ((HB.out.cell (World.block_lt_of_cell? w _ hw135_0)).trans hw135_0), ((HB.out.cell (World.block_lt_of_cell? w _ hw135_1)).trans hw135_1), ((HB.out.cell (World.block_lt_of_cell? w _ hw136_0)).trans hw136_0), ((HB.out.cell (World.block_lt_of_cell? w _ hw136_1)).trans hw136_1), ((HB.out.cell (World.block_lt_of_cell? w _ hw136_2)).trans hw136_2), ((HB.out.cell (World.block_lt_of_cell? w _ hw137_0)).trans hw137_0), ((HB.out.cell (World.block_lt_of_cell? w _ hw137_1)).trans hw137_1)⟩ (fun hHeld => ?_); refine with_tabW ecdysisref19_SameVals.tab11 ecdysisref19_SameVals.bits11 (fun HT_ HW_ => ?_)
                              generalize wr.drew = w22 at HB HR134_2 HR135_0 HR135_1 HR136_2 HR137_0 HR137_1 hx134_0 hx134_1 hx134_2 hx135_0 hx135_1 hx136_0 hx136_1 hx136_2 hx137_0 hx137_1 hHeld ⊢
                              refine zp 0 (zb 18 1) ?_ rfl rfl HT_ (by kernel_rfl) (fun _ _ _ h => h) rfl ?_ ?_ ?_ ?_; rotate_left; (intro w'; go_simp; with_reducible rfl); rotate_left; (simp only [zs]; rfl)
                              refine zp 1 (zb 18 3) ?_ rfl rfl HT_ (by kernel_rfl) (fun _ _ _ h => h) rfl ?_ ?_ ?_ ?_; rotate_left; (intro w'; go_simp; with_reducible rfl); rotate_left; (simp only [zs]; rfl)
                              refine zp 2 (zb 18 7) ?_ rfl rfl HT_ (by kernel_rfl) (fun _ _ _ h => h) rfl ?_ ?_ ?_ ?_; rotate_left; (intro w'; go_simp; with_reducible rfl); rotate_left; (simp only [zs]; rfl)
                              refine zp 3 (zb 18 15) ?_ rfl rfl HT_ (by kernel_rfl) (fun _ _ _ h => h) rfl ?_ ?_ ?_ ?_; rotate_left; (intro w'; go_simp; with_reducible rfl); rotate_left; (simp only [zs]; rfl)
                              refine zp 5 (zb 18 47) ?_ rfl rfl HT_ (by kernel_rfl) (fun _ _ _ h => h) rfl ?_ ?_ ?_ ?_; rotate_left; (intro w'; go_simp; with_reducible rfl); rotate_left; (simp only [zs]; rfl)
                              refine zp 8 (zb 18 303) ?_ rfl rfl HT_ (by kernel_rfl) (fun _ _ _ h => h) rfl ?_ ?_ ?_ ?_; rotate_left; (intro w'; go_simp; with_reducible rfl); rotate_left; (simp only [zs]; rfl)
                              refine zp 9 (zb 18 815) ?_ rfl rfl HT_ (by kernel_rfl) (fun _ _ _ h => h) rfl ?_ ?_ ?_ ?_; rotate_left; (intro w'; go_simp; with_reducible rfl); rotate_left; (simp only [zs]; rfl)
                              refine zp 10 (zb 18 1839) ?_ rfl rfl HT_ (by kernel_rfl) (fun _ _ _ h => h) rfl ?_ ?_ ?_ ?_; rotate_left; (intro w'; go_simp; with_reducible rfl); rotate_left; (simp only [zs]; rfl)
                              refine zp 11 (zb 18 3887) ?_ rfl rfl HT_ (by kernel_rfl) (fun _ _ _ h => h) rfl ?_ ?_ ?_ ?_; rotate_left; (intro w'; go_simp; with_reducible rfl); rotate_left; (simp only [zs]; rfl)
                              refine zp 13 (zb 18 12079) ?_ rfl rfl HT_ (by kernel_rfl) (fun _ _ _ h => h) rfl ?_ ?_ ?_ ?_; rotate_left; (intro w'; go_simp; with_reducible rfl); rotate_left; (simp only [zs]; rfl)
                              refine zt 4 (zb 18 12095) ?_ rfl rfl HT_ HW_ (by kernel_rfl) (fun _ _ _ h => h) rfl ?_ hHeld ?_ ?_ ?_; rotate_left; (rintro w' ⟨s0, s1, s2, s3, s4, s5, s6, s7, s8, s9⟩; go_simp; with_reducible rfl); rotate_left; (simp only [zs]; rfl)
                              refine zp 6 (zb 18 12159) ?_ rfl rfl HT_ (by kernel_rfl) (fun _ _ _ h => h) rfl ?_ ?_ ?_ ?_; rotate_left; (intro w'; go_simp; with_reducible rfl); rotate_left; (simp only [zs]; rfl)
                              refine zt 7 (zb 18 12287) ?_ rfl rfl HT_ HW_ (by kernel_rfl) (fun _ _ _ h => h) rfl ?_ hHeld ?_ ?_ ?_; rotate_left; (rintro w' ⟨s0, s1, s2, s3, s4, s5, s6, s7, s8, s9⟩; go_simp; with_reducible rfl); rotate_left; (simp only [zs]; rfl)
                              refine zt 12 (zb 18 16383) ?_ rfl rfl HT_ HW_ (by kernel_rfl) (fun _ _ _ h => h) rfl ?_ hHeld ?_ ?_ ?_; rotate_left; (rintro w' ⟨s0, s1, s2, s3, s4, s5, s6, s7, s8, s9⟩; go_simp; with_reducible rfl); rotate_left; (simp only [zs]; rfl)
                              refine zp 14 (zb 18 32767) ?_ rfl rfl HT_ (by kernel_rfl) (fun _ _ _ h => h) rfl ?_ ?_ ?_ ?_; rotate_left; (intro w'; go_simp; with_reducible rfl); rotate_left; (simp only [zs]; rfl)
                              refine zt 15 (zb 18 65535) ?_ rfl rfl HT_ HW_ (by kernel_rfl) (fun _ _ _ h => h) rfl ?_ hHeld ?_ ?_ ?_; rotate_left; (rintro w' ⟨s0, s1, s2, s3, s4, s5, s6, s7, s8, s9⟩; go_simp; with_reducible rfl); rotate_left; (simp only [zs]; rfl)
                              refine one_ (i := 16) (N := some 83) #[true, true, true, true, true, true, true, true, true, true, true, true, true, true, true, true, true, false] rfl rfl (one_of HT_.out (by kernel_rfl)) (by decide) (fun K hK => ?_)
                              refine goes_ Try.func14 (by kernel_rfl) rfl #[.agg #[.slice A135_0 ((rd_T25 ((rd_T70 l0 x5_1).f2) x6_3).f0).length c135_0, .slice A135_1 ((rd_T25 ((rd_T70 l0 x5_1).f2) x6_3).f1).length c135_1], .agg #[.slice A137_0 ((rd_T25 ((rd_T70 l1 x5_1).f2) x6_3).f0).length c137_0, .slice A137_1 ((rd_T25 ((rd_T70 l1 x5_1).f2) x6_3).f1).length c137_1]] (by rfl) rfl rfl (by (try simp only [List.map_toArray, List.map_cons, List.map_nil]); first | done | rfl | (simp only [List.length_drop, List.length_take]; rfl)) ?_
                              with_reducible refine (ih_ecdysisref19_Same k3 (by have := HK1.out; have := HJ4.out; have := HK3.out; omega) _ _ ((rd_T25 ((rd_T70 l0 x5_1).f2) x6_3).f0) _ _ ((rd_T25 ((rd_T70 l0 x5_1).f2) x6_3).f1) _ _ ((rd_T25 ((rd_T70 l1 x5_1).f2) x6_3).f0) _ _ ((rd_T25 ((rd_T70 l1 x5_1).f2) x6_3).f1) true _ ?side1 ?side2 ?side3 ?side4 ?side5 ?side6 ?side7 ?side8 A20.out).mono ?_
                              (case side1 => repeat (first | exact (Kd.C_below HR135_0.out HB.out) ))
                              (case side2 => exact HC135_0.out)
                              (case side3 => repeat (first | exact (Kd.C_below HR135_1.out HB.out) ))
                              (case side4 => exact HC135_1.out)
                              (case side5 => repeat (first | exact (Kd.C_below HR137_0.out HB.out) ))
                              (case side6 => exact HC137_0.out)
                              (case side7 => repeat (first | exact (Kd.C_below HR137_1.out HB.out) ))
                              (case side8 => exact HC137_1.out)
                              rintro e w23 ⟨rfl, hb⟩
                              refine ⟨_, rfl, ?_⟩
                              have n0_ := Aside0.mk (below_step HB.out hb)
                              clear HB
                              have HB := n0_
                              clear n0_
                              (try clear hb)
                              (try clear hb2)
                              (try clear hk)
                              (try clear hi)
                              refine hK.out _ _ ⟨((HB.out.cell (World.block_lt_of_cell? w _ hw134_0)).trans hw134_0), ((HB.out.cell (World.block_lt_of_cell? w _ hw134_1)).trans hw134_1), ((HB.out.cell (World.block_lt_of_cell? w _ hw134_2)).trans hw134_2), ((HB.out.cell (World.block_lt_of_cell? w _ hw135_0)).trans hw135_0), ((HB.out.cell (World.block_lt_of_cell? w _ hw135_1)).trans hw135_1), ((HB.out.cell (World.block_lt_of_cell? w _ hw136_0)).trans hw136_0), ((HB.out.cell (World.block_lt_of_cell? w _ hw136_1)).trans hw136_1), ((HB.out.cell (World.block_lt_of_cell? w _ hw136_2)).trans hw136_2), ((HB.out.cell (World.block_lt_of_cell? w _ hw137_0)).trans hw137_0), ((HB.out.cell (World.block_lt_of_cell? w _ hw137_1)).trans hw137_1)⟩ (fun hHeld => ?_)
                              clear hK K
                              refine norm_ (a' := ?_) ?_ ?_
                              rotate_left
                              · show Act.put _ (some 83) _ = _
                                simp only [zs]
                                rfl
                              refine zp 17 (zb 18 262143) ?_ rfl rfl HT_ (by kernel_rfl) (fun _ _ _ h => h) rfl ?_ ?_ ?_ ?_; rotate_left; (intro w'; go_simp; with_reducible rfl); rotate_left; (simp only [zs]; rfl)
                              refine done_ (done_of HT_.out (by kernel_rfl)) ?_
                              try go_wp2
                              go_roundg k3
                              case measure => have := HK1.out; have := HJ4.out; have := HK3.out; omega
                              case rel => exact ⟨(wrap64 (x6_3 + 1)), (by first | rfl ), H', ⟨by have := HK1.out; have := HJ4.out; have := HK3.out; omega⟩, ⟨by exact HB.out⟩⟩
                            · replace c21 := Bool.eq_false_iff.mpr c21
                              subst c21
                              have H1 : (some false) = some r := by rw [if_neg (show ¬ (false = true) by decide)] at H; exact H
                              clear H
                              have H := H1
                              clear H1
                              obtain rfl := Option.some.inj H
                              have p133 : 0 ≤ (x5_1 : Int) := of_decide_eq_true (by first | (with_reducible assumption) )
                              have q133 : x5_1 < (l0.length : Int) := of_decide_eq_true (by first | (with_reducible assumption) )
                              obtain ⟨ad133, A133_2, c133_2, e133, hx133_0, hx133_1, hx133_2, hl133_2, hi133_2⟩ := at_T70 HR0.out x5_1 p133 q133
                              cases e133
                              replace hx133_0 := (HB.out.cell (World.block_lt_of_cell? w _ hx133_0)).trans hx133_0
                              replace hx133_1 := (HB.out.cell (World.block_lt_of_cell? w _ hx133_1)).trans hx133_1
                              replace hx133_2 := (HB.out.cell (World.block_lt_of_cell? w _ hx133_2)).trans hx133_2
                              have HR133_2 := Aside0.mk hi133_2
                              have HC133_2 := Aside0.mk hl133_2
                              clear hi133_2 hl133_2
                              replace p133 := eq_true p133
                              replace q133 := eq_true q133
                              try go_wp2
                              have n0_ := Aside0.mk (below_drew1 HB.out)
                              clear HB
                              have HB := n0_
                              clear n0_
                              have p134 : 0 ≤ (x5_1 : Int) := of_decide_eq_true (by first | (with_reducible assumption) )
                              have q134 : x5_1 < (l0.length : Int) := of_decide_eq_true (by first | (with_reducible assumption) )
                              obtain ⟨ad134, A134_2, c134_2, e134, hx134_0, hx134_1, hx134_2, hl134_2, hi134_2⟩ := at_T70 HR0.out x5_1 p134 q134
                              have hw134_2 := hx134_2
                              have hw134_1 := hx134_1
                              have hw134_0 := hx134_0
                              obtain rfl : ad133 = ad134 := (by injection e134)
                              replace hx134_0 := (HB.out.cell (World.block_lt_of_cell? w _ hx134_0)).trans hx134_0
                              replace hx134_1 := (HB.out.cell (World.block_lt_of_cell? w _ hx134_1)).trans hx134_1
                              replace hx134_2 := (HB.out.cell (World.block_lt_of_cell? w _ hx134_2)).trans hx134_2
                              have HR134_2 := Aside0.mk hi134_2
                              have HC134_2 := Aside0.mk hl134_2
                              clear hi134_2 hl134_2
                              replace p134 := eq_true p134
                              replace q134 := eq_true q134
                              have p135 : 0 ≤ (x6_3 : Int) := of_decide_eq_true (by first | (with_reducible assumption) )
                              have q135 : x6_3 < (((rd_T70 l0 x5_1).f2).length : Int) := of_decide_eq_true (by first | (with_reducible assumption) )
                              obtain ⟨ad135, A135_0, c135_0, A135_1, c135_1, e135, hx135_0, hx135_1, hl135_0, hi135_0, hl135_1, hi135_1⟩ := at_T25 HR134_2.out x6_3 p135 q135
                              have hw135_1 := hx135_1
                              have hw135_0 := hx135_0
                              cases e135
                              replace hx135_0 := (HB.out.cell (World.block_lt_of_cell? w _ hx135_0)).trans hx135_0
                              replace hx135_1 := (HB.out.cell (World.block_lt_of_cell? w _ hx135_1)).trans hx135_1
                              have HR135_0 := Aside0.mk hi135_0
                              have HC135_0 := Aside0.mk hl135_0
                              clear hi135_0 hl135_0
                              have HR135_1 := Aside0.mk hi135_1
                              have HC135_1 := Aside0.mk hl135_1
                              clear hi135_1 hl135_1
                              replace p135 := eq_true p135
                              replace q135 := eq_true q135
                              have p136 : 0 ≤ (x5_1 : Int) := of_decide_eq_true (by first | (with_reducible assumption) )
                              have q136 : x5_1 < (l1.length : Int) := of_decide_eq_true (by first | (with_reducible assumption) )
                              obtain ⟨ad136, A136_2, c136_2, e136, hx136_0, hx136_1, hx136_2, hl136_2, hi136_2⟩ := at_T70 HR1.out x5_1 p136 q136
                              have hw136_2 := hx136_2
                              have hw136_1 := hx136_1
                              have hw136_0 := hx136_0
                              cases e136
                              replace hx136_0 := (HB.out.cell (World.block_lt_of_cell? w _ hx136_0)).trans hx136_0
                              replace hx136_1 := (HB.out.cell (World.block_lt_of_cell? w _ hx136_1)).trans hx136_1
                              replace hx136_2 := (HB.out.cell (World.block_lt_of_cell? w _ hx136_2)).trans hx136_2
                              have HR136_2 := Aside0.mk hi136_2
                              have HC136_2 := Aside0.mk hl136_2
                              clear hi136_2 hl136_2
                              replace p136 := eq_true p136
                              replace q136 := eq_true q136
                              have p137 : 0 ≤ (x6_3 : Int) := of_decide_eq_true (by first | (with_reducible assumption) )
                              have q137 : x6_3 < (((rd_T70 l1 x5_1).f2).length : Int) := of_decide_eq_true (by first | (with_reducible assumption) )
                              obtain ⟨ad137, A137_0, c137_0, A137_1, c137_1, e137, hx137_0, hx137_1, hl137_0, hi137_0, hl137_1, hi137_1⟩ := at_T25 HR136_2.out x6_3 p137 q137
                              have hw137_1 := hx137_1
                              have hw137_0 := hx137_0
                              cases e137
                              replace hx137_0 := (HB.out.cell (World.block_lt_of_cell? w _ hx137_0)).trans hx137_0
                              replace hx137_1 := (HB.out.cell (World.block_lt_of_cell? w _ hx137_1)).trans hx137_1
                              have HR137_0 := Aside0.mk hi137_0
                              have HC137_0 := Aside0.mk hl137_0
                              clear hi137_0 hl137_0
                              have HR137_1 := Aside0.mk hi137_1
                              have HC137_1 := Aside0.mk hl137_1
                              clear hi137_1 hl137_1
                              replace p137 := eq_true p137
                              replace q137 := eq_true q137
                              refine start_ (n := 18) (S := fun w' => w'.cell? (ad133.add ((x5_1).toNat * 3)) = some (.int .u64 ((rd_T70 l0 x5_1).f0)) ∧ w'.cell? ⟨(ad133.add ((x5_1).toNat * 3)).block, (ad133.add ((x5_1).toNat * 3)).off + 1, none⟩ = some (.string ((rd_T70 l0 x5_1).f1)) ∧ w'.cell? ⟨(ad133.add ((x5_1).toNat * 3)).block, (ad133.add ((x5_1).toNat * 3)).off + 2, none⟩ = some (.slice (some ad135) ((rd_T70 l0 x5_1).f2).length c134_2) ∧ w'.cell? (ad135.add ((x6_3).toNat * 2)) = some (.slice A135_0 ((rd_T25 ((rd_T70 l0 x5_1).f2) x6_3).f0).length c135_0) ∧ w'.cell? ⟨(ad135.add ((x6_3).toNat * 2)).block, (ad135.add ((x6_3).toNat * 2)).off + 1, none⟩ = some (.slice A135_1 ((rd_T25 ((rd_T70 l0 x5_1).f2) x6_3).f1).length c135_1) ∧ w'.cell? (ad136.add ((x5_1).toNat * 3)) = some (.int .u64 ((rd_T70 l1 x5_1).f0)) ∧ w'.cell? ⟨(ad136.add ((x5_1).toNat * 3)).block, (ad136.add ((x5_1).toNat * 3)).off + 1, none⟩ = some (.string ((rd_T70 l1 x5_1).f1)) ∧ w'.cell? ⟨(ad136.add ((x5_1).toNat * 3)).block, (ad136.add ((x5_1).toNat * 3)).off + 2, none⟩ = some (.slice (some ad137) ((rd_T70 l1 x5_1).f2).length c136_2) ∧ w'.cell? (ad137.add ((x6_3).toNat * 2)) = some (.slice A137_0 ((rd_T25 ((rd_T70 l1 x5_1).f2) x6_3).f0).length c137_0) ∧ w'.cell? ⟨(ad137.add ((x6_3).toNat * 2)).block, (ad137.add ((x6_3).toNat * 2)).off + 1, none⟩ = some (.slice A137_1 ((rd_T25 ((rd_T70 l1 x5_1).f2) x6_3).f1).length c137_1)) (ds := []) #[false, false, false, false, false, false, false, false, false, false, false, false, false, false, false, false, false, false] (by kernel_rfl) rfl rfl ⟨((HB.out.cell (World.block_lt_of_cell? w _ hw134_0)).trans hw134_0), ((HB.out.cell (World.block_lt_of_cell? w _ hw134_1)).trans hw134_1), ((HB.out.cell (World.block_lt_of_cell? w _ hw134_2)).trans hw134_2), ((HB.out.cell (World.block_lt_of_cell? w _ hw135_0)).trans hw135_0), ((HB.out.cell (World.block_lt_of_cell? w _ hw135_1)).trans hw135_1), ((HB.out.cell (World.block_lt_of_cell? w _ hw136_0)).trans hw136_0), ((HB.out.cell (World.block_lt_of_cell? w _ hw136_1)).trans hw136_1), ((HB.out.cell (World.block_lt_of_cell? w _ hw136_2)).trans hw136_2), ((HB.out.cell (World.block_lt_of_cell? w _ hw137_0)).trans hw137_0), ((HB.out.cell (World.block_lt_of_cell? w _ hw137_1)).trans hw137_1)⟩ (fun hHeld => ?_); refine with_tabW ecdysisref19_SameVals.tab11 ecdysisref19_SameVals.bits11 (fun HT_ HW_ => ?_)
                              generalize wr.drew = w24 at HB HR134_2 HR135_0 HR135_1 HR136_2 HR137_0 HR137_1 hx134_0 hx134_1 hx134_2 hx135_0 hx135_1 hx136_0 hx136_1 hx136_2 hx137_0 hx137_1 hHeld ⊢
                              refine zp 0 (zb 18 1) ?_ rfl rfl HT_ (by kernel_rfl) (fun _ _ _ h => h) rfl ?_ ?_ ?_ ?_; rotate_left; (intro w'; go_simp; with_reducible rfl); rotate_left; (simp only [zs]; rfl)
                              refine zp 1 (zb 18 3) ?_ rfl rfl HT_ (by kernel_rfl) (fun _ _ _ h => h) rfl ?_ ?_ ?_ ?_; rotate_left; (intro w'; go_simp; with_reducible rfl); rotate_left; (simp only [zs]; rfl)
                              refine zp 2 (zb 18 7) ?_ rfl rfl HT_ (by kernel_rfl) (fun _ _ _ h => h) rfl ?_ ?_ ?_ ?_; rotate_left; (intro w'; go_simp; with_reducible rfl); rotate_left; (simp only [zs]; rfl)
                              refine zp 3 (zb 18 15) ?_ rfl rfl HT_ (by kernel_rfl) (fun _ _ _ h => h) rfl ?_ ?_ ?_ ?_; rotate_left; (intro w'; go_simp; with_reducible rfl); rotate_left; (simp only [zs]; rfl)
                              refine zp 5 (zb 18 47) ?_ rfl rfl HT_ (by kernel_rfl) (fun _ _ _ h => h) rfl ?_ ?_ ?_ ?_; rotate_left; (intro w'; go_simp; with_reducible rfl); rotate_left; (simp only [zs]; rfl)
                              refine zp 8 (zb 18 303) ?_ rfl rfl HT_ (by kernel_rfl) (fun _ _ _ h => h) rfl ?_ ?_ ?_ ?_; rotate_left; (intro w'; go_simp; with_reducible rfl); rotate_left; (simp only [zs]; rfl)
                              refine zp 9 (zb 18 815) ?_ rfl rfl HT_ (by kernel_rfl) (fun _ _ _ h => h) rfl ?_ ?_ ?_ ?_; rotate_left; (intro w'; go_simp; with_reducible rfl); rotate_left; (simp only [zs]; rfl)
                              refine zp 10 (zb 18 1839) ?_ rfl rfl HT_ (by kernel_rfl) (fun _ _ _ h => h) rfl ?_ ?_ ?_ ?_; rotate_left; (intro w'; go_simp; with_reducible rfl); rotate_left; (simp only [zs]; rfl)
                              refine zp 11 (zb 18 3887) ?_ rfl rfl HT_ (by kernel_rfl) (fun _ _ _ h => h) rfl ?_ ?_ ?_ ?_; rotate_left; (intro w'; go_simp; with_reducible rfl); rotate_left; (simp only [zs]; rfl)
                              refine zp 13 (zb 18 12079) ?_ rfl rfl HT_ (by kernel_rfl) (fun _ _ _ h => h) rfl ?_ ?_ ?_ ?_; rotate_left; (intro w'; go_simp; with_reducible rfl); rotate_left; (simp only [zs]; rfl)
                              refine zt 4 (zb 18 12095) ?_ rfl rfl HT_ HW_ (by kernel_rfl) (fun _ _ _ h => h) rfl ?_ hHeld ?_ ?_ ?_; rotate_left; (rintro w' ⟨s0, s1, s2, s3, s4, s5, s6, s7, s8, s9⟩; go_simp; with_reducible rfl); rotate_left; (simp only [zs]; rfl)
                              refine zp 6 (zb 18 12159) ?_ rfl rfl HT_ (by kernel_rfl) (fun _ _ _ h => h) rfl ?_ ?_ ?_ ?_; rotate_left; (intro w'; go_simp; with_reducible rfl); rotate_left; (simp only [zs]; rfl)
                              refine zt 7 (zb 18 12287) ?_ rfl rfl HT_ HW_ (by kernel_rfl) (fun _ _ _ h => h) rfl ?_ hHeld ?_ ?_ ?_; rotate_left; (rintro w' ⟨s0, s1, s2, s3, s4, s5, s6, s7, s8, s9⟩; go_simp; with_reducible rfl); rotate_left; (simp only [zs]; rfl)
                              refine zt 12 (zb 18 16383) ?_ rfl rfl HT_ HW_ (by kernel_rfl) (fun _ _ _ h => h) rfl ?_ hHeld ?_ ?_ ?_; rotate_left; (rintro w' ⟨s0, s1, s2, s3, s4, s5, s6, s7, s8, s9⟩; go_simp; with_reducible rfl); rotate_left; (simp only [zs]; rfl)
                              refine zp 14 (zb 18 32767) ?_ rfl rfl HT_ (by kernel_rfl) (fun _ _ _ h => h) rfl ?_ ?_ ?_ ?_; rotate_left; (intro w'; go_simp; with_reducible rfl); rotate_left; (simp only [zs]; rfl)
                              refine zt 15 (zb 18 65535) ?_ rfl rfl HT_ HW_ (by kernel_rfl) (fun _ _ _ h => h) rfl ?_ hHeld ?_ ?_ ?_; rotate_left; (rintro w' ⟨s0, s1, s2, s3, s4, s5, s6, s7, s8, s9⟩; go_simp; with_reducible rfl); rotate_left; (simp only [zs]; rfl)
                              refine one_ (i := 16) (N := some 83) #[true, true, true, true, true, true, true, true, true, true, true, true, true, true, true, true, true, false] rfl rfl (one_of HT_.out (by kernel_rfl)) (by decide) (fun K hK => ?_)
                              refine goes_ Try.func14 (by kernel_rfl) rfl #[.agg #[.slice A135_0 ((rd_T25 ((rd_T70 l0 x5_1).f2) x6_3).f0).length c135_0, .slice A135_1 ((rd_T25 ((rd_T70 l0 x5_1).f2) x6_3).f1).length c135_1], .agg #[.slice A137_0 ((rd_T25 ((rd_T70 l1 x5_1).f2) x6_3).f0).length c137_0, .slice A137_1 ((rd_T25 ((rd_T70 l1 x5_1).f2) x6_3).f1).length c137_1]] (by rfl) rfl rfl (by (try simp only [List.map_toArray, List.map_cons, List.map_nil]); first | done | rfl | (simp only [List.length_drop, List.length_take]; rfl)) ?_
                              with_reducible refine (ih_ecdysisref19_Same k3 (by have := HK1.out; have := HJ4.out; have := HK3.out; omega) _ _ ((rd_T25 ((rd_T70 l0 x5_1).f2) x6_3).f0) _ _ ((rd_T25 ((rd_T70 l0 x5_1).f2) x6_3).f1) _ _ ((rd_T25 ((rd_T70 l1 x5_1).f2) x6_3).f0) _ _ ((rd_T25 ((rd_T70 l1 x5_1).f2) x6_3).f1) false _ ?side1 ?side2 ?side3 ?side4 ?side5 ?side6 ?side7 ?side8 A20.out).mono ?_
                              (case side1 => repeat (first | exact (Kd.C_below HR135_0.out HB.out) ))
                              (case side2 => exact HC135_0.out)
                              (case side3 => repeat (first | exact (Kd.C_below HR135_1.out HB.out) ))
                              (case side4 => exact HC135_1.out)
                              (case side5 => repeat (first | exact (Kd.C_below HR137_0.out HB.out) ))
                              (case side6 => exact HC137_0.out)
                              (case side7 => repeat (first | exact (Kd.C_below HR137_1.out HB.out) ))
                              (case side8 => exact HC137_1.out)
                              rintro e w25 ⟨rfl, hb⟩
                              refine ⟨_, rfl, ?_⟩
                              have n0_ := Aside0.mk (below_step HB.out hb)
                              clear HB
                              have HB := n0_
                              clear n0_
                              (try clear hb)
                              (try clear hb2)
                              (try clear hk)
                              (try clear hi)
                              refine hK.out _ _ ⟨((HB.out.cell (World.block_lt_of_cell? w _ hw134_0)).trans hw134_0), ((HB.out.cell (World.block_lt_of_cell? w _ hw134_1)).trans hw134_1), ((HB.out.cell (World.block_lt_of_cell? w _ hw134_2)).trans hw134_2), ((HB.out.cell (World.block_lt_of_cell? w _ hw135_0)).trans hw135_0), ((HB.out.cell (World.block_lt_of_cell? w _ hw135_1)).trans hw135_1), ((HB.out.cell (World.block_lt_of_cell? w _ hw136_0)).trans hw136_0), ((HB.out.cell (World.block_lt_of_cell? w _ hw136_1)).trans hw136_1), ((HB.out.cell (World.block_lt_of_cell? w _ hw136_2)).trans hw136_2), ((HB.out.cell (World.block_lt_of_cell? w _ hw137_0)).trans hw137_0), ((HB.out.cell (World.block_lt_of_cell? w _ hw137_1)).trans hw137_1)⟩ (fun hHeld => ?_)
                              clear hK K
                              refine norm_ (a' := ?_) ?_ ?_
                              rotate_left
                              · show Act.put _ (some 83) _ = _
                                simp only [zs]
                                rfl
                              refine zp 17 (zb 18 262143) ?_ rfl rfl HT_ (by kernel_rfl) (fun _ _ _ h => h) rfl ?_ ?_ ?_ ?_; rotate_left; (intro w'; go_simp; with_reducible rfl); rotate_left; (simp only [zs]; rfl)
                              refine done_ (done_of HT_.out (by kernel_rfl)) ?_
                              try go_wp2
                              go_ret
                              exact ⟨by first | rfl , by exact HB.out⟩
                          · rw [if_neg c19] at H
                            exact absurd H (by simp)
                        · rw [if_neg c18] at H
                          exact absurd H (by simp)
                      · rw [if_neg c17] at H
                        exact absurd H (by simp)
                    · rw [if_neg c16] at H
                      have c16b0 : decide (x6_3 < (((rd_T70 l0 x5_1).f2).length : Int)) = false := decide_eq_false c16
                      clear c16
                      have H' := Aside0.mk H
                      clear H
                      have p133 : 0 ≤ (x5_1 : Int) := of_decide_eq_true (by first | (with_reducible assumption) )
                      have q133 : x5_1 < (l0.length : Int) := of_decide_eq_true (by first | (with_reducible assumption) )
                      obtain ⟨ad133, A133_2, c133_2, e133, hx133_0, hx133_1, hx133_2, hl133_2, hi133_2⟩ := at_T70 HR0.out x5_1 p133 q133
                      cases e133
                      replace hx133_0 := (HB.out.cell (World.block_lt_of_cell? w _ hx133_0)).trans hx133_0
                      replace hx133_1 := (HB.out.cell (World.block_lt_of_cell? w _ hx133_1)).trans hx133_1
                      replace hx133_2 := (HB.out.cell (World.block_lt_of_cell? w _ hx133_2)).trans hx133_2
                      have HR133_2 := Aside0.mk hi133_2
                      have HC133_2 := Aside0.mk hl133_2
                      clear hi133_2 hl133_2
                      replace p133 := eq_true p133
                      replace q133 := eq_true q133
                      go_wp2
                      go_roundg k3
                      case measure => have := HK1.out; have := HJ4.out; have := HK3.out; omega
                      case rel => exact ⟨(wrap64 (x5_1 + 1)), (by first | rfl ), H', ⟨by have := HK1.out; have := HJ4.out; have := HK3.out; omega⟩, ⟨by exact HB.out⟩⟩
                  · rw [if_neg c15] at H
                    exact absurd H (by simp)
                · rw [if_neg c14] at H
                  exact absurd H (by simp)
     · rw [if_neg c4] at H
       have c4b0 : decide (x5_1 < (l0.length : Int)) = false := decide_eq_false c4
       clear c4
       obtain rfl := Option.some.inj H
       go_wp2
       go_ret
       exact ⟨by first | rfl , by exact HB.out⟩
 · rw [if_neg c3] at H
   have c3b0 : ((l0.length : Int) == (l1.length : Int)) = false := beq_eq_false_iff_ne.mpr c3
   have c3b1 : ((l0.length : Int) != (l1.length : Int)) = true := bne_iff_ne.mpr c3
   have c3b2 : (l0.length == l1.length) = false := by first | (simp at c3 ⊢; omega)
   obtain rfl := Option.some.inj H
   go_enter Try.func43, Try.ntmps43
   go_wp2
   go_ret
   exact ⟨by first | rfl , by exact HB.out⟩
end Go.Proofs.Ytbpnfpckoapdbaa.PT19
end
section
namespace Go.Proofs.Ytbpnfpckoapdbaa.PT19
open Go.RowKit Go.Proofs.Ytbpnfpckoapdbaa.M Go.Proofs.Ytbpnfpckoapdbaa.KD Go.Proofs.Ytbpnfpckoapdbaa Go.Proofs.YtbpnfpckoapdbaaW.PrintWords Go.Proofs.YtbpnfpckoapdbaaW.PrintLast Go.Proofs.YtbpnfpckoapdbaaW.PrintMore
attribute [local go_sem] max2_int min2_int max_two min_two max_three min_three max_four min_four   -- for this text's walks alone
set_option linter.unusedVariables false
set_option linter.unusedSimpArgs false
theorem grp_ecdysisref19_Same.calls (k : Nat) : (∀ (A0_0 : Option Addr) (c0_0 : Nat) (l0_0 : List (S59)) (A0_1 : Option Addr) (c0_1 : Nat) (l0_1 : List (S73)) (A1_0 : Option Addr) (c1_0 : Nat) (l1_0 : List (S59)) (A1_1 : Option Addr) (c1_1 : Nat) (l1_1 : List (S73)) (r : Bool) (w : World) (hr0_0 : Kd.C k59 w A0_0 l0_0.length l0_0) (hc0_0 : l0_0.length ≤ c0_0) (hr0_1 : Kd.C k73 w A0_1 l0_1.length l0_1) (hc0_1 : l0_1.length ≤ c0_1) (hr1_0 : Kd.C k59 w A1_0 l1_0.length l1_0) (hc1_0 : l1_0.length ≤ c1_0) (hr1_1 : Kd.C k73 w A1_1 l1_1.length l1_1) (hc1_1 : l1_1.length ≤ c1_1) (h : ecdysisref19_Same.f k l0_0 l0_1 l1_0 l1_1 = some r), Calls Try.prog 14 #[.agg #[.slice A0_0 l0_0.length c0_0, .slice A0_1 l0_1.length c0_1], .agg #[.slice A1_0 l1_0.length c1_0, .slice A1_1 l1_1.length c1_1]] w fun e w' => e = .returned (.bool r) ∧ Below w.heap.size w w') ∧ (∀ (A0 : Option Addr) (c0 : Nat) (l0 : List (S70)) (A1 : Option Addr) (c1 : Nat) (l1 : List (S70)) (r : Bool) (w : World) (hr0 : Kd.C k70 w A0 l0.length l0) (hc0 : l0.length ≤ c0) (hr1 : Kd.C k70 w A1 l1.length l1) (hc1 : l1.length ≤ c1) (h : ecdysisref19_SameVals.f k l0 l1 = some r), Calls Try.prog 43 #[.slice A0 l0.length c0, .slice A1 l1.length c1] w fun e w' => e = .returned (.bool r) ∧ Below w.heap.size w w') := by
 induction k using Nat.strongRecOn with
 | _ k ih =>
 exact ⟨ecdysisref19_Same.callsR k (fun k_ hk_ => (ih k_ hk_).1) (fun k_ hk_ => (ih k_ hk_).2), ecdysisref19_SameVals.callsR k (fun k_ hk_ => (ih k_ hk_).1) (fun k_ hk_ => (ih k_ hk_).2)⟩
theorem ecdysisref19_Same.calls (k : Nat) (A0_0 : Option Addr) (c0_0 : Nat) (l0_0 : List (S59)) (A0_1 : Option Addr) (c0_1 : Nat) (l0_1 : List (S73)) (A1_0 : Option Addr) (c1_0 : Nat) (l1_0 : List (S59)) (A1_1 : Option Addr) (c1_1 : Nat) (l1_1 : List (S73)) (r : Bool) (w : World) (hr0_0 : Kd.C k59 w A0_0 l0_0.length l0_0) (hc0_0 : l0_0.length ≤ c0_0) (hr0_1 : Kd.C k73 w A0_1 l0_1.length l0_1) (hc0_1 : l0_1.length ≤ c0_1) (hr1_0 : Kd.C k59 w A1_0 l1_0.length l1_0) (hc1_0 : l1_0.length ≤ c1_0) (hr1_1 : Kd.C k73 w A1_1 l1_1.length l1_1) (hc1_1 : l1_1.length ≤ c1_1) (h : ecdysisref19_Same.f k l0_0 l0_1 l1_0 l1_1 = some r) :
 Calls Try.prog 14 #[.agg #[.slice A0_0 l0_0.length c0_0, .slice A0_1 l0_1.length c0_1], .agg #[.slice A1_0 l1_0.length c1_0, .slice A1_1 l1_1.length c1_1]] w fun e w' => e = .returned (.bool r) ∧ Below w.heap.size w w' := (grp_ecdysisref19_Same.calls k).1 A0_0 c0_0 l0_0 A0_1 c0_1 l0_1 A1_0 c1_0 l1_0 A1_1 c1_1 l1_1 r w hr0_0 hc0_0 hr0_1 hc0_1 hr1_0 hc1_0 hr1_1 hc1_1 h
end Go.Proofs.Ytbpnfpckoapdbaa.PT19
end
section
namespace Go.Proofs.Ytbpnfpckoapdbaa.PT19
open Go.RowKit Go.Proofs.Ytbpnfpckoapdbaa.M Go.Proofs.Ytbpnfpckoapdbaa.KD Go.Proofs.Ytbpnfpckoapdbaa Go.Proofs.YtbpnfpckoapdbaaW.PrintWords Go.Proofs.YtbpnfpckoapdbaaW.PrintLast Go.Proofs.YtbpnfpckoapdbaaW.PrintMore
attribute [local go_sem] max2_int min2_int max_two min_two max_three min_three max_four min_four   -- for this text's walks alone
set_option linter.unusedVariables false
set_option linter.unusedSimpArgs false
end Go.Proofs.Ytbpnfpckoapdbaa.PT19
end
section
namespace Go.Proofs.Ytbpnfpckoapdbaa.PT19
open Go.RowKit Go.Proofs.Ytbpnfpckoapdbaa.M Go.Proofs.Ytbpnfpckoapdbaa.KD Go.Proofs.Ytbpnfpckoapdbaa Go.Proofs.YtbpnfpckoapdbaaW.PrintWords Go.Proofs.YtbpnfpckoapdbaaW.PrintLast Go.Proofs.YtbpnfpckoapdbaaW.PrintMore
attribute [local go_sem] max2_int min2_int max_two min_two max_three min_three max_four min_four   -- for this text's walks alone
set_option linter.unusedVariables false
set_option linter.unusedSimpArgs false
end Go.Proofs.Ytbpnfpckoapdbaa.PT19
end

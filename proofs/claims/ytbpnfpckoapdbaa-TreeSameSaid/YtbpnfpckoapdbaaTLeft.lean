/- A tree is not too great: that it is told, not what; conditions stand at each. -/
import Derived.Test.YtbpnfpckoapdbaaTSame
namespace Go.Proofs.Ytbpnfpckoapdbaa.Tr
open Go.RowKit Go.Proofs.YtbpnfpckoapdbaaW.PrintWords Go.Proofs.YtbpnfpckoapdbaaW.PrintLast Go.Proofs.YtbpnfpckoapdbaaW.PrintMore Go.Proofs.Ytbpnfpckoapdbaa.Open
set_option linter.unusedVariables false
set_option linter.unusedSimpArgs false
set_option maxHeartbeats 1000000
set_option maxRecDepth 100000
attribute [local go_sem] max2_int min2_int max_two min_two
section
variable {α : Type} {d : Kd α}
/-- A function tells some number of a tree and two numbers. -/
def Leaves (d : Kd α) (F : FuncId) : Prop :=
  ∀ (w : World) (x : α) (cs : List Value) (n dp : Int), d.K w x cs → Calls Try.prog F #[.agg cs.toArray, .int .i64 n, .int .i64 dp] w fun r w' => (∃ v : Int, r = .returned (.int .i64 v)) ∧ Below w.heap.size w w'
theorem left_c (hd : Two d) (HD : Leaves d 47) : Leaves (kT d) 47 := by
  intro w x cs n dp h
  obtain ⟨A, c, A', ca, rfl, hl, hC, hl2, hR⟩ := kT_open h
  obtain ⟨wz, hwz⟩ : ∃ wz, wz = w.alloc (.cells #[.slice A x.slots.length c, .slice A' x.rest.length ca] 25) := ⟨_, rfl⟩
  have HWZ := Aside0.mk hwz
  have bz : Below w.heap.size w wz := by rw [hwz]; exact below_alloc (Below.refl _ _) _
  have hz : wz.heap[w.heap.size]? = some (.cells #[.slice A x.slots.length c, .slice A' x.rest.length ca] 25 (0, 0)) := by rw [hwz]; exact blk_new _ _
  have HBX := Aside0.mk (fun w2 (h2 : Below wz.heap.size wz w2) => (blk_cell (blk_below hz h2) 0).trans rfl)
  have HBR := Aside0.mk (fun w2 (h2 : Below wz.heap.size wz w2) => (blk_cell (blk_below hz h2) 1).trans rfl)
  have BZ := Aside0.mk bz
  have HQ := Aside0.mk HD
  have HC := Aside0.mk hC
  have HR := Aside0.mk hR
  have HM := Aside0.mk (Kd.C_max hC)
  have HRL := Aside0.mk (Kd.C_max hR)
  clear hwz bz hz hl hC hl2 hR h HD
  by_cases hdp : dp ≤ 0
  · have hdp' : decide (dp ≤ 0) = true := decide_eq_true hdp
    go_enter Try.func47, Try.ntmps47
    go_wp2
    go_ret
    exact ⟨⟨_, rfl⟩, by rw [← HWZ.out]; exact BZ.out⟩
  have hdp' : decide (dp ≤ 0) = false := decide_eq_false hdp
  clear hdp
  go_enter Try.func47, Try.ntmps47
  go_wp2
  rw [← HWZ.out]
  go_loopg [1, 7] x.rest.length (fun kq v1 v7 w' => ∃ (i : Nat) (m : Int), v1 = .int .i64 m ∧ v7 = .int .i64 (i : Int) ∧ Aside0 (kq + i = x.rest.length) ∧ Aside0 (Below wz.heap.size wz w'))
  case atStart => exact ⟨0, _, rfl, rfl, ⟨by omega⟩, ⟨Below.refl _ _⟩⟩
  case round =>
    obtain ⟨i, m, rfl, rfl, HK, BW⟩ := hrel
    have z0 := HBR.out _ BW.out
    by_cases hb : i < x.rest.length ∧ 0 ≤ m
    · have d1 : decide ((i : Int) < (x.rest.length : Int)) = true := decide_eq_true (by omega)
      have d3 : decide ((0 : Int) ≤ m) = true := decide_eq_true hb.2
      have d4 : decide (m ≥ (0 : Int)) = true := decide_eq_true hb.2
      have pi : (0 : Int) ≤ (i : Int) := by omega
      have hi : (i : Int) < (x.rest.length : Int) := by omega
      have HIi := Aside0.mk hb.1
      obtain ⟨rd, e1, r0, r1, r2, r3⟩ := PTr.at_T73 HR.out (i : Int) pi hi
      cases e1
      rw [Int.toNat_natCast] at r3
      replace r3 := pw_cell_below (BZ.out.trans (BW.out.mono BZ.out.size)) r3
      have hw : IntKind.i64.wrap ((i : Int) + 1) = ((i + 1 : Nat) : Int) := by have := HRL.out; rw [IntKind.wrap_i64]; omega
      have ci := eq_true hi
      clear hi hb r0 r1 r2
      go_wp2
      go_roundg (x.rest.length - (i + 1))
      case measure => have := HK.out; have := HIi.out; omega
      case rel => exact ⟨i + 1, _, rfl, rfl, ⟨by have := HIi.out; omega⟩, BW⟩
    rcases (show (decide ((i : Int) < (x.rest.length : Int)) = true ∧ decide (i < x.rest.length) = true ∧ decide ((0 : Int) ≤ m) = false ∧ decide (m ≥ (0 : Int)) = false) ∨ (decide ((i : Int) < (x.rest.length : Int)) = false ∧ decide (i < x.rest.length) = false) by
      by_cases h1 : i < x.rest.length
      · exact .inl ⟨decide_eq_true (by omega), decide_eq_true h1, decide_eq_false (fun h => hb ⟨h1, h⟩), decide_eq_false (fun h => hb ⟨h1, h⟩)⟩
      · exact .inr ⟨decide_eq_false (by omega), decide_eq_false h1⟩) with ⟨d1, d2, d3, d4⟩ | ⟨d1, d2⟩
    all_goals
      clear hb
      go_wp2
      clear z0 d1 d2
      try clear d3 d4
      go_loopg [1, 8] x.slots.length (fun kq v1 v8 w' => ∃ (i : Nat) (m : Int), v1 = .int .i64 m ∧ v8 = .int .i64 (i : Int) ∧ Aside0 (kq + i = x.slots.length) ∧ Aside0 (Below wz.heap.size wz w'))
      case atStart => exact ⟨0, _, rfl, rfl, ⟨by omega⟩, BW⟩
      case round =>
        clear BW HK
        obtain ⟨i, m, rfl, rfl, HK, BW⟩ := hrel
        have z1 := HBX.out _ BW.out
        by_cases hb : i < x.slots.length ∧ 0 ≤ m
        · have d1 : decide ((i : Int) < (x.slots.length : Int)) = true := decide_eq_true (by omega)
          have d3 : decide ((0 : Int) ≤ m) = true := decide_eq_true hb.2
          have d4 : decide (m ≥ (0 : Int)) = true := decide_eq_true hb.2
          have pi : (0 : Int) ≤ (i : Int) := by omega
          have hi : (i : Int) < (x.slots.length : Int) := by omega
          have HIi := Aside0.mk hb.1
          obtain ⟨ad, A1, m1, s, rfl, hs, x1, x2, hk⟩ := at_Sk HC.out i (by omega)
          obtain ⟨_, _, he, hl, hCv⟩ := kS_open hk
          obtain ⟨rfl, rfl⟩ : A1 = _ ∧ m1 = _ := by simpa using he
          have hw : IntKind.i64.wrap ((i : Int) + 1) = ((i + 1 : Nat) : Int) := by have := HM.out; rw [IntKind.wrap_i64]; omega
          have X2 := Aside0.mk x2
          have HKS := Aside0.mk hCv
          have HMS := Aside0.mk (Kd.C_max hCv)
          have ci := eq_true hi
          clear hi hb hs hk he hl hCv x1 x2
          have x2 := pw_cell_below (BZ.out.trans (BW.out.mono BZ.out.size)) X2.out
          go_wp2
          clear z1 x2 d1 d3 d4
          go_loopg [1, 9] s.vals.length (fun kq v1 v9 w' => ∃ (k : Nat) (m : Int), v1 = .int .i64 m ∧ v9 = .int .i64 (k : Int) ∧ Aside0 (kq + k = s.vals.length) ∧ Aside0 (Below wz.heap.size wz w'))
          case atStart => exact ⟨0, _, rfl, rfl, ⟨by omega⟩, BW⟩
          case round =>
            clear BW
            obtain ⟨k, mk, rfl, rfl, HK2, BW⟩ := hrel
            have z1 := HBX.out _ BW.out
            have hbw := BZ.out.trans (BW.out.mono BZ.out.size)
            have x2 := pw_cell_below hbw X2.out
            by_cases hb : k < s.vals.length ∧ 0 ≤ mk
            · have d1 : decide ((k : Int) < (s.vals.length : Int)) = true := decide_eq_true (by omega)
              have d3 : decide ((0 : Int) ≤ mk) = true := decide_eq_true hb.2
              have d4 : decide (mk ≥ (0 : Int)) = true := decide_eq_true hb.2
              have pk : (0 : Int) ≤ (k : Int) := by omega
              have hk : (k : Int) < (s.vals.length : Int) := by omega
              have HIk := Aside0.mk hb.1
              obtain ⟨bd, A2, m2, v, rfl, hv, y1, y2, y3, hkv⟩ := at_Vk HKS.out k (by omega)
              obtain ⟨_, _, he, hl, hCm⟩ := kV_open hkv
              obtain ⟨rfl, rfl⟩ : A2 = _ ∧ m2 = _ := by simpa using he
              have hw2 : IntKind.i64.wrap ((k : Int) + 1) = ((k + 1 : Nat) : Int) := by have := HMS.out; rw [IntKind.wrap_i64]; omega
              have Y3 := Aside0.mk y3
              have HKM := Aside0.mk hCm
              have HMM := Aside0.mk (Kd.C_max hCm)
              have ck := eq_true hk
              replace y2 := pw_cell_below hbw y2
              clear hk hb hv hkv he hl hCm y1 y3 hbw
              go_wp2
              clear z1 x2 y2 d1 d3 d4
              go_loopg [1, 10] v.m.length (fun kq v1 v10 w' => ∃ (j : Nat) (m : Int), v1 = .int .i64 m ∧ v10 = .int .i64 (j : Int) ∧ Aside0 (kq + j = v.m.length) ∧ Aside0 (Below wz.heap.size wz w'))
              case atStart => exact ⟨0, _, rfl, rfl, ⟨by omega⟩, BW⟩
              case round =>
                clear BW
                obtain ⟨j, mj, rfl, rfl, HK3, BW⟩ := hrel
                have z1 := HBX.out _ BW.out
                have hbw := BZ.out.trans (BW.out.mono BZ.out.size)
                have x2 := pw_cell_below hbw X2.out
                have y3 := pw_cell_below hbw Y3.out
                by_cases hb : j < v.m.length ∧ 0 ≤ mj
                · have d1 : decide ((j : Int) < (v.m.length : Int)) = true := decide_eq_true (by omega)
                  have d3 : decide ((0 : Int) ≤ mj) = true := decide_eq_true hb.2
                  have d4 : decide (mj ≥ (0 : Int)) = true := decide_eq_true hb.2
                  have pj : (0 : Int) ≤ (j : Int) := by omega
                  have hj : (j : Int) < (v.m.length : Int) := by omega
                  have HIj := Aside0.mk hb.1
                  obtain ⟨ed, A3, n3, c3', A4, n4, c4', u, rfl, hu, u1, u2, hku⟩ := at_T hd HKM.out j (by omega)
                  replace u1 := pw_cell_below hbw u1
                  replace u2 := pw_cell_below hbw u2
                  have hw3 : IntKind.i64.wrap ((j : Int) + 1) = ((j + 1 : Nat) : Int) := by have := HMM.out; rw [IntKind.wrap_i64]; omega
                  have HT := Aside0.mk (fun a b => HQ.out wr u _ a b (d.K_below hbw hku))
                  have cj := eq_true hj
                  clear hj hb hu hku hbw
                  go_wp2_with (first | (go_at_call 47; refine (HT.out _ _).mono ?_; rintro r w2 ⟨⟨vv, rfl⟩, b2⟩; have B2 := Aside0.mk b2; clear b2))
                  go_roundg (v.m.length - (j + 1))
                  case measure => have := HK3.out; have := HIj.out; omega
                  case rel => exact ⟨j + 1, vv, rfl, rfl, ⟨by have := HIj.out; omega⟩, ⟨BW.out.trans (B2.out.mono BW.out.size)⟩⟩
                rcases (show (decide ((j : Int) < (v.m.length : Int)) = true ∧ decide (j < v.m.length) = true ∧ decide ((0 : Int) ≤ mj) = false ∧ decide (mj ≥ (0 : Int)) = false) ∨ (decide ((j : Int) < (v.m.length : Int)) = false ∧ decide (j < v.m.length) = false) by
                  by_cases h1 : j < v.m.length
                  · exact .inl ⟨decide_eq_true (by omega), decide_eq_true h1, decide_eq_false (fun h => hb ⟨h1, h⟩), decide_eq_false (fun h => hb ⟨h1, h⟩)⟩
                  · exact .inr ⟨decide_eq_false (by omega), decide_eq_false h1⟩) with ⟨d1, d2, d3, d4⟩ | ⟨d1, d2⟩
                all_goals
                  clear hb hbw
                  go_wp2
                  go_roundg (s.vals.length - (k + 1))
                  case measure => have := HK2.out; have := HIk.out; omega
                  case rel => exact ⟨k + 1, _, rfl, rfl, ⟨by have := HIk.out; omega⟩, BW⟩
            rcases (show (decide ((k : Int) < (s.vals.length : Int)) = true ∧ decide (k < s.vals.length) = true ∧ decide ((0 : Int) ≤ mk) = false ∧ decide (mk ≥ (0 : Int)) = false) ∨ (decide ((k : Int) < (s.vals.length : Int)) = false ∧ decide (k < s.vals.length) = false) by
              by_cases h1 : k < s.vals.length
              · exact .inl ⟨decide_eq_true (by omega), decide_eq_true h1, decide_eq_false (fun h => hb ⟨h1, h⟩), decide_eq_false (fun h => hb ⟨h1, h⟩)⟩
              · exact .inr ⟨decide_eq_false (by omega), decide_eq_false h1⟩) with ⟨d1, d2, d3, d4⟩ | ⟨d1, d2⟩
            all_goals
              clear hb hbw
              go_wp2
              go_roundg (x.slots.length - (i + 1))
              case measure => have := HK.out; have := HIi.out; omega
              case rel => exact ⟨i + 1, _, rfl, rfl, ⟨by have := HIi.out; omega⟩, BW⟩
        rcases (show (decide ((i : Int) < (x.slots.length : Int)) = true ∧ decide (i < x.slots.length) = true ∧ decide ((0 : Int) ≤ m) = false ∧ decide (m ≥ (0 : Int)) = false) ∨ (decide ((i : Int) < (x.slots.length : Int)) = false ∧ decide (i < x.slots.length) = false) by
          by_cases h1 : i < x.slots.length
          · exact .inl ⟨decide_eq_true (by omega), decide_eq_true h1, decide_eq_false (fun h => hb ⟨h1, h⟩), decide_eq_false (fun h => hb ⟨h1, h⟩)⟩
          · exact .inr ⟨decide_eq_false (by omega), decide_eq_false h1⟩) with ⟨d1, d2, d3, d4⟩ | ⟨d1, d2⟩
        all_goals
          clear hb
          go_wp2
          go_ret
          exact ⟨⟨_, rfl⟩, BZ.out.trans (BW.out.mono BZ.out.size)⟩
end
theorem leftN_c : ∀ n, Leaves (kN n) 47
  | 0 => fun w x cs _ _ h => h.elim
  | n + 1 => left_c (kN_two n) (leftN_c n)
theorem Small_c (n : Nat) (w : World) (x : TN n) (cs : List Value) (h : (kN n).K w x cs) : Calls Try.prog 10 #[.agg cs.toArray] w fun r w' => (∃ b : Bool, r = .returned (.bool b)) ∧ Below w.heap.size w w' := by
  obtain ⟨A, k, c, A', k', c', rfl⟩ := (kN_two n).two h
  have HT := Aside0.mk (leftN_c n (w.alloc (.cells #[.slice A k c, .slice A' k' c'] 25)) x _ 400 40 ((kN n).K_below (below_alloc (Below.refl _ _) _) h))
  clear h
  go_enter Try.func10, Try.ntmps10
  go_wp2_with (first | (go_at_call 47; refine HT.out.mono ?_; rintro r w2 ⟨⟨v, rfl⟩, b2⟩; have B2 := Aside0.mk b2; clear b2))
  go_ret
  exact ⟨⟨_, rfl⟩, (below_alloc (Below.refl _ _) _).trans (B2.out.mono (by simp only [World.size_alloc]; omega))⟩
end Go.Proofs.Ytbpnfpckoapdbaa.Tr

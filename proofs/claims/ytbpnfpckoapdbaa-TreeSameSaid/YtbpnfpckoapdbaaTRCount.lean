/- How much a tree has: the document's answer; conditions stand at each. -/
import Derived.Test.YtbpnfpckoapdbaaTCount
namespace Go.Proofs.Ytbpnfpckoapdbaa.Tr
open Go.RowKit Go.Proofs.YtbpnfpckoapdbaaW.PrintWords Go.Proofs.YtbpnfpckoapdbaaW.PrintLast Go.Proofs.YtbpnfpckoapdbaaW.PrintMore Go.Proofs.Ytbpnfpckoapdbaa.Open
set_option linter.unusedVariables false
set_option linter.unusedSimpArgs false
set_option maxHeartbeats 1000000
set_option maxRecDepth 100000
attribute [local go_sem] max2_int min2_int max_two min_two
section
variable {α : Type} {d : Kd α}
theorem RCount_c {f : α → Int} (hd : Two d) (HD : Gives d 20 f) : Gives (kT d) 20 (countT f) := by
  intro w x cs h
  obtain ⟨A, c, A', ca, rfl, hl, hC, hl2, hR⟩ := kT_open h
  obtain ⟨wz, hwz⟩ : ∃ wz, wz = w.alloc (.cells #[.slice A x.slots.length c, .slice A' x.rest.length ca] 25) := ⟨_, rfl⟩
  have HWZ := Aside0.mk hwz
  have bz : Below w.heap.size w wz := by rw [hwz]; exact below_alloc (Below.refl _ _) _
  have hz : wz.heap[w.heap.size]? = some (.cells #[.slice A x.slots.length c, .slice A' x.rest.length ca] 25 (0, 0)) := by rw [hwz]; exact blk_new _ _
  have HBX := Aside0.mk (fun w2 (h2 : Below wz.heap.size wz w2) => (blk_cell (blk_below hz h2) 0).trans rfl)
  have BZ := Aside0.mk bz
  have HQ := Aside0.mk HD
  have HC := Aside0.mk hC
  have HM := Aside0.mk (Kd.C_max hC)
  have HRL := Aside0.mk (Kd.C_max hR)
  clear hwz bz hz hl hC hl2 hR h HD
  go_enter Try.func20, Try.ntmps20
  go_wp2
  rw [← HWZ.out]
  go_loopg [3, 4] x.slots.length (fun kq v3 v4 w' => ∃ (i : Nat) (m : Int), v3 = .int .i64 m ∧ v4 = .int .i64 (i : Int) ∧ Aside0 (kq + i = x.slots.length) ∧ Aside0 (wrap64 m = m) ∧ Aside0 (foldS (cV f) (x.rest.length : Int) x.slots = foldS (cV f) m (x.slots.drop i)) ∧ Aside0 (Below wz.heap.size wz w'))
  case atStart => exact ⟨0, _, rfl, rfl, ⟨by omega⟩, ⟨by have := HRL.out; unfold wrap64; omega⟩, ⟨rfl⟩, ⟨Below.refl _ _⟩⟩
  case round =>
    obtain ⟨i, m, rfl, rfl, HK, HW, HE, BW⟩ := hrel
    have z1 := HBX.out _ BW.out
    by_cases hi : (i : Int) < (x.slots.length : Int)
    · have c1 : decide ((i : Int) < (x.slots.length : Int)) = true := decide_eq_true hi
      have p0 : (0 : Int) ≤ (i : Int) := by omega
      obtain ⟨ad, A1, m1, s, rfl, hs, x1, x2, hk⟩ := at_Sk HC.out i (by omega)
      obtain ⟨_, _, he, hl, hCv⟩ := kS_open hk
      obtain ⟨rfl, rfl⟩ : A1 = _ ∧ m1 = _ := by simpa using he
      have hw : IntKind.i64.wrap ((i : Int) + 1) = ((i + 1 : Nat) : Int) := by have := HM.out; rw [IntKind.wrap_i64]; omega
      have HI := Aside0.mk (show i < x.slots.length by omega)
      have HST := Aside0.mk (show foldS (cV f) m (x.slots.drop i) = foldS (cV f) (s.vals.foldl (cV f) m) (x.slots.drop (i + 1)) by
        obtain ⟨h1, rfl⟩ := List.getElem?_eq_some_iff.1 hs
        rw [List.drop_eq_getElem_cons h1]
        rfl)
      have X2 := Aside0.mk x2
      have HKS := Aside0.mk hCv
      have HMS := Aside0.mk (Kd.C_max hCv)
      have ci := eq_true hi
      clear hi hs hk he hl hCv x1 x2
      have x2 := pw_cell_below (BZ.out.trans (BW.out.mono BZ.out.size)) X2.out
      go_wp2
      clear z1 x2
      go_loopg [3, 5] s.vals.length (fun kq v3 v5 w' => ∃ (k : Nat) (mk r : Int), v3 = .int .i64 r ∧ v5 = .int .i64 (k : Int) ∧ Aside0 (kq + k = s.vals.length) ∧ Aside0 (wrap64 mk = mk) ∧ Aside0 (r = wrap64 (mk + ((s.vals.length : Int) - (k : Int)))) ∧ Aside0 (s.vals.foldl (cV f) m = (s.vals.drop k).foldl (cV f) mk) ∧ Aside0 (Below wz.heap.size wz w'))
      case atStart => exact ⟨0, m, _, rfl, rfl, ⟨by omega⟩, HW, ⟨by first | (congr 1; omega; done) | (congr 1; done) | (simp; done)⟩, ⟨rfl⟩, BW⟩
      case round =>
        clear BW
        obtain ⟨k, mk, r1, rfl, rfl, HK2, HW2, HR2, HE2, BW⟩ := hrel
        have z1 := HBX.out _ BW.out
        have hbw := BZ.out.trans (BW.out.mono BZ.out.size)
        have x2 := pw_cell_below hbw X2.out
        by_cases hk : (k : Int) < (s.vals.length : Int)
        · have c3 : decide ((k : Int) < (s.vals.length : Int)) = true := decide_eq_true hk
          have p3 : (0 : Int) ≤ (k : Int) := by omega
          obtain ⟨bd, A2, m2, v, rfl, hv, y1, y2, y3, hkv⟩ := at_Vk HKS.out k (by omega)
          obtain ⟨_, _, he, hl, hCm⟩ := kV_open hkv
          obtain ⟨rfl, rfl⟩ : A2 = _ ∧ m2 = _ := by simpa using he
          have hw2 : IntKind.i64.wrap ((k : Int) + 1) = ((k + 1 : Nat) : Int) := by have := HMS.out; rw [IntKind.wrap_i64]; omega
          have HI2 := Aside0.mk (show k < s.vals.length by omega)
          have HST2 := Aside0.mk (show (s.vals.drop k).foldl (cV f) mk = (s.vals.drop (k + 1)).foldl (cV f) (cV f mk v) by
            obtain ⟨h1, rfl⟩ := List.getElem?_eq_some_iff.1 hv
            rw [List.drop_eq_getElem_cons h1]
            rfl)
          have Y3 := Aside0.mk y3
          have HKM := Aside0.mk hCm
          have HMM := Aside0.mk (Kd.C_max hCm)
          have ck := eq_true hk
          clear hk hv hkv he hl hCm y1 y2 y3 hbw
          go_wp2
          clear z1 x2
          go_loopg [3, 6] v.m.length (fun kq v3 v6 w' => ∃ (j : Nat) (mj r : Int), v3 = .int .i64 r ∧ v6 = .int .i64 (j : Int) ∧ Aside0 (kq + j = v.m.length) ∧ Aside0 (wrap64 mj = mj) ∧ Aside0 (r = wrap64 (mj + ((s.vals.length : Int) - ((k : Int) + 1)))) ∧ Aside0 (cV f mk v = (v.m.drop j).foldl (fun a x => wrap64 (a + f x)) mj) ∧ Aside0 (Below wz.heap.size wz w'))
          case atStart => exact ⟨0, wrap64 (mk + 1), r1, rfl, rfl, ⟨by omega⟩, ⟨by unfold wrap64; omega⟩, ⟨by rw [HR2.out]; unfold wrap64; omega⟩, ⟨rfl⟩, BW⟩
          case round =>
            clear BW
            obtain ⟨j, mj, r2, rfl, rfl, HK3, HW3, HR3, HE3, BW⟩ := hrel
            have z1 := HBX.out _ BW.out
            have hbw := BZ.out.trans (BW.out.mono BZ.out.size)
            have x2 := pw_cell_below hbw X2.out
            have y3 := pw_cell_below hbw Y3.out
            by_cases hj : (j : Int) < (v.m.length : Int)
            · have c5 : decide ((j : Int) < (v.m.length : Int)) = true := decide_eq_true hj
              have p5 : (0 : Int) ≤ (j : Int) := by omega
              obtain ⟨ed, A3, n3, c3', A4, n4, c4', u, rfl, hu, u1, u2, hku⟩ := at_T hd HKM.out j (by omega)
              replace u1 := pw_cell_below hbw u1
              replace u2 := pw_cell_below hbw u2
              have hw3 : IntKind.i64.wrap ((j : Int) + 1) = ((j + 1 : Nat) : Int) := by have := HMM.out; rw [IntKind.wrap_i64]; omega
              have HI3 := Aside0.mk (show j < v.m.length by omega)
              have HST3 := Aside0.mk (show (v.m.drop j).foldl (fun a x => wrap64 (a + f x)) mj = (v.m.drop (j + 1)).foldl (fun a x => wrap64 (a + f x)) (wrap64 (mj + f u)) by
                obtain ⟨h1, rfl⟩ := List.getElem?_eq_some_iff.1 hu
                rw [List.drop_eq_getElem_cons h1]
                rfl)
              have HT := Aside0.mk (HQ.out wr u _ (d.K_below hbw hku))
              have cj := eq_true hj
              clear hj hu hku hbw
              go_wp2_with (first | (go_at_call 20; refine HT.out.mono ?_; rintro r w2 ⟨rfl, b2⟩; have B2 := Aside0.mk b2; clear b2))
              go_roundg (v.m.length - (j + 1))
              case measure => have := HK3.out; have := HI3.out; omega
              case rel => exact ⟨j + 1, wrap64 (mj + f u), _, rfl, rfl, ⟨by have := HI3.out; omega⟩, ⟨by unfold wrap64; omega⟩, ⟨by rw [HR3.out]; unfold wrap64; omega⟩, ⟨by rw [HE3.out, HST3.out]⟩, ⟨BW.out.trans (B2.out.mono BW.out.size)⟩⟩
            · have c5 : decide ((j : Int) < (v.m.length : Int)) = false := decide_eq_false hj
              have c6 : decide (j < v.m.length) = false := decide_eq_false (by omega)
              have HF := Aside0.mk (show cV f mk v = mj by rw [HE3.out, List.drop_eq_nil_of_le (by omega)]; rfl)
              clear hj hbw
              go_wp2
              go_roundg (s.vals.length - (k + 1))
              case measure => have := HK2.out; have := HI2.out; omega
              case rel => exact ⟨k + 1, mj, r2, rfl, rfl, ⟨by have := HI2.out; omega⟩, HW3, ⟨by rw [HR3.out]; unfold wrap64; omega⟩, ⟨by rw [HE2.out, HST2.out, HF.out]⟩, BW⟩
        · have c3 : decide ((k : Int) < (s.vals.length : Int)) = false := decide_eq_false hk
          have c4 : decide (k < s.vals.length) = false := decide_eq_false (by omega)
          have HF := Aside0.mk (show s.vals.foldl (cV f) m = mk by rw [HE2.out, List.drop_eq_nil_of_le (by omega)]; rfl)
          have HF2 := Aside0.mk (show r1 = mk by rw [HR2.out, show mk + ((s.vals.length : Int) - (k : Int)) = mk by have := HK2.out; omega]; exact HW2.out)
          clear hk hbw
          go_wp2
          go_roundg (x.slots.length - (i + 1))
          case measure => have := HK.out; have := HI.out; omega
          case rel => exact ⟨i + 1, mk, by rw [HF2.out], rfl, ⟨by have := HI.out; omega⟩, HW2, ⟨by rw [HE.out, HST.out, HF.out]⟩, BW⟩
    · have c1 : decide ((i : Int) < (x.slots.length : Int)) = false := decide_eq_false hi
      have c2 : decide (i < x.slots.length) = false := decide_eq_false (by omega)
      have HF := Aside0.mk (show countT f x = m by unfold countT; rw [HE.out, List.drop_eq_nil_of_le (by omega)]; rfl)
      clear hi
      go_wp2
      go_ret
      exact ⟨by rw [HF.out]; rfl, BZ.out.trans (BW.out.mono BZ.out.size)⟩
end
theorem RCountN_c : ∀ n, Gives (kN n) 20 (countN n)
  | 0 => fun w x cs h => h.elim
  | n + 1 => RCount_c (kN_two n) (RCountN_c n)
end Go.Proofs.Ytbpnfpckoapdbaa.Tr

/- Which trees are the same: the document's answer; conditions stand at each. -/
import Derived.Test.YtbpnfpckoapdbaaTSame
namespace Go.Proofs.Ytbpnfpckoapdbaa.Tr
open Go.RowKit Go.Proofs.YtbpnfpckoapdbaaW.PrintWords Go.Proofs.YtbpnfpckoapdbaaW.PrintLast Go.Proofs.YtbpnfpckoapdbaaW.PrintMore Go.Proofs.Ytbpnfpckoapdbaa.Open
set_option linter.unusedVariables false
set_option linter.unusedSimpArgs false
set_option maxHeartbeats 1000000
set_option maxRecDepth 100000
section
variable {α : Type} {d : Kd α} {e : α → α → Bool}
theorem SameVals_c (hd : Two d) (HE : Tells d 14 e) {w : World} {A B : Option Addr} {c c' : Nat} {xs ys : List (SV α)} (hA : (kV d).C w A xs.length xs) (hB : (kV d).C w B ys.length ys) (hc : xs.length ≤ c) (hc' : ys.length ≤ c') :
    Calls Try.prog 43 #[.slice A xs.length c, .slice B ys.length c'] w fun r w' => r = .returned (.bool (eqL (eqV e) xs ys)) ∧ Below w.heap.size w w' := by
  have HA := Aside0.mk hA
  have HB := Aside0.mk hB
  have HQ := Aside0.mk HE
  have HM := Aside0.mk (Kd.C_max hA)
  clear hA hB HE hc hc'
  by_cases hl : (xs.length : Int) = (ys.length : Int)
  · have b1 : ((xs.length : Int) != (ys.length : Int)) = false := bne_eq_false_iff_eq.mpr hl
    have b2 : (xs.length == ys.length) = true := by simp; omega
    have HL := Aside0.mk hl
    clear hl
    go_enter Try.func43, Try.ntmps43
    go_wp2
    go_loopg [5] xs.length (fun kq v5 w' => ∃ i : Nat, v5 = .int .i64 (i : Int) ∧ Aside0 (kq + i = xs.length) ∧ Aside0 (eqL (eqV e) xs ys = eqL (eqV e) (xs.drop i) (ys.drop i)) ∧ Aside0 (Below w.heap.size w w'))
    case atStart => exact ⟨0, rfl, ⟨by omega⟩, ⟨rfl⟩, ⟨Below.refl _ _⟩⟩
    case round =>
      obtain ⟨i, rfl, HK, HE, BW⟩ := hrel
      by_cases hi : (i : Int) < (xs.length : Int)
      · have c1 : decide ((i : Int) < (xs.length : Int)) = true := decide_eq_true hi
        have p0 : (0 : Int) ≤ (i : Int) := by omega
        have q2 : (i : Int) < (ys.length : Int) := by have := HL.out; omega
        obtain ⟨ad, A1, m1, x, rfl, hx, x1, x2, x3, hk⟩ := at_Vk (Kd.C_below HA.out BW.out) i (by omega)
        obtain ⟨ad', A1', m1', y, rfl, hy, y1, y2, y3, hk'⟩ := at_Vk (Kd.C_below HB.out BW.out) i (by omega)
        obtain ⟨_, _, he1, hl1, hC1⟩ := kV_open hk
        obtain ⟨_, _, he2, hl2, hC2⟩ := kV_open hk'
        obtain ⟨rfl, rfl⟩ : A1 = _ ∧ m1 = _ := by simpa using he1
        obtain ⟨rfl, rfl⟩ : A1' = _ ∧ m1' = _ := by simpa using he2
        have HN := Aside0.mk (eqL_at (e := eqV e) hx hy)
        have K1 := Aside0.mk hC1
        have K2 := Aside0.mk hC2
        have HI := Aside0.mk (show i < xs.length by omega)
        have hw : IntKind.i64.wrap ((i : Int) + 1) = ((i + 1 : Nat) : Int) := by have := HM.out; rw [IntKind.wrap_i64]; omega
        replace hi := eq_true hi
        replace q2 := eq_true q2
        clear hx hy hk hk' he1 he2 hl1 hl2 hC1 hC2
        cases hn : x.n == y.n with
        | false =>
          have hn' : (x.n != y.n) = true := by simp [bne, hn]
          have HF := Aside0.mk (show eqL (eqV e) xs ys = false by rw [HE.out, HN.out]; simp only [eqV, hn, Bool.false_and])
          go_wp2
          go_quiet (fail)
          go_wp2
          go_ret
          exact ⟨by rw [HF.out]; rfl, BW.out.trans (pw_below_drewN (Below.refl _ _) _ |>.mono BW.out.size)⟩
        | true =>
          have hn' : (x.n != y.n) = false := by simp [bne, hn]
          cases hs : x.s.toList == y.s.toList with
          | false =>
            have hs' : (x.s.toList != y.s.toList) = true := by simp [bne, hs]
            have HF := Aside0.mk (show eqL (eqV e) xs ys = false by rw [HE.out, HN.out]; simp only [eqV, hn, hs, Bool.false_and, Bool.and_false])
            go_wp2
            go_quiet (fail)
            go_wp2
            go_ret
            exact ⟨by rw [HF.out]; rfl, BW.out.trans (pw_below_drewN (Below.refl _ _) _ |>.mono BW.out.size)⟩
          | true =>
            have hs' : (x.s.toList != y.s.toList) = false := by simp [bne, hs]
            by_cases hm : (x.m.length : Int) = (y.m.length : Int)
            · have m1 : ((x.m.length : Int) != (y.m.length : Int)) = false := bne_eq_false_iff_eq.mpr hm
              have m2 : (x.m.length == y.m.length) = true := by simp; omega
              have HML := Aside0.mk hm
              have HVE := Aside0.mk (show eqV e x y = eqL e x.m y.m by simp only [eqV, hn, hs, Bool.true_and])
              clear hm
              go_wp2
              go_quiet (fail)
              go_wp2
              have X1 := Aside0.mk x3
              have Y1 := Aside0.mk y3
              clear x1 x2 x3 y1 y2 y3 hn hn' hs hs' m1 m2
              go_loopg [6] x.m.length (fun kq v6 w' => ∃ k : Nat, v6 = .int .i64 (k : Int) ∧ Aside0 (kq + k = x.m.length) ∧ Aside0 (eqL e x.m y.m = eqL e (x.m.drop k) (y.m.drop k)) ∧ Aside0 (Below wr.heap.size wr w'))
              case atStart => exact ⟨0, rfl, ⟨by omega⟩, ⟨rfl⟩, ⟨pw_below_drewN (Below.refl _ _) _⟩⟩
              case round =>
                obtain ⟨k, rfl, HK2, HE2, BI⟩ := hrel
                have x3 := pw_cell_below BI.out X1.out
                have y3 := pw_cell_below BI.out Y1.out
                by_cases hk : (k : Int) < (x.m.length : Int)
                · have c3 : decide ((k : Int) < (x.m.length : Int)) = true := decide_eq_true hk
                  have p3 : (0 : Int) ≤ (k : Int) := by omega
                  have q3 : (k : Int) < (y.m.length : Int) := by have := HML.out; omega
                  obtain ⟨bd, B1, n1, d1, B2, n2, d2, u, rfl, hu, u1, u2, hk⟩ := at_T hd (Kd.C_below K1.out BI.out) k (by omega)
                  obtain ⟨bd', B1', n1', d1', B2', n2', d2', v, rfl, hv, v1, v2, hk'⟩ := at_T hd (Kd.C_below K2.out BI.out) k (by omega)
                  have hm : wr.cell? ⟨(ad.add (i * 3)).block, (ad.add (i * 3)).off + 2, none⟩ = some (.slice (some bd) x.m.length m1) ∧ wr.cell? ⟨(ad'.add (i * 3)).block, (ad'.add (i * 3)).off + 2, none⟩ = some (.slice (some bd') y.m.length m1') ∧ wr.cell? (bd.add (k * 2)) = some (.slice B1 n1 d1) ∧ wr.cell? ⟨(bd.add (k * 2)).block, (bd.add (k * 2)).off + 1, none⟩ = some (.slice B2 n2 d2) ∧ wr.cell? (bd'.add (k * 2)) = some (.slice B1' n1' d1') ∧ wr.cell? ⟨(bd'.add (k * 2)).block, (bd'.add (k * 2)).off + 1, none⟩ = some (.slice B2' n2' d2') := ⟨x3, y3, u1, u2, v1, v2⟩
                  have HM2 := Aside0.mk (fun w2 (hb : Below wr.heap.size wr w2) => show w2.cell? ⟨(ad.add (i * 3)).block, (ad.add (i * 3)).off + 2, none⟩ = some (.slice (some bd) x.m.length m1) ∧ w2.cell? ⟨(ad'.add (i * 3)).block, (ad'.add (i * 3)).off + 2, none⟩ = some (.slice (some bd') y.m.length m1') ∧ w2.cell? (bd.add (k * 2)) = some (.slice B1 n1 d1) ∧ w2.cell? ⟨(bd.add (k * 2)).block, (bd.add (k * 2)).off + 1, none⟩ = some (.slice B2 n2 d2) ∧ w2.cell? (bd'.add (k * 2)) = some (.slice B1' n1' d1') ∧ w2.cell? ⟨(bd'.add (k * 2)).block, (bd'.add (k * 2)).off + 1, none⟩ = some (.slice B2' n2' d2') from ⟨pw_cell_below hb x3, pw_cell_below hb y3, pw_cell_below hb u1, pw_cell_below hb u2, pw_cell_below hb v1, pw_cell_below hb v2⟩)
                  have HT := Aside0.mk (fun n => HQ.out (wr.drewN n) u v _ _ (d.K_below (pw_below_drewN (Below.refl _ _) n) hk) (d.K_below (pw_below_drewN (Below.refl _ _) n) hk'))
                  have HN2 := Aside0.mk (eqL_at (e := e) hu hv)
                  have HKI := Aside0.mk (show k < x.m.length by omega)
                  have hw2 : IntKind.i64.wrap ((k : Int) + 1) = ((k + 1 : Nat) : Int) := by have := Kd.C_max K1.out; rw [IntKind.wrap_i64]; omega
                  have c5 : ((k : Int) < (x.m.length : Int)) = True := eq_true (by omega)
                  have c6 : ((k : Int) < (y.m.length : Int)) = True := eq_true (by omega)
                  clear hk hk' hu hv q3 x3 y3 u1 u2 v1 v2
                  obtain ⟨x3, y3, u1, u2, v1, v2⟩ := hm
                  have hm := HM2.out wr (Below.refl _ _)
                  cases hev : e u v with
                  | false =>
                    simp only [hev] at HT
                    have HF := Aside0.mk (show eqL (eqV e) xs ys = false by rw [HE.out, HN.out, HVE.out, HE2.out, HN2.out, hev]; rfl)
                    go_wp2_with fail
                    go_region_held3 (fun w' => w'.cell? ⟨(ad.add (i * 3)).block, (ad.add (i * 3)).off + 2, none⟩ = some (.slice (some bd) x.m.length m1) ∧ w'.cell? ⟨(ad'.add (i * 3)).block, (ad'.add (i * 3)).off + 2, none⟩ = some (.slice (some bd') y.m.length m1') ∧ w'.cell? (bd.add (k * 2)) = some (.slice B1 n1 d1) ∧ w'.cell? ⟨(bd.add (k * 2)).block, (bd.add (k * 2)).off + 1, none⟩ = some (.slice B2 n2 d2) ∧ w'.cell? (bd'.add (k * 2)) = some (.slice B1' n1' d1') ∧ w'.cell? ⟨(bd'.add (k * 2)).block, (bd'.add (k * 2)).off + 1, none⟩ = some (.slice B2' n2' d2')) (first | exact hm | exact CM2.out | go_keep) (first
                      | (go_at_call 14; refine (HT.out _).mono ?_; rintro e' w2 ⟨rfl, b2⟩
                         have B2 := Aside0.mk ((pw_below_drewN (Below.refl wr.heap.size wr) _).trans b2)
                         have CM2 := Aside0.mk (HM2.out _ B2.out)
                         clear b2))
                    go_wp2
                    go_ret
                    exact ⟨by rw [HF.out]; rfl, BW.out.trans ((BI.out.trans (B2.out.mono BI.out.size)).mono BW.out.size)⟩
                  | true =>
                    simp only [hev] at HT
                    have HF := Aside0.mk (show eqL e x.m y.m = eqL e (x.m.drop (k + 1)) (y.m.drop (k + 1)) by rw [HE2.out, HN2.out, hev]; rfl)
                    go_wp2_with fail
                    go_region_held3 (fun w' => w'.cell? ⟨(ad.add (i * 3)).block, (ad.add (i * 3)).off + 2, none⟩ = some (.slice (some bd) x.m.length m1) ∧ w'.cell? ⟨(ad'.add (i * 3)).block, (ad'.add (i * 3)).off + 2, none⟩ = some (.slice (some bd') y.m.length m1') ∧ w'.cell? (bd.add (k * 2)) = some (.slice B1 n1 d1) ∧ w'.cell? ⟨(bd.add (k * 2)).block, (bd.add (k * 2)).off + 1, none⟩ = some (.slice B2 n2 d2) ∧ w'.cell? (bd'.add (k * 2)) = some (.slice B1' n1' d1') ∧ w'.cell? ⟨(bd'.add (k * 2)).block, (bd'.add (k * 2)).off + 1, none⟩ = some (.slice B2' n2' d2')) (first | exact hm | exact CM2.out | go_keep) (first
                      | (go_at_call 14; refine (HT.out _).mono ?_; rintro e' w2 ⟨rfl, b2⟩
                         have B2 := Aside0.mk ((pw_below_drewN (Below.refl wr.heap.size wr) _).trans b2)
                         have CM2 := Aside0.mk (HM2.out _ B2.out)
                         clear b2))
                    go_wp2
                    go_roundg (x.m.length - (k + 1))
                    case measure => have := HK2.out; have := HKI.out; omega
                    case rel => exact ⟨k + 1, rfl, ⟨by have := HKI.out; omega⟩, HF, ⟨BI.out.trans (B2.out.mono BI.out.size)⟩⟩
                · have c3 : decide ((k : Int) < (x.m.length : Int)) = false := decide_eq_false hk
                  have c4 : decide (k < x.m.length) = false := decide_eq_false (by omega)
                  have HF := Aside0.mk (show eqL e x.m y.m = true by rw [HE2.out]; exact eqL_end (by omega) (by have := HML.out; omega))
                  clear hk
                  go_wp2
                  go_roundg (xs.length - (i + 1))
                  case measure => have := HK.out; have := HI.out; omega
                  case rel => exact ⟨i + 1, rfl, ⟨by have := HI.out; omega⟩, ⟨by rw [HE.out, HN.out, HVE.out, HF.out, Bool.true_and]⟩, ⟨BW.out.trans (BI.out.mono BW.out.size)⟩⟩
            · have m1 : ((x.m.length : Int) != (y.m.length : Int)) = true := bne_iff_ne.mpr hm
              have m2 : (x.m.length == y.m.length) = false := by simp; omega
              have HF := Aside0.mk (show eqL (eqV e) xs ys = false by rw [HE.out, HN.out]; simp only [eqV, hn, hs, Bool.true_and]; rw [eqL_len (by omega)]; rfl)
              go_wp2
              go_quiet (fail)
              go_wp2
              go_ret
              exact ⟨by rw [HF.out]; rfl, BW.out.trans (pw_below_drewN (Below.refl _ _) _ |>.mono BW.out.size)⟩
      · have c1 : decide ((i : Int) < (xs.length : Int)) = false := decide_eq_false hi
        have c2 : decide (i < xs.length) = false := decide_eq_false (by omega)
        have HF := Aside0.mk (show eqL (eqV e) xs ys = true by rw [HE.out]; exact eqL_end (by omega) (by have := HL.out; omega))
        clear hi
        go_wp2
        go_ret
        exact ⟨by rw [HF.out]; rfl, BW.out⟩
  · have b1 : ((xs.length : Int) != (ys.length : Int)) = true := bne_iff_ne.mpr hl
    have b2 : (xs.length == ys.length) = false := by simp; omega
    have HF := Aside0.mk (eqL_len (e := eqV e) (xs := xs) (ys := ys) (by omega))
    clear hl
    go_enter Try.func43, Try.ntmps43
    go_wp2
    go_ret
    exact ⟨by rw [HF.out]; rfl, Below.refl _ _⟩
theorem RSameT_c (hd : Two d) (HE : Tells d 14 e) : Tells (kT d) 14 (eqT e) := by
  intro w x y cs cs' h h'
  obtain ⟨A, c, A', ca, rfl, hl, hC, hl2, hR⟩ := kT_open h
  obtain ⟨B, c', B', cb, rfl, hl', hC', hl2', hR'⟩ := kT_open h'
  obtain ⟨wz, hwz⟩ : ∃ wz, wz = (w.alloc (.cells #[.slice A x.slots.length c, .slice A' x.rest.length ca] 25)).alloc (.cells #[.slice B y.slots.length c', .slice B' y.rest.length cb] 25) := ⟨_, rfl⟩
  have bw : Below w.heap.size w wz := by rw [hwz]; exact b2 _ _ _
  have HBX : Aside0 (∀ w2, Below wz.heap.size wz w2 → w2.heap[w.heap.size]? = some (.cells #[.slice A x.slots.length c, .slice A' x.rest.length ca] 25 (0, 0)) ∧ w2.heap[w.heap.size + 1]? = some (.cells #[.slice B y.slots.length c', .slice B' y.rest.length cb] 25 (0, 0))) := ⟨fun w2 h2 => by rw [hwz] at h2; exact boxes h2⟩
  have HR := Aside0.mk (refSame_c (c := ca) (c' := cb) (Kd.C_below hR bw) hl2 (Kd.C_below hR' bw) hl2')
  have HA := Aside0.mk (Kd.C_below hC bw)
  have HB := Aside0.mk (Kd.C_below hC' bw)
  have HQ := Aside0.mk HE
  have BZ := Aside0.mk bw
  have HM := Aside0.mk (Kd.C_max hC)
  have HWZ := Aside0.mk hwz
  clear hl2 hl2' hl hl' hC hC' hR hR' h h' HE bw
  by_cases hsl : (x.slots.length : Int) = (y.slots.length : Int)
  · have b1 : ((x.slots.length : Int) != (y.slots.length : Int)) = false := bne_eq_false_iff_eq.mpr hsl
    have b2 : (x.slots.length == y.slots.length) = true := by simp; omega
    have HL := Aside0.mk hsl
    clear hsl
    cases hn : eqL eqR x.rest y.rest with
    | false =>
      rw [hn] at HR
      have HF := Aside0.mk (show eqT e x y = false by simp only [eqT, hn, Bool.false_and])
      clear hwz
      go_enter Try.func14, Try.ntmps14
      go_wp2_with (first | (go_at_call 52; rw [← HWZ.out]; refine HR.out.mono ?_; rintro r w2 ⟨rfl, b2⟩; have B2 := Aside0.mk b2; clear b2))
      go_ret
      exact ⟨by rw [HF.out]; rfl, BZ.out.trans (B2.out.mono BZ.out.size)⟩
    | true =>
      rw [hn] at HR
      have HF := Aside0.mk (show eqT e x y = eqL (eqS e) x.slots y.slots by simp only [eqT, hn, Bool.true_and])
      clear hwz
      go_enter Try.func14, Try.ntmps14
      go_wp2_with (first | (go_at_call 52; rw [← HWZ.out]; refine HR.out.mono ?_; rintro r w2 ⟨rfl, b2⟩; have B2 := Aside0.mk b2; clear b2))
      go_loopg [5] x.slots.length (fun kq v5 w' => ∃ i : Nat, v5 = .int .i64 (i : Int) ∧ Aside0 (kq + i = x.slots.length) ∧ Aside0 (eqL (eqS e) x.slots y.slots = eqL (eqS e) (x.slots.drop i) (y.slots.drop i)) ∧ Aside0 (Below wz.heap.size wz w'))
      case atStart => exact ⟨0, rfl, ⟨by omega⟩, ⟨rfl⟩, B2⟩
      case round =>
        obtain ⟨i, rfl, HK, HE, BW⟩ := hrel
        have z1 := (blk_cell (HBX.out _ BW.out).1 0).trans rfl
        have z2 := (blk_cell (HBX.out _ BW.out).2 0).trans rfl
        by_cases hi : (i : Int) < (x.slots.length : Int)
        · have c1 : decide ((i : Int) < (x.slots.length : Int)) = true := decide_eq_true hi
          have p0 : (0 : Int) ≤ (i : Int) := by omega
          have q2 : (i : Int) < (y.slots.length : Int) := by have := HL.out; omega
          obtain ⟨ad, A1, m1, s, rfl, hx, x1, x2, hk⟩ := at_Sk (Kd.C_below HA.out BW.out) i (by omega)
          obtain ⟨ad', A2, m2, u, rfl, hy, y1, y2, hk'⟩ := at_Sk (Kd.C_below HB.out BW.out) i (by omega)
          have HN := Aside0.mk (eqL_at (e := eqS e) hx hy)
          have HI := Aside0.mk (show i < x.slots.length by omega)
          have hw : IntKind.i64.wrap ((i : Int) + 1) = ((i + 1 : Nat) : Int) := by have := HM.out; rw [IntKind.wrap_i64]; omega
          obtain ⟨_, _, he1, hl1, hC1⟩ := kS_open hk
          obtain ⟨_, _, he2, hl2, hC2⟩ := kS_open hk'
          obtain ⟨rfl, rfl⟩ : A1 = _ ∧ m1 = _ := by simpa using he1
          obtain ⟨rfl, rfl⟩ : A2 = _ ∧ m2 = _ := by simpa using he2
          have HT := Aside0.mk (fun n => SameVals_c hd HQ.out (w := wr.drewN n) (Kd.C_below hC1 (pw_below_drewN (Below.refl _ _) n)) (Kd.C_below hC2 (pw_below_drewN (Below.refl _ _) n)) hl1 hl2)
          replace hi := eq_true hi
          replace q2 := eq_true q2
          clear hx hy hk hk' he1 he2 hl1 hl2 hC1 hC2
          cases hnn : s.num == u.num with
          | false =>
            have hn' : (s.num != u.num) = true := by simp [bne, hnn]
            have HF2 := Aside0.mk (show eqT e x y = false by rw [HF.out, HE.out, HN.out]; simp only [eqS, hnn, Bool.false_and])
            go_wp2
            go_quiet (fail)
            go_wp2
            go_ret
            exact ⟨by rw [HF2.out]; rfl, BZ.out.trans ((BW.out.trans (pw_below_drewN (Below.refl _ _) _ |>.mono BW.out.size)).mono BZ.out.size)⟩
          | true =>
            have hn' : (s.num != u.num) = false := by simp [bne, hnn]
            have HVE := Aside0.mk (show eqS e s u = eqL (eqV e) s.vals u.vals by simp only [eqS, hnn, Bool.true_and])
            have HM2 := Aside0.mk (fun w2 (hb : Below wr.heap.size wr w2) => show w2.cell? ⟨w.heap.size, 0, none⟩ = some (.slice (some ad) x.slots.length c) ∧ w2.cell? ⟨w.heap.size + 1, 0, none⟩ = some (.slice (some ad') y.slots.length c') ∧ w2.cell? (ad.add (i * 2)) = some (.int .i64 s.num) ∧ w2.cell? ⟨(ad.add (i * 2)).block, (ad.add (i * 2)).off + 1, none⟩ = some (.slice A1 s.vals.length m1) ∧ w2.cell? (ad'.add (i * 2)) = some (.int .i64 u.num) ∧ w2.cell? ⟨(ad'.add (i * 2)).block, (ad'.add (i * 2)).off + 1, none⟩ = some (.slice A2 u.vals.length m2) from ⟨pw_cell_below hb z1, pw_cell_below hb z2, pw_cell_below hb x1, pw_cell_below hb x2, pw_cell_below hb y1, pw_cell_below hb y2⟩)
            have hm := HM2.out wr (Below.refl _ _)
            cases hev : eqL (eqV e) s.vals u.vals with
            | false =>
              simp only [hev] at HT
              have HF2 := Aside0.mk (show eqT e x y = false by rw [HF.out, HE.out, HN.out, HVE.out, hev]; rfl)
              go_wp2_with fail
              go_region_held3 (fun w' => w'.cell? ⟨w.heap.size, 0, none⟩ = some (.slice (some ad) x.slots.length c) ∧ w'.cell? ⟨w.heap.size + 1, 0, none⟩ = some (.slice (some ad') y.slots.length c') ∧ w'.cell? (ad.add (i * 2)) = some (.int .i64 s.num) ∧ w'.cell? ⟨(ad.add (i * 2)).block, (ad.add (i * 2)).off + 1, none⟩ = some (.slice A1 s.vals.length m1) ∧ w'.cell? (ad'.add (i * 2)) = some (.int .i64 u.num) ∧ w'.cell? ⟨(ad'.add (i * 2)).block, (ad'.add (i * 2)).off + 1, none⟩ = some (.slice A2 u.vals.length m2)) (first | exact hm | exact CM2.out | go_keep) (first
                | (go_at_call 43; refine (HT.out _).mono ?_; rintro e' w2 ⟨rfl, b2⟩
                   have B2 := Aside0.mk ((pw_below_drewN (Below.refl wr.heap.size wr) _).trans b2)
                   have CM2 := Aside0.mk (HM2.out _ B2.out)
                   clear b2))
              go_wp2
              go_ret
              exact ⟨by rw [HF2.out]; rfl, BZ.out.trans ((BW.out.trans (B2.out.mono BW.out.size)).mono BZ.out.size)⟩
            | true =>
              simp only [hev] at HT
              have HF2 := Aside0.mk (show eqL (eqS e) x.slots y.slots = eqL (eqS e) (x.slots.drop (i + 1)) (y.slots.drop (i + 1)) by rw [HE.out, HN.out, HVE.out, hev]; rfl)
              go_wp2_with fail
              go_region_held3 (fun w' => w'.cell? ⟨w.heap.size, 0, none⟩ = some (.slice (some ad) x.slots.length c) ∧ w'.cell? ⟨w.heap.size + 1, 0, none⟩ = some (.slice (some ad') y.slots.length c') ∧ w'.cell? (ad.add (i * 2)) = some (.int .i64 s.num) ∧ w'.cell? ⟨(ad.add (i * 2)).block, (ad.add (i * 2)).off + 1, none⟩ = some (.slice A1 s.vals.length m1) ∧ w'.cell? (ad'.add (i * 2)) = some (.int .i64 u.num) ∧ w'.cell? ⟨(ad'.add (i * 2)).block, (ad'.add (i * 2)).off + 1, none⟩ = some (.slice A2 u.vals.length m2)) (first | exact hm | exact CM2.out | go_keep) (first
                | (go_at_call 43; refine (HT.out _).mono ?_; rintro e' w2 ⟨rfl, b2⟩
                   have B2 := Aside0.mk ((pw_below_drewN (Below.refl wr.heap.size wr) _).trans b2)
                   have CM2 := Aside0.mk (HM2.out _ B2.out)
                   clear b2))
              go_wp2
              go_roundg (x.slots.length - (i + 1))
              case measure => have := HK.out; have := HI.out; omega
              case rel => exact ⟨i + 1, rfl, ⟨by have := HI.out; omega⟩, HF2, ⟨BW.out.trans (B2.out.mono BW.out.size)⟩⟩
        · have c1 : decide ((i : Int) < (x.slots.length : Int)) = false := decide_eq_false hi
          have c2 : decide (i < x.slots.length) = false := decide_eq_false (by omega)
          have HF2 := Aside0.mk (show eqT e x y = true by rw [HF.out, HE.out]; exact eqL_end (by omega) (by have := HL.out; omega))
          clear hi
          go_wp2
          go_ret
          exact ⟨by rw [HF2.out]; rfl, BZ.out.trans (BW.out.mono BZ.out.size)⟩
  · have b1 : ((x.slots.length : Int) != (y.slots.length : Int)) = true := bne_iff_ne.mpr hsl
    have b2 : (x.slots.length == y.slots.length) = false := by simp; omega
    have HF := Aside0.mk (show eqT e x y = false by simp only [eqT, eqL_len (e := eqS e) (xs := x.slots) (ys := y.slots) (by omega), Bool.and_false])
    clear hsl
    clear hwz
    go_enter Try.func14, Try.ntmps14
    go_wp2
    go_ret
    exact ⟨by rw [HF.out]; rfl, by rw [← HWZ.out]; exact BZ.out⟩
end
theorem RSameN_c : ∀ n, Tells (kN n) 14 (eqN n)
  | 0 => fun w x y cs cs' h _ => h.elim
  | n + 1 => RSameT_c (kN_two n) (RSameN_c n)
end Go.Proofs.Ytbpnfpckoapdbaa.Tr

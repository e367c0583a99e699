/- TreeSame: the walk; conditions stand at each. -/
import Derived.Test.YtbpnfpckoapdbaaTRSame
import Derived.Test.YtbpnfpckoapdbaaTRDeep
import Derived.Test.YtbpnfpckoapdbaaTRCount
import Derived.Test.YtbpnfpckoapdbaaTLeft
namespace Go.Proofs.Ytbpnfpckoapdbaa.Tr
open Go.RowKit Go.Proofs.YtbpnfpckoapdbaaW.PrintWords Go.Proofs.YtbpnfpckoapdbaaW.PrintLast Go.Proofs.YtbpnfpckoapdbaaW.PrintMore Go.Proofs.Ytbpnfpckoapdbaa.Open
set_option linter.unusedVariables false
set_option linter.unusedSimpArgs false
set_option maxHeartbeats 1000000
set_option maxRecDepth 100000
theorem eqL_self {α : Type} {e : α → α → Bool} (h : ∀ x, e x x = true) : ∀ l, eqL e l l = true
  | [] => rfl
  | x :: l => by simp only [eqL, h, eqL_self h l, Bool.and_self]
theorem eqR_self (x : SR) : eqR x x = true := by simp [eqR]
theorem eqT_self {α : Type} {e : α → α → Bool} (h : ∀ x, e x x = true) (x : ST α) : eqT e x x = true := by
  have h1 : ∀ v : SV α, eqV e v v = true := fun v => by simp [eqV, eqL_self h]
  have h2 : ∀ s : SS α, eqS e s s = true := fun s => by simp [eqS, eqL_self h1]
  simp [eqT, eqL_self h2, eqL_self eqR_self]
theorem eqN_self : ∀ (n : Nat) (x : TN n), eqN n x x = true
  | 0, _ => rfl
  | n + 1, x => eqT_self (eqN_self n) x
def noT : TN 1 := (⟨[], []⟩ : ST Empty)
theorem noT_K (w : World) : (kN 1).K w noT [.slice none 0 0, .slice none 0 0] := kT_mk (d := k0) (x := ⟨[], []⟩) (Nat.le_refl 0) (Kd.C_nil _ w) (Nat.le_refl 0) (Kd.C_nil _ w)
theorem live_c (w : World) : Calls Try.prog 11 #[] w fun r w' => r = .returned (.bool true) ∧ Below w.heap.size w w' := by
  have HD := Aside0.mk (fun w2 => DeepN_c 1 w2 noT _ (noT_K w2))
  have HC := Aside0.mk (fun w2 => CountN_c 1 w2 noT _ (noT_K w2))
  have e1 : deepN 1 noT = 1 := by kernel_rfl
  have e2 : countN 1 noT = 0 := by kernel_rfl
  rw [e1] at HD
  rw [e2] at HC
  go_enter Try.func11, Try.ntmps11
  go_wp2_with (first
    | (go_at_call 17; refine (HD.out _).mono ?_; rintro r w1 ⟨rfl, b1⟩; have B1 := Aside0.mk b1; clear b1)
    | (go_at_call 19; refine (HC.out _).mono ?_; rintro r w2 ⟨rfl, b2⟩; have B2 := Aside0.mk b2; clear b2))
  go_ret
  exact ⟨rfl, B1.out.trans (B2.out.mono B1.out.size)⟩
set_option maxHeartbeats 8000000 in
theorem TreeSame_c (n : Nat) (w : World) {x y : TN n} {cs cs' : List Value} (h : (kN n).K w x cs) (h' : (kN n).K w y cs') : Calls Try.prog 4 #[.agg cs.toArray, .agg cs'.toArray] w fun r w' => r = .returned (.bool true) ∧ Below w.heap.size w w' := by
  obtain ⟨A, k, c, A', k', c', rfl⟩ := (kN_two n).two h
  obtain ⟨B, l, e, B', l', e', rfl⟩ := (kN_two n).two h'
  obtain ⟨wz, hwz⟩ : ∃ wz, wz = (w.alloc (.cells #[.slice A k c, .slice A' k' c'] 25)).alloc (.cells #[.slice B l e, .slice B' l' e'] 25) := ⟨_, rfl⟩
  have HWZ := Aside0.mk hwz
  have bz : Below w.heap.size w wz := by rw [hwz]; exact b2 _ _ _
  have HBX : Aside0 (∀ w2, Below wz.heap.size wz w2 → w2.heap[w.heap.size]? = some (.cells #[.slice A k c, .slice A' k' c'] 25 (0, 0)) ∧ w2.heap[w.heap.size + 1]? = some (.cells #[.slice B l e, .slice B' l' e'] 25 (0, 0))) := ⟨fun w2 h2 => by rw [hwz] at h2; exact boxes h2⟩
  have BZ := Aside0.mk bz
  have hx : ∀ w2, Below wz.heap.size wz w2 → (kN n).K w2 x [.slice A k c, .slice A' k' c'] := fun w2 h2 => (kN n).K_below (bz.trans (h2.mono bz.size)) h
  have hy : ∀ w2, Below wz.heap.size wz w2 → (kN n).K w2 y [.slice B l e, .slice B' l' e'] := fun w2 h2 => (kN n).K_below (bz.trans (h2.mono bz.size)) h'
  have HSA := Aside0.mk (fun w2 h2 => Small_c n w2 x _ (hx w2 h2))
  have HSB := Aside0.mk (fun w2 h2 => Small_c n w2 y _ (hy w2 h2))
  have HL := Aside0.mk live_c
  have HS := Aside0.mk (fun w2 h2 => tSameN_c n w2 x y _ _ (hx w2 h2) (hy w2 h2))
  have HR := Aside0.mk (fun w2 h2 => RSameN_c n w2 x y _ _ (hx w2 h2) (hy w2 h2))
  have HT := Aside0.mk (fun w2 h2 => tSameN_c n w2 x x _ _ (hx w2 h2) (hx w2 h2))
  rw [eqN_self] at HT
  have HD := Aside0.mk (fun w2 h2 => DeepN_c n w2 x _ (hx w2 h2))
  have HE := Aside0.mk (fun w2 h2 => RDeepN_c n w2 x _ (hx w2 h2))
  have HC := Aside0.mk (fun w2 h2 => CountN_c n w2 x _ (hx w2 h2))
  have HF := Aside0.mk (fun w2 h2 => RCountN_c n w2 x _ (hx w2 h2))
  obtain ⟨q, hq⟩ : ∃ q, q = eqN n x y := ⟨_, rfl⟩
  obtain ⟨q1, hq1⟩ : ∃ q, q = deepN n x := ⟨_, rfl⟩
  obtain ⟨q2, hq2⟩ : ∃ q, q = countN n x := ⟨_, rfl⟩
  rw [← hq] at HS HR
  rw [← hq1] at HD HE
  rw [← hq2] at HC HF
  have HM2 := Aside0.mk (fun w2 (hb : Below wz.heap.size wz w2) => show w2.cell? ⟨w.heap.size, 0, none⟩ = some (.slice A k c) ∧ w2.cell? ⟨w.heap.size, 1, none⟩ = some (.slice A' k' c') ∧ w2.cell? ⟨w.heap.size + 1, 0, none⟩ = some (.slice B l e) ∧ w2.cell? ⟨w.heap.size + 1, 1, none⟩ = some (.slice B' l' e') from
    ⟨(blk_cell (HBX.out w2 hb).1 0).trans rfl, (blk_cell (HBX.out w2 hb).1 1).trans rfl, (blk_cell (HBX.out w2 hb).2 0).trans rfl, (blk_cell (HBX.out w2 hb).2 1).trans rfl⟩)
  have hqq : (q == q) = true := by cases q <;> rfl
  have hqd : (q1 == q1) = true := by simp
  have hqc : (q2 == q2) = true := by simp
  have BB := Aside0.mk (Below.refl wz.heap.size wz)
  clear hq hq1 hq2 hwz bz h h' hx hy
  obtain ⟨m1, m2, m3, m4⟩ := HM2.out wz BB.out
  go_enter Try.func4, Try.ntmps4
  go_upto_region 1 with (fail)
  rw [← HWZ.out]
  go_wp2_with (first
    | (go_at_call 10; refine (HSA.out _ BB.out).mono ?_; rintro r w2 ⟨⟨b, rfl⟩, b2⟩; have BB := Aside0.mk (BB.out.trans (b2.mono BB.out.size)); have CM := Aside0.mk (HM2.out _ BB.out); clear m1 m2 m3 m4; obtain ⟨m1, m2, m3, m4⟩ := CM.out; clear b2; cases b)
    | (go_at_call 10; refine (HSB.out _ BB.out).mono ?_; rintro r w2 ⟨⟨b, rfl⟩, b2⟩; have BB := Aside0.mk (BB.out.trans (b2.mono BB.out.size)); have CM := Aside0.mk (HM2.out _ BB.out); clear m1 m2 m3 m4; obtain ⟨m1, m2, m3, m4⟩ := CM.out; clear b2; cases b)
    | (go_at_call 11; refine (HL.out _).mono ?_; rintro r w2 ⟨rfl, b2⟩; have BB := Aside0.mk (BB.out.trans (b2.mono BB.out.size)); have CM := Aside0.mk (HM2.out _ BB.out); clear m1 m2 m3 m4; obtain ⟨m1, m2, m3, m4⟩ := CM.out; clear b2))
  · go_ret
    exact ⟨rfl, BZ.out.trans (BB.out.mono BZ.out.size)⟩
  · go_ret
    exact ⟨rfl, BZ.out.trans (BB.out.mono BZ.out.size)⟩
  have hm := CM.out
  clear m1 m2 m3 m4 HSA HSB HWZ HBX
  go_region_held3 (fun w' => w'.cell? ⟨w.heap.size, 0, none⟩ = some (.slice A k c) ∧ w'.cell? ⟨w.heap.size, 1, none⟩ = some (.slice A' k' c') ∧ w'.cell? ⟨w.heap.size + 1, 0, none⟩ = some (.slice B l e) ∧ w'.cell? ⟨w.heap.size + 1, 1, none⟩ = some (.slice B' l' e')) (first | exact CM.out | exact hm | go_keep) (first
    | (go_at_call 16; refine (HS.out _ (by first | exact BB.out | exact pw_below_drewN BB.out _)).mono ?_; rintro r w2 ⟨rfl, b2⟩; (first | (have BX := BB.out.trans (b2.mono BB.out.size)) | (have BX := (pw_below_drewN BB.out _).trans (b2.mono BB.out.size))); clear b2 BB CM; have BB := Aside0.mk BX; have CM := Aside0.mk (HM2.out _ BX); clear BX HS)
    | (go_at_call 16; refine (HT.out _ (by first | exact BB.out | exact pw_below_drewN BB.out _)).mono ?_; rintro r w2 ⟨rfl, b2⟩; (first | (have BX := BB.out.trans (b2.mono BB.out.size)) | (have BX := (pw_below_drewN BB.out _).trans (b2.mono BB.out.size))); clear b2 BB CM; have BB := Aside0.mk BX; have CM := Aside0.mk (HM2.out _ BX); clear BX)
    | (go_at_call 14; refine (HR.out _ (by first | exact BB.out | exact pw_below_drewN BB.out _)).mono ?_; rintro r w2 ⟨rfl, b2⟩; (first | (have BX := BB.out.trans (b2.mono BB.out.size)) | (have BX := (pw_below_drewN BB.out _).trans (b2.mono BB.out.size))); clear b2 BB CM; have BB := Aside0.mk BX; have CM := Aside0.mk (HM2.out _ BX); clear BX)
    | (go_at_call 17; refine (HD.out _ (by first | exact BB.out | exact pw_below_drewN BB.out _)).mono ?_; rintro r w2 ⟨rfl, b2⟩; (first | (have BX := BB.out.trans (b2.mono BB.out.size)) | (have BX := (pw_below_drewN BB.out _).trans (b2.mono BB.out.size))); clear b2 BB CM; have BB := Aside0.mk BX; have CM := Aside0.mk (HM2.out _ BX); clear BX)
    | (go_at_call 18; refine (HE.out _ (by first | exact BB.out | exact pw_below_drewN BB.out _)).mono ?_; rintro r w2 ⟨rfl, b2⟩; (first | (have BX := BB.out.trans (b2.mono BB.out.size)) | (have BX := (pw_below_drewN BB.out _).trans (b2.mono BB.out.size))); clear b2 BB CM; have BB := Aside0.mk BX; have CM := Aside0.mk (HM2.out _ BX); clear BX)
    | (go_at_call 19; refine (HC.out _ (by first | exact BB.out | exact pw_below_drewN BB.out _)).mono ?_; rintro r w2 ⟨rfl, b2⟩; (first | (have BX := BB.out.trans (b2.mono BB.out.size)) | (have BX := (pw_below_drewN BB.out _).trans (b2.mono BB.out.size))); clear b2 BB CM; have BB := Aside0.mk BX; have CM := Aside0.mk (HM2.out _ BX); clear BX)
    | (go_at_call 20; refine (HF.out _ (by first | exact BB.out | exact pw_below_drewN BB.out _)).mono ?_; rintro r w2 ⟨rfl, b2⟩; (first | (have BX := BB.out.trans (b2.mono BB.out.size)) | (have BX := (pw_below_drewN BB.out _).trans (b2.mono BB.out.size))); clear b2 BB CM; have BB := Aside0.mk BX; have CM := Aside0.mk (HM2.out _ BX); clear BX)
    | (go_at_call 11; refine (HL.out _).mono ?_; rintro r w2 ⟨rfl, b2⟩; (first | (have BX := BB.out.trans (b2.mono BB.out.size)) | (have BX := (pw_below_drewN BB.out _).trans (b2.mono BB.out.size))); clear b2 BB CM; have BB := Aside0.mk BX; have CM := Aside0.mk (HM2.out _ BX); clear BX))
  go_wp2
  go_ret
  exact ⟨rfl, BZ.out.trans (BB.out.mono BZ.out.size)⟩
end Go.Proofs.Ytbpnfpckoapdbaa.Tr

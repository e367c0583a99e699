/- slices.IndexFunc over Message; conditions stand at each. -/
import Derived.Test.YtbpnfpckoapdbaaKD
import Derived.Test.YtbpnfpckoapdbaaMk
import Derived.Test.YtbpnfpckoapdbaaIdx
namespace Go.Proofs.Ytbpnfpckoapdbaa.M
open Go.RowKit Go.Proofs.YtbpnfpckoapdbaaW.PrintWords Go.Proofs.YtbpnfpckoapdbaaW.PrintLast Go.Proofs.YtbpnfpckoapdbaaW.PrintMore Go.Proofs.Ytbpnfpckoapdbaa.KD
set_option linter.unusedVariables false
set_option linter.unusedSimpArgs false
set_option maxHeartbeats 1000000
set_option maxRecDepth 100000
theorem atK_Message {w : World} {A : Option Addr} {n : Nat} {xs : List S47} (h : k47.C w A n xs) (i : Nat) (h1 : i < n) : ∃ ad s0 A1 n1 c1 A2 n2 c2 x, A = some ad ∧ xs[i]? = some x ∧ w.cell? (ad.add (i * 3)) = some (.string s0) ∧ w.cell? ⟨(ad.add (i * 3)).block, (ad.add (i * 3)).off + 1, none⟩ = some (.slice A1 n1 c1) ∧ w.cell? ⟨(ad.add (i * 3)).block, (ad.add (i * 3)).off + 2, none⟩ = some (.slice A2 n2 c2) ∧ k47.K w x [.string s0, .slice A1 n1 c1, .slice A2 n2 c2] := by
  have hl : i < xs.length := by have := h.1; omega
  obtain ⟨ad, c, e, _, hK, hc0⟩ := Kd.C_get h xs[i] i (by omega) (by omega)
  have hr : xs.getD (i : Int).toNat xs[i] = xs[i] := by rw [Int.toNat_natCast, List.getD_eq_getElem?_getD, List.getElem?_eq_getElem hl]; rfl
  rw [hr] at hK
  have hc : ∀ j u, c[j]? = some u → w.cell? (ad.add (i * 3 + j)) = some u := hc0
  obtain ⟨A1, c1, A2, c2, rfl, _, _⟩ := k47_open hK
  exact ⟨ad, _, A1, _, c1, A2, _, c2, xs[i], e, List.getElem?_eq_getElem hl, hc 0 _ rfl, by rw [← add_field _ _ 1 (by omega)]; exact hc 1 _ rfl, by rw [← add_field _ _ 2 (by omega)]; exact hc 2 _ rfl, hK⟩
theorem Idx_find_Message1 {w : World} {A : Option Addr} {c : Nat} {cap : Value} {p : S47 → Bool} {xs : List S47} (HE : TellsC k47 72 cap w p) (hA : k47.C w A xs.length xs) :
    Calls Try.prog 71 #[.slice A xs.length c, .func (.func 72) #[] #[cap]] w fun r w' => r = .returned (.int .i64 (ixF p xs 0)) ∧ Below w.heap.size w w' := by
  have HA := Aside0.mk hA
  have HQ := Aside0.mk HE
  have HM := Aside0.mk (Kd.C_max hA)
  clear hA HE
  go_enter Try.func71, Try.ntmps71
  go_wp2
  go_loopg [8] xs.length (fun kq v8 w' => ∃ i : Nat, v8 = .int .i64 (i : Int) ∧ Aside0 (kq + i = xs.length) ∧ Aside0 (ixF p xs 0 = ixF p (xs.drop i) i) ∧ Aside0 (Below w.heap.size w w'))
  case atStart => exact ⟨0, rfl, ⟨by omega⟩, ⟨rfl⟩, ⟨Below.refl _ _⟩⟩
  case round =>
    obtain ⟨i, rfl, HK, HE, BW⟩ := hrel
    by_cases hi : (i : Int) < (xs.length : Int)
    · have c1 : decide ((i : Int) < (xs.length : Int)) = true := decide_eq_true hi
      have p0 : (0 : Int) ≤ (i : Int) := by omega
      obtain ⟨ad, s0, A1, n1, c1, A2, n2, c2, x, rfl, hx, q0, q1, q2, hk⟩ := atK_Message (Kd.C_below HA.out BW.out) i (by omega)
      have HX := Aside0.mk hx
      have K1 := Aside0.mk hk
      have hw : IntKind.i64.wrap ((i : Int) + 1) = ((i + 1 : Nat) : Int) := by have := HM.out; rw [IntKind.wrap_i64]; omega
      have HI := Aside0.mk (show i < xs.length by omega)
      replace hi := eq_true hi
      clear hx hk
      have HC := Aside0.mk (HQ.out _ _ _ BW.out K1.out)
      have HN := Aside0.mk (ixF_at (p := p) HX.out i)
      cases he : p x with
      | true =>
        rw [he] at HC HN
        have HF := Aside0.mk (show ixF p xs 0 = (i : Int) by rw [HE.out, HN.out]; rfl)
        go_wp2_with (first | (go_at_call 72; refine HC.out.mono ?_; rintro r w2 ⟨rfl, b2⟩; have B2 := Aside0.mk b2; clear b2))
        go_ret
        exact ⟨by rw [HF.out]; rfl, BW.out.trans (B2.out.mono BW.out.size)⟩
      | false =>
        rw [he] at HC HN
        go_wp2_with (first | (go_at_call 72; refine HC.out.mono ?_; rintro r w2 ⟨rfl, b2⟩; have B2 := Aside0.mk b2; clear b2))
        go_roundg (xs.length - (i + 1))
        case measure => have := HK.out; have := HI.out; omega
        case rel => exact ⟨i + 1, rfl, ⟨by have := HI.out; omega⟩, ⟨by rw [HE.out, HN.out]; rfl⟩, ⟨BW.out.trans (B2.out.mono BW.out.size)⟩⟩
    · have c1 : decide ((i : Int) < (xs.length : Int)) = false := decide_eq_false hi
      have c2 : decide (i < xs.length) = false := decide_eq_false (by omega)
      have HF := Aside0.mk (show ixF p xs 0 = -1 by rw [HE.out, List.drop_eq_nil_of_le (by omega)]; rfl)
      clear hi
      go_wp2
      go_ret
      exact ⟨by rw [HF.out]; rfl, BW.out⟩
theorem find_Message1_c {w : World} {a : Addr} {v : ByteArray} (hv : w.cell? a = some (.string v)) : TellsC k47 72 (.pointer (some a)) w (fun x => x.f0.toList == v.toList) := by
  intro w2 x cs hb hk
  obtain ⟨A1, c1, A2, c2, rfl, _, _⟩ := k47_open hk
  have hv2 := pw_cell_below hb hv
  have hv3 : ∀ o, (w2.alloc o).cell? a = some (.string v) := fun o => pw_cell_below (below_alloc (Below.refl _ _) o) hv2
  clear hk hb hv
  go_enter Try.func72, Try.ntmps72
  go_wp2
  go_ret
  exact ⟨rfl, below_alloc (Below.refl _ _) _⟩
end Go.Proofs.Ytbpnfpckoapdbaa.M

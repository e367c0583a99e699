/- Small schemas, and the page's example, plainly; of schemas whose lists and texts have the size that any machine's have. -/
import Derived.Test.YtbpnfpckoapdbaaP16a0
import Derived.Test.YtbpnfpckoapdbaaOps
namespace Go.Proofs.Ytbpnfpckoapdbaa.P16
open Go.RowKit Go.Proofs.YtbpnfpckoapdbaaW.PrintWords Go.Proofs.YtbpnfpckoapdbaaW.PrintLast Go.Proofs.YtbpnfpckoapdbaaW.PrintMore Go.Proofs.Ytbpnfpckoapdbaa.KD Go.Proofs.Ytbpnfpckoapdbaa.M Go.Proofs.Ytbpnfpckoapdbaa.PF16 Go.Proofs.Ytbpnfpckoapdbaa.Ev Go.Proofs.Ytbpnfpckoapdbaa.Ops
set_option linter.unusedVariables false
set_option linter.unusedSimpArgs false
theorem getD_mem {α : Type} {xs : List α} {i : Nat} {z : α} (h : i < xs.length) : xs.getD i z ∈ xs := by
  rw [List.getD_eq_getElem?_getD, List.getElem?_eq_getElem h]
  exact List.getElem_mem _
theorem reach_eq : reachBytes = 140737488351232 := by rfl
/-- What is known of a schema that comes in. -/
structure OkS (l0 : List SE) (l1 : List SM) : Prop where
  le0 : l0.length ≤ 4000000000000
  le1 : l1.length ≤ 4000000000000
  e : ∀ x ∈ l0, x.f1.length ≤ 10000000000000 ∧ x.f0.size ≤ 140737488351232
  m : ∀ x ∈ l1, x.f1.length ≤ 10000000000000 ∧ x.f2.length ≤ 20000000000000 ∧ x.f0.size ≤ 140737488351232
theorem okS_of {l0 : List SE} {l1 : List SM} (h : ok35 ⟨l0, l1⟩) : OkS l0 l1 := by
  unfold ok35 at h
  rw [reach_eq] at h
  obtain ⟨⟨h0, h1⟩, h2, h3⟩ := h
  simp only at h0 h1 h2 h3
  refine ⟨by omega, by omega, fun x hx => ?_, fun x hx => ?_⟩
  · have := h1 x hx
    unfold ok86 at this
    rw [reach_eq] at this
    obtain ⟨a, b, _⟩ := this
    exact ⟨by omega, a⟩
  · have := h3 x hx
    unfold ok47 at this
    rw [reach_eq] at this
    obtain ⟨a, ⟨b, _⟩, c, _⟩ := this
    exact ⟨by omega, by omega, a⟩
theorem live_E : E (fun k => ecdysislaw16_live.f k) true := by
  unfold ecdysislaw16_live.f
  refine E.bind0 rfl (E.bind0 (a := ([(⟨#[77]⟩ : ByteArray)], true)) ?_ (E.yes rfl (E.bind (names_E _ (by decide)) (E.yes rfl (E.bind0 (a := 1) ?_ E.const)))))
  · unfold ecdysislaw16_kin.f
    rw [if_pos (by decide)]
    simp [kinL, kinR, extR, addR, refsL, fieldsAt, msgAt, ixF, has]
  · simp [find_Uses.f, usesM, cntR, refsL, wrap64]
/-- The end of the way through. -/
theorem small45 {l0 : List SE} {l1 : List SM} (ok : OkS l0 l1) : ∃ b, E (fun k => ecdysisref15_Small.l4 k 0 l0 l1) b := by
  have h1 : l1.length ≤ 9000000000000000000 := by have := ok.le1; omega
  have key := up (C := fun i => ∃ b, E (fun k => ecdysisref15_Small.l4 k (i : Int) l0 l1) b) l1.length (fun i hi => ?_) (fun i hi ih => ?_) 0
  · exact key
  · exact ⟨true, E.succ E.const fun k => by simp only [ecdysisref15_Small.l4]; rw [if_neg (by omega)]⟩
  · have hf : (l1.getD i z47).f1.length ≤ 9000000000000000000 := by have := (ok.m _ (getD_mem (z := z47) hi)).1; omega
    have inner := up (C := fun j => ∃ b, E (fun k => ecdysisref15_Small.l5 k (i : Int) (j : Int) l0 l1) b) (l1.getD i z47).f1.length (fun j hj => ?_) (fun j hj jh => ?_) 0
    · obtain ⟨b, hb⟩ := inner
      exact ⟨b, E.succ hb fun k => by simp only [ecdysisref15_Small.l4]; rw [if_pos (by omega)]; rfl⟩
    · obtain ⟨b, hb⟩ := ih
      exact ⟨b, E.succ hb fun k => by simp only [ecdysisref15_Small.l5]; rw [if_pos (by omega), if_pos (by omega), rdM, if_neg (by omega), w1 hi h1]⟩
    · obtain ⟨b, hb⟩ := jh
      by_cases e0 : ((((l1.getD i z47).f1.getD j z50).f0).size : Int) > 1000
      · exact ⟨false, E.succ E.const fun k => by simp only [ecdysisref15_Small.l5]; rw [if_pos (by omega), if_pos (by omega), rdM, if_pos (by omega), if_pos (by omega), rdF, if_pos e0]⟩
      · by_cases e1 : ((((l1.getD i z47).f1.getD j z50).f3).size : Int) > 1000
        · exact ⟨false, E.succ E.const fun k => by simp only [ecdysisref15_Small.l5]; rw [if_pos (by omega), if_pos (by omega), rdM, if_pos (by omega), if_pos (by omega), rdF, if_neg e0, if_pos e1]⟩
        · by_cases e2 : ((((l1.getD i z47).f1.getD j z50).f6).size : Int) > 1000
          · exact ⟨false, E.succ E.const fun k => by simp only [ecdysisref15_Small.l5]; rw [if_pos (by omega), if_pos (by omega), rdM, if_pos (by omega), if_pos (by omega), rdF, if_neg e0, if_neg e1, if_pos e2]⟩
          · exact ⟨b, E.succ hb fun k => by simp only [ecdysisref15_Small.l5]; rw [if_pos (by omega), if_pos (by omega), rdM, if_pos (by omega), if_pos (by omega), rdF, if_neg e0, if_neg e1, if_neg e2, w1 hj hf]⟩
theorem rdV (xs : List S88) (i : Nat) : rd_T88 xs (i : Int) = xs.getD i z88 := rfl
theorem small23 {l0 : List SE} {l1 : List SM} (ok : OkS l0 l1) : ∃ b, E (fun k => ecdysisref15_Small.l2 k 0 l0 l1) b := by
  have h0 : l0.length ≤ 9000000000000000000 := by have := ok.le0; omega
  have key := up (C := fun i => ∃ b, E (fun k => ecdysisref15_Small.l2 k (i : Int) l0 l1) b) l0.length (fun i hi => ?_) (fun i hi ih => ?_) 0
  · exact key
  · obtain ⟨b, hb⟩ := small45 ok
    exact ⟨b, E.succ hb fun k => by simp only [ecdysisref15_Small.l2]; rw [if_neg (by omega)]⟩
  · have hf : (l0.getD i z86).f1.length ≤ 9000000000000000000 := by have := (ok.e _ (getD_mem (z := z86) hi)).1; omega
    have inner := up (C := fun j => ∃ b, E (fun k => ecdysisref15_Small.l3 k (i : Int) (j : Int) l0 l1) b) (l0.getD i z86).f1.length (fun j hj => ?_) (fun j hj jh => ?_) 0
    · obtain ⟨b, hb⟩ := inner
      exact ⟨b, E.succ hb fun k => by simp only [ecdysisref15_Small.l2]; rw [if_pos (by omega)]; rfl⟩
    · obtain ⟨b, hb⟩ := ih
      exact ⟨b, E.succ hb fun k => by simp only [ecdysisref15_Small.l3]; rw [if_pos (by omega), if_pos (by omega), rdE, if_neg (by omega), w1 hi h0]⟩
    · obtain ⟨b, hb⟩ := jh
      by_cases e0 : ((((l0.getD i z86).f1.getD j z88).f0).size : Int) > 1000
      · exact ⟨false, E.succ E.const fun k => by simp only [ecdysisref15_Small.l3]; rw [if_pos (by omega), if_pos (by omega), rdE, if_pos (by omega), if_pos (by omega), rdV, if_pos e0]⟩
      · exact ⟨b, E.succ hb fun k => by simp only [ecdysisref15_Small.l3]; rw [if_pos (by omega), if_pos (by omega), rdE, if_pos (by omega), if_pos (by omega), rdV, if_neg e0, w1 hj hf]⟩
/-- Is a schema small? If so, it has few messages. -/
theorem small_E {l0 : List SE} {l1 : List SM} (ok : OkS l0 l1) : ∃ b, E (fun k => ecdysisref15_Small.f k l0 l1) b ∧ (b = true → l1.length < 200) := by
  have h0 : l0.length ≤ 9000000000000000000 := by have := ok.le0; omega
  have h1 : l1.length ≤ 9000000000000000000 := by have := ok.le1; omega
  have j3 : ∀ n : Int, (l1.length : Int) ≤ n → ∃ b, E (fun k => ecdysisref15_Small.j3 k n l0 l1) b ∧ (b = true → l1.length < 200) := by
    intro n hn
    by_cases h : n ≥ 200
    · exact ⟨false, E.succ E.const fun k => by simp only [ecdysisref15_Small.j3]; rw [if_pos h], fun h => by cases h⟩
    · obtain ⟨b, hb⟩ := small23 ok
      exact ⟨b, E.succ hb fun k => by simp only [ecdysisref15_Small.j3]; rw [if_neg h], fun _ => by omega⟩
  have k1 := up (C := fun i => ∀ n : Int, (l1.length : Int) ≤ n → ∃ b, E (fun k => ecdysisref15_Small.l1 k n (i : Int) l0 l1) b ∧ (b = true → l1.length < 200)) l1.length (fun i hi => ?_) (fun i hi ih => ?_) 0
  · have k0 := up (C := fun i => ∀ n : Int, (l1.length : Int) ≤ n → ∃ b, E (fun k => ecdysisref15_Small.l0 k n (i : Int) l0 l1) b ∧ (b = true → l1.length < 200)) l0.length (fun i hi => ?_) (fun i hi ih => ?_) 0
    · have hw : wrap64 ((l0.length : Int) + (l1.length : Int)) = (l0.length : Int) + (l1.length : Int) := by have := ok.le0; have := ok.le1; unfold wrap64; omega
      obtain ⟨b, hb, hc⟩ := k0 ((l0.length : Int) + (l1.length : Int)) (by omega)
      exact ⟨b, hb.congr fun k => by unfold ecdysisref15_Small.f; rw [hw]; rfl, hc⟩
    · intro n hn
      obtain ⟨b, hb, hc⟩ := k1 n hn
      have hj : E (fun k => ecdysisref15_Small.j1 k n l0 l1) b := E.succ hb fun k => by simp only [ecdysisref15_Small.j1]; rfl
      exact ⟨b, E.succ hj fun k => by simp only [ecdysisref15_Small.l0]; rw [if_neg (by omega)], hc⟩
    · intro n hn
      by_cases h2 : n < 200
      · have he := ok.e _ (getD_mem (z := z86) hi)
        have hw : wrap64 (wrap64 (n + (((l0.getD i z86).f1).length : Int)) + wrap64 (((((l0.getD i z86).f0).size : Int) / 10))) = n + (((l0.getD i z86).f1).length : Int) + ((((l0.getD i z86).f0).size : Int) / 10) := by unfold wrap64; omega
        obtain ⟨b, hb, hc⟩ := ih (n + (((l0.getD i z86).f1).length : Int) + ((((l0.getD i z86).f0).size : Int) / 10)) (by omega)
        exact ⟨b, E.succ hb fun k => by simp only [ecdysisref15_Small.l0]; rw [if_pos (by omega), if_pos h2, if_pos (by omega), rdE, hw, w1 hi h0], hc⟩
      · obtain ⟨b, hb, hc⟩ := k1 n hn
        have hj : E (fun k => ecdysisref15_Small.j1 k n l0 l1) b := E.succ hb fun k => by simp only [ecdysisref15_Small.j1]; rfl
        exact ⟨b, E.succ hj fun k => by simp only [ecdysisref15_Small.l0]; rw [if_pos (by omega), if_neg h2], hc⟩
  · intro n hn
    obtain ⟨b, hb, hc⟩ := j3 n hn
    exact ⟨b, E.succ hb fun k => by simp only [ecdysisref15_Small.l1]; rw [if_neg (by omega)], hc⟩
  · intro n hn
    by_cases h2 : n < 200
    · have he := ok.m _ (getD_mem (z := z47) hi)
      have hw : wrap64 (wrap64 (wrap64 (n + (((l1.getD i z47).f1).length : Int)) + (((l1.getD i z47).f2).length : Int)) + wrap64 (((((l1.getD i z47).f0).size : Int) / 10))) = n + (((l1.getD i z47).f1).length : Int) + (((l1.getD i z47).f2).length : Int) + ((((l1.getD i z47).f0).size : Int) / 10) := by unfold wrap64; omega
      obtain ⟨b, hb, hc⟩ := ih (n + (((l1.getD i z47).f1).length : Int) + (((l1.getD i z47).f2).length : Int) + ((((l1.getD i z47).f0).size : Int) / 10)) (by omega)
      exact ⟨b, E.succ hb fun k => by simp only [ecdysisref15_Small.l1]; rw [if_pos (by omega), if_pos h2, if_pos (by omega), rdM, hw, w1 hi h1], hc⟩
    · obtain ⟨b, hb, hc⟩ := j3 n hn
      exact ⟨b, E.succ hb fun k => by simp only [ecdysisref15_Small.l1]; rw [if_pos (by omega), if_neg h2], hc⟩
end Go.Proofs.Ytbpnfpckoapdbaa.P16

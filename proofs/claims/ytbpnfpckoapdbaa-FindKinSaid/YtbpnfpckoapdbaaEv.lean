/- Functions with rounds: what they come to; conditions stand at each. -/
import Derived.Test.YtbpnfpckoapdbaaWMore
namespace Go.Proofs.Ytbpnfpckoapdbaa.Ev
open Go.RowKit Go.Proofs.YtbpnfpckoapdbaaW.PrintWords
set_option linter.unusedVariables false
/-- With enough rounds it tells r. -/
def E {α : Type} (g : Nat → Option α) (r : α) : Prop := ∃ k0, ∀ k, k0 ≤ k → g k = some r
theorem E.const {α : Type} {r : α} : E (fun _ => some r) r := ⟨0, fun _ _ => rfl⟩
theorem E.of {α : Type} {g : Nat → Option α} {r : α} (h : ∀ k, g k = some r) : E g r := ⟨0, fun k _ => h k⟩
theorem E.congr {α : Type} {g h : Nat → Option α} {r : α} (hh : E h r) (e : ∀ k, g k = h k) : E g r := by
  obtain ⟨k0, hk⟩ := hh
  exact ⟨k0, fun k hk0 => by rw [e]; exact hk k hk0⟩
theorem E.succ {α : Type} {g h : Nat → Option α} {r : α} (hh : E h r) (e : ∀ k, g (k + 1) = h k) : E g r := by
  obtain ⟨k0, hk⟩ := hh
  refine ⟨k0 + 1, fun k hk0 => ?_⟩
  obtain ⟨m, rfl⟩ : ∃ m, k = m + 1 := ⟨k - 1, by omega⟩
  rw [e]
  exact hk m (by omega)
theorem E.step {α : Type} {g : Nat → Option α} {r : α} (h : E (fun k => g (k + 1)) r) : E g r := E.succ h fun _ => rfl
theorem E.bind {α β : Type} {f : Nat → Option α} {a : α} {g : Nat → α → Option β} {r : β} (hf : E f a) (hg : E (fun k => g k a) r) : E (fun k => (f k).bind (g k)) r := by
  obtain ⟨k0, h0⟩ := hf
  obtain ⟨k1, h1⟩ := hg
  refine ⟨max k0 k1, fun k hk => ?_⟩
  show (f k).bind (g k) = some r
  rw [h0 k (Nat.le_trans (Nat.le_max_left _ _) hk)]
  exact h1 k (Nat.le_trans (Nat.le_max_right _ _) hk)
theorem E.bind1 {α β : Type} {f : Nat → Option α} {a : α} {g : α → Option β} {r : β} (hf : E f a) (hg : g a = some r) : E (fun k => (f k).bind g) r := E.bind (g := fun _ => g) hf (E.of fun _ => hg)
theorem E.bind0 {α β : Type} {f : Option α} {a : α} {g : Nat → α → Option β} {r : β} (hf : f = some a) (hg : E (fun k => g k a) r) : E (fun k => f.bind (g k)) r := E.bind (f := fun _ => f) (E.of fun _ => hf) hg
theorem E.ite {α : Type} {c : Prop} [Decidable c] {g h : Nat → Option α} {r : α} (hg : c → E g r) (hh : ¬ c → E h r) : E (fun k => if c then g k else h k) r := by
  by_cases hc : c
  · exact (hg hc).congr fun k => if_pos hc
  · exact (hh hc).congr fun k => if_neg hc
theorem E.yes {α : Type} {c : Prop} [Decidable c] {g h : Nat → Option α} {r : α} (hc : c) (hg : E g r) : E (fun k => if c then g k else h k) r := hg.congr fun k => if_pos hc
theorem E.no {α : Type} {c : Prop} [Decidable c] {g h : Nat → Option α} {r : α} (hc : ¬ c) (hh : E h r) : E (fun k => if c then g k else h k) r := hh.congr fun k => if_neg hc
theorem E.get {α : Type} {g : Nat → Option α} {r : α} (h : E g r) : ∃ k, g k = some r := by
  obtain ⟨k, hk⟩ := h
  exact ⟨k, hk k (Nat.le_refl _)⟩
/-- From the end on, step by step. -/
theorem up {C : Nat → Prop} (n : Nat) (hend : ∀ i, n ≤ i → C i) (hstep : ∀ i, i < n → C (i + 1) → C i) (i : Nat) : C i := by
  obtain ⟨d, hd⟩ : ∃ d, d = n - i := ⟨_, rfl⟩
  induction d generalizing i with
  | zero => exact hend i (by omega)
  | succ d ih => exact hstep i (by omega) (ih (i + 1) (by omega))
theorem drop_getD {α : Type} {xs : List α} {i : Nat} (z : α) (h : i < xs.length) : xs.drop i = xs.getD i z :: xs.drop (i + 1) := by
  rw [List.drop_eq_getElem_cons h, List.getD_eq_getElem?_getD, List.getElem?_eq_getElem h]
  rfl
theorem w1 {i n : Nat} (h : i < n) (hn : n ≤ 9000000000000000000) : wrap64 ((i : Int) + 1) = ((i + 1 : Nat) : Int) := by unfold wrap64; omega
end Go.Proofs.Ytbpnfpckoapdbaa.Ev

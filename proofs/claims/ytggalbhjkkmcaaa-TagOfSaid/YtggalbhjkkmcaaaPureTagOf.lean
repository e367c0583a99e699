/- Whatever number and wire type: tag.Right, tag.Of and tag.Field tell what the reference tells; no conditions. -/
import Derived.Test.YtggalbhjkkmcaaaPTagOfx1
import Derived.Laws.BitsAllLaws
namespace Go.Proofs.Ytggalbhjkkmcaaa.Pure
open Go.RowKit Go.Proofs.Ytggalbhjkkmcaaa.PTagOf Go.Proofs.YtggalbhjkkmcaaaW.PrintWords Go.Proofs.YtggalbhjkkmcaaaW.PrintLast
theorem or8 (x w : Int) (hx0 : 0 ≤ x) (hx : x ≤ 536870911) (h0 : 0 ≤ w) (h1 : w < 8) : Go.bits .or .u64 (x * 8) w = x * 8 + w := by
  rw [u64_or _ _ (by omega) (by omega) (by omega) (by omega), nat_join 3 _ _ (by omega) (by omega)]
  omega
theorem right_eq (k : Nat) (a b : Int) : tag_Right.f (k + 1) a b = some (decide (1 ≤ a ∧ a ≤ 536870911 ∧ (b = 0 ∨ b = 1 ∨ b = 2 ∨ b = 5))) := by
  unfold tag_Right.f
  simp only [tag_Right.j0, tag_number.f]
  by_cases h0 : b = 0
  · subst h0; by_cases ha : 1 ≤ a <;> simp [ha]
  · by_cases h1 : b = 1
    · subst h1; by_cases ha : 1 ≤ a <;> simp [ha]
    · by_cases h2 : b = 2
      · subst h2; by_cases ha : 1 ≤ a <;> simp [ha]
      · by_cases h5 : b = 5
        · subst h5; by_cases ha : 1 ≤ a <;> simp [ha]
        · simp [h0, h1, h2, h5]
theorem of_yes (k : Nat) (a b : Int) (h : 1 ≤ a ∧ a ≤ 536870911 ∧ (b = 0 ∨ b = 1 ∨ b = 2 ∨ b = 5)) : tag_Of.f (k + 1) a b = some (a * 8 + b, true) := by
  unfold tag_Of.f
  rw [right_eq]
  simp only [Option.bind_some, decide_eq_true h, if_true]
  have e1 : IntKind.u64.wrap a = a := by rw [IntKind.wrap_u64]; omega
  have e2 : IntKind.u64.wrap (a * 8) = a * 8 := by rw [IntKind.wrap_u64]; omega
  have e3 : IntKind.u64.wrap b = b := by rw [IntKind.wrap_u64]; omega
  rw [e1, e2, e3, or8 a b (by omega) (by omega) (by omega) (by omega)]
theorem of_no (k : Nat) (a b : Int) (h : ¬ (1 ≤ a ∧ a ≤ 536870911 ∧ (b = 0 ∨ b = 1 ∨ b = 2 ∨ b = 5))) : tag_Of.f (k + 1) a b = some (0, false) := by
  unfold tag_Of.f
  rw [right_eq]
  simp only [Option.bind_some, decide_eq_false h]
  simp
theorem live_eq (k : Nat) : ecdysislaw04_live.f (k + 1) = some true := by
  unfold ecdysislaw04_live.f
  rw [of_yes _ _ _ (by omega)]
  simp
theorem refright (a b : Int) : ecdysisref04_Right.f a b = some (decide (1 ≤ a ∧ a ≤ 536870911 ∧ (b = 0 ∨ b = 1 ∨ b = 2 ∨ b = 5))) := by
  unfold ecdysisref04_Right.f
  by_cases ha : a ≥ 1
  · by_cases ha2 : a ≤ 536870911
    · by_cases h0 : b = 0
      · simp [ha, ha2, h0]
      · by_cases h1 : b = 1
        · simp [ha, ha2, h1]
        · by_cases h2 : b = 2
          · simp [ha, ha2, h2]
          · rw [if_pos ha, if_pos ha2, if_neg h0, if_neg h1, if_neg h2]
            congr 1
            by_cases h5 : b = 5
            · rw [decide_eq_true (by omega)]; simp [h5]
            · rw [decide_eq_false (by omega)]; simp [h5]
    · rw [if_pos ha, if_neg ha2, decide_eq_false (by omega)]
  · rw [if_neg ha, decide_eq_false (by omega)]
theorem TagOf : ecdysislaw04_TagOf.Pure := by
  intro a b wa wb
  refine ⟨2, ?_⟩
  unfold ecdysislaw04_TagOf.f
  have hf : tag_Field.f a = ecdysisref04_Field.f a := by
    unfold tag_Field.f ecdysisref04_Field.f tag_number.f
    by_cases h1 : a ≥ 1
    · by_cases h2 : a ≤ 536870911 <;> simp [h1, h2]
    · simp [h1]
  obtain ⟨q, hq⟩ : ∃ q, ecdysisref04_Field.f a = some q := by
    unfold ecdysisref04_Field.f
    repeat' split
    all_goals exact ⟨_, rfl⟩
  by_cases h : 1 ≤ a ∧ a ≤ 536870911 ∧ (b = 0 ∨ b = 1 ∨ b = 2 ∨ b = 5)
  · have e : ecdysisref04_Of.f a b = some (a * 8 + b) := by
      unfold ecdysisref04_Of.f
      simp only [IntKind.wrap_u64]
      congr 1
      omega
    rw [of_yes 1 a b h, refright, right_eq, hf, hq]
    simp only [Option.bind_some, decide_eq_true h]
    simp [ecdysislaw04_TagOf.j0, e, live_eq]
  · rw [of_no 1 a b h, refright, right_eq, hf, hq]
    simp only [Option.bind_some, decide_eq_false h]
    simp [ecdysislaw04_TagOf.j0, live_eq]
end Go.Proofs.Ytggalbhjkkmcaaa.Pure

/- Whatever number: tag.Split tells of it what the reference tells, and tag.Of puts it together again; no conditions. -/
import Derived.Test.YtggalbhjkkmcaaaPTagSplitsx1
import Derived.Laws.BitsAllLaws
namespace Go.Proofs.Ytggalbhjkkmcaaa.Pure
open Go.RowKit Go.Proofs.Ytggalbhjkkmcaaa.PTagSplits Go.Proofs.YtggalbhjkkmcaaaW.PrintWords Go.Proofs.YtggalbhjkkmcaaaW.PrintLast
theorem or8 (x w : Int) (hx0 : 0 ≤ x) (hx : x ≤ 536870911) (h0 : 0 ≤ w) (h1 : w < 8) : Go.bits .or .u64 (x * 8) w = x * 8 + w := by
  rw [u64_or _ _ (by omega) (by omega) (by omega) (by omega), nat_join 3 _ _ (by omega) (by omega)]
  omega
theorem right_eq (k : Nat) (a b : Int) : tag_Right.f (k + 1) a b = some (decide (1 ≤ a ∧ a ≤ 536870911 ∧ (b = 0 ∨ b = 1 ∨ b = 2 ∨ b = 5))) := by
  unfold tag_Right.f
  simp only [tag_Right.j0, tag_number.f]
  by_cases h0 : b = 0
  · subst h0; by_cases ha : 1 ≤ a <;> simp [ha]
  · by_cases h1 : b = 1
    · subst h1; by_cases ha : 1 ≤ a <;> simp [ha]
    · by_cases h2 : b = 2
      · subst h2; by_cases ha : 1 ≤ a <;> simp [ha]
      · by_cases h5 : b = 5
        · subst h5; by_cases ha : 1 ≤ a <;> simp [ha]
        · simp [h0, h1, h2, h5]
theorem of_yes (k : Nat) (a b : Int) (h : 1 ≤ a ∧ a ≤ 536870911 ∧ (b = 0 ∨ b = 1 ∨ b = 2 ∨ b = 5)) : tag_Of.f (k + 1) a b = some (a * 8 + b, true) := by
  unfold tag_Of.f
  rw [right_eq]
  simp only [Option.bind_some, decide_eq_true h, if_true]
  have e1 : IntKind.u64.wrap a = a := by rw [IntKind.wrap_u64]; omega
  have e2 : IntKind.u64.wrap (a * 8) = a * 8 := by rw [IntKind.wrap_u64]; omega
  have e3 : IntKind.u64.wrap b = b := by rw [IntKind.wrap_u64]; omega
  rw [e1, e2, e3, or8 a b (by omega) (by omega) (by omega) (by omega)]
theorem of_no (k : Nat) (a b : Int) (h : ¬ (1 ≤ a ∧ a ≤ 536870911 ∧ (b = 0 ∨ b = 1 ∨ b = 2 ∨ b = 5))) : tag_Of.f (k + 1) a b = some (0, false) := by
  unfold tag_Of.f
  rw [right_eq]
  simp only [Option.bind_some, decide_eq_false h]
  simp
theorem live_eq (k : Nat) : ecdysislaw04_live.f (k + 1) = some true := by
  unfold ecdysislaw04_live.f
  rw [of_yes _ _ _ (by omega)]
  simp
theorem split_eq (k : Nat) (u : Int) (h0 : 0 ≤ u) (h1 : u ≤ 18446744073709551615) :
    tag_Split.f (k + 1) u = some (if u < 4294967296 ∧ 1 ≤ u / 8 ∧ (u % 8 = 0 ∨ u % 8 = 1 ∨ u % 8 = 2 ∨ u % 8 = 5) then (u / 8, u % 8, true) else (0, 0, false)) := by
  unfold tag_Split.f
  by_cases h : u ≥ 4294967296
  · rw [if_pos h, if_neg (by omega)]
  · have e1 : wrap64 (u / 8) = u / 8 := by unfold wrap64; omega
    have e2 : Int.tmod u 8 = u % 8 := Int.tmod_eq_emod_of_nonneg h0
    have e3 : wrap64 (u % 8) = u % 8 := by unfold wrap64; omega
    rw [if_neg h, e1, e2, e3, right_eq]
    simp only [Option.bind_some]
    by_cases hc : 1 ≤ u / 8 ∧ u / 8 ≤ 536870911 ∧ (u % 8 = 0 ∨ u % 8 = 1 ∨ u % 8 = 2 ∨ u % 8 = 5)
    · rw [decide_eq_true hc, if_pos rfl, if_pos (by omega)]
    · rw [decide_eq_false hc, if_neg (by simp), if_neg (by omega)]
theorem refright (a b : Int) : ecdysisref04_Right.f a b = some (decide (1 ≤ a ∧ a ≤ 536870911 ∧ (b = 0 ∨ b = 1 ∨ b = 2 ∨ b = 5))) := by
  unfold ecdysisref04_Right.f
  by_cases ha : a ≥ 1
  · by_cases ha2 : a ≤ 536870911
    · by_cases h0 : b = 0
      · simp [ha, ha2, h0]
      · by_cases h1 : b = 1
        · simp [ha, ha2, h1]
        · by_cases h2 : b = 2
          · simp [ha, ha2, h2]
          · rw [if_pos ha, if_pos ha2, if_neg h0, if_neg h1, if_neg h2]
            congr 1
            by_cases h5 : b = 5
            · rw [decide_eq_true (by omega)]; simp [h5]
            · rw [decide_eq_false (by omega)]; simp [h5]
    · rw [if_pos ha, if_neg ha2, decide_eq_false (by omega)]
  · rw [if_neg ha, decide_eq_false (by omega)]
theorem refsplit (u : Int) (h0 : 0 ≤ u) (h1 : u ≤ 18446744073709551615) :
    ecdysisref04_Split.f u = some (if u < 4294967296 ∧ 1 ≤ u / 8 ∧ (u % 8 = 0 ∨ u % 8 = 1 ∨ u % 8 = 2 ∨ u % 8 = 5) then (u / 8, u % 8, true) else (0, 0, false)) := by
  unfold ecdysisref04_Split.f
  have e1 : IntKind.u64.wrap (Int.tdiv u 8) = u / 8 := by rw [IntKind.wrap_u64, Int.tdiv_eq_ediv_of_nonneg h0]; omega
  have e2 : Int.tmod u 8 = u % 8 := Int.tmod_eq_emod_of_nonneg h0
  have e3 : wrap64 (u % 8) = u % 8 := by unfold wrap64; omega
  rw [e1, e2, e3]
  by_cases h : u / 8 > 536870911
  · rw [if_pos h, if_neg (by omega)]
  · have e4 : wrap64 (u / 8) = u / 8 := by unfold wrap64; omega
    rw [if_neg h, e4, refright]
    simp only [Option.bind_some]
    by_cases hc : 1 ≤ u / 8 ∧ u / 8 ≤ 536870911 ∧ (u % 8 = 0 ∨ u % 8 = 1 ∨ u % 8 = 2 ∨ u % 8 = 5)
    · rw [decide_eq_true hc, if_pos rfl, if_pos (by omega)]
    · rw [decide_eq_false hc, if_neg (by simp), if_neg (by omega)]
theorem TagSplits : ecdysislaw04_TagSplits.Pure := by
  intro u wu
  have wu' : 0 ≤ u ∧ u ≤ 18446744073709551615 := by simpa [Lit.wf, IntKind.min, IntKind.max, IntKind.bits, IntKind.signed] using wu
  obtain ⟨h0, h1⟩ := wu'
  refine ⟨1, ?_⟩
  unfold ecdysislaw04_TagSplits.f
  rw [split_eq 0 u h0 h1, refsplit u h0 h1]
  simp only [Option.bind_some]
  by_cases h : u < 4294967296 ∧ 1 ≤ u / 8 ∧ (u % 8 = 0 ∨ u % 8 = 1 ∨ u % 8 = 2 ∨ u % 8 = 5)
  · rw [if_pos h]
    simp only []
    rw [of_yes 0 _ _ (by omega), live_eq]
    have e1 : u / 8 * 8 + u % 8 = u := by omega
    simp [e1]
  · rw [if_neg h]
    simp only []
    rw [of_no 0 _ _ (by omega), live_eq]
    simp
end Go.Proofs.Ytggalbhjkkmcaaa.Pure

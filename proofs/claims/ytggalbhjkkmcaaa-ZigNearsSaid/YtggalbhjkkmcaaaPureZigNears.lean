/- ecdysislaw02.ZigNears answers true at all numbers; no conditions. -/
import Derived.Test.YtggalbhjkkmcaaaPZigNearsx1
import Derived.Laws.BitsAllLaws
namespace Go.Proofs.Ytggalbhjkkmcaaa.Pure
open Go.RowKit Go.Proofs.Ytggalbhjkkmcaaa.M Go.Proofs.Ytggalbhjkkmcaaa.PZigNears Go.Proofs.YtggalbhjkkmcaaaW.PrintWords Go.Proofs.YtggalbhjkkmcaaaW.PrintLast
theorem xor_ones (b : Nat) (hb : b < 18446744073709551616) : b ^^^ 18446744073709551615 = 18446744073709551615 - b := by
  have h := BitVec.xor_allOnes (x := BitVec.ofNat 64 b)
  have h2 := congrArg BitVec.toNat h
  rw [BitVec.toNat_xor, BitVec.toNat_not, BitVec.toNat_ofNat, Nat.mod_eq_of_lt (by omega)] at h2
  exact h2
theorem i64_xor_ones (a : Nat) (ha : a < 9223372036854775808) : Go.bits .xor .i64 (a : Int) (-1) = -1 - (a : Int) := by
  show IntKind.i64.wrap ((BitVec.ofInt 64 (a : Int) ^^^ BitVec.ofInt 64 (-1)).toNat : Int) = _
  have h1 : BitVec.ofInt 64 (-1) = BitVec.allOnes 64 := by decide
  rw [h1, BitVec.xor_allOnes, BitVec.toNat_not, ofInt_u64 a (by omega), IntKind.wrap_i64]
  omega
theorem i64_xor_zero (a : Nat) (ha : a < 9223372036854775808) : Go.bits .xor .i64 (a : Int) 0 = (a : Int) := by
  show IntKind.i64.wrap ((BitVec.ofInt 64 (a : Int) ^^^ BitVec.ofInt 64 0).toNat : Int) = _
  have h1 : BitVec.ofInt 64 0 = 0#64 := by decide
  rw [h1, BitVec.xor_zero, ofInt_u64 a (by omega), IntKind.wrap_i64]
  omega
theorem zig_eq (a : Int) (h0 : -9223372036854775808 ≤ a) (h1 : a ≤ 9223372036854775807) : zig_Zig.f a = some (if 0 ≤ a then 2 * a else -2 * a - 1) := by
  unfold zig_Zig.f
  by_cases h : 0 ≤ a
  · have e1 : IntKind.u64.wrap (IntKind.u64.wrap a * 2) = 2 * a := by simp only [IntKind.wrap_u64]; omega
    have e2 : IntKind.u64.wrap (wrap64 (IntKind.u64.wrap a) / 9223372036854775808) = 0 := by simp only [IntKind.wrap_u64, wrap64]; omega
    rw [e1, e2, u64_xor _ _ (by omega) (by omega) (by omega) (by omega), if_pos h]
    simp only [Int.toNat_zero, Nat.xor_zero]
    congr 1; omega
  · have e1 : IntKind.u64.wrap (IntKind.u64.wrap a * 2) = 2 * a + 18446744073709551616 := by simp only [IntKind.wrap_u64]; omega
    have e2 : IntKind.u64.wrap (wrap64 (IntKind.u64.wrap a) / 9223372036854775808) = 18446744073709551615 := by simp only [IntKind.wrap_u64, wrap64]; omega
    rw [e1, e2, u64_xor _ _ (by omega) (by omega) (by omega) (by omega), if_neg h]
    have e3 : (18446744073709551615 : Int).toNat = 18446744073709551615 := by decide
    rw [e3, xor_ones _ (by omega)]
    congr 1; omega
theorem wide_eq (u : Int) : zig_Wide.f u = some (if u % 4294967296 ≥ 2147483648 then u % 4294967296 - 4294967296 else u % 4294967296) := by
  unfold zig_Wide.f
  congr 1
  unfold wrap64 wrap32
  split <;> omega
theorem live_eq : ecdysislaw02_live.f = some true := by
  unfold ecdysislaw02_live.f
  rw [zig_eq _ (by omega) (by omega), zig_eq _ (by omega) (by omega), wide_eq]
  decide
theorem i64_of {a : Int} (h : (Lit.int .i64 a).wf = true) : -9223372036854775808 ≤ a ∧ a ≤ 9223372036854775807 := by
  simpa [Lit.wf, IntKind.min, IntKind.max, IntKind.bits, IntKind.signed] using h
theorem u64_of {a : Int} (h : (Lit.int .u64 a).wf = true) : 0 ≤ a ∧ a ≤ 18446744073709551615 := by
  simpa [Lit.wf, IntKind.min, IntKind.max, IntKind.bits, IntKind.signed] using h
theorem ZigNears : ecdysislaw02_ZigNears.Pure := by
  intro a b wa wb
  obtain ⟨a0, a1⟩ := i64_of wa
  obtain ⟨b0, b1⟩ := i64_of wb
  refine ⟨2, ?_⟩
  unfold ecdysislaw02_ZigNears.f
  have hj : ∀ x, ecdysislaw02_ZigNears.j0 2 a b true = some x ↔ true = x := by
    intro x
    simp [ecdysislaw02_ZigNears.j0, live_eq]
  by_cases c1 : a < -4611686018427387904
  · rw [if_pos c1]; exact (hj true).2 rfl
  by_cases c2 : a > 4611686018427387904
  · rw [if_neg c1, if_pos c2]; exact (hj true).2 rfl
  by_cases c3 : b < -4611686018427387904
  · rw [if_neg c1, if_neg c2, if_pos c3]; exact (hj true).2 rfl
  rw [if_neg c1, if_neg c2, if_neg c3]
  by_cases c4 : b > 4611686018427387904
  · rw [decide_eq_true c4]; exact (hj true).2 rfl
  rw [decide_eq_false c4]
  have ea : wrap64 (-a) = -a := by unfold wrap64; omega
  have eb : wrap64 (-b) = -b := by unfold wrap64; omega
  have key : ∀ x5 x6 : Int, x6 = b → (x5 = if a < 0 then -a else a) → ecdysislaw02_ZigNears.j1 1 a b x5 x6 = some true := by
    intro x5 x6 h6 h5
    subst h6
    simp only [ecdysislaw02_ZigNears.j1, zig_eq a a0 a1, zig_eq x6 b0 b1, live_eq, Option.bind_some, eb]
    by_cases hb : x6 < 0
    · rw [if_pos hb]
      by_cases hc : x5 ≥ -x6
      · rw [if_pos hc]
      · rw [if_neg hc, if_pos (by split at h5 <;> split <;> split <;> omega)]
    · rw [if_neg hb]
      by_cases hc : x5 ≥ x6
      · rw [if_pos hc]
      · rw [if_neg hc, if_pos (by split at h5 <;> split <;> split <;> omega)]
  simp only [ecdysislaw02_ZigNears.j0]
  rw [if_neg (by decide)]
  by_cases hn : a < 0
  · rw [if_pos hn, ea]; exact key _ _ rfl (by rw [if_pos hn])
  · rw [if_neg hn]; exact key _ _ rfl (by rw [if_neg hn])
end Go.Proofs.Ytggalbhjkkmcaaa.Pure

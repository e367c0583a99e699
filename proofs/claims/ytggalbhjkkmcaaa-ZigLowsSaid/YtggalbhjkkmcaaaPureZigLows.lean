/- ecdysislaw02.ZigLows answers true at all numbers; no conditions. -/
import Derived.Test.YtggalbhjkkmcaaaPZigLowsx1
import Derived.Laws.BitsAllLaws
namespace Go.Proofs.Ytggalbhjkkmcaaa.Pure
open Go.RowKit Go.Proofs.Ytggalbhjkkmcaaa.M Go.Proofs.Ytggalbhjkkmcaaa.PZigLows Go.Proofs.YtggalbhjkkmcaaaW.PrintWords Go.Proofs.YtggalbhjkkmcaaaW.PrintLast
theorem xor_ones (b : Nat) (hb : b < 18446744073709551616) : b ^^^ 18446744073709551615 = 18446744073709551615 - b := by
  have h := BitVec.xor_allOnes (x := BitVec.ofNat 64 b)
  have h2 := congrArg BitVec.toNat h
  rw [BitVec.toNat_xor, BitVec.toNat_not, BitVec.toNat_ofNat, Nat.mod_eq_of_lt (by omega)] at h2
  exact h2
theorem i64_xor_ones (a : Nat) (ha : a < 9223372036854775808) : Go.bits .xor .i64 (a : Int) (-1) = -1 - (a : Int) := by
  show IntKind.i64.wrap ((BitVec.ofInt 64 (a : Int) ^^^ BitVec.ofInt 64 (-1)).toNat : Int) = _
  have h1 : BitVec.ofInt 64 (-1) = BitVec.allOnes 64 := by decide
  rw [h1, BitVec.xor_allOnes, BitVec.toNat_not, ofInt_u64 a (by omega), IntKind.wrap_i64]
  omega
theorem i64_xor_zero (a : Nat) (ha : a < 9223372036854775808) : Go.bits .xor .i64 (a : Int) 0 = (a : Int) := by
  show IntKind.i64.wrap ((BitVec.ofInt 64 (a : Int) ^^^ BitVec.ofInt 64 0).toNat : Int) = _
  have h1 : BitVec.ofInt 64 0 = 0#64 := by decide
  rw [h1, BitVec.xor_zero, ofInt_u64 a (by omega), IntKind.wrap_i64]
  omega
theorem zig_eq (a : Int) (h0 : -9223372036854775808 ≤ a) (h1 : a ≤ 9223372036854775807) : zig_Zig.f a = some (if 0 ≤ a then 2 * a else -2 * a - 1) := by
  unfold zig_Zig.f
  by_cases h : 0 ≤ a
  · have e1 : IntKind.u64.wrap (IntKind.u64.wrap a * 2) = 2 * a := by simp only [IntKind.wrap_u64]; omega
    have e2 : IntKind.u64.wrap (wrap64 (IntKind.u64.wrap a) / 9223372036854775808) = 0 := by simp only [IntKind.wrap_u64, wrap64]; omega
    rw [e1, e2, u64_xor _ _ (by omega) (by omega) (by omega) (by omega), if_pos h]
    simp only [Int.toNat_zero, Nat.xor_zero]
    congr 1; omega
  · have e1 : IntKind.u64.wrap (IntKind.u64.wrap a * 2) = 2 * a + 18446744073709551616 := by simp only [IntKind.wrap_u64]; omega
    have e2 : IntKind.u64.wrap (wrap64 (IntKind.u64.wrap a) / 9223372036854775808) = 18446744073709551615 := by simp only [IntKind.wrap_u64, wrap64]; omega
    rw [e1, e2, u64_xor _ _ (by omega) (by omega) (by omega) (by omega), if_neg h]
    have e3 : (18446744073709551615 : Int).toNat = 18446744073709551615 := by decide
    rw [e3, xor_ones _ (by omega)]
    congr 1; omega
theorem wide_eq (u : Int) : zig_Wide.f u = some (if u % 4294967296 ≥ 2147483648 then u % 4294967296 - 4294967296 else u % 4294967296) := by
  unfold zig_Wide.f
  congr 1
  unfold wrap64 wrap32
  split <;> omega
theorem live_eq : ecdysislaw02_live.f = some true := by
  unfold ecdysislaw02_live.f
  rw [zig_eq _ (by omega) (by omega), zig_eq _ (by omega) (by omega), wide_eq]
  decide
theorem i64_of {a : Int} (h : (Lit.int .i64 a).wf = true) : -9223372036854775808 ≤ a ∧ a ≤ 9223372036854775807 := by
  simpa [Lit.wf, IntKind.min, IntKind.max, IntKind.bits, IntKind.signed] using h
theorem u64_of {a : Int} (h : (Lit.int .u64 a).wf = true) : 0 ≤ a ∧ a ≤ 18446744073709551615 := by
  simpa [Lit.wf, IntKind.min, IntKind.max, IntKind.bits, IntKind.signed] using h
theorem ZigLows : ecdysislaw02_ZigLows.Pure := by
  intro a u wa wu
  obtain ⟨a0, a1⟩ := i64_of wa
  obtain ⟨u0, u1⟩ := u64_of wu
  have e1 : ecdysisref02_Wide.f u = some (if u % 4294967296 ≥ 2147483648 then u % 4294967296 - 4294967296 else u % 4294967296) := by
    unfold ecdysisref02_Wide.f
    have e2 : Int.tmod u 4294967296 = u % 4294967296 := Int.tmod_eq_emod_of_nonneg u0
    have e3 : wrap64 (u % 4294967296) = u % 4294967296 := by unfold wrap64; omega
    rw [e2, e3]
    split
    · congr 1; unfold wrap64; omega
    · rfl
  have e2 : IntKind.u64.wrap (a % 4294967296) = a % 4294967296 := by simp only [IntKind.wrap_u64]; omega
  have e3 : Int.tmod (IntKind.u64.wrap a) 4294967296 = a % 4294967296 := by
    rw [Int.tmod_eq_emod_of_nonneg (by simp only [IntKind.wrap_u64]; omega)]
    simp only [IntKind.wrap_u64]; omega
  have e4 : ecdysisref02_Fits.f a = some (decide (-2147483648 ≤ a ∧ a ≤ 2147483647)) := by
    unfold ecdysisref02_Fits.f
    by_cases h : a ≥ -2147483648
    · rw [if_pos h]; congr 1; rw [decide_eq_decide]; omega
    · rw [if_neg h]; congr 1; rw [decide_eq_false (by omega)]
  have e5 : zig_Fits.f a = some (decide (-2147483648 ≤ a ∧ a ≤ 2147483647)) := by
    unfold zig_Fits.f
    congr 1
    have e6 : wrap64 (wrap32 a) = (a + 2147483648) % 4294967296 - 2147483648 := by unfold wrap64 wrap32; omega
    rw [e6]
    by_cases h : -2147483648 ≤ a ∧ a ≤ 2147483647
    · rw [decide_eq_true h]; exact beq_iff_eq.2 (by omega)
    · rw [decide_eq_false h]; exact beq_eq_false_iff_ne.2 (by omega)
  unfold ecdysislaw02_ZigLows.f zig_Low.f
  simp only [wide_eq u, e1, e2, e3, e4, e5, Option.bind_some, if_true, beq_self_eq_true, live_eq, wide_eq (a % 4294967296)]
  by_cases h : -2147483648 ≤ a ∧ a ≤ 2147483647
  · rw [decide_eq_true h]
    have e7 : ((if a % 4294967296 % 4294967296 ≥ 2147483648 then a % 4294967296 % 4294967296 - 4294967296 else a % 4294967296 % 4294967296) == a) = true := beq_iff_eq.2 (by split <;> omega)
    rw [e7]; rfl
  · rw [decide_eq_false h]
    have e7 : ((if a % 4294967296 % 4294967296 ≥ 2147483648 then a % 4294967296 % 4294967296 - 4294967296 else a % 4294967296 % 4294967296) == a) = false := beq_eq_false_iff_ne.2 (by split <;> omega)
    rw [e7]; rfl
end Go.Proofs.Ytggalbhjkkmcaaa.Pure

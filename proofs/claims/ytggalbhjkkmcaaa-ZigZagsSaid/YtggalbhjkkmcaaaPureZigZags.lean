/- ecdysislaw02.ZigZags answers true at all numbers; no conditions. -/
import Derived.Test.YtggalbhjkkmcaaaPZigZagsx1
import Derived.Laws.BitsAllLaws
namespace Go.Proofs.Ytggalbhjkkmcaaa.Pure
open Go.RowKit Go.Proofs.Ytggalbhjkkmcaaa.M Go.Proofs.Ytggalbhjkkmcaaa.PZigZags Go.Proofs.YtggalbhjkkmcaaaW.PrintWords Go.Proofs.YtggalbhjkkmcaaaW.PrintLast
theorem xor_ones (b : Nat) (hb : b < 18446744073709551616) : b ^^^ 18446744073709551615 = 18446744073709551615 - b := by
  have h := BitVec.xor_allOnes (x := BitVec.ofNat 64 b)
  have h2 := congrArg BitVec.toNat h
  rw [BitVec.toNat_xor, BitVec.toNat_not, BitVec.toNat_ofNat, Nat.mod_eq_of_lt (by omega)] at h2
  exact h2
theorem i64_xor_ones (a : Nat) (ha : a < 9223372036854775808) : Go.bits .xor .i64 (a : Int) (-1) = -1 - (a : Int) := by
  show IntKind.i64.wrap ((BitVec.ofInt 64 (a : Int) ^^^ BitVec.ofInt 64 (-1)).toNat : Int) = _
  have h1 : BitVec.ofInt 64 (-1) = BitVec.allOnes 64 := by decide
  rw [h1, BitVec.xor_allOnes, BitVec.toNat_not, ofInt_u64 a (by omega), IntKind.wrap_i64]
  omega
theorem i64_xor_zero (a : Nat) (ha : a < 9223372036854775808) : Go.bits .xor .i64 (a : Int) 0 = (a : Int) := by
  show IntKind.i64.wrap ((BitVec.ofInt 64 (a : Int) ^^^ BitVec.ofInt 64 0).toNat : Int) = _
  have h1 : BitVec.ofInt 64 0 = 0#64 := by decide
  rw [h1, BitVec.xor_zero, ofInt_u64 a (by omega), IntKind.wrap_i64]
  omega
theorem zig_eq (a : Int) (h0 : -9223372036854775808 ≤ a) (h1 : a ≤ 9223372036854775807) : zig_Zig.f a = some (if 0 ≤ a then 2 * a else -2 * a - 1) := by
  unfold zig_Zig.f
  by_cases h : 0 ≤ a
  · have e1 : IntKind.u64.wrap (IntKind.u64.wrap a * 2) = 2 * a := by simp only [IntKind.wrap_u64]; omega
    have e2 : IntKind.u64.wrap (wrap64 (IntKind.u64.wrap a) / 9223372036854775808) = 0 := by simp only [IntKind.wrap_u64, wrap64]; omega
    rw [e1, e2, u64_xor _ _ (by omega) (by omega) (by omega) (by omega), if_pos h]
    simp only [Int.toNat_zero, Nat.xor_zero]
    congr 1; omega
  · have e1 : IntKind.u64.wrap (IntKind.u64.wrap a * 2) = 2 * a + 18446744073709551616 := by simp only [IntKind.wrap_u64]; omega
    have e2 : IntKind.u64.wrap (wrap64 (IntKind.u64.wrap a) / 9223372036854775808) = 18446744073709551615 := by simp only [IntKind.wrap_u64, wrap64]; omega
    rw [e1, e2, u64_xor _ _ (by omega) (by omega) (by omega) (by omega), if_neg h]
    have e3 : (18446744073709551615 : Int).toNat = 18446744073709551615 := by decide
    rw [e3, xor_ones _ (by omega)]
    congr 1; omega
theorem wide_eq (u : Int) : zig_Wide.f u = some (if u % 4294967296 ≥ 2147483648 then u % 4294967296 - 4294967296 else u % 4294967296) := by
  unfold zig_Wide.f
  congr 1
  unfold wrap64 wrap32
  split <;> omega
theorem live_eq : ecdysislaw02_live.f = some true := by
  unfold ecdysislaw02_live.f
  rw [zig_eq _ (by omega) (by omega), zig_eq _ (by omega) (by omega), wide_eq]
  decide
theorem i64_of {a : Int} (h : (Lit.int .i64 a).wf = true) : -9223372036854775808 ≤ a ∧ a ≤ 9223372036854775807 := by
  simpa [Lit.wf, IntKind.min, IntKind.max, IntKind.bits, IntKind.signed] using h
theorem u64_of {a : Int} (h : (Lit.int .u64 a).wf = true) : 0 ≤ a ∧ a ≤ 18446744073709551615 := by
  simpa [Lit.wf, IntKind.min, IntKind.max, IntKind.bits, IntKind.signed] using h
theorem zag_eq (u : Int) (u0 : 0 ≤ u) (u1 : u ≤ 18446744073709551615) : zig_Zag.f u = some (if u % 2 = 0 then u / 2 else -(u / 2) - 1) := by
  unfold zig_Zag.f
  have e1 : wrap64 (u / 2) = ((u / 2).toNat : Int) := by unfold wrap64; omega
  have e2 : Go.bits .and .u64 u 1 = u % 2 := by
    rw [u64_and _ _ u0 (by omega) (by omega) (by omega)]
    have e3 : (1 : Int).toNat = 1 := by decide
    rw [e3, nat_mask1]; omega
  rw [e1, e2]
  by_cases h : u % 2 = 0
  · have e4 : wrap64 (-wrap64 (u % 2)) = 0 := by unfold wrap64; omega
    rw [e4, i64_xor_zero _ (by omega), if_pos h]; congr 1; omega
  · have e4 : wrap64 (-wrap64 (u % 2)) = -1 := by unfold wrap64; omega
    rw [e4, i64_xor_ones _ (by omega), if_neg h]; congr 1; omega
theorem ZigZags : ecdysislaw02_ZigZags.Pure := by
  intro a u wa wu
  obtain ⟨a0, a1⟩ := i64_of wa
  obtain ⟨u0, u1⟩ := u64_of wu
  have e1 : ecdysisref02_Zig.f a = some (if 0 ≤ a then 2 * a else -2 * a - 1) := by
    unfold ecdysisref02_Zig.f
    by_cases h : a ≥ 0
    · rw [if_pos h, if_pos (by omega)]; congr 1; simp only [IntKind.wrap_u64]; omega
    · rw [if_neg h, if_neg (by omega)]; congr 1; simp only [IntKind.wrap_u64, wrap64]; omega
  have e2 : ecdysisref02_Zag.f u = some (if u % 2 = 0 then u / 2 else -(u / 2) - 1) := by
    unfold ecdysisref02_Zag.f
    rw [Int.tmod_eq_emod_of_nonneg u0, Int.tdiv_eq_ediv_of_nonneg u0]
    by_cases h : u % 2 = 0
    · rw [if_pos h, if_pos h]; congr 1; simp only [IntKind.wrap_u64, wrap64]; omega
    · rw [if_neg h, if_neg h]; congr 1; simp only [IntKind.wrap_u64, wrap64]; omega
  unfold ecdysislaw02_ZigZags.f
  have z1 : 0 ≤ (if 0 ≤ a then 2 * a else -2 * a - 1) := by split <;> omega
  have z2 : (if 0 ≤ a then 2 * a else -2 * a - 1) ≤ 18446744073709551615 := by split <;> omega
  have y1 : -9223372036854775808 ≤ (if u % 2 = 0 then u / 2 else -(u / 2) - 1) := by split <;> omega
  have y2 : (if u % 2 = 0 then u / 2 else -(u / 2) - 1) ≤ 9223372036854775807 := by split <;> omega
  have f1 : zig_Zag.f (if 0 ≤ a then 2 * a else -2 * a - 1) = some a := by
    rw [zag_eq _ z1 z2]; congr 1; split <;> split <;> omega
  have f2 : zig_Zig.f (if u % 2 = 0 then u / 2 else -(u / 2) - 1) = some u := by
    rw [zig_eq _ y1 y2]; congr 1; split <;> split <;> omega
  simp only [zig_eq a a0 a1, e1, e2, zag_eq u u0 u1, Option.bind_some, if_true, f1, f2, live_eq]
end Go.Proofs.Ytggalbhjkkmcaaa.Pure

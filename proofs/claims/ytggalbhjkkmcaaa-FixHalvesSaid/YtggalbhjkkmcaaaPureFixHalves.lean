/- ecdysislaw03.FixHalves answers true at whatever numbers and bytes; no conditions. -/
import Derived.Test.YtggalbhjkkmcaaaPFixHalvesx1
import Derived.Laws.BitsAllLaws

namespace Go.Proofs.Ytggalbhjkkmcaaa.Pure
open Go.RowKit Go.Proofs.Ytggalbhjkkmcaaa.M Go.Proofs.Ytggalbhjkkmcaaa.PFixHalves Go.Proofs.YtggalbhjkkmcaaaW.PrintWords Go.Proofs.YtggalbhjkkmcaaaW.PrintLast Go.Proofs.YtggalbhjkkmcaaaW.PrintMore
theorem i64_of {a : Int} (h : (Lit.int .i64 a).wf = true) : -9223372036854775808 ≤ a ∧ a ≤ 9223372036854775807 := by
  simpa [Lit.wf, IntKind.min, IntKind.max, IntKind.bits, IntKind.signed] using h
theorem u64_of {a : Int} (h : (Lit.int .u64 a).wf = true) : 0 ≤ a ∧ a ≤ 18446744073709551615 := by
  simpa [Lit.wf, IntKind.min, IntKind.max, IntKind.bits, IntKind.signed] using h
theorem u32_of {a : Int} (h : (Lit.int .u32 a).wf = true) : 0 ≤ a ∧ a ≤ 4294967295 := by
  simpa [Lit.wf, IntKind.min, IntKind.max, IntKind.bits, IntKind.signed] using h
theorem u8_of {a : Int} (h : (Lit.int .u8 a).wf = true) : 0 ≤ a ∧ a ≤ 255 := by
  simpa [Lit.wf, IntKind.min, IntKind.max, IntKind.bits, IntKind.signed] using h
theorem put4_f (a : Int) (h0 : 0 ≤ a) (h1 : a ≤ 4294967295) : fix_Put4.f a = some (b4 a) := by unfold fix_Put4.f; rw [if_pos ⟨h0, h1⟩]
theorem put8_f (a : Int) (h0 : 0 ≤ a) (h1 : a ≤ 18446744073709551615) : fix_Put8.f a = some (b8 a) := by unfold fix_Put8.f; rw [if_pos ⟨h0, h1⟩]
theorem bytes_self (l : List Int) : ecdysisref01_Bytes.f l l = some true := by
  unfold ecdysisref01_Bytes.f
  rw [beq_self_eq_true]
theorem live_f : ecdysislaw03_live.f = some true := by
  unfold ecdysislaw03_live.f
  rw [put4_f 258 (by omega) (by omega)]
  have e1 : b4 258 = [2, 1, 0, 0] := by decide
  simp only [Option.bind_some, e1]
  rw [bytes_self]
  rfl
theorem FixHalves : ecdysislaw03_FixHalves.Pure := by
  intro a b wa wb
  obtain ⟨a0, a1⟩ := u32_of wa
  obtain ⟨b0, b1⟩ := u32_of wb
  have e1 : Go.bits .or .u64 (IntKind.u64.wrap (IntKind.u64.wrap b * 4294967296)) (IntKind.u64.wrap a) = b * 4294967296 + a := by
    have h1 : IntKind.u64.wrap (IntKind.u64.wrap b * 4294967296) = b * 4294967296 := by simp only [IntKind.wrap_u64]; omega
    have h2 : IntKind.u64.wrap a = a := by rw [IntKind.wrap_u64]; omega
    rw [h1, h2, u64_or _ _ (by omega) (by omega) (by omega) (by omega), nat_join 32 _ _ (by omega) (by omega)]
    omega
  have e2 : b8 (b * 4294967296 + a) = b4 a ++ b4 b := by
    simp only [b8, b4, List.cons_append, List.nil_append, List.cons.injEq, and_true]
    refine ⟨?_, ?_, ?_, ?_, ?_, ?_, ?_, ?_⟩ <;> omega
  unfold ecdysislaw03_FixHalves.f
  rw [e1, put8_f _ (by omega) (by omega), put4_f a a0 a1, put4_f b b0 b1, e2, live_f]
  simp only [Option.bind_some, List.nil_append]
  rw [if_pos (by simp [b4]), if_pos (by simp [b4]), bytes_self]
  rfl
end Go.Proofs.Ytggalbhjkkmcaaa.Pure

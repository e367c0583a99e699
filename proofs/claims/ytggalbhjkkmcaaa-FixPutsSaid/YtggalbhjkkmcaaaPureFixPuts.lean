/- ecdysislaw03.FixPuts answers true at whatever numbers and bytes; no conditions. -/
import Derived.Test.YtggalbhjkkmcaaaPFixPutsx1
import Derived.Laws.BitsAllLaws

namespace Go.Proofs.Ytggalbhjkkmcaaa.Pure
open Go.RowKit Go.Proofs.Ytggalbhjkkmcaaa.M Go.Proofs.Ytggalbhjkkmcaaa.PFixPuts Go.Proofs.YtggalbhjkkmcaaaW.PrintWords Go.Proofs.YtggalbhjkkmcaaaW.PrintLast Go.Proofs.YtggalbhjkkmcaaaW.PrintMore
theorem i64_of {a : Int} (h : (Lit.int .i64 a).wf = true) : -9223372036854775808 ≤ a ∧ a ≤ 9223372036854775807 := by
  simpa [Lit.wf, IntKind.min, IntKind.max, IntKind.bits, IntKind.signed] using h
theorem u64_of {a : Int} (h : (Lit.int .u64 a).wf = true) : 0 ≤ a ∧ a ≤ 18446744073709551615 := by
  simpa [Lit.wf, IntKind.min, IntKind.max, IntKind.bits, IntKind.signed] using h
theorem u32_of {a : Int} (h : (Lit.int .u32 a).wf = true) : 0 ≤ a ∧ a ≤ 4294967295 := by
  simpa [Lit.wf, IntKind.min, IntKind.max, IntKind.bits, IntKind.signed] using h
theorem u8_of {a : Int} (h : (Lit.int .u8 a).wf = true) : 0 ≤ a ∧ a ≤ 255 := by
  simpa [Lit.wf, IntKind.min, IntKind.max, IntKind.bits, IntKind.signed] using h
theorem put4_f (a : Int) (h0 : 0 ≤ a) (h1 : a ≤ 4294967295) : fix_Put4.f a = some (b4 a) := by unfold fix_Put4.f; rw [if_pos ⟨h0, h1⟩]
theorem put8_f (a : Int) (h0 : 0 ≤ a) (h1 : a ≤ 18446744073709551615) : fix_Put8.f a = some (b8 a) := by unfold fix_Put8.f; rw [if_pos ⟨h0, h1⟩]
theorem bytes_self (l : List Int) : ecdysisref01_Bytes.f l l = some true := by
  unfold ecdysisref01_Bytes.f
  rw [beq_self_eq_true]
theorem live_f : ecdysislaw03_live.f = some true := by
  unfold ecdysislaw03_live.f
  rw [put4_f 258 (by omega) (by omega)]
  have e1 : b4 258 = [2, 1, 0, 0] := by decide
  simp only [Option.bind_some, e1]
  rw [bytes_self]
  rfl
def low : Nat → Int → List Int
  | 0, _ => []
  | d + 1, n => n % 256 :: low d (n / 256)
theorem refputl (d : Nat) : ∀ (k : Nat) (n s : Int) (acc : List Int) (i : Nat), s = (i : Int) + d → d < k → i + d ≤ 100 → 0 ≤ n → n ≤ 18446744073709551615 → acc.length + d + 1 < 140737488355328 → ecdysisref03_Put.l0 k n s acc (i : Int) = some (acc ++ low d n) := by
  induction d with
  | zero =>
    intro k n s acc i hs hk _ _ _ _
    obtain ⟨k, rfl⟩ : ∃ m, k = m + 1 := ⟨k - 1, by omega⟩
    simp only [ecdysisref03_Put.l0]
    rw [if_neg (by omega)]
    simp [low]
  | succ d ih =>
    intro k n s acc i hs hk hi n0 n1 hl
    have q0 : i + 1 + d ≤ 100 := by clear hl n1 n0 hs hk; omega
    have q5 : acc.length < 140737488355328 := by clear n1 n0 hs hk hi; omega
    have q6 : (acc ++ [n % 256]).length + d + 1 < 140737488355328 := by
      rw [List.length_append, List.length_singleton]
      clear n1 n0 hs hk hi; omega
    obtain ⟨k, rfl⟩ : ∃ m, k = m + 1 := ⟨k - 1, by omega⟩
    have q1 : 0 ≤ n / 256 := by omega
    have q2 : n / 256 ≤ 18446744073709551615 := by omega
    have q3 : s = ((i + 1 : Nat) : Int) + d := by omega
    have q4 : (i : Int) < s := by omega
    have e1 : IntKind.u64.wrap (Int.tdiv n 256) = n / 256 := by rw [IntKind.wrap_u64, Int.tdiv_eq_ediv_of_nonneg n0]; omega
    have e2 : (Int.tmod n 256) % 256 = n % 256 := by rw [Int.tmod_eq_emod_of_nonneg n0]; omega
    have e3 : wrap64 ((i : Int) + 1) = ((i + 1 : Nat) : Int) := by unfold wrap64; omega
    simp only [ecdysisref03_Put.l0]
    rw [if_pos q4, if_pos q5, e1, e2, e3, ih k (n / 256) s _ (i + 1) q3 (Nat.lt_of_succ_lt_succ hk) q0 q1 q2 q6]
    simp [low]
theorem dd (n a c : Int) (h0 : 0 ≤ a) (h : c = a * 256) : n / a / 256 = n / c := by rw [Int.ediv_ediv_of_nonneg h0, h]
theorem low8 (n : Int) (n0 : 0 ≤ n) (n1 : n ≤ 18446744073709551615) : low 8 n = b8 n := by
  simp only [low, b8]
  rw [dd n 256 65536 (by decide) (by decide), dd n 65536 16777216 (by decide) (by decide), dd n 16777216 4294967296 (by decide) (by decide), dd n 4294967296 1099511627776 (by decide) (by decide),
    dd n 1099511627776 281474976710656 (by decide) (by decide), dd n 281474976710656 72057594037927936 (by decide) (by decide)]
  have h : n / 72057594037927936 % 256 = n / 72057594037927936 := by omega
  rw [h]
theorem FixPuts : ecdysislaw03_FixPuts.Pure := by
  intro n rest wn _ hlen _
  obtain ⟨n0, n1⟩ := u64_of wn
  have p4 : ecdysisref03_Put.f 20 n 4 = some (b4 (n % 4294967296)) := by
    unfold ecdysisref03_Put.f
    show ecdysisref03_Put.l0 20 n 4 [] ((0 : Nat) : Int) = _
    rw [refputl 4 20 n 4 [] 0 (by omega) (by omega) (by omega) n0 n1 (by simp)]
    simp only [low, b4, List.nil_append, Option.some.injEq, List.cons.injEq, and_true]
    refine ⟨?_, ?_, ?_, ?_⟩ <;> omega
  have p8 : ecdysisref03_Put.f 20 n 8 = some (b8 n) := by
    unfold ecdysisref03_Put.f
    show ecdysisref03_Put.l0 20 n 8 [] ((0 : Nat) : Int) = _
    rw [refputl 8 20 n 8 [] 0 (by omega) (by omega) (by omega) n0 n1 (by simp)]
    rw [low8 n n0 n1, List.nil_append]
  have g4 : fix_Get4.f (b4 (n % 4294967296) ++ rest) = some (n % 4294967296, true) := by
    unfold fix_Get4.f
    rw [if_neg (by simp [b4]), if_pos (by
      intro x hx
      simp only [b4, List.cons_append, List.nil_append, List.take_succ_cons, List.take_zero, List.mem_cons, List.not_mem_nil, or_false] at hx
      rcases hx with h | h | h | h <;> omega)]
    simp only [val4, b4, List.cons_append, List.getD_cons_zero, List.getD_cons_succ]
    congr 2; omega
  have g8 : fix_Get8.f (b8 n ++ rest) = some (n, true) := by
    unfold fix_Get8.f
    rw [if_neg (by simp [b8]), if_pos (by
      intro x hx
      simp only [b8, List.cons_append, List.nil_append, List.take_succ_cons, List.take_zero, List.mem_cons, List.not_mem_nil, or_false] at hx
      rcases hx with h | h | h | h | h | h | h | h <;> omega)]
    simp only [val8, b8, List.cons_append, List.getD_cons_zero, List.getD_cons_succ]
    congr 2; omega
  refine ⟨20, ?_⟩
  unfold ecdysislaw03_FixPuts.f
  rw [put4_f _ (by omega) (by omega), put8_f n n0 n1, p4, p8, live_f]
  have l4 : (b4 (n % 4294967296)).length = 4 := rfl
  have l8 : (b8 n).length = 8 := rfl
  simp only [Option.bind_some, List.nil_append, List.length_nil, l4, l8]
  rw [if_pos (by omega), if_pos (by omega), g4]
  simp only [Option.bind_some]
  rw [if_pos (by omega), if_pos (by omega), g8, bytes_self]
  simp only [Option.bind_some]
  rw [if_pos trivial, bytes_self]
  simp
end Go.Proofs.Ytggalbhjkkmcaaa.Pure

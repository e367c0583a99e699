/- ecdysislaw03.FixGets answers true at whatever numbers and bytes; no conditions. -/
import Derived.Test.YtggalbhjkkmcaaaPFixGetsx1
import Derived.Laws.BitsAllLaws

namespace Go.Proofs.Ytggalbhjkkmcaaa.Pure
open Go.RowKit Go.Proofs.Ytggalbhjkkmcaaa.M Go.Proofs.Ytggalbhjkkmcaaa.PFixGets Go.Proofs.YtggalbhjkkmcaaaW.PrintWords Go.Proofs.YtggalbhjkkmcaaaW.PrintLast Go.Proofs.YtggalbhjkkmcaaaW.PrintMore
theorem i64_of {a : Int} (h : (Lit.int .i64 a).wf = true) : -9223372036854775808 ≤ a ∧ a ≤ 9223372036854775807 := by
  simpa [Lit.wf, IntKind.min, IntKind.max, IntKind.bits, IntKind.signed] using h
theorem u64_of {a : Int} (h : (Lit.int .u64 a).wf = true) : 0 ≤ a ∧ a ≤ 18446744073709551615 := by
  simpa [Lit.wf, IntKind.min, IntKind.max, IntKind.bits, IntKind.signed] using h
theorem u32_of {a : Int} (h : (Lit.int .u32 a).wf = true) : 0 ≤ a ∧ a ≤ 4294967295 := by
  simpa [Lit.wf, IntKind.min, IntKind.max, IntKind.bits, IntKind.signed] using h
theorem u8_of {a : Int} (h : (Lit.int .u8 a).wf = true) : 0 ≤ a ∧ a ≤ 255 := by
  simpa [Lit.wf, IntKind.min, IntKind.max, IntKind.bits, IntKind.signed] using h
theorem put4_f (a : Int) (h0 : 0 ≤ a) (h1 : a ≤ 4294967295) : fix_Put4.f a = some (b4 a) := by unfold fix_Put4.f; rw [if_pos ⟨h0, h1⟩]
theorem put8_f (a : Int) (h0 : 0 ≤ a) (h1 : a ≤ 18446744073709551615) : fix_Put8.f a = some (b8 a) := by unfold fix_Put8.f; rw [if_pos ⟨h0, h1⟩]
theorem bytes_self (l : List Int) : ecdysisref01_Bytes.f l l = some true := by
  unfold ecdysisref01_Bytes.f
  rw [beq_self_eq_true]
theorem live_f : ecdysislaw03_live.f = some true := by
  unfold ecdysislaw03_live.f
  rw [put4_f 258 (by omega) (by omega)]
  have e1 : b4 258 = [2, 1, 0, 0] := by decide
  simp only [Option.bind_some, e1]
  rw [bytes_self]
  rfl
def down (l : List Int) : Nat → Int → Int
  | 0, a => a
  | i + 1, a => down l i (a * 256 + rd l (i : Int))
theorem q_le {i j : Nat} (h : i ≤ j) : ((256 ^ i : Nat) : Int) ≤ ((256 ^ j : Nat) : Int) := Int.ofNat_le.2 (Nat.pow_le_pow_right (by omega) h)
theorem refgetl (l : List Int) (hb : ∀ x ∈ l, 0 ≤ x ∧ x ≤ 255) : ∀ (i k : Nat) (a : Int), i ≤ l.length → i < k → i ≤ 8 → 0 ≤ a → a < ((256 ^ (8 - i) : Nat) : Int) → ecdysisref03_Get.l0 k l a ((i : Int) - 1) = some (down l i a, true)
  | 0, k, a, _, hk, _, _, _ => by
    obtain ⟨k, rfl⟩ : ∃ m, k = m + 1 := ⟨k - 1, by omega⟩
    simp only [ecdysisref03_Get.l0]
    rw [if_neg (by omega)]
    rfl
  | i + 1, k, a, hl, hk, h8, a0, a1 => by
    obtain ⟨k, rfl⟩ : ∃ m, k = m + 1 := ⟨k - 1, by omega⟩
    have hm : rd l (i : Int) ∈ l := by simp [rd, List.getD_eq_getElem?_getD, List.getElem?_eq_getElem (show i < l.length by omega)]
    have hc := hb _ hm
    have h7 := q_le (show 8 - (i + 1) ≤ 7 by omega)
    have e7 : ((256 ^ 7 : Nat) : Int) = 72057594037927936 := by decide
    rw [e7] at h7
    have hi : (((i + 1 : Nat) : Int) - 1) = (i : Int) := by omega
    have hw : wrap64 ((i : Int) - 1) = (i : Int) - 1 := by unfold wrap64; omega
    have es : IntKind.u64.wrap (IntKind.u64.wrap (a * 256) + IntKind.u64.wrap (rd l (i : Int))) = a * 256 + rd l (i : Int) := by simp only [IntKind.wrap_u64]; omega
    rw [hi]
    simp only [ecdysisref03_Get.l0]
    rw [if_pos (by omega), if_pos (by omega), if_pos (by omega), es, hw]
    have hp : 8 - i = (8 - (i + 1)) + 1 := by omega
    exact refgetl l hb i k _ (by omega) (by omega) (by omega) (by omega) (by rw [hp, Nat.pow_succ]; omega)
theorem FixGets : ecdysislaw03_FixGets.Pure := by
  intro l _ _ hwf
  have hb : ∀ x ∈ l, 0 ≤ x ∧ x ≤ 255 := fun x hx => u8_of (hwf x hx)
  refine ⟨20, ?_⟩
  have hrd : ∀ i : Nat, rd l (i : Int) = l.getD i 0 := fun i => by simp [rd]
  have g4 : ecdysisref03_Get.f 20 l 4 = some (if l.length < 4 then (0, false) else (val4 l, true)) := by
    unfold ecdysisref03_Get.f
    by_cases h : l.length < 4
    · rw [if_pos (by omega), if_pos h]
    · have hw : wrap64 (4 - 1) = ((4 : Nat) : Int) - 1 := by unfold wrap64; omega
      rw [if_neg (by omega), if_neg h, hw, refgetl l hb 4 20 0 (by omega) (by omega) (by omega) (by omega) (by decide)]
      simp only [down, hrd, val4]
      congr 2; omega
  have g8 : ecdysisref03_Get.f 20 l 8 = some (if l.length < 8 then (0, false) else (val8 l, true)) := by
    unfold ecdysisref03_Get.f
    by_cases h : l.length < 8
    · rw [if_pos (by omega), if_pos h]
    · have hw : wrap64 (8 - 1) = ((8 : Nat) : Int) - 1 := by unfold wrap64; omega
      rw [if_neg (by omega), if_neg h, hw, refgetl l hb 8 20 0 (by omega) (by omega) (by omega) (by omega) (by decide)]
      simp only [down, hrd, val8]
      congr 2; omega
  have f4 : fix_Get4.f l = some (if l.length < 4 then (0, false) else (val4 l, true)) := by
    unfold fix_Get4.f
    by_cases h : l.length < 4
    · rw [if_pos h, if_pos h]
    · rw [if_neg h, if_neg h, if_pos (fun x hx => hb x (List.mem_of_mem_take hx))]
  have f8 : fix_Get8.f l = some (if l.length < 8 then (0, false) else (val8 l, true)) := by
    unfold fix_Get8.f
    by_cases h : l.length < 8
    · rw [if_pos h, if_pos h]
    · rw [if_neg h, if_neg h, if_pos (fun x hx => hb x (List.mem_of_mem_take hx))]
  have hv4 : IntKind.u64.wrap (if l.length < 4 then ((0 : Int), false) else (val4 l, true)).1 = (if l.length < 4 then ((0 : Int), false) else (val4 l, true)).1 := by
    by_cases h : l.length < 4
    · rw [if_pos h]; decide
    · rw [if_neg h]
      simp only [IntKind.wrap_u64]
      have m : ∀ i : Nat, i < l.length → 0 ≤ l.getD i 0 ∧ l.getD i 0 ≤ 255 := fun i hi => hb _ (by simp [List.getD_eq_getElem?_getD, List.getElem?_eq_getElem hi])
      have m0 := m 0 (by omega)
      have m1 := m 1 (by omega)
      have m2 := m 2 (by omega)
      have m3 := m 3 (by omega)
      unfold val4
      omega
  unfold ecdysislaw03_FixGets.f
  rw [f4, f8, g4, g8, live_f]
  simp only [Option.bind_some]
  rw [hv4]
  simp only [beq_self_eq_true, if_true]
end Go.Proofs.Ytggalbhjkkmcaaa.Pure

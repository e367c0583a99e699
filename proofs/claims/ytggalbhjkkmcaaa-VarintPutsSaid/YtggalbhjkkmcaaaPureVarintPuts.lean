/- Whatever number, whatever bytes behind it: varint.Put, Size and Get tell what the reference tells; no conditions. -/
import Derived.Test.YtggalbhjkkmcaaaPVarintPutsx1
import Derived.Laws.BitsAllLaws
import Derived.Test.YtggalbhjkkmcaaaVar
namespace Go.Proofs.Ytggalbhjkkmcaaa.Pure
open Go.RowKit Go.Proofs.Ytggalbhjkkmcaaa.M Go.Proofs.Ytggalbhjkkmcaaa.PVarintPuts Go.Proofs.YtggalbhjkkmcaaaW.PrintWords Go.Proofs.YtggalbhjkkmcaaaW.PrintLast Go.Proofs.YtggalbhjkkmcaaaW.PrintMore Go.Proofs.Ytggalbhjkkmcaaa.Var
theorem size_f (n : Int) (h0 : 0 ≤ n) (h1 : n ≤ 18446744073709551615) : varint_Size.f n = some ((e n : Int) + 1) := by
  obtain ⟨h2, h3, h4⟩ := size_eq n h0 h1
  unfold varint_Size.f bits_Len64.f
  rw [if_pos ⟨h3, h4⟩]
  simp only [Option.bind_some]
  rw [h2]
theorem putl : ∀ (d k : Nat) (x : Int) (acc : List Int) (x7 x8 : Int), d < k → x7 - x8 = d → 0 ≤ x8 → x7 ≤ 1000 → acc.length + d + 1 < 140737488355328 → varint_Put.l0 k x acc x7 x8 = some (acc ++ enc d x)
  | 0, k, x, acc, x7, x8, hk, hd, h0, h1, hl => by
    obtain ⟨k, rfl⟩ : ∃ m, k = m + 1 := ⟨k - 1, by omega⟩
    simp only [varint_Put.l0]
    rw [if_neg (by omega), if_pos (by omega)]
    rfl
  | d + 1, k, x, acc, x7, x8, hk, hd, h0, h1, hl => by
    obtain ⟨k, rfl⟩ : ∃ m, k = m + 1 := ⟨k - 1, by omega⟩
    have hw : wrap64 (x8 + 1) = x8 + 1 := by unfold wrap64; omega
    simp only [varint_Put.l0]
    rw [if_pos (by omega), if_pos (by omega), mid_byte, hw, putl d k _ _ x7 (x8 + 1) (by omega) (by omega) (by omega) h1 (by simp; omega)]
    simp [enc]
theorem put_f (k : Nat) (n : Int) (hk : 10 < k) (h0 : 0 ≤ n) (h1 : n ≤ 18446744073709551615) : varint_Put.f k n = some (enc (e n) n) := by
  unfold varint_Put.f
  rw [size_f n h0 h1]
  have he := e_le n h1
  have hw : wrap64 ((e n : Int) + 1 - 1) = e n := by unfold wrap64; omega
  simp only [Option.bind_some]
  rw [hw, putl (e n) k n [] (e n : Int) 0 (by omega) (by omega) (by omega) (by omega) (by simp; omega)]
  rfl
theorem getl : ∀ (d k i : Nat) (acc : Int) (l : List Int), (∀ x ∈ l, 0 ≤ x ∧ x ≤ 255) → l.length = i + d → 2 * d < k → 0 ≤ acc → acc < ((128 ^ i : Nat) : Int) → i ≤ 10 → l.length ≤ 140737488359000 →
    varint_Get.l0 k acc l (l.length : Int) (i : Int) = some (dec (l.drop i) i acc)
  | 0, k, i, acc, l, _, hl, hk, _, _, _, _ => by
    obtain ⟨k, rfl⟩ : ∃ m, k = m + 1 := ⟨k - 1, by omega⟩
    simp only [varint_Get.l0]
    rw [if_neg (by omega), List.drop_of_length_le (by omega)]
    rfl
  | d + 1, k, i, acc, l, hb, hl, hk, a0, a1, hi, hlen => by
    obtain ⟨k, rfl⟩ : ∃ m, k = m + 2 := ⟨k - 2, by omega⟩
    have hc := hb _ (rd_mem l i (by omega))
    have hr := rd_drop l i (by omega)
    have step : ¬ (i = 10 ∨ (i = 9 ∧ rd l (i : Int) > 1)) → varint_Get.j1 (k + 1) acc (i : Int) (rd l (i : Int)) l (l.length : Int) (i : Int) false = some (dec (l.drop i) i acc) := by
      intro hn
      have hw : wrap64 ((i : Int) + 1) = (i : Int) + 1 := by unfold wrap64; omega
      have hw7 : wrap64 (7 * (i : Int)) = 7 * (i : Int) := by unfold wrap64; omega
      have h7 : (0 : Int) ≤ wrap64 (7 * (i : Int)) := by rw [hw7]; omega
      have hu : IntKind.u64.wrap (rd l (i : Int) % 128) = rd l (i : Int) % 128 := by rw [IntKind.wrap_u64]; omega
      simp only [varint_Get.j1]
      rw [if_neg (by decide), if_pos h7, low7 _ hc.1 hc.2, hu, hw, shl7 _ i (by omega) (by omega) (by omega) (fun h => by omega), or_part acc _ i a0 a1 (by omega) (by omega) (by omega) (fun h => by omega), hr]
      simp only [dec]
      rw [if_neg hn]
      by_cases h1 : rd l (i : Int) < 128
      · rw [if_pos h1, if_pos h1]
      · rw [if_neg h1, if_neg h1]
        have hp := part_lt (rd l (i : Int) % 128) i (by omega) (by omega) (by omega) (fun h => by omega)
        have h8 := getl d k (i + 1) (acc + rd l (i : Int) % 128 * ((128 ^ i : Nat) : Int)) l hb (by omega) (by omega) (by omega) (by rw [p_succ]; omega) (by omega) hlen
        have hcast : ((i + 1 : Nat) : Int) = (i : Int) + 1 := by omega
        rw [hcast] at h8
        exact h8
    have stop : (i = 10 ∨ (i = 9 ∧ rd l (i : Int) > 1)) → varint_Get.j1 (k + 1) acc (i : Int) (rd l (i : Int)) l (l.length : Int) (i : Int) true = some (dec (l.drop i) i acc) := by
      intro hn
      simp only [varint_Get.j1]
      rw [if_pos trivial, hr]
      simp only [dec]
      rw [if_pos hn]
    rw [varint_Get.l0]
    rw [if_pos (by omega), if_pos (by omega), if_pos (by omega)]
    by_cases h10 : i = 10
    · rw [if_pos (by omega)]; exact stop (.inl h10)
    · rw [if_neg (by omega)]
      by_cases h9 : i = 9
      · rw [if_pos (by omega)]
        by_cases h1 : rd l (i : Int) > 1
        · rw [decide_eq_true h1]; exact stop (.inr ⟨h9, h1⟩)
        · rw [decide_eq_false h1]; exact step (by omega)
      · rw [if_neg (by omega)]; exact step (by omega)
theorem get_f (k : Nat) (l : List Int) (hb : ∀ x ∈ l, 0 ≤ x ∧ x ≤ 255) (hk : 2 * l.length < k) (hl : l.length ≤ 140737488359000) : varint_Get.f k l = some (dec l 0 0) := by
  unfold varint_Get.f
  exact getl l.length k 0 0 l hb (by omega) hk (by omega) (by decide) (by omega) hl
theorem bytes_self (l : List Int) : ecdysisref01_Bytes.f l l = some true := by
  unfold ecdysisref01_Bytes.f
  rw [beq_self_eq_true]
theorem live_f (k : Nat) (hk : 30 < k) : ecdysislaw01_live.f k = some true := by
  unfold ecdysislaw01_live.f
  rw [get_f k _ (by decide) (by simp; omega) (by simp), put_f k 300 (by omega) (by omega) (by omega)]
  have e1 : dec [172, 130, 0] 0 0 = (300, 3) := by decide
  have e2 : enc (e 300) 300 = [172, 2] := by decide
  simp only [Option.bind_some, e1, e2]
  rw [bytes_self]
  rfl
theorem refputl : ∀ (f k : Nat) (x : Int) (acc : List Int), f < k → 0 ≤ x → x ≤ 18446744073709551615 → e x ≤ f → acc.length + f + 1 < 140737488355328 → ecdysisref01_Put.l0 k x acc = some (acc ++ enc (e x) x)
  | 0, k, x, acc, hk, h0, h1, he, hl => by
    obtain ⟨k, rfl⟩ : ∃ m, k = m + 1 := ⟨k - 1, by omega⟩
    have hx : ¬ x ≥ 128 := fun h => by have := e_big h h1; omega
    have he0 : e x = 0 := by omega
    simp only [ecdysisref01_Put.l0]
    rw [if_neg hx, if_pos (by omega), he0]
    rfl
  | f + 1, k, x, acc, hk, h0, h1, he, hl => by
    obtain ⟨k, rfl⟩ : ∃ m, k = m + 1 := ⟨k - 1, by omega⟩
    simp only [ecdysisref01_Put.l0]
    by_cases hx : x ≥ 128
    · have h2 := e_big hx h1
      have e1 : IntKind.u64.wrap (Int.tdiv x 128) = x / 128 := by rw [IntKind.wrap_u64, Int.tdiv_eq_ediv_of_nonneg h0]; omega
      have e2 : (Int.tmod x 128 + 128) % 256 = x % 128 + 128 := by rw [Int.tmod_eq_emod_of_nonneg h0]; omega
      rw [if_pos hx, if_pos (by omega), e1, e2, refputl f k (x / 128) _ (by omega) (by omega) (by omega) (by omega) (by simp; omega), h2]
      simp [enc]
    · rw [if_neg hx, if_pos (by omega), e_small (by omega)]
      rfl
theorem refput_f (k : Nat) (n : Int) (hk : 10 < k) (h0 : 0 ≤ n) (h1 : n ≤ 18446744073709551615) : ecdysisref01_Put.f k n = some (enc (e n) n) := by
  unfold ecdysisref01_Put.f
  rw [refputl 9 k n [] (by omega) h0 h1 (e_le n h1) (by simp)]
  rfl
theorem enc_byte : ∀ (d : Nat) (n : Int), ∀ x ∈ enc d n, 0 ≤ x ∧ x ≤ 255
  | 0, n, x, hx => by simp [enc] at hx; omega
  | d + 1, n, x, hx => by
    simp [enc] at hx
    rcases hx with h | h
    · omega
    · exact enc_byte d _ x h
theorem VarintPuts : ecdysislaw01_VarintPuts.Pure := by
  intro n rest wn _ hlen hwf
  obtain ⟨n0, n1⟩ := u64_of wn
  have hb : ∀ x ∈ rest, 0 ≤ x ∧ x ≤ 255 := fun x hx => u8_of (hwf x hx)
  have he := e_le n n1
  have hl := enc_length (e n) n
  refine ⟨2 * rest.length + 60, ?_⟩
  unfold ecdysislaw01_VarintPuts.f
  rw [put_f _ n (by omega) n0 n1, refput_f _ n (by omega) n0 n1, live_f _ (by omega), size_f n n0 n1]
  simp only [Option.bind_some, List.nil_append, List.length_nil]
  rw [if_pos (by omega), if_pos (by omega), get_f _ (enc (e n) n ++ rest) (fun x hx => by
    rcases List.mem_append.1 hx with h | h
    · exact enc_byte _ _ x h
    · exact hb x h) (by rw [List.length_append]; omega) (by rw [List.length_append]; omega), dec_put n n0 n1 rest, bytes_self]
  simp only [Option.bind_some]
  rw [if_pos trivial, if_pos (by omega), if_pos trivial, if_pos (by omega)]
end Go.Proofs.Ytggalbhjkkmcaaa.Pure

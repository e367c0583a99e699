/- Plain facts on the numbers of seven-bit groups: how many bytes, which bytes, and what bytes are read as. No program in sight; conditions stand at each. -/
import Derived.Test.YtfbmabhdjliohaaWWords
import Derived.Test.YtfbmabhdjliohaaWMore
import Derived.Laws.BitsAllLaws
import Derived.Laws.Bits64
import Derived.Lib.BitFns
namespace Go.Proofs.Ytfbmabhdjliohaa.Var
open Go.RowKit Go.Proofs.YtfbmabhdjliohaaW.PrintWords Go.Proofs.YtfbmabhdjliohaaW.PrintMore

theorem i64_of {a : Int} (h : (Lit.int .i64 a).wf = true) : -9223372036854775808 ≤ a ∧ a ≤ 9223372036854775807 := by
  simpa [Lit.wf, IntKind.min, IntKind.max, IntKind.bits, IntKind.signed] using h
theorem u64_of {a : Int} (h : (Lit.int .u64 a).wf = true) : 0 ≤ a ∧ a ≤ 18446744073709551615 := by
  simpa [Lit.wf, IntKind.min, IntKind.max, IntKind.bits, IntKind.signed] using h
theorem u8_of {a : Int} (h : (Lit.int .u8 a).wf = true) : 0 ≤ a ∧ a ≤ 255 := by
  simpa [Lit.wf, IntKind.min, IntKind.max, IntKind.bits, IntKind.signed] using h

/-- A number's bytes, d of them ahead of the last. -/
def enc : Nat → Int → List Int
  | 0, n => [n % 256]
  | d + 1, n => (n % 128 + 128) :: enc d (n / 128)
theorem enc_length : ∀ (d : Nat) (n : Int), (enc d n).length = d + 1
  | 0, _ => rfl
  | d + 1, n => by simp [enc, enc_length d]
/-- How many bytes stand ahead of the last (f: at most so many). -/
def ex : Nat → Int → Nat
  | 0, _ => 0
  | f + 1, n => if n < 128 then 0 else ex f (n / 128) + 1
theorem p_succ (i : Nat) : ((128 ^ (i + 1) : Nat) : Int) = 128 * ((128 ^ i : Nat) : Int) := by rw [Nat.pow_succ]; omega
theorem ex_fuel : ∀ (f : Nat) (n : Int), n < ((128 ^ (f + 1) : Nat) : Int) → ex (f + 1) n = ex f n
  | 0, n, h => by
    have h' : n < 128 := by simpa using h
    simp [ex, h']
  | f + 1, n, h => by
    rw [p_succ] at h
    unfold ex
    by_cases hn : n < 128
    · rw [if_pos hn, if_pos hn]
    · rw [if_neg hn, if_neg hn, ex_fuel f (n / 128) (by omega)]
theorem ex_le : ∀ (f : Nat) (n : Int) (j : Nat), n < ((128 ^ (j + 1) : Nat) : Int) → ex f n ≤ j
  | 0, _, _, _ => by simp [ex]
  | f + 1, n, j, h => by
    unfold ex
    by_cases hn : n < 128
    · rw [if_pos hn]; omega
    · rw [if_neg hn]
      cases j with
      | zero => simp at h; omega
      | succ j =>
        rw [p_succ] at h
        have := ex_le f (n / 128) j (by omega)
        omega
theorem ex_lt : ∀ (f : Nat) (n : Int), n < ((128 ^ (f + 1) : Nat) : Int) → n < ((128 ^ (ex f n + 1) : Nat) : Int)
  | 0, _, h => h
  | f + 1, n, h => by
    unfold ex
    by_cases hn : n < 128
    · rw [if_pos hn]; simpa using hn
    · rw [if_neg hn]
      rw [p_succ] at h
      have h1 := ex_lt f (n / 128) (by omega)
      rw [p_succ (ex f (n / 128) + 1)]
      omega
/-- How many bytes stand ahead of a number's last one. -/
def e (n : Int) : Nat := ex 9 n
theorem top (n : Int) (h : n ≤ 18446744073709551615) : n < ((128 ^ (9 + 1) : Nat) : Int) := by
  have : ((128 ^ (9 + 1) : Nat) : Int) = 1180591620717411303424 := by decide
  omega
theorem e_small {n : Int} (h : n < 128) : e n = 0 := by simp [e, ex, h]
theorem e_big {n : Int} (h : 128 ≤ n) (h1 : n ≤ 18446744073709551615) : e n = e (n / 128) + 1 := by
  have h2 : ex 9 n = ex 8 (n / 128) + 1 := by rw [ex]; rw [if_neg (by omega)]
  have h3 : ((128 ^ (8 + 1) : Nat) : Int) = 9223372036854775808 := by decide
  unfold e
  rw [h2, ex_fuel 8 (n / 128) (by omega)]
theorem e_le (n : Int) (h : n ≤ 18446744073709551615) : e n ≤ 9 := ex_le 9 n 9 (top n h)
theorem e_lt (n : Int) (h : n ≤ 18446744073709551615) : n < ((128 ^ (e n + 1) : Nat) : Int) := ex_lt 9 n (top n h)

theorem or1 (x : Nat) : x ||| 1 = x + (1 - x % 2) := by
  rcases Nat.mod_two_eq_zero_or_one x with h | h
  · rw [nat_join 1 x 1 (by omega) (by omega)]; omega
  · have h1 : x = (x - 1) ||| 1 := by rw [nat_join 1 (x - 1) 1 (by omega) (by omega)]; omega
    rw [h1, Nat.or_assoc, Nat.or_self, ← h1]; omega
theorem bl_or1 (m : Nat) (h0 : 1 ≤ m) (h : m < 18446744073709551616) : Lib.bitLen (m ||| 1) = Lib.bitLen m := by
  have h1 := or1 m
  rw [Lib.bitLen_half (m ||| 1) (by omega) (by omega), Lib.bitLen_half m (by omega) (by omega)]
  have h2 : (m ||| 1) / 2 = m / 2 := by omega
  rw [h2]
theorem bl_low : ∀ n : Fin 128, 1 ≤ Lib.bitLen (n.val ||| 1) ∧ Lib.bitLen (n.val ||| 1) ≤ 7 := by decide +kernel
theorem size_nat : ∀ (f : Nat) (n : Nat), (n : Int) < ((128 ^ (f + 1) : Nat) : Int) → n < 18446744073709551616 → (Lib.bitLen (n ||| 1) + 6) / 7 = ex f (n : Int) + 1 := by
  intro f
  induction f with
  | zero =>
    intro n h _
    have h' : n < 128 := by simp at h; omega
    have := bl_low ⟨n, h'⟩
    simp only at this
    simp only [ex]
    omega
  | succ f ih =>
    intro n h h2
    rw [p_succ] at h
    unfold ex
    by_cases hn : (n : Int) < 128
    · rw [if_pos hn]
      have := bl_low ⟨n, by omega⟩
      simp only at this
      omega
    · rw [if_neg hn]
      have h1 := or1 n
      have hs := Lib.bitLen_shift 7 (n ||| 1) (by omega) (by omega)
      have h3 : (n ||| 1) / 2 ^ 7 = n / 128 := by omega
      rw [h3, ← bl_or1 (n / 128) (by omega) (by omega)] at hs
      have h4 := ih (n / 128) (by omega) (by omega)
      have h5 : ((n / 128 : Nat) : Int) = (n : Int) / 128 := by omega
      rw [h5] at h4
      omega
/-- What varint.Size computes. -/
theorem size_eq (n : Int) (h0 : 0 ≤ n) (h1 : n ≤ 18446744073709551615) :
    wrap64 (Int.tdiv (wrap64 ((wrap64 (((Lib.bitLen (Go.bits .or .u64 n 1).toNat : Nat) : Int) + 7)) - 1)) 7) = (e n : Int) + 1 ∧ 0 ≤ Go.bits .or .u64 n 1 ∧ Go.bits .or .u64 n 1 ≤ 18446744073709551615 := by
  have h2 : Go.bits .or .u64 n 1 = ((n.toNat ||| 1 : Nat) : Int) := u64_or n 1 h0 (by omega) (by omega) (by omega)
  have h3 := or1 n.toNat
  have h4 := size_nat 9 n.toNat (by have := top n h1; omega) (by omega)
  have h6 : ((n.toNat : Nat) : Int) = n := by omega
  rw [h6] at h4
  have h5 : ex 9 n ≤ 9 := e_le n h1
  rw [h2, Int.toNat_natCast]
  unfold e
  have hb : Lib.bitLen (n.toNat ||| 1) ≤ 70 := by omega
  refine ⟨?_, by omega, by omega⟩
  generalize Lib.bitLen (n.toNat ||| 1) = b at *
  have w1 : wrap64 ((b : Int) + 7) = (b : Int) + 7 := by unfold wrap64; omega
  have w2 : wrap64 ((b : Int) + 7 - 1) = (b : Int) + 6 := by unfold wrap64; omega
  rw [w1, w2, Int.tdiv_eq_ediv_of_nonneg (by omega)]
  have w3 : ((b : Int) + 6) / 7 = (ex 9 n : Int) + 1 := by omega
  rw [w3]
  unfold wrap64
  omega

theorem or128 : ∀ y : Fin 256, (y.val ||| 128) = y.val % 128 + 128 := by decide +kernel
theorem mid_byte (x : Int) : Go.bits .or .u8 (x % 256) 128 = x % 128 + 128 := by
  rw [u8_or _ _ (by omega) (by omega) (by omega) (by omega)]
  have h := or128 ⟨(x % 256).toNat, by omega⟩
  have h1 : (128 : Int).toNat = 128 := by decide
  rw [h1]
  simp only at h
  omega
theorem low7 (c : Int) (h0 : 0 ≤ c) (h1 : c ≤ 255) : Go.bits .andNot .u8 c 128 = c % 128 := by
  rw [u8_andNot _ _ h0 (by omega) (by omega) (by omega)]
  have h2 : 255 - (128 : Int).toNat = 127 := by decide
  rw [h2, nat_mask7]
  omega
theorem p_two (i : Nat) : 2 ^ (7 * i) = 128 ^ i := by rw [Nat.pow_mul]
theorem p_le {i j : Nat} (h : i ≤ j) : ((128 ^ i : Nat) : Int) ≤ ((128 ^ j : Nat) : Int) := Int.ofNat_le.2 (Nat.pow_le_pow_right (by omega) h)
theorem p_pos (i : Nat) : (1 : Int) ≤ ((128 ^ i : Nat) : Int) := by have := Nat.pow_pos (n := i) (show 0 < 128 by omega); omega
theorem p9 : ((128 ^ 9 : Nat) : Int) = 9223372036854775808 := by decide
theorem p8 : ((128 ^ 8 : Nat) : Int) = 72057594037927936 := by decide
/-- A group's place never passes 64 bits. -/
theorem part_lt (y : Int) (i : Nat) (h0 : 0 ≤ y) (h1 : y ≤ 127) (hi : i ≤ 9) (h9 : i = 9 → y ≤ 1) : 0 ≤ y * ((128 ^ i : Nat) : Int) ∧ y * ((128 ^ i : Nat) : Int) ≤ 127 * ((128 ^ i : Nat) : Int) ∧ y * ((128 ^ i : Nat) : Int) ≤ 9223372036854775808 := by
  have hp := p_pos i
  refine ⟨Int.mul_nonneg h0 (by omega), Int.mul_le_mul_of_nonneg_right h1 (by omega), ?_⟩
  by_cases h : i = 9
  · subst h
    have := Int.mul_le_mul_of_nonneg_right (h9 rfl) (show (0 : Int) ≤ ((128 ^ 9 : Nat) : Int) by omega)
    rw [p9] at this ⊢
    omega
  · have h2 := p_le (show i ≤ 8 by omega)
    rw [p8] at h2
    have := Int.mul_le_mul_of_nonneg_right h1 (show (0 : Int) ≤ ((128 ^ i : Nat) : Int) by omega)
    omega
theorem shl7 (y : Int) (i : Nat) (h0 : 0 ≤ y) (h1 : y ≤ 127) (hi : i ≤ 9) (h9 : i = 9 → y ≤ 1) : shl .u64 y (wrap64 (7 * (i : Int))) = y * ((128 ^ i : Nat) : Int) := by
  have h := part_lt y i h0 h1 hi h9
  have hw : wrap64 (7 * (i : Int)) = ((7 * i : Nat) : Int) := by unfold wrap64; omega
  unfold shl
  rw [hw, Int.toNat_natCast, Nat.min_eq_left (show 7 * i ≤ IntKind.u64.bits by have : IntKind.u64.bits = 64 := rfl; omega), IntKind.wrap_u64]
  have h2 : (2 : Int) ^ (7 * i) = ((128 ^ i : Nat) : Int) := by rw [← p_two]; exact (Int.natCast_pow 2 (7 * i)).symm
  rw [h2]
  omega
theorem or_part (a y : Int) (i : Nat) (a0 : 0 ≤ a) (a1 : a < ((128 ^ i : Nat) : Int)) (h0 : 0 ≤ y) (h1 : y ≤ 127) (hi : i ≤ 9) (h9 : i = 9 → y ≤ 1) :
    Go.bits .or .u64 a (y * ((128 ^ i : Nat) : Int)) = a + y * ((128 ^ i : Nat) : Int) := by
  have h := part_lt y i h0 h1 hi h9
  have h2 := p_le hi
  rw [p9] at h2
  rw [u64_or _ _ a0 (by omega) h.1 (by omega), Nat.or_comm]
  have h3 : (y * ((128 ^ i : Nat) : Int)).toNat = y.toNat * 128 ^ i := by
    obtain ⟨m, rfl⟩ := Int.eq_ofNat_of_zero_le h0
    rw [← Int.natCast_mul, Int.toNat_natCast, Int.toNat_natCast]
  rw [nat_join (7 * i) _ _ (by rw [h3, p_two]; exact Nat.mul_mod_left _ _) (by rw [p_two]; omega)]
  omega

/-- What bytes are read as: the number, and how many bytes it has; (0, 0): none. -/
def dec : List Int → Nat → Int → Int × Int
  | [], _, _ => (0, 0)
  | c :: t, i, a => if i = 10 ∨ (i = 9 ∧ c > 1) then (0, 0) else if c < 128 then (a + c % 128 * ((128 ^ i : Nat) : Int), (i : Int) + 1) else dec t (i + 1) (a + c % 128 * ((128 ^ i : Nat) : Int))
theorem dec_enc : ∀ (d : Nat) (n : Int) (i : Nat) (a : Int) (rest : List Int), 0 ≤ n → n < ((128 ^ (d + 1) : Nat) : Int) → i + d ≤ 9 → (i + d = 9 → n < 2 * ((128 ^ d : Nat) : Int)) →
    dec (enc d n ++ rest) i a = (a + n * ((128 ^ i : Nat) : Int), (i : Int) + d + 1)
  | 0, n, i, a, rest, h0, h1, hi, h9 => by
    have h1' : n < 128 := by simpa using h1
    have h9' : i = 9 → n < 2 := fun h => by have := h9 h; simpa using this
    have e1 : n % 256 = n := by omega
    have e2 : n % 128 = n := by omega
    simp only [enc, e1, List.singleton_append, dec]
    rw [if_neg (by omega), if_pos h1', e2]
    simp
  | d + 1, n, i, a, rest, h0, h1, hi, h9 => by
    rw [p_succ] at h1
    simp only [enc, List.cons_append, dec]
    rw [if_neg (by omega), if_neg (by omega)]
    have e2 : (n % 128 + 128) % 128 = n % 128 := by omega
    rw [e2, dec_enc d (n / 128) (i + 1) _ rest (by omega) (by omega) (by omega) (fun h => by have := h9 (by omega); rw [p_succ] at this; omega), p_succ]
    have e3 : n * ((128 ^ i : Nat) : Int) = n % 128 * ((128 ^ i : Nat) : Int) + n / 128 * (128 * ((128 ^ i : Nat) : Int)) := by
      rw [← Int.mul_assoc, ← Int.add_mul, Int.mul_comm (n / 128) 128]
      congr 1
      omega
    rw [e3]
    refine Prod.ext ?_ ?_
    · simp only; omega
    · simp only; omega
theorem dec_spec : ∀ (l : List Int) (i : Nat) (a : Int), (∀ x ∈ l, 0 ≤ x ∧ x ≤ 255) → 0 ≤ a → a < ((128 ^ i : Nat) : Int) → i ≤ 10 → dec l i a = (0, 0) ∨
    ∃ s : Nat, (dec l i a).2 = s ∧ i < s ∧ s ≤ 10 ∧ s ≤ i + l.length ∧ 0 ≤ (dec l i a).1 ∧ (dec l i a).1 < ((128 ^ s : Nat) : Int) ∧ (dec l i a).1 ≤ 18446744073709551615
  | [], _, _, _, _, _, _ => .inl rfl
  | c :: t, i, a, hb, a0, a1, hi => by
    have hc := hb c (by simp)
    simp only [dec]
    by_cases h : i = 10 ∨ (i = 9 ∧ c > 1)
    · rw [if_pos h]; exact .inl rfl
    · rw [if_neg h]
      have hp := part_lt (c % 128) i (by omega) (by omega) (by omega) (fun h9 => by omega)
      have h2 := p_le (show i ≤ 9 by omega)
      rw [p9] at h2
      by_cases hl : c < 128
      · rw [if_pos hl]
        refine .inr ⟨i + 1, by simp only; omega, by omega, by omega, by simp only [List.length_cons]; omega, by simp only; omega, ?_, by simp only; omega⟩
        rw [p_succ]
        simp only
        omega
      · rw [if_neg hl]
        have h9 : i ≠ 9 := by omega
        rcases dec_spec t (i + 1) (a + c % 128 * ((128 ^ i : Nat) : Int)) (fun x hx => hb x (by simp [hx])) (by omega) (by rw [p_succ]; omega) (by omega) with h | ⟨s, h3, h4, h5, h6, h7⟩
        · exact .inl h
        · exact .inr ⟨s, h3, by omega, h5, by simp only [List.length_cons]; omega, h7⟩
/-- What all of whatever bytes are read as. -/
def all : Nat → List Int → Option (List Int)
  | _, [] => some []
  | 0, _ :: _ => none
  | f + 1, c :: t => if (dec (c :: t) 0 0).2 = 0 then none else (all f ((c :: t).drop (dec (c :: t) 0 0).2.toNat)).map ((dec (c :: t) 0 0).1 :: ·)
theorem dec_put (n : Int) (h0 : 0 ≤ n) (h1 : n ≤ 18446744073709551615) (rest : List Int) : dec (enc (e n) n ++ rest) 0 0 = (n, (e n : Int) + 1) := by
  have h := dec_enc (e n) n 0 0 rest h0 (e_lt n h1) (by have := e_le n h1; omega) (fun h => by
    rw [Nat.zero_add] at h
    rw [h, p9]
    omega)
  simpa using h
theorem rd_drop (l : List Int) (i : Nat) (h : i < l.length) : l.drop i = rd l (i : Int) :: l.drop (i + 1) := by
  rw [List.drop_eq_getElem_cons h]
  simp [rd, List.getD_eq_getElem?_getD, List.getElem?_eq_getElem h]
theorem rd_mem (l : List Int) (i : Nat) (h : i < l.length) : rd l (i : Int) ∈ l := by
  simp [rd, List.getD_eq_getElem?_getD, List.getElem?_eq_getElem h]
end Go.Proofs.Ytfbmabhdjliohaa.Var

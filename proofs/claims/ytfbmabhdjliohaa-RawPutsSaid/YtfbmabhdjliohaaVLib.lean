/- What the printed functions of numbers, tags and bytes answer, told by the plain functions of Var; conditions stand at each. -/
import Derived.Test.YtfbmabhdjliohaaPLibx
import Derived.Test.YtfbmabhdjliohaaVar
import Derived.Test.YtfbmabhdjliohaaMFix
import Derived.Laws.BitsAllLaws
namespace Go.Proofs.Ytfbmabhdjliohaa.VLib
open Go.RowKit Go.Proofs.Ytfbmabhdjliohaa.M Go.Proofs.Ytfbmabhdjliohaa.PLib Go.Proofs.YtfbmabhdjliohaaW.PrintWords Go.Proofs.YtfbmabhdjliohaaW.PrintLast Go.Proofs.YtfbmabhdjliohaaW.PrintMore Go.Proofs.Ytfbmabhdjliohaa.Var
theorem size_f (n : Int) (h0 : 0 ≤ n) (h1 : n ≤ 18446744073709551615) : varint_Size.f n = some ((e n : Int) + 1) := by
  obtain ⟨h2, h3, h4⟩ := size_eq n h0 h1
  unfold varint_Size.f bits_Len64.f
  rw [if_pos ⟨h3, h4⟩]
  simp only [Option.bind_some]
  rw [h2]
theorem putl : ∀ (d k : Nat) (x : Int) (acc : List Int) (x7 x8 : Int), d < k → x7 - x8 = d → 0 ≤ x8 → x7 ≤ 1000 → acc.length + d + 1 < 140737488355328 → varint_Put.l0 k x acc x7 x8 = some (acc ++ enc d x)
  | 0, k, x, acc, x7, x8, hk, hd, h0, h1, hl => by
    obtain ⟨k, rfl⟩ : ∃ m, k = m + 1 := ⟨k - 1, by omega⟩
    simp only [varint_Put.l0]
    rw [if_neg (by omega), if_pos (by omega)]
    rfl
  | d + 1, k, x, acc, x7, x8, hk, hd, h0, h1, hl => by
    obtain ⟨k, rfl⟩ : ∃ m, k = m + 1 := ⟨k - 1, by omega⟩
    have hw : wrap64 (x8 + 1) = x8 + 1 := by unfold wrap64; omega
    simp only [varint_Put.l0]
    rw [if_pos (by omega), if_pos (by omega), mid_byte, hw, putl d k _ _ x7 (x8 + 1) (by omega) (by omega) (by omega) h1 (by simp; omega)]
    simp [enc]
theorem put_f (k : Nat) (n : Int) (hk : 10 < k) (h0 : 0 ≤ n) (h1 : n ≤ 18446744073709551615) : varint_Put.f k n = some (enc (e n) n) := by
  unfold varint_Put.f
  rw [size_f n h0 h1]
  have he := e_le n h1
  have hw : wrap64 ((e n : Int) + 1 - 1) = e n := by unfold wrap64; omega
  simp only [Option.bind_some]
  rw [hw, putl (e n) k n [] (e n : Int) 0 (by omega) (by omega) (by omega) (by omega) (by simp; omega)]
  rfl
theorem getl : ∀ (d k i : Nat) (acc : Int) (l : List Int), (∀ x ∈ l, 0 ≤ x ∧ x ≤ 255) → l.length = i + d → 2 * d < k → 0 ≤ acc → acc < ((128 ^ i : Nat) : Int) → i ≤ 10 → l.length ≤ 140737488359000 →
    varint_Get.l0 k acc l (l.length : Int) (i : Int) = some (dec (l.drop i) i acc)
  | 0, k, i, acc, l, _, hl, hk, _, _, _, _ => by
    obtain ⟨k, rfl⟩ : ∃ m, k = m + 1 := ⟨k - 1, by omega⟩
    simp only [varint_Get.l0]
    rw [if_neg (by omega), List.drop_of_length_le (by omega)]
    rfl
  | d + 1, k, i, acc, l, hb, hl, hk, a0, a1, hi, hlen => by
    obtain ⟨k, rfl⟩ : ∃ m, k = m + 2 := ⟨k - 2, by omega⟩
    have hc := hb _ (rd_mem l i (by omega))
    have hr := rd_drop l i (by omega)
    have step : ¬ (i = 10 ∨ (i = 9 ∧ rd l (i : Int) > 1)) → varint_Get.j1 (k + 1) acc (i : Int) (rd l (i : Int)) l (l.length : Int) (i : Int) false = some (dec (l.drop i) i acc) := by
      intro hn
      have hw : wrap64 ((i : Int) + 1) = (i : Int) + 1 := by unfold wrap64; omega
      have hw7 : wrap64 (7 * (i : Int)) = 7 * (i : Int) := by unfold wrap64; omega
      have h7 : (0 : Int) ≤ wrap64 (7 * (i : Int)) := by rw [hw7]; omega
      have hu : IntKind.u64.wrap (rd l (i : Int) % 128) = rd l (i : Int) % 128 := by rw [IntKind.wrap_u64]; omega
      simp only [varint_Get.j1]
      rw [if_neg (by decide), if_pos h7, low7 _ hc.1 hc.2, hu, hw, shl7 _ i (by omega) (by omega) (by omega) (fun h => by omega), or_part acc _ i a0 a1 (by omega) (by omega) (by omega) (fun h => by omega), hr]
      simp only [dec]
      rw [if_neg hn]
      by_cases h1 : rd l (i : Int) < 128
      · rw [if_pos h1, if_pos h1]
      · rw [if_neg h1, if_neg h1]
        have hp := part_lt (rd l (i : Int) % 128) i (by omega) (by omega) (by omega) (fun h => by omega)
        have h8 := getl d k (i + 1) (acc + rd l (i : Int) % 128 * ((128 ^ i : Nat) : Int)) l hb (by omega) (by omega) (by omega) (by rw [p_succ]; omega) (by omega) hlen
        have hcast : ((i + 1 : Nat) : Int) = (i : Int) + 1 := by omega
        rw [hcast] at h8
        exact h8
    have stop : (i = 10 ∨ (i = 9 ∧ rd l (i : Int) > 1)) → varint_Get.j1 (k + 1) acc (i : Int) (rd l (i : Int)) l (l.length : Int) (i : Int) true = some (dec (l.drop i) i acc) := by
      intro hn
      simp only [varint_Get.j1]
      rw [if_pos trivial, hr]
      simp only [dec]
      rw [if_pos hn]
    rw [varint_Get.l0]
    rw [if_pos (by omega), if_pos (by omega), if_pos (by omega)]
    by_cases h10 : i = 10
    · rw [if_pos (by omega)]; exact stop (.inl h10)
    · rw [if_neg (by omega)]
      by_cases h9 : i = 9
      · rw [if_pos (by omega)]
        by_cases h1 : rd l (i : Int) > 1
        · rw [decide_eq_true h1]; exact stop (.inr ⟨h9, h1⟩)
        · rw [decide_eq_false h1]; exact step (by omega)
      · rw [if_neg (by omega)]; exact step (by omega)
theorem get_f (k : Nat) (l : List Int) (hb : ∀ x ∈ l, 0 ≤ x ∧ x ≤ 255) (hk : 2 * l.length < k) (hl : l.length ≤ 140737488359000) : varint_Get.f k l = some (dec l 0 0) := by
  unfold varint_Get.f
  exact getl l.length k 0 0 l hb (by omega) hk (by omega) (by decide) (by omega) hl
theorem bytes_self (l : List Int) : ecdysisref01_Bytes.f l l = some true := by
  unfold ecdysisref01_Bytes.f
  rw [beq_self_eq_true]
theorem refputl : ∀ (f k : Nat) (x : Int) (acc : List Int), f < k → 0 ≤ x → x ≤ 18446744073709551615 → e x ≤ f → acc.length + f + 1 < 140737488355328 → ecdysisref01_Put.l0 k x acc = some (acc ++ enc (e x) x)
  | 0, k, x, acc, hk, h0, h1, he, hl => by
    obtain ⟨k, rfl⟩ : ∃ m, k = m + 1 := ⟨k - 1, by omega⟩
    have hx : ¬ x ≥ 128 := fun h => by have := e_big h h1; omega
    have he0 : e x = 0 := by omega
    simp only [ecdysisref01_Put.l0]
    rw [if_neg hx, if_pos (by omega), he0]
    rfl
  | f + 1, k, x, acc, hk, h0, h1, he, hl => by
    obtain ⟨k, rfl⟩ : ∃ m, k = m + 1 := ⟨k - 1, by omega⟩
    simp only [ecdysisref01_Put.l0]
    by_cases hx : x ≥ 128
    · have h2 := e_big hx h1
      have e1 : IntKind.u64.wrap (Int.tdiv x 128) = x / 128 := by rw [IntKind.wrap_u64, Int.tdiv_eq_ediv_of_nonneg h0]; omega
      have e2 : (Int.tmod x 128 + 128) % 256 = x % 128 + 128 := by rw [Int.tmod_eq_emod_of_nonneg h0]; omega
      rw [if_pos hx, if_pos (by omega), e1, e2, refputl f k (x / 128) _ (by omega) (by omega) (by omega) (by omega) (by simp; omega), h2]
      simp [enc]
    · rw [if_neg hx, if_pos (by omega), e_small (by omega)]
      rfl
theorem refput_f (k : Nat) (n : Int) (hk : 10 < k) (h0 : 0 ≤ n) (h1 : n ≤ 18446744073709551615) : ecdysisref01_Put.f k n = some (enc (e n) n) := by
  unfold ecdysisref01_Put.f
  rw [refputl 9 k n [] (by omega) h0 h1 (e_le n h1) (by simp)]
  rfl
theorem refgetl : ∀ (d k i : Nat) (acc u : Int) (l : List Int), (∀ x ∈ l, 0 ≤ x ∧ x ≤ 255) → l.length = i + d → 3 * d + 2 ≤ k → 0 ≤ acc → acc < ((128 ^ i : Nat) : Int) → i ≤ 10 → (i ≤ 9 → u = ((128 ^ i : Nat) : Int)) → l.length ≤ 140737488359000 →
    ecdysisref01_Get.l0 k l acc u (i : Int) = some (dec (l.drop i) i acc)
  | 0, k, i, acc, u, l, _, hl, hk, _, _, _, _, _ => by
    obtain ⟨k, rfl⟩ : ∃ m, k = m + 2 := ⟨k - 2, by omega⟩
    rw [ecdysisref01_Get.l0]
    rw [if_neg (by omega), List.drop_of_length_le (by omega)]
    simp only [ecdysisref01_Get.j1]
    rfl
  | d + 1, k, i, acc, u, l, hb, hl, hk, a0, a1, hi, hu, hlen => by
    obtain ⟨k, rfl⟩ : ∃ m, k = m + 3 := ⟨k - 3, by omega⟩
    have hc := hb _ (rd_mem l i (by omega))
    have hr := rd_drop l i (by omega)
    rw [ecdysisref01_Get.l0]
    rw [if_pos (by omega), hr]
    simp only [dec]
    by_cases h10 : i = 10
    · rw [decide_eq_false (by omega), if_pos (.inl h10)]
      rw [ecdysisref01_Get.j1]
      rw [if_neg (by decide)]
    · rw [decide_eq_true (by omega), ecdysisref01_Get.j1, if_pos rfl]
      have hu' := hu (by omega)
      subst hu'
      have step : ¬ (i = 10 ∨ (i = 9 ∧ rd l (i : Int) > 1)) → ecdysisref01_Get.j2 (k + 1) l acc ((128 ^ i : Nat) : Int) (i : Int) false = some (if rd l (i : Int) < 128 then (acc + rd l (i : Int) % 128 * ((128 ^ i : Nat) : Int), (i : Int) + 1) else dec (l.drop (i + 1)) (i + 1) (acc + rd l (i : Int) % 128 * ((128 ^ i : Nat) : Int))) := by
        intro hn
        have hp := part_lt (rd l (i : Int) % 128) i (by omega) (by omega) (by omega) (fun h => by omega)
        have h2 := p_le (show i ≤ 9 by omega)
        rw [p9] at h2
        have hw : wrap64 ((i : Int) + 1) = (i : Int) + 1 := by unfold wrap64; omega
        have e1 : IntKind.u64.wrap (Int.tmod (rd l (i : Int)) 128) = rd l (i : Int) % 128 := by rw [IntKind.wrap_u64, Int.tmod_eq_emod_of_nonneg hc.1]; omega
        have e2 : IntKind.u64.wrap (rd l (i : Int) % 128 * ((128 ^ i : Nat) : Int)) = rd l (i : Int) % 128 * ((128 ^ i : Nat) : Int) := by rw [IntKind.wrap_u64]; omega
        have e3 : IntKind.u64.wrap (acc + rd l (i : Int) % 128 * ((128 ^ i : Nat) : Int)) = acc + rd l (i : Int) % 128 * ((128 ^ i : Nat) : Int) := by rw [IntKind.wrap_u64]; omega
        simp only [ecdysisref01_Get.j2]
        rw [if_neg (by decide), if_pos (by omega), if_pos (by omega), e1, e2, e3, hw]
        by_cases h1 : rd l (i : Int) < 128
        · rw [if_pos h1, if_pos h1]
        · rw [if_neg h1, if_neg h1]
          have h8 := refgetl d k (i + 1) (acc + rd l (i : Int) % 128 * ((128 ^ i : Nat) : Int)) (IntKind.u64.wrap (((128 ^ i : Nat) : Int) * 128)) l hb (by omega) (by omega) (by omega) (by rw [p_succ]; omega) (by omega)
            (fun h => by
              have h3 := p_le (show i ≤ 8 by omega)
              rw [p8] at h3
              have := p_pos i
              rw [IntKind.wrap_u64, p_succ]; omega) hlen
          have hcast : ((i + 1 : Nat) : Int) = (i : Int) + 1 := by omega
          rw [hcast] at h8
          exact h8
      by_cases h9 : i = 9
      · rw [if_pos (by omega), if_pos (by omega), if_pos (by omega)]
        by_cases h1 : rd l (i : Int) > 1
        · rw [decide_eq_true h1, if_pos (.inr ⟨h9, h1⟩), ecdysisref01_Get.j2, if_pos rfl]
        · rw [decide_eq_false h1, step (by omega), if_neg (show ¬ (i = 10 ∨ (i = 9 ∧ rd l (i : Int) > 1)) by omega)]
      · rw [if_neg (by omega), step (by omega), if_neg (show ¬ (i = 10 ∨ (i = 9 ∧ rd l (i : Int) > 1)) by omega)]
theorem refget_f (k : Nat) (l : List Int) (hb : ∀ x ∈ l, 0 ≤ x ∧ x ≤ 255) (hk : 3 * l.length + 2 ≤ k) (hl : l.length ≤ 140737488359000) : ecdysisref01_Get.f k l = some (dec l 0 0) := by
  unfold ecdysisref01_Get.f
  exact refgetl l.length k 0 0 1 l hb (by omega) hk (by omega) (by decide) (by omega) (fun _ => by decide) hl
theorem enc_byte : ∀ (d : Nat) (n : Int), ∀ x ∈ enc d n, 0 ≤ x ∧ x ≤ 255
  | 0, n, x, hx => by simp [enc] at hx; omega
  | d + 1, n, x, hx => by
    simp [enc] at hx
    rcases hx with h | h
    · omega
    · exact enc_byte d _ x h
theorem or8 (x w : Int) (hx0 : 0 ≤ x) (hx : x ≤ 536870911) (h0 : 0 ≤ w) (h1 : w < 8) : Go.bits .or .u64 (x * 8) w = x * 8 + w := by
  rw [u64_or _ _ (by omega) (by omega) (by omega) (by omega), nat_join 3 _ _ (by omega) (by omega)]
  omega
theorem right_eq (k : Nat) (a b : Int) : tag_Right.f (k + 1) a b = some (decide (1 ≤ a ∧ a ≤ 536870911 ∧ (b = 0 ∨ b = 1 ∨ b = 2 ∨ b = 5))) := by
  unfold tag_Right.f
  simp only [tag_Right.j0, tag_number.f]
  by_cases h0 : b = 0
  · subst h0; by_cases ha : 1 ≤ a <;> simp [ha]
  · by_cases h1 : b = 1
    · subst h1; by_cases ha : 1 ≤ a <;> simp [ha]
    · by_cases h2 : b = 2
      · subst h2; by_cases ha : 1 ≤ a <;> simp [ha]
      · by_cases h5 : b = 5
        · subst h5; by_cases ha : 1 ≤ a <;> simp [ha]
        · simp [h0, h1, h2, h5]
theorem of_yes (k : Nat) (a b : Int) (h : 1 ≤ a ∧ a ≤ 536870911 ∧ (b = 0 ∨ b = 1 ∨ b = 2 ∨ b = 5)) : tag_Of.f (k + 1) a b = some (a * 8 + b, true) := by
  unfold tag_Of.f
  rw [right_eq]
  simp only [Option.bind_some, decide_eq_true h, if_true]
  have e1 : IntKind.u64.wrap a = a := by rw [IntKind.wrap_u64]; omega
  have e2 : IntKind.u64.wrap (a * 8) = a * 8 := by rw [IntKind.wrap_u64]; omega
  have e3 : IntKind.u64.wrap b = b := by rw [IntKind.wrap_u64]; omega
  rw [e1, e2, e3, or8 a b (by omega) (by omega) (by omega) (by omega)]
theorem of_no (k : Nat) (a b : Int) (h : ¬ (1 ≤ a ∧ a ≤ 536870911 ∧ (b = 0 ∨ b = 1 ∨ b = 2 ∨ b = 5))) : tag_Of.f (k + 1) a b = some (0, false) := by
  unfold tag_Of.f
  rw [right_eq]
  simp only [Option.bind_some, decide_eq_false h]
  simp
theorem split_eq (k : Nat) (u : Int) (h0 : 0 ≤ u) (h1 : u ≤ 18446744073709551615) :
    tag_Split.f (k + 1) u = some (if u < 4294967296 ∧ 1 ≤ u / 8 ∧ (u % 8 = 0 ∨ u % 8 = 1 ∨ u % 8 = 2 ∨ u % 8 = 5) then (u / 8, u % 8, true) else (0, 0, false)) := by
  unfold tag_Split.f
  by_cases h : u ≥ 4294967296
  · rw [if_pos h, if_neg (by omega)]
  · have e1 : wrap64 (u / 8) = u / 8 := by unfold wrap64; omega
    have e2 : Int.tmod u 8 = u % 8 := Int.tmod_eq_emod_of_nonneg h0
    have e3 : wrap64 (u % 8) = u % 8 := by unfold wrap64; omega
    rw [if_neg h, e1, e2, e3, right_eq]
    simp only [Option.bind_some]
    by_cases hc : 1 ≤ u / 8 ∧ u / 8 ≤ 536870911 ∧ (u % 8 = 0 ∨ u % 8 = 1 ∨ u % 8 = 2 ∨ u % 8 = 5)
    · rw [decide_eq_true hc, if_pos rfl, if_pos (by omega)]
    · rw [decide_eq_false hc, if_neg (by simp), if_neg (by omega)]
theorem refright (a b : Int) : ecdysisref04_Right.f a b = some (decide (1 ≤ a ∧ a ≤ 536870911 ∧ (b = 0 ∨ b = 1 ∨ b = 2 ∨ b = 5))) := by
  unfold ecdysisref04_Right.f
  by_cases ha : a ≥ 1
  · by_cases ha2 : a ≤ 536870911
    · by_cases h0 : b = 0
      · simp [ha, ha2, h0]
      · by_cases h1 : b = 1
        · simp [ha, ha2, h1]
        · by_cases h2 : b = 2
          · simp [ha, ha2, h2]
          · rw [if_pos ha, if_pos ha2, if_neg h0, if_neg h1, if_neg h2]
            congr 1
            by_cases h5 : b = 5
            · rw [decide_eq_true (by omega)]; simp [h5]
            · rw [decide_eq_false (by omega)]; simp [h5]
    · rw [if_pos ha, if_neg ha2, decide_eq_false (by omega)]
  · rw [if_neg ha, decide_eq_false (by omega)]
theorem refsplit (u : Int) (h0 : 0 ≤ u) (h1 : u ≤ 18446744073709551615) :
    ecdysisref04_Split.f u = some (if u < 4294967296 ∧ 1 ≤ u / 8 ∧ (u % 8 = 0 ∨ u % 8 = 1 ∨ u % 8 = 2 ∨ u % 8 = 5) then (u / 8, u % 8, true) else (0, 0, false)) := by
  unfold ecdysisref04_Split.f
  have e1 : IntKind.u64.wrap (Int.tdiv u 8) = u / 8 := by rw [IntKind.wrap_u64, Int.tdiv_eq_ediv_of_nonneg h0]; omega
  have e2 : Int.tmod u 8 = u % 8 := Int.tmod_eq_emod_of_nonneg h0
  have e3 : wrap64 (u % 8) = u % 8 := by unfold wrap64; omega
  rw [e1, e2, e3]
  by_cases h : u / 8 > 536870911
  · rw [if_pos h, if_neg (by omega)]
  · have e4 : wrap64 (u / 8) = u / 8 := by unfold wrap64; omega
    rw [if_neg h, e4, refright]
    simp only [Option.bind_some]
    by_cases hc : 1 ≤ u / 8 ∧ u / 8 ≤ 536870911 ∧ (u % 8 = 0 ∨ u % 8 = 1 ∨ u % 8 = 2 ∨ u % 8 = 5)
    · rw [decide_eq_true hc, if_pos rfl, if_pos (by omega)]
    · rw [decide_eq_false hc, if_neg (by simp), if_neg (by omega)]
def down (l : List Int) : Nat → Int → Int
  | 0, a => a
  | i + 1, a => down l i (a * 256 + rd l (i : Int))
theorem q_le {i j : Nat} (h : i ≤ j) : ((256 ^ i : Nat) : Int) ≤ ((256 ^ j : Nat) : Int) := Int.ofNat_le.2 (Nat.pow_le_pow_right (by omega) h)
theorem fixgetl (l : List Int) (hb : ∀ x ∈ l, 0 ≤ x ∧ x ≤ 255) : ∀ (i k : Nat) (a : Int), i ≤ l.length → i < k → i ≤ 8 → 0 ≤ a → a < ((256 ^ (8 - i) : Nat) : Int) → ecdysisref03_Get.l0 k l a ((i : Int) - 1) = some (down l i a, true)
  | 0, k, a, _, hk, _, _, _ => by
    obtain ⟨k, rfl⟩ : ∃ m, k = m + 1 := ⟨k - 1, by omega⟩
    simp only [ecdysisref03_Get.l0]
    rw [if_neg (by omega)]
    rfl
  | i + 1, k, a, hl, hk, h8, a0, a1 => by
    obtain ⟨k, rfl⟩ : ∃ m, k = m + 1 := ⟨k - 1, by omega⟩
    have hm : rd l (i : Int) ∈ l := by simp [rd, List.getD_eq_getElem?_getD, List.getElem?_eq_getElem (show i < l.length by omega)]
    have hc := hb _ hm
    have h7 := q_le (show 8 - (i + 1) ≤ 7 by omega)
    have e7 : ((256 ^ 7 : Nat) : Int) = 72057594037927936 := by decide
    rw [e7] at h7
    have hi : (((i + 1 : Nat) : Int) - 1) = (i : Int) := by omega
    have hw : wrap64 ((i : Int) - 1) = (i : Int) - 1 := by unfold wrap64; omega
    have es : IntKind.u64.wrap (IntKind.u64.wrap (a * 256) + IntKind.u64.wrap (rd l (i : Int))) = a * 256 + rd l (i : Int) := by simp only [IntKind.wrap_u64]; omega
    rw [hi]
    simp only [ecdysisref03_Get.l0]
    rw [if_pos (by omega), if_pos (by omega), if_pos (by omega), es, hw]
    have hp : 8 - i = (8 - (i + 1)) + 1 := by omega
    exact fixgetl l hb i k _ (by omega) (by omega) (by omega) (by omega) (by rw [hp, Nat.pow_succ]; omega)
def low : Nat → Int → List Int
  | 0, _ => []
  | d + 1, n => n % 256 :: low d (n / 256)
theorem fixputl (d : Nat) : ∀ (k : Nat) (n s : Int) (acc : List Int) (i : Nat), s = (i : Int) + d → d < k → i + d ≤ 100 → 0 ≤ n → n ≤ 18446744073709551615 → acc.length + d + 1 < 140737488355328 → ecdysisref03_Put.l0 k n s acc (i : Int) = some (acc ++ low d n) := by
  induction d with
  | zero =>
    intro k n s acc i hs hk _ _ _ _
    obtain ⟨k, rfl⟩ : ∃ m, k = m + 1 := ⟨k - 1, by omega⟩
    simp only [ecdysisref03_Put.l0]
    rw [if_neg (by omega)]
    simp [low]
  | succ d ih =>
    intro k n s acc i hs hk hi n0 n1 hl
    have q0 : i + 1 + d ≤ 100 := by clear hl n1 n0 hs hk; omega
    have q5 : acc.length < 140737488355328 := by clear n1 n0 hs hk hi; omega
    have q6 : (acc ++ [n % 256]).length + d + 1 < 140737488355328 := by
      rw [List.length_append, List.length_singleton]
      clear n1 n0 hs hk hi; omega
    obtain ⟨k, rfl⟩ : ∃ m, k = m + 1 := ⟨k - 1, by omega⟩
    have q1 : 0 ≤ n / 256 := by omega
    have q2 : n / 256 ≤ 18446744073709551615 := by omega
    have q3 : s = ((i + 1 : Nat) : Int) + d := by omega
    have q4 : (i : Int) < s := by omega
    have e1 : IntKind.u64.wrap (Int.tdiv n 256) = n / 256 := by rw [IntKind.wrap_u64, Int.tdiv_eq_ediv_of_nonneg n0]; omega
    have e2 : (Int.tmod n 256) % 256 = n % 256 := by rw [Int.tmod_eq_emod_of_nonneg n0]; omega
    have e3 : wrap64 ((i : Int) + 1) = ((i + 1 : Nat) : Int) := by unfold wrap64; omega
    simp only [ecdysisref03_Put.l0]
    rw [if_pos q4, if_pos q5, e1, e2, e3, ih k (n / 256) s _ (i + 1) q3 (Nat.lt_of_succ_lt_succ hk) q0 q1 q2 q6]
    simp [low]
theorem dd (n a c : Int) (h0 : 0 ≤ a) (h : c = a * 256) : n / a / 256 = n / c := by rw [Int.ediv_ediv_of_nonneg h0, h]
theorem low8 (n : Int) (n0 : 0 ≤ n) (n1 : n ≤ 18446744073709551615) : low 8 n = b8 n := by
  simp only [low, b8]
  rw [dd n 256 65536 (by decide) (by decide), dd n 65536 16777216 (by decide) (by decide), dd n 16777216 4294967296 (by decide) (by decide), dd n 4294967296 1099511627776 (by decide) (by decide),
    dd n 1099511627776 281474976710656 (by decide) (by decide), dd n 281474976710656 72057594037927936 (by decide) (by decide)]
  have h : n / 72057594037927936 % 256 = n / 72057594037927936 := by omega
  rw [h]
end Go.Proofs.Ytfbmabhdjliohaa.VLib

/- Whatever numbers, put one behind the other, are all got; no conditions. -/
import Derived.Test.YtggalbhjkkmcaaaPVarintJoinsx2
import Derived.Test.YtggalbhjkkmcaaaPVarintJoinsx2
import Derived.Laws.BitsAllLaws
import Derived.Test.YtggalbhjkkmcaaaVar
namespace Go.Proofs.Ytggalbhjkkmcaaa.Pure
open Go.RowKit Go.Proofs.Ytggalbhjkkmcaaa.M Go.Proofs.Ytggalbhjkkmcaaa.PVarintJoins Go.Proofs.YtggalbhjkkmcaaaW.PrintWords Go.Proofs.YtggalbhjkkmcaaaW.PrintLast Go.Proofs.YtggalbhjkkmcaaaW.PrintMore Go.Proofs.Ytggalbhjkkmcaaa.Var
theorem size_f (n : Int) (h0 : 0 ≤ n) (h1 : n ≤ 18446744073709551615) : varint_Size.f n = some ((e n : Int) + 1) := by
  obtain ⟨h2, h3, h4⟩ := size_eq n h0 h1
  unfold varint_Size.f bits_Len64.f
  rw [if_pos ⟨h3, h4⟩]
  simp only [Option.bind_some]
  rw [h2]
theorem putl : ∀ (d k : Nat) (x : Int) (acc : List Int) (x7 x8 : Int), d < k → x7 - x8 = d → 0 ≤ x8 → x7 ≤ 1000 → acc.length + d + 1 < 140737488355328 → varint_Put.l0 k x acc x7 x8 = some (acc ++ enc d x)
  | 0, k, x, acc, x7, x8, hk, hd, h0, h1, hl => by
    obtain ⟨k, rfl⟩ : ∃ m, k = m + 1 := ⟨k - 1, by omega⟩
    simp only [varint_Put.l0]
    rw [if_neg (by omega), if_pos (by omega)]
    rfl
  | d + 1, k, x, acc, x7, x8, hk, hd, h0, h1, hl => by
    obtain ⟨k, rfl⟩ : ∃ m, k = m + 1 := ⟨k - 1, by omega⟩
    have hw : wrap64 (x8 + 1) = x8 + 1 := by unfold wrap64; omega
    simp only [varint_Put.l0]
    rw [if_pos (by omega), if_pos (by omega), mid_byte, hw, putl d k _ _ x7 (x8 + 1) (by omega) (by omega) (by omega) h1 (by simp; omega)]
    simp [enc]
theorem put_f (k : Nat) (n : Int) (hk : 10 < k) (h0 : 0 ≤ n) (h1 : n ≤ 18446744073709551615) : varint_Put.f k n = some (enc (e n) n) := by
  unfold varint_Put.f
  rw [size_f n h0 h1]
  have he := e_le n h1
  have hw : wrap64 ((e n : Int) + 1 - 1) = e n := by unfold wrap64; omega
  simp only [Option.bind_some]
  rw [hw, putl (e n) k n [] (e n : Int) 0 (by omega) (by omega) (by omega) (by omega) (by simp; omega)]
  rfl
theorem getl : ∀ (d k i : Nat) (acc : Int) (l : List Int), (∀ x ∈ l, 0 ≤ x ∧ x ≤ 255) → l.length = i + d → 2 * d < k → 0 ≤ acc → acc < ((128 ^ i : Nat) : Int) → i ≤ 10 → l.length ≤ 140737488359000 →
    varint_Get.l0 k acc l (l.length : Int) (i : Int) = some (dec (l.drop i) i acc)
  | 0, k, i, acc, l, _, hl, hk, _, _, _, _ => by
    obtain ⟨k, rfl⟩ : ∃ m, k = m + 1 := ⟨k - 1, by omega⟩
    simp only [varint_Get.l0]
    rw [if_neg (by omega), List.drop_of_length_le (by omega)]
    rfl
  | d + 1, k, i, acc, l, hb, hl, hk, a0, a1, hi, hlen => by
    obtain ⟨k, rfl⟩ : ∃ m, k = m + 2 := ⟨k - 2, by omega⟩
    have hc := hb _ (rd_mem l i (by omega))
    have hr := rd_drop l i (by omega)
    have step : ¬ (i = 10 ∨ (i = 9 ∧ rd l (i : Int) > 1)) → varint_Get.j1 (k + 1) acc (i : Int) (rd l (i : Int)) l (l.length : Int) (i : Int) false = some (dec (l.drop i) i acc) := by
      intro hn
      have hw : wrap64 ((i : Int) + 1) = (i : Int) + 1 := by unfold wrap64; omega
      have hw7 : wrap64 (7 * (i : Int)) = 7 * (i : Int) := by unfold wrap64; omega
      have h7 : (0 : Int) ≤ wrap64 (7 * (i : Int)) := by rw [hw7]; omega
      have hu : IntKind.u64.wrap (rd l (i : Int) % 128) = rd l (i : Int) % 128 := by rw [IntKind.wrap_u64]; omega
      simp only [varint_Get.j1]
      rw [if_neg (by decide), if_pos h7, low7 _ hc.1 hc.2, hu, hw, shl7 _ i (by omega) (by omega) (by omega) (fun h => by omega), or_part acc _ i a0 a1 (by omega) (by omega) (by omega) (fun h => by omega), hr]
      simp only [dec]
      rw [if_neg hn]
      by_cases h1 : rd l (i : Int) < 128
      · rw [if_pos h1, if_pos h1]
      · rw [if_neg h1, if_neg h1]
        have hp := part_lt (rd l (i : Int) % 128) i (by omega) (by omega) (by omega) (fun h => by omega)
        have h8 := getl d k (i + 1) (acc + rd l (i : Int) % 128 * ((128 ^ i : Nat) : Int)) l hb (by omega) (by omega) (by omega) (by rw [p_succ]; omega) (by omega) hlen
        have hcast : ((i + 1 : Nat) : Int) = (i : Int) + 1 := by omega
        rw [hcast] at h8
        exact h8
    have stop : (i = 10 ∨ (i = 9 ∧ rd l (i : Int) > 1)) → varint_Get.j1 (k + 1) acc (i : Int) (rd l (i : Int)) l (l.length : Int) (i : Int) true = some (dec (l.drop i) i acc) := by
      intro hn
      simp only [varint_Get.j1]
      rw [if_pos trivial, hr]
      simp only [dec]
      rw [if_pos hn]
    rw [varint_Get.l0]
    rw [if_pos (by omega), if_pos (by omega), if_pos (by omega)]
    by_cases h10 : i = 10
    · rw [if_pos (by omega)]; exact stop (.inl h10)
    · rw [if_neg (by omega)]
      by_cases h9 : i = 9
      · rw [if_pos (by omega)]
        by_cases h1 : rd l (i : Int) > 1
        · rw [decide_eq_true h1]; exact stop (.inr ⟨h9, h1⟩)
        · rw [decide_eq_false h1]; exact step (by omega)
      · rw [if_neg (by omega)]; exact step (by omega)
theorem get_f (k : Nat) (l : List Int) (hb : ∀ x ∈ l, 0 ≤ x ∧ x ≤ 255) (hk : 2 * l.length < k) (hl : l.length ≤ 140737488359000) : varint_Get.f k l = some (dec l 0 0) := by
  unfold varint_Get.f
  exact getl l.length k 0 0 l hb (by omega) hk (by omega) (by decide) (by omega) hl
theorem bytes_self (l : List Int) : ecdysisref01_Bytes.f l l = some true := by
  unfold ecdysisref01_Bytes.f
  rw [beq_self_eq_true]
theorem live_f (k : Nat) (hk : 30 < k) : ecdysislaw01_live.f k = some true := by
  unfold ecdysislaw01_live.f
  rw [get_f k _ (by decide) (by simp; omega) (by simp), put_f k 300 (by omega) (by omega) (by omega)]
  have e1 : dec [172, 130, 0] 0 0 = (300, 3) := by decide
  have e2 : enc (e 300) 300 = [172, 2] := by decide
  simp only [Option.bind_some, e1, e2]
  rw [bytes_self]
  rfl
theorem enc_byte : ∀ (d : Nat) (n : Int), ∀ x ∈ enc d n, 0 ≤ x ∧ x ≤ 255
  | 0, n, x, hx => by simp [enc] at hx; omega
  | d + 1, n, x, hx => by
    simp [enc] at hx
    rcases hx with h | h
    · omega
    · exact enc_byte d _ x h
theorem alll : ∀ (f k : Nat) (l acc : List Int), (∀ x ∈ l, 0 ≤ x ∧ x ≤ 255) → l.length ≤ f → 2 * l.length + 2 < k → acc.length + l.length ≤ 1000000 →
    varint_All.l0 k l acc = some (match all f l with | none => ([], false) | some xs => (acc ++ xs, true))
  | f, k, [], acc, _, _, hk, _ => by
    obtain ⟨k, rfl⟩ : ∃ m, k = m + 1 := ⟨k - 1, by omega⟩
    simp [varint_All.l0, all]
  | 0, k, c :: t, acc, _, hf, _, _ => by simp at hf
  | f + 1, k, c :: t, acc, hb, hf, hk, hl => by
    obtain ⟨k, rfl⟩ : ∃ m, k = m + 1 := ⟨k - 1, by omega⟩
    have hc : (c :: t).length = t.length + 1 := rfl
    simp only [varint_All.l0]
    rw [if_pos (by omega), get_f k (c :: t) hb (by omega) (by omega)]
    simp only [Option.bind_some, all]
    rcases dec_spec (c :: t) 0 0 hb (by omega) (by decide) (by omega) with h | ⟨s, h1, h2, h3, h4, h5, h6, h7⟩
    · rw [h]
      simp only [if_true]
      have : (((c :: t).length : Int) == 0) = false := beq_eq_false_iff_ne.2 (by omega)
      rw [this]
    · have h0 : ¬ (dec (c :: t) 0 0).2 = 0 := by omega
      rw [if_neg h0, if_neg h0, if_pos (by omega), if_pos (by omega), if_pos (by omega)]
      have hd : ((c :: t).drop (dec (c :: t) 0 0).2.toNat).length = t.length + 1 - s := by rw [List.length_drop, h1, Int.toNat_natCast, hc]
      rw [alll f k _ _ (fun x hx => hb x (List.mem_of_mem_drop hx)) (by omega) (by omega) (by rw [List.length_append, List.length_singleton]; omega)]
      cases all f ((c :: t).drop (dec (c :: t) 0 0).2.toNat) with
      | none => rfl
      | some xs => simp
theorem all_f (k : Nat) (l : List Int) (hb : ∀ x ∈ l, 0 ≤ x ∧ x ≤ 255) (hk : 2 * l.length + 2 < k) (hl : l.length ≤ 1000000) :
    varint_All.f k l = some (match all l.length l with | none => ([], false) | some xs => (xs, true)) := by
  unfold varint_All.f
  rw [alll l.length k l [] hb (Nat.le_refl _) hk (by simpa using hl)]
  cases all l.length l <;> rfl
theorem numsl : ∀ (d k i : Nat) (l : List Int), l.length = i + d → d < k → l.length ≤ 1000000 → ecdysisref01_Nums.l0 k l l (i : Int) = some true
  | 0, k, i, l, hl, hk, _ => by
    obtain ⟨k, rfl⟩ : ∃ m, k = m + 1 := ⟨k - 1, by omega⟩
    simp only [ecdysisref01_Nums.l0]
    rw [if_neg (by omega)]
  | d + 1, k, i, l, hl, hk, hm => by
    obtain ⟨k, rfl⟩ : ∃ m, k = m + 1 := ⟨k - 1, by omega⟩
    have hw : wrap64 ((i : Int) + 1) = ((i + 1 : Nat) : Int) := by unfold wrap64; omega
    simp only [ecdysisref01_Nums.l0]
    rw [if_pos (by omega), if_pos (by omega), if_pos (by omega), if_pos trivial, hw]
    exact numsl d k (i + 1) l (by omega) (by omega) hm
theorem nums_self (k : Nat) (l : List Int) (hk : l.length < k) (hl : l.length ≤ 1000000) : ecdysisref01_Nums.f k l l = some true := by
  unfold ecdysisref01_Nums.f
  rw [if_pos rfl]
  exact numsl l.length k 0 l (by omega) hk hl
/-- All numbers' bytes, one behind the other. -/
def encs : List Int → List Int
  | [] => []
  | n :: t => enc (e n) n ++ encs t
theorem encs_byte : ∀ (l : List Int), ∀ x ∈ encs l, 0 ≤ x ∧ x ≤ 255
  | [], x, hx => by simp [encs] at hx
  | n :: t, x, hx => by
    rcases List.mem_append.1 hx with h | h
    · exact enc_byte _ _ x h
    · exact encs_byte t x h
theorem encs_len : ∀ (l : List Int), (∀ x ∈ l, x ≤ 18446744073709551615) → l.length ≤ (encs l).length ∧ (encs l).length ≤ 10 * l.length
  | [], _ => by simp [encs]
  | n :: t, h => by
    have h1 := encs_len t (fun x hx => h x (by simp [hx]))
    have h2 := e_le n (h n (by simp))
    simp only [encs, List.length_append, enc_length, List.length_cons]
    omega
theorem all_encs : ∀ (f : Nat) (l : List Int), (∀ x ∈ l, 0 ≤ x ∧ x ≤ 18446744073709551615) → l.length ≤ f → all f (encs l) = some l
  | f, [], _, _ => by cases f <;> rfl
  | 0, n :: t, _, h => by simp at h
  | f + 1, n :: t, h, hf => by
    have hn := h n (by simp)
    have hd := dec_put n hn.1 hn.2 (encs t)
    obtain ⟨c, t', hct⟩ : ∃ c t', encs (n :: t) = c :: t' := by
      simp only [encs]
      cases e n with
      | zero => exact ⟨_, _, rfl⟩
      | succ d => exact ⟨_, _, rfl⟩
    rw [hct]
    have hd' : dec (c :: t') 0 0 = (n, (e n : Int) + 1) := by rw [← hct]; exact hd
    simp only [all, hd']
    rw [if_neg (by omega), ← hct]
    have h2 : ((e n : Int) + 1).toNat = (enc (e n) n).length := by rw [enc_length]; omega
    rw [h2]
    simp only [encs, List.drop_left]
    rw [all_encs f t (fun x hx => h x (by simp [hx])) (by simp at hf; omega)]
    rfl
theorem joinl : ∀ (d k i : Nat) (l acc : List Int), (∀ x ∈ l, 0 ≤ x ∧ x ≤ 18446744073709551615) → l.length = i + d → l.length ≤ 200 → acc = encs (l.take i) → d + 5000 < k → ecdysislaw01_VarintJoins.l0 k l acc (i : Int) = some true
  | 0, k, i, l, acc, hb, hl, hm, ha, hk => by
    obtain ⟨k, rfl⟩ : ∃ m, k = m + 1 := ⟨k - 1, by omega⟩
    have hlen := encs_len l (fun x hx => (hb x hx).2)
    rw [List.take_of_length_le (by omega)] at ha
    subst ha
    simp only [ecdysislaw01_VarintJoins.l0]
    rw [if_neg (by omega), all_f k _ (encs_byte l) (by omega) (by omega), all_encs _ l hb (by omega)]
    simp only [Option.bind_some]
    rw [nums_self _ l (by omega) (by omega), live_f _ (by omega)]
    rfl
  | d + 1, k, i, l, acc, hb, hl, hm, ha, hk => by
    obtain ⟨k, rfl⟩ : ∃ m, k = m + 1 := ⟨k - 1, by omega⟩
    have hlen := encs_len (l.take i) (fun x hx => (hb x (List.mem_of_mem_take hx)).2)
    rw [List.length_take] at hlen
    have hx := hb _ (rd_mem l i (by omega))
    have he := e_le _ hx.2
    have hw : wrap64 ((i : Int) + 1) = ((i + 1 : Nat) : Int) := by unfold wrap64; omega
    simp only [ecdysislaw01_VarintJoins.l0]
    rw [if_pos (by omega), if_pos (by omega), put_f k _ (by omega) hx.1 hx.2]
    simp only [Option.bind_some]
    rw [if_pos (by rw [ha, enc_length]; omega), hw]
    refine joinl d k (i + 1) l _ hb (by omega) hm ?_ (by omega)
    have happ : ∀ (a b : List Int), encs (a ++ b) = encs a ++ encs b := by
      intro a b
      induction a with
      | nil => rfl
      | cons x t ih => simp only [List.cons_append, encs, ih, List.append_assoc]
    rw [ha, List.take_succ_eq_append_getElem (by omega), happ]
    simp only [encs, List.append_nil]
    have hg : rd l (i : Int) = l[i] := by simp [rd, List.getD_eq_getElem?_getD, List.getElem?_eq_getElem (show i < l.length by omega)]
    rw [hg]
theorem VarintJoins : ecdysislaw01_VarintJoins.Pure := by
  intro l _ hlen hwf
  have hb : ∀ x ∈ l, 0 ≤ x ∧ x ≤ 18446744073709551615 := fun x hx => u64_of (hwf x hx)
  refine ⟨l.length + 6000, ?_⟩
  unfold ecdysislaw01_VarintJoins.f
  rw [live_f _ (by omega)]
  by_cases h : (l.length : Int) > 200
  · rw [if_pos h]; rfl
  · rw [if_neg h]
    exact joinl l.length _ 0 l [] hb (by omega) (by omega) rfl (by omega)
end Go.Proofs.Ytggalbhjkkmcaaa.Pure

/- cursor: the plain law of a cursor: its place and its frames' ends before and behind each read; conditions stand at each. -/
import Derived.Test.YtfbmabhdjliohaaVLib
namespace Go.Proofs.Ytfbmabhdjliohaa.Cur
open Go.RowKit Go.Proofs.YtfbmabhdjliohaaW.PrintWords Go.Proofs.YtfbmabhdjliohaaW.PrintLast Go.Proofs.YtfbmabhdjliohaaW.PrintMore Go.Proofs.Ytfbmabhdjliohaa.Var
/-- The innermost frame's end. -/
def last (ends : List Int) : Int := rd ends ((ends.length : Int) - 1)
/-- What holds of a cursor's place and its frames. -/
def Inv (n : Nat) (p : Int) (ends : List Int) : Prop := 0 ≤ p ∧ (∀ x ∈ ends, p ≤ x ∧ x ≤ n) ∧ ends.Pairwise (fun a b => b ≤ a) ∧ (ends.length = 0 → p = 0)
theorem last_mem {ends : List Int} (h : 0 < ends.length) : last ends ∈ ends := by
  unfold last rd
  have h1 : ((ends.length : Int) - 1).toNat < ends.length := by omega
  rw [List.getD_eq_getElem?_getD, List.getElem?_eq_getElem h1]
  exact List.getElem_mem h1
theorem last_nil {ends : List Int} (h : ends.length = 0) : last ends = 0 := by
  have : ends = [] := List.length_eq_zero_iff.1 h
  subst this
  rfl
theorem last_snoc (l : List Int) (x : Int) : last (l ++ [x]) = x := by
  unfold last rd
  rw [List.length_append, List.length_singleton]
  have : ((((l.length + 1 : Nat) : Int)) - 1).toNat = l.length := by omega
  rw [this, List.getD_eq_getElem?_getD]
  simp
theorem last_le {ends : List Int} (hp : ends.Pairwise (fun a b => b ≤ a)) : ∀ x ∈ ends, last ends ≤ x := by
  intro x hx
  have h0 : 0 < ends.length := List.length_pos_of_mem hx
  obtain ⟨l, y, rfl⟩ : ∃ l y, ends = l ++ [y] := ⟨ends.dropLast, ends.getLast (List.ne_nil_of_length_pos h0), (List.dropLast_concat_getLast (List.ne_nil_of_length_pos h0)).symm⟩
  rw [last_snoc]
  rcases List.mem_append.1 hx with h | h
  · exact (List.pairwise_append.1 hp).2.2 x h y (by simp)
  · rw [List.mem_singleton.1 h]; omega
/-- What is left of the innermost frame. -/
def seg (b : List Int) (p : Int) (ends : List Int) : List Int := (b.take (last ends).toNat).drop p.toNat
/-- Where a cursor is behind s bytes; 0: it fails. -/
def nx (p : Int) (ends : List Int) (s : Int) : Int × List Int := if s = 0 then (0, []) else (p + s, ends)
section
variable {n : Nat} {b : List Int} {p : Int} {ends : List Int}
theorem inv_last (hi : Inv n p ends) : 0 ≤ p ∧ p ≤ last ends ∧ last ends ≤ n := by
  by_cases h : 0 < ends.length
  · have := hi.2.1 _ (last_mem h)
    exact ⟨hi.1, this.1, this.2⟩
  · have h1 : ends.length = 0 := by omega
    rw [last_nil h1, hi.2.2.2 h1]
    omega
theorem inv_nil : Inv n 0 [] := ⟨by omega, by simp, List.Pairwise.nil, fun _ => rfl⟩
theorem nx_inv (hi : Inv n p ends) {s : Int} (h0 : 0 ≤ s) (hs : s ≤ last ends - p) : Inv n (nx p ends s).1 (nx p ends s).2 := by
  unfold nx
  by_cases h : s = 0
  · rw [if_pos h]; exact inv_nil
  · rw [if_neg h]
    refine ⟨by have := hi.1; simp only; omega, fun x hx => ?_, hi.2.2.1, fun hl => ?_⟩
    · have h1 := last_le hi.2.2.1 x hx
      have h2 := hi.2.1 x hx
      simp only; omega
    · simp only at hl
      have h1 := last_nil hl
      have h2 := hi.2.2.2 hl
      omega
theorem seg_len (hi : Inv b.length p ends) : (seg b p ends).length = (last ends - p).toNat := by
  have := inv_last hi
  unfold seg
  rw [List.length_drop, List.length_take]
  omega
theorem seg_bytes (hb : ∀ x ∈ b, 0 ≤ x ∧ x ≤ 255) : ∀ x ∈ seg b p ends, 0 ≤ x ∧ x ≤ 255 := fun x hx => hb x (List.mem_of_mem_take (List.mem_of_mem_drop hx))
theorem seg_nil (h : ends.length = 0) : seg b p ends = [] := by
  unfold seg
  rw [last_nil h]
  simp
/-- A number of variable length. -/
def vD (b : List Int) (p : Int) (ends : List Int) : Int × Int := dec (seg b p ends) 0 0
theorem dec_facts (l : List Int) (hb : ∀ x ∈ l, 0 ≤ x ∧ x ≤ 255) : 0 ≤ (dec l 0 0).1 ∧ (dec l 0 0).1 ≤ 18446744073709551615 ∧ 0 ≤ (dec l 0 0).2 ∧ (dec l 0 0).2 ≤ l.length ∧ ((dec l 0 0).2 = 0 → (dec l 0 0).1 = 0) := by
  rcases dec_spec l 0 0 hb (by omega) (by decide) (by omega) with h | ⟨s, h1, h2, h3, h4, h5, h6, h7⟩
  · rw [h]; simp
  · rw [h1]; omega
theorem vD_facts (hi : Inv b.length p ends) (hb : ∀ x ∈ b, 0 ≤ x ∧ x ≤ 255) : 0 ≤ (vD b p ends).1 ∧ (vD b p ends).1 ≤ 18446744073709551615 ∧ 0 ≤ (vD b p ends).2 ∧ (vD b p ends).2 ≤ last ends - p ∧ ((vD b p ends).2 = 0 → (vD b p ends).1 = 0) := by
  have h := dec_facts (seg b p ends) (seg_bytes hb)
  have hl := seg_len hi
  have := inv_last hi
  refine ⟨h.1, h.2.1, h.2.2.1, ?_, h.2.2.2.2⟩
  have := h.2.2.2.1
  unfold vD
  omega
/-- A number of four, or of eight bytes. -/
def fixD (k : Nat) (l : List Int) : Int × Int := if l.length < k then (0, 0) else (if k = 4 then M.val4 l else M.val8 l, (k : Int))
def fD (k : Nat) (b : List Int) (p : Int) (ends : List Int) : Int × Int := fixD k (seg b p ends)
theorem fD_facts (hi : Inv b.length p ends) (k : Nat) (hk : 0 < k) : 0 ≤ (fD k b p ends).2 ∧ (fD k b p ends).2 ≤ last ends - p ∧ ((fD k b p ends).2 = 0 → (fD k b p ends).1 = 0) := by
  have hl := seg_len hi
  have := inv_last hi
  unfold fD fixD
  by_cases h : (seg b p ends).length < k
  · rw [if_pos h]; simp only; exact ⟨by omega, by omega, by simp⟩
  · rw [if_neg h]; simp only; exact ⟨by omega, by omega, fun h0 => by omega⟩
/-- A length: its number (-1: none), the place and the ends behind. -/
def lg (b : List Int) (p : Int) (ends : List Int) : Int × Int × List Int :=
  if (vD b p ends).2 = 0 then (-1, 0, []) else if (vD b p ends).1 > last ends - (p + (vD b p ends).2) then (-1, 0, []) else ((vD b p ends).1, p + (vD b p ends).2, ends)
theorem lg_facts (hi : Inv b.length p ends) (hb : ∀ x ∈ b, 0 ≤ x ∧ x ≤ 255) : (lg b p ends = (-1, 0, []) ∨ 0 < ends.length ∧ 0 ≤ (lg b p ends).1 ∧ p ≤ (lg b p ends).2.1 ∧ (lg b p ends).1 ≤ last ends - (lg b p ends).2.1 ∧ (lg b p ends).2.2 = ends) ∧ Inv b.length (lg b p ends).2.1 (lg b p ends).2.2 := by
  have hv := vD_facts hi hb
  have hx := nx_inv hi hv.2.2.1 hv.2.2.2.1
  have hl := inv_last hi
  unfold lg
  unfold nx at hx
  by_cases h : (vD b p ends).2 = 0
  · rw [if_pos h]; exact ⟨.inl rfl, inv_nil⟩
  · rw [if_neg h] at hx ⊢
    by_cases h1 : (vD b p ends).1 > last ends - (p + (vD b p ends).2)
    · rw [if_pos h1]; exact ⟨.inl rfl, inv_nil⟩
    · rw [if_neg h1]
      refine ⟨.inr ⟨?_, hv.1, by simp only; omega, by simp only; omega, rfl⟩, hx⟩
      rcases Nat.eq_zero_or_pos ends.length with h0 | h0
      · have := last_nil h0
        omega
      · exact h0
/-- A text: its bytes, the place and the ends behind. -/
def txt (b : List Int) (p : Int) (ends : List Int) : List Int × Int × List Int :=
  if (lg b p ends).1 < 0 then ([], 0, []) else ((b.take ((lg b p ends).2.1 + (lg b p ends).1).toNat).drop (lg b p ends).2.1.toNat, (lg b p ends).2.1 + (lg b p ends).1, ends)
/-- A field's number and wire type. -/
def spl (u : Int) : Int × Int × Bool := if u < 4294967296 ∧ 1 ≤ u / 8 ∧ (u % 8 = 0 ∨ u % 8 = 1 ∨ u % 8 = 2 ∨ u % 8 = 5) then (u / 8, u % 8, true) else (0, 0, false)
def tg (b : List Int) (p : Int) (ends : List Int) : (Int × Int) × Int × List Int :=
  if (vD b p ends).2 = 0 then ((0, 0), 0, []) else if (spl (vD b p ends).1).2.2 then (((spl (vD b p ends).1).1, (spl (vD b p ends).1).2.1), p + (vD b p ends).2, ends) else ((0, 0), 0, [])
/-- A frame is opened. -/
def op (b : List Int) (p : Int) (ends : List Int) : Bool × Int × List Int :=
  if (lg b p ends).1 < 0 then (false, 0, []) else (true, (lg b p ends).2.1, ends ++ [(lg b p ends).2.1 + (lg b p ends).1])
/-- A frame is left. -/
def cl (p : Int) (ends : List Int) : Bool × Int × List Int := if ends.length ≤ 1 ∨ p ≠ last ends then (false, p, ends) else (true, p, ends.dropLast)
/-- More. -/
def moreB (p : Int) (ends : List Int) : Bool := decide (0 < ends.length) && decide (p < last ends)
theorem txt_inv (hi : Inv b.length p ends) (hb : ∀ x ∈ b, 0 ≤ x ∧ x ≤ 255) : Inv b.length (txt b p ends).2.1 (txt b p ends).2.2 := by
  obtain ⟨h, hl⟩ := lg_facts hi hb
  unfold txt
  by_cases h0 : (lg b p ends).1 < 0
  · rw [if_pos h0]; exact inv_nil
  · rw [if_neg h0]
    rcases h with h | ⟨h1, h2, h3, h4, h5⟩
    · rw [h] at h0; simp at h0
    · have hl2 := hl
      rw [h5] at hl2
      have hm := inv_last hl2
      refine ⟨by simp only; omega, fun x hx => ?_, hi.2.2.1, fun h6 => ?_⟩
      · have h6 := last_le hi.2.2.1 x hx
        have h7 := hi.2.1 x hx
        simp only; omega
      · simp only at h6; omega
theorem tg_inv (hi : Inv b.length p ends) (hb : ∀ x ∈ b, 0 ≤ x ∧ x ≤ 255) : Inv b.length (tg b p ends).2.1 (tg b p ends).2.2 := by
  have hv := vD_facts hi hb
  have hx := nx_inv hi hv.2.2.1 hv.2.2.2.1
  unfold tg
  unfold nx at hx
  by_cases h : (vD b p ends).2 = 0
  · rw [if_pos h]; exact inv_nil
  · rw [if_neg h] at hx ⊢
    by_cases h1 : (spl (vD b p ends).1).2.2 = true
    · rw [if_pos h1]; exact hx
    · rw [if_neg h1]; exact inv_nil
theorem op_inv (hi : Inv b.length p ends) (hb : ∀ x ∈ b, 0 ≤ x ∧ x ≤ 255) : Inv b.length (op b p ends).2.1 (op b p ends).2.2 := by
  obtain ⟨h, hl⟩ := lg_facts hi hb
  unfold op
  by_cases h0 : (lg b p ends).1 < 0
  · rw [if_pos h0]; exact inv_nil
  · rw [if_neg h0]
    rcases h with h | ⟨h1, h2, h3, h4, h5⟩
    · rw [h] at h0; simp at h0
    · rw [h5] at hl
      have hm := inv_last hl
      refine ⟨by simp only; omega, fun x hx => ?_, ?_, fun h6 => ?_⟩
      · simp only at hx ⊢
        rcases List.mem_append.1 hx with hx | hx
        · exact hl.2.1 x hx
        · rw [List.mem_singleton.1 hx]; omega
      · refine List.pairwise_append.2 ⟨hi.2.2.1, List.pairwise_singleton _ _, fun x hx y hy => ?_⟩
        have h6 := last_le hi.2.2.1 x hx
        rw [List.mem_singleton.1 hy]
        omega
      · simp at h6
theorem cl_inv (hi : Inv b.length p ends) : Inv b.length (cl p ends).2.1 (cl p ends).2.2 := by
  unfold cl
  by_cases h : ends.length ≤ 1 ∨ p ≠ last ends
  · rw [if_pos h]; exact hi
  · rw [if_neg h]
    refine ⟨hi.1, fun x hx => hi.2.1 x ((List.dropLast_sublist _).subset hx), hi.2.2.1.sublist (List.dropLast_sublist _), fun h6 => ?_⟩
    simp only [List.length_dropLast] at h6
    omega
end
end Go.Proofs.Ytfbmabhdjliohaa.Cur

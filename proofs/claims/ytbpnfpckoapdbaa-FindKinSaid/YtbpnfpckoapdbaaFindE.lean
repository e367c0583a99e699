/- What Kin tells: the plain way; slices.Contains over texts; conditions stand at each. -/
import Derived.Test.YtbpnfpckoapdbaaFindD
import Derived.Test.YtbpnfpckoapdbaaPFkx
namespace Go.Proofs.Ytbpnfpckoapdbaa.M
open Go.RowKit Go.Proofs.YtbpnfpckoapdbaaW.PrintWords Go.Proofs.YtbpnfpckoapdbaaW.PrintLast Go.Proofs.YtbpnfpckoapdbaaW.PrintMore Go.Proofs.Ytbpnfpckoapdbaa.KD
set_option linter.unusedVariables false
set_option linter.unusedSimpArgs false
def has (l : List ByteArray) (x : ByteArray) : Bool := l.any (fun y => x.toList == y.toList)
theorem rdOf_at (l : List ByteArray) (i : Nat) (h : i < l.length) : rdOf ByteArray.empty l (i : Int) = l[i] := by
  unfold rdOf
  rw [Int.toNat_natCast, List.getD_eq_getElem?_getD, List.getElem?_eq_getElem h]
  rfl
theorem index_str (l : List ByteArray) (x : ByteArray) (hl : l.length ≤ 9223372036854775806) (d : Nat) : ∀ (k i : Nat), i + d = l.length → d < k → ∃ r, PFk.slices_Index_string_string.l0 k l x (l.length : Int) (i : Int) = some r ∧ decide (r ≥ 0) = has (l.drop i) x := by
  induction d with
  | zero =>
    intro k i hi hk
    obtain ⟨k, rfl⟩ : ∃ m, k = m + 1 := ⟨k - 1, by omega⟩
    refine ⟨-1, ?_, ?_⟩
    · simp only [PFk.slices_Index_string_string.l0]
      rw [if_neg (by omega)]
    · rw [List.drop_eq_nil_of_le (by omega)]
      rfl
  | succ d ih =>
    intro k i hi hk
    obtain ⟨k, rfl⟩ : ∃ m, k = m + 1 := ⟨k - 1, by omega⟩
    have hlt : i < l.length := by omega
    have hx := rdOf_at l i hlt
    have hdr := List.drop_eq_getElem_cons hlt
    rw [hdr]
    by_cases he : x.toList = l[i].toList
    · refine ⟨i, ?_, ?_⟩
      · simp only [PFk.slices_Index_string_string.l0]
        rw [if_pos (by omega), if_pos (by omega), if_pos (by omega), hx, if_pos he]
      · have h0 : decide (((i : Nat) : Int) ≥ 0) = true := decide_eq_true (by omega)
        rw [h0]
        unfold has
        rw [List.any_cons, he]
        simp
    · obtain ⟨r, h1, h2⟩ := ih k (i + 1) (by omega) (by omega)
      refine ⟨r, ?_, ?_⟩
      · simp only [PFk.slices_Index_string_string.l0]
        rw [if_pos (by omega), if_pos (by omega), if_pos (by omega), hx, if_neg he, show wrap64 ((i : Int) + 1) = ((i + 1 : Nat) : Int) by unfold wrap64; omega]
        exact h1
      · rw [h2]
        unfold has
        rw [List.any_cons, show (x.toList == l[i].toList) = false from beq_eq_false_iff_ne.2 he, Bool.false_or]
theorem contains_str (l : List ByteArray) (x : ByteArray) (hl : l.length ≤ 9223372036854775806) : PFk.slices_Contains_string_string.f (l.length + 1) l x = some (has l x) := by
  obtain ⟨r, h1, h2⟩ := index_str l x hl l.length (l.length + 1) 0 (by omega) (by omega)
  unfold PFk.slices_Contains_string_string.f PFk.slices_Index_string_string.f
  rw [show PFk.slices_Index_string_string.l0 (l.length + 1) l x (l.length : Int) 0 = some r from h1]
  rw [List.drop_zero] at h2
  rw [Option.bind_some, h2]
theorem has_c {w : World} {A : Option Addr} {c : Nat} {l : List ByteArray} (x : ByteArray) (hr : Kd.C Kd.string w A l.length l) (hc : l.length ≤ c) (hl : l.length ≤ 1000000) :
    Calls Try.prog 92 #[.slice A l.length c, .string x] w fun e w' => e = .returned (.bool (has l x)) ∧ Drawn0 w w' :=
  PFk.slices_Contains_string_string.calls _ A c l x _ w hr hc (contains_str l x (by omega))
/-! What is told. -/
def msgAt (ms : List S47) (nm : ByteArray) : Int := ixF (fun x => x.f0.toList == nm.toList) ms 0
def addR (ms : List S47) (t : List ByteArray) (r : ByteArray) : List ByteArray := if (decide (msgAt ms r < 0) || has t r) = true then t else t ++ [r]
def extR (ms : List S47) (t : List ByteArray) (l : List ByteArray) : List ByteArray := l.foldl (addR ms) t
theorem extR_snoc (ms : List S47) (t l : List ByteArray) (r : ByteArray) : extR ms t (l ++ [r]) = addR ms (extR ms t l) r := by
  unfold extR
  rw [List.foldl_append]
  rfl
def fieldsAt (ms : List S47) (nm : ByteArray) : List S50 := ((ms[(msgAt ms nm).toNat]?).map (·.f1)).getD []
def kinR (ms : List S47) (most : Int) : Nat → Nat → List ByteArray → List ByteArray → List ByteArray
  | 0, _, _, out => out
  | f + 1, i, told, out => match told[i]? with
    | none => out
    | some x => if (((out.length + 1 : Nat) : Int) != most) = true then kinR ms most f (i + 1) (extR ms told (refsL (fieldsAt ms x))) (out ++ [x]) else out ++ [x]
def kinL (ms : List S47) (most : Int) : List ByteArray := match ms with
  | [] => []
  | m :: _ => kinR ms most (ms.length + 1) 0 [m.f0] []
/-- What is told: names of messages, each once. -/
structure Told (ms : List S47) (t : List ByteArray) : Prop where
  nd : t.Pairwise (fun x y => x ≠ y)
  at_ : ∀ x ∈ t, 0 ≤ msgAt ms x
theorem ixF_ge {α : Type} {p : α → Bool} : ∀ (l : List α) (i : Nat), ixF p l i = -1 ∨ ∃ j x, l[j]? = some x ∧ p x = true ∧ ixF p l i = ((i + j : Nat) : Int)
  | [], i => .inl rfl
  | x :: l, i => by
    by_cases h : p x = true
    · exact .inr ⟨0, x, rfl, h, by simp [ixF, h]⟩
    · rcases ixF_ge (p := p) l (i + 1) with h1 | ⟨j, y, h1, h2, h3⟩
      · exact .inl (by simp [ixF, h, h1])
      · exact .inr ⟨j + 1, y, by simpa using h1, h2, by simp only [ixF, h]; rw [if_neg (by simp), h3]; omega⟩
theorem toList_inj {x y : ByteArray} (h : x.toList = y.toList) : x = y := by
  rw [ByteArray.toList_eq, ByteArray.toList_eq] at h
  cases x; cases y
  simpa using h
theorem msgAt_some {ms : List S47} {nm : ByteArray} (h : 0 ≤ msgAt ms nm) : ∃ m, ms[(msgAt ms nm).toNat]? = some m ∧ m.f0 = nm ∧ msgAt ms nm < ms.length := by
  unfold msgAt at h ⊢
  rcases ixF_ge (p := fun x : S47 => x.f0.toList == nm.toList) ms 0 with h1 | ⟨j, y, h1, h2, h3⟩
  · rw [h1] at h; omega
  · rw [h3, Nat.zero_add]
    have := (List.getElem?_eq_some_iff.1 h1).1
    exact ⟨y, by simpa using h1, toList_inj (by simpa using h2), by omega⟩
theorem has_iff (l : List ByteArray) (x : ByteArray) : has l x = true ↔ x ∈ l := by
  unfold has
  rw [List.any_eq_true]
  constructor
  · rintro ⟨y, hy, h⟩
    have e := toList_inj (x := x) (y := y) (by simpa using h)
    rw [e]
    exact hy
  · intro h
    exact ⟨x, h, by simp⟩
theorem Told.add {ms : List S47} {t : List ByteArray} (h : Told ms t) (r : ByteArray) : Told ms (addR ms t r) := by
  unfold addR
  split
  · exact h
  · rename_i h1
    simp only [Bool.or_eq_true, decide_eq_true_eq, not_or] at h1
    refine ⟨?_, fun x hx => ?_⟩
    · rw [List.pairwise_append]
      refine ⟨h.nd, List.pairwise_singleton _ _, fun x hx y hy => ?_⟩
      rw [List.mem_singleton] at hy
      subst hy
      intro e
      subst e
      exact h1.2 ((has_iff t x).2 hx)
    · rcases List.mem_append.1 hx with hx | hx
      · exact h.at_ x hx
      · rw [List.mem_singleton] at hx
        subst hx
        omega
theorem Told.ext {ms : List S47} {l : List ByteArray} : ∀ {t : List ByteArray}, Told ms t → Told ms (extR ms t l) := by
  induction l with
  | nil => exact fun h => h
  | cons r l ih => exact fun h => ih (h.add r)
theorem nodup_le {α : Type} [DecidableEq α] : ∀ (l m : List α), l.Pairwise (fun x y => x ≠ y) → (∀ x ∈ l, x ∈ m) → l.length ≤ m.length
  | [], _, _, _ => Nat.zero_le _
  | x :: l, m, h, hs => by
    rw [List.pairwise_cons] at h
    have hx : x ∈ m := hs x (by simp)
    have h1 := nodup_le l (m.erase x) h.2 (fun y hy => (List.mem_erase_of_ne (fun e => h.1 y hy e.symm)).2 (hs y (by simp [hy])))
    rw [List.length_erase_of_mem hx] at h1
    have := List.length_pos_of_mem hx
    simp only [List.length_cons]
    omega
theorem Told.le {ms : List S47} {t : List ByteArray} (h : Told ms t) : t.length ≤ ms.length := by
  have h1 := nodup_le t (ms.map (·.f0)) h.nd (fun x hx => by
    obtain ⟨m, h2, h3, _⟩ := msgAt_some (h.at_ x hx)
    exact List.mem_map.2 ⟨m, List.mem_of_getElem? h2, h3⟩)
  simpa using h1
theorem addR_pre (ms : List S47) (t : List ByteArray) (r : ByteArray) : t <+: addR ms t r := by
  unfold addR
  split
  · exact List.prefix_refl _
  · exact List.prefix_append _ _
theorem extR_pre (ms : List S47) (l : List ByteArray) : ∀ (t : List ByteArray), t <+: extR ms t l := by
  induction l with
  | nil => exact fun t => List.prefix_refl _
  | cons r l ih => exact fun t => (addR_pre ms t r).trans (ih _)
theorem Told.first {ms : List S47} {m : S47} (h : ms[0]? = some m) : Told ms [m.f0] := by
  refine ⟨List.pairwise_singleton _ _, fun x hx => ?_⟩
  rw [List.mem_singleton] at hx
  subst hx
  match ms, h with
  | _ :: _, h =>
    obtain rfl := Option.some.inj h
    simp [msgAt, ixF]
end Go.Proofs.Ytbpnfpckoapdbaa.M

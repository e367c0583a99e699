/- The law that what is told is closed: for every schema it tells true; no conditions but those of the row. (text 7 of 7; some of it the words and functions that the kit's print and this claim's programs wrote) -/
import Derived.Test.YtbpnfpckoapdbaaQFindCloses5
import Derived.Test.YtbpnfpckoapdbaaRows
import Derived.WalkKit
import Derived.ProofKit
import Derived.OpenShut
import Derived.ShutString
import Derived.ChangeOld
import Derived.Below
import Derived.SizedLaws
section
namespace Go.Proofs.Ytbpnfpckoapdbaa.P16
open Go.RowKit Go.Proofs.YtbpnfpckoapdbaaW.PrintWords Go.Proofs.YtbpnfpckoapdbaaW.PrintLast Go.Proofs.YtbpnfpckoapdbaaW.PrintMore Go.Proofs.Ytbpnfpckoapdbaa.KD Go.Proofs.Ytbpnfpckoapdbaa.M Go.Proofs.Ytbpnfpckoapdbaa.PF16 Go.Proofs.Ytbpnfpckoapdbaa.Ev Go.Proofs.Ytbpnfpckoapdbaa.Ops
set_option linter.unusedVariables false
set_option linter.unusedSimpArgs false
/-- It tells something, and such a thing. -/
def TP {α : Type} (P : α → Prop) (g : Nat → Option α) : Prop := ∃ r, E g r ∧ P r
abbrev An {α : Type} (_ : α) : Prop := True
section
variable {α β : Type} {P : α → Prop} {Q : β → Prop}
theorem TP.const {r : α} (h : P r) : TP P (fun _ => some r) := ⟨r, E.const, h⟩
theorem TP.of {g : Nat → Option α} {r : α} (h : E g r) (hp : P r) : TP P g := ⟨r, h, hp⟩
theorem TP.step {g : Nat → Option α} (h : TP P (fun k => g (k + 1))) : TP P g := by obtain ⟨r, h1, h2⟩ := h; exact ⟨r, E.step h1, h2⟩
theorem TP.yes {c : Prop} [Decidable c] {g h : Nat → Option α} (hc : c) (hg : TP P g) : TP P (fun k => if c then g k else h k) := by obtain ⟨r, h1, h2⟩ := hg; exact ⟨r, E.yes hc h1, h2⟩
theorem TP.no {c : Prop} [Decidable c] {g h : Nat → Option α} (hc : ¬ c) (hh : TP P h) : TP P (fun k => if c then g k else h k) := by obtain ⟨r, h1, h2⟩ := hh; exact ⟨r, E.no hc h1, h2⟩
theorem TP.ite {c : Prop} [Decidable c] {g h : Nat → Option α} (hg : c → TP P g) (hh : ¬ c → TP P h) : TP P (fun k => if c then g k else h k) := by
 by_cases hc : c
 · exact TP.yes hc (hg hc)
 · exact TP.no hc (hh hc)
theorem TP.bind {f : Nat → Option β} {g : Nat → β → Option α} (hf : TP Q f) (hg : ∀ a, Q a → TP P (fun k => g k a)) : TP P (fun k => (f k).bind (g k)) := by
 obtain ⟨a, ha, hq⟩ := hf
 obtain ⟨r, h1, h2⟩ := hg a hq
 exact ⟨r, E.bind ha h1, h2⟩
theorem TP.some {a : β} {g : Nat → β → Option α} (hg : TP P (fun k => g k a)) : TP P (fun k => (some a).bind (g k)) := hg
theorem TP.mono {P' : α → Prop} {g : Nat → Option α} (h : TP P g) (hp : ∀ r, P r → P' r) : TP P' g := by obtain ⟨r, h1, h2⟩ := h; exact ⟨r, h1, hp r h2⟩
end
theorem rdS15 (l : List ByteArray) (i : Nat) : rdOf ByteArray.empty l (i : Int) = l.getD i ByteArray.empty := rfl
/-- A machine's schema, more closely. -/
structure OkC (l0 : List SE) (l1 : List SM) : Prop where
 le0 : l0.length * 40 ≤ 140737488351232
 le1 : l1.length * 64 ≤ 140737488351232
 e : ∀ x ∈ l0, x.f1.length * 24 ≤ 140737488351232 ∧ x.f0.size ≤ 140737488351232 ∧ ∀ y ∈ x.f1, y.f0.size ≤ 140737488351232
 m : ∀ x ∈ l1, x.f1.length * 72 ≤ 140737488351232 ∧ x.f2.length * 8 ≤ 140737488351232 ∧ x.f0.size ≤ 140737488351232 ∧ ∀ y ∈ x.f1, y.f0.size ≤ 140737488351232 ∧ y.f3.size ≤ 140737488351232 ∧ y.f6.size ≤ 140737488351232
theorem okC_of {l0 : List SE} {l1 : List SM} (h : ok35 ⟨l0, l1⟩) : OkC l0 l1 := by
 unfold ok35 at h
 rw [reach_eq] at h
 obtain ⟨⟨h0, h1⟩, h2, h3⟩ := h
 simp only at h0 h1 h2 h3
 refine ⟨h0, h2, fun x hx => ?_, fun x hx => ?_⟩
 · have := h1 x hx
   unfold ok86 at this
   rw [reach_eq] at this
   obtain ⟨a, b, c⟩ := this
   refine ⟨b, a, fun y hy => ?_⟩
   have := c y hy
   unfold ok88 at this
   rw [reach_eq] at this
   exact this.1
 · have := h3 x hx
   unfold ok47 at this
   rw [reach_eq] at this
   obtain ⟨a, ⟨b, d⟩, c, _⟩ := this
   refine ⟨b, c, a, fun y hy => ?_⟩
   have := d y hy
   unfold ok50 at this
   rw [reach_eq] at this
   exact ⟨this.1, this.2.2.2.1, this.2.2.2.2.2.2⟩
theorem letter_T (a : Int) : TP An (fun _ => ecdysisref09_Letter.f a) := by
 unfold ecdysisref09_Letter.f
 repeat' (first | with_reducible exact TP.const trivial | (with_reducible refine TP.yes ?_ ?_; · (simp only [List.length_nil, List.length_cons, List.length_append]; omega)) | (with_reducible refine TP.yes ?_ ?_; · omega) | (with_reducible refine TP.no ?_ ?_; · omega) | with_reducible refine TP.some ?_ | with_reducible refine TP.ite (fun _ => ?_) (fun _ => ?_))
theorem rightW_T (a : ByteArray) (l : List ByteArray) (h : l.length ≤ 1000) : TP An (fun k => ecdysisref09_Right.l1 k a l 0) :=
 up (C := fun i => TP An (fun k => ecdysisref09_Right.l1 k a l (i : Int))) l.length (fun i hi => by
  refine TP.step ?_
  simp only [ecdysisref09_Right.l1]
  repeat' (first | with_reducible exact TP.const trivial | (with_reducible refine TP.yes ?_ ?_; · (simp only [List.length_nil, List.length_cons, List.length_append]; omega)) | (with_reducible refine TP.yes ?_ ?_; · omega) | (with_reducible refine TP.no ?_ ?_; · omega) | with_reducible refine TP.some ?_ | with_reducible refine TP.ite (fun _ => ?_) (fun _ => ?_))) (fun i hi ih => by
  refine TP.step ?_
  simp only [ecdysisref09_Right.l1, w1 hi (by omega : l.length ≤ 9000000000000000000)]
  repeat' (first | with_reducible exact TP.const trivial | with_reducible exact ih | (with_reducible refine TP.yes ?_ ?_; · (simp only [List.length_nil, List.length_cons, List.length_append]; omega)) | (with_reducible refine TP.yes ?_ ?_; · omega) | (with_reducible refine TP.no ?_ ?_; · omega) | with_reducible refine TP.some ?_ | with_reducible refine TP.ite (fun _ => ?_) (fun _ => ?_))) 0
theorem words_len : ∃ l, ecdysisref09_words.f = some l ∧ l.length ≤ 1000 := by
 unfold ecdysisref09_words.f
 exact ⟨_, rfl, by decide⟩
theorem right_T (a : ByteArray) (h : a.size ≤ 140737488351232) : TP An (fun k => ecdysisref09_Right.f k a) := by
 obtain ⟨wl, hwl, hwn⟩ := words_len
 have hl0 : TP An (fun k => ecdysisref09_Right.l0 k a 0) :=
  up (C := fun i => TP An (fun k => ecdysisref09_Right.l0 k a (i : Int))) a.size (fun i hi => by
   refine TP.step ?_
   simp only [ecdysisref09_Right.l0, hwl]
   repeat' (first | with_reducible exact TP.const trivial | with_reducible exact rightW_T a wl hwn | (with_reducible refine TP.yes ?_ ?_; · (simp only [List.length_nil, List.length_cons, List.length_append]; omega)) | (with_reducible refine TP.yes ?_ ?_; · omega) | (with_reducible refine TP.no ?_ ?_; · omega) | with_reducible refine TP.some ?_ | with_reducible refine TP.ite (fun _ => ?_) (fun _ => ?_))) (fun i hi ih => by
   refine TP.step ?_
   simp only [ecdysisref09_Right.l0, w1 hi (by omega : a.size ≤ 9000000000000000000)]
   repeat' (first | with_reducible exact TP.const trivial | with_reducible exact ih | (with_reducible refine TP.yes ?_ ?_; · (simp only [List.length_nil, List.length_cons, List.length_append]; omega)) | (with_reducible refine TP.yes ?_ ?_; · omega) | (with_reducible refine TP.no ?_ ?_; · omega) | with_reducible refine TP.some ?_ | with_reducible refine TP.bind (letter_T _) (fun _ _ => ?_) | with_reducible refine TP.ite (fun _ => ?_) (fun _ => ?_))) 0
 have hj : ∀ b, TP An (fun k => ecdysisref09_Right.j0 k a b) := fun b => by
  refine TP.step ?_
  simp only [ecdysisref09_Right.j0]
  repeat' (first | with_reducible exact TP.const trivial | with_reducible exact hl0 | (with_reducible refine TP.yes ?_ ?_; · (simp only [List.length_nil, List.length_cons, List.length_append]; omega)) | (with_reducible refine TP.yes ?_ ?_; · omega) | (with_reducible refine TP.no ?_ ?_; · omega) | with_reducible refine TP.some ?_ | with_reducible refine TP.ite (fun _ => ?_) (fun _ => ?_))
 unfold ecdysisref09_Right.f
 repeat' (first | with_reducible exact TP.const trivial | with_reducible exact hj _ | (with_reducible refine TP.yes ?_ ?_; · (simp only [List.length_nil, List.length_cons, List.length_append]; omega)) | (with_reducible refine TP.yes ?_ ?_; · omega) | (with_reducible refine TP.no ?_ ?_; · omega) | with_reducible refine TP.some ?_ | with_reducible refine TP.bind (letter_T _) (fun _ _ => ?_) | with_reducible refine TP.ite (fun _ => ?_) (fun _ => ?_))
theorem field04_T (a : Int) : TP An (fun _ => ecdysisref04_Field.f a) := by
 unfold ecdysisref04_Field.f
 repeat' (first | with_reducible exact TP.const trivial | (with_reducible refine TP.yes ?_ ?_; · (simp only [List.length_nil, List.length_cons, List.length_append]; omega)) | (with_reducible refine TP.yes ?_ ?_; · omega) | (with_reducible refine TP.no ?_ ?_; · omega) | with_reducible refine TP.some ?_ | with_reducible refine TP.ite (fun _ => ?_) (fun _ => ?_))
theorem whole_T (a : Int) : TP An (fun _ => ecdysisref11_Whole.f a) := by
 unfold ecdysisref11_Whole.f
 repeat' (first | with_reducible exact TP.const trivial | (with_reducible refine TP.yes ?_ ?_; · (simp only [List.length_nil, List.length_cons, List.length_append]; omega)) | (with_reducible refine TP.yes ?_ ?_; · omega) | (with_reducible refine TP.no ?_ ?_; · omega) | with_reducible refine TP.some ?_ | with_reducible refine TP.ite (fun _ => ?_) (fun _ => ?_))
theorem number_T (a : Int) : TP An (fun _ => ecdysisref11_Number.f a) := by
 unfold ecdysisref11_Number.f
 repeat' (first | with_reducible exact TP.const trivial | (with_reducible refine TP.yes ?_ ?_; · (simp only [List.length_nil, List.length_cons, List.length_append]; omega)) | (with_reducible refine TP.yes ?_ ?_; · omega) | (with_reducible refine TP.no ?_ ?_; · omega) | with_reducible refine TP.some ?_ | with_reducible refine TP.bind (whole_T _) (fun _ _ => ?_) | with_reducible refine TP.ite (fun _ => ?_) (fun _ => ?_))
theorem check14_T (a0 : ByteArray) (a1 a2 : Int) (a3 : ByteArray) (a4 a5 : Bool) (a6 : ByteArray) (h0 : a0.size ≤ 140737488351232) (h3 : a3.size ≤ 140737488351232) (h6 : a6.size ≤ 140737488351232) : TP An (fun k => ecdysisref14_Check.f k a0 a1 a2 a3 a4 a5 a6) := by
 have j3 : ∀ b, TP An (fun k => ecdysisref14_Check.j3 k b a0 a1 a2 a3 a4 a5 a6) := fun b => by
  refine TP.step ?_
  simp only [ecdysisref14_Check.j3]
  repeat' (first | with_reducible exact TP.const trivial | (with_reducible refine TP.yes ?_ ?_; · (simp only [List.length_nil, List.length_cons, List.length_append]; omega)) | (with_reducible refine TP.yes ?_ ?_; · omega) | (with_reducible refine TP.no ?_ ?_; · omega) | with_reducible refine TP.some ?_ | with_reducible refine TP.bind (number_T _) (fun _ _ => ?_) | with_reducible refine TP.ite (fun _ => ?_) (fun _ => ?_))
 have j2 : TP An (fun k => ecdysisref14_Check.j2 k a0 a1 a2 a3 a4 a5 a6) := by
  refine TP.step ?_
  simp only [ecdysisref14_Check.j2]
  repeat' (first | with_reducible exact TP.const trivial | with_reducible exact j3 _ | (with_reducible refine TP.yes ?_ ?_; · (simp only [List.length_nil, List.length_cons, List.length_append]; omega)) | (with_reducible refine TP.yes ?_ ?_; · omega) | (with_reducible refine TP.no ?_ ?_; · omega) | with_reducible refine TP.some ?_ | with_reducible refine TP.bind (field04_T _) (fun _ _ => ?_) | with_reducible refine TP.ite (fun _ => ?_) (fun _ => ?_) | exact j3 _)
 have j1 : ∀ b, TP An (fun k => ecdysisref14_Check.j1 k b a0 a1 a2 a3 a4 a5 a6) := fun b => by
  refine TP.step ?_
  simp only [ecdysisref14_Check.j1]
  repeat' (first | with_reducible exact TP.const trivial | with_reducible exact j2 | (with_reducible refine TP.yes ?_ ?_; · (simp only [List.length_nil, List.length_cons, List.length_append]; omega)) | (with_reducible refine TP.yes ?_ ?_; · omega) | (with_reducible refine TP.no ?_ ?_; · omega) | with_reducible refine TP.some ?_ | with_reducible refine TP.bind (right_T _ h3) (fun _ _ => ?_) | with_reducible refine TP.ite (fun _ => ?_) (fun _ => ?_) | exact j2)
 have j0 : ∀ b, TP An (fun k => ecdysisref14_Check.j0 k b a0 a1 a2 a3 a4 a5 a6) := fun b => by
  refine TP.step ?_
  simp only [ecdysisref14_Check.j0]
  repeat' (first | with_reducible exact TP.const trivial | with_reducible exact j1 _ | (with_reducible refine TP.yes ?_ ?_; · (simp only [List.length_nil, List.length_cons, List.length_append]; omega)) | (with_reducible refine TP.yes ?_ ?_; · omega) | (with_reducible refine TP.no ?_ ?_; · omega) | with_reducible refine TP.some ?_ | with_reducible refine TP.ite (fun _ => ?_) (fun _ => ?_) | exact j1 _)
 unfold ecdysisref14_Check.f
 repeat' (first | with_reducible exact TP.const trivial | with_reducible exact j0 _ | (with_reducible refine TP.yes ?_ ?_; · (simp only [List.length_nil, List.length_cons, List.length_append]; omega)) | (with_reducible refine TP.yes ?_ ?_; · omega) | (with_reducible refine TP.no ?_ ?_; · omega) | with_reducible refine TP.some ?_ | with_reducible refine TP.bind (right_T _ h0) (fun _ _ => ?_) | with_reducible refine TP.bind (right_T _ h6) (fun _ _ => ?_) | with_reducible refine TP.ite (fun _ => ?_) (fun _ => ?_) | exact j0 _)
theorem once_T (l : List ByteArray) (h : l.length ≤ 9000000000000000000) : TP An (fun k => ecdysisref09_Once.f k l) :=
 up (C := fun i => TP An (fun k => ecdysisref09_Once.l0 k l (i : Int))) l.length (fun i hi => by
  refine TP.step ?_
  simp only [ecdysisref09_Once.l0]
  repeat' (first | with_reducible exact TP.const trivial | (with_reducible refine TP.yes ?_ ?_; · (simp only [List.length_nil, List.length_cons, List.length_append]; omega)) | (with_reducible refine TP.yes ?_ ?_; · omega) | (with_reducible refine TP.no ?_ ?_; · omega) | with_reducible refine TP.some ?_ | with_reducible refine TP.ite (fun _ => ?_) (fun _ => ?_))) (fun i hi ih => by
  have inner := up (C := fun j => TP An (fun k => ecdysisref09_Once.l1 k l (i : Int) (j : Int))) i (fun j hj => by
   refine TP.step ?_
   simp only [ecdysisref09_Once.l1, w1 hi h]
   repeat' (first | with_reducible exact TP.const trivial | with_reducible exact ih | (with_reducible refine TP.yes ?_ ?_; · (simp only [List.length_nil, List.length_cons, List.length_append]; omega)) | (with_reducible refine TP.yes ?_ ?_; · omega) | (with_reducible refine TP.no ?_ ?_; · omega) | with_reducible refine TP.some ?_ | with_reducible refine TP.ite (fun _ => ?_) (fun _ => ?_))) (fun j hj jh => by
   refine TP.step ?_
   simp only [ecdysisref09_Once.l1, w1 hj (by omega : i ≤ 9000000000000000000)]
   repeat' (first | with_reducible exact TP.const trivial | with_reducible exact jh | (with_reducible refine TP.yes ?_ ?_; · (simp only [List.length_nil, List.length_cons, List.length_append]; omega)) | (with_reducible refine TP.yes ?_ ?_; · omega) | (with_reducible refine TP.no ?_ ?_; · omega) | with_reducible refine TP.some ?_ | with_reducible refine TP.ite (fun _ => ?_) (fun _ => ?_))) 0
  refine TP.step ?_
  simp only [ecdysisref09_Once.l0]
  repeat' (first | with_reducible exact TP.const trivial | with_reducible exact inner | (with_reducible refine TP.yes ?_ ?_; · (simp only [List.length_nil, List.length_cons, List.length_append]; omega)) | (with_reducible refine TP.yes ?_ ?_; · omega) | (with_reducible refine TP.no ?_ ?_; · omega) | with_reducible refine TP.some ?_ | with_reducible refine TP.ite (fun _ => ?_) (fun _ => ?_) | exact inner)) 0
theorem less1 {i n : Nat} (h1 : 1 ≤ i) (h : i < n) (hn : n ≤ 9000000000000000000) : wrap64 ((i : Int) - 1) = ((i - 1 : Nat) : Int) := by unfold wrap64; omega
theorem rises_T (l : List Int) (h : l.length ≤ 9000000000000000000) : TP An (fun k => ecdysisref15_Rises.f k l) :=
 up (C := fun i => 1 ≤ i → TP An (fun k => ecdysisref15_Rises.l0 k l (i : Int))) l.length (fun i hi h1 => by
  refine TP.step ?_
  simp only [ecdysisref15_Rises.l0]
  repeat' (first | with_reducible exact TP.const trivial | (with_reducible refine TP.yes ?_ ?_; · (simp only [List.length_nil, List.length_cons, List.length_append]; omega)) | (with_reducible refine TP.yes ?_ ?_; · omega) | (with_reducible refine TP.no ?_ ?_; · omega) | with_reducible refine TP.some ?_ | with_reducible refine TP.ite (fun _ => ?_) (fun _ => ?_))) (fun i hi ih h1 => by
  refine TP.step ?_
  simp only [ecdysisref15_Rises.l0, w1 hi h, less1 h1 hi h]
  repeat' (first | with_reducible exact TP.const trivial | with_reducible exact ih (by omega) | (with_reducible refine TP.yes ?_ ?_; · (simp only [List.length_nil, List.length_cons, List.length_append]; omega)) | (with_reducible refine TP.yes ?_ ?_; · omega) | (with_reducible refine TP.no ?_ ?_; · omega) | with_reducible refine TP.some ?_ | with_reducible refine TP.ite (fun _ => ?_) (fun _ => ?_))) 1 (Nat.le_refl _)
theorem rise_T (l : List ByteArray) (h : l.length ≤ 9000000000000000000) : TP An (fun k => ecdysisref09_Rise.f k l) :=
 up (C := fun i => 1 ≤ i → TP An (fun k => ecdysisref09_Rise.l0 k l (i : Int))) l.length (fun i hi h1 => by
  refine TP.step ?_
  simp only [ecdysisref09_Rise.l0]
  repeat' (first | with_reducible exact TP.const trivial | (with_reducible refine TP.yes ?_ ?_; · (simp only [List.length_nil, List.length_cons, List.length_append]; omega)) | (with_reducible refine TP.yes ?_ ?_; · omega) | (with_reducible refine TP.no ?_ ?_; · omega) | with_reducible refine TP.some ?_ | with_reducible refine TP.ite (fun _ => ?_) (fun _ => ?_))) (fun i hi ih h1 => by
  refine TP.step ?_
  simp only [ecdysisref09_Rise.l0, w1 hi h, less1 h1 hi h]
  repeat' (first | with_reducible exact TP.const trivial | with_reducible exact ih (by omega) | (with_reducible refine TP.yes ?_ ?_; · (simp only [List.length_nil, List.length_cons, List.length_append]; omega)) | (with_reducible refine TP.yes ?_ ?_; · omega) | (with_reducible refine TP.no ?_ ?_; · omega) | with_reducible refine TP.some ?_ | with_reducible refine TP.ite (fun _ => ?_) (fun _ => ?_))) 1 (Nat.le_refl _)
theorem nums_T (a : ByteArray) (fs : List SF) (b : List Int) (h : fs.length * 72 ≤ 140737488351232) : TP (fun l : List Int => l.length ≤ fs.length) (fun k => ecdysisref15_Nums.f k a fs b) := by
 have key := up (C := fun i => ∀ acc : List Int, acc.length + (fs.length - i) ≤ fs.length → TP (fun l : List Int => l.length ≤ fs.length) (fun k => ecdysisref15_Nums.l0 k acc (i : Int) a fs b)) fs.length (fun i hi acc ha => by
  refine TP.step ?_
  simp only [ecdysisref15_Nums.l0]
  exact TP.no (by omega) (TP.const (by omega))) (fun i hi ih acc ha => by
  refine TP.step ?_
  simp only [ecdysisref15_Nums.l0, w1 hi (by omega : fs.length ≤ 9000000000000000000)]
  exact TP.yes (by omega) (TP.yes (by omega) (TP.yes (by omega) (ih _ (by simp only [List.length_nil, List.length_cons, List.length_append]; omega))))) 0 [] (by simp)
 exact key
theorem many_T {l0 : List SE} {l1 : List SM} (ok : OkC l0 l1) : TP An (fun k => ecdysisref15_many.f k l0 l1) := by
 have h0 : l0.length ≤ 9000000000000000000 := by have := ok.le0; omega
 have h1 : l1.length ≤ 9000000000000000000 := by have := ok.le1; omega
 have k1 := up (C := fun i => ∀ b, TP An (fun k => ecdysisref15_many.l1 k b (i : Int) l0 l1)) l1.length (fun i hi b => by
  refine TP.step ?_
  simp only [ecdysisref15_many.l1]
  repeat' (first | with_reducible exact TP.const trivial | (with_reducible refine TP.yes ?_ ?_; · (simp only [List.length_nil, List.length_cons, List.length_append]; omega)) | (with_reducible refine TP.yes ?_ ?_; · omega) | (with_reducible refine TP.no ?_ ?_; · omega) | with_reducible refine TP.some ?_ | with_reducible refine TP.ite (fun _ => ?_) (fun _ => ?_))) (fun i hi ih b => by
  refine TP.step ?_
  simp only [ecdysisref15_many.l1, w1 hi h1]
  repeat' (first | with_reducible exact TP.const trivial | with_reducible exact ih _ | (with_reducible refine TP.yes ?_ ?_; · (simp only [List.length_nil, List.length_cons, List.length_append]; omega)) | (with_reducible refine TP.yes ?_ ?_; · omega) | (with_reducible refine TP.no ?_ ?_; · omega) | with_reducible refine TP.some ?_ | with_reducible refine TP.ite (fun _ => ?_) (fun _ => ?_))) 0
 have k0 := up (C := fun i => ∀ b, TP An (fun k => ecdysisref15_many.l0 k b (i : Int) l0 l1)) l0.length (fun i hi b => by
  refine TP.step ?_
  simp only [ecdysisref15_many.l0]
  repeat' (first | with_reducible exact TP.const trivial | with_reducible exact k1 _ | (with_reducible refine TP.yes ?_ ?_; · (simp only [List.length_nil, List.length_cons, List.length_append]; omega)) | (with_reducible refine TP.yes ?_ ?_; · omega) | (with_reducible refine TP.no ?_ ?_; · omega) | with_reducible refine TP.some ?_ | with_reducible refine TP.ite (fun _ => ?_) (fun _ => ?_) | exact k1 _)) (fun i hi ih b => by
  refine TP.step ?_
  simp only [ecdysisref15_many.l0, w1 hi h0]
  repeat' (first | with_reducible exact TP.const trivial | with_reducible exact ih _ | (with_reducible refine TP.yes ?_ ?_; · (simp only [List.length_nil, List.length_cons, List.length_append]; omega)) | (with_reducible refine TP.yes ?_ ?_; · omega) | (with_reducible refine TP.no ?_ ?_; · omega) | with_reducible refine TP.some ?_ | with_reducible refine TP.ite (fun _ => ?_) (fun _ => ?_))) 0
 have j0 : ∀ b, TP An (fun k => ecdysisref15_many.j0 k b l0 l1) := fun b => by
  refine TP.step ?_
  simp only [ecdysisref15_many.j0]
  repeat' (first | with_reducible exact TP.const trivial | with_reducible exact k0 _ | (with_reducible refine TP.yes ?_ ?_; · (simp only [List.length_nil, List.length_cons, List.length_append]; omega)) | (with_reducible refine TP.yes ?_ ?_; · omega) | (with_reducible refine TP.no ?_ ?_; · omega) | with_reducible refine TP.some ?_ | with_reducible refine TP.ite (fun _ => ?_) (fun _ => ?_) | exact k0 _)
 unfold ecdysisref15_many.f
 repeat' (first | with_reducible exact TP.const trivial | with_reducible exact j0 _ | (with_reducible refine TP.yes ?_ ?_; · (simp only [List.length_nil, List.length_cons, List.length_append]; omega)) | (with_reducible refine TP.yes ?_ ?_; · omega) | (with_reducible refine TP.no ?_ ?_; · omega) | with_reducible refine TP.some ?_ | with_reducible refine TP.ite (fun _ => ?_) (fun _ => ?_) | exact j0 _)
/-- None is without values, and there is a message. -/
def Some15 (l0 : List SE) (l1 : List SM) : Prop := l1 ≠ [] ∧ ∀ x ∈ l0, x.f1.length ≠ 0
theorem none_T {l0 : List SE} {l1 : List SM} (ok : OkC l0 l1) : TP (fun r => r = false → Some15 l0 l1) (fun k => ecdysisref15_none.f k l0 l1) := by
 have h0 : l0.length ≤ 9000000000000000000 := by have := ok.le0; omega
 have key := up (C := fun i => ∀ b, TP (fun r => r = false → b = false ∧ ∀ x ∈ l0.drop i, x.f1.length ≠ 0) (fun k => ecdysisref15_none.l0 k b (i : Int) l0 l1)) l0.length (fun i hi b => by
  refine TP.step ?_
  simp only [ecdysisref15_none.l0]
  refine TP.no (by omega) (TP.const fun h => ⟨h, ?_⟩)
  rw [List.drop_of_length_le hi]
  intro x hx
  cases hx) (fun i hi ih b => by
  refine TP.step ?_
  simp only [ecdysisref15_none.l0, w1 hi h0, rdE]
  refine TP.yes (by omega) (TP.ite (fun hb => ?_) (fun hb => TP.yes (by omega) ?_))
  · refine (ih true).mono fun r h hr => ?_
    cases (h hr).1
  · refine (ih _).mono fun r h hr => ?_
    obtain ⟨e1, e2⟩ := h hr
    refine ⟨by simpa using hb, fun x hx => ?_⟩
    rw [drop_getD z86 hi] at hx
    rcases List.mem_cons.1 hx with rfl | hx
    · intro e
      rw [e] at e1
      simp at e1
    · exact e2 x hx) 0 ((l1.length : Int) == 0)
 refine TP.mono (P := fun r => r = false → ((l1.length : Int) == 0) = false ∧ ∀ x ∈ l0.drop 0, x.f1.length ≠ 0) key fun r h hr => ?_
 obtain ⟨e1, e2⟩ := h hr
 rw [List.drop_zero] at e2
 refine ⟨fun e => ?_, e2⟩
 rw [e] at e1
 simp at e1
theorem text_T {l0 : List SE} {l1 : List SM} (ok : OkC l0 l1) : TP An (fun k => ecdysisref15_text.f k l0 l1) := by
 have h0 : l0.length ≤ 9000000000000000000 := by have := ok.le0; omega
 have h1 : l1.length ≤ 9000000000000000000 := by have := ok.le1; omega
 have k2 := up (C := fun i => ∀ b, TP An (fun k => ecdysisref15_text.l2 k b (i : Int) l0 l1)) l1.length (fun i hi b => by
  refine TP.step ?_
  simp only [ecdysisref15_text.l2]
  repeat' (first | with_reducible exact TP.const trivial | (with_reducible refine TP.yes ?_ ?_; · (simp only [List.length_nil, List.length_cons, List.length_append]; omega)) | (with_reducible refine TP.yes ?_ ?_; · omega) | (with_reducible refine TP.no ?_ ?_; · omega) | with_reducible refine TP.some ?_ | with_reducible refine TP.ite (fun _ => ?_) (fun _ => ?_))) (fun i hi ih b => by
  have hm := (ok.m _ (getD_mem (z := z47) hi)).2.2.1
  refine TP.step ?_
  simp only [ecdysisref15_text.l2, w1 hi h1, rdM]
  repeat' (first | with_reducible exact TP.const trivial | with_reducible exact ih _ | (with_reducible refine TP.yes ?_ ?_; · (simp only [List.length_nil, List.length_cons, List.length_append]; omega)) | (with_reducible refine TP.yes ?_ ?_; · omega) | (with_reducible refine TP.no ?_ ?_; · omega) | with_reducible refine TP.some ?_ | with_reducible refine TP.bind (right_T _ hm) (fun _ _ => ?_) | with_reducible refine TP.ite (fun _ => ?_) (fun _ => ?_))) 0
 have k0 := up (C := fun i => ∀ b, TP An (fun k => ecdysisref15_text.l0 k b (i : Int) l0 l1)) l0.length (fun i hi b => by
  refine TP.step ?_
  simp only [ecdysisref15_text.l0]
  repeat' (first | with_reducible exact TP.const trivial | with_reducible exact k2 _ | (with_reducible refine TP.yes ?_ ?_; · (simp only [List.length_nil, List.length_cons, List.length_append]; omega)) | (with_reducible refine TP.yes ?_ ?_; · omega) | (with_reducible refine TP.no ?_ ?_; · omega) | with_reducible refine TP.some ?_ | with_reducible refine TP.ite (fun _ => ?_) (fun _ => ?_) | exact k2 _)) (fun i hi ih b => by
  have he := ok.e _ (getD_mem (z := z86) hi)
  have k1 := up (C := fun j => ∀ b, TP An (fun k => ecdysisref15_text.l1 k b (i : Int) (j : Int) l0 l1)) (l0.getD i z86).f1.length (fun j hj b => by
   refine TP.step ?_
   simp only [ecdysisref15_text.l1, w1 hi h0, rdE]
   repeat' (first | with_reducible exact TP.const trivial | with_reducible exact ih _ | (with_reducible refine TP.yes ?_ ?_; · (simp only [List.length_nil, List.length_cons, List.length_append]; omega)) | (with_reducible refine TP.yes ?_ ?_; · omega) | (with_reducible refine TP.no ?_ ?_; · omega) | with_reducible refine TP.some ?_ | with_reducible refine TP.ite (fun _ => ?_) (fun _ => ?_))) (fun j hj jh b => by
   have hv := he.2.2 _ (getD_mem (z := z88) hj)
   have hw := w1 hj (by omega)
   refine TP.step ?_
   simp only [ecdysisref15_text.l1, rdE, rdV, hw]
   clear hw
   repeat' (first | with_reducible exact TP.const trivial | with_reducible exact jh _ | (with_reducible refine TP.yes ?_ ?_; · (simp only [List.length_nil, List.length_cons, List.length_append]; omega)) | (with_reducible refine TP.yes ?_ ?_; · omega) | (with_reducible refine TP.no ?_ ?_; · omega) | with_reducible refine TP.some ?_ | with_reducible refine TP.bind (right_T _ hv) (fun _ _ => ?_) | with_reducible refine TP.ite (fun _ => ?_) (fun _ => ?_))) 0
  have j1 : ∀ b, TP An (fun k => ecdysisref15_text.j1 k b (i : Int) l0 l1) := fun b => by
   refine TP.step ?_
   simp only [ecdysisref15_text.j1]
   repeat' (first | with_reducible exact TP.const trivial | with_reducible exact k1 _ | (with_reducible refine TP.yes ?_ ?_; · (simp only [List.length_nil, List.length_cons, List.length_append]; omega)) | (with_reducible refine TP.yes ?_ ?_; · omega) | (with_reducible refine TP.no ?_ ?_; · omega) | with_reducible refine TP.some ?_ | with_reducible refine TP.ite (fun _ => ?_) (fun _ => ?_) | exact k1 _)
  refine TP.step ?_
  simp only [ecdysisref15_text.l0, rdE]
  repeat' (first | with_reducible exact TP.const trivial | with_reducible exact j1 _ | (with_reducible refine TP.yes ?_ ?_; · (simp only [List.length_nil, List.length_cons, List.length_append]; omega)) | (with_reducible refine TP.yes ?_ ?_; · omega) | (with_reducible refine TP.no ?_ ?_; · omega) | with_reducible refine TP.some ?_ | with_reducible refine TP.bind (right_T _ he.2.1) (fun _ _ => ?_) | with_reducible refine TP.ite (fun _ => ?_) (fun _ => ?_) | exact j1 _)) 0
 exact k0 false
theorem fields_T {l0 : List SE} {l1 : List SM} (ok : OkC l0 l1) : TP An (fun k => ecdysisref15_fields.f k l0 l1) := by
 have h1 : l1.length ≤ 9000000000000000000 := by have := ok.le1; omega
 exact up (C := fun i => TP An (fun k => ecdysisref15_fields.l0 k (i : Int) l0 l1)) l1.length (fun i hi => by
  refine TP.step ?_
  simp only [ecdysisref15_fields.l0]
  repeat' (first | with_reducible exact TP.const trivial | (with_reducible refine TP.yes ?_ ?_; · (simp only [List.length_nil, List.length_cons, List.length_append]; omega)) | (with_reducible refine TP.yes ?_ ?_; · omega) | (with_reducible refine TP.no ?_ ?_; · omega) | with_reducible refine TP.some ?_ | with_reducible refine TP.ite (fun _ => ?_) (fun _ => ?_))) (fun i hi ih => by
  have hm := ok.m _ (getD_mem (z := z47) hi)
  have k1 := up (C := fun j => TP An (fun k => ecdysisref15_fields.l1 k (i : Int) (j : Int) l0 l1)) (l1.getD i z47).f1.length (fun j hj => by
   refine TP.step ?_
   simp only [ecdysisref15_fields.l1, w1 hi h1, rdM]
   repeat' (first | with_reducible exact TP.const trivial | with_reducible exact ih | (with_reducible refine TP.yes ?_ ?_; · (simp only [List.length_nil, List.length_cons, List.length_append]; omega)) | (with_reducible refine TP.yes ?_ ?_; · omega) | (with_reducible refine TP.no ?_ ?_; · omega) | with_reducible refine TP.some ?_ | with_reducible refine TP.ite (fun _ => ?_) (fun _ => ?_))) (fun j hj jh => by
   have hv := hm.2.2.2 _ (getD_mem (z := z50) hj)
   have hw := w1 hj (by omega)
   refine TP.step ?_
   simp only [ecdysisref15_fields.l1, rdM, rdF, hw]
   clear hw
   repeat' (first | with_reducible exact TP.const trivial | with_reducible exact jh | (with_reducible refine TP.yes ?_ ?_; · (simp only [List.length_nil, List.length_cons, List.length_append]; omega)) | (with_reducible refine TP.yes ?_ ?_; · omega) | (with_reducible refine TP.no ?_ ?_; · omega) | with_reducible refine TP.some ?_ | with_reducible refine TP.bind (check14_T _ _ _ _ _ _ _ hv.1 hv.2.1 hv.2.2) (fun _ _ => ?_) | with_reducible refine TP.ite (fun _ => ?_) (fun _ => ?_))) 0
  refine TP.step ?_
  simp only [ecdysisref15_fields.l0]
  repeat' (first | with_reducible exact TP.const trivial | with_reducible exact k1 | (with_reducible refine TP.yes ?_ ?_; · (simp only [List.length_nil, List.length_cons, List.length_append]; omega)) | (with_reducible refine TP.yes ?_ ?_; · omega) | (with_reducible refine TP.no ?_ ?_; · omega) | with_reducible refine TP.some ?_ | with_reducible refine TP.ite (fun _ => ?_) (fun _ => ?_) | exact k1)) 0
theorem twice_T {l0 : List SE} {l1 : List SM} (ok : OkC l0 l1) : TP An (fun k => ecdysisref15_twice.f k l0 l1) := by
 have hb0 := ok.le0
 have hb1 := ok.le1
 have h0 : l0.length ≤ 9000000000000000000 := by omega
 have h1 : l1.length ≤ 9000000000000000000 := by omega
 have k2 := up (C := fun i => ∀ (b : Bool) (ns : List ByteArray), ns.length + (l1.length - i) ≤ l0.length + l1.length → TP An (fun k => ecdysisref15_twice.l2 k ns b (i : Int) l0 l1)) l1.length (fun i hi b ns hn => by
  refine TP.step ?_
  simp only [ecdysisref15_twice.l2]
  repeat' (first | with_reducible exact TP.const trivial | (with_reducible refine TP.yes ?_ ?_; · (simp only [List.length_nil, List.length_cons, List.length_append]; omega)) | (with_reducible refine TP.yes ?_ ?_; · omega) | (with_reducible refine TP.no ?_ ?_; · omega) | with_reducible refine TP.some ?_ | with_reducible refine TP.bind (once_T ns (by omega)) (fun _ _ => ?_) | with_reducible refine TP.ite (fun _ => ?_) (fun _ => ?_))) (fun i hi ih b ns hn => by
  have hm := ok.m _ (getD_mem (z := z47) hi)
  generalize hmm : l1.getD i z47 = m at hm
  have hns : (ns ++ [m.f0]).length + (l1.length - (i + 1)) ≤ l0.length + l1.length := by simp only [List.length_nil, List.length_cons, List.length_append]; omega
  have k4 := fun (acc : List ByteArray) (hacc : acc.length ≤ m.f1.length) => up (C := fun j => ∀ b, TP An (fun k => ecdysisref15_twice.l4 k (ns ++ [m.f0]) b (i : Int) m.f1 acc (j : Int) l0 l1)) m.f1.length (fun j hj b => by
   refine TP.step ?_
   simp only [ecdysisref15_twice.l4, w1 hi h1]
   repeat' (first | with_reducible exact TP.const trivial | with_reducible exact ih _ _ hns | (with_reducible refine TP.yes ?_ ?_; · (simp only [List.length_nil, List.length_cons, List.length_append]; omega)) | (with_reducible refine TP.yes ?_ ?_; · omega) | (with_reducible refine TP.no ?_ ?_; · omega) | with_reducible refine TP.some ?_ | with_reducible refine TP.ite (fun _ => ?_) (fun _ => ?_))) (fun j hj jh b => by
   have hw := w1 hj (by omega)
   refine TP.step ?_
   simp only [ecdysisref15_twice.l4, rdF, hw]
   clear hw
   repeat' (first | with_reducible exact TP.const trivial | with_reducible exact jh _ | (with_reducible refine TP.yes ?_ ?_; · (simp only [List.length_nil, List.length_cons, List.length_append]; omega)) | (with_reducible refine TP.yes ?_ ?_; · omega) | (with_reducible refine TP.no ?_ ?_; · omega) | with_reducible refine TP.some ?_ | with_reducible refine TP.bind (once_T _ (by simp only [List.length_nil, List.length_cons, List.length_append]; omega)) (fun _ _ => ?_) | with_reducible refine TP.ite (fun _ => ?_) (fun _ => ?_))) 0
  have j4 := fun (acc : List ByteArray) (hacc : acc.length ≤ m.f1.length) (b : Bool) => (TP.step (by
   simp only [ecdysisref15_twice.j4]
   exact k4 acc hacc b) : TP An (fun k => ecdysisref15_twice.j4 k (ns ++ [m.f0]) b (i : Int) m.f1 acc l0 l1))
  have k3 := up (C := fun j => ∀ (acc : List ByteArray), acc.length + (m.f1.length - j) ≤ m.f1.length → TP An (fun k => ecdysisref15_twice.l3 k (ns ++ [m.f0]) b (i : Int) m.f1 acc (j : Int) l0 l1)) m.f1.length (fun j hj acc ha => by
   refine TP.step ?_
   simp only [ecdysisref15_twice.l3]
   repeat' (first | with_reducible exact TP.const trivial | with_reducible exact j4 acc (by omega) _ | (with_reducible refine TP.yes ?_ ?_; · (simp only [List.length_nil, List.length_cons, List.length_append]; omega)) | (with_reducible refine TP.yes ?_ ?_; · omega) | (with_reducible refine TP.no ?_ ?_; · omega) | with_reducible refine TP.some ?_ | with_reducible refine TP.bind (once_T acc (by omega)) (fun _ _ => ?_) | with_reducible refine TP.ite (fun _ => ?_) (fun _ => ?_) | exact j4 acc (by omega) _)) (fun j hj jh acc ha => by
   have hw := w1 hj (by omega)
   refine TP.step ?_
   simp only [ecdysisref15_twice.l3, rdF, hw]
   clear hw
   repeat' (first | with_reducible exact TP.const trivial | with_reducible exact jh _ (by simp only [List.length_nil, List.length_cons, List.length_append]; omega) | (with_reducible refine TP.yes ?_ ?_; · (simp only [List.length_nil, List.length_cons, List.length_append]; omega)) | (with_reducible refine TP.yes ?_ ?_; · omega) | (with_reducible refine TP.no ?_ ?_; · omega) | with_reducible refine TP.some ?_ | with_reducible refine TP.ite (fun _ => ?_) (fun _ => ?_))) 0 [] (by simp)
  refine TP.step ?_
  simp only [ecdysisref15_twice.l2, rdM, hmm]
  repeat' (first | with_reducible exact TP.const trivial | with_reducible exact k3 | (with_reducible refine TP.yes ?_ ?_; · (simp only [List.length_nil, List.length_cons, List.length_append]; omega)) | (with_reducible refine TP.yes ?_ ?_; · omega) | (with_reducible refine TP.no ?_ ?_; · omega) | with_reducible refine TP.some ?_ | with_reducible refine TP.ite (fun _ => ?_) (fun _ => ?_) | exact k3)) 0
 have k0 := up (C := fun i => ∀ (b : Bool) (ns : List ByteArray), ns.length + (l0.length - i) ≤ l0.length → TP An (fun k => ecdysisref15_twice.l0 k ns b (i : Int) l0 l1)) l0.length (fun i hi b ns hn => by
  refine TP.step ?_
  simp only [ecdysisref15_twice.l0]
  repeat' (first | with_reducible exact TP.const trivial | with_reducible exact k2 _ _ (by omega) | (with_reducible refine TP.yes ?_ ?_; · (simp only [List.length_nil, List.length_cons, List.length_append]; omega)) | (with_reducible refine TP.yes ?_ ?_; · omega) | (with_reducible refine TP.no ?_ ?_; · omega) | with_reducible refine TP.some ?_ | with_reducible refine TP.ite (fun _ => ?_) (fun _ => ?_) | exact k2 _ _ (by omega))) (fun i hi ih b ns hn => by
  have he := (ok.e _ (getD_mem (z := z86) hi)).1
  have hns : (ns ++ [(l0.getD i z86).f0]).length + (l0.length - (i + 1)) ≤ l0.length := by simp only [List.length_nil, List.length_cons, List.length_append]; omega
  have k1 := up (C := fun j => ∀ (acc : List ByteArray), acc.length + ((l0.getD i z86).f1.length - j) ≤ (l0.getD i z86).f1.length → TP An (fun k => ecdysisref15_twice.l1 k (ns ++ [(l0.getD i z86).f0]) b (i : Int) acc (j : Int) l0 l1)) (l0.getD i z86).f1.length (fun j hj acc ha => by
   refine TP.step ?_
   simp only [ecdysisref15_twice.l1, rdE, w1 hi h0]
   repeat' (first | with_reducible exact TP.const trivial | with_reducible exact ih _ _ hns | (with_reducible refine TP.yes ?_ ?_; · (simp only [List.length_nil, List.length_cons, List.length_append]; omega)) | (with_reducible refine TP.yes ?_ ?_; · omega) | (with_reducible refine TP.no ?_ ?_; · omega) | with_reducible refine TP.some ?_ | with_reducible refine TP.bind (once_T acc (by omega)) (fun _ _ => ?_) | with_reducible refine TP.ite (fun _ => ?_) (fun _ => ?_))) (fun j hj jh acc ha => by
   have hw := w1 hj (by omega)
   refine TP.step ?_
   simp only [ecdysisref15_twice.l1, rdE, rdV, hw]
   clear hw
   repeat' (first | with_reducible exact TP.const trivial | with_reducible exact jh _ (by simp only [List.length_nil, List.length_cons, List.length_append]; omega) | (with_reducible refine TP.yes ?_ ?_; · (simp only [List.length_nil, List.length_cons, List.length_append]; omega)) | (with_reducible refine TP.yes ?_ ?_; · omega) | (with_reducible refine TP.no ?_ ?_; · omega) | with_reducible refine TP.some ?_ | with_reducible refine TP.ite (fun _ => ?_) (fun _ => ?_))) 0 [] (by simp)
  refine TP.step ?_
  simp only [ecdysisref15_twice.l0, rdE]
  repeat' (first | with_reducible exact TP.const trivial | with_reducible exact k1 | (with_reducible refine TP.yes ?_ ?_; · (simp only [List.length_nil, List.length_cons, List.length_append]; omega)) | (with_reducible refine TP.yes ?_ ?_; · omega) | (with_reducible refine TP.no ?_ ?_; · omega) | with_reducible refine TP.some ?_ | with_reducible refine TP.ite (fun _ => ?_) (fun _ => ?_) | exact k1)) 0
 exact k0 false [] (by simp)
theorem lessL {n : Nat} (h1 : n ≠ 0) (h : n ≤ 9000000000000000000) : wrap64 ((n : Int) - 1) = ((n - 1 : Nat) : Int) := by unfold wrap64; omega
theorem order_T {l0 : List SE} {l1 : List SM} (ok : OkC l0 l1) (sm : Some15 l0 l1) : TP An (fun k => ecdysisref15_order.f k l0 l1) := by
 have hb0 := ok.le0
 have hb1 := ok.le1
 have h0 : l0.length ≤ 9000000000000000000 := by omega
 have h1 : l1.length ≤ 9000000000000000000 := by omega
 have k2 := up (C := fun i => ∀ (b : Bool) (ns : List ByteArray), ns.length + (l1.length - i) ≤ l1.length → TP An (fun k => ecdysisref15_order.l2 k b ns (i : Int) l0 l1)) l1.length (fun i hi b ns hn => by
  refine TP.step ?_
  simp only [ecdysisref15_order.l2]
  repeat' (first | with_reducible exact TP.const trivial | (with_reducible refine TP.yes ?_ ?_; · (simp only [List.length_nil, List.length_cons, List.length_append]; omega)) | (with_reducible refine TP.yes ?_ ?_; · omega) | (with_reducible refine TP.no ?_ ?_; · omega) | with_reducible refine TP.some ?_ | with_reducible refine TP.bind (rise_T ns (by omega)) (fun _ _ => ?_) | with_reducible refine TP.ite (fun _ => ?_) (fun _ => ?_))) (fun i hi ih b ns hn => by
  have hm := ok.m _ (getD_mem (z := z47) hi)
  generalize hmm : l1.getD i z47 = m at hm
  have hns : (ns ++ [m.f0]).length + (l1.length - (i + 1)) ≤ l1.length := by simp only [List.length_nil, List.length_cons, List.length_append]; omega
  have hn2 : ns.length + (l1.length - (i + 1)) ≤ l1.length := by omega
  have hnum := nums_T m.f0 m.f1 m.f2 hm.1
  refine TP.step ?_
  simp only [ecdysisref15_order.l2, rdM, hmm, w1 hi h1]
  by_cases hz : m.f2.length = 0
  · repeat' (first | with_reducible exact TP.const trivial | with_reducible exact ih _ _ hns | with_reducible exact ih _ _ hn2 | (with_reducible refine TP.yes ?_ ?_; · omega) | (with_reducible refine TP.no ?_ ?_; · omega) | with_reducible refine TP.some ?_ | with_reducible refine TP.bind hnum (fun l hl => TP.bind (rises_T l (by omega)) (fun _ _ => ?_)) | with_reducible refine TP.bind (rises_T m.f2 (by omega)) (fun _ _ => ?_) | with_reducible refine TP.ite (fun _ => ?_) (fun _ => ?_))
  · have hlz := lessL hz (by omega)
    simp only [hlz]
    clear hlz
    repeat' (first | with_reducible exact TP.const trivial | with_reducible exact ih _ _ hns | with_reducible exact ih _ _ hn2 | (with_reducible refine TP.yes ?_ ?_; · omega) | (with_reducible refine TP.no ?_ ?_; · omega) | with_reducible refine TP.some ?_ | with_reducible refine TP.bind hnum (fun l hl => TP.bind (rises_T l (by omega)) (fun _ _ => ?_)) | with_reducible refine TP.bind (rises_T m.f2 (by omega)) (fun _ _ => ?_) | with_reducible refine TP.ite (fun _ => ?_) (fun _ => ?_))) 0
 have j2 : ∀ b, TP An (fun k => ecdysisref15_order.j2 k b l0 l1) := fun b => by
  refine TP.step ?_
  simp only [ecdysisref15_order.j2]
  exact k2 b [] (by simp)
 have k0 := up (C := fun i => ∀ (b : Bool) (ns : List ByteArray), ns.length + (l0.length - i) ≤ l0.length → TP An (fun k => ecdysisref15_order.l0 k b ns (i : Int) l0 l1)) l0.length (fun i hi b ns hn => by
  refine TP.step ?_
  simp only [ecdysisref15_order.l0]
  repeat' (first | with_reducible exact TP.const trivial | with_reducible exact j2 _ | (with_reducible refine TP.yes ?_ ?_; · (simp only [List.length_nil, List.length_cons, List.length_append]; omega)) | (with_reducible refine TP.yes ?_ ?_; · omega) | (with_reducible refine TP.no ?_ ?_; · omega) | with_reducible refine TP.some ?_ | with_reducible refine TP.bind (rise_T ns (by omega)) (fun _ _ => ?_) | with_reducible refine TP.ite (fun _ => ?_) (fun _ => ?_) | exact j2 _)) (fun i hi ih b ns hn => by
  have he := ok.e _ (getD_mem (z := z86) hi)
  have hne := sm.2 _ (getD_mem (z := z86) hi)
  generalize hmm : l0.getD i z86 = m at he hne
  have hns : (ns ++ [m.f0]).length + (l0.length - (i + 1)) ≤ l0.length := by simp only [List.length_nil, List.length_cons, List.length_append]; omega
  have k1 := up (C := fun j => ∀ (acc : List Int), acc.length + (m.f1.length - j) = m.f1.length → TP An (fun k => ecdysisref15_order.l1 k b (ns ++ [m.f0]) (i : Int) acc (j : Int) l0 l1)) m.f1.length (fun j hj acc ha => by
    have hlz := lessL (n := acc.length) (by omega) (by omega)
    refine TP.step ?_
    simp only [ecdysisref15_order.l1, rdE, hmm, w1 hi h0, hlz]
    clear hlz
    repeat' (first | with_reducible exact TP.const trivial | with_reducible exact ih _ _ hns | (with_reducible refine TP.yes ?_ ?_; · (simp only [List.length_nil, List.length_cons, List.length_append]; omega)) | (with_reducible refine TP.yes ?_ ?_; · omega) | (with_reducible refine TP.no ?_ ?_; · omega) | with_reducible refine TP.some ?_ | with_reducible refine TP.bind (rises_T acc (by omega)) (fun _ _ => ?_) | with_reducible refine TP.ite (fun _ => ?_) (fun _ => ?_))) (fun j hj jh acc ha => by
    have hw := w1 hj (by omega)
    refine TP.step ?_
    simp only [ecdysisref15_order.l1, rdE, rdV, hmm, hw]
    clear hw
    repeat' (first | with_reducible exact TP.const trivial | with_reducible exact jh _ (by simp only [List.length_nil, List.length_cons, List.length_append]; omega) | (with_reducible refine TP.yes ?_ ?_; · (simp only [List.length_nil, List.length_cons, List.length_append]; omega)) | (with_reducible refine TP.yes ?_ ?_; · omega) | (with_reducible refine TP.no ?_ ?_; · omega) | with_reducible refine TP.some ?_ | with_reducible refine TP.ite (fun _ => ?_) (fun _ => ?_))) 0 [] (by simp)
  refine TP.step ?_
  simp only [ecdysisref15_order.l0, rdE, hmm]
  repeat' (first | with_reducible exact TP.const trivial | with_reducible exact k1 | (with_reducible refine TP.yes ?_ ?_; · (simp only [List.length_nil, List.length_cons, List.length_append]; omega)) | (with_reducible refine TP.yes ?_ ?_; · omega) | (with_reducible refine TP.no ?_ ?_; · omega) | with_reducible refine TP.some ?_ | with_reducible refine TP.ite (fun _ => ?_) (fun _ => ?_) | exact k1)) 0
 exact k0 false [] (by simp)
theorem barred_T {l0 : List SE} {l1 : List SM} (ok : OkC l0 l1) : TP An (fun k => ecdysisref15_barred.f k l0 l1) := by
 have h1 : l1.length ≤ 9000000000000000000 := by have := ok.le1; omega
 exact up (C := fun i => TP An (fun k => ecdysisref15_barred.l0 k (i : Int) l0 l1)) l1.length (fun i hi => by
  refine TP.step ?_
  simp only [ecdysisref15_barred.l0]
  repeat' (first | with_reducible exact TP.const trivial | (with_reducible refine TP.yes ?_ ?_; · (simp only [List.length_nil, List.length_cons, List.length_append]; omega)) | (with_reducible refine TP.yes ?_ ?_; · omega) | (with_reducible refine TP.no ?_ ?_; · omega) | with_reducible refine TP.some ?_ | with_reducible refine TP.ite (fun _ => ?_) (fun _ => ?_))) (fun i hi ih => by
  have hm := ok.m _ (getD_mem (z := z47) hi)
  have k1 := up (C := fun j => TP An (fun k => ecdysisref15_barred.l1 k (i : Int) (j : Int) l0 l1)) (l1.getD i z47).f1.length (fun j hj => by
   refine TP.step ?_
   simp only [ecdysisref15_barred.l1, w1 hi h1, rdM]
   repeat' (first | with_reducible exact TP.const trivial | with_reducible exact ih | (with_reducible refine TP.yes ?_ ?_; · (simp only [List.length_nil, List.length_cons, List.length_append]; omega)) | (with_reducible refine TP.yes ?_ ?_; · omega) | (with_reducible refine TP.no ?_ ?_; · omega) | with_reducible refine TP.some ?_ | with_reducible refine TP.ite (fun _ => ?_) (fun _ => ?_))) (fun j hj jh => by
   have hw := w1 hj (by omega)
   refine TP.step ?_
   simp only [ecdysisref15_barred.l1, rdM, rdF, hw]
   clear hw
   repeat' (first | with_reducible exact TP.const trivial | with_reducible exact jh | (with_reducible refine TP.yes ?_ ?_; · (simp only [List.length_nil, List.length_cons, List.length_append]; omega)) | (with_reducible refine TP.yes ?_ ?_; · omega) | (with_reducible refine TP.no ?_ ?_; · omega) | with_reducible refine TP.some ?_ | with_reducible refine TP.bind (TP.of (P := An) (has_E _ _ (by omega)) trivial) (fun _ _ => ?_) | with_reducible refine TP.ite (fun _ => ?_) (fun _ => ?_))) 0
  refine TP.step ?_
  simp only [ecdysisref15_barred.l0]
  repeat' (first | with_reducible exact TP.const trivial | with_reducible exact k1 | (with_reducible refine TP.yes ?_ ?_; · (simp only [List.length_nil, List.length_cons, List.length_append]; omega)) | (with_reducible refine TP.yes ?_ ?_; · omega) | (with_reducible refine TP.no ?_ ?_; · omega) | with_reducible refine TP.some ?_ | with_reducible refine TP.ite (fun _ => ?_) (fun _ => ?_) | exact k1)) 0
/-- What fields name is there. -/
def Refs15 (l1 : List SM) : Prop := ∀ m ∈ l1, ∀ f ∈ m.f1, f.f2 = 15 → 0 ≤ msgAt l1 f.f3
theorem refs_T {l0 : List SE} {l1 : List SM} (ok : OkC l0 l1) : TP (fun r => r = false → Refs15 l1) (fun k => ecdysisref15_refs.f k l0 l1) := by
 have h0 : l0.length ≤ 9000000000000000000 := by have := ok.le0; omega
 have h1 : l1.length ≤ 9000000000000000000 := by have := ok.le1; omega
 have key := up (C := fun i => TP (fun r => r = false → ∀ m ∈ l1.drop i, ∀ f ∈ m.f1, f.f2 = 15 → 0 ≤ msgAt l1 f.f3) (fun k => ecdysisref15_refs.l0 k (i : Int) l0 l1)) l1.length (fun i hi => by
  refine TP.step ?_
  simp only [ecdysisref15_refs.l0]
  refine TP.no (by omega) (TP.const fun _ => ?_)
  rw [List.drop_of_length_le hi]
  intro x hx
  cases hx) (fun i hi ih => by
  have hm := ok.m _ (getD_mem (z := z47) hi)
  have k1 := up (C := fun j => TP (fun r => r = false → (∀ f ∈ (l1.getD i z47).f1.drop j, f.f2 = 15 → 0 ≤ msgAt l1 f.f3) ∧ ∀ m ∈ l1.drop (i + 1), ∀ f ∈ m.f1, f.f2 = 15 → 0 ≤ msgAt l1 f.f3) (fun k => ecdysisref15_refs.l1 k (i : Int) (j : Int) l0 l1)) (l1.getD i z47).f1.length (fun j hj => by
    refine TP.step ?_
    simp only [ecdysisref15_refs.l1, w1 hi h1, rdM]
    refine TP.yes (by omega) (TP.yes (by omega) (TP.no (by omega) (ih.mono fun r h hr => ⟨?_, h hr⟩)))
    rw [List.drop_of_length_le hj]
    intro x hx
    cases hx) (fun j hj jh => by
    have hw := w1 hj (by omega)
    have go : ((((l1.getD i z47).f1.getD j z50).f2 = 15 → 0 ≤ msgAt l1 ((l1.getD i z47).f1.getD j z50).f3)) → TP (fun r => r = false → (∀ f ∈ (l1.getD i z47).f1.drop j, f.f2 = 15 → 0 ≤ msgAt l1 f.f3) ∧ ∀ m ∈ l1.drop (i + 1), ∀ f ∈ m.f1, f.f2 = 15 → 0 ≤ msgAt l1 f.f3) (fun k => ecdysisref15_refs.l1 k (i : Int) ((j + 1 : Nat) : Int) l0 l1) := fun hg => jh.mono fun r h hr => by
      obtain ⟨e1, e2⟩ := h hr
      refine ⟨fun f hf => ?_, e2⟩
      rw [drop_getD z50 hj] at hf
      rcases List.mem_cons.1 hf with rfl | hf
      · exact hg
      · exact e1 f hf
    refine TP.step ?_
    simp only [ecdysisref15_refs.l1, rdM, rdF, hw]
    clear hw
    refine TP.yes (by omega) (TP.yes (by omega) (TP.yes (by omega) (TP.yes (by omega) (TP.ite (fun h14 => ?_) (fun h14 => TP.ite (fun h15 => ?_) (fun h15 => go fun h => absurd h h15))))))
    · refine TP.bind (TP.of (P := An) (enum_E l0 l1 _ h0) trivial) (fun _ _ => TP.ite (fun _ => TP.const fun h => by cases h) (fun _ => TP.ite (fun h15 => absurd (h14.symm.trans h15) (by decide)) (fun h15 => go fun h => absurd h h15)))
    · refine TP.bind (TP.of (P := fun r => r = msgAt l1 ((l1.getD i z47).f1.getD j z50).f3) (message_E l0 l1 _ h1) rfl) (fun r hr => ?_)
      subst hr
      exact TP.ite (fun _ => TP.const fun h => by cases h) (fun hn => go fun _ => by omega)) 0
  refine TP.step ?_
  simp only [ecdysisref15_refs.l0]
  refine TP.yes (by omega) (TP.mono (P := fun r => r = false → (∀ f ∈ (l1.getD i z47).f1.drop 0, f.f2 = 15 → 0 ≤ msgAt l1 f.f3) ∧ ∀ m ∈ l1.drop (i + 1), ∀ f ∈ m.f1, f.f2 = 15 → 0 ≤ msgAt l1 f.f3) k1 fun r h hr => ?_)
  obtain ⟨e1, e2⟩ := h hr
  intro m hmm
  rw [drop_getD z47 hi] at hmm
  rcases List.mem_cons.1 hmm with rfl | hmm
  · rw [List.drop_zero] at e1
    exact e1
  · exact e2 m hmm) 0
 exact TP.mono (P := fun r => r = false → ∀ m ∈ l1.drop 0, ∀ f ∈ m.f1, f.f2 = 15 → 0 ≤ msgAt l1 f.f3) key fun r h hr => by
  have := h hr
  rw [List.drop_zero] at this
  exact this
/-- Check tells something; of schemas in which all is well there is a message, and what fields name is there. -/
theorem check15_T {l0 : List SE} {l1 : List SM} (ok : OkC l0 l1) : TP (fun r : Int => r = 0 → Some15 l0 l1 ∧ Refs15 l1) (fun k => ecdysisref15_Check.f k l0 l1) := by
 unfold ecdysisref15_Check.f
 refine TP.bind (many_T ok) (fun _ _ => TP.ite (fun _ => TP.const fun h => by cases h) (fun _ => ?_))
 refine TP.bind (none_T ok) (fun n hn => TP.ite (fun _ => TP.const fun h => by cases h) (fun hn0 => ?_))
 have sm := hn (by simpa using hn0)
 refine TP.bind (text_T ok) (fun _ _ => TP.ite (fun _ => TP.const fun h => by cases h) (fun _ => ?_))
 refine TP.bind (fields_T ok) (fun e _ => TP.ite (fun _ => ?_) (fun he => TP.const fun h => absurd h he))
 refine TP.bind (twice_T ok) (fun _ _ => TP.ite (fun _ => TP.const fun h => by cases h) (fun _ => ?_))
 refine TP.bind (order_T ok sm) (fun _ _ => TP.ite (fun _ => TP.const fun h => by cases h) (fun _ => ?_))
 refine TP.bind (barred_T ok) (fun _ _ => TP.ite (fun _ => TP.const fun h => by cases h) (fun _ => ?_))
 refine TP.bind (refs_T ok) (fun r hr => TP.ite (fun _ => TP.const fun h => by cases h) (fun hr0 => TP.const fun _ => ⟨sm, hr (by simpa using hr0)⟩))
end Go.Proofs.Ytbpnfpckoapdbaa.P16
end
section
namespace Go.Proofs.Ytbpnfpckoapdbaa.P16
open Go.RowKit Go.Proofs.YtbpnfpckoapdbaaW.PrintWords Go.Proofs.YtbpnfpckoapdbaaW.PrintLast Go.Proofs.YtbpnfpckoapdbaaW.PrintMore Go.Proofs.Ytbpnfpckoapdbaa.KD Go.Proofs.Ytbpnfpckoapdbaa.M Go.Proofs.Ytbpnfpckoapdbaa.PF16 Go.Proofs.Ytbpnfpckoapdbaa.Ev Go.Proofs.Ytbpnfpckoapdbaa.Ops
set_option linter.unusedVariables false
set_option linter.unusedSimpArgs false
theorem addR_mem {ms : List SM} {t : List ByteArray} {r : ByteArray} (h : 0 ≤ msgAt ms r) : r ∈ addR ms t r := by
 unfold addR
 rw [decide_eq_false (by omega), Bool.false_or]
 split
 · rename_i hh
   exact (has_iff t r).1 hh
 · exact List.mem_append_right _ (List.mem_singleton.2 rfl)
theorem extR_mem {ms : List SM} : ∀ (l : List ByteArray) (t : List ByteArray) {r : ByteArray}, r ∈ l → 0 ≤ msgAt ms r → r ∈ extR ms t l
 | a :: l, t, r, hr, h => by
  have e : extR ms t (a :: l) = extR ms (addR ms t a) l := rfl
  rw [e]
  rcases List.mem_cons.1 hr with rfl | hr
  · exact (extR_pre ms l _).subset (addR_mem h)
  · exact extR_mem l _ hr h
theorem kinA_closed {ms : List SM} : ∀ (f i : Nat) (told : List ByteArray), M.Told ms told → i ≤ told.length → ms.length < f + i → ∀ x ∈ kinA ms f i told, x ∈ told.take i ∨ ∀ r ∈ refsL (fieldsAt ms x), 0 ≤ msgAt ms r → r ∈ kinA ms f i told
 | 0, i, told, ht, hi, hf => by have := ht.le; omega
 | f + 1, i, told, ht, hi, hf => by
  intro y hy
  rcases hx : told[i]? with _ | x
  · have hl : told.length ≤ i := List.getElem?_eq_none_iff.1 hx
    have hA : kinA ms (f + 1) i told = told := by simp only [kinA, hx]
    rw [hA] at hy
    rw [List.take_of_length_le hl]
    exact .inl hy
  · have hl := (List.getElem?_eq_some_iff.1 hx).1
    have hsn : told.take i ++ [x] = told.take (i + 1) := (take_snoc' hx).symm
    have hA : kinA ms (f + 1) i told = kinA ms f (i + 1) (extR ms told (refsL (fieldsAt ms x))) := by simp only [kinA, hx]
    have hp := extR_pre ms (refsL (fieldsAt ms x)) told
    have hle := hp.length_le
    rw [hA] at hy ⊢
    rcases kinA_closed f (i + 1) _ ht.ext (by omega) (by omega) y hy with h | h
    · rw [← pre_take hp (i + 1) (by omega), ← hsn] at h
      rcases List.mem_append.1 h with h | h
      · exact .inl h
      · obtain rfl := List.mem_singleton.1 h
        exact .inr fun r hr hm => (kinA_pre ms f (i + 1) _).subset (extR_mem _ _ hr hm)
    · exact .inr h
theorem refsL_mem : ∀ {fs : List SF} {f : SF}, f ∈ fs → f.f2 = 15 → f.f3 ∈ refsL fs
 | g :: fs, f, hf, h => by
  rw [refsL_cons]
  rcases List.mem_cons.1 hf with rfl | hf
  · rw [if_pos h]; exact List.mem_cons_self
  · have := refsL_mem hf h
    split
    · exact List.mem_cons_of_mem _ this
    · exact this
/-- The law that what is told is closed. -/
theorem FindCloses (l0 : List SE) (l1 : List SM) (okk : ok35 ⟨l0, l1⟩) : ∃ k, ecdysislaw16_FindCloses.f k l0 l1 = some true := by
 have ok := okS_of okk
 have okc := okC_of okk
 refine E.get (g := fun k => ecdysislaw16_FindCloses.f k l0 l1) ?_
 have hlive : E (fun k => ecdysislaw16_FindCloses.j0 k true l0 l1) true := by
  refine E.step ?_
  simp only [ecdysislaw16_FindCloses.j0]
  exact E.yes (by first | trivial | rfl) (E.bind1 live_E rfl)
 unfold ecdysislaw16_FindCloses.f
 obtain ⟨b, hb, hc⟩ := small_E ok
 refine E.bind hb ?_
 cases b with
 | false => exact E.no (by simp) hlive
 | true =>
  have hl := hc rfl
  obtain ⟨e, he, hm⟩ := check15_T okc
  refine E.yes rfl (E.bind he ?_)
  by_cases h0 : e = 0
  · subst h0
    obtain ⟨⟨hne, _⟩, hrefs⟩ := hm rfl
    obtain ⟨m, ms, rfl⟩ : ∃ m ms, l1 = m :: ms := by
      cases l1 with
      | nil => exact absurd rfl hne
      | cons m ms => exact ⟨m, ms, rfl⟩
    have ht : M.Told (m :: ms) [m.f0] := M.Told.first rfl
    obtain ⟨F, hF⟩ : ∃ F, F = kinA (m :: ms) ((m :: ms).length + 1) 0 [m.f0] := ⟨_, rfl⟩
    have hT : M.Told (m :: ms) F := by rw [hF]; exact kinA_told ht
    have hK : kinL (m :: ms) (-1) = F := by
      have := kinR_A (most := -1) ((m :: ms).length + 1) 0 [m.f0] ht (by simp) (by omega)
      simp only [List.take_zero] at this
      rw [hF]
      show kinR (m :: ms) (-1) ((m :: ms).length + 1) 0 [m.f0] [] = _
      rw [this, if_neg (by omega)]
    obtain ⟨Fs, hFs⟩ : ∃ Fs, F = m.f0 :: Fs := by
      obtain ⟨s, hs⟩ := kinA_pre (m :: ms) ((m :: ms).length + 1) 0 [m.f0]
      exact ⟨s, by rw [hF, ← hs]; rfl⟩
    have hcl : ∀ x ∈ F, ∀ r ∈ refsL (fieldsAt (m :: ms) x), 0 ≤ msgAt (m :: ms) r → r ∈ F := fun x hx => by
      rcases kinA_closed ((m :: ms).length + 1) 0 [m.f0] ht (by simp) (by omega) x (by rw [← hF]; exact hx) with h | h
      · simp at h
      · rw [← hF] at h; exact h
    have hFl := hT.le
    have hF1 : 1 ≤ F.length := by rw [hFs]; simp
    have hd0 : rdOf ByteArray.empty F (0 : Int) = m.f0 := by rw [hFs]; rfl
    clear hF hFs hlive hb hc he hm hne ht
    have hml : (m :: ms).length ≤ 9000000000000000000 := by clear hT hK hcl hrefs hFl; omega
    have hFn : F.length ≤ 9000000000000000000 := by omega
    obtain ⟨l1, hl1⟩ : ∃ l1, l1 = m :: ms := ⟨_, rfl⟩
    have hz0 : (rd_T47 l1 0).f0 = m.f0 := by rw [hl1]; rfl
    rw [← hl1] at hT hK hcl hrefs hFl hml hl ok ⊢
    have kl0 := up (C := fun i => E (fun k => ecdysislaw16_FindCloses.l0 k F (i : Int) l0 l1) true) F.length (fun i hi => by
        refine E.step ?_
        simp only [ecdysislaw16_FindCloses.l0]
        exact E.no (by omega) (E.bind1 live_E rfl)) (fun i hi ih => by
        have hx : F[i]? = some (F.getD i ByteArray.empty) := by rw [List.getD_eq_getElem?_getD, List.getElem?_eq_getElem hi]; rfl
        obtain ⟨x, hxx⟩ : ∃ x, x = F.getD i ByteArray.empty := ⟨_, rfl⟩
        rw [← hxx] at hx
        have hxF := List.mem_of_getElem? hx
        have hat := hT.at_ x hxF
        obtain ⟨m', hm1, hm2, hm3⟩ := msgAt_some hat
        obtain ⟨j, hj⟩ : ∃ j : Nat, msgAt l1 x = (j : Int) := ⟨_, (Int.toNat_of_nonneg hat).symm⟩
        rw [hj] at hm3
        rw [hj, Int.toNat_natCast] at hm1
        have hm'l := List.mem_of_getElem? hm1
        have hmd : l1.getD j z47 = m' := by rw [List.getD_eq_getElem?_getD, hm1]; rfl
        have hfa : fieldsAt l1 x = m'.f1 := by
         unfold fieldsAt
         rw [hj, Int.toNat_natCast, hm1]
         rfl
        have hfl : m'.f1.length ≤ 9000000000000000000 := by have := (ok.m m' hm'l).1; omega
        have hmE := message_E l0 l1 x hml
        have hixx : ixF (fun y : SM => y.f0.toList == x.toList) l1 0 = (j : Int) := hj
        rw [hixx] at hmE
        have kl2 := up (C := fun q => E (fun k => ecdysislaw16_FindCloses.l2 k F (i : Int) (j : Int) (q : Int) l0 l1) true) m'.f1.length (fun q hq => by
         have hj5 : E (fun k => ecdysislaw16_FindCloses.j5 k F (i : Int) (j : Int) (q : Int) false l0 l1) true := by
          refine E.step ?_
          simp only [ecdysislaw16_FindCloses.j5, w1 hi hFn]
          exact E.no (by simp) (E.no (by clear hixx hj hcl hm3; omega) ih)
         refine E.step ?_
         simp only [ecdysislaw16_FindCloses.l2, rdM, hmd]
         rw [show decide ((q : Int) < (m'.f1.length : Int)) = false from decide_eq_false (by clear hixx hj hcl hm3; omega)]
         exact E.yes (by clear hixx hj hcl hm3; omega) (E.yes (by clear hixx hj hcl hm3; omega) (E.yes hm3 hj5))) (fun q hq qh => by
         obtain ⟨g, hg⟩ : ∃ g, g = m'.f1.getD q z50 := ⟨_, rfl⟩
         have hgm : g ∈ m'.f1 := by rw [hg]; exact getD_mem hq
         have kl3 := up (C := fun s => ∀ b : Bool, (b || (F.drop s).any (fun y => y.toList == g.f3.toList)) = true → E (fun k => ecdysislaw16_FindCloses.l3 k F (i : Int) (j : Int) (q : Int) b (s : Int) l0 l1 g.f0 g.f1 g.f2 g.f3 g.f4 g.f5 g.f6) true) F.length (fun s hs b hb => by
          rw [List.drop_eq_nil_of_le hs, List.any_nil, Bool.or_false] at hb
          have hwq : wrap64 ((q : Int) + 1) = ((q + 1 : Nat) : Int) := w1 hq hfl
          refine E.step ?_
          simp only [ecdysislaw16_FindCloses.l3, hwq]
          clear hwq
          exact E.no (by clear hixx hj hcl hm3; omega) (E.yes hb qh)) (fun s hs sh b hb => by
          rw [drop_getD ByteArray.empty hs, List.any_cons] at hb
          have hws : wrap64 ((s : Int) + 1) = ((s + 1 : Nat) : Int) := w1 hs hFn
          refine E.step ?_
          simp only [ecdysislaw16_FindCloses.l3, hws, rdS15]
          clear hws
          refine E.yes (by clear hixx hj hcl hm3; omega) ?_
          by_cases hbt : b = true
          · exact E.yes hbt (sh true (by rw [Bool.true_or]))
          · replace hbt : b = false := by simpa using hbt
            rw [hbt, Bool.false_or] at hb
            exact E.no (by rw [hbt]; simp) (E.yes (by clear hixx hj hcl hm3; omega) (sh _ hb))) 0
         have hthere : ((g.f2 != 15) || (F.drop 0).any (fun y => y.toList == g.f3.toList)) = true := by
          rw [List.drop_zero]
          by_cases h15 : g.f2 = 15
          · have hin : g.f3 ∈ F := hcl x hxF g.f3 (by rw [hfa]; exact refsL_mem hgm h15) (hrefs m' hm'l g hgm h15)
            rw [List.any_eq_true.2 ⟨g.f3, hin, by simp⟩, Bool.or_true]
          · rw [show (g.f2 != 15) = true by simpa using h15, Bool.true_or]
         have hj5 : E (fun k => ecdysislaw16_FindCloses.j5 k F (i : Int) (j : Int) (q : Int) true l0 l1) true := by
          refine E.step ?_
          simp only [ecdysislaw16_FindCloses.j5, rdM, hmd, rdF, ← hg]
          exact E.yes (by first | trivial | rfl) (E.yes (by clear hixx hj hcl hm3; omega) (E.yes hm3 (E.yes (by clear hixx hj hcl hm3; omega) (E.yes (by clear hixx hj hcl hm3; omega) (kl3 _ hthere)))))
         refine E.step ?_
         simp only [ecdysislaw16_FindCloses.l2, rdM, hmd]
         rw [show decide ((q : Int) < (m'.f1.length : Int)) = true from decide_eq_true (by clear hixx hj hcl hm3; omega)]
         exact E.yes (by clear hixx hj hcl hm3; omega) (E.yes (by clear hixx hj hcl hm3; omega) (E.yes hm3 hj5))) 0
        have kl1 := up (C := fun s => E (fun k => ecdysislaw16_FindCloses.l1 k F (i : Int) (j : Int) (s : Int) l0 l1) true) i (fun s hs => by
         refine E.step ?_
         simp only [ecdysislaw16_FindCloses.l1]
         exact E.no (by clear hixx hj hcl hm3; omega) kl2) (fun s hs sh => by
         have hsF : s < F.length := Nat.lt_trans hs hi
         have hws : wrap64 ((s : Int) + 1) = ((s + 1 : Nat) : Int) := w1 hs (by clear hixx hj hcl hm3; omega)
         have hd : ¬ (F.getD s ByteArray.empty).toList = (F.getD i ByteArray.empty).toList := by
          rw [List.getD_eq_getElem?_getD, List.getD_eq_getElem?_getD, List.getElem?_eq_getElem hsF, List.getElem?_eq_getElem hi]
          intro e
          exact List.pairwise_iff_getElem.1 hT.nd s i hsF hi hs (toList_inj e)
         refine E.step ?_
         simp only [ecdysislaw16_FindCloses.l1, hws, rdS15]
         clear hws
         exact E.yes (by clear hixx hj hcl hm3; omega) (E.yes (by clear hixx hj hcl hm3; omega) (E.yes (by clear hixx hj hcl hm3; omega) (E.yes (by clear hixx hj hcl hm3; omega) (E.yes (by clear hixx hj hcl hm3; omega) (E.no hd sh)))))) 0
        refine E.step ?_
        simp only [ecdysislaw16_FindCloses.l0, rdS15, ← hxx]
        exact E.yes (by clear hixx hj hcl hm3; omega) (E.yes (by clear hixx hj hcl hm3; omega) (E.bind hmE kl1))) 0
    have hj1 : E (fun k => ecdysislaw16_FindCloses.j1 k F false l0 l1) true := by
      refine E.step ?_
      simp only [ecdysislaw16_FindCloses.j1]
      exact E.no (by simp) kl0
    refine E.step ?_
    simp only [ecdysislaw16_FindCloses.j0]
    refine E.no (by simp) (E.bind0 (a := (F, true)) ?_ ?_)
    · unfold ecdysislaw16_kin.f
      rw [if_pos (by clear hK; omega), hK]
    · have hd : (m.f0.toList != m.f0.toList) = false := by simp
      simp only [hd0, hz0, hd]
      exact E.yes (by first | trivial | rfl) (E.no (by omega) (E.no (by omega) (E.yes (by omega) (E.yes (by omega) hj1))))
  · rw [show (e != 0) = true by simpa using h0]
    exact hlive
end Go.Proofs.Ytbpnfpckoapdbaa.P16
end
section
namespace Go.Proofs.Ytbpnfpckoapdbaa.findCloses
open Go.ChangeShapes Go.WideShapes Go.ChangeAt Go.RowKit
open Go.ChangeMaps (open_string shut_string)
open Go.Proofs.Ytbpnfpckoapdbaa.PF16 Go.Proofs.Ytbpnfpckoapdbaa.P16 Go.Proofs.Ytbpnfpckoapdbaa.KD
set_option linter.unusedVariables false
theorem own : ownKnob Try.prog.godebug = none := by kernel_rfl
theorem laidOut : laidOutB Try.prog = true := by kernel_rfl
set_option maxRecDepth 100000 in
theorem lifted (os : Os) (started : os.Started) (H : Type) (enc : TypeId × Value → H) :
  ReturnsInHanded {} Try.checked os 6 .any (Rows.findClosesSpec.pre6 enc Try.prog Try.f6 Rows.findClosesRow.domain false) (Rows.findClosesSpec.post enc Try.prog Try.f6 false true false false) := by
 refine returnsInHanded_of_change_sized (C := Try.checked) own started (by kernel_rfl) Try.func6
  (ChangeSpec.witness6 (enc := enc) (C := Try.checked) false ⟨#[], #[.agg #[.slice none 0 0, .slice none 0 0]], []⟩ 8 (by kernel_rfl) (by kernel_rfl) (by kernel_rfl) (by kernel_rfl)) ?_
 intro W base args ds gs before hval0 hW hcnd hsz0 _
 have hsz : (DataW.weightsEach Try.prog (Try.f6.params.toList ++ Rows.findClosesSpec.plain.varTypes Try.prog) (ds ++ gs)).all (· ≤ reachBytes) = true := hsz0
 have hval : ∀ (j : Nat) t v, Try.f6.params[j]? = some t → args[j]? = some v → Value.okWide Try.prog W .any base t v := hval0
 have hW' := hW
 obtain ⟨p, q, hA0, hV, rfl, hfz, hnd⟩ := hW
 have hA : DataW.TrodAll enc Try.prog W 0 (fun _ => true) true Try.f6.params.toList args.toList ds p := hA0
 rw [Try.params6] at hA hval hsz
 obtain ⟨v0, vs0, d0, ds0, p0, q0, hargs, rfl, rfl, h0, r0⟩ := trodAll_cons hA
 obtain ⟨rfl, rfl, rfl⟩ := trodAll_nil r0
 obtain rfl : args = #[v0] := by cases args; simp_all
 obtain ⟨rfl, rfl⟩ := trodVars_none hV
 obtain ⟨cs0, rfl, _⟩ := okWide_struct Try.underlying35 (hval 0 35 v0 rfl rfl)
 have k0 := h0
 have lt0 : ∀ x ∈ p0, x.block < W.heap.size := by obtain ⟨m, hm⟩ := k0; exact DataW.trod_lt m _ _ _ hm
 have li0 : Open.Light Try.prog 35 d0 := fun n hn => by simpa using List.all_eq_true.1 hsz n (DataW.weights_mem_each (j := 0) rfl rfl n hn)
 obtain ⟨fu0, hf0⟩ := h0
 obtain ⟨y0, hk0, w0⟩ := Ops.opens35 fu0 _ enc W 0 (fun _ => true) true _ _ hf0 li0
 have ec0 : (Value.agg cs0).cells.toList.toArray = cs0 := by simp [Value.cells]
 obtain ⟨A0_0, c0_0, A0_1, c0_1, hcs0, hl0_0, hc0_0, hl0_1, hc0_1⟩ := k35_open hk0
 rw [hcs0] at ec0
 clear hA0 hval0 hsz0 hsz
 obtain ⟨k, hP⟩ := P16.FindCloses y0.f0 y0.f1 w0
 have hcall := PF16.ecdysislaw16_FindCloses.calls k A0_0 c0_0 y0.f0 A0_1 c0_1 y0.f1 true W hc0_0 hl0_0 hc0_1 hl0_1 hP
 have ec0' := ec0.symm
 subst ec0'
 refine hcall.mono fun e W' ⟨he, bel0⟩ => ?_
 have bel : Below W.heap.size W W' := bel0
 subst he
 exact ⟨_, rfl, _, _, _, [], _, [], hW', trodAll_mk1 (shut_bool Try.underlying4 _), (trodAll_cons_mk (Below.trod laidOut (by kernel_rfl) (of_decide_eq_true (by kernel_rfl)) k0 bel lt0) trodAll_mk0), rfl, bel.frame _, fun h => by cases h⟩
theorem over : Rows.findClosesRow.holds Try.pinned (OpenSpec.ofChange Rows.findClosesSpec) :=
 OpenClaim.holds_of_wide 6 Try.f6 rfl rfl rfl rfl rfl rfl rfl ⟨rfl, rfl, rfl, rfl, rfl⟩ rfl rfl rfl rfl rfl (by kernel_rfl) Try.func6 (by kernel_rfl)
  (of_decide_eq_true (by kernel_rfl)) (by unfold Func.isWrapper; first | (rw [if_pos (by decide +kernel)]; kernel_rfl) | (rw [if_neg (by decide +kernel)]; exact ⟨rfl, rfl⟩))
  (fun os started H enc _ => lifted os started H enc)
theorem proved : Rows.FindClosesSaid := over
#print axioms proved
end Go.Proofs.Ytbpnfpckoapdbaa.findCloses
namespace Go.Proofs.Ytbpnfpckoapdbaa
/-- The row, under a short name, for the claim. -/
theorem findCloses_holds : Rows.FindClosesSaid := findCloses.proved
end Go.Proofs.Ytbpnfpckoapdbaa
end

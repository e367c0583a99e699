/- What can be read, its weights told, reads as a kind says, at a fuel; conditions stand at each. -/
import Derived.Test.YtbpnfpckoapdbaaOpen
namespace Go.Proofs.Ytbpnfpckoapdbaa.Open
open Go.RowKit Go.ChangeShapes Go.WideShapes Go.Deep Go.Proofs.YtbpnfpckoapdbaaW.PrintWords
set_option linter.unusedVariables false
def Light {H : Type} (P : Program) (t : TypeId) (x : DataW H) : Prop := ∀ n ∈ DataW.weights P t x, n ≤ reachBytes
def OpensW {α : Type} (fuel : Nat) (P : Program) (d : Kd α) (Ok : α → Prop) (t : TypeId) : Prop :=
  ∀ (H : Type) (enc : TypeId × Value → H) (w : World) (base : Nat) (spare : Nat → Bool) (held : Bool) (cs : List Value) (x : DataW H × List MemPlace), DataW.trod enc P w base spare held fuel t cs = some x → Light P t x.1 → ∃ y, d.K w y cs ∧ Ok y
theorem Opens.toW {α : Type} {P : Program} {d : Kd α} {Ok : α → Prop} {t : TypeId} (h : Opens P d Ok t) (fuel : Nat) : OpensW fuel P d Ok t := fun H enc w base spare held cs x hx _ => h H enc w base spare held fuel cs x hx
theorem opensW_string {P : Program} {t : TypeId} {fuel : Nat} (hu : P.underlying t = some .string) : OpensW fuel P Kd.string (fun s => s.size ≤ reachBytes) t := by
  intro H enc w base spare held cs x h hl
  obtain ⟨s, rfl, hx, hs⟩ := DataW.trod_string hu h
  refine ⟨s, rfl, ?_⟩
  have := hl s.size (by rw [hx]; simp [DataW.weights])
  exact this
theorem mem_weightsAll {H : Type} {P : Program} {e : TypeId} {n : Nat} : ∀ {l : List (DataW H)} {d : DataW H}, d ∈ l → n ∈ DataW.weights P e d → n ∈ DataW.weightsAll P e l
  | [], d, h, _ => by cases h
  | a :: l, d, h, hn => by
    rcases List.mem_cons.1 h with rfl | h
    · simp [DataW.weightsAll, hn]
    · simp [DataW.weightsAll, mem_weightsAll h hn]
theorem opensW_slice {α : Type} {P : Program} {d : Kd α} {Ok : α → Prop} {t e : TypeId} {fuel : Nat} {B : Nat} (hu : P.underlying t = some (.slice e)) (hc : P.cellsOf e = d.sz) (hB : P.bytesOf e = B) (he : ∀ n, fuel = n + 1 → OpensW n P d Ok e) : OpensW fuel P (Kd.slice e d) (fun l => l.length * B ≤ reachBytes ∧ ∀ y ∈ l, Ok y) t := by
  intro H enc w base spare held cs x h hw
  rcases DataW.trod_slice hu h with ⟨rfl, _⟩ | ⟨a, len, cap, elems, rest, n, hf, rfl, rfl, hb, hl, hm, hlen, hi, _, _⟩
  · exact ⟨[], ⟨none, 0, rfl, Nat.le_refl _, Kd.C_nil d w⟩, by simp⟩
  · have hw1 : ∀ k ∈ (elems.length + rest.length) * P.bytesOf e :: (DataW.weightsAll P e (elems.map (·.1)) ++ DataW.weightsAll P e (rest.map (·.1))), k ≤ reachBytes := by
      intro k hk
      refine hw k ?_
      simp only [DataW.weights, hu, List.length_map]
      exact hk
    obtain ⟨l, hl1, hl2⟩ := list_of (fun i y => ∃ c, c.length = d.sz ∧ d.K w y c ∧ (∀ j u, c[j]? = some u → w.cell? (a.add (i * d.sz + j)) = some u) ∧ Ok y) len (fun i hil => by
      have hi1 := hi i hil
      rw [List.getElem?_eq_getElem (by omega : i < elems.length)] at hi1
      obtain ⟨cs', h1, h2⟩ := Option.bind_eq_some_iff.1 hi1
      obtain ⟨y, hy, ho⟩ := he n hf H enc w base spare held cs' _ h2 (fun k hk => hw1 k (by
        refine List.mem_cons_of_mem _ (List.mem_append_left _ (mem_weightsAll (List.mem_map.2 ⟨_, List.getElem_mem _, rfl⟩) hk))))
      refine ⟨y, cs', d.K_len hy, hy, fun j u hj => ?_, ho⟩
      obtain ⟨_, hcl, hat⟩ := World.cells?_some h1
      have hjl : j < P.cellsOf e := by
        have := (List.getElem?_eq_some_iff.1 hj).1
        rw [hcl] at this
        exact this
      have h3 := hat j hjl
      rw [Go.Deep.add_add, hc] at h3
      rw [h3, hj])
    refine ⟨l, ⟨some a, cap, by rw [hl1], by omega, rfl, by simp only [maxLen] at hm; omega, fun _ => ⟨a, rfl, fun j p hj => ?_⟩⟩, ?_, fun y hy => ?_⟩
    · obtain ⟨c, h1, h2, h3, _⟩ := hl2 j p hj
      exact ⟨c, h1, h2, h3⟩
    · have h1 := hw1 _ (List.mem_cons_self)
      rw [hB] at h1
      have h2 : l.length * B ≤ (elems.length + rest.length) * B := Nat.mul_le_mul_right _ (by omega)
      exact Nat.le_trans h2 h1
    · obtain ⟨i, hi⟩ := List.getElem?_of_mem hy
      obtain ⟨_, _, _, _, h4⟩ := hl2 i y hi
      exact h4
/-- Fields from a place on. -/
def FieldsW {β : Type} (fuel : Nat) (P : Program) (d : Kd β) (Ok : β → Prop) (off : Nat) (fs : List Field) : Prop :=
  ∀ (H : Type) (enc : TypeId × Value → H) (w : World) (base : Nat) (spare : Nat → Bool) (held : Bool) (cs : List Value), cs.length = off + d.sz →
    (∀ f ∈ fs, ∃ x, DataW.trod enc P w base spare held fuel f.type ((cs.drop f.offset).take (P.cellsOf f.type)) = some x ∧ Light P f.type x.1) → ∃ y, d.K w y (cs.drop off) ∧ Ok y
theorem fieldsW_last {α : Type} {P : Program} {d : Kd α} {Ok : α → Prop} {off n : Nat} {f : Field} (ho : f.offset = off) (hc : P.cellsOf f.type = d.sz) (h : OpensW n P d Ok f.type) : FieldsW n P d Ok off [f] := by
  intro H enc w base spare held cs hl hf
  obtain ⟨x, hx, hg⟩ := hf f (by simp)
  obtain ⟨y, hy, hk⟩ := h H enc w base spare held _ x hx hg
  rw [ho, hc, List.take_of_length_le (by rw [List.length_drop]; omega)] at hy
  exact ⟨y, hy, hk⟩
theorem fieldsW_cons {α β : Type} {P : Program} {d : Kd α} {d' : Kd β} {Ok : α → Prop} {Ok' : β → Prop} {off off' n : Nat} {f : Field} {fs : List Field} (ho : f.offset = off) (hc : P.cellsOf f.type = d.sz) (h : OpensW n P d Ok f.type) (hoff : off + d.sz = off') (h' : FieldsW n P d' Ok' off' fs) : FieldsW n P (Kd.pair d d') (fun x => Ok x.1 ∧ Ok' x.2) off (f :: fs) := by
  intro H enc w base spare held cs hl hf
  obtain ⟨x, hx, hg⟩ := hf f (by simp)
  obtain ⟨y, hy, hk⟩ := h H enc w base spare held _ x hx hg
  rw [ho, hc] at hy
  have hl' : cs.length = off + (d.sz + d'.sz) := hl
  obtain ⟨y', hy', hk'⟩ := h' H enc w base spare held cs (by omega) (fun g hg => hf g (by simp [hg]))
  refine ⟨(y, y'), ⟨(cs.drop off).take d.sz, cs.drop off', ?_, hy, hy'⟩, hk, hk'⟩
  rw [← hoff, ← List.drop_drop, List.take_append_drop]
theorem opensW_struct {β γ : Type} {P : Program} {d : Kd β} {Ok : β → Prop} {t : TypeId} {fs : Array Field} {fuel : Nat} (mk : β → γ) (proj : γ → β) (hmk : ∀ y, proj (mk y) = y) (hu : P.underlying t = some (.struct fs)) (hc : P.cellsOf t = d.sz) (h : ∀ n, fuel = n + 1 → FieldsW n P d Ok 0 fs.toList) : OpensW fuel P (Kd.iso d proj) (fun x => Ok (proj x)) t := by
  intro H enc w base spare held cs x ht hw
  obtain ⟨xs, n, hn, hx, hl, hxs, hf⟩ := DataW.trod_struct hu ht
  obtain ⟨y, hy, hk⟩ := h n hn H enc w base spare held cs (by omega) (fun f hfm => by
    obtain ⟨i, hi⟩ := List.getElem?_of_mem hfm
    have hi' : fs[i]? = some f := by rw [← Array.getElem?_toList]; exact hi
    have h1 := hf i f hi'
    have hlt : i < xs.length := by rw [hxs]; exact (Array.getElem?_eq_some_iff.1 hi').1
    refine ⟨xs[i], by rw [h1, List.getElem?_eq_getElem hlt], fun k hk => hw k ?_⟩
    rw [hx]
    simp only [DataW.weights, hu]
    exact DataW.weights_mem_each (j := i) (by rw [List.getElem?_map, hi]; rfl) (by rw [List.getElem?_map, List.getElem?_eq_getElem hlt]; rfl) k hk)
  refine ⟨mk y, ?_, by show Ok (proj (mk y)); rw [hmk]; exact hk⟩
  show d.K w (proj (mk y)) cs
  rw [hmk]
  exact hy
theorem OpensW.mono {α : Type} {P : Program} {d : Kd α} {Ok Ok' : α → Prop} {t : TypeId} {fuel : Nat} (h : OpensW fuel P d Ok t) (hok : ∀ x, Ok x → Ok' x) : OpensW fuel P d Ok' t := fun H enc w base spare held cs x hx hl => by
  obtain ⟨y, h1, h2⟩ := h H enc w base spare held cs x hx hl
  exact ⟨y, h1, hok y h2⟩
theorem opensW_zero {α : Type} {P : Program} {d : Kd α} {Ok : α → Prop} {t : TypeId} : OpensW 0 P d Ok t := fun H enc w base spare held cs x hx _ => by simp [DataW.trod] at hx
end Go.Proofs.Ytbpnfpckoapdbaa.Open

/- The law TreeWith: the values of every number, and every tree with others there; no conditions but those of the row. (text 3 of 4; some of it the words and functions that the kit's print and this claim's programs wrote) -/
import Derived.Test.YtbpnfpckoapdbaaQTreeWith1
import Derived.Deep.Slices
import Derived.ChangeArms
import Derived.ChangeSame
import Derived.ProofKit
import Derived.SizedLaws
import Derived.Test.YtbpnfpckoapdbaaProg
import Derived.KernelRfl
import Derived.WalkMore
import Derived.Deep.DeepCutAuto
import Derived.Deep.CutBlock
import Derived.Deep.RegionHeld3
import Derived.Laws.IdiomCopy
import Derived.Laws.CopyRow
import Derived.Laws.CopyOwn
import Derived.Lib.AppendZerosOnto
import Derived.Lib.Overlaps
import Derived.Laws.NewBlocks
import Derived.Laws.Externs
import Derived.Shelf.RegionOpenPlain
import Derived.ArgAppend
import Derived.Below
import Derived.BigQuiet
import Derived.Deep.AppendLies
import Derived.Deep.Draws
import Derived.Deep.LoopGhost
import Derived.Deep.OwnRows
import Derived.Deep.QuietTactic
import Derived.Laws.BitsLemmas
import Derived.Laws.BytesArg
import Derived.Laws.MakeOwn
import Derived.Laws.OwnMore
import Derived.Laws.Rows
import Derived.Laws.Slices
import Derived.Lib.AppendStr
import Derived.Lib.ConvBytes
import Derived.Maps.AppendAt
import Derived.OrdersHeld
import Derived.OwnWalk
import Derived.RowKit
import Derived.RowKit3
import Derived.Tactics
import Derived.WalkKit
import Derived.WideLaws
section
namespace Go.Proofs.Ytbpnfpckoapdbaa.PT19
open Go.RowKit Go.Proofs.Ytbpnfpckoapdbaa.M Go.Proofs.Ytbpnfpckoapdbaa.KD Go.Proofs.Ytbpnfpckoapdbaa Go.Proofs.YtbpnfpckoapdbaaW.PrintWords Go.Proofs.YtbpnfpckoapdbaaW.PrintLast Go.Proofs.YtbpnfpckoapdbaaW.PrintMore
attribute [local go_sem] max2_int min2_int max_two min_two max_three min_three max_four min_four   -- for this text's walks alone
set_option linter.unusedVariables false
set_option linter.unusedSimpArgs false
end Go.Proofs.Ytbpnfpckoapdbaa.PT19
end
section
namespace Go.Proofs.Ytbpnfpckoapdbaa.PT19
open Go.RowKit Go.Proofs.Ytbpnfpckoapdbaa.M Go.Proofs.Ytbpnfpckoapdbaa.KD Go.Proofs.Ytbpnfpckoapdbaa Go.Proofs.YtbpnfpckoapdbaaW.PrintWords Go.Proofs.YtbpnfpckoapdbaaW.PrintLast Go.Proofs.YtbpnfpckoapdbaaW.PrintMore
attribute [local go_sem] max2_int min2_int max_two min_two max_three min_three max_four min_four   -- for this text's walks alone
set_option linter.unusedVariables false
set_option linter.unusedSimpArgs false
end Go.Proofs.Ytbpnfpckoapdbaa.PT19
end
section
namespace Go.Proofs.Ytbpnfpckoapdbaa.PT19
open Go.RowKit Go.Proofs.Ytbpnfpckoapdbaa.M Go.Proofs.Ytbpnfpckoapdbaa.KD Go.Proofs.Ytbpnfpckoapdbaa Go.Proofs.YtbpnfpckoapdbaaW.PrintWords Go.Proofs.YtbpnfpckoapdbaaW.PrintLast Go.Proofs.YtbpnfpckoapdbaaW.PrintMore
attribute [local go_sem] max2_int min2_int max_two min_two max_three min_three max_four min_four   -- for this text's walks alone
set_option linter.unusedVariables false
set_option linter.unusedSimpArgs false
end Go.Proofs.Ytbpnfpckoapdbaa.PT19
end
section
namespace Go.Proofs.Ytbpnfpckoapdbaa.PT19
open Go.RowKit Go.Proofs.Ytbpnfpckoapdbaa.M Go.Proofs.Ytbpnfpckoapdbaa.KD Go.Proofs.Ytbpnfpckoapdbaa Go.Proofs.YtbpnfpckoapdbaaW.PrintWords Go.Proofs.YtbpnfpckoapdbaaW.PrintLast Go.Proofs.YtbpnfpckoapdbaaW.PrintMore
attribute [local go_sem] max2_int min2_int max_two min_two max_three min_three max_four min_four   -- for this text's walks alone
set_option linter.unusedVariables false
set_option linter.unusedSimpArgs false
end Go.Proofs.Ytbpnfpckoapdbaa.PT19
end
section
namespace Go.Proofs.Ytbpnfpckoapdbaa.Ev
open Go.RowKit Go.Proofs.YtbpnfpckoapdbaaW.PrintWords
set_option linter.unusedVariables false
/-- With enough rounds it tells r. -/
def E {α : Type} (g : Nat → Option α) (r : α) : Prop := ∃ k0, ∀ k, k0 ≤ k → g k = some r
theorem E.const {α : Type} {r : α} : E (fun _ => some r) r := ⟨0, fun _ _ => rfl⟩
theorem E.of {α : Type} {g : Nat → Option α} {r : α} (h : ∀ k, g k = some r) : E g r := ⟨0, fun k _ => h k⟩
theorem E.congr {α : Type} {g h : Nat → Option α} {r : α} (hh : E h r) (e : ∀ k, g k = h k) : E g r := by
 obtain ⟨k0, hk⟩ := hh
 exact ⟨k0, fun k hk0 => by rw [e]; exact hk k hk0⟩
theorem E.succ {α : Type} {g h : Nat → Option α} {r : α} (hh : E h r) (e : ∀ k, g (k + 1) = h k) : E g r := by
 obtain ⟨k0, hk⟩ := hh
 refine ⟨k0 + 1, fun k hk0 => ?_⟩
 obtain ⟨m, rfl⟩ : ∃ m, k = m + 1 := ⟨k - 1, by omega⟩
 rw [e]
 exact hk m (by omega)
theorem E.step {α : Type} {g : Nat → Option α} {r : α} (h : E (fun k => g (k + 1)) r) : E g r := E.succ h fun _ => rfl
theorem E.bind {α β : Type} {f : Nat → Option α} {a : α} {g : Nat → α → Option β} {r : β} (hf : E f a) (hg : E (fun k => g k a) r) : E (fun k => (f k).bind (g k)) r := by
 obtain ⟨k0, h0⟩ := hf
 obtain ⟨k1, h1⟩ := hg
 refine ⟨max k0 k1, fun k hk => ?_⟩
 show (f k).bind (g k) = some r
 rw [h0 k (Nat.le_trans (Nat.le_max_left _ _) hk)]
 exact h1 k (Nat.le_trans (Nat.le_max_right _ _) hk)
theorem E.bind0 {α β : Type} {f : Option α} {a : α} {g : Nat → α → Option β} {r : β} (hf : f = some a) (hg : E (fun k => g k a) r) : E (fun k => f.bind (g k)) r := E.bind (f := fun _ => f) (E.of fun _ => hf) hg
theorem E.ite {α : Type} {c : Prop} [Decidable c] {g h : Nat → Option α} {r : α} (hg : c → E g r) (hh : ¬ c → E h r) : E (fun k => if c then g k else h k) r := by
 by_cases hc : c
 · exact (hg hc).congr fun k => if_pos hc
 · exact (hh hc).congr fun k => if_neg hc
theorem E.yes {α : Type} {c : Prop} [Decidable c] {g h : Nat → Option α} {r : α} (hc : c) (hg : E g r) : E (fun k => if c then g k else h k) r := hg.congr fun k => if_pos hc
theorem E.no {α : Type} {c : Prop} [Decidable c] {g h : Nat → Option α} {r : α} (hc : ¬ c) (hh : E h r) : E (fun k => if c then g k else h k) r := hh.congr fun k => if_neg hc
theorem E.get {α : Type} {g : Nat → Option α} {r : α} (h : E g r) : ∃ k, g k = some r := by
 obtain ⟨k, hk⟩ := h
 exact ⟨k, hk k (Nat.le_refl _)⟩
/-- From the end on, step by step. -/
theorem up {C : Nat → Prop} (n : Nat) (hend : ∀ i, n ≤ i → C i) (hstep : ∀ i, i < n → C (i + 1) → C i) (i : Nat) : C i := by
 obtain ⟨d, hd⟩ : ∃ d, d = n - i := ⟨_, rfl⟩
 induction d generalizing i with
 | zero => exact hend i (by omega)
 | succ d ih => exact hstep i (by omega) (ih (i + 1) (by omega))
theorem drop_getD {α : Type} {xs : List α} {i : Nat} (z : α) (h : i < xs.length) : xs.drop i = xs.getD i z :: xs.drop (i + 1) := by
 rw [List.drop_eq_getElem_cons h, List.getD_eq_getElem?_getD, List.getElem?_eq_getElem h]
 rfl
theorem w1 {i n : Nat} (h : i < n) (hn : n ≤ 9000000000000000000) : wrap64 ((i : Int) + 1) = ((i + 1 : Nat) : Int) := by unfold wrap64; omega
end Go.Proofs.Ytbpnfpckoapdbaa.Ev
end
section
namespace Go.Proofs.Ytbpnfpckoapdbaa.Open
open Go.RowKit Go.ChangeShapes Go.WideShapes Go.Deep Go.Proofs.YtbpnfpckoapdbaaW.PrintWords
set_option linter.unusedVariables false
/-- What can be read at type t is of kind d, and Ok. -/
def Opens {α : Type} (P : Program) (d : Kd α) (Ok : α → Prop) (t : TypeId) : Prop :=
 ∀ (H : Type) (enc : TypeId × Value → H) (w : World) (base : Nat) (spare : Nat → Bool) (held : Bool) (fuel : Nat) (cs : List Value) (x : DataW H × List MemPlace), DataW.trod enc P w base spare held fuel t cs = some x → ∃ y, d.K w y cs ∧ Ok y
theorem opens_int {P : Program} {t : TypeId} {k : IntKind} (hu : P.underlying t = some (.int k)) : Opens P (Kd.int k) (fun n => (Lit.int k n).wf = true) t := by
 intro H enc w base spare held fuel cs x h
 obtain ⟨n, rfl, _, hw⟩ := DataW.trod_int hu h
 exact ⟨n, rfl, hw⟩
theorem list_of {α : Type} (p : Nat → α → Prop) : ∀ n, (∀ i, i < n → ∃ y, p i y) → ∃ l : List α, l.length = n ∧ ∀ i y, l[i]? = some y → p i y
 | 0, _ => ⟨[], rfl, fun i y h => by simp at h⟩
 | n + 1, h => by
  obtain ⟨l, hl, hp⟩ := list_of p n (fun i hi => h i (by omega))
  obtain ⟨y, hy⟩ := h n (by omega)
  refine ⟨l ++ [y], by rw [List.length_append, hl, List.length_singleton], fun i z hz => ?_⟩
  rcases Nat.lt_or_ge i l.length with hi | hi
  · rw [List.getElem?_append_left hi] at hz
    exact hp i z hz
  · rw [List.getElem?_append_right hi] at hz
    have hi2 : i = n := by
     have := (List.getElem?_eq_some_iff.1 hz).1
     rw [List.length_singleton] at this
     omega
    subst hi2
    rw [hl, Nat.sub_self] at hz
    have : y = z := by simpa using hz
    exact this ▸ hy
/-- Fields from a place on. -/
def Fields {β : Type} (P : Program) (d : Kd β) (Ok : β → Prop) (off : Nat) (fs : List Field) : Prop :=
 ∀ (H : Type) (enc : TypeId × Value → H) (w : World) (base : Nat) (spare : Nat → Bool) (held : Bool) (n : Nat) (cs : List Value), cs.length = off + d.sz →
  (∀ f ∈ fs, ∃ x, DataW.trod enc P w base spare held n f.type ((cs.drop f.offset).take (P.cellsOf f.type)) = some x) → ∃ y, d.K w y (cs.drop off) ∧ Ok y
end Go.Proofs.Ytbpnfpckoapdbaa.Open
end
section
namespace Go.Proofs.Ytbpnfpckoapdbaa.Open
open Go.RowKit Go.ChangeShapes Go.WideShapes Go.Deep Go.Proofs.YtbpnfpckoapdbaaW.PrintWords
set_option linter.unusedVariables false
def Light {H : Type} (P : Program) (t : TypeId) (x : DataW H) : Prop := ∀ n ∈ DataW.weights P t x, n ≤ reachBytes
def OpensW {α : Type} (fuel : Nat) (P : Program) (d : Kd α) (Ok : α → Prop) (t : TypeId) : Prop :=
 ∀ (H : Type) (enc : TypeId × Value → H) (w : World) (base : Nat) (spare : Nat → Bool) (held : Bool) (cs : List Value) (x : DataW H × List MemPlace), DataW.trod enc P w base spare held fuel t cs = some x → Light P t x.1 → ∃ y, d.K w y cs ∧ Ok y
theorem Opens.toW {α : Type} {P : Program} {d : Kd α} {Ok : α → Prop} {t : TypeId} (h : Opens P d Ok t) (fuel : Nat) : OpensW fuel P d Ok t := fun H enc w base spare held cs x hx _ => h H enc w base spare held fuel cs x hx
theorem opensW_string {P : Program} {t : TypeId} {fuel : Nat} (hu : P.underlying t = some .string) : OpensW fuel P Kd.string (fun s => s.size ≤ reachBytes) t := by
 intro H enc w base spare held cs x h hl
 obtain ⟨s, rfl, hx, hs⟩ := DataW.trod_string hu h
 refine ⟨s, rfl, ?_⟩
 have := hl s.size (by rw [hx]; simp [DataW.weights])
 exact this
theorem mem_weightsAll {H : Type} {P : Program} {e : TypeId} {n : Nat} : ∀ {l : List (DataW H)} {d : DataW H}, d ∈ l → n ∈ DataW.weights P e d → n ∈ DataW.weightsAll P e l
 | [], d, h, _ => by cases h
 | a :: l, d, h, hn => by
  rcases List.mem_cons.1 h with rfl | h
  · simp [DataW.weightsAll, hn]
  · simp [DataW.weightsAll, mem_weightsAll h hn]
theorem opensW_slice {α : Type} {P : Program} {d : Kd α} {Ok : α → Prop} {t e : TypeId} {fuel : Nat} {B : Nat} (hu : P.underlying t = some (.slice e)) (hc : P.cellsOf e = d.sz) (hB : P.bytesOf e = B) (he : ∀ n, fuel = n + 1 → OpensW n P d Ok e) : OpensW fuel P (Kd.slice e d) (fun l => l.length * B ≤ reachBytes ∧ ∀ y ∈ l, Ok y) t := by
 intro H enc w base spare held cs x h hw
 rcases DataW.trod_slice hu h with ⟨rfl, _⟩ | ⟨a, len, cap, elems, rest, n, hf, rfl, rfl, hb, hl, hm, hlen, hi, _, _⟩
 · exact ⟨[], ⟨none, 0, rfl, Nat.le_refl _, Kd.C_nil d w⟩, by simp⟩
 · have hw1 : ∀ k ∈ (elems.length + rest.length) * P.bytesOf e :: (DataW.weightsAll P e (elems.map (·.1)) ++ DataW.weightsAll P e (rest.map (·.1))), k ≤ reachBytes := by
     intro k hk
     refine hw k ?_
     simp only [DataW.weights, hu, List.length_map]
     exact hk
   obtain ⟨l, hl1, hl2⟩ := list_of (fun i y => ∃ c, c.length = d.sz ∧ d.K w y c ∧ (∀ j u, c[j]? = some u → w.cell? (a.add (i * d.sz + j)) = some u) ∧ Ok y) len (fun i hil => by
     have hi1 := hi i hil
     rw [List.getElem?_eq_getElem (by omega : i < elems.length)] at hi1
     obtain ⟨cs', h1, h2⟩ := Option.bind_eq_some_iff.1 hi1
     obtain ⟨y, hy, ho⟩ := he n hf H enc w base spare held cs' _ h2 (fun k hk => hw1 k (by
      refine List.mem_cons_of_mem _ (List.mem_append_left _ (mem_weightsAll (List.mem_map.2 ⟨_, List.getElem_mem _, rfl⟩) hk))))
     refine ⟨y, cs', d.K_len hy, hy, fun j u hj => ?_, ho⟩
     obtain ⟨_, hcl, hat⟩ := World.cells?_some h1
     have hjl : j < P.cellsOf e := by
      have := (List.getElem?_eq_some_iff.1 hj).1
      rw [hcl] at this
      exact this
     have h3 := hat j hjl
     rw [Go.Deep.add_add, hc] at h3
     rw [h3, hj])
   refine ⟨l, ⟨some a, cap, by rw [hl1], by omega, rfl, by simp only [maxLen] at hm; omega, fun _ => ⟨a, rfl, fun j p hj => ?_⟩⟩, ?_, fun y hy => ?_⟩
   · obtain ⟨c, h1, h2, h3, _⟩ := hl2 j p hj
     exact ⟨c, h1, h2, h3⟩
   · have h1 := hw1 _ (List.mem_cons_self)
     rw [hB] at h1
     have h2 : l.length * B ≤ (elems.length + rest.length) * B := Nat.mul_le_mul_right _ (by omega)
     exact Nat.le_trans h2 h1
   · obtain ⟨i, hi⟩ := List.getElem?_of_mem hy
     obtain ⟨_, _, _, _, h4⟩ := hl2 i y hi
     exact h4
/-- Fields from a place on. -/
def FieldsW {β : Type} (fuel : Nat) (P : Program) (d : Kd β) (Ok : β → Prop) (off : Nat) (fs : List Field) : Prop :=
 ∀ (H : Type) (enc : TypeId × Value → H) (w : World) (base : Nat) (spare : Nat → Bool) (held : Bool) (cs : List Value), cs.length = off + d.sz →
  (∀ f ∈ fs, ∃ x, DataW.trod enc P w base spare held fuel f.type ((cs.drop f.offset).take (P.cellsOf f.type)) = some x ∧ Light P f.type x.1) → ∃ y, d.K w y (cs.drop off) ∧ Ok y
theorem fieldsW_last {α : Type} {P : Program} {d : Kd α} {Ok : α → Prop} {off n : Nat} {f : Field} (ho : f.offset = off) (hc : P.cellsOf f.type = d.sz) (h : OpensW n P d Ok f.type) : FieldsW n P d Ok off [f] := by
 intro H enc w base spare held cs hl hf
 obtain ⟨x, hx, hg⟩ := hf f (by simp)
 obtain ⟨y, hy, hk⟩ := h H enc w base spare held _ x hx hg
 rw [ho, hc, List.take_of_length_le (by rw [List.length_drop]; omega)] at hy
 exact ⟨y, hy, hk⟩
theorem fieldsW_cons {α β : Type} {P : Program} {d : Kd α} {d' : Kd β} {Ok : α → Prop} {Ok' : β → Prop} {off off' n : Nat} {f : Field} {fs : List Field} (ho : f.offset = off) (hc : P.cellsOf f.type = d.sz) (h : OpensW n P d Ok f.type) (hoff : off + d.sz = off') (h' : FieldsW n P d' Ok' off' fs) : FieldsW n P (Kd.pair d d') (fun x => Ok x.1 ∧ Ok' x.2) off (f :: fs) := by
 intro H enc w base spare held cs hl hf
 obtain ⟨x, hx, hg⟩ := hf f (by simp)
 obtain ⟨y, hy, hk⟩ := h H enc w base spare held _ x hx hg
 rw [ho, hc] at hy
 have hl' : cs.length = off + (d.sz + d'.sz) := hl
 obtain ⟨y', hy', hk'⟩ := h' H enc w base spare held cs (by omega) (fun g hg => hf g (by simp [hg]))
 refine ⟨(y, y'), ⟨(cs.drop off).take d.sz, cs.drop off', ?_, hy, hy'⟩, hk, hk'⟩
 rw [← hoff, ← List.drop_drop, List.take_append_drop]
theorem opensW_struct {β γ : Type} {P : Program} {d : Kd β} {Ok : β → Prop} {t : TypeId} {fs : Array Field} {fuel : Nat} (mk : β → γ) (proj : γ → β) (hmk : ∀ y, proj (mk y) = y) (hu : P.underlying t = some (.struct fs)) (hc : P.cellsOf t = d.sz) (h : ∀ n, fuel = n + 1 → FieldsW n P d Ok 0 fs.toList) : OpensW fuel P (Kd.iso d proj) (fun x => Ok (proj x)) t := by
 intro H enc w base spare held cs x ht hw
 obtain ⟨xs, n, hn, hx, hl, hxs, hf⟩ := DataW.trod_struct hu ht
 obtain ⟨y, hy, hk⟩ := h n hn H enc w base spare held cs (by omega) (fun f hfm => by
  obtain ⟨i, hi⟩ := List.getElem?_of_mem hfm
  have hi' : fs[i]? = some f := by rw [← Array.getElem?_toList]; exact hi
  have h1 := hf i f hi'
  have hlt : i < xs.length := by rw [hxs]; exact (Array.getElem?_eq_some_iff.1 hi').1
  refine ⟨xs[i], by rw [h1, List.getElem?_eq_getElem hlt], fun k hk => hw k ?_⟩
  rw [hx]
  simp only [DataW.weights, hu]
  exact DataW.weights_mem_each (j := i) (by rw [List.getElem?_map, hi]; rfl) (by rw [List.getElem?_map, List.getElem?_eq_getElem hlt]; rfl) k hk)
 refine ⟨mk y, ?_, by show Ok (proj (mk y)); rw [hmk]; exact hk⟩
 show d.K w (proj (mk y)) cs
 rw [hmk]
 exact hy
theorem opensW_zero {α : Type} {P : Program} {d : Kd α} {Ok : α → Prop} {t : TypeId} : OpensW 0 P d Ok t := fun H enc w base spare held cs x hx _ => by simp [DataW.trod] at hx
end Go.Proofs.Ytbpnfpckoapdbaa.Open
end
section
namespace Go.Proofs.Ytbpnfpckoapdbaa.Ops
open Go.RowKit Go.Proofs.YtbpnfpckoapdbaaW.PrintWords Go.Proofs.Ytbpnfpckoapdbaa.KD Go.Proofs.Ytbpnfpckoapdbaa.Open
set_option linter.unusedVariables false
set_option maxHeartbeats 1000000
abbrev TR := S73
abbrev TV := S70
abbrev TS := S59
abbrev TT := S25
def okRaw (x : TR) : Prop := (Lit.int .i64 x.f0).wf = true ∧ (Lit.int .i64 x.f1).wf = true ∧ (Lit.int .u64 x.f2).wf = true ∧ x.f3.size ≤ reachBytes
def okVal (O : TT → Prop) (x : TV) : Prop := (Lit.int .u64 x.f0).wf = true ∧ x.f1.size ≤ reachBytes ∧ (x.f2.length * 48 ≤ reachBytes ∧ ∀ y ∈ x.f2, O y)
def okSlot (O : TT → Prop) (x : TS) : Prop := (Lit.int .i64 x.f0).wf = true ∧ (x.f1.length * 48 ≤ reachBytes ∧ ∀ y ∈ x.f1, okVal O y)
/-- A tree that is no deeper than so much, and no greater than a machine's. -/
def okTree (O : TT → Prop) (x : TT) : Prop := (x.f0.length * 32 ≤ reachBytes ∧ ∀ y ∈ x.f0, okSlot O y) ∧ (x.f1.length * 40 ≤ reachBytes ∧ ∀ y ∈ x.f1, okRaw y)
def okT : Nat → TT → Prop
 | 0 => fun _ => False
 | n + 1 => okTree (okT n)
theorem opensRaw (n : Nat) : OpensW n Try.prog k73 okRaw 73 :=
 opensW_struct (mk := fun y : Int × Int × Int × ByteArray => (⟨y.1, y.2.1, y.2.2.1, y.2.2.2⟩ : TR)) (proj := fun x => (x.f0, x.f1, x.f2, x.f3)) (fun _ => rfl) Try.underlying73 (by kernel_rfl) fun n _ =>
  fieldsW_cons rfl (by kernel_rfl) ((opens_int Try.underlying3).toW n) rfl (fieldsW_cons rfl (by kernel_rfl) ((opens_int Try.underlying3).toW n) rfl (fieldsW_cons rfl (by kernel_rfl) ((opens_int Try.underlying67).toW n) rfl (fieldsW_last rfl (by kernel_rfl) (opensW_string Try.underlying9))))
theorem cellsT : Try.prog.cellsOf 25 = 2 := by kernel_rfl
theorem cellsS : Try.prog.cellsOf 59 = 2 := by kernel_rfl
theorem cellsV : Try.prog.cellsOf 70 = 3 := by kernel_rfl
section
variable {d : Kd TT} {ok : TT → Prop}
theorem opensV (hd : d.sz = 2) (fuel : Nat) (h : ∀ n, fuel = n + 2 → OpensW n Try.prog d ok 25) : OpensW fuel Try.prog (g70 d) (okVal ok) 70 := by
 have h1 : Try.prog.cellsOf 70 = (Kd.pair (Kd.int .u64) (Kd.pair (Kd.string) (Kd.slice 25 d))).sz := cellsV
 refine opensW_struct (d := Kd.pair (Kd.int .u64) (Kd.pair (Kd.string) (Kd.slice 25 d))) (Ok := fun x : Int × ByteArray × List TT => ((Lit.int .u64 x.1).wf = true) ∧ (x.2.1.size ≤ reachBytes) ∧ (x.2.2.length * 48 ≤ reachBytes ∧ ∀ y ∈ x.2.2, ok y)) (mk := fun y => (⟨y.1, y.2.1, y.2.2⟩ : TV)) (proj := fun x => (x.f0, x.f1, x.f2)) (fun _ => rfl) Try.underlying70 h1 fun f e => ?_
 have c0 : Try.prog.cellsOf 67 = 1 := by kernel_rfl
 have c1 : Try.prog.cellsOf 9 = 1 := by kernel_rfl
 have c2 : Try.prog.cellsOf 68 = 1 := by kernel_rfl
 have g0 : OpensW f Try.prog (Kd.int .u64) (fun n => (Lit.int .u64 n).wf = true) 67 := (opens_int Try.underlying67).toW f
 have g1 : OpensW f Try.prog Kd.string (fun x => x.size ≤ reachBytes) 9 := opensW_string Try.underlying9
 have b2 : Try.prog.bytesOf 25 = 48 := by kernel_rfl
 have g2 : OpensW f Try.prog (Kd.slice 25 d) (fun l => l.length * 48 ≤ reachBytes ∧ ∀ y ∈ l, ok y) 68 := opensW_slice Try.underlying68 (cellsT.trans hd.symm) b2 fun f1 e1 => h f1 (by omega)
 refine fieldsW_cons (off' := 1) (Ok := fun x : Int => (Lit.int .u64 x).wf = true) (Ok' := fun x : ByteArray × List TT => (x.1.size ≤ reachBytes) ∧ (x.2.length * 48 ≤ reachBytes ∧ ∀ y ∈ x.2, ok y)) ?_ ?_ ?_ ?_ ?_
 · exact rfl
 · exact c0
 · exact g0
 · exact rfl
 refine fieldsW_cons (off' := 2) (Ok := fun x : ByteArray => x.size ≤ reachBytes) (Ok' := fun x : List TT => (x.length * 48 ≤ reachBytes ∧ ∀ y ∈ x, ok y)) ?_ ?_ ?_ ?_ ?_
 · exact rfl
 · exact c1
 · exact g1
 · exact rfl
 refine fieldsW_last ?_ ?_ ?_
 · exact rfl
 · exact c2
 · exact g2
theorem opensS (hd : d.sz = 2) (fuel : Nat) (h : ∀ n, fuel = n + 4 → OpensW n Try.prog d ok 25) : OpensW fuel Try.prog (g59 d) (okSlot ok) 59 := by
 have h1 : Try.prog.cellsOf 59 = (Kd.pair (Kd.int .i64) (Kd.slice 70 (g70 d))).sz := cellsS
 refine opensW_struct (d := Kd.pair (Kd.int .i64) (Kd.slice 70 (g70 d))) (Ok := fun x : Int × List TV => ((Lit.int .i64 x.1).wf = true) ∧ (x.2.length * 48 ≤ reachBytes ∧ ∀ y ∈ x.2, okVal ok y)) (mk := fun y => (⟨y.1, y.2⟩ : TS)) (proj := fun x => (x.f0, x.f1)) (fun _ => rfl) Try.underlying59 h1 fun f e => ?_
 have c0 : Try.prog.cellsOf 3 = 1 := by kernel_rfl
 have c1 : Try.prog.cellsOf 57 = 1 := by kernel_rfl
 have g0 : OpensW f Try.prog (Kd.int .i64) (fun n => (Lit.int .i64 n).wf = true) 3 := (opens_int Try.underlying3).toW f
 have b1 : Try.prog.bytesOf 70 = 48 := by kernel_rfl
 have g1 : OpensW f Try.prog (Kd.slice 70 (g70 d)) (fun l => l.length * 48 ≤ reachBytes ∧ ∀ y ∈ l, okVal ok y) 57 := opensW_slice Try.underlying57 cellsV b1 fun f1 e1 => opensV hd f1 fun f2 e2 => h f2 (by omega)
 refine fieldsW_cons (off' := 1) (Ok := fun x : Int => (Lit.int .i64 x).wf = true) (Ok' := fun x : List TV => (x.length * 48 ≤ reachBytes ∧ ∀ y ∈ x, okVal ok y)) ?_ ?_ ?_ ?_ ?_
 · exact rfl
 · exact c0
 · exact g0
 · exact rfl
 refine fieldsW_last ?_ ?_ ?_
 · exact rfl
 · exact c1
 · exact g1
theorem opensTof (hd : d.sz = 2) (fuel : Nat) (h : ∀ n, fuel = n + 6 → OpensW n Try.prog d ok 25) : OpensW fuel Try.prog (F25 d) (okTree ok) 25 := by
 have h1 : Try.prog.cellsOf 25 = (Kd.pair (Kd.slice 59 (g59 d)) (Kd.slice 73 k73)).sz := cellsT
 refine opensW_struct (d := Kd.pair (Kd.slice 59 (g59 d)) (Kd.slice 73 k73)) (Ok := fun x : List TS × List TR => (x.1.length * 32 ≤ reachBytes ∧ ∀ y ∈ x.1, okSlot ok y) ∧ (x.2.length * 40 ≤ reachBytes ∧ ∀ y ∈ x.2, okRaw y)) (mk := fun y => (⟨y.1, y.2⟩ : TT)) (proj := fun x => (x.f0, x.f1)) (fun _ => rfl) Try.underlying25 h1 fun f e => ?_
 have c0 : Try.prog.cellsOf 22 = 1 := by kernel_rfl
 have c1 : Try.prog.cellsOf 23 = 1 := by kernel_rfl
 have b0 : Try.prog.bytesOf 59 = 32 := by kernel_rfl
 have g0 : OpensW f Try.prog (Kd.slice 59 (g59 d)) (fun l => l.length * 32 ≤ reachBytes ∧ ∀ y ∈ l, okSlot ok y) 22 := opensW_slice Try.underlying22 cellsS b0 fun f1 e1 => opensS hd f1 fun f2 e2 => h f2 (by omega)
 have b1 : Try.prog.bytesOf 73 = 40 := by kernel_rfl
 have g1 : OpensW f Try.prog (Kd.slice 73 k73) (fun l => l.length * 40 ≤ reachBytes ∧ ∀ y ∈ l, okRaw y) 23 := opensW_slice Try.underlying23 (by kernel_rfl) b1 fun f1 e1 => opensRaw f1
 refine fieldsW_cons (off' := 1) (Ok := fun x : List TS => (x.length * 32 ≤ reachBytes ∧ ∀ y ∈ x, okSlot ok y)) (Ok' := fun x : List TR => (x.length * 40 ≤ reachBytes ∧ ∀ y ∈ x, okRaw y)) ?_ ?_ ?_ ?_ ?_
 · exact rfl
 · exact c0
 · exact g0
 · exact rfl
 refine fieldsW_last ?_ ?_ ?_
 · exact rfl
 · exact c1
 · exact g1
end
theorem OpensW.lift {α : Type} {fuel : Nat} {P : Program} {d d' : Kd α} {Ok : α → Prop} {t : TypeId} (h : OpensW fuel P d Ok t) (hk : ∀ w x cs, d.K w x cs → d'.K w x cs) : OpensW fuel P d' Ok t := fun H enc w base spare held cs x hx hl => by
 obtain ⟨y, h1, h2⟩ := h H enc w base spare held cs x hx hl
 exact ⟨y, hk _ _ _ h1, h2⟩
theorem szTree : k25.sz = 2 := rfl
theorem opensT : ∀ (n fuel : Nat), fuel ≤ n → OpensW fuel Try.prog k25 (okT n) 25
 | 0, fuel, h => by
  obtain rfl : fuel = 0 := by omega
  exact opensW_zero
 | n + 1, fuel, h => OpensW.lift (opensTof (d := k25) (ok := okT n) szTree fuel fun m hm => opensT n m (by omega)) fun _ _ _ hk => fo25K hk
theorem opensVal (n fuel : Nat) (h : fuel ≤ n) : OpensW fuel Try.prog k70 (okVal (okT n)) 70 := opensV (d := k25) szTree fuel fun m hm => opensT n m (by omega)
end Go.Proofs.Ytbpnfpckoapdbaa.Ops
end
section
namespace Go.Proofs.Ytbpnfpckoapdbaa.Ev
open Go.RowKit Go.Proofs.YtbpnfpckoapdbaaW.PrintWords Go.Proofs.Ytbpnfpckoapdbaa.KD Go.Proofs.Ytbpnfpckoapdbaa.Ops
set_option linter.unusedVariables false
/-- It tells something. -/
def T {α : Type} (g : Nat → Option α) : Prop := ∃ r, E g r
theorem T.const {α : Type} {r : α} : T (fun _ => some r) := ⟨r, E.const⟩
theorem T.step {α : Type} {g : Nat → Option α} (h : T (fun k => g (k + 1))) : T g := ⟨h.choose, E.step h.choose_spec⟩
theorem T.yes {α : Type} {c : Prop} [Decidable c] {g h : Nat → Option α} (hc : c) (hg : T g) : T (fun k => if c then g k else h k) := ⟨hg.choose, E.yes hc hg.choose_spec⟩
theorem T.no {α : Type} {c : Prop} [Decidable c] {g h : Nat → Option α} (hc : ¬ c) (hh : T h) : T (fun k => if c then g k else h k) := ⟨hh.choose, E.no hc hh.choose_spec⟩
theorem T.ite {α : Type} {c : Prop} [Decidable c] {g h : Nat → Option α} (hg : c → T g) (hh : ¬ c → T h) : T (fun k => if c then g k else h k) := by
 by_cases hc : c
 · exact T.yes hc (hg hc)
 · exact T.no hc (hh hc)
theorem T.bind {α β : Type} {f : Nat → Option α} {g : Nat → α → Option β} (hf : T f) (hg : ∀ a, E f a → T (fun k => g k a)) : T (fun k => (f k).bind (g k)) := by
 obtain ⟨a, ha⟩ := hf
 obtain ⟨r, hr⟩ := hg a ha
 exact ⟨r, E.bind ha hr⟩
theorem w1' {i n : Nat} (h : i < n) (hn : n ≤ 140737488351232) : wrap64 ((i : Int) + 1) = ((i + 1 : Nat) : Int) := by unfold wrap64; omega
theorem mem_getD {α : Type} {l : List α} {i : Nat} (z : α) (h : i < l.length) : l.getD i z ∈ l := by
 rw [List.getD_eq_getElem?_getD, List.getElem?_eq_getElem h]; exact List.getElem_mem _
theorem reach : reachBytes = 140737488351232 := by decide
end Go.Proofs.Ytbpnfpckoapdbaa.Ev
end
section
namespace Go.Proofs.Ytbpnfpckoapdbaa.P19
open Go.RowKit Go.Proofs.YtbpnfpckoapdbaaW.PrintWords Go.Proofs.YtbpnfpckoapdbaaW.PrintLast Go.Proofs.YtbpnfpckoapdbaaW.PrintMore Go.Proofs.Ytbpnfpckoapdbaa.KD Go.Proofs.Ytbpnfpckoapdbaa.M Go.Proofs.Ytbpnfpckoapdbaa.PT19 Go.Proofs.Ytbpnfpckoapdbaa.Ev Go.Proofs.Ytbpnfpckoapdbaa.Ops
set_option linter.unusedVariables false
set_option linter.unusedSimpArgs false
theorem left_T : ∀ (n : Nat) (t : TT), okT n t → ∀ a d, T (fun k => ecdysisref19_left.f k t.f0 t.f1 a d)
 | 0, t, h => h.elim
 | n + 1, t, h => by
  obtain ⟨⟨hl, hx⟩, hre, hr⟩ := h
  rw [reach] at hl hre
  intro a d
  have l1 := up (C := fun i => ∀ a, T (fun k => ecdysisref19_left.l1 k a d (i : Int) t.f0 t.f1)) t.f0.length (fun i hi a => by
   refine T.step ?_
   simp only [ecdysisref19_left.l1]
   refine T.no (by omega) (T.step ?_)
   simp only [ecdysisref19_left.j3]
   exact T.no (by simp) T.const) (fun i hi ih a => by
   have hs := hx _ (mem_getD z59 hi)
   have hrd : rd_T59 t.f0 (i : Int) = t.f0.getD i z59 := rfl
   generalize t.f0.getD i z59 = x at hs hrd
   obtain ⟨_, hvl, hvv⟩ := hs
   rw [reach] at hvl
   have l2 := up (C := fun j => ∀ a, T (fun k => ecdysisref19_left.l2 k a d (i : Int) (j : Int) t.f0 t.f1)) x.f1.length (fun j hj a => by
    refine T.step ?_
    simp only [ecdysisref19_left.l2, hrd]
    refine T.yes (by omega) (T.yes (by omega) (T.no (by omega) (T.step ?_)))
    simp only [ecdysisref19_left.j5, w1' hi (by omega : t.f0.length ≤ 140737488351232)]
    exact T.no (by simp) (ih a)) (fun j hj ihj a => by
    have hv := hvv _ (mem_getD z70 hj)
    have hrv : rd_T70 x.f1 (j : Int) = x.f1.getD j z70 := rfl
    generalize x.f1.getD j z70 = v at hv hrv
    obtain ⟨_, _, hml, hmm⟩ := hv
    rw [reach] at hml
    have l3 := up (C := fun m => ∀ a, T (fun k => ecdysisref19_left.l3 k a d (i : Int) (j : Int) (m : Int) t.f0 t.f1)) v.f2.length (fun m hm a => by
     refine T.step ?_
     simp only [ecdysisref19_left.l3, hrd, hrv, w1' hj (by omega : x.f1.length ≤ 140737488351232)]
     exact T.yes (by omega) (T.yes (by omega) (T.yes (by omega) (T.yes (by omega) (T.no (by omega) (ihj a)))))) (fun m hm ihm a => by
     have ht := hmm _ (mem_getD z25 hm)
     have hrt : rd_T25 v.f2 (m : Int) = v.f2.getD m z25 := rfl
     generalize v.f2.getD m z25 = y at ht hrt
     refine T.step ?_
     simp only [ecdysisref19_left.l3, hrd, hrv, hrt, w1' hj (by omega : x.f1.length ≤ 140737488351232), w1' hm (by omega : v.f2.length ≤ 140737488351232)]
     exact T.yes (by omega) (T.yes (by omega) (T.yes (by omega) (T.yes (by omega) (T.yes (by omega) (T.ite (fun _ => T.yes (by omega) (T.bind (left_T n y ht _ _) fun b _ => ihm b)) fun _ => ihj a)))))) 0
    refine T.step ?_
    simp only [ecdysisref19_left.l2, hrd]
    refine T.yes (by omega) (T.yes (by omega) (T.yes (by omega) (T.step ?_)))
    simp only [ecdysisref19_left.j5, hrd, hrv, w1' hi (by omega : t.f0.length ≤ 140737488351232)]
    exact T.ite (fun _ => T.yes (by omega) (T.yes (by omega) (T.yes (by omega) (T.yes (by omega) (l3 _))))) fun _ => ih a) 0
   refine T.step ?_
   simp only [ecdysisref19_left.l1]
   refine T.yes (by omega) (T.step ?_)
   simp only [ecdysisref19_left.j3, hrd]
   exact T.ite (fun _ => T.yes (by omega) (T.yes (by omega) (l2 _))) fun _ => T.const) 0
  have l0 := up (C := fun i => ∀ a, T (fun k => ecdysisref19_left.l0 k a d (i : Int) t.f0 t.f1)) t.f1.length (fun i hi a => by
   refine T.step ?_
   simp only [ecdysisref19_left.l0]
   refine T.no (by omega) (T.step ?_)
   simp only [ecdysisref19_left.j1]
   exact l1 a) (fun i hi ih a => by
   refine T.step ?_
   simp only [ecdysisref19_left.l0, w1' hi (by omega : t.f1.length ≤ 140737488351232)]
   refine T.yes (by omega) (T.ite (fun _ => T.yes (by omega) (ih _)) fun _ => T.step ?_)
   simp only [ecdysisref19_left.j1]
   exact l1 a) 0
  refine T.step ?_
  show T (fun k => ecdysisref19_left.f (k + 1) _ _ _ _)
  simp only [ecdysisref19_left.f]
  exact T.ite (fun _ => T.const) fun _ => l0 _
theorem small19_T {n : Nat} {t : TT} (h : okT n t) : T (fun k => ecdysisref19_Small.f k t.f0 t.f1) := T.bind (left_T n t h 400 40) fun b _ => T.const
theorem raws_E (l : List TR) (h : l.length ≤ 140737488351232) : E (fun k => ecdysisref07_Same.f k l l) true := by
 have key := up (C := fun i => E (fun k => ecdysisref07_Same.l0 k l l (i : Int)) true) l.length (fun i hi => ?_) (fun i hi ih => ?_) 0
 · exact E.yes rfl key
 · exact E.succ E.const fun k => by simp only [ecdysisref07_Same.l0]; rw [if_neg (by omega)]
 · exact E.succ ih fun k => by simp only [ecdysisref07_Same.l0]; rw [if_pos (by omega), if_pos (by omega), if_pos (by omega), w1' hi h]; simp
def SameOk (t : TT) : Prop := E (fun k => ecdysisref19_Same.f k t.f0 t.f1 t.f0 t.f1) true
theorem samevals_E (l : List TV) (h : l.length ≤ 140737488351232) (hv : ∀ v ∈ l, v.f2.length ≤ 140737488351232 ∧ ∀ t ∈ v.f2, SameOk t) : E (fun k => ecdysisref19_SameVals.f k l l) true := by
 have l0 := up (C := fun i => E (fun k => ecdysisref19_SameVals.l0 k l l (i : Int)) true) l.length (fun i hi => by
  exact E.succ E.const fun k => by simp only [ecdysisref19_SameVals.l0]; rw [if_neg (by omega)]) (fun i hi ih => by
  have hs := hv _ (mem_getD z70 hi)
  have hrd : rd_T70 l (i : Int) = l.getD i z70 := rfl
  generalize l.getD i z70 = v at hs hrd
  have l1 := up (C := fun m => E (fun k => ecdysisref19_SameVals.l1 k l l (i : Int) (m : Int)) true) v.f2.length (fun m hm => by
   refine E.step ?_
   simp only [ecdysisref19_SameVals.l1, hrd, w1' hi h]
   exact E.yes (by omega) (E.yes (by omega) (E.no (by omega) ih))) (fun m hm ihm => by
   have ht := hs.2 _ (mem_getD z25 hm)
   have hrt : rd_T25 v.f2 (m : Int) = v.f2.getD m z25 := rfl
   generalize v.f2.getD m z25 = y at ht hrt
   refine E.step ?_
   simp only [ecdysisref19_SameVals.l1, hrd, hrt, w1' hm hs.1]
   exact E.yes (by omega) (E.yes (by omega) (E.yes (by omega) (E.yes (by omega) (E.yes (by omega) (E.yes (by omega) (E.bind ht (E.yes rfl ihm)))))))) 0
  refine E.step ?_
  simp only [ecdysisref19_SameVals.l0, hrd]
  refine E.yes (by omega) (E.yes (by omega) (E.yes (by omega) (E.yes (by first | trivial | rfl) (E.yes (by first | trivial | rfl) ?_))))
  rw [show ((v.f2.length : Int) != (v.f2.length : Int)) = false by simp]
  exact E.succ l1 fun k => by simp only [ecdysisref19_SameVals.j1]; rw [if_neg (by simp)]; rfl) 0
 refine E.step ?_
 show E (fun k => ecdysisref19_SameVals.f (k + 1) _ _) _
 simp only [ecdysisref19_SameVals.f]
 exact E.yes (by first | trivial | rfl) l0
/-- Every tree is the same as_ itself. -/
theorem same_E : ∀ (n : Nat) (t : TT), okT n t → SameOk t
 | 0, t, h => h.elim
 | n + 1, t, h => by
  obtain ⟨⟨hl, hx⟩, hre, hr⟩ := h
  rw [reach] at hl hre
  have l0 := up (C := fun i => E (fun k => ecdysisref19_Same.l0 k (i : Int) t.f0 t.f1 t.f0 t.f1) true) t.f0.length (fun i hi => by
   exact E.succ E.const fun k => by simp only [ecdysisref19_Same.l0]; rw [if_neg (by omega)]) (fun i hi ih => by
   obtain ⟨_, hvl, hvv⟩ := hx _ (mem_getD z59 hi)
   rw [reach] at hvl
   have hrd : rd_T59 t.f0 (i : Int) = t.f0.getD i z59 := rfl
   have hsv := samevals_E _ (by omega) (fun v hv => ⟨by have := (hvv v hv).2.2.1; rw [reach] at this; omega, fun y hy => same_E n y ((hvv v hv).2.2.2 y hy)⟩)
   refine E.step ?_
   simp only [ecdysisref19_Same.l0, hrd, w1' hi (by omega : t.f0.length ≤ 140737488351232)]
   exact E.yes (by omega) (E.yes (by omega) (E.yes (by omega) (E.yes (by first | trivial | rfl) (E.bind hsv (E.yes rfl ih)))))) 0
  refine E.step ?_
  show E (fun k => ecdysisref19_Same.f (k + 1) _ _ _ _) _
  simp only [ecdysisref19_Same.f]
  refine E.yes (by first | trivial | rfl) (E.bind (raws_E t.f1 (by omega)) ?_)
  exact E.succ l0 fun k => by simp only [ecdysisref19_Same.j0]; rw [if_neg (by simp)]; rfl
end Go.Proofs.Ytbpnfpckoapdbaa.P19
end
section
namespace Go.Proofs.Ytbpnfpckoapdbaa.TK
open Go.RowKit Go.Proofs.Ytbpnfpckoapdbaa.KD Go.Proofs.Ytbpnfpckoapdbaa.M Go.Proofs.YtbpnfpckoapdbaaW.PrintWords Go.Proofs.YtbpnfpckoapdbaaW.PrintLast Go.Proofs.YtbpnfpckoapdbaaW.PrintMore Go.Proofs.Ytbpnfpckoapdbaa.Open
set_option linter.unusedVariables false
set_option linter.unusedSimpArgs false
set_option maxHeartbeats 1000000
set_option maxRecDepth 100000
theorem boxes {w w2 : World} {cs cs' : Array Value} {t t' : TypeId} (h : Below ((w.alloc (.cells cs t)).alloc (.cells cs' t')).heap.size ((w.alloc (.cells cs t)).alloc (.cells cs' t')) w2) : w2.heap[w.heap.size]? = some (.cells cs t (0, 0)) ∧ w2.heap[w.heap.size + 1]? = some (.cells cs' t' (0, 0)) := by
 have h1 := blk_alloc (blk_new w (.cells cs t)) (.cells cs' t')
 have h2 := blk_new (w.alloc (.cells cs t)) (.cells cs' t')
 rw [World.size_alloc] at h2
 exact ⟨(h.block _ (blk_lt h1)).trans h1, (h.block _ (blk_lt h2)).trans h2⟩
theorem b2 (w : World) (o o' : Obj) : Below w.heap.size w ((w.alloc o).alloc o') := below_alloc (below_alloc (Below.refl _ _) _) _
/-- So many cells, as_ they are. -/
def kFlat (sz : Nat) : Kd (List Value) where
 sz := sz
 E := []
 K := fun _ x cs => cs = x ∧ cs.length = sz ∧ ∀ u ∈ cs, u.oneCell' = true
 M := fun _ _ _ x cs => cs = x ∧ cs.length = sz ∧ ∀ u ∈ cs, u.oneCell' = true
 K_len := fun h => h.2.1
 K_one := fun h => h.2.2
 K_below := fun _ h => h
 K_of_M := fun h => h
 M_mono := fun _ h => h
 M_bound := fun h => h
 M_move := fun _ h => h
 M_lower := fun _ h => h
theorem flat_C {α : Type} {d : Kd α} {w : World} {A : Option Addr} {n : Nat} {xs : List α} (h : d.C w A n xs) : ∃ l : List (List Value), l.length = n ∧ (kFlat d.sz).C w A n l ∧ ∀ (i : Nat) (x : α) (c : List Value), xs[i]? = some x → l[i]? = some c → d.K w x c := by
 obtain ⟨h1, h2, h3⟩ := h
 rcases Nat.eq_zero_or_pos n with hn | hn
 · subst hn
   exact ⟨[], rfl, ⟨rfl, h2, fun h => absurd h (Nat.lt_irrefl 0)⟩, fun i x c _ hc => by simp at hc⟩
 · obtain ⟨ad, rfl, hc⟩ := h3 hn
   obtain ⟨l, hl, hp⟩ := list_of (fun i c => ∃ x, xs[i]? = some x ∧ c.length = d.sz ∧ d.K w x c ∧ ∀ j u, c[j]? = some u → w.cell? (ad.add (i * d.sz + j)) = some u) n (fun i hi => by
     have hx : xs[i]? = some xs[i] := List.getElem?_eq_getElem (by omega)
     obtain ⟨c, hc1, hc2, hc3⟩ := hc i _ hx
     exact ⟨c, xs[i], hx, hc1, hc2, hc3⟩)
   refine ⟨l, hl, ⟨hl, h2, fun _ => ⟨ad, rfl, fun j p hj => ?_⟩⟩, fun i x c hx hc => ?_⟩
   · obtain ⟨x, _, h5, h6, h7⟩ := hp j p hj
     exact ⟨p, h5, ⟨rfl, h5, d.K_one h6⟩, h7⟩
   · obtain ⟨x', h4, _, h6, _⟩ := hp i c hc
     rw [hx] at h4
     injection h4 with h4
     exact h4 ▸ h6
theorem eq_some {t e : TypeId} (hu : Try.prog.underlying t = some (.slice e)) (w : World) (ad : Addr) (n c : Nat) : (binOp .eql t (.slice (some ad) n c) (.slice none 0 0)).run Try.prog w = .ok (.bool false) w := by
 have h : ∀ d : Nat, (Op.equalIn (d + 1) t (.slice (some ad) n c) (.slice none 0 0)).run Try.prog w = .ok false w := fun d => by
  simp [Op.equalIn, run_underlying hu]
 simp only [binOp]
 simp [Op.equal, Op.maxDepth, h 9999]
theorem eq_none {t e : TypeId} (hu : Try.prog.underlying t = some (.slice e)) (w : World) (n c : Nat) : (binOp .eql t (.slice none n c) (.slice none 0 0)).run Try.prog w = .ok (.bool true) w := by
 have h : ∀ d : Nat, (Op.equalIn (d + 1) t (.slice none n c) (.slice none 0 0)).run Try.prog w = .ok true w := fun d => by
  simp [Op.equalIn, run_underlying hu]
 simp only [binOp]
 simp [Op.equal, Op.maxDepth, h 9999]
theorem infoCloneR : (Try.prog.info? 73).map (fun i => (i.zero, i.size, i.bytes)) = some (some (.agg #[.int .i64 0, .int .i64 0, .int .u64 0, .string ⟨#[]⟩]), 4, 40) := by kernel_rfl
theorem CloneR_c {w : World} {A : Option Addr} {c : Nat} {xs : List (List Value)} (hC : (kFlat 4).C w A xs.length xs) (hb : xs.length * 40 ≤ 140737488355328) :
   Calls Try.prog 48 #[.slice A xs.length c] w fun r w' => ∃ v, r = .returned v ∧ (kFlat 4).R 73 w' w.heap.size (fun _ => True) v xs ∧ Below w.heap.size w w' := by
 rcases A with _ | ad
 · have h1 : xs.length = 0 := by
    rcases Nat.eq_zero_or_pos xs.length with h | h
    · exact h
    · obtain ⟨_, h2, _⟩ := hC.2.2 h
      cases h2
   obtain rfl : xs = [] := List.length_eq_zero_iff.1 h1
   clear hC hb h1
   have q1 := eq_some Try.underlying23
   have q2 := eq_none Try.underlying23
   go_enter Try.func48, Try.ntmps48
   go_wp2
   go_ret
   exact ⟨_, rfl, Kd.R_nil _ _ _ _ _, Below.refl _ _⟩
 · have HC := Aside0.mk hC
   have HB := Aside0.mk hb
   clear hC hb
   have q1 := eq_some Try.underlying23
   have q2 := eq_none Try.underlying23
   go_enter Try.func48, Try.ntmps48
   have HO : Aside0 ((kFlat 4).R 73 (w.alloc (.cells #[] 73)) w.heap.size (fun _ => True) (.slice (some ⟨w.heap.size, 0, none⟩) 0 0) []) := ⟨⟨fun _ _ => trivial, _, ⟨rfl, .inr ⟨w.heap.size, 0, #[], rfl, Nat.le_refl _, blk_new w _, Nat.le_refl _, by decide, rfl, rfl⟩⟩, Reps.none _ _⟩⟩
   have HR := Aside0.mk (Kd.C_below HC.out (below_alloc (Below.refl _ w) (.cells #[] 73)))
   go_wp2_with (first
    | ((with_reducible refine gate_builtin (b := .append) rfl ?_); refine Kd.R_append_rows (kFlat 4) (Rr := (kFlat 4).K (w.alloc (.cells #[] 73))) (w0 := w) w.heap.size rfl (.tmp 5) (.tmp 6) 23 73 _ 40 rfl Try.underlying23 infoCloneR rfl (by decide) (by decide) (.slice (some ⟨w.heap.size, 0, none⟩) 0 0) [] xs (some ad) xs.length c (fun _ => True) (fun _ => False) rfl rfl HO.out HR.out (fun _ _ h => h) (fun _ h => h.elim) (fun _ _ => trivial) (below_alloc (Below.refl _ _) _) (by rw [World.size_alloc]; omega) (by have := HB.out; simp only [List.length_nil, Nat.zero_add]; exact this) ?_; intro v1 w1 h1 b1 _ _; have H1 := Aside0.mk h1; have B1 := Aside0.mk b1; clear h1 b1))
   go_ret
   exact ⟨_, rfl, by rw [← List.nil_append xs]; exact H1.out, B1.out⟩
theorem infoCloneS : (Try.prog.info? 59).map (fun i => (i.zero, i.size, i.bytes)) = some (some (.agg #[.int .i64 0, .slice none 0 0]), 2, 32) := by kernel_rfl
theorem CloneS_c {w : World} {A : Option Addr} {c : Nat} {xs : List (List Value)} (hC : (kFlat 2).C w A xs.length xs) (hb : xs.length * 32 ≤ 140737488355328) :
   Calls Try.prog 49 #[.slice A xs.length c] w fun r w' => ∃ v, r = .returned v ∧ (kFlat 2).R 59 w' w.heap.size (fun _ => True) v xs ∧ Below w.heap.size w w' := by
 rcases A with _ | ad
 · have h1 : xs.length = 0 := by
    rcases Nat.eq_zero_or_pos xs.length with h | h
    · exact h
    · obtain ⟨_, h2, _⟩ := hC.2.2 h
      cases h2
   obtain rfl : xs = [] := List.length_eq_zero_iff.1 h1
   clear hC hb h1
   have q1 := eq_some Try.underlying22
   have q2 := eq_none Try.underlying22
   go_enter Try.func49, Try.ntmps49
   go_wp2
   go_ret
   exact ⟨_, rfl, Kd.R_nil _ _ _ _ _, Below.refl _ _⟩
 · have HC := Aside0.mk hC
   have HB := Aside0.mk hb
   clear hC hb
   have q1 := eq_some Try.underlying22
   have q2 := eq_none Try.underlying22
   go_enter Try.func49, Try.ntmps49
   have HO : Aside0 ((kFlat 2).R 59 (w.alloc (.cells #[] 59)) w.heap.size (fun _ => True) (.slice (some ⟨w.heap.size, 0, none⟩) 0 0) []) := ⟨⟨fun _ _ => trivial, _, ⟨rfl, .inr ⟨w.heap.size, 0, #[], rfl, Nat.le_refl _, blk_new w _, Nat.le_refl _, by decide, rfl, rfl⟩⟩, Reps.none _ _⟩⟩
   have HR := Aside0.mk (Kd.C_below HC.out (below_alloc (Below.refl _ w) (.cells #[] 59)))
   go_wp2_with (first
    | ((with_reducible refine gate_builtin (b := .append) rfl ?_); refine Kd.R_append_rows (kFlat 2) (Rr := (kFlat 2).K (w.alloc (.cells #[] 59))) (w0 := w) w.heap.size rfl (.tmp 5) (.tmp 6) 22 59 _ 32 rfl Try.underlying22 infoCloneS rfl (by decide) (by decide) (.slice (some ⟨w.heap.size, 0, none⟩) 0 0) [] xs (some ad) xs.length c (fun _ => True) (fun _ => False) rfl rfl HO.out HR.out (fun _ _ h => h) (fun _ h => h.elim) (fun _ _ => trivial) (below_alloc (Below.refl _ _) _) (by rw [World.size_alloc]; omega) (by have := HB.out; simp only [List.length_nil, Nat.zero_add]; exact this) ?_; intro v1 w1 h1 b1 _ _; have H1 := Aside0.mk h1; have B1 := Aside0.mk b1; clear h1 b1))
   go_ret
   exact ⟨_, rfl, by rw [← List.nil_append xs]; exact H1.out, B1.out⟩
theorem infoCloneV : (Try.prog.info? 70).map (fun i => (i.zero, i.size, i.bytes)) = some (some (.agg #[.int .u64 0, .string ⟨#[]⟩, .slice none 0 0]), 3, 48) := by kernel_rfl
theorem CloneV_c {w : World} {A : Option Addr} {c : Nat} {xs : List (List Value)} (hC : (kFlat 3).C w A xs.length xs) (hb : xs.length * 48 ≤ 140737488355328) :
   Calls Try.prog 50 #[.slice A xs.length c] w fun r w' => ∃ v, r = .returned v ∧ (kFlat 3).R 70 w' w.heap.size (fun _ => True) v xs ∧ Below w.heap.size w w' := by
 rcases A with _ | ad
 · have h1 : xs.length = 0 := by
    rcases Nat.eq_zero_or_pos xs.length with h | h
    · exact h
    · obtain ⟨_, h2, _⟩ := hC.2.2 h
      cases h2
   obtain rfl : xs = [] := List.length_eq_zero_iff.1 h1
   clear hC hb h1
   have q1 := eq_some Try.underlying57
   have q2 := eq_none Try.underlying57
   go_enter Try.func50, Try.ntmps50
   go_wp2
   go_ret
   exact ⟨_, rfl, Kd.R_nil _ _ _ _ _, Below.refl _ _⟩
 · have HC := Aside0.mk hC
   have HB := Aside0.mk hb
   clear hC hb
   have q1 := eq_some Try.underlying57
   have q2 := eq_none Try.underlying57
   go_enter Try.func50, Try.ntmps50
   have HO : Aside0 ((kFlat 3).R 70 (w.alloc (.cells #[] 70)) w.heap.size (fun _ => True) (.slice (some ⟨w.heap.size, 0, none⟩) 0 0) []) := ⟨⟨fun _ _ => trivial, _, ⟨rfl, .inr ⟨w.heap.size, 0, #[], rfl, Nat.le_refl _, blk_new w _, Nat.le_refl _, by decide, rfl, rfl⟩⟩, Reps.none _ _⟩⟩
   have HR := Aside0.mk (Kd.C_below HC.out (below_alloc (Below.refl _ w) (.cells #[] 70)))
   go_wp2_with (first
    | ((with_reducible refine gate_builtin (b := .append) rfl ?_); refine Kd.R_append_rows (kFlat 3) (Rr := (kFlat 3).K (w.alloc (.cells #[] 70))) (w0 := w) w.heap.size rfl (.tmp 5) (.tmp 6) 57 70 _ 48 rfl Try.underlying57 infoCloneV rfl (by decide) (by decide) (.slice (some ⟨w.heap.size, 0, none⟩) 0 0) [] xs (some ad) xs.length c (fun _ => True) (fun _ => False) rfl rfl HO.out HR.out (fun _ _ h => h) (fun _ h => h.elim) (fun _ _ => trivial) (below_alloc (Below.refl _ _) _) (by rw [World.size_alloc]; omega) (by have := HB.out; simp only [List.length_nil, Nat.zero_add]; exact this) ?_; intro v1 w1 h1 b1 _ _; have H1 := Aside0.mk h1; have B1 := Aside0.mk b1; clear h1 b1))
   go_ret
   exact ⟨_, rfl, by rw [← List.nil_append xs]; exact H1.out, B1.out⟩
theorem infoCloneT : (Try.prog.info? 25).map (fun i => (i.zero, i.size, i.bytes)) = some (some (.agg #[.slice none 0 0, .slice none 0 0]), 2, 48) := by kernel_rfl
theorem CloneT_c {w : World} {A : Option Addr} {c : Nat} {xs : List (List Value)} (hC : (kFlat 2).C w A xs.length xs) (hb : xs.length * 48 ≤ 140737488355328) :
   Calls Try.prog 88 #[.slice A xs.length c] w fun r w' => ∃ v, r = .returned v ∧ (kFlat 2).R 25 w' w.heap.size (fun _ => True) v xs ∧ Below w.heap.size w w' := by
 rcases A with _ | ad
 · have h1 : xs.length = 0 := by
    rcases Nat.eq_zero_or_pos xs.length with h | h
    · exact h
    · obtain ⟨_, h2, _⟩ := hC.2.2 h
      cases h2
   obtain rfl : xs = [] := List.length_eq_zero_iff.1 h1
   clear hC hb h1
   have q1 := eq_some Try.underlying68
   have q2 := eq_none Try.underlying68
   go_enter Try.func88, Try.ntmps88
   go_wp2
   go_ret
   exact ⟨_, rfl, Kd.R_nil _ _ _ _ _, Below.refl _ _⟩
 · have HC := Aside0.mk hC
   have HB := Aside0.mk hb
   clear hC hb
   have q1 := eq_some Try.underlying68
   have q2 := eq_none Try.underlying68
   go_enter Try.func88, Try.ntmps88
   have HO : Aside0 ((kFlat 2).R 25 (w.alloc (.cells #[] 25)) w.heap.size (fun _ => True) (.slice (some ⟨w.heap.size, 0, none⟩) 0 0) []) := ⟨⟨fun _ _ => trivial, _, ⟨rfl, .inr ⟨w.heap.size, 0, #[], rfl, Nat.le_refl _, blk_new w _, Nat.le_refl _, by decide, rfl, rfl⟩⟩, Reps.none _ _⟩⟩
   have HR := Aside0.mk (Kd.C_below HC.out (below_alloc (Below.refl _ w) (.cells #[] 25)))
   go_wp2_with (first
    | ((with_reducible refine gate_builtin (b := .append) rfl ?_); refine Kd.R_append_rows (kFlat 2) (Rr := (kFlat 2).K (w.alloc (.cells #[] 25))) (w0 := w) w.heap.size rfl (.tmp 5) (.tmp 6) 68 25 _ 48 rfl Try.underlying68 infoCloneT rfl (by decide) (by decide) (.slice (some ⟨w.heap.size, 0, none⟩) 0 0) [] xs (some ad) xs.length c (fun _ => True) (fun _ => False) rfl rfl HO.out HR.out (fun _ _ h => h) (fun _ h => h.elim) (fun _ _ => trivial) (below_alloc (Below.refl _ _) _) (by rw [World.size_alloc]; omega) (by have := HB.out; simp only [List.length_nil, Nat.zero_add]; exact this) ?_; intro v1 w1 h1 b1 _ _; have H1 := Aside0.mk h1; have B1 := Aside0.mk b1; clear h1 b1))
   go_ret
   exact ⟨_, rfl, by rw [← List.nil_append xs]; exact H1.out, B1.out⟩
end Go.Proofs.Ytbpnfpckoapdbaa.TK
end
section
namespace Go.Proofs.Ytbpnfpckoapdbaa.TK
open Go.RowKit Go.Proofs.Ytbpnfpckoapdbaa.Ops Go.Proofs.Ytbpnfpckoapdbaa.KD Go.Proofs.Ytbpnfpckoapdbaa.M Go.Proofs.YtbpnfpckoapdbaaW.PrintWords Go.Proofs.YtbpnfpckoapdbaaW.PrintLast Go.Proofs.YtbpnfpckoapdbaaW.PrintMore Go.Proofs.Ytbpnfpckoapdbaa.Open
set_option linter.unusedVariables false
set_option linter.unusedSimpArgs false
section
variable {d : Kd TT} {w : World}
theorem kV_open {x : TV} {cs : List Value} (h : (g70 d).K w x cs) : ∃ A c, cs = [.int .u64 x.f0, .string x.f1, .slice A x.f2.length c] ∧ x.f2.length ≤ c ∧ d.C w A x.f2.length x.f2 := by
 obtain ⟨_, _, rfl, rfl, ⟨_, _, rfl, rfl, ⟨A, c, rfl, l, g⟩⟩⟩ := h
 exact ⟨A, c, rfl, l, g⟩
theorem kS_open {x : TS} {cs : List Value} (h : (g59 d).K w x cs) : ∃ A c, cs = [.int .i64 x.f0, .slice A x.f1.length c] ∧ x.f1.length ≤ c ∧ (g70 d).C w A x.f1.length x.f1 := by
 obtain ⟨_, _, rfl, rfl, ⟨A, c, rfl, l, g⟩⟩ := h
 exact ⟨A, c, rfl, l, g⟩
theorem kT_open {x : TT} {cs : List Value} (h : (F25 d).K w x cs) : ∃ A c A' c', cs = [.slice A x.f0.length c, .slice A' x.f1.length c'] ∧ x.f0.length ≤ c ∧ (g59 d).C w A x.f0.length x.f0 ∧ x.f1.length ≤ c' ∧ k73.C w A' x.f1.length x.f1 := by
 obtain ⟨_, _, rfl, ⟨A, c, rfl, l, g⟩, ⟨A', c', rfl, l', g'⟩⟩ := h
 exact ⟨A, c, A', c', rfl, l, g, l', g'⟩
end
/-- Whatever stands for trees: two slices. -/
structure Two {β : Type} (d : Kd β) : Prop where
 sz : d.sz = 2
 two : ∀ {w : World} {x : β} {cs : List Value}, d.K w x cs → ∃ A n c A' n' c', cs = [.slice A n c, .slice A' n' c']
theorem F_two (d : Kd TT) : Two (F25 d) := ⟨rfl, fun h => by
 obtain ⟨A, c, A', c', rfl, _⟩ := kT_open h
 exact ⟨_, _, _, _, _, _, rfl⟩⟩
theorem upto_two (E_ : List Nat) : ∀ n, Two (Kd.upto F25 2 E_ n)
 | 0 => ⟨rfl, fun h => h.elim⟩
 | n + 1 => F_two _
/-- The first i elements are new (own rows, none of them this block), the others stand as_ they were. -/
structure Half {α : Type} (d : Kd α) (e G base n cap i : Nat) (ys : List α) (olds : List (List Value)) (w : World) : Prop where
 is : ∃ (news sp : List Value) (cur : Array Value), w.heap[G]? = some (.cells cur e (0, 0)) ∧ cur.toList = news ++ ((olds.drop i).flatten ++ sp) ∧ cur.size = cap * d.sz ∧ Reps (d.M w base (fun k => k ≠ G)) d.sz ys news
 ln : ys.length = i
 lo : olds.length = n
 hn : i ≤ n
 hc : n ≤ cap
 hm : cap ≤ maxLen
 hb : base ≤ G
 hs : ∀ x ∈ olds, x.length = d.sz
theorem reps_flat {R : List Value → List Value → Prop} {sz : Nat} (hR : ∀ x cs, R x cs → cs = x) : ∀ {olds : List (List Value)} {inner : List Value}, Reps R sz olds inner → inner = olds.flatten
 | [], inner, h => by
  have := h.1
  simp at this
  simp [this]
 | x :: r, inner, h => by
  have h0 := hR _ _ (h.2 0 x rfl)
  rw [Nat.zero_mul, List.drop_zero] at h0
  have h1 : Reps R sz r (inner.drop sz) := by
   refine ⟨by rw [List.length_drop, h.1, List.length_cons, Nat.add_mul, Nat.one_mul]; omega, fun j p hj => ?_⟩
   have := h.2 (j + 1) p (by simpa using hj)
   rw [List.drop_drop]
   rwa [show (j + 1) * sz = sz + j * sz by rw [Nat.add_mul, Nat.one_mul, Nat.add_comm]] at this
  rw [List.flatten_cons, ← reps_flat hR h1, ← h0, List.take_append_drop]
theorem reps_mem {R : List Value → List Value → Prop} {sz : Nat} {olds : List (List Value)} {inner : List Value} (h : Reps R sz olds inner) (hR : ∀ x cs, R x cs → x.length = sz) : ∀ x ∈ olds, x.length = sz := by
 intro x hx
 obtain ⟨i, hi⟩ := List.getElem?_of_mem hx
 exact hR _ _ (h.2 i x hi)
theorem Half.start {α : Type} {d : Kd α} {e base : Nat} {w : World} {v : Value} {olds : List (List Value)} (h : (kFlat d.sz).R e w base (fun _ => True) v olds) (h0 : 0 < olds.length) : ∃ G cap, v = .slice (some ⟨G, 0, none⟩) olds.length cap ∧ Half d e G base olds.length cap 0 ([] : List α) olds w := by
 obtain ⟨_, inner, ⟨h1, h2⟩, hr⟩ := h
 rcases h2 with ⟨_, h2⟩ | ⟨G, cap, cur, rfl, hb, hh, hn, hm, hs, ht⟩
 · omega
 · refine ⟨G, cap, rfl, ⟨[], cur.toList.drop (olds.length * d.sz), cur, hh, ?_, hs, Reps.none _ _⟩, rfl, rfl, Nat.zero_le _, hn, hm, hb, reps_mem hr (fun x cs hx => by rw [← hx.1]; exact hx.2.1)⟩
   have := reps_flat (fun x cs hx => hx.1) hr
   rw [List.nil_append, List.drop_zero, ← this, ← ht]
   exact (List.take_append_drop _ _).symm
theorem Half.below {α : Type} {d : Kd α} {e G base n cap i : Nat} {ys : List α} {olds : List (List Value)} {w w' : World} (h : Half d e G base n cap i ys olds w) (hb : Below w.heap.size w w') : Half d e G base n cap i ys olds w' := by
 obtain ⟨⟨news, sp, cur, h1, h2, h3, h4⟩, r⟩ := h
 exact ⟨⟨news, sp, cur, blk_below h1 hb, h2, h3, h4.imp_ (fun _ _ hp => Kd.M_below hp hb)⟩, ‹_›, ‹_›, ‹_›, ‹_›, ‹_›, ‹_›, ‹_›⟩
theorem Half.cell {α : Type} {d : Kd α} {e G base n cap i : Nat} {ys : List α} {olds : List (List Value)} {w : World} (h : Half d e G base n cap i ys olds w) {o : List Value} (ho : olds[i]? = some o) {j : Nat} {u : Value} (hj : o[j]? = some u) : w.cell? ⟨G, i * d.sz + j, none⟩ = some u ∧ w.frozen? ⟨G, i * d.sz + j, none⟩ = false := by
 obtain ⟨⟨news, sp, cur, h1, h2, h3, h4⟩, ln, lo, hn, hc, hm, hb, hs⟩ := h
 obtain ⟨hi, rfl⟩ := List.getElem?_eq_some_iff.1 ho
 have hl : news.length = i * d.sz := by rw [h4.1, ln]
 refine ⟨?_, blk_frozen h1 _⟩
 rw [blk_cell h1, ← Array.getElem?_toList, h2, List.getElem?_append_right (by omega), hl, Nat.add_sub_cancel_left, List.drop_eq_getElem_cons hi, List.flatten_cons, List.append_assoc, List.getElem?_append_left (List.getElem?_eq_some_iff.1 hj).1]
 exact hj
/-- A store below the base touches neither the row nor what hangs on it. -/
theorem Half.low {α : Type} {d : Kd α} {e G base n cap i : Nat} {ys : List α} {olds : List (List Value)} {w : World} (h : Half d e G base n cap i ys olds w) {p : Addr} (hp : p.block < base) (u : Value) : Half d e G base n cap i ys olds (w.setCell p u) := by
 obtain ⟨⟨news, sp, cur, h1, h2, h3, h4⟩, ln, lo, hn, hc, hm, hb, hs⟩ := h
 refine ⟨⟨news, sp, cur, (Below.heap_setCell w p u G (by omega)).trans h1, h2, h3, h4.imp_ (fun _ _ hq => ?_)⟩, ln, lo, hn, hc, hm, hb, hs⟩
 exact d.M_mono (fun k hk => hk.1) (d.M_move (fun k hk => Below.heap_setCell w p u k (by have := hk.2.1; omega)) (d.M_bound hq))
/-- All is new. -/
theorem Half.done {α : Type} {d : Kd α} {e G base n cap : Nat} {ys : List α} {olds : List (List Value)} {w : World} (h : Half d e G base n cap n ys olds w) : d.R e w base (fun _ => True) (.slice (some ⟨G, 0, none⟩) n cap) ys := by
 obtain ⟨⟨news, sp, cur, h1, h2, h3, h4⟩, ln, lo, hn, hc, hm, hb, hs⟩ := h
 have hl : news.length = n * d.sz := by rw [h4.1, ln]
 refine ⟨fun _ _ => trivial, news, ⟨by rw [hl, ln], .inr ⟨G, cap, cur, by rw [ln], hb, h1, by omega, hm, h3, ?_⟩⟩, h4.imp_ (fun x cs hp => d.M_mono (fun k hk => ⟨trivial, fun hh => hk (by injection hh)⟩) hp)⟩
 rw [ln, h2, ← hl, List.take_left']
 rfl
theorem Half.step2 {α : Type} {d : Kd α} {e G base n cap i : Nat} {ys : List α} {olds : List (List Value)} {w : World} (h : Half d e G base n cap i ys olds w) (hi : i < n) (hd : d.sz = 2) {y : α} {u0 u1 : Value} (hy : d.M w base (fun k => k ≠ G) y [u0, u1]) :
  Half d e G base n cap (i + 1) (ys ++ [y]) olds ((w.setCell ⟨G, i * 2, none⟩ u0).setCell ⟨G, i * 2 + 1, none⟩ u1) := by
 obtain ⟨⟨news, sp, cur, h1, h2, h3, h4⟩, ln, lo, hn, hc, hm, hb, hs⟩ := h
 have hl : news.length = i * 2 := by rw [h4.1, ln, hd]
 have hio : i < olds.length := by omega
 have ho : (olds[i]).length = 2 := by rw [hs _ (List.getElem_mem _), hd]
 rw [List.drop_eq_getElem_cons hio, List.flatten_cons] at h2
 generalize olds[i] = o at h2 ho
 match o, ho with
 | [a0, a1], _ =>
  have b0 := blk_put h1 (i * 2) u0 rfl
  have b1 := blk_put b0 (i * 2 + 1) u1 rfl
  refine ⟨⟨news ++ [u0, u1], sp, _, b1, ?_, ?_, ?_⟩, by rw [List.length_append, ln]; rfl, lo, hi, hc, hm, hb, hs⟩
  · simp only [Array.toList_setIfInBounds, h2]
    rw [← hl]
    simp [List.set_append]
  · simp only [Array.size_setIfInBounds]
    exact h3
  · refine Reps.snoc (h4.imp_ (fun _ _ hp => Kd.M_far (Kd.M_far (hp) (fun k hk => hk) _) (fun k hk => hk) _)) (Kd.M_far (Kd.M_far (hy) (fun k hk => hk) _) (fun k hk => hk) _) (by rw [hd]; rfl)
theorem Half.step3 {α : Type} {d : Kd α} {e G base n cap i : Nat} {ys : List α} {olds : List (List Value)} {w : World} (h : Half d e G base n cap i ys olds w) (hi : i < n) (hd : d.sz = 3) {y : α} {u0 u1 u2 : Value} (hy : d.M w base (fun k => k ≠ G) y [u0, u1, u2]) :
  Half d e G base n cap (i + 1) (ys ++ [y]) olds (((w.setCell ⟨G, i * 3, none⟩ u0).setCell ⟨G, i * 3 + 1, none⟩ u1).setCell ⟨G, i * 3 + 2, none⟩ u2) := by
 obtain ⟨⟨news, sp, cur, h1, h2, h3, h4⟩, ln, lo, hn, hc, hm, hb, hs⟩ := h
 have hl : news.length = i * 3 := by rw [h4.1, ln, hd]
 have hio : i < olds.length := by omega
 have ho : (olds[i]).length = 3 := by rw [hs _ (List.getElem_mem _), hd]
 rw [List.drop_eq_getElem_cons hio, List.flatten_cons] at h2
 generalize olds[i] = o at h2 ho
 match o, ho with
 | [a0, a1, a2], _ =>
  have b0 := blk_put h1 (i * 3) u0 rfl
  have b1 := blk_put b0 (i * 3 + 1) u1 rfl
  have b2 := blk_put b1 (i * 3 + 2) u2 rfl
  refine ⟨⟨news ++ [u0, u1, u2], sp, _, b2, ?_, ?_, ?_⟩, by rw [List.length_append, ln]; rfl, lo, hi, hc, hm, hb, hs⟩
  · simp only [Array.toList_setIfInBounds, h2]
    rw [← hl]
    simp [List.set_append]
  · simp only [Array.size_setIfInBounds]
    exact h3
  · refine Reps.snoc (h4.imp_ (fun _ _ hp => Kd.M_far (Kd.M_far (Kd.M_far (hp) (fun k hk => hk) _) (fun k hk => hk) _) (fun k hk => hk) _)) (Kd.M_far (Kd.M_far (Kd.M_far (hy) (fun k hk => hk) _) (fun k hk => hk) _) (fun k hk => hk) _) (by rw [hd]; rfl)
/-- What stands there is an own one already. -/
theorem Half.take {α : Type} {d : Kd α} {e G base n cap i : Nat} {ys : List α} {olds : List (List Value)} {w : World} (h : Half d e G base n cap i ys olds w) {o : List Value} (ho : olds[i]? = some o) {y : α} (hy : d.M w base (fun k => k ≠ G) y o) (hi : i < n) : Half d e G base n cap (i + 1) (ys ++ [y]) olds w := by
 obtain ⟨⟨news, sp, cur, h1, h2, h3, h4⟩, ln, lo, hn, hc, hm, hb, hs⟩ := h
 obtain ⟨hio, rfl⟩ := List.getElem?_eq_some_iff.1 ho
 rw [List.drop_eq_getElem_cons hio, List.flatten_cons] at h2
 refine ⟨⟨news ++ olds[i], sp, cur, h1, by rw [h2, List.append_assoc, List.append_assoc], h3, Reps.snoc h4 hy (hs _ (List.getElem_mem _))⟩, by rw [List.length_append, ln]; rfl, lo, hi, hc, hm, hb, hs⟩
/-- One cell of the next one is turned. -/
theorem Half.turn2 {α : Type} {d : Kd α} {e G base n cap i : Nat} {ys : List α} {olds : List (List Value)} {w : World} (h : Half d e G base n cap i ys olds w) (hd : d.sz = 2) {a0 a1 : Value} (ho : olds[i]? = some [a0, a1]) (u : Value) : Half d e G base n cap i ys (olds.set i [a0, u]) (w.setCell ⟨G, i * 2 + 1, none⟩ u) := by
 obtain ⟨⟨news, sp, cur, h1, h2, h3, h4⟩, ln, lo, hn, hc, hm, hb, hs⟩ := h
 have hl : news.length = i * 2 := by rw [h4.1, ln, hd]
 obtain ⟨hio, he⟩ := List.getElem?_eq_some_iff.1 ho
 rw [List.drop_eq_getElem_cons hio, List.flatten_cons, he] at h2
 have h5 : (olds.set i [a0, u]).drop i = [a0, u] :: olds.drop (i + 1) := by
   rw [List.drop_eq_getElem_cons (by rw [List.length_set]; exact hio), List.getElem_set_self, List.drop_set_of_lt (by omega)]
 have b1 := blk_put h1 (i * 2 + 1) u rfl
 refine ⟨⟨news, sp, _, b1, ?_, ?_, h4.imp_ (fun _ _ hp => Kd.M_far hp (fun k hk => hk) _)⟩, ln, by rw [List.length_set]; exact lo, hn, hc, hm, hb, fun x hx => ?_⟩
 · rw [h5, List.flatten_cons]
   simp only [Array.toList_setIfInBounds, h2]
   rw [← hl]
   simp [List.set_append]
 · simp only [Array.size_setIfInBounds]
   exact h3
 · rcases List.mem_or_eq_of_mem_set hx with hx | rfl
   · exact hs x hx
   · rw [hd]; rfl
/-- A row half written, or none. -/
def HV {α : Type} (d : Kd α) (e base n k : Nat) (v : Value) (ys : List α) (olds : List (List Value)) (w : World) : Prop :=
 (n = 0 ∧ k = 0 ∧ ys = [] ∧ d.R e w base (fun _ => True) v []) ∨ (0 < n ∧ ∃ G c, v = .slice (some ⟨G, 0, none⟩) n c ∧ Half d e G base n c k ys olds w)
theorem R_empty {α : Type} {d : Kd α} {e base : Nat} {w : World} {v : Value} (h : (kFlat d.sz).R e w base (fun _ => True) v []) : d.R e w base (fun _ => True) v ([] : List α) := by
 obtain ⟨h0, inner, h1, hr⟩ := h
 have := hr.1
 simp at this
 subst this
 exact ⟨h0, [], h1, Reps.none _ _⟩
theorem HV.start {α : Type} {d : Kd α} {e base : Nat} {w : World} {v : Value} {olds : List (List Value)} (h : (kFlat d.sz).R e w base (fun _ => True) v olds) : HV d e base olds.length 0 v ([] : List α) olds w := by
 rcases Nat.eq_zero_or_pos olds.length with hz | hp
 · obtain rfl := List.length_eq_zero_iff.1 hz
   exact .inl ⟨rfl, rfl, rfl, R_empty h⟩
 · obtain ⟨G, c, rfl, hh⟩ := Half.start (d := d) h hp
   exact .inr ⟨hp, G, c, rfl, hh⟩
theorem HV.below {α : Type} {d : Kd α} {e base n k : Nat} {v : Value} {ys : List α} {olds : List (List Value)} {w w' : World} (h : HV d e base n k v ys olds w) (hb : Below w.heap.size w w') : HV d e base n k v ys olds w' := by
 rcases h with ⟨h1, h2, h3, h4⟩ | ⟨h1, G, c, h2, h3⟩
 · exact .inl ⟨h1, h2, h3, Kd.R_below h4 hb⟩
 · exact .inr ⟨h1, G, c, h2, h3.below hb⟩
theorem HV.done {α : Type} {d : Kd α} {e base n : Nat} {v : Value} {ys : List α} {olds : List (List Value)} {w : World} (h : HV d e base n n v ys olds w) : d.R e w base (fun _ => True) v ys := by
 rcases h with ⟨h1, h2, h3, h4⟩ | ⟨h1, G, c, h2, h3⟩
 · rw [h3]; exact h4
 · rw [h2]; exact h3.done
theorem HV.low {α : Type} {d : Kd α} {e base n k : Nat} {v : Value} {ys : List α} {olds : List (List Value)} {w : World} (h : HV d e base n k v ys olds w) {p : Addr} (hp : p.block < base) (u : Value) : HV d e base n k v ys olds (w.setCell p u) := by
 rcases h with ⟨h1, h2, h3, h4⟩ | ⟨h1, G, c, h2, h3⟩
 · exact .inl ⟨h1, h2, h3, Kd.R_mono (Kd.R_far (Kd.R_bound h4) (fun k hk => by have := hk.2.1; omega) _) (fun _ _ => trivial)⟩
 · exact .inr ⟨h1, G, c, h2, h3.low hp u⟩
section
variable {d : Kd TT} {w : World} {base : Nat} {ok : Nat → Prop}
theorem kV_openM {x : TV} {cs : List Value} (h : (g70 d).M w base ok x cs) : ∃ v, cs = [.int .u64 x.f0, .string x.f1, v] ∧ d.R 25 w base ok v x.f2 := by
 obtain ⟨_, _, rfl, rfl, ⟨_, _, rfl, rfl, ⟨v, rfl, g⟩⟩⟩ := h
 exact ⟨v, rfl, g⟩
theorem kV_mkM {x : TV} {v : Value} (g : d.R 25 w base ok v x.f2) : (g70 d).M w base ok x [.int .u64 x.f0, .string x.f1, v] :=
 ⟨[.int .u64 x.f0], _, rfl, rfl, ⟨[.string x.f1], _, rfl, rfl, ⟨v, rfl, g⟩⟩⟩
theorem kS_mkM {x : TS} {v : Value} (g : (g70 d).R 70 w base ok v x.f1) : (g59 d).M w base ok x [.int .i64 x.f0, v] :=
 ⟨[.int .i64 x.f0], _, rfl, rfl, ⟨v, rfl, g⟩⟩
theorem kT_mkM {x : TT} {v v' : Value} (g : (g59 d).R 59 w base ok v x.f0) (g' : k73.R 73 w base ok v' x.f1) : (F25 d).M w base ok x [v, v'] :=
 ⟨[v], _, rfl, ⟨v, rfl, g⟩, ⟨v', rfl, g'⟩⟩
end
/-- A function makes an own one of what it is handed. -/
def Copies {α : Type} (d : Kd α) (ok : α → Prop) (F : FuncId) : Prop :=
 ∀ (w : World) (x : α) (cs : List Value), d.K w x cs → ok x → Calls Try.prog F #[.agg cs.toArray] w fun r w' => (∃ cs', r = .returned (.agg cs'.toArray) ∧ d.M w' w.heap.size (fun _ => True) x cs') ∧ Below w.heap.size w w'
end Go.Proofs.Ytbpnfpckoapdbaa.TK
end
section
namespace Go.Proofs.Ytbpnfpckoapdbaa.TK
open Go.RowKit Go.Proofs.Ytbpnfpckoapdbaa.Ops Go.Proofs.Ytbpnfpckoapdbaa.KD Go.Proofs.Ytbpnfpckoapdbaa.M Go.Proofs.YtbpnfpckoapdbaaW.PrintWords Go.Proofs.YtbpnfpckoapdbaaW.PrintLast Go.Proofs.YtbpnfpckoapdbaaW.PrintMore Go.Proofs.Ytbpnfpckoapdbaa.Open
set_option linter.unusedVariables false
set_option linter.unusedSimpArgs false
set_option maxHeartbeats 1000000
set_option maxRecDepth 100000
theorem copied_c {d : Kd TT} {ok : TT → Prop} (hd : Two d) (HD : Copies d ok 13) : Copies (g70 d) (okVal ok) 51 := by
  intro w v cs h hok
  obtain ⟨A, c, rfl, hl, hC⟩ := kV_open h
  obtain ⟨olds, ho1, ho2, ho3⟩ := flat_C hC
  obtain ⟨wz, hwz⟩ : ∃ wz, wz = (w.alloc (.cells #[.int .u64 v.f0, .string v.f1, .slice A v.f2.length c] 70)).alloc (.cells #[.int .u64 0, .string ⟨#[]⟩, .slice none 0 0] 70) := ⟨_, rfl⟩
  have HWZ := Aside0.mk hwz
  have bz : Below w.heap.size w wz := by rw [hwz]; exact b2 _ _ _
  have HBX : Aside0 (∀ w2, Below wz.heap.size wz w2 → w2.heap[w.heap.size]? = some (.cells #[.int .u64 v.f0, .string v.f1, .slice A v.f2.length c] 70 (0, 0)) ∧ w2.heap[w.heap.size + 1]? = some (.cells #[.int .u64 0, .string ⟨#[]⟩, .slice none 0 0] 70 (0, 0))) := ⟨fun w2 h2 => by rw [hwz] at h2; exact boxes h2⟩
  rw [hd.sz] at ho2
  rw [← ho1] at ho2
  have HCL := Aside0.mk (CloneT_c (c := c) (Kd.C_below ho2 bz) (by have := hok.2.2.1; rw [ho1]; exact Nat.le_trans this (by decide)))
  rw [ho1] at HCL
  have BZ := Aside0.mk bz
  have HQ := Aside0.mk HD
  have HO1 := Aside0.mk ho1
  have HO3 := Aside0.mk ho3
  have HOK := Aside0.mk hok
  have HM := Aside0.mk (Kd.C_max hC)
  have HC := Aside0.mk hC
  clear hwz bz ho1 ho2 ho3 hok hC hl h HD
  go_enter Try.func51, Try.ntmps51
  go_wp2_with (first
    | (go_at_call 88; rw [← HWZ.out]; refine HCL.out.mono ?_; rintro r w1 ⟨vv, rfl, hR, b1⟩
       obtain ⟨A', c', rfl⟩ := Kd.R_slice hR
       have HR := Aside0.mk hR
       have B1 := Aside0.mk b1
       have z0 := (blk_cell (HBX.out _ b1).1 2).trans rfl
       have f0 := blk_frozen (HBX.out _ b1).1 2
       clear hR b1))
  have HO1' := HO1.out
  have hgz : w.heap.size < wz.heap.size := by rw [HWZ.out]; simp only [World.size_alloc]; omega
  have bx1 := blk_put (HBX.out _ B1.out).1 2 (.slice A' olds.length c') rfl
  have bx2 := (Below.heap_setCell w1 ⟨w.heap.size, 2, none⟩ (.slice A' olds.length c') (w.heap.size + 1) (by simp)).trans (HBX.out _ B1.out).2
  by_cases hz : v.f2.length = 0
  · have ho : olds = [] := List.length_eq_zero_iff.1 (by omega)
    have c1 : decide ((0 : Int) < (olds.length : Int)) = false := decide_eq_false (by omega)
    have c2 : decide (0 < olds.length) = false := decide_eq_false (by omega)
    obtain ⟨W0, hW0⟩ : ∃ W0, W0 = w1.setCell ⟨w.heap.size, 2, none⟩ (.slice A' olds.length c') := ⟨_, rfl⟩
    rw [← hW0] at bx1 bx2
    rw [← hW0]
    have HR0 : Aside0 (d.R 25 w1 wz.heap.size (fun _ => True) (.slice A' olds.length c') v.f2) := ⟨by
      have h1 := HR.out
      rw [ho, ← hd.sz] at h1
      rw [ho, List.length_eq_zero_iff.1 hz]
      exact R_empty h1⟩
    have HW0 := Aside0.mk hW0
    have BX1 := Aside0.mk bx1
    have BX2 := Aside0.mk bx2
    clear hW0 bx1 bx2 z0 f0 ho hz HO1'
    go_loopg [12] 0 (fun kq v12 w' => v12 = .int .i64 0 ∧ Aside0 (w' = W0))
    case atStart => exact ⟨rfl, ⟨rfl⟩⟩
    case round =>
      obtain ⟨rfl, hw⟩ := hrel
      obtain rfl := hw.out
      have a0 := (blk_cell BX1.out 0).trans rfl
      have a1 := (blk_cell BX1.out 1).trans rfl
      have a2 := (blk_cell BX1.out 2).trans rfl
      have b0 := (blk_cell BX2.out 0).trans rfl
      have b1 := (blk_cell BX2.out 1).trans rfl
      have b2 := (blk_cell BX2.out 2).trans rfl
      have f0 := blk_frozen BX2.out 0
      have f1 := blk_frozen BX2.out 1
      have f2 := blk_frozen BX2.out 2
      go_wp2
      have hw2 : w.heap.size + 2 ≤ wz.heap.size := by rw [HWZ.out]; simp only [World.size_alloc]; omega
      have e1 := blk_put BX2.out 0 (.int .u64 v.f0) rfl
      have e2 := blk_put e1 1 (.string v.f1) rfl
      have e3 := blk_put e2 2 (.slice A' olds.length c') rfl
      refine bodyPost_ret (v := .agg #[.int .u64 v.f0, .string v.f1, .slice A' olds.length c']) (results_cell_row rfl _ _ (w.heap.size + 1) 70 _ _ _ rfl e3 Try.underlying70 rfl (by kernel_rfl)) rfl ⟨⟨[.int .u64 v.f0, .string v.f1, .slice A' olds.length c'], rfl, kV_mkM ?_⟩, ?_⟩
      · have h1 := Kd.R_bound HR0.out
        have hne : ∀ q : Nat, q ≤ w.heap.size + 1 → ∀ j, (True ∧ wz.heap.size ≤ j ∧ j < w1.heap.size ∧ ∃ q, q ∈ 25 :: d.E ∧ ∃ cells, w1.heap[j]? = some (.cells cells q (0, 0))) → j ≠ q := fun q hq j hj => by have := hj.2.1; omega
        rw [HW0.out]
        exact Kd.R_lower (Kd.R_mono (Kd.R_far (Kd.R_far (Kd.R_far (Kd.R_far h1 (hne w.heap.size (by omega)) _) (hne _ (Nat.le_refl _)) _) (hne _ (Nat.le_refl _)) _) (hne _ (Nat.le_refl _)) _) (fun _ _ => trivial)) (by omega)
      · rw [HW0.out]
        exact ((((BZ.out.trans (B1.out.mono BZ.out.size)).setCell (Nat.le_refl _) _).setCell (by show w.heap.size ≤ w.heap.size + 1; omega) _).setCell (by show w.heap.size ≤ w.heap.size + 1; omega) _).setCell (by show w.heap.size ≤ w.heap.size + 1; omega) _
  · obtain ⟨G, cap, hv, hh⟩ := Half.start (d := d) (by rw [hd.sz]; exact HR.out) (by omega)
    injection hv with hv1 hv2 hv3
    subst hv1
    subst hv3
    have HH := Aside0.mk (hh.low (p := ⟨w.heap.size, 2, none⟩) hgz (.slice (some ⟨G, 0, none⟩) olds.length c'))
    have BX1 := Aside0.mk bx1
    have BX2 := Aside0.mk bx2
    clear hh bx1 bx2 hv2 z0 f0
    rw [HO1'] at *
    go_loopg [12] v.f2.length (fun kq v12 w' => ∃ k : Nat, v12 = .int .i64 (k : Int) ∧ Aside0 (kq + k = v.f2.length) ∧ Aside0 (Half d 25 G wz.heap.size v.f2.length c' k (v.f2.take k) olds w') ∧ Aside0 (w'.heap[w.heap.size]? = some (.cells #[.int .u64 v.f0, .string v.f1, .slice (some ⟨G, 0, none⟩) v.f2.length c'] 70 (0, 0))) ∧ Aside0 (w'.heap[w.heap.size + 1]? = some (.cells #[.int .u64 0, .string ⟨#[]⟩, .slice none 0 0] 70 (0, 0))) ∧ Aside0 (Below w.heap.size w w'))
    case atStart => exact ⟨0, rfl, ⟨by omega⟩, HH, BX1, BX2, ⟨(BZ.out.trans (B1.out.mono BZ.out.size)).setCell (Nat.le_refl _) _⟩⟩
    case round =>
      obtain ⟨k, rfl, HK, HH, BX1, BX2, BW⟩ := hrel
      by_cases hk : (k : Int) < (v.f2.length : Int)
      · have c1 : decide ((k : Int) < (v.f2.length : Int)) = true := decide_eq_true hk
        have p0 : (0 : Int) ≤ (k : Int) := by omega
        have hw : IntKind.i64.wrap ((k : Int) + 1) = ((k + 1 : Nat) : Int) := by have := HM.out; rw [IntKind.wrap_i64]; omega
        obtain ⟨x, hx⟩ : ∃ x, v.f2[k]? = some x := ⟨v.f2[k], List.getElem?_eq_getElem (by omega)⟩
        obtain ⟨o, ho⟩ : ∃ o, olds[k]? = some o := ⟨olds[k]'(by have := HO1.out; omega), List.getElem?_eq_getElem (by have := HO1.out; omega)⟩
        have hkx := HO3.out k x o hx ho
        obtain ⟨A1, n1, c1', A2, n2, c2', rfl⟩ := hd.two hkx
        have r0 := HH.out.cell ho (j := 0) rfl
        have r1 := HH.out.cell ho (j := 1) rfl
        rw [hd.sz] at r0 r1
        rw [Nat.add_zero] at r0
        obtain ⟨r0, g0⟩ := r0
        obtain ⟨r1, g1⟩ := r1
        have HX := Aside0.mk hx
        have HOO := Aside0.mk ho
        have HKX := Aside0.mk hkx
        have HI := Aside0.mk (show k < v.f2.length by omega)
        replace hk := eq_true hk
        clear hx ho hkx
        go_wp2_with fail
        obtain ⟨wa, hwa⟩ : ∃ wa, wa = wr.alloc (.cells #[.slice A1 n1 c1', .slice A2 n2 c2'] 25) := ⟨_, rfl⟩
        rw [← hwa]
        have ba : Below wr.heap.size wr wa := by rw [hwa]; exact below_alloc (Below.refl _ _) _
        have HHA := Aside0.mk (HH.out.below ba)
        have BXA := Aside0.mk (blk_below BX1.out ba)
        have BXB := Aside0.mk (blk_below BX2.out ba)
        have h4 : wa.heap[wr.heap.size]? = some (.cells #[.slice A1 n1 c1', .slice A2 n2 c2'] 25 (0, 0)) := by rw [hwa]; exact blk_new _ _
        have BWA := Aside0.mk (BW.out.trans (ba.mono BW.out.size))
        have HM2 := Aside0.mk (fun w2 (hb : Below wa.heap.size wa w2) => show w2.cell? ⟨w.heap.size, 2, none⟩ = some (.slice (some ⟨G, 0, none⟩) v.f2.length c') ∧ w2.cell? ⟨wr.heap.size, 0, none⟩ = some (.slice A1 n1 c1') ∧ w2.cell? ⟨wr.heap.size, 1, none⟩ = some (.slice A2 n2 c2') from
          ⟨(blk_cell (blk_below BXA.out hb) 2).trans rfl, (blk_cell (blk_below h4 hb) 0).trans rfl, (blk_cell (blk_below h4 hb) 1).trans rfl⟩)
        have hm := HM2.out wa (Below.refl _ _)
        have HT := Aside0.mk (fun m => HQ.out (wa.drewN m) x _ (d.K_below (pw_below_drewN BWA.out m) HKX.out) (HOK.out.2.2.2 x (List.mem_of_getElem? HX.out)))
        clear hwa ba h4 r0 r1 g0 g1
        obtain ⟨s1, s2, s3⟩ := hm
        have hm := HM2.out wa (Below.refl _ _)
        have hG1 : w.heap.size ≠ G := by have := HH.out.hb; omega
        have hG2 : wr.heap.size ≠ G := by obtain ⟨_, _, _, hh, _⟩ := HH.out.is; have := blk_lt hh; omega
        go_region_held3 (fun w' => w'.cell? ⟨w.heap.size, 2, none⟩ = some (.slice (some ⟨G, 0, none⟩) v.f2.length c') ∧ w'.cell? ⟨wr.heap.size, 0, none⟩ = some (.slice A1 n1 c1') ∧ w'.cell? ⟨wr.heap.size, 1, none⟩ = some (.slice A2 n2 c2')) (first | exact hm | exact CM.out | exact CS.out _ _ | go_keep) (first
          | (go_at_call 13; refine (HT.out _).mono ?_; rintro r w2 ⟨⟨cs', rfl, hcm⟩, b2⟩
             obtain ⟨A3, n3, c3, A4, n4, c4, rfl⟩ := hd.two (d.K_of_M hcm)
             have b3 := (pw_below_drewN (Below.refl wa.heap.size wa) _).trans b2
             have CM := Aside0.mk (HM2.out _ b3)
             have HHB := Aside0.mk (HHA.out.below b3)
             have B3 := Aside0.mk b3
             have HCM := Aside0.mk hcm
             have t0 := HHB.out.cell HOO.out (j := 0) rfl
             have t1 := HHB.out.cell HOO.out (j := 1) rfl
             rw [hd.sz] at t0 t1
             rw [Nat.add_zero] at t0
             obtain ⟨t0, g0⟩ := t0
             obtain ⟨t1, g1⟩ := t1
             have CS : Aside0 (∀ u v' : Value, ((w2.setCell ⟨G, k * 2, none⟩ u).setCell ⟨G, k * 2 + 1, none⟩ v').cell? ⟨w.heap.size, 2, none⟩ = some (.slice (some ⟨G, 0, none⟩) v.f2.length c') ∧ ((w2.setCell ⟨G, k * 2, none⟩ u).setCell ⟨G, k * 2 + 1, none⟩ v').cell? ⟨wr.heap.size, 0, none⟩ = some (.slice A1 n1 c1') ∧ ((w2.setCell ⟨G, k * 2, none⟩ u).setCell ⟨G, k * 2 + 1, none⟩ v').cell? ⟨wr.heap.size, 1, none⟩ = some (.slice A2 n2 c2')) := ⟨fun u v' => by
               obtain ⟨k1, k2, k3⟩ := CM.out
               exact ⟨by rw [cell_far hG1, cell_far hG1]; exact k1, by rw [cell_far hG2, cell_far hG2]; exact k2, by rw [cell_far hG2, cell_far hG2]; exact k3⟩⟩
             clear b2 b3 hcm))
        go_wp2
        go_roundg (v.f2.length - (k + 1))
        case measure => have := HK.out; have := HI.out; omega
        case rel =>
          have hk0 := HI.out
          have hw2 : w.heap.size + 2 ≤ wz.heap.size := by rw [HWZ.out]; simp only [World.size_alloc]; omega
          have hgw : w.heap.size ≤ G := by have := HH.out.hb; omega
          have hGa : G < wa.heap.size := by obtain ⟨_, _, _, hh, _⟩ := HHA.out.is; exact blk_lt hh
          have hza : wz.heap.size ≤ wa.heap.size := by have := HH.out.hb; omega
          have hy : d.M w2 wz.heap.size (fun k => k ≠ G) x [.slice A3 n3 c3, .slice A4 n4 c4] := d.M_lower hza (d.M_mono (fun j hj => by have h1 : wa.heap.size ≤ j := hj.2.1; omega) (d.M_bound HCM.out))
          refine ⟨k + 1, rfl, ⟨by omega⟩, ⟨?_⟩, ⟨?_⟩, ⟨?_⟩, ⟨?_⟩⟩
          · have h1 := HHB.out.step2 hk0 hd.sz hy
            have h2 : v.f2.take k ++ [x] = v.f2.take (k + 1) := by
              obtain ⟨h3, rfl⟩ := List.getElem?_eq_some_iff.1 HX.out
              rw [List.take_succ_eq_append_getElem h3]
            rw [h2] at h1
            exact h1
          · rw [Below.heap_setCell _ _ _ _ hG1, Below.heap_setCell _ _ _ _ hG1]
            exact blk_below BXA.out B3.out
          · rw [Below.heap_setCell _ _ _ _ (by have h5 := HH.out.hb; show w.heap.size + 1 ≠ G; omega), Below.heap_setCell _ _ _ _ (by have h5 := HH.out.hb; show w.heap.size + 1 ≠ G; omega)]
            exact blk_below BXB.out B3.out
          · exact ((BWA.out.trans (B3.out.mono BWA.out.size)).setCell hgw _).setCell hgw _
      · have c1 : decide ((k : Int) < (v.f2.length : Int)) = false := decide_eq_false hk
        have c2 : decide (k < v.f2.length) = false := decide_eq_false (by omega)
        obtain rfl : k = v.f2.length := by have := HH.out.hn; omega
        have HR := Aside0.mk HH.out.done
        have a0 := (blk_cell BX1.out 0).trans rfl
        have a1 := (blk_cell BX1.out 1).trans rfl
        have a2 := (blk_cell BX1.out 2).trans rfl
        have b0 := (blk_cell BX2.out 0).trans rfl
        have b1 := (blk_cell BX2.out 1).trans rfl
        have b2 := (blk_cell BX2.out 2).trans rfl
        have f0 := blk_frozen BX2.out 0
        have f1 := blk_frozen BX2.out 1
        have f2 := blk_frozen BX2.out 2
        clear hk
        go_wp2
        have hw2 : w.heap.size + 2 ≤ wz.heap.size := by rw [HWZ.out]; simp only [World.size_alloc]; omega
        have e1 := blk_put BX2.out 0 (.int .u64 v.f0) rfl
        have e2 := blk_put e1 1 (.string v.f1) rfl
        have e3 := blk_put e2 2 (.slice (some ⟨G, 0, none⟩) v.f2.length c') rfl
        refine bodyPost_ret (v := .agg #[.int .u64 v.f0, .string v.f1, .slice (some ⟨G, 0, none⟩) v.f2.length c']) (results_cell_row rfl _ _ (w.heap.size + 1) 70 _ _ _ rfl e3 Try.underlying70 rfl (by kernel_rfl)) rfl ⟨⟨[.int .u64 v.f0, .string v.f1, .slice (some ⟨G, 0, none⟩) v.f2.length c'], rfl, kV_mkM ?_⟩, ?_⟩
        · have h1 := Kd.R_bound HR.out
          have hne : ∀ j, (True ∧ wz.heap.size ≤ j ∧ j < wr.heap.size ∧ ∃ q, q ∈ 25 :: d.E ∧ ∃ cells, wr.heap[j]? = some (.cells cells q (0, 0))) → j ≠ w.heap.size + 1 := fun j hj => by have := hj.2.1; omega
          rw [List.take_length] at h1
          exact Kd.R_lower (Kd.R_mono (Kd.R_far (Kd.R_far (Kd.R_far h1 hne _) hne _) hne _) (fun _ _ => trivial)) (by omega)
        · exact ((BW.out.setCell (by show w.heap.size ≤ w.heap.size + 1; omega) _).setCell (by show w.heap.size ≤ w.heap.size + 1; omega) _).setCell (by show w.heap.size ≤ w.heap.size + 1; omega) _
end Go.Proofs.Ytbpnfpckoapdbaa.TK
end
section
namespace Go.Proofs.Ytbpnfpckoapdbaa.TK
open Go.RowKit Go.Proofs.Ytbpnfpckoapdbaa.Ops Go.Proofs.Ytbpnfpckoapdbaa.KD Go.Proofs.Ytbpnfpckoapdbaa.M Go.Proofs.YtbpnfpckoapdbaaW.PrintWords Go.Proofs.YtbpnfpckoapdbaaW.PrintLast Go.Proofs.YtbpnfpckoapdbaaW.PrintMore Go.Proofs.Ytbpnfpckoapdbaa.Open
set_option linter.unusedVariables false
set_option linter.unusedSimpArgs false
set_option maxHeartbeats 1000000
set_option maxRecDepth 100000
theorem bcell {W w1 : World} (hb : Below W.heap.size W w1) : (∀ b o, b < W.heap.size → w1.cell? ⟨b, o, none⟩ = W.cell? ⟨b, o, none⟩) ∧ (∀ b o, b < W.heap.size → w1.frozen? ⟨b, o, none⟩ = W.frozen? ⟨b, o, none⟩) :=
 ⟨fun b o h => hb.cell (p := ⟨b, o, none⟩) h, fun b o h => hb.frozen (p := ⟨b, o, none⟩) h⟩
/-- Flat cells that are own ones. -/
theorem R_of_flat {α : Type} {d : Kd α} {e base : Nat} {w : World} {ok : Nat → Prop} {v : Value} {olds : List (List Value)} {xs : List α} (h : (kFlat d.sz).R e w base ok v olds) (hl : olds.length = xs.length) (hM : ∀ (i : Nat) (x : α) (o : List Value), xs[i]? = some x → olds[i]? = some o → ∀ ok' : Nat → Prop, d.M w base ok' x o) : d.R e w base ok v xs := by
 obtain ⟨h0, inner, h1, hr⟩ := h
 refine ⟨h0, inner, by rw [← hl]; exact h1, by show inner.length = _; rw [hr.1, hl]; rfl, fun j x hj => ?_⟩
 have hj2 : j < olds.length := by rw [hl]; exact (List.getElem?_eq_some_iff.1 hj).1
 have h2 : (inner.drop (j * d.sz)).take d.sz = olds[j] := (hr.2 j _ (List.getElem?_eq_getElem hj2)).1
 rw [h2]
 exact hM j x _ hj (List.getElem?_eq_getElem hj2) _
theorem rawM {w w' : World} {base : Nat} {ok : Nat → Prop} {x : TR} {cs : List Value} (h : k73.K w x cs) : k73.M w' base ok x cs := by
 obtain rfl := k73_open h
 exact k73_mkM w' base ok x
theorem Half.swap {α : Type} {d : Kd α} {e G base n cap i : Nat} {ys : List α} {olds olds' : List (List Value)} {w : World} (h : Half d e G base n cap i ys olds w) (hd : olds.drop i = olds'.drop i) (hl : olds'.length = n) (hs : ∀ x ∈ olds', x.length = d.sz) : Half d e G base n cap i ys olds' w := by
 obtain ⟨⟨news, sp, cur, h1, h2, h3, h4⟩, ln, lo, hn, hc, hm, hb, _⟩ := h
 exact ⟨⟨news, sp, cur, h1, by rw [← hd]; exact h2, h3, h4⟩, ln, hl, hn, hc, hm, hb, hs⟩
/-- A store that comes behind is as_ one that came ahead. -/
theorem below_both {wa w2 : World} {G o : Nat} {u : Value} {cur : Array Value} {e : TypeId} (hb : Below wa.heap.size wa w2) (h : wa.heap[G]? = some (.cells cur e (0, 0))) : Below (wa.setCell ⟨G, o, none⟩ u).heap.size (wa.setCell ⟨G, o, none⟩ u) (w2.setCell ⟨G, o, none⟩ u) := by
 have a := (Below.refl G wa).setCell (p := ⟨G, o, none⟩) (Nat.le_refl _) u
 have b := (Below.refl G w2).setCell (p := ⟨G, o, none⟩) (Nat.le_refl _) u
 refine ⟨b.os.trans (hb.os.trans a.os.symm), b.tape.trans (hb.tape.trans a.tape.symm), b.output.trans (hb.output.trans a.output.symm), by simp [hb.size], fun k hk => ?_⟩
 by_cases hk2 : k = G
 · subst hk2
   exact (blk_put (blk_below h hb) o u rfl).trans (blk_put h o u rfl).symm
 · rw [Below.heap_setCell _ _ _ _ hk2, Below.heap_setCell _ _ _ _ hk2]
   exact hb.block k (by simpa using hk)
theorem at_gV {d : Kd TT} {w : World} {A : Option Addr} {n : Nat} {xs : List TV} (h : (g70 d).C w A n xs) (i : Nat) (h1 : i < n) :
  ∃ ad A2 c2 x, A = some ad ∧ xs[i]? = some x ∧ w.cell? (ad.add (i * 3)) = some (.int .u64 x.f0) ∧ w.cell? ⟨(ad.add (i * 3)).block, (ad.add (i * 3)).off + 1, none⟩ = some (.string x.f1) ∧
   w.cell? ⟨(ad.add (i * 3)).block, (ad.add (i * 3)).off + 2, none⟩ = some (.slice A2 x.f2.length c2) ∧ (g70 d).K w x [.int .u64 x.f0, .string x.f1, .slice A2 x.f2.length c2] := by
 have hl : i < xs.length := by have := h.1; omega
 obtain ⟨ad, c, e, _, hK, hc0⟩ := Kd.C_get h xs[i] i (by omega) (by omega)
 have hc : ∀ j u, c[j]? = some u → w.cell? (ad.add (i * 3 + j)) = some u := hc0
 have hx : xs.getD (i : Int).toNat xs[i] = xs[i] := by rw [Int.toNat_natCast, List.getD_eq_getElem?_getD, List.getElem?_eq_getElem hl]; rfl
 rw [hx] at hK
 obtain ⟨A2, c2, rfl, l2, g2⟩ := kV_open hK
 exact ⟨ad, A2, c2, xs[i], e, List.getElem?_eq_getElem hl, hc 0 _ rfl, by rw [← add_field _ _ 1 (by omega)]; exact hc 1 _ rfl, by rw [← add_field _ _ 2 (by omega)]; exact hc 2 _ rfl, hK⟩
theorem cut1 {wz w2 w3 wx : World} {gO b2 b3 : Nat} {P2 P3 : Nat → Prop} {v2 v3 : Value} {so ro : List (List Value)} (h2 : (kFlat 4).R 73 w2 b2 P2 v2 ro) (p2 : ∀ k, P2 k → k < w2.heap.size ∧ k ≠ gO) (hb2 : wz.heap.size ≤ b2) (h3 : (kFlat 2).R 59 w3 b3 P3 v3 so) (p3 : ∀ k, P3 k → w2.heap.size ≤ k ∧ k < w3.heap.size ∧ k ≠ gO) (hb3 : wz.heap.size ≤ b3) (hs : w2.heap.size ≤ w3.heap.size) (h23 : ∀ k, k < w2.heap.size → w3.heap[k]? = w2.heap[k]?) (hx : ∀ k, k < w3.heap.size → k ≠ gO → wx.heap[k]? = w3.heap[k]?) :
   (kFlat 2).R 59 wx wz.heap.size (fun k => k ≠ gO) v3 so ∧ (kFlat 4).R 73 wx wz.heap.size (fun k => k ≠ gO ∧ some k ≠ v3.ownBlock) v2 ro := by
 refine ⟨Kd.R_lower (Kd.R_mono (Kd.R_move h3 (fun k hk => hx k (p3 k hk).2.1 (p3 k hk).2.2)) (fun k hk => (p3 k hk).2.2)) hb3, Kd.R_lower (Kd.R_mono (Kd.R_move h2 (fun k hk => ?_)) (fun k hk => ⟨(p2 k hk).2, fun e => ?_⟩)) hb2⟩
 · have := p2 k hk
   exact (hx k (by omega) this.2).trans (h23 k this.1)
 · have := p2 k hk
   have h5 := p3 k (h3.1 k e.symm)
   omega
theorem Copy_c {d : Kd TT} {ok : TT → Prop} (hd : Two d) (HD : Copies d ok 13) : Copies (F25 d) (okTree ok) 13 := by
 intro w x cs h hok
 obtain ⟨A, c, A', ca, rfl, hl, hC, hl2, hR⟩ := kT_open h
 obtain ⟨so, so1, so2, so3⟩ := flat_C hC
 obtain ⟨ro, ro1, ro2, ro3⟩ := flat_C hR
 obtain ⟨wz, hwz⟩ : ∃ wz, wz = (w.alloc (.cells #[.slice A x.f0.length c, .slice A' x.f1.length ca] 25)).alloc (.cells #[.slice none 0 0, .slice none 0 0] 25) := ⟨_, rfl⟩
 have HWZ := Aside0.mk hwz
 have bz : Below w.heap.size w wz := by rw [hwz]; exact b2 _ _ _
 have HBX : Aside0 (∀ w2, Below wz.heap.size wz w2 → w2.heap[w.heap.size]? = some (.cells #[.slice A x.f0.length c, .slice A' x.f1.length ca] 25 (0, 0)) ∧ w2.heap[w.heap.size + 1]? = some (.cells #[.slice none 0 0, .slice none 0 0] 25 (0, 0))) := ⟨fun w2 h2 => by rw [hwz] at h2; exact boxes h2⟩
 have HM2 := Aside0.mk (fun w2 (hb : Below wz.heap.size wz w2) => show w2.cell? ⟨w.heap.size, 0, none⟩ = some (.slice A x.f0.length c) ∧ w2.cell? ⟨w.heap.size, 1, none⟩ = some (.slice A' x.f1.length ca) from ⟨(blk_cell (HBX.out _ hb).1 0).trans rfl, (blk_cell (HBX.out _ hb).1 1).trans rfl⟩)
 have HS := Aside0.mk (fun w2 (hb : Below wz.heap.size wz w2) => CloneS_c (c := c) (xs := so) (A := A) (w := w2) (by rw [so1]; exact Kd.C_below (Kd.C_below so2 bz) (hb.mono (Nat.le_refl _))) (by rw [so1]; exact Nat.le_trans hok.1.1 (by decide)))
 have HRC := Aside0.mk (fun w2 (hb : Below wz.heap.size wz w2) => CloneR_c (c := ca) (xs := ro) (A := A') (w := w2) (by rw [ro1]; exact Kd.C_below (Kd.C_below ro2 bz) (hb.mono (Nat.le_refl _))) (by rw [ro1]; exact Nat.le_trans hok.2.1 (by decide)))
 rw [so1] at HS
 rw [ro1] at HRC
 have BZ := Aside0.mk bz
 have BB := Aside0.mk (Below.refl wz.heap.size wz)
 have hm := HM2.out wz BB.out
 clear hwz bz
 go_enter Try.func13, Try.ntmps13
 go_upto_region 1 with fail
 rw [← HWZ.out]
 go_cut [3] (fun s3 wx => ∃ (gO c2 c3 : Nat) (A2 A3 : Option Addr), s3 = .pointer (some ⟨gO, 0, none⟩) ∧ Aside0 (wx.heap[gO]? = some (.cells #[.slice A3 x.f0.length c3, .slice A2 x.f1.length c2] 25 (0, 0))) ∧ Aside0 (wz.heap.size ≤ gO) ∧ Aside0 ((kFlat 2).R 59 wx wz.heap.size (fun k => k ≠ gO) (.slice A3 x.f0.length c3) so) ∧ Aside0 ((kFlat 4).R 73 wx wz.heap.size (fun k => k ≠ gO ∧ some k ≠ (Value.slice A3 x.f0.length c3).ownBlock) (.slice A2 x.f1.length c2) ro) ∧ Aside0 (Below wz.heap.size wz wx))
 case first =>
  obtain ⟨m1, m2⟩ := HM2.out wz BB.out
  clear h hl hl2 hC hR so2 ro2
  go_region_held3 (fun w' => w'.cell? ⟨w.heap.size, 0, none⟩ = some (.slice A x.f0.length c) ∧ w'.cell? ⟨w.heap.size, 1, none⟩ = some (.slice A' x.f1.length ca)) (first | exact hm | exact HM2.out _ (by repeat (first | (with_reducible first | exact BB.out | apply below_alloc | apply pw_below_drewN | apply below_drew | refine below_set ?_ (by first | exact E3.out | exact E2.out | exact Nat.le_refl _)) )) | go_keep) (first
    | (go_at_call 48; refine (HRC.out _ (by repeat (first | (with_reducible first | exact BB.out | apply below_alloc | apply pw_below_drewN | apply below_drew | refine below_set ?_ (by first | exact E3.out | exact E2.out | exact Nat.le_refl _)) ))).mono ?_; rintro r w2 ⟨v2, rfl, h2, b2⟩
       obtain ⟨A2, c2, rfl⟩ := Kd.R_slice h2
       have BX : Below wz.heap.size wz w2 := below_step (by repeat (first | (with_reducible first | exact BB.out | apply below_alloc | apply pw_below_drewN | apply below_drew | refine below_set ?_ (by first | exact E3.out | exact E2.out | exact Nat.le_refl _)) )) b2
       have R2 := Aside0.mk (Kd.R_bound h2)
       have Z2 := Aside0.mk b2.size
       have H12 := Aside0.mk b2
       obtain ⟨hc2, hf2⟩ := bcell b2
       have E2 := Aside0.mk BX.size
       try (have hz2 : wz.heap.size < w2.heap.size := by have hz2 := b2.size; simp at hz2; omega)
       clear b2 h2
       have BB := Aside0.mk BX
       have CM := Aside0.mk (HM2.out _ BX))
    | (go_at_call 49; refine (HS.out _ (by repeat (first | (with_reducible first | exact BB.out | apply below_alloc | apply pw_below_drewN | apply below_drew | refine below_set ?_ (by first | exact E3.out | exact E2.out | exact Nat.le_refl _)) ))).mono ?_; rintro r w3 ⟨v3, rfl, h3, b3⟩
       obtain ⟨A3, c3, rfl⟩ := Kd.R_slice h3
       have BX : Below wz.heap.size wz w3 := below_step (by repeat (first | (with_reducible first | exact BB.out | apply below_alloc | apply pw_below_drewN | apply below_drew | refine below_set ?_ (by first | exact E3.out | exact E2.out | exact Nat.le_refl _)) )) b3
       have R3 := Aside0.mk (Kd.R_bound h3)
       have Z3 := Aside0.mk b3.size
       have H23 := Aside0.mk b3
       obtain ⟨hc3, hf3⟩ := bcell b3
       have E3 := Aside0.mk BX.size
       try (have hz3 : w2.heap.size < w3.heap.size := by have hz3 := b3.size; simp at hz3; omega)
       try (have hz4 : wz.heap.size < w3.heap.size := by have hz4 := b3.size; simp at hz4; omega)
       clear b3 h3
       have BB := Aside0.mk BX
       have CM := Aside0.mk (HM2.out _ BX)))
  · go_wp2_with fail
    go_meet
    case rel =>
      have q := cut1 (wz := wz) (gO := w3.heap.size) (wx := w3.alloc (.cells #[.slice A3 x.f0.length c3, .slice A2 x.f1.length c2] 25)) R2.out (by rintro k ⟨_, _, h6, _⟩; have := Z3.out; omega) (Nat.le_refl _) R3.out (by rintro k ⟨_, h5, h6, _⟩; omega) E2.out Z3.out H23.out.block (fun k h1 h2 => Below.heap_alloc _ _ _ h1)
      rw [so1, ro1] at q
      exact ⟨w3.heap.size, c2, c3, A2, A3, rfl, ⟨blk_new _ _⟩, ⟨E3.out⟩, ⟨q.1⟩, ⟨q.2⟩, ⟨below_alloc BB.out _⟩⟩
  · go_wp2_with fail
    go_meet
    case rel =>
      have q0 : w3.heap[w2.heap.size]? = some (.cells #[.slice none 0 0, .slice none 0 0] 25 (0, 0)) := (H23.out.block _ (by rw [World.size_alloc]; omega)).trans (blk_new _ _)
      have q := cut1 (wz := wz) (gO := w2.heap.size) (wx := (w3.setCell ⟨w2.heap.size, 0, none⟩ (.slice A3 x.f0.length c3)).setCell ⟨w2.heap.size, 1, none⟩ (.slice A2 x.f1.length c2)) R2.out (by rintro k ⟨_, _, h6, _⟩; omega) (Nat.le_refl _) R3.out (by rintro k ⟨_, h5, h6, _⟩; rw [World.size_alloc] at h5; omega) (Nat.le_trans E2.out (by rw [World.size_alloc]; omega)) (Nat.le_of_lt hz3) (fun k hk => (H23.out.block k (by rw [World.size_alloc]; omega)).trans (Below.heap_alloc _ _ _ hk)) (fun k h1 h2 => by rw [Below.heap_setCell _ _ _ _ h2, Below.heap_setCell _ _ _ _ h2])
      rw [so1, ro1] at q
      exact ⟨w2.heap.size, c2, c3, A2, A3, rfl, ⟨blk_put (blk_put q0 0 _ rfl) 1 _ rfl⟩, ⟨E2.out⟩, ⟨q.1⟩, ⟨q.2⟩, ⟨(BB.out.setCell E2.out _).setCell E2.out _⟩⟩
  · go_wp2_with fail
    go_meet
    case rel =>
      have q0 : w3.heap[wz.heap.size]? = some (.cells #[.slice none 0 0, .slice none 0 0] 25 (0, 0)) := (H23.out.block _ hz2).trans ((H12.out.block _ (by simp)).trans (blk_new _ _))
      have q := cut1 (wz := wz) (gO := wz.heap.size) (wx := (w3.setCell ⟨wz.heap.size, 0, none⟩ (.slice A3 x.f0.length c3)).setCell ⟨wz.heap.size, 1, none⟩ (.slice A2 x.f1.length c2)) R2.out (by rintro k ⟨_, h5, h6, _⟩; simp at h5; omega) (by simp) R3.out (by rintro k ⟨_, h5, h6, _⟩; omega) E2.out Z3.out H23.out.block (fun k h1 h2 => by rw [Below.heap_setCell _ _ _ _ h2, Below.heap_setCell _ _ _ _ h2])
      rw [so1, ro1] at q
      exact ⟨wz.heap.size, c2, c3, A2, A3, rfl, ⟨blk_put (blk_put q0 0 _ rfl) 1 _ rfl⟩, ⟨Nat.le_refl _⟩, ⟨q.1⟩, ⟨q.2⟩, ⟨(BB.out.setCell (Nat.le_refl _) _).setCell (Nat.le_refl _) _⟩⟩
 case rest =>
  obtain ⟨gO, k2, k3, A2, A3, rfl, HO, HG, R3, R2, BX⟩ := hcut
  have HGO := Aside0.mk (Kd.R_away R3.out (fun k hk => hk))
  have HV0 := Aside0.mk (HV.start (d := g59 d) (Kd.R_mono R3.out (fun _ _ => trivial)))
  have HRR : Aside0 (k73.R 73 wc wz.heap.size (fun k => k ≠ gO ∧ some k ≠ (Value.slice A3 x.f0.length k3).ownBlock) (.slice A2 x.f1.length k2) x.f1) := ⟨R_of_flat (d := k73) R2.out ro1 (fun i y o hy ho _ => rawM (ro3 i y o hy ho))⟩
  have h0 := (blk_cell HO.out 0).trans rfl
  rw [so1] at HV0
  have HOK := Aside0.mk hok
  have HC := Aside0.mk hC
  have HQ := Aside0.mk (copied_c hd HD)
  have HSO := Aside0.mk so1
  have HS3 := Aside0.mk so3
  have HM := Aside0.mk (Kd.C_max hC)
  clear h hl hl2 hC hR so2 ro2 hok HD so3 ro3 R3 R2 hm
  go_wp2_with fail
  go_loopg [18] x.f0.length (fun kq v18 w' => ∃ i : Nat, v18 = .int .i64 (i : Int) ∧ Aside0 (kq + i = x.f0.length) ∧ Aside0 (HV (g59 d) 59 wz.heap.size x.f0.length i (.slice A3 x.f0.length k3) (x.f0.take i) so w') ∧ Aside0 (k73.R 73 w' wz.heap.size (fun k => k ≠ gO ∧ some k ≠ (Value.slice A3 x.f0.length k3).ownBlock) (.slice A2 x.f1.length k2) x.f1) ∧ Aside0 (w'.heap[gO]? = some (.cells #[.slice A3 x.f0.length k3, .slice A2 x.f1.length k2] 25 (0, 0))) ∧ Aside0 (Below wz.heap.size wz w'))
  case atStart => exact ⟨0, rfl, ⟨by omega⟩, HV0, HRR, HO, BX⟩
  case round =>
    clear h0 HV0 HRR HO BX
    obtain ⟨i, rfl, HK, HH, HRR, HO, BW⟩ := hrel
    by_cases hi : (i : Int) < (x.f0.length : Int)
    · have c1 : decide ((i : Int) < (x.f0.length : Int)) = true := decide_eq_true hi
      have p0 : (0 : Int) ≤ (i : Int) := by omega
      have hw : IntKind.i64.wrap ((i : Int) + 1) = ((i + 1 : Nat) : Int) := by have := HM.out; rw [IntKind.wrap_i64]; omega
      have hin : i < x.f0.length := by omega
      obtain ⟨y, hy⟩ : ∃ y, x.f0[i]? = some y := ⟨x.f0[i], List.getElem?_eq_getElem hin⟩
      obtain ⟨o, ho⟩ : ∃ o, so[i]? = some o := ⟨so[i]'(by have := HSO.out; omega), List.getElem?_eq_getElem (by have := HSO.out; omega)⟩
      have hky := HS3.out i y o hy ho
      obtain ⟨Av, cv, rfl, hlv, hCv⟩ := kS_open hky
      rcases HH.out with ⟨hz, _⟩ | ⟨_, G, cG, hv, hh⟩
      · omega
      injection hv with hv1 hv2 hv3
      subst hv1
      subst hv3
      have r0 := hh.cell ho (j := 0) rfl
      have r1 := hh.cell ho (j := 1) rfl
      rw [show (g59 d).sz = 2 from rfl] at r0 r1
      rw [Nat.add_zero] at r0
      obtain ⟨r0, g0⟩ := r0
      obtain ⟨r1, g1⟩ := r1
      have HY := Aside0.mk hy
      have HOO := Aside0.mk ho
      have HI := Aside0.mk hin
      have HHH := Aside0.mk hh
      have HCV := Aside0.mk hCv
      have HKY := Aside0.mk hky
      have a0 := (blk_cell HO.out 0).trans rfl
      replace hi := eq_true hi
      clear hy ho hky hlv hCv hh hin hv2 HH g0 g1
      go_upto_region 5 with fail
      obtain ⟨wa, hwa⟩ : ∃ wa, wa = wr.alloc (.cells #[.int .i64 y.f0, .slice Av y.f1.length cv] 59) := ⟨_, rfl⟩
      rw [← hwa]
      have ba : Below wr.heap.size wr wa := by rw [hwa]; exact below_alloc (Below.refl _ _) _
      have BA := Aside0.mk (BW.out.trans (ba.mono BW.out.size))
      have HHA := Aside0.mk (HHH.out.below ba)
      have HOA := Aside0.mk (blk_below HO.out ba)
      have HRA := Aside0.mk (Kd.R_below HRR.out ba)
      have h5 : wa.heap[wr.heap.size]? = some (.cells #[.int .i64 y.f0, .slice Av y.f1.length cv] 59 (0, 0)) := by rw [hwa]; exact blk_new _ _
      have HM5 := Aside0.mk (fun w2 (hb : Below wa.heap.size wa w2) => show w2.cell? ⟨gO, 0, none⟩ = some (.slice (some ⟨G, 0, none⟩) x.f0.length k3) ∧ w2.cell? ⟨wr.heap.size, 1, none⟩ = some (.slice Av y.f1.length cv) from
        ⟨(blk_cell (blk_below HOA.out hb) 0).trans rfl, (blk_cell (blk_below h5 hb) 1).trans rfl⟩)
      have H5 := Aside0.mk h5
      have hm := HM5.out wa (Below.refl _ _)
      obtain ⟨lv, lv1, lv2, lv3⟩ := flat_C HCV.out
      have BWA := Aside0.mk (BZ.out.trans (BA.out.mono BZ.out.size))
      have HCL := Aside0.mk (fun W (hb : Below wa.heap.size wa W) => CloneV_c (c := cv) (xs := lv) (A := Av) (w := W) (by rw [lv1]; exact Kd.C_below (Kd.C_below lv2 BWA.out) (hb.mono (Nat.le_refl _))) (by rw [lv1]; have := (HOK.out.1.2 y (List.mem_of_getElem? HY.out)).2.1; exact Nat.le_trans this (by decide)))
      rw [lv1] at HCL
      have HAW := Aside0.mk hwa
      have LV1 := Aside0.mk lv1
      have LV3 := Aside0.mk lv3
      have hgO : gO ≠ G := fun e => HGO.out (by rw [e]; rfl)
      have hGlt : G < wa.heap.size := by obtain ⟨_, _, _, hh, _⟩ := HHA.out.is; exact blk_lt hh
      have hG5 : wr.heap.size ≠ G := by obtain ⟨_, _, _, hh, _⟩ := HHH.out.is; have := blk_lt hh; omega
      have GLT := Aside0.mk hGlt
      have GNE := Aside0.mk hgO
      have G5N := Aside0.mk hG5
      clear hwa ba h5 r0 r1 a0 lv2 hgO hGlt hG5 lv3
      obtain ⟨s1, s2⟩ := HM5.out wa (Below.refl _ _)
      go_region_held3 (fun w' => w'.cell? ⟨gO, 0, none⟩ = some (.slice (some ⟨G, 0, none⟩) x.f0.length k3) ∧ w'.cell? ⟨wr.heap.size, 1, none⟩ = some (.slice Av y.f1.length cv)) (first | exact hm | exact CM.out | exact CS.out _ | go_keep) (first
        | (go_at_call 50; refine (HCL.out _ (by repeat (first | (with_reducible first | exact Below.refl _ _ | apply below_alloc | apply pw_below_drewN | apply below_drew) ))).mono ?_; rintro r w2 ⟨v5, rfl, h5, b5⟩
           obtain ⟨A5, c5, rfl⟩ := Kd.R_slice h5
           have BX : Below wa.heap.size wa w2 := below_step (by repeat (first | (with_reducible first | exact Below.refl _ _ | apply below_alloc | apply pw_below_drewN | apply below_drew) )) b5
           have R5 : Aside0 ((kFlat 3).R 70 w2 wa.heap.size (fun _ => True) (.slice A5 lv.length c5) lv) := ⟨h5⟩
           have CM := Aside0.mk (HM5.out _ BX)
           have HHB := Aside0.mk (HHA.out.below BX)
           have B5 := Aside0.mk BX
           have t1 := HHB.out.cell HOO.out (j := 1) rfl
           rw [show (g59 d).sz = 2 from rfl] at t1
           obtain ⟨t1, g1⟩ := t1
           have CS : Aside0 (∀ u : Value, (w2.setCell ⟨G, i * 2 + 1, none⟩ u).cell? ⟨gO, 0, none⟩ = some (.slice (some ⟨G, 0, none⟩) x.f0.length k3) ∧ (w2.setCell ⟨G, i * 2 + 1, none⟩ u).cell? ⟨wr.heap.size, 1, none⟩ = some (.slice Av y.f1.length cv)) := ⟨fun u => by
             obtain ⟨k1, k2⟩ := CM.out
             exact ⟨by rw [cell_far GNE.out]; exact k1, by rw [cell_far G5N.out]; exact k2⟩⟩
           clear b5 BX h5))
      go_upto_block 2 with fail
      rw [LV1.out] at R5
      have BG := Aside0.mk HHA.out.hb
      obtain ⟨_, _, cur, hh, _⟩ := HHA.out.is
      obtain ⟨wv, hwv⟩ : ∃ wv, wv = wa.setCell ⟨G, i * 2 + 1, none⟩ (.slice A5 y.f1.length c5) := ⟨_, rfl⟩
      obtain ⟨w5, hw5⟩ : ∃ w5, w5 = w2.setCell ⟨G, i * 2 + 1, none⟩ (.slice A5 y.f1.length c5) := ⟨_, rfl⟩
      rw [← hw5]
      have BV := Aside0.mk (show Below wv.heap.size wv w5 by rw [hwv, hw5]; exact below_both B5.out hh)
      have SV := Aside0.mk (show wv.heap.size = wa.heap.size by rw [hwv]; simp)
      have HHV := Aside0.mk (show Half (g59 d) 59 G wz.heap.size x.f0.length k3 i (x.f0.take i) (so.set i [.int .i64 y.f0, .slice A5 y.f1.length c5]) wv by rw [hwv]; exact HHA.out.turn2 rfl HOO.out _)
      have HOV := Aside0.mk (show wv.heap[gO]? = some (.cells #[.slice (some ⟨G, 0, none⟩) x.f0.length k3, .slice A2 x.f1.length k2] 25 (0, 0)) by rw [hwv]; exact (Below.heap_setCell _ _ _ _ GNE.out).trans HOA.out)
      have HRV := Aside0.mk (show k73.R 73 wv wz.heap.size (fun k => k ≠ gO ∧ some k ≠ (Value.slice (some ⟨G, 0, none⟩) x.f0.length k3).ownBlock) (.slice A2 x.f1.length k2) x.f1 by rw [hwv]; exact Kd.R_far HRA.out (fun k hk e => hk.2 (by rw [e]; rfl)) _)
      have BWV := Aside0.mk (show Below wz.heap.size wz wv by rw [hwv]; exact BA.out.setCell BG.out _)
      have HI0 := Aside0.mk (show HV (g70 d) 70 wa.heap.size y.f1.length 0 (.slice A5 y.f1.length c5) (y.f1.take 0) lv w5 by
        have q := HV.start (d := g70 d) R5.out
        rw [LV1.out] at q
        rw [hw5]
        exact q.low GLT.out _)
      have HMV := Aside0.mk (Kd.C_max HCV.out)
      have YB := Aside0.mk (HOK.out.1.2 y (List.mem_of_getElem? HY.out)).2.2
      clear hwv hw5 hh t1 g1 hm s1 s2 lv1 R5 CM CS HHB B5 HM5 HCL
      go_wp2_with fail
      go_loopg [34] y.f1.length (fun kq v34 w' => ∃ k : Nat, v34 = .int .i64 (k : Int) ∧ Aside0 (kq + k = y.f1.length) ∧ Aside0 (HV (g70 d) 70 wa.heap.size y.f1.length k (.slice A5 y.f1.length c5) (y.f1.take k) lv w') ∧ Aside0 (Below wv.heap.size wv w'))
      case atStart => exact ⟨0, rfl, ⟨by omega⟩, HI0, BV⟩
      case round =>
        clear HI0 BV
        obtain ⟨k, rfl, HK2, HH2, BV⟩ := hrel
        by_cases hk : (k : Int) < (y.f1.length : Int)
        · have d1 : decide ((k : Int) < (y.f1.length : Int)) = true := decide_eq_true hk
          have p1 : (0 : Int) ≤ (k : Int) := by omega
          have hw2 : IntKind.i64.wrap ((k : Int) + 1) = ((k + 1 : Nat) : Int) := by have := HMV.out; rw [IntKind.wrap_i64]; omega
          have hkn : k < y.f1.length := by omega
          rcases HH2.out with ⟨hz, _⟩ | ⟨_, G2, cG2, hv, hh2⟩
          · omega
          injection hv with hv1 hv2 hv3
          subst hv1
          subst hv3
          have BWW := Aside0.mk (BZ.out.trans ((BWV.out.trans (BV.out.mono BWV.out.size)).mono BZ.out.size))
          obtain ⟨ad, At, ct, z, rfl, hz, q0, q1, q2, hkz⟩ := at_gV (Kd.C_below HCV.out BWW.out) k hkn
          obtain ⟨o2, ho2⟩ : ∃ o2, lv[k]? = some o2 := ⟨lv[k]'(by have := LV1.out; omega), List.getElem?_eq_getElem (by have := LV1.out; omega)⟩
          obtain ⟨At', ct', rfl, _, _⟩ := kV_open (LV3.out k z o2 hz ho2)
          have HZ := Aside0.mk hz
          have HO2 := Aside0.mk ho2
          have HKZ := Aside0.mk hkz
          have HHI := Aside0.mk hh2
          have HKN := Aside0.mk hkn
          replace hk := eq_true hk
          clear hz ho2 hkz hh2 hkn hv2 HH2
          go_upto_region 9 with fail
          obtain ⟨wb, hwb⟩ : ∃ wb, wb = wr.alloc (.cells #[.int .u64 z.f0, .string z.f1, .slice At z.f2.length ct] 70) := ⟨_, rfl⟩
          rw [← hwb]
          have bb : Below wr.heap.size wr wb := by rw [hwb]; exact below_alloc (Below.refl _ _) _
          have h7 : wb.heap[wr.heap.size]? = some (.cells #[.int .u64 z.f0, .string z.f1, .slice At z.f2.length ct] 70 (0, 0)) := by rw [hwb]; exact blk_new _ _
          have BVB := Aside0.mk (BV.out.trans (bb.mono BV.out.size))
          have HOB := Aside0.mk (blk_below HOV.out BVB.out)
          have HHVB := Aside0.mk (HHV.out.below BVB.out)
          have HHIB := Aside0.mk (HHI.out.below bb)
          have HO3 : Aside0 ((so.set i [.int .i64 y.f0, .slice (some ⟨G2, 0, none⟩) y.f1.length c5])[i]? = some [.int .i64 y.f0, .slice (some ⟨G2, 0, none⟩) y.f1.length c5]) := ⟨by
            have := HSO.out
            have := HI.out
            rw [List.getElem?_set_self (by omega)]⟩
          have HM9 := Aside0.mk (fun w2 (hb : Below wb.heap.size wb w2) => show w2.cell? ⟨gO, 0, none⟩ = some (.slice (some ⟨G, 0, none⟩) x.f0.length k3) ∧ w2.cell? ⟨G, i * 2 + 1, none⟩ = some (.slice (some ⟨G2, 0, none⟩) y.f1.length c5) ∧ w2.cell? ⟨wr.heap.size, 0, none⟩ = some (.int .u64 z.f0) ∧ w2.cell? ⟨wr.heap.size, 1, none⟩ = some (.string z.f1) ∧ w2.cell? ⟨wr.heap.size, 2, none⟩ = some (.slice At z.f2.length ct) from
            ⟨(blk_cell (blk_below HOB.out hb) 0).trans rfl, ((HHVB.out.below hb).cell HO3.out (j := 1) rfl).1, (blk_cell (blk_below h7 hb) 0).trans rfl, (blk_cell (blk_below h7 hb) 1).trans rfl, (blk_cell (blk_below h7 hb) 2).trans rfl⟩)
          have hm := HM9.out wb (Below.refl _ _)
          have HCP := Aside0.mk (fun W (hb : Below wb.heap.size wb W) => HQ.out W z [.int .u64 z.f0, .string z.f1, .slice At z.f2.length ct] ((g70 d).K_below (bb.trans (hb.mono bb.size)) HKZ.out) (YB.out z (List.mem_of_getElem? HZ.out)))
          have G2L := Aside0.mk (show G2 < wr.heap.size by obtain ⟨_, _, _, hh, _⟩ := HHI.out.is; exact blk_lt hh)
          have G2B := Aside0.mk HHI.out.hb
          have BBZ := Aside0.mk bb.size
          clear hwb bb h7 q0 q1 q2
          have n1 : gO ≠ G2 := by
            have h1 : gO < wa.heap.size := blk_lt HOA.out
            have h2 := G2B.out
            omega
          have n2 : G ≠ G2 := by have h1 := GLT.out; have h2 := G2B.out; omega
          have n3 : wr.heap.size ≠ G2 := by have h1 := G2L.out; omega
          have N1 := Aside0.mk n1
          have N2 := Aside0.mk n2
          have N3 := Aside0.mk n3
          clear n1 n2 n3
          obtain ⟨s1, s2, s3, s4, s5⟩ := HM9.out wb (Below.refl _ _)
          go_region_held3 (fun w' => w'.cell? ⟨gO, 0, none⟩ = some (.slice (some ⟨G, 0, none⟩) x.f0.length k3) ∧ w'.cell? ⟨G, i * 2 + 1, none⟩ = some (.slice (some ⟨G2, 0, none⟩) y.f1.length c5) ∧ w'.cell? ⟨wr.heap.size, 0, none⟩ = some (.int .u64 z.f0) ∧ w'.cell? ⟨wr.heap.size, 1, none⟩ = some (.string z.f1) ∧ w'.cell? ⟨wr.heap.size, 2, none⟩ = some (.slice At z.f2.length ct)) (first | exact hm | exact CM.out | exact CS.out _ _ _ | go_keep) (first
            | (go_at_call 51; refine (HCP.out _ (by repeat (first | (with_reducible first | exact Below.refl _ _ | apply below_alloc | apply pw_below_drewN | apply below_drew) ))).mono ?_; rintro r w2 ⟨⟨cs', rfl, hcm⟩, b6⟩
               obtain ⟨v6, rfl, h6⟩ := kV_openM hcm
               obtain ⟨A6, c6, rfl⟩ := Kd.R_slice h6
               have BX : Below wb.heap.size wb w2 := below_step (by repeat (first | (with_reducible first | exact Below.refl _ _ | apply below_alloc | apply pw_below_drewN | apply below_drew) )) b6
               have HCM : Aside0 ((g70 d).M w2 wb.heap.size (fun _ => True) z [.int .u64 z.f0, .string z.f1, .slice A6 z.f2.length c6]) := ⟨hcm⟩
               have CM := Aside0.mk (HM9.out _ BX)
               have HH6 := Aside0.mk (HHIB.out.below BX)
               have B6 := Aside0.mk BX
               have t0 := HH6.out.cell HO2.out (j := 0) rfl
               have t1 := HH6.out.cell HO2.out (j := 1) rfl
               have t2 := HH6.out.cell HO2.out (j := 2) rfl
               rw [show (g70 d).sz = 3 from rfl] at t0 t1 t2
               rw [Nat.add_zero] at t0
               obtain ⟨t0, g0⟩ := t0
               obtain ⟨t1, g1⟩ := t1
               obtain ⟨t2, g2⟩ := t2
               have CS : Aside0 (∀ u v u' : Value, (((w2.setCell ⟨G2, k * 3, none⟩ u).setCell ⟨G2, k * 3 + 1, none⟩ v).setCell ⟨G2, k * 3 + 2, none⟩ u').cell? ⟨gO, 0, none⟩ = some (.slice (some ⟨G, 0, none⟩) x.f0.length k3) ∧ (((w2.setCell ⟨G2, k * 3, none⟩ u).setCell ⟨G2, k * 3 + 1, none⟩ v).setCell ⟨G2, k * 3 + 2, none⟩ u').cell? ⟨G, i * 2 + 1, none⟩ = some (.slice (some ⟨G2, 0, none⟩) y.f1.length c5) ∧ (((w2.setCell ⟨G2, k * 3, none⟩ u).setCell ⟨G2, k * 3 + 1, none⟩ v).setCell ⟨G2, k * 3 + 2, none⟩ u').cell? ⟨wr.heap.size, 0, none⟩ = some (.int .u64 z.f0) ∧ (((w2.setCell ⟨G2, k * 3, none⟩ u).setCell ⟨G2, k * 3 + 1, none⟩ v).setCell ⟨G2, k * 3 + 2, none⟩ u').cell? ⟨wr.heap.size, 1, none⟩ = some (.string z.f1) ∧ (((w2.setCell ⟨G2, k * 3, none⟩ u).setCell ⟨G2, k * 3 + 1, none⟩ v).setCell ⟨G2, k * 3 + 2, none⟩ u').cell? ⟨wr.heap.size, 2, none⟩ = some (.slice At z.f2.length ct)) := ⟨fun u v u' => by
                 obtain ⟨k1, k2, k4, k5, k6⟩ := CM.out
                 exact ⟨by rw [cell_far N1.out, cell_far N1.out, cell_far N1.out]; exact k1, by rw [cell_far N2.out, cell_far N2.out, cell_far N2.out]; exact k2, by rw [cell_far N3.out, cell_far N3.out, cell_far N3.out]; exact k4, by rw [cell_far N3.out, cell_far N3.out, cell_far N3.out]; exact k5, by rw [cell_far N3.out, cell_far N3.out, cell_far N3.out]; exact k6⟩⟩
               clear b6 BX h6 hcm))
          go_wp2
          go_roundg (y.f1.length - (k + 1))
          case measure => have := HK2.out; have := HKN.out; omega
          case rel =>
            have hk0 := HKN.out
            have g2l := G2L.out
            have bbz := BBZ.out
            have hM : (g70 d).M w2 wa.heap.size (fun k => k ≠ G2) z [.int .u64 z.f0, .string z.f1, .slice A6 z.f2.length c6] := (g70 d).M_lower (by have := SV.out; have := BVB.out.size; omega) ((g70 d).M_mono (fun j hj => by have h1 : wb.heap.size ≤ j := hj.2.1; omega) ((g70 d).M_bound HCM.out))
            have hb2 : wv.heap.size ≤ G2 := by have := SV.out; have := G2B.out; omega
            refine ⟨k + 1, rfl, ⟨by omega⟩, ⟨.inr ⟨by omega, G2, c5, rfl, ?_⟩⟩, ⟨?_⟩⟩
            · have h1 := HH6.out.step3 hk0 rfl hM
              have h2 : y.f1.take k ++ [z] = y.f1.take (k + 1) := by
                obtain ⟨h3, rfl⟩ := List.getElem?_eq_some_iff.1 HZ.out
                rw [List.take_succ_eq_append_getElem h3]
              rw [h2] at h1
              exact h1
            · exact (((BVB.out.trans (B6.out.mono BVB.out.size)).setCell hb2 _).setCell hb2 _).setCell hb2 _
        · have d1 : decide ((k : Int) < (y.f1.length : Int)) = false := decide_eq_false hk
          have d2 : decide (k < y.f1.length) = false := decide_eq_false (by omega)
          obtain rfl : k = y.f1.length := by have := HK2.out; omega
          have HD5 := Aside0.mk HH2.out.done
          clear hk
          go_wp2
          go_roundg (x.f0.length - (i + 1))
          case measure => have := HK.out; have := HI.out; omega
          case rel =>
            have hi0 := HI.out
            have hso := HSO.out
            have glt := GLT.out
            have bg := BG.out
            have hA : wz.heap.size ≤ wa.heap.size := BA.out.size
            have h1 := HHV.out.below BV.out
            have h2 : (g59 d).M wr wz.heap.size (fun k => k ≠ G) y [.int .i64 y.f0, .slice A5 y.f1.length c5] := kS_mkM (Kd.R_lower (Kd.R_mono (Kd.R_bound (by have q := HD5.out; rw [List.take_length] at q; exact q)) (fun k hk => by have := hk.2.1; omega)) hA)
            have h3 := (h1.take (by rw [List.getElem?_set_self (by omega)]) h2 hi0).swap (olds' := so) (List.drop_set_of_lt (by omega)) HSO.out HHH.out.hs
            have h4 : x.f0.take i ++ [y] = x.f0.take (i + 1) := by
              obtain ⟨h5, rfl⟩ := List.getElem?_eq_some_iff.1 HY.out
              rw [List.take_succ_eq_append_getElem h5]
            rw [h4] at h3
            exact ⟨i + 1, rfl, ⟨by omega⟩, ⟨.inr ⟨by omega, G, k3, rfl, h3⟩⟩, ⟨Kd.R_below HRV.out BV.out⟩, ⟨blk_below HOV.out BV.out⟩, ⟨BWV.out.trans (BV.out.mono BWV.out.size)⟩⟩
    · have c1 : decide ((i : Int) < (x.f0.length : Int)) = false := decide_eq_false hi
      have c2 : decide (i < x.f0.length) = false := decide_eq_false (by omega)
      obtain rfl : i = x.f0.length := by have := HK.out; omega
      have HR := Aside0.mk HH.out.done
      have a0 := (blk_cell HO.out 0).trans rfl
      have a1 := (blk_cell HO.out 1).trans rfl
      have BX2 := Aside0.mk (HBX.out _ BW.out).2
      have b0 := (blk_cell BX2.out 0).trans rfl
      have b1 := (blk_cell BX2.out 1).trans rfl
      have f0 := blk_frozen BX2.out 0
      have f1 := blk_frozen BX2.out 1
      clear hi
      go_wp2
      have hw2 : w.heap.size + 2 ≤ wz.heap.size := by rw [HWZ.out]; simp only [World.size_alloc]; omega
      have e1 := blk_put BX2.out 0 (.slice A3 x.f0.length k3) rfl
      have e2 := blk_put e1 1 (.slice A2 x.f1.length k2) rfl
      refine bodyPost_ret (v := .agg #[.slice A3 x.f0.length k3, .slice A2 x.f1.length k2]) (results_cell_row rfl _ _ (w.heap.size + 1) 25 _ _ _ rfl e2 Try.underlying25 rfl (by kernel_rfl)) rfl ⟨⟨[.slice A3 x.f0.length k3, .slice A2 x.f1.length k2], rfl, kT_mkM ?_ ?_⟩, ?_⟩
      · have h1 := Kd.R_bound HR.out
        rw [List.take_length] at h1
        exact Kd.R_lower (Kd.R_mono (Kd.R_far (Kd.R_far h1 (p := ⟨w.heap.size + 1, 0, none⟩) (fun k hk => by have := hk.2.1; show k ≠ w.heap.size + 1; omega) _) (p := ⟨w.heap.size + 1, 1, none⟩) (fun k hk => by have := hk.2.1; show k ≠ w.heap.size + 1; omega) _) (fun _ _ => trivial)) (by omega)
      · have h1 := Kd.R_bound HRR.out
        exact Kd.R_lower (Kd.R_mono (Kd.R_far (Kd.R_far h1 (p := ⟨w.heap.size + 1, 0, none⟩) (fun k hk => by have := hk.2.1; show k ≠ w.heap.size + 1; omega) _) (p := ⟨w.heap.size + 1, 1, none⟩) (fun k hk => by have := hk.2.1; show k ≠ w.heap.size + 1; omega) _) (fun _ _ => trivial)) (by omega)
      · exact ((BZ.out.trans (BW.out.mono BZ.out.size)).setCell (by show w.heap.size ≤ w.heap.size + 1; omega) _).setCell (by show w.heap.size ≤ w.heap.size + 1; omega) _
theorem okT_mono : ∀ (n m : Nat), n ≤ m → ∀ t, okT n t → okT m t
 | 0, m, _, t, h => h.elim
 | n + 1, 0, h, t, _ => absurd h (by omega)
 | n + 1, m + 1, h, t, ht => ⟨⟨ht.1.1, fun y hy => ⟨(ht.1.2 y hy).1, (ht.1.2 y hy).2.1, fun v hv => ⟨((ht.1.2 y hy).2.2 v hv).1, ((ht.1.2 y hy).2.2 v hv).2.1, ((ht.1.2 y hy).2.2 v hv).2.2.1, fun z hz => okT_mono n m (by omega) z (((ht.1.2 y hy).2.2 v hv).2.2.2 z hz)⟩⟩⟩, ht.2⟩
/-- A tree no greater than a machine's. -/
def okTr (t : TT) : Prop := ∃ n, okT n t
theorem okTr_sub {t : TT} (h : okTr t) : okTree okTr t := by
 obtain ⟨n, h⟩ := h
 cases n with
 | zero => exact h.elim
 | succ n => exact ⟨⟨h.1.1, fun y hy => ⟨(h.1.2 y hy).1, (h.1.2 y hy).2.1, fun v hv => ⟨((h.1.2 y hy).2.2 v hv).1, ((h.1.2 y hy).2.2 v hv).2.1, ((h.1.2 y hy).2.2 v hv).2.2.1, fun z hz => ⟨n, ((h.1.2 y hy).2.2 v hv).2.2.2 z hz⟩⟩⟩⟩, h.2⟩
theorem Copies.imp {α : Type} {d : Kd α} {ok ok' : α → Prop} {F : FuncId} (h : Copies d ok F) (hi : ∀ x, ok' x → ok x) : Copies d ok' F := fun w x cs hk ho => h w x cs hk (hi x ho)
theorem copy_upto (E_ : List Nat) : ∀ n, Copies (Kd.upto F25 2 E_ n) okTr 13
 | 0 => fun w x cs h => h.elim
 | n + 1 => (Copy_c (upto_two E_ n) (copy_upto E_ n)).imp fun x hx => okTr_sub hx
/-- tree.Copy makes an own one of every tree. -/
theorem tree_Copy : Copies k25 okTr 13 := fun w x cs h hok => by
 obtain ⟨n, h⟩ := h
 exact (copy_upto _ n w x cs h hok).mono fun e w' he => by
  obtain ⟨⟨cs', he, hm⟩, hb⟩ := he
  exact ⟨⟨cs', he, n, hm⟩, hb⟩
end Go.Proofs.Ytbpnfpckoapdbaa.TK
end
section
namespace Go.Proofs.Ytbpnfpckoapdbaa.TK
open Go.RowKit Go.Proofs.Ytbpnfpckoapdbaa.Ops Go.Proofs.Ytbpnfpckoapdbaa.KD Go.Proofs.Ytbpnfpckoapdbaa.M Go.Proofs.YtbpnfpckoapdbaaW.PrintWords Go.Proofs.YtbpnfpckoapdbaaW.PrintLast Go.Proofs.YtbpnfpckoapdbaaW.PrintMore Go.Proofs.Ytbpnfpckoapdbaa.Open
set_option linter.unusedVariables false
set_option linter.unusedSimpArgs false
abbrev TZ := TS × Value
/-- The cells of slots. -/
def fl : List TZ → List Value
 | [] => []
 | z :: r => .int .i64 z.1.f0 :: z.2 :: fl r
theorem fl_len : ∀ Z : List TZ, (fl Z).length = Z.length * 2
 | [] => rfl
 | z :: r => by rw [fl, List.length_cons, List.length_cons, fl_len r, List.length_cons]; omega
theorem fl_append : ∀ A B : List TZ, fl (A ++ B) = fl A ++ fl B
 | [], B => rfl
 | z :: r, B => by rw [List.cons_append, fl, fl, fl_append r B, List.cons_append, List.cons_append]
theorem fl_drop : ∀ (i : Nat) (Z : List TZ), (fl Z).drop (i * 2) = fl (Z.drop i)
 | 0, Z => rfl
 | i + 1, [] => by rw [List.drop_nil]; exact List.drop_nil
 | i + 1, z :: r => by
  rw [List.drop_succ_cons, ← fl_drop i r, show (i + 1) * 2 = i * 2 + 1 + 1 by omega, fl, List.drop_succ_cons, List.drop_succ_cons]
theorem fl_take : ∀ (i : Nat) (Z : List TZ), (fl Z).take (i * 2) = fl (Z.take i)
 | 0, Z => by rw [Nat.zero_mul, List.take_zero, List.take_zero]; rfl
 | i + 1, [] => by rw [List.take_nil]; exact List.take_nil
 | i + 1, z :: r => by
  have q := fl_take i r
  rw [List.take_succ_cons, show (i + 1) * 2 = i * 2 + 1 + 1 by omega, fl, List.take_succ_cons, List.take_succ_cons, q]
  rfl
theorem fl_get : ∀ (i : Nat) (Z : List TZ) (z : TZ), Z[i]? = some z → (fl Z)[i * 2]? = some (.int .i64 z.1.f0) ∧ (fl Z)[i * 2 + 1]? = some z.2
 | 0, [], z, h => by simp at h
 | i + 1, [], z, h => by simp at h
 | 0, y :: r, z, h => by
  simp only [List.getElem?_cons_zero, Option.some.injEq] at h
  subst h
  exact ⟨rfl, rfl⟩
 | i + 1, y :: r, z, h => by
  have q := fl_get i r z (by simpa using h)
  rw [show (i + 1) * 2 = i * 2 + 1 + 1 by omega, fl]
  exact q
theorem fl_set : ∀ (i : Nat) (Z : List TZ) (z : TZ) (sp : List Value), i < Z.length → ((fl Z ++ sp).set (i * 2) (.int .i64 z.1.f0)).set (i * 2 + 1) z.2 = fl (Z.set i z) ++ sp
 | 0, [], z, sp, h => absurd h (Nat.not_lt_zero _)
 | i + 1, [], z, sp, h => absurd h (Nat.not_lt_zero _)
 | 0, y :: r, z, sp, h => rfl
 | i + 1, y :: r, z, sp, h => by
  have q := fl_set i r z sp (Nat.lt_of_succ_lt_succ h)
  rw [show (i + 1) * 2 = i * 2 + 1 + 1 by omega, fl, List.set_cons_succ, fl, List.cons_append, List.cons_append, List.set_cons_succ, List.set_cons_succ, List.set_cons_succ, List.set_cons_succ, q]
  rfl
theorem fl_mem : ∀ (Z : List TZ) (u : Value), u ∈ fl Z → (∃ z ∈ Z, u = .int .i64 z.1.f0 ∨ u = z.2)
 | [], u, h => by simp [fl] at h
 | z :: r, u, h => by
  rw [fl, List.mem_cons, List.mem_cons] at h
  rcases h with h | h | h
  · exact ⟨z, by simp, .inl h⟩
  · exact ⟨z, by simp, .inr h⟩
  · obtain ⟨y, hy, h⟩ := fl_mem r u h
    exact ⟨y, by simp [hy], h⟩
/-- A row of one's own, at its block's head: its slots (and what their second cells hold). -/
structure ZR (w : World) (base G cap : Nat) (ok : Nat → Prop) (Z : List TZ) : Prop where
 is : ∃ (cur : Array Value) (sp : List Value), w.heap[G]? = some (.cells cur 59 (0, 0)) ∧ cur.toList = fl Z ++ sp ∧ cur.size = cap * 2
 hc : Z.length ≤ cap
 hm : cap ≤ maxLen
 hb : base ≤ G
 og : ok G
 el : ∀ z ∈ Z, k59.M w base (fun k => ok k ∧ k ≠ G) z.1 [.int .i64 z.1.f0, z.2]
theorem reps_fl {R : TS → List Value → Prop} (hR : ∀ x cs, R x cs → ∃ v, cs = [.int .i64 x.f0, v]) : ∀ {xs : List TS} {inner : List Value}, Reps R 2 xs inner → ∃ Z : List TZ, inner = fl Z ∧ Z.map Prod.fst = xs ∧ ∀ z ∈ Z, R z.1 [.int .i64 z.1.f0, z.2]
 | [], inner, h => by
  have := h.1
  simp at this
  exact ⟨[], by rw [this]; rfl, rfl, by simp⟩
 | x :: r, inner, h => by
  have h0 := h.2 0 x rfl
  rw [Nat.zero_mul, List.drop_zero] at h0
  obtain ⟨v, hv⟩ := hR _ _ h0
  have h1 : Reps R 2 r (inner.drop 2) := by
    refine ⟨by rw [List.length_drop, h.1, List.length_cons, Nat.add_mul, Nat.one_mul]; omega, fun j p hj => ?_⟩
    have := h.2 (j + 1) p (by simpa using hj)
    rw [List.drop_drop]
    rwa [show (j + 1) * 2 = 2 + j * 2 by rw [Nat.add_mul, Nat.one_mul, Nat.add_comm]] at this
  obtain ⟨Z, e1, e2, e3⟩ := reps_fl hR h1
  refine ⟨(x, v) :: Z, ?_, by rw [List.map_cons, e2], fun z hz => ?_⟩
  · rw [fl, ← e1, ← List.take_append_drop 2 inner, hv]
    simp
  · rcases List.mem_cons.1 hz with rfl | hz
    · rw [hv] at h0; exact h0
    · exact e3 z hz
theorem fl_reps {R : TS → List Value → Prop} : ∀ {Z : List TZ}, (∀ z ∈ Z, R z.1 [.int .i64 z.1.f0, z.2]) → Reps R 2 (Z.map Prod.fst) (fl Z) := by
 intro Z h
 refine ⟨by rw [fl_len, List.length_map], fun j p hj => ?_⟩
 rw [List.getElem?_map] at hj
 obtain ⟨z, hz, rfl⟩ := Option.map_eq_some_iff.1 hj
 obtain ⟨hl, rfl⟩ := List.getElem?_eq_some_iff.1 hz
 rw [fl_drop, List.drop_eq_getElem_cons hl]
 exact h _ (List.getElem_mem hl)
theorem ZR.of_R {w : World} {base G n cap : Nat} {ok : Nat → Prop} {xs : List TS} (h : k59.R 59 w base ok (.slice (some ⟨G, 0, none⟩) n cap) xs) : n = xs.length ∧ ∃ Z, ZR w base G cap ok Z ∧ Z.map Prod.fst = xs := by
 obtain ⟨h0, inner, ⟨h1, h2⟩, hr⟩ := h
 rcases h2 with ⟨h2, _⟩ | ⟨G', cap', cur, he, hb, hh, hn, hm, hs, ht⟩
 · cases h2
 · injection he with e1 e2 e3
   injection e1 with e1
   injection e1 with e1
   subst e1
   subst e3
   obtain ⟨Z, e4, e5, e6⟩ := reps_fl (fun x cs hx => by obtain ⟨v, rfl, _⟩ := k59_openM hx; exact ⟨v, rfl⟩) hr
   refine ⟨e2, Z, ⟨⟨cur, cur.toList.drop (xs.length * 2), hh, ?_, hs⟩, by rw [← e5, List.length_map] at hn; exact hn, hm, hb, h0 _ rfl, fun z hz => k59.M_mono (fun k hk => ⟨hk.1, fun e => hk.2 (by rw [e]; rfl)⟩) (e6 z hz)⟩, e5⟩
   rw [← e4, ← ht]
   exact (List.take_append_drop _ _).symm
theorem ZR.to_R {w : World} {base G cap : Nat} {ok : Nat → Prop} {Z : List TZ} (h : ZR w base G cap ok Z) : k59.R 59 w base ok (.slice (some ⟨G, 0, none⟩) Z.length cap) (Z.map Prod.fst) := by
 obtain ⟨⟨cur, sp, h1, h2, h3⟩, hc, hm, hb, og, el⟩ := h
 refine ⟨fun k hk => by injection hk with hk; exact hk ▸ og, fl Z, ⟨by rw [fl_len, List.length_map]; rfl, .inr ⟨G, cap, cur, by rw [List.length_map], hb, h1, by rw [List.length_map]; exact hc, hm, h3, ?_⟩⟩, fl_reps (fun z hz => k59.M_mono (fun k hk => ⟨hk.1, fun hh => hk.2 (by injection hh)⟩) (el z hz))⟩
 rw [List.length_map, h2]
 exact List.take_left' (fl_len Z)
/-- The block turns into another row: what hangs on it stays. -/
theorem ZR.turn {w w' : World} {base G cap : Nat} {ok : Nat → Prop} {Z Z' : List TZ} {cur : Array Value} {sp : List Value} (h : ZR w base G cap ok Z) (hg : w.grownBy w' (some G)) (hh : w'.heap[G]? = some (.cells cur 59 (0, 0))) (hcur : cur.toList = fl Z' ++ sp) (hs : cur.size = cap * 2) (hl : Z'.length ≤ cap) (hz : ∀ z ∈ Z', k59.M w base (fun k => ok k ∧ k ≠ G) z.1 [.int .i64 z.1.f0, z.2]) : ZR w' base G cap ok Z' :=
 ⟨⟨cur, sp, hh, hcur, hs⟩, hl, h.hm, h.hb, h.og, fun z hm => Kd.M_grown (hz z hm) hg (fun k hk e => hk.2 (by injection e))⟩
theorem ZR.below {w w' : World} {base G cap : Nat} {ok : Nat → Prop} {Z : List TZ} (h : ZR w base G cap ok Z) (hb : Below w.heap.size w w') : ZR w' base G cap ok Z := by
 obtain ⟨⟨cur, sp, h1, h2, h3⟩, hc, hm, hb2, og, el⟩ := h
 exact ⟨⟨cur, sp, blk_below h1 hb, h2, h3⟩, hc, hm, hb2, og, fun z hz => Kd.M_below (el z hz) hb⟩
theorem ZR.take {w : World} {base G cap : Nat} {ok : Nat → Prop} {Z : List TZ} (h : ZR w base G cap ok Z) (m : Nat) : ZR w base G cap ok (Z.take m) := by
 obtain ⟨⟨cur, sp, h1, h2, h3⟩, hc, hm, hb2, og, el⟩ := h
 refine ⟨⟨cur, fl (Z.drop m) ++ sp, h1, ?_, h3⟩, Nat.le_trans (List.length_take_le' _ _) hc, hm, hb2, og, fun z hz => el z (List.mem_of_mem_take hz)⟩
 rw [h2, ← List.append_assoc, ← fl_append, List.take_append_drop]
theorem ZR.cell {w : World} {base G cap : Nat} {ok : Nat → Prop} {Z : List TZ} (h : ZR w base G cap ok Z) {i : Nat} {z : TZ} (hz : Z[i]? = some z) : w.cell? ⟨G, i * 2, none⟩ = some (.int .i64 z.1.f0) ∧ w.cell? ⟨G, i * 2 + 1, none⟩ = some z.2 ∧ (∀ o, w.frozen? ⟨G, o, none⟩ = false) := by
 obtain ⟨⟨cur, sp, h1, h2, h3⟩, hc, hm, hb2, og, el⟩ := h
 obtain ⟨g1, g2⟩ := fl_get i Z z hz
 have hl := (List.getElem?_eq_some_iff.1 hz).1
 have hf := fl_len Z
 refine ⟨?_, ?_, fun o => blk_frozen h1 o⟩
 · rw [blk_cell h1, ← Array.getElem?_toList, h2, List.getElem?_append_left (by omega)]; exact g1
 · rw [blk_cell h1, ← Array.getElem?_toList, h2, List.getElem?_append_left (by omega)]; exact g2
theorem ZR.lt {w : World} {base G cap : Nat} {ok : Nat → Prop} {Z : List TZ} (h : ZR w base G cap ok Z) : G < w.heap.size := by
 obtain ⟨⟨cur, sp, h1, h2, h3⟩, _⟩ := h
 exact blk_lt h1
theorem grown_set2 (w : World) (G o o' : Nat) (u u' : Value) : w.grownBy ((w.setCell ⟨G, o, none⟩ u).setCell ⟨G, o', none⟩ u') (some G) :=
 ⟨rfl, rfl, rfl, by simp, fun k _ hne => by
  have hk : k ≠ G := fun e => hne (by rw [e])
  rw [Below.heap_setCell _ _ _ _ (by exact hk), Below.heap_setCell _ _ _ _ (by exact hk)]⟩
theorem ZR.set {w : World} {base G cap : Nat} {ok : Nat → Prop} {Z : List TZ} (h : ZR w base G cap ok Z) {i : Nat} {z : TZ} (hi : i < Z.length) (hz : k59.M w base (fun k => ok k ∧ k ≠ G) z.1 [.int .i64 z.1.f0, z.2]) : ZR ((w.setCell ⟨G, i * 2, none⟩ (.int .i64 z.1.f0)).setCell ⟨G, i * 2 + 1, none⟩ z.2) base G cap ok (Z.set i z) := by
 have h' := h
 obtain ⟨⟨cur, sp, h1, h2, h3⟩, hc, hm, hb2, og, el⟩ := h
 refine h'.turn (sp := sp) (grown_set2 _ _ _ _ _ _) (blk_put (blk_put h1 (i * 2) _ rfl) (i * 2 + 1) _ rfl) ?_ ?_ (by rw [List.length_set]; exact hc) (fun y hy => ?_)
 · rw [Array.toList_setIfInBounds, Array.toList_setIfInBounds, h2]
   exact fl_set i Z z sp hi
 · simp only [Array.size_setIfInBounds]; exact h3
 · rcases List.mem_or_eq_of_mem_set hy with hy | rfl
   · exact el y hy
   · exact hz
/-- What is written over a row's cells from slot i on. -/
theorem ZR.over {w : World} {base G cap : Nat} {ok : Nat → Prop} {Z : List TZ} (h : ZR w base G cap ok Z) {cur : Array Value} (hcur : w.heap[G]? = some (.cells cur 59 (0, 0))) {i : Nat} {Y : List TZ} (hi : i ≤ Z.length) (hl : i + Y.length ≤ cap) (hy : ∀ z ∈ Y, k59.M w base (fun k => ok k ∧ k ≠ G) z.1 [.int .i64 z.1.f0, z.2]) :
   ZR (w.setRow G (cur.toList.take (i * 2) ++ fl Y ++ cur.toList.drop (i * 2 + (fl Y).length)).toArray) base G cap ok (Z.take i ++ Y ++ Z.drop (i + Y.length)) ∧ w.grownBy (w.setRow G (cur.toList.take (i * 2) ++ fl Y ++ cur.toList.drop (i * 2 + (fl Y).length)).toArray) (some G) := by
 have h' := h
 obtain ⟨⟨cur', sp, h1, h2, h3⟩, hc, hm, hb2, og, el⟩ := h
 rw [h1] at hcur
 injection hcur with hcur
 injection hcur with hcur
 subst hcur
 have hg : w.grownBy (w.setRow G (cur'.toList.take (i * 2) ++ fl Y ++ cur'.toList.drop (i * 2 + (fl Y).length)).toArray) (some G) := ⟨rfl, rfl, rfl, by simp, fun k _ hne => setRow_other _ _ _ _ (fun e => hne (by rw [e]))⟩
 refine ⟨h'.turn (sp := if i + Y.length ≤ Z.length then sp else sp.drop ((i + Y.length - Z.length) * 2)) hg (setRow_heap _ _ _ _ _ _ h1) ?_ ?_ ?_ ?_, hg⟩
 · have e1 : cur'.toList.take (i * 2) = fl (Z.take i) := by
     rw [h2, List.take_append_of_le_length (by rw [fl_len]; omega), fl_take]
   rw [e1, fl_len, ← Nat.add_mul, h2]
   show _ = _
   rw [fl_append, fl_append]
   simp only [List.append_assoc]
   congr 2
   split
   · rename_i hle
     rw [List.drop_append_of_le_length (by rw [fl_len]; omega), fl_drop]
   · rename_i hle
     rw [List.drop_append, List.drop_eq_nil_of_le (by rw [fl_len]; omega), show Z.drop (i + Y.length) = [] from List.drop_eq_nil_of_le (by omega), fl_len, ← Nat.sub_mul]
     rfl
 · have := fl_len Y
   have hcs : cur'.toList.length = cap * 2 := by rw [Array.length_toList]; exact h3
   rw [List.size_toArray]
   simp only [List.length_append, List.length_take, List.length_drop, hcs, this]
   omega
 · simp only [List.length_append, List.length_take, List.length_drop]
   omega
 · intro z hz
   rw [List.append_assoc, List.mem_append, List.mem_append] at hz
   rcases hz with hz | hz | hz
   · exact el z (List.mem_of_mem_take hz)
   · exact hy z hz
   · exact el z (List.mem_of_mem_drop hz)
end Go.Proofs.Ytbpnfpckoapdbaa.TK
end
section
namespace Go.Proofs.Ytbpnfpckoapdbaa.M
open Go.RowKit Go.Proofs.YtbpnfpckoapdbaaW.PrintWords Go.Proofs.YtbpnfpckoapdbaaW.PrintLast Go.Proofs.YtbpnfpckoapdbaaW.PrintMore Go.Proofs.Ytbpnfpckoapdbaa.KD
set_option linter.unusedVariables false
set_option linter.unusedSimpArgs false
set_option maxHeartbeats 1000000
set_option maxRecDepth 100000
/-- The first place of such an element, counted from i; -1, if there is none. -/
def ixF {α : Type} (p : α → Bool) : List α → Nat → Int
 | [], _ => -1
 | x :: xs, i => if p x then (i : Int) else ixF p xs (i + 1)
theorem ixF_at {α : Type} {p : α → Bool} {xs : List α} {i : Nat} {x : α} (h : xs[i]? = some x) (k : Nat) : ixF p (xs.drop i) k = if p x then (k : Int) else ixF p (xs.drop (i + 1)) (k + 1) := by
 obtain ⟨h1, rfl⟩ := List.getElem?_eq_some_iff.1 h
 rw [List.drop_eq_getElem_cons h1, ixF]
def TellsC {α : Type} (d : Kd α) (F : FuncId) (cap : Value) (w0 : World) (p : α → Bool) : Prop :=
 ∀ (w : World) (x : α) (cs : List Value), Below w0.heap.size w0 w → d.K w x cs → Calls Try.prog F #[.agg cs.toArray, cap] w fun r w' => r = .returned (.bool (p x)) ∧ Below w.heap.size w w'
end Go.Proofs.Ytbpnfpckoapdbaa.M
end
section
namespace Go.Proofs.Ytbpnfpckoapdbaa.M
open Go.RowKit Go.Proofs.YtbpnfpckoapdbaaW.PrintWords Go.Proofs.YtbpnfpckoapdbaaW.PrintLast Go.Proofs.YtbpnfpckoapdbaaW.PrintMore Go.Proofs.Ytbpnfpckoapdbaa.KD
set_option linter.unusedVariables false
set_option linter.unusedSimpArgs false
set_option maxHeartbeats 1000000
set_option maxRecDepth 100000
theorem atK_Slot {w : World} {A : Option Addr} {n : Nat} {xs : List S59} (h : k59.C w A n xs) (i : Nat) (h1 : i < n) : ∃ ad i0 A1 n1 c1 x, A = some ad ∧ xs[i]? = some x ∧ w.cell? (ad.add (i * 2)) = some (.int .i64 i0) ∧ w.cell? ⟨(ad.add (i * 2)).block, (ad.add (i * 2)).off + 1, none⟩ = some (.slice A1 n1 c1) ∧ k59.K w x [.int .i64 i0, .slice A1 n1 c1] := by
 have hl : i < xs.length := by have := h.1; omega
 obtain ⟨ad, c, e, _, hK, hc0⟩ := Kd.C_get h xs[i] i (by omega) (by omega)
 have hr : xs.getD (i : Int).toNat xs[i] = xs[i] := by rw [Int.toNat_natCast, List.getD_eq_getElem?_getD, List.getElem?_eq_getElem hl]; rfl
 rw [hr] at hK
 have hc : ∀ j u, c[j]? = some u → w.cell? (ad.add (i * 2 + j)) = some u := hc0
 obtain ⟨A1, c1, rfl, _⟩ := k59_open hK
 exact ⟨ad, _, A1, _, c1, xs[i], e, List.getElem?_eq_getElem hl, hc 0 _ rfl, by rw [← add_field _ _ 1 (by omega)]; exact hc 1 _ rfl, hK⟩
theorem Idx_tree_of1 {w : World} {A : Option Addr} {c : Nat} {cap : Value} {p : S59 → Bool} {xs : List S59} (HE : TellsC k59 102 cap w p) (hA : k59.C w A xs.length xs) :
  Calls Try.prog 85 #[.slice A xs.length c, .func (.func 102) #[] #[cap]] w fun r w' => r = .returned (.int .i64 (ixF p xs 0)) ∧ Below w.heap.size w w' := by
 have HA := Aside0.mk hA
 have HQ := Aside0.mk HE
 have HM := Aside0.mk (Kd.C_max hA)
 clear hA HE
 go_enter Try.func85, Try.ntmps85
 go_wp2
 go_loopg [8] xs.length (fun kq v8 w' => ∃ i : Nat, v8 = .int .i64 (i : Int) ∧ Aside0 (kq + i = xs.length) ∧ Aside0 (ixF p xs 0 = ixF p (xs.drop i) i) ∧ Aside0 (Below w.heap.size w w'))
 case atStart => exact ⟨0, rfl, ⟨by omega⟩, ⟨rfl⟩, ⟨Below.refl _ _⟩⟩
 case round =>
  obtain ⟨i, rfl, HK, HE, BW⟩ := hrel
  by_cases hi : (i : Int) < (xs.length : Int)
  · have c1 : decide ((i : Int) < (xs.length : Int)) = true := decide_eq_true hi
    have p0 : (0 : Int) ≤ (i : Int) := by omega
    obtain ⟨ad, i0, A1, n1, c1, x, rfl, hx, q0, q1, hk⟩ := atK_Slot (Kd.C_below HA.out BW.out) i (by omega)
    have HX := Aside0.mk hx
    have K1 := Aside0.mk hk
    have hw : IntKind.i64.wrap ((i : Int) + 1) = ((i + 1 : Nat) : Int) := by have := HM.out; rw [IntKind.wrap_i64]; omega
    have HI := Aside0.mk (show i < xs.length by omega)
    replace hi := eq_true hi
    clear hx hk
    have HC := Aside0.mk (HQ.out _ _ _ BW.out K1.out)
    have HN := Aside0.mk (ixF_at (p := p) HX.out i)
    cases he : p x with
    | true =>
     rw [he] at HC HN
     have HF := Aside0.mk (show ixF p xs 0 = (i : Int) by rw [HE.out, HN.out]; rfl)
     go_wp2_with (first | (go_at_call 102; refine HC.out.mono ?_; rintro r w2 ⟨rfl, b2⟩; have B2 := Aside0.mk b2; clear b2))
     go_ret
     exact ⟨by rw [HF.out]; rfl, BW.out.trans (B2.out.mono BW.out.size)⟩
    | false =>
     rw [he] at HC HN
     go_wp2_with (first | (go_at_call 102; refine HC.out.mono ?_; rintro r w2 ⟨rfl, b2⟩; have B2 := Aside0.mk b2; clear b2))
     go_roundg (xs.length - (i + 1))
     case measure => have := HK.out; have := HI.out; omega
     case rel => exact ⟨i + 1, rfl, ⟨by have := HI.out; omega⟩, ⟨by rw [HE.out, HN.out]; rfl⟩, ⟨BW.out.trans (B2.out.mono BW.out.size)⟩⟩
  · have c1 : decide ((i : Int) < (xs.length : Int)) = false := decide_eq_false hi
    have c2 : decide (i < xs.length) = false := decide_eq_false (by omega)
    have HF := Aside0.mk (show ixF p xs 0 = -1 by rw [HE.out, List.drop_eq_nil_of_le (by omega)]; rfl)
    clear hi
    go_wp2
    go_ret
    exact ⟨by rw [HF.out]; rfl, BW.out⟩
theorem tree_of1_c {w : World} {a : Addr} {v : Int} (hv : w.cell? a = some (.int .i64 v)) : TellsC k59 102 (.pointer (some a)) w (fun x => x.f0 == v) := by
 intro w2 x cs hb hk
 obtain ⟨A1, c1, rfl, _⟩ := k59_open hk
 have hv2 := pw_cell_below hb hv
 have hv3 : ∀ o, (w2.alloc o).cell? a = some (.int .i64 v) := fun o => pw_cell_below (below_alloc (Below.refl _ _) o) hv2
 clear hk hb hv
 go_enter Try.func102, Try.ntmps102
 go_wp2
 go_ret
 exact ⟨rfl, below_alloc (Below.refl _ _) _⟩
theorem Idx_tree_With1 {w : World} {A : Option Addr} {c : Nat} {cap : Value} {p : S59 → Bool} {xs : List S59} (HE : TellsC k59 86 cap w p) (hA : k59.C w A xs.length xs) :
  Calls Try.prog 85 #[.slice A xs.length c, .func (.func 86) #[] #[cap]] w fun r w' => r = .returned (.int .i64 (ixF p xs 0)) ∧ Below w.heap.size w w' := by
 have HA := Aside0.mk hA
 have HQ := Aside0.mk HE
 have HM := Aside0.mk (Kd.C_max hA)
 clear hA HE
 go_enter Try.func85, Try.ntmps85
 go_wp2
 go_loopg [8] xs.length (fun kq v8 w' => ∃ i : Nat, v8 = .int .i64 (i : Int) ∧ Aside0 (kq + i = xs.length) ∧ Aside0 (ixF p xs 0 = ixF p (xs.drop i) i) ∧ Aside0 (Below w.heap.size w w'))
 case atStart => exact ⟨0, rfl, ⟨by omega⟩, ⟨rfl⟩, ⟨Below.refl _ _⟩⟩
 case round =>
  obtain ⟨i, rfl, HK, HE, BW⟩ := hrel
  by_cases hi : (i : Int) < (xs.length : Int)
  · have c1 : decide ((i : Int) < (xs.length : Int)) = true := decide_eq_true hi
    have p0 : (0 : Int) ≤ (i : Int) := by omega
    obtain ⟨ad, i0, A1, n1, c1, x, rfl, hx, q0, q1, hk⟩ := atK_Slot (Kd.C_below HA.out BW.out) i (by omega)
    have HX := Aside0.mk hx
    have K1 := Aside0.mk hk
    have hw : IntKind.i64.wrap ((i : Int) + 1) = ((i + 1 : Nat) : Int) := by have := HM.out; rw [IntKind.wrap_i64]; omega
    have HI := Aside0.mk (show i < xs.length by omega)
    replace hi := eq_true hi
    clear hx hk
    have HC := Aside0.mk (HQ.out _ _ _ BW.out K1.out)
    have HN := Aside0.mk (ixF_at (p := p) HX.out i)
    cases he : p x with
    | true =>
     rw [he] at HC HN
     have HF := Aside0.mk (show ixF p xs 0 = (i : Int) by rw [HE.out, HN.out]; rfl)
     go_wp2_with (first | (go_at_call 86; refine HC.out.mono ?_; rintro r w2 ⟨rfl, b2⟩; have B2 := Aside0.mk b2; clear b2))
     go_ret
     exact ⟨by rw [HF.out]; rfl, BW.out.trans (B2.out.mono BW.out.size)⟩
    | false =>
     rw [he] at HC HN
     go_wp2_with (first | (go_at_call 86; refine HC.out.mono ?_; rintro r w2 ⟨rfl, b2⟩; have B2 := Aside0.mk b2; clear b2))
     go_roundg (xs.length - (i + 1))
     case measure => have := HK.out; have := HI.out; omega
     case rel => exact ⟨i + 1, rfl, ⟨by have := HI.out; omega⟩, ⟨by rw [HE.out, HN.out]; rfl⟩, ⟨BW.out.trans (B2.out.mono BW.out.size)⟩⟩
  · have c1 : decide ((i : Int) < (xs.length : Int)) = false := decide_eq_false hi
    have c2 : decide (i < xs.length) = false := decide_eq_false (by omega)
    have HF := Aside0.mk (show ixF p xs 0 = -1 by rw [HE.out, List.drop_eq_nil_of_le (by omega)]; rfl)
    clear hi
    go_wp2
    go_ret
    exact ⟨by rw [HF.out]; rfl, BW.out⟩
theorem tree_With1_c {w : World} {a : Addr} {v : Int} (hv : w.cell? a = some (.int .i64 v)) : TellsC k59 86 (.pointer (some a)) w (fun x => decide (v < x.f0)) := by
 intro w2 x cs hb hk
 obtain ⟨A1, c1, rfl, _⟩ := k59_open hk
 have hv2 := pw_cell_below hb hv
 have hv3 : ∀ o, (w2.alloc o).cell? a = some (.int .i64 v) := fun o => pw_cell_below (below_alloc (Below.refl _ _) o) hv2
 clear hk hb hv
 go_enter Try.func86, Try.ntmps86
 go_wp2
 go_ret
 exact ⟨rfl, below_alloc (Below.refl _ _) _⟩
end Go.Proofs.Ytbpnfpckoapdbaa.M
end
section
namespace Go.Proofs.Ytbpnfpckoapdbaa.TK
open Go.RowKit Go.Proofs.Ytbpnfpckoapdbaa.Ops Go.Proofs.Ytbpnfpckoapdbaa.KD Go.Proofs.Ytbpnfpckoapdbaa.M Go.Proofs.YtbpnfpckoapdbaaW.PrintWords Go.Proofs.YtbpnfpckoapdbaaW.PrintLast Go.Proofs.YtbpnfpckoapdbaaW.PrintMore Go.Proofs.Ytbpnfpckoapdbaa.Open
set_option linter.unusedVariables false
set_option linter.unusedSimpArgs false
set_option maxHeartbeats 1000000
set_option maxRecDepth 100000
/-- The zero slot. -/
def zz : TZ := (⟨0, []⟩, .slice none 0 0)
theorem zz_M (w : World) (base : Nat) (ok : Nat → Prop) : k59.M w base ok zz.1 [.int .i64 zz.1.f0, zz.2] := k59_mkM w base ok zz.1 (Kd.R_nil _ _ _ _ _)
theorem zeros2 (n : Nat) : (Builtin.zeroCells #[.int .i64 0, .slice none 0 0] n).toList = fl (List.replicate n zz) := by
 apply List.ext_getElem?
 intro i
 have hs : (#[Value.int .i64 0, .slice none 0 0] : Array Value).size = 2 := rfl
 by_cases hi : i < n * 2
 · have hz : (List.replicate n zz)[i / 2]? = some zz := by rw [List.getElem?_replicate, if_pos (by omega)]
   obtain ⟨g1, g2⟩ := fl_get _ _ _ hz
   simp only [Builtin.zeroCells, Array.getElem?_toList, Array.getElem?_map, hs, Array.getElem?_range, hi, if_true, Option.map_some]
   rcases Nat.mod_two_eq_zero_or_one i with h | h
   · rw [show i / 2 * 2 = i by omega] at g1
     rw [h, g1]
     rfl
   · rw [show i / 2 * 2 + 1 = i by omega] at g2
     rw [h, g2]
     rfl
 · have h2 := fl_len (List.replicate n zz)
   rw [List.length_replicate] at h2
   have h3 : (Builtin.zeroCells #[.int .i64 0, .slice none 0 0] n).toList.length = n * 2 := by simp [Builtin.zeroCells]
   rw [List.getElem?_eq_none (by rw [h3]; omega), List.getElem?_eq_none (by omega)]
theorem clear2 {w : World} {G i n c : Nat} {cur : Array Value} (h1 : w.heap[G]? = some (.cells cur 59 (0, 0))) (hn : 0 < n) (hl : i * 2 + n * 2 ≤ cur.size) (ty : TypeId) :
  (Builtin.clear_ #[22] ty #[.slice (some ⟨G, i * 2, none⟩) n c]).run Try.prog w = .ok (.tuple #[]) (w.setRow G (cur.toList.take (i * 2) ++ fl (List.replicate n zz) ++ cur.toList.drop (i * 2 + (fl (List.replicate n zz)).length)).toArray) := by
 have hz : ∀ w, (zeroValue 59).run Try.prog w = .ok (.agg #[.int .i64 0, .slice none 0 0]) w := by
  intro w
  have hi := infoCloneS
  cases hq : Try.prog.info? 59 with
  | none => rw [hq] at hi; cases hi
  | some j =>
   rw [hq] at hi
   simp only [Option.map_some, Option.some.injEq, Prod.mk.injEq] at hi
   simp [zeroValue, typeInfo, hq, hi.1]
 have hc : (Value.agg #[.int .i64 0, .slice none 0 0]).cells = #[.int .i64 0, .slice none 0 0] := by simp [Value.cells]
 have hf := fl_len (List.replicate n zz)
 rw [List.length_replicate] at hf
 have hst := run_storeCells_at Try.prog G (i * 2) 59 (fl (List.replicate n zz)) 0 cur w h1 (by omega) (fun v hv => by
  obtain ⟨z, hz, hv⟩ := fl_mem _ _ hv
  rw [List.eq_of_mem_replicate hz] at hv
  rcases hv with rfl | rfl <;> rfl)
 obtain ⟨m, rfl⟩ : ∃ m, n = m + 1 := ⟨n - 1, by omega⟩
 simp only [Nat.add_zero] at hst
 simp [Builtin.clear_, run_underlying Try.underlying22, hz, hc, zeros2, hst]
theorem ZR.slot {w : World} {base G cap : Nat} {ok : Nat → Prop} {Z : List TZ} (h : ZR w base G cap ok Z) {i : Nat} {z : TZ} (hz : Z[i]? = some z) : ∃ A c, z.2 = .slice A z.1.f1.length c ∧ k59.K w z.1 [.int .i64 z.1.f0, .slice A z.1.f1.length c] := by
 have hM := h.el z (List.mem_of_getElem? hz)
 obtain ⟨v, he, hR⟩ := k59_openM hM
 injection he with _ he
 injection he with he _
 obtain ⟨A, c, hv⟩ := Kd.R_slice hR
 rw [he, hv] at hM
 exact ⟨A, c, by rw [he, hv], k59.K_of_M hM⟩
/-- The first place: nothing such ahead of it. -/
theorem ixF_two {α : Type} {p : α → Bool} : ∀ (xs : List α) (i : Nat), (ixF p xs i = -1 ∧ ∀ x ∈ xs, p x = false) ∨ ∃ k x, ixF p xs i = ((i + k : Nat) : Int) ∧ xs[k]? = some x ∧ p x = true ∧ ∀ y ∈ xs.take k, p y = false
 | [], _ => .inl ⟨rfl, by simp⟩
 | x :: xs, i => by
  rw [ixF]
  cases hp : p x with
  | true => exact .inr ⟨0, x, rfl, rfl, hp, by simp⟩
  | false =>
   rcases ixF_two (p := p) xs (i + 1) with ⟨h1, h2⟩ | ⟨k, y, h1, h2, h3, h4⟩
   · exact .inl ⟨h1, fun y hy => (List.mem_cons.1 hy).elim (fun e => e ▸ hp) (h2 y)⟩
   · refine .inr ⟨k + 1, y, ?_, h2, h3, fun y hy => ?_⟩
     · show ixF p xs (i + 1) = _
       rw [h1]; congr 1; omega
     · rw [List.take_succ_cons] at hy
       rcases List.mem_cons.1 hy with rfl | hy
       · exact hp
       · exact h4 y hy
set_option maxHeartbeats 8000000 in
theorem DeleteFunc_c {w : World} {base G cap : Nat} {ok : Nat → Prop} {Z : List TZ} {num : Int} {qa : Addr} (h : ZR w base G cap ok Z) (hq : w.cell? qa = some (.int .i64 num)) (hqb : qa.block ≠ G) :
   Calls Try.prog 83 #[.slice (some ⟨G, 0, none⟩) Z.length cap, .func (.func 102) #[] #[.pointer (some qa)]] w fun r w' => ∃ Y, r = .returned (.slice (some ⟨G, 0, none⟩) Y.length cap) ∧ ZR w' base G cap ok Y ∧ w.grownBy w' (some G) ∧ Y = Z.filter (fun z => !(z.1.f0 == num)) := by
 obtain ⟨Q, hQ⟩ : ∃ Q : TZ → Bool, Q = fun z => !(z.1.f0 == num) := ⟨_, rfl⟩
 rw [← hQ]
 have HX := Aside0.mk (Idx_tree_of1 (A := some ⟨G, 0, none⟩) (c := cap) (tree_of1_c hq) (Kd.R_reads' h.to_R).2.2)
 rw [List.length_map] at HX
 have HZ := Aside0.mk h
 have HQ := Aside0.mk hQ
 have HQA := Aside0.mk (show ∀ w', w.grownBy w' (some G) → w'.cell? qa = some (.int .i64 num) from fun w' hg => by
   rw [World.cell?_of_block (hg.block _ (by
    rcases Nat.lt_or_ge qa.block w.heap.size with h' | h'
    · exact h'
    · simp [World.cell?, Array.getElem?_eq_none h'] at hq) (fun e => hqb (by injection e)))]
   exact hq)
 have HM := Aside0.mk h.hm
 have HL := Aside0.mk h.hc
 rcases ixF_two (p := fun x : TS => x.f0 == num) (Z.map Prod.fst) 0 with ⟨hi, hall⟩ | ⟨k, x, hi, hk1, hk2, hk3⟩
 · rw [hi] at HX
   have HF := Aside0.mk (show Z.filter Q = Z by
    rw [List.filter_eq_self, hQ]
    intro z hz
    have h1 : (z.1.f0 == num) = false := hall z.1 (List.mem_map_of_mem hz)
    show (!(z.1.f0 == num)) = true
    rw [h1]
    rfl)
   clear h hq hqb hQ hi hall
   go_enter Try.func83, Try.ntmps83
   go_wp2_with (first
    | (go_at_call 85; refine HX.out.mono ?_; rintro r w2 ⟨rfl, b2⟩; have B2 := Aside0.mk b2; clear b2))
   go_ret
   exact ⟨Z, rfl, HZ.out.below B2.out, grown_of_below B2.out _, HF.out.symm⟩
 · rw [hi, Nat.zero_add] at HX
   rw [List.getElem?_map] at hk1
   obtain ⟨z0, hz0, rfl⟩ := Option.map_eq_some_iff.1 hk1
   have hkl := (List.getElem?_eq_some_iff.1 hz0).1
   have HK := Aside0.mk (show (Z.take (k + 1)).filter Q = Z.take k by
    rw [List.take_add_one, hz0]
    simp only [Option.toList_some, List.filter_append]
    rw [List.filter_eq_self.2 (fun z hz => by
      have h1 : (z.1.f0 == num) = false := hk3 z.1 (by rw [← List.map_take]; exact List.mem_map_of_mem hz)
      rw [hQ]
      show (!(z.1.f0 == num)) = true
      rw [h1]
      rfl), List.filter_cons_of_neg (by rw [hQ]; show ¬ (!(z0.1.f0 == num)) = true; rw [show (z0.1.f0 == num) = true from hk2]; decide), List.filter_nil, List.append_nil])
   have HKL := Aside0.mk hkl
   have hw0 : IntKind.i64.wrap ((k : Int) + 1) = ((k + 1 : Nat) : Int) := by have := HM.out; unfold maxLen at this; have := HL.out; rw [IntKind.wrap_i64]; omega
   have c0 : ¬ ((k : Int) = -1) := by omega
   clear h hq hqb hQ hi hk1 hk2 hk3 hz0 hkl
   go_enter Try.func83, Try.ntmps83
   go_wp2_with (first
    | (go_at_call 85; refine HX.out.mono ?_; rintro r w2 ⟨rfl, b2⟩; have B2 := Aside0.mk b2; clear b2))
   go_loopg [5, 6] (Z.length - (k + 1)) (fun kq v5 v6 w' => ∃ (i j : Nat) (Y : List TZ), v5 = .int .i64 (i : Int) ∧ v6 = .int .i64 (j : Int) ∧ Aside0 (kq + j = Z.length) ∧ Aside0 (i < j) ∧ Aside0 (ZR w' base G cap ok Y) ∧ Aside0 (Y.length = Z.length) ∧ Aside0 (Y.take i = (Z.take j).filter Q) ∧ Aside0 (Y.drop j = Z.drop j) ∧ Aside0 (w.grownBy w' (some G)))
   case atStart => exact ⟨k, k + 1, Z, rfl, rfl, ⟨by have := HKL.out; omega⟩, ⟨by omega⟩, ⟨HZ.out.below B2.out⟩, ⟨rfl⟩, ⟨HK.out.symm⟩, ⟨rfl⟩, ⟨grown_of_below B2.out _⟩⟩
   case round =>
    obtain ⟨i, j, Y, rfl, rfl, KQ, IJ, HY, YL, YT, YD, GW⟩ := hrel
    by_cases hj : j < Z.length
    · have c1 : decide ((j : Int) < (Z.length : Int)) = true := decide_eq_true (by omega)
      have c2 : decide (j < Z.length) = true := decide_eq_true hj
      have p0 : (0 : Int) ≤ (j : Int) := by omega
      have p1 : (0 : Int) ≤ (i : Int) := by omega
      have p2 : (j : Int) < (Z.length : Int) := by omega
      have hij := IJ.out
      have p3 : (i : Int) < (Z.length : Int) := by omega
      obtain ⟨z, hz⟩ : ∃ z, Z[j]? = some z := ⟨_, List.getElem?_eq_getElem hj⟩
      have hy : Y[j]? = some z := by
       have h1 : (Y.drop j)[0]? = (Z.drop j)[0]? := by rw [YD.out]
       rw [List.getElem?_drop, List.getElem?_drop] at h1
       exact h1.trans hz
      obtain ⟨y0, hy0⟩ : ∃ y, Y[i]? = some y := ⟨_, List.getElem?_eq_getElem (by have := YL.out; omega)⟩
      obtain ⟨A1, d1, he1, hK1⟩ := HY.out.slot hy
      obtain ⟨q0, q1, qf⟩ := HY.out.cell hy
      rw [he1] at q1
      have qf0 := qf (j * 2)
      have qf1 := qf (j * 2 + 1)
      have hwj : IntKind.i64.wrap ((j : Int) + 1) = ((j + 1 : Nat) : Int) := by have := HM.out; unfold maxLen at this; have := HL.out; rw [IntKind.wrap_i64]; omega
      have hwi : IntKind.i64.wrap ((i : Int) + 1) = ((i + 1 : Nat) : Int) := by have := HM.out; unfold maxLen at this; have := HL.out; rw [IntKind.wrap_i64]; omega
      have HZJ := Aside0.mk hz
      have HYJ := Aside0.mk hy
      have HY0 := Aside0.mk hy0
      have HE1 := Aside0.mk he1
      have HK1 := Aside0.mk hK1
      have HJ := Aside0.mk hj
      clear hz hy hy0 he1 hK1 qf hj hij
      have HN := Aside0.mk (show (Z.take (j + 1)).filter Q = (Z.take j).filter Q ++ (if Q z then [z] else []) by
       rw [List.take_add_one, HZJ.out]
       simp only [Option.toList_some, List.filter_append, List.filter_cons, List.filter_nil])
      have HYD := Aside0.mk (show Y.drop (j + 1) = Z.drop (j + 1) by
       rw [← List.drop_drop, YD.out, List.drop_drop])
      obtain ⟨wb, hwb⟩ : ∃ wb, wb = wr.alloc (.cells #[.int .i64 z.1.f0, .slice A1 z.1.f1.length d1] 59) := ⟨_, rfl⟩
      have HWB := Aside0.mk hwb
      have bb : Below wr.heap.size wr wb := by rw [hwb]; exact below_alloc (Below.refl _ _) _
      have HB3 := Aside0.mk (show wb.heap[wr.heap.size]? = some (.cells #[.int .i64 z.1.f0, .slice A1 z.1.f1.length d1] 59 (0, 0)) by rw [hwb]; exact blk_new _ _)
      have BB := Aside0.mk bb
      have HC := Aside0.mk (tree_of1_c (HQA.out _ (GW.out.trans (grown_of_below bb _))) wb z.1 _ (Below.refl _ _) (k59.K_below bb HK1.out))
      have HQZ := Aside0.mk (show Q z = !(z.1.f0 == num) by rw [HQ.out])
      dsimp only at HC
      clear hwb bb
      cases hb : (z.1.f0 == num) with
      | true =>
       rw [hb] at HC HQZ
       go_wp2_with (first
        | (go_at_call 102; rw [← HWB.out]; refine HC.out.mono ?_; rintro r w3 ⟨rfl, b3⟩; have B3 := Aside0.mk (BB.out.trans (b3.mono BB.out.size)); clear b3))
       go_roundg (Z.length - (j + 1))
       case measure => have := KQ.out; have := HJ.out; omega
       case rel =>
        refine ⟨i, j + 1, Y, rfl, rfl, ⟨by have := HJ.out; omega⟩, ⟨by have := IJ.out; omega⟩, ⟨HY.out.below B3.out⟩, YL, ⟨?_⟩, HYD, ⟨GW.out.trans (grown_of_below B3.out _)⟩⟩
        rw [HN.out, HQZ.out, YT.out]
        simp
      | false =>
       rw [hb] at HC HQZ
       go_wp2_with (first
        | (go_at_call 102; rw [← HWB.out]; refine HC.out.mono ?_; rintro r w3 ⟨rfl, b3⟩; have B3 := Aside0.mk (BB.out.trans (b3.mono BB.out.size)); have k3 := blk_below HB3.out b3; have l0 := (blk_cell k3 0).trans rfl; have l1 := (blk_cell k3 1).trans rfl; obtain ⟨A2, d2, he2, _⟩ := (HY.out.below B3.out).slot HY0.out; obtain ⟨o0, o1, of⟩ := (HY.out.below B3.out).cell HY0.out; rw [he2] at o1; have of0 := of (i * 2); have of1 := of (i * 2 + 1); clear b3 k3 of he2))
       go_roundg (Z.length - (j + 1))
       case measure => have := KQ.out; have := HJ.out; omega
       case rel =>
        have hS := (HY.out.below B3.out).set (i := i) (z := z) (by have := IJ.out; have := HJ.out; have := YL.out; omega) ((HY.out.below B3.out).el z (List.mem_of_getElem? HYJ.out))
        rw [HE1.out] at hS
        have hYi : i < Y.length := by have := IJ.out; have := HJ.out; have := YL.out; omega
        refine ⟨i + 1, j + 1, Y.set i z, rfl, rfl, ⟨by have := HJ.out; omega⟩, ⟨by have := IJ.out; omega⟩, ⟨hS⟩, ⟨by rw [List.length_set]; exact YL.out⟩, ⟨?_⟩, ⟨?_⟩, ⟨(GW.out.trans (grown_of_below B3.out _)).trans (grown_set2 _ _ _ _ _ _)⟩⟩
        · rw [HN.out, HQZ.out, ← YT.out, List.take_add_one, List.getElem?_set_self hYi, List.take_set_of_le (by omega)]
          rfl
        · rw [List.drop_set_of_lt (by have := IJ.out; omega)]
          exact HYD.out
    · have c1 : decide ((j : Int) < (Z.length : Int)) = false := decide_eq_false (by omega)
      have c2 : decide (j < Z.length) = false := decide_eq_false hj
      have hjn : j = Z.length := by have := KQ.out; omega
      have hij : i < Z.length := by have := IJ.out; omega
      have hcap := HL.out
      have p1 : (0 : Int) ≤ (i : Int) := by omega
      have p2 : (i : Int) ≤ (Z.length : Int) := by omega
      have p3 : ¬ (cap = i) := by omega
      have p4 : (i : Int) ≤ (cap : Int) := by omega
      obtain ⟨cur, sp, h1, h2, h3⟩ := HY.out.is
      have HH1 := Aside0.mk h1
      have h2l := congrArg List.length h2
      rw [Array.length_toList, h3, List.length_append, fl_len] at h2l
      have hYl := YL.out
      have hcl := clear2 (w := wr) (G := G) (i := i) (n := Z.length - i) (c := cap - i) (cur := cur) h1 (by omega) (by rw [h3]; omega)
      have HO := Aside0.mk (HY.out.over (i := i) (Y := List.replicate (Z.length - i) zz) h1 (by omega) (by rw [List.length_replicate]; omega) (fun z hz => by rw [List.eq_of_mem_replicate hz]; exact zz_M _ _ _))
      obtain ⟨wc, hwc⟩ : ∃ wc, wc = wr.setRow G (cur.toList.take (i * 2) ++ fl (List.replicate (Z.length - i) zz) ++ cur.toList.drop (i * 2 + (fl (List.replicate (Z.length - i) zz)).length)).toArray := ⟨_, rfl⟩
      rw [← hwc] at hcl HO
      have HYT := Aside0.mk (show Y.take i = Z.filter Q by rw [YT.out, hjn, List.take_length])
      have HIL := Aside0.mk (show i < Y.length by omega)
      clear h1 h2 h3 h2l hYl hwc hj
      go_wp2_with fail
      go_ret
      have h5 := HO.out.1.take i
      rw [List.append_assoc, List.take_append_of_le_length (by rw [List.length_take]; have := HIL.out; omega), List.take_take, Nat.min_self] at h5
      exact ⟨Y.take i, by rw [List.length_take, Nat.min_eq_left (Nat.le_of_lt HIL.out)]; rfl, h5, GW.out.trans HO.out.2, HYT.out⟩
end Go.Proofs.Ytbpnfpckoapdbaa.TK
end
section
namespace Go.Proofs.Ytbpnfpckoapdbaa.TK
open Go.RowKit Go.Proofs.Ytbpnfpckoapdbaa.Ops Go.Proofs.Ytbpnfpckoapdbaa.KD Go.Proofs.Ytbpnfpckoapdbaa.M Go.Proofs.YtbpnfpckoapdbaaW.PrintWords Go.Proofs.YtbpnfpckoapdbaaW.PrintLast Go.Proofs.YtbpnfpckoapdbaaW.PrintMore Go.Proofs.Ytbpnfpckoapdbaa.Open
set_option linter.unusedVariables false
set_option linter.unusedSimpArgs false
set_option maxHeartbeats 1000000
set_option maxRecDepth 100000
section
variable {P : Program} {ops : Array Oper} {rest : List Oper} {o : Oper} {a : Act} {Q : Exit → Act → World → Prop}
/-- A copy whose run is known. -/
theorem at_copy {w : World} {K : Act → World → Prop} {d s : Operand} {t t' : TypeId} (ho : o.op = .call { callee := .builtin .copy, args := #[d, s], argTypes := #[t, t'] }) {v u : Value} (hd : a.eval d = v) (hs : a.eval s = u) {v' : Value} {w' : World} (hr : (Builtin.copy_ #[t, t'] o.type #[v, u]).run P w = .ok v' w') (h : K (a.put o.dst v') w') : o.wp P a w K Q := by
 unfold Oper.wp
 simp [execOp, ho, resolve, invoke, builtin, hd, hs, hr, Result.andThen]
 exact h
theorem list_copy {w : World} (hg : o.guard = none) {d s : Operand} {t t' : TypeId} (ho : o.op = .call { callee := .builtin .copy, args := #[d, s], argTypes := #[t, t'] }) {v u : Value} (hd : a.eval d = v) (hs : a.eval s = u) {v' : Value} {w' : World} (hr : (Builtin.copy_ #[t, t'] o.type #[v, u]).run P w = .ok v' w') (h : wpList P ops Q rest (a.put o.dst v') w') : wpList P ops Q (o :: rest) a w :=
 wpList_plain hg fun _ hK => at_copy ho hd hs hr (hK _ _ h)
theorem step_copy {w : World} {K : Act → World → Prop} {E : Prop} (hg : o.guard = none) {d s : Operand} {t t' : TypeId} (ho : o.op = .call { callee := .builtin .copy, args := #[d, s], argTypes := #[t, t'] }) {v u : Value} (hd : a.eval d = v) (hs : a.eval s = u) {v' : Value} {w' : World} (hr : (Builtin.copy_ #[t, t'] o.type #[v, u]).run P w = .ok v' w') (h : K (a.put o.dst v') w') :
  if Region.wanted o (yielded ops a.tmps) = true then o.wp P a w K Q else E := by
 rw [if_pos (by simp [Region.wanted, hg])]
 exact at_copy ho hd hs hr h
end
/-- copy over slots: what the cells are. -/
theorem copy2 {w : World} {G i dl dc sl sc : Nat} {ad : Addr} {cur : Array Value} {Y : List TZ} (h1 : w.heap[G]? = some (.cells cur 59 (0, 0))) (hn : Y.length = Nat.min sl dl) (hsrc : ∀ j v, (fl Y)[j]? = some v → w.cell? (ad.add j) = some v) (hfit : i * 2 + Y.length * 2 ≤ cur.size) (h2 : ∀ z ∈ Y, z.2.oneCell' = true) (ty : TypeId) :
  (Builtin.copy_ #[22, 22] ty #[.slice (some ⟨G, i * 2, none⟩) dl dc, .slice (some ad) sl sc]).run Try.prog w = .ok (goInt Y.length) (w.setRow G (cur.toList.take (i * 2) ++ fl Y ++ cur.toList.drop (i * 2 + (fl Y).length)).toArray) := by
 have hf := fl_len Y
 have hl := run_loadCells_list (P := Try.prog) w ad (fl Y) hsrc
 have hst := run_storeCells_at Try.prog G (i * 2) 59 (fl Y) 0 cur w h1 (by omega) (fun v hv => by
  obtain ⟨z, hz, hv⟩ := fl_mem _ _ hv
  rcases hv with rfl | rfl
  · rfl
  · exact h2 z hz)
 rw [hf] at hl
 have hi := infoCloneS
 cases hq : Try.prog.info? 59 with
 | none => rw [hq] at hi; cases hi
 | some j =>
  rw [hq] at hi
  simp only [Option.map_some, Option.some.injEq, Prod.mk.injEq] at hi
  simp only [Nat.add_zero] at hst
  simp [Builtin.copy_, run_underlying Try.underlying22, Builtin.lenOf, Builtin.firstCells, sizeOf, typeInfo, hq, hi.2.1, ← hn, hl, hst]
theorem ZR.one {w : World} {base G cap : Nat} {ok : Nat → Prop} {Z : List TZ} (h : ZR w base G cap ok Z) : ∀ z ∈ Z, z.2.oneCell' = true := fun z hz => by
 obtain ⟨i, hi⟩ := List.getElem?_of_mem hz
 obtain ⟨A, c, he, _⟩ := h.slot hi
 rw [he]; rfl
theorem ZR.cells {w : World} {base G cap : Nat} {ok : Nat → Prop} {Z : List TZ} (h : ZR w base G cap ok Z) (i : Nat) : ∀ j v, (fl (Z.drop i))[j]? = some v → w.cell? ((⟨G, i * 2, none⟩ : Addr).add j) = some v := fun j v hj => by
 obtain ⟨⟨cur, sp, h1, h2, h3⟩, _⟩ := h
 rw [← fl_drop, List.getElem?_drop] at hj
 have hl := (List.getElem?_eq_some_iff.1 hj).1
 have e : (⟨G, i * 2, none⟩ : Addr).add j = ⟨G, i * 2 + j, none⟩ := by unfold Addr.add; split <;> simp_all
 rw [e, blk_cell h1, ← Array.getElem?_toList, h2, List.getElem?_append_left hl]
 exact hj
/-- What comes of it. -/
def Put (w : World) (base : Nat) (ok : Nat → Prop) (v : Value) (xs : List TS) (r : Ending) (w' : World) : Prop :=
 ∃ v', r = .returned v' ∧ k59.R 59 w' base ok v' xs ∧ w.grownBy w' v.ownBlock ∧ (v'.ownBlock = v.ownBlock ∨ ∃ b, v'.ownBlock = some b ∧ w.heap.size ≤ b)
theorem wrap3 (n : Nat) (h : n ≤ maxLen) : IntKind.i64.wrap (n : Int) = (n : Int) := by unfold maxLen at h; rw [IntKind.wrap_i64]; omega
set_option maxHeartbeats 8000000 in
theorem Insert_shift {w : World} {base G cap i vb vc : Nat} {ok : Nat → Prop} {Z : List TZ} {z : TZ} (h : ZR w base G cap ok Z) (hi : i < Z.length) (hroom : Z.length + 1 ≤ cap) (hv : w.heap[vb]? = some (.cells #[.int .i64 z.1.f0, z.2] 59 (0, 0))) (hvb : vb ≠ G) (h2 : z.2.oneCell' = true) (hz : k59.M w base (fun k => ok k ∧ k ≠ G) z.1 [.int .i64 z.1.f0, z.2]) :
  Calls Try.prog 87 #[.slice (some ⟨G, 0, none⟩) Z.length cap, .int .i64 i, .slice (some ⟨vb, 0, none⟩) 1 vc] w (Put w base ok (.slice (some ⟨G, 0, none⟩) Z.length cap) (Z.map Prod.fst |>.take i |>.append (z.1 :: (Z.map Prod.fst).drop i))) := by
 obtain ⟨cur, sp, h1, hc1, hc2⟩ := h.is
 have hl1 := congrArg List.length hc1
 rw [Array.length_toList, hc2, List.length_append, fl_len] at hl1
 have hov : ∀ lb cb, (callFunc 103 #[.slice (some ⟨vb, 0, none⟩) 1 vc, .slice (some ⟨G, (i + 1) * 2, none⟩) lb cb]).run Try.prog w = .ok (.value (.bool false)) w := fun lb cb => by
  rw [run_callFunc_extern Try.func103 (by kernel_rfl) (by kernel_rfl) (by kernel_rfl) (e := Extern.SlicesOverlaps.overlaps #[22, 22] #[4]) (by kernel_rfl),
   Lib.run_overlaps_apart w 22 4 59 Try.underlying22 2 (fun w => by
    have hi := infoCloneS
    cases hq : Try.prog.info? 59 with
    | none => rw [hq] at hi; cases hi
    | some j =>
     rw [hq] at hi
     simp only [Option.map_some, Option.some.injEq, Prod.mk.injEq] at hi
     simp [sizeOf, typeInfo, hq, hi.2.1]) ⟨vb, 0, none⟩ ⟨G, (i + 1) * 2, none⟩ 1 vc lb cb hvb 59 59 2 cur.size (by simp only [World.shape?, hv]; rfl) (by simp only [World.shape?, h1]) (by omega) (blk_frozen hv 0) (blk_frozen hv 2)]
  rfl
 have hd := h.below (below_drew (Below.refl _ w))
 have hdl : (Z.drop i).length = Z.length - i := List.length_drop
 have HO1 := Aside0.mk (hd.over (i := i + 1) (Y := Z.drop i) h1 (by omega) (by omega) (fun y hy => hd.el y (List.mem_of_mem_drop hy)))
 have hcp1 : ∀ ty dc sc, _ := fun ty dc sc => copy2 (w := w.drew) (G := G) (i := i + 1) (dl := Z.length + 1 - (i + 1)) (dc := dc) (sl := Z.length + 1 - i) (sc := sc) (ad := ⟨G, i * 2, none⟩) (Y := Z.drop i) h1 (by rw [hdl]; simp only [Nat.min_def]; split <;> omega) (hd.cells i) (by rw [hdl, hc2]; omega) (fun y hy => h.one y (List.mem_of_mem_drop hy)) ty
 obtain ⟨W1, hW1⟩ : ∃ W1, W1 = w.drew.setRow G (cur.toList.take ((i + 1) * 2) ++ fl (Z.drop i) ++ cur.toList.drop ((i + 1) * 2 + (fl (Z.drop i)).length)).toArray := ⟨_, rfl⟩
 rw [← hW1] at HO1 hcp1
 obtain ⟨Z1, hZ1⟩ : ∃ Z1, Z1 = Z.take (i + 1) ++ Z.drop i ++ Z.drop (i + 1 + (Z.drop i).length) := ⟨_, rfl⟩
 rw [← hZ1] at HO1
 have hZl : Z1.length = Z.length + 1 := by
  rw [hZ1]
  simp only [List.length_append, List.length_take, List.length_drop]
  omega
 have hZe : Z1.take i ++ [z] ++ Z1.drop (i + 1) = Z.take i ++ z :: Z.drop i := by
  rw [hZ1, hdl, List.drop_eq_nil_of_le (by omega : Z.length ≤ i + 1 + (Z.length - i)), List.append_nil, List.take_append_of_le_length (by rw [List.length_take]; omega), List.take_take, Nat.min_eq_left (by omega), List.drop_left' (by rw [List.length_take]; omega), List.append_assoc]
  rfl
 have hv1 : W1.heap[vb]? = some (.cells #[.int .i64 z.1.f0, z.2] 59 (0, 0)) := (HO1.out.2.block vb (blk_lt hv) (fun e => hvb (by injection e))).trans hv
 obtain ⟨cur1, sp1, k1, k2, k3⟩ := HO1.out.1.is
 have hz1 : k59.M W1 base (fun k => ok k ∧ k ≠ G) z.1 [.int .i64 z.1.f0, z.2] := Kd.M_grown (Kd.M_below hz (below_drew (Below.refl _ w))) HO1.out.2 (fun k hk e => hk.2 (by injection e))
 have HO2 := Aside0.mk (HO1.out.1.over (i := i) (Y := [z]) k1 (by omega) (by simp only [List.length_singleton]; omega) (fun y hy => by rw [List.mem_singleton.1 hy]; exact hz1))
 have hcp2 : ∀ ty dc, _ := fun ty dc => copy2 (w := W1) (G := G) (i := i) (dl := Z.length + 1 - i) (dc := dc) (sl := 1) (sc := vc) (ad := ⟨vb, 0, none⟩) (Y := [z]) k1 (by simp only [List.length_singleton, Nat.min_def]; split <;> omega) (fun j v hj => by
  have e : (⟨vb, 0, none⟩ : Addr).add j = ⟨vb, j, none⟩ := by unfold Addr.add; split <;> simp_all
  rw [e, blk_cell hv1, ← Array.getElem?_toList]
  exact hj) (by simp only [List.length_singleton]; omega) (fun y hy => by rw [List.mem_singleton.1 hy]; exact h2) ty
 obtain ⟨W2, hW2⟩ : ∃ W2, W2 = W1.setRow G (cur1.toList.take (i * 2) ++ fl [z] ++ cur1.toList.drop (i * 2 + (fl [z]).length)).toArray := ⟨_, rfl⟩
 rw [← hW2] at HO2 hcp2
 have HG := Aside0.mk (World.grownBy.trans (grown_of_below (below_drew (Below.refl _ w)) (some G)) (HO1.out.2.trans HO2.out.2))
 have HZE := Aside0.mk hZe
 have HD := Aside0.mk hd
 have hcm := h.hm
 have hw1 := wrap3 (Z.length + 1) (by omega)
 have hw2 := wrap3 (i + 1) (by omega)
 push_cast at hw1 hw2
 have b1 : ¬ ((i : Int) = (Z.length : Int)) := by omega
 have b2 : ¬ ((cap : Int) < (Z.length : Int) + 1) := by omega
 have b3 : (0 : Int) ≤ (i : Int) + 1 := by omega
 have b4 : (i : Int) + 1 ≤ (Z.length : Int) + 1 := by omega
 have b5 : (i : Int) ≤ (Z.length : Int) + 1 := by omega
 have b6 : (i : Int) ≤ (Z.length : Int) := by omega
 have b7 : ¬ (cap = i + 1) := by omega
 have b8 : ¬ (cap = i) := by omega
 have b9 : ((i : Int) + 1).toNat = i + 1 := by omega
 have b10 : ((Z.length : Int) + 1).toNat = Z.length + 1 := by omega
 have b11 : (Z.length : Int) + 1 ≤ (cap : Int) := by omega
 have mixed : Try.prog.follows Departure.mixedOrders = true := by kernel_rfl
 clear h1 hc1 hc2 hl1 hd HO1 hW1 hW2 hZ1 hZl hZe hv1 k1 k2 k3 hz1 h hz hi hroom hcm
 go_enter Try.func87, Try.ntmps87
 go_wp2_with (simp only [hov])
 go_region_law_o (refine step_copy rfl rfl (v := .slice (some ⟨G, (i + 1) * 2, none⟩) (Z.length + 1 - (i + 1)) (cap - (i + 1))) (u := .slice (some ⟨G, i * 2, none⟩) (Z.length + 1 - i) (cap - i)) (by simp [Act.eval, Act.put]) (by simp [Act.eval, Act.put]) (hcp1 _ _ _) ?_)
 go_wp2_with (at_builtin; refine list_copy rfl rfl rfl rfl (hcp2 _ _) ?_)
 go_ret
 have hR := HO2.out.1
 rw [List.length_singleton, HZE.out] at hR
 have hR := hR.to_R
 refine ⟨_, rfl, ?_, HG.out, .inl rfl⟩
 rw [List.map_append, List.map_cons, List.map_take, List.map_drop] at hR
 rw [show (Z.take i ++ z :: Z.drop i).length = Z.length + 1 by simp only [List.length_append, List.length_cons, List.length_take, List.length_drop]; omega] at hR
 exact hR
set_option maxHeartbeats 8000000 in
theorem Insert_grow {w : World} {base G cap i vb vc : Nat} {ok : Nat → Prop} {Z : List TZ} {z : TZ} (hfr : ∀ k, w.heap.size ≤ k → ok k) (h : ZR w base G cap ok Z) (hi : i < Z.length) (hroom : cap < Z.length + 1) (hbig : (Z.length + 1) * 32 ≤ 140737488355328) (hv : w.heap[vb]? = some (.cells #[.int .i64 z.1.f0, z.2] 59 (0, 0))) (h2 : z.2.oneCell' = true) (hz : k59.M w base (fun k => ok k ∧ k ≠ G) z.1 [.int .i64 z.1.f0, z.2]) :
  Calls Try.prog 87 #[.slice (some ⟨G, 0, none⟩) Z.length cap, .int .i64 i, .slice (some ⟨vb, 0, none⟩) 1 vc] w (Put w base ok (.slice (some ⟨G, 0, none⟩) Z.length cap) (Z.map Prod.fst |>.take i |>.append (z.1 :: (Z.map Prod.fst).drop i))) := by
 obtain ⟨cur, sp, h1, hc1, hc2⟩ := h.is
 have hbase : base ≤ w.heap.size := Nat.le_trans h.hb (Nat.le_of_lt h.lt)
 obtain ⟨inf, hinf, hzero, hsize, hbytes⟩ : ∃ inf, Try.prog.info? 59 = some inf ∧ inf.zero = some (.agg #[.int .i64 0, .slice none 0 0]) ∧ inf.size = 2 ∧ inf.bytes = 32 := by
  have hi := infoCloneS
  cases hq : Try.prog.info? 59 with
  | none => rw [hq] at hi; cases hi
  | some j =>
    rw [hq] at hi
    simp only [Option.map_some, Option.some.injEq, Prod.mk.injEq] at hi
    exact ⟨j, rfl, hi.1, hi.2.1, hi.2.2⟩
 have hold : (Builtin.firstCells inf.size i (.slice (some ⟨G, 0, none⟩) i cap)).run Try.prog w.drew = .ok (fl (Z.take i)).toArray w.drew := by
  rw [hsize]
  refine run_firstCells_some w.drew 2 i ⟨G, 0, none⟩ i cap (fl (Z.take i)) (by rw [fl_len, List.length_take]; omega) (fun j v hj => ?_)
  rw [← fl_take, List.getElem?_take] at hj
  split at hj
  · have := h.cells 0 j v (by rw [List.drop_zero]; exact hj)
    rw [Nat.zero_mul] at this
    exact this
  · cases hj
 have hzc : (Value.agg #[.int .i64 0, .slice none 0 0]).cells = #[.int .i64 0, .slice none 0 0] := by simp [Value.cells]
 have hkk : (Z.length : Int) + 1 - (i : Int) = ((Z.length + 1 - i : Nat) : Int) := by omega
 have hik : i + (Z.length + 1 - i) = Z.length + 1 := by omega
 obtain ⟨C, hC⟩ : ∃ C, C = grownCap w (Z.length + 1) cap 59 := ⟨_, rfl⟩
 have hC1 : Z.length + 1 ≤ C := by rw [hC]; exact grownCap_ge w _ _ _
 have hC2 : C ≤ maxLen := by rw [hC]; exact grownCap_le_maxLen w _ _ _ (by unfold maxLen; omega)
 obtain ⟨ROW, hROW⟩ : ∃ ROW : Array Value, ROW = (fl (Z.take i)).toArray ++ Builtin.zeroCells (Value.agg #[.int .i64 0, .slice none 0 0]).cells (Z.length + 1 - i) ++ Builtin.zeroCells (Value.agg #[.int .i64 0, .slice none 0 0]).cells (C - (Z.length + 1)) := ⟨_, rfl⟩
 have hap : ∀ ty, (Builtin.append_ #[22, 3] ty #[.slice (some ⟨G, 0, none⟩) i cap, .int .i64 ((Z.length : Int) + 1 - (i : Int))]).run Try.prog w = .ok (.slice (some ⟨w.heap.size, 0, none⟩) (Z.length + 1) C) (w.drew.alloc (.cells ROW 59)) := fun ty => by
  have q := Lib.run_append_grow_zeros w 22 3 ty 59 inf _ .i64 .i64 Try.underlying22 Try.underlying3 hinf hzero (some ⟨G, 0, none⟩) i cap (fl (Z.take i)) hold (Z.length + 1 - i) (by omega) (by omega) (by omega) (by omega) (by rw [hbytes]; omega) (by rw [hbytes, hik]; exact growslice_fits hroom hbig)
  rw [hik, ← hC, ← hROW] at q
  rw [hkk]
  exact q
 obtain ⟨W0, hW0⟩ : ∃ W0, W0 = w.drew.alloc (.cells ROW 59) := ⟨_, rfl⟩
 rw [← hW0] at hap
 have b0 : Below w.heap.size w W0 := by rw [hW0]; exact below_alloc (below_drew (Below.refl _ _)) _
 have hROWl : ROW.toList = fl (Z.take i ++ List.replicate (Z.length + 1 - i) zz) ++ fl (List.replicate (C - (Z.length + 1)) zz) := by
  rw [hROW, hzc, Array.toList_append, Array.toList_append, zeros2, zeros2, fl_append]
 have hZ0 : ZR W0 base w.heap.size C ok (Z.take i ++ List.replicate (Z.length + 1 - i) zz) := by
  refine ⟨⟨ROW, fl (List.replicate (C - (Z.length + 1)) zz), by rw [hW0]; exact blk_new w.drew _, hROWl, ?_⟩, by simp only [List.length_append, List.length_take, List.length_replicate]; omega, hC2, hbase, hfr _ (Nat.le_refl _), fun y hy => ?_⟩
  · rw [← Array.length_toList, hROWl]
    simp only [List.length_append, fl_len, List.length_take, List.length_replicate]
    omega
  · rcases List.mem_append.1 hy with hy | hy
    · exact k59.M_mono (fun k hk => ⟨hk.1.1, by have := hk.2.2.1; omega⟩) (Kd.M_below (k59.M_bound (h.el y (List.mem_of_mem_take hy))) b0)
    · rw [List.eq_of_mem_replicate hy]; exact zz_M _ _ _
 have hzl : (Z.take i ++ List.replicate (Z.length + 1 - i) zz).length = Z.length + 1 := by
  simp only [List.length_append, List.length_take, List.length_replicate]; omega
 have hdl : (Z.drop i).length = Z.length - i := List.length_drop
 obtain ⟨Z0, hZZ⟩ : ∃ Z0, Z0 = Z.take i ++ List.replicate (Z.length + 1 - i) zz := ⟨_, rfl⟩
 rw [← hZZ] at hZ0 hzl
 have hnew : k59.M W0 base (fun k => ok k ∧ k ≠ w.heap.size) z.1 [.int .i64 z.1.f0, z.2] := k59.M_mono (fun k hk => ⟨hk.1.1, by have := hk.2.2.1; omega⟩) (Kd.M_below (k59.M_bound hz) b0)
 have hgw : G < w.heap.size := h.lt
 have hv0 := blk_below hv b0
 obtain ⟨cur0, sp0, k1, k2, k3⟩ := hZ0.is
 have HO1 := Aside0.mk (hZ0.over (i := i) (Y := [z]) k1 (by omega) (by simp only [List.length_singleton]; omega) (fun y hy => by rw [List.mem_singleton.1 hy]; exact hnew))
 have hcp1 : ∀ ty dc, _ := fun ty dc => copy2 (w := W0) (G := w.heap.size) (i := i) (dl := Z.length + 1 - i) (dc := dc) (sl := 1) (sc := vc) (ad := ⟨vb, 0, none⟩) (Y := [z]) k1 (by simp only [List.length_singleton, Nat.min_def]; split <;> omega) (fun j v hj => by
  have e : (⟨vb, 0, none⟩ : Addr).add j = ⟨vb, j, none⟩ := by unfold Addr.add; split <;> simp_all
  rw [e, blk_cell hv0, ← Array.getElem?_toList]
  exact hj) (by simp only [List.length_singleton]; omega) (fun y hy => by rw [List.mem_singleton.1 hy]; exact h2) ty
 obtain ⟨W1, hW1⟩ : ∃ W1, W1 = W0.setRow w.heap.size (cur0.toList.take (i * 2) ++ fl [z] ++ cur0.toList.drop (i * 2 + (fl [z]).length)).toArray := ⟨_, rfl⟩
 rw [← hW1] at HO1 hcp1
 rw [List.length_singleton] at HO1
 obtain ⟨Z1, hZ1⟩ : ∃ Z1, Z1 = Z0.take i ++ [z] ++ Z0.drop (i + 1) := ⟨_, rfl⟩
 rw [← hZ1] at HO1
 have hZl : Z1.length = Z.length + 1 := by
  rw [hZ1]
  simp only [List.length_append, List.length_take, List.length_drop, List.length_singleton]
  omega
 have b1 : Below w.heap.size w W1 := by rw [hW1]; exact below_setRow b0 (Nat.le_refl _) _
 have b1d : Below w.heap.size w W1.drew := below_drew b1
 have hO1 := HO1.out.1.below (below_drew (Below.refl _ W1))
 obtain ⟨cur1, sp1, m1, m2, m3⟩ := hO1.is
 have hel : ∀ y ∈ Z.drop i, k59.M W1.drew base (fun k => ok k ∧ k ≠ w.heap.size) y.1 [.int .i64 y.1.f0, y.2] := fun y hy => k59.M_mono (fun k hk => ⟨hk.1.1, by have := hk.2.2.1; omega⟩) (Kd.M_below (k59.M_bound (h.el y (List.mem_of_mem_drop hy))) b1d)
 have HO2 := Aside0.mk (hO1.over (i := i + 1) (Y := Z.drop i) m1 (by omega) (by omega) hel)
 have hcp2 : ∀ ty dc sc, _ := fun ty dc sc => copy2 (w := W1.drew) (G := w.heap.size) (i := i + 1) (dl := Z.length + 1 - (i + 1)) (dc := dc) (sl := Z.length - i) (sc := sc) (ad := ⟨G, i * 2, none⟩) (Y := Z.drop i) m1 (by rw [hdl]; simp only [Nat.min_def]; split <;> omega) (fun j v hj => by
  have q := h.cells i j v hj
  have e : (⟨G, i * 2, none⟩ : Addr).add j = ⟨G, i * 2 + j, none⟩ := by unfold Addr.add; split <;> simp_all
  rw [e] at q ⊢
  rw [← q]
  exact b1d.cell (p := ⟨G, i * 2 + j, none⟩) hgw) (by rw [hdl]; omega) (fun y hy => h.one y (List.mem_of_mem_drop hy)) ty
 obtain ⟨W2, hW2⟩ : ∃ W2, W2 = W1.drew.setRow w.heap.size (cur1.toList.take ((i + 1) * 2) ++ fl (Z.drop i) ++ cur1.toList.drop ((i + 1) * 2 + (fl (Z.drop i)).length)).toArray := ⟨_, rfl⟩
 rw [← hW2] at HO2 hcp2
 have HG := Aside0.mk (show Below w.heap.size w W2 by rw [hW2]; exact below_setRow b1d (Nat.le_refl _) _)
 have hZe : Z1.take (i + 1) ++ Z.drop i ++ Z1.drop (i + 1 + (Z.drop i).length) = Z.take i ++ z :: Z.drop i := by
  have q1 : Z0.take i = Z.take i := by rw [hZZ, List.take_append_of_le_length (by rw [List.length_take]; omega), List.take_take, Nat.min_self]
  rw [List.drop_eq_nil_of_le (by rw [hdl]; omega : Z1.length ≤ _), List.append_nil, hZ1, q1, List.take_left' (by simp only [List.length_append, List.length_take, List.length_singleton]; omega), List.append_assoc]
  rfl
 have HZE := Aside0.mk hZe
 have hcm : cap ≤ maxLen := h.hm
 have hw1 := wrap3 (Z.length + 1) (by omega)
 have hw2 := wrap3 (i + 1) (by omega)
 have hw3 := wrap3 (Z.length + 1 - i) (by omega)
 rw [← hkk] at hw3
 push_cast at hw1 hw2
 have c1 : ¬ ((i : Int) = (Z.length : Int)) := by omega
 have c2 : (cap : Int) < (Z.length : Int) + 1 := by omega
 have c3 : (0 : Int) ≤ (i : Int) + 1 := by omega
 have c4 : (i : Int) + 1 ≤ (Z.length : Int) + 1 := by omega
 have c5 : (i : Int) ≤ (Z.length : Int) + 1 := by omega
 have c6 : (i : Int) ≤ (Z.length : Int) := by omega
 have c7 : ¬ (C = i + 1) := by omega
 have c8 : ¬ (C = i) := by omega
 have c9 : ((i : Int) + 1).toNat = i + 1 := by omega
 have c10 : ¬ (cap = i) := by have := h.hc; omega
 have c11 : (Z.length : Int) + 1 ≤ (C : Int) := by omega
 have c12 : (i : Int) ≤ (cap : Int) := by have := h.hc; omega
 have HIZ := Aside0.mk hi
 have mixed : Try.prog.follows Departure.mixedOrders = true := by kernel_rfl
 clear h1 hc1 hc2 hO1 HO1 hW0 hW1 hW2 hZ1 hZl hZe hv0 k1 k2 k3 m1 m2 m3 h hz hi hroom hcm hel b0 b1 b1d hgw hnew hzl hdl hZZ hROWl hZ0 hROW hC hC1 hC2 hkk hik hzc hold hinf hzero hsize hbytes hbase
 go_enter Try.func87, Try.ntmps87
 go_wp2_with (first
  | (at_builtin; refine Lib.wpList_append_run _ rfl _ _ _ _ rfl _ _ rfl rfl _ _ (hap _) ?_)
  | (at_builtin; refine list_copy rfl rfl rfl rfl (hcp1 _ _) ?_))
 go_region_law_o (refine step_copy rfl rfl (v := .slice (some ⟨w.heap.size, (i + 1) * 2, none⟩) (Z.length + 1 - (i + 1)) (C - (i + 1))) (u := .slice (some ⟨G, i * 2, none⟩) (Z.length - i) (cap - i)) (by simp [Act.eval, Act.put]) (by simp [Act.eval, Act.put]) (hcp2 _ _ _) ?_)
 go_wp2_with fail
 go_ret
 have hR := HO2.out.1
 rw [HZE.out] at hR
 have hR := hR.to_R
 refine ⟨_, rfl, ?_, grown_of_below HG.out _, .inr ⟨_, rfl, Nat.le_refl _⟩⟩
 rw [List.map_append, List.map_cons, List.map_take, List.map_drop] at hR
 rw [show (Z.take i ++ z :: Z.drop i).length = Z.length + 1 by have := HIZ.out; simp only [List.length_append, List.length_cons, List.length_take, List.length_drop]; omega] at hR
 exact hR
set_option maxHeartbeats 4000000 in
theorem Insert_end {w : World} {base c vb vc : Nat} {ok : Nat → Prop} {A : Option Addr} {xs : List TS} {x : TS} {u : Value} (hfr : ∀ k, w.heap.size ≤ k → ok k) (h : k59.R 59 w base ok (.slice A xs.length c) xs) (hbase : base ≤ w.heap.size) (hbig : (xs.length + 1) * 32 ≤ 140737488355328) (hv : w.heap[vb]? = some (.cells #[.int .i64 x.f0, u] 59 (0, 0))) (hz : k59.M w base (fun k => ok k ∧ some k ≠ (Value.slice A xs.length c).ownBlock) x [.int .i64 x.f0, u]) :
   Calls Try.prog 87 #[.slice A xs.length c, .int .i64 xs.length, .slice (some ⟨vb, 0, none⟩) 1 vc] w (Put w base ok (.slice A xs.length c) (xs ++ [x])) := by
 have hRr : ReadsRow (fun (y : TS) (cs : List Value) => y = x ∧ cs = [.int .i64 x.f0, u]) 2 w (some ⟨vb, 0, none⟩) 1 [x] := by
   refine ⟨rfl, by omega, fun _ => ⟨_, rfl, fun j p hj => ?_⟩⟩
   have h1 := (List.getElem?_eq_some_iff.1 hj).1
   obtain rfl : j = 0 := by simp only [List.length_singleton] at h1; omega
   obtain rfl : x = p := by simpa using hj
   refine ⟨[.int .i64 x.f0, u], rfl, ⟨rfl, rfl⟩, fun t v ht => ?_⟩
   have e : (⟨vb, 0, none⟩ : Addr).add (0 * 2 + t) = ⟨vb, t, none⟩ := by unfold Addr.add; split <;> simp_all
   rw [e, blk_cell hv, ← Array.getElem?_toList]
   exact ht
 have HO := Aside0.mk h
 have HFR := Aside0.mk hfr
 have HR := Aside0.mk hRr
 have HZ := Aside0.mk hz
 have HB := Aside0.mk hbig
 have HBS := Aside0.mk hbase
 have hc : xs.length ≤ c := (Kd.R_reads' h).2.1
 have q1 : (xs.length : Int) ≤ (c : Int) := by omega
 have HA : Aside0 (A = none → xs.length = 0) := ⟨fun e => by
   subst e
   rcases Nat.eq_zero_or_pos xs.length with h0 | h0
   · exact h0
   · obtain ⟨g, cap, he, _⟩ := Kd.R_form h h0
     injection he with he
     cases he⟩
 have HC0 : Aside0 (A = none → c = 0) := ⟨fun e => by
   subst e
   obtain ⟨_, inner, ⟨_, h1 | ⟨g, cap, cur, he, _⟩⟩, _⟩ := h
   · injection h1.1
   · injection he with he; cases he⟩
 clear h hRr hz hbig hbase hc hfr
 rcases A with _ | ⟨G, o, sp⟩
 · have e1 := HA.out rfl
   have e2 := HC0.out rfl
   have e3 : (xs.length : Int) = 0 := by omega
   go_enter Try.func87, Try.ntmps87
   go_wp2_with (first
     | ((with_reducible refine gate_builtin (b := .append) rfl ?_); refine Kd.R_append_rows k59 (w0 := w) base rfl (.tmp 23) (.tmp 24) 22 59 _ 32 rfl Try.underlying22 infoCloneS rfl (by decide) (by decide) (.slice none xs.length c) xs [x] (some ⟨vb, 0, none⟩) 1 vc ok (fun k => ok k ∧ some k ≠ (Value.slice none xs.length c).ownBlock) rfl rfl HO.out HR.out (fun y cs hy => by obtain ⟨rfl, rfl⟩ := hy; exact HZ.out) (fun k hk => hk) HFR.out (Below.refl _ _) HBS.out HB.out ?_; intro v1 w1 h1 b1 g1 a1; have H1 := Aside0.mk h1; have G1 := Aside0.mk g1; have A1 := Aside0.mk a1; clear h1 b1 g1 a1))
   go_ret
   exact ⟨_, rfl, H1.out, G1.out, A1.out⟩
 · have q2 : (c = xs.length) ∨ ¬ (c = xs.length) := Classical.em _
   rcases q2 with q2 | q2
   · go_enter Try.func87, Try.ntmps87
     go_wp2_with (first
      | ((with_reducible refine gate_builtin (b := .append) rfl ?_); refine Kd.R_append_rows k59 (w0 := w) base rfl (.tmp 23) (.tmp 24) 22 59 _ 32 rfl Try.underlying22 infoCloneS rfl (by decide) (by decide) (.slice (some ⟨G, o, sp⟩) xs.length c) xs [x] (some ⟨vb, 0, none⟩) 1 vc ok (fun k => ok k ∧ some k ≠ (Value.slice (some ⟨G, o, sp⟩) xs.length c).ownBlock) rfl rfl HO.out HR.out (fun y cs hy => by obtain ⟨rfl, rfl⟩ := hy; exact HZ.out) (fun k hk => hk) HFR.out (Below.refl _ _) HBS.out HB.out ?_; intro v1 w1 h1 b1 g1 a1; have H1 := Aside0.mk h1; have G1 := Aside0.mk g1; have A1 := Aside0.mk a1; clear h1 b1 g1 a1))
     go_ret
     exact ⟨_, rfl, H1.out, G1.out, A1.out⟩
   · go_enter Try.func87, Try.ntmps87
     go_wp2_with (first
      | ((with_reducible refine gate_builtin (b := .append) rfl ?_); refine Kd.R_append_rows k59 (w0 := w) base rfl (.tmp 23) (.tmp 24) 22 59 _ 32 rfl Try.underlying22 infoCloneS rfl (by decide) (by decide) (.slice (some ⟨G, o, sp⟩) xs.length c) xs [x] (some ⟨vb, 0, none⟩) 1 vc ok (fun k => ok k ∧ some k ≠ (Value.slice (some ⟨G, o, sp⟩) xs.length c).ownBlock) rfl rfl HO.out HR.out (fun y cs hy => by obtain ⟨rfl, rfl⟩ := hy; exact HZ.out) (fun k hk => hk) HFR.out (Below.refl _ _) HBS.out HB.out ?_; intro v1 w1 h1 b1 g1 a1; have H1 := Aside0.mk h1; have G1 := Aside0.mk g1; have A1 := Aside0.mk a1; clear h1 b1 g1 a1))
     go_ret
     exact ⟨_, rfl, H1.out, G1.out, A1.out⟩
theorem Insert_c {w : World} {base c vb vc i : Nat} {ok : Nat → Prop} {A : Option Addr} {xs : List TS} {x : TS} {A2 : Option Addr} {n2 c2 : Nat} (hfr : ∀ k, w.heap.size ≤ k → ok k) (h : k59.R 59 w base ok (.slice A xs.length c) xs) (hi : i ≤ xs.length) (hbase : base ≤ w.heap.size) (hbig : (xs.length + 1) * 32 ≤ 140737488355328) (hv : w.heap[vb]? = some (.cells #[.int .i64 x.f0, .slice A2 n2 c2] 59 (0, 0))) (hvb : some vb ≠ (Value.slice A xs.length c).ownBlock) (hz : k59.M w base (fun k => ok k ∧ some k ≠ (Value.slice A xs.length c).ownBlock) x [.int .i64 x.f0, .slice A2 n2 c2]) :
   Calls Try.prog 87 #[.slice A xs.length c, .int .i64 i, .slice (some ⟨vb, 0, none⟩) 1 vc] w (Put w base ok (.slice A xs.length c) (xs.take i ++ x :: xs.drop i)) := by
 rcases Nat.eq_or_lt_of_le hi with rfl | hi
 · rw [List.take_length, List.drop_length]
   exact Insert_end hfr h hbase hbig hv hz
 · obtain ⟨G, cap, he, _, _, _⟩ := Kd.R_form h (by omega)
   injection he with e1 _ e3
   subst e1
   subst e3
   obtain ⟨_, Z, hZ, rfl⟩ := ZR.of_R h
   rw [List.length_map] at *
   have hvb' : vb ≠ G := fun e => hvb (by rw [e]; rfl)
   have hz' := k59.M_mono (ok' := fun k => ok k ∧ k ≠ G) (fun k hk => ⟨hk.1, fun e => hk.2 (by rw [e]; rfl)⟩) hz
   by_cases hroom : Z.length + 1 ≤ c
   · exact Insert_shift (z := (x, .slice A2 n2 c2)) hZ hi hroom hv hvb' rfl hz'
   · exact Insert_grow (z := (x, .slice A2 n2 c2)) hfr hZ hi (by omega) hbig hv rfl hz'
theorem DeleteNil {w : World} {num : Int} {qa : Addr} (hq : w.cell? qa = some (.int .i64 num)) :
  Calls Try.prog 83 #[.slice none 0 0, .func (.func 102) #[] #[.pointer (some qa)]] w fun r w' => r = .returned (.slice none 0 0) ∧ Below w.heap.size w w' := by
 have HX := Aside0.mk (Idx_tree_of1 (A := none) (c := 0) (xs := []) (tree_of1_c hq) ⟨rfl, by decide, fun h => absurd h (Nat.lt_irrefl 0)⟩)
 clear hq
 go_enter Try.func83, Try.ntmps83
 go_wp2_with (first
  | (go_at_call 85; refine HX.out.mono ?_; rintro r w2 ⟨rfl, b2⟩; have B2 := Aside0.mk b2; clear b2))
 go_ret
 exact ⟨rfl, B2.out⟩
theorem Delete_c {w : World} {base c : Nat} {ok : Nat → Prop} {A : Option Addr} {xs : List TS} {num : Int} {qa : Addr} (h : k59.R 59 w base ok (.slice A xs.length c) xs) (hq : w.cell? qa = some (.int .i64 num)) (hqb : some qa.block ≠ (Value.slice A xs.length c).ownBlock) :
   Calls Try.prog 83 #[.slice A xs.length c, .func (.func 102) #[] #[.pointer (some qa)]] w fun r w' => ∃ ys, r = .returned (.slice A ys.length c) ∧ k59.R 59 w' base ok (.slice A ys.length c) ys ∧ w.grownBy w' (Value.slice A ys.length c).ownBlock ∧ ys = xs.filter (fun x => !(x.f0 == num)) := by
 rcases A with _ | ad
 · obtain ⟨_, inner, ⟨hl, h1 | ⟨g, cap, cur, he, _⟩⟩, _⟩ := h
   · have h2 := h1.2
     obtain rfl := List.length_eq_zero_iff.1 h2
     injection h1.1 with _ _ h3
     subst h3
     refine (DeleteNil hq).mono ?_
     rintro r w' ⟨rfl, hb⟩
     exact ⟨[], rfl, Kd.R_nil _ _ _ _ _, grown_of_below hb _, rfl⟩
   · injection he with he; cases he
 · have he : ∃ G, ad = ⟨G, 0, none⟩ := by
     obtain ⟨_, inner, ⟨hl, h1 | ⟨g, cap, cur, he, _⟩⟩, _⟩ := h
     · injection h1.1 with h1; cases h1
     · injection he with he; injection he with he; exact ⟨g, he⟩
   obtain ⟨G, rfl⟩ := he
   obtain ⟨_, Z, hZ, rfl⟩ := ZR.of_R h
   rw [List.length_map] at *
   refine (DeleteFunc_c hZ hq (fun e => hqb (by rw [e]; rfl))).mono ?_
   rintro r w' ⟨Y, rfl, hY, hg, rfl⟩
   refine ⟨(Z.filter (fun z => !(z.1.f0 == num))).map Prod.fst, by rw [List.length_map], by rw [List.length_map]; exact hY.to_R, hg, ?_⟩
   rw [List.filter_map]
   rfl
theorem of_c {w : World} {num : Int} : Calls Try.prog 84 #[.int .i64 num] w fun r w' => ∃ b, r = .returned (.func (.func 102) #[] #[.pointer (some ⟨b, 0, none⟩)]) ∧ w.heap.size ≤ b ∧ w'.cell? ⟨b, 0, none⟩ = some (.int .i64 num) ∧ Below w.heap.size w w' := by
 go_enter Try.func84, Try.ntmps84
 go_wp2
 go_ret
 exact ⟨w.heap.size, rfl, Nat.le_refl _, (blk_cell (blk_new w _) 0).trans rfl, below_alloc (Below.refl _ _) _⟩
end Go.Proofs.Ytbpnfpckoapdbaa.TK
end
section
namespace Go.Proofs.Ytbpnfpckoapdbaa.TK
open Go.RowKit Go.Proofs.Ytbpnfpckoapdbaa.Ops Go.Proofs.Ytbpnfpckoapdbaa.KD Go.Proofs.Ytbpnfpckoapdbaa.M Go.Proofs.YtbpnfpckoapdbaaW.PrintWords Go.Proofs.YtbpnfpckoapdbaaW.PrintLast Go.Proofs.YtbpnfpckoapdbaaW.PrintMore Go.Proofs.Ytbpnfpckoapdbaa.Open
set_option linter.unusedVariables false
set_option linter.unusedSimpArgs false
set_option maxHeartbeats 1000000
set_option maxRecDepth 100000
/-- Where a number's slot comes to lie. -/
def atT (xs : List TS) (num : Int) : Nat := if ixF (fun x : TS => decide (num < x.f0)) xs 0 < 0 then xs.length else (ixF (fun x : TS => decide (num < x.f0)) xs 0).toNat
def putT (xs : List TS) (num : Int) (vals : List TV) : List TS := xs.take (atT xs num) ++ ⟨num, vals⟩ :: xs.drop (atT xs num)
def outT (xs : List TS) (num : Int) : List TS := xs.filter (fun x => !(x.f0 == num))
/-- A tree with a number's values. -/
def withT (t : TT) (num : Int) (vals : List TV) : TT := ⟨if vals = [] then outT t.f0 num else putT (outT t.f0 num) num vals, t.f1⟩
theorem atT_le (xs : List TS) (num : Int) : atT xs num ≤ xs.length := by
 unfold atT
 rcases ixF_two (p := fun x : TS => decide (num < x.f0)) xs 0 with ⟨h, _⟩ | ⟨k, x, h, hk, _⟩
 · rw [h]; exact Nat.le_refl _
 · rw [h]
   have := (List.getElem?_eq_some_iff.1 hk).1
   split <;> omega
theorem tree_reads {w : World} {x : TT} {A0 A1 : Option Addr} {c0 c1 : Nat} (h : k25.K w x [.slice A0 x.f0.length c0, .slice A1 x.f1.length c1]) : x.f0.length ≤ c0 ∧ k59.C w A0 x.f0.length x.f0 ∧ x.f1.length ≤ c1 ∧ k73.C w A1 x.f1.length x.f1 := by
 obtain ⟨B0, d0, B1, d1, he, h1, h2, h3, h4⟩ := k25_open h
 injection he with e1 e2
 injection e2 with e2 _
 injection e1 with e1 _ e3
 injection e2 with e2 _ e4
 subst e1
 subst e2
 subst e3
 subst e4
 exact ⟨h1, h2, h3, h4⟩
/-- A tree of one's own. -/
def OwnT (w : World) (base : Nat) (x : TT) (r : Ending) : Prop := ∃ u0 u1, r = .returned (.agg #[u0, u1]) ∧ k59.R 59 w base (fun _ => True) u0 x.f0 ∧ k73.R 73 w base (fun _ => True) u1 x.f1
theorem copy_own {w : World} {x : TT} {A0 A1 : Option Addr} {c0 c1 : Nat} (h : k25.K w x [.slice A0 x.f0.length c0, .slice A1 x.f1.length c1]) (hok : okTr x) : Calls Try.prog 13 #[.agg #[.slice A0 x.f0.length c0, .slice A1 x.f1.length c1]] w fun r w' => OwnT w' w.heap.size x r ∧ Below w.heap.size w w' :=
 (tree_Copy w x _ h hok).mono fun r w' hh => by
  obtain ⟨⟨cs', rfl, hm⟩, hb⟩ := hh
  obtain ⟨u0, u1, rfl, h0, h1⟩ := k25_openM hm
  exact ⟨⟨u0, u1, rfl, h0, h1⟩, hb⟩
theorem tree_mk {w : World} {x : TT} {A0 A1 : Option Addr} {c0 c1 : Nat} (h1 : x.f0.length ≤ c0) (h2 : k59.C w A0 x.f0.length x.f0) (h3 : x.f1.length ≤ c1) (h4 : k73.C w A1 x.f1.length x.f1) : k25.K w x [.slice A0 x.f0.length c0, .slice A1 x.f1.length c1] := k25_mk w x h1 h2 h3 h4
/-- Stores below the base. -/
theorem R_under {α : Type} {d : Kd α} {e base : Nat} {w : World} {ok : Nat → Prop} {v : Value} {xs : List α} (h : d.R e w base ok v xs) {g o o' : Nat} (hg : g < base) (u u' : Value) {b : Nat} (hb : b ≤ base) : d.R e ((w.setCell ⟨g, o, none⟩ u).setCell ⟨g, o', none⟩ u') b (fun _ => True) v xs :=
 Kd.R_lower (Kd.R_mono (Kd.R_far (Kd.R_far (Kd.R_bound h) (p := ⟨g, o, none⟩) (fun k hk => by have := hk.2.1; show k ≠ g; omega) _) (p := ⟨g, o', none⟩) (fun k hk => by have := hk.2.1; show k ≠ g; omega) _) (fun _ _ => trivial)) hb
theorem one_C {w : World} {b : Nat} {z : TS} {u0 u1 : Value} (hb : w.heap[b]? = some (.cells #[u0, u1] 59 (0, 0))) (hK : k59.K w z [u0, u1]) : k59.C w (some ⟨b, 0, none⟩) 1 [z] := by
 refine ⟨rfl, by decide, fun _ => ⟨_, rfl, fun j p hj => ?_⟩⟩
 have h1 := (List.getElem?_eq_some_iff.1 hj).1
 obtain rfl : j = 0 := by simp only [List.length_singleton] at h1; omega
 obtain rfl : z = p := by simpa using hj
 refine ⟨[u0, u1], rfl, hK, fun t v ht => ?_⟩
 have e : (⟨b, 0, none⟩ : Addr).add (0 * k59.sz + t) = ⟨b, t, none⟩ := by rw [Nat.zero_mul, Nat.zero_add]; unfold Addr.add; split <;> simp_all
 rw [e, blk_cell hb, ← Array.getElem?_toList]
 exact ht
theorem none_C (w : World) : k73.C w none 0 [] := ⟨rfl, by decide, fun h => absurd h (Nat.lt_irrefl 0)⟩
theorem copy_one {w : World} {b : Nat} {num : Int} {vals : List TV} {AV : Option Addr} {cv : Nat} (hb : w.heap[b]? = some (.cells #[.int .i64 num, .slice AV vals.length cv] 59 (0, 0))) (hl : vals.length ≤ cv) (hV : k70.C w AV vals.length vals) (hok : okTr ⟨[⟨num, vals⟩], []⟩) :
  Calls Try.prog 13 #[.agg #[.slice (some ⟨b, 0, none⟩) 1 1, .slice none 0 0]] w fun r w' => ∃ (G cap : Nat) (A2 : Option Addr) (d2 : Nat) (D : Option Addr) (dn dc : Nat), r = .returned (.agg #[.slice (some ⟨G, 0, none⟩) 1 cap, .slice D dn dc]) ∧ w.heap.size ≤ G ∧ (w'.cell? ⟨G, 0, none⟩ = some (.int .i64 num) ∧ w'.cell? ⟨G, 1, none⟩ = some (.slice A2 vals.length d2)) ∧ k59.M w' w.heap.size (fun k => k ≠ G) ⟨num, vals⟩ [.int .i64 num, .slice A2 vals.length d2] ∧ Below w.heap.size w w' := by
 refine (copy_own (w := w) (x := ⟨[⟨num, vals⟩], []⟩) (A0 := some ⟨b, 0, none⟩) (A1 := none) (c0 := 1) (c1 := 0) (tree_mk (Nat.le_refl _) (one_C hb (k59_mk w ⟨num, vals⟩ hl hV)) (Nat.le_refl _) (none_C _)) hok).mono ?_
 rintro r w5 ⟨⟨p0, p1, rfl, h0, h1⟩, b5⟩
 obtain ⟨D, dc, rfl⟩ := Kd.R_slice h1
 obtain ⟨G, capG, rfl, hGb, hGl, _⟩ := Kd.R_form h0 (Nat.lt_succ_self _)
 obtain ⟨_, Z, hZ, hZe⟩ := ZR.of_R h0
 obtain ⟨z, rfl⟩ : ∃ z, Z = [z] := by
  have hl1 := congrArg List.length hZe
  rw [List.length_map] at hl1
  exact List.length_eq_one_iff.1 hl1
 have hz1 : z.1 = ⟨num, vals⟩ := by simpa using hZe
 obtain ⟨A2, d2, hz2, _⟩ := hZ.slot (i := 0) (z := z) rfl
 obtain ⟨y0, y1, yf⟩ := hZ.cell (i := 0) (z := z) rfl
 have hzM := hZ.el z (by simp)
 rw [hz1] at hz2 y0 hzM
 rw [hz2] at y1 hzM
 exact ⟨G, capG, A2, d2, D, _, dc, rfl, hGb, ⟨y0, y1⟩, k59.M_mono (fun k hk => hk.2) hzM, b5⟩
theorem own_n (D : Option Addr) (n m c c' : Nat) : (Value.slice D n c).ownBlock = (Value.slice D m c').ownBlock := by cases D <;> rfl
set_option maxHeartbeats 3000000 in
theorem With_c {w : World} {x : TT} {A0 A1 AV : Option Addr} {c0 c1 cv : Nat} {num : Int} {vals : List TV} (h : k25.K w x [.slice A0 x.f0.length c0, .slice A1 x.f1.length c1]) (hl : vals.length ≤ cv) (hV : k70.C w AV vals.length vals) (hok : okTr x) (hov : okTr ⟨[⟨num, vals⟩], []⟩) :
  Calls Try.prog 42 #[.agg #[.slice A0 x.f0.length c0, .slice A1 x.f1.length c1], .int .i64 num, .slice AV vals.length cv] w fun r w' => OwnT w' w.heap.size (withT x num vals) r ∧ Below w.heap.size w w' := by
 obtain ⟨wz, hwz⟩ : ∃ wz, wz = ((w.alloc (.cells #[.slice A0 x.f0.length c0, .slice A1 x.f1.length c1] 25)).alloc (.cells #[.int .i64 num] 3)).alloc (.cells #[.slice none 0 0, .slice none 0 0] 25) := ⟨_, rfl⟩
 have bz : Below w.heap.size w wz := by rw [hwz]; exact below_alloc (below_alloc (below_alloc (Below.refl _ _) _) _) _
 have hb1 : wz.heap[w.heap.size]? = some (.cells #[.slice A0 x.f0.length c0, .slice A1 x.f1.length c1] 25 (0, 0)) := by rw [hwz]; exact blk_alloc (blk_alloc (blk_new _ _) _) _
 have hb2 : wz.heap[w.heap.size + 1]? = some (.cells #[.int .i64 num] 3 (0, 0)) := by
  have q := blk_alloc (blk_new (w.alloc (.cells #[.slice A0 x.f0.length c0, .slice A1 x.f1.length c1] 25)) (.cells #[.int .i64 num] 3)) (.cells #[.slice none 0 0, .slice none 0 0] 25)
  rw [World.size_alloc] at q
  rw [hwz]
  exact q
 have hb3 : wz.heap[w.heap.size + 1 + 1]? = some (.cells #[.slice none 0 0, .slice none 0 0] 25 (0, 0)) := by
  have q := blk_new ((w.alloc (.cells #[.slice A0 x.f0.length c0, .slice A1 x.f1.length c1] 25)).alloc (.cells #[.int .i64 num] 3)) (.cells #[.slice none 0 0, .slice none 0 0] 25)
  rw [World.size_alloc, World.size_alloc] at q
  rw [hwz]
  exact q
 have hsz : wz.heap.size = w.heap.size + 3 := by rw [hwz]; simp only [World.size_alloc]
 have HWZ := Aside0.mk hwz
 have HSZ := Aside0.mk hsz
 have BZ := Aside0.mk bz
 have HB1 := Aside0.mk hb1
 have HB2 := Aside0.mk hb2
 have HB3 := Aside0.mk hb3
 have HC := Aside0.mk (copy_own (k25.K_below bz h) hok)
 have HV := Aside0.mk (Kd.C_below hV bz)
 have HOK := Aside0.mk hok
 have HOV := Aside0.mk hov
 have HL := Aside0.mk hl
 clear hwz bz hb1 hb2 hb3 hsz h hV hok hov hl
 go_enter Try.func42, Try.ntmps42
 go_wp2_with (first
  | (go_at_call 13; rw [← HWZ.out]; refine HC.out.mono ?_; rintro r w1 ⟨⟨u0, u1, rfl, h0, h1⟩, b1⟩
     obtain ⟨D0, e0, rfl⟩ := Kd.R_slice h0
     obtain ⟨D1, e1, rfl⟩ := Kd.R_slice h1
     have R0 := Aside0.mk h0
     have R1 := Aside0.mk h1
     have B1 := Aside0.mk b1
     clear h0 h1 b1))
 obtain ⟨wo, hwo⟩ : ∃ wo, wo = w1.alloc (.cells #[.slice D0 x.f0.length e0, .slice D1 x.f1.length e1] 25) := ⟨_, rfl⟩
 rw [← hwo]
 have bo : Below w1.heap.size w1 wo := by rw [hwo]; exact below_alloc (Below.refl _ _) _
 have ho0 : wo.heap[w1.heap.size]? = some (.cells #[.slice D0 x.f0.length e0, .slice D1 x.f1.length e1] 25 (0, 0)) := by rw [hwo]; exact blk_new _ _
 have hso : wo.heap.size = w1.heap.size + 1 := by rw [hwo, World.size_alloc]
 have hn0 := blk_below (blk_below HB2.out B1.out) bo
 have S1 := Aside0.mk B1.out.size
 have HSO := Aside0.mk hso
 have HO0 := Aside0.mk ho0
 have HN0 := Aside0.mk hn0
 have BO := Aside0.mk bo
 have KO := Aside0.mk (fun w2 (hb : Below wo.heap.size wo w2) => show w2.cell? ⟨w1.heap.size, 0, none⟩ = some (.slice D0 x.f0.length e0) ∧ w2.cell? ⟨w.heap.size + 1, 0, none⟩ = some (.int .i64 num) from ⟨(blk_cell (blk_below ho0 hb) 0).trans rfl, (blk_cell (blk_below hn0 hb) 0).trans rfl⟩)
 have BB := Aside0.mk (Below.refl wo.heap.size wo)
 have hm := KO.out wo BB.out
 obtain ⟨m1, m2⟩ := KO.out wo BB.out
 have RO := Aside0.mk (Kd.R_below R0.out bo)
 have hown : ∀ n c k, (Value.slice D0 n c).ownBlock = some k → wz.heap.size ≤ k ∧ k < w1.heap.size := fun n c k hk => by
  have e : (Value.slice D0 x.f0.length e0).ownBlock = some k := by rw [← hk]; cases D0 <;> rfl
  exact ⟨Kd.R_base R0.out k e, Kd.R_lt R0.out k e⟩
 have HOWN := Aside0.mk hown
 clear hwo bo ho0 hn0 hso hown
 have RO2 : Aside0 (k59.R 59 wo wz.heap.size (fun k => k ≠ w1.heap.size) (.slice D0 x.f0.length e0) x.f0) := ⟨Kd.R_below (Kd.R_mono (Kd.R_bound R0.out) (fun k hk => by have := hk.2.2.1; omega)) BO.out⟩
 have RR2 : Aside0 (k73.R 73 wo wz.heap.size (fun k => k ≠ w1.heap.size) (.slice D1 x.f1.length e1) x.f1) := ⟨Kd.R_below (Kd.R_mono (Kd.R_bound R1.out) (fun k hk => by have := hk.2.2.1; omega)) BO.out⟩
 clear RO
 go_cut [7] (fun s7 wx => s7 = .pointer (some ⟨w1.heap.size, 0, none⟩) ∧ Aside0 (wx.heap[w1.heap.size]? = some (.cells #[.slice D0 (outT x.f0 num).length e0, .slice D1 x.f1.length e1] 25 (0, 0))) ∧ Aside0 (k59.R 59 wx wz.heap.size (fun k => k ≠ w1.heap.size) (.slice D0 (outT x.f0 num).length e0) (outT x.f0 num)) ∧ Aside0 (k73.R 73 wx wz.heap.size (fun k => k ≠ w1.heap.size) (.slice D1 x.f1.length e1) x.f1) ∧ Aside0 (Below wz.heap.size wz wx))
 case first =>
  go_region_with (first
    | (go_at_call 84; refine of_c.mono ?_; rintro r w2 ⟨qb, rfl, hqb, hq, b2⟩
       have BX : Below wo.heap.size wo w2 := below_step (by repeat (first | (with_reducible first | exact BB.out | apply below_alloc | apply pw_below_drewN | apply below_drew))) b2
       have QB : Aside0 (wo.heap.size ≤ qb) := ⟨by have := hqb; simp at this; omega⟩
       have HQ := Aside0.mk hq
       clear b2 hqb hq
       have BB := Aside0.mk BX
       obtain ⟨m3, m4⟩ := KO.out _ BX
       clear BX)
    | (go_at_call 83
       refine (Delete_c (base := wz.heap.size) (ok := fun k => k ≠ w1.heap.size) (A := D0) (c := e0) (xs := x.f0) (num := num) (qa := ⟨qb, 0, none⟩) (Kd.R_below RO2.out (by repeat (first | (with_reducible first | exact BB.out | apply below_alloc | apply pw_below_drewN | apply below_drew)))) HQ.out (fun e => by have := HOWN.out _ _ qb e.symm; have := QB.out; have := HSO.out; omega)).mono ?_
       rintro r w3 ⟨ys, rfl, hR, hg, hys⟩
       have hys : ys = outT x.f0 num := hys
       subst hys
       have BX : Below wo.heap.size wo w2 := BB.out
       have G3 := Aside0.mk (World.grownBy.trans (grown_of_below BX (Value.slice D0 (outT x.f0 num).length e0).ownBlock) hg)
       have R3 := Aside0.mk hR
       have hne : some w1.heap.size ≠ (Value.slice D0 (outT x.f0 num).length e0).ownBlock := fun e => by have := HOWN.out _ _ w1.heap.size e.symm; omega
       have ho3 := blk_grown HO0.out G3.out hne
       have HO3 := Aside0.mk ho3
       have j0 := (blk_cell ho3 0).trans rfl
       have j1 := blk_frozen ho3 0
       clear hR hg BX hne ho3))
  all_goals
    go_wp2_with fail
    go_meet
    case rel =>
      have b3 : Below wz.heap.size wz w3 := pw_below_grown (B1.out.trans (BO.out.mono B1.out.size)) _ (Nat.le_trans B1.out.size BO.out.size) G3.out (fun k hk => (HOWN.out _ _ k hk).1)
      exact ⟨rfl, ⟨blk_put HO3.out 0 _ rfl⟩, ⟨Kd.R_far R3.out (fun k hk => hk) _⟩, ⟨Kd.R_far (Kd.R_over RR2.out RO2.out (by decide) (by rw [own_n D0 _ (outT x.f0 num).length _ e0]; exact G3.out)) (fun k hk => hk) _⟩, ⟨b3.setCell B1.out.size _⟩⟩
 case rest =>
  obtain ⟨rfl, HO, HS, HR, BX⟩ := hcut
  have g0 := (blk_cell HO.out 0).trans rfl
  have g1 := (blk_cell HO.out 1).trans rfl
  have hz3 := blk_below HB3.out BX.out
  have f0 := (blk_cell hz3 0).trans rfl
  have f1 := (blk_cell hz3 1).trans rfl
  have HZ3 := Aside0.mk hz3
  clear m1 m2 hm KO BB RO2 RR2 HO0 HN0 HOWN BO HC R0 R1 hz3
  have fr := blk_frozen HZ3.out
  have fr0 := fr 0
  have fr1 := fr 1
  have HSZ' := HSZ.out
  clear fr
  by_cases hvz : vals.length = 0
  · have ev1 : (vals.length : Int) = 0 := by omega
    have hv0 : vals = [] := List.length_eq_zero_iff.1 hvz
    have HV0 := Aside0.mk hv0
    clear hvz hv0 HSZ'
    go_wp2_with fail
    have hw : withT x num vals = ⟨outT x.f0 num, x.f1⟩ := by unfold withT; rw [if_pos HV0.out]
    rw [hw]
    have := HSZ.out
    refine bodyPost_ret (results_cell_row rfl _ _ (w.heap.size + 1 + 1) 25 _ _ _ rfl (blk_put (blk_put HZ3.out 0 _ rfl) 1 _ rfl) Try.underlying25 rfl (by kernel_rfl)) rfl ?_
    exact ⟨⟨_, _, rfl, R_under HS.out (by omega) _ _ (by omega), R_under HR.out (by omega) _ _ (by omega)⟩, ((BZ.out.trans (BX.out.mono BZ.out.size)).setCell (by show w.heap.size ≤ w.heap.size + 1 + 1; omega) _).setCell (by show w.heap.size ≤ w.heap.size + 1 + 1; omega) _⟩
  · have ev1 : ¬ ((vals.length : Int) = 0) := by omega
    have hn3 := blk_below HB2.out BX.out
    have HN3 := Aside0.mk hn3
    have HVZ := Aside0.mk hvz
    have n0 := (blk_cell hn3 0).trans rfl
    have HIX := Aside0.mk (Idx_tree_With1 (A := D0) (c := e0) (tree_With1_c n0) (Kd.R_reads' HS.out).2.2)
    have hat : atT (outT x.f0 num) num = if ixF (fun x : TS => decide (num < x.f0)) (outT x.f0 num) 0 < 0 then (outT x.f0 num).length else (ixF (fun x : TS => decide (num < x.f0)) (outT x.f0 num) 0).toNat := rfl
    have hle := atT_le (outT x.f0 num) num
    rcases ixF_two (p := fun x : TS => decide (num < x.f0)) (outT x.f0 num) 0 with ⟨hi, _⟩ | ⟨k, y, hi, _, _, _⟩
    · rw [hi] at HIX hat
      have HAT := Aside0.mk (hat.trans (if_pos (by omega)))
      have HLE := Aside0.mk hle
      clear hi hat hle hn3 hvz HSZ'
      go_wp2_with (first
        | (go_at_call 85; refine HIX.out.mono ?_; rintro r w4 ⟨rfl, b4⟩; have B4 := Aside0.mk b4; have h4 := blk_below HO.out b4; have g2 := (blk_cell h4 0).trans rfl; have h5 := blk_below HN3.out b4; have g3 := (blk_cell h5 0).trans rfl; clear b4 h4 h5))
      obtain ⟨wv, hwv⟩ : ∃ wv, wv = w4.alloc (.cells #[.int .i64 num, .slice AV vals.length cv] 59) := ⟨_, rfl⟩
      rw [← hwv]
      have bv : Below w4.heap.size w4 wv := by rw [hwv]; exact below_alloc (Below.refl _ _) _
      have hv0 : wv.heap[w4.heap.size]? = some (.cells #[.int .i64 num, .slice AV vals.length cv] 59 (0, 0)) := by rw [hwv]; exact blk_new _ _
      have bzv : Below wz.heap.size wz wv := BX.out.trans ((B4.out.trans (bv.mono B4.out.size)).mono BX.out.size)
      have hcp := copy_one hv0 HL.out (Kd.C_below HV.out bzv) HOV.out
      have B4V := Aside0.mk (B4.out.trans (bv.mono B4.out.size))
      clear hwv bv hv0 bzv
      go_wp2_with (first
        | (go_at_call 13
           refine hcp.mono ?_
           rintro r w5 ⟨G, capG, A2, d2, D2, dn, dc, rfl, hGb, ⟨y0, y1⟩, hzM, b5⟩
           have HZM := Aside0.mk hzM
           have HGB := Aside0.mk hGb
           have B5 := Aside0.mk b5
           clear hcp hzM hGb b5))
      obtain ⟨wp, hwp⟩ : ∃ wp, wp = w5.alloc (.cells #[.slice (some ⟨G, 0, none⟩) 1 capG, .slice D2 dn dc] 25) := ⟨_, rfl⟩
      rw [← hwp]
      have bp : Below w5.heap.size w5 wp := by rw [hwp]; exact below_alloc (Below.refl _ _) _
      have hp0 : wp.heap[w5.heap.size]? = some (.cells #[.slice (some ⟨G, 0, none⟩) 1 capG, .slice D2 dn dc] 25 (0, 0)) := by rw [hwp]; exact blk_new _ _
      have hsp : wp.heap.size = w5.heap.size + 1 := by rw [hwp, World.size_alloc]
      have bvp : Below wv.heap.size wv wp := B5.out.trans (bp.mono B5.out.size)
      have bcp : Below wc.heap.size wc wp := B4V.out.trans (bvp.mono B4V.out.size)
      have hop := blk_below HO.out bcp
      have hgl : G < w5.heap.size := by
        rcases Nat.lt_or_ge G w5.heap.size with h | h
        · exact h
        · simp [World.cell?, Array.getElem?_eq_none h] at y0
      have t0 : wp.cell? ⟨w1.heap.size, 0, none⟩ = some (.slice D0 (outT x.f0 num).length e0) := (blk_cell hop 0).trans rfl
      have t1 : wp.cell? ⟨w5.heap.size, 0, none⟩ = some (.slice (some ⟨G, 0, none⟩) 1 capG) := (blk_cell hp0 0).trans rfl
      have t2 : wp.cell? ⟨G, 0, none⟩ = some (.int .i64 num) := (bp.cell (p := ⟨G, 0, none⟩) hgl).trans y0
      have t3 : wp.cell? ⟨G, 1, none⟩ = some (.slice A2 vals.length d2) := (bp.cell (p := ⟨G, 1, none⟩) hgl).trans y1
      have KA : ∀ o, (wp.alloc o).cell? ⟨w1.heap.size, 0, none⟩ = some (.slice D0 (outT x.f0 num).length e0) := fun o => pw_cell_below (below_alloc (Below.refl _ _) o) t0
      have HOP := Aside0.mk hop
      have HSC : ∀ n c k, (Value.slice D0 n c).ownBlock = some k → wz.heap.size ≤ k ∧ k < wc.heap.size := fun n c k hk => by
        rw [own_n D0 n (outT x.f0 num).length c e0] at hk
        exact ⟨Kd.R_base HS.out k hk, Kd.R_lt HS.out k hk⟩
      have HSCA := Aside0.mk HSC
      have s1 : w1.heap.size < wc.heap.size := blk_lt HO.out
      have S2 := Aside0.mk s1
      have S3 := Aside0.mk bcp.size
      have S4 := Aside0.mk B4V.out.size
      have S5 := Aside0.mk B1.out.size
      have S6 := Aside0.mk BX.out.size
      have hMp : k59.M wp wz.heap.size (fun k => k ≠ w1.heap.size ∧ some k ≠ (Value.slice D0 (outT x.f0 num).length e0).ownBlock) ⟨num, vals⟩ [.int .i64 num, .slice A2 vals.length d2] :=
        k59.M_mono (fun k hk => ⟨by have := hk.2.1; omega, fun e => by have := hk.2.1; have := (HSC _ _ k e.symm).2; omega⟩) (k59.M_lower BX.out.size (k59.M_lower (Nat.le_refl _) (k59.M_bound (k59.M_lower S4.out (Kd.M_below HZM.out bp)))))
      have HMP := Aside0.mk hMp
      have RSP := Aside0.mk (Kd.R_below HS.out bcp)
      have RRP := Aside0.mk (Kd.R_below HR.out bcp)
      have BZP := Aside0.mk (BX.out.trans (bcp.mono BX.out.size))
      have HBIG : Aside0 (((outT x.f0 num).length + 1) * 32 ≤ 140737488355328) := ⟨by
        obtain ⟨n, hn⟩ := HOK.out
        have h2 : (outT x.f0 num).length ≤ x.f0.length := List.length_filter_le _ _
        cases n with
        | zero => exact hn.elim
        | succ n => have h1 := hn.1.1; unfold reachBytes at h1; omega⟩
      have SQ := Aside0.mk (show ((wp.alloc (.cells #[.int .i64 num, .slice A2 vals.length d2] 59)).drew).heap.size = wp.heap.size + 1 from World.size_alloc _ _)
      have BB := Aside0.mk (Below.refl wp.heap.size wp)
      have HIN := Aside0.mk (Insert_c (w := (wp.alloc (.cells #[.int .i64 num, .slice A2 vals.length d2] 59)).drew) (vb := wp.heap.size) (vc := 1) (i := (outT x.f0 num).length) (base := wz.heap.size) (ok := fun k => k ≠ w1.heap.size) (A := D0) (c := e0) (xs := outT x.f0 num) (x := ⟨num, vals⟩) (A2 := A2) (n2 := vals.length) (c2 := d2) (fun k hk => by have := S2.out; have := S3.out; have := SQ.out; omega) (Kd.R_below RSP.out (below_drew (below_alloc BB.out _))) (Nat.le_refl _) (by have := S3.out; have := S6.out; have := SQ.out; omega) HBIG.out (blk_new wp _) (fun e => by have h9 := HSCA.out _ _ _ e.symm; have := S3.out; have h10 : wp.heap.size < wc.heap.size := h9.2; omega) (Kd.M_below HMP.out (below_drew (below_alloc BB.out _))))
      rw [show (outT x.f0 num).take (outT x.f0 num).length ++ ⟨num, vals⟩ :: (outT x.f0 num).drop (outT x.f0 num).length = putT (outT x.f0 num) num vals by unfold putT; rw [HAT.out]] at HIN
      clear hwp bp hp0 hsp bvp bcp hop hgl y0 y1 HSC s1 hMp
      go_cut [7] (fun s7 wx => s7 = .pointer (some ⟨w1.heap.size, 0, none⟩) ∧ ∃ (D' : Option Addr) (c' : Nat), Aside0 (wx.heap[w1.heap.size]? = some (.cells #[.slice D' (putT (outT x.f0 num) num vals).length c', .slice D1 x.f1.length e1] 25 (0, 0))) ∧ Aside0 (k59.R 59 wx wz.heap.size (fun k => k ≠ w1.heap.size) (.slice D' (putT (outT x.f0 num) num vals).length c') (putT (outT x.f0 num) num vals)) ∧ Aside0 (k73.R 73 wx wz.heap.size (fun k => k ≠ w1.heap.size) (.slice D1 x.f1.length e1) x.f1) ∧ Aside0 (Below wz.heap.size wz wx))
      case first =>
        go_region_with (first
          | (go_at_call 87
             refine HIN.out.mono ?_
             rintro r w7 ⟨v7, rfl, hR7, hg7, hat7⟩
             obtain ⟨D7, c7, rfl⟩ := Kd.R_slice hR7
             have R7 : Aside0 (k59.R 59 w7 wz.heap.size (fun k => k ≠ w1.heap.size) (.slice D7 (putT (outT x.f0 num) num vals).length c7) (putT (outT x.f0 num) num vals)) := ⟨hR7⟩
             have bpa := below_drew (below_alloc BB.out (.cells #[.int .i64 num, .slice A2 vals.length d2] 59))
             have G7 := Aside0.mk (World.grownBy.trans (grown_of_below bpa _) hg7)
             have hne : some w1.heap.size ≠ (Value.slice D0 (outT x.f0 num).length e0).ownBlock := fun e => (HSCA.out _ _ _ e.symm).elim (fun _ _ => Kd.R_away RSP.out (fun k hk => hk) e)
             have ho7 := blk_grown HOP.out G7.out hne
             have HO7 := Aside0.mk ho7
             have j0 := (blk_cell ho7 0).trans rfl
             have j1 := blk_frozen ho7 0
             clear hR7 hg7 hat7 bpa hne ho7))
        all_goals
          go_wp2_with fail
          go_meet
          case rel =>
            have b7 : Below wz.heap.size wz w7 := pw_below_grown BZP.out _ BZP.out.size G7.out (fun k hk => (HSCA.out _ _ k hk).1)
            exact ⟨rfl, D7, c7, ⟨blk_put HO7.out 0 _ rfl⟩, ⟨Kd.R_far R7.out (fun k hk => hk) _⟩, ⟨Kd.R_far (Kd.R_over RRP.out RSP.out (by decide) G7.out) (fun k hk => hk) _⟩, ⟨b7.setCell S5.out _⟩⟩
      case rest =>
        obtain ⟨rfl, D', c', HO8, HS8, HR8, BX8⟩ := hcut
        have g0 := (blk_cell HO8.out 0).trans rfl
        have g1 := (blk_cell HO8.out 1).trans rfl
        have hz8 := blk_below HB3.out BX8.out
        have f0 := (blk_cell hz8 0).trans rfl
        have f1 := (blk_cell hz8 1).trans rfl
        have fr0 := blk_frozen hz8 0
        have fr1 := blk_frozen hz8 1
        have HZ8 := Aside0.mk hz8
        clear hz8 t0 t1 t2 t3 KA
        go_wp2_with fail
        have hw : withT x num vals = ⟨putT (outT x.f0 num) num vals, x.f1⟩ := by unfold withT; rw [if_neg (fun e => HVZ.out (by rw [e]; rfl))]
        rw [hw]
        have := HSZ.out
        refine bodyPost_ret (results_cell_row rfl _ _ (w.heap.size + 1 + 1) 25 _ _ _ rfl (blk_put (blk_put HZ8.out 0 _ rfl) 1 _ rfl) Try.underlying25 rfl (by kernel_rfl)) rfl ?_
        exact ⟨⟨_, _, rfl, R_under HS8.out (by omega) _ _ (by omega), R_under HR8.out (by omega) _ _ (by omega)⟩, ((BZ.out.trans (BX8.out.mono BZ.out.size)).setCell (by show w.heap.size ≤ w.heap.size + 1 + 1; omega) _).setCell (by show w.heap.size ≤ w.heap.size + 1 + 1; omega) _⟩
    · rw [hi, Nat.zero_add] at HIX hat
      have hk0 : ¬ ((k : Int) < 0) := by omega
      have HAT := Aside0.mk (hat.trans (if_neg (by omega)))
      rw [Int.toNat_natCast] at HAT
      have HLE := Aside0.mk hle
      clear hi hat hle hn3 hvz HSZ'
      go_wp2_with (first
        | (go_at_call 85; refine HIX.out.mono ?_; rintro r w4 ⟨rfl, b4⟩; have B4 := Aside0.mk b4; have h4 := blk_below HO.out b4; have g2 := (blk_cell h4 0).trans rfl; have h5 := blk_below HN3.out b4; have g3 := (blk_cell h5 0).trans rfl; clear b4 h4 h5))
      obtain ⟨wv, hwv⟩ : ∃ wv, wv = w4.alloc (.cells #[.int .i64 num, .slice AV vals.length cv] 59) := ⟨_, rfl⟩
      rw [← hwv]
      have bv : Below w4.heap.size w4 wv := by rw [hwv]; exact below_alloc (Below.refl _ _) _
      have hv0 : wv.heap[w4.heap.size]? = some (.cells #[.int .i64 num, .slice AV vals.length cv] 59 (0, 0)) := by rw [hwv]; exact blk_new _ _
      have bzv : Below wz.heap.size wz wv := BX.out.trans ((B4.out.trans (bv.mono B4.out.size)).mono BX.out.size)
      have hcp := copy_one hv0 HL.out (Kd.C_below HV.out bzv) HOV.out
      have B4V := Aside0.mk (B4.out.trans (bv.mono B4.out.size))
      clear hwv bv hv0 bzv
      go_wp2_with (first
        | (go_at_call 13
           refine hcp.mono ?_
           rintro r w5 ⟨G, capG, A2, d2, D2, dn, dc, rfl, hGb, ⟨y0, y1⟩, hzM, b5⟩
           have HZM := Aside0.mk hzM
           have HGB := Aside0.mk hGb
           have B5 := Aside0.mk b5
           clear hcp hzM hGb b5))
      obtain ⟨wp, hwp⟩ : ∃ wp, wp = w5.alloc (.cells #[.slice (some ⟨G, 0, none⟩) 1 capG, .slice D2 dn dc] 25) := ⟨_, rfl⟩
      rw [← hwp]
      have bp : Below w5.heap.size w5 wp := by rw [hwp]; exact below_alloc (Below.refl _ _) _
      have hp0 : wp.heap[w5.heap.size]? = some (.cells #[.slice (some ⟨G, 0, none⟩) 1 capG, .slice D2 dn dc] 25 (0, 0)) := by rw [hwp]; exact blk_new _ _
      have hsp : wp.heap.size = w5.heap.size + 1 := by rw [hwp, World.size_alloc]
      have bvp : Below wv.heap.size wv wp := B5.out.trans (bp.mono B5.out.size)
      have bcp : Below wc.heap.size wc wp := B4V.out.trans (bvp.mono B4V.out.size)
      have hop := blk_below HO.out bcp
      have hgl : G < w5.heap.size := by
        rcases Nat.lt_or_ge G w5.heap.size with h | h
        · exact h
        · simp [World.cell?, Array.getElem?_eq_none h] at y0
      have t0 : wp.cell? ⟨w1.heap.size, 0, none⟩ = some (.slice D0 (outT x.f0 num).length e0) := (blk_cell hop 0).trans rfl
      have t1 : wp.cell? ⟨w5.heap.size, 0, none⟩ = some (.slice (some ⟨G, 0, none⟩) 1 capG) := (blk_cell hp0 0).trans rfl
      have t2 : wp.cell? ⟨G, 0, none⟩ = some (.int .i64 num) := (bp.cell (p := ⟨G, 0, none⟩) hgl).trans y0
      have t3 : wp.cell? ⟨G, 1, none⟩ = some (.slice A2 vals.length d2) := (bp.cell (p := ⟨G, 1, none⟩) hgl).trans y1
      have KA : ∀ o, (wp.alloc o).cell? ⟨w1.heap.size, 0, none⟩ = some (.slice D0 (outT x.f0 num).length e0) := fun o => pw_cell_below (below_alloc (Below.refl _ _) o) t0
      have HOP := Aside0.mk hop
      have HSC : ∀ n c k, (Value.slice D0 n c).ownBlock = some k → wz.heap.size ≤ k ∧ k < wc.heap.size := fun n c k hk => by
        rw [own_n D0 n (outT x.f0 num).length c e0] at hk
        exact ⟨Kd.R_base HS.out k hk, Kd.R_lt HS.out k hk⟩
      have HSCA := Aside0.mk HSC
      have s1 : w1.heap.size < wc.heap.size := blk_lt HO.out
      have S2 := Aside0.mk s1
      have S3 := Aside0.mk bcp.size
      have S4 := Aside0.mk B4V.out.size
      have S5 := Aside0.mk B1.out.size
      have S6 := Aside0.mk BX.out.size
      have hMp : k59.M wp wz.heap.size (fun k => k ≠ w1.heap.size ∧ some k ≠ (Value.slice D0 (outT x.f0 num).length e0).ownBlock) ⟨num, vals⟩ [.int .i64 num, .slice A2 vals.length d2] :=
        k59.M_mono (fun k hk => ⟨by have := hk.2.1; omega, fun e => by have := hk.2.1; have := (HSC _ _ k e.symm).2; omega⟩) (k59.M_lower BX.out.size (k59.M_lower (Nat.le_refl _) (k59.M_bound (k59.M_lower S4.out (Kd.M_below HZM.out bp)))))
      have HMP := Aside0.mk hMp
      have RSP := Aside0.mk (Kd.R_below HS.out bcp)
      have RRP := Aside0.mk (Kd.R_below HR.out bcp)
      have BZP := Aside0.mk (BX.out.trans (bcp.mono BX.out.size))
      have HBIG : Aside0 (((outT x.f0 num).length + 1) * 32 ≤ 140737488355328) := ⟨by
        obtain ⟨n, hn⟩ := HOK.out
        have h2 : (outT x.f0 num).length ≤ x.f0.length := List.length_filter_le _ _
        cases n with
        | zero => exact hn.elim
        | succ n => have h1 := hn.1.1; unfold reachBytes at h1; omega⟩
      have SQ := Aside0.mk (show ((wp.alloc (.cells #[.int .i64 num, .slice A2 vals.length d2] 59)).drew).heap.size = wp.heap.size + 1 from World.size_alloc _ _)
      have BB := Aside0.mk (Below.refl wp.heap.size wp)
      have HIN := Aside0.mk (Insert_c (w := (wp.alloc (.cells #[.int .i64 num, .slice A2 vals.length d2] 59)).drew) (vb := wp.heap.size) (vc := 1) (i := k) (base := wz.heap.size) (ok := fun k => k ≠ w1.heap.size) (A := D0) (c := e0) (xs := outT x.f0 num) (x := ⟨num, vals⟩) (A2 := A2) (n2 := vals.length) (c2 := d2) (fun k hk => by have := S2.out; have := S3.out; have := SQ.out; omega) (Kd.R_below RSP.out (below_drew (below_alloc BB.out _))) (by have := HLE.out; rw [HAT.out] at this; exact this) (by have := S3.out; have := S6.out; have := SQ.out; omega) HBIG.out (blk_new wp _) (fun e => by have h9 := HSCA.out _ _ _ e.symm; have := S3.out; have h10 : wp.heap.size < wc.heap.size := h9.2; omega) (Kd.M_below HMP.out (below_drew (below_alloc BB.out _))))
      rw [show (outT x.f0 num).take k ++ ⟨num, vals⟩ :: (outT x.f0 num).drop k = putT (outT x.f0 num) num vals by unfold putT; rw [HAT.out]] at HIN
      clear hwp bp hp0 hsp bvp bcp hop hgl y0 y1 HSC s1 hMp
      go_cut [7] (fun s7 wx => s7 = .pointer (some ⟨w1.heap.size, 0, none⟩) ∧ ∃ (D' : Option Addr) (c' : Nat), Aside0 (wx.heap[w1.heap.size]? = some (.cells #[.slice D' (putT (outT x.f0 num) num vals).length c', .slice D1 x.f1.length e1] 25 (0, 0))) ∧ Aside0 (k59.R 59 wx wz.heap.size (fun k => k ≠ w1.heap.size) (.slice D' (putT (outT x.f0 num) num vals).length c') (putT (outT x.f0 num) num vals)) ∧ Aside0 (k73.R 73 wx wz.heap.size (fun k => k ≠ w1.heap.size) (.slice D1 x.f1.length e1) x.f1) ∧ Aside0 (Below wz.heap.size wz wx))
      case first =>
        go_region_with (first
          | (go_at_call 87
             refine HIN.out.mono ?_
             rintro r w7 ⟨v7, rfl, hR7, hg7, hat7⟩
             obtain ⟨D7, c7, rfl⟩ := Kd.R_slice hR7
             have R7 : Aside0 (k59.R 59 w7 wz.heap.size (fun k => k ≠ w1.heap.size) (.slice D7 (putT (outT x.f0 num) num vals).length c7) (putT (outT x.f0 num) num vals)) := ⟨hR7⟩
             have bpa := below_drew (below_alloc BB.out (.cells #[.int .i64 num, .slice A2 vals.length d2] 59))
             have G7 := Aside0.mk (World.grownBy.trans (grown_of_below bpa _) hg7)
             have hne : some w1.heap.size ≠ (Value.slice D0 (outT x.f0 num).length e0).ownBlock := fun e => (HSCA.out _ _ _ e.symm).elim (fun _ _ => Kd.R_away RSP.out (fun k hk => hk) e)
             have ho7 := blk_grown HOP.out G7.out hne
             have HO7 := Aside0.mk ho7
             have j0 := (blk_cell ho7 0).trans rfl
             have j1 := blk_frozen ho7 0
             clear hR7 hg7 hat7 bpa hne ho7))
        all_goals
          go_wp2_with fail
          go_meet
          case rel =>
            have b7 : Below wz.heap.size wz w7 := pw_below_grown BZP.out _ BZP.out.size G7.out (fun k hk => (HSCA.out _ _ k hk).1)
            exact ⟨rfl, D7, c7, ⟨blk_put HO7.out 0 _ rfl⟩, ⟨Kd.R_far R7.out (fun k hk => hk) _⟩, ⟨Kd.R_far (Kd.R_over RRP.out RSP.out (by decide) G7.out) (fun k hk => hk) _⟩, ⟨b7.setCell S5.out _⟩⟩
      case rest =>
        obtain ⟨rfl, D', c', HO8, HS8, HR8, BX8⟩ := hcut
        have g0 := (blk_cell HO8.out 0).trans rfl
        have g1 := (blk_cell HO8.out 1).trans rfl
        have hz8 := blk_below HB3.out BX8.out
        have f0 := (blk_cell hz8 0).trans rfl
        have f1 := (blk_cell hz8 1).trans rfl
        have fr0 := blk_frozen hz8 0
        have fr1 := blk_frozen hz8 1
        have HZ8 := Aside0.mk hz8
        clear hz8 t0 t1 t2 t3 KA
        go_wp2_with fail
        have hw : withT x num vals = ⟨putT (outT x.f0 num) num vals, x.f1⟩ := by unfold withT; rw [if_neg (fun e => HVZ.out (by rw [e]; rfl))]
        rw [hw]
        have := HSZ.out
        refine bodyPost_ret (results_cell_row rfl _ _ (w.heap.size + 1 + 1) 25 _ _ _ rfl (blk_put (blk_put HZ8.out 0 _ rfl) 1 _ rfl) Try.underlying25 rfl (by kernel_rfl)) rfl ?_
        exact ⟨⟨_, _, rfl, R_under HS8.out (by omega) _ _ (by omega), R_under HR8.out (by omega) _ _ (by omega)⟩, ((BZ.out.trans (BX8.out.mono BZ.out.size)).setCell (by show w.heap.size ≤ w.heap.size + 1 + 1; omega) _).setCell (by show w.heap.size ≤ w.heap.size + 1 + 1; omega) _⟩
end Go.Proofs.Ytbpnfpckoapdbaa.TK
end
section
namespace Go.Proofs.Ytbpnfpckoapdbaa.TK
open Go.RowKit Go.Proofs.Ytbpnfpckoapdbaa.Ops Go.Proofs.Ytbpnfpckoapdbaa.KD Go.Proofs.Ytbpnfpckoapdbaa.M Go.Proofs.YtbpnfpckoapdbaaW.PrintWords Go.Proofs.YtbpnfpckoapdbaaW.PrintLast Go.Proofs.YtbpnfpckoapdbaaW.PrintMore Go.Proofs.Ytbpnfpckoapdbaa.Open
set_option linter.unusedVariables false
set_option linter.unusedSimpArgs false
set_option maxHeartbeats 1000000
set_option maxRecDepth 100000
/-- The values of a number. -/
def getT (t : TT) (num : Int) : List TV := match t.f0.find? (fun x => x.f0 == num) with
 | some x => x.f1
 | none => []
theorem getT_none {t : TT} {num : Int} (h : ∀ x ∈ t.f0, (x.f0 == num) = false) : getT t num = [] := by
 unfold getT
 rw [List.find?_eq_none.2 (fun x hx => by rw [h x hx]; decide)]
theorem getT_some {t : TT} {num : Int} {k : Nat} {x : TS} (h1 : t.f0[k]? = some x) (h2 : (x.f0 == num) = true) (h3 : ∀ y ∈ t.f0.take k, (y.f0 == num) = false) : getT t num = x.f1 := by
 have e : t.f0 = t.f0.take k ++ x :: t.f0.drop (k + 1) := by
  obtain ⟨hk, rfl⟩ := List.getElem?_eq_some_iff.1 h1
  rw [← List.drop_eq_getElem_cons hk, List.take_append_drop]
 unfold getT
 rw [e, List.find?_append, List.find?_eq_none.2 (fun y hy => by rw [h3 y hy]; decide), List.find?_cons_of_pos (by exact h2)]
 rfl
theorem field0 (a b : Value) (w : World) : (Instr.field 25 (.agg #[a, b]) 0).run Try.prog w = .ok a w := by
 simp [Instr.field, run_underlying Try.underlying25, part, isAgg, run_underlying Try.underlying22, asAgg]
theorem C_one {w : World} {ad : Addr} {n k : Nat} {xs : List TS} {z : TS} (h : k59.C w (some ad) n xs) (hz : xs[k]? = some z) : k59.C w (some (ad.add (k * 2))) 1 [z] := by
 obtain ⟨h1, h2, h3⟩ := h
 have hk := (List.getElem?_eq_some_iff.1 hz).1
 obtain ⟨b, he, hc⟩ := h3 (by omega)
 injection he with he
 subst he
 refine ⟨rfl, by decide, fun _ => ⟨_, rfl, fun j p hj => ?_⟩⟩
 have h4 := (List.getElem?_eq_some_iff.1 hj).1
 obtain rfl : j = 0 := by simp only [List.length_singleton] at h4; omega
 obtain rfl : z = p := by simpa using hj
 obtain ⟨c, hl, hK, hcc⟩ := hc k z hz
 refine ⟨c, hl, hK, fun t v ht => ?_⟩
 rw [add_add, Nat.zero_mul, Nat.zero_add]
 exact hcc t v ht
theorem copy_slot {w : World} {ad : Addr} {z : TS} {c : Nat} (hC : k59.C w (some ad) 1 [z]) (hc : 1 ≤ c) (hok : okTr ⟨[z], []⟩) :
  Calls Try.prog 13 #[.agg #[.slice (some ad) 1 c, .slice none 0 0]] w fun r w' => ∃ (G cap : Nat) (A2 : Option Addr) (d2 : Nat) (D : Option Addr) (dn dc : Nat), r = .returned (.agg #[.slice (some ⟨G, 0, none⟩) 1 cap, .slice D dn dc]) ∧ w'.cell? ⟨G, 1, none⟩ = some (.slice A2 z.f1.length d2) ∧ k70.R 70 w' w.heap.size (fun _ => True) (.slice A2 z.f1.length d2) z.f1 ∧ Below w.heap.size w w' := by
 refine (copy_own (w := w) (x := ⟨[z], []⟩) (A0 := some ad) (A1 := none) (c0 := c) (c1 := 0) (tree_mk hc hC (Nat.le_refl _) (none_C _)) hok).mono ?_
 rintro r w5 ⟨⟨p0, p1, rfl, h0, h1⟩, b5⟩
 obtain ⟨D, dc, rfl⟩ := Kd.R_slice h1
 obtain ⟨G, capG, rfl, hGb, hGl, _⟩ := Kd.R_form h0 (Nat.lt_succ_self _)
 obtain ⟨_, Z, hZ, hZe⟩ := ZR.of_R h0
 obtain ⟨y, rfl⟩ : ∃ y, Z = [y] := by
  have hl1 := congrArg List.length hZe
  rw [List.length_map] at hl1
  exact List.length_eq_one_iff.1 hl1
 have hz1 : y.1 = z := by simpa using hZe
 obtain ⟨A2, d2, hz2, _⟩ := hZ.slot (i := 0) (z := y) rfl
 obtain ⟨y0, y1, yf⟩ := hZ.cell (i := 0) (z := y) rfl
 have hzM := hZ.el y (by simp)
 rw [hz1] at hz2 y0 hzM
 rw [hz2] at y1 hzM
 obtain ⟨v, he, hR⟩ := k59_openM hzM
 injection he with _ he
 injection he with he _
 rw [← he] at hR
 exact ⟨G, capG, A2, d2, D, _, dc, rfl, y1, Kd.R_mono hR (fun _ _ => trivial), b5⟩
set_option maxHeartbeats 3000000 in
theorem Get_c {w : World} {x : TT} {A0 A1 : Option Addr} {c0 c1 : Nat} {num : Int} (h : k25.K w x [.slice A0 x.f0.length c0, .slice A1 x.f1.length c1]) (hok : okTr x) :
  Calls Try.prog 44 #[.agg #[.slice A0 x.f0.length c0, .slice A1 x.f1.length c1], .int .i64 num] w fun r w' => ∃ v, r = .returned v ∧ k70.R 70 w' w.heap.size (fun _ => True) v (getT x num) ∧ Below w.heap.size w w' := by
 obtain ⟨wz, hwz⟩ : ∃ wz, wz = w.alloc (.cells #[.slice A0 x.f0.length c0, .slice A1 x.f1.length c1] 25) := ⟨_, rfl⟩
 have bz : Below w.heap.size w wz := by rw [hwz]; exact below_alloc (Below.refl _ _) _
 have hb1 : wz.heap[w.heap.size]? = some (.cells #[.slice A0 x.f0.length c0, .slice A1 x.f1.length c1] 25 (0, 0)) := by rw [hwz]; exact blk_new _ _
 have HWZ := Aside0.mk hwz
 have BZ := Aside0.mk bz
 have KO := Aside0.mk (fun w2 (hb : Below wz.heap.size wz w2) => show w2.cell? ⟨w.heap.size, 0, none⟩ = some (.slice A0 x.f0.length c0) from (blk_cell (blk_below hb1 hb) 0).trans rfl)
 have HX := Aside0.mk (k25.K_below bz h)
 have HOK := Aside0.mk hok
 have BB := Aside0.mk (Below.refl wz.heap.size wz)
 have m1 := KO.out wz BB.out
 clear hwz bz hb1 h hok
 go_enter Try.func44, Try.ntmps44
 go_upto_region 1 with fail
 rw [← HWZ.out]
 go_cut [5] (fun s5 wx => s5 = .int .i64 (ixF (fun y : TS => y.f0 == num) x.f0 0) ∧ Aside0 (Below wz.heap.size wz wx))
 case first =>
  go_region_with (first
    | (go_at_call 84; refine of_c.mono ?_; rintro r w2 ⟨qb, rfl, hqb, hq, b2⟩
       have BX : Below wz.heap.size wz w2 := below_step (by repeat (first | (with_reducible first | exact BB.out | apply below_alloc | apply pw_below_drewN | apply below_drew))) b2
       have HQ := Aside0.mk hq
       clear b2 hqb hq
       have BB := Aside0.mk BX
       have m2 := KO.out _ BX
       clear BX)
    | (go_at_call 85
       refine (Idx_tree_of1 (A := A0) (c := c0) (tree_of1_c (a := ⟨qb, 0, none⟩) (v := num) HQ.out) (Kd.C_below (tree_reads HX.out).2.1 (by repeat (first | (with_reducible first | exact BB.out | apply below_alloc | apply pw_below_drewN | apply below_drew))))).mono ?_
       rintro r w3 ⟨rfl, b3⟩
       have BX : Below wz.heap.size wz w3 := below_step (by repeat (first | (with_reducible first | exact BB.out | apply below_alloc | apply pw_below_drewN | apply below_drew))) b3
       have B3 := Aside0.mk BX
       clear b3 BX))
  all_goals
    go_wp2_with fail
    go_meet
    case rel => exact ⟨rfl, B3⟩
 case rest =>
  obtain ⟨rfl, BX⟩ := hcut
  have m3 := KO.out _ BX.out
  rcases ixF_two (p := fun y : TS => y.f0 == num) x.f0 0 with ⟨hi, hall⟩ | ⟨k, y, hi, hk1, hk2, hk3⟩
  · rw [hi]
    have HG := Aside0.mk (getT_none (t := x) hall)
    clear hi hall m1
    go_wp2_with fail
    go_ret
    rw [HG.out]
    exact ⟨_, rfl, Kd.R_nil _ _ _ _ _, BZ.out.trans (BX.out.mono BZ.out.size)⟩
  · rw [hi, Nat.zero_add]
    have HG := Aside0.mk (getT_some (t := x) hk1 hk2 hk3)
    have hkl := (List.getElem?_eq_some_iff.1 hk1).1
    obtain ⟨hc0, hC0, _, _⟩ := tree_reads (k25.K_below BX.out HX.out)
    have hmx : x.f0.length ≤ 9223372036854775807 := Kd.C_max hC0
    obtain ⟨ad, rfl⟩ : ∃ ad, A0 = some ad := by
     obtain ⟨ad, _, e, _⟩ := Kd.C_get hC0 y k (by omega) (by omega)
     exact ⟨ad, e⟩
    have hw := wrap3 (k + 1) (by unfold maxLen; omega)
    push_cast at hw
    have p0 : (0 : Int) ≤ (k : Int) := by omega
    have p1 : (0 : Int) ≤ (k : Int) + 1 := by omega
    have p2 : (k : Int) + 1 ≤ (c0 : Int) := by omega
    have p3 : (k : Int) ≤ (k : Int) + 1 := by omega
    have p4 : ((k : Int) + 1).toNat = k + 1 := by omega
    have p5 : ¬ (c0 = k) := by omega
    have p6 : k + 1 - k = 1 := by omega
    have p7 : ¬ ((k : Int) < 0) := by omega
    have hoky : okTr ⟨[y], []⟩ := by
     obtain ⟨n, hn⟩ := HOK.out
     cases n with
     | zero => exact hn.elim
     | succ n => exact ⟨n + 1, ⟨(show 1 * 32 ≤ reachBytes by decide), fun z hz => by rw [List.mem_singleton.1 hz]; exact hn.1.2 y (List.mem_of_getElem? hk1)⟩, ⟨(show 0 * 40 ≤ reachBytes by decide), by simp⟩⟩
    have hcp := copy_slot (c := c0 - k) (C_one hC0 hk1) (by omega) hoky
    have HCP := Aside0.mk hcp
    have hf := field0
    clear hi hk1 hk2 hk3 hkl hc0 hC0 hmx hoky hcp m1
    go_wp2_with (first
     | (go_at_call 13
        refine HCP.out.mono ?_
        rintro r w5 ⟨G, capG, A2, d2, D2, dn, dc, rfl, y1, hR, b5⟩
        have HR := Aside0.mk hR
        have B5 := Aside0.mk b5
        clear hR b5))
    go_ret
    rw [HG.out]
    exact ⟨_, rfl, Kd.R_lower HR.out (Nat.le_trans BZ.out.size BX.out.size), BZ.out.trans ((BX.out.trans (B5.out.mono BX.out.size)).mono BZ.out.size)⟩
end Go.Proofs.Ytbpnfpckoapdbaa.TK
end
section
namespace Go.Proofs.Ytbpnfpckoapdbaa.P19
open Go.RowKit Go.Proofs.YtbpnfpckoapdbaaW.PrintWords Go.Proofs.YtbpnfpckoapdbaaW.PrintLast Go.Proofs.YtbpnfpckoapdbaaW.PrintMore Go.Proofs.Ytbpnfpckoapdbaa.KD Go.Proofs.Ytbpnfpckoapdbaa.M Go.Proofs.Ytbpnfpckoapdbaa.PT19 Go.Proofs.Ytbpnfpckoapdbaa.Ev Go.Proofs.Ytbpnfpckoapdbaa.Ops Go.Proofs.Ytbpnfpckoapdbaa.TK
set_option linter.unusedVariables false
set_option linter.unusedSimpArgs false
theorem get_out (t : TT) (n : Int) : getT (withT t n []) n = [] := by
 refine getT_none fun x hx => ?_
 have h : x ∈ outT t.f0 n := hx
 have := (List.mem_filter.1 h).2
 cases hb : (x.f0 == n) with
 | false => rfl
 | true => rw [hb] at this; cases this
theorem get_put (t : TT) (n : Int) (v : List TV) : getT (withT t n v) n = v := by
 by_cases hv : v = []
 · subst hv; exact get_out t n
 · have hf : (withT t n v).f0 = (outT t.f0 n).take (atT (outT t.f0 n) n) ++ ⟨n, v⟩ :: (outT t.f0 n).drop (atT (outT t.f0 n) n) := by unfold withT; rw [if_neg hv]; rfl
   unfold getT
   rw [hf, List.find?_append, List.find?_eq_none.2 (fun y hy => by
    have h : y ∈ outT t.f0 n := List.mem_of_mem_take hy
    have := (List.mem_filter.1 h).2
    simpa using this), List.find?_cons_of_pos (by simp)]
   rfl
/-- What is not too great has few slots. -/
theorem left_neg {d : Int} {s : List TS} {r : List TR} {x : Int} (hx : x < 0) : ∀ (k : Nat) (b : Int), ecdysisref19_left.l0 k x d 0 s r = some b → b = x := by
 have hj3 : ∀ k i b, ecdysisref19_left.j3 k x d i false s r = some b → b = x := fun k i b h => by
  cases k with
  | zero => simp [ecdysisref19_left.j3] at h
  | succ k => simp [ecdysisref19_left.j3] at h; exact h.symm
 have hl1 : ∀ k i b, ecdysisref19_left.l1 k x d i s r = some b → b = x := fun k i b h => by
  cases k with
  | zero => simp [ecdysisref19_left.l1] at h
  | succ k =>
   simp only [ecdysisref19_left.l1, show decide (x ≥ 0) = false from decide_eq_false (by omega)] at h
   split at h <;> exact hj3 k i b h
 have hj1 : ∀ k b, ecdysisref19_left.j1 k x d s r = some b → b = x := fun k b h => by
  cases k with
  | zero => simp [ecdysisref19_left.j1] at h
  | succ k => simp only [ecdysisref19_left.j1] at h; exact hl1 k 0 b h
 intro k b h
 cases k with
 | zero => simp [ecdysisref19_left.l0] at h
 | succ k =>
  simp only [ecdysisref19_left.l0] at h
  rw [if_neg (show ¬ (x ≥ 0) by omega)] at h
  split at h <;> exact hj1 k b h
theorem small_len {n : Nat} {t : TT} (ht : okT n t) {k : Nat} (h : ecdysisref19_Small.f k t.f0 t.f1 = some true) : t.f0.length ≤ 400 := by
 cases n with
 | zero => exact ht.elim
 | succ n =>
  have hl := ht.1.1
  have hr := ht.2.1
  rw [reach] at hl hr
  unfold ecdysisref19_Small.f at h
  obtain ⟨b, hb, h⟩ := Option.bind_eq_some_iff.1 h
  have hb0 : b ≥ 0 := by simpa using h
  cases k with
  | zero => simp [ecdysisref19_left.f] at hb
  | succ k =>
   simp only [ecdysisref19_left.f] at hb
   rw [if_neg (by decide)] at hb
   have e : wrap64 (wrap64 (400 - (t.f1.length : Int)) - (t.f0.length : Int)) = 400 - (t.f1.length : Int) - (t.f0.length : Int) := by
     unfold wrap64
     omega
   rw [e] at hb
   rcases Nat.lt_or_ge 400 t.f0.length with hlt | hge
   · have := left_neg (show 400 - (t.f1.length : Int) - (t.f0.length : Int) < 0 by omega) k b hb
     omega
   · exact hge
end Go.Proofs.Ytbpnfpckoapdbaa.P19
end
section
namespace Go.Proofs.Ytbpnfpckoapdbaa.PT19W
open Go.RowKit Go.Proofs.Ytbpnfpckoapdbaa.M Go.Proofs.Ytbpnfpckoapdbaa.KD Go.Proofs.Ytbpnfpckoapdbaa Go.Proofs.YtbpnfpckoapdbaaW.PrintWords Go.Proofs.YtbpnfpckoapdbaaW.PrintLast Go.Proofs.YtbpnfpckoapdbaaW.PrintMore
attribute [local go_sem] max2_int min2_int max_two min_two max_three min_three max_four min_four   -- for this text's walks alone
set_option linter.unusedVariables false
set_option linter.unusedSimpArgs false
theorem info59 : (Try.prog.info? 59).map (fun i => (i.zero, i.size, i.bytes)) = some (some (.agg #[(.int .i64 0), (.slice none 0 0)]), 2, 32) := by kernel_rfl
end Go.Proofs.Ytbpnfpckoapdbaa.PT19W
end

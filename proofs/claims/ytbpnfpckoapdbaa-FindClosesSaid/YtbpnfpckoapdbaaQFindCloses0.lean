/- The law that what is told is closed: for every schema it tells true; no conditions but those of the row. (text 1 of 7; some of it the words and functions that the kit's print and this claim's programs wrote) -/
import Derived.Below
import Derived.Deep.Draws
import Derived.Deep.AppendLies
import Derived.Maps.AppendAt
import Derived.OwnWalk
import Derived.Laws.BytesArg
import Derived.Laws.MakeOwn
import Derived.Laws.OwnMore
import Derived.Deep.OwnRows
import Derived.Tactics
import Derived.Lib.ConvBytes
import Derived.Laws.Slices
import Derived.WalkKit
import Derived.KernelRfl
import Derived.RowKit3
import Derived.Deep.LoopGhost
import Derived.Deep.QuietTactic
import Derived.BigQuiet
import Derived.WideLaws
import Derived.Deep.DeepCutAuto
import Derived.Deep.CutBlock
import Derived.Deep.RegionHeld3
import Derived.Laws.Rows
import Derived.Lib.AppendStr
import Derived.ArgAppend
import Derived.Laws.IdiomCopy
import Derived.RowKit
import Derived.OrdersHeld
import Derived.Laws.BitsLemmas
import Derived.RangeFuncNested
import Derived.RangeFuncBound
import Derived.RangeFuncCalls
import Derived.RangeFuncLeaves
import Derived.Shelf.Abstract
import Derived.Shelf.RegionOpen
import Derived.OwnWalkIn
import Derived.TacticsInMore
import Derived.LoopNIn
import Derived.LoopIn
import Derived.Test.YtbpnfpckoapdbaaProg
import Derived.Sort.LoopGhostIn
import Derived.Maps.OwnIn
import Derived.WalkMore
namespace Go.Proofs.Ytbpnfpckoapdbaa
end Go.Proofs.Ytbpnfpckoapdbaa
namespace Go.Proofs.Ytbpnfpckoapdbaa.Ev
end Go.Proofs.Ytbpnfpckoapdbaa.Ev
namespace Go.Proofs.Ytbpnfpckoapdbaa.KD
end Go.Proofs.Ytbpnfpckoapdbaa.KD
namespace Go.Proofs.Ytbpnfpckoapdbaa.M
end Go.Proofs.Ytbpnfpckoapdbaa.M
namespace Go.Proofs.Ytbpnfpckoapdbaa.Open
end Go.Proofs.Ytbpnfpckoapdbaa.Open
namespace Go.Proofs.Ytbpnfpckoapdbaa.Ops
end Go.Proofs.Ytbpnfpckoapdbaa.Ops
namespace Go.Proofs.Ytbpnfpckoapdbaa.P16
end Go.Proofs.Ytbpnfpckoapdbaa.P16
namespace Go.Proofs.Ytbpnfpckoapdbaa.PF16
end Go.Proofs.Ytbpnfpckoapdbaa.PF16
namespace Go.Proofs.Ytbpnfpckoapdbaa.Rng
end Go.Proofs.Ytbpnfpckoapdbaa.Rng
namespace Go.Proofs.YtbpnfpckoapdbaaW.PrintLast
end Go.Proofs.YtbpnfpckoapdbaaW.PrintLast
namespace Go.Proofs.YtbpnfpckoapdbaaW.PrintMore
end Go.Proofs.YtbpnfpckoapdbaaW.PrintMore
namespace Go.Proofs.YtbpnfpckoapdbaaW.PrintWords
end Go.Proofs.YtbpnfpckoapdbaaW.PrintWords
namespace Go.Proofs.YtbpnfpckoapdbaaW.PrintWords.Kd
end Go.Proofs.YtbpnfpckoapdbaaW.PrintWords.Kd
section
set_option linter.unusedVariables false
set_option linter.unusedSimpArgs false
namespace Go.Proofs.YtbpnfpckoapdbaaW.PrintWords
open Go.RowKit
/-- A fact that the walk's simp doesn't look into. -/
structure Aside0 (p : Prop) : Prop where mk :: (out : p)
/-- The world is the old one, some orders having been drawn. -/
structure Drawn0 (w w' : World) : Prop where mk :: (out : ∃ n, w' = w.drewN n)
theorem Drawn0.refl (w : World) : Drawn0 w w := ⟨⟨0, rfl⟩⟩
theorem Drawn0.step {w w' : World} (h : Drawn0 w w') (n : Nat) : Drawn0 w (w'.drewN n) := by
 obtain ⟨m, rfl⟩ := h
 exact ⟨⟨m + n, World.drewN_drewN ..⟩⟩
theorem Drawn0.grown {w w' : World} (h : Drawn0 w w') : Grown w w' := by
 obtain ⟨n, rfl⟩ := h
 induction n with
 | zero => exact Grown.refl _
 | succ n ih => rw [← World.drew_drewN]; exact Grown.drew ih
theorem Drawn0.below {w w' : World} (h : Drawn0 w w') : Below w.heap.size w w' := by
 obtain ⟨n, rfl⟩ := h
 induction n with
 | zero => exact Below.refl _ _
 | succ n ih => rw [← World.drew_drewN]; exact ih.drew
def rd (xs : List Int) (i : Int) : Int := xs.getD i.toNat 0
def bt (s : ByteArray) (i : Int) : Int := if h : i.toNat < s.size then ((s[i.toNat]'h).toNat : Int) else 0
theorem bt_at (s : ByteArray) (i : Int) : ∀ h : i.toNat < s.size, ((s[i.toNat]'h).toNat : Int) = bt s i := fun h => by simp [bt, h]
theorem below_alloc {w W : World} (h : Below w.heap.size w W) (o : Obj) : Below w.heap.size w (W.alloc o) := h.alloc h.size o
theorem below_drew {B : Nat} {w W : World} (h : Below B w W) : Below B w W.drew := ⟨h.os, h.tape, h.output, h.size, h.block⟩
theorem pw_below_drewN {B : Nat} {w W : World} (h : Below B w W) (n : Nat) : Below B w (W.drewN n) := ⟨h.os, h.tape, h.output, h.size, h.block⟩
theorem below_then {B : Nat} {w w1 w2 : World} (h : Below B w w1) (hB : B ≤ w1.heap.size) (k : Below w1.heap.size w1 w2) : Below B w w2 :=
 h.trans ⟨k.os, k.tape, k.output, k.size, fun i hi => k.block i (Nat.lt_of_lt_of_le hi hB)⟩
theorem grown_of_below {w w1 : World} (h : Below w.heap.size w w1) (row : Option Nat) : w.grownBy w1 row := ⟨h.os, h.tape, h.output, h.size, fun i hi _ => h.block i hi⟩
theorem pw_cell_below {w w1 : World} (h : Below w.heap.size w w1) {a : Addr} {v : Value} (hc : w.cell? a = some v) : w1.cell? a = some v := (h.cell (World.block_lt_of_cell? w a hc)).trans hc
def ReadsInt (w : World) (k : IntKind) (A : Option Addr) (n : Nat) (xs : List Int) : Prop :=
 xs.length = n ∧ n ≤ 9223372036854775807 ∧ (0 < n → ∃ ad, A = some ad ∧ ∀ j, j < n → w.cell? (ad.add j) = some (.int k (xs.getD j 0)))
theorem ReadsInt.at_ {w : World} {k : IntKind} {A : Option Addr} {n : Nat} {xs : List Int} (h : ReadsInt w k A n xs) (i : Int) (h0 : 0 ≤ i) (h1 : i < n) : ∃ ad, A = some ad ∧ w.cell? (ad.add i.toNat) = some (.int k (rd xs i)) := by
 obtain ⟨ad, e, hc⟩ := h.2.2 (by omega)
 exact ⟨ad, e, hc _ (by omega)⟩
theorem ReadsInt.below {w w1 : World} {k : IntKind} {A : Option Addr} {n : Nat} {xs : List Int} (h : ReadsInt w k A n xs) (hb : Below w.heap.size w w1) : ReadsInt w1 k A n xs :=
 ⟨h.1, h.2.1, fun hn => by
  obtain ⟨ad, e, hc⟩ := h.2.2 hn
  exact ⟨ad, e, fun j hj => pw_cell_below hb (hc j hj)⟩⟩
theorem own_base {w : World} {base : Nat} {e : TypeId} {size n : Nat} {v : Value} {xs : List Value} (h : w.ownsRow base e size v n xs) (k : Nat) (hk : v.ownBlock = some k) : base ≤ k := by
 rcases h.2 with ⟨rfl, _⟩ | ⟨g, cap, cur, rfl, hb, _⟩
 · simp [Value.ownBlock] at hk
 · have : g = k := by simpa [Value.ownBlock] using hk
   omega
theorem own_lt {w : World} {base : Nat} {e : TypeId} {size n : Nat} {v : Value} {xs : List Value} (h : w.ownsRow base e size v n xs) (k : Nat) (hk : v.ownBlock = some k) : k < w.heap.size := by
 rcases h.2 with ⟨rfl, _⟩ | ⟨g, cap, cur, rfl, hb, hh, _⟩
 · simp [Value.ownBlock] at hk
 · have : g = k := by simpa [Value.ownBlock] using hk
   subst this
   exact (Array.getElem?_eq_some_iff.1 hh).1
theorem pw_own_below {w w1 : World} {base : Nat} {e : TypeId} {size n : Nat} {v : Value} {xs : List Value} (h : w.ownsRow base e size v n xs) (hb : Below w.heap.size w w1) : w1.ownsRow base e size v n xs :=
 h.kept (grown_of_below hb none) (by cases v.ownBlock <;> simp)
/-- What is written is another row: this one lives on. -/
theorem own_other {w w1 : World} {base : Nat} {e : TypeId} {size n : Nat} {v : Value} {xs : List Value} (h : w.ownsRow base e size v n xs) {row : Option Nat} (hg : w.grownBy w1 row) (hne : v.ownBlock = none ∨ v.ownBlock ≠ row) : w1.ownsRow base e size v n xs := h.kept hg hne
section
variable {P : Program} {ops : Array Oper} {rest : List Oper} {o : Oper} {a : Act} {Q : Exit → Act → World → Prop}
end
section
variable {P : Program}
end
section
variable {P : Program} {ops : Array Oper} {rest : List Oper} {o : Oper} {a : Act} {Q : Exit → Act → World → Prop}
end
def bytesOf (s : ByteArray) : List Int := s.data.toList.map fun b => (b.toNat : Int)
/-- 'xs[:k]' and 'xs[k:]' of a slice that is read; the address of the second as_ the walk has it. -/
theorem ReadsInt.take_ {w : World} {k : IntKind} {A : Option Addr} {n : Nat} {xs : List Int} (h : ReadsInt w k A n xs) (i : Nat) (hi : i ≤ n) : ReadsInt w k A i (xs.take i) := by
 refine ⟨by rw [List.length_take, h.1]; omega, by have := h.2.1; omega, fun hp => ?_⟩
 obtain ⟨ad, e, hc⟩ := h.2.2 (by omega)
 refine ⟨ad, e, fun j hj => ?_⟩
 rw [hc j (by omega)]
 simp [List.getD_eq_getElem?_getD, hj]
/-- Where the first answers, the second answers the same. -/
def LeO {α : Type} (a b : Option α) : Prop := ∀ r, a = some r → b = some r
theorem LeO.refl {α : Type} (a : Option α) : LeO a a := fun _ h => h
theorem LeO.none {α : Type} (b : Option α) : LeO Option.none b := fun _ h => by cases h
theorem LeO.trans {α : Type} {a b c : Option α} (h : LeO a b) (k : LeO b c) : LeO a c := fun r hr => k r (h r hr)
theorem LeO.ite {α : Type} {c : Prop} [Decidable c] {a a' b b' : Option α} (h : LeO a a') (k : LeO b b') : LeO (if c then a else b) (if c then a' else b') := by
 split
 · exact h
 · exact k
theorem LeO.bind {α β : Type} {a a' : Option α} {f f' : α → Option β} (h : LeO a a') (k : ∀ x, LeO (f x) (f' x)) : LeO (a.bind f) (a'.bind f') := by
 intro r hr
 obtain ⟨x, hx, hf⟩ := Option.bind_eq_some_iff.1 hr
 exact Option.bind_eq_some_iff.2 ⟨x, h x hx, k x r hf⟩
theorem LeO.map {α β : Type} {a a' : Option α} (f : α → β) (h : LeO a a') : LeO (a.map f) (a'.map f) := by
 intro r hr
 obtain ⟨x, hx, hf⟩ := Option.map_eq_some_iff.1 hr
 exact Option.map_eq_some_iff.2 ⟨x, h x hx, hf⟩
theorem more_rounds {α : Type} {g : Nat → Option α} (h : ∀ k, LeO (g k) (g (k + 1))) (k : Nat) : ∀ j, LeO (g k) (g (k + j))
 | 0 => LeO.refl _
 | j + 1 => (more_rounds h k j).trans (h (k + j))
theorem at_rounds {α : Type} {g : Nat → Option α} (h : ∀ k, LeO (g k) (g (k + 1))) {k k' : Nat} (hk : k ≤ k') {r : α} (hr : g k = some r) : g k' = some r := by
 have := more_rounds h k (k' - k) r hr
 rwa [Nat.add_sub_cancel' hk] at this
def Reps {α : Type} (R : α → List Value → Prop) (size : Nat) (ps : List α) (cs : List Value) : Prop :=
 cs.length = ps.length * size ∧ ∀ j p, ps[j]? = some p → R p ((cs.drop (j * size)).take size)
theorem Reps.none {α : Type} (R : α → List Value → Prop) (size : Nat) : Reps R size [] [] := ⟨by simp, fun j p h => by simp at h⟩
theorem Reps.snoc {α : Type} {R : α → List Value → Prop} {size : Nat} {ps : List α} {cs c : List Value} {p : α} (h : Reps R size ps cs) (hp : R p c) (hc : c.length = size) : Reps R size (ps ++ [p]) (cs ++ c) := by
 refine ⟨by rw [List.length_append, h.1, hc, List.length_append, List.length_singleton, Nat.add_mul, Nat.one_mul], fun j q hq => ?_⟩
 rcases Nat.lt_or_ge j ps.length with hj | hj
 · rw [List.getElem?_append_left hj] at hq
   have h1 : j * size + size ≤ cs.length := by rw [h.1, ← Nat.succ_mul]; exact Nat.mul_le_mul_right _ hj
   have h2 := h.2 j q hq
   rw [List.drop_append_of_le_length (by omega), List.take_append_of_le_length (by rw [List.length_drop]; omega)]
   exact h2
 · have hj' : j = ps.length := by
    have := (List.getElem?_eq_some_iff.1 hq).1
    rw [List.length_append, List.length_singleton] at this
    omega
   subst hj'
   have hq' : p = q := by simpa using hq
   subst hq'
   rw [← h.1, List.drop_left, ← hc, List.take_length]
   exact hp
theorem Reps.imp_ {α : Type} {R R' : α → List Value → Prop} {size : Nat} {ps : List α} {cs : List Value} (h : Reps R size ps cs) (hR : ∀ p c, R p c → R' p c) : Reps R' size ps cs := ⟨h.1, fun j p hj => hR _ _ (h.2 j p hj)⟩
def ReadsRow {α : Type} (R : α → List Value → Prop) (size : Nat) (w : World) (A : Option Addr) (n : Nat) (ps : List α) : Prop :=
 ps.length = n ∧ n ≤ 9223372036854775807 ∧ (0 < n → ∃ ad, A = some ad ∧ ∀ j p, ps[j]? = some p → ∃ c, c.length = size ∧ R p c ∧ ∀ i u, c[i]? = some u → w.cell? (ad.add (j * size + i)) = some u)
theorem ReadsRow.get_ {α : Type} {R : α → List Value → Prop} {size : Nat} {w : World} {A : Option Addr} {n : Nat} {ps : List α} (h : ReadsRow R size w A n ps) (d : α) (i : Int) (h0 : 0 ≤ i) (h1 : i < n) :
  ∃ ad c, A = some ad ∧ c.length = size ∧ R (ps.getD i.toNat d) c ∧ ∀ j u, c[j]? = some u → w.cell? (ad.add (i.toNat * size + j)) = some u := by
 obtain ⟨ad, e, hc⟩ := h.2.2 (by omega)
 have hl : i.toNat < ps.length := by have := h.1; omega
 obtain ⟨c, hs, hr, hcell⟩ := hc i.toNat _ (List.getElem?_eq_getElem hl)
 refine ⟨ad, c, e, hs, ?_, hcell⟩
 rw [List.getD_eq_getElem?_getD, List.getElem?_eq_getElem hl]
 exact hr
theorem ReadsRow.imp_ {α : Type} {R R' : α → List Value → Prop} {size : Nat} {w w1 : World} {A : Option Addr} {n : Nat} {ps : List α} (h : ReadsRow R size w A n ps) (hb : Below w.heap.size w w1) (hR : ∀ p c, R p c → R' p c) : ReadsRow R' size w1 A n ps :=
 ⟨h.1, h.2.1, fun hn => by
  obtain ⟨ad, e, hc⟩ := h.2.2 hn
  refine ⟨ad, e, fun j p hj => ?_⟩
  obtain ⟨c, hs, hr, hcell⟩ := hc j p hj
  exact ⟨c, hs, hR _ _ hr, fun i u hu => pw_cell_below hb (hcell i u hu)⟩⟩
theorem own_reads_row {α : Type} {R : α → List Value → Prop} {w : World} {base n size : Nat} {e : TypeId} {v : Value} {ps : List α} {cs : List Value} (h : w.ownsRow base e size v n cs) (hR : Reps R size ps cs) (hn : ps.length = n) :
   ∃ A c, v = .slice A n c ∧ ReadsRow R size w A n ps := by
 rcases Nat.eq_zero_or_pos n with h0 | h0
 · rcases h.2 with ⟨rfl, rfl⟩ | ⟨g, cap, cur, rfl, _⟩
   · exact ⟨none, 0, rfl, hn, by omega, fun hp => absurd hp (by omega)⟩
   · exact ⟨_, cap, rfl, hn, by omega, fun hp => absurd hp (by omega)⟩
 · obtain ⟨g, cap, rfl, _, _⟩ := h.form h0
   have hm : n ≤ 9223372036854775807 := by
     rcases h.2 with ⟨_, h1⟩ | ⟨g', cap', cur, he, _, _, h1, h2, _⟩
     · omega
     · simp only [maxLen] at h2
       omega
   refine ⟨_, cap, rfl, hn, hm, fun _ => ⟨_, rfl, fun j p hj => ⟨(cs.drop (j * size)).take size, ?_, hR.2 j p hj, fun i u hu => ?_⟩⟩⟩
   · have hjl := (List.getElem?_eq_some_iff.1 hj).1
     have h1 : j * size + size ≤ cs.length := by rw [hR.1, ← Nat.succ_mul]; exact Nat.mul_le_mul_right _ hjl
     rw [List.length_take, List.length_drop]
     omega
   · refine h.cells (g := g) rfl _ u ?_
     rw [List.getElem?_take] at hu
     split at hu
     · rw [List.getElem?_drop] at hu
       exact hu
     · cases hu
/-- A field's address as_ the walk spells it. -/
theorem add_field (ad : Addr) (m j : Nat) (hj : 0 < j) : ad.add (m + j) = ⟨(ad.add m).block, (ad.add m).off + j, none⟩ := by
 unfold Addr.add
 by_cases hm : m = 0
 · subst hm
   simp [Nat.ne_of_gt hj]
 · simp [hm, Nat.add_assoc]
section
variable {P : Program} {ops : Array Oper} {rest : List Oper} {o : Oper} {a : Act} {Q : Exit → Act → World → Prop}
/-- append(v, x), x of several cells; behind 'at_builtin'; the goal's world is 'W.alloc' of the variadic's box. -/
theorem print_append_cells {w0 W : World} (base : Nat) (hgd : o.guard = none) (s x : Operand) (t e : TypeId) (z : Value) (size bytes : Nat)
   (ho : o.op = .call { callee := .builtin .append, args := #[s, x], argTypes := #[t, t] })
   (ht : P.underlying t = some (.slice e)) (hinfo : (P.info? e).map (fun i => (i.zero, i.size, i.bytes)) = some (some z, size, bytes)) (hz : z.cells.size = size) (hs0 : 0 < size) (hb0 : 0 < bytes)
   (v : Value) (n : Nat) (xs ys : List Value) (hs : a.eval s = v) (hx : a.eval x = .slice (some ⟨W.heap.size, 0, none⟩) 1 1) (hys : ys.length = size) (h1 : ∀ u ∈ ys, u.oneCell' = true)
   (HO : W.ownsRow base e size v n xs) (HB : Below base w0 W) (hbase : base ≤ W.heap.size) (hl : (n + 1) * bytes ≤ 140737488355328)
   (h : ∀ v1 w1, w1.ownsRow base e size v1 (n + 1) (xs ++ ys) → Below base w0 w1 → W.grownBy w1 v.ownBlock → (v1.ownBlock = v.ownBlock ∨ ∃ b, v1.ownBlock = some b ∧ W.heap.size ≤ b) → wpList P ops Q rest (a.put o.dst v1) w1) :
   wpList P ops Q (o :: rest) a (W.alloc (.cells ys.toArray e)) := by
 obtain ⟨i0, hi, hzz⟩ := Option.map_eq_some_iff.1 hinfo
 simp only [Prod.mk.injEq] at hzz
 obtain ⟨hz0, hz1, hz2⟩ := hzz
 have hlen : n + 1 ≤ 140737488355328 := Nat.le_trans (Nat.le_mul_of_pos_right _ hb0) hl
 refine wpList_append_own_at (W.alloc (.cells ys.toArray e)) hgd s x t ho base e i0 z size bytes ht hi hz0 hz1 hz2 hz hs0 v n xs hs (HO.alloc _) ⟨W.heap.size, 0, none⟩ 1 1 ys hx (by rw [hys]; simp)
   (by simpa using World.news_of_block (cs := ys.toArray) (t := e) (fr := (0, 0)) (heap_alloc_new W (.cells ys.toArray e))) h1 (by simp only [maxLen]; omega) hl (by simp; omega) ?_
 intro v1 w1 hown hg _ hat
 refine h v1 w1 hown ((HB.alloc hbase _).grown hg (by simp; omega) (own_base HO)) (World.grownBy.trans (World.grownBy_alloc W _ _) hg) ?_
 rcases hat with hat | hat
 · exact .inl hat
 · exact .inr ⟨_, hat, by simp⟩
end
theorem own_ne {w : World} {base : Nat} {e t : TypeId} {size n g : Nat} {v : Value} {xs : List Value} {cs : Array Value} (h : w.ownsRow base e size v n xs) (hg : w.heap[g]? = some (.cells cs t (0, 0))) (hne : e ≠ t) : some g ≠ v.ownBlock := by
 rcases h.2 with ⟨rfl, _⟩ | ⟨g', cap, cur, rfl, _, hh, _⟩
 · simp [Value.ownBlock]
 · intro he
   have : g = g' := by simpa [Value.ownBlock] using he
   subst this
   rw [hg] at hh
   injection hh with hh
   injection hh with _ ht
   exact hne ht.symm
theorem blk_set {w : World} {g : Nat} {t : TypeId} {cs : Array Value} (h : w.heap[g]? = some (.cells cs t (0, 0))) (i : Nat) (u : Value) : (w.setCell ⟨g, i, none⟩ u).heap[g]? = some (.cells (cs.setIfInBounds i u) t (0, 0)) := by
 simp [World.setCell, Array.getElem?_modify, h]
theorem blk_far {w : World} {g : Nat} {t : TypeId} {cs : Array Value} (h : w.heap[g]? = some (.cells cs t (0, 0))) {p : Addr} (hp : g ≠ p.block) (u : Value) : (w.setCell p u).heap[g]? = some (.cells cs t (0, 0)) := (Below.heap_setCell w p u g hp).trans h
theorem blk_lt {w : World} {g : Nat} {o : Obj} (h : w.heap[g]? = some o) : g < w.heap.size := (Array.getElem?_eq_some_iff.1 h).1
theorem blk_cell {w : World} {g : Nat} {t : TypeId} {cs : Array Value} (h : w.heap[g]? = some (.cells cs t (0, 0))) (i : Nat) : w.cell? ⟨g, i, none⟩ = cs[i]? := cell_of_row w g i cs t (0, 0) h
theorem blk_frozen {w : World} {g : Nat} {t : TypeId} {cs : Array Value} (h : w.heap[g]? = some (.cells cs t (0, 0))) (i : Nat) : w.frozen? ⟨g, i, none⟩ = false := by simp [World.frozen?, h]
theorem blk_grown {w w1 : World} {g : Nat} {o : Obj} {row : Option Nat} (h : w.heap[g]? = some o) (hg : w.grownBy w1 row) (hne : some g ≠ row) : w1.heap[g]? = some o := (hg.block g (blk_lt h) hne).trans h
def KeepBut (w w' : World) (g : Nat) (row : Option Nat) : Prop := w.heap.size ≤ w'.heap.size ∧ ∀ i, i < w.heap.size → i ≠ g → some i ≠ row → w'.heap[i]? = w.heap[i]?
theorem KeepBut.refl (w : World) (g : Nat) (row : Option Nat) : KeepBut w w g row := ⟨Nat.le_refl _, fun _ _ _ _ => rfl⟩
theorem KeepBut.of_below {w w1 : World} (h : Below w.heap.size w w1) (g : Nat) (row : Option Nat) : KeepBut w w1 g row := ⟨h.size, fun i hi _ _ => h.block i hi⟩
theorem KeepBut.trans {w w1 w2 : World} {g : Nat} {row row1 : Option Nat} (h : KeepBut w w1 g row) (k : KeepBut w1 w2 g row1) (hr : row1 = row ∨ ∃ b, row1 = some b ∧ w.heap.size ≤ b) : KeepBut w w2 g row :=
 ⟨Nat.le_trans h.1 k.1, fun i hi hg hn => by
  refine (k.2 i (Nat.lt_of_lt_of_le hi h.1) hg ?_).trans (h.2 i hi hg hn)
  rcases hr with rfl | ⟨b, rfl, hb⟩
  · exact hn
  · intro e
    injection e with e
    omega⟩
/-- Another block, another row: they live on. -/
theorem KeepBut.blk {w w1 : World} {g g' : Nat} {row : Option Nat} {o : Obj} (h : KeepBut w w1 g row) (hb : w.heap[g']? = some o) (hg : g' ≠ g) (hr : some g' ≠ row) : w1.heap[g']? = some o := (h.2 g' (blk_lt hb) hg hr).trans hb
theorem KeepBut.own {w w1 : World} {g : Nat} {row : Option Nat} {base : Nat} {e : TypeId} {size n : Nat} {v : Value} {xs : List Value} (h : KeepBut w w1 g row) (ho : w.ownsRow base e size v n xs) (hg : v.ownBlock ≠ some g) (hr : v.ownBlock = none ∨ v.ownBlock ≠ row) : w1.ownsRow base e size v n xs := by
 obtain ⟨h1, h2⟩ := ho
 refine ⟨h1, ?_⟩
 rcases h2 with h2 | ⟨b, cap, cur, rfl, hb, hh, r⟩
 · exact .inl h2
 · refine .inr ⟨b, cap, cur, rfl, hb, h.blk hh ?_ ?_, r⟩
   · intro e
     exact hg (by rw [← e]; rfl)
   · rcases hr with hr | hr
     · simp [Value.ownBlock] at hr
     · exact hr
def Ev {α : Type} (g : Nat → Option α) (r : α) : Prop := ∃ K, ∀ k, K ≤ k → g k = some r
theorem Ev.of {α : Type} {g : Nat → Option α} {r : α} (hg : ∀ k, LeO (g k) (g (k + 1))) {k : Nat} (h : g k = some r) : Ev g r := ⟨k, fun _ hk => at_rounds hg hk h⟩
theorem Ev.now {α : Type} (r : α) : Ev (fun _ => some r) r := ⟨0, fun _ _ => rfl⟩
theorem Ev.rounds {α : Type} {g : Nat → Option α} {r : α} (h : Ev g r) : ∃ k, g k = some r := by
 obtain ⟨K, h⟩ := h
 exact ⟨K, h K (Nat.le_refl _)⟩
theorem Ev.bind {α β : Type} {g : Nat → Option α} {f : Nat → α → Option β} {a : α} {r : β} (h : Ev g a) (k : Ev (fun n => f n a) r) : Ev (fun n => (g n).bind (f n)) r := by
 obtain ⟨K, h⟩ := h
 obtain ⟨K', k⟩ := k
 refine ⟨max K K', fun n hn => ?_⟩
 have h1 := h n (by omega)
 have h2 := k n (by omega)
 simp only [h1, Option.bind_some]
 exact h2
/-- One round of a loop. -/
theorem Ev.step {α : Type} {g f : Nat → Option α} {r : α} (h : ∀ k, g (k + 1) = f k) (k : Ev f r) : Ev g r := by
 obtain ⟨K, k⟩ := k
 refine ⟨K + 1, fun n hn => ?_⟩
 obtain ⟨m, rfl⟩ : ∃ m, n = m + 1 := ⟨n - 1, by omega⟩
 rw [h]
 exact k m (by omega)
theorem Ev.congr {α : Type} {g f : Nat → Option α} {r : α} (h : ∀ k, g k = f k) (k : Ev f r) : Ev g r := by
 obtain ⟨K, k⟩ := k
 exact ⟨K, fun n hn => (h n).trans (k n hn)⟩
section
variable {P : Program} {ops : Array Oper} {o : Oper} {a : Act} {Q : Exit → Act → World → Prop} {K : Act → World → Prop}
end
theorem own_weaken {w : World} {base base' : Nat} {e : TypeId} {size n : Nat} {v : Value} {xs : List Value} (h : w.ownsRow base e size v n xs) (hb : base' ≤ base) : w.ownsRow base' e size v n xs := by
 obtain ⟨h1, h2⟩ := h
 refine ⟨h1, ?_⟩
 rcases h2 with h2 | ⟨g, cap, cur, rfl, hg, r⟩
 · exact .inl h2
 · exact .inr ⟨g, cap, cur, rfl, Nat.le_trans hb hg, r⟩
section
variable {α : Type} {enc : α → Value} {d : α}
def encs (enc : α → Value) (xs : List α) : List Value := xs.map enc
def rdOf (d : α) (xs : List α) (i : Int) : α := xs.getD i.toNat d
def ReadsOf (enc : α → Value) (d : α) (w : World) (A : Option Addr) (n : Nat) (xs : List α) : Prop :=
 xs.length = n ∧ n ≤ 9223372036854775807 ∧ (0 < n → ∃ ad, A = some ad ∧ ∀ j, j < n → w.cell? (ad.add j) = some (enc (xs.getD j d)))
theorem ReadsOf.at_ {w : World} {A : Option Addr} {n : Nat} {xs : List α} (h : ReadsOf enc d w A n xs) (i : Int) (h0 : 0 ≤ i) (h1 : i < n) : ∃ ad, A = some ad ∧ w.cell? (ad.add i.toNat) = some (enc (rdOf d xs i)) := by
 obtain ⟨ad, e, hc⟩ := h.2.2 (by omega)
 exact ⟨ad, e, hc _ (by omega)⟩
theorem ReadsOf.below {w w1 : World} {A : Option Addr} {n : Nat} {xs : List α} (h : ReadsOf enc d w A n xs) (hb : Below w.heap.size w w1) : ReadsOf enc d w1 A n xs :=
 ⟨h.1, h.2.1, fun hn => by
  obtain ⟨ad, e, hc⟩ := h.2.2 hn
  exact ⟨ad, e, fun j hj => pw_cell_below hb (hc j hj)⟩⟩
theorem ReadsOf.take_ {w : World} {A : Option Addr} {n : Nat} {xs : List α} (h : ReadsOf enc d w A n xs) (i : Nat) (hi : i ≤ n) : ReadsOf enc d w A i (xs.take i) := by
 refine ⟨by rw [List.length_take, h.1]; omega, by have := h.2.1; omega, fun hp => ?_⟩
 obtain ⟨ad, e, hc⟩ := h.2.2 (by omega)
 refine ⟨ad, e, fun j hj => ?_⟩
 rw [hc j (by omega)]
 simp [List.getD_eq_getElem?_getD, hj]
end
section
variable {α : Type} {P : Program} {ops : Array Oper} {rest : List Oper} {o : Oper} {a : Act} {Q : Exit → Act → World → Prop}
end
theorem blk_alloc {w : World} {g : Nat} {o : Obj} (h : w.heap[g]? = some o) (o' : Obj) : (w.alloc o').heap[g]? = some o := (Below.heap_alloc w o' g (blk_lt h)).trans h
theorem blk_drew {w : World} {g : Nat} {o : Obj} (h : w.heap[g]? = some o) : w.drew.heap[g]? = some o := h
theorem blk_drewN {w : World} {g : Nat} {o : Obj} (h : w.heap[g]? = some o) (n : Nat) : (w.drewN n).heap[g]? = some o := h
theorem blk_below {w w1 : World} {g : Nat} {o : Obj} (h : w.heap[g]? = some o) (hb : Below w.heap.size w w1) : w1.heap[g]? = some o := (hb.block g (blk_lt h)).trans h
theorem blk_new (w : World) (o : Obj) : (w.alloc o).heap[w.heap.size]? = some o := heap_alloc_new w o
section
variable {P : Program}
end
theorem own_le {w : World} {base n m c size : Nat} {e : TypeId} {A : Option Addr} {xs : List Value} (h : w.ownsRow base e size (.slice A m c) n xs) : m ≤ c := by
 rcases h.2 with ⟨he, _⟩ | ⟨g, cap, cur, he, _, _, hnc, _⟩
 · injection he with _ h2 h3
   omega
 · injection he with _ h2 h3
   omega
def OwnRow {α : Type} (R : α → List Value → Prop) (e : TypeId) (size : Nat) (w : World) (base : Nat) (v : Value) (ps : List α) : Prop :=
 ∃ inner, w.ownsRow base e size v ps.length inner ∧ Reps R size ps inner
section
variable {α : Type} {R R' : α → List Value → Prop} {e : TypeId} {size : Nat} {w w1 : World} {base : Nat} {v : Value} {ps : List α}
theorem OwnRow.imp_ (h : OwnRow R e size w base v ps) (hR : ∀ p c, R p c → R' p c) : OwnRow R' e size w base v ps := by
 obtain ⟨inner, ho, hr⟩ := h
 exact ⟨inner, ho, hr.imp_ hR⟩
theorem OwnRow.below (h : OwnRow R e size w base v ps) (hb : Below w.heap.size w w1) : OwnRow R e size w1 base v ps := by
 obtain ⟨inner, ho, hr⟩ := h
 exact ⟨inner, pw_own_below ho hb, hr⟩
theorem OwnRow.other (h : OwnRow R e size w base v ps) {row : Option Nat} (hg : w.grownBy w1 row) (hne : v.ownBlock = none ∨ v.ownBlock ≠ row) : OwnRow R e size w1 base v ps := by
 obtain ⟨inner, ho, hr⟩ := h
 exact ⟨inner, own_other ho hg hne, hr⟩
theorem OwnRow.keep (h : OwnRow R e size w base v ps) {g : Nat} {t : TypeId} {cells : Array Value} (hb : w.heap[g]? = some (.cells cells t (0, 0))) (ht : e ≠ t) (hk : KeepBut w w1 g none) : OwnRow R e size w1 base v ps := by
 obtain ⟨inner, ho, hr⟩ := h
 exact ⟨inner, hk.own ho (Ne.symm (own_ne ho hb ht)) (by cases v.ownBlock <;> simp), hr⟩
theorem OwnRow.reads (h : OwnRow R e size w base v ps) : ∃ A c, v = .slice A ps.length c ∧ ps.length ≤ c ∧ ReadsRow R size w A ps.length ps := by
 obtain ⟨inner, ho, hr⟩ := h
 obtain ⟨A, c, rfl, hrow⟩ := own_reads_row ho hr rfl
 exact ⟨A, c, rfl, own_le ho, hrow⟩
theorem OwnRow.ne_block (h : OwnRow R e size w base v ps) {g : Nat} {t : TypeId} {cells : Array Value} (hb : w.heap[g]? = some (.cells cells t (0, 0))) (ht : e ≠ t) : some g ≠ v.ownBlock := by
 obtain ⟨inner, ho, hr⟩ := h
 exact own_ne ho hb ht
end
section
variable {P : Program} {ops : Array Oper} {rest : List Oper} {o : Oper} {a : Act} {Q : Exit → Act → World → Prop} {α : Type} {R : α → List Value → Prop}
/-- append(v, x): x's cells are cs. R is that of the world AHEAD; move it over hg ('OwnRow.imp_'). -/
theorem OwnRow.append {w0 W : World} (base : Nat) (hgd : o.guard = none) (s x : Operand) (t e : TypeId) (z : Value) (size bytes : Nat)
  (ho : o.op = .call { callee := .builtin .append, args := #[s, x], argTypes := #[t, t] })
  (ht : P.underlying t = some (.slice e)) (hinfo : (P.info? e).map (fun i => (i.zero, i.size, i.bytes)) = some (some z, size, bytes)) (hz : z.cells.size = size) (hs0 : 0 < size) (hb0 : 0 < bytes)
  (v : Value) (ps : List α) (p : α) (cs : List Value) (hs : a.eval s = v) (hx : a.eval x = .slice (some ⟨W.heap.size, 0, none⟩) 1 1) (hp : R p cs) (hcs : cs.length = size) (h1 : ∀ u ∈ cs, u.oneCell' = true)
  (HO : OwnRow R e size W base v ps) (HB : Below base w0 W) (hbase : base ≤ W.heap.size) (hl : (ps.length + 1) * bytes ≤ 140737488355328)
  (h : ∀ v1 w1, OwnRow R e size w1 base v1 (ps ++ [p]) → Below base w0 w1 → W.grownBy w1 v.ownBlock → (v1.ownBlock = v.ownBlock ∨ ∃ b, v1.ownBlock = some b ∧ W.heap.size ≤ b) → wpList P ops Q rest (a.put o.dst v1) w1) :
  wpList P ops Q (o :: rest) a (W.alloc (.cells cs.toArray e)) := by
 obtain ⟨inner, hown, hr⟩ := HO
 refine print_append_cells base hgd s x t e z size bytes ho ht hinfo hz hs0 hb0 v ps.length inner cs hs hx hcs h1 hown HB hbase hl ?_
 intro v1 w1 hown1 hb1 hg1 hat1
 exact h v1 w1 ⟨inner ++ cs, by rw [List.length_append, List.length_singleton]; exact hown1, hr.snoc hp hcs⟩ hb1 hg1 hat1
end
section
variable {P : Program} {ops : Array Oper} {o : Oper} {a : Act} {Q : Exit → Act → World → Prop} {K : Act → World → Prop} {α : Type} {R : α → List Value → Prop}
end
/-- What is read as_ a row has its cells one behind the other. -/
theorem ReadsRow.inner_ {α : Type} {R : α → List Value → Prop} {size : Nat} {w : World} {ad : Addr} {n : Nat} {ps : List α} (h : ReadsRow R size w (some ad) n ps) :
  ∃ inner, Reps R size ps inner ∧ ∀ j u, inner[j]? = some u → w.cell? (ad.add j) = some u := by
 have key : ∀ m, m ≤ ps.length → ∃ inner, Reps R size (ps.take m) inner ∧ ∀ j u, inner[j]? = some u → w.cell? (ad.add j) = some u := by
  intro m
  induction m with
  | zero => exact fun _ => ⟨[], Reps.none _ _, fun j u hu => by simp at hu⟩
  | succ m ih =>
   intro hm
   obtain ⟨inner, hr, hc⟩ := ih (by omega)
   obtain ⟨ad', he, hcell⟩ := h.2.2 (by have := h.1; omega)
   injection he with he
   subst he
   obtain ⟨c, hcl, hp, hcc⟩ := hcell m _ (List.getElem?_eq_getElem (show m < ps.length by omega))
   refine ⟨inner ++ c, ?_, fun j u hu => ?_⟩
   · rw [List.take_succ_eq_append_getElem (show m < ps.length by omega)]
     exact hr.snoc hp hcl
   · have hil : inner.length = m * size := by rw [hr.1, List.length_take, Nat.min_eq_left (by omega)]
     rcases Nat.lt_or_ge j inner.length with hj | hj
     · rw [List.getElem?_append_left hj] at hu
       exact hc j u hu
     · rw [List.getElem?_append_right hj] at hu
       have := hcc (j - inner.length) u hu
       rwa [hil, Nat.add_sub_cancel' (by omega)] at this
 obtain ⟨inner, hr, hc⟩ := key ps.length (Nat.le_refl _)
 rw [List.take_length] at hr
 exact ⟨inner, hr, hc⟩
section
variable {α : Type} {P : Program}
end
section
variable {P : Program} {ops : Array Oper} {rest : List Oper} {o : Oper} {a : Act} {Q : Exit → Act → World → Prop}
end
/-- ok: which blocks the rows inside may be ('not the row that is being written'). -/
structure Kd (α : Type) where
 sz : Nat
 E : List Nat
 K : World → α → List Value → Prop
 M : World → Nat → (Nat → Prop) → α → List Value → Prop
 K_len : ∀ {w x cs}, K w x cs → cs.length = sz
 K_one : ∀ {w x cs}, K w x cs → ∀ u ∈ cs, u.oneCell' = true
 K_below : ∀ {w w1 : World} {x cs}, Below w.heap.size w w1 → K w x cs → K w1 x cs
 K_of_M : ∀ {w base ok x cs}, M w base ok x cs → K w x cs
 M_mono : ∀ {w base ok ok' x cs}, (∀ k, ok k → ok' k) → M w base ok x cs → M w base ok' x cs
 M_bound : ∀ {w : World} {base ok x cs}, M w base ok x cs → M w base (fun k => ok k ∧ base ≤ k ∧ k < w.heap.size ∧ ∃ q, q ∈ E ∧ ∃ cells, w.heap[k]? = some (.cells cells q (0, 0))) x cs
 M_move : ∀ {w w1 : World} {base ok x cs}, (∀ k, ok k → w1.heap[k]? = w.heap[k]?) → M w base ok x cs → M w1 base ok x cs
 M_lower : ∀ {w base base' ok x cs}, base' ≤ base → M w base ok x cs → M w base' ok x cs
theorem own_move {w w1 : World} {base : Nat} {e : TypeId} {size n : Nat} {v : Value} {xs : List Value} (h : w.ownsRow base e size v n xs) (hm : ∀ k, v.ownBlock = some k → w1.heap[k]? = w.heap[k]?) : w1.ownsRow base e size v n xs := by
 obtain ⟨h1, h2⟩ := h
 refine ⟨h1, ?_⟩
 rcases h2 with h2 | ⟨g, cap, cur, rfl, hg, hh, r⟩
 · exact .inl h2
 · exact .inr ⟨g, cap, cur, rfl, hg, (hm g (by simp [Value.ownBlock])).trans hh, r⟩
theorem own_typed {w : World} {base : Nat} {e : TypeId} {size n : Nat} {v : Value} {xs : List Value} (h : w.ownsRow base e size v n xs) (k : Nat) (hk : v.ownBlock = some k) : ∃ cells, w.heap[k]? = some (.cells cells e (0, 0)) := by
 rcases h.2 with ⟨rfl, _⟩ | ⟨g, cap, cur, rfl, hg, hh, r⟩
 · simp [Value.ownBlock] at hk
 · have : g = k := by simpa [Value.ownBlock] using hk
   subst this
   exact ⟨cur, hh⟩
namespace Kd
/-- A row of elements that is read. -/
def C {α : Type} (d : Kd α) (w : World) (A : Option Addr) (n : Nat) (xs : List α) : Prop := ReadsRow (d.K w) d.sz w A n xs
/-- A row of elements (type e) of the call's own; the elements' rows are not this one. -/
def R {α : Type} (d : Kd α) (e : Nat) (w : World) (base : Nat) (ok : Nat → Prop) (v : Value) (xs : List α) : Prop :=
 (∀ k, v.ownBlock = some k → ok k) ∧ OwnRow (d.M w base (fun k => ok k ∧ some k ≠ v.ownBlock)) e d.sz w base v xs
section
variable {α : Type} {d : Kd α} {e : Nat} {w w1 : World} {base : Nat} {ok ok' : Nat → Prop} {v : Value} {xs : List α}
theorem C_below {A : Option Addr} {n : Nat} (h : d.C w A n xs) (hb : Below w.heap.size w w1) : d.C w1 A n xs := ReadsRow.imp_ h hb (fun _ _ hp => d.K_below hb hp)
theorem R_mono (h : d.R e w base ok v xs) (hok : ∀ k, ok k → ok' k) : d.R e w base ok' v xs := ⟨fun k hk => hok k (h.1 k hk), h.2.imp_ (fun _ _ hp => d.M_mono (fun k hk => ⟨hok k hk.1, hk.2⟩) hp)⟩
theorem R_bound (h : d.R e w base ok v xs) : d.R e w base (fun k => ok k ∧ base ≤ k ∧ k < w.heap.size ∧ ∃ q, q ∈ e :: d.E ∧ ∃ cells, w.heap[k]? = some (.cells cells q (0, 0))) v xs := by
 obtain ⟨h0, inner, ho, hr⟩ := h
 refine ⟨fun k hk => ?_, inner, ho, hr.imp_ (fun _ _ hp => d.M_mono (fun k hk => ?_) (d.M_bound hp))⟩
 · obtain ⟨cells, hc⟩ := own_typed ho k hk
   exact ⟨h0 k hk, own_base ho k hk, own_lt ho k hk, e, List.mem_cons_self, cells, hc⟩
 · obtain ⟨⟨h1, h2⟩, h3, h4, q, hq, hc⟩ := hk
   exact ⟨⟨h1, h3, h4, q, List.mem_cons_of_mem _ hq, hc⟩, h2⟩
theorem R_move (h : d.R e w base ok v xs) (hm : ∀ k, ok k → w1.heap[k]? = w.heap[k]?) : d.R e w1 base ok v xs := by
 obtain ⟨h0, inner, ho, hr⟩ := h
 exact ⟨h0, inner, own_move ho (fun k hk => hm k (h0 k hk)), hr.imp_ (fun _ _ hp => d.M_move (fun k hk => hm k hk.1) hp)⟩
theorem R_lower {base' : Nat} (h : d.R e w base ok v xs) (hb : base' ≤ base) : d.R e w base' ok v xs := by
 obtain ⟨h0, inner, ho, hr⟩ := h
 exact ⟨h0, inner, own_weaken ho hb, hr.imp_ (fun _ _ hp => d.M_lower hb hp)⟩
/-- Any mover: what is ok, and a block of w's, stays. -/
theorem R_step (h : d.R e w base ok v xs) (hm : ∀ k, ok k → k < w.heap.size → w1.heap[k]? = w.heap[k]?) : d.R e w1 base ok v xs :=
 R_mono (R_move (R_bound h) (fun k hk => hm k hk.1 hk.2.2.1)) (fun _ hk => hk.1)
theorem M_step {x : α} {cs : List Value} (h : d.M w base ok x cs) (hm : ∀ k, ok k → k < w.heap.size → w1.heap[k]? = w.heap[k]?) : d.M w1 base ok x cs :=
 d.M_mono (fun _ hk => hk.1) (d.M_move (fun k hk => hm k hk.1 hk.2.2.1) (d.M_bound h))
theorem R_below (h : d.R e w base ok v xs) (hb : Below w.heap.size w w1) : d.R e w1 base ok v xs := R_step h (fun k _ hk => hb.block k hk)
theorem M_below {x : α} {cs : List Value} (h : d.M w base ok x cs) (hb : Below w.heap.size w w1) : d.M w1 base ok x cs := M_step h (fun k _ hk => hb.block k hk)
/-- A store into another block. -/
theorem R_far (h : d.R e w base ok v xs) {p : Addr} (hok : ∀ k, ok k → k ≠ p.block) (u : Value) : d.R e (w.setCell p u) base ok v xs := R_step h (fun k ho _ => Below.heap_setCell w p u k (hok k ho))
/-- By types alone: the rows inside are none of a block of type t. -/
theorem R_types (h : d.R e w base ok v xs) {g t : Nat} {cells : Array Value} (hb : w.heap[g]? = some (.cells cells t (0, 0))) (ht : ∀ q, q ∈ e :: d.E → q ≠ t) : d.R e w base (fun k => ok k ∧ k ≠ g) v xs :=
 R_mono (R_bound h) (fun k hk => ⟨hk.1, by
  obtain ⟨_, _, _, q, hq, cells', hc⟩ := hk
  rintro rfl
  rw [hc] at hb
  injection hb with hb
  injection hb with _ hb
  exact ht q hq hb⟩)
theorem R_reads (h : d.R e w base ok v xs) : ∃ A c, v = .slice A xs.length c ∧ xs.length ≤ c ∧ d.C w A xs.length xs := by
 obtain ⟨A, c, he, hl, hr⟩ := OwnRow.reads h.2
 exact ⟨A, c, he, hl, hr.imp_ (Below.refl _ _) (fun _ _ hp => d.K_of_M hp)⟩
theorem R_slice (h : d.R e w base ok v xs) : ∃ A c, v = .slice A xs.length c := by
 obtain ⟨A, c, he, _⟩ := R_reads h
 exact ⟨A, c, he⟩
theorem R_own (h : d.R e w base ok v xs) : ∃ inner, w.ownsRow base e d.sz v xs.length inner := by
 obtain ⟨_, inner, ho, _⟩ := h
 exact ⟨inner, ho⟩
theorem R_ne (h : d.R e w base ok v xs) {g t : Nat} {cells : Array Value} (hb : w.heap[g]? = some (.cells cells t (0, 0))) (ht : e ≠ t) : some g ≠ v.ownBlock := OwnRow.ne_block h.2 hb ht
end
def scalar {α : Type} (enc : α → Value) (h1 : ∀ x, (enc x).oneCell' = true) : Kd α where
 sz := 1
 E := []
 K := fun _ x cs => cs = [enc x]
 M := fun _ _ _ x cs => cs = [enc x]
 K_len := fun h => by rw [h]; rfl
 K_one := fun h u hu => by
  rw [h] at hu
  rw [List.mem_singleton.1 hu]
  exact h1 _
 K_below := fun _ h => h
 K_of_M := fun h => h
 M_mono := fun _ h => h
 M_bound := fun h => h
 M_move := fun _ h => h
 M_lower := fun _ h => h
def int (k : IntKind) : Kd Int := scalar (Value.int k) (fun _ => rfl)
def bool : Kd Bool := scalar Value.bool (fun _ => rfl)
def string : Kd ByteArray := scalar Value.string (fun _ => rfl)
def slice {α : Type} (e : Nat) (d : Kd α) : Kd (List α) where
 sz := 1
 E := e :: d.E
 K := fun w xs cs => ∃ A c, cs = [.slice A xs.length c] ∧ xs.length ≤ c ∧ d.C w A xs.length xs
 M := fun w base ok xs cs => ∃ v, cs = [v] ∧ d.R e w base ok v xs
 K_len := by
  rintro w x cs ⟨A, c, rfl, _⟩
  rfl
 K_one := by
  rintro w x cs ⟨A, c, rfl, _⟩ u hu
  rw [List.mem_singleton.1 hu]
  rfl
 K_below := by
  rintro w w1 x cs hb ⟨A, c, rfl, hl, hr⟩
  exact ⟨A, c, rfl, hl, C_below hr hb⟩
 K_of_M := by
  rintro w base ok x cs ⟨v, rfl, h⟩
  obtain ⟨A, c, rfl, hl, hr⟩ := R_reads h
  exact ⟨A, c, rfl, hl, hr⟩
 M_mono := by
  rintro w base ok ok' x cs hok ⟨v, rfl, h⟩
  exact ⟨v, rfl, R_mono h hok⟩
 M_bound := by
  rintro w base ok x cs ⟨v, rfl, h⟩
  exact ⟨v, rfl, R_bound h⟩
 M_move := by
  rintro w w1 base ok x cs hm ⟨v, rfl, h⟩
  exact ⟨v, rfl, R_move h hm⟩
 M_lower := by
  rintro w base base' ok x cs hb ⟨v, rfl, h⟩
  exact ⟨v, rfl, R_lower h hb⟩
/-- Two in line. -/
def pair {α β : Type} (a : Kd α) (b : Kd β) : Kd (α × β) where
 sz := a.sz + b.sz
 E := a.E ++ b.E
 K := fun w x cs => ∃ c0 c1, cs = c0 ++ c1 ∧ a.K w x.1 c0 ∧ b.K w x.2 c1
 M := fun w base ok x cs => ∃ c0 c1, cs = c0 ++ c1 ∧ a.M w base ok x.1 c0 ∧ b.M w base ok x.2 c1
 K_len := by
  rintro w x cs ⟨c0, c1, rfl, h0, h1⟩
  rw [List.length_append, a.K_len h0, b.K_len h1]
 K_one := by
  rintro w x cs ⟨c0, c1, rfl, h0, h1⟩ u hu
  rcases List.mem_append.1 hu with hu | hu
  · exact a.K_one h0 u hu
  · exact b.K_one h1 u hu
 K_below := by
  rintro w w1 x cs hb ⟨c0, c1, rfl, h0, h1⟩
  exact ⟨c0, c1, rfl, a.K_below hb h0, b.K_below hb h1⟩
 K_of_M := by
  rintro w base ok x cs ⟨c0, c1, rfl, h0, h1⟩
  exact ⟨c0, c1, rfl, a.K_of_M h0, b.K_of_M h1⟩
 M_mono := by
  rintro w base ok ok' x cs hok ⟨c0, c1, rfl, h0, h1⟩
  exact ⟨c0, c1, rfl, a.M_mono hok h0, b.M_mono hok h1⟩
 M_bound := by
  rintro w base ok x cs ⟨c0, c1, rfl, h0, h1⟩
  refine ⟨c0, c1, rfl, a.M_mono ?_ (a.M_bound h0), b.M_mono ?_ (b.M_bound h1)⟩
  · rintro k ⟨h2, h3, h4, q, hq, hc⟩
    exact ⟨h2, h3, h4, q, List.mem_append_left _ hq, hc⟩
  · rintro k ⟨h2, h3, h4, q, hq, hc⟩
    exact ⟨h2, h3, h4, q, List.mem_append_right _ hq, hc⟩
 M_move := by
  rintro w w1 base ok x cs hm ⟨c0, c1, rfl, h0, h1⟩
  exact ⟨c0, c1, rfl, a.M_move hm h0, b.M_move hm h1⟩
 M_lower := by
  rintro w base base' ok x cs hb ⟨c0, c1, rfl, h0, h1⟩
  exact ⟨c0, c1, rfl, a.M_lower hb h0, b.M_lower hb h1⟩
/-- A Lean structure by its fields. -/
def iso {α β : Type} (d : Kd α) (f : β → α) : Kd β where
 sz := d.sz
 E := d.E
 K := fun w x cs => d.K w (f x) cs
 M := fun w base ok x cs => d.M w base ok (f x) cs
 K_len := d.K_len
 K_one := d.K_one
 K_below := d.K_below
 K_of_M := d.K_of_M
 M_mono := d.M_mono
 M_bound := d.M_bound
 M_move := d.M_move
 M_lower := d.M_lower
/-- Nothing is of this kind: where the nesting's depth is used up. -/
def bot {α : Type} (sz : Nat) (E : List Nat) : Kd α where
 sz := sz
 E := E
 K := fun _ _ _ => False
 M := fun _ _ _ _ _ => False
 K_len := fun h => h.elim
 K_one := fun h => h.elim
 K_below := fun _ h => h
 K_of_M := fun h => h
 M_mono := fun _ h => h
 M_bound := fun h => h
 M_move := fun _ h => h
 M_lower := fun _ h => h
/-- A type nested in itself: nested at most n deep .. -/
def upto {α : Type} (F : Kd α → Kd α) (sz : Nat) (E : List Nat) : Nat → Kd α
 | 0 => bot sz E
 | n + 1 => F (upto F sz E n)
theorem C_get {α : Type} {d : Kd α} {w : World} {A : Option Addr} {n : Nat} {xs : List α} (h : d.C w A n xs) (z : α) (i : Int) (h0 : 0 ≤ i) (h1 : i < n) :
 ∃ ad c, A = some ad ∧ c.length = d.sz ∧ d.K w (xs.getD i.toNat z) c ∧ ∀ j u, c[j]? = some u → w.cell? (ad.add (i.toNat * d.sz + j)) = some u := ReadsRow.get_ h z i h0 h1
/-- What an append leaves: the old elements' rows and the new one's are not the new row's block. -/
theorem R_appended {α : Type} {d : Kd α} {e base : Nat} {ok okp : Nat → Prop} {W w1 : World} {v v1 : Value} {xs : List α} {p : α} {inner cs : List Value} (h0 : ∀ k, v.ownBlock = some k → ok k) (hr : Reps (d.M W base (fun k => ok k ∧ some k ≠ v.ownBlock)) d.sz xs inner) (hp : d.M W base okp p cs) (hokp : ∀ k, okp k → ok k ∧ some k ≠ v.ownBlock) (hfresh : ∀ k, W.heap.size ≤ k → ok k)
   (hown : w1.ownsRow base e d.sz v1 (xs.length + 1) (inner ++ cs)) (hg : W.grownBy w1 v.ownBlock) (hat : v1.ownBlock = v.ownBlock ∨ ∃ b, v1.ownBlock = some b ∧ W.heap.size ≤ b) : d.R e w1 base ok v1 (xs ++ [p]) := by
 have hne : ∀ k, some k ≠ v.ownBlock → k < W.heap.size → some k ≠ v1.ownBlock := by
   intro k hk hlt
   rcases hat with hat | ⟨b, hb, hle⟩
   · rw [hat]; exact hk
   · rw [hb]
     intro he
     injection he with he
     omega
 have step : ∀ {q : α} {c : List Value} {o : Nat → Prop}, d.M W base o q c → (∀ k, o k → ok k ∧ some k ≠ v.ownBlock) → d.M w1 base (fun k => ok k ∧ some k ≠ v1.ownBlock) q c := by
   intro q c o hq ho
   have h1 := d.M_move (w1 := w1) (fun k hk => hg.block k hk.2.2.1 (ho k hk.1).2) (d.M_bound hq)
   exact d.M_mono (fun k hk => ⟨(ho k hk.1).1, hne k (ho k hk.1).2 hk.2.2.1⟩) h1
 refine ⟨fun k hk => ?_, inner ++ cs, by rw [List.length_append, List.length_singleton]; exact hown, ?_⟩
 · rcases hat with hat | ⟨b, hb, hle⟩
   · exact h0 k (hat ▸ hk)
   · rw [hb] at hk
     injection hk with hk
     exact hfresh k (by omega)
 · exact (hr.imp_ (fun _ _ hq => step hq (fun _ hk => hk))).snoc (step hp hokp) (d.K_len (d.K_of_M hp))
section
variable {P : Program} {ops : Array Oper} {rest : List Oper} {o : Oper} {a : Act} {Q : Exit → Act → World → Prop} {α : Type}
/-- append(v, x), behind 'at_builtin'; the goal's world is 'W.alloc' of the variadic's box; x's cells are cs, made (its rows satisfy okp). hfresh: a block that is new at W is ok. -/
theorem R_append (d : Kd α) {w0 W : World} (base : Nat) (hgd : o.guard = none) (s x : Operand) (t e : TypeId) (z : Value) (bytes : Nat)
  (ho : o.op = .call { callee := .builtin .append, args := #[s, x], argTypes := #[t, t] })
  (ht : P.underlying t = some (.slice e)) (hinfo : (P.info? e).map (fun i => (i.zero, i.size, i.bytes)) = some (some z, d.sz, bytes)) (hz : z.cells.size = d.sz) (hs0 : 0 < d.sz) (hb0 : 0 < bytes)
  (v : Value) (xs : List α) (p : α) (cs : List Value) (ok okp : Nat → Prop) (hs : a.eval s = v) (hx : a.eval x = .slice (some ⟨W.heap.size, 0, none⟩) 1 1) (hp : d.M W base okp p cs) (hokp : ∀ k, okp k → ok k ∧ some k ≠ v.ownBlock) (hfresh : ∀ k, W.heap.size ≤ k → ok k)
  (HO : d.R e W base ok v xs) (HB : Below base w0 W) (hbase : base ≤ W.heap.size) (hl : (xs.length + 1) * bytes ≤ 140737488355328)
  (h : ∀ v1 w1, d.R e w1 base ok v1 (xs ++ [p]) → Below base w0 w1 → W.grownBy w1 v.ownBlock → (v1.ownBlock = v.ownBlock ∨ ∃ b, v1.ownBlock = some b ∧ W.heap.size ≤ b) → wpList P ops Q rest (a.put o.dst v1) w1) :
  wpList P ops Q (o :: rest) a (W.alloc (.cells cs.toArray e)) := by
 obtain ⟨h0, inner, hown, hr⟩ := HO
 refine print_append_cells base hgd s x t e z d.sz bytes ho ht hinfo hz hs0 hb0 v xs.length inner cs hs hx (d.K_len (d.K_of_M hp)) (d.K_one (d.K_of_M hp)) hown HB hbase hl ?_
 intro v1 w1 hown1 hb1 hg1 hat1
 exact h v1 w1 (R_appended h0 hr hp hokp hfresh hown1 hg1 hat1) hb1 hg1 hat1
end
section
variable {P : Program} {ops : Array Oper} {o : Oper} {a : Act} {Q : Exit → Act → World → Prop} {Kc : Act → World → Prop} {α : Type}
end
theorem reads_of_C {α : Type} {enc : α → Value} {d : α} {h1 : ∀ x, (enc x).oneCell' = true} {w : World} {A : Option Addr} {n : Nat} {xs : List α} (h : (scalar enc h1).C w A n xs) : ReadsOf enc d w A n xs := by
 refine ⟨h.1, h.2.1, fun hn => ?_⟩
 obtain ⟨ad, e, hc⟩ := h.2.2 hn
 refine ⟨ad, e, fun j hj => ?_⟩
 have hl : j < xs.length := by have := h.1; omega
 obtain ⟨c, _, hK, hcell⟩ := hc j _ (List.getElem?_eq_getElem hl)
 have hK' : c = [enc xs[j]] := hK
 subst hK'
 have := hcell 0 _ rfl
 simpa [scalar, List.getD_eq_getElem?_getD, List.getElem?_eq_getElem hl] using this
end Kd
namespace Kd
/-- F says the more, the more its argument says. -/
structure Mono {α β : Type} (F : Kd α → Kd β) : Prop where
 sz : ∀ d d' : Kd α, d.sz = d'.sz → (F d).sz = (F d').sz
 K : ∀ d d' : Kd α, d.sz = d'.sz → (∀ w x cs, d.K w x cs → d'.K w x cs) → ∀ w x cs, (F d).K w x cs → (F d').K w x cs
 M : ∀ d d' : Kd α, d.sz = d'.sz → (∀ w base ok x cs, d.M w base ok x cs → d'.M w base ok x cs) → ∀ w base ok x cs, (F d).M w base ok x cs → (F d').M w base ok x cs
theorem C_imp {α : Type} {d d' : Kd α} (hs : d.sz = d'.sz) (h : ∀ w x cs, d.K w x cs → d'.K w x cs) {w : World} {A : Option Addr} {n : Nat} {xs : List α} (hc : d.C w A n xs) : d'.C w A n xs := by
 unfold C at hc ⊢
 rw [← hs]
 exact hc.imp_ (Below.refl _ _) (fun _ _ hp => h _ _ _ hp)
theorem R_imp {α : Type} {d d' : Kd α} (hs : d.sz = d'.sz) (h : ∀ w base ok x cs, d.M w base ok x cs → d'.M w base ok x cs) {e : Nat} {w : World} {base : Nat} {ok : Nat → Prop} {v : Value} {xs : List α} (hr : d.R e w base ok v xs) : d'.R e w base ok v xs := by
 unfold R at hr ⊢
 rw [← hs]
 exact ⟨hr.1, hr.2.imp_ (fun _ _ hp => h _ _ _ _ _ hp)⟩
section
variable {α : Type} {F : Kd α → Kd α} {sz : Nat} {E : List Nat} {hs : ∀ n, (upto F sz E n).sz = sz} {hE : ∀ n q, q ∈ (upto F sz E n).E → q ∈ E}
end
end Kd
namespace Kd
/-- Behind an append to v (it left v1): what is held apart from v is held apart from v1. -/
theorem R_after {α : Type} {d : Kd α} {e base : Nat} {ok : Nat → Prop} {W w1 : World} {u v v1 : Value} {xs : List α} (h : d.R e W base (fun k => ok k ∧ some k ≠ v.ownBlock) u xs) (hg : W.grownBy w1 v.ownBlock) (hat : v1.ownBlock = v.ownBlock ∨ ∃ b, v1.ownBlock = some b ∧ W.heap.size ≤ b) : d.R e w1 base (fun k => ok k ∧ some k ≠ v1.ownBlock) u xs := by
 refine R_mono (R_move (R_bound h) (fun k hk => hg.block k hk.2.2.1 hk.1.2)) (fun k hk => ⟨hk.1.1, ?_⟩)
 rcases hat with hat | ⟨b, hb, hle⟩
 · rw [hat]; exact hk.1.2
 · rw [hb]
   intro he
   injection he with he
   have := hk.2.2.1
   omega
end Kd
namespace Kd
section
variable {α β : Type} {d : Kd α} {d' : Kd β} {e e' : Nat} {w w1 W : World} {base b b' : Nat} {ok ok' okv oku : Nat → Prop} {v u : Value} {xs : List α} {ys : List β}
theorem R_drew (h : d.R e w base ok v xs) : d.R e w.drew base ok v xs := R_below h (below_drew (Below.refl _ _))
theorem R_drewN (h : d.R e w base ok v xs) (m : Nat) : d.R e (w.drewN m) base ok v xs := R_below h (pw_below_drewN (Below.refl _ _) m)
theorem C_alloc {A : Option Addr} {n : Nat} (h : d.C w A n xs) (o : Obj) : d.C (w.alloc o) A n xs := C_below h (below_alloc (Below.refl _ _) o)
theorem C_drew {A : Option Addr} {n : Nat} (h : d.C w A n xs) : d.C w.drew A n xs := C_below h (below_drew (Below.refl _ _))
theorem C_drewN {A : Option Addr} {n : Nat} (h : d.C w A n xs) (m : Nat) : d.C (w.drewN m) A n xs := C_below h (pw_below_drewN (Below.refl _ _) m)
theorem C_nil (d : Kd α) (w : World) : d.C w none ([] : List α).length [] := ⟨rfl, by simp, fun h => absurd h (Nat.lt_irrefl 0)⟩
theorem C_max {A : Option Addr} {n : Nat} (h : d.C w A n xs) : n ≤ 9223372036854775807 := h.2.1
theorem R_reads' {A : Option Addr} {n c : Nat} (h : d.R e w base ok (.slice A n c) xs) : n = xs.length ∧ n ≤ c ∧ d.C w A xs.length xs := by
 obtain ⟨A', c', he, hl, hr⟩ := R_reads h
 injection he with h1 h2 h3
 subst h1
 exact ⟨h2, by omega, hr⟩
theorem R_lt (h : d.R e w base ok v xs) : ∀ k, v.ownBlock = some k → k < w.heap.size := by
 obtain ⟨inner, ho⟩ := R_own h
 exact own_lt ho
theorem R_base (h : d.R e w base ok v xs) : ∀ k, v.ownBlock = some k → base ≤ k := by
 obtain ⟨inner, ho⟩ := R_own h
 exact own_base ho
end
section
variable {w W : World} {A : Option Addr} {n : Nat}
theorem at_int {k : IntKind} {xs : List Int} (h : (Kd.int k).C w A n xs) (i : Int) (h0 : 0 ≤ i) (h1 : i < n) : ∃ ad, A = some ad ∧ w.cell? (ad.add i.toNat) = some (.int k (rd xs i)) :=
 ReadsOf.at_ (reads_of_C (enc := Value.int k) (d := (0 : Int)) (h1 := fun _ => rfl) h) i h0 h1
theorem at_string {xs : List ByteArray} (h : Kd.string.C w A n xs) (i : Int) (h0 : 0 ≤ i) (h1 : i < n) : ∃ ad, A = some ad ∧ w.cell? (ad.add i.toNat) = some (.string (rdOf ByteArray.empty xs i)) :=
 ReadsOf.at_ (reads_of_C (enc := Value.string) (d := ByteArray.empty) (h1 := fun _ => rfl) h) i h0 h1
variable {α : Type} {enc : α → Value} {h1 : ∀ x, (enc x).oneCell' = true} {e base g cap : Nat} {ok : Nat → Prop} {xs : List α}
end
section
variable {P : Program} {ops : Array Oper} {rest : List Oper} {o : Oper} {a : Act} {Q : Exit → Act → World → Prop}
theorem event_run {W w1 : World} {v : Value} (hgd : o.guard = none) (hrun : (execOp a.eval o).run P W = .ok (.value v) w1) (h : wpList P ops Q rest (a.put o.dst v) w1) : wpList P ops Q (o :: rest) a W := by
 refine wpList_plain hgd fun K hK => ?_
 unfold Oper.wp
 rw [hrun]
 exact hK _ _ h
variable {α : Type}
/-- A literal '[]T{..}': inner its cells. 'hd' picks the operation; 'hrun' by '(by go_simp; rfl)'. -/
theorem R_lit (d : Kd α) {w0 W : World} (base e : Nat) (hgd : o.guard = none) {N : Tmp} (_hd : o.dst = some N) {xs : List α} {inner : List Value} {ok okp : Nat → Prop}
   (hrun : (execOp a.eval o).run P W = .ok (.value (.slice (some ⟨W.heap.size, 0, none⟩) xs.length xs.length)) (W.alloc (.cells inner.toArray e)))
   (hrep : Reps (d.M W base okp) d.sz xs inner) (hok : ∀ k, okp k → ok k) (hfresh : ok W.heap.size) (HB : Below base w0 W) (hbase : base ≤ W.heap.size) (hm : xs.length ≤ 9223372036854775807)
   (h : ∀ v1 w1, d.R e w1 base ok v1 xs → Below base w0 w1 → W.grownBy w1 none → (∃ b, v1.ownBlock = some b ∧ W.heap.size ≤ b) → wpList P ops Q rest (a.put o.dst v1) w1) : wpList P ops Q (o :: rest) a W := by
 refine event_run hgd hrun (h _ _ ⟨fun k hk => ?_, inner, ?_, ?_⟩ (HB.alloc hbase _) (World.grownBy_alloc W _ none) ⟨W.heap.size, by simp [Value.ownBlock], Nat.le_refl _⟩)
 · have : W.heap.size = k := by simpa [Value.ownBlock] using hk
   subst this
   exact hfresh
 · have h2 := World.ownsRow_lit (base := base) (e := e) (size := d.sz) W inner.toArray xs.length hbase (by simpa [maxLen] using hm) (by simpa using hrep.1)
   simpa using h2
 · refine hrep.imp_ (fun p c hp => d.M_mono (fun k hk => ⟨hok k hk.1, fun he => ?_⟩) (M_below (d.M_bound hp) (below_alloc (Below.refl _ _) _)))
   have h3 : k = W.heap.size := by simpa [Value.ownBlock] using he
   have := hk.2.2.1
   omega
end
end Kd
section
variable {P : Program}
end
/-- A row of one's own that may begin inside its block. -/
def QRow (w : World) (base : Nat) (e : TypeId) (size : Nat) (v : Value) (n : Nat) (xs : List Value) : Prop :=
 xs.length = n * size ∧
 ((n = 0 ∧ ∃ A, v = .slice A 0 0 ∧ ∀ a, A = some a → base ≤ a.block ∧ ∃ cur, w.heap[a.block]? = some (.cells cur e (0, 0))) ∨
  ∃ g off cap cur, v = .slice (some ⟨g, off * size, none⟩) n cap ∧ base ≤ g ∧ w.heap[g]? = some (.cells cur e (0, 0)) ∧ n ≤ cap ∧ off + cap ≤ maxLen ∧ cur.size = (off + cap) * size ∧ (cur.toList.drop (off * size)).take (n * size) = xs)
section
variable {w w1 : World} {base n size : Nat} {e : TypeId} {v : Value} {xs : List Value}
end
section
variable {P : Program}
end
namespace Kd
def Q {α : Type} (d : Kd α) (e : Nat) (w : World) (base : Nat) (ok : Nat → Prop) (v : Value) (xs : List α) : Prop :=
 (∀ k, v.ownBlock = some k → ok k) ∧ ∃ inner, QRow w base e d.sz v xs.length inner ∧ Reps (d.M w base (fun k => ok k ∧ some k ≠ v.ownBlock)) d.sz xs inner
section
variable {α : Type} {d : Kd α} {e : Nat} {w w1 W : World} {base : Nat} {ok ok' : Nat → Prop} {v : Value} {xs : List α}
end
section
variable {P : Program} {ops : Array Oper} {rest : List Oper} {o : Oper} {a : Act} {Q' : Exit → Act → World → Prop} {Kc : Act → World → Prop} {α : Type}
end
end Kd
namespace Kd
section
variable {α : Type} {d : Kd α} {e e' : Nat} {w w1 W : World} {base : Nat} {ok : Nat → Prop} {u v : Value} {xs : List α}
theorem R_typed (h : d.R e w base ok v xs) : ∀ k, v.ownBlock = some k → ∃ cells, w.heap[k]? = some (.cells cells e (0, 0)) := by
 obtain ⟨inner, ho⟩ := R_own h
 exact fun k hk => own_typed ho k hk
theorem R_over' (h : d.R e W base ok u xs) (hty : ∀ k, v.ownBlock = some k → ∃ cells, W.heap[k]? = some (.cells cells e' (0, 0))) (ht : ∀ q, q ∈ e :: d.E → q ≠ e') (hg : W.grownBy w1 v.ownBlock) : d.R e w1 base ok u xs := by
 refine R_mono (R_move (R_bound h) (fun k hk => hg.block k hk.2.2.1 (fun he => ?_))) (fun _ hk => hk.1)
 obtain ⟨_, _, _, q, hq, cells, hc⟩ := hk
 obtain ⟨cells', hc'⟩ := hty k he.symm
 rw [hc] at hc'
 injection hc' with hc'
 injection hc' with _ hc'
 exact ht q hq hc'
theorem R_elder' (hu : d.R e W base ok u xs) (hbase : ∀ k, v.ownBlock = some k → W.heap.size ≤ k) (hb : Below W.heap.size W w1) : d.R e w1 base (fun k => ok k ∧ some k ≠ v.ownBlock) u xs :=
 R_mono (R_move (R_bound hu) (fun k hk => hb.block k hk.2.2.1)) (fun k hk => ⟨hk.1, fun he => by have := hbase k he.symm; have := hk.2.2.1; omega⟩)
theorem R_new' (h : d.R e w1 W.heap.size ok v xs) (hlt : ∀ k, u.ownBlock = some k → k < W.heap.size) : d.R e w1 W.heap.size (fun k => ok k ∧ some k ≠ u.ownBlock) v xs :=
 R_mono (R_bound h) (fun k hk => ⟨hk.1, fun he => by have := hlt k he.symm; have := hk.2.1; omega⟩)
theorem fresh' (hlt : ∀ k, u.ownBlock = some k → k < W.heap.size) : ∀ k, W.heap.size ≤ k → some k ≠ u.ownBlock := fun k hk he => by have := hlt k he.symm; omega
end
end Kd
namespace Kd
section
variable {α : Type} {d : Kd α} {e base g n cap : Nat} {ok okp : Nat → Prop} {W : World} {xs : List α}
end
end Kd
namespace Kd
section
variable {α : Type} {F : Kd α → Kd α} {sz : Nat} {E : List Nat} {hs : ∀ n, (upto F sz E n).sz = sz} {hE : ∀ n q, q ∈ (upto F sz E n).E → q ∈ E}
end
end Kd
namespace Kd
theorem reps_append {α : Type} {R : α → List Value → Prop} {size : Nat} {ps qs : List α} {cs ds : List Value} (h : Reps R size ps cs) (h' : Reps R size qs ds) : Reps R size (ps ++ qs) (cs ++ ds) := by
 refine ⟨by rw [List.length_append, List.length_append, h.1, h'.1, Nat.add_mul], fun j p hj => ?_⟩
 rcases Nat.lt_or_ge j ps.length with hlt | hge
 · rw [List.getElem?_append_left hlt] at hj
   have hle : j * size + size ≤ cs.length := by rw [h.1, ← Nat.succ_mul]; exact Nat.mul_le_mul_right _ hlt
   rw [List.drop_append_of_le_length (by omega), List.take_append_of_le_length (by rw [List.length_drop]; omega)]
   exact h.2 j p hj
 · rw [List.getElem?_append_right hge] at hj
   have h2 := h'.2 (j - ps.length) p hj
   have hle : ps.length * size ≤ j * size := Nat.mul_le_mul_right _ hge
   rw [List.drop_append, List.drop_eq_nil_of_le (by rw [h.1]; exact hle), List.nil_append, h.1, ← Nat.sub_mul]
   exact h2
section
variable {P : Program} {ops : Array Oper} {rest : List Oper} {o : Oper} {a : Act} {Q : Exit → Act → World → Prop} {α : Type}
/-- append(v, ys...): Rr is what is known of a read element's cells (d.K W; or k<T>.K w0 for a row that came in), hKM: it may stand as_ made. -/
theorem R_append_rows (d : Kd α) {Rr : α → List Value → Prop} {w0 W : World} (base : Nat) (hgd : o.guard = none) (s x : Operand) (t e : TypeId) (z : Value) (bytes : Nat)
  (ho : o.op = .call { callee := .builtin .append, args := #[s, x], argTypes := #[t, t] })
  (ht : P.underlying t = some (.slice e)) (hinfo : (P.info? e).map (fun i => (i.zero, i.size, i.bytes)) = some (some z, d.sz, bytes)) (hz : z.cells.size = d.sz) (hs0 : 0 < d.sz) (hb0 : 0 < bytes)
  (v : Value) (xs ys : List α) (A : Option Addr) (m c : Nat) (ok okp : Nat → Prop) (hs : a.eval s = v) (hx : a.eval x = .slice A m c)
  (HO : d.R e W base ok v xs) (HR : ReadsRow Rr d.sz W A m ys) (hKM : ∀ x cs, Rr x cs → d.M W base okp x cs) (hokp : ∀ k, okp k → ok k ∧ some k ≠ v.ownBlock) (hfresh : ∀ k, W.heap.size ≤ k → ok k)
  (HB : Below base w0 W) (hbase : base ≤ W.heap.size) (hl : (xs.length + m) * bytes ≤ 140737488355328)
  (h : ∀ v1 w1, d.R e w1 base ok v1 (xs ++ ys) → Below base w0 w1 → W.grownBy w1 v.ownBlock → (v1.ownBlock = v.ownBlock ∨ ∃ b, v1.ownBlock = some b ∧ W.heap.size ≤ b) → wpList P ops Q rest (a.put o.dst v1) w1) :
  wpList P ops Q (o :: rest) a W := by
 obtain ⟨i0, hi, hzz⟩ := Option.map_eq_some_iff.1 hinfo
 simp only [Prod.mk.injEq] at hzz
 obtain ⟨hz0, hz1, hz2⟩ := hzz
 have hm : ys.length = m := HR.1
 have hlen : xs.length + m ≤ 140737488355328 := Nat.le_trans (Nat.le_mul_of_pos_right _ hb0) hl
 obtain ⟨hok, inner, hown, hr⟩ := HO
 have hrun : ∃ v1 w1, (Builtin.append_ #[t, t] o.type #[v, .slice A m c]).run P W = .ok v1 w1 ∧ d.R e w1 base ok v1 (xs ++ ys) ∧ W.grownBy w1 v.ownBlock ∧ (v1.ownBlock = v.ownBlock ∨ ∃ b, v1.ownBlock = some b ∧ W.heap.size ≤ b) := by
  rcases A with _ | ad
  · have h0 : m = 0 := by
      rcases Nat.eq_zero_or_pos m with h0 | h0
      · exact h0
      · obtain ⟨ad, h, _⟩ := HR.2.2 h0
        cases h
    subst h0
    obtain rfl : ys = [] := List.eq_nil_of_length_eq_zero hm
    refine ⟨v, W, ?_, by rw [List.append_nil]; exact ⟨hok, inner, hown, hr⟩, World.grownBy.refl W _, .inl rfl⟩
    rcases hown.2 with ⟨rfl, hn⟩ | ⟨g, cap, cur, rfl, _, _, hnc, _⟩
    · simp [Builtin.append_, run_underlying ht, sizeOf, typeInfo, hi, Builtin.lenOf, Builtin.firstCells]
    · simp [Builtin.append_, run_underlying ht, sizeOf, typeInfo, hi, Builtin.lenOf, Builtin.firstCells, hnc, storeCells]
  · obtain ⟨news, hnr, hnc⟩ := ReadsRow.inner_ HR
    have hnM : Reps (d.M W base okp) d.sz ys news := hnr.imp_ (fun p c hp => hKM p c hp)
    have hone : ∀ u ∈ news, u.oneCell' = true := by
      intro u hu
      obtain ⟨q, hq, rfl⟩ := List.mem_iff_getElem.1 hu
      have hql : q / d.sz < ys.length := by
        rw [Nat.div_lt_iff_lt_mul hs0]
        rw [← hnM.1]
        exact hq
      have hc := hnM.2 (q / d.sz) _ (List.getElem?_eq_getElem hql)
      refine d.K_one (d.K_of_M hc) _ ?_
      rw [List.mem_iff_getElem?]
      refine ⟨q % d.sz, ?_⟩
      rw [List.getElem?_take, if_pos (Nat.mod_lt _ hs0), List.getElem?_drop, Nat.mul_comm, Nat.div_add_mod, List.getElem?_eq_getElem hq]
    obtain ⟨v1, w1, hrun, h2, hg, _, hat⟩ := run_append_own_at (P := P) W base t o.type e i0 z d.sz bytes ht hi hz0 hz1 hz2 hz hs0 v xs.length inner hown ad m c news (by rw [hnM.1, hm]) hnc hone (by simp only [maxLen]; omega) hl hbase
    have hat' : v1.ownBlock = v.ownBlock ∨ ∃ b, v1.ownBlock = some b ∧ W.heap.size ≤ b := by
      rcases hat with hat | hat
      · exact .inl hat
      · exact .inr ⟨_, hat, Nat.le_refl _⟩
    have hne : ∀ k, some k ≠ v.ownBlock → k < W.heap.size → some k ≠ v1.ownBlock := by
      intro k hk hlt
      rcases hat' with hat | ⟨b, hb, hle⟩
      · rw [hat]; exact hk
      · rw [hb]
        intro he
        injection he with he
        omega
    have step : ∀ {q : α} {c : List Value} {o : Nat → Prop}, d.M W base o q c → (∀ k, o k → ok k ∧ some k ≠ v.ownBlock) → d.M w1 base (fun k => ok k ∧ some k ≠ v1.ownBlock) q c := by
      intro q c o hq ho
      have h1 := d.M_move (w1 := w1) (fun k hk => hg.block k hk.2.2.1 (ho k hk.1).2) (d.M_bound hq)
      exact d.M_mono (fun k hk => ⟨(ho k hk.1).1, hne k (ho k hk.1).2 hk.2.2.1⟩) h1
    refine ⟨v1, w1, hrun, ⟨fun k hk => ?_, inner ++ news, by rw [List.length_append, hm]; exact h2, reps_append (hr.imp_ (fun _ _ hq => step hq (fun _ hk => hk))) (hnM.imp_ (fun _ _ hq => step hq hokp))⟩, hg, hat'⟩
    rcases hat' with hat | ⟨b, hb, hle⟩
    · exact hok k (hat ▸ hk)
    · rw [hb] at hk
      injection hk with hk
      exact hfresh k (by omega)
 obtain ⟨v1, w1, hr1, h1, hg, hat⟩ := hrun
 refine wpList_plain hgd fun K hK => ?_
 unfold Oper.wp execOp
 simp only [ho, resolve, invoke, builtin, Sem.run_bind, Sem.run_pure, Result.andThen_ok, List.map_toArray, List.map_cons, List.map_nil, hs, hx, hr1]
 exact hK _ _ (h v1 w1 h1 (HB.grown hg hbase (own_base hown)) hg hat)
end
end Kd
namespace Kd
section
variable {P : Program} {ops : Array Oper} {rest : List Oper} {o : Oper} {a : Act} {Q : Exit → Act → World → Prop} {α : Type}
end
end Kd
theorem add_add (a : Addr) (i j : Nat) : (a.add i).add j = a.add (i + j) := by
 unfold Addr.add
 by_cases h1 : i = 0 <;> by_cases h2 : j = 0 <;> simp [h1, h2, Nat.add_assoc]
namespace Kd
section
variable {α : Type} {k : Kd α} {w : World} {A : Option Addr} {xs : List α} {m c : Nat}
end
end Kd
section
variable {P : Program}
end
theorem below_size {w W : World} (h : Below w.heap.size w W) : w.heap.size ≤ W.heap.size := h.size
theorem below_step {w W w2 : World} (h : Below w.heap.size w W) (k : Below W.heap.size W w2) : Below w.heap.size w w2 := below_then h h.size k
theorem ReadsInt.nil (W : World) (k : IntKind) : ReadsInt W k none ([] : List Int).length [] := ⟨rfl, by simp, fun h => absurd h (Nat.lt_irrefl 0)⟩
theorem ReadsInt.drewN {W : World} {k : IntKind} {A : Option Addr} {n : Nat} {xs : List Int} (h : ReadsInt W k A n xs) (m : Nat) : ReadsInt (W.drewN m) k A n xs := h
theorem below_set {w W : World} {g j : Nat} {v : Value} (h : Below w.heap.size w W) (hg : w.heap.size ≤ g) : Below w.heap.size w (W.setCell ⟨g, j, none⟩ v) := h.setCell hg _
theorem keep_cell {w W : World} {g : Nat} (h : KeepBut w W g none) {a : Addr} {v : Value} (hc : w.cell? a = some v) (hne : a.block ≠ g) : W.cell? a = some v := by
 have := h.2 a.block (World.block_lt_of_cell? w a hc) hne (by simp)
 simpa [World.cell?, this] using hc
theorem add_block (a : Addr) (i : Nat) : (a.add i).block = a.block := by unfold Addr.add; split <;> rfl
theorem ReadsOf.nil {α : Type} (enc : α → Value) (d : α) (W : World) : ReadsOf enc d W none ([] : List α).length [] := ⟨rfl, by simp, fun h => absurd h (Nat.lt_irrefl 0)⟩
theorem ReadsOf.drewN {α : Type} {enc : α → Value} {d : α} {W : World} {A : Option Addr} {n : Nat} {xs : List α} (h : ReadsOf enc d W A n xs) (m : Nat) : ReadsOf enc d (W.drewN m) A n xs := h
theorem ReadsInt.keep {w W : World} {k : IntKind} {A : Option Addr} {n g : Nat} {xs : List Int} (h : ReadsInt w k A n xs) (hk : KeepBut w W g none) (hf : ∀ ad, A = some ad → 0 < n → ad.block ≠ g) : ReadsInt W k A n xs :=
 ⟨h.1, h.2.1, fun hn => by
  obtain ⟨ad, e, hc⟩ := h.2.2 hn
  exact ⟨ad, e, fun j hj => keep_cell hk (hc j hj) (by rw [add_block]; exact hf ad e hn)⟩⟩
theorem ReadsOf.keep {α : Type} {enc : α → Value} {d : α} {w W : World} {A : Option Addr} {n g : Nat} {xs : List α} (h : ReadsOf enc d w A n xs) (hk : KeepBut w W g none) (hf : ∀ ad, A = some ad → 0 < n → ad.block ≠ g) : ReadsOf enc d W A n xs :=
 ⟨h.1, h.2.1, fun hn => by
  obtain ⟨ad, e, hc⟩ := h.2.2 hn
  exact ⟨ad, e, fun j hj => keep_cell hk (hc j hj) (by rw [add_block]; exact hf ad e hn)⟩⟩
theorem blk_put {w : World} {g : Nat} {t : TypeId} {cs cs' : Array Value} (h : w.heap[g]? = some (.cells cs t (0, 0))) (i : Nat) (u : Value) (e : cs.setIfInBounds i u = cs') : (w.setCell ⟨g, i, none⟩ u).heap[g]? = some (.cells cs' t (0, 0)) := e ▸ blk_set h i u
theorem below_drew1 {base : Nat} {w W : World} (h : Below base w W) : Below base w W.drew := h.drew
namespace Kd
section
variable {α β : Type} {d : Kd α} {d' : Kd β} {e e' base base' n : Nat} {ok ok' : Nat → Prop} {w W w1 W1 : World} {v u : Value} {xs : List α} {ys : List β} {A : Option Addr} {c : Nat}
end
section
variable {α : Type} {enc : α → Value} {h1 : ∀ x, (enc x).oneCell' = true} {w W : World} {A : Option Addr} {n g : Nat} {xs : List α}
end
end Kd
namespace Kd
section
variable {α : Type} {d : Kd α} {e base g : Nat} {ok : Nat → Prop} {w w1 : World} {v : Value} {xs : List α} {o : Obj}
end
end Kd
section
variable {P : Program} {ops : Array Oper} {rest : List Oper} {o : Oper} {a : Act} {Q : Exit → Act → World → Prop}
theorem box_event {W : World} (hgd : o.guard = none) {N : Tmp} (_hd : o.dst = some N) {cs : Array Value} {t : TypeId}
  (hrun : (execOp a.eval o).run P W = .ok (.value (.pointer (some ⟨W.heap.size, 0, none⟩))) (W.alloc (.cells cs t (0, 0))))
  (h : ∀ g, g = W.heap.size → ∀ w1, w1.heap[g]? = some (.cells cs t (0, 0)) → Below W.heap.size W w1 → wpList P ops Q rest (a.put o.dst (.pointer (some ⟨g, 0, none⟩))) w1) : wpList P ops Q (o :: rest) a W :=
 Kd.event_run hgd hrun (h _ rfl _ (blk_new W _) (below_alloc (Below.refl _ _) _))
end
namespace Kd
section
variable {α : Type} {enc : α → Value} {h1 : ∀ x, (enc x).oneCell' = true} {e base g n cap : Nat} {ok : Nat → Prop} {W : World} {xs : List α}
end
end Kd
section
variable {P : Program} {ops : Array Oper} {rest : List Oper} {o : Oper} {a : Act} {Q : Exit → Act → World → Prop}
end
namespace Kd
section
variable {α : Type} {enc : α → Value} {h1 : ∀ x, (enc x).oneCell' = true} {e base g n cap : Nat} {ok : Nat → Prop} {W : World} {xs : List α}
end
end Kd
section
variable {P : Program} {ops : Array Oper} {rest : List Oper} {o : Oper} {a : Act} {Q : Exit → Act → World → Prop} {W : World}
theorem gate_dst {N : Tmp} (_hN : o.dst = some N) (h : wpList P ops Q (o :: rest) a W) : wpList P ops Q (o :: rest) a W := h
end
section
variable {P : Program} {ops : Array Oper} {o : Oper} {a : Act} {Q : Exit → Act → World → Prop} {Kc : Act → World → Prop}
theorem event_step {W w1 : World} {v : Value} (hw : Region.wanted o (yielded ops a.tmps) = true) (hrun : (execOp a.eval o).run P W = .ok (.value v) w1) (h : Kc (a.put o.dst v) w1) : if Region.wanted o (yielded ops a.tmps) = true then Oper.wp P o a W Kc Q else Kc (a.put o.dst undef) W := by
 rw [if_pos hw]
 unfold Oper.wp
 rw [hrun]
 exact h
namespace Kd
variable {α : Type}
theorem R_lit_step (d : Kd α) {w0 W : World} (base e : Nat) (hw : Region.wanted o (yielded ops a.tmps) = true) {N : Tmp} (_hd : o.dst = some N) {xs : List α} {inner : List Value} {ok okp : Nat → Prop}
   (hrun : (execOp a.eval o).run P W = .ok (.value (.slice (some ⟨W.heap.size, 0, none⟩) xs.length xs.length)) (W.alloc (.cells inner.toArray e)))
   (hrep : Reps (d.M W base okp) d.sz xs inner) (hok : ∀ k, okp k → ok k) (hfresh : ok W.heap.size) (HB : Below base w0 W) (hbase : base ≤ W.heap.size) (hm : xs.length ≤ 9223372036854775807)
   (h : ∀ v1 w1, d.R e w1 base ok v1 xs → Below base w0 w1 → W.grownBy w1 none → (∃ b, v1.ownBlock = some b ∧ W.heap.size ≤ b) → Kc (a.put o.dst v1) w1) : if Region.wanted o (yielded ops a.tmps) = true then Oper.wp P o a W Kc Q else Kc (a.put o.dst undef) W := by
 refine event_step hw hrun (h _ _ ⟨fun k hk => ?_, inner, ?_, ?_⟩ (HB.alloc hbase _) (World.grownBy_alloc W _ none) ⟨W.heap.size, by simp [Value.ownBlock], Nat.le_refl _⟩)
 · have : W.heap.size = k := by simpa [Value.ownBlock] using hk
   subst this
   exact hfresh
 · have h2 := World.ownsRow_lit (base := base) (e := e) (size := d.sz) W inner.toArray xs.length hbase (by simpa [maxLen] using hm) (by simpa using hrep.1)
   simpa using h2
 · refine hrep.imp_ (fun p c hp => d.M_mono (fun k hk => ⟨hok k hk.1, fun he => ?_⟩) (M_below (d.M_bound hp) (below_alloc (Below.refl _ _) _)))
   have h3 : k = W.heap.size := by simpa [Value.ownBlock] using he
   have := hk.2.2.1
   omega
theorem R_append_rows_step (d : Kd α) {Rr : α → List Value → Prop} {w0 W : World} (base : Nat) (hw : Region.wanted o (yielded ops a.tmps) = true) (s x : Operand) (t e : TypeId) (z : Value) (bytes : Nat)
  (ho : o.op = .call { callee := .builtin .append, args := #[s, x], argTypes := #[t, t] })
  (ht : P.underlying t = some (.slice e)) (hinfo : (P.info? e).map (fun i => (i.zero, i.size, i.bytes)) = some (some z, d.sz, bytes)) (hz : z.cells.size = d.sz) (hs0 : 0 < d.sz) (hb0 : 0 < bytes)
  (v : Value) (xs ys : List α) (A : Option Addr) (m c : Nat) (ok okp : Nat → Prop) (hs : a.eval s = v) (hx : a.eval x = .slice A m c)
  (HO : d.R e W base ok v xs) (HR : ReadsRow Rr d.sz W A m ys) (hKM : ∀ x cs, Rr x cs → d.M W base okp x cs) (hokp : ∀ k, okp k → ok k ∧ some k ≠ v.ownBlock) (hfresh : ∀ k, W.heap.size ≤ k → ok k)
  (HB : Below base w0 W) (hbase : base ≤ W.heap.size) (hl : (xs.length + m) * bytes ≤ 140737488355328)
  (h : ∀ v1 w1, d.R e w1 base ok v1 (xs ++ ys) → Below base w0 w1 → W.grownBy w1 v.ownBlock → (v1.ownBlock = v.ownBlock ∨ ∃ b, v1.ownBlock = some b ∧ W.heap.size ≤ b) → Kc (a.put o.dst v1) w1) :
  if Region.wanted o (yielded ops a.tmps) = true then Oper.wp P o a W Kc Q else Kc (a.put o.dst undef) W := by
 obtain ⟨i0, hi, hzz⟩ := Option.map_eq_some_iff.1 hinfo
 simp only [Prod.mk.injEq] at hzz
 obtain ⟨hz0, hz1, hz2⟩ := hzz
 have hm : ys.length = m := HR.1
 have hlen : xs.length + m ≤ 140737488355328 := Nat.le_trans (Nat.le_mul_of_pos_right _ hb0) hl
 obtain ⟨hok, inner, hown, hr⟩ := HO
 have hrun : ∃ v1 w1, (Builtin.append_ #[t, t] o.type #[v, .slice A m c]).run P W = .ok v1 w1 ∧ d.R e w1 base ok v1 (xs ++ ys) ∧ W.grownBy w1 v.ownBlock ∧ (v1.ownBlock = v.ownBlock ∨ ∃ b, v1.ownBlock = some b ∧ W.heap.size ≤ b) := by
  rcases A with _ | ad
  · have h0 : m = 0 := by
      rcases Nat.eq_zero_or_pos m with h0 | h0
      · exact h0
      · obtain ⟨ad, h, _⟩ := HR.2.2 h0
        cases h
    subst h0
    obtain rfl : ys = [] := List.eq_nil_of_length_eq_zero hm
    refine ⟨v, W, ?_, by rw [List.append_nil]; exact ⟨hok, inner, hown, hr⟩, World.grownBy.refl W _, .inl rfl⟩
    rcases hown.2 with ⟨rfl, hn⟩ | ⟨g, cap, cur, rfl, _, _, hnc, _⟩
    · simp [Builtin.append_, run_underlying ht, sizeOf, typeInfo, hi, Builtin.lenOf, Builtin.firstCells]
    · simp [Builtin.append_, run_underlying ht, sizeOf, typeInfo, hi, Builtin.lenOf, Builtin.firstCells, hnc, storeCells]
  · obtain ⟨news, hnr, hnc⟩ := ReadsRow.inner_ HR
    have hnM : Reps (d.M W base okp) d.sz ys news := hnr.imp_ (fun p c hp => hKM p c hp)
    have hone : ∀ u ∈ news, u.oneCell' = true := by
      intro u hu
      obtain ⟨q, hq, rfl⟩ := List.mem_iff_getElem.1 hu
      have hql : q / d.sz < ys.length := by
        rw [Nat.div_lt_iff_lt_mul hs0]
        rw [← hnM.1]
        exact hq
      have hc := hnM.2 (q / d.sz) _ (List.getElem?_eq_getElem hql)
      refine d.K_one (d.K_of_M hc) _ ?_
      rw [List.mem_iff_getElem?]
      refine ⟨q % d.sz, ?_⟩
      rw [List.getElem?_take, if_pos (Nat.mod_lt _ hs0), List.getElem?_drop, Nat.mul_comm, Nat.div_add_mod, List.getElem?_eq_getElem hq]
    obtain ⟨v1, w1, hrun, h2, hg, _, hat⟩ := run_append_own_at (P := P) W base t o.type e i0 z d.sz bytes ht hi hz0 hz1 hz2 hz hs0 v xs.length inner hown ad m c news (by rw [hnM.1, hm]) hnc hone (by simp only [maxLen]; omega) hl hbase
    have hat' : v1.ownBlock = v.ownBlock ∨ ∃ b, v1.ownBlock = some b ∧ W.heap.size ≤ b := by
      rcases hat with hat | hat
      · exact .inl hat
      · exact .inr ⟨_, hat, Nat.le_refl _⟩
    have hne : ∀ k, some k ≠ v.ownBlock → k < W.heap.size → some k ≠ v1.ownBlock := by
      intro k hk hlt
      rcases hat' with hat | ⟨b, hb, hle⟩
      · rw [hat]; exact hk
      · rw [hb]
        intro he
        injection he with he
        omega
    have step : ∀ {q : α} {c : List Value} {o : Nat → Prop}, d.M W base o q c → (∀ k, o k → ok k ∧ some k ≠ v.ownBlock) → d.M w1 base (fun k => ok k ∧ some k ≠ v1.ownBlock) q c := by
      intro q c o hq ho
      have h1 := d.M_move (w1 := w1) (fun k hk => hg.block k hk.2.2.1 (ho k hk.1).2) (d.M_bound hq)
      exact d.M_mono (fun k hk => ⟨(ho k hk.1).1, hne k (ho k hk.1).2 hk.2.2.1⟩) h1
    refine ⟨v1, w1, hrun, ⟨fun k hk => ?_, inner ++ news, by rw [List.length_append, hm]; exact h2, reps_append (hr.imp_ (fun _ _ hq => step hq (fun _ hk => hk))) (hnM.imp_ (fun _ _ hq => step hq hokp))⟩, hg, hat'⟩
    rcases hat' with hat | ⟨b, hb, hle⟩
    · exact hok k (hat ▸ hk)
    · rw [hb] at hk
      injection hk with hk
      exact hfresh k (by omega)
 obtain ⟨v1, w1, hr1, h1, hg, hat⟩ := hrun
 rw [if_pos hw]
 unfold Oper.wp execOp
 simp only [ho, resolve, invoke, builtin, Sem.run_bind, Sem.run_pure, Result.andThen_ok, List.map_toArray, List.map_cons, List.map_nil, hs, hx, hr1]
 exact h v1 w1 h1 (HB.grown hg hbase (own_base hown)) hg hat
end Kd
end
inductive Vals (P : Program) (tmps : Array Value) (w : World) : List ResultVar → List Value → Prop where
 | nil : Vals P tmps w [] []
 | tmp {u : Tmp} {rs : List ResultVar} {vs : List Value} (h : Vals P tmps w rs vs) : Vals P tmps w (.tmp u :: rs) (tmps.getD u undef :: vs)
 | cell {p : Tmp} {ty : TypeId} {rs : List ResultVar} {vs : List Value} (g : Nat) (t : TypeId) (cs : Array Value) (fr : Nat × Nat) (d : TypeDesc)
  (hp : tmps.getD p undef = .pointer (some ⟨g, 0, none⟩)) (hg : w.heap[g]? = some (.cells cs t fr))
  (hu : P.underlying ty = some d) (hd : (match d with | .struct _ | .array _ _ => true | _ => false) = true) (hi : (P.info? ty).map (·.size) = some cs.size)
  (h : Vals P tmps w rs vs) : Vals P tmps w (.cell p ty :: rs) (.agg cs :: vs)
section
variable {P : Program} {tmps : Array Value} {w : World}
end
namespace Kd
section
variable {P : Program} {α : Type}
end
section
variable {P : Program} {ops : Array Oper} {rest : List Oper} {o : Oper} {a : Act} {Q : Exit → Act → World → Prop} {Kc : Act → World → Prop} {α : Type}
end
end Kd
end Go.Proofs.YtbpnfpckoapdbaaW.PrintWords
end
section
namespace Go.Proofs.YtbpnfpckoapdbaaW.PrintLast
section
variable {P : Program} {ops : Array Oper} {Q : Exit → Act → World → Prop} {md : Region.Mode} {S : World → Prop} {ds : List Nat}
/-- Operation d waits for operation i, by a chain of at most 'fuel' edges. -/
def Region.reachB (md : Region.Mode) (ops : Array Oper) (i : Nat) : Nat → Nat → Bool
 | 0, _ => false
 | fuel + 1, d => match ops[d]? with
  | some o => o.after.any fun e => Region.binds md e && (e.on == i || Region.reachB md ops i fuel e.on)
  | none => false
/-- What is listed is closed under the edges. -/
def Region.closedB (md : Region.Mode) (ops : Array Oper) (listed : Array Bool) : Bool :=
 (List.range ops.size).all fun j => !listed.getD j false || match ops[j]? with
  | some o => o.after.all fun e => !Region.binds md e || listed.getD e.on false
  | none => true
/-- Each of ds that has not come up yet waits for number i. -/
def Region.lastB (md : Region.Mode) (ops : Array Oper) (listed : Array Bool) (ds : List Nat) (i : Nat) : Bool :=
 ds.all fun d => listed.getD d true || Region.reachB md ops i ops.size d
def ListedClosed (md : Region.Mode) (ops : Array Oper) (listed : Array Bool) : Prop :=
 ∀ j oj, ops[j]? = some oj → listed.getD j false = true → ∀ e ∈ oj.after, Region.binds md e = true → listed.getD e.on false = true
theorem Region.closedB_spec {listed : Array Bool} (h : Region.closedB md ops listed = true) : ListedClosed md ops listed := by
 intro j oj hj hl e he hb
 have hlt : j < ops.size := (Array.getElem?_eq_some_iff.1 hj).1
 have h1 := List.all_eq_true.1 h j (List.mem_range.2 hlt)
 simp only [hl, hj, Bool.not_true, Bool.false_or] at h1
 have h2 := Array.all_eq_true_iff_forall_mem.1 h1 e he
 simpa [hb] using h2
theorem ListedClosed.set {listed : Array Bool} {i : Nat} (h : ListedClosed md ops listed) (hi : i ∈ Region.ready md ops listed) : ListedClosed md ops (listed.setIfInBounds i true) := by
 obtain ⟨_, oi, hoi, hall⟩ := mem_ready.1 hi
 intro j oj hj hl e he hb
 by_cases hij : i = j
 · subst hij
   have : oj = oi := Option.some.inj (hj.symm.trans hoi)
   subst this
   exact getD_set_true (hall e he hb)
 · rw [getD_set_ne false hij] at hl
   exact getD_set_true (h j oj hj hl e he hb)
theorem Region.reach_listed {listed : Array Bool} {i : Nat} (hc : ListedClosed md ops listed) : ∀ (fuel d : Nat), Region.reachB md ops i fuel d = true → listed.getD d false = true → listed.getD i false = true
 | 0, _, h, _ => by simp [Region.reachB] at h
 | fuel + 1, d, h, hl => by
  unfold Region.reachB at h
  cases ho : ops[d]? with
  | none => rw [ho] at h; simp at h
  | some o =>
   rw [ho] at h
   obtain ⟨e, he, h1⟩ := Array.any_eq_true'.1 h
   simp only [Bool.and_eq_true, Bool.or_eq_true, beq_iff_eq] at h1
   have hle := hc d o ho hl e he h1.1
   rcases h1.2 with h2 | h2
   · rw [← h2]; exact hle
   · exact Region.reach_listed hc fuel e.on h2 hle
/-- What waits for i cannot come up before i is listed. -/
theorem Region.reach_not_ready {listed : Array Bool} {i d fuel : Nat} (hc : ListedClosed md ops listed) (hr : Region.reachB md ops i fuel d = true) (hun : listed.getD i true = false) : d ∉ Region.ready md ops listed := by
 intro hd
 obtain ⟨_, o, ho, hall⟩ := mem_ready.1 hd
 have hi : listed.getD i false = true := by
   cases fuel with
   | zero => simp [Region.reachB] at hr
   | succ n =>
    unfold Region.reachB at hr
    rw [ho] at hr
    obtain ⟨e, he, h1⟩ := Array.any_eq_true'.1 hr
    simp only [Bool.and_eq_true, Bool.or_eq_true, beq_iff_eq] at h1
    have hle := hall e he h1.1
    rcases h1.2 with h2 | h2
    · rw [← h2]; exact hle
    · exact Region.reach_listed hc n e.on h2 hle
 rcases Nat.lt_or_ge i listed.size with h' | h'
 · simp [h'] at hun hi
   rw [hun] at hi
   cases hi
 · simp [Array.getElem?_eq_none h'] at hun
/-- Whatever order is picked from here on, AND 'S' HOLDS BEHIND EVERY OPERATION THAT IS CARRIED OUT, those of ds apart. -/
def wpAnyLast (P : Program) (md : Region.Mode) (ops : Array Oper) (Q : Exit → Act → World → Prop) (S : World → Prop) (ds : List Nat) : Nat → Array Bool → Act → World → Prop
 | 0, listed, a, w => Region.ready md ops listed = [] ∧ Q .normal a w
 | fuel + 1, listed, a, w =>
  (Region.ready md ops listed = [] → Q .normal a w) ∧
  ∀ i ∈ Region.ready md ops listed, wpOp P ops Q i (fun a' w' => (i ∉ ds → S w → S w') ∧ wpAnyLast P md ops Q S ds fuel (listed.setIfInBounds i true) a' w') a w
theorem wpAny_of_last : ∀ (fuel : Nat) (listed : Array Bool) (a : Act) (w : World), wpAnyLast P md ops Q S ds fuel listed a w → wpAny P md ops Q fuel listed a w
 | 0, _, _, _, h => h
 | fuel + 1, _, _, _, h => ⟨h.1, fun i hi => wpOp_mono (fun a' w' h' => wpAny_of_last fuel _ a' w' h'.2) (h.2 i hi)⟩
theorem wpAnyLast_first {i : Nat} {oi : Oper} {v : Value} (hi : ops[i]? = some oi) (hsel : ∀ (j : Nat) (o : Oper) cs b, ops[j]? = some o → o.op ≠ .select cs b)
  (hQ : ∀ c a w, Q (.panic c) (a.put oi.dst v) w → Q (.panic c) a w) (n : Nat) :
  ∀ (fuel : Nat) (listed : Array Bool) (a : Act) (w : World),
    (∀ j oj, ops[j]? = some oj → j ≠ i → listed.getD j true = false → (∀ e ∈ oj.after, Region.binds md e = true → e.on ≠ i) → oi.apart ops oj = true) →
    ListedClosed md ops listed → (∀ d ∈ ds, listed.getD d true = false → Region.reachB md ops i n d = true) →
    i ∈ Region.ready md ops listed → YieldsIf P ops S oi v a → S w →
    wpAnyLast P md ops Q S ds fuel (listed.setIfInBounds i true) (a.put oi.dst v) w → wpAnyLast P md ops Q S ds (fuel + 1) listed a w := by
 intro fuel
 induction fuel with
 | zero =>
  intro listed a w _ _ _ hr hy hS H
  refine ⟨fun h => (by rw [h] at hr; cases hr), fun j hj => ?_⟩
  by_cases hji : j = i
  · subst hji; exact hy.wpOp hi hS ⟨fun _ h => h, H⟩
  · have := ready_mono hj hji
    rw [H.1] at this
    cases this
 | succ fuel ih =>
  intro listed a w hfree hc hd hr hy hS H
  refine ⟨fun h => (by rw [h] at hr; cases hr), fun j hj => ?_⟩
  by_cases hji : j = i
  · subst hji; exact hy.wpOp hi hS ⟨fun _ h => h, H⟩
  · have h1 := H.2 j (ready_mono hj hji)
    obtain ⟨hjun, oj, hoj, hall⟩ := mem_ready.1 hj
    have hiun := (mem_ready.1 hr).1
    have hnot : ∀ e ∈ oj.after, Region.binds md e = true → e.on ≠ i := fun e he hb heq => by
     have h1 := hall e he hb
     rw [heq] at h1
     rcases Nat.lt_or_ge i listed.size with h' | h'
     · simp [h'] at hiun h1; rw [hiun] at h1; cases h1
     · simp [Array.getElem?_eq_none h'] at h1
    have hjd : j ∉ ds := fun hm => Region.reach_not_ready hc (hd j hm hjun) hiun hj
    have h2 := wpOp_putIf hoj (hfree j oj hoj hji hjun hnot) (fun cs b => hsel i oi cs b hi) (fun cs b => hsel j oj cs b hoj) hQ hy h1
    have hfree' : ∀ k ok, ops[k]? = some ok → k ≠ i → (listed.setIfInBounds j true).getD k true = false →
       (∀ e ∈ ok.after, Region.binds md e = true → e.on ≠ i) → oi.apart ops ok = true := fun k ok hk hki hun hno => by
     refine hfree k ok hk hki ?_ hno
     by_cases hjk : j = k
     · subst hjk; exact hjun
     · rw [getD_set_ne true hjk] at hun; exact hun
    have hd' : ∀ d ∈ ds, (listed.setIfInBounds j true).getD d true = false → Region.reachB md ops i n d = true := fun d hm hun => by
     refine hd d hm ?_
     by_cases hjk : j = d
     · subst hjk; exact hjun
     · rw [getD_set_ne true hjk] at hun; exact hun
    refine wpOp_mono (fun a' w' h3 => ⟨h3.2.1, ih (listed.setIfInBounds j true) a' w' hfree' (hc.set hj) hd' (ready_mono hr (Ne.symm hji)) h3.1 (h3.2.1 hjd hS) ?_⟩) h2
    rw [Array.setIfInBounds_comm _ _ hji]
    exact h3.2.2
/-- Take number 'i' first, which yields whatever the world: no S is asked for, nor that anything waits for it. -/
theorem wpAnyLast_any {i : Nat} {oi : Oper} {v : Value} (hi : ops[i]? = some oi) (hsel : ∀ (j : Nat) (o : Oper) cs b, ops[j]? = some o → o.op ≠ .select cs b)
  (hQ : ∀ c a w, Q (.panic c) (a.put oi.dst v) w → Q (.panic c) a w) :
  ∀ (fuel : Nat) (listed : Array Bool) (a : Act) (w : World),
    (∀ j oj, ops[j]? = some oj → j ≠ i → listed.getD j true = false → (∀ e ∈ oj.after, Region.binds md e = true → e.on ≠ i) → oi.apart ops oj = true) →
    i ∈ Region.ready md ops listed → Yields P ops oi v a →
    wpAnyLast P md ops Q S ds fuel (listed.setIfInBounds i true) (a.put oi.dst v) w → wpAnyLast P md ops Q S ds (fuel + 1) listed a w := by
 intro fuel
 induction fuel with
 | zero =>
  intro listed a w _ hr hy H
  refine ⟨fun h => (by rw [h] at hr; cases hr), fun j hj => ?_⟩
  by_cases hji : j = i
  · subst hji; exact (hy.yieldsIf (S := fun _ => True)).wpOp hi trivial ⟨fun _ h => h, H⟩
  · have := ready_mono hj hji
    rw [H.1] at this
    cases this
 | succ fuel ih =>
  intro listed a w hfree hr hy H
  refine ⟨fun h => (by rw [h] at hr; cases hr), fun j hj => ?_⟩
  by_cases hji : j = i
  · subst hji; exact (hy.yieldsIf (S := fun _ => True)).wpOp hi trivial ⟨fun _ h => h, H⟩
  · have h1 := H.2 j (ready_mono hj hji)
    obtain ⟨hjun, oj, hoj, hall⟩ := mem_ready.1 hj
    have hiun := (mem_ready.1 hr).1
    have hnot : ∀ e ∈ oj.after, Region.binds md e = true → e.on ≠ i := fun e he hb heq => by
     have h1 := hall e he hb
     rw [heq] at h1
     rcases Nat.lt_or_ge i listed.size with h' | h'
     · simp [h'] at hiun h1; rw [hiun] at h1; cases h1
     · simp [Array.getElem?_eq_none h'] at h1
    have h2 := wpOp_put hoj (hfree j oj hoj hji hjun hnot) (fun cs b => hsel i oi cs b hi) (fun cs b => hsel j oj cs b hoj) hQ hy h1
    have hfree' : ∀ k ok, ops[k]? = some ok → k ≠ i → (listed.setIfInBounds j true).getD k true = false →
       (∀ e ∈ ok.after, Region.binds md e = true → e.on ≠ i) → oi.apart ops ok = true := fun k ok hk hki hun hno => by
     refine hfree k ok hk hki ?_ hno
     by_cases hjk : j = k
     · subst hjk; exact hjun
     · rw [getD_set_ne true hjk] at hun; exact hun
    refine wpOp_mono (fun a' w' h3 => ⟨h3.2.1, ih (listed.setIfInBounds j true) a' w' hfree' (ready_mono hr (Ne.symm hji)) h3.1 ?_⟩) h2
    rw [Array.setIfInBounds_comm _ _ hji]
    exact h3.2.2
/-- Take number 'i' first. -/
theorem wpAnyLast_take {i : Nat} {oi : Oper} {v : Value} {fuel : Nat} {listed : Array Bool} {a : Act} {w : World} (hi : ops[i]? = some oi)
  (hs : Region.noSelect ops = true) (hf : Region.free md ops listed i = true) (hr : (Region.ready md ops listed).contains i = true)
  (hc : Region.closedB md ops listed = true) (hl : Region.lastB md ops listed ds i = true)
  (hQ : ∀ c a w, Q (.panic c) (a.put oi.dst v) w → Q (.panic c) a w) (hy : YieldsIf P ops S oi v a) (hS : S w)
  (h : wpAnyLast P md ops Q S ds fuel (listed.setIfInBounds i true) (a.put oi.dst v) w) : wpAnyLast P md ops Q S ds (fuel + 1) listed a w :=
 wpAnyLast_first hi (Region.noSelect_spec hs) hQ ops.size fuel listed a w (Region.free_spec hi hf) (Region.closedB_spec hc)
  (fun d hm hun => by have := List.all_eq_true.1 hl d hm; rw [hun] at this; simpa using this) (by simpa using hr) hy hS h
theorem wpAnyLast_all {rs : List Nat} {fuel : Nat} {listed : Array Bool} {a : Act} {w : World} (hr : Region.ready md ops listed = rs) (hne : rs ≠ [])
  (h : ∀ i ∈ rs, wpOp P ops Q i (fun a' w' => (i ∉ ds → S w → S w') ∧ wpAnyLast P md ops Q S ds fuel (listed.setIfInBounds i true) a' w') a w) : wpAnyLast P md ops Q S ds (fuel + 1) listed a w :=
 ⟨fun h0 => absurd (hr ▸ h0) hne, hr ▸ h⟩
theorem wpAnyLast_done {listed : Array Bool} {a : Act} {w : World} (hr : Region.ready md ops listed = []) (h : Q .normal a w) :
  ∀ fuel, wpAnyLast P md ops Q S ds fuel listed a w
 | 0 => ⟨hr, h⟩
 | _ + 1 => ⟨fun _ => h, by rw [hr]; simp⟩
theorem wp_region_last {id : Nat} {a : Act} {w : World} (hm : P.follows .mixedOrders = true)
  (h : wpAnyLast P .any ops Q S ds ops.size (Array.replicate ops.size false) a { w with drawn := w.drawn + 1 }) : (Code.region id ops true).wp P Q a w :=
 wp_region_any hm (wpAny_of_last _ _ _ _ h)
end
section
variable {P : Program} {ops : Array Oper} {Q : Exit → Act → World → Prop} {md : Region.Mode} {S : World → Prop} {ds : List Nat}
def AllReadyL (P : Program) (md : Region.Mode) (ops : Array Oper) (Q : Exit → Act → World → Prop) (S : World → Prop) (ds : List Nat) (fuel : Nat) (listed : Array Bool) (a : Act) (w : World) (rs : List Nat) : Prop :=
 ∀ i ∈ rs, wpOp P ops Q i (fun a' w' => (i ∉ ds → S w → S w') ∧ wpAnyLast P md ops Q S ds fuel (listed.setIfInBounds i true) a' w') a w
theorem AllReadyL.nil {fuel : Nat} {listed : Array Bool} {a : Act} {w : World} : AllReadyL P md ops Q S ds fuel listed a w [] := fun _ h => by cases h
theorem AllReadyL.cons {fuel : Nat} {listed : Array Bool} {a : Act} {w : World} {i : Nat} {o : Oper} {rs : List Nat} (ho : ops[i]? = some o) (hd : i ∉ ds)
   (h : ∀ K' : Act → World → Prop, Shut (∀ a w, S w → (S w → wpAnyLast P md ops Q S ds fuel (listed.setIfInBounds i true) a w) → K' a w) → if Region.wanted o (yielded ops a.tmps) = true then Oper.wp P o a w K' Q else K' (a.put o.dst undef) w)
   (hs : AllReadyL P md ops Q S ds fuel listed a w rs) : AllReadyL P md ops Q S ds fuel listed a w (i :: rs) := fun j hj => by
 rcases List.mem_cons.1 hj with rfl | hj
 · exact wpOp_step ho (fun K' hK => h K' (fun a w hS hW => hK a w ⟨fun _ _ => hS, hW hS⟩))
 · exact hs j hj
theorem wpAnyLast_ready {rs : List Nat} {fuel : Nat} {listed : Array Bool} {a : Act} {w : World} (hr : Region.ready md ops listed = rs) (hne : rs ≠ [])
 (h : AllReadyL P md ops Q S ds fuel listed a w rs) : wpAnyLast P md ops Q S ds (fuel + 1) listed a w := wpAnyLast_all hr hne h
/-- THE SAME STEPS WITH WHAT HAS COME UP WRITTEN OUT (a literal array of Bools) and one check a step: quicker, and what is printed stays short. -/
theorem start_ {id n : Nat} {a : Act} {w : World} (l : Array Bool) (hm : P.follows .mixedOrders = true) (hn : ops.size = n) (hl : Array.replicate n false = l) (hS : S w.drew)
  (h : S w.drew → wpAnyLast P .any ops Q S ds n l a w.drew) : (Code.region id ops true).wp P Q a w := by
 subst hn
 subst hl
 exact wp_region_last hm (h hS)
def takeB (md : Region.Mode) (ops : Array Oper) (ds : List Nat) (l l' : Array Bool) (i : Nat) : Bool :=
 Region.noSelect ops && Region.free md ops l i && (Region.ready md ops l).contains i && Region.closedB md ops l && Region.lastB md ops l ds i && (l.setIfInBounds i true == l')
theorem take_ {i : Nat} {N : Option Tmp} {oi : Oper} {v : Value} {fuel : Nat} {l : Array Bool} {a : Act} {w : World} (l' : Array Bool) (hi : ops[i]? = some oi) (hN : oi.dst = N) (hc : takeB md ops ds l l' i = true)
  (hQ : ∀ c a w, Q (.panic c) (a.put oi.dst v) w → Q (.panic c) a w) (hy : YieldsIf P ops S oi v a) (hS : S w) {a' : Act} (ha : a.put N v = a')
  (h : wpAnyLast P md ops Q S ds fuel l' a' w) : wpAnyLast P md ops Q S ds (fuel + 1) l a w := by
 subst ha
 subst hN
 simp only [takeB, Bool.and_eq_true, beq_iff_eq] at hc
 obtain ⟨⟨⟨⟨⟨h1, h2⟩, h3⟩, h4⟩, h5⟩, h6⟩ := hc
 subst h6
 exact wpAnyLast_take hi h1 h2 h3 h4 h5 hQ hy hS h
def anyB (md : Region.Mode) (ops : Array Oper) (l l' : Array Bool) (i : Nat) : Bool :=
 Region.noSelect ops && Region.free md ops l i && (Region.ready md ops l).contains i && (l.setIfInBounds i true == l')
/-- An operation that yields in every world (a move, a number, an address): taken first wherever it may come up, behind a store too. -/
theorem pure_ {i : Nat} {N : Option Tmp} {oi : Oper} {v : Value} {fuel : Nat} {l : Array Bool} {a : Act} {w : World} (l' : Array Bool) (hi : ops[i]? = some oi) (hN : oi.dst = N) (hc : anyB md ops l l' i = true)
  (hQ : ∀ c a w, Q (.panic c) (a.put oi.dst v) w → Q (.panic c) a w) (hy : Yields P ops oi v a) {a' : Act} (ha : a.put N v = a')
  (h : wpAnyLast P md ops Q S ds fuel l' a' w) : wpAnyLast P md ops Q S ds (fuel + 1) l a w := by
 subst ha
 subst hN
 simp only [anyB, Bool.and_eq_true, beq_iff_eq] at hc
 obtain ⟨⟨⟨h1, h2⟩, h3⟩, h6⟩ := hc
 subst h6
 exact wpAnyLast_any hi (Region.noSelect_spec h1) hQ fuel l a w (Region.free_spec hi h2) (by simpa using h3) hy h
def readyB (md : Region.Mode) (ops : Array Oper) (l l' : Array Bool) (i : Nat) : Bool := (Region.ready md ops l == [i]) && (l.setIfInBounds i true == l')
/-- One operation alone may come up now (a call, a build, an append ..): it is run, S is shown behind it. -/
theorem one_ {i : Nat} {N : Option Tmp} {oi : Oper} {fuel : Nat} {l : Array Bool} {a : Act} {w : World} (l' : Array Bool) (hi : ops[i]? = some oi) (hN : oi.dst = N) (hc : readyB md ops l l' i = true) (hd : i ∉ ds)
  (h : ∀ K : Act → World → Prop, Shut (∀ a' w', S w' → (S w' → wpAnyLast P md ops Q S ds fuel l' a' w') → K a' w') → if Region.wanted oi (yielded ops a.tmps) = true then Oper.wp P oi a w K Q else K (a.put N undef) w) :
  wpAnyLast P md ops Q S ds (fuel + 1) l a w := by
 subst hN
 simp only [readyB, Bool.and_eq_true, beq_iff_eq] at hc
 obtain ⟨h1, h2⟩ := hc
 subst h2
 exact wpAnyLast_ready h1 (by simp) (AllReadyL.cons hi hd (fun K hK => h K hK) AllReadyL.nil)
theorem done_ {l : Array Bool} {a : Act} {w : World} {n : Nat} (hr : (Region.ready md ops l == []) = true) (h : Q .normal a w) : wpAnyLast P md ops Q S ds n l a w := wpAnyLast_done (by simpa using hr) h n
theorem two_ {i j : Nat} {Ni Nj : Option Tmp} {oi oj : Oper} {fuel : Nat} {l : Array Bool} {a : Act} {w : World} (li lj : Array Bool) (hi : ops[i]? = some oi) (hj : ops[j]? = some oj) (hNi : oi.dst = Ni) (hNj : oj.dst = Nj)
  (hc : (Region.ready md ops l == [i, j] && l.setIfInBounds i true == li && l.setIfInBounds j true == lj) = true) (hdi : i ∉ ds) (hdj : j ∉ ds)
  (h1 : ∀ K : Act → World → Prop, Shut (∀ a' w', S w' → (S w' → wpAnyLast P md ops Q S ds fuel li a' w') → K a' w') → if Region.wanted oi (yielded ops a.tmps) = true then Oper.wp P oi a w K Q else K (a.put Ni undef) w)
  (h2 : ∀ K : Act → World → Prop, Shut (∀ a' w', S w' → (S w' → wpAnyLast P md ops Q S ds fuel lj a' w') → K a' w') → if Region.wanted oj (yielded ops a.tmps) = true then Oper.wp P oj a w K Q else K (a.put Nj undef) w) :
  wpAnyLast P md ops Q S ds (fuel + 1) l a w := by
 subst hNi
 subst hNj
 simp only [Bool.and_eq_true, beq_iff_eq] at hc
 obtain ⟨⟨h3, h4⟩, h5⟩ := hc
 subst h4
 subst h5
 exact wpAnyLast_ready h3 (by simp) (AllReadyL.cons hi hdi (fun K hK => h1 K hK) (AllReadyL.cons hj hdj (fun K hK => h2 K hK) AllReadyL.nil))
/-- The act with some destinations filled. -/
def putAll : Act → List (Tmp × Value) → Act
 | a, [] => a
 | a, (n, v) :: r => putAll (a.put (some n) v) r
/-- What follows, once: s the values that the orders leave, F what is known of them and of the world. -/
theorem join_ {σ : Type} {fuel : Nat} {l : Array Bool} {a : Act} {w : World} (fuel' : Nat) (l' : Array Bool) (ns : σ → List (Tmp × Value)) (F : σ → World → Prop)
 (hcont : ∀ s w', F s w' → wpAnyLast P md ops Q S ds fuel' l' (putAll a (ns s)) w')
 (h : (∀ s w', F s w' → wpAnyLast P md ops Q S ds fuel' l' (putAll a (ns s)) w') → wpAnyLast P md ops Q S ds fuel l a w) : wpAnyLast P md ops Q S ds fuel l a w := h hcont
/-- The act written out. -/
theorem norm_ {fuel : Nat} {l : Array Bool} {a a' : Act} {w : World} (ha : a = a') (h : wpAnyLast P md ops Q S ds fuel l a' w) : wpAnyLast P md ops Q S ds fuel l a w := by
 subst ha
 exact h
/-- A call of a Go function, by its contract. -/
theorem call_ {oi : Oper} {N : Option Tmp} {a : Act} {w : World} {K : Act → World → Prop} (f : FuncId) (args : Array Value) (hw : Region.wanted oi (yielded ops a.tmps) = true) (hN : oi.dst = N) (hrun : (execOp a.eval oi).run P w = .ok (.enter f args) w)
  (h : Calls P f args w fun e w' => ∃ v, e = .returned v ∧ K (a.put N v) w') : if Region.wanted oi (yielded ops a.tmps) = true then Oper.wp P oi a w K Q else K (a.put N undef) w := by
 rw [if_pos hw]
 subst hN
 unfold Oper.wp
 rw [hrun, Oper.upon_enter]
 refine h.mono fun e w'' hh => ?_
 obtain ⟨v, rfl, hk⟩ := hh
 exact hk
theorem enters_ {f : FuncId} {fn : Func} (hf : P.funcs[f]? = some fn) (hname : (fn.name == "runtime.NumGoroutine") = false) (hb : fn.body.isSome = true) (args : Array Value) (w : World) : (callFunc f args).run P w = .ok (.enter f args) w := by
 have h1 : fn.name ≠ "runtime.NumGoroutine" := by simpa using hname
 obtain ⟨c, hc⟩ := Option.isSome_iff_exists.1 hb
 simp [callFunc, hf, h1, hc]
/-- The same, the operation's run shown here: 'goes_ A.func3 (by kernel_rfl) rfl #[..] (by rfl) rfl rfl (by rfl) ?_'. -/
theorem goes_ {oi : Oper} {N : Option Tmp} {a : Act} {w : World} {K : Act → World → Prop} {f : FuncId} {fn : Func} {as_ : Array Operand} {ts : Array TypeId} (hf : P.funcs[f]? = some fn) (hname : (fn.name == "runtime.NumGoroutine") = false) (hb : fn.body.isSome = true) (args : Array Value)
  (hw : Region.wanted oi (yielded ops a.tmps) = true) (hN : oi.dst = N) (hop : oi.op = .call { callee := .value (.func f), args := as_, argTypes := ts }) (hargs : as_.map a.eval = args)
  (h : Calls P f args w fun e w' => ∃ v, e = .returned v ∧ K (a.put N v) w') : if Region.wanted oi (yielded ops a.tmps) = true then Oper.wp P oi a w K Q else K (a.put N undef) w := by
 refine call_ f args hw hN ?_ h
 have he := enters_ hf hname hb args w
 unfold execOp
 simp [hop, resolve, Deferred.ofValue, invoke, Act.eval, hargs, he]
/-- A call in a plain region, as_ an arm of go_wp2_with ('hd' first: it fails at once at another operation). -/
theorem goesL_ {rest : List Oper} {oi : Oper} {a : Act} {w : World} (N : Option Tmp) (hd : oi.dst = N) (hg : oi.guard = none) {f : FuncId} {fn : Func} {as_ : Array Operand} {ts : Array TypeId} (hf : P.funcs[f]? = some fn) (hname : (fn.name == "runtime.NumGoroutine") = false) (hb : fn.body.isSome = true) (args : Array Value)
  (hop : oi.op = .call { callee := .value (.func f), args := as_, argTypes := ts }) (hargs : as_.map a.eval = args)
  (h : Calls P f args w fun e w' => ∃ v, e = .returned v ∧ wpList P ops Q rest (a.put N v) w') : wpList P ops Q (oi :: rest) a w := by
 refine wpList_plain hg fun K hK => ?_
 have he := enters_ hf hname hb args w
 have hrun : (execOp a.eval oi).run P w = .ok (.enter f args) w := by
  unfold execOp
  simp [hop, resolve, Deferred.ofValue, invoke, Act.eval, hargs, he]
 unfold Oper.wp
 rw [hrun, Oper.upon_enter]
 refine h.mono fun e w'' hh => ?_
 obtain ⟨v, rfl, hk⟩ := hh
 subst hd
 exact hK _ _ hk
theorem i64_w (n : Int) : IntKind.i64.wrap n = Go.RowKit.wrap64 n := by unfold Go.RowKit.wrap64; exact IntKind.wrap_i64 n
theorem i32_w (n : Int) : IntKind.i32.wrap n = Go.RowKit.wrap32 n := by unfold Go.RowKit.wrap32; exact IntKind.wrap_i32 n
end
end Go.Proofs.YtbpnfpckoapdbaaW.PrintLast
end
section
/-! ### 40. Elements whose inner rows lie apart: what is stored into one says nothing of the others.
 S: as_ R, with an owner function f (block to element's index). H: as_ S with a hole: of element i its cells alone are told, its blocks are oki. -/
namespace Go.Proofs.YtbpnfpckoapdbaaW.PrintWords
open Go.RowKit
namespace Kd
/-- An element with its index: its blocks are those that f gives to it. -/
def tag {α : Type} (f : Nat → Nat) (d : Kd α) : Kd (α × Nat) where
 sz := d.sz
 E := d.E
 K := fun w x cs => d.K w x.1 cs
 M := fun w base ok x cs => d.M w base (fun k => ok k ∧ f k = x.2) x.1 cs
 K_len := fun h => d.K_len h
 K_one := fun h => d.K_one h
 K_below := fun hb h => d.K_below hb h
 K_of_M := fun h => d.K_of_M h
 M_mono := fun hok h => d.M_mono (fun k hk => ⟨hok k hk.1, hk.2⟩) h
 M_bound := fun h => d.M_mono (fun _ hk => ⟨⟨hk.1.1, hk.2⟩, hk.1.2⟩) (d.M_bound h)
 M_move := fun hm h => d.M_move (fun k hk => hm k hk.1) h
 M_lower := fun hb h => d.M_lower hb h
/-- The cells themselves. -/
def raw (sz : Nat) : Kd (List Value) where
 sz := sz
 E := []
 K := fun _ x cs => cs = x ∧ cs.length = sz ∧ ∀ u ∈ cs, u.oneCell' = true
 M := fun _ _ _ x cs => cs = x ∧ cs.length = sz ∧ ∀ u ∈ cs, u.oneCell' = true
 K_len := fun h => h.2.1
 K_one := fun h => h.2.2
 K_below := fun _ h => h
 K_of_M := fun h => h
 M_mono := fun _ h => h
 M_bound := fun h => h
 M_move := fun _ h => h
 M_lower := fun _ h => h
/-- A row of elements (type e) of the call's own, no two of which lead to one block. -/
def S {α : Type} (d : Kd α) (e : Nat) (w : World) (base : Nat) (ok : Nat → Prop) (v : Value) (xs : List α) : Prop := ∃ f, (tag f d).R e w base ok v xs.zipIdx
section
variable {α β : Type} {d : Kd α} {d' : Kd β} {e e' : Nat} {w w1 W : World} {base b : Nat} {ok ok' okv oku : Nat → Prop} {u v : Value} {xs : List α} {ys : List β}
/-- A row whose elements lead to nothing: its blocks are its own one. -/
theorem R_tight (hE : d.E = []) (h : d.R e w base ok v xs) : d.R e w base (fun k => some k = v.ownBlock) v xs := by
 obtain ⟨h0, inner, ho, hr⟩ := h
 refine ⟨fun k hk => hk.symm, inner, ho, hr.imp_ (fun p c hp => d.M_mono (fun k hk => ?_) (d.M_bound hp))⟩
 obtain ⟨_, _, _, q, hq, _⟩ := hk
 rw [hE] at hq
 cases hq
end
section
variable {α β : Type} {d : Kd α} {d' : Kd β} {e e' g : Nat} {w w1 W : World} {base b : Nat} {ok ok' okv oku : Nat → Prop} {u v : Value} {xs : List α} {ys : List β}
end
section
variable {P : Program} {ops : Array Oper} {rest : List Oper} {o : Oper} {a : Act} {Q : Exit → Act → World → Prop} {Kc : Act → World → Prop} {α : Type}
end
/-- Element i is these cells; the others are d's. -/
def gap {α : Type} (f : Nat → Nat) (d : Kd α) (i : Nat) (c : List Value) : Kd (α × Nat) where
 sz := d.sz
 E := d.E
 K := fun w x cs => (x.2 = i → cs = c ∧ cs.length = d.sz ∧ ∀ u ∈ cs, u.oneCell' = true) ∧ (x.2 ≠ i → d.K w x.1 cs)
 M := fun w base ok x cs => (x.2 = i → cs = c ∧ cs.length = d.sz ∧ ∀ u ∈ cs, u.oneCell' = true) ∧ (x.2 ≠ i → d.M w base (fun k => ok k ∧ f k = x.2) x.1 cs)
 K_len := fun {w x cs} h => by
  by_cases hx : x.2 = i
  · exact (h.1 hx).2.1
  · exact d.K_len (h.2 hx)
 K_one := fun {w x cs} h => by
  by_cases hx : x.2 = i
  · exact (h.1 hx).2.2
  · exact d.K_one (h.2 hx)
 K_below := fun hb h => ⟨h.1, fun hx => d.K_below hb (h.2 hx)⟩
 K_of_M := fun h => ⟨h.1, fun hx => d.K_of_M (h.2 hx)⟩
 M_mono := fun hok h => ⟨h.1, fun hx => d.M_mono (fun k hk => ⟨hok k hk.1, hk.2⟩) (h.2 hx)⟩
 M_bound := fun h => ⟨h.1, fun hx => d.M_mono (fun _ hk => ⟨⟨hk.1.1, hk.2⟩, hk.1.2⟩) (d.M_bound (h.2 hx))⟩
 M_move := fun hm h => ⟨h.1, fun hx => d.M_move (fun k hk => hm k hk.1) (h.2 hx)⟩
 M_lower := fun hb h => ⟨h.1, fun hx => d.M_lower hb (h.2 hx)⟩
def H {α : Type} (d : Kd α) (e : Nat) (w : World) (base : Nat) (ok : Nat → Prop) (v : Value) (xs : List α) (i : Int) (oki : Nat → Prop) (c : List Value) : Prop :=
 (∀ k, oki k → ok k) ∧ ∃ f, (gap f d i.toNat c).R e w base (fun k => ok k ∧ ¬ oki k) v xs.zipIdx
section
variable {α β : Type} {d : Kd α} {e e' g n cap : Nat} {w w1 W : World} {base : Nat} {ok ok' oki okp : Nat → Prop} {u v : Value} {xs : List α} {i : Int} {c : List Value}
end
section
variable {P : Program} {ops : Array Oper} {rest : List Oper} {o : Oper} {a : Act} {Q : Exit → Act → World → Prop} {α : Type}
end
end Kd
end Go.Proofs.YtbpnfpckoapdbaaW.PrintWords
end
section
namespace Go.Proofs.YtbpnfpckoapdbaaW.PrintWords
open Go.RowKit
namespace Kd
/-- What a kind reads lies in the blocks: nothing else of the world is looked at. -/
structure Heap {α : Type} (d : Kd α) : Prop where
 K : ∀ {w w1 : World} {x : α} {cs : List Value}, (∀ k, k < w.heap.size → w1.heap[k]? = w.heap[k]?) → d.K w x cs → d.K w1 x cs
theorem cell_heap {w w1 : World} (hb : ∀ k, k < w.heap.size → w1.heap[k]? = w.heap[k]?) {a : Addr} {v : Value} (h : w.cell? a = some v) : w1.cell? a = some v := by
 have := hb a.block (World.block_lt_of_cell? w a h)
 simpa [World.cell?, this] using h
theorem Heap.C {α : Type} {d : Kd α} (hd : Heap d) {w w1 : World} {A : Option Addr} {n : Nat} {xs : List α} (hb : ∀ k, k < w.heap.size → w1.heap[k]? = w.heap[k]?) (h : d.C w A n xs) : d.C w1 A n xs :=
 ⟨h.1, h.2.1, fun hn => by
  obtain ⟨ad, e, hc⟩ := h.2.2 hn
  refine ⟨ad, e, fun j p hj => ?_⟩
  obtain ⟨c, hs, hr, hcell⟩ := hc j p hj
  exact ⟨c, hs, hd.K hb hr, fun i u hu => cell_heap hb (hcell i u hu)⟩⟩
section
variable {α : Type} {d : Kd α} {e base g n c : Nat} {ok : Nat → Prop} {w w0 W : World} {A : Option Addr} {xs : List α}
end
end Kd
end Go.Proofs.YtbpnfpckoapdbaaW.PrintWords
end
section
namespace Go.Proofs.YtbpnfpckoapdbaaW.PrintWords
open Go.RowKit
def Kept (w W : World) (S : Nat → Prop) : Prop := w.heap.size ≤ W.heap.size ∧ ∀ i, i < w.heap.size → ¬ S i → W.heap[i]? = w.heap[i]?
section
variable {w W W2 : World} {S S2 S' : Nat → Prop}
theorem Kept.refl (w : World) (S : Nat → Prop) : Kept w w S := ⟨Nat.le_refl _, fun _ _ _ => rfl⟩
theorem Kept.of_below (h : Below w.heap.size w W) (S : Nat → Prop) : Kept w W S := ⟨h.size, fun i hi _ => h.block i hi⟩
theorem Kept.then_ (h : Kept w W S) (k : Kept W W2 S2) (hs : ∀ k, S2 k → S k ∨ w.heap.size ≤ k) : Kept w W2 S :=
 ⟨Nat.le_trans h.1 k.1, fun i hi hn => (k.2 i (Nat.lt_of_lt_of_le hi h.1) (fun h2 => (hs i h2).elim hn (fun h3 => by omega))).trans (h.2 i hi hn)⟩
theorem Kept.below (h : Kept w W S) (hb : Below W.heap.size W W2) : Kept w W2 S := h.then_ (Kept.of_below hb (fun _ => False)) (fun _ hk => hk.elim)
theorem Kept.alloc (h : Kept w W S) (o : Obj) : Kept w (W.alloc o) S := h.below (below_alloc (Below.refl _ _) o)
theorem Kept.drew (h : Kept w W S) : Kept w W.drew S := h
theorem Kept.drewN (h : Kept w W S) (m : Nat) : Kept w (W.drewN m) S := h
theorem Kept.setCell (h : Kept w W S) {p : Addr} (hp : S p.block ∨ w.heap.size ≤ p.block) (u : Value) : Kept w (W.setCell p u) S :=
 h.then_ (S2 := fun k => k = p.block) ⟨by simp [World.setCell], fun i _ hn => Below.heap_setCell W p u i hn⟩ (fun k hk => by rw [hk]; exact hp)
/-- Beside a state: what was written is new since. -/
theorem Kept.keep {g : Nat} (h : KeepBut w W g none) (k : Kept W W2 S2) (hs : ∀ k, S2 k → w.heap.size ≤ k) : KeepBut w W2 g none :=
 ⟨Nat.le_trans h.1 k.1, fun i hi hg hr => (k.2 i (Nat.lt_of_lt_of_le hi h.1) (fun h2 => by have := hs i h2; omega)).trans (h.2 i hi hg hr)⟩
end
namespace Kd
section
variable {α : Type} {d : Kd α} {e base n c : Nat} {ok oki S S2 : Nat → Prop} {w w0 W W1 W2 : World} {v : Value} {A : Option Addr} {xs : List α} {i : Int} {cs : List Value}
end
end Kd
end Go.Proofs.YtbpnfpckoapdbaaW.PrintWords
end
section
namespace Go.Proofs.YtbpnfpckoapdbaaW.PrintWords
open Go.RowKit
/-- P holds in W and in every world that has W's blocks of ok. -/
def Foot (P : World → Prop) (W : World) (ok : Nat → Prop) : Prop := ∀ W' : World, (∀ k, ok k → k < W.heap.size → W'.heap[k]? = W.heap[k]?) → P W'
theorem heap_lt {W W1 : World} {k : Nat} (h : W1.heap[k]? = W.heap[k]?) (hlt : k < W.heap.size) : k < W1.heap.size := by
 rw [Array.getElem?_eq_getElem hlt] at h
 exact (Array.getElem?_eq_some_iff.1 h).1
namespace Foot
variable {P Q : World → Prop} {W W1 : World} {ok ok' : Nat → Prop}
theorem now (h : Foot P W ok) : P W := h W (fun _ _ _ => rfl)
theorem mono (h : Foot P W ok) (hok : ∀ k, ok k → ok' k) : Foot P W ok' := fun W' hW => h W' (fun k hk hlt => hW k (hok k hk) hlt)
theorem bound (h : Foot P W ok) : Foot P W (fun k => ok k ∧ k < W.heap.size) := fun W' hW => h W' (fun k hk hlt => hW k ⟨hk, hlt⟩ hlt)
theorem step (h : Foot P W ok) (hm : ∀ k, ok k → k < W.heap.size → W1.heap[k]? = W.heap[k]?) : Foot P W1 ok := fun W' hW => h W' (fun k hk hlt => (hW k hk (heap_lt (hm k hk hlt) hlt)).trans (hm k hk hlt))
/-- Moved, and still elder than what is new since W. -/
theorem old (h : Foot P W ok) (hb : Below W.heap.size W W1) : Foot P W1 (fun k => ok k ∧ k < W.heap.size) := (h.bound).step (fun k _ hlt => hb.block k hlt)
end Foot
namespace Kd
/-- A row that is only read: what it leads to lies in ok. -/
def F {α : Type} (d : Kd α) (W : World) (ok : Nat → Prop) (A : Option Addr) (n : Nat) (xs : List α) : Prop := Foot (fun W => d.C W A n xs) W ok
/-- An element's cells: what they lead to lies in ok. -/
def FK {α : Type} (d : Kd α) (W : World) (ok : Nat → Prop) (x : α) (c : List Value) : Prop := Foot (fun W => d.K W x c) W ok
section
variable {α β : Type} {d : Kd α} {e base n n' cc g N : Nat} {ok ok' okp S : Nat → Prop} {w w0 w1 W W1 : World} {A A' : Option Addr} {u v v1 : Value} {xs : List α} {xs' : List β} {d' : Kd β} {x : α} {c : List Value}
theorem F_nil (d : Kd α) (W : World) (ok : Nat → Prop) : F d W ok none ([] : List α).length [] := fun W' _ => C_nil d W'
theorem R_F (h : d.R e W base ok (.slice A n cc) xs) : F d W ok A n xs := fun W' hW => by
 have h2 := R_reads' (R_step h hW)
 rw [h2.1]
 exact h2.2.2
/-- The same of an element's cells. -/
theorem FK_now (h : FK d W ok x c) : d.K W x c := Foot.now h
theorem FK_mono (h : FK d W ok x c) (hok : ∀ k, ok k → ok' k) : FK d W ok' x c := Foot.mono h hok
theorem FK_bound (h : FK d W ok x c) : FK d W (fun k => ok k ∧ k < W.heap.size) x c := Foot.bound h
theorem FK_step (h : FK d W ok x c) (hm : ∀ k, ok k → k < W.heap.size → W1.heap[k]? = W.heap[k]?) : FK d W1 ok x c := Foot.step h hm
end
end Kd
end Go.Proofs.YtbpnfpckoapdbaaW.PrintWords
end
section
namespace Go.Proofs.YtbpnfpckoapdbaaW.PrintWords
open Go.RowKit
namespace Kd
/-- The cells one behind the other, element by element. -/
def chunks (sz : Nat) (n : Nat) (inner : List Value) : List (List Value) := (List.range n).map fun j => (inner.drop (j * sz)).take sz
theorem chunks_length (sz n : Nat) (inner : List Value) : (chunks sz n inner).length = n := by simp [chunks]
theorem chunks_at {sz n : Nat} {inner : List Value} {j : Nat} (hj : j < n) : (chunks sz n inner)[j]? = some ((inner.drop (j * sz)).take sz) := by simp [chunks, hj]
theorem chunks_get {sz n : Nat} {inner : List Value} {j : Nat} {c : List Value} (h : (chunks sz n inner)[j]? = some c) : c = (inner.drop (j * sz)).take sz := by
 have hj : j < n := by have := (List.getElem?_eq_some_iff.1 h).1; rwa [chunks_length] at this
 rw [chunks_at hj] at h
 injection h with h
 exact h.symm
theorem reps_raw {α : Type} {Rr : α → List Value → Prop} {sz : Nat} {xs : List α} {inner : List Value} (h : Reps Rr sz xs inner) (hR : ∀ x c, Rr x c → c.length = sz ∧ ∀ u ∈ c, u.oneCell' = true) : Reps (fun x cs => cs = x ∧ cs.length = sz ∧ ∀ u ∈ cs, u.oneCell' = true) sz (chunks sz xs.length inner) inner := by
 refine ⟨by rw [chunks_length]; exact h.1, fun j p hj => ?_⟩
 have hjl : j < xs.length := by have := (List.getElem?_eq_some_iff.1 hj).1; rwa [chunks_length] at this
 have hp := chunks_get hj
 exact ⟨hp.symm, hR _ _ (h.2 j _ (List.getElem?_eq_getElem hjl))⟩
section
variable {α : Type} {d : Kd α} {e base n cc g : Nat} {ok ok' okp S : Nat → Prop} {w w1 W W1 : World} {A : Option Addr} {u v v1 : Value} {xs : List α} {x : α} {c : List Value}
/-- A row of elements (type e) of the call's own; what the elements lead to is only read, and is not this row. -/
def N {α : Type} (d : Kd α) (e : Nat) (w : World) (base : Nat) (ok : Nat → Prop) (v : Value) (xs : List α) : Prop :=
 (∀ k, v.ownBlock = some k → ok k) ∧ ∃ rows : List (List Value), rows.length = xs.length ∧ (raw d.sz).R e w base (fun k => some k = v.ownBlock) v rows ∧ ∀ (j : Nat) (x : α) (c : List Value), xs[j]? = some x → rows[j]? = some c → FK d w (fun k => ok k ∧ some k ≠ v.ownBlock) x c
theorem raw_tight {sz : Nat} {rows : List (List Value)} (h : (raw sz).R e w base ok v rows) : (raw sz).R e w base (fun k => some k = v.ownBlock) v rows := R_tight rfl h
theorem N_mono (h : N d e w base ok v xs) (hok : ∀ k, ok k → ok' k) : N d e w base ok' v xs := by
 obtain ⟨h0, rows, hl, hR, hf⟩ := h
 exact ⟨fun k hk => hok k (h0 k hk), rows, hl, hR, fun j x c hx hc => FK_mono (hf j x c hx hc) (fun k hk => ⟨hok k hk.1, hk.2⟩)⟩
theorem N_lt (h : N d e w base ok v xs) : ∀ k, v.ownBlock = some k → k < w.heap.size := by
 obtain ⟨_, rows, _, hR, _⟩ := h
 exact R_lt hR
theorem N_bound (h : N d e w base ok v xs) : N d e w base (fun k => ok k ∧ k < w.heap.size) v xs := by
 have hlt := N_lt h
 obtain ⟨h0, rows, hl, hR, hf⟩ := h
 exact ⟨fun k hk => ⟨h0 k hk, hlt k hk⟩, rows, hl, hR, fun j x c hx hc => FK_mono (FK_bound (hf j x c hx hc)) (fun k hk => ⟨⟨hk.1.1, hk.2⟩, hk.1.2⟩)⟩
theorem N_lower {base' : Nat} (h : N d e w base ok v xs) (hb : base' ≤ base) : N d e w base' ok v xs := by
 obtain ⟨h0, rows, hl, hR, hf⟩ := h
 exact ⟨h0, rows, hl, R_lower hR hb, hf⟩
theorem N_step (h : N d e w base ok v xs) (hm : ∀ k, ok k → k < w.heap.size → w1.heap[k]? = w.heap[k]?) : N d e w1 base ok v xs := by
 obtain ⟨h0, rows, hl, hR, hf⟩ := h
 exact ⟨h0, rows, hl, R_step hR (fun k hk hlt => hm k (h0 k hk.symm) hlt), fun j x c hx hc => FK_step (hf j x c hx hc) (fun k hk hlt => hm k hk.1 hlt)⟩
theorem N_below (h : N d e w base ok v xs) (hb : Below w.heap.size w w1) : N d e w1 base ok v xs := N_step h (fun k _ hk => hb.block k hk)
theorem N_drewN (h : N d e w base ok v xs) (m : Nat) : N d e (w.drewN m) base ok v xs := N_below h (pw_below_drewN (Below.refl _ _) m)
theorem N_far (h : N d e w base ok v xs) {p : Addr} (hok : ∀ k, ok k → k ≠ p.block) (u : Value) : N d e (w.setCell p u) base ok v xs := N_step h (fun k ho _ => Below.heap_setCell w p u k (hok k ho))
theorem N_elder' (h : N d e W base ok v xs) (hbase : ∀ k, u.ownBlock = some k → W.heap.size ≤ k) (hb : Below W.heap.size W w1) : N d e w1 base (fun k => ok k ∧ some k ≠ u.ownBlock) v xs :=
 N_mono (N_below (N_bound h) hb) (fun k hk => ⟨hk.1, fun he => by have := hbase k he.symm; have := hk.2; omega⟩)
theorem N_elderB (h : N d e w base ok v xs) (a : Nat) (ha : w.heap.size ≤ a) : N d e w base (fun k => ok k ∧ k ≠ a) v xs := N_mono (N_bound h) (fun k hk => ⟨hk.1, by have := hk.2; omega⟩)
theorem N_slice (h : N d e w base ok v xs) : ∃ A c, v = .slice A xs.length c := by
 obtain ⟨_, rows, hl, hR, _⟩ := h
 obtain ⟨A, c, he⟩ := R_slice hR
 exact ⟨A, c, by rw [he, hl]⟩
theorem N_reads' {n c : Nat} (h : N d e w base ok (.slice A n c) xs) : n = xs.length ∧ n ≤ c ∧ d.C w A xs.length xs := by
 obtain ⟨_, rows, hl, hR, hf⟩ := h
 obtain ⟨hn, hc, hC⟩ := R_reads' hR
 refine ⟨by omega, hc, ?_⟩
 rw [hl] at hC
 refine ⟨rfl, hC.2.1, fun hp => ?_⟩
 obtain ⟨ad, he, hcell⟩ := hC.2.2 hp
 refine ⟨ad, he, fun j p hj => ?_⟩
 have hjl : j < rows.length := by have := (List.getElem?_eq_some_iff.1 hj).1; omega
 obtain ⟨c', hcl, hK, hcc⟩ := hcell j _ (List.getElem?_eq_getElem hjl)
 have hk := FK_now (hf j p _ hj (List.getElem?_eq_getElem hjl))
 refine ⟨c', hcl, ?_, hcc⟩
 rw [show c' = rows[j] from hK.1]
 exact hk
end
end Kd
end Go.Proofs.YtbpnfpckoapdbaaW.PrintWords
end
section
namespace Go.Proofs.YtbpnfpckoapdbaaW.PrintWords
open Go.RowKit
namespace Kd
section
variable {α : Type} {d : Kd α} {e base n cap g : Nat} {ok ok' okp : Nat → Prop} {w w1 W : World} {v v1 : Value} {xs ys : List α}
/-- What was made just now. -/
theorem N_made {rows : List (List Value)} (hR : (raw d.sz).R e w1 base (fun k => k = W.heap.size) v1 rows) (hg : W.grownBy w1 none) (hat : ∃ b, v1.ownBlock = some b ∧ W.heap.size ≤ b) (hl : rows.length = xs.length) (hf : ∀ (j : Nat) (x : α) (c : List Value), xs[j]? = some x → rows[j]? = some c → FK d W okp x c)
  (hok : ∀ k, okp k → ok k) (hfresh : ok W.heap.size) : N d e w1 base ok v1 xs := by
 obtain ⟨b, hb, hle⟩ := hat
 refine ⟨fun k hk => by rw [hR.1 k hk]; exact hfresh, rows, hl, raw_tight hR, fun j x c hx hc => ?_⟩
 refine FK_mono (FK_step (FK_bound (hf j x c hx hc)) (fun k hk hlt => hg.block k hlt (by simp))) (fun k hk => ⟨hok k hk.1, fun he => ?_⟩)
 rw [hb] at he
 injection he with he
 have := hk.2
 omega
end
section
variable {P : Program} {ops : Array Oper} {rest : List Oper} {o : Oper} {a : Act} {Q : Exit → Act → World → Prop} {Kc : Act → World → Prop} {α : Type}
/-- A literal '[]T{..}': inner its cells; what the elements lead to is okp. -/
theorem N_lit (d : Kd α) {w0 W : World} (base e : Nat) (hgd : o.guard = none) {N' : Tmp} (_hd : o.dst = some N') {xs : List α} {inner : List Value} {ok okp : Nat → Prop}
  (hrun : (execOp a.eval o).run P W = .ok (.value (.slice (some ⟨W.heap.size, 0, none⟩) xs.length xs.length)) (W.alloc (.cells inner.toArray e)))
  (hrep : Reps (FK d W okp) d.sz xs inner) (hok : ∀ k, okp k → ok k) (hfresh : ok W.heap.size) (HB : Below base w0 W) (hbase : base ≤ W.heap.size) (hm : xs.length ≤ 9223372036854775807)
  (h : ∀ v1 w1, N d e w1 base ok v1 xs → Below base w0 w1 → W.grownBy w1 none → (∃ b, v1.ownBlock = some b ∧ W.heap.size ≤ b) → wpList P ops Q rest (a.put o.dst v1) w1) :
  wpList P ops Q (o :: rest) a W := by
 refine R_lit (raw d.sz) base e hgd _hd (xs := chunks d.sz xs.length inner) (inner := inner) (ok := fun k => k = W.heap.size) (okp := fun _ => False) (by rw [chunks_length]; exact hrun) (reps_raw hrep (fun y c hk => ⟨d.K_len (FK_now hk), d.K_one (FK_now hk)⟩)) (fun _ hk => hk.elim) rfl HB hbase (by rw [chunks_length]; exact hm) ?_
 intro v1 w1 hr hb hg hat
 exact h v1 w1 (N_made hr hg hat (chunks_length _ _ _) (fun j y c hy hc => by rw [chunks_get hc]; exact hrep.2 j y hy) hok hfresh) hb hg hat
end
end Kd
end Go.Proofs.YtbpnfpckoapdbaaW.PrintWords
end
section
namespace Go.Proofs.YtbpnfpckoapdbaaW.PrintMore
open Go.RowKit Go.Proofs.YtbpnfpckoapdbaaW.PrintWords
namespace Kd
open Go.Proofs.YtbpnfpckoapdbaaW.PrintWords.Kd
end Kd
namespace Kd
open Go.Proofs.YtbpnfpckoapdbaaW.PrintWords.Kd
section
variable {α : Type} {d : Kd α} {e base g N : Nat} {ok : Nat → Prop} {W w1 : World} {u v : Value} {xs : List α}
end
end Kd
/-- 'max' and 'min' of two whole numbers. -/
theorem max2_int (k k' : IntKind) (x y : Int) : Builtin.max2 (.int k x) (.int k' y) = pure (.int k (if x < y then y else x)) := by simp only [Builtin.max2, gt_iff_lt]
theorem min2_int (k k' : IntKind) (x y : Int) : Builtin.min2 (.int k x) (.int k' y) = pure (.int k (if y < x then y else x)) := by simp only [Builtin.min2]
theorem max_two (ats : Array TypeId) (ty : TypeId) (a b : Value) : Builtin.max_ ats ty #[a, b] = (Builtin.max2 a b >>= fun s => pure s) := by simp only [Builtin.max_, List.foldlM_cons, List.foldlM_nil]
theorem min_two (ats : Array TypeId) (ty : TypeId) (a b : Value) : Builtin.min_ ats ty #[a, b] = (Builtin.min2 a b >>= fun s => pure s) := by simp only [Builtin.min_, List.foldlM_cons, List.foldlM_nil]
theorem max_three (ats : Array TypeId) (ty : TypeId) (a b c : Value) : Builtin.max_ ats ty #[a, b, c] = (Builtin.max2 a b >>= fun s => Builtin.max2 s c >>= fun s => pure s) := by simp only [Builtin.max_, List.foldlM_cons, List.foldlM_nil]
theorem min_three (ats : Array TypeId) (ty : TypeId) (a b c : Value) : Builtin.min_ ats ty #[a, b, c] = (Builtin.min2 a b >>= fun s => Builtin.min2 s c >>= fun s => pure s) := by simp only [Builtin.min_, List.foldlM_cons, List.foldlM_nil]
theorem max_four (ats : Array TypeId) (ty : TypeId) (a b c d : Value) : Builtin.max_ ats ty #[a, b, c, d] = (Builtin.max2 a b >>= fun s => Builtin.max2 s c >>= fun s => Builtin.max2 s d >>= fun s => pure s) := by simp only [Builtin.max_, List.foldlM_cons, List.foldlM_nil]
theorem min_four (ats : Array TypeId) (ty : TypeId) (a b c d : Value) : Builtin.min_ ats ty #[a, b, c, d] = (Builtin.min2 a b >>= fun s => Builtin.min2 s c >>= fun s => Builtin.min2 s d >>= fun s => pure s) := by simp only [Builtin.min_, List.foldlM_cons, List.foldlM_nil]
end Go.Proofs.YtbpnfpckoapdbaaW.PrintMore
namespace Go.Proofs.YtbpnfpckoapdbaaW.PrintWords
open Go.RowKit
section
variable {P : Program} {ops : Array Oper} {rest : List Oper} {o : Oper} {a : Act} {Q : Exit → Act → World → Prop} {W : World}
/-- The operation is a call of this function (a cheap look ahead of a dear step). -/
theorem gate_callee {f : FuncId} {as_ : Array Operand} {ts : Array TypeId} (_ho : o.op = .call { callee := .value (.func f), args := as_, argTypes := ts }) (h : wpList P ops Q (o :: rest) a W) : wpList P ops Q (o :: rest) a W := h
/-- The operation is a builtin over these places. -/
theorem gate_builtin {b : Builtin} {xs : Array Operand} {ts : Array TypeId} (_ho : o.op = .call { callee := .builtin b, args := xs, argTypes := ts }) (h : wpList P ops Q (o :: rest) a W) : wpList P ops Q (o :: rest) a W := h
end
namespace Kd
section
variable {α : Type} {d : Kd α} {e base : Nat} {ok : Nat → Prop} {W w1 : World} {v : Value} {xs : List α}
end
section
variable {α : Type} {d : Kd α} {e base g n cap : Nat} {ok oki okp : Nat → Prop} {W : World} {xs : List α} {i : Int} {c : List Value}
end
section
variable {α : Type} {d : Kd α} {e base b b' g N : Nat} {ok ok1 : Nat → Prop} {W W2 w1 : World} {u v : Value} {xs ys : List α} {S : Nat → Prop}
end
end Kd
end Go.Proofs.YtbpnfpckoapdbaaW.PrintWords
namespace Go.Proofs.YtbpnfpckoapdbaaW.PrintWords
open Go.RowKit
namespace Kd
section
variable {α β : Type} {d : Kd α} {e base base' n m c g N' lo hi : Nat} {ok ok' S : Nat → Prop} {w W w1 : World} {A : Option Addr} {ad : Addr} {u v v1 : Value} {xs : List α}
end
end Kd
end Go.Proofs.YtbpnfpckoapdbaaW.PrintWords
end
section
namespace Go.Proofs.Ytbpnfpckoapdbaa.Fx
open Go.RowKit Go.Proofs.YtbpnfpckoapdbaaW.PrintWords
set_option linter.unusedVariables false
/-- Kinds that rise to L. -/
structure Chain {α : Type} (D : Nat → Kd α) (L : Kd α) : Prop where
 sz : ∀ n, (D n).sz = L.sz
 K : ∀ n m, n ≤ m → ∀ w x cs, (D n).K w x cs → (D m).K w x cs
 M : ∀ n m, n ≤ m → ∀ w base ok x cs, (D n).M w base ok x cs → (D m).M w base ok x cs
 KL : ∀ n w x cs, (D n).K w x cs → L.K w x cs
 ML : ∀ n w base ok x cs, (D n).M w base ok x cs → L.M w base ok x cs
 bK : ∀ w x cs, L.K w x cs → ∃ n, (D n).K w x cs
 bM : ∀ w base ok x cs, L.M w base ok x cs → ∃ n, (D n).M w base ok x cs
theorem Chain.C {α : Type} {D : Nat → Kd α} {L : Kd α} (h : Chain D L) {n : Nat} {w : World} {A : Option Addr} {m : Nat} {xs : List α} (hc : (D n).C w A m xs) : L.C w A m xs := Kd.C_imp (h.sz n) (fun w x cs => h.KL n w x cs) hc
theorem Chain.R {α : Type} {D : Nat → Kd α} {L : Kd α} (h : Chain D L) {n e : Nat} {w : World} {base : Nat} {ok : Nat → Prop} {v : Value} {xs : List α} (hc : (D n).R e w base ok v xs) : L.R e w base ok v xs := Kd.R_imp (h.sz n) (fun w base ok x cs => h.ML n w base ok x cs) hc
end Go.Proofs.Ytbpnfpckoapdbaa.Fx
end
section
namespace Go.Proofs.YtbpnfpckoapdbaaW.PrintLast
open Go.Proofs.YtbpnfpckoapdbaaW.PrintWords (Aside0)
def needsOf (md : Region.Mode) (o : Oper) : List Nat := (o.after.toList.filter (fun e => Region.binds md e)).map (fun e => e.on)
def clashOf (md : Region.Mode) (ops : Array Oper) (i : Nat) (oi : Oper) : List Nat := (List.range ops.size).filter fun j => !(j == i) && match ops[j]? with
 | some oj => !(oj.after.any (fun e => Region.binds md e && e.on == i) || oi.apart ops oj)
 | none => false
/-- No select in it; for each operation: what must have come up before it, and what may not come up behind it if it is taken first. -/
def rtab (md : Region.Mode) (ops : Array Oper) : Bool × List (List Nat × List Nat) := (Region.noSelect ops, (List.range ops.size).map fun i => match ops[i]? with
 | some o => (needsOf md o, clashOf md ops i o)
 | none => ([], []))
def readyAt (T : List (List Nat × List Nat)) (l : List Bool) (i : Nat) : Bool := !l.getD i true && match T[i]? with
 | some r => r.1.all (fun j => l.getD j false)
 | none => false
def readyT (T : List (List Nat × List Nat)) (l : List Bool) : List Nat := (List.range T.length).filter (readyAt T l)
def freeT (T : List (List Nat × List Nat)) (l : List Bool) (i : Nat) : Bool := match T[i]? with
 | some r => r.2.all (fun j => l.getD j true)
 | none => false
def closedT (T : List (List Nat × List Nat)) (l : List Bool) : Bool := (List.range T.length).all fun j => !l.getD j false || match T[j]? with
 | some r => r.1.all (fun k => l.getD k false)
 | none => true
def reachT (T : List (List Nat × List Nat)) (i : Nat) : Nat → Nat → Bool
 | 0, _ => false
 | fuel + 1, d => match T[d]? with
  | some r => r.1.any fun j => j == i || reachT T i fuel j
  | none => false
def lastT (T : List (List Nat × List Nat)) (l : List Bool) (ds : List Nat) (i : Nat) : Bool := ds.all fun d => l.getD d true || reachT T i T.length d
section
variable {md : Region.Mode} {ops : Array Oper} {T : Bool × List (List Nat × List Nat)} {l l' li lj lk : Array Bool} {ds : List Nat} {i j k : Nat}
theorem gd (l : Array Bool) (j : Nat) (b : Bool) : l.getD j b = l.toList.getD j b := by simp [Array.getD_eq_getD_getElem?, List.getD_eq_getElem?_getD]
theorem needs_all (o : Oper) (p : Nat → Bool) : o.after.all (fun e => !Region.binds md e || p e.on) = (needsOf md o).all p := by
 unfold needsOf
 rw [← Array.all_toList]
 induction o.after.toList with
 | nil => rfl
 | cons e r ih =>
  rw [List.all_cons, ih, List.filter_cons]
  cases h : Region.binds md e <;> simp
theorem needs_any (o : Oper) (p : Nat → Bool) : o.after.any (fun e => Region.binds md e && p e.on) = (needsOf md o).any p := by
 unfold needsOf
 rw [← Array.any_toList]
 induction o.after.toList with
 | nil => rfl
 | cons e r ih =>
  rw [List.any_cons, ih, List.filter_cons]
  cases h : Region.binds md e <;> simp
theorem rtab_length : (rtab md ops).2.length = ops.size := by simp [rtab]
theorem rtab_some {o : Oper} (h : ops[i]? = some o) : (rtab md ops).2[i]? = some (needsOf md o, clashOf md ops i o) := by
 have hi := (Array.getElem?_eq_some_iff.1 h).1
 unfold rtab
 rw [List.getElem?_map, List.getElem?_range hi, Option.map_some, h]
theorem rtab_none (h : ops[i]? = none) : (rtab md ops).2[i]? = none := by
 have hi : ops.size ≤ i := Array.getElem?_eq_none_iff.1 h
 exact List.getElem?_eq_none (by rw [rtab_length]; exact hi)
theorem readyAt_eq : readyAt (rtab md ops).2 l.toList i = (!l.getD i true && ((ops[i]?).map (·.after.all fun e => !Region.binds md e || l.getD e.on false)).getD false) := by
 unfold readyAt
 rw [gd]
 cases h : ops[i]? with
 | none => rw [rtab_none h]; rfl
 | some o =>
  rw [rtab_some h]
  simp only [Option.map_some, Option.getD_some]
  rw [← needs_all]
  simp only [gd]
theorem ready_eq : Region.ready md ops l = readyT (rtab md ops).2 l.toList := by
 unfold Region.ready readyT
 rw [rtab_length]
 refine List.filter_congr (fun i _ => ?_)
 rw [readyAt_eq]
theorem free_eq : Region.free md ops l i = freeT (rtab md ops).2 l.toList i := by
 unfold Region.free freeT
 cases h : ops[i]? with
 | none => rw [rtab_none h]
 | some oi =>
  rw [rtab_some h]
  simp only [clashOf]
  rw [List.all_filter]
  congr 1
  funext j
  rw [gd]
  cases hj : ops[j]? with
  | none => cases (j == i) <;> cases (l.toList.getD j true) <;> simp
  | some oj =>
   cases (j == i) <;> cases (l.toList.getD j true) <;> cases (oj.after.any (fun e => Region.binds md e && e.on == i) || oi.apart ops oj) <;> simp_all
theorem closed_eq : Region.closedB md ops l = closedT (rtab md ops).2 l.toList := by
 unfold Region.closedB closedT
 rw [rtab_length]
 congr 1
 funext j
 rw [gd]
 cases h : ops[j]? with
 | none => rw [rtab_none h]
 | some o =>
  rw [rtab_some h]
  simp only
  rw [← needs_all]
  simp only [gd]
theorem reach_eq : ∀ (fuel d : Nat), Region.reachB md ops i fuel d = reachT (rtab md ops).2 i fuel d
 | 0, _ => rfl
 | fuel + 1, d => by
  unfold Region.reachB reachT
  cases h : ops[d]? with
  | none => rw [rtab_none h]
  | some o =>
   rw [rtab_some h]
   simp only
   rw [← needs_any]
   congr 1
   funext e
   rw [reach_eq fuel]
theorem last_eq : Region.lastB md ops l ds i = lastT (rtab md ops).2 l.toList ds i := by
 unfold Region.lastB lastT
 rw [rtab_length]
 congr 1
 funext d
 rw [gd, reach_eq]
theorem readyAt_mem (h : readyAt T.2 l.toList i = true) (hT : rtab md ops = T) : (Region.ready md ops l).contains i = true := by
 subst hT
 rw [ready_eq]
 unfold readyT
 rw [List.contains_iff_mem, List.mem_filter, List.mem_range]
 refine ⟨?_, h⟩
 unfold readyAt at h
 rw [Bool.and_eq_true] at h
 cases hq : (rtab md ops).2[i]? with
 | none => rw [hq] at h; simp at h
 | some r => exact (List.getElem?_eq_some_iff.1 hq).1
theorem set_of (h : (l.toList.set i true == l'.toList) = true) : (l.setIfInBounds i true == l') = true := by
 rw [beq_iff_eq] at h ⊢
 apply Array.ext'
 rw [Array.toList_setIfInBounds]
 exact h
def anyT (T : Bool × List (List Nat × List Nat)) (l l' : List Bool) (i : Nat) : Bool := T.1 && freeT T.2 l i && readyAt T.2 l i && (l.set i true == l')
/-- pure_'s condition out of the table. -/
theorem any_of (hT : rtab md ops = T) (h : anyT T l.toList l'.toList i = true) : anyB md ops l l' i = true := by
 simp only [anyT, Bool.and_eq_true] at h
 obtain ⟨⟨⟨h1, h2⟩, h3⟩, h4⟩ := h
 have h5 := readyAt_mem h3 hT
 have h6 := set_of h4
 subst hT
 simp only [anyB, Bool.and_eq_true]
 exact ⟨⟨⟨h1, by rw [free_eq]; exact h2⟩, h5⟩, h6⟩
def takeT (T : Bool × List (List Nat × List Nat)) (ds : List Nat) (l l' : List Bool) (i : Nat) : Bool := T.1 && freeT T.2 l i && readyAt T.2 l i && closedT T.2 l && lastT T.2 l ds i && (l.set i true == l')
/-- take_'s. -/
theorem take_of (hT : rtab md ops = T) (h : takeT T ds l.toList l'.toList i = true) : takeB md ops ds l l' i = true := by
 simp only [takeT, Bool.and_eq_true] at h
 obtain ⟨⟨⟨⟨⟨h1, h2⟩, h3⟩, h4⟩, h5⟩, h6⟩ := h
 have h7 := readyAt_mem h3 hT
 have h8 := set_of h6
 subst hT
 simp only [takeB, Bool.and_eq_true]
 exact ⟨⟨⟨⟨⟨h1, by rw [free_eq]; exact h2⟩, h7⟩, by rw [closed_eq]; exact h4⟩, by rw [last_eq]; exact h5⟩, h8⟩
/-- one_'s and last_'s. -/
theorem one_of (hT : rtab md ops = T) (h : (readyT T.2 l.toList == [i] && l.toList.set i true == l'.toList) = true) : readyB md ops l l' i = true := by
 simp only [Bool.and_eq_true] at h
 obtain ⟨h1, h2⟩ := h
 subst hT
 simp only [readyB, Bool.and_eq_true]
 exact ⟨by rw [ready_eq]; exact h1, set_of h2⟩
theorem two_of (hT : rtab md ops = T) (h : (readyT T.2 l.toList == [i, j] && l.toList.set i true == li.toList && l.toList.set j true == lj.toList) = true) : (Region.ready md ops l == [i, j] && l.setIfInBounds i true == li && l.setIfInBounds j true == lj) = true := by
 simp only [Bool.and_eq_true] at h ⊢
 obtain ⟨⟨h1, h2⟩, h3⟩ := h
 subst hT
 exact ⟨⟨by rw [ready_eq]; exact h1, set_of h2⟩, set_of h3⟩
/-- done_'s. -/
theorem done_of (hT : rtab md ops = T) (h : (readyT T.2 l.toList == []) = true) : (Region.ready md ops l == []) = true := by
 subst hT
 rw [ready_eq]
 exact h
/-- What d waits for, as_ bits: told in the table (B), checked in one pass: each bit is a need of d, or a bit of an earlier need's. -/
def upM (B : List Nat) (d : Nat) : List Nat → Nat
 | [] => 0
 | n :: r => (2 ^ n ||| (if n < d then B.getD n 0 else 0)) ||| upM B d r
def waitsOk (T : List (List Nat × List Nat)) (B : List Nat) : Bool := (List.range T.length).all fun d => match T[d]? with
 | some r => (B.getD d 0 ||| upM B d r.1) == upM B d r.1
 | none => false
theorem upM_bit {B : List Nat} {d i : Nat} : ∀ {ns : List Nat}, (upM B d ns).testBit i = true → ∃ n ∈ ns, n = i ∨ (n < d ∧ (B.getD n 0).testBit i = true)
 | [], h => by simp [upM] at h
 | n :: r, h => by
  unfold upM at h
  rw [Nat.testBit_or, Nat.testBit_or, Bool.or_eq_true, Bool.or_eq_true] at h
  rcases h with (h | h) | h
  · rw [Nat.testBit_two_pow] at h
    exact ⟨n, List.mem_cons_self, .inl (by simpa using h)⟩
  · by_cases hn : n < d
    · rw [if_pos hn] at h
      exact ⟨n, List.mem_cons_self, .inr ⟨hn, h⟩⟩
    · rw [if_neg hn] at h
      simp at h
  · obtain ⟨m, hm, h2⟩ := upM_bit h
    exact ⟨m, List.mem_cons_of_mem _ hm, h2⟩
theorem reach_bit {T : List (List Nat × List Nat)} {B : List Nat} (hB : waitsOk T B = true) : ∀ (fuel d : Nat), d < fuel → d < T.length → (B.getD d 0).testBit i = true → reachT T i fuel d = true
 | 0, d, h, _, _ => by omega
 | fuel + 1, d, h, hd, hb => by
  have h1 := List.all_eq_true.1 hB d (List.mem_range.2 hd)
  cases hr : T[d]? with
  | none => rw [hr] at h1; simp at h1
  | some r =>
   rw [hr] at h1
   simp only [beq_iff_eq] at h1
   have h2 : (upM B d r.1).testBit i = true := by rw [← h1, Nat.testBit_or, hb, Bool.true_or]
   obtain ⟨n, hn, h3⟩ := upM_bit h2
   unfold reachT
   rw [hr]
   simp only
   rw [List.any_eq_true]
   refine ⟨n, hn, ?_⟩
   rcases h3 with rfl | ⟨h4, h5⟩
   · simp
   · rw [reach_bit hB fuel n (by omega) (by omega) h5, Bool.or_true]
def lastW (T : List (List Nat × List Nat)) (B : List Nat) (l : List Bool) (ds : List Nat) (i : Nat) : Bool := ds.all fun d => l.getD d true || (decide (d < T.length) && (B.getD d 0).testBit i)
def takeW (T : Bool × List (List Nat × List Nat)) (B : List Nat) (ds : List Nat) (l l' : List Bool) (i : Nat) : Bool := T.1 && freeT T.2 l i && readyAt T.2 l i && closedT T.2 l && lastW T.2 B l ds i && (l.set i true == l')
/-- take_'s, by the bits. -/
theorem take_ofW {B : List Nat} (hT : rtab md ops = T) (hB : waitsOk T.2 B = true) (h : takeW T B ds l.toList l'.toList i = true) : takeB md ops ds l l' i = true := by
 refine take_of hT ?_
 simp only [takeW, takeT, Bool.and_eq_true] at h ⊢
 obtain ⟨⟨⟨⟨⟨h1, h2⟩, h3⟩, h4⟩, h5⟩, h6⟩ := h
 refine ⟨⟨⟨⟨⟨h1, h2⟩, h3⟩, h4⟩, ?_⟩, h6⟩
 unfold lastW at h5
 unfold lastT
 rw [List.all_eq_true] at h5 ⊢
 intro d hd
 have h7 := h5 d hd
 rw [Bool.or_eq_true, Bool.and_eq_true, decide_eq_true_eq] at h7
 rcases h7 with h7 | ⟨h8, h9⟩
 · rw [h7, Bool.true_or]
 · rw [reach_bit hB _ d h8 h8 h9, Bool.or_true]
theorem with_tabW {P : Program} {Q : Exit → Act → World → Prop} {S : World → Prop} {n : Nat} {a : Act} {w : World} {B : List Nat} (hT : rtab md ops = T) (hB : waitsOk T.2 B = true) (h : Aside0 (rtab md ops = T) → Aside0 (waitsOk T.2 B = true) → wpAnyLast P md ops Q S ds n l a w) : wpAnyLast P md ops Q S ds n l a w := h ⟨hT⟩ ⟨hB⟩
end
/-- The operations of a region, by its number. -/
def opsIn : Code → Nat → Option (Array Oper)
 | .region id ops _, k => if id == k then some ops else none
 | .seq a b, k => match opsIn a k with
  | some o => some o
  | none => opsIn b k
 | .cond _ a b, k => match opsIn a k with
  | some o => some o
  | none => opsIn b k
 | .block _ c, k => opsIn c k
 | .loop c, k => opsIn c k
 | .scope c, k => opsIn c k
 | .rangeFunc _ _ a b, k => match opsIn a k with
  | some o => some o
  | none => opsIn b k
 | _, _ => none
def opsOf (f : Func) (k : Nat) : Array Oper := ((f.body.bind fun c => opsIn c k)).getD #[]
end Go.Proofs.YtbpnfpckoapdbaaW.PrintLast
end
section
namespace Go.Proofs.YtbpnfpckoapdbaaW.PrintLast
open Go.Proofs.YtbpnfpckoapdbaaW.PrintWords (Aside0)
def zb (n m : Nat) : Array Bool := ((List.range n).map fun i => m.testBit i).toArray
section
variable {P : Program} {ops : Array Oper} {Q : Exit → Act → World → Prop} {md : Region.Mode} {S : World → Prop} {ds : List Nat}
theorem zp (i : Nat) (l' : Array Bool) {N : Tmp} {oi : Oper} (v : Value) {fuel : Nat} {l : Array Bool} {a : Act} {w : World} {T : Bool × List (List Nat × List Nat)} (hi : ops[i]? = some oi) (hN : oi.dst = some N) (hT : Aside0 (rtab md ops = T)) (hk : anyT T l.toList l'.toList i = true)
 (hQ : ∀ c a w, Q (.panic c) (a.put oi.dst v) w → Q (.panic c) a w) (hw : Region.wanted oi (yielded ops a.tmps) = true) (hv : ∀ w, (execOp a.eval oi).run P w = .ok (.value v) w) (a' : Act) (ha : a.put (some N) v = a')
 (h : wpAnyLast P md ops Q S ds fuel l' a' w) : wpAnyLast P md ops Q S ds (fuel + 1) l a w := pure_ l' hi hN (any_of hT.out hk) hQ (Or.inl ⟨hw, hv⟩) ha h
theorem zt (i : Nat) (l' : Array Bool) {N : Tmp} {oi : Oper} (v : Value) {fuel : Nat} {l : Array Bool} {a : Act} {w : World} {T : Bool × List (List Nat × List Nat)} {B : List Nat} (hi : ops[i]? = some oi) (hN : oi.dst = some N) (hT : Aside0 (rtab md ops = T)) (hB : Aside0 (waitsOk T.2 B = true)) (hk : takeW T B ds l.toList l'.toList i = true)
 (hQ : ∀ c a w, Q (.panic c) (a.put oi.dst v) w → Q (.panic c) a w) (hw : Region.wanted oi (yielded ops a.tmps) = true) (hv : ∀ w, S w → (execOp a.eval oi).run P w = .ok (.value v) w) (hS : S w) (a' : Act) (ha : a.put (some N) v = a')
 (h : wpAnyLast P md ops Q S ds fuel l' a' w) : wpAnyLast P md ops Q S ds (fuel + 1) l a w := take_ l' hi hN (take_ofW hT.out hB.out hk) hQ (Or.inl ⟨hw, hv⟩) hS ha h
theorem zn (i : Nat) (l' : Array Bool) {N : Tmp} {oi : Oper} {fuel : Nat} {l : Array Bool} {a : Act} {w : World} {T : Bool × List (List Nat × List Nat)} (hi : ops[i]? = some oi) (hN : oi.dst = some N) (hT : Aside0 (rtab md ops = T)) (hk : anyT T l.toList l'.toList i = true)
 (hQ : ∀ c a w, Q (.panic c) (a.put oi.dst undef) w → Q (.panic c) a w) (hw : Region.wanted oi (yielded ops a.tmps) = false) (a' : Act) (ha : a.put (some N) undef = a')
 (h : wpAnyLast P md ops Q S ds fuel l' a' w) : wpAnyLast P md ops Q S ds (fuel + 1) l a w := pure_ l' hi hN (any_of hT.out hk) hQ (Or.inr ⟨hw, rfl⟩) ha h
end
theorem zs : (∀ (a : Act) (d : Tmp) (v : Value), a.put (some d) v = { a with tmps := a.tmps.setIfInBounds d v }) ∧ (∀ (l : List Value) (i : Nat) (v : Value), l.toArray.setIfInBounds i v = (l.set i v).toArray) ∧ (∀ (a b : Value) (l : List Value), (a :: l).set 0 b = b :: l) ∧ (∀ (a b : Value) (n : Nat) (l : List Value), (a :: l).set (n + 1) b = a :: l.set n b) ∧ (∀ n : Int, IntKind.i64.wrap n = Go.RowKit.wrap64 n) ∧ (∀ n : Int, IntKind.i32.wrap n = Go.RowKit.wrap32 n) :=
 ⟨fun _ _ _ => rfl, fun _ _ _ => List.setIfInBounds_toArray .., fun _ _ _ => rfl, fun _ _ _ _ => rfl, i64_w, i32_w⟩
end Go.Proofs.YtbpnfpckoapdbaaW.PrintLast
end
section
namespace Go.Proofs.YtbpnfpckoapdbaaW.PrintWords
/-- One cell an element. -/
theorem Reps.one {α : Type} {R : α → List Value → Prop} {ps : List α} {cs : List Value} {p : α} {v : Value} (hp : R p [v]) (h : Reps R 1 ps cs) : Reps R 1 (p :: ps) (v :: cs) := by
 refine ⟨by simp [h.1], fun j q hq => ?_⟩
 cases j with
 | zero =>
  simp only [List.getElem?_cons_zero, Option.some.injEq] at hq
  subst hq
  simpa using hp
 | succ j =>
  simp only [List.getElem?_cons_succ] at hq
  have h1 := h.2 j q hq
  simpa [Nat.mul_one] using h1
/-- More cells an element: told apart by the cells' list. -/
theorem Reps.front {α : Type} {R : α → List Value → Prop} {size : Nat} {ps : List α} {cs c all : List Value} {p : α} (hp : R p c) (hc : c.length = size) (h : Reps R size ps cs) (ha : c ++ cs = all) : Reps R size (p :: ps) all := by
 subst ha
 refine ⟨by rw [List.length_append, hc, h.1, List.length_cons, Nat.succ_mul, Nat.add_comm], fun j q hq => ?_⟩
 cases j with
 | zero =>
  simp only [List.getElem?_cons_zero, Option.some.injEq] at hq
  subst hq
  rw [Nat.zero_mul, List.drop_zero, List.take_append_of_le_length (by omega), List.take_of_length_le (by omega)]
  exact hp
 | succ j =>
  simp only [List.getElem?_cons_succ] at hq
  have h1 := h.2 j q hq
  rw [Nat.succ_mul, List.drop_append, List.drop_of_length_le (by rw [hc]; exact Nat.le_add_left _ _), List.nil_append, hc, Nat.add_sub_cancel]
  exact h1
theorem Reps.c3 {α : Type} {R : α → List Value → Prop} {ps : List α} {cs : List Value} {p : α} {va vb vc : Value} (hp : R p [va, vb, vc]) (h : Reps R 3 ps cs) : Reps R 3 (p :: ps) (va :: vb :: vc :: cs) := Reps.front hp rfl h rfl
theorem Reps.c7 {α : Type} {R : α → List Value → Prop} {ps : List α} {cs : List Value} {p : α} {va vb vc vd ve vf vg : Value} (hp : R p [va, vb, vc, vd, ve, vf, vg]) (h : Reps R 7 ps cs) : Reps R 7 (p :: ps) (va :: vb :: vc :: vd :: ve :: vf :: vg :: cs) := Reps.front hp rfl h rfl
end Go.Proofs.YtbpnfpckoapdbaaW.PrintWords
end
section
namespace Go.Proofs.YtbpnfpckoapdbaaW.PrintLast
/-- Number i is listed too. -/
def up (b : Nat → Bool) (i : Nat) : Nat → Bool := fun j => if j = i then true else b j
section
variable {P : Program} {ops : Array Oper} {Q : Exit → Act → World → Prop} {md : Region.Mode} {T : Bool × List (List Nat × List Nat)} {B : List Nat} {O : List Nat} {b : Nat → Bool} {i j n : Nat}
end
end Go.Proofs.YtbpnfpckoapdbaaW.PrintLast
end
section
namespace Go.Proofs.YtbpnfpckoapdbaaW.PrintWords
open Go.RowKit
section
variable {P : Program} {ops : Array Oper} {rest : List Oper} {o : Oper} {a : Act} {Q : Exit → Act → World → Prop} {W : World}
/-- The gate takes the guard off (hw: 'by rfl', 'by kernel_rfl': the guard's slot holds what is wanted). -/
theorem gate_guard (hw : Region.wanted o (yielded ops a.tmps) = true) (h : wpList P ops Q ({ o with guard := none } :: rest) a W) : wpList P ops Q (o :: rest) a W := by
 have h1 : Region.wanted { o with guard := none } (yielded ops a.tmps) = true := rfl
 unfold wpList at h ⊢
 rw [if_pos h1] at h
 rw [if_pos hw]
 exact h
end
end Go.Proofs.YtbpnfpckoapdbaaW.PrintWords
end
section
namespace Go.Proofs.Ytbpnfpckoapdbaa.KD
open Go.RowKit Go.Proofs.YtbpnfpckoapdbaaW.PrintWords Go.Proofs.YtbpnfpckoapdbaaW.PrintLast Go.Proofs.YtbpnfpckoapdbaaW.PrintMore Go.Proofs.Ytbpnfpckoapdbaa
set_option linter.unusedVariables false
set_option linter.unusedSimpArgs false
structure S8 where
 f0 : Int
 f1 : Int
 f2 : Bool
 f3 : Int
structure S14 where
 f0 : ByteArray
 f1 : Int
structure S73 where
 f0 : Int
 f1 : Int
 f2 : Int
 f3 : ByteArray
mutual
structure S70 where
 f0 : Int
 f1 : ByteArray
 f2 : List S25
structure S59 where
 f0 : Int
 f1 : List S70
structure S25 where
 f0 : List S59
 f1 : (List S73)
end
structure S88 where
 f0 : ByteArray
 f1 : Int
def z88 : S88 := ⟨(⟨#[]⟩ : ByteArray), (0 : Int)⟩
def k88 : Kd S88 := Kd.iso (Kd.pair Kd.string (Kd.int .i64)) (fun x : S88 => (x.f0, x.f1))
theorem k88_open {w : World} {x : S88} {cs : List Value} (h : k88.K w x cs) : cs = [.string x.f0, .int .i64 x.f1] := by
 obtain ⟨_, _, rfl, rfl, rfl⟩ := h
 exact rfl
def rd_T88 (xs : List S88) (i : Int) : S88 := xs.getD i.toNat z88
theorem at_T88 {w : World} {A : Option Addr} {n : Nat} {xs : List S88} (h : Kd.C k88 w A n xs) (i : Int) (h0 : 0 ≤ i) (h1 : i < n) : ∃ ad , A = some ad ∧ w.cell? (ad.add (i.toNat * 2)) = some (.string (rd_T88 xs i).f0) ∧ w.cell? ⟨(ad.add (i.toNat * 2)).block, (ad.add (i.toNat * 2)).off + 1, none⟩ = some (.int .i64 (rd_T88 xs i).f1) := by
 obtain ⟨ad, c, e, _, hK, hc0⟩ := Kd.C_get h z88 i h0 h1
 have hc : ∀ j u, c[j]? = some u → w.cell? (ad.add (i.toNat * 2 + j)) = some u := hc0
 obtain rfl := k88_open hK
 exact ⟨ad, e, hc 0 _ rfl, by rw [← add_field _ _ 1 (by omega)]; exact hc 1 _ rfl⟩
structure S86 where
 f0 : ByteArray
 f1 : (List S88)
def z86 : S86 := ⟨(⟨#[]⟩ : ByteArray), ([] : List S88)⟩
def k86 : Kd S86 := Kd.iso (Kd.pair Kd.string (Kd.slice 88 k88)) (fun x : S86 => (x.f0, x.f1))
theorem k86_open {w : World} {x : S86} {cs : List Value} (h : k86.K w x cs) : ∃ A1 c1, cs = [.string x.f0, .slice A1 x.f1.length c1] ∧ x.f1.length ≤ c1 ∧ k88.C w A1 x.f1.length x.f1 := by
 obtain ⟨_, _, rfl, rfl, ⟨A1, c1, rfl, l1, g1⟩⟩ := h
 exact ⟨A1, c1, rfl, l1, g1⟩
def rd_T86 (xs : List S86) (i : Int) : S86 := xs.getD i.toNat z86
theorem at_T86 {w : World} {A : Option Addr} {n : Nat} {xs : List S86} (h : Kd.C k86 w A n xs) (i : Int) (h0 : 0 ≤ i) (h1 : i < n) : ∃ ad A1 c1, A = some ad ∧ w.cell? (ad.add (i.toNat * 2)) = some (.string (rd_T86 xs i).f0) ∧ w.cell? ⟨(ad.add (i.toNat * 2)).block, (ad.add (i.toNat * 2)).off + 1, none⟩ = some (.slice A1 (rd_T86 xs i).f1.length c1) ∧ (rd_T86 xs i).f1.length ≤ c1 ∧ k88.C w A1 (rd_T86 xs i).f1.length (rd_T86 xs i).f1 := by
 obtain ⟨ad, c, e, _, hK, hc0⟩ := Kd.C_get h z86 i h0 h1
 have hc : ∀ j u, c[j]? = some u → w.cell? (ad.add (i.toNat * 2 + j)) = some u := hc0
 obtain ⟨A1, c1, rfl, l1, g1⟩ := k86_open hK
 exact ⟨ad, A1, c1, e, hc 0 _ rfl, by rw [← add_field _ _ 1 (by omega)]; exact hc 1 _ rfl, l1, g1⟩
structure S50 where
 f0 : ByteArray
 f1 : Int
 f2 : Int
 f3 : ByteArray
 f4 : Bool
 f5 : Bool
 f6 : ByteArray
def z50 : S50 := ⟨(⟨#[]⟩ : ByteArray), (0 : Int), (0 : Int), (⟨#[]⟩ : ByteArray), false, false, (⟨#[]⟩ : ByteArray)⟩
def k50 : Kd S50 := Kd.iso (Kd.pair Kd.string (Kd.pair (Kd.int .i64) (Kd.pair (Kd.int .i64) (Kd.pair Kd.string (Kd.pair Kd.bool (Kd.pair Kd.bool Kd.string)))))) (fun x : S50 => (x.f0, x.f1, x.f2, x.f3, x.f4, x.f5, x.f6))
theorem k50_open {w : World} {x : S50} {cs : List Value} (h : k50.K w x cs) : cs = [.string x.f0, .int .i64 x.f1, .int .i64 x.f2, .string x.f3, .bool x.f4, .bool x.f5, .string x.f6] := by
 obtain ⟨_, _, rfl, rfl, ⟨_, _, rfl, rfl, ⟨_, _, rfl, rfl, ⟨_, _, rfl, rfl, ⟨_, _, rfl, rfl, ⟨_, _, rfl, rfl, rfl⟩⟩⟩⟩⟩⟩ := h
 exact rfl
theorem k50_mkM (w : World) (base : Nat) (ok : Nat → Prop) (x : S50)  : k50.M w base ok x [.string x.f0, .int .i64 x.f1, .int .i64 x.f2, .string x.f3, .bool x.f4, .bool x.f5, .string x.f6] := ⟨[.string x.f0], [.int .i64 x.f1, .int .i64 x.f2, .string x.f3, .bool x.f4, .bool x.f5, .string x.f6], rfl, rfl, ⟨[.int .i64 x.f1], [.int .i64 x.f2, .string x.f3, .bool x.f4, .bool x.f5, .string x.f6], rfl, rfl, ⟨[.int .i64 x.f2], [.string x.f3, .bool x.f4, .bool x.f5, .string x.f6], rfl, rfl, ⟨[.string x.f3], [.bool x.f4, .bool x.f5, .string x.f6], rfl, rfl, ⟨[.bool x.f4], [.bool x.f5, .string x.f6], rfl, rfl, ⟨[.bool x.f5], [.string x.f6], rfl, rfl, rfl⟩⟩⟩⟩⟩⟩
def rd_T50 (xs : List S50) (i : Int) : S50 := xs.getD i.toNat z50
theorem at_T50 {w : World} {A : Option Addr} {n : Nat} {xs : List S50} (h : Kd.C k50 w A n xs) (i : Int) (h0 : 0 ≤ i) (h1 : i < n) : ∃ ad , A = some ad ∧ w.cell? (ad.add (i.toNat * 7)) = some (.string (rd_T50 xs i).f0) ∧ w.cell? ⟨(ad.add (i.toNat * 7)).block, (ad.add (i.toNat * 7)).off + 1, none⟩ = some (.int .i64 (rd_T50 xs i).f1) ∧ w.cell? ⟨(ad.add (i.toNat * 7)).block, (ad.add (i.toNat * 7)).off + 2, none⟩ = some (.int .i64 (rd_T50 xs i).f2) ∧ w.cell? ⟨(ad.add (i.toNat * 7)).block, (ad.add (i.toNat * 7)).off + 3, none⟩ = some (.string (rd_T50 xs i).f3) ∧ w.cell? ⟨(ad.add (i.toNat * 7)).block, (ad.add (i.toNat * 7)).off + 4, none⟩ = some (.bool (rd_T50 xs i).f4) ∧ w.cell? ⟨(ad.add (i.toNat * 7)).block, (ad.add (i.toNat * 7)).off + 5, none⟩ = some (.bool (rd_T50 xs i).f5) ∧ w.cell? ⟨(ad.add (i.toNat * 7)).block, (ad.add (i.toNat * 7)).off + 6, none⟩ = some (.string (rd_T50 xs i).f6) := by
 obtain ⟨ad, c, e, _, hK, hc0⟩ := Kd.C_get h z50 i h0 h1
 have hc : ∀ j u, c[j]? = some u → w.cell? (ad.add (i.toNat * 7 + j)) = some u := hc0
 obtain rfl := k50_open hK
 exact ⟨ad, e, hc 0 _ rfl, by rw [← add_field _ _ 1 (by omega)]; exact hc 1 _ rfl, by rw [← add_field _ _ 2 (by omega)]; exact hc 2 _ rfl, by rw [← add_field _ _ 3 (by omega)]; exact hc 3 _ rfl, by rw [← add_field _ _ 4 (by omega)]; exact hc 4 _ rfl, by rw [← add_field _ _ 5 (by omega)]; exact hc 5 _ rfl, by rw [← add_field _ _ 6 (by omega)]; exact hc 6 _ rfl⟩
structure S47 where
 f0 : ByteArray
 f1 : (List S50)
 f2 : (List Int)
def z47 : S47 := ⟨(⟨#[]⟩ : ByteArray), ([] : List S50), ([] : List Int)⟩
def k47 : Kd S47 := Kd.iso (Kd.pair Kd.string (Kd.pair (Kd.slice 50 k50) (Kd.slice 3 (Kd.int .i64)))) (fun x : S47 => (x.f0, x.f1, x.f2))
theorem k47_open {w : World} {x : S47} {cs : List Value} (h : k47.K w x cs) : ∃ A1 c1 A2 c2, cs = [.string x.f0, .slice A1 x.f1.length c1, .slice A2 x.f2.length c2] ∧ x.f1.length ≤ c1 ∧ k50.C w A1 x.f1.length x.f1 ∧ x.f2.length ≤ c2 ∧ (Kd.int .i64).C w A2 x.f2.length x.f2 := by
 obtain ⟨_, _, rfl, rfl, ⟨_, _, rfl, ⟨A1, c1, rfl, l1, g1⟩, ⟨A2, c2, rfl, l2, g2⟩⟩⟩ := h
 exact ⟨A1, c1, A2, c2, rfl, l1, g1, l2, g2⟩
theorem k47_mk (w : World) (x : S47) {A1 : Option Addr} {c1 : Nat} (l1 : x.f1.length ≤ c1) (g1 : k50.C w A1 x.f1.length x.f1) {A2 : Option Addr} {c2 : Nat} (l2 : x.f2.length ≤ c2) (g2 : (Kd.int .i64).C w A2 x.f2.length x.f2) : k47.K w x [.string x.f0, .slice A1 x.f1.length c1, .slice A2 x.f2.length c2] := ⟨[.string x.f0], [.slice A1 x.f1.length c1, .slice A2 x.f2.length c2], rfl, rfl, ⟨[.slice A1 x.f1.length c1], [.slice A2 x.f2.length c2], rfl, ⟨A1, c1, rfl, l1, g1⟩, ⟨A2, c2, rfl, l2, g2⟩⟩⟩
theorem k47_mkF (W : World) (ok : Nat → Prop) (x : S47) {A1 : Option Addr} {c1 : Nat} (l1 : x.f1.length ≤ c1) (g1 : Kd.F k50 W ok A1 x.f1.length x.f1) {A2 : Option Addr} {c2 : Nat} (l2 : x.f2.length ≤ c2) (g2 : Kd.F (Kd.int .i64) W ok A2 x.f2.length x.f2) : Kd.FK k47 W ok x [.string x.f0, .slice A1 x.f1.length c1, .slice A2 x.f2.length c2] := fun W2 hW => k47_mk W2 x l1 (g1 W2 hW) l2 (g2 W2 hW)
def rd_T47 (xs : List S47) (i : Int) : S47 := xs.getD i.toNat z47
theorem at_T47 {w : World} {A : Option Addr} {n : Nat} {xs : List S47} (h : Kd.C k47 w A n xs) (i : Int) (h0 : 0 ≤ i) (h1 : i < n) : ∃ ad A1 c1 A2 c2, A = some ad ∧ w.cell? (ad.add (i.toNat * 3)) = some (.string (rd_T47 xs i).f0) ∧ w.cell? ⟨(ad.add (i.toNat * 3)).block, (ad.add (i.toNat * 3)).off + 1, none⟩ = some (.slice A1 (rd_T47 xs i).f1.length c1) ∧ w.cell? ⟨(ad.add (i.toNat * 3)).block, (ad.add (i.toNat * 3)).off + 2, none⟩ = some (.slice A2 (rd_T47 xs i).f2.length c2) ∧ (rd_T47 xs i).f1.length ≤ c1 ∧ k50.C w A1 (rd_T47 xs i).f1.length (rd_T47 xs i).f1 ∧ (rd_T47 xs i).f2.length ≤ c2 ∧ (Kd.int .i64).C w A2 (rd_T47 xs i).f2.length (rd_T47 xs i).f2 := by
 obtain ⟨ad, c, e, _, hK, hc0⟩ := Kd.C_get h z47 i h0 h1
 have hc : ∀ j u, c[j]? = some u → w.cell? (ad.add (i.toNat * 3 + j)) = some u := hc0
 obtain ⟨A1, c1, A2, c2, rfl, l1, g1, l2, g2⟩ := k47_open hK
 exact ⟨ad, A1, c1, A2, c2, e, hc 0 _ rfl, by rw [← add_field _ _ 1 (by omega)]; exact hc 1 _ rfl, by rw [← add_field _ _ 2 (by omega)]; exact hc 2 _ rfl, l1, g1, l2, g2⟩
structure S35 where
 f0 : (List S86)
 f1 : (List S47)
def k35 : Kd S35 := Kd.iso (Kd.pair (Kd.slice 86 k86) (Kd.slice 47 k47)) (fun x : S35 => (x.f0, x.f1))
theorem k35_open {w : World} {x : S35} {cs : List Value} (h : k35.K w x cs) : ∃ A0 c0 A1 c1, cs = [.slice A0 x.f0.length c0, .slice A1 x.f1.length c1] ∧ x.f0.length ≤ c0 ∧ k86.C w A0 x.f0.length x.f0 ∧ x.f1.length ≤ c1 ∧ k47.C w A1 x.f1.length x.f1 := by
 obtain ⟨_, _, rfl, ⟨A0, c0, rfl, l0, g0⟩, ⟨A1, c1, rfl, l1, g1⟩⟩ := h
 exact ⟨A0, c0, A1, c1, rfl, l0, g0, l1, g1⟩
end Go.Proofs.Ytbpnfpckoapdbaa.KD
end
section
namespace Go.Proofs.Ytbpnfpckoapdbaa.M
open Go.RowKit Go.Proofs.YtbpnfpckoapdbaaW.PrintWords Go.Proofs.YtbpnfpckoapdbaaW.PrintLast Go.Proofs.YtbpnfpckoapdbaaW.PrintMore Go.Proofs.Ytbpnfpckoapdbaa.KD
set_option linter.unusedVariables false
set_option linter.unusedSimpArgs false
set_option maxHeartbeats 1000000
set_option maxRecDepth 100000
/-- The first place of such an element, counted from i; -1, if there is none. -/
def ixF {α : Type} (p : α → Bool) : List α → Nat → Int
 | [], _ => -1
 | x :: xs, i => if p x then (i : Int) else ixF p xs (i + 1)
theorem ixF_at {α : Type} {p : α → Bool} {xs : List α} {i : Nat} {x : α} (h : xs[i]? = some x) (k : Nat) : ixF p (xs.drop i) k = if p x then (k : Int) else ixF p (xs.drop (i + 1)) (k + 1) := by
 obtain ⟨h1, rfl⟩ := List.getElem?_eq_some_iff.1 h
 rw [List.drop_eq_getElem_cons h1, ixF]
def TellsC {α : Type} (d : Kd α) (F : FuncId) (cap : Value) (w0 : World) (p : α → Bool) : Prop :=
 ∀ (w : World) (x : α) (cs : List Value), Below w0.heap.size w0 w → d.K w x cs → Calls Try.prog F #[.agg cs.toArray, cap] w fun r w' => r = .returned (.bool (p x)) ∧ Below w.heap.size w w'
end Go.Proofs.Ytbpnfpckoapdbaa.M
end
section
namespace Go.Proofs.Ytbpnfpckoapdbaa.M
open Go.RowKit Go.Proofs.YtbpnfpckoapdbaaW.PrintWords Go.Proofs.YtbpnfpckoapdbaaW.PrintLast Go.Proofs.YtbpnfpckoapdbaaW.PrintMore Go.Proofs.Ytbpnfpckoapdbaa.KD
set_option linter.unusedVariables false
set_option linter.unusedSimpArgs false
set_option maxHeartbeats 1000000
set_option maxRecDepth 100000
theorem atK_Message {w : World} {A : Option Addr} {n : Nat} {xs : List S47} (h : k47.C w A n xs) (i : Nat) (h1 : i < n) : ∃ ad s0 A1 n1 c1 A2 n2 c2 x, A = some ad ∧ xs[i]? = some x ∧ w.cell? (ad.add (i * 3)) = some (.string s0) ∧ w.cell? ⟨(ad.add (i * 3)).block, (ad.add (i * 3)).off + 1, none⟩ = some (.slice A1 n1 c1) ∧ w.cell? ⟨(ad.add (i * 3)).block, (ad.add (i * 3)).off + 2, none⟩ = some (.slice A2 n2 c2) ∧ k47.K w x [.string s0, .slice A1 n1 c1, .slice A2 n2 c2] := by
 have hl : i < xs.length := by have := h.1; omega
 obtain ⟨ad, c, e, _, hK, hc0⟩ := Kd.C_get h xs[i] i (by omega) (by omega)
 have hr : xs.getD (i : Int).toNat xs[i] = xs[i] := by rw [Int.toNat_natCast, List.getD_eq_getElem?_getD, List.getElem?_eq_getElem hl]; rfl
 rw [hr] at hK
 have hc : ∀ j u, c[j]? = some u → w.cell? (ad.add (i * 3 + j)) = some u := hc0
 obtain ⟨A1, c1, A2, c2, rfl, _, _⟩ := k47_open hK
 exact ⟨ad, _, A1, _, c1, A2, _, c2, xs[i], e, List.getElem?_eq_getElem hl, hc 0 _ rfl, by rw [← add_field _ _ 1 (by omega)]; exact hc 1 _ rfl, by rw [← add_field _ _ 2 (by omega)]; exact hc 2 _ rfl, hK⟩
theorem Idx_find_Message1 {w : World} {A : Option Addr} {c : Nat} {cap : Value} {p : S47 → Bool} {xs : List S47} (HE : TellsC k47 72 cap w p) (hA : k47.C w A xs.length xs) :
  Calls Try.prog 71 #[.slice A xs.length c, .func (.func 72) #[] #[cap]] w fun r w' => r = .returned (.int .i64 (ixF p xs 0)) ∧ Below w.heap.size w w' := by
 have HA := Aside0.mk hA
 have HQ := Aside0.mk HE
 have HM := Aside0.mk (Kd.C_max hA)
 clear hA HE
 go_enter Try.func71, Try.ntmps71
 go_wp2
 go_loopg [8] xs.length (fun kq v8 w' => ∃ i : Nat, v8 = .int .i64 (i : Int) ∧ Aside0 (kq + i = xs.length) ∧ Aside0 (ixF p xs 0 = ixF p (xs.drop i) i) ∧ Aside0 (Below w.heap.size w w'))
 case atStart => exact ⟨0, rfl, ⟨by omega⟩, ⟨rfl⟩, ⟨Below.refl _ _⟩⟩
 case round =>
  obtain ⟨i, rfl, HK, HE, BW⟩ := hrel
  by_cases hi : (i : Int) < (xs.length : Int)
  · have c1 : decide ((i : Int) < (xs.length : Int)) = true := decide_eq_true hi
    have p0 : (0 : Int) ≤ (i : Int) := by omega
    obtain ⟨ad, s0, A1, n1, c1, A2, n2, c2, x, rfl, hx, q0, q1, q2, hk⟩ := atK_Message (Kd.C_below HA.out BW.out) i (by omega)
    have HX := Aside0.mk hx
    have K1 := Aside0.mk hk
    have hw : IntKind.i64.wrap ((i : Int) + 1) = ((i + 1 : Nat) : Int) := by have := HM.out; rw [IntKind.wrap_i64]; omega
    have HI := Aside0.mk (show i < xs.length by omega)
    replace hi := eq_true hi
    clear hx hk
    have HC := Aside0.mk (HQ.out _ _ _ BW.out K1.out)
    have HN := Aside0.mk (ixF_at (p := p) HX.out i)
    cases he : p x with
    | true =>
     rw [he] at HC HN
     have HF := Aside0.mk (show ixF p xs 0 = (i : Int) by rw [HE.out, HN.out]; rfl)
     go_wp2_with (first | (go_at_call 72; refine HC.out.mono ?_; rintro r w2 ⟨rfl, b2⟩; have B2 := Aside0.mk b2; clear b2))
     go_ret
     exact ⟨by rw [HF.out]; rfl, BW.out.trans (B2.out.mono BW.out.size)⟩
    | false =>
     rw [he] at HC HN
     go_wp2_with (first | (go_at_call 72; refine HC.out.mono ?_; rintro r w2 ⟨rfl, b2⟩; have B2 := Aside0.mk b2; clear b2))
     go_roundg (xs.length - (i + 1))
     case measure => have := HK.out; have := HI.out; omega
     case rel => exact ⟨i + 1, rfl, ⟨by have := HI.out; omega⟩, ⟨by rw [HE.out, HN.out]; rfl⟩, ⟨BW.out.trans (B2.out.mono BW.out.size)⟩⟩
  · have c1 : decide ((i : Int) < (xs.length : Int)) = false := decide_eq_false hi
    have c2 : decide (i < xs.length) = false := decide_eq_false (by omega)
    have HF := Aside0.mk (show ixF p xs 0 = -1 by rw [HE.out, List.drop_eq_nil_of_le (by omega)]; rfl)
    clear hi
    go_wp2
    go_ret
    exact ⟨by rw [HF.out]; rfl, BW.out⟩
theorem find_Message1_c {w : World} {a : Addr} {v : ByteArray} (hv : w.cell? a = some (.string v)) : TellsC k47 72 (.pointer (some a)) w (fun x => x.f0.toList == v.toList) := by
 intro w2 x cs hb hk
 obtain ⟨A1, c1, A2, c2, rfl, _, _⟩ := k47_open hk
 have hv2 := pw_cell_below hb hv
 have hv3 : ∀ o, (w2.alloc o).cell? a = some (.string v) := fun o => pw_cell_below (below_alloc (Below.refl _ _) o) hv2
 clear hk hb hv
 go_enter Try.func72, Try.ntmps72
 go_wp2
 go_ret
 exact ⟨rfl, below_alloc (Below.refl _ _) _⟩
end Go.Proofs.Ytbpnfpckoapdbaa.M
end
section
namespace Go.Proofs.Ytbpnfpckoapdbaa.M
open Go.RowKit Go.Proofs.YtbpnfpckoapdbaaW.PrintWords Go.Proofs.YtbpnfpckoapdbaaW.PrintLast Go.Proofs.YtbpnfpckoapdbaaW.PrintMore Go.Proofs.Ytbpnfpckoapdbaa.KD
set_option linter.unusedVariables false
set_option linter.unusedSimpArgs false
set_option maxHeartbeats 1000000
set_option maxRecDepth 100000
theorem atK_Field {w : World} {A : Option Addr} {n : Nat} {xs : List S50} (h : k50.C w A n xs) (i : Nat) (h1 : i < n) : ∃ ad s0 i1 i2 s3 b4 b5 s6 x, A = some ad ∧ xs[i]? = some x ∧ w.cell? (ad.add (i * 7)) = some (.string s0) ∧ w.cell? ⟨(ad.add (i * 7)).block, (ad.add (i * 7)).off + 1, none⟩ = some (.int .i64 i1) ∧ w.cell? ⟨(ad.add (i * 7)).block, (ad.add (i * 7)).off + 2, none⟩ = some (.int .i64 i2) ∧ w.cell? ⟨(ad.add (i * 7)).block, (ad.add (i * 7)).off + 3, none⟩ = some (.string s3) ∧ w.cell? ⟨(ad.add (i * 7)).block, (ad.add (i * 7)).off + 4, none⟩ = some (.bool b4) ∧ w.cell? ⟨(ad.add (i * 7)).block, (ad.add (i * 7)).off + 5, none⟩ = some (.bool b5) ∧ w.cell? ⟨(ad.add (i * 7)).block, (ad.add (i * 7)).off + 6, none⟩ = some (.string s6) ∧ k50.K w x [.string s0, .int .i64 i1, .int .i64 i2, .string s3, .bool b4, .bool b5, .string s6] := by
 have hl : i < xs.length := by have := h.1; omega
 obtain ⟨ad, c, e, _, hK, hc0⟩ := Kd.C_get h xs[i] i (by omega) (by omega)
 have hr : xs.getD (i : Int).toNat xs[i] = xs[i] := by rw [Int.toNat_natCast, List.getD_eq_getElem?_getD, List.getElem?_eq_getElem hl]; rfl
 rw [hr] at hK
 have hc : ∀ j u, c[j]? = some u → w.cell? (ad.add (i * 7 + j)) = some u := hc0
 obtain rfl := k50_open hK
 exact ⟨ad, _, _, _, _, _, _, _, xs[i], e, List.getElem?_eq_getElem hl, hc 0 _ rfl, by rw [← add_field _ _ 1 (by omega)]; exact hc 1 _ rfl, by rw [← add_field _ _ 2 (by omega)]; exact hc 2 _ rfl, by rw [← add_field _ _ 3 (by omega)]; exact hc 3 _ rfl, by rw [← add_field _ _ 4 (by omega)]; exact hc 4 _ rfl, by rw [← add_field _ _ 5 (by omega)]; exact hc 5 _ rfl, by rw [← add_field _ _ 6 (by omega)]; exact hc 6 _ rfl, hK⟩
end Go.Proofs.Ytbpnfpckoapdbaa.M
end
section
namespace Go.Proofs.Ytbpnfpckoapdbaa.M
open Go.RowKit Go.Proofs.YtbpnfpckoapdbaaW.PrintWords Go.Proofs.YtbpnfpckoapdbaaW.PrintLast Go.Proofs.YtbpnfpckoapdbaaW.PrintMore Go.Proofs.Ytbpnfpckoapdbaa.KD
set_option linter.unusedVariables false
set_option linter.unusedSimpArgs false
set_option maxHeartbeats 1000000
set_option maxRecDepth 100000
theorem boxes2 (w : World) (o o' : Obj) : ∀ w2, Below ((w.alloc o).alloc o').heap.size ((w.alloc o).alloc o') w2 → w2.heap[w.heap.size]? = some o ∧ w2.heap[w.heap.size + 1]? = some o' := by
 intro w2 h
 have h1 : ((w.alloc o).alloc o').heap[w.heap.size]? = some o := (Below.heap_alloc _ _ _ (by simp)).trans (heap_alloc_new w o)
 have h2 : ((w.alloc o).alloc o').heap[w.heap.size + 1]? = some o' := by
  have := heap_alloc_new (w.alloc o) o'
  rwa [World.size_alloc] at this
 have hs : ((w.alloc o).alloc o').heap.size = w.heap.size + 2 := by simp
 exact ⟨(h.block _ (by omega)).trans h1, (h.block _ (by omega)).trans h2⟩
theorem bel2 (w : World) (o o' : Obj) : Below w.heap.size w ((w.alloc o).alloc o') := below_alloc (below_alloc (Below.refl _ _) _) _
def find_Message.f (l0_0 : List S86) (l0_1 : List S47) (a1 : ByteArray) : Option Int := some (ixF (fun x => x.f0.toList == a1.toList) l0_1 0)
theorem find_Message.calls (A0_0 : Option Addr) (c0_0 : Nat) (l0_0 : List S86) (A0_1 : Option Addr) (c0_1 : Nat) (l0_1 : List S47) (a1 : ByteArray) (r : Int) (w : World) (hr0_0 : Kd.C k86 w A0_0 l0_0.length l0_0) (hc0_0 : l0_0.length ≤ c0_0) (hr0_1 : Kd.C k47 w A0_1 l0_1.length l0_1) (hc0_1 : l0_1.length ≤ c0_1) (h : find_Message.f l0_0 l0_1 a1 = some r) :
  Calls Try.prog 28 #[.agg #[.slice A0_0 l0_0.length c0_0, .slice A0_1 l0_1.length c0_1], .string a1] w fun e w' => e = .returned (.int .i64 r) ∧ Below w.heap.size w w' := by
 obtain rfl := Option.some.inj h
 obtain ⟨wz, hwz⟩ : ∃ wz, wz = (w.alloc (.cells #[.slice A0_0 l0_0.length c0_0, .slice A0_1 l0_1.length c0_1] 35)).alloc (.cells #[.string a1] 9) := ⟨_, rfl⟩
 have HC := Aside0.mk (Idx_find_Message1 (c := c0_1) (find_Message1_c (w := wz) (a := ⟨w.heap.size + 1, 0, none⟩) (v := a1) ((blk_cell (boxes2 w _ _ wz (by rw [hwz]; exact Below.refl _ _)).2 0).trans rfl)) (Kd.C_below hr0_1 (by rw [hwz]; exact bel2 _ _ _)))
 have HB := Aside0.mk (show Below w.heap.size w wz by rw [hwz]; exact bel2 _ _ _)
 have HZ := Aside0.mk hwz
 clear hr0_0 hr0_1 hc0_0 hc0_1 h hwz
 go_enter Try.func28, Try.ntmps28
 go_wp2_with (first | (go_at_call 71; rw [← HZ.out]; refine HC.out.mono ?_; rintro r w2 ⟨rfl, b2⟩; have B2 := Aside0.mk b2; clear b2))
 go_ret
 exact ⟨rfl, HB.out.trans (B2.out.mono HB.out.size)⟩
end Go.Proofs.Ytbpnfpckoapdbaa.M
end
section
namespace Go.Proofs.Ytbpnfpckoapdbaa.Rng
open Go.RowKit
/-- Whatever predicate: it abides the turn of a block at or beyond B that is no cells, and a new block. -/
def Firm (B : Nat) (J : World → Prop) : Prop := (∀ W l o o', J W → B ≤ l → W.heap[l]? = some o → o.isCells = false → J (W.putObj l o')) ∧ (∀ W o, J W → J (W.alloc o))
/-- A round's end, where the body never leaves. -/
def OnPost (Z : World → Prop) (W : World) : Exit → Act → World → Prop
 | .normal, _, W' => KeepsOthers W W' ∧ Z W'
 | _, _, _ => False
/-- The iterator's contract: Bk is the caller's book-keeping; Y, Z: what holds when yield is called, and behind it. -/
def SeqOn {α σ : Type} (n : Nat) (P : Program) (gf : Nat) (lb : Array Value) (encs : α → Array Value) (R0 Fin : World → Prop) (Y Z : σ → α → World → Prop) : Prop :=
 ∀ (l : Nat) (Bk : World → Prop), (∀ A A', Bk A → KeepsOthers A A' → Bk A') →
  (∀ s x W, Y s x W → Bk W → YieldAt Fence.wide (n - 1) P l (encs x) W fun e W' => e = .returned (.bool true) ∧ Z s x W' ∧ Bk W') →
  ∀ W, R0 W → Bk W → CallsIn Fence.wide n P gf (#[.func (.yield l) #[] #[]] ++ lb) W fun e W' => (∃ v, e = .returned v) ∧ Fin W' ∧ Bk W'
theorem range_on {P : Program} {α σ : Type} {g : Operand} {ps : Array Tmp} {assign body : Code} {Q : Exit → Act → World → Prop} {a : Act} {w : World} {n : Nat} {gf : Nat} {lb : Array Value} (hg : a.eval g = .func (.func gf) #[] lb) (eg : ∀ args w, (callFunc gf args).run P w = .ok (.enter gf args) w)
   {encs : α → Array Value} {R0 Fin : World → Prop} {Y Z : σ → α → World → Prop} (hseq : SeqOn (n - 1) P gf lb encs R0 Fin Y Z) (hps : ∀ x, (encs x).size = ps.size)
   (hR : Firm w.heap.size R0) (hF : Firm w.heap.size Fin) (hY : ∀ s x, Firm w.heap.size (Y s x)) (hZ : ∀ s x, Firm w.heap.size (Z s x)) (h0 : R0 w) (Ax : α → Act → World → Prop)
   (hAx : ∀ x a₁, Firm w.heap.size (Ax x a₁))
   (hassign : ∀ (l : Nat) (s : σ) (x : α) (W : World) (K : Act → World → Prop), Y s x W → (∀ a₁ W', KeepsOthers W W' → Y s x W' → Ax x a₁ W' → K a₁ W') →
     assign.wpIn (Fence.wide.inRound l) (n - 1 - 1) P (Exit.then K (fun _ _ _ => False)) { tmps := (ps.zip (encs x)).foldl (fun t (p, v) => t.setIfInBounds p v) a.tmps, defers := [] } W)
   (hbody : ∀ (l : Nat) (s : σ) (x : α) (a₁ : Act) (W : World), Y s x W → Ax x a₁ W → body.wpIn (Fence.wide.inRound l) (n - 1 - 1) P (OnPost (Z s x) W) a₁ W)
   (hdone : ∀ (D : Nat) (W : World), w.heap.size ≤ D → Fin W → W.heap[D]? = some (.deferred (some [])) → Q .normal { a with defers := { target := .collected D, args := #[] } :: a.defers } W) :
   (Code.rangeFunc g ps assign body).wpIn Fence.wide n P Q a w := by
 refine wpIn_rangeFunc ?_
 intro fn hfn
 obtain ⟨rec, hrec⟩ : ∃ rec : LoopState → Loop, rec = fun st => { state := st, pending := none, fn, tmps := a.tmps, params := ps, assign, body, defers := w.heap.size } := ⟨_, rfl⟩
 obtain ⟨W1, hW1⟩ : ∃ W1, (w.alloc (.deferred (some []))).alloc (.loop (rec .ready)) = W1 := ⟨_, rfl⟩
 have hs1 : W1.heap.size = w.heap.size + 2 := by rw [← hW1]; simp
 have hl1 : W1.heap[w.heap.size + 1]? = some (.loop (rec .ready)) := by
   have := World.alloc_heap_new (w.alloc (.deferred (some []))) (.loop (rec .ready))
   rw [World.size_alloc] at this
   rw [← hW1]; exact this
 have hd1 : W1.heap[w.heap.size]? = some (.deferred (some [])) := by
   rw [← hW1]; exact (Below.heap_alloc _ _ _ (by simp)).trans (World.alloc_heap_new w _)
 have hR1 : R0 W1 := by rw [← hW1]; exact hR.2 _ _ (hR.2 _ _ h0)
 obtain ⟨Bk, hBk⟩ : ∃ Bk : World → Prop, Bk = fun W => W.heap[w.heap.size + 1]? = some (.loop (rec .ready)) ∧ W.heap[w.heap.size]? = some (.deferred (some [])) := ⟨_, rfl⟩
 have hB1 : Bk W1 := by rw [hBk]; exact ⟨hl1, hd1⟩
 refine ⟨w.heap.size + 1, [{ target := .collected w.heap.size, args := #[] }], W1, { target := .fn (.func gf) lb, args := #[.func (.yield (w.heap.size + 1)) #[] #[]] }, W1, gf,
   #[.func (.yield (w.heap.size + 1)) #[] #[]] ++ lb, W1, ?_, ?_, ?_, ?_, ?_, ?_⟩
 · rw [← hW1, hrec]; exact run_enterLoop_outer _ _ _ _ _
 · simp only [resolve, hg]
   simp [go_sem]
 · intro f' _; trivial
 · simp [invoke, go_sem, eg]
 · intro h; cases h
 · refine (hseq (w.heap.size + 1) Bk ?_ ?_ W1 hR1 hB1).mono ?_
   · intro A A' h k
     rw [hBk] at h ⊢
     exact ⟨k.same _ _ h.1 rfl, k.same _ _ h.2 rfl⟩
   · intro s x W hy hb
     rw [hBk] at hb
     obtain ⟨hl, hd⟩ := hb
     have hlt : w.heap.size + 1 < W.heap.size := (Array.getElem?_eq_some_iff.1 hl).1
     have hyl := run_yield (P := P) (args := encs x) hl (by rw [hrec]; exact hps x)
     rw [hrec] at hyl
     refine ⟨fn, _, assign, body, hyl, roundIn_of_wpIn hfn (hassign _ s x W _ hy ?_)⟩
     intro a₁ W2 hk hy2 hax
     have hl2 := hk.same _ _ hl rfl
     have hd2 := hk.same _ _ hd rfl
     refine ⟨_, run_beginRound hl2 (by rw [hrec]), ?_⟩
     have hlt2 : w.heap.size + 1 < W2.heap.size := (Array.getElem?_eq_some_iff.1 hl2).1
     obtain ⟨W3, hW3⟩ : ∃ W3, W2.putObj (w.heap.size + 1) (.loop { rec .ready with state := .busy }) = W3 := ⟨_, rfl⟩
     rw [hW3]
     have hl3 : W3.heap[w.heap.size + 1]? = some (.loop { rec .ready with state := .busy }) := by rw [← hW3]; exact World.putObj_heap_same hlt2
     have hd3 : W3.heap[w.heap.size]? = some (.deferred (some [])) := by rw [← hW3]; exact (World.putObj_heap_other (by omega)).trans hd2
     have hy3 : Y s x W3 := by rw [← hW3]; exact (hY s x).1 _ _ _ _ hy2 (by omega) hl2 rfl
     have hax3 : Ax x a₁ W3 := by rw [← hW3]; exact (hAx x a₁).1 _ _ _ _ hax (by omega) hl2 rfl
     refine wpIn_mono (hbody _ s x a₁ W3 hy3 hax3) ?_
     rintro e a4 W4 hp
     cases e with
     | normal =>
      obtain ⟨hk4, hz4⟩ := hp
      have hl4 := hk4.same _ _ hl3 rfl
      have hd4 := hk4.same _ _ hd3 rfl
      have hend := run_endRound (P := P) none hl4
      refine ⟨_, _, hend, rfl, (hZ s x).1 _ _ _ _ hz4 (by omega) hl4 rfl, ?_⟩
      rw [hBk]
      refine ⟨?_, (World.putObj_heap_other (by omega)).trans hd4⟩
      have h5 := World.putObj_heap_same (w := W4) (o := .loop { { rec .ready with state := .busy } with state := if (none : Option Code).isNone then .ready else .done, pending := none }) (Array.getElem?_eq_some_iff.1 hl4).1
      rw [h5, hrec]
      rfl
     | _ => exact hp.elim
   · rintro e W2 ⟨⟨v, rfl⟩, hfin, hb⟩
     rw [hBk] at hb
     have hend := run_endLoop (P := P) hb.1 (by rw [hrec]; simp)
     have hp : (rec .ready).pending = none := by rw [hrec]
     rw [hp] at hend
     exact ⟨none, _, hend, hdone _ _ (Nat.le_refl _) (hF.1 _ _ _ _ hfin (by omega) hb.1 rfl) ((World.putObj_heap_other (by omega)).trans hb.2)⟩
end Go.Proofs.Ytbpnfpckoapdbaa.Rng
end
section
namespace Go.Proofs.Ytbpnfpckoapdbaa.M
open Go.RowKit Go.Shelf Go.Proofs.Ytbpnfpckoapdbaa.Rng Go.Proofs.YtbpnfpckoapdbaaW.PrintWords Go.Proofs.YtbpnfpckoapdbaaW.PrintLast Go.Proofs.YtbpnfpckoapdbaaW.PrintMore Go.Proofs.Ytbpnfpckoapdbaa.KD
set_option linter.unusedVariables false
set_option linter.unusedSimpArgs false
set_option maxHeartbeats 1000000
set_option maxRecDepth 100000
attribute [local go_sem] Oper.semAt_some
/-- The messages that fields name. -/
def refsL (fs : List S50) : List ByteArray := (fs.filter (fun x => x.f2 == 15)).map (·.f3)
theorem refsL_snoc_yes {fs : List S50} {x : S50} (h : (x.f2 == 15) = true) : refsL (fs ++ [x]) = refsL fs ++ [x.f3] := by
 unfold refsL
 rw [List.filter_append, List.map_append, List.filter_cons, h]
 rfl
theorem refsL_snoc_no {fs : List S50} {x : S50} (h : (x.f2 == 15) = false) : refsL (fs ++ [x]) = refsL fs := by
 unfold refsL
 rw [List.filter_append, List.filter_cons, h, List.map_append]
 simp
theorem take_snoc' {α : Type} {xs : List α} {i : Nat} {x : α} (h : xs[i]? = some x) : xs.take (i + 1) = xs.take i ++ [x] := by
 obtain ⟨h1, rfl⟩ := List.getElem?_eq_some_iff.1 h
 rw [List.take_succ_eq_append_getElem h1]
theorem refs_c (nm : ByteArray) (A A' : Option Addr) (n c n' c' : Nat) (w : World) : Calls Try.prog 75 #[.agg #[.string nm, .slice A n c, .slice A' n' c']] w fun e w' => e = .returned (.func (.func 99) #[] #[.pointer (some ⟨w.heap.size, 0, none⟩)]) ∧ Below w.heap.size w w' ∧ w'.heap[w.heap.size]? = some (.cells #[.string nm, .slice A n c, .slice A' n' c'] 47 (0, 0)) := by
 go_enter Try.func75, Try.ntmps75
 go_wp2
 go_ret
 exact ⟨rfl, below_alloc (Below.refl _ _) _, blk_new _ _⟩
/-- What a user of the iterator keeps: the message's box, its fields; it stands new blocks and draws. -/
structure Keeps (mb : Nat) (nm : ByteArray) (A A' : Option Addr) (c n' c' : Nat) (fs : List S50) (J : List ByteArray → World → Prop) : Prop where
 box : ∀ l W, J l W → W.heap[mb]? = some (.cells #[.string nm, .slice A fs.length c, .slice A' n' c'] 47 (0, 0))
 rd : ∀ l W, J l W → Kd.C k50 W A fs.length fs
 alloc : ∀ l W o, J l W → J l (W.alloc o)
 drew : ∀ l W n, J l W → J l (W.drewN n)
theorem refs_on {mb : Nat} {nm : ByteArray} {A A' : Option Addr} {c n' c' : Nat} {fs : List S50} {J : List ByteArray → World → Prop} (HJ : Keeps mb nm A A' c n' c' fs J) (n : Nat) (hn1 : 1 ≤ n) :
  SeqOn n Try.prog 99 #[.pointer (some ⟨mb, 0, none⟩)] (fun x : ByteArray => #[.string x]) (J []) (J (refsL fs)) (fun (s : List ByteArray) x W => J s W) (fun s x W => J (s ++ [x]) W) := by
 intro l Bk hBk hYZ W hR0 hB0
 have hb0 := HJ.box _ _ hR0
 have z0 := (blk_cell hb0 0).trans rfl
 have z1 := (blk_cell hb0 1).trans rfl
 have z2 := (blk_cell hb0 2).trans rfl
 have HB0 := Aside0.mk hB0
 have H0 := Aside0.mk hR0
 have HBK := Aside0.mk hBk
 have HYZ := Aside0.mk hYZ
 have HKJ := Aside0.mk HJ
 have HM := Aside0.mk (Kd.C_max (HJ.rd _ _ hR0))
 clear hB0 hR0 hBk hYZ hb0 HJ
 refine callsIn_of_wp Try.func99 rfl trivial ?_ rfl
 simp only [Try.ntmps99, List.size_toArray, List.length_cons, List.length_nil, Nat.reduceAdd, Nat.reduceSub, Array.replicate_succ, Array.replicate_zero, List.push_toArray, List.append_toArray, List.nil_append, List.cons_append, Array.append_assoc]
 gi_wp2
 gi_loopg [8] (fs.length + 1) (fun kq v8 wr => ∃ (i : Nat), v8 = .int .i64 (i : Int) ∧ Aside0 (kq + i = fs.length + 1 ∧ J (refsL (fs.take i)) wr ∧ Bk wr))
 case atStart => exact ⟨0, rfl, ⟨by omega, H0.out, HB0.out⟩⟩
 case round =>
  obtain ⟨i, rfl, HG⟩ := hrel
  obtain ⟨hg0, hj, hbk⟩ := HG.out
  by_cases hi : (i : Int) < (fs.length : Int)
  · have c1 : decide ((i : Int) < (fs.length : Int)) = true := decide_eq_true hi
    have p0 : (0 : Int) ≤ (i : Int) := by omega
    obtain ⟨ad, s0, i1, i2, s3, b4, b5, s6, x, rfl, hx, q0, q1, q2, q3, q4, q5, q6, hk⟩ := atK_Field (HKJ.out.rd _ _ hj) i (by omega)
    have hk2 := k50_open hk
    injection hk2 with e0 hk2
    injection hk2 with e1 hk2
    injection hk2 with e2 hk2
    injection hk2 with e3 hk2
    injection hk2 with e4 hk2
    injection hk2 with e5 hk2
    injection hk2 with e6 hk2
    injection e0 with e0
    injection e1 with _ e1
    injection e2 with _ e2
    injection e3 with e3
    injection e4 with e4
    injection e5 with e5
    injection e6 with e6
    subst e0 e1 e2 e3 e4 e5 e6
    have hw : IntKind.i64.wrap ((i : Int) + 1) = ((i + 1 : Nat) : Int) := by have := HM.out; rw [IntKind.wrap_i64]; omega
    have HX := Aside0.mk hx
    have HI := Aside0.mk (show i < fs.length by omega)
    have HT := Aside0.mk (take_snoc' hx)
    have HJ1 := Aside0.mk hj
    have HB1 := Aside0.mk hbk
    have HG0 := Aside0.mk hg0
    replace hi := eq_true hi
    clear hx hk hk2 HG hg0 hj hbk
    by_cases h15 : x.f2 = 15
    · have t1 : (x.f2 == 15) = true := by simpa using h15
      have HR := Aside0.mk (refsL_snoc_yes (fs := fs.take i) t1)
      clear h15
      obtain ⟨fn, tmps, assign, body, hy, hR⟩ := HYZ.out (refsL (fs.take i)) x.f3 (wr.alloc (.cells #[.string x.f0, .int .i64 x.f1, .int .i64 x.f2, .string x.f3, .bool x.f4, .bool x.f5, .string x.f6] 50)) (HKJ.out.alloc _ _ _ HJ1.out) (HBK.out _ _ HB1.out (KeepsOthers.alloc _ _))
      have HRD := Aside0.mk hR
      clear hR
      gi_wp2
      refine HRD.out.mono ?_
      rintro e w5 ⟨rfl, j5, b5⟩
      have J5 := Aside0.mk j5
      have B5 := Aside0.mk b5
      clear j5 b5
      gi_wp2
      gi_roundg (gk - 1)
      case measure => have := HG0.out; have := HI.out; omega
      case rel => exact ⟨i + 1, rfl, ⟨by have := HG0.out; have := HI.out; omega, by rw [HT.out, HR.out]; exact J5.out, B5.out⟩⟩
    · have t1 : (x.f2 == 15) = false := by simpa using h15
      have HR := Aside0.mk (refsL_snoc_no (fs := fs.take i) t1)
      clear h15
      have j5 := HKJ.out.alloc _ _ (.cells #[.string x.f0, .int .i64 x.f1, .int .i64 x.f2, .string x.f3, .bool x.f4, .bool x.f5, .string x.f6] 50) HJ1.out
      have J5 := Aside0.mk j5
      have B5 := Aside0.mk (HBK.out _ _ HB1.out (KeepsOthers.alloc wr (.cells #[.string x.f0, .int .i64 x.f1, .int .i64 x.f2, .string x.f3, .bool x.f4, .bool x.f5, .string x.f6] 50)))
      clear j5
      gi_wp2
      all_goals
       refine ⟨(fun _ h => (by cases h)), ?_⟩
       gi_wp2
       gi_roundg (gk - 1)
       case measure => have := HG0.out; have := HI.out; omega
       case rel => exact ⟨i + 1, rfl, ⟨by have := HG0.out; have := HI.out; omega, by rw [HT.out, HR.out]; exact J5.out, B5.out⟩⟩
  · have c1 : decide ((i : Int) < (fs.length : Int)) = false := decide_eq_false hi
    have c2 : decide (i < fs.length) = false := decide_eq_false (by omega)
    have HF := Aside0.mk (show fs.take i = fs from List.take_of_length_le (by omega))
    have HJ1 := Aside0.mk hj
    have HB1 := Aside0.mk hbk
    clear hi HG hg0 hj hbk
    gi_wp2
    go_end0
    exact ⟨⟨_, rfl⟩, by have := HJ1.out; rwa [HF.out] at this, HB1.out⟩
end Go.Proofs.Ytbpnfpckoapdbaa.M
end
section
namespace Go.Proofs.Ytbpnfpckoapdbaa.Rng
open Go.RowKit Go.Proofs.YtbpnfpckoapdbaaW.PrintWords
/-- The marks among deferred calls: each an open block of its own. -/
def Marks (B : Nat) : List Deferred → World → Prop
 | [], _ => True
 | d :: ds, W => ∃ D, d = { target := .collected D, args := #[] } ∧ B ≤ D ∧ W.heap[D]? = some (.deferred (some [])) ∧ (∀ d' ∈ ds, d'.target ≠ .collected D) ∧ Marks B ds W
theorem Marks.keep {B : Nat} : ∀ {ds : List Deferred} {W W' : World}, Marks B ds W → KeepsOthers W W' → Marks B ds W'
 | [], _, _, _, _ => trivial
 | _ :: _, _, _, ⟨D, h1, h2, h3, h4, h5⟩, hk => ⟨D, h1, h2, hk.same _ _ h3 rfl, h4, h5.keep hk⟩
theorem Marks.lt {B : Nat} : ∀ {ds : List Deferred} {W : World}, Marks B ds W → ∀ d ∈ ds, ∃ D, d.target = .collected D ∧ D < W.heap.size
 | [], _, _, d, hd => absurd hd List.not_mem_nil
 | e :: ds, W, ⟨D, h1, h2, h3, h4, h5⟩, d, hd => by
  rcases List.mem_cons.1 hd with rfl | hd
  · exact ⟨D, by rw [h1], (Array.getElem?_eq_some_iff.1 h3).1⟩
  · exact Marks.lt h5 d hd
theorem Marks.cons {B D : Nat} {ds : List Deferred} {W W0 : World} (h : Marks B ds W0) (hk : KeepsOthers W0 W) (hD : W0.heap.size ≤ D) (hB : B ≤ D) (hd : W.heap[D]? = some (.deferred (some []))) : Marks B ({ target := .collected D, args := #[] } :: ds) W :=
 ⟨D, rfl, hB, hd, fun d' hd' e => by
  obtain ⟨D', h1, h2⟩ := Marks.lt h d' hd'
  rw [e] at h1
  injection h1 with h1
  omega, h.keep hk⟩
/-- What shutting the marks leaves. -/
structure Shut (B : Nat) (W W' : World) : Prop where
 bel : Below B W W'
 cells : ∀ (j : Nat) (cs : Array Value) (t : TypeId) (fr : Nat × Nat), W.heap[j]? = some (.cells cs t fr) → W'.heap[j]? = some (.cells cs t fr)
theorem Shut.refl (B : Nat) (W : World) : Shut B W W := ⟨Below.refl _ _, fun _ _ _ _ h => h⟩
theorem Shut.trans {B : Nat} {W W1 W2 : World} (h : Shut B W W1) (k : Shut B W1 W2) : Shut B W W2 := ⟨h.bel.trans k.bel, fun j cs t fr hj => k.cells j cs t fr (h.cells j cs t fr hj)⟩
theorem leavesM {F : Fence} {n B : Nat} {P : Program} {fn : Func} {tmps : Array Value} {R : Ending → World → Prop} : ∀ (ds : List Deferred) (W : World), Marks B ds W → (∀ W', Shut B W W' → LeavesInM F n P fn tmps R [] .returning W') → LeavesInM F n P fn tmps R ds .returning W
 | [], W, _, h => h W (Shut.refl _ _)
 | d :: ds, W, ⟨D, h1, h2, h3, h4, h5⟩, h => by
  subst h1
  refine ⟨by simp, .inl ⟨D, _, rfl, run_takeDeferred h3, ?_⟩⟩
  have hne : ∀ j, j ≠ D → (W.putObj D (.deferred none)).heap[j]? = W.heap[j]? := fun j hj => World.putObj_heap_other hj
  have hs : Shut B W (W.putObj D (.deferred none)) := ⟨⟨rfl, rfl, rfl, by simp, fun i hi => hne i (by omega)⟩, fun j cs t fr hj => (hne j (fun e => by subst e; rw [h3] at hj; cases hj)).trans hj⟩
  have hm : ∀ (ds : List Deferred), (∀ d' ∈ ds, d'.target ≠ .collected D) → Marks B ds W → Marks B ds (W.putObj D (.deferred none)) := by
   intro ds
   induction ds with
   | nil => intro _ _; trivial
   | cons e es ih =>
    rintro hd ⟨D', g1, g2, g3, g4, g5⟩
    refine ⟨D', g1, g2, (hne D' (fun e' => hd e (by simp) (by rw [g1, e']))).trans g3, g4, ih (fun d' hd' => hd d' (by simp [hd'])) g5⟩
  exact leavesM ds _ (hm ds h4 h5) (fun W' hW' => h W' (hs.trans hW'))
theorem szA {B : Nat} {W : World} (h : B ≤ W.heap.size) (o : Obj) : B ≤ (W.alloc o).heap.size := by rw [World.size_alloc]; omega
theorem R_appendIn {F : Fence} {nF : Nat} {P : Program} {ops : Array Oper} {rest : List Oper} {o : Oper} {a : Act} {Q : Exit → Act → World → Prop} {α : Type} (d : Kd α) {w0 W : World} (base : Nat) (hgd : o.guard = none) (s x : Operand) (t e : TypeId) (z : Value) (bytes : Nat)
   (ho : o.op = .call { callee := .builtin .append, args := #[s, x], argTypes := #[t, t] })
   (ht : P.underlying t = some (.slice e)) (hinfo : (P.info? e).map (fun i => (i.zero, i.size, i.bytes)) = some (some z, d.sz, bytes)) (hz : z.cells.size = d.sz) (hs0 : 0 < d.sz) (hb0 : 0 < bytes)
   (v : Value) (xs : List α) (p : α) (cs : List Value) (ok okp : Nat → Prop) (hs : a.eval s = v) (hx : a.eval x = .slice (some ⟨W.heap.size, 0, none⟩) 1 1) (hp : d.M W base okp p cs) (hokp : ∀ k, okp k → ok k ∧ some k ≠ v.ownBlock) (hfresh : ∀ k, W.heap.size ≤ k → ok k)
   (HO : d.R e W base ok v xs) (HB : Below base w0 W) (hbase : base ≤ W.heap.size) (hl : (xs.length + 1) * bytes ≤ 140737488355328)
   (h : ∀ v1 w1, d.R e w1 base ok v1 (xs ++ [p]) → Below base w0 w1 → W.grownBy w1 v.ownBlock → wpListIn F nF P ops Q rest (a.put o.dst v1) w1) :
   wpListIn F nF P ops Q (o :: rest) a (W.alloc (.cells cs.toArray e)) := by
 obtain ⟨h0, inner, hown, hr⟩ := HO
 obtain ⟨i0, hi, hzz⟩ := Option.map_eq_some_iff.1 hinfo
 simp only [Prod.mk.injEq] at hzz
 obtain ⟨hz0, hz1, hz2⟩ := hzz
 have hlen : xs.length + 1 ≤ 140737488355328 := Nat.le_trans (Nat.le_mul_of_pos_right _ hb0) hl
 refine wpListIn_append_own_at (W.alloc _) hgd s x t ho base e i0 z d.sz bytes ht hi hz0 hz1 hz2 hz hs0 v xs.length inner hs (hown.alloc _) ⟨W.heap.size, 0, none⟩ 1 1 cs hx (by rw [Nat.one_mul]; exact d.K_len (d.K_of_M hp))
   (World.news_of_block (cs := cs.toArray) (t := e) (fr := (0, 0)) (heap_alloc_new W _)) (d.K_one (d.K_of_M hp)) (by simp only [maxLen]; omega) hl (szA hbase _) ?_
 intro v1 w1 hown1 hg _ hat
 have hg1 : W.grownBy w1 v.ownBlock := World.grownBy.trans (World.grownBy_alloc W _ _) hg
 refine h v1 w1 (Kd.R_appended h0 hr hp hokp hfresh hown1 hg1 ?_) ((HB.alloc hbase _).grown hg (szA hbase _) (own_base hown)) hg1
 rcases hat with hat | hat
 · exact .inl hat
 · exact .inr ⟨_, hat, by rw [World.size_alloc]; omega⟩
end Go.Proofs.Ytbpnfpckoapdbaa.Rng
end
section
namespace Go.Proofs.Ytbpnfpckoapdbaa.M
open Go.RowKit Go.Shelf Go.Proofs.Ytbpnfpckoapdbaa.Rng Go.Proofs.YtbpnfpckoapdbaaW.PrintWords Go.Proofs.YtbpnfpckoapdbaaW.PrintLast Go.Proofs.YtbpnfpckoapdbaaW.PrintMore Go.Proofs.Ytbpnfpckoapdbaa.KD
set_option linter.unusedVariables false
set_option linter.unusedSimpArgs false
set_option maxHeartbeats 1000000
set_option maxRecDepth 100000
attribute [local go_sem] Oper.semAt_some
def cntR (nm : ByteArray) (n : Int) (l : List ByteArray) : Int := l.foldl (fun n r => if r.toList == nm.toList then wrap64 (n + 1) else n) n
theorem cntR_snoc (nm : ByteArray) (n : Int) (l : List ByteArray) (x : ByteArray) : cntR nm n (l ++ [x]) = if x.toList == nm.toList then wrap64 (cntR nm n l + 1) else cntR nm n l := by
 unfold cntR
 rw [List.foldl_append]
 rfl
def usesM (nm : ByteArray) (l : List S47) : Int := l.foldl (fun n m => cntR nm n (refsL m.f1)) 0
theorem usesM_snoc (nm : ByteArray) (l : List S47) (x : S47) : usesM nm (l ++ [x]) = cntR nm (usesM nm l) (refsL x.f1) := by
 unfold usesM
 rw [List.foldl_append]
 rfl
structure UJ (w0 : World) (nm : ByteArray) (n : Int) (W : World) : Prop where
 bel : Below w0.heap.size w0 W
 b1 : W.heap[w0.heap.size + 1]? = some (.cells #[.string nm] 9 (0, 0))
 b2 : W.heap[w0.heap.size + 1 + 1]? = some (.cells #[.int .i64 n] 3 (0, 0))
 hle : w0.heap.size + 3 ≤ W.heap.size
theorem UJ.alloc {w0 W : World} {nm : ByteArray} {n : Int} (h : UJ w0 nm n W) (o : Obj) : UJ w0 nm n (W.alloc o) :=
 ⟨h.bel.alloc (by have := h.hle; omega) _, blk_alloc h.b1 _, blk_alloc h.b2 _, by rw [World.size_alloc]; have := h.hle; omega⟩
theorem UJ.drewN {w0 W : World} {nm : ByteArray} {n : Int} (h : UJ w0 nm n W) (k : Nat) : UJ w0 nm n (W.drewN k) := ⟨pw_below_drewN h.bel k, h.b1, h.b2, h.hle⟩
theorem UJ.below {w0 W W' : World} {nm : ByteArray} {n : Int} (h : UJ w0 nm n W) (hb : Below W.heap.size W W') : UJ w0 nm n W' :=
 ⟨h.bel.trans (hb.mono (by have := h.hle; omega)), blk_below h.b1 hb, blk_below h.b2 hb, Nat.le_trans h.hle hb.size⟩
theorem UJ.putObj {w0 W : World} {nm : ByteArray} {n : Int} (h : UJ w0 nm n W) {k : Nat} {o : Obj} (o' : Obj) (hB : w0.heap.size ≤ k) (hk : W.heap[k]? = some o) (ho : o.isCells = false) : UJ w0 nm n (W.putObj k o') := by
 have hne : ∀ j, (∃ cs t, W.heap[j]? = some (Obj.cells cs t (0, 0))) → (W.putObj k o').heap[j]? = W.heap[j]? := fun j ⟨cs, t, hj⟩ => World.putObj_heap_other (fun e => by subst e; rw [hk] at hj; cases hj; cases ho)
 exact ⟨h.bel.trans ⟨rfl, rfl, rfl, by simp, fun i hi => World.putObj_heap_other (by omega)⟩, (hne _ ⟨_, _, h.b1⟩).trans h.b1, (hne _ ⟨_, _, h.b2⟩).trans h.b2, by simpa using h.hle⟩
theorem UJ.set {w0 W : World} {nm : ByteArray} {n : Int} (h : UJ w0 nm n W) (m : Int) : UJ w0 nm m (W.setCell ⟨w0.heap.size + 1 + 1, 0, none⟩ (.int .i64 m)) :=
 ⟨h.bel.setCell (by simp only; omega) _, (Below.heap_setCell W ⟨w0.heap.size + 1 + 1, 0, none⟩ _ (w0.heap.size + 1) (by simp)).trans h.b1, blk_put h.b2 0 _ rfl, by rw [World.size_setCell]; exact h.hle⟩
def find_Uses.f (l0_0 : List S86) (l0_1 : List S47) (a1 : ByteArray) : Option Int := some (usesM a1 l0_1)
/-- While the fields of a message are gone through. -/
structure UR (w0 W0 : World) (nm : ByteArray) (n : Int) (mb : Nat) (m : ByteArray) (A A' : Option Addr) (c n' c' : Nat) (fs : List S50) (pre : List ByteArray) (W : World) : Prop where
 u : UJ w0 nm (cntR nm n pre) W
 box : W.heap[mb]? = some (.cells #[.string m, .slice A fs.length c, .slice A' n' c'] 47 (0, 0))
 rd : Kd.C k50 w0 A fs.length fs
 mbl : w0.heap.size + 3 ≤ mb
 ko : KeepsOthers W0 W
theorem UR.keeps (w0 W0 : World) (nm : ByteArray) (n : Int) (mb : Nat) (m : ByteArray) (A A' : Option Addr) (c n' c' : Nat) (fs : List S50) : Keeps mb m A A' c n' c' fs (UR w0 W0 nm n mb m A A' c n' c' fs) :=
 ⟨fun _ _ h => h.box, fun _ _ h => Kd.C_below h.rd h.u.bel, fun _ _ o h => ⟨h.u.alloc o, blk_alloc h.box _, h.rd, h.mbl, h.ko.trans (KeepsOthers.alloc _ _)⟩, fun _ _ k h => ⟨h.u.drewN k, h.box, h.rd, h.mbl, h.ko.trans ⟨Nat.le_refl _, fun _ _ hk _ => hk⟩⟩⟩
theorem KO_put {W0 W : World} (h : KeepsOthers W0 W) {l : Nat} (o' : Obj) (hl : W0.heap.size ≤ l) : KeepsOthers W0 (W.putObj l o') :=
 ⟨by simpa using h.size, fun k o hk ho => (World.putObj_heap_other (by have := (Array.getElem?_eq_some_iff.1 hk).1; omega)).trans (h.same k o hk ho)⟩
theorem UR.firm {w0 W0 : World} {nm : ByteArray} {n : Int} {mb : Nat} {m : ByteArray} {A A' : Option Addr} {c n' c' : Nat} {fs : List S50} (pre : List ByteArray) {B : Nat} (hB : w0.heap.size ≤ B) (hB' : W0.heap.size ≤ B) : Firm B (UR w0 W0 nm n mb m A A' c n' c' fs pre) :=
 ⟨fun W l o o' h hl hk ho => ⟨h.u.putObj o' (Nat.le_trans hB hl) hk ho, (World.putObj_heap_other (fun e => by subst e; have := h.box; rw [hk] at this; cases this; cases ho)).trans h.box, h.rd, h.mbl, KO_put h.ko o' (Nat.le_trans hB' hl)⟩, fun W o h => ⟨h.u.alloc o, blk_alloc h.box _, h.rd, h.mbl, h.ko.trans (KeepsOthers.alloc _ _)⟩⟩
theorem find_Uses.calls (A0_0 : Option Addr) (c0_0 : Nat) (l0_0 : List S86) (A0_1 : Option Addr) (c0_1 : Nat) (l0_1 : List S47) (a1 : ByteArray) (r : Int) (w : World) (hr0_0 : Kd.C k86 w A0_0 l0_0.length l0_0) (hc0_0 : l0_0.length ≤ c0_0) (hr0_1 : Kd.C k47 w A0_1 l0_1.length l0_1) (hc0_1 : l0_1.length ≤ c0_1) (h : find_Uses.f l0_0 l0_1 a1 = some r) :
  Calls Try.prog 31 #[.agg #[.slice A0_0 l0_0.length c0_0, .slice A0_1 l0_1.length c0_1], .string a1] w fun e w' => e = .returned (.int .i64 r) ∧ Below w.heap.size w w' := by
 obtain rfl := Option.some.inj h
 have HA := Aside0.mk hr0_1
 have HM := Aside0.mk (Kd.C_max hr0_1)
 clear hr0_0 hr0_1 hc0_0 hc0_1 h
 refine (callsIn_wide (n := 9)).1 ?_
 refine callsIn_of_wp_marks Try.func31 rfl trivial ?_ rfl
 refine wpIn_wide.2 ?_
 simp only [Try.ntmps31, List.size_toArray, List.length_cons, List.length_nil, Nat.reduceAdd, Nat.reduceSub, Array.replicate_succ, Array.replicate_zero, List.push_toArray, List.append_toArray, List.nil_append, List.cons_append, Array.append_assoc]
 go_wp2
 have U0 : UJ w a1 (usesM a1 (l0_1.take 0)) (((w.alloc (.cells #[.slice A0_0 l0_0.length c0_0, .slice A0_1 l0_1.length c0_1] 35)).alloc (.cells #[.string a1] 9)).alloc (.cells #[.int .i64 0] 3)) := by
  refine ⟨((Below.refl _ _).alloc (Nat.le_refl _) _ |>.alloc (by simp) _).alloc (by simp; omega) _, ?_, ?_, by simp⟩
  · have := blk_new (w.alloc (.cells #[.slice A0_0 l0_0.length c0_0, .slice A0_1 l0_1.length c0_1] 35)) (.cells #[.string a1] 9)
    rw [World.size_alloc] at this
    exact blk_alloc this _
  · have := blk_new ((w.alloc (.cells #[.slice A0_0 l0_0.length c0_0, .slice A0_1 l0_1.length c0_1] 35)).alloc (.cells #[.string a1] 9)) (.cells #[.int .i64 0] 3)
    rw [World.size_alloc, World.size_alloc] at this
    exact this
 have HU0 := Aside0.mk U0
 clear U0
 refine wp_loop_ghost_k (fun kq aq wq => ∃ u7 u8 u12 u13 u14 u15 u16 u17 u19 u20 u21 u22 u23 u24 ds, (∃ i : Nat, u12 = .int .i64 (i : Int) ∧ Aside0 (kq + i = l0_1.length) ∧ Aside0 (UJ w a1 (usesM a1 (l0_1.take i)) wq) ∧ Aside0 (Marks w.heap.size ds wq)) ∧ aq = { tmps := #[.agg #[.slice A0_0 l0_0.length c0_0, .slice A0_1 l0_1.length c0_1], .string a1, .pointer (some ⟨w.heap.size, 0, none⟩), .pointer (some ⟨w.heap.size + 1, 0, none⟩), .int .i64 0, .pointer (some ⟨w.heap.size + 1 + 1, 0, none⟩), undef, u7, u8, .pointer (some ⟨w.heap.size, 1, none⟩), .slice A0_1 l0_1.length c0_1, .int .i64 (l0_1.length : Int), u12, u13, u14, u15, u16, u17, undef, u19, u20, u21, u22, u23, u24, undef], defers := ds }) l0_1.length ?start ?round
 case start =>
  (repeat apply Exists.intro)
  exact ⟨⟨0, rfl, ⟨by omega⟩, HU0, ⟨show Marks _ [] _ from trivial⟩⟩, rfl⟩
 case round =>
  intro gk aq wr hinv
  obtain ⟨u7, u8, u12, u13, u14, u15, u16, u17, u19, u20, u21, u22, u23, u24, ds, ⟨i, rfl, HK, HU, HMK⟩, rfl⟩ := hinv
  intro _ _ _ _
  clear HU0
  by_cases hi : (i : Int) < (l0_1.length : Int)
  · have c1 : decide ((i : Int) < (l0_1.length : Int)) = true := decide_eq_true hi
    have p0 : (0 : Int) ≤ (i : Int) := by omega
    obtain ⟨ad, s0, A1, n1, m1, A2, n2, m2, x, rfl, hx, q0, q1, q2, hk⟩ := atK_Message HA.out i (by omega)
    have hk2 := k47_open hk
    obtain ⟨B1, d1, B2, d2, he, _, hC1, _, _⟩ := hk2
    injection he with e0 he
    injection he with e1 he
    injection he with e2 he
    injection e0 with e0
    injection e1 with e1 e1b e1c
    injection e2 with e2 e2b e2c
    subst e0 e1 e1b e1c e2 e2b e2c
    replace q0 := pw_cell_below HU.out.bel q0
    replace q1 := pw_cell_below HU.out.bel q1
    replace q2 := pw_cell_below HU.out.bel q2
    have hw : IntKind.i64.wrap ((i : Int) + 1) = ((i + 1 : Nat) : Int) := by have := HM.out; rw [IntKind.wrap_i64]; omega
    have HX := Aside0.mk hx
    have HI := Aside0.mk (show i < l0_1.length by omega)
    have HT := Aside0.mk (take_snoc' hx)
    have HC1 := Aside0.mk hC1
    replace hi := eq_true hi
    clear hx hk he hC1
    go_wp2_with (first | (go_at_call 75; refine (refs_c _ _ _ _ _ _ _ _).mono ?_; rintro e w2 ⟨rfl, b2, x2⟩; have B2_ := Aside0.mk b2; have X2 := Aside0.mk x2; clear b2 x2))
    have K2 := Aside0.mk (show KeepsOthers wr w2 from (KeepsOthers.alloc wr _).trans ⟨B2_.out.size, fun k o hk _ => (B2_.out.block k (Array.getElem?_eq_some_iff.1 hk).1).trans hk⟩)
    have J0 : UR w wr a1 (usesM a1 (l0_1.take i)) (wr.heap.size + 1) x.f0 A1 A2 m1 x.f2.length m2 x.f1 [] w2 := by
     have hx2 := X2.out
     rw [World.size_alloc] at hx2
     exact ⟨(HU.out.alloc _).below B2_.out, hx2, HC1.out, by have := HU.out.hle; omega, K2.out⟩
    have HJ0 := Aside0.mk J0
    have L3 := Aside0.mk K2.out.size
    have L2 := Aside0.mk (show w.heap.size ≤ w2.heap.size by have := HU.out.hle; have := B2_.out.size; rw [World.size_alloc] at this; omega)
    clear J0
    refine (wpIn_wide (n := 9)).1 ?_
    refine range_on (gf := 99) (lb := #[.pointer (some ⟨(wr.heap.size + 1), 0, none⟩)]) rfl (enters_of Try.func99 (by kernel_rfl) rfl)
     (refs_on (UR.keeps w wr a1 (usesM a1 (l0_1.take i)) (wr.heap.size + 1) x.f0 A1 A2 m1 x.f2.length m2 x.f1) 8 (by omega)) (fun _ => rfl)
     (UR.firm _ L2.out L3.out) (UR.firm _ L2.out L3.out) (fun _ _ => UR.firm _ L2.out L3.out) (fun _ _ => UR.firm _ L2.out L3.out) HJ0.out
     (fun r a₁ W => a₁ = { tmps := #[.agg #[.slice A0_0 l0_0.length c0_0, .slice (some ad) l0_1.length c0_1], .string a1, .pointer (some ⟨w.heap.size, 0, none⟩), .pointer (some ⟨w.heap.size + 1, 0, none⟩), .int .i64 0, .pointer (some ⟨w.heap.size + 1 + 1, 0, none⟩), undef, .pointer (some ⟨wr.heap.size, 0, none⟩), .string r, .pointer (some ⟨w.heap.size, 1, none⟩), .slice (some ad) l0_1.length c0_1, .int .i64 (l0_1.length : Int), .int .i64 (i : Int), .bool true, .pointer (some (ad.add (i * 3))), .agg #[.string x.f0, .slice A1 x.f1.length m1, .slice A2 x.f2.length m2], .agg #[.string x.f0, .slice A1 x.f1.length m1, .slice A2 x.f2.length m2], .func (.func 99) #[] #[.pointer (some ⟨(wr.heap.size + 1), 0, none⟩)], .string r, u19, u20, u21, u22, u23, u24, undef], defers := [] })
     ?hAx ?assign ?body ?done
    case hAx => exact fun x a₁ => ⟨fun W l o o' h _ _ _ => h, fun W o h => h⟩
    case assign =>
     intro l s r W K hy hK
     gi_wp2
     exact hK _ _ (KeepsOthers.refl _) hy rfl
    case body =>
     rintro l s r a₁ W hy rfl
     have hn := (blk_cell hy.u.b1 0).trans rfl
     have hc := (blk_cell hy.u.b2 0).trans rfl
     have hf := blk_frozen hy.u.b2 0
     have HY := Aside0.mk hy
     clear hy
     by_cases hr : (r.toList == a1.toList) = true
     · have HS := Aside0.mk (show cntR a1 (usesM a1 (l0_1.take i)) (s ++ [r]) = wrap64 (cntR a1 (usesM a1 (l0_1.take i)) s + 1) by rw [cntR_snoc, if_pos hr])
       gi_wp2
       exact ⟨KeepsOthers.setCell _ _ _, by rw [HS.out]; exact HY.out.u.set _, (Below.heap_setCell W ⟨w.heap.size + 1 + 1, 0, none⟩ _ (wr.heap.size + 1) (by have := HY.out.mbl; simp only; omega)).trans HY.out.box, HY.out.rd, HY.out.mbl, HY.out.ko.trans (KeepsOthers.setCell _ _ _)⟩
     · have HS := Aside0.mk (show cntR a1 (usesM a1 (l0_1.take i)) (s ++ [r]) = cntR a1 (usesM a1 (l0_1.take i)) s by rw [cntR_snoc, if_neg hr])
       replace hr : (r.toList == a1.toList) = false := by simpa using hr
       gi_wp2
       exact ⟨KeepsOthers.refl _, by rw [HS.out]; exact HY.out.u, HY.out.box, HY.out.rd, HY.out.mbl, HY.out.ko⟩
    case done =>
     rintro D W hD hfin hK
     have HF := Aside0.mk hfin
     have HK2 := Aside0.mk hK
     have HD := Aside0.mk hD
     clear hfin hK hD
     have M2 := Aside0.mk (HMK.out.cons (D := D) (W := W) HF.out.ko (Nat.le_trans L3.out HD.out) (Nat.le_trans L2.out HD.out) HK2.out)
     have HN := Aside0.mk (usesM_snoc a1 (l0_1.take i) x)
     go_wp2
     go_roundg (l0_1.length - (i + 1))
     case measure => have := HK.out; have := HI.out; omega
     case rel => exact ⟨i + 1, rfl, ⟨by have := HI.out; omega⟩, ⟨by rw [HT.out, HN.out]; exact HF.out.u⟩, M2⟩
  · have c1 : decide ((i : Int) < (l0_1.length : Int)) = false := decide_eq_false hi
    have c2 : decide (i < l0_1.length) = false := decide_eq_false (by omega)
    have HF := Aside0.mk (show l0_1.take i = l0_1 from List.take_of_length_le (by omega))
    have hc := (blk_cell HU.out.b2 0).trans rfl
    clear hi
    go_wp2
    refine leavesM ds wr HMK.out (fun W' hW' => ?_)
    exact ⟨_, results_tmp rfl _ _ _, by first | rfl | (rw [HF.out]; rfl), HU.out.bel.trans hW'.bel⟩
end Go.Proofs.Ytbpnfpckoapdbaa.M
end
section
namespace Go.Proofs.Ytbpnfpckoapdbaa.M
open Go.RowKit Go.Shelf Go.Proofs.Ytbpnfpckoapdbaa.Rng Go.Proofs.YtbpnfpckoapdbaaW.PrintWords Go.Proofs.YtbpnfpckoapdbaaW.PrintLast Go.Proofs.YtbpnfpckoapdbaaW.PrintMore Go.Proofs.Ytbpnfpckoapdbaa.KD
set_option linter.unusedVariables false
set_option linter.unusedSimpArgs false
set_option maxHeartbeats 1000000
set_option maxRecDepth 100000
theorem own_mv {W W' : World} {base : Nat} {e : TypeId} {size n : Nat} {v : Value} {xs : List Value} (h : W.ownsRow base e size v n xs) (hm : ∀ k, v.ownBlock = some k → W'.heap[k]? = W.heap[k]?) : W'.ownsRow base e size v n xs := by
 refine ⟨h.1, ?_⟩
 rcases h.2 with h2 | ⟨g, cap, cur, rfl, hb, hh, r⟩
 · exact .inl h2
 · exact .inr ⟨g, cap, cur, rfl, hb, (hm g (by simp [Value.ownBlock])).trans hh, r⟩
theorem Rs_mv {W W' : World} {e base : Nat} {ok : Nat → Prop} {v : Value} {xs : List ByteArray} (h : Kd.R Kd.string e W base ok v xs) (hm : ∀ k, v.ownBlock = some k → W'.heap[k]? = W.heap[k]?) : Kd.R Kd.string e W' base ok v xs := by
 obtain ⟨h0, inner, ho, hr⟩ := h
 exact ⟨h0, inner, own_mv ho hm, hr.imp_ (fun _ _ hp => hp)⟩
theorem R_typed' {α : Type} {d : Kd α} {W : World} {e base k : Nat} {ok : Nat → Prop} {v : Value} {xs : List α} (h : d.R e W base ok v xs) (hk : v.ownBlock = some k) : base ≤ k ∧ ∃ cs, W.heap[k]? = some (.cells cs e (0, 0)) := by
 obtain ⟨h0, inner, ho, hr⟩ := h
 rcases ho.2 with ⟨rfl, _⟩ | ⟨g, cap, cur, rfl, hb, hh, _⟩
 · simp [Value.ownBlock] at hk
 · have : g = k := by simpa [Value.ownBlock] using hk
   subst this
   exact ⟨hb, cur, hh⟩
theorem infoStr : (Try.prog.info? 9).map (fun i => (i.zero, i.size, i.bytes)) = some (some (.string ⟨#[]⟩), 1, 16) := by kernel_rfl
/-- What the closure leaves: what is collected has one more; nothing else of what was there has changed. -/
def Kin1P (w0 W : World) (ob : Nat) (vo : Value) (most : Int) (out : List ByteArray) (x : ByteArray) (e : Ending) (W' : World) : Prop :=
 ∃ vo', e = .returned (.bool (((out.length + 1 : Nat) : Int) != most)) ∧ W'.heap[ob]? = some (.cells #[vo'] 37 (0, 0)) ∧ Kd.R Kd.string 9 W' w0.heap.size (fun _ => True) vo' (out ++ [x]) ∧
  (∀ j, j < W.heap.size → j ≠ ob → some j ≠ vo.ownBlock → W'.heap[j]? = W.heap[j]?) ∧ Below w0.heap.size w0 W' ∧ (vo'.ownBlock = vo.ownBlock ∨ ∃ b, vo'.ownBlock = some b ∧ W.heap.size ≤ b) ∧ W.heap.size ≤ W'.heap.size ∧ KeepsOthers W W'
theorem kin1_c {w0 W : World} {ob mb : Nat} {vo : Value} {most : Int} {out : List ByteArray} (x : ByteArray) (hB : w0.heap.size ≤ W.heap.size) (h0 : Below w0.heap.size w0 W) (ho : W.heap[ob]? = some (.cells #[vo] 37 (0, 0))) (hob : w0.heap.size ≤ ob) (hm : W.heap[mb]? = some (.cells #[.int .i64 most] 3 (0, 0))) (hr : Kd.R Kd.string 9 W w0.heap.size (fun _ => True) vo out) (hl : out.length ≤ 1000000) :
  Calls Try.prog 62 #[.string x, .pointer (some ⟨ob, 0, none⟩), .pointer (some ⟨mb, 0, none⟩)] W (Kin1P w0 W ob vo most out x) := by
 have HB := Aside0.mk hB
 have H0 := Aside0.mk h0
 have HO := Aside0.mk ho
 have HOB := Aside0.mk hob
 have HM := Aside0.mk hm
 have HR := Aside0.mk hr
 have HL := Aside0.mk hl
 have c0 : ∀ o, (W.alloc o).cell? ⟨ob, 0, none⟩ = some vo := fun o => (blk_cell (blk_alloc ho o) 0).trans rfl
 have c1 := (blk_cell ho 0).trans rfl
 clear hB h0 ho hob hm hr hl
 go_enter Try.func62, Try.ntmps62
 go_wp2_with (first
  | ((with_reducible refine gate_builtin (b := .append) rfl ?_); at_builtin
     refine Kd.R_append Kd.string (w0 := w0) w0.heap.size rfl (.tmp 5) (.tmp 7) 37 9 (.string ⟨#[]⟩) 16 rfl Try.underlying37 infoStr rfl (by decide) (by decide) vo out x [.string x] (fun _ => True) (fun k => some k ≠ vo.ownBlock) rfl rfl ?aM ?aK ?aF HR.out H0.out HB.out ?aL ?_
     (case aM => exact rfl)
     (case aK => exact fun k hk => ⟨trivial, hk⟩)
     (case aF => exact fun k hk => trivial)
     (case aL => have := HL.out; omega)
     intro vo' w3 h3 b3 g3 at3
     have hne : some ob ≠ vo.ownBlock := fun e => by
      obtain ⟨_, cs, hcs⟩ := R_typed' HR.out e.symm
      rw [HO.out] at hcs
      cases hcs
     have x3 := blk_grown HO.out g3 hne
     have z3 : ∀ o, (w3.setCell ⟨ob, 0, none⟩ o).cell? ⟨ob, 0, none⟩ = some o := fun o => (blk_cell (blk_put x3 0 o rfl) 0).trans rfl
     have zm : ∀ o, (w3.setCell ⟨ob, 0, none⟩ o).cell? ⟨mb, 0, none⟩ = some (.int .i64 most) := fun o => by
      have hmo : mb ≠ ob := fun e => by
       have h1 := HM.out
       rw [e, HO.out] at h1
       cases h1
      have hmv : some mb ≠ vo.ownBlock := fun e => by
       obtain ⟨_, cs, hcs⟩ := R_typed' HR.out e.symm
       rw [HM.out] at hcs
       cases hcs
      exact (blk_cell ((Below.heap_setCell w3 ⟨ob, 0, none⟩ o mb hmo).trans (blk_grown HM.out g3 hmv)) 0).trans rfl
     have y3 := (blk_cell x3 0).trans rfl
     have f3 := blk_frozen x3 0
     obtain ⟨A3, c3, rfl⟩ := Kd.R_slice h3
     have H3 := Aside0.mk h3
     have B3 := Aside0.mk b3
     have G3 := Aside0.mk g3
     have AT3 := Aside0.mk at3
     have X3 := Aside0.mk x3
     clear h3 b3 g3 at3 x3))
 go_ret
 have e1 : (out ++ [x]).length = out.length + 1 := by simp
 have h3 := H3.out
 have at3 := AT3.out
 have g3 := G3.out
 rw [e1] at h3 at3
 have hk3 : ∀ k, (Value.slice A3 (out.length + 1) c3).ownBlock = some k → k ≠ ob := fun k hk e => by
  obtain ⟨_, cs, hcs⟩ := R_typed' h3 hk
  rw [e, X3.out] at hcs
  cases hcs
 refine ⟨_, by first | rfl | (rw [Int.natCast_add]; rfl), blk_put X3.out 0 _ rfl, Rs_mv h3 (fun k hk => Below.heap_setCell _ _ _ _ (hk3 k hk)), fun j hj h1 h2 => (Below.heap_setCell _ ⟨ob, 0, none⟩ _ j h1).trans (g3.block j hj h2), B3.out.setCell HOB.out _, at3, by rw [World.size_setCell]; exact g3.size, ?_⟩
 refine (KeepsOthers.of_grownBy g3 (fun j o e hj => ?_)).trans (KeepsOthers.setCell _ _ _)
 obtain ⟨_, cs, hcs⟩ := R_typed' HR.out e
 rw [hcs] at hj
 cases hj
 rfl
end Go.Proofs.Ytbpnfpckoapdbaa.M
end
section
namespace Go.Proofs.Ytbpnfpckoapdbaa.PFk
open Go.RowKit Go.Proofs.Ytbpnfpckoapdbaa.M Go.Proofs.Ytbpnfpckoapdbaa.KD Go.Proofs.Ytbpnfpckoapdbaa Go.Proofs.YtbpnfpckoapdbaaW.PrintWords Go.Proofs.YtbpnfpckoapdbaaW.PrintLast Go.Proofs.YtbpnfpckoapdbaaW.PrintMore
attribute [local go_sem] max2_int min2_int max_two min_two max_three min_three max_four min_four   -- for this text's walks alone
set_option linter.unusedVariables false
set_option linter.unusedSimpArgs false
end Go.Proofs.Ytbpnfpckoapdbaa.PFk
end
section
namespace Go.Proofs.Ytbpnfpckoapdbaa.PFk
open Go.RowKit Go.Proofs.Ytbpnfpckoapdbaa.M Go.Proofs.Ytbpnfpckoapdbaa.KD Go.Proofs.Ytbpnfpckoapdbaa Go.Proofs.YtbpnfpckoapdbaaW.PrintWords Go.Proofs.YtbpnfpckoapdbaaW.PrintLast Go.Proofs.YtbpnfpckoapdbaaW.PrintMore
attribute [local go_sem] max2_int min2_int max_two min_two max_three min_three max_four min_four   -- for this text's walks alone
set_option linter.unusedVariables false
set_option linter.unusedSimpArgs false
def slices_Index_string_string.l0 : Nat → List ByteArray → ByteArray → Int → Int → Option (Int)
 | 0, _, _, _, _ => none
 | k + 1, x0, x1, x7, x8 => if x8 < x7 then (if 0 ≤ x8 then (if x8 < (x0.length : Int) then (if x1.toList = (rdOf ByteArray.empty x0 x8).toList then (some x8) else (slices_Index_string_string.l0 k x0 x1 x7 (wrap64 (x8 + 1)))) else (none)) else (none)) else (some (-1))
def slices_Index_string_string.f (k : Nat) (l0 : List ByteArray) (a1 : ByteArray) : Option (Int) := slices_Index_string_string.l0 k l0 a1 (l0.length : Int) 0
set_option maxHeartbeats 8000000 in
set_option maxRecDepth 100000 in
theorem slices_Index_string_string.calls (k : Nat) (A0 : Option Addr) (c0 : Nat) (l0 : List ByteArray) (a1 : ByteArray) (r : Int) (w : World) (hr0 : Kd.C Kd.string w A0 l0.length l0) (hc0 : l0.length ≤ c0) (h : slices_Index_string_string.f k l0 a1 = some r) :
  Calls Try.prog 105 #[.slice A0 l0.length c0, .string a1] w fun e w' => e = .returned (.int .i64 r) ∧ Drawn0 w w' := by
 have HR0 := Aside0.mk hr0
 have HC0 := Aside0.mk hc0
 clear hr0 hc0
 have H : (slices_Index_string_string.l0 k l0 a1 (l0.length : Int) 0) = some r := h
 clear h
 have H' := Aside0.mk H
 clear H
 go_enter Try.func105, Try.ntmps105
 go_wp2
 go_loopg [8] k (fun kq v8 w' => ∃ (x8_1 : Int), v8 = .int .i64 x8_1 ∧ Aside0 (slices_Index_string_string.l0 kq l0 a1 (l0.length : Int) x8_1 = some r) ∧ Aside0 (kq ≤ k) ∧ Drawn0 w w')
 case atStart => exact ⟨(0), (by first | rfl | (simp; done) | (simp [*]; done)), H', ⟨Nat.le_refl _⟩, by repeat (first | exact Drawn0.refl _ | apply Drawn0.step)⟩
 case round =>
  clear H'
  try clear c1
  try clear p2
  obtain ⟨x8_1, rfl, HA, HK1, ⟨m1, rfl⟩⟩ := hrel
  cases gk with
  | zero => exact absurd HA.out (by simp [slices_Index_string_string.l0])
  | succ k1 =>
   have H := HA.out
   clear HA
   simp only [slices_Index_string_string.l0] at H
   by_cases c3 : x8_1 < (l0.length : Int)
   · rw [if_pos c3] at H
     have c3b0 : decide (x8_1 < (l0.length : Int)) = true := decide_eq_true c3
     clear c3
     by_cases c4 : 0 ≤ x8_1
     · rw [if_pos c4] at H
       have c4b0 : decide (0 ≤ x8_1) = true := decide_eq_true c4
       clear c4
       by_cases c5 : x8_1 < (l0.length : Int)
       · rw [if_pos c5] at H
         have c5b0 : decide (x8_1 < (l0.length : Int)) = true := decide_eq_true c5
         clear c5
         by_cases c6 : a1.toList = (rdOf ByteArray.empty l0 x8_1).toList
         · rw [if_pos c6] at H
           have c6b0 : (a1.toList == (rdOf ByteArray.empty l0 x8_1).toList) = true := beq_iff_eq.mpr c6
           have c6b1 : (a1.toList != (rdOf ByteArray.empty l0 x8_1).toList) = false := bne_eq_false_iff_eq.mpr c6
           clear c6
           obtain rfl := Option.some.inj H
           have p101 : 0 ≤ (x8_1 : Int) := of_decide_eq_true (by first | (with_reducible assumption) | assumption)
           have q101 : x8_1 < (l0.length : Int) := of_decide_eq_true (by first | (with_reducible assumption) | assumption)
           obtain ⟨ad101, e101, hx101_0⟩ := Kd.at_string HR0.out x8_1 p101 q101
           cases e101
           replace p101 := eq_true p101
           replace q101 := eq_true q101
           go_wp2
           go_ret
           exact ⟨by first | rfl | (simp; done) | (simp [*]; done), by repeat (first | exact Drawn0.refl _ | apply Drawn0.step)⟩
         · rw [if_neg c6] at H
           have c6b0 : (a1.toList == (rdOf ByteArray.empty l0 x8_1).toList) = false := beq_eq_false_iff_ne.mpr c6
           have c6b1 : (a1.toList != (rdOf ByteArray.empty l0 x8_1).toList) = true := bne_iff_ne.mpr c6
           have H' := Aside0.mk H
           clear H
           have p101 : 0 ≤ (x8_1 : Int) := of_decide_eq_true (by first | (with_reducible assumption) | assumption)
           have q101 : x8_1 < (l0.length : Int) := of_decide_eq_true (by first | (with_reducible assumption) | assumption)
           obtain ⟨ad101, e101, hx101_0⟩ := Kd.at_string HR0.out x8_1 p101 q101
           cases e101
           replace p101 := eq_true p101
           replace q101 := eq_true q101
           go_wp2
           go_roundg k1
           case measure => have := HK1.out; omega
           case rel => exact ⟨(wrap64 (x8_1 + 1)), (by first | rfl | (simp; done) | (simp [*]; done)), H', ⟨by have := HK1.out; omega⟩, by repeat (first | exact Drawn0.refl _ | apply Drawn0.step)⟩
       · rw [if_neg c5] at H
         exact absurd H (by simp)
     · rw [if_neg c4] at H
       exact absurd H (by simp)
   · rw [if_neg c3] at H
     have c3b0 : decide (x8_1 < (l0.length : Int)) = false := decide_eq_false c3
     clear c3
     obtain rfl := Option.some.inj H
     go_wp2
     go_ret
     exact ⟨by first | rfl | (simp; done) | (simp [*]; done), by repeat (first | exact Drawn0.refl _ | apply Drawn0.step)⟩
def slices_Contains_string_string.f (k : Nat) (l0 : List ByteArray) (a1 : ByteArray) : Option (Bool) := (slices_Index_string_string.f k l0 a1).bind fun t102 => (some (decide (t102 ≥ 0)))
set_option maxHeartbeats 8000000 in
set_option maxRecDepth 100000 in
theorem slices_Contains_string_string.calls (k : Nat) (A0 : Option Addr) (c0 : Nat) (l0 : List ByteArray) (a1 : ByteArray) (r : Bool) (w : World) (hr0 : Kd.C Kd.string w A0 l0.length l0) (hc0 : l0.length ≤ c0) (h : slices_Contains_string_string.f k l0 a1 = some r) :
  Calls Try.prog 92 #[.slice A0 l0.length c0, .string a1] w fun e w' => e = .returned (.bool r) ∧ Drawn0 w w' := by
 have HR0 := Aside0.mk hr0
 have HC0 := Aside0.mk hc0
 clear hr0 hc0
 have H : ((slices_Index_string_string.f k l0 a1).bind fun t102 => (some (decide (t102 ≥ 0)))) = some r := h
 clear h
 replace H := Option.bind_eq_some_iff.mp H
 obtain ⟨t102, A30, H⟩ := H
 replace H : (some (decide (t102 ≥ 0))) = some r := H
 have A3 := Aside0.mk A30
 clear A30
 obtain rfl := Option.some.inj H
 go_enter Try.func92, Try.ntmps92
 go_wp2_with (first | ((with_reducible refine gate_callee (f := 105) rfl ?_); refine goesL_ (some 7) rfl rfl Try.func105 (by kernel_rfl) rfl #[.slice A0 l0.length c0, .string a1] rfl (by (try simp only [List.map_toArray, List.map_cons, List.map_nil]); first | done | rfl | (simp only [List.length_drop, List.length_take]; rfl)) ?_; (with_reducible refine (slices_Index_string_string.calls k _ _ l0 a1 t102 _ ?side1 ?side2 A3.out).mono ?_); (case side1 => repeat (first | exact HR0.out | (with_reducible refine Kd.C_alloc ?_ _) | (with_reducible refine Kd.C_drewN ?_ _) | (with_reducible refine Kd.C_drew ?_))); (case side2 => exact HC0.out); rintro e w' ⟨rfl, ⟨nd, rfl⟩⟩; refine ⟨_, rfl, ?_⟩))
 go_ret
 exact ⟨by first | rfl | (simp; done) | (simp [*]; done), by repeat (first | exact Drawn0.refl _ | apply Drawn0.step)⟩
end Go.Proofs.Ytbpnfpckoapdbaa.PFk
end
section
namespace Go.Proofs.Ytbpnfpckoapdbaa.PFk
open Go.RowKit Go.Proofs.Ytbpnfpckoapdbaa.M Go.Proofs.Ytbpnfpckoapdbaa.KD Go.Proofs.Ytbpnfpckoapdbaa Go.Proofs.YtbpnfpckoapdbaaW.PrintWords Go.Proofs.YtbpnfpckoapdbaaW.PrintLast Go.Proofs.YtbpnfpckoapdbaaW.PrintMore
attribute [local go_sem] max2_int min2_int max_two min_two max_three min_three max_four min_four   -- for this text's walks alone
set_option linter.unusedVariables false
set_option linter.unusedSimpArgs false
end Go.Proofs.Ytbpnfpckoapdbaa.PFk
end
section
namespace Go.Proofs.Ytbpnfpckoapdbaa.M
open Go.RowKit Go.Proofs.YtbpnfpckoapdbaaW.PrintWords Go.Proofs.YtbpnfpckoapdbaaW.PrintLast Go.Proofs.YtbpnfpckoapdbaaW.PrintMore Go.Proofs.Ytbpnfpckoapdbaa.KD
set_option linter.unusedVariables false
set_option linter.unusedSimpArgs false
def has (l : List ByteArray) (x : ByteArray) : Bool := l.any (fun y => x.toList == y.toList)
theorem rdOf_at (l : List ByteArray) (i : Nat) (h : i < l.length) : rdOf ByteArray.empty l (i : Int) = l[i] := by
 unfold rdOf
 rw [Int.toNat_natCast, List.getD_eq_getElem?_getD, List.getElem?_eq_getElem h]
 rfl
theorem index_str (l : List ByteArray) (x : ByteArray) (hl : l.length ≤ 9223372036854775806) (d : Nat) : ∀ (k i : Nat), i + d = l.length → d < k → ∃ r, PFk.slices_Index_string_string.l0 k l x (l.length : Int) (i : Int) = some r ∧ decide (r ≥ 0) = has (l.drop i) x := by
 induction d with
 | zero =>
  intro k i hi hk
  obtain ⟨k, rfl⟩ : ∃ m, k = m + 1 := ⟨k - 1, by omega⟩
  refine ⟨-1, ?_, ?_⟩
  · simp only [PFk.slices_Index_string_string.l0]
    rw [if_neg (by omega)]
  · rw [List.drop_eq_nil_of_le (by omega)]
    rfl
 | succ d ih =>
  intro k i hi hk
  obtain ⟨k, rfl⟩ : ∃ m, k = m + 1 := ⟨k - 1, by omega⟩
  have hlt : i < l.length := by omega
  have hx := rdOf_at l i hlt
  have hdr := List.drop_eq_getElem_cons hlt
  rw [hdr]
  by_cases he : x.toList = l[i].toList
  · refine ⟨i, ?_, ?_⟩
    · simp only [PFk.slices_Index_string_string.l0]
      rw [if_pos (by omega), if_pos (by omega), if_pos (by omega), hx, if_pos he]
    · have h0 : decide (((i : Nat) : Int) ≥ 0) = true := decide_eq_true (by omega)
      rw [h0]
      unfold has
      rw [List.any_cons, he]
      simp
  · obtain ⟨r, h1, h2⟩ := ih k (i + 1) (by omega) (by omega)
    refine ⟨r, ?_, ?_⟩
    · simp only [PFk.slices_Index_string_string.l0]
      rw [if_pos (by omega), if_pos (by omega), if_pos (by omega), hx, if_neg he, show wrap64 ((i : Int) + 1) = ((i + 1 : Nat) : Int) by unfold wrap64; omega]
      exact h1
    · rw [h2]
      unfold has
      rw [List.any_cons, show (x.toList == l[i].toList) = false from beq_eq_false_iff_ne.2 he, Bool.false_or]
theorem contains_str (l : List ByteArray) (x : ByteArray) (hl : l.length ≤ 9223372036854775806) : PFk.slices_Contains_string_string.f (l.length + 1) l x = some (has l x) := by
 obtain ⟨r, h1, h2⟩ := index_str l x hl l.length (l.length + 1) 0 (by omega) (by omega)
 unfold PFk.slices_Contains_string_string.f PFk.slices_Index_string_string.f
 rw [show PFk.slices_Index_string_string.l0 (l.length + 1) l x (l.length : Int) 0 = some r from h1]
 rw [List.drop_zero] at h2
 rw [Option.bind_some, h2]
theorem has_c {w : World} {A : Option Addr} {c : Nat} {l : List ByteArray} (x : ByteArray) (hr : Kd.C Kd.string w A l.length l) (hc : l.length ≤ c) (hl : l.length ≤ 1000000) :
  Calls Try.prog 92 #[.slice A l.length c, .string x] w fun e w' => e = .returned (.bool (has l x)) ∧ Drawn0 w w' :=
 PFk.slices_Contains_string_string.calls _ A c l x _ w hr hc (contains_str l x (by omega))
def msgAt (ms : List S47) (nm : ByteArray) : Int := ixF (fun x => x.f0.toList == nm.toList) ms 0
def addR (ms : List S47) (t : List ByteArray) (r : ByteArray) : List ByteArray := if (decide (msgAt ms r < 0) || has t r) = true then t else t ++ [r]
def extR (ms : List S47) (t : List ByteArray) (l : List ByteArray) : List ByteArray := l.foldl (addR ms) t
theorem extR_snoc (ms : List S47) (t l : List ByteArray) (r : ByteArray) : extR ms t (l ++ [r]) = addR ms (extR ms t l) r := by
 unfold extR
 rw [List.foldl_append]
 rfl
def fieldsAt (ms : List S47) (nm : ByteArray) : List S50 := ((ms[(msgAt ms nm).toNat]?).map (·.f1)).getD []
def kinR (ms : List S47) (most : Int) : Nat → Nat → List ByteArray → List ByteArray → List ByteArray
 | 0, _, _, out => out
 | f + 1, i, told, out => match told[i]? with
  | none => out
  | some x => if (((out.length + 1 : Nat) : Int) != most) = true then kinR ms most f (i + 1) (extR ms told (refsL (fieldsAt ms x))) (out ++ [x]) else out ++ [x]
def kinL (ms : List S47) (most : Int) : List ByteArray := match ms with
 | [] => []
 | m :: _ => kinR ms most (ms.length + 1) 0 [m.f0] []
/-- What is told: names of messages, each once. -/
structure Told (ms : List S47) (t : List ByteArray) : Prop where
 nd : t.Pairwise (fun x y => x ≠ y)
 at_ : ∀ x ∈ t, 0 ≤ msgAt ms x
theorem ixF_ge {α : Type} {p : α → Bool} : ∀ (l : List α) (i : Nat), ixF p l i = -1 ∨ ∃ j x, l[j]? = some x ∧ p x = true ∧ ixF p l i = ((i + j : Nat) : Int)
 | [], i => .inl rfl
 | x :: l, i => by
  by_cases h : p x = true
  · exact .inr ⟨0, x, rfl, h, by simp [ixF, h]⟩
  · rcases ixF_ge (p := p) l (i + 1) with h1 | ⟨j, y, h1, h2, h3⟩
    · exact .inl (by simp [ixF, h, h1])
    · exact .inr ⟨j + 1, y, by simpa using h1, h2, by simp only [ixF, h]; rw [if_neg (by simp), h3]; omega⟩
theorem toList_inj {x y : ByteArray} (h : x.toList = y.toList) : x = y := by
 rw [ByteArray.toList_eq, ByteArray.toList_eq] at h
 cases x; cases y
 simpa using h
theorem msgAt_some {ms : List S47} {nm : ByteArray} (h : 0 ≤ msgAt ms nm) : ∃ m, ms[(msgAt ms nm).toNat]? = some m ∧ m.f0 = nm ∧ msgAt ms nm < ms.length := by
 unfold msgAt at h ⊢
 rcases ixF_ge (p := fun x : S47 => x.f0.toList == nm.toList) ms 0 with h1 | ⟨j, y, h1, h2, h3⟩
 · rw [h1] at h; omega
 · rw [h3, Nat.zero_add]
   have := (List.getElem?_eq_some_iff.1 h1).1
   exact ⟨y, by simpa using h1, toList_inj (by simpa using h2), by omega⟩
theorem has_iff (l : List ByteArray) (x : ByteArray) : has l x = true ↔ x ∈ l := by
 unfold has
 rw [List.any_eq_true]
 constructor
 · rintro ⟨y, hy, h⟩
   have e := toList_inj (x := x) (y := y) (by simpa using h)
   rw [e]
   exact hy
 · intro h
   exact ⟨x, h, by simp⟩
theorem Told.add {ms : List S47} {t : List ByteArray} (h : Told ms t) (r : ByteArray) : Told ms (addR ms t r) := by
 unfold addR
 split
 · exact h
 · rename_i h1
   simp only [Bool.or_eq_true, decide_eq_true_eq, not_or] at h1
   refine ⟨?_, fun x hx => ?_⟩
   · rw [List.pairwise_append]
     refine ⟨h.nd, List.pairwise_singleton _ _, fun x hx y hy => ?_⟩
     rw [List.mem_singleton] at hy
     subst hy
     intro e
     subst e
     exact h1.2 ((has_iff t x).2 hx)
   · rcases List.mem_append.1 hx with hx | hx
     · exact h.at_ x hx
     · rw [List.mem_singleton] at hx
       subst hx
       omega
theorem Told.ext {ms : List S47} {l : List ByteArray} : ∀ {t : List ByteArray}, Told ms t → Told ms (extR ms t l) := by
 induction l with
 | nil => exact fun h => h
 | cons r l ih => exact fun h => ih (h.add r)
theorem nodup_le {α : Type} [DecidableEq α] : ∀ (l m : List α), l.Pairwise (fun x y => x ≠ y) → (∀ x ∈ l, x ∈ m) → l.length ≤ m.length
 | [], _, _, _ => Nat.zero_le _
 | x :: l, m, h, hs => by
  rw [List.pairwise_cons] at h
  have hx : x ∈ m := hs x (by simp)
  have h1 := nodup_le l (m.erase x) h.2 (fun y hy => (List.mem_erase_of_ne (fun e => h.1 y hy e.symm)).2 (hs y (by simp [hy])))
  rw [List.length_erase_of_mem hx] at h1
  have := List.length_pos_of_mem hx
  simp only [List.length_cons]
  omega
theorem Told.le {ms : List S47} {t : List ByteArray} (h : Told ms t) : t.length ≤ ms.length := by
 have h1 := nodup_le t (ms.map (·.f0)) h.nd (fun x hx => by
  obtain ⟨m, h2, h3, _⟩ := msgAt_some (h.at_ x hx)
  exact List.mem_map.2 ⟨m, List.mem_of_getElem? h2, h3⟩)
 simpa using h1
theorem addR_pre (ms : List S47) (t : List ByteArray) (r : ByteArray) : t <+: addR ms t r := by
 unfold addR
 split
 · exact List.prefix_refl _
 · exact List.prefix_append _ _
theorem extR_pre (ms : List S47) (l : List ByteArray) : ∀ (t : List ByteArray), t <+: extR ms t l := by
 induction l with
 | nil => exact fun t => List.prefix_refl _
 | cons r l ih => exact fun t => (addR_pre ms t r).trans (ih _)
theorem Told.first {ms : List S47} {m : S47} (h : ms[0]? = some m) : Told ms [m.f0] := by
 refine ⟨List.pairwise_singleton _ _, fun x hx => ?_⟩
 rw [List.mem_singleton] at hx
 subst hx
 match ms, h with
 | _ :: _, h =>
  obtain rfl := Option.some.inj h
  simp [msgAt, ixF]
end Go.Proofs.Ytbpnfpckoapdbaa.M
end
section
namespace Go.Proofs.Ytbpnfpckoapdbaa.M
open Go.RowKit Go.Shelf Go.Proofs.Ytbpnfpckoapdbaa.Rng Go.Proofs.YtbpnfpckoapdbaaW.PrintWords Go.Proofs.YtbpnfpckoapdbaaW.PrintLast Go.Proofs.YtbpnfpckoapdbaaW.PrintMore Go.Proofs.Ytbpnfpckoapdbaa.KD
set_option linter.unusedVariables false
set_option linter.unusedSimpArgs false
set_option maxHeartbeats 1000000
set_option maxRecDepth 100000
attribute [local go_sem] Oper.semAt_some
/-- The boxes: the schema's, what is collected, how much at most, what is told. -/
structure KJ (w0 : World) (sb ob mb tb : Nat) (A0 A1 : Option Addr) (c0 c1 : Nat) (es : List S86) (ms : List S47) (most : Int) (outL toldL : List ByteArray) (vo vt : Value) (W : World) : Prop where
 bel : Below w0.heap.size w0 W
 hle : w0.heap.size ≤ W.heap.size
 sbx : W.heap[sb]? = some (.cells #[.slice A0 es.length c0, .slice A1 ms.length c1] 35 (0, 0))
 obx : W.heap[ob]? = some (.cells #[vo] 37 (0, 0))
 mbx : W.heap[mb]? = some (.cells #[.int .i64 most] 3 (0, 0))
 tbx : W.heap[tb]? = some (.cells #[vt] 37 (0, 0))
 out : Kd.R Kd.string 9 W w0.heap.size (fun _ => True) vo outL
 tol : Kd.R Kd.string 9 W w0.heap.size (fun _ => True) vt toldL
 ap : ∀ k, vt.ownBlock = some k → vo.ownBlock ≠ some k
 ne : ob ≠ tb
 obB : w0.heap.size ≤ ob
 tbB : w0.heap.size ≤ tb
 rdE : Kd.C k86 w0 A0 es.length es
 lcE : es.length ≤ c0
 rdM : Kd.C k47 w0 A1 ms.length ms
 lcM : ms.length ≤ c1
section
variable {w0 W W' : World} {sb ob mb tb : Nat} {A0 A1 : Option Addr} {c0 c1 : Nat} {es : List S86} {ms : List S47} {most : Int} {outL toldL : List ByteArray} {vo vt : Value}
theorem KJ.below (h : KJ w0 sb ob mb tb A0 A1 c0 c1 es ms most outL toldL vo vt W) (hb : Below W.heap.size W W') : KJ w0 sb ob mb tb A0 A1 c0 c1 es ms most outL toldL vo vt W' :=
 ⟨h.bel.trans (hb.mono h.hle), Nat.le_trans h.hle hb.size, blk_below h.sbx hb, blk_below h.obx hb, blk_below h.mbx hb, blk_below h.tbx hb, Rs_mv h.out (fun k hk => by obtain ⟨_, cs, hcs⟩ := R_typed' h.out hk; exact hb.block k (blk_lt hcs)), Rs_mv h.tol (fun k hk => by obtain ⟨_, cs, hcs⟩ := R_typed' h.tol hk; exact hb.block k (blk_lt hcs)), h.ap, h.ne, h.obB, h.tbB, h.rdE, h.lcE, h.rdM, h.lcM⟩
theorem KJ.alloc (h : KJ w0 sb ob mb tb A0 A1 c0 c1 es ms most outL toldL vo vt W) (o : Obj) : KJ w0 sb ob mb tb A0 A1 c0 c1 es ms most outL toldL vo vt (W.alloc o) := h.below (below_alloc (Below.refl _ _) _)
theorem KJ.drewN (h : KJ w0 sb ob mb tb A0 A1 c0 c1 es ms most outL toldL vo vt W) (n : Nat) : KJ w0 sb ob mb tb A0 A1 c0 c1 es ms most outL toldL vo vt (W.drewN n) := h.below (pw_below_drewN (Below.refl _ _) _)
theorem KJ.putObj (h : KJ w0 sb ob mb tb A0 A1 c0 c1 es ms most outL toldL vo vt W) {k : Nat} {o : Obj} (o' : Obj) (hB : w0.heap.size ≤ k) (hk : W.heap[k]? = some o) (ho : o.isCells = false) : KJ w0 sb ob mb tb A0 A1 c0 c1 es ms most outL toldL vo vt (W.putObj k o') := by
 have hne : ∀ j, (∃ cs t, W.heap[j]? = some (Obj.cells cs t (0, 0))) → (W.putObj k o').heap[j]? = W.heap[j]? := fun j ⟨cs, t, hj⟩ => World.putObj_heap_other (fun e => by subst e; rw [hk] at hj; cases hj; cases ho)
 exact ⟨h.bel.trans ⟨rfl, rfl, rfl, by simp, fun i hi => World.putObj_heap_other (by omega)⟩, by simpa using h.hle, (hne _ ⟨_, _, h.sbx⟩).trans h.sbx, (hne _ ⟨_, _, h.obx⟩).trans h.obx, (hne _ ⟨_, _, h.mbx⟩).trans h.mbx, (hne _ ⟨_, _, h.tbx⟩).trans h.tbx, Rs_mv h.out (fun j hj => by obtain ⟨_, cs, hcs⟩ := R_typed' h.out hj; exact hne j ⟨_, _, hcs⟩), Rs_mv h.tol (fun j hj => by obtain ⟨_, cs, hcs⟩ := R_typed' h.tol hj; exact hne j ⟨_, _, hcs⟩), h.ap, h.ne, h.obB, h.tbB, h.rdE, h.lcE, h.rdM, h.lcM⟩
/-- Behind the closure's call. -/
theorem KJ.yield (h : KJ w0 sb ob mb tb A0 A1 c0 c1 es ms most outL toldL vo vt W) {x : ByteArray} {e : Ending} (hp : Kin1P w0 W ob vo most outL x e W') :
   ∃ vo', e = .returned (.bool (((outL.length + 1 : Nat) : Int) != most)) ∧ KJ w0 sb ob mb tb A0 A1 c0 c1 es ms most (outL ++ [x]) toldL vo' vt W' ∧ KeepsOthers W W' := by
 obtain ⟨vo', he, h1, h2, h3, h4, h5, h6, h7⟩ := hp
 have ty : ∀ {k t : Nat} {cells : Array Value}, W.heap[k]? = some (.cells cells t (0, 0)) → t ≠ 37 → t ≠ 9 → W'.heap[k]? = W.heap[k]? := by
   intro k t cells hk ht1 ht2
   refine h3 k (blk_lt hk) (fun e => ?_) (fun e => ?_)
   · rw [e, h.obx] at hk; cases hk; exact ht1 rfl
   · obtain ⟨_, cs, hcs⟩ := R_typed' h.out e.symm
     rw [hcs] at hk; cases hk; exact ht2 rfl
 have tt : W'.heap[tb]? = W.heap[tb]? := by
   refine h3 tb (blk_lt h.tbx) (fun e => h.ne e.symm) (fun e => ?_)
   obtain ⟨_, cs, hcs⟩ := R_typed' h.out e.symm
   rw [h.tbx] at hcs
   cases hcs
 refine ⟨vo', he, ⟨h4, Nat.le_trans h.hle h6, (ty h.sbx (by decide) (by decide)).trans h.sbx, h1, (ty h.mbx (by decide) (by decide)).trans h.mbx, tt.trans h.tbx, h2, Rs_mv h.tol (fun k hk => ?_), fun k hk e => ?_, h.ne, h.obB, h.tbB, h.rdE, h.lcE, h.rdM, h.lcM⟩, h7⟩
 · obtain ⟨_, cs, hcs⟩ := R_typed' h.tol hk
   refine h3 k (blk_lt hcs) (fun e => ?_) (fun e => h.ap k hk e.symm)
   rw [e, h.obx] at hcs
   cases hcs
 · rcases h5 with h5 | ⟨b, h5, hb⟩
   · exact h.ap k hk (h5 ▸ e)
   · obtain ⟨_, cs, hcs⟩ := R_typed' h.tol hk
     have := blk_lt hcs
     rw [h5] at e
     injection e with e
     omega
theorem KJ.tolA (h : KJ w0 sb ob mb tb A0 A1 c0 c1 es ms most outL toldL vo vt W) : Kd.R Kd.string 9 W w0.heap.size (fun k => some k ≠ vo.ownBlock) vt toldL := by
 obtain ⟨_, inner, ho, hr⟩ := h.tol
 exact ⟨fun k hk e => h.ap k hk e.symm, inner, ho, hr.imp_ (fun _ _ hp => hp)⟩
theorem KJ.voL (h : KJ w0 sb ob mb tb A0 A1 c0 c1 es ms most outL toldL vo vt W) (k : Nat) (hk : W.heap.size ≤ k) : some k ≠ vo.ownBlock := fun e => by
 obtain ⟨_, cs, hcs⟩ := R_typed' h.out e.symm
 have := blk_lt hcs
 omega
/-- What is told has one more. -/
theorem KJ.told (h : KJ w0 sb ob mb tb A0 A1 c0 c1 es ms most outL toldL vo vt W) {W3 : World} {l' : List ByteArray} {vt' : Value} (ho : Kd.R Kd.string 9 W3 w0.heap.size (fun k => some k ≠ vo.ownBlock) vt' l') (hb : Below w0.heap.size w0 W3) (hg : W.grownBy W3 vt.ownBlock) :
   KJ w0 sb ob mb tb A0 A1 c0 c1 es ms most outL l' vo vt' (W3.setCell ⟨tb, 0, none⟩ vt') ∧ KeepsOthers W (W3.setCell ⟨tb, 0, none⟩ vt') ∧ (∃ A c, vt' = .slice A l'.length c) ∧ W3.heap[tb]? = some (.cells #[vt] 37 (0, 0)) := by
 have ne : ∀ {k t : Nat} {cells : Array Value}, W.heap[k]? = some (.cells cells t (0, 0)) → t ≠ 9 → some k ≠ vt.ownBlock := by
   intro k t cells hk ht e
   obtain ⟨_, cs, hcs⟩ := R_typed' h.tol e.symm
   rw [hcs] at hk
   cases hk
   exact ht rfl
 have mv : ∀ {k t : Nat} {cells : Array Value}, W.heap[k]? = some (.cells cells t (0, 0)) → t ≠ 9 → k ≠ tb → (W3.setCell ⟨tb, 0, none⟩ vt').heap[k]? = W.heap[k]? := by
   intro k t cells hk h1 h2
   exact (Below.heap_setCell W3 ⟨tb, 0, none⟩ vt' k h2).trans (hg.block k (blk_lt hk) (ne hk h1))
 have htbx : W3.heap[tb]? = some (.cells #[vt] 37 (0, 0)) := blk_grown h.tbx hg (ne h.tbx (by decide))
 have hst : sb ≠ tb := fun e => by have h1 := h.sbx; rw [e, h.tbx] at h1; cases h1
 have hmt : mb ≠ tb := fun e => by have h1 := h.mbx; rw [e, h.tbx] at h1; cases h1
 refine ⟨⟨hb.setCell (p := ⟨tb, 0, none⟩) h.tbB _, by rw [World.size_setCell]; exact Nat.le_trans h.hle hg.size, (mv h.sbx (by decide) hst).trans h.sbx, (mv h.obx (by decide) h.ne).trans h.obx, (mv h.mbx (by decide) hmt).trans h.mbx, blk_put htbx 0 _ rfl, Rs_mv h.out (fun k hk => ?_), Rs_mv (Kd.R_mono ho (fun _ _ => trivial)) (fun k hk => ?_), fun k hk e => ho.1 k hk e.symm, h.ne, h.obB, h.tbB, h.rdE, h.lcE, h.rdM, h.lcM⟩, ?_, Kd.R_slice ho, htbx⟩
 · obtain ⟨_, cs, hcs⟩ := R_typed' h.out hk
   refine (Below.heap_setCell W3 ⟨tb, 0, none⟩ vt' k (fun e => ?_)).trans (hg.block k (blk_lt hcs) (fun e => h.ap k e.symm hk))
   simp only at e
   rw [e, h.tbx] at hcs
   cases hcs
 · obtain ⟨_, cs, hcs⟩ := R_typed' ho hk
   refine Below.heap_setCell W3 ⟨tb, 0, none⟩ vt' k (fun e => ?_)
   simp only at e
   rw [e, htbx] at hcs
   cases hcs
 · refine (KeepsOthers.of_grownBy hg (fun j o e hj => ?_)).trans (KeepsOthers.setCell _ _ _)
   obtain ⟨_, cs, hcs⟩ := R_typed' h.tol e
   rw [hcs] at hj
   cases hj
   rfl
end
end Go.Proofs.Ytbpnfpckoapdbaa.M
end
section
namespace Go.Proofs.Ytbpnfpckoapdbaa.M
open Go.RowKit Go.Shelf Go.Proofs.Ytbpnfpckoapdbaa.Rng Go.Proofs.YtbpnfpckoapdbaaW.PrintWords Go.Proofs.YtbpnfpckoapdbaaW.PrintLast Go.Proofs.YtbpnfpckoapdbaaW.PrintMore Go.Proofs.Ytbpnfpckoapdbaa.KD
set_option linter.unusedVariables false
set_option linter.unusedSimpArgs false
set_option maxHeartbeats 4000000
set_option maxRecDepth 100000
attribute [local go_sem] Oper.semAt_some
/-- Ahead of the call: nothing is told yet. -/
structure KI (w0 : World) (sb ob mb : Nat) (A0 A1 : Option Addr) (c0 c1 : Nat) (es : List S86) (ms : List S47) (most : Int) (outL : List ByteArray) (vo : Value) (W : World) : Prop where
 bel : Below w0.heap.size w0 W
 hle : w0.heap.size ≤ W.heap.size
 sbx : W.heap[sb]? = some (.cells #[.slice A0 es.length c0, .slice A1 ms.length c1] 35 (0, 0))
 obx : W.heap[ob]? = some (.cells #[vo] 37 (0, 0))
 mbx : W.heap[mb]? = some (.cells #[.int .i64 most] 3 (0, 0))
 out : Kd.R Kd.string 9 W w0.heap.size (fun _ => True) vo outL
 obB : w0.heap.size ≤ ob
 rdE : Kd.C k86 w0 A0 es.length es
 lcE : es.length ≤ c0
 rdM : Kd.C k47 w0 A1 ms.length ms
 lcM : ms.length ≤ c1
theorem KJ.toI {w0 W : World} {sb ob mb tb : Nat} {A0 A1 : Option Addr} {c0 c1 : Nat} {es : List S86} {ms : List S47} {most : Int} {outL toldL : List ByteArray} {vo vt : Value} (h : KJ w0 sb ob mb tb A0 A1 c0 c1 es ms most outL toldL vo vt W) {W' : World} {B : Nat} (hB : w0.heap.size ≤ B) (hs : Go.Proofs.Ytbpnfpckoapdbaa.Rng.Shut B W W') : KI w0 sb ob mb A0 A1 c0 c1 es ms most outL vo W' :=
 ⟨h.bel.trans (hs.bel.mono hB), Nat.le_trans h.hle hs.bel.size, hs.cells _ _ _ _ h.sbx, hs.cells _ _ _ _ h.obx, hs.cells _ _ _ _ h.mbx, Rs_mv h.out (fun k hk => by obtain ⟨_, cs, hcs⟩ := R_typed' h.out hk; exact (hs.cells _ _ _ _ hcs).trans hcs.symm), h.obB, h.rdE, h.lcE, h.rdM, h.lcM⟩
theorem kinR_go {ms : List S47} {most : Int} {f i : Nat} {told out : List ByteArray} {x : ByteArray} (h : told[i]? = some x) (hm : (((out.length + 1 : Nat) : Int) != most) = true) : kinR ms most (f + 1) i told out = kinR ms most f (i + 1) (extR ms told (refsL (fieldsAt ms x))) (out ++ [x]) := by
 simp only [kinR, h]
 rw [if_pos hm]
theorem kinR_stop {ms : List S47} {most : Int} {f i : Nat} {told out : List ByteArray} {x : ByteArray} (h : told[i]? = some x) (hm : (((out.length + 1 : Nat) : Int) != most) = false) : kinR ms most (f + 1) i told out = out ++ [x] := by
 simp only [kinR, h]
 rw [if_neg (by rw [hm]; simp)]
theorem kinR_end {ms : List S47} {most : Int} {f i : Nat} {told out : List ByteArray} (h : told[i]? = none) : kinR ms most (f + 1) i told out = out := by
 simp only [kinR, h]
/-- While the fields of a message are gone through. -/
structure KR (w0 W0 : World) (sb ob mb tb : Nat) (A0 A1 : Option Addr) (c0 c1 : Nat) (es : List S86) (ms : List S47) (most : Int) (outL toldL : List ByteArray) (vo : Value) (bx : Nat) (nm : ByteArray) (B B' : Option Addr) (d n' d' : Nat) (fs : List S50) (pre : List ByteArray) (W : World) : Prop where
 j : ∃ At ct, KJ w0 sb ob mb tb A0 A1 c0 c1 es ms most outL (extR ms toldL pre) vo (.slice At (extR ms toldL pre).length ct) W
 box : W.heap[bx]? = some (.cells #[.string nm, .slice B fs.length d, .slice B' n' d'] 47 (0, 0))
 rd : Kd.C k50 w0 B fs.length fs
 ko : KeepsOthers W0 W
 bge : bx ≠ tb
section
variable {w0 W0 W : World} {sb ob mb tb : Nat} {A0 A1 : Option Addr} {c0 c1 : Nat} {es : List S86} {ms : List S47} {most : Int} {outL toldL : List ByteArray} {vo : Value} {bx : Nat} {nm : ByteArray} {B B' : Option Addr} {d n' d' : Nat} {fs : List S50} {pre : List ByteArray}
theorem KR.below {W' : World} (h : KR w0 W0 sb ob mb tb A0 A1 c0 c1 es ms most outL toldL vo bx nm B B' d n' d' fs pre W) (hb : Below W.heap.size W W') (hk : KeepsOthers W W') : KR w0 W0 sb ob mb tb A0 A1 c0 c1 es ms most outL toldL vo bx nm B B' d n' d' fs pre W' := by
 obtain ⟨At, ct, hj⟩ := h.j
 exact ⟨⟨At, ct, hj.below hb⟩, blk_below h.box hb, h.rd, h.ko.trans hk, h.bge⟩
theorem KO_below {W W' : World} (hb : Below W.heap.size W W') : KeepsOthers W W' := ⟨hb.size, fun k o hk _ => (hb.block k (Array.getElem?_eq_some_iff.1 hk).1).trans hk⟩
theorem KR.keeps : Keeps bx nm B B' d n' d' fs (KR w0 W0 sb ob mb tb A0 A1 c0 c1 es ms most outL toldL vo bx nm B B' d n' d' fs) :=
 ⟨fun _ _ h => h.box, fun _ _ h => by obtain ⟨At, ct, hj⟩ := h.j; exact Kd.C_below h.rd hj.bel, fun _ _ o h => h.below (below_alloc (Below.refl _ _) o) (KeepsOthers.alloc _ _), fun _ _ k h => h.below (pw_below_drewN (Below.refl _ _) k) ⟨Nat.le_refl _, fun _ _ hk _ => hk⟩⟩
theorem KR.same (h : KR w0 W0 sb ob mb tb A0 A1 c0 c1 es ms most outL toldL vo bx nm B B' d n' d' fs pre W) {r : ByteArray} (he : addR ms (extR ms toldL pre) r = extR ms toldL pre) : KR w0 W0 sb ob mb tb A0 A1 c0 c1 es ms most outL toldL vo bx nm B B' d n' d' fs (pre ++ [r]) W :=
 ⟨by rw [extR_snoc, he]; exact h.j, h.box, h.rd, h.ko, h.bge⟩
theorem KR.firm (pre : List ByteArray) {L : Nat} (hB : w0.heap.size ≤ L) (hB' : W0.heap.size ≤ L) : Firm L (KR w0 W0 sb ob mb tb A0 A1 c0 c1 es ms most outL toldL vo bx nm B B' d n' d' fs pre) :=
 ⟨fun W l o o' h hl hk ho => by
   obtain ⟨At, ct, hj⟩ := h.j
   exact ⟨⟨At, ct, hj.putObj o' (Nat.le_trans hB hl) hk ho⟩, (World.putObj_heap_other (fun e => by subst e; have := h.box; rw [hk] at this; cases this; cases ho)).trans h.box, h.rd, KO_put h.ko o' (Nat.le_trans hB' hl), h.bge⟩,
  fun W o h => h.below (below_alloc (Below.refl _ _) o) (KeepsOthers.alloc _ _)⟩
end
theorem Kin1_c {w0 w : World} {sb ob mb : Nat} {A0 A1 : Option Addr} {c0 c1 : Nat} {es : List S86} {ms : List S47} {most : Int} {vo : Value} (h : KI w0 sb ob mb A0 A1 c0 c1 es ms most [] vo w) (hl : ms.length ≤ 100000) :
   Calls Try.prog 91 #[.func (.func 62) #[] #[.pointer (some ⟨ob, 0, none⟩), .pointer (some ⟨mb, 0, none⟩)], .pointer (some ⟨sb, 0, none⟩)] w fun e w' =>
    (∃ v, e = .returned v) ∧ ∃ vo', KI w0 sb ob mb A0 A1 c0 c1 es ms most (kinL ms most) vo' w' := by
 have z0 := (blk_cell h.sbx 0).trans rfl
 have z1 := (blk_cell h.sbx 1).trans rfl
 have H := Aside0.mk h
 have HL := Aside0.mk hl
 clear h hl
 refine (callsIn_wide (n := 9)).1 ?_
 refine callsIn_of_wp_marks Try.func91 rfl trivial ?_ rfl
 refine wpIn_wide.2 ?_
 simp only [Try.ntmps91, List.size_toArray, List.length_cons, List.length_nil, Nat.reduceAdd, Nat.reduceSub, Array.replicate_succ, Array.replicate_zero, List.push_toArray, List.append_toArray, List.nil_append, List.cons_append, Array.append_assoc]
 rcases ms with _ | ⟨m0, mr⟩
 · go_step3
   go_wp2
   rw [Exit.noGoto_ret]
   exact ⟨_, results_none rfl _ _ _, ⟨_, rfl⟩, vo, H.out⟩
 · have hm0 : ((m0 :: mr).length : Int) ≠ 0 := by simp only [List.length_cons]; omega
   have t0 : (((m0 :: mr).length : Int) == 0) = false := beq_eq_false_iff_ne.mpr hm0
   obtain ⟨MS, hMS⟩ : ∃ MS, MS = m0 :: mr := ⟨_, rfl⟩
   rw [← hMS] at H HL z0 z1 t0 ⊢
   have HMS := Aside0.mk hMS
   obtain ⟨ad, s0, A1', n1, m1, A2, n2, m2, x, hA1, hx, q0, q1, q2, hk⟩ := atK_Message H.out.rdM 0 (by rw [hMS]; simp)
   subst hA1
   rw [Nat.zero_mul, Addr.add_zero'] at q0
   replace q0 := pw_cell_below H.out.bel q0
   have p1 : (0 : Int) < (MS.length : Int) := by rw [hMS]; simp only [List.length_cons]; omega
   have p2 : 0 < MS.length := by omega
   have hk2 := k47_open hk
   obtain ⟨B1, d1, B2, d2, he, _, _, _, _⟩ := hk2
   injection he with e0 he
   injection e0 with e0
   subst e0
   have HX := Aside0.mk hx
   clear hk he hx q1 q2 hMS hm0
   go_step3
   go_wp2_with (first | go_step3)
   have J0 : KJ w0 sb ob mb (w.heap.size + 1) A0 (some ad) c0 c1 es MS most [] [x.f0] vo (.slice (some ⟨w.heap.size, 0, none⟩) 1 1) ((w.alloc (.cells #[.string x.f0] 9)).alloc (.cells #[.slice (some ⟨w.heap.size, 0, none⟩) 1 1] 37)) := by
    have h := H.out
    have hb1 : Below w.heap.size w ((w.alloc (.cells #[.string x.f0] 9)).alloc (.cells #[.slice (some ⟨w.heap.size, 0, none⟩) 1 1] 37)) := bel2 _ _ _
    have hx1 := boxes2 w (.cells #[.string x.f0] 9) (.cells #[.slice (some ⟨w.heap.size, 0, none⟩) 1 1] 37) _ (Below.refl _ _)
    refine ⟨h.bel.trans (hb1.mono h.hle), Nat.le_trans h.hle hb1.size, blk_below h.sbx hb1, blk_below h.obx hb1, blk_below h.mbx hb1, hx1.2, Rs_mv h.out (fun k hk => by obtain ⟨_, cs, hcs⟩ := R_typed' h.out hk; exact hb1.block k (blk_lt hcs)), ⟨fun _ _ => trivial, [.string x.f0], ⟨rfl, .inr ⟨w.heap.size, 1, #[.string x.f0], rfl, h.hle, hx1.1, Nat.le_refl _, by decide, rfl, rfl⟩⟩, ⟨rfl, fun j p hj => ?_⟩⟩, fun k hk e => ?_, ?_, h.obB, by have := h.hle; omega, h.rdE, h.lcE, h.rdM, h.lcM⟩
    · match j, hj with
      | 0, hj =>
        obtain rfl := Option.some.inj hj
        exact rfl
    · have hk' : w.heap.size = k := by simpa [Value.ownBlock] using hk
      obtain ⟨_, cs, hcs⟩ := R_typed' h.out e
      have := blk_lt hcs
      omega
    · have := blk_lt h.obx
      omega
   have HJ0 := Aside0.mk J0
   have HWL := Aside0.mk H.out.hle
   have HT0 := Aside0.mk (Told.first HX.out)
   have HS0 := Aside0.mk (show kinR MS most (MS.length + 1) 0 [x.f0] [] = kinL MS most by
    have h1 := HX.out
    match MS, h1 with
    | _ :: _, h1 =>
      obtain rfl := Option.some.inj h1
      rfl)
   clear J0
   refine wp_loop_ghost_k (fun kq aq wq => ∃ u4 u5 u16 u17 u18 u19 u20 u21 u22 u23 u24 u25 u26 u27 u28 u29 u30 u31 u32 u33 u34 u35 u36 u37 u38 u39 u41 u42 u43 u44 u45 u46 u47 u48 u49 u50 u51 u52 u53 ds, (∃ (i : Nat) (At : Option Addr) (ct : Nat) (outL toldL : List ByteArray) (vo' : Value), u4 = .int .i64 (i : Int) ∧ Aside0 (kq + i = MS.length + 1 ∧ outL.length = i ∧ i ≤ toldL.length ∧ Told MS toldL ∧ kinR MS most kq i toldL outL = kinL MS most ∧ KJ w0 sb ob mb (w.heap.size + 1) A0 (some ad) c0 c1 es MS most outL toldL vo' (.slice At toldL.length ct) wq ∧ Marks w.heap.size ds wq)) ∧ aq = { tmps := #[.func (.func 62) #[] #[.pointer (some ⟨ob, 0, none⟩), .pointer (some ⟨mb, 0, none⟩)], .pointer (some ⟨sb, 0, none⟩), undef, .pointer (some ⟨w.heap.size + 1, 0, none⟩), u4, u5, .pointer (some ⟨sb, 1, none⟩), .slice (some ad) MS.length c1, .int .i64 (MS.length : Int), .bool false, .pointer (some ⟨sb, 1, none⟩), .slice (some ad) MS.length c1, .pointer (some ad), .pointer (some ad), .string x.f0, .slice (some ⟨w.heap.size, 0, none⟩) 1 1, u16, u17, u18, u19, u20, u21, u22, u23, u24, u25, u26, u27, u28, u29, u30, u31, u32, u33, u34, u35, u36, u37, u38, u39, undef, u41, u42, u43, u44, u45, u46, u47, u48, u49, u50, u51, u52, u53], defers := ds }) (MS.length + 1) ?start ?round
   case start =>
    (repeat apply Exists.intro)
    exact ⟨⟨0, _, _, [], [x.f0], _, rfl, ⟨by omega, rfl, by simp, HT0.out, HS0.out, HJ0.out, show Marks _ [] _ from trivial⟩⟩, rfl⟩
   case round =>
    intro gk aq wr hinv
    obtain ⟨u4, u5, u16, u17, u18, u19, u20, u21, u22, u23, u24, u25, u26, u27, u28, u29, u30, u31, u32, u33, u34, u35, u36, u37, u38, u39, u41, u42, u43, u44, u45, u46, u47, u48, u49, u50, u51, u52, u53, ds, ⟨i, At, ct, outL, toldL, vo', rfl, HG⟩, rfl⟩ := hinv
    intro _ _ _ _
    obtain ⟨hg0, hol, hit, htd, hsp, hj, hmk⟩ := HG.out
    have HJ := Aside0.mk hj
    have HMK := Aside0.mk hmk
    have HTD := Aside0.mk htd
    have HSP := Aside0.mk hsp
    have HG0 := Aside0.mk hg0
    have HOL := Aside0.mk hol
    have ct0 := (blk_cell hj.tbx 0).trans rfl
    have hml := HL.out
    have HTL := Aside0.mk htd.le
    clear HJ0 HT0 HS0 H HG hg0 hol hsp hj hmk htd q0 z0 z1
    by_cases hi : i < toldL.length
    · have c1' : decide ((i : Int) < (toldL.length : Int)) = true := decide_eq_true (by omega)
      have p0 : (0 : Int) ≤ (i : Int) := by omega
      have hi2 : (i : Int) < (toldL.length : Int) := by omega
      obtain ⟨_, _, hCt⟩ := Kd.R_reads' HJ.out.tol
      obtain ⟨adt, ctc, hAt, _, hKt, hct⟩ := Kd.C_get hCt ByteArray.empty (i : Int) (by omega) (by omega)
      subst hAt
      obtain ⟨y, hy⟩ : ∃ y, toldL[i]? = some y := ⟨toldL[i], List.getElem?_eq_getElem hi⟩
      have hy2 : toldL.getD (i : Int).toNat ByteArray.empty = y := by rw [Int.toNat_natCast, List.getD_eq_getElem?_getD, hy]; rfl
      rw [hy2] at hKt
      have hKt : ctc = [.string y] := hKt
      subst hKt
      have ht1 : wr.cell? (adt.add i) = some (.string y) := by
        have := hct 0 _ rfl
        rwa [Int.toNat_natCast, show i * (Kd.string).sz + 0 = i from Nat.mul_one i] at this
      have HY := Aside0.mk hy
      have hw : IntKind.i64.wrap ((i : Int) + 1) = ((i + 1 : Nat) : Int) := by have := HTL.out; rw [IntKind.wrap_i64]; omega
      have HK1 := Aside0.mk (fun (W : World) (h : KJ w0 sb ob mb (w.heap.size + 1) A0 (some ad) c0 c1 es MS most outL toldL vo' (.slice (some adt) toldL.length ct) W) => kin1_c (w0 := w0) y h.hle h.bel h.obx h.obB h.mbx h.out (by have := HOL.out; have := HTL.out; omega))
      have HI := Aside0.mk hi
      replace hi := eq_true hi
      replace hi2 := eq_true hi2
      clear hy hy2 hCt hct hit
      by_cases hm : (((outL.length + 1 : Nat) : Int) != most) = true
      · go_wp2_with (first
         | (go_at_call 62; refine (HK1.out _ HJ.out).mono ?_; rintro e w2 hp2
            obtain ⟨vo2, rfl, j2, ko2⟩ := HJ.out.yield hp2
            rw [hm]
            have J2 := Aside0.mk j2
            have KO2 := Aside0.mk ko2
            clear j2 ko2 hp2))
        have hat := HTD.out.at_ y (List.mem_of_getElem? HY.out)
        obtain ⟨m, hm1, hm2, hm3⟩ := msgAt_some hat
        obtain ⟨j, hj⟩ : ∃ j : Nat, msgAt MS y = (j : Int) := ⟨_, (Int.toNat_of_nonneg hat).symm⟩
        rw [hj] at hm3
        rw [hj, Int.toNat_natCast] at hm1
        have hfa : fieldsAt MS y = m.f1 := by
         unfold fieldsAt
         rw [hj, Int.toNat_natCast, hm1]
         rfl
        obtain ⟨adm, s0', A1m, n1m, m1m, A2m, n2m, m2m, xm, hA1, hxm, r0, r1, r2, hkm⟩ := atK_Message J2.out.rdM j (by omega)
        rw [hm1] at hxm
        obtain rfl := Option.some.inj hxm
        injection hA1 with hA1
        subst hA1
        obtain ⟨B1m, d1m, B2m, d2m, he, _, hCf, _, _⟩ := k47_open hkm
        injection he with e0 he
        injection he with e1 he
        injection he with e2 he
        injection e0 with e0
        injection e1 with e1 e1b e1c
        injection e2 with e2 e2b e2c
        subst e0 e1 e1b e1c e2 e2b e2c
        have HM := Aside0.mk (fun (W : World) (hb : Below w2.heap.size w2 W) => show W.cell? ⟨sb, 0, none⟩ = some (.slice A0 es.length c0) ∧ W.cell? ⟨sb, 1, none⟩ = some (.slice (some ad) MS.length c1) ∧ W.cell? ⟨w.heap.size + 1, 0, none⟩ = some (.slice (some adt) toldL.length ct) ∧ W.cell? (adt.add i) = some (.string y) ∧ W.cell? (ad.add (j * 3)) = some (.string m.f0) ∧ W.cell? ⟨(ad.add (j * 3)).block, (ad.add (j * 3)).off + 1, none⟩ = some (.slice A1m m.f1.length m1m) ∧ W.cell? ⟨(ad.add (j * 3)).block, (ad.add (j * 3)).off + 2, none⟩ = some (.slice A2m m.f2.length m2m) from by
         have k2 := J2.out.below hb
         obtain ⟨_, _, hCt⟩ := Kd.R_reads' k2.tol
         obtain ⟨adt', ctc, hAt, _, hKt, hct⟩ := Kd.C_get hCt ByteArray.empty (i : Int) (by omega) (by have := HI.out; omega)
         injection hAt with hAt
         subst hAt
         have hy2 : toldL.getD (i : Int).toNat ByteArray.empty = y := by rw [Int.toNat_natCast, List.getD_eq_getElem?_getD, HY.out]; rfl
         rw [hy2] at hKt
         have hKt : ctc = [.string y] := hKt
         subst hKt
         have h0 := hct 0 _ rfl
         rw [Int.toNat_natCast, show i * (Kd.string).sz + 0 = i from Nat.mul_one i] at h0
         exact ⟨(blk_cell k2.sbx 0).trans rfl, (blk_cell k2.sbx 1).trans rfl, (blk_cell k2.tbx 0).trans rfl, h0, pw_cell_below k2.bel r0, pw_cell_below k2.bel r1, pw_cell_below k2.bel r2⟩)
        have HMsg := Aside0.mk (fun (W : World) (hb : Below w2.heap.size w2 W) => find_Message.calls A0 c0 es (some ad) c1 MS y (j : Int) W (Kd.C_below J2.out.rdE (J2.out.below hb).bel) J2.out.lcE (Kd.C_below J2.out.rdM (J2.out.below hb).bel) J2.out.lcM (by rw [← hj]; rfl))
        have pj1 : (0 : Int) ≤ (j : Int) := by omega
        have HFA := Aside0.mk hfa
        have HCF := Aside0.mk hCf
        have HJJ := Aside0.mk hj
        have hm0 := HM.out w2 (Below.refl _ _)
        obtain ⟨g0, g1, g2, g3, g4, g5, g6⟩ := HM.out w2 (Below.refl _ _)
        replace hm3 := eq_true hm3
        clear hat hm1 hfa hCf hj r0 r1 r2 hkm he ht1 ct0
        have hm0 := HM.out w2 (Below.refl _ _)
        go_region_held3 (fun W => W.cell? ⟨sb, 0, none⟩ = some (.slice A0 es.length c0) ∧ W.cell? ⟨sb, 1, none⟩ = some (.slice (some ad) MS.length c1) ∧ W.cell? ⟨w.heap.size + 1, 0, none⟩ = some (.slice (some adt) toldL.length ct) ∧ W.cell? (adt.add i) = some (.string y) ∧ W.cell? (ad.add (j * 3)) = some (.string m.f0) ∧ W.cell? ⟨(ad.add (j * 3)).block, (ad.add (j * 3)).off + 1, none⟩ = some (.slice A1m m.f1.length m1m) ∧ W.cell? ⟨(ad.add (j * 3)).block, (ad.add (j * 3)).off + 2, none⟩ = some (.slice A2m m.f2.length m2m)) (first | exact hm0 | exact CM4.out | exact CM3.out | go_keep) (first
         | (go_at_call 28; refine (HMsg.out _ (pw_below_drewN (Below.refl _ _) _)).mono ?_; rintro e w3 ⟨rfl, b3⟩
            have b3' : Below w2.heap.size w2 w3 := (pw_below_drewN (Below.refl w2.heap.size w2) _).trans b3
            have B3 := Aside0.mk b3'
            have CM3 := Aside0.mk (HM.out _ b3')
            clear b3 b3')
         | (go_at_call 75; refine (refs_c _ _ _ _ _ _ _ _).mono ?_; rintro e w4 ⟨rfl, b4, x4⟩
            have b5 : Below w3.heap.size w3 w4 := (by first | exact b4 | exact (pw_below_drewN (Below.refl w3.heap.size w3) _).trans b4)
            have b4' := B3.out.trans (b5.mono B3.out.size)
            have B4 := Aside0.mk b4'
            have X4 := Aside0.mk x4
            have CM4 := Aside0.mk (HM.out _ b4')
            clear b4 b4' b5 x4))
        subst hm2
        have K4 := Aside0.mk (show KeepsOthers wr w4 from KO2.out.trans (KO_below B4.out))
        have JR : KR w0 wr sb ob mb (w.heap.size + 1) A0 (some ad) c0 c1 es MS most (outL ++ [m.f0]) toldL vo2 w3.heap.size m.f0 A1m A2m m1m m.f2.length m2m m.f1 [] w4 := ⟨⟨_, _, J2.out.below B4.out⟩, X4.out, HCF.out, K4.out, by have h1 := J2.out.tbx; have h2 := blk_lt h1; have h3 := B3.out.size; omega⟩
        have HJR := Aside0.mk JR
        have L1 := Aside0.mk (show w0.heap.size ≤ w4.heap.size from (J2.out.below B4.out).hle)
        have L2 := Aside0.mk K4.out.size
        clear JR
        go_wp2
        refine (wpIn_wide (n := 9)).1 ?_
        refine range_on (gf := 99) (lb := #[.pointer (some ⟨w3.heap.size, 0, none⟩)]) rfl (enters_of Try.func99 (by kernel_rfl) rfl)
         (refs_on (J := KR w0 wr sb ob mb (w.heap.size + 1) A0 (some ad) c0 c1 es MS most (outL ++ [m.f0]) toldL vo2 w3.heap.size m.f0 A1m A2m m1m m.f2.length m2m m.f1) KR.keeps 8 (by omega)) (fun _ => rfl)
         (KR.firm _ L1.out L2.out) (KR.firm _ L1.out L2.out) (fun _ _ => KR.firm _ L1.out L2.out) (fun _ _ => KR.firm _ L1.out L2.out) HJR.out
         (fun r a₁ W => a₁ = { tmps := #[.func (.func 62) #[] #[.pointer (some ⟨ob, 0, none⟩), .pointer (some ⟨mb, 0, none⟩)], .pointer (some ⟨sb, 0, none⟩), undef, .pointer (some ⟨w.heap.size + 1, 0, none⟩), .int .i64 (i : Int), .string r, .pointer (some ⟨sb, 1, none⟩), .slice (some ad) MS.length c1, .int .i64 (MS.length : Int), .bool false, .pointer (some ⟨sb, 1, none⟩), .slice (some ad) MS.length c1, .pointer (some ad), .pointer (some ad), .string x.f0, .slice (some ⟨w.heap.size, 0, none⟩) 1 1, .int .i64 (i : Int), .slice (some adt) toldL.length ct, .int .i64 (toldL.length : Int), .bool true, u20, u21, .func (.func 62) #[] #[.pointer (some ⟨ob, 0, none⟩), .pointer (some ⟨mb, 0, none⟩)], .slice (some adt) toldL.length ct, .int .i64 (i : Int), .pointer (some (adt.add i)), .string m.f0, .bool true, .bool false, .pointer (some ⟨sb, 1, none⟩), .slice (some ad) MS.length c1, .agg #[.slice A0 es.length c0, .slice (some ad) MS.length c1], .slice (some adt) toldL.length ct, .int .i64 (i : Int), .pointer (some (adt.add i)), .string m.f0, .int .i64 (j : Int), .pointer (some (ad.add (j * 3))), .agg #[.string m.f0, .slice A1m m.f1.length m1m, .slice A2m m.f2.length m2m], .func (.func 99) #[] #[.pointer (some ⟨w3.heap.size, 0, none⟩)], .string r, u41, u42, u43, u44, u45, u46, u47, u48, u49, u50, u51, u52, u53], defers := [] })
         ?hAx ?assign ?body ?done
        case hAx => exact fun x a₁ => ⟨fun W l o o' h _ _ _ => h, fun W o h => h⟩
        case assign =>
         intro l s r W K hy hK
         gi_wp2
         exact hK _ _ (KeepsOthers.refl _) hy rfl
        case body =>
         rintro l s r a₁ W hy rfl
         obtain ⟨Ar, cr, hjr⟩ := hy.j
         have y0 := (blk_cell hjr.sbx 0).trans rfl
         have y1 := (blk_cell hjr.sbx 1).trans rfl
         have HY := Aside0.mk hy
         have HJr := Aside0.mk hjr
         have HTl := Aside0.mk (Told.ext (l := s) HTD.out)
         obtain ⟨q, hq⟩ : ∃ q, q = msgAt MS r := ⟨_, rfl⟩
         have HMs := Aside0.mk (find_Message.calls A0 c0 es (some ad) c1 MS r q W (Kd.C_below hjr.rdE hjr.bel) hjr.lcE (Kd.C_below hjr.rdM hjr.bel) hjr.lcM (by rw [hq]; rfl))
         have fe1 : Fence.wide.fn 28 := trivial
         have fe2 : Fence.wide.fn 92 := trivial
         have HQ := Aside0.mk hq
         clear hy hjr hq
         by_cases hneg : q < 0
         · have d1 : decide (q < 0) = true := decide_eq_true hneg
           have HE := Aside0.mk (show addR MS (extR MS toldL s) r = extR MS toldL s by unfold addR; rw [if_pos (by rw [← HQ.out, d1]; rfl)])
           clear hneg
           gi_wp2_with (first
             | (gi_at_call 28; refine (CallsIn.inRound l (callsIn_wide.2 HMs.out)).mono ?_; rintro e w5 ⟨rfl, b5⟩
                have B5 := Aside0.mk b5
                clear b5))
           all_goals exact ⟨KO_below B5.out, (HY.out.below B5.out (KO_below B5.out)).same HE.out⟩
         · have d1 : decide (q < 0) = false := decide_eq_false hneg
           have HH := Aside0.mk (fun (W' : World) (hb : Below W.heap.size W W') => has_c (w := W') r (Kd.R_reads' (HJr.out.below hb).tol).2.2 (Kd.R_reads' (HJr.out.below hb).tol).2.1 (by have := HTl.out.le; have := HL.out; omega))
           have HB5 := Aside0.mk (fun (W' : World) (hb : Below W.heap.size W W') => (blk_cell (HJr.out.below hb).tbx 0).trans rfl)
           clear hneg
           by_cases hh : has (extR MS toldL s) r = true
           · have HE := Aside0.mk (show addR MS (extR MS toldL s) r = extR MS toldL s by unfold addR; rw [if_pos (by rw [hh]; simp)])
             rw [hh] at HH
             gi_wp2_with (first
              | (gi_at_call 28; refine (CallsIn.inRound l (callsIn_wide.2 HMs.out)).mono ?_; rintro e w5 ⟨rfl, b5⟩
                 have t5 := HB5.out _ b5
                 have B5 := Aside0.mk b5
                 clear b5)
              | (gi_at_call 92; refine (CallsIn.inRound l (callsIn_wide.2 (HH.out _ B5.out))).mono ?_; rintro e w6 ⟨rfl, d6⟩
                 have B6 := Aside0.mk (B5.out.trans (d6.below.mono B5.out.size))
                 clear d6))
             all_goals exact ⟨KO_below B6.out, (HY.out.below B6.out (KO_below B6.out)).same HE.out⟩
           · have HE := Aside0.mk (show addR MS (extR MS toldL s) r = extR MS toldL s ++ [r] by unfold addR; rw [if_neg (by rw [← HQ.out, d1]; simpa using hh)])
             replace hh : has (extR MS toldL s) r = false := by simpa using hh
             rw [hh] at HH
             gi_wp2_with (first
              | (gi_at_call 28; refine (CallsIn.inRound l (callsIn_wide.2 HMs.out)).mono ?_; rintro e w5 ⟨rfl, b5⟩
                 have t5 := HB5.out _ b5
                 have B5 := Aside0.mk b5
                 clear b5)
              | (gi_at_call 92; refine (CallsIn.inRound l (callsIn_wide.2 (HH.out _ B5.out))).mono ?_; rintro e w6 ⟨rfl, d6⟩
                 have b6 := (B5.out.trans (d6.below.mono B5.out.size))
                 have t6 := HB5.out _ b6
                 have J6 := Aside0.mk (HJr.out.below b6)
                 have B6 := Aside0.mk b6
                 clear d6 b6)
              | (gi_at_builtin
                 refine R_appendIn Kd.string (w0 := w0) w0.heap.size rfl (.tmp 50) (.tmp 52) 37 9 (.string ⟨#[]⟩) 16 rfl Try.underlying37 infoStr rfl (by decide) (by decide) (.slice Ar (extR MS toldL s).length cr) (extR MS toldL s) r [.string r] (fun k => some k ≠ vo2.ownBlock) (fun k => some k ≠ vo2.ownBlock ∧ some k ≠ (Value.slice Ar (extR MS toldL s).length cr).ownBlock) rfl rfl ?aM ?aK ?aF J6.out.tolA J6.out.bel J6.out.hle ?aL ?_
                 (case aM => exact rfl)
                 (case aK => exact fun k hk => hk)
                 (case aF => exact J6.out.voL)
                 (case aL => have := HTl.out.le; have := HL.out; omega)
                 intro vt' w7 ho7 hb7 hg7
                 obtain ⟨j7, k7, ⟨A7, c7, rfl⟩, x7⟩ := J6.out.told ho7 hb7 hg7
                 have t7 := (blk_cell x7 0).trans rfl
                 have f7 := blk_frozen x7 0
                 have G7 := Aside0.mk hg7
                 have J7 := Aside0.mk j7
                 have K7 := Aside0.mk k7
                 clear ho7 hb7 hg7 j7 k7 x7))
             have hbx := blk_below HY.out.box B6.out
             have hne : some w3.heap.size ≠ (Value.slice Ar (extR MS toldL s).length cr).ownBlock := fun e => by
              obtain ⟨_, cs, hcs⟩ := R_typed' J6.out.tol e.symm
              rw [hbx] at hcs
              cases hcs
             have hbx7 := (Below.heap_setCell w7 ⟨w.heap.size + 1, 0, none⟩ (.slice A7 (extR MS toldL s ++ [r]).length c7) w3.heap.size HY.out.bge).trans ((G7.out.block _ (blk_lt hbx) hne).trans hbx)
             have e1 : (extR MS toldL s ++ [r]).length = (extR MS toldL s).length + 1 := by simp
             have j7 := J7.out
             have k7 := K7.out
             rw [e1] at j7 k7 hbx7
             exact ⟨(KO_below B6.out).trans k7, ⟨⟨A7, c7, by rw [extR_snoc, HE.out, e1]; exact j7⟩, hbx7, HY.out.rd, HY.out.ko.trans ((KO_below B6.out).trans k7), HY.out.bge⟩⟩
        case done =>
         rintro D W hD hfin hK
         obtain ⟨Af, cf, hjf⟩ := hfin.j
         have HF := Aside0.mk hjf
         have HK2 := Aside0.mk hK
         have M2 := Aside0.mk (HMK.out.cons (D := D) (W := W) hfin.ko (Nat.le_trans L2.out hD) (by have h1 := L1.out; have h2 := K4.out.size; have h3 := HJ.out.tbx; have h4 := blk_lt h3; omega) hK)
         have HR := Aside0.mk (kinR_go (ms := MS) (most := most) (f := gk - 1) (out := outL) HY.out hm)
         clear hfin hK hjf hD
         go_wp2
         go_roundg (gk - 1)
         case measure => have h1 := HG0.out; have h2 := HTL.out; have h3 := HI.out; omega
         case rel =>
           have h1 := HG0.out
           have h2 := HTL.out
           have h3 := HI.out
           refine ⟨i + 1, Af, cf, outL ++ [m.f0], extR MS toldL (refsL m.f1), vo2, rfl, ⟨by omega, by rw [List.length_append, HOL.out]; rfl, ?_, HTD.out.ext, ?_, HF.out, M2.out⟩⟩
           · have := (extR_pre MS (refsL m.f1) toldL).length_le
             omega
           · rw [← HFA.out, ← HR.out, Nat.sub_add_cancel (by omega)]
             exact HSP.out
      · replace hm : (((outL.length + 1 : Nat) : Int) != most) = false := by simpa using hm
        go_wp2_with (first
         | (go_at_call 62; refine (HK1.out _ HJ.out).mono ?_; rintro e w2 hp2
            obtain ⟨vo2, rfl, j2, ko2⟩ := HJ.out.yield hp2
            rw [hm]
            have J2 := Aside0.mk j2
            have KO2 := Aside0.mk ko2
            clear j2 ko2 hp2))
        have HR := kinR_stop (ms := MS) (most := most) (f := gk - 1) (out := outL) HY.out hm
        have h1 := HG0.out
        have h2 := HTL.out
        have h3 := HI.out
        rw [Nat.sub_add_cancel (by omega), HSP.out] at HR
        refine leavesM ds w2 (HMK.out.keep KO2.out) (fun W' hW' => ?_)
        exact ⟨_, results_none rfl _ _ _, ⟨_, rfl⟩, vo2, by rw [HR]; exact J2.out.toI HWL.out hW'⟩
    · have c1' : decide ((i : Int) < (toldL.length : Int)) = false := decide_eq_false (by omega)
      have c2' : decide (i < toldL.length) = false := decide_eq_false hi
      have HR := Aside0.mk (kinR_end (ms := MS) (most := most) (f := gk - 1) (out := outL) (List.getElem?_eq_none (by omega : toldL.length ≤ i)))
      have HI := Aside0.mk hit
      clear hi hit
      go_wp2
      have hR := HR.out
      have h1 := HG0.out
      have h2 := HTL.out
      have h3 := HI.out
      rw [Nat.sub_add_cancel (by omega), HSP.out] at hR
      refine leavesM ds wr HMK.out (fun W' hW' => ?_)
      exact ⟨_, results_none rfl _ _ _, ⟨_, rfl⟩, vo', by rw [hR]; exact HJ.out.toI HWL.out hW'⟩
end Go.Proofs.Ytbpnfpckoapdbaa.M
end
section
namespace Go.Proofs.Ytbpnfpckoapdbaa.M
open Go.RowKit Go.Shelf Go.Proofs.Ytbpnfpckoapdbaa.Rng Go.Proofs.YtbpnfpckoapdbaaW.PrintWords Go.Proofs.YtbpnfpckoapdbaaW.PrintLast Go.Proofs.YtbpnfpckoapdbaaW.PrintMore Go.Proofs.Ytbpnfpckoapdbaa.KD
set_option linter.unusedVariables false
set_option linter.unusedSimpArgs false
set_option maxHeartbeats 4000000
set_option maxRecDepth 100000
theorem Kin_c (A0 A1 : Option Addr) (n0 c0 n1 c1 : Nat) (w : World) : Calls Try.prog 61 #[.agg #[.slice A0 n0 c0, .slice A1 n1 c1]] w fun e w' => e = .returned (.func (.func 91) #[] #[.pointer (some ⟨w.heap.size, 0, none⟩)]) ∧ Below w.heap.size w w' ∧ w'.heap[w.heap.size]? = some (.cells #[.slice A0 n0 c0, .slice A1 n1 c1] 35 (0, 0)) := by
 go_enter Try.func61, Try.ntmps61
 go_wp2
 go_ret
 exact ⟨rfl, below_alloc (Below.refl _ _) _, blk_new _ _⟩
theorem eq_seq (w : World) (f : Fn) (fi ca : Array Value) : (binOp .eql 90 (.func f fi ca) .nilFunc).run Try.prog w = .ok (.bool false) w := by
 have h : ∀ d : Nat, (Op.equalIn (d + 1) 90 (.func f fi ca) .nilFunc).run Try.prog w = .ok false w := fun d => by
  simp [Op.equalIn, run_underlying Try.underlying90]
 simp only [binOp]
 simp [Op.equal, Op.maxDepth, h 9999]
def ecdysislaw16_kin.f (l0_0 : List S86) (l0_1 : List S47) (a1 : Int) : Option (List ByteArray × Bool) := if l0_1.length ≤ 100000 then some (kinL l0_1 a1, true) else none
theorem ecdysislaw16_kin.calls (A0_0 : Option Addr) (c0_0 : Nat) (l0_0 : List S86) (A0_1 : Option Addr) (c0_1 : Nat) (l0_1 : List S47) (a1 : Int) (r1 : List ByteArray) (r2 : Bool) (w : World) (hr0_0 : Kd.C k86 w A0_0 l0_0.length l0_0) (hc0_0 : l0_0.length ≤ c0_0) (hr0_1 : Kd.C k47 w A0_1 l0_1.length l0_1) (hc0_1 : l0_1.length ≤ c0_1) (h : ecdysislaw16_kin.f l0_0 l0_1 a1 = some (r1, r2)) :
   Calls Try.prog 23 #[.agg #[.slice A0_0 l0_0.length c0_0, .slice A0_1 l0_1.length c0_1], .int .i64 a1] w fun e w' => ∃ v0_ : Value, e = .returned (.tuple #[v0_, .bool r2]) ∧ Kd.R Kd.string 9 w' w.heap.size (fun _ => True) v0_ r1 ∧ Below w.heap.size w w' := by
 unfold ecdysislaw16_kin.f at h
 by_cases hl : l0_1.length ≤ 100000
 · rw [if_pos hl] at h
   simp only [Option.some.injEq, Prod.mk.injEq] at h
   obtain ⟨rfl, rfl⟩ := h
   obtain ⟨wz, hwz⟩ : ∃ wz, wz = (((w.alloc (.cells #[.slice A0_0 l0_0.length c0_0, .slice A0_1 l0_1.length c0_1] 35)).alloc (.cells #[.int .i64 a1] 3)).alloc (.cells #[] 9)).alloc (.cells #[.slice (some ⟨w.heap.size + 1 + 1, 0, none⟩) 0 0] 37) := ⟨_, rfl⟩
   have hb : Below w.heap.size w wz := by rw [hwz]; exact ((((Below.refl _ _).alloc (Nat.le_refl _) _).alloc (by simp) _).alloc (by simp; omega) _).alloc (by simp; omega) _
   have h1 : wz.heap[w.heap.size + 1]? = some (.cells #[.int .i64 a1] 3 (0, 0)) := by
    have h := blk_new (w.alloc (.cells #[.slice A0_0 l0_0.length c0_0, .slice A0_1 l0_1.length c0_1] 35)) (.cells #[.int .i64 a1] 3)
    rw [World.size_alloc] at h
    rw [hwz]
    exact blk_alloc (blk_alloc h _) _
   have h2 : wz.heap[w.heap.size + 1 + 1]? = some (.cells #[] 9 (0, 0)) := by
    have h := blk_new ((w.alloc (.cells #[.slice A0_0 l0_0.length c0_0, .slice A0_1 l0_1.length c0_1] 35)).alloc (.cells #[.int .i64 a1] 3)) (.cells #[] 9)
    rw [World.size_alloc, World.size_alloc] at h
    rw [hwz]
    exact blk_alloc h _
   have h3 : wz.heap[w.heap.size + 1 + 1 + 1]? = some (.cells #[.slice (some ⟨w.heap.size + 1 + 1, 0, none⟩) 0 0] 37 (0, 0)) := by
    have h := blk_new (((w.alloc (.cells #[.slice A0_0 l0_0.length c0_0, .slice A0_1 l0_1.length c0_1] 35)).alloc (.cells #[.int .i64 a1] 3)).alloc (.cells #[] 9)) (.cells #[.slice (some ⟨w.heap.size + 1 + 1, 0, none⟩) 0 0] 37)
    rw [World.size_alloc, World.size_alloc, World.size_alloc] at h
    rw [hwz]
    exact h
   have HZ := Aside0.mk hwz
   have HB := Aside0.mk hb
   have HI := Aside0.mk (fun (w2 : World) (k : Nat) (hb2 : Below wz.heap.size wz w2) (hx : w2.heap[wz.heap.size]? = some (.cells #[.slice A0_0 l0_0.length c0_0, .slice A0_1 l0_1.length c0_1] 35 (0, 0))) => show KI w wz.heap.size (w.heap.size + 1 + 1 + 1) (w.heap.size + 1) A0_0 A0_1 c0_0 c0_1 l0_0 l0_1 a1 [] (.slice (some ⟨w.heap.size + 1 + 1, 0, none⟩) 0 0) w2 from
    ⟨hb.trans (hb2.mono hb.size), Nat.le_trans hb.size hb2.size, hx, blk_below h3 hb2, blk_below h1 hb2, ⟨fun _ _ => trivial, [], ⟨rfl, .inr ⟨_, 0, #[], rfl, by omega, blk_below h2 hb2, Nat.le_refl _, by decide, rfl, rfl⟩⟩, Reps.none _ _⟩, by omega, hr0_0, hc0_0, hr0_1, hc0_1⟩)
   have HL := Aside0.mk hl
   have q1 := eq_seq
   clear hr0_0 hc0_0 hr0_1 hc0_1 hwz hb h1 h2 h3 hl
   go_enter Try.func23, Try.ntmps23
   go_wp2_with (first
    | (go_at_call 61; rw [← HZ.out]; refine (Kin_c _ _ _ _ _ _ _).mono ?_; rintro e w2 ⟨rfl, b2, x2⟩
       have J2 := Aside0.mk (HI.out w2 0 b2 x2)
       clear b2 x2)
    | (go_at_call 91; refine (Kin1_c J2.out HL.out).mono ?_; rintro e w3 ⟨⟨v3, rfl⟩, vo3, j3⟩
       have z3 := (blk_cell j3.obx 0).trans rfl
       have J3 := Aside0.mk j3
       clear j3))
   go_ret2
   exact ⟨_, rfl, J3.out.out, J3.out.bel⟩
 · rw [if_neg hl] at h
   cases h
end Go.Proofs.Ytbpnfpckoapdbaa.M
end
section
namespace Go.Proofs.Ytbpnfpckoapdbaa.PF16
open Go.RowKit Go.Proofs.Ytbpnfpckoapdbaa.M Go.Proofs.Ytbpnfpckoapdbaa.KD Go.Proofs.Ytbpnfpckoapdbaa Go.Proofs.YtbpnfpckoapdbaaW.PrintWords Go.Proofs.YtbpnfpckoapdbaaW.PrintLast Go.Proofs.YtbpnfpckoapdbaaW.PrintMore
attribute [local go_sem] max2_int min2_int max_two min_two max_three min_three max_four min_four   -- for this text's walks alone
set_option linter.unusedVariables false
set_option linter.unusedSimpArgs false
theorem info3 : (Try.prog.info? 3).map (fun i => (i.zero, i.size, i.bytes)) = some (some (.int .i64 0), 1, 8) := by kernel_rfl
theorem info9 : (Try.prog.info? 9).map (fun i => (i.zero, i.size, i.bytes)) = some (some (.string ⟨#[]⟩), 1, 16) := by kernel_rfl
end Go.Proofs.Ytbpnfpckoapdbaa.PF16
end

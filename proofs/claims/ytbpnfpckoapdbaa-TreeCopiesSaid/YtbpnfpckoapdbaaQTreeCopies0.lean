/- The law TreeCopies holds for every input that the row lets in (text 1 of 3; some of it the words and functions that the kit's print and this claim's programs wrote) -/
import Derived.Below
import Derived.Deep.Draws
import Derived.Deep.AppendLies
import Derived.Maps.AppendAt
import Derived.OwnWalk
import Derived.Laws.BytesArg
import Derived.Laws.MakeOwn
import Derived.Laws.OwnMore
import Derived.Deep.OwnRows
import Derived.Tactics
import Derived.Lib.ConvBytes
import Derived.Laws.Slices
import Derived.WalkKit
import Derived.KernelRfl
import Derived.RowKit3
import Derived.Deep.LoopGhost
import Derived.Deep.QuietTactic
import Derived.BigQuiet
import Derived.WideLaws
import Derived.Deep.DeepCutAuto
import Derived.Deep.CutBlock
import Derived.Deep.RegionHeld3
import Derived.Laws.Rows
import Derived.Lib.AppendStr
import Derived.ArgAppend
import Derived.Laws.IdiomCopy
import Derived.RowKit
import Derived.OrdersHeld
import Derived.Laws.BitsLemmas
import Derived.Laws.StructEq
import Derived.Deep.Slices
import Derived.ChangeArms
import Derived.ChangeSame
import Derived.ProofKit
import Derived.SizedLaws
import Derived.WalkMore
import Derived.Test.YtbpnfpckoapdbaaProg
namespace Go.Proofs.Ytbpnfpckoapdbaa
end Go.Proofs.Ytbpnfpckoapdbaa
namespace Go.Proofs.Ytbpnfpckoapdbaa.Ev
end Go.Proofs.Ytbpnfpckoapdbaa.Ev
namespace Go.Proofs.Ytbpnfpckoapdbaa.KD
end Go.Proofs.Ytbpnfpckoapdbaa.KD
namespace Go.Proofs.Ytbpnfpckoapdbaa.M
end Go.Proofs.Ytbpnfpckoapdbaa.M
namespace Go.Proofs.Ytbpnfpckoapdbaa.Open
end Go.Proofs.Ytbpnfpckoapdbaa.Open
namespace Go.Proofs.Ytbpnfpckoapdbaa.Ops
end Go.Proofs.Ytbpnfpckoapdbaa.Ops
namespace Go.Proofs.Ytbpnfpckoapdbaa.PT19
end Go.Proofs.Ytbpnfpckoapdbaa.PT19
namespace Go.Proofs.YtbpnfpckoapdbaaW.PrintLast
end Go.Proofs.YtbpnfpckoapdbaaW.PrintLast
namespace Go.Proofs.YtbpnfpckoapdbaaW.PrintMore
end Go.Proofs.YtbpnfpckoapdbaaW.PrintMore
namespace Go.Proofs.YtbpnfpckoapdbaaW.PrintWords
end Go.Proofs.YtbpnfpckoapdbaaW.PrintWords
namespace Go.Proofs.YtbpnfpckoapdbaaW.PrintWords.Kd
end Go.Proofs.YtbpnfpckoapdbaaW.PrintWords.Kd
section
set_option linter.unusedVariables false
set_option linter.unusedSimpArgs false
namespace Go.Proofs.YtbpnfpckoapdbaaW.PrintWords
open Go.RowKit
/-- A fact that the walk's simp doesn't look into. -/
structure Aside0 (p : Prop) : Prop where mk :: (out : p)
/-- The world is the old one, some orders having been drawn. -/
structure Drawn0 (w w' : World) : Prop where mk :: (out : ∃ n, w' = w.drewN n)
theorem Drawn0.refl (w : World) : Drawn0 w w := ⟨⟨0, rfl⟩⟩
theorem Drawn0.step {w w' : World} (h : Drawn0 w w') (n : Nat) : Drawn0 w (w'.drewN n) := by
 obtain ⟨m, rfl⟩ := h
 exact ⟨⟨m + n, World.drewN_drewN ..⟩⟩
theorem Drawn0.grown {w w' : World} (h : Drawn0 w w') : Grown w w' := by
 obtain ⟨n, rfl⟩ := h
 induction n with
 | zero => exact Grown.refl _
 | succ n ih => rw [← World.drew_drewN]; exact Grown.drew ih
theorem Drawn0.below {w w' : World} (h : Drawn0 w w') : Below w.heap.size w w' := by
 obtain ⟨n, rfl⟩ := h
 induction n with
 | zero => exact Below.refl _ _
 | succ n ih => rw [← World.drew_drewN]; exact ih.drew
theorem below_alloc {w W : World} (h : Below w.heap.size w W) (o : Obj) : Below w.heap.size w (W.alloc o) := h.alloc h.size o
theorem below_drew {B : Nat} {w W : World} (h : Below B w W) : Below B w W.drew := ⟨h.os, h.tape, h.output, h.size, h.block⟩
theorem pw_below_drewN {B : Nat} {w W : World} (h : Below B w W) (n : Nat) : Below B w (W.drewN n) := ⟨h.os, h.tape, h.output, h.size, h.block⟩
theorem below_then {B : Nat} {w w1 w2 : World} (h : Below B w w1) (hB : B ≤ w1.heap.size) (k : Below w1.heap.size w1 w2) : Below B w w2 :=
 h.trans ⟨k.os, k.tape, k.output, k.size, fun i hi => k.block i (Nat.lt_of_lt_of_le hi hB)⟩
theorem grown_of_below {w w1 : World} (h : Below w.heap.size w w1) (row : Option Nat) : w.grownBy w1 row := ⟨h.os, h.tape, h.output, h.size, fun i hi _ => h.block i hi⟩
theorem pw_cell_below {w w1 : World} (h : Below w.heap.size w w1) {a : Addr} {v : Value} (hc : w.cell? a = some v) : w1.cell? a = some v := (h.cell (World.block_lt_of_cell? w a hc)).trans hc
theorem add_plain (g j : Nat) : (⟨g, 0, none⟩ : Addr).add j = ⟨g, j, none⟩ := by unfold Addr.add; split <;> simp_all
def ReadsInt (w : World) (k : IntKind) (A : Option Addr) (n : Nat) (xs : List Int) : Prop :=
 xs.length = n ∧ n ≤ 9223372036854775807 ∧ (0 < n → ∃ ad, A = some ad ∧ ∀ j, j < n → w.cell? (ad.add j) = some (.int k (xs.getD j 0)))
theorem ReadsInt.below {w w1 : World} {k : IntKind} {A : Option Addr} {n : Nat} {xs : List Int} (h : ReadsInt w k A n xs) (hb : Below w.heap.size w w1) : ReadsInt w1 k A n xs :=
 ⟨h.1, h.2.1, fun hn => by
  obtain ⟨ad, e, hc⟩ := h.2.2 hn
  exact ⟨ad, e, fun j hj => pw_cell_below hb (hc j hj)⟩⟩
theorem own_nil (W : World) (base : Nat) (e : TypeId) (size : Nat) : W.ownsRow base e size (.slice none 0 0) 0 [] := ⟨by simp, .inl ⟨rfl, rfl⟩⟩
theorem own_base {w : World} {base : Nat} {e : TypeId} {size n : Nat} {v : Value} {xs : List Value} (h : w.ownsRow base e size v n xs) (k : Nat) (hk : v.ownBlock = some k) : base ≤ k := by
 rcases h.2 with ⟨rfl, _⟩ | ⟨g, cap, cur, rfl, hb, _⟩
 · simp [Value.ownBlock] at hk
 · have : g = k := by simpa [Value.ownBlock] using hk
   omega
theorem own_lt {w : World} {base : Nat} {e : TypeId} {size n : Nat} {v : Value} {xs : List Value} (h : w.ownsRow base e size v n xs) (k : Nat) (hk : v.ownBlock = some k) : k < w.heap.size := by
 rcases h.2 with ⟨rfl, _⟩ | ⟨g, cap, cur, rfl, hb, hh, _⟩
 · simp [Value.ownBlock] at hk
 · have : g = k := by simpa [Value.ownBlock] using hk
   subst this
   exact (Array.getElem?_eq_some_iff.1 hh).1
theorem pw_own_below {w w1 : World} {base : Nat} {e : TypeId} {size n : Nat} {v : Value} {xs : List Value} (h : w.ownsRow base e size v n xs) (hb : Below w.heap.size w w1) : w1.ownsRow base e size v n xs :=
 h.kept (grown_of_below hb none) (by cases v.ownBlock <;> simp)
/-- What is written is another row: this one lives on. -/
theorem own_other {w w1 : World} {base : Nat} {e : TypeId} {size n : Nat} {v : Value} {xs : List Value} (h : w.ownsRow base e size v n xs) {row : Option Nat} (hg : w.grownBy w1 row) (hne : v.ownBlock = none ∨ v.ownBlock ≠ row) : w1.ownsRow base e size v n xs := h.kept hg hne
section
variable {P : Program} {ops : Array Oper} {rest : List Oper} {o : Oper} {a : Act} {Q : Exit → Act → World → Prop}
end
section
variable {P : Program}
end
section
variable {P : Program} {ops : Array Oper} {rest : List Oper} {o : Oper} {a : Act} {Q : Exit → Act → World → Prop}
end
def bytesOf (s : ByteArray) : List Int := s.data.toList.map fun b => (b.toNat : Int)
/-- 'xs[:k]' and 'xs[k:]' of a slice that is read; the address of the second as_ the walk has it. -/
theorem ReadsInt.take_ {w : World} {k : IntKind} {A : Option Addr} {n : Nat} {xs : List Int} (h : ReadsInt w k A n xs) (i : Nat) (hi : i ≤ n) : ReadsInt w k A i (xs.take i) := by
 refine ⟨by rw [List.length_take, h.1]; omega, by have := h.2.1; omega, fun hp => ?_⟩
 obtain ⟨ad, e, hc⟩ := h.2.2 (by omega)
 refine ⟨ad, e, fun j hj => ?_⟩
 rw [hc j (by omega)]
 simp [List.getD_eq_getElem?_getD, hj]
/-- Where the first answers, the second answers the same. -/
def LeO {α : Type} (a b : Option α) : Prop := ∀ r, a = some r → b = some r
theorem LeO.refl {α : Type} (a : Option α) : LeO a a := fun _ h => h
theorem LeO.none {α : Type} (b : Option α) : LeO Option.none b := fun _ h => by cases h
theorem LeO.trans {α : Type} {a b c : Option α} (h : LeO a b) (k : LeO b c) : LeO a c := fun r hr => k r (h r hr)
theorem LeO.ite {α : Type} {c : Prop} [Decidable c] {a a' b b' : Option α} (h : LeO a a') (k : LeO b b') : LeO (if c then a else b) (if c then a' else b') := by
 split
 · exact h
 · exact k
theorem LeO.bind {α β : Type} {a a' : Option α} {f f' : α → Option β} (h : LeO a a') (k : ∀ x, LeO (f x) (f' x)) : LeO (a.bind f) (a'.bind f') := by
 intro r hr
 obtain ⟨x, hx, hf⟩ := Option.bind_eq_some_iff.1 hr
 exact Option.bind_eq_some_iff.2 ⟨x, h x hx, k x r hf⟩
theorem LeO.map {α β : Type} {a a' : Option α} (f : α → β) (h : LeO a a') : LeO (a.map f) (a'.map f) := by
 intro r hr
 obtain ⟨x, hx, hf⟩ := Option.map_eq_some_iff.1 hr
 exact Option.map_eq_some_iff.2 ⟨x, h x hx, hf⟩
theorem more_rounds {α : Type} {g : Nat → Option α} (h : ∀ k, LeO (g k) (g (k + 1))) (k : Nat) : ∀ j, LeO (g k) (g (k + j))
 | 0 => LeO.refl _
 | j + 1 => (more_rounds h k j).trans (h (k + j))
theorem at_rounds {α : Type} {g : Nat → Option α} (h : ∀ k, LeO (g k) (g (k + 1))) {k k' : Nat} (hk : k ≤ k') {r : α} (hr : g k = some r) : g k' = some r := by
 have := more_rounds h k (k' - k) r hr
 rwa [Nat.add_sub_cancel' hk] at this
def Reps {α : Type} (R : α → List Value → Prop) (size : Nat) (ps : List α) (cs : List Value) : Prop :=
 cs.length = ps.length * size ∧ ∀ j p, ps[j]? = some p → R p ((cs.drop (j * size)).take size)
theorem Reps.none {α : Type} (R : α → List Value → Prop) (size : Nat) : Reps R size [] [] := ⟨by simp, fun j p h => by simp at h⟩
theorem Reps.snoc {α : Type} {R : α → List Value → Prop} {size : Nat} {ps : List α} {cs c : List Value} {p : α} (h : Reps R size ps cs) (hp : R p c) (hc : c.length = size) : Reps R size (ps ++ [p]) (cs ++ c) := by
 refine ⟨by rw [List.length_append, h.1, hc, List.length_append, List.length_singleton, Nat.add_mul, Nat.one_mul], fun j q hq => ?_⟩
 rcases Nat.lt_or_ge j ps.length with hj | hj
 · rw [List.getElem?_append_left hj] at hq
   have h1 : j * size + size ≤ cs.length := by rw [h.1, ← Nat.succ_mul]; exact Nat.mul_le_mul_right _ hj
   have h2 := h.2 j q hq
   rw [List.drop_append_of_le_length (by omega), List.take_append_of_le_length (by rw [List.length_drop]; omega)]
   exact h2
 · have hj' : j = ps.length := by
    have := (List.getElem?_eq_some_iff.1 hq).1
    rw [List.length_append, List.length_singleton] at this
    omega
   subst hj'
   have hq' : p = q := by simpa using hq
   subst hq'
   rw [← h.1, List.drop_left, ← hc, List.take_length]
   exact hp
theorem Reps.imp_ {α : Type} {R R' : α → List Value → Prop} {size : Nat} {ps : List α} {cs : List Value} (h : Reps R size ps cs) (hR : ∀ p c, R p c → R' p c) : Reps R' size ps cs := ⟨h.1, fun j p hj => hR _ _ (h.2 j p hj)⟩
def ReadsRow {α : Type} (R : α → List Value → Prop) (size : Nat) (w : World) (A : Option Addr) (n : Nat) (ps : List α) : Prop :=
 ps.length = n ∧ n ≤ 9223372036854775807 ∧ (0 < n → ∃ ad, A = some ad ∧ ∀ j p, ps[j]? = some p → ∃ c, c.length = size ∧ R p c ∧ ∀ i u, c[i]? = some u → w.cell? (ad.add (j * size + i)) = some u)
theorem ReadsRow.get_ {α : Type} {R : α → List Value → Prop} {size : Nat} {w : World} {A : Option Addr} {n : Nat} {ps : List α} (h : ReadsRow R size w A n ps) (d : α) (i : Int) (h0 : 0 ≤ i) (h1 : i < n) :
  ∃ ad c, A = some ad ∧ c.length = size ∧ R (ps.getD i.toNat d) c ∧ ∀ j u, c[j]? = some u → w.cell? (ad.add (i.toNat * size + j)) = some u := by
 obtain ⟨ad, e, hc⟩ := h.2.2 (by omega)
 have hl : i.toNat < ps.length := by have := h.1; omega
 obtain ⟨c, hs, hr, hcell⟩ := hc i.toNat _ (List.getElem?_eq_getElem hl)
 refine ⟨ad, c, e, hs, ?_, hcell⟩
 rw [List.getD_eq_getElem?_getD, List.getElem?_eq_getElem hl]
 exact hr
theorem ReadsRow.imp_ {α : Type} {R R' : α → List Value → Prop} {size : Nat} {w w1 : World} {A : Option Addr} {n : Nat} {ps : List α} (h : ReadsRow R size w A n ps) (hb : Below w.heap.size w w1) (hR : ∀ p c, R p c → R' p c) : ReadsRow R' size w1 A n ps :=
 ⟨h.1, h.2.1, fun hn => by
  obtain ⟨ad, e, hc⟩ := h.2.2 hn
  refine ⟨ad, e, fun j p hj => ?_⟩
  obtain ⟨c, hs, hr, hcell⟩ := hc j p hj
  exact ⟨c, hs, hR _ _ hr, fun i u hu => pw_cell_below hb (hcell i u hu)⟩⟩
theorem own_reads_row {α : Type} {R : α → List Value → Prop} {w : World} {base n size : Nat} {e : TypeId} {v : Value} {ps : List α} {cs : List Value} (h : w.ownsRow base e size v n cs) (hR : Reps R size ps cs) (hn : ps.length = n) :
   ∃ A c, v = .slice A n c ∧ ReadsRow R size w A n ps := by
 rcases Nat.eq_zero_or_pos n with h0 | h0
 · rcases h.2 with ⟨rfl, rfl⟩ | ⟨g, cap, cur, rfl, _⟩
   · exact ⟨none, 0, rfl, hn, by omega, fun hp => absurd hp (by omega)⟩
   · exact ⟨_, cap, rfl, hn, by omega, fun hp => absurd hp (by omega)⟩
 · obtain ⟨g, cap, rfl, _, _⟩ := h.form h0
   have hm : n ≤ 9223372036854775807 := by
     rcases h.2 with ⟨_, h1⟩ | ⟨g', cap', cur, he, _, _, h1, h2, _⟩
     · omega
     · simp only [maxLen] at h2
       omega
   refine ⟨_, cap, rfl, hn, hm, fun _ => ⟨_, rfl, fun j p hj => ⟨(cs.drop (j * size)).take size, ?_, hR.2 j p hj, fun i u hu => ?_⟩⟩⟩
   · have hjl := (List.getElem?_eq_some_iff.1 hj).1
     have h1 : j * size + size ≤ cs.length := by rw [hR.1, ← Nat.succ_mul]; exact Nat.mul_le_mul_right _ hjl
     rw [List.length_take, List.length_drop]
     omega
   · refine h.cells (g := g) rfl _ u ?_
     rw [List.getElem?_take] at hu
     split at hu
     · rw [List.getElem?_drop] at hu
       exact hu
     · cases hu
/-- A field's address as_ the walk spells it. -/
theorem add_field (ad : Addr) (m j : Nat) (hj : 0 < j) : ad.add (m + j) = ⟨(ad.add m).block, (ad.add m).off + j, none⟩ := by
 unfold Addr.add
 by_cases hm : m = 0
 · subst hm
   simp [Nat.ne_of_gt hj]
 · simp [hm, Nat.add_assoc]
section
variable {P : Program} {ops : Array Oper} {rest : List Oper} {o : Oper} {a : Act} {Q : Exit → Act → World → Prop}
/-- append(v, x), x of several cells; behind 'at_builtin'; the goal's world is 'W.alloc' of the variadic's box. -/
theorem print_append_cells {w0 W : World} (base : Nat) (hgd : o.guard = none) (s x : Operand) (t e : TypeId) (z : Value) (size bytes : Nat)
   (ho : o.op = .call { callee := .builtin .append, args := #[s, x], argTypes := #[t, t] })
   (ht : P.underlying t = some (.slice e)) (hinfo : (P.info? e).map (fun i => (i.zero, i.size, i.bytes)) = some (some z, size, bytes)) (hz : z.cells.size = size) (hs0 : 0 < size) (hb0 : 0 < bytes)
   (v : Value) (n : Nat) (xs ys : List Value) (hs : a.eval s = v) (hx : a.eval x = .slice (some ⟨W.heap.size, 0, none⟩) 1 1) (hys : ys.length = size) (h1 : ∀ u ∈ ys, u.oneCell' = true)
   (HO : W.ownsRow base e size v n xs) (HB : Below base w0 W) (hbase : base ≤ W.heap.size) (hl : (n + 1) * bytes ≤ 140737488355328)
   (h : ∀ v1 w1, w1.ownsRow base e size v1 (n + 1) (xs ++ ys) → Below base w0 w1 → W.grownBy w1 v.ownBlock → (v1.ownBlock = v.ownBlock ∨ ∃ b, v1.ownBlock = some b ∧ W.heap.size ≤ b) → wpList P ops Q rest (a.put o.dst v1) w1) :
   wpList P ops Q (o :: rest) a (W.alloc (.cells ys.toArray e)) := by
 obtain ⟨i0, hi, hzz⟩ := Option.map_eq_some_iff.1 hinfo
 simp only [Prod.mk.injEq] at hzz
 obtain ⟨hz0, hz1, hz2⟩ := hzz
 have hlen : n + 1 ≤ 140737488355328 := Nat.le_trans (Nat.le_mul_of_pos_right _ hb0) hl
 refine wpList_append_own_at (W.alloc (.cells ys.toArray e)) hgd s x t ho base e i0 z size bytes ht hi hz0 hz1 hz2 hz hs0 v n xs hs (HO.alloc _) ⟨W.heap.size, 0, none⟩ 1 1 ys hx (by rw [hys]; simp)
   (by simpa using World.news_of_block (cs := ys.toArray) (t := e) (fr := (0, 0)) (heap_alloc_new W (.cells ys.toArray e))) h1 (by simp only [maxLen]; omega) hl (by simp; omega) ?_
 intro v1 w1 hown hg _ hat
 refine h v1 w1 hown ((HB.alloc hbase _).grown hg (by simp; omega) (own_base HO)) (World.grownBy.trans (World.grownBy_alloc W _ _) hg) ?_
 rcases hat with hat | hat
 · exact .inl hat
 · exact .inr ⟨_, hat, by simp⟩
end
theorem own_ne {w : World} {base : Nat} {e t : TypeId} {size n g : Nat} {v : Value} {xs : List Value} {cs : Array Value} (h : w.ownsRow base e size v n xs) (hg : w.heap[g]? = some (.cells cs t (0, 0))) (hne : e ≠ t) : some g ≠ v.ownBlock := by
 rcases h.2 with ⟨rfl, _⟩ | ⟨g', cap, cur, rfl, _, hh, _⟩
 · simp [Value.ownBlock]
 · intro he
   have : g = g' := by simpa [Value.ownBlock] using he
   subst this
   rw [hg] at hh
   injection hh with hh
   injection hh with _ ht
   exact hne ht.symm
theorem blk_set {w : World} {g : Nat} {t : TypeId} {cs : Array Value} (h : w.heap[g]? = some (.cells cs t (0, 0))) (i : Nat) (u : Value) : (w.setCell ⟨g, i, none⟩ u).heap[g]? = some (.cells (cs.setIfInBounds i u) t (0, 0)) := by
 simp [World.setCell, Array.getElem?_modify, h]
theorem blk_far {w : World} {g : Nat} {t : TypeId} {cs : Array Value} (h : w.heap[g]? = some (.cells cs t (0, 0))) {p : Addr} (hp : g ≠ p.block) (u : Value) : (w.setCell p u).heap[g]? = some (.cells cs t (0, 0)) := (Below.heap_setCell w p u g hp).trans h
theorem blk_lt {w : World} {g : Nat} {o : Obj} (h : w.heap[g]? = some o) : g < w.heap.size := (Array.getElem?_eq_some_iff.1 h).1
theorem blk_cell {w : World} {g : Nat} {t : TypeId} {cs : Array Value} (h : w.heap[g]? = some (.cells cs t (0, 0))) (i : Nat) : w.cell? ⟨g, i, none⟩ = cs[i]? := cell_of_row w g i cs t (0, 0) h
theorem blk_frozen {w : World} {g : Nat} {t : TypeId} {cs : Array Value} (h : w.heap[g]? = some (.cells cs t (0, 0))) (i : Nat) : w.frozen? ⟨g, i, none⟩ = false := by simp [World.frozen?, h]
theorem blk_grown {w w1 : World} {g : Nat} {o : Obj} {row : Option Nat} (h : w.heap[g]? = some o) (hg : w.grownBy w1 row) (hne : some g ≠ row) : w1.heap[g]? = some o := (hg.block g (blk_lt h) hne).trans h
def KeepBut (w w' : World) (g : Nat) (row : Option Nat) : Prop := w.heap.size ≤ w'.heap.size ∧ ∀ i, i < w.heap.size → i ≠ g → some i ≠ row → w'.heap[i]? = w.heap[i]?
theorem KeepBut.refl (w : World) (g : Nat) (row : Option Nat) : KeepBut w w g row := ⟨Nat.le_refl _, fun _ _ _ _ => rfl⟩
theorem KeepBut.of_below {w w1 : World} (h : Below w.heap.size w w1) (g : Nat) (row : Option Nat) : KeepBut w w1 g row := ⟨h.size, fun i hi _ _ => h.block i hi⟩
theorem KeepBut.trans {w w1 w2 : World} {g : Nat} {row row1 : Option Nat} (h : KeepBut w w1 g row) (k : KeepBut w1 w2 g row1) (hr : row1 = row ∨ ∃ b, row1 = some b ∧ w.heap.size ≤ b) : KeepBut w w2 g row :=
 ⟨Nat.le_trans h.1 k.1, fun i hi hg hn => by
  refine (k.2 i (Nat.lt_of_lt_of_le hi h.1) hg ?_).trans (h.2 i hi hg hn)
  rcases hr with rfl | ⟨b, rfl, hb⟩
  · exact hn
  · intro e
    injection e with e
    omega⟩
/-- Another block, another row: they live on. -/
theorem KeepBut.blk {w w1 : World} {g g' : Nat} {row : Option Nat} {o : Obj} (h : KeepBut w w1 g row) (hb : w.heap[g']? = some o) (hg : g' ≠ g) (hr : some g' ≠ row) : w1.heap[g']? = some o := (h.2 g' (blk_lt hb) hg hr).trans hb
theorem KeepBut.own {w w1 : World} {g : Nat} {row : Option Nat} {base : Nat} {e : TypeId} {size n : Nat} {v : Value} {xs : List Value} (h : KeepBut w w1 g row) (ho : w.ownsRow base e size v n xs) (hg : v.ownBlock ≠ some g) (hr : v.ownBlock = none ∨ v.ownBlock ≠ row) : w1.ownsRow base e size v n xs := by
 obtain ⟨h1, h2⟩ := ho
 refine ⟨h1, ?_⟩
 rcases h2 with h2 | ⟨b, cap, cur, rfl, hb, hh, r⟩
 · exact .inl h2
 · refine .inr ⟨b, cap, cur, rfl, hb, h.blk hh ?_ ?_, r⟩
   · intro e
     exact hg (by rw [← e]; rfl)
   · rcases hr with hr | hr
     · simp [Value.ownBlock] at hr
     · exact hr
def Ev {α : Type} (g : Nat → Option α) (r : α) : Prop := ∃ K, ∀ k, K ≤ k → g k = some r
theorem Ev.of {α : Type} {g : Nat → Option α} {r : α} (hg : ∀ k, LeO (g k) (g (k + 1))) {k : Nat} (h : g k = some r) : Ev g r := ⟨k, fun _ hk => at_rounds hg hk h⟩
theorem Ev.now {α : Type} (r : α) : Ev (fun _ => some r) r := ⟨0, fun _ _ => rfl⟩
theorem Ev.rounds {α : Type} {g : Nat → Option α} {r : α} (h : Ev g r) : ∃ k, g k = some r := by
 obtain ⟨K, h⟩ := h
 exact ⟨K, h K (Nat.le_refl _)⟩
theorem Ev.bind {α β : Type} {g : Nat → Option α} {f : Nat → α → Option β} {a : α} {r : β} (h : Ev g a) (k : Ev (fun n => f n a) r) : Ev (fun n => (g n).bind (f n)) r := by
 obtain ⟨K, h⟩ := h
 obtain ⟨K', k⟩ := k
 refine ⟨max K K', fun n hn => ?_⟩
 have h1 := h n (by omega)
 have h2 := k n (by omega)
 simp only [h1, Option.bind_some]
 exact h2
/-- One round of a loop. -/
theorem Ev.step {α : Type} {g f : Nat → Option α} {r : α} (h : ∀ k, g (k + 1) = f k) (k : Ev f r) : Ev g r := by
 obtain ⟨K, k⟩ := k
 refine ⟨K + 1, fun n hn => ?_⟩
 obtain ⟨m, rfl⟩ : ∃ m, n = m + 1 := ⟨n - 1, by omega⟩
 rw [h]
 exact k m (by omega)
theorem Ev.congr {α : Type} {g f : Nat → Option α} {r : α} (h : ∀ k, g k = f k) (k : Ev f r) : Ev g r := by
 obtain ⟨K, k⟩ := k
 exact ⟨K, fun n hn => (h n).trans (k n hn)⟩
section
variable {P : Program} {ops : Array Oper} {o : Oper} {a : Act} {Q : Exit → Act → World → Prop} {K : Act → World → Prop}
theorem step_append_cells {w0 W : World} (base : Nat) (hw : Region.wanted o (yielded ops a.tmps) = true) (s x : Operand) (t e : TypeId) (z : Value) (size bytes : Nat)
   (ho : o.op = .call { callee := .builtin .append, args := #[s, x], argTypes := #[t, t] })
   (ht : P.underlying t = some (.slice e)) (hinfo : (P.info? e).map (fun i => (i.zero, i.size, i.bytes)) = some (some z, size, bytes)) (hz : z.cells.size = size) (hs0 : 0 < size) (hb0 : 0 < bytes)
   (v : Value) (n : Nat) (xs ys : List Value) (hs : a.eval s = v) (hx : a.eval x = .slice (some ⟨W.heap.size, 0, none⟩) 1 1) (hys : ys.length = size) (h1 : ∀ u ∈ ys, u.oneCell' = true)
   (HO : W.ownsRow base e size v n xs) (HB : Below base w0 W) (hbase : base ≤ W.heap.size) (hl : (n + 1) * bytes ≤ 140737488355328)
   (h : ∀ v1 w1, w1.ownsRow base e size v1 (n + 1) (xs ++ ys) → Below base w0 w1 → W.grownBy w1 v.ownBlock → (v1.ownBlock = v.ownBlock ∨ ∃ b, v1.ownBlock = some b ∧ W.heap.size ≤ b) → K (a.put o.dst v1) w1) :
   if Region.wanted o (yielded ops a.tmps) = true then Oper.wp P o a (W.alloc (.cells ys.toArray e)) K Q else K (a.put o.dst undef) (W.alloc (.cells ys.toArray e)) := by
 obtain ⟨i0, hi, hzz⟩ := Option.map_eq_some_iff.1 hinfo
 simp only [Prod.mk.injEq] at hzz
 obtain ⟨hz0, hz1, hz2⟩ := hzz
 have hlen : n + 1 ≤ 140737488355328 := Nat.le_trans (Nat.le_mul_of_pos_right _ hb0) hl
 rw [if_pos hw]
 obtain ⟨v1, w1, hr, hown, hg, _, hat⟩ := run_append_own_at (P := P) (W.alloc (.cells ys.toArray e)) base t o.type e i0 z size bytes ht hi hz0 hz1 hz2 hz hs0 v n xs (HO.alloc _) ⟨W.heap.size, 0, none⟩ 1 1 ys (by rw [hys]; simp)
   (by simpa using World.news_of_block (cs := ys.toArray) (t := e) (fr := (0, 0)) (heap_alloc_new W (.cells ys.toArray e))) h1 (by simp only [maxLen]; omega) hl (by simp; omega)
 unfold Oper.wp execOp
 simp only [ho, resolve, invoke, builtin, Sem.run_bind, Sem.run_pure, Result.andThen_ok, List.map_toArray, List.map_cons, List.map_nil, hs, hx, hr]
 refine h v1 w1 hown ((HB.alloc hbase _).grown hg (by simp; omega) (own_base HO)) (World.grownBy.trans (World.grownBy_alloc W _ _) hg) ?_
 rcases hat with hat | hat
 · exact .inl hat
 · exact .inr ⟨_, hat, by simp⟩
end
theorem own_weaken {w : World} {base base' : Nat} {e : TypeId} {size n : Nat} {v : Value} {xs : List Value} (h : w.ownsRow base e size v n xs) (hb : base' ≤ base) : w.ownsRow base' e size v n xs := by
 obtain ⟨h1, h2⟩ := h
 refine ⟨h1, ?_⟩
 rcases h2 with h2 | ⟨g, cap, cur, rfl, hg, r⟩
 · exact .inl h2
 · exact .inr ⟨g, cap, cur, rfl, Nat.le_trans hb hg, r⟩
section
variable {α : Type} {enc : α → Value} {d : α}
def ReadsOf (enc : α → Value) (d : α) (w : World) (A : Option Addr) (n : Nat) (xs : List α) : Prop :=
 xs.length = n ∧ n ≤ 9223372036854775807 ∧ (0 < n → ∃ ad, A = some ad ∧ ∀ j, j < n → w.cell? (ad.add j) = some (enc (xs.getD j d)))
theorem ReadsOf.below {w w1 : World} {A : Option Addr} {n : Nat} {xs : List α} (h : ReadsOf enc d w A n xs) (hb : Below w.heap.size w w1) : ReadsOf enc d w1 A n xs :=
 ⟨h.1, h.2.1, fun hn => by
  obtain ⟨ad, e, hc⟩ := h.2.2 hn
  exact ⟨ad, e, fun j hj => pw_cell_below hb (hc j hj)⟩⟩
theorem ReadsOf.take_ {w : World} {A : Option Addr} {n : Nat} {xs : List α} (h : ReadsOf enc d w A n xs) (i : Nat) (hi : i ≤ n) : ReadsOf enc d w A i (xs.take i) := by
 refine ⟨by rw [List.length_take, h.1]; omega, by have := h.2.1; omega, fun hp => ?_⟩
 obtain ⟨ad, e, hc⟩ := h.2.2 (by omega)
 refine ⟨ad, e, fun j hj => ?_⟩
 rw [hc j (by omega)]
 simp [List.getD_eq_getElem?_getD, hj]
end
section
variable {α : Type} {P : Program} {ops : Array Oper} {rest : List Oper} {o : Oper} {a : Act} {Q : Exit → Act → World → Prop}
end
theorem blk_alloc {w : World} {g : Nat} {o : Obj} (h : w.heap[g]? = some o) (o' : Obj) : (w.alloc o').heap[g]? = some o := (Below.heap_alloc w o' g (blk_lt h)).trans h
theorem blk_drew {w : World} {g : Nat} {o : Obj} (h : w.heap[g]? = some o) : w.drew.heap[g]? = some o := h
theorem blk_drewN {w : World} {g : Nat} {o : Obj} (h : w.heap[g]? = some o) (n : Nat) : (w.drewN n).heap[g]? = some o := h
theorem blk_below {w w1 : World} {g : Nat} {o : Obj} (h : w.heap[g]? = some o) (hb : Below w.heap.size w w1) : w1.heap[g]? = some o := (hb.block g (blk_lt h)).trans h
theorem blk_new (w : World) (o : Obj) : (w.alloc o).heap[w.heap.size]? = some o := heap_alloc_new w o
section
variable {P : Program}
end
theorem own_le {w : World} {base n m c size : Nat} {e : TypeId} {A : Option Addr} {xs : List Value} (h : w.ownsRow base e size (.slice A m c) n xs) : m ≤ c := by
 rcases h.2 with ⟨he, _⟩ | ⟨g, cap, cur, he, _, _, hnc, _⟩
 · injection he with _ h2 h3
   omega
 · injection he with _ h2 h3
   omega
def OwnRow {α : Type} (R : α → List Value → Prop) (e : TypeId) (size : Nat) (w : World) (base : Nat) (v : Value) (ps : List α) : Prop :=
 ∃ inner, w.ownsRow base e size v ps.length inner ∧ Reps R size ps inner
section
variable {α : Type} {R R' : α → List Value → Prop} {e : TypeId} {size : Nat} {w w1 : World} {base : Nat} {v : Value} {ps : List α}
theorem OwnRow.none_ (R : α → List Value → Prop) (e : TypeId) (size : Nat) (w : World) (base : Nat) : OwnRow R e size w base (.slice none 0 0) [] := ⟨[], own_nil _ _ _ _, Reps.none _ _⟩
theorem OwnRow.imp_ (h : OwnRow R e size w base v ps) (hR : ∀ p c, R p c → R' p c) : OwnRow R' e size w base v ps := by
 obtain ⟨inner, ho, hr⟩ := h
 exact ⟨inner, ho, hr.imp_ hR⟩
theorem OwnRow.below (h : OwnRow R e size w base v ps) (hb : Below w.heap.size w w1) : OwnRow R e size w1 base v ps := by
 obtain ⟨inner, ho, hr⟩ := h
 exact ⟨inner, pw_own_below ho hb, hr⟩
theorem OwnRow.other (h : OwnRow R e size w base v ps) {row : Option Nat} (hg : w.grownBy w1 row) (hne : v.ownBlock = none ∨ v.ownBlock ≠ row) : OwnRow R e size w1 base v ps := by
 obtain ⟨inner, ho, hr⟩ := h
 exact ⟨inner, own_other ho hg hne, hr⟩
theorem OwnRow.reads (h : OwnRow R e size w base v ps) : ∃ A c, v = .slice A ps.length c ∧ ps.length ≤ c ∧ ReadsRow R size w A ps.length ps := by
 obtain ⟨inner, ho, hr⟩ := h
 obtain ⟨A, c, rfl, hrow⟩ := own_reads_row ho hr rfl
 exact ⟨A, c, rfl, own_le ho, hrow⟩
theorem OwnRow.ne_block (h : OwnRow R e size w base v ps) {g : Nat} {t : TypeId} {cells : Array Value} (hb : w.heap[g]? = some (.cells cells t (0, 0))) (ht : e ≠ t) : some g ≠ v.ownBlock := by
 obtain ⟨inner, ho, hr⟩ := h
 exact own_ne ho hb ht
end
section
variable {P : Program} {ops : Array Oper} {rest : List Oper} {o : Oper} {a : Act} {Q : Exit → Act → World → Prop} {α : Type} {R : α → List Value → Prop}
/-- append(v, x): x's cells are cs. R is that of the world AHEAD; move it over hg ('OwnRow.imp_'). -/
theorem OwnRow.append {w0 W : World} (base : Nat) (hgd : o.guard = none) (s x : Operand) (t e : TypeId) (z : Value) (size bytes : Nat)
  (ho : o.op = .call { callee := .builtin .append, args := #[s, x], argTypes := #[t, t] })
  (ht : P.underlying t = some (.slice e)) (hinfo : (P.info? e).map (fun i => (i.zero, i.size, i.bytes)) = some (some z, size, bytes)) (hz : z.cells.size = size) (hs0 : 0 < size) (hb0 : 0 < bytes)
  (v : Value) (ps : List α) (p : α) (cs : List Value) (hs : a.eval s = v) (hx : a.eval x = .slice (some ⟨W.heap.size, 0, none⟩) 1 1) (hp : R p cs) (hcs : cs.length = size) (h1 : ∀ u ∈ cs, u.oneCell' = true)
  (HO : OwnRow R e size W base v ps) (HB : Below base w0 W) (hbase : base ≤ W.heap.size) (hl : (ps.length + 1) * bytes ≤ 140737488355328)
  (h : ∀ v1 w1, OwnRow R e size w1 base v1 (ps ++ [p]) → Below base w0 w1 → W.grownBy w1 v.ownBlock → (v1.ownBlock = v.ownBlock ∨ ∃ b, v1.ownBlock = some b ∧ W.heap.size ≤ b) → wpList P ops Q rest (a.put o.dst v1) w1) :
  wpList P ops Q (o :: rest) a (W.alloc (.cells cs.toArray e)) := by
 obtain ⟨inner, hown, hr⟩ := HO
 refine print_append_cells base hgd s x t e z size bytes ho ht hinfo hz hs0 hb0 v ps.length inner cs hs hx hcs h1 hown HB hbase hl ?_
 intro v1 w1 hown1 hb1 hg1 hat1
 exact h v1 w1 ⟨inner ++ cs, by rw [List.length_append, List.length_singleton]; exact hown1, hr.snoc hp hcs⟩ hb1 hg1 hat1
end
section
variable {P : Program} {ops : Array Oper} {o : Oper} {a : Act} {Q : Exit → Act → World → Prop} {K : Act → World → Prop} {α : Type} {R : α → List Value → Prop}
end
/-- What is read as_ a row has its cells one behind the other. -/
theorem ReadsRow.inner_ {α : Type} {R : α → List Value → Prop} {size : Nat} {w : World} {ad : Addr} {n : Nat} {ps : List α} (h : ReadsRow R size w (some ad) n ps) :
  ∃ inner, Reps R size ps inner ∧ ∀ j u, inner[j]? = some u → w.cell? (ad.add j) = some u := by
 have key : ∀ m, m ≤ ps.length → ∃ inner, Reps R size (ps.take m) inner ∧ ∀ j u, inner[j]? = some u → w.cell? (ad.add j) = some u := by
  intro m
  induction m with
  | zero => exact fun _ => ⟨[], Reps.none _ _, fun j u hu => by simp at hu⟩
  | succ m ih =>
   intro hm
   obtain ⟨inner, hr, hc⟩ := ih (by omega)
   obtain ⟨ad', he, hcell⟩ := h.2.2 (by have := h.1; omega)
   injection he with he
   subst he
   obtain ⟨c, hcl, hp, hcc⟩ := hcell m _ (List.getElem?_eq_getElem (show m < ps.length by omega))
   refine ⟨inner ++ c, ?_, fun j u hu => ?_⟩
   · rw [List.take_succ_eq_append_getElem (show m < ps.length by omega)]
     exact hr.snoc hp hcl
   · have hil : inner.length = m * size := by rw [hr.1, List.length_take, Nat.min_eq_left (by omega)]
     rcases Nat.lt_or_ge j inner.length with hj | hj
     · rw [List.getElem?_append_left hj] at hu
       exact hc j u hu
     · rw [List.getElem?_append_right hj] at hu
       have := hcc (j - inner.length) u hu
       rwa [hil, Nat.add_sub_cancel' (by omega)] at this
 obtain ⟨inner, hr, hc⟩ := key ps.length (Nat.le_refl _)
 rw [List.take_length] at hr
 exact ⟨inner, hr, hc⟩
section
variable {α : Type} {P : Program}
end
section
variable {P : Program} {ops : Array Oper} {rest : List Oper} {o : Oper} {a : Act} {Q : Exit → Act → World → Prop}
end
/-- ok: which blocks the rows inside may be ('not the row that is being written'). -/
structure Kd (α : Type) where
 sz : Nat
 E : List Nat
 K : World → α → List Value → Prop
 M : World → Nat → (Nat → Prop) → α → List Value → Prop
 K_len : ∀ {w x cs}, K w x cs → cs.length = sz
 K_one : ∀ {w x cs}, K w x cs → ∀ u ∈ cs, u.oneCell' = true
 K_below : ∀ {w w1 : World} {x cs}, Below w.heap.size w w1 → K w x cs → K w1 x cs
 K_of_M : ∀ {w base ok x cs}, M w base ok x cs → K w x cs
 M_mono : ∀ {w base ok ok' x cs}, (∀ k, ok k → ok' k) → M w base ok x cs → M w base ok' x cs
 M_bound : ∀ {w : World} {base ok x cs}, M w base ok x cs → M w base (fun k => ok k ∧ base ≤ k ∧ k < w.heap.size ∧ ∃ q, q ∈ E ∧ ∃ cells, w.heap[k]? = some (.cells cells q (0, 0))) x cs
 M_move : ∀ {w w1 : World} {base ok x cs}, (∀ k, ok k → w1.heap[k]? = w.heap[k]?) → M w base ok x cs → M w1 base ok x cs
 M_lower : ∀ {w base base' ok x cs}, base' ≤ base → M w base ok x cs → M w base' ok x cs
theorem own_move {w w1 : World} {base : Nat} {e : TypeId} {size n : Nat} {v : Value} {xs : List Value} (h : w.ownsRow base e size v n xs) (hm : ∀ k, v.ownBlock = some k → w1.heap[k]? = w.heap[k]?) : w1.ownsRow base e size v n xs := by
 obtain ⟨h1, h2⟩ := h
 refine ⟨h1, ?_⟩
 rcases h2 with h2 | ⟨g, cap, cur, rfl, hg, hh, r⟩
 · exact .inl h2
 · exact .inr ⟨g, cap, cur, rfl, hg, (hm g (by simp [Value.ownBlock])).trans hh, r⟩
theorem own_typed {w : World} {base : Nat} {e : TypeId} {size n : Nat} {v : Value} {xs : List Value} (h : w.ownsRow base e size v n xs) (k : Nat) (hk : v.ownBlock = some k) : ∃ cells, w.heap[k]? = some (.cells cells e (0, 0)) := by
 rcases h.2 with ⟨rfl, _⟩ | ⟨g, cap, cur, rfl, hg, hh, r⟩
 · simp [Value.ownBlock] at hk
 · have : g = k := by simpa [Value.ownBlock] using hk
   subst this
   exact ⟨cur, hh⟩
namespace Kd
/-- A row of elements that is read. -/
def C {α : Type} (d : Kd α) (w : World) (A : Option Addr) (n : Nat) (xs : List α) : Prop := ReadsRow (d.K w) d.sz w A n xs
/-- A row of elements (type e) of the call's own; the elements' rows are not this one. -/
def R {α : Type} (d : Kd α) (e : Nat) (w : World) (base : Nat) (ok : Nat → Prop) (v : Value) (xs : List α) : Prop :=
 (∀ k, v.ownBlock = some k → ok k) ∧ OwnRow (d.M w base (fun k => ok k ∧ some k ≠ v.ownBlock)) e d.sz w base v xs
section
variable {α : Type} {d : Kd α} {e : Nat} {w w1 : World} {base : Nat} {ok ok' : Nat → Prop} {v : Value} {xs : List α}
theorem C_below {A : Option Addr} {n : Nat} (h : d.C w A n xs) (hb : Below w.heap.size w w1) : d.C w1 A n xs := ReadsRow.imp_ h hb (fun _ _ hp => d.K_below hb hp)
theorem R_nil (d : Kd α) (e : Nat) (w : World) (base : Nat) (ok : Nat → Prop) : d.R e w base ok (.slice none 0 0) [] := ⟨fun k hk => by simp [Value.ownBlock] at hk, OwnRow.none_ _ _ _ _ _⟩
theorem R_mono (h : d.R e w base ok v xs) (hok : ∀ k, ok k → ok' k) : d.R e w base ok' v xs := ⟨fun k hk => hok k (h.1 k hk), h.2.imp_ (fun _ _ hp => d.M_mono (fun k hk => ⟨hok k hk.1, hk.2⟩) hp)⟩
theorem R_bound (h : d.R e w base ok v xs) : d.R e w base (fun k => ok k ∧ base ≤ k ∧ k < w.heap.size ∧ ∃ q, q ∈ e :: d.E ∧ ∃ cells, w.heap[k]? = some (.cells cells q (0, 0))) v xs := by
 obtain ⟨h0, inner, ho, hr⟩ := h
 refine ⟨fun k hk => ?_, inner, ho, hr.imp_ (fun _ _ hp => d.M_mono (fun k hk => ?_) (d.M_bound hp))⟩
 · obtain ⟨cells, hc⟩ := own_typed ho k hk
   exact ⟨h0 k hk, own_base ho k hk, own_lt ho k hk, e, List.mem_cons_self, cells, hc⟩
 · obtain ⟨⟨h1, h2⟩, h3, h4, q, hq, hc⟩ := hk
   exact ⟨⟨h1, h3, h4, q, List.mem_cons_of_mem _ hq, hc⟩, h2⟩
theorem R_move (h : d.R e w base ok v xs) (hm : ∀ k, ok k → w1.heap[k]? = w.heap[k]?) : d.R e w1 base ok v xs := by
 obtain ⟨h0, inner, ho, hr⟩ := h
 exact ⟨h0, inner, own_move ho (fun k hk => hm k (h0 k hk)), hr.imp_ (fun _ _ hp => d.M_move (fun k hk => hm k hk.1) hp)⟩
theorem R_lower {base' : Nat} (h : d.R e w base ok v xs) (hb : base' ≤ base) : d.R e w base' ok v xs := by
 obtain ⟨h0, inner, ho, hr⟩ := h
 exact ⟨h0, inner, own_weaken ho hb, hr.imp_ (fun _ _ hp => d.M_lower hb hp)⟩
/-- Any mover: what is ok, and a block of w's, stays. -/
theorem R_step (h : d.R e w base ok v xs) (hm : ∀ k, ok k → k < w.heap.size → w1.heap[k]? = w.heap[k]?) : d.R e w1 base ok v xs :=
 R_mono (R_move (R_bound h) (fun k hk => hm k hk.1 hk.2.2.1)) (fun _ hk => hk.1)
theorem M_step {x : α} {cs : List Value} (h : d.M w base ok x cs) (hm : ∀ k, ok k → k < w.heap.size → w1.heap[k]? = w.heap[k]?) : d.M w1 base ok x cs :=
 d.M_mono (fun _ hk => hk.1) (d.M_move (fun k hk => hm k hk.1 hk.2.2.1) (d.M_bound h))
theorem R_below (h : d.R e w base ok v xs) (hb : Below w.heap.size w w1) : d.R e w1 base ok v xs := R_step h (fun k _ hk => hb.block k hk)
theorem M_below {x : α} {cs : List Value} (h : d.M w base ok x cs) (hb : Below w.heap.size w w1) : d.M w1 base ok x cs := M_step h (fun k _ hk => hb.block k hk)
/-- A store into another block. -/
theorem R_far (h : d.R e w base ok v xs) {p : Addr} (hok : ∀ k, ok k → k ≠ p.block) (u : Value) : d.R e (w.setCell p u) base ok v xs := R_step h (fun k ho _ => Below.heap_setCell w p u k (hok k ho))
theorem M_far {x : α} {cs : List Value} (h : d.M w base ok x cs) {p : Addr} (hok : ∀ k, ok k → k ≠ p.block) (u : Value) : d.M (w.setCell p u) base ok x cs := M_step h (fun k ho _ => Below.heap_setCell w p u k (hok k ho))
/-- By types alone: the rows inside are none of a block of type t. -/
theorem R_types (h : d.R e w base ok v xs) {g t : Nat} {cells : Array Value} (hb : w.heap[g]? = some (.cells cells t (0, 0))) (ht : ∀ q, q ∈ e :: d.E → q ≠ t) : d.R e w base (fun k => ok k ∧ k ≠ g) v xs :=
 R_mono (R_bound h) (fun k hk => ⟨hk.1, by
  obtain ⟨_, _, _, q, hq, cells', hc⟩ := hk
  rintro rfl
  rw [hc] at hb
  injection hb with hb
  injection hb with _ hb
  exact ht q hq hb⟩)
theorem R_reads (h : d.R e w base ok v xs) : ∃ A c, v = .slice A xs.length c ∧ xs.length ≤ c ∧ d.C w A xs.length xs := by
 obtain ⟨A, c, he, hl, hr⟩ := OwnRow.reads h.2
 exact ⟨A, c, he, hl, hr.imp_ (Below.refl _ _) (fun _ _ hp => d.K_of_M hp)⟩
theorem R_slice (h : d.R e w base ok v xs) : ∃ A c, v = .slice A xs.length c := by
 obtain ⟨A, c, he, _⟩ := R_reads h
 exact ⟨A, c, he⟩
theorem R_own (h : d.R e w base ok v xs) : ∃ inner, w.ownsRow base e d.sz v xs.length inner := by
 obtain ⟨_, inner, ho, _⟩ := h
 exact ⟨inner, ho⟩
theorem R_ne (h : d.R e w base ok v xs) {g t : Nat} {cells : Array Value} (hb : w.heap[g]? = some (.cells cells t (0, 0))) (ht : e ≠ t) : some g ≠ v.ownBlock := OwnRow.ne_block h.2 hb ht
end
def scalar {α : Type} (enc : α → Value) (h1 : ∀ x, (enc x).oneCell' = true) : Kd α where
 sz := 1
 E := []
 K := fun _ x cs => cs = [enc x]
 M := fun _ _ _ x cs => cs = [enc x]
 K_len := fun h => by rw [h]; rfl
 K_one := fun h u hu => by
  rw [h] at hu
  rw [List.mem_singleton.1 hu]
  exact h1 _
 K_below := fun _ h => h
 K_of_M := fun h => h
 M_mono := fun _ h => h
 M_bound := fun h => h
 M_move := fun _ h => h
 M_lower := fun _ h => h
def int (k : IntKind) : Kd Int := scalar (Value.int k) (fun _ => rfl)
def bool : Kd Bool := scalar Value.bool (fun _ => rfl)
def string : Kd ByteArray := scalar Value.string (fun _ => rfl)
def slice {α : Type} (e : Nat) (d : Kd α) : Kd (List α) where
 sz := 1
 E := e :: d.E
 K := fun w xs cs => ∃ A c, cs = [.slice A xs.length c] ∧ xs.length ≤ c ∧ d.C w A xs.length xs
 M := fun w base ok xs cs => ∃ v, cs = [v] ∧ d.R e w base ok v xs
 K_len := by
  rintro w x cs ⟨A, c, rfl, _⟩
  rfl
 K_one := by
  rintro w x cs ⟨A, c, rfl, _⟩ u hu
  rw [List.mem_singleton.1 hu]
  rfl
 K_below := by
  rintro w w1 x cs hb ⟨A, c, rfl, hl, hr⟩
  exact ⟨A, c, rfl, hl, C_below hr hb⟩
 K_of_M := by
  rintro w base ok x cs ⟨v, rfl, h⟩
  obtain ⟨A, c, rfl, hl, hr⟩ := R_reads h
  exact ⟨A, c, rfl, hl, hr⟩
 M_mono := by
  rintro w base ok ok' x cs hok ⟨v, rfl, h⟩
  exact ⟨v, rfl, R_mono h hok⟩
 M_bound := by
  rintro w base ok x cs ⟨v, rfl, h⟩
  exact ⟨v, rfl, R_bound h⟩
 M_move := by
  rintro w w1 base ok x cs hm ⟨v, rfl, h⟩
  exact ⟨v, rfl, R_move h hm⟩
 M_lower := by
  rintro w base base' ok x cs hb ⟨v, rfl, h⟩
  exact ⟨v, rfl, R_lower h hb⟩
/-- Two in line. -/
def pair {α β : Type} (a : Kd α) (b : Kd β) : Kd (α × β) where
 sz := a.sz + b.sz
 E := a.E ++ b.E
 K := fun w x cs => ∃ c0 c1, cs = c0 ++ c1 ∧ a.K w x.1 c0 ∧ b.K w x.2 c1
 M := fun w base ok x cs => ∃ c0 c1, cs = c0 ++ c1 ∧ a.M w base ok x.1 c0 ∧ b.M w base ok x.2 c1
 K_len := by
  rintro w x cs ⟨c0, c1, rfl, h0, h1⟩
  rw [List.length_append, a.K_len h0, b.K_len h1]
 K_one := by
  rintro w x cs ⟨c0, c1, rfl, h0, h1⟩ u hu
  rcases List.mem_append.1 hu with hu | hu
  · exact a.K_one h0 u hu
  · exact b.K_one h1 u hu
 K_below := by
  rintro w w1 x cs hb ⟨c0, c1, rfl, h0, h1⟩
  exact ⟨c0, c1, rfl, a.K_below hb h0, b.K_below hb h1⟩
 K_of_M := by
  rintro w base ok x cs ⟨c0, c1, rfl, h0, h1⟩
  exact ⟨c0, c1, rfl, a.K_of_M h0, b.K_of_M h1⟩
 M_mono := by
  rintro w base ok ok' x cs hok ⟨c0, c1, rfl, h0, h1⟩
  exact ⟨c0, c1, rfl, a.M_mono hok h0, b.M_mono hok h1⟩
 M_bound := by
  rintro w base ok x cs ⟨c0, c1, rfl, h0, h1⟩
  refine ⟨c0, c1, rfl, a.M_mono ?_ (a.M_bound h0), b.M_mono ?_ (b.M_bound h1)⟩
  · rintro k ⟨h2, h3, h4, q, hq, hc⟩
    exact ⟨h2, h3, h4, q, List.mem_append_left _ hq, hc⟩
  · rintro k ⟨h2, h3, h4, q, hq, hc⟩
    exact ⟨h2, h3, h4, q, List.mem_append_right _ hq, hc⟩
 M_move := by
  rintro w w1 base ok x cs hm ⟨c0, c1, rfl, h0, h1⟩
  exact ⟨c0, c1, rfl, a.M_move hm h0, b.M_move hm h1⟩
 M_lower := by
  rintro w base base' ok x cs hb ⟨c0, c1, rfl, h0, h1⟩
  exact ⟨c0, c1, rfl, a.M_lower hb h0, b.M_lower hb h1⟩
/-- A Lean structure by its fields. -/
def iso {α β : Type} (d : Kd α) (f : β → α) : Kd β where
 sz := d.sz
 E := d.E
 K := fun w x cs => d.K w (f x) cs
 M := fun w base ok x cs => d.M w base ok (f x) cs
 K_len := d.K_len
 K_one := d.K_one
 K_below := d.K_below
 K_of_M := d.K_of_M
 M_mono := d.M_mono
 M_bound := d.M_bound
 M_move := d.M_move
 M_lower := d.M_lower
/-- Nothing is of this kind: where the nesting's depth is used up. -/
def bot {α : Type} (sz : Nat) (E : List Nat) : Kd α where
 sz := sz
 E := E
 K := fun _ _ _ => False
 M := fun _ _ _ _ _ => False
 K_len := fun h => h.elim
 K_one := fun h => h.elim
 K_below := fun _ h => h
 K_of_M := fun h => h
 M_mono := fun _ h => h
 M_bound := fun h => h
 M_move := fun _ h => h
 M_lower := fun _ h => h
/-- A type nested in itself: nested at most n deep .. -/
def upto {α : Type} (F : Kd α → Kd α) (sz : Nat) (E : List Nat) : Nat → Kd α
 | 0 => bot sz E
 | n + 1 => F (upto F sz E n)
/-- .. for some n. -/
def fix {α : Type} (F : Kd α → Kd α) (sz : Nat) (E : List Nat) (hs : ∀ n, (upto F sz E n).sz = sz) (hE : ∀ n q, q ∈ (upto F sz E n).E → q ∈ E) : Kd α where
 sz := sz
 E := E
 K := fun w x cs => ∃ n, (upto F sz E n).K w x cs
 M := fun w base ok x cs => ∃ n, (upto F sz E n).M w base ok x cs
 K_len := by
  rintro w x cs ⟨n, h⟩
  rw [(upto F sz E n).K_len h, hs n]
 K_one := by
  rintro w x cs ⟨n, h⟩
  exact (upto F sz E n).K_one h
 K_below := by
  rintro w w1 x cs hb ⟨n, h⟩
  exact ⟨n, (upto F sz E n).K_below hb h⟩
 K_of_M := by
  rintro w base ok x cs ⟨n, h⟩
  exact ⟨n, (upto F sz E n).K_of_M h⟩
 M_mono := by
  rintro w base ok ok' x cs hok ⟨n, h⟩
  exact ⟨n, (upto F sz E n).M_mono hok h⟩
 M_bound := by
  rintro w base ok x cs ⟨n, h⟩
  refine ⟨n, (upto F sz E n).M_mono ?_ ((upto F sz E n).M_bound h)⟩
  rintro k ⟨h2, h3, h4, q, hq, hc⟩
  exact ⟨h2, h3, h4, q, hE n q hq, hc⟩
 M_move := by
  rintro w w1 base ok x cs hm ⟨n, h⟩
  exact ⟨n, (upto F sz E n).M_move hm h⟩
 M_lower := by
  rintro w base base' ok x cs hb ⟨n, h⟩
  exact ⟨n, (upto F sz E n).M_lower hb h⟩
theorem C_get {α : Type} {d : Kd α} {w : World} {A : Option Addr} {n : Nat} {xs : List α} (h : d.C w A n xs) (z : α) (i : Int) (h0 : 0 ≤ i) (h1 : i < n) :
 ∃ ad c, A = some ad ∧ c.length = d.sz ∧ d.K w (xs.getD i.toNat z) c ∧ ∀ j u, c[j]? = some u → w.cell? (ad.add (i.toNat * d.sz + j)) = some u := ReadsRow.get_ h z i h0 h1
/-- What an append leaves: the old elements' rows and the new one's are not the new row's block. -/
theorem R_appended {α : Type} {d : Kd α} {e base : Nat} {ok okp : Nat → Prop} {W w1 : World} {v v1 : Value} {xs : List α} {p : α} {inner cs : List Value} (h0 : ∀ k, v.ownBlock = some k → ok k) (hr : Reps (d.M W base (fun k => ok k ∧ some k ≠ v.ownBlock)) d.sz xs inner) (hp : d.M W base okp p cs) (hokp : ∀ k, okp k → ok k ∧ some k ≠ v.ownBlock) (hfresh : ∀ k, W.heap.size ≤ k → ok k)
   (hown : w1.ownsRow base e d.sz v1 (xs.length + 1) (inner ++ cs)) (hg : W.grownBy w1 v.ownBlock) (hat : v1.ownBlock = v.ownBlock ∨ ∃ b, v1.ownBlock = some b ∧ W.heap.size ≤ b) : d.R e w1 base ok v1 (xs ++ [p]) := by
 have hne : ∀ k, some k ≠ v.ownBlock → k < W.heap.size → some k ≠ v1.ownBlock := by
   intro k hk hlt
   rcases hat with hat | ⟨b, hb, hle⟩
   · rw [hat]; exact hk
   · rw [hb]
     intro he
     injection he with he
     omega
 have step : ∀ {q : α} {c : List Value} {o : Nat → Prop}, d.M W base o q c → (∀ k, o k → ok k ∧ some k ≠ v.ownBlock) → d.M w1 base (fun k => ok k ∧ some k ≠ v1.ownBlock) q c := by
   intro q c o hq ho
   have h1 := d.M_move (w1 := w1) (fun k hk => hg.block k hk.2.2.1 (ho k hk.1).2) (d.M_bound hq)
   exact d.M_mono (fun k hk => ⟨(ho k hk.1).1, hne k (ho k hk.1).2 hk.2.2.1⟩) h1
 refine ⟨fun k hk => ?_, inner ++ cs, by rw [List.length_append, List.length_singleton]; exact hown, ?_⟩
 · rcases hat with hat | ⟨b, hb, hle⟩
   · exact h0 k (hat ▸ hk)
   · rw [hb] at hk
     injection hk with hk
     exact hfresh k (by omega)
 · exact (hr.imp_ (fun _ _ hq => step hq (fun _ hk => hk))).snoc (step hp hokp) (d.K_len (d.K_of_M hp))
section
variable {P : Program} {ops : Array Oper} {rest : List Oper} {o : Oper} {a : Act} {Q : Exit → Act → World → Prop} {α : Type}
/-- append(v, x), behind 'at_builtin'; the goal's world is 'W.alloc' of the variadic's box; x's cells are cs, made (its rows satisfy okp). hfresh: a block that is new at W is ok. -/
theorem R_append (d : Kd α) {w0 W : World} (base : Nat) (hgd : o.guard = none) (s x : Operand) (t e : TypeId) (z : Value) (bytes : Nat)
  (ho : o.op = .call { callee := .builtin .append, args := #[s, x], argTypes := #[t, t] })
  (ht : P.underlying t = some (.slice e)) (hinfo : (P.info? e).map (fun i => (i.zero, i.size, i.bytes)) = some (some z, d.sz, bytes)) (hz : z.cells.size = d.sz) (hs0 : 0 < d.sz) (hb0 : 0 < bytes)
  (v : Value) (xs : List α) (p : α) (cs : List Value) (ok okp : Nat → Prop) (hs : a.eval s = v) (hx : a.eval x = .slice (some ⟨W.heap.size, 0, none⟩) 1 1) (hp : d.M W base okp p cs) (hokp : ∀ k, okp k → ok k ∧ some k ≠ v.ownBlock) (hfresh : ∀ k, W.heap.size ≤ k → ok k)
  (HO : d.R e W base ok v xs) (HB : Below base w0 W) (hbase : base ≤ W.heap.size) (hl : (xs.length + 1) * bytes ≤ 140737488355328)
  (h : ∀ v1 w1, d.R e w1 base ok v1 (xs ++ [p]) → Below base w0 w1 → W.grownBy w1 v.ownBlock → (v1.ownBlock = v.ownBlock ∨ ∃ b, v1.ownBlock = some b ∧ W.heap.size ≤ b) → wpList P ops Q rest (a.put o.dst v1) w1) :
  wpList P ops Q (o :: rest) a (W.alloc (.cells cs.toArray e)) := by
 obtain ⟨h0, inner, hown, hr⟩ := HO
 refine print_append_cells base hgd s x t e z d.sz bytes ho ht hinfo hz hs0 hb0 v xs.length inner cs hs hx (d.K_len (d.K_of_M hp)) (d.K_one (d.K_of_M hp)) hown HB hbase hl ?_
 intro v1 w1 hown1 hb1 hg1 hat1
 exact h v1 w1 (R_appended h0 hr hp hokp hfresh hown1 hg1 hat1) hb1 hg1 hat1
end
section
variable {P : Program} {ops : Array Oper} {o : Oper} {a : Act} {Q : Exit → Act → World → Prop} {Kc : Act → World → Prop} {α : Type}
theorem R_append_step (d : Kd α) {w0 W : World} (base : Nat) (hw : Region.wanted o (yielded ops a.tmps) = true) (s x : Operand) (t e : TypeId) (z : Value) (bytes : Nat)
  (ho : o.op = .call { callee := .builtin .append, args := #[s, x], argTypes := #[t, t] })
  (ht : P.underlying t = some (.slice e)) (hinfo : (P.info? e).map (fun i => (i.zero, i.size, i.bytes)) = some (some z, d.sz, bytes)) (hz : z.cells.size = d.sz) (hs0 : 0 < d.sz) (hb0 : 0 < bytes)
  (v : Value) (xs : List α) (p : α) (cs : List Value) (ok okp : Nat → Prop) (hs : a.eval s = v) (hx : a.eval x = .slice (some ⟨W.heap.size, 0, none⟩) 1 1) (hp : d.M W base okp p cs) (hokp : ∀ k, okp k → ok k ∧ some k ≠ v.ownBlock) (hfresh : ∀ k, W.heap.size ≤ k → ok k)
  (HO : d.R e W base ok v xs) (HB : Below base w0 W) (hbase : base ≤ W.heap.size) (hl : (xs.length + 1) * bytes ≤ 140737488355328)
  (h : ∀ v1 w1, d.R e w1 base ok v1 (xs ++ [p]) → Below base w0 w1 → W.grownBy w1 v.ownBlock → (v1.ownBlock = v.ownBlock ∨ ∃ b, v1.ownBlock = some b ∧ W.heap.size ≤ b) → Kc (a.put o.dst v1) w1) :
  if Region.wanted o (yielded ops a.tmps) = true then Oper.wp P o a (W.alloc (.cells cs.toArray e)) Kc Q else Kc (a.put o.dst undef) (W.alloc (.cells cs.toArray e)) := by
 obtain ⟨h0, inner, hown, hr⟩ := HO
 refine step_append_cells base hw s x t e z d.sz bytes ho ht hinfo hz hs0 hb0 v xs.length inner cs hs hx (d.K_len (d.K_of_M hp)) (d.K_one (d.K_of_M hp)) hown HB hbase hl ?_
 intro v1 w1 hown1 hb1 hg1 hat1
 exact h v1 w1 (R_appended h0 hr hp hokp hfresh hown1 hg1 hat1) hb1 hg1 hat1
end
end Kd
namespace Kd
/-- F says the more, the more its argument says. -/
structure Mono {α β : Type} (F : Kd α → Kd β) : Prop where
 sz : ∀ d d' : Kd α, d.sz = d'.sz → (F d).sz = (F d').sz
 K : ∀ d d' : Kd α, d.sz = d'.sz → (∀ w x cs, d.K w x cs → d'.K w x cs) → ∀ w x cs, (F d).K w x cs → (F d').K w x cs
 M : ∀ d d' : Kd α, d.sz = d'.sz → (∀ w base ok x cs, d.M w base ok x cs → d'.M w base ok x cs) → ∀ w base ok x cs, (F d).M w base ok x cs → (F d').M w base ok x cs
theorem mono_const {α β : Type} (k : Kd β) : Mono (fun _ : Kd α => k) := ⟨fun _ _ _ => rfl, fun _ _ _ _ _ _ _ h => h, fun _ _ _ _ _ _ _ _ _ h => h⟩
theorem mono_id {α : Type} : Mono (fun d : Kd α => d) := ⟨fun _ _ h => h, fun _ _ _ h => h, fun _ _ _ h => h⟩
theorem C_imp {α : Type} {d d' : Kd α} (hs : d.sz = d'.sz) (h : ∀ w x cs, d.K w x cs → d'.K w x cs) {w : World} {A : Option Addr} {n : Nat} {xs : List α} (hc : d.C w A n xs) : d'.C w A n xs := by
 unfold C at hc ⊢
 rw [← hs]
 exact hc.imp_ (Below.refl _ _) (fun _ _ hp => h _ _ _ hp)
theorem R_imp {α : Type} {d d' : Kd α} (hs : d.sz = d'.sz) (h : ∀ w base ok x cs, d.M w base ok x cs → d'.M w base ok x cs) {e : Nat} {w : World} {base : Nat} {ok : Nat → Prop} {v : Value} {xs : List α} (hr : d.R e w base ok v xs) : d'.R e w base ok v xs := by
 unfold R at hr ⊢
 rw [← hs]
 exact ⟨hr.1, hr.2.imp_ (fun _ _ hp => h _ _ _ _ _ hp)⟩
theorem mono_slice {α β : Type} (e : Nat) {G : Kd α → Kd β} (hG : Mono G) : Mono (fun d => slice e (G d)) := by
 refine ⟨fun _ _ _ => rfl, ?_, ?_⟩
 · rintro d d' hs h w x cs ⟨A, c, rfl, hl, hr⟩
   exact ⟨A, c, rfl, hl, C_imp (hG.sz d d' hs) (hG.K d d' hs h) hr⟩
 · rintro d d' hs h w base ok x cs ⟨v, rfl, hr⟩
   exact ⟨v, rfl, R_imp (hG.sz d d' hs) (hG.M d d' hs h) hr⟩
theorem mono_pair {α β γ : Type} {G : Kd α → Kd β} {H : Kd α → Kd γ} (hG : Mono G) (hH : Mono H) : Mono (fun d => pair (G d) (H d)) := by
 refine ⟨fun d d' hs => ?_, ?_, ?_⟩
 · show (G d).sz + (H d).sz = (G d').sz + (H d').sz
   rw [hG.sz d d' hs, hH.sz d d' hs]
 · rintro d d' hs h w x cs ⟨c0, c1, rfl, h0, h1⟩
   exact ⟨c0, c1, rfl, hG.K d d' hs h _ _ _ h0, hH.K d d' hs h _ _ _ h1⟩
 · rintro d d' hs h w base ok x cs ⟨c0, c1, rfl, h0, h1⟩
   exact ⟨c0, c1, rfl, hG.M d d' hs h _ _ _ _ _ h0, hH.M d d' hs h _ _ _ _ _ h1⟩
theorem mono_iso {α β γ : Type} {G : Kd α → Kd β} (f : γ → β) (hG : Mono G) : Mono (fun d => iso (G d) f) :=
 ⟨hG.sz, fun d d' hs h w x cs => hG.K d d' hs h w (f x) cs, fun d d' hs h w base ok x cs => hG.M d d' hs h w base ok (f x) cs⟩
/-- The element types inside stay among E. -/
def Sub {α β : Type} (F : Kd α → Kd β) (E : List Nat) : Prop := ∀ d : Kd α, (∀ q, q ∈ d.E → q ∈ E) → ∀ q, q ∈ (F d).E → q ∈ E
theorem sub_const {α β : Type} {E : List Nat} (k : Kd β) (h : ∀ q, q ∈ k.E → q ∈ E) : Sub (fun _ : Kd α => k) E := fun _ _ => h
theorem sub_id {α : Type} {E : List Nat} : Sub (fun d : Kd α => d) E := fun _ h => h
theorem sub_slice {α β : Type} {E : List Nat} (e : Nat) {G : Kd α → Kd β} (he : e ∈ E) (hG : Sub G E) : Sub (fun d => slice e (G d)) E := fun d h q hq => by
 rcases List.mem_cons.1 hq with rfl | hq
 · exact he
 · exact hG d h q hq
theorem sub_pair {α β γ : Type} {E : List Nat} {G : Kd α → Kd β} {H : Kd α → Kd γ} (hG : Sub G E) (hH : Sub H E) : Sub (fun d => pair (G d) (H d)) E := fun d h q hq => by
 rcases List.mem_append.1 hq with hq | hq
 · exact hG d h q hq
 · exact hH d h q hq
theorem sub_iso {α β γ : Type} {E : List Nat} {G : Kd α → Kd β} (f : γ → β) (hG : Sub G E) : Sub (fun d => iso (G d) f) E := hG
theorem upto_E {α : Type} {F : Kd α → Kd α} {sz : Nat} {E : List Nat} (h : Sub F E) : ∀ n q, q ∈ (upto F sz E n).E → q ∈ E
 | 0, _, hq => hq
 | n + 1, q, hq => h _ (upto_E h n) q hq
theorem upto_sz {α : Type} {F : Kd α → Kd α} {sz : Nat} {E : List Nat} (h : ∀ d : Kd α, (F d).sz = sz) : ∀ n, (upto F sz E n).sz = sz
 | 0 => rfl
 | _ + 1 => h _
section
variable {α : Type} {F : Kd α → Kd α} {sz : Nat} {E : List Nat} {hs : ∀ n, (upto F sz E n).sz = sz} {hE : ∀ n q, q ∈ (upto F sz E n).E → q ∈ E}
theorem upto_K (hm : Mono F) (hs : ∀ n, (upto F sz E n).sz = sz) : ∀ n {w x cs}, (upto F sz E n).K w x cs → (upto F sz E (n + 1)).K w x cs
 | 0, _, _, _, h => h.elim
 | n + 1, _, _, _, h => hm.K _ _ (by rw [hs n, hs (n + 1)]) (fun _ _ _ hk => upto_K hm hs n hk) _ _ _ h
theorem upto_M (hm : Mono F) (hs : ∀ n, (upto F sz E n).sz = sz) : ∀ n {w base ok x cs}, (upto F sz E n).M w base ok x cs → (upto F sz E (n + 1)).M w base ok x cs
 | 0, _, _, _, _, _, h => h.elim
 | n + 1, _, _, _, _, _, h => hm.M _ _ (by rw [hs n, hs (n + 1)]) (fun _ _ _ _ _ hk => upto_M hm hs n hk) _ _ _ _ _ h
theorem upto_K_le (hm : Mono F) (hs : ∀ n, (upto F sz E n).sz = sz) {n m : Nat} (hnm : n ≤ m) {w x cs} (h : (upto F sz E n).K w x cs) : (upto F sz E m).K w x cs := by
 obtain ⟨j, rfl⟩ := Nat.exists_eq_add_of_le hnm
 induction j with
 | zero => exact h
 | succ j ih => exact upto_K hm hs _ (ih (by omega))
theorem upto_M_le (hm : Mono F) (hs : ∀ n, (upto F sz E n).sz = sz) {n m : Nat} (hnm : n ≤ m) {w base ok x cs} (h : (upto F sz E n).M w base ok x cs) : (upto F sz E m).M w base ok x cs := by
 obtain ⟨j, rfl⟩ := Nat.exists_eq_add_of_le hnm
 induction j with
 | zero => exact h
 | succ j ih => exact upto_M hm hs _ (ih (by omega))
theorem bounded {P : Nat → Nat → Prop} (hP : ∀ n m j, n ≤ m → P n j → P m j) : ∀ m, (∀ j, j < m → ∃ n, P n j) → ∃ N, ∀ j, j < m → P N j
 | 0, _ => ⟨0, fun j hj => absurd hj (Nat.not_lt_zero j)⟩
 | m + 1, h => by
  obtain ⟨N, hN⟩ := bounded hP m (fun j hj => h j (by omega))
  obtain ⟨n, hn⟩ := h m (by omega)
  refine ⟨max N n, fun j hj => ?_⟩
  rcases Nat.lt_or_ge j m with hj' | hj'
  · exact hP N _ j (Nat.le_max_left _ _) (hN j hj')
  · have : j = m := by omega
    subst this
    exact hP n _ j (Nat.le_max_right _ _) hn
theorem reps_bounded {α : Type} {R : Nat → α → List Value → Prop} (hR : ∀ n m p c, n ≤ m → R n p c → R m p c) {size : Nat} {ps : List α} {cs : List Value} (h : Reps (fun p c => ∃ n, R n p c) size ps cs) : ∃ N, Reps (R N) size ps cs := by
 obtain ⟨N, hN⟩ := bounded (P := fun n j => ∀ p, ps[j]? = some p → R n p ((cs.drop (j * size)).take size)) (fun n m j hnm hp p hj => hR n m p _ hnm (hp p hj)) ps.length
  (fun j hj => by
   obtain ⟨n, hn⟩ := h.2 j _ (List.getElem?_eq_getElem hj)
   refine ⟨n, fun p hp => ?_⟩
   rw [List.getElem?_eq_getElem hj] at hp
   injection hp with hp
   rw [← hp]
   exact hn)
 exact ⟨N, h.1, fun j p hj => hN j (List.getElem?_eq_some_iff.1 hj).1 p hj⟩
end
end Kd
namespace Kd
/-- Behind an append to v (it left v1): what is held apart from v is held apart from v1. -/
theorem R_after {α : Type} {d : Kd α} {e base : Nat} {ok : Nat → Prop} {W w1 : World} {u v v1 : Value} {xs : List α} (h : d.R e W base (fun k => ok k ∧ some k ≠ v.ownBlock) u xs) (hg : W.grownBy w1 v.ownBlock) (hat : v1.ownBlock = v.ownBlock ∨ ∃ b, v1.ownBlock = some b ∧ W.heap.size ≤ b) : d.R e w1 base (fun k => ok k ∧ some k ≠ v1.ownBlock) u xs := by
 refine R_mono (R_move (R_bound h) (fun k hk => hg.block k hk.2.2.1 hk.1.2)) (fun k hk => ⟨hk.1.1, ?_⟩)
 rcases hat with hat | ⟨b, hb, hle⟩
 · rw [hat]; exact hk.1.2
 · rw [hb]
   intro he
   injection he with he
   have := hk.2.2.1
   omega
end Kd
namespace Kd
section
variable {α β : Type} {d : Kd α} {d' : Kd β} {e e' : Nat} {w w1 W : World} {base b b' : Nat} {ok ok' okv oku : Nat → Prop} {v u : Value} {xs : List α} {ys : List β}
theorem R_drew (h : d.R e w base ok v xs) : d.R e w.drew base ok v xs := R_below h (below_drew (Below.refl _ _))
theorem C_nil (d : Kd α) (w : World) : d.C w none ([] : List α).length [] := ⟨rfl, by simp, fun h => absurd h (Nat.lt_irrefl 0)⟩
theorem C_max {A : Option Addr} {n : Nat} (h : d.C w A n xs) : n ≤ 9223372036854775807 := h.2.1
theorem R_reads' {A : Option Addr} {n c : Nat} (h : d.R e w base ok (.slice A n c) xs) : n = xs.length ∧ n ≤ c ∧ d.C w A xs.length xs := by
 obtain ⟨A', c', he, hl, hr⟩ := R_reads h
 injection he with h1 h2 h3
 subst h1
 exact ⟨h2, by omega, hr⟩
theorem R_lt (h : d.R e w base ok v xs) : ∀ k, v.ownBlock = some k → k < w.heap.size := by
 obtain ⟨inner, ho⟩ := R_own h
 exact own_lt ho
theorem R_base (h : d.R e w base ok v xs) : ∀ k, v.ownBlock = some k → base ≤ k := by
 obtain ⟨inner, ho⟩ := R_own h
 exact own_base ho
/-- The row's own block is no block that isn't ok. -/
theorem R_away (h : d.R e w base ok v xs) {g : Nat} (hok : ∀ k, ok k → k ≠ g) : some g ≠ v.ownBlock := fun e => hok g (h.1 g e.symm) rfl
theorem R_form (h : d.R e w base ok v xs) (hp : 0 < xs.length) : ∃ g cap, v = .slice (some ⟨g, 0, none⟩) xs.length cap ∧ base ≤ g ∧ g < w.heap.size ∧ ∃ cells, w.heap[g]? = some (.cells cells e (0, 0)) := by
 obtain ⟨inner, ho⟩ := R_own h
 obtain ⟨g, cap, he, hb, hl⟩ := ho.form hp
 obtain ⟨cells, hc⟩ := own_typed ho g (by rw [he]; simp [Value.ownBlock])
 exact ⟨g, cap, he, hb, hl, cells, hc⟩
end
section
variable {w W : World} {A : Option Addr} {n : Nat}
variable {α : Type} {enc : α → Value} {h1 : ∀ x, (enc x).oneCell' = true} {e base g cap : Nat} {ok : Nat → Prop} {xs : List α}
end
section
variable {P : Program} {ops : Array Oper} {rest : List Oper} {o : Oper} {a : Act} {Q : Exit → Act → World → Prop}
theorem event_run {W w1 : World} {v : Value} (hgd : o.guard = none) (hrun : (execOp a.eval o).run P W = .ok (.value v) w1) (h : wpList P ops Q rest (a.put o.dst v) w1) : wpList P ops Q (o :: rest) a W := by
 refine wpList_plain hgd fun K hK => ?_
 unfold Oper.wp
 rw [hrun]
 exact hK _ _ h
variable {α : Type}
/-- A literal '[]T{..}': inner its cells. 'hd' picks the operation; 'hrun' by '(by go_simp; rfl)'. -/
theorem R_lit (d : Kd α) {w0 W : World} (base e : Nat) (hgd : o.guard = none) {N : Tmp} (_hd : o.dst = some N) {xs : List α} {inner : List Value} {ok okp : Nat → Prop}
   (hrun : (execOp a.eval o).run P W = .ok (.value (.slice (some ⟨W.heap.size, 0, none⟩) xs.length xs.length)) (W.alloc (.cells inner.toArray e)))
   (hrep : Reps (d.M W base okp) d.sz xs inner) (hok : ∀ k, okp k → ok k) (hfresh : ok W.heap.size) (HB : Below base w0 W) (hbase : base ≤ W.heap.size) (hm : xs.length ≤ 9223372036854775807)
   (h : ∀ v1 w1, d.R e w1 base ok v1 xs → Below base w0 w1 → W.grownBy w1 none → (∃ b, v1.ownBlock = some b ∧ W.heap.size ≤ b) → wpList P ops Q rest (a.put o.dst v1) w1) : wpList P ops Q (o :: rest) a W := by
 refine event_run hgd hrun (h _ _ ⟨fun k hk => ?_, inner, ?_, ?_⟩ (HB.alloc hbase _) (World.grownBy_alloc W _ none) ⟨W.heap.size, by simp [Value.ownBlock], Nat.le_refl _⟩)
 · have : W.heap.size = k := by simpa [Value.ownBlock] using hk
   subst this
   exact hfresh
 · have h2 := World.ownsRow_lit (base := base) (e := e) (size := d.sz) W inner.toArray xs.length hbase (by simpa [maxLen] using hm) (by simpa using hrep.1)
   simpa using h2
 · refine hrep.imp_ (fun p c hp => d.M_mono (fun k hk => ⟨hok k hk.1, fun he => ?_⟩) (M_below (d.M_bound hp) (below_alloc (Below.refl _ _) _)))
   have h3 : k = W.heap.size := by simpa [Value.ownBlock] using he
   have := hk.2.2.1
   omega
end
end Kd
section
variable {P : Program}
end
/-- A row of one's own that may begin inside its block. -/
def QRow (w : World) (base : Nat) (e : TypeId) (size : Nat) (v : Value) (n : Nat) (xs : List Value) : Prop :=
 xs.length = n * size ∧
 ((n = 0 ∧ ∃ A, v = .slice A 0 0 ∧ ∀ a, A = some a → base ≤ a.block ∧ ∃ cur, w.heap[a.block]? = some (.cells cur e (0, 0))) ∨
  ∃ g off cap cur, v = .slice (some ⟨g, off * size, none⟩) n cap ∧ base ≤ g ∧ w.heap[g]? = some (.cells cur e (0, 0)) ∧ n ≤ cap ∧ off + cap ≤ maxLen ∧ cur.size = (off + cap) * size ∧ (cur.toList.drop (off * size)).take (n * size) = xs)
section
variable {w w1 : World} {base n size : Nat} {e : TypeId} {v : Value} {xs : List Value}
end
section
variable {P : Program}
end
namespace Kd
def Q {α : Type} (d : Kd α) (e : Nat) (w : World) (base : Nat) (ok : Nat → Prop) (v : Value) (xs : List α) : Prop :=
 (∀ k, v.ownBlock = some k → ok k) ∧ ∃ inner, QRow w base e d.sz v xs.length inner ∧ Reps (d.M w base (fun k => ok k ∧ some k ≠ v.ownBlock)) d.sz xs inner
section
variable {α : Type} {d : Kd α} {e : Nat} {w w1 W : World} {base : Nat} {ok ok' : Nat → Prop} {v : Value} {xs : List α}
end
section
variable {P : Program} {ops : Array Oper} {rest : List Oper} {o : Oper} {a : Act} {Q' : Exit → Act → World → Prop} {Kc : Act → World → Prop} {α : Type}
end
end Kd
namespace Kd
section
variable {α : Type} {d : Kd α} {e e' : Nat} {w w1 W : World} {base : Nat} {ok : Nat → Prop} {u v : Value} {xs : List α}
theorem R_typed (h : d.R e w base ok v xs) : ∀ k, v.ownBlock = some k → ∃ cells, w.heap[k]? = some (.cells cells e (0, 0)) := by
 obtain ⟨inner, ho⟩ := R_own h
 exact fun k hk => own_typed ho k hk
theorem R_over' (h : d.R e W base ok u xs) (hty : ∀ k, v.ownBlock = some k → ∃ cells, W.heap[k]? = some (.cells cells e' (0, 0))) (ht : ∀ q, q ∈ e :: d.E → q ≠ e') (hg : W.grownBy w1 v.ownBlock) : d.R e w1 base ok u xs := by
 refine R_mono (R_move (R_bound h) (fun k hk => hg.block k hk.2.2.1 (fun he => ?_))) (fun _ hk => hk.1)
 obtain ⟨_, _, _, q, hq, cells, hc⟩ := hk
 obtain ⟨cells', hc'⟩ := hty k he.symm
 rw [hc] at hc'
 injection hc' with hc'
 injection hc' with _ hc'
 exact ht q hq hc'
theorem R_apart' (h : d.R e W base ok u xs) (hty : ∀ k, v.ownBlock = some k → ∃ cells, W.heap[k]? = some (.cells cells e' (0, 0))) (ht : ∀ q, q ∈ e :: d.E → q ≠ e') : d.R e W base (fun k => ok k ∧ some k ≠ v.ownBlock) u xs := by
 refine R_mono (R_bound h) (fun k hk => ⟨hk.1, fun he => ?_⟩)
 obtain ⟨_, _, _, q, hq, cells, hc⟩ := hk
 obtain ⟨cells', hc'⟩ := hty k he.symm
 rw [hc] at hc'
 injection hc' with hc'
 injection hc' with _ hc'
 exact ht q hq hc'
theorem R_elder' (hu : d.R e W base ok u xs) (hbase : ∀ k, v.ownBlock = some k → W.heap.size ≤ k) (hb : Below W.heap.size W w1) : d.R e w1 base (fun k => ok k ∧ some k ≠ v.ownBlock) u xs :=
 R_mono (R_move (R_bound hu) (fun k hk => hb.block k hk.2.2.1)) (fun k hk => ⟨hk.1, fun he => by have := hbase k he.symm; have := hk.2.2.1; omega⟩)
theorem R_new' (h : d.R e w1 W.heap.size ok v xs) (hlt : ∀ k, u.ownBlock = some k → k < W.heap.size) : d.R e w1 W.heap.size (fun k => ok k ∧ some k ≠ u.ownBlock) v xs :=
 R_mono (R_bound h) (fun k hk => ⟨hk.1, fun he => by have := hlt k he.symm; have := hk.2.1; omega⟩)
theorem fresh' (hlt : ∀ k, u.ownBlock = some k → k < W.heap.size) : ∀ k, W.heap.size ≤ k → some k ≠ u.ownBlock := fun k hk he => by have := hlt k he.symm; omega
end
end Kd
namespace Kd
section
variable {α : Type} {d : Kd α} {e base g n cap : Nat} {ok okp : Nat → Prop} {W : World} {xs : List α}
/-- Element i of a row of one's own: its cells. -/
theorem R_elem (h : d.R e W base ok (.slice (some ⟨g, 0, none⟩) n cap) xs) (z : α) (i : Int) (h0 : 0 ≤ i) (h1 : i < n) :
   ∃ c, c.length = d.sz ∧ d.M W base (fun k => ok k ∧ k ≠ g) (xs.getD i.toNat z) c ∧ (∀ j u, c[j]? = some u → W.cell? ⟨g, i.toNat * d.sz + j, none⟩ = some u) ∧ ∀ j, W.frozen? ⟨g, i.toNat * d.sz + j, none⟩ = false := by
 obtain ⟨hn, hnc, hC⟩ := R_reads' h
 obtain ⟨_, inner, ho, hr⟩ := h
 have hil : i.toNat < xs.length := by omega
 have hseg : i.toNat * d.sz + d.sz ≤ inner.length := by rw [hr.1, ← Nat.succ_mul]; exact Nat.mul_le_mul_right _ hil
 have hM := hr.2 i.toNat _ (List.getElem?_eq_getElem hil)
 refine ⟨(inner.drop (i.toNat * d.sz)).take d.sz, by rw [List.length_take, List.length_drop]; omega, ?_, fun j u hu => ?_, fun j => ?_⟩
 · rw [List.getD_eq_getElem?_getD, List.getElem?_eq_getElem hil]
   exact d.M_mono (fun k hk => ⟨hk.1, fun he => hk.2 (by rw [he]; simp [Value.ownBlock])⟩) hM
 · rw [List.getElem?_take] at hu
   split at hu
   · rw [List.getElem?_drop] at hu
     have := ho.cells (g := g) (by simp [Value.ownBlock]) _ u hu
     rwa [add_plain] at this
   · cases hu
 · obtain ⟨cells, hc⟩ := own_typed ho g (by simp [Value.ownBlock])
   exact blk_frozen hc _
end
end Kd
namespace Kd
section
variable {α : Type} {F : Kd α → Kd α} {sz : Nat} {E : List Nat} {hs : ∀ n, (upto F sz E n).sz = sz} {hE : ∀ n q, q ∈ (upto F sz E n).E → q ∈ E}
end
end Kd
namespace Kd
theorem reps_append {α : Type} {R : α → List Value → Prop} {size : Nat} {ps qs : List α} {cs ds : List Value} (h : Reps R size ps cs) (h' : Reps R size qs ds) : Reps R size (ps ++ qs) (cs ++ ds) := by
 refine ⟨by rw [List.length_append, List.length_append, h.1, h'.1, Nat.add_mul], fun j p hj => ?_⟩
 rcases Nat.lt_or_ge j ps.length with hlt | hge
 · rw [List.getElem?_append_left hlt] at hj
   have hle : j * size + size ≤ cs.length := by rw [h.1, ← Nat.succ_mul]; exact Nat.mul_le_mul_right _ hlt
   rw [List.drop_append_of_le_length (by omega), List.take_append_of_le_length (by rw [List.length_drop]; omega)]
   exact h.2 j p hj
 · rw [List.getElem?_append_right hge] at hj
   have h2 := h'.2 (j - ps.length) p hj
   have hle : ps.length * size ≤ j * size := Nat.mul_le_mul_right _ hge
   rw [List.drop_append, List.drop_eq_nil_of_le (by rw [h.1]; exact hle), List.nil_append, h.1, ← Nat.sub_mul]
   exact h2
section
variable {P : Program} {ops : Array Oper} {rest : List Oper} {o : Oper} {a : Act} {Q : Exit → Act → World → Prop} {α : Type}
/-- append(v, ys...): Rr is what is known of a read element's cells (d.K W; or k<T>.K w0 for a row that came in), hKM: it may stand as_ made. -/
theorem R_append_rows (d : Kd α) {Rr : α → List Value → Prop} {w0 W : World} (base : Nat) (hgd : o.guard = none) (s x : Operand) (t e : TypeId) (z : Value) (bytes : Nat)
  (ho : o.op = .call { callee := .builtin .append, args := #[s, x], argTypes := #[t, t] })
  (ht : P.underlying t = some (.slice e)) (hinfo : (P.info? e).map (fun i => (i.zero, i.size, i.bytes)) = some (some z, d.sz, bytes)) (hz : z.cells.size = d.sz) (hs0 : 0 < d.sz) (hb0 : 0 < bytes)
  (v : Value) (xs ys : List α) (A : Option Addr) (m c : Nat) (ok okp : Nat → Prop) (hs : a.eval s = v) (hx : a.eval x = .slice A m c)
  (HO : d.R e W base ok v xs) (HR : ReadsRow Rr d.sz W A m ys) (hKM : ∀ x cs, Rr x cs → d.M W base okp x cs) (hokp : ∀ k, okp k → ok k ∧ some k ≠ v.ownBlock) (hfresh : ∀ k, W.heap.size ≤ k → ok k)
  (HB : Below base w0 W) (hbase : base ≤ W.heap.size) (hl : (xs.length + m) * bytes ≤ 140737488355328)
  (h : ∀ v1 w1, d.R e w1 base ok v1 (xs ++ ys) → Below base w0 w1 → W.grownBy w1 v.ownBlock → (v1.ownBlock = v.ownBlock ∨ ∃ b, v1.ownBlock = some b ∧ W.heap.size ≤ b) → wpList P ops Q rest (a.put o.dst v1) w1) :
  wpList P ops Q (o :: rest) a W := by
 obtain ⟨i0, hi, hzz⟩ := Option.map_eq_some_iff.1 hinfo
 simp only [Prod.mk.injEq] at hzz
 obtain ⟨hz0, hz1, hz2⟩ := hzz
 have hm : ys.length = m := HR.1
 have hlen : xs.length + m ≤ 140737488355328 := Nat.le_trans (Nat.le_mul_of_pos_right _ hb0) hl
 obtain ⟨hok, inner, hown, hr⟩ := HO
 have hrun : ∃ v1 w1, (Builtin.append_ #[t, t] o.type #[v, .slice A m c]).run P W = .ok v1 w1 ∧ d.R e w1 base ok v1 (xs ++ ys) ∧ W.grownBy w1 v.ownBlock ∧ (v1.ownBlock = v.ownBlock ∨ ∃ b, v1.ownBlock = some b ∧ W.heap.size ≤ b) := by
  rcases A with _ | ad
  · have h0 : m = 0 := by
      rcases Nat.eq_zero_or_pos m with h0 | h0
      · exact h0
      · obtain ⟨ad, h, _⟩ := HR.2.2 h0
        cases h
    subst h0
    obtain rfl : ys = [] := List.eq_nil_of_length_eq_zero hm
    refine ⟨v, W, ?_, by rw [List.append_nil]; exact ⟨hok, inner, hown, hr⟩, World.grownBy.refl W _, .inl rfl⟩
    rcases hown.2 with ⟨rfl, hn⟩ | ⟨g, cap, cur, rfl, _, _, hnc, _⟩
    · simp [Builtin.append_, run_underlying ht, sizeOf, typeInfo, hi, Builtin.lenOf, Builtin.firstCells]
    · simp [Builtin.append_, run_underlying ht, sizeOf, typeInfo, hi, Builtin.lenOf, Builtin.firstCells, hnc, storeCells]
  · obtain ⟨news, hnr, hnc⟩ := ReadsRow.inner_ HR
    have hnM : Reps (d.M W base okp) d.sz ys news := hnr.imp_ (fun p c hp => hKM p c hp)
    have hone : ∀ u ∈ news, u.oneCell' = true := by
      intro u hu
      obtain ⟨q, hq, rfl⟩ := List.mem_iff_getElem.1 hu
      have hql : q / d.sz < ys.length := by
        rw [Nat.div_lt_iff_lt_mul hs0]
        rw [← hnM.1]
        exact hq
      have hc := hnM.2 (q / d.sz) _ (List.getElem?_eq_getElem hql)
      refine d.K_one (d.K_of_M hc) _ ?_
      rw [List.mem_iff_getElem?]
      refine ⟨q % d.sz, ?_⟩
      rw [List.getElem?_take, if_pos (Nat.mod_lt _ hs0), List.getElem?_drop, Nat.mul_comm, Nat.div_add_mod, List.getElem?_eq_getElem hq]
    obtain ⟨v1, w1, hrun, h2, hg, _, hat⟩ := run_append_own_at (P := P) W base t o.type e i0 z d.sz bytes ht hi hz0 hz1 hz2 hz hs0 v xs.length inner hown ad m c news (by rw [hnM.1, hm]) hnc hone (by simp only [maxLen]; omega) hl hbase
    have hat' : v1.ownBlock = v.ownBlock ∨ ∃ b, v1.ownBlock = some b ∧ W.heap.size ≤ b := by
      rcases hat with hat | hat
      · exact .inl hat
      · exact .inr ⟨_, hat, Nat.le_refl _⟩
    have hne : ∀ k, some k ≠ v.ownBlock → k < W.heap.size → some k ≠ v1.ownBlock := by
      intro k hk hlt
      rcases hat' with hat | ⟨b, hb, hle⟩
      · rw [hat]; exact hk
      · rw [hb]
        intro he
        injection he with he
        omega
    have step : ∀ {q : α} {c : List Value} {o : Nat → Prop}, d.M W base o q c → (∀ k, o k → ok k ∧ some k ≠ v.ownBlock) → d.M w1 base (fun k => ok k ∧ some k ≠ v1.ownBlock) q c := by
      intro q c o hq ho
      have h1 := d.M_move (w1 := w1) (fun k hk => hg.block k hk.2.2.1 (ho k hk.1).2) (d.M_bound hq)
      exact d.M_mono (fun k hk => ⟨(ho k hk.1).1, hne k (ho k hk.1).2 hk.2.2.1⟩) h1
    refine ⟨v1, w1, hrun, ⟨fun k hk => ?_, inner ++ news, by rw [List.length_append, hm]; exact h2, reps_append (hr.imp_ (fun _ _ hq => step hq (fun _ hk => hk))) (hnM.imp_ (fun _ _ hq => step hq hokp))⟩, hg, hat'⟩
    rcases hat' with hat | ⟨b, hb, hle⟩
    · exact hok k (hat ▸ hk)
    · rw [hb] at hk
      injection hk with hk
      exact hfresh k (by omega)
 obtain ⟨v1, w1, hr1, h1, hg, hat⟩ := hrun
 refine wpList_plain hgd fun K hK => ?_
 unfold Oper.wp execOp
 simp only [ho, resolve, invoke, builtin, Sem.run_bind, Sem.run_pure, Result.andThen_ok, List.map_toArray, List.map_cons, List.map_nil, hs, hx, hr1]
 exact hK _ _ (h v1 w1 h1 (HB.grown hg hbase (own_base hown)) hg hat)
end
end Kd
namespace Kd
section
variable {P : Program} {ops : Array Oper} {rest : List Oper} {o : Oper} {a : Act} {Q : Exit → Act → World → Prop} {α : Type}
end
end Kd
theorem add_add (a : Addr) (i j : Nat) : (a.add i).add j = a.add (i + j) := by
 unfold Addr.add
 by_cases h1 : i = 0 <;> by_cases h2 : j = 0 <;> simp [h1, h2, Nat.add_assoc]
namespace Kd
section
variable {α : Type} {k : Kd α} {w : World} {A : Option Addr} {xs : List α} {m c : Nat}
end
end Kd
section
variable {P : Program}
end
theorem below_size {w W : World} (h : Below w.heap.size w W) : w.heap.size ≤ W.heap.size := h.size
theorem below_step {w W w2 : World} (h : Below w.heap.size w W) (k : Below W.heap.size W w2) : Below w.heap.size w w2 := below_then h h.size k
theorem ReadsInt.nil (W : World) (k : IntKind) : ReadsInt W k none ([] : List Int).length [] := ⟨rfl, by simp, fun h => absurd h (Nat.lt_irrefl 0)⟩
theorem ReadsInt.drewN {W : World} {k : IntKind} {A : Option Addr} {n : Nat} {xs : List Int} (h : ReadsInt W k A n xs) (m : Nat) : ReadsInt (W.drewN m) k A n xs := h
theorem below_set {w W : World} {g j : Nat} {v : Value} (h : Below w.heap.size w W) (hg : w.heap.size ≤ g) : Below w.heap.size w (W.setCell ⟨g, j, none⟩ v) := h.setCell hg _
theorem ReadsOf.nil {α : Type} (enc : α → Value) (d : α) (W : World) : ReadsOf enc d W none ([] : List α).length [] := ⟨rfl, by simp, fun h => absurd h (Nat.lt_irrefl 0)⟩
theorem ReadsOf.drewN {α : Type} {enc : α → Value} {d : α} {W : World} {A : Option Addr} {n : Nat} {xs : List α} (h : ReadsOf enc d W A n xs) (m : Nat) : ReadsOf enc d (W.drewN m) A n xs := h
theorem cell_far {W : World} {p a : Addr} (h : a.block ≠ p.block) (u : Value) : (W.setCell p u).cell? a = W.cell? a := by
 have := Below.heap_setCell W p u a.block h
 simp [World.cell?, this]
theorem blk_put {w : World} {g : Nat} {t : TypeId} {cs cs' : Array Value} (h : w.heap[g]? = some (.cells cs t (0, 0))) (i : Nat) (u : Value) (e : cs.setIfInBounds i u = cs') : (w.setCell ⟨g, i, none⟩ u).heap[g]? = some (.cells cs' t (0, 0)) := e ▸ blk_set h i u
theorem below_drew1 {base : Nat} {w W : World} (h : Below base w W) : Below base w W.drew := h.drew
namespace Kd
section
variable {α β : Type} {d : Kd α} {d' : Kd β} {e e' base base' n : Nat} {ok ok' : Nat → Prop} {w W w1 W1 : World} {v u : Value} {xs : List α} {ys : List β} {A : Option Addr} {c : Nat}
end
section
variable {α : Type} {enc : α → Value} {h1 : ∀ x, (enc x).oneCell' = true} {w W : World} {A : Option Addr} {n g : Nat} {xs : List α}
end
end Kd
namespace Kd
section
variable {α : Type} {d : Kd α} {e base g : Nat} {ok : Nat → Prop} {w w1 : World} {v : Value} {xs : List α} {o : Obj}
theorem R_elderB (h : d.R e w base ok v xs) (a : Nat) (ha : w.heap.size ≤ a) : d.R e w base (fun k => ok k ∧ k ≠ a) v xs := R_mono (R_bound h) (fun k hk => ⟨hk.1, by have := hk.2.2.1; omega⟩)
theorem R_newB (h : d.R e w1 w.heap.size ok v xs) (hb : w.heap[g]? = some o) : d.R e w1 w.heap.size (fun k => ok k ∧ k ≠ g) v xs := R_mono (R_bound h) (fun k hk => ⟨hk.1, by have := blk_lt hb; have := hk.2.1; omega⟩)
theorem freshB (hb : w.heap[g]? = some o) : ∀ k, w.heap.size ≤ k → k ≠ g := fun k hk => by have := blk_lt hb; omega
end
end Kd
section
variable {P : Program} {ops : Array Oper} {rest : List Oper} {o : Oper} {a : Act} {Q : Exit → Act → World → Prop}
theorem box_event {W : World} (hgd : o.guard = none) {N : Tmp} (_hd : o.dst = some N) {cs : Array Value} {t : TypeId}
  (hrun : (execOp a.eval o).run P W = .ok (.value (.pointer (some ⟨W.heap.size, 0, none⟩))) (W.alloc (.cells cs t (0, 0))))
  (h : ∀ g, g = W.heap.size → ∀ w1, w1.heap[g]? = some (.cells cs t (0, 0)) → Below W.heap.size W w1 → wpList P ops Q rest (a.put o.dst (.pointer (some ⟨g, 0, none⟩))) w1) : wpList P ops Q (o :: rest) a W :=
 Kd.event_run hgd hrun (h _ rfl _ (blk_new W _) (below_alloc (Below.refl _ _) _))
end
namespace Kd
section
variable {α : Type} {enc : α → Value} {h1 : ∀ x, (enc x).oneCell' = true} {e base g n cap : Nat} {ok : Nat → Prop} {W : World} {xs : List α}
end
end Kd
section
variable {P : Program} {ops : Array Oper} {rest : List Oper} {o : Oper} {a : Act} {Q : Exit → Act → World → Prop}
end
namespace Kd
section
variable {α : Type} {enc : α → Value} {h1 : ∀ x, (enc x).oneCell' = true} {e base g n cap : Nat} {ok : Nat → Prop} {W : World} {xs : List α}
end
end Kd
section
variable {P : Program} {ops : Array Oper} {rest : List Oper} {o : Oper} {a : Act} {Q : Exit → Act → World → Prop} {W : World}
theorem gate_dst {N : Tmp} (_hN : o.dst = some N) (h : wpList P ops Q (o :: rest) a W) : wpList P ops Q (o :: rest) a W := h
end
section
variable {P : Program} {ops : Array Oper} {o : Oper} {a : Act} {Q : Exit → Act → World → Prop} {Kc : Act → World → Prop}
namespace Kd
variable {α : Type}
end Kd
end
inductive Vals (P : Program) (tmps : Array Value) (w : World) : List ResultVar → List Value → Prop where
 | nil : Vals P tmps w [] []
 | tmp {u : Tmp} {rs : List ResultVar} {vs : List Value} (h : Vals P tmps w rs vs) : Vals P tmps w (.tmp u :: rs) (tmps.getD u undef :: vs)
 | cell {p : Tmp} {ty : TypeId} {rs : List ResultVar} {vs : List Value} (g : Nat) (t : TypeId) (cs : Array Value) (fr : Nat × Nat) (d : TypeDesc)
  (hp : tmps.getD p undef = .pointer (some ⟨g, 0, none⟩)) (hg : w.heap[g]? = some (.cells cs t fr))
  (hu : P.underlying ty = some d) (hd : (match d with | .struct _ | .array _ _ => true | _ => false) = true) (hi : (P.info? ty).map (·.size) = some cs.size)
  (h : Vals P tmps w rs vs) : Vals P tmps w (.cell p ty :: rs) (.agg cs :: vs)
section
variable {P : Program} {tmps : Array Value} {w : World}
end
namespace Kd
section
variable {P : Program} {α : Type}
end
section
variable {P : Program} {ops : Array Oper} {rest : List Oper} {o : Oper} {a : Act} {Q : Exit → Act → World → Prop} {Kc : Act → World → Prop} {α : Type}
end
end Kd
end Go.Proofs.YtbpnfpckoapdbaaW.PrintWords
end
section
namespace Go.Proofs.YtbpnfpckoapdbaaW.PrintLast
section
variable {P : Program} {ops : Array Oper} {Q : Exit → Act → World → Prop} {md : Region.Mode} {S : World → Prop} {ds : List Nat}
/-- Operation d waits for operation i, by a chain of at most 'fuel' edges. -/
def Region.reachB (md : Region.Mode) (ops : Array Oper) (i : Nat) : Nat → Nat → Bool
 | 0, _ => false
 | fuel + 1, d => match ops[d]? with
  | some o => o.after.any fun e => Region.binds md e && (e.on == i || Region.reachB md ops i fuel e.on)
  | none => false
/-- What is listed is closed under the edges. -/
def Region.closedB (md : Region.Mode) (ops : Array Oper) (listed : Array Bool) : Bool :=
 (List.range ops.size).all fun j => !listed.getD j false || match ops[j]? with
  | some o => o.after.all fun e => !Region.binds md e || listed.getD e.on false
  | none => true
/-- Each of ds that has not come up yet waits for number i. -/
def Region.lastB (md : Region.Mode) (ops : Array Oper) (listed : Array Bool) (ds : List Nat) (i : Nat) : Bool :=
 ds.all fun d => listed.getD d true || Region.reachB md ops i ops.size d
def ListedClosed (md : Region.Mode) (ops : Array Oper) (listed : Array Bool) : Prop :=
 ∀ j oj, ops[j]? = some oj → listed.getD j false = true → ∀ e ∈ oj.after, Region.binds md e = true → listed.getD e.on false = true
theorem Region.closedB_spec {listed : Array Bool} (h : Region.closedB md ops listed = true) : ListedClosed md ops listed := by
 intro j oj hj hl e he hb
 have hlt : j < ops.size := (Array.getElem?_eq_some_iff.1 hj).1
 have h1 := List.all_eq_true.1 h j (List.mem_range.2 hlt)
 simp only [hl, hj, Bool.not_true, Bool.false_or] at h1
 have h2 := Array.all_eq_true_iff_forall_mem.1 h1 e he
 simpa [hb] using h2
theorem ListedClosed.set {listed : Array Bool} {i : Nat} (h : ListedClosed md ops listed) (hi : i ∈ Region.ready md ops listed) : ListedClosed md ops (listed.setIfInBounds i true) := by
 obtain ⟨_, oi, hoi, hall⟩ := mem_ready.1 hi
 intro j oj hj hl e he hb
 by_cases hij : i = j
 · subst hij
   have : oj = oi := Option.some.inj (hj.symm.trans hoi)
   subst this
   exact getD_set_true (hall e he hb)
 · rw [getD_set_ne false hij] at hl
   exact getD_set_true (h j oj hj hl e he hb)
theorem Region.reach_listed {listed : Array Bool} {i : Nat} (hc : ListedClosed md ops listed) : ∀ (fuel d : Nat), Region.reachB md ops i fuel d = true → listed.getD d false = true → listed.getD i false = true
 | 0, _, h, _ => by simp [Region.reachB] at h
 | fuel + 1, d, h, hl => by
  unfold Region.reachB at h
  cases ho : ops[d]? with
  | none => rw [ho] at h; simp at h
  | some o =>
   rw [ho] at h
   obtain ⟨e, he, h1⟩ := Array.any_eq_true'.1 h
   simp only [Bool.and_eq_true, Bool.or_eq_true, beq_iff_eq] at h1
   have hle := hc d o ho hl e he h1.1
   rcases h1.2 with h2 | h2
   · rw [← h2]; exact hle
   · exact Region.reach_listed hc fuel e.on h2 hle
/-- What waits for i cannot come up before i is listed. -/
theorem Region.reach_not_ready {listed : Array Bool} {i d fuel : Nat} (hc : ListedClosed md ops listed) (hr : Region.reachB md ops i fuel d = true) (hun : listed.getD i true = false) : d ∉ Region.ready md ops listed := by
 intro hd
 obtain ⟨_, o, ho, hall⟩ := mem_ready.1 hd
 have hi : listed.getD i false = true := by
   cases fuel with
   | zero => simp [Region.reachB] at hr
   | succ n =>
    unfold Region.reachB at hr
    rw [ho] at hr
    obtain ⟨e, he, h1⟩ := Array.any_eq_true'.1 hr
    simp only [Bool.and_eq_true, Bool.or_eq_true, beq_iff_eq] at h1
    have hle := hall e he h1.1
    rcases h1.2 with h2 | h2
    · rw [← h2]; exact hle
    · exact Region.reach_listed hc n e.on h2 hle
 rcases Nat.lt_or_ge i listed.size with h' | h'
 · simp [h'] at hun hi
   rw [hun] at hi
   cases hi
 · simp [Array.getElem?_eq_none h'] at hun
/-- Whatever order is picked from here on, AND 'S' HOLDS BEHIND EVERY OPERATION THAT IS CARRIED OUT, those of ds apart. -/
def wpAnyLast (P : Program) (md : Region.Mode) (ops : Array Oper) (Q : Exit → Act → World → Prop) (S : World → Prop) (ds : List Nat) : Nat → Array Bool → Act → World → Prop
 | 0, listed, a, w => Region.ready md ops listed = [] ∧ Q .normal a w
 | fuel + 1, listed, a, w =>
  (Region.ready md ops listed = [] → Q .normal a w) ∧
  ∀ i ∈ Region.ready md ops listed, wpOp P ops Q i (fun a' w' => (i ∉ ds → S w → S w') ∧ wpAnyLast P md ops Q S ds fuel (listed.setIfInBounds i true) a' w') a w
theorem wpAny_of_last : ∀ (fuel : Nat) (listed : Array Bool) (a : Act) (w : World), wpAnyLast P md ops Q S ds fuel listed a w → wpAny P md ops Q fuel listed a w
 | 0, _, _, _, h => h
 | fuel + 1, _, _, _, h => ⟨h.1, fun i hi => wpOp_mono (fun a' w' h' => wpAny_of_last fuel _ a' w' h'.2) (h.2 i hi)⟩
theorem wpAnyLast_first {i : Nat} {oi : Oper} {v : Value} (hi : ops[i]? = some oi) (hsel : ∀ (j : Nat) (o : Oper) cs b, ops[j]? = some o → o.op ≠ .select cs b)
  (hQ : ∀ c a w, Q (.panic c) (a.put oi.dst v) w → Q (.panic c) a w) (n : Nat) :
  ∀ (fuel : Nat) (listed : Array Bool) (a : Act) (w : World),
    (∀ j oj, ops[j]? = some oj → j ≠ i → listed.getD j true = false → (∀ e ∈ oj.after, Region.binds md e = true → e.on ≠ i) → oi.apart ops oj = true) →
    ListedClosed md ops listed → (∀ d ∈ ds, listed.getD d true = false → Region.reachB md ops i n d = true) →
    i ∈ Region.ready md ops listed → YieldsIf P ops S oi v a → S w →
    wpAnyLast P md ops Q S ds fuel (listed.setIfInBounds i true) (a.put oi.dst v) w → wpAnyLast P md ops Q S ds (fuel + 1) listed a w := by
 intro fuel
 induction fuel with
 | zero =>
  intro listed a w _ _ _ hr hy hS H
  refine ⟨fun h => (by rw [h] at hr; cases hr), fun j hj => ?_⟩
  by_cases hji : j = i
  · subst hji; exact hy.wpOp hi hS ⟨fun _ h => h, H⟩
  · have := ready_mono hj hji
    rw [H.1] at this
    cases this
 | succ fuel ih =>
  intro listed a w hfree hc hd hr hy hS H
  refine ⟨fun h => (by rw [h] at hr; cases hr), fun j hj => ?_⟩
  by_cases hji : j = i
  · subst hji; exact hy.wpOp hi hS ⟨fun _ h => h, H⟩
  · have h1 := H.2 j (ready_mono hj hji)
    obtain ⟨hjun, oj, hoj, hall⟩ := mem_ready.1 hj
    have hiun := (mem_ready.1 hr).1
    have hnot : ∀ e ∈ oj.after, Region.binds md e = true → e.on ≠ i := fun e he hb heq => by
     have h1 := hall e he hb
     rw [heq] at h1
     rcases Nat.lt_or_ge i listed.size with h' | h'
     · simp [h'] at hiun h1; rw [hiun] at h1; cases h1
     · simp [Array.getElem?_eq_none h'] at h1
    have hjd : j ∉ ds := fun hm => Region.reach_not_ready hc (hd j hm hjun) hiun hj
    have h2 := wpOp_putIf hoj (hfree j oj hoj hji hjun hnot) (fun cs b => hsel i oi cs b hi) (fun cs b => hsel j oj cs b hoj) hQ hy h1
    have hfree' : ∀ k ok, ops[k]? = some ok → k ≠ i → (listed.setIfInBounds j true).getD k true = false →
       (∀ e ∈ ok.after, Region.binds md e = true → e.on ≠ i) → oi.apart ops ok = true := fun k ok hk hki hun hno => by
     refine hfree k ok hk hki ?_ hno
     by_cases hjk : j = k
     · subst hjk; exact hjun
     · rw [getD_set_ne true hjk] at hun; exact hun
    have hd' : ∀ d ∈ ds, (listed.setIfInBounds j true).getD d true = false → Region.reachB md ops i n d = true := fun d hm hun => by
     refine hd d hm ?_
     by_cases hjk : j = d
     · subst hjk; exact hjun
     · rw [getD_set_ne true hjk] at hun; exact hun
    refine wpOp_mono (fun a' w' h3 => ⟨h3.2.1, ih (listed.setIfInBounds j true) a' w' hfree' (hc.set hj) hd' (ready_mono hr (Ne.symm hji)) h3.1 (h3.2.1 hjd hS) ?_⟩) h2
    rw [Array.setIfInBounds_comm _ _ hji]
    exact h3.2.2
/-- Take number 'i' first, which yields whatever the world: no S is asked for, nor that anything waits for it. -/
theorem wpAnyLast_any {i : Nat} {oi : Oper} {v : Value} (hi : ops[i]? = some oi) (hsel : ∀ (j : Nat) (o : Oper) cs b, ops[j]? = some o → o.op ≠ .select cs b)
  (hQ : ∀ c a w, Q (.panic c) (a.put oi.dst v) w → Q (.panic c) a w) :
  ∀ (fuel : Nat) (listed : Array Bool) (a : Act) (w : World),
    (∀ j oj, ops[j]? = some oj → j ≠ i → listed.getD j true = false → (∀ e ∈ oj.after, Region.binds md e = true → e.on ≠ i) → oi.apart ops oj = true) →
    i ∈ Region.ready md ops listed → Yields P ops oi v a →
    wpAnyLast P md ops Q S ds fuel (listed.setIfInBounds i true) (a.put oi.dst v) w → wpAnyLast P md ops Q S ds (fuel + 1) listed a w := by
 intro fuel
 induction fuel with
 | zero =>
  intro listed a w _ hr hy H
  refine ⟨fun h => (by rw [h] at hr; cases hr), fun j hj => ?_⟩
  by_cases hji : j = i
  · subst hji; exact (hy.yieldsIf (S := fun _ => True)).wpOp hi trivial ⟨fun _ h => h, H⟩
  · have := ready_mono hj hji
    rw [H.1] at this
    cases this
 | succ fuel ih =>
  intro listed a w hfree hr hy H
  refine ⟨fun h => (by rw [h] at hr; cases hr), fun j hj => ?_⟩
  by_cases hji : j = i
  · subst hji; exact (hy.yieldsIf (S := fun _ => True)).wpOp hi trivial ⟨fun _ h => h, H⟩
  · have h1 := H.2 j (ready_mono hj hji)
    obtain ⟨hjun, oj, hoj, hall⟩ := mem_ready.1 hj
    have hiun := (mem_ready.1 hr).1
    have hnot : ∀ e ∈ oj.after, Region.binds md e = true → e.on ≠ i := fun e he hb heq => by
     have h1 := hall e he hb
     rw [heq] at h1
     rcases Nat.lt_or_ge i listed.size with h' | h'
     · simp [h'] at hiun h1; rw [hiun] at h1; cases h1
     · simp [Array.getElem?_eq_none h'] at h1
    have h2 := wpOp_put hoj (hfree j oj hoj hji hjun hnot) (fun cs b => hsel i oi cs b hi) (fun cs b => hsel j oj cs b hoj) hQ hy h1
    have hfree' : ∀ k ok, ops[k]? = some ok → k ≠ i → (listed.setIfInBounds j true).getD k true = false →
       (∀ e ∈ ok.after, Region.binds md e = true → e.on ≠ i) → oi.apart ops ok = true := fun k ok hk hki hun hno => by
     refine hfree k ok hk hki ?_ hno
     by_cases hjk : j = k
     · subst hjk; exact hjun
     · rw [getD_set_ne true hjk] at hun; exact hun
    refine wpOp_mono (fun a' w' h3 => ⟨h3.2.1, ih (listed.setIfInBounds j true) a' w' hfree' (ready_mono hr (Ne.symm hji)) h3.1 ?_⟩) h2
    rw [Array.setIfInBounds_comm _ _ hji]
    exact h3.2.2
/-- Take number 'i' first. -/
theorem wpAnyLast_take {i : Nat} {oi : Oper} {v : Value} {fuel : Nat} {listed : Array Bool} {a : Act} {w : World} (hi : ops[i]? = some oi)
  (hs : Region.noSelect ops = true) (hf : Region.free md ops listed i = true) (hr : (Region.ready md ops listed).contains i = true)
  (hc : Region.closedB md ops listed = true) (hl : Region.lastB md ops listed ds i = true)
  (hQ : ∀ c a w, Q (.panic c) (a.put oi.dst v) w → Q (.panic c) a w) (hy : YieldsIf P ops S oi v a) (hS : S w)
  (h : wpAnyLast P md ops Q S ds fuel (listed.setIfInBounds i true) (a.put oi.dst v) w) : wpAnyLast P md ops Q S ds (fuel + 1) listed a w :=
 wpAnyLast_first hi (Region.noSelect_spec hs) hQ ops.size fuel listed a w (Region.free_spec hi hf) (Region.closedB_spec hc)
  (fun d hm hun => by have := List.all_eq_true.1 hl d hm; rw [hun] at this; simpa using this) (by simpa using hr) hy hS h
theorem wpAnyLast_all {rs : List Nat} {fuel : Nat} {listed : Array Bool} {a : Act} {w : World} (hr : Region.ready md ops listed = rs) (hne : rs ≠ [])
  (h : ∀ i ∈ rs, wpOp P ops Q i (fun a' w' => (i ∉ ds → S w → S w') ∧ wpAnyLast P md ops Q S ds fuel (listed.setIfInBounds i true) a' w') a w) : wpAnyLast P md ops Q S ds (fuel + 1) listed a w :=
 ⟨fun h0 => absurd (hr ▸ h0) hne, hr ▸ h⟩
theorem wpAnyLast_done {listed : Array Bool} {a : Act} {w : World} (hr : Region.ready md ops listed = []) (h : Q .normal a w) :
  ∀ fuel, wpAnyLast P md ops Q S ds fuel listed a w
 | 0 => ⟨hr, h⟩
 | _ + 1 => ⟨fun _ => h, by rw [hr]; simp⟩
theorem wp_region_last {id : Nat} {a : Act} {w : World} (hm : P.follows .mixedOrders = true)
  (h : wpAnyLast P .any ops Q S ds ops.size (Array.replicate ops.size false) a { w with drawn := w.drawn + 1 }) : (Code.region id ops true).wp P Q a w :=
 wp_region_any hm (wpAny_of_last _ _ _ _ h)
end
section
variable {P : Program} {ops : Array Oper} {Q : Exit → Act → World → Prop} {md : Region.Mode} {S : World → Prop} {ds : List Nat}
def AllReadyL (P : Program) (md : Region.Mode) (ops : Array Oper) (Q : Exit → Act → World → Prop) (S : World → Prop) (ds : List Nat) (fuel : Nat) (listed : Array Bool) (a : Act) (w : World) (rs : List Nat) : Prop :=
 ∀ i ∈ rs, wpOp P ops Q i (fun a' w' => (i ∉ ds → S w → S w') ∧ wpAnyLast P md ops Q S ds fuel (listed.setIfInBounds i true) a' w') a w
theorem AllReadyL.nil {fuel : Nat} {listed : Array Bool} {a : Act} {w : World} : AllReadyL P md ops Q S ds fuel listed a w [] := fun _ h => by cases h
theorem AllReadyL.cons {fuel : Nat} {listed : Array Bool} {a : Act} {w : World} {i : Nat} {o : Oper} {rs : List Nat} (ho : ops[i]? = some o) (hd : i ∉ ds)
   (h : ∀ K' : Act → World → Prop, Shut (∀ a w, S w → (S w → wpAnyLast P md ops Q S ds fuel (listed.setIfInBounds i true) a w) → K' a w) → if Region.wanted o (yielded ops a.tmps) = true then Oper.wp P o a w K' Q else K' (a.put o.dst undef) w)
   (hs : AllReadyL P md ops Q S ds fuel listed a w rs) : AllReadyL P md ops Q S ds fuel listed a w (i :: rs) := fun j hj => by
 rcases List.mem_cons.1 hj with rfl | hj
 · exact wpOp_step ho (fun K' hK => h K' (fun a w hS hW => hK a w ⟨fun _ _ => hS, hW hS⟩))
 · exact hs j hj
/-- Behind an operation of ds nothing is shown. -/
theorem AllReadyL.cons_last {fuel : Nat} {listed : Array Bool} {a : Act} {w : World} {i : Nat} {o : Oper} {rs : List Nat} (ho : ops[i]? = some o) (hd : i ∈ ds)
   (h : ∀ K' : Act → World → Prop, Shut (∀ a w, wpAnyLast P md ops Q S ds fuel (listed.setIfInBounds i true) a w → K' a w) → if Region.wanted o (yielded ops a.tmps) = true then Oper.wp P o a w K' Q else K' (a.put o.dst undef) w)
   (hs : AllReadyL P md ops Q S ds fuel listed a w rs) : AllReadyL P md ops Q S ds fuel listed a w (i :: rs) := fun j hj => by
 rcases List.mem_cons.1 hj with rfl | hj
 · exact wpOp_step ho (fun K' hK => h K' (fun a w hW => hK a w ⟨fun hn => absurd hd hn, hW⟩))
 · exact hs j hj
theorem wpAnyLast_ready {rs : List Nat} {fuel : Nat} {listed : Array Bool} {a : Act} {w : World} (hr : Region.ready md ops listed = rs) (hne : rs ≠ [])
 (h : AllReadyL P md ops Q S ds fuel listed a w rs) : wpAnyLast P md ops Q S ds (fuel + 1) listed a w := wpAnyLast_all hr hne h
/-- THE SAME STEPS WITH WHAT HAS COME UP WRITTEN OUT (a literal array of Bools) and one check a step: quicker, and what is printed stays short. -/
theorem start_ {id n : Nat} {a : Act} {w : World} (l : Array Bool) (hm : P.follows .mixedOrders = true) (hn : ops.size = n) (hl : Array.replicate n false = l) (hS : S w.drew)
  (h : S w.drew → wpAnyLast P .any ops Q S ds n l a w.drew) : (Code.region id ops true).wp P Q a w := by
 subst hn
 subst hl
 exact wp_region_last hm (h hS)
def takeB (md : Region.Mode) (ops : Array Oper) (ds : List Nat) (l l' : Array Bool) (i : Nat) : Bool :=
 Region.noSelect ops && Region.free md ops l i && (Region.ready md ops l).contains i && Region.closedB md ops l && Region.lastB md ops l ds i && (l.setIfInBounds i true == l')
theorem take_ {i : Nat} {N : Option Tmp} {oi : Oper} {v : Value} {fuel : Nat} {l : Array Bool} {a : Act} {w : World} (l' : Array Bool) (hi : ops[i]? = some oi) (hN : oi.dst = N) (hc : takeB md ops ds l l' i = true)
  (hQ : ∀ c a w, Q (.panic c) (a.put oi.dst v) w → Q (.panic c) a w) (hy : YieldsIf P ops S oi v a) (hS : S w) {a' : Act} (ha : a.put N v = a')
  (h : wpAnyLast P md ops Q S ds fuel l' a' w) : wpAnyLast P md ops Q S ds (fuel + 1) l a w := by
 subst ha
 subst hN
 simp only [takeB, Bool.and_eq_true, beq_iff_eq] at hc
 obtain ⟨⟨⟨⟨⟨h1, h2⟩, h3⟩, h4⟩, h5⟩, h6⟩ := hc
 subst h6
 exact wpAnyLast_take hi h1 h2 h3 h4 h5 hQ hy hS h
def anyB (md : Region.Mode) (ops : Array Oper) (l l' : Array Bool) (i : Nat) : Bool :=
 Region.noSelect ops && Region.free md ops l i && (Region.ready md ops l).contains i && (l.setIfInBounds i true == l')
/-- An operation that yields in every world (a move, a number, an address): taken first wherever it may come up, behind a store too. -/
theorem pure_ {i : Nat} {N : Option Tmp} {oi : Oper} {v : Value} {fuel : Nat} {l : Array Bool} {a : Act} {w : World} (l' : Array Bool) (hi : ops[i]? = some oi) (hN : oi.dst = N) (hc : anyB md ops l l' i = true)
  (hQ : ∀ c a w, Q (.panic c) (a.put oi.dst v) w → Q (.panic c) a w) (hy : Yields P ops oi v a) {a' : Act} (ha : a.put N v = a')
  (h : wpAnyLast P md ops Q S ds fuel l' a' w) : wpAnyLast P md ops Q S ds (fuel + 1) l a w := by
 subst ha
 subst hN
 simp only [anyB, Bool.and_eq_true, beq_iff_eq] at hc
 obtain ⟨⟨⟨h1, h2⟩, h3⟩, h6⟩ := hc
 subst h6
 exact wpAnyLast_any hi (Region.noSelect_spec h1) hQ fuel l a w (Region.free_spec hi h2) (by simpa using h3) hy h
def readyB (md : Region.Mode) (ops : Array Oper) (l l' : Array Bool) (i : Nat) : Bool := (Region.ready md ops l == [i]) && (l.setIfInBounds i true == l')
/-- One operation alone may come up now (a call, a build, an append ..): it is run, S is shown behind it. -/
theorem one_ {i : Nat} {N : Option Tmp} {oi : Oper} {fuel : Nat} {l : Array Bool} {a : Act} {w : World} (l' : Array Bool) (hi : ops[i]? = some oi) (hN : oi.dst = N) (hc : readyB md ops l l' i = true) (hd : i ∉ ds)
  (h : ∀ K : Act → World → Prop, Shut (∀ a' w', S w' → (S w' → wpAnyLast P md ops Q S ds fuel l' a' w') → K a' w') → if Region.wanted oi (yielded ops a.tmps) = true then Oper.wp P oi a w K Q else K (a.put N undef) w) :
  wpAnyLast P md ops Q S ds (fuel + 1) l a w := by
 subst hN
 simp only [readyB, Bool.and_eq_true, beq_iff_eq] at hc
 obtain ⟨h1, h2⟩ := hc
 subst h2
 exact wpAnyLast_ready h1 (by simp) (AllReadyL.cons hi hd (fun K hK => h K hK) AllReadyL.nil)
/-- The same for one of ds: nothing is shown behind it. -/
theorem last_ {i : Nat} {N : Option Tmp} {oi : Oper} {fuel : Nat} {l : Array Bool} {a : Act} {w : World} (l' : Array Bool) (hi : ops[i]? = some oi) (hN : oi.dst = N) (hc : readyB md ops l l' i = true) (hd : i ∈ ds)
  (h : ∀ K : Act → World → Prop, Shut (∀ a' w', wpAnyLast P md ops Q S ds fuel l' a' w' → K a' w') → if Region.wanted oi (yielded ops a.tmps) = true then Oper.wp P oi a w K Q else K (a.put N undef) w) :
  wpAnyLast P md ops Q S ds (fuel + 1) l a w := by
 subst hN
 simp only [readyB, Bool.and_eq_true, beq_iff_eq] at hc
 obtain ⟨h1, h2⟩ := hc
 subst h2
 exact wpAnyLast_ready h1 (by simp) (AllReadyL.cons_last hi hd (fun K hK => h K hK) AllReadyL.nil)
theorem done_ {l : Array Bool} {a : Act} {w : World} {n : Nat} (hr : (Region.ready md ops l == []) = true) (h : Q .normal a w) : wpAnyLast P md ops Q S ds n l a w := wpAnyLast_done (by simpa using hr) h n
/-- The act written out. -/
theorem norm_ {fuel : Nat} {l : Array Bool} {a a' : Act} {w : World} (ha : a = a') (h : wpAnyLast P md ops Q S ds fuel l a' w) : wpAnyLast P md ops Q S ds fuel l a w := by
 subst ha
 exact h
/-- A call of a Go function, by its contract. -/
theorem call_ {oi : Oper} {N : Option Tmp} {a : Act} {w : World} {K : Act → World → Prop} (f : FuncId) (args : Array Value) (hw : Region.wanted oi (yielded ops a.tmps) = true) (hN : oi.dst = N) (hrun : (execOp a.eval oi).run P w = .ok (.enter f args) w)
  (h : Calls P f args w fun e w' => ∃ v, e = .returned v ∧ K (a.put N v) w') : if Region.wanted oi (yielded ops a.tmps) = true then Oper.wp P oi a w K Q else K (a.put N undef) w := by
 rw [if_pos hw]
 subst hN
 unfold Oper.wp
 rw [hrun, Oper.upon_enter]
 refine h.mono fun e w'' hh => ?_
 obtain ⟨v, rfl, hk⟩ := hh
 exact hk
theorem enters_ {f : FuncId} {fn : Func} (hf : P.funcs[f]? = some fn) (hname : (fn.name == "runtime.NumGoroutine") = false) (hb : fn.body.isSome = true) (args : Array Value) (w : World) : (callFunc f args).run P w = .ok (.enter f args) w := by
 have h1 : fn.name ≠ "runtime.NumGoroutine" := by simpa using hname
 obtain ⟨c, hc⟩ := Option.isSome_iff_exists.1 hb
 simp [callFunc, hf, h1, hc]
/-- The same, the operation's run shown here: 'goes_ A.func3 (by kernel_rfl) rfl #[..] (by rfl) rfl rfl (by rfl) ?_'. -/
theorem goes_ {oi : Oper} {N : Option Tmp} {a : Act} {w : World} {K : Act → World → Prop} {f : FuncId} {fn : Func} {as_ : Array Operand} {ts : Array TypeId} (hf : P.funcs[f]? = some fn) (hname : (fn.name == "runtime.NumGoroutine") = false) (hb : fn.body.isSome = true) (args : Array Value)
  (hw : Region.wanted oi (yielded ops a.tmps) = true) (hN : oi.dst = N) (hop : oi.op = .call { callee := .value (.func f), args := as_, argTypes := ts }) (hargs : as_.map a.eval = args)
  (h : Calls P f args w fun e w' => ∃ v, e = .returned v ∧ K (a.put N v) w') : if Region.wanted oi (yielded ops a.tmps) = true then Oper.wp P oi a w K Q else K (a.put N undef) w := by
 refine call_ f args hw hN ?_ h
 have he := enters_ hf hname hb args w
 unfold execOp
 simp [hop, resolve, Deferred.ofValue, invoke, Act.eval, hargs, he]
/-- A call in a plain region, as_ an arm of go_wp2_with ('hd' first: it fails at once at another operation). -/
theorem goesL_ {rest : List Oper} {oi : Oper} {a : Act} {w : World} (N : Option Tmp) (hd : oi.dst = N) (hg : oi.guard = none) {f : FuncId} {fn : Func} {as_ : Array Operand} {ts : Array TypeId} (hf : P.funcs[f]? = some fn) (hname : (fn.name == "runtime.NumGoroutine") = false) (hb : fn.body.isSome = true) (args : Array Value)
  (hop : oi.op = .call { callee := .value (.func f), args := as_, argTypes := ts }) (hargs : as_.map a.eval = args)
  (h : Calls P f args w fun e w' => ∃ v, e = .returned v ∧ wpList P ops Q rest (a.put N v) w') : wpList P ops Q (oi :: rest) a w := by
 refine wpList_plain hg fun K hK => ?_
 have he := enters_ hf hname hb args w
 have hrun : (execOp a.eval oi).run P w = .ok (.enter f args) w := by
  unfold execOp
  simp [hop, resolve, Deferred.ofValue, invoke, Act.eval, hargs, he]
 unfold Oper.wp
 rw [hrun, Oper.upon_enter]
 refine h.mono fun e w'' hh => ?_
 obtain ⟨v, rfl, hk⟩ := hh
 subst hd
 exact hK _ _ hk
/-- An operation that yields a value (and may make memory). -/
theorem value_ {oi : Oper} {N : Option Tmp} {a : Act} {w w1 : World} {v : Value} {K : Act → World → Prop} (hw : Region.wanted oi (yielded ops a.tmps) = true) (hN : oi.dst = N) (hrun : (execOp a.eval oi).run P w = .ok (.value v) w1)
  (h : K (a.put N v) w1) : if Region.wanted oi (yielded ops a.tmps) = true then Oper.wp P oi a w K Q else K (a.put N undef) w := by
 rw [if_pos hw]
 subst hN
 unfold Oper.wp
 rw [hrun]
 exact h
/-- A store. -/
theorem skip_ {oi : Oper} {a : Act} {w w1 : World} {K : Act → World → Prop} (hw : Region.wanted oi (yielded ops a.tmps) = true) (hN : oi.dst = none) (hrun : (execOp a.eval oi).run P w = .ok .skip w1)
  (h : K a w1) : if Region.wanted oi (yielded ops a.tmps) = true then Oper.wp P oi a w K Q else K (a.put none undef) w := by
 rw [if_pos hw]
 unfold Oper.wp
 rw [hrun]
 show K (a.put oi.dst undef) w1
 rw [hN]
 exact h
theorem i64_w (n : Int) : IntKind.i64.wrap n = Go.RowKit.wrap64 n := by unfold Go.RowKit.wrap64; exact IntKind.wrap_i64 n
theorem i32_w (n : Int) : IntKind.i32.wrap n = Go.RowKit.wrap32 n := by unfold Go.RowKit.wrap32; exact IntKind.wrap_i32 n
end
end Go.Proofs.YtbpnfpckoapdbaaW.PrintLast
end
section
/-! ### 40. Elements whose inner rows lie apart: what is stored into one says nothing of the others.
 S: as_ R, with an owner function f (block to element's index). H: as_ S with a hole: of element i its cells alone are told, its blocks are oki. -/
namespace Go.Proofs.YtbpnfpckoapdbaaW.PrintWords
open Go.RowKit
namespace Kd
/-- An element with its index: its blocks are those that f gives to it. -/
def tag {α : Type} (f : Nat → Nat) (d : Kd α) : Kd (α × Nat) where
 sz := d.sz
 E := d.E
 K := fun w x cs => d.K w x.1 cs
 M := fun w base ok x cs => d.M w base (fun k => ok k ∧ f k = x.2) x.1 cs
 K_len := fun h => d.K_len h
 K_one := fun h => d.K_one h
 K_below := fun hb h => d.K_below hb h
 K_of_M := fun h => d.K_of_M h
 M_mono := fun hok h => d.M_mono (fun k hk => ⟨hok k hk.1, hk.2⟩) h
 M_bound := fun h => d.M_mono (fun _ hk => ⟨⟨hk.1.1, hk.2⟩, hk.1.2⟩) (d.M_bound h)
 M_move := fun hm h => d.M_move (fun k hk => hm k hk.1) h
 M_lower := fun hb h => d.M_lower hb h
/-- The cells themselves. -/
def raw (sz : Nat) : Kd (List Value) where
 sz := sz
 E := []
 K := fun _ x cs => cs = x ∧ cs.length = sz ∧ ∀ u ∈ cs, u.oneCell' = true
 M := fun _ _ _ x cs => cs = x ∧ cs.length = sz ∧ ∀ u ∈ cs, u.oneCell' = true
 K_len := fun h => h.2.1
 K_one := fun h => h.2.2
 K_below := fun _ h => h
 K_of_M := fun h => h
 M_mono := fun _ h => h
 M_bound := fun h => h
 M_move := fun _ h => h
 M_lower := fun _ h => h
/-- A row of elements (type e) of the call's own, no two of which lead to one block. -/
def S {α : Type} (d : Kd α) (e : Nat) (w : World) (base : Nat) (ok : Nat → Prop) (v : Value) (xs : List α) : Prop := ∃ f, (tag f d).R e w base ok v xs.zipIdx
section
variable {α β : Type} {d : Kd α} {d' : Kd β} {e e' : Nat} {w w1 W : World} {base b : Nat} {ok ok' okv oku : Nat → Prop} {u v : Value} {xs : List α} {ys : List β}
end
section
variable {α β : Type} {d : Kd α} {d' : Kd β} {e e' g : Nat} {w w1 W : World} {base b : Nat} {ok ok' okv oku : Nat → Prop} {u v : Value} {xs : List α} {ys : List β}
end
section
variable {P : Program} {ops : Array Oper} {rest : List Oper} {o : Oper} {a : Act} {Q : Exit → Act → World → Prop} {Kc : Act → World → Prop} {α : Type}
end
/-- Element i is these cells; the others are d's. -/
def gap {α : Type} (f : Nat → Nat) (d : Kd α) (i : Nat) (c : List Value) : Kd (α × Nat) where
 sz := d.sz
 E := d.E
 K := fun w x cs => (x.2 = i → cs = c ∧ cs.length = d.sz ∧ ∀ u ∈ cs, u.oneCell' = true) ∧ (x.2 ≠ i → d.K w x.1 cs)
 M := fun w base ok x cs => (x.2 = i → cs = c ∧ cs.length = d.sz ∧ ∀ u ∈ cs, u.oneCell' = true) ∧ (x.2 ≠ i → d.M w base (fun k => ok k ∧ f k = x.2) x.1 cs)
 K_len := fun {w x cs} h => by
  by_cases hx : x.2 = i
  · exact (h.1 hx).2.1
  · exact d.K_len (h.2 hx)
 K_one := fun {w x cs} h => by
  by_cases hx : x.2 = i
  · exact (h.1 hx).2.2
  · exact d.K_one (h.2 hx)
 K_below := fun hb h => ⟨h.1, fun hx => d.K_below hb (h.2 hx)⟩
 K_of_M := fun h => ⟨h.1, fun hx => d.K_of_M (h.2 hx)⟩
 M_mono := fun hok h => ⟨h.1, fun hx => d.M_mono (fun k hk => ⟨hok k hk.1, hk.2⟩) (h.2 hx)⟩
 M_bound := fun h => ⟨h.1, fun hx => d.M_mono (fun _ hk => ⟨⟨hk.1.1, hk.2⟩, hk.1.2⟩) (d.M_bound (h.2 hx))⟩
 M_move := fun hm h => ⟨h.1, fun hx => d.M_move (fun k hk => hm k hk.1) (h.2 hx)⟩
 M_lower := fun hb h => ⟨h.1, fun hx => d.M_lower hb (h.2 hx)⟩
def H {α : Type} (d : Kd α) (e : Nat) (w : World) (base : Nat) (ok : Nat → Prop) (v : Value) (xs : List α) (i : Int) (oki : Nat → Prop) (c : List Value) : Prop :=
 (∀ k, oki k → ok k) ∧ ∃ f, (gap f d i.toNat c).R e w base (fun k => ok k ∧ ¬ oki k) v xs.zipIdx
section
variable {α β : Type} {d : Kd α} {e e' g n cap : Nat} {w w1 W : World} {base : Nat} {ok ok' oki okp : Nat → Prop} {u v : Value} {xs : List α} {i : Int} {c : List Value}
end
section
variable {P : Program} {ops : Array Oper} {rest : List Oper} {o : Oper} {a : Act} {Q : Exit → Act → World → Prop} {α : Type}
end
end Kd
end Go.Proofs.YtbpnfpckoapdbaaW.PrintWords
end
section
namespace Go.Proofs.YtbpnfpckoapdbaaW.PrintWords
open Go.RowKit
namespace Kd
/-- What a kind reads lies in the blocks: nothing else of the world is looked at. -/
structure Heap {α : Type} (d : Kd α) : Prop where
 K : ∀ {w w1 : World} {x : α} {cs : List Value}, (∀ k, k < w.heap.size → w1.heap[k]? = w.heap[k]?) → d.K w x cs → d.K w1 x cs
theorem cell_heap {w w1 : World} (hb : ∀ k, k < w.heap.size → w1.heap[k]? = w.heap[k]?) {a : Addr} {v : Value} (h : w.cell? a = some v) : w1.cell? a = some v := by
 have := hb a.block (World.block_lt_of_cell? w a h)
 simpa [World.cell?, this] using h
theorem Heap.C {α : Type} {d : Kd α} (hd : Heap d) {w w1 : World} {A : Option Addr} {n : Nat} {xs : List α} (hb : ∀ k, k < w.heap.size → w1.heap[k]? = w.heap[k]?) (h : d.C w A n xs) : d.C w1 A n xs :=
 ⟨h.1, h.2.1, fun hn => by
  obtain ⟨ad, e, hc⟩ := h.2.2 hn
  refine ⟨ad, e, fun j p hj => ?_⟩
  obtain ⟨c, hs, hr, hcell⟩ := hc j p hj
  exact ⟨c, hs, hd.K hb hr, fun i u hu => cell_heap hb (hcell i u hu)⟩⟩
theorem heap_int (k : IntKind) : Heap (Kd.int k) := ⟨fun _ h => h⟩
theorem heap_string : Heap Kd.string := ⟨fun _ h => h⟩
theorem heap_slice {α : Type} {d : Kd α} (e : Nat) (hd : Heap d) : Heap (slice e d) := ⟨by
 rintro w w1 x cs hb ⟨A, c, rfl, hl, hr⟩
 exact ⟨A, c, rfl, hl, hd.C hb hr⟩⟩
theorem heap_pair {α β : Type} {a : Kd α} {b : Kd β} (ha : Heap a) (hb' : Heap b) : Heap (pair a b) := ⟨by
 rintro w w1 x cs hb ⟨c0, c1, rfl, h0, h1⟩
 exact ⟨c0, c1, rfl, ha.K hb h0, hb'.K hb h1⟩⟩
theorem heap_iso {α β : Type} {d : Kd α} (f : β → α) (hd : Heap d) : Heap (iso d f) := ⟨fun hb h => hd.K hb h⟩
theorem heap_bot {α : Type} (sz : Nat) (E : List Nat) : Heap (bot sz E : Kd α) := ⟨fun _ h => h⟩
theorem heap_upto {α : Type} {F : Kd α → Kd α} {sz : Nat} {E : List Nat} (hF : ∀ d, Heap d → Heap (F d)) : ∀ n, Heap (upto F sz E n)
 | 0 => heap_bot sz E
 | n + 1 => hF _ (heap_upto hF n)
theorem heap_fix {α : Type} {F : Kd α → Kd α} {sz : Nat} {E : List Nat} {hs : ∀ n, (upto F sz E n).sz = sz} {hE : ∀ n q, q ∈ (upto F sz E n).E → q ∈ E} (hF : ∀ d, Heap d → Heap (F d)) : Heap (fix F sz E hs hE) := ⟨by
 rintro w w1 x cs hb ⟨n, h⟩
 exact ⟨n, (heap_upto hF n).K hb h⟩⟩
section
variable {α : Type} {d : Kd α} {e base g n c : Nat} {ok : Nat → Prop} {w w0 W : World} {A : Option Addr} {xs : List α}
end
end Kd
end Go.Proofs.YtbpnfpckoapdbaaW.PrintWords
end
section
namespace Go.Proofs.YtbpnfpckoapdbaaW.PrintWords
open Go.RowKit
def Kept (w W : World) (S : Nat → Prop) : Prop := w.heap.size ≤ W.heap.size ∧ ∀ i, i < w.heap.size → ¬ S i → W.heap[i]? = w.heap[i]?
section
variable {w W W2 : World} {S S2 S' : Nat → Prop}
theorem Kept.refl (w : World) (S : Nat → Prop) : Kept w w S := ⟨Nat.le_refl _, fun _ _ _ => rfl⟩
theorem Kept.of_below (h : Below w.heap.size w W) (S : Nat → Prop) : Kept w W S := ⟨h.size, fun i hi _ => h.block i hi⟩
theorem Kept.then_ (h : Kept w W S) (k : Kept W W2 S2) (hs : ∀ k, S2 k → S k ∨ w.heap.size ≤ k) : Kept w W2 S :=
 ⟨Nat.le_trans h.1 k.1, fun i hi hn => (k.2 i (Nat.lt_of_lt_of_le hi h.1) (fun h2 => (hs i h2).elim hn (fun h3 => by omega))).trans (h.2 i hi hn)⟩
theorem Kept.below (h : Kept w W S) (hb : Below W.heap.size W W2) : Kept w W2 S := h.then_ (Kept.of_below hb (fun _ => False)) (fun _ hk => hk.elim)
theorem Kept.alloc (h : Kept w W S) (o : Obj) : Kept w (W.alloc o) S := h.below (below_alloc (Below.refl _ _) o)
theorem Kept.drew (h : Kept w W S) : Kept w W.drew S := h
theorem Kept.drewN (h : Kept w W S) (m : Nat) : Kept w (W.drewN m) S := h
theorem Kept.setCell (h : Kept w W S) {p : Addr} (hp : S p.block ∨ w.heap.size ≤ p.block) (u : Value) : Kept w (W.setCell p u) S :=
 h.then_ (S2 := fun k => k = p.block) ⟨by simp [World.setCell], fun i _ hn => Below.heap_setCell W p u i hn⟩ (fun k hk => by rw [hk]; exact hp)
end
namespace Kd
section
variable {α : Type} {d : Kd α} {e base n c : Nat} {ok oki S S2 : Nat → Prop} {w w0 W W1 W2 : World} {v : Value} {A : Option Addr} {xs : List α} {i : Int} {cs : List Value}
end
end Kd
end Go.Proofs.YtbpnfpckoapdbaaW.PrintWords
end
section
namespace Go.Proofs.YtbpnfpckoapdbaaW.PrintWords
open Go.RowKit
/-- P holds in W and in every world that has W's blocks of ok. -/
def Foot (P : World → Prop) (W : World) (ok : Nat → Prop) : Prop := ∀ W' : World, (∀ k, ok k → k < W.heap.size → W'.heap[k]? = W.heap[k]?) → P W'
theorem heap_lt {W W1 : World} {k : Nat} (h : W1.heap[k]? = W.heap[k]?) (hlt : k < W.heap.size) : k < W1.heap.size := by
 rw [Array.getElem?_eq_getElem hlt] at h
 exact (Array.getElem?_eq_some_iff.1 h).1
namespace Foot
variable {P Q : World → Prop} {W W1 : World} {ok ok' : Nat → Prop}
theorem now (h : Foot P W ok) : P W := h W (fun _ _ _ => rfl)
theorem mono (h : Foot P W ok) (hok : ∀ k, ok k → ok' k) : Foot P W ok' := fun W' hW => h W' (fun k hk hlt => hW k (hok k hk) hlt)
theorem bound (h : Foot P W ok) : Foot P W (fun k => ok k ∧ k < W.heap.size) := fun W' hW => h W' (fun k hk hlt => hW k ⟨hk, hlt⟩ hlt)
theorem step (h : Foot P W ok) (hm : ∀ k, ok k → k < W.heap.size → W1.heap[k]? = W.heap[k]?) : Foot P W1 ok := fun W' hW => h W' (fun k hk hlt => (hW k hk (heap_lt (hm k hk hlt) hlt)).trans (hm k hk hlt))
theorem imp (h : Foot P W ok) (hi : ∀ W', P W' → Q W') : Foot Q W ok := fun W' hW => hi W' (h W' hW)
/-- Moved, and still elder than what is new since W. -/
theorem old (h : Foot P W ok) (hb : Below W.heap.size W W1) : Foot P W1 (fun k => ok k ∧ k < W.heap.size) := (h.bound).step (fun k _ hlt => hb.block k hlt)
end Foot
namespace Kd
/-- A row that is only read: what it leads to lies in ok. -/
def F {α : Type} (d : Kd α) (W : World) (ok : Nat → Prop) (A : Option Addr) (n : Nat) (xs : List α) : Prop := Foot (fun W => d.C W A n xs) W ok
/-- An element's cells: what they lead to lies in ok. -/
def FK {α : Type} (d : Kd α) (W : World) (ok : Nat → Prop) (x : α) (c : List Value) : Prop := Foot (fun W => d.K W x c) W ok
section
variable {α β : Type} {d : Kd α} {e base n n' cc g N : Nat} {ok ok' okp S : Nat → Prop} {w w0 w1 W W1 : World} {A A' : Option Addr} {u v v1 : Value} {xs : List α} {xs' : List β} {d' : Kd β} {x : α} {c : List Value}
end
end Kd
end Go.Proofs.YtbpnfpckoapdbaaW.PrintWords
end
section
namespace Go.Proofs.YtbpnfpckoapdbaaW.PrintWords
open Go.RowKit
namespace Kd
section
variable {α : Type} {d : Kd α} {e base n cc g : Nat} {ok ok' okp S : Nat → Prop} {w w1 W W1 : World} {A : Option Addr} {u v v1 : Value} {xs : List α} {x : α} {c : List Value}
/-- A row of elements (type e) of the call's own; what the elements lead to is only read, and is not this row. -/
def N {α : Type} (d : Kd α) (e : Nat) (w : World) (base : Nat) (ok : Nat → Prop) (v : Value) (xs : List α) : Prop :=
 (∀ k, v.ownBlock = some k → ok k) ∧ ∃ rows : List (List Value), rows.length = xs.length ∧ (raw d.sz).R e w base (fun k => some k = v.ownBlock) v rows ∧ ∀ (j : Nat) (x : α) (c : List Value), xs[j]? = some x → rows[j]? = some c → FK d w (fun k => ok k ∧ some k ≠ v.ownBlock) x c
end
end Kd
end Go.Proofs.YtbpnfpckoapdbaaW.PrintWords
end
section
namespace Go.Proofs.YtbpnfpckoapdbaaW.PrintMore
open Go.RowKit Go.Proofs.YtbpnfpckoapdbaaW.PrintWords
namespace Kd
open Go.Proofs.YtbpnfpckoapdbaaW.PrintWords.Kd
end Kd
namespace Kd
open Go.Proofs.YtbpnfpckoapdbaaW.PrintWords.Kd
section
variable {α : Type} {d : Kd α} {e base g N : Nat} {ok : Nat → Prop} {W w1 : World} {u v : Value} {xs : List α}
/-- An elder row over an event that only makes: its blocks are elder than what was made. -/
theorem R_old (hu : d.R e W base ok u xs) (hb : Below W.heap.size W w1) : d.R e w1 base (fun k => ok k ∧ k < W.heap.size) u xs :=
 R_mono (R_below (R_bound hu) hb) (fun _ h => ⟨h.1, h.2.2.1⟩)
/-- It is none of the rows made since. -/
theorem R_told (h : d.R e w1 base (fun k => ok k ∧ k < N) u xs) (hbase : ∀ k, v.ownBlock = some k → N ≤ k) : d.R e w1 base (fun k => (ok k ∧ some k ≠ v.ownBlock) ∧ k < N) u xs :=
 R_mono h (fun k hk => ⟨⟨hk.1, fun e => Nat.lt_irrefl _ (Nat.lt_of_lt_of_le hk.2 (hbase k e.symm))⟩, hk.2⟩)
end
end Kd
/-- 'max' and 'min' of two whole numbers. -/
theorem max2_int (k k' : IntKind) (x y : Int) : Builtin.max2 (.int k x) (.int k' y) = pure (.int k (if x < y then y else x)) := by simp only [Builtin.max2, gt_iff_lt]
theorem min2_int (k k' : IntKind) (x y : Int) : Builtin.min2 (.int k x) (.int k' y) = pure (.int k (if y < x then y else x)) := by simp only [Builtin.min2]
theorem max_two (ats : Array TypeId) (ty : TypeId) (a b : Value) : Builtin.max_ ats ty #[a, b] = (Builtin.max2 a b >>= fun s => pure s) := by simp only [Builtin.max_, List.foldlM_cons, List.foldlM_nil]
theorem min_two (ats : Array TypeId) (ty : TypeId) (a b : Value) : Builtin.min_ ats ty #[a, b] = (Builtin.min2 a b >>= fun s => pure s) := by simp only [Builtin.min_, List.foldlM_cons, List.foldlM_nil]
theorem max_three (ats : Array TypeId) (ty : TypeId) (a b c : Value) : Builtin.max_ ats ty #[a, b, c] = (Builtin.max2 a b >>= fun s => Builtin.max2 s c >>= fun s => pure s) := by simp only [Builtin.max_, List.foldlM_cons, List.foldlM_nil]
theorem min_three (ats : Array TypeId) (ty : TypeId) (a b c : Value) : Builtin.min_ ats ty #[a, b, c] = (Builtin.min2 a b >>= fun s => Builtin.min2 s c >>= fun s => pure s) := by simp only [Builtin.min_, List.foldlM_cons, List.foldlM_nil]
theorem max_four (ats : Array TypeId) (ty : TypeId) (a b c d : Value) : Builtin.max_ ats ty #[a, b, c, d] = (Builtin.max2 a b >>= fun s => Builtin.max2 s c >>= fun s => Builtin.max2 s d >>= fun s => pure s) := by simp only [Builtin.max_, List.foldlM_cons, List.foldlM_nil]
theorem min_four (ats : Array TypeId) (ty : TypeId) (a b c d : Value) : Builtin.min_ ats ty #[a, b, c, d] = (Builtin.min2 a b >>= fun s => Builtin.min2 s c >>= fun s => Builtin.min2 s d >>= fun s => pure s) := by simp only [Builtin.min_, List.foldlM_cons, List.foldlM_nil]
end Go.Proofs.YtbpnfpckoapdbaaW.PrintMore
namespace Go.Proofs.YtbpnfpckoapdbaaW.PrintWords
open Go.RowKit
section
variable {P : Program} {ops : Array Oper} {rest : List Oper} {o : Oper} {a : Act} {Q : Exit → Act → World → Prop} {W : World}
/-- The operation is a call of this function (a cheap look ahead of a dear step). -/
theorem gate_callee {f : FuncId} {as_ : Array Operand} {ts : Array TypeId} (_ho : o.op = .call { callee := .value (.func f), args := as_, argTypes := ts }) (h : wpList P ops Q (o :: rest) a W) : wpList P ops Q (o :: rest) a W := h
/-- The operation is a builtin over these places. -/
theorem gate_builtin {b : Builtin} {xs : Array Operand} {ts : Array TypeId} (_ho : o.op = .call { callee := .builtin b, args := xs, argTypes := ts }) (h : wpList P ops Q (o :: rest) a W) : wpList P ops Q (o :: rest) a W := h
end
namespace Kd
section
variable {α : Type} {d : Kd α} {e base : Nat} {ok : Nat → Prop} {W w1 : World} {v : Value} {xs : List α}
end
section
variable {α : Type} {d : Kd α} {e base g n cap : Nat} {ok oki okp : Nat → Prop} {W : World} {xs : List α} {i : Int} {c : List Value}
end
section
variable {α : Type} {d : Kd α} {e base b b' g N : Nat} {ok ok1 : Nat → Prop} {W W2 w1 : World} {u v : Value} {xs ys : List α} {S : Nat → Prop}
end
end Kd
end Go.Proofs.YtbpnfpckoapdbaaW.PrintWords
namespace Go.Proofs.YtbpnfpckoapdbaaW.PrintWords
open Go.RowKit
namespace Kd
section
variable {α β : Type} {d : Kd α} {e base base' n m c g N' lo hi : Nat} {ok ok' S : Nat → Prop} {w W w1 : World} {A : Option Addr} {ad : Addr} {u v v1 : Value} {xs : List α}
end
end Kd
end Go.Proofs.YtbpnfpckoapdbaaW.PrintWords
end
section
namespace Go.Proofs.Ytbpnfpckoapdbaa.Fx
open Go.RowKit Go.Proofs.YtbpnfpckoapdbaaW.PrintWords
set_option linter.unusedVariables false
/-- Kinds that rise to L. -/
structure Chain {α : Type} (D : Nat → Kd α) (L : Kd α) : Prop where
 sz : ∀ n, (D n).sz = L.sz
 K : ∀ n m, n ≤ m → ∀ w x cs, (D n).K w x cs → (D m).K w x cs
 M : ∀ n m, n ≤ m → ∀ w base ok x cs, (D n).M w base ok x cs → (D m).M w base ok x cs
 KL : ∀ n w x cs, (D n).K w x cs → L.K w x cs
 ML : ∀ n w base ok x cs, (D n).M w base ok x cs → L.M w base ok x cs
 bK : ∀ w x cs, L.K w x cs → ∃ n, (D n).K w x cs
 bM : ∀ w base ok x cs, L.M w base ok x cs → ∃ n, (D n).M w base ok x cs
theorem chain_fix {α : Type} {F : Kd α → Kd α} {sz : Nat} {E : List Nat} (hm : Kd.Mono F) (hs : ∀ n, (Kd.upto F sz E n).sz = sz) (hE : ∀ n q, q ∈ (Kd.upto F sz E n).E → q ∈ E) : Chain (Kd.upto F sz E) (Kd.fix F sz E hs hE) :=
 ⟨hs, fun n m h w x cs hk => Kd.upto_K_le hm hs h hk, fun n m h w base ok x cs hk => Kd.upto_M_le hm hs h hk, fun n w x cs h => ⟨n, h⟩, fun n w base ok x cs h => ⟨n, h⟩, fun w x cs h => h, fun w base ok x cs h => h⟩
theorem chain_const {α : Type} (k : Kd α) : Chain (fun _ => k) k :=
 ⟨fun _ => rfl, fun _ _ _ _ _ _ h => h, fun _ _ _ _ _ _ _ _ h => h, fun _ _ _ _ h => h, fun _ _ _ _ _ _ h => h, fun _ _ _ h => ⟨0, h⟩, fun _ _ _ _ _ h => ⟨0, h⟩⟩
theorem chain_iso {α β : Type} {D : Nat → Kd α} {L : Kd α} (h : Chain D L) (f : β → α) : Chain (fun n => Kd.iso (D n) f) (Kd.iso L f) :=
 ⟨h.sz, fun n m hnm w x cs => h.K n m hnm w (f x) cs, fun n m hnm w base ok x cs => h.M n m hnm w base ok (f x) cs, fun n w x cs => h.KL n w (f x) cs, fun n w base ok x cs => h.ML n w base ok (f x) cs, fun w x cs => h.bK w (f x) cs, fun w base ok x cs => h.bM w base ok (f x) cs⟩
theorem chain_pair {α β : Type} {D : Nat → Kd α} {L : Kd α} {D' : Nat → Kd β} {L' : Kd β} (h : Chain D L) (h' : Chain D' L') : Chain (fun n => Kd.pair (D n) (D' n)) (Kd.pair L L') := by
 refine ⟨fun n => ?_, ?_, ?_, ?_, ?_, ?_, ?_⟩
 · show (D n).sz + (D' n).sz = L.sz + L'.sz
   rw [h.sz, h'.sz]
 · rintro n m hnm w x cs ⟨c0, c1, rfl, h0, h1⟩
   exact ⟨c0, c1, rfl, h.K n m hnm _ _ _ h0, h'.K n m hnm _ _ _ h1⟩
 · rintro n m hnm w base ok x cs ⟨c0, c1, rfl, h0, h1⟩
   exact ⟨c0, c1, rfl, h.M n m hnm _ _ _ _ _ h0, h'.M n m hnm _ _ _ _ _ h1⟩
 · rintro n w x cs ⟨c0, c1, rfl, h0, h1⟩
   exact ⟨c0, c1, rfl, h.KL n _ _ _ h0, h'.KL n _ _ _ h1⟩
 · rintro n w base ok x cs ⟨c0, c1, rfl, h0, h1⟩
   exact ⟨c0, c1, rfl, h.ML n _ _ _ _ _ h0, h'.ML n _ _ _ _ _ h1⟩
 · rintro w x cs ⟨c0, c1, rfl, h0, h1⟩
   obtain ⟨n, hn⟩ := h.bK _ _ _ h0
   obtain ⟨m, hm⟩ := h'.bK _ _ _ h1
   exact ⟨max n m, c0, c1, rfl, h.K _ _ (Nat.le_max_left _ _) _ _ _ hn, h'.K _ _ (Nat.le_max_right _ _) _ _ _ hm⟩
 · rintro w base ok x cs ⟨c0, c1, rfl, h0, h1⟩
   obtain ⟨n, hn⟩ := h.bM _ _ _ _ _ h0
   obtain ⟨m, hm⟩ := h'.bM _ _ _ _ _ h1
   exact ⟨max n m, c0, c1, rfl, h.M _ _ (Nat.le_max_left _ _) _ _ _ _ _ hn, h'.M _ _ (Nat.le_max_right _ _) _ _ _ _ _ hm⟩
theorem Chain.C {α : Type} {D : Nat → Kd α} {L : Kd α} (h : Chain D L) {n : Nat} {w : World} {A : Option Addr} {m : Nat} {xs : List α} (hc : (D n).C w A m xs) : L.C w A m xs := Kd.C_imp (h.sz n) (fun w x cs => h.KL n w x cs) hc
theorem Chain.R {α : Type} {D : Nat → Kd α} {L : Kd α} (h : Chain D L) {n e : Nat} {w : World} {base : Nat} {ok : Nat → Prop} {v : Value} {xs : List α} (hc : (D n).R e w base ok v xs) : L.R e w base ok v xs := Kd.R_imp (h.sz n) (fun w base ok x cs => h.ML n w base ok x cs) hc
theorem Chain.Cle {α : Type} {D : Nat → Kd α} {L : Kd α} (h : Chain D L) {n m : Nat} (hnm : n ≤ m) {w : World} {A : Option Addr} {l : Nat} {xs : List α} (hc : (D n).C w A l xs) : (D m).C w A l xs := Kd.C_imp (by rw [h.sz, h.sz]) (fun w x cs => h.K n m hnm w x cs) hc
theorem Chain.Rle {α : Type} {D : Nat → Kd α} {L : Kd α} (h : Chain D L) {n m : Nat} (hnm : n ≤ m) {e : Nat} {w : World} {base : Nat} {ok : Nat → Prop} {v : Value} {xs : List α} (hc : (D n).R e w base ok v xs) : (D m).R e w base ok v xs := Kd.R_imp (by rw [h.sz, h.sz]) (fun w base ok x cs => h.M n m hnm w base ok x cs) hc
theorem Chain.Rback {α : Type} {D : Nat → Kd α} {L : Kd α} (h : Chain D L) {e : Nat} {w : World} {base : Nat} {ok : Nat → Prop} {v : Value} {xs : List α} (hr : L.R e w base ok v xs) : ∃ n, (D n).R e w base ok v xs := by
 obtain ⟨h0, inner, ho, hr⟩ := hr
 obtain ⟨N, hN⟩ := Kd.reps_bounded (R := fun n p c => (D n).M w base (fun k => ok k ∧ some k ≠ v.ownBlock) p c) (fun n m p c hnm hp => h.M n m hnm _ _ _ _ _ hp) (hr.imp_ (fun p c hp => h.bM _ _ _ _ _ hp))
 refine ⟨N, h0, inner, ?_, ?_⟩
 · rw [h.sz]; exact ho
 · rw [h.sz]; exact hN
theorem Chain.Cback {α : Type} {D : Nat → Kd α} {L : Kd α} (h : Chain D L) {w : World} {A : Option Addr} {m : Nat} {xs : List α} (hc : L.C w A m xs) : ∃ n, (D n).C w A m xs := by
 rcases Nat.eq_zero_or_pos m with hz | hpos
 · subst hz
   exact ⟨0, hc.1, hc.2.1, fun hp => absurd hp (Nat.lt_irrefl 0)⟩
 · obtain ⟨ad, e, hc1⟩ := hc.2.2 hpos
   obtain ⟨N, hN⟩ := Kd.bounded (P := fun n j => ∀ p, xs[j]? = some p → ∃ c, c.length = L.sz ∧ (D n).K w p c ∧ ∀ i u, c[i]? = some u → w.cell? (ad.add (j * L.sz + i)) = some u)
    (fun n n' j hnm hp p hj => by
     obtain ⟨c, h1, h2, h3⟩ := hp p hj
     exact ⟨c, h1, h.K n n' hnm _ _ _ h2, h3⟩) xs.length
    (fun j hj => by
     obtain ⟨c, h1, h2, h3⟩ := hc1 j _ (List.getElem?_eq_getElem hj)
     obtain ⟨n, h2⟩ := h.bK _ _ _ h2
     refine ⟨n, fun p hp => ?_⟩
     rw [List.getElem?_eq_getElem hj] at hp
     injection hp with hp
     rw [← hp]
     exact ⟨c, h1, h2, h3⟩)
   refine ⟨N, hc.1, hc.2.1, fun _ => ⟨ad, e, fun j p hj => ?_⟩⟩
   rw [h.sz]
   exact hN j (List.getElem?_eq_some_iff.1 hj).1 p hj
theorem chain_slice {α : Type} {D : Nat → Kd α} {L : Kd α} (h : Chain D L) (e : Nat) : Chain (fun n => Kd.slice e (D n)) (Kd.slice e L) := by
 refine ⟨fun n => rfl, ?_, ?_, ?_, ?_, ?_, ?_⟩
 · rintro n m hnm w x cs ⟨A, c, rfl, hl, hr⟩
   exact ⟨A, c, rfl, hl, h.Cle hnm hr⟩
 · rintro n m hnm w base ok x cs ⟨v, rfl, hr⟩
   exact ⟨v, rfl, h.Rle hnm hr⟩
 · rintro n w x cs ⟨A, c, rfl, hl, hr⟩
   exact ⟨A, c, rfl, hl, h.C hr⟩
 · rintro n w base ok x cs ⟨v, rfl, hr⟩
   exact ⟨v, rfl, h.R hr⟩
 · rintro w x cs ⟨A, c, rfl, hl, hr⟩
   obtain ⟨n, hn⟩ := h.Cback hr
   exact ⟨n, A, c, rfl, hl, hn⟩
 · rintro w base ok x cs ⟨v, rfl, hr⟩
   obtain ⟨n, hn⟩ := h.Rback hr
   exact ⟨n, v, rfl, hn⟩
/-- A kind nested in itself is what it is made of. -/
theorem fix_K {α : Type} {F : Kd α → Kd α} {sz : Nat} {E : List Nat} {hs : ∀ n, (Kd.upto F sz E n).sz = sz} {hE : ∀ n q, q ∈ (Kd.upto F sz E n).E → q ∈ E} (hm : Kd.Mono F) {w : World} {x : α} {cs : List Value} (h : (Kd.fix F sz E hs hE).K w x cs) : (F (Kd.fix F sz E hs hE)).K w x cs := by
 obtain ⟨n, h⟩ := h
 cases n with
 | zero => exact h.elim
 | succ n => exact hm.K (Kd.upto F sz E n) (Kd.fix F sz E hs hE) (hs n) (fun w x cs hp => show (Kd.fix F sz E hs hE).K w x cs from ⟨n, hp⟩) _ _ _ h
theorem fix_M {α : Type} {F : Kd α → Kd α} {sz : Nat} {E : List Nat} {hs : ∀ n, (Kd.upto F sz E n).sz = sz} {hE : ∀ n q, q ∈ (Kd.upto F sz E n).E → q ∈ E} (hm : Kd.Mono F) {w : World} {base : Nat} {ok : Nat → Prop} {x : α} {cs : List Value} (h : (Kd.fix F sz E hs hE).M w base ok x cs) : (F (Kd.fix F sz E hs hE)).M w base ok x cs := by
 obtain ⟨n, h⟩ := h
 cases n with
 | zero => exact h.elim
 | succ n => exact hm.M (Kd.upto F sz E n) (Kd.fix F sz E hs hE) (hs n) (fun w base ok x cs hp => show (Kd.fix F sz E hs hE).M w base ok x cs from ⟨n, hp⟩) _ _ _ _ _ h
theorem K_fix {α : Type} {F : Kd α → Kd α} {sz : Nat} {E : List Nat} {hs : ∀ n, (Kd.upto F sz E n).sz = sz} {hE : ∀ n q, q ∈ (Kd.upto F sz E n).E → q ∈ E} (hc : Chain (fun n => F (Kd.upto F sz E n)) (F (Kd.fix F sz E hs hE))) {w : World} {x : α} {cs : List Value} (h : (F (Kd.fix F sz E hs hE)).K w x cs) : (Kd.fix F sz E hs hE).K w x cs := by
 obtain ⟨n, hn⟩ := hc.bK _ _ _ h
 exact ⟨n + 1, hn⟩
theorem M_fix {α : Type} {F : Kd α → Kd α} {sz : Nat} {E : List Nat} {hs : ∀ n, (Kd.upto F sz E n).sz = sz} {hE : ∀ n q, q ∈ (Kd.upto F sz E n).E → q ∈ E} (hc : Chain (fun n => F (Kd.upto F sz E n)) (F (Kd.fix F sz E hs hE))) {w : World} {base : Nat} {ok : Nat → Prop} {x : α} {cs : List Value} (h : (F (Kd.fix F sz E hs hE)).M w base ok x cs) : (Kd.fix F sz E hs hE).M w base ok x cs := by
 obtain ⟨n, hn⟩ := hc.bM _ _ _ _ _ h
 exact ⟨n + 1, hn⟩
end Go.Proofs.Ytbpnfpckoapdbaa.Fx
end
section
namespace Go.Proofs.YtbpnfpckoapdbaaW.PrintLast
open Go.Proofs.YtbpnfpckoapdbaaW.PrintWords (Aside0)
def needsOf (md : Region.Mode) (o : Oper) : List Nat := (o.after.toList.filter (fun e => Region.binds md e)).map (fun e => e.on)
def clashOf (md : Region.Mode) (ops : Array Oper) (i : Nat) (oi : Oper) : List Nat := (List.range ops.size).filter fun j => !(j == i) && match ops[j]? with
 | some oj => !(oj.after.any (fun e => Region.binds md e && e.on == i) || oi.apart ops oj)
 | none => false
/-- No select in it; for each operation: what must have come up before it, and what may not come up behind it if it is taken first. -/
def rtab (md : Region.Mode) (ops : Array Oper) : Bool × List (List Nat × List Nat) := (Region.noSelect ops, (List.range ops.size).map fun i => match ops[i]? with
 | some o => (needsOf md o, clashOf md ops i o)
 | none => ([], []))
def readyAt (T : List (List Nat × List Nat)) (l : List Bool) (i : Nat) : Bool := !l.getD i true && match T[i]? with
 | some r => r.1.all (fun j => l.getD j false)
 | none => false
def readyT (T : List (List Nat × List Nat)) (l : List Bool) : List Nat := (List.range T.length).filter (readyAt T l)
def freeT (T : List (List Nat × List Nat)) (l : List Bool) (i : Nat) : Bool := match T[i]? with
 | some r => r.2.all (fun j => l.getD j true)
 | none => false
def closedT (T : List (List Nat × List Nat)) (l : List Bool) : Bool := (List.range T.length).all fun j => !l.getD j false || match T[j]? with
 | some r => r.1.all (fun k => l.getD k false)
 | none => true
def reachT (T : List (List Nat × List Nat)) (i : Nat) : Nat → Nat → Bool
 | 0, _ => false
 | fuel + 1, d => match T[d]? with
  | some r => r.1.any fun j => j == i || reachT T i fuel j
  | none => false
def lastT (T : List (List Nat × List Nat)) (l : List Bool) (ds : List Nat) (i : Nat) : Bool := ds.all fun d => l.getD d true || reachT T i T.length d
section
variable {md : Region.Mode} {ops : Array Oper} {T : Bool × List (List Nat × List Nat)} {l l' li lj lk : Array Bool} {ds : List Nat} {i j k : Nat}
theorem gd (l : Array Bool) (j : Nat) (b : Bool) : l.getD j b = l.toList.getD j b := by simp [Array.getD_eq_getD_getElem?, List.getD_eq_getElem?_getD]
theorem needs_all (o : Oper) (p : Nat → Bool) : o.after.all (fun e => !Region.binds md e || p e.on) = (needsOf md o).all p := by
 unfold needsOf
 rw [← Array.all_toList]
 induction o.after.toList with
 | nil => rfl
 | cons e r ih =>
  rw [List.all_cons, ih, List.filter_cons]
  cases h : Region.binds md e <;> simp
theorem needs_any (o : Oper) (p : Nat → Bool) : o.after.any (fun e => Region.binds md e && p e.on) = (needsOf md o).any p := by
 unfold needsOf
 rw [← Array.any_toList]
 induction o.after.toList with
 | nil => rfl
 | cons e r ih =>
  rw [List.any_cons, ih, List.filter_cons]
  cases h : Region.binds md e <;> simp
theorem rtab_length : (rtab md ops).2.length = ops.size := by simp [rtab]
theorem rtab_some {o : Oper} (h : ops[i]? = some o) : (rtab md ops).2[i]? = some (needsOf md o, clashOf md ops i o) := by
 have hi := (Array.getElem?_eq_some_iff.1 h).1
 unfold rtab
 rw [List.getElem?_map, List.getElem?_range hi, Option.map_some, h]
theorem rtab_none (h : ops[i]? = none) : (rtab md ops).2[i]? = none := by
 have hi : ops.size ≤ i := Array.getElem?_eq_none_iff.1 h
 exact List.getElem?_eq_none (by rw [rtab_length]; exact hi)
theorem readyAt_eq : readyAt (rtab md ops).2 l.toList i = (!l.getD i true && ((ops[i]?).map (·.after.all fun e => !Region.binds md e || l.getD e.on false)).getD false) := by
 unfold readyAt
 rw [gd]
 cases h : ops[i]? with
 | none => rw [rtab_none h]; rfl
 | some o =>
  rw [rtab_some h]
  simp only [Option.map_some, Option.getD_some]
  rw [← needs_all]
  simp only [gd]
theorem ready_eq : Region.ready md ops l = readyT (rtab md ops).2 l.toList := by
 unfold Region.ready readyT
 rw [rtab_length]
 refine List.filter_congr (fun i _ => ?_)
 rw [readyAt_eq]
theorem free_eq : Region.free md ops l i = freeT (rtab md ops).2 l.toList i := by
 unfold Region.free freeT
 cases h : ops[i]? with
 | none => rw [rtab_none h]
 | some oi =>
  rw [rtab_some h]
  simp only [clashOf]
  rw [List.all_filter]
  congr 1
  funext j
  rw [gd]
  cases hj : ops[j]? with
  | none => cases (j == i) <;> cases (l.toList.getD j true) <;> simp
  | some oj =>
   cases (j == i) <;> cases (l.toList.getD j true) <;> cases (oj.after.any (fun e => Region.binds md e && e.on == i) || oi.apart ops oj) <;> simp_all
theorem closed_eq : Region.closedB md ops l = closedT (rtab md ops).2 l.toList := by
 unfold Region.closedB closedT
 rw [rtab_length]
 congr 1
 funext j
 rw [gd]
 cases h : ops[j]? with
 | none => rw [rtab_none h]
 | some o =>
  rw [rtab_some h]
  simp only
  rw [← needs_all]
  simp only [gd]
theorem reach_eq : ∀ (fuel d : Nat), Region.reachB md ops i fuel d = reachT (rtab md ops).2 i fuel d
 | 0, _ => rfl
 | fuel + 1, d => by
  unfold Region.reachB reachT
  cases h : ops[d]? with
  | none => rw [rtab_none h]
  | some o =>
   rw [rtab_some h]
   simp only
   rw [← needs_any]
   congr 1
   funext e
   rw [reach_eq fuel]
theorem last_eq : Region.lastB md ops l ds i = lastT (rtab md ops).2 l.toList ds i := by
 unfold Region.lastB lastT
 rw [rtab_length]
 congr 1
 funext d
 rw [gd, reach_eq]
theorem readyAt_mem (h : readyAt T.2 l.toList i = true) (hT : rtab md ops = T) : (Region.ready md ops l).contains i = true := by
 subst hT
 rw [ready_eq]
 unfold readyT
 rw [List.contains_iff_mem, List.mem_filter, List.mem_range]
 refine ⟨?_, h⟩
 unfold readyAt at h
 rw [Bool.and_eq_true] at h
 cases hq : (rtab md ops).2[i]? with
 | none => rw [hq] at h; simp at h
 | some r => exact (List.getElem?_eq_some_iff.1 hq).1
theorem set_of (h : (l.toList.set i true == l'.toList) = true) : (l.setIfInBounds i true == l') = true := by
 rw [beq_iff_eq] at h ⊢
 apply Array.ext'
 rw [Array.toList_setIfInBounds]
 exact h
def anyT (T : Bool × List (List Nat × List Nat)) (l l' : List Bool) (i : Nat) : Bool := T.1 && freeT T.2 l i && readyAt T.2 l i && (l.set i true == l')
/-- pure_'s condition out of the table. -/
theorem any_of (hT : rtab md ops = T) (h : anyT T l.toList l'.toList i = true) : anyB md ops l l' i = true := by
 simp only [anyT, Bool.and_eq_true] at h
 obtain ⟨⟨⟨h1, h2⟩, h3⟩, h4⟩ := h
 have h5 := readyAt_mem h3 hT
 have h6 := set_of h4
 subst hT
 simp only [anyB, Bool.and_eq_true]
 exact ⟨⟨⟨h1, by rw [free_eq]; exact h2⟩, h5⟩, h6⟩
def takeT (T : Bool × List (List Nat × List Nat)) (ds : List Nat) (l l' : List Bool) (i : Nat) : Bool := T.1 && freeT T.2 l i && readyAt T.2 l i && closedT T.2 l && lastT T.2 l ds i && (l.set i true == l')
/-- take_'s. -/
theorem take_of (hT : rtab md ops = T) (h : takeT T ds l.toList l'.toList i = true) : takeB md ops ds l l' i = true := by
 simp only [takeT, Bool.and_eq_true] at h
 obtain ⟨⟨⟨⟨⟨h1, h2⟩, h3⟩, h4⟩, h5⟩, h6⟩ := h
 have h7 := readyAt_mem h3 hT
 have h8 := set_of h6
 subst hT
 simp only [takeB, Bool.and_eq_true]
 exact ⟨⟨⟨⟨⟨h1, by rw [free_eq]; exact h2⟩, h7⟩, by rw [closed_eq]; exact h4⟩, by rw [last_eq]; exact h5⟩, h8⟩
/-- one_'s and last_'s. -/
theorem one_of (hT : rtab md ops = T) (h : (readyT T.2 l.toList == [i] && l.toList.set i true == l'.toList) = true) : readyB md ops l l' i = true := by
 simp only [Bool.and_eq_true] at h
 obtain ⟨h1, h2⟩ := h
 subst hT
 simp only [readyB, Bool.and_eq_true]
 exact ⟨by rw [ready_eq]; exact h1, set_of h2⟩
/-- done_'s. -/
theorem done_of (hT : rtab md ops = T) (h : (readyT T.2 l.toList == []) = true) : (Region.ready md ops l == []) = true := by
 subst hT
 rw [ready_eq]
 exact h
/-- What d waits for, as_ bits: told in the table (B), checked in one pass: each bit is a need of d, or a bit of an earlier need's. -/
def upM (B : List Nat) (d : Nat) : List Nat → Nat
 | [] => 0
 | n :: r => (2 ^ n ||| (if n < d then B.getD n 0 else 0)) ||| upM B d r
def waitsOk (T : List (List Nat × List Nat)) (B : List Nat) : Bool := (List.range T.length).all fun d => match T[d]? with
 | some r => (B.getD d 0 ||| upM B d r.1) == upM B d r.1
 | none => false
theorem upM_bit {B : List Nat} {d i : Nat} : ∀ {ns : List Nat}, (upM B d ns).testBit i = true → ∃ n ∈ ns, n = i ∨ (n < d ∧ (B.getD n 0).testBit i = true)
 | [], h => by simp [upM] at h
 | n :: r, h => by
  unfold upM at h
  rw [Nat.testBit_or, Nat.testBit_or, Bool.or_eq_true, Bool.or_eq_true] at h
  rcases h with (h | h) | h
  · rw [Nat.testBit_two_pow] at h
    exact ⟨n, List.mem_cons_self, .inl (by simpa using h)⟩
  · by_cases hn : n < d
    · rw [if_pos hn] at h
      exact ⟨n, List.mem_cons_self, .inr ⟨hn, h⟩⟩
    · rw [if_neg hn] at h
      simp at h
  · obtain ⟨m, hm, h2⟩ := upM_bit h
    exact ⟨m, List.mem_cons_of_mem _ hm, h2⟩
theorem reach_bit {T : List (List Nat × List Nat)} {B : List Nat} (hB : waitsOk T B = true) : ∀ (fuel d : Nat), d < fuel → d < T.length → (B.getD d 0).testBit i = true → reachT T i fuel d = true
 | 0, d, h, _, _ => by omega
 | fuel + 1, d, h, hd, hb => by
  have h1 := List.all_eq_true.1 hB d (List.mem_range.2 hd)
  cases hr : T[d]? with
  | none => rw [hr] at h1; simp at h1
  | some r =>
   rw [hr] at h1
   simp only [beq_iff_eq] at h1
   have h2 : (upM B d r.1).testBit i = true := by rw [← h1, Nat.testBit_or, hb, Bool.true_or]
   obtain ⟨n, hn, h3⟩ := upM_bit h2
   unfold reachT
   rw [hr]
   simp only
   rw [List.any_eq_true]
   refine ⟨n, hn, ?_⟩
   rcases h3 with rfl | ⟨h4, h5⟩
   · simp
   · rw [reach_bit hB fuel n (by omega) (by omega) h5, Bool.or_true]
def lastW (T : List (List Nat × List Nat)) (B : List Nat) (l : List Bool) (ds : List Nat) (i : Nat) : Bool := ds.all fun d => l.getD d true || (decide (d < T.length) && (B.getD d 0).testBit i)
def takeW (T : Bool × List (List Nat × List Nat)) (B : List Nat) (ds : List Nat) (l l' : List Bool) (i : Nat) : Bool := T.1 && freeT T.2 l i && readyAt T.2 l i && closedT T.2 l && lastW T.2 B l ds i && (l.set i true == l')
/-- take_'s, by the bits. -/
theorem take_ofW {B : List Nat} (hT : rtab md ops = T) (hB : waitsOk T.2 B = true) (h : takeW T B ds l.toList l'.toList i = true) : takeB md ops ds l l' i = true := by
 refine take_of hT ?_
 simp only [takeW, takeT, Bool.and_eq_true] at h ⊢
 obtain ⟨⟨⟨⟨⟨h1, h2⟩, h3⟩, h4⟩, h5⟩, h6⟩ := h
 refine ⟨⟨⟨⟨⟨h1, h2⟩, h3⟩, h4⟩, ?_⟩, h6⟩
 unfold lastW at h5
 unfold lastT
 rw [List.all_eq_true] at h5 ⊢
 intro d hd
 have h7 := h5 d hd
 rw [Bool.or_eq_true, Bool.and_eq_true, decide_eq_true_eq] at h7
 rcases h7 with h7 | ⟨h8, h9⟩
 · rw [h7, Bool.true_or]
 · rw [reach_bit hB _ d h8 h8 h9, Bool.or_true]
theorem with_tabW {P : Program} {Q : Exit → Act → World → Prop} {S : World → Prop} {n : Nat} {a : Act} {w : World} {B : List Nat} (hT : rtab md ops = T) (hB : waitsOk T.2 B = true) (h : Aside0 (rtab md ops = T) → Aside0 (waitsOk T.2 B = true) → wpAnyLast P md ops Q S ds n l a w) : wpAnyLast P md ops Q S ds n l a w := h ⟨hT⟩ ⟨hB⟩
end
/-- The operations of a region, by its number. -/
def opsIn : Code → Nat → Option (Array Oper)
 | .region id ops _, k => if id == k then some ops else none
 | .seq a b, k => match opsIn a k with
  | some o => some o
  | none => opsIn b k
 | .cond _ a b, k => match opsIn a k with
  | some o => some o
  | none => opsIn b k
 | .block _ c, k => opsIn c k
 | .loop c, k => opsIn c k
 | .scope c, k => opsIn c k
 | .rangeFunc _ _ a b, k => match opsIn a k with
  | some o => some o
  | none => opsIn b k
 | _, _ => none
def opsOf (f : Func) (k : Nat) : Array Oper := ((f.body.bind fun c => opsIn c k)).getD #[]
end Go.Proofs.YtbpnfpckoapdbaaW.PrintLast
end
section
namespace Go.Proofs.YtbpnfpckoapdbaaW.PrintLast
open Go.Proofs.YtbpnfpckoapdbaaW.PrintWords (Aside0)
def zb (n m : Nat) : Array Bool := ((List.range n).map fun i => m.testBit i).toArray
section
variable {P : Program} {ops : Array Oper} {Q : Exit → Act → World → Prop} {md : Region.Mode} {S : World → Prop} {ds : List Nat}
theorem zp (i : Nat) (l' : Array Bool) {N : Tmp} {oi : Oper} (v : Value) {fuel : Nat} {l : Array Bool} {a : Act} {w : World} {T : Bool × List (List Nat × List Nat)} (hi : ops[i]? = some oi) (hN : oi.dst = some N) (hT : Aside0 (rtab md ops = T)) (hk : anyT T l.toList l'.toList i = true)
 (hQ : ∀ c a w, Q (.panic c) (a.put oi.dst v) w → Q (.panic c) a w) (hw : Region.wanted oi (yielded ops a.tmps) = true) (hv : ∀ w, (execOp a.eval oi).run P w = .ok (.value v) w) (a' : Act) (ha : a.put (some N) v = a')
 (h : wpAnyLast P md ops Q S ds fuel l' a' w) : wpAnyLast P md ops Q S ds (fuel + 1) l a w := pure_ l' hi hN (any_of hT.out hk) hQ (Or.inl ⟨hw, hv⟩) ha h
theorem zt (i : Nat) (l' : Array Bool) {N : Tmp} {oi : Oper} (v : Value) {fuel : Nat} {l : Array Bool} {a : Act} {w : World} {T : Bool × List (List Nat × List Nat)} {B : List Nat} (hi : ops[i]? = some oi) (hN : oi.dst = some N) (hT : Aside0 (rtab md ops = T)) (hB : Aside0 (waitsOk T.2 B = true)) (hk : takeW T B ds l.toList l'.toList i = true)
 (hQ : ∀ c a w, Q (.panic c) (a.put oi.dst v) w → Q (.panic c) a w) (hw : Region.wanted oi (yielded ops a.tmps) = true) (hv : ∀ w, S w → (execOp a.eval oi).run P w = .ok (.value v) w) (hS : S w) (a' : Act) (ha : a.put (some N) v = a')
 (h : wpAnyLast P md ops Q S ds fuel l' a' w) : wpAnyLast P md ops Q S ds (fuel + 1) l a w := take_ l' hi hN (take_ofW hT.out hB.out hk) hQ (Or.inl ⟨hw, hv⟩) hS ha h
theorem zn (i : Nat) (l' : Array Bool) {N : Tmp} {oi : Oper} {fuel : Nat} {l : Array Bool} {a : Act} {w : World} {T : Bool × List (List Nat × List Nat)} (hi : ops[i]? = some oi) (hN : oi.dst = some N) (hT : Aside0 (rtab md ops = T)) (hk : anyT T l.toList l'.toList i = true)
 (hQ : ∀ c a w, Q (.panic c) (a.put oi.dst undef) w → Q (.panic c) a w) (hw : Region.wanted oi (yielded ops a.tmps) = false) (a' : Act) (ha : a.put (some N) undef = a')
 (h : wpAnyLast P md ops Q S ds fuel l' a' w) : wpAnyLast P md ops Q S ds (fuel + 1) l a w := pure_ l' hi hN (any_of hT.out hk) hQ (Or.inr ⟨hw, rfl⟩) ha h
end
theorem zs : (∀ (a : Act) (d : Tmp) (v : Value), a.put (some d) v = { a with tmps := a.tmps.setIfInBounds d v }) ∧ (∀ (l : List Value) (i : Nat) (v : Value), l.toArray.setIfInBounds i v = (l.set i v).toArray) ∧ (∀ (a b : Value) (l : List Value), (a :: l).set 0 b = b :: l) ∧ (∀ (a b : Value) (n : Nat) (l : List Value), (a :: l).set (n + 1) b = a :: l.set n b) ∧ (∀ n : Int, IntKind.i64.wrap n = Go.RowKit.wrap64 n) ∧ (∀ n : Int, IntKind.i32.wrap n = Go.RowKit.wrap32 n) :=
 ⟨fun _ _ _ => rfl, fun _ _ _ => List.setIfInBounds_toArray .., fun _ _ _ => rfl, fun _ _ _ _ => rfl, i64_w, i32_w⟩
end Go.Proofs.YtbpnfpckoapdbaaW.PrintLast
end
section
namespace Go.Proofs.YtbpnfpckoapdbaaW.PrintWords
open Go.RowKit
section
variable {P : Program} {d : Nat} {xs ys : Array Value} {f : Field} {fs : List Field} {a b : Value} {r s : Bool} {w : World}
/-- The last field that counts. -/
theorem eqf_last (hn : (f.name == "_") = false) (ha : (part f.type xs f.offset).run P w = .ok a w) (hb : (part f.type ys f.offset).run P w = .ok b w) (he : (Op.equalIn d f.type a b).run P w = .ok r w) : (Op.eqFields d xs ys [f]).run P w = .ok r w := by
 have hn' : f.name ≠ "_" := by simpa using hn
 simp only [Op.eqFields, if_pos hn', Sem.run_bind, ha, hb, he, Result.andThen_ok]
 cases r <;> simp
theorem eqf_cons (hn : (f.name == "_") = false) (ha : (part f.type xs f.offset).run P w = .ok a w) (hb : (part f.type ys f.offset).run P w = .ok b w) (he : (Op.equalIn d f.type a b).run P w = .ok r w) (hr : (Op.eqFields d xs ys fs).run P w = .ok s w) : (Op.eqFields d xs ys (f :: fs)).run P w = .ok (r && s) w := by
 have hn' : f.name ≠ "_" := by simpa using hn
 rw [Op.eqFields]
 simp only [if_pos hn', Sem.run_bind, ha, hb, he, Result.andThen_ok]
 cases r
 · simp
 · simpa using hr
theorem eqA_of {t : TypeId} {fs : Array Field} (hu : P.underlying t = some (.struct fs)) (hp : P.stoodInHeld t = false) (h : (Op.eqFields d xs ys fs.toList).run P w = .ok r w) : (Op.equalIn (d + 1) t (.agg xs) (.agg ys)).run P w = .ok r w := by
 have hf : P.fieldsOf t = fs := by simp [Program.fieldsOf, hu]
 rw [run_equalIn_struct (P := P) w d t xs ys (by rw [hf]; exact hu) hp, hf]
 exact h
end
end Go.Proofs.YtbpnfpckoapdbaaW.PrintWords
end
section
namespace Go.Proofs.YtbpnfpckoapdbaaW.PrintWords
/-- One cell an element. -/
theorem Reps.one {α : Type} {R : α → List Value → Prop} {ps : List α} {cs : List Value} {p : α} {v : Value} (hp : R p [v]) (h : Reps R 1 ps cs) : Reps R 1 (p :: ps) (v :: cs) := by
 refine ⟨by simp [h.1], fun j q hq => ?_⟩
 cases j with
 | zero =>
  simp only [List.getElem?_cons_zero, Option.some.injEq] at hq
  subst hq
  simpa using hp
 | succ j =>
  simp only [List.getElem?_cons_succ] at hq
  have h1 := h.2 j q hq
  simpa [Nat.mul_one] using h1
end Go.Proofs.YtbpnfpckoapdbaaW.PrintWords
end
section
namespace Go.Proofs.YtbpnfpckoapdbaaW.PrintLast
/-- Number i is listed too. -/
def up (b : Nat → Bool) (i : Nat) : Nat → Bool := fun j => if j = i then true else b j
section
variable {P : Program} {ops : Array Oper} {Q : Exit → Act → World → Prop} {md : Region.Mode} {T : Bool × List (List Nat × List Nat)} {B : List Nat} {O : List Nat} {b : Nat → Bool} {i j n : Nat}
end
end Go.Proofs.YtbpnfpckoapdbaaW.PrintLast
end
section
namespace Go.Proofs.Ytbpnfpckoapdbaa.KD
open Go.RowKit Go.Proofs.YtbpnfpckoapdbaaW.PrintWords Go.Proofs.YtbpnfpckoapdbaaW.PrintLast Go.Proofs.YtbpnfpckoapdbaaW.PrintMore Go.Proofs.Ytbpnfpckoapdbaa
set_option linter.unusedVariables false
set_option linter.unusedSimpArgs false
structure S8 where
 f0 : Int
 f1 : Int
 f2 : Bool
 f3 : Int
structure S14 where
 f0 : ByteArray
 f1 : Int
structure S73 where
 f0 : Int
 f1 : Int
 f2 : Int
 f3 : ByteArray
def z73 : S73 := ⟨(0 : Int), (0 : Int), (0 : Int), (⟨#[]⟩ : ByteArray)⟩
def k73 : Kd S73 := Kd.iso (Kd.pair (Kd.int .i64) (Kd.pair (Kd.int .i64) (Kd.pair (Kd.int .u64) Kd.string))) (fun x : S73 => (x.f0, x.f1, x.f2, x.f3))
theorem k73_heap : Kd.Heap k73 := Kd.heap_iso _ (Kd.heap_pair (Kd.heap_int .i64) (Kd.heap_pair (Kd.heap_int .i64) (Kd.heap_pair (Kd.heap_int .u64) Kd.heap_string)))
theorem k73_open {w : World} {x : S73} {cs : List Value} (h : k73.K w x cs) : cs = [.int .i64 x.f0, .int .i64 x.f1, .int .u64 x.f2, .string x.f3] := by
 obtain ⟨_, _, rfl, rfl, ⟨_, _, rfl, rfl, ⟨_, _, rfl, rfl, rfl⟩⟩⟩ := h
 exact rfl
theorem k73_openM {w : World} {base : Nat} {ok : Nat → Prop} {x : S73} {cs : List Value} (h : k73.M w base ok x cs) : cs = [.int .i64 x.f0, .int .i64 x.f1, .int .u64 x.f2, .string x.f3] := by
 obtain ⟨_, _, rfl, rfl, ⟨_, _, rfl, rfl, ⟨_, _, rfl, rfl, rfl⟩⟩⟩ := h
 exact rfl
theorem k73_mkM (w : World) (base : Nat) (ok : Nat → Prop) (x : S73)  : k73.M w base ok x [.int .i64 x.f0, .int .i64 x.f1, .int .u64 x.f2, .string x.f3] := ⟨[.int .i64 x.f0], [.int .i64 x.f1, .int .u64 x.f2, .string x.f3], rfl, rfl, ⟨[.int .i64 x.f1], [.int .u64 x.f2, .string x.f3], rfl, rfl, ⟨[.int .u64 x.f2], [.string x.f3], rfl, rfl, rfl⟩⟩⟩
def rd_T73 (xs : List S73) (i : Int) : S73 := xs.getD i.toNat z73
theorem at_T73 {w : World} {A : Option Addr} {n : Nat} {xs : List S73} (h : Kd.C k73 w A n xs) (i : Int) (h0 : 0 ≤ i) (h1 : i < n) : ∃ ad , A = some ad ∧ w.cell? (ad.add (i.toNat * 4)) = some (.int .i64 (rd_T73 xs i).f0) ∧ w.cell? ⟨(ad.add (i.toNat * 4)).block, (ad.add (i.toNat * 4)).off + 1, none⟩ = some (.int .i64 (rd_T73 xs i).f1) ∧ w.cell? ⟨(ad.add (i.toNat * 4)).block, (ad.add (i.toNat * 4)).off + 2, none⟩ = some (.int .u64 (rd_T73 xs i).f2) ∧ w.cell? ⟨(ad.add (i.toNat * 4)).block, (ad.add (i.toNat * 4)).off + 3, none⟩ = some (.string (rd_T73 xs i).f3) := by
 obtain ⟨ad, c, e, _, hK, hc0⟩ := Kd.C_get h z73 i h0 h1
 have hc : ∀ j u, c[j]? = some u → w.cell? (ad.add (i.toNat * 4 + j)) = some u := hc0
 obtain rfl := k73_open hK
 exact ⟨ad, e, hc 0 _ rfl, by rw [← add_field _ _ 1 (by omega)]; exact hc 1 _ rfl, by rw [← add_field _ _ 2 (by omega)]; exact hc 2 _ rfl, by rw [← add_field _ _ 3 (by omega)]; exact hc 3 _ rfl⟩
mutual
structure S70 where
 f0 : Int
 f1 : ByteArray
 f2 : List S25
structure S59 where
 f0 : Int
 f1 : List S70
structure S25 where
 f0 : List S59
 f1 : (List S73)
end
def z70 : S70 := ⟨0, ⟨#[]⟩, []⟩
def z59 : S59 := ⟨0, []⟩
def z25 : S25 := ⟨[], ([] : List S73)⟩
def g70 (d : Kd S25) : Kd S70 := Kd.iso (Kd.pair (Kd.int .u64) (Kd.pair Kd.string (Kd.slice 25 d))) (fun x : S70 => (x.f0, x.f1, x.f2))
theorem mono70 : Kd.Mono g70 := Kd.mono_iso _ (Kd.mono_pair (Kd.mono_const _) (Kd.mono_pair (Kd.mono_const _) (Kd.mono_slice 25 Kd.mono_id)))
theorem sub70 : Kd.Sub g70 [25, 59, 70, 73] := Kd.sub_iso _ (Kd.sub_pair (Kd.sub_const _ (by decide)) (Kd.sub_pair (Kd.sub_const _ (by decide)) (Kd.sub_slice 25 (by decide) Kd.sub_id)))
theorem g70_heap {d : Kd S25} (h_ : Kd.Heap d) : Kd.Heap (g70 d) := Kd.heap_iso _ (Kd.heap_pair (Kd.heap_int .u64) (Kd.heap_pair Kd.heap_string (Kd.heap_slice 25 h_)))
theorem chain70 {D : Nat → Kd S25} {L : Kd S25} (h_ : Fx.Chain D L) : Fx.Chain (fun n => g70 (D n)) (g70 L) := Fx.chain_iso (Fx.chain_pair (Fx.chain_const _) (Fx.chain_pair (Fx.chain_const _) (Fx.chain_slice h_ 25))) _
def g59 (d : Kd S25) : Kd S59 := Kd.iso (Kd.pair (Kd.int .i64) (Kd.slice 70 (g70 d))) (fun x : S59 => (x.f0, x.f1))
theorem mono59 : Kd.Mono g59 := Kd.mono_iso _ (Kd.mono_pair (Kd.mono_const _) (Kd.mono_slice 70 mono70))
theorem sub59 : Kd.Sub g59 [25, 59, 70, 73] := Kd.sub_iso _ (Kd.sub_pair (Kd.sub_const _ (by decide)) (Kd.sub_slice 70 (by decide) sub70))
theorem g59_heap {d : Kd S25} (h_ : Kd.Heap d) : Kd.Heap (g59 d) := Kd.heap_iso _ (Kd.heap_pair (Kd.heap_int .i64) (Kd.heap_slice 70 (g70_heap h_)))
theorem chain59 {D : Nat → Kd S25} {L : Kd S25} (h_ : Fx.Chain D L) : Fx.Chain (fun n => g59 (D n)) (g59 L) := Fx.chain_iso (Fx.chain_pair (Fx.chain_const _) (Fx.chain_slice (chain70 h_) 70)) _
def F25 (d : Kd S25) : Kd S25 := Kd.iso (Kd.pair (Kd.slice 59 (g59 d)) (Kd.slice 73 k73)) (fun x : S25 => (x.f0, x.f1))
theorem mono25 : Kd.Mono F25 := Kd.mono_iso _ (Kd.mono_pair (Kd.mono_slice 59 mono59) (Kd.mono_const _))
theorem sub25 : Kd.Sub F25 [25, 59, 70, 73] := Kd.sub_iso _ (Kd.sub_pair (Kd.sub_slice 59 (by decide) sub59) (Kd.sub_const _ (by decide)))
theorem F25_heap {d : Kd S25} (h_ : Kd.Heap d) : Kd.Heap (F25 d) := Kd.heap_iso _ (Kd.heap_pair (Kd.heap_slice 59 (g59_heap h_)) (Kd.heap_slice 73 k73_heap))
theorem chain25 {D : Nat → Kd S25} {L : Kd S25} (h_ : Fx.Chain D L) : Fx.Chain (fun n => F25 (D n)) (F25 L) := Fx.chain_iso (Fx.chain_pair (Fx.chain_slice (chain59 h_) 59) (Fx.chain_const _)) _
theorem sz25 : ∀ n, (Kd.upto F25 2 [25, 59, 70, 73] n).sz = 2 := Kd.upto_sz (fun _ => rfl)
def k25 : Kd S25 := Kd.fix F25 2 [25, 59, 70, 73] sz25 (Kd.upto_E sub25)
theorem k25_heap : Kd.Heap k25 := Kd.heap_fix (fun _ h_ => F25_heap h_)
def k70 : Kd S70 := g70 k25
def k59 : Kd S59 := g59 k25
def kk25 : Kd S25 := Kd.iso (Kd.pair (Kd.slice 59 k59) (Kd.slice 73 k73)) (fun x : S25 => (x.f0, x.f1))
theorem un25K {w : World} {x : S25} {cs : List Value} (h : k25.K w x cs) : kk25.K w x cs := Fx.fix_K mono25 h
theorem un25M {w : World} {base : Nat} {ok : Nat → Prop} {x : S25} {cs : List Value} (h : k25.M w base ok x cs) : kk25.M w base ok x cs := Fx.fix_M mono25 h
theorem fo25K {w : World} {x : S25} {cs : List Value} (h : kk25.K w x cs) : k25.K w x cs := Fx.K_fix (chain25 (Fx.chain_fix mono25 sz25 (Kd.upto_E sub25))) h
theorem fo25M {w : World} {base : Nat} {ok : Nat → Prop} {x : S25} {cs : List Value} (h : kk25.M w base ok x cs) : k25.M w base ok x cs := Fx.M_fix (chain25 (Fx.chain_fix mono25 sz25 (Kd.upto_E sub25))) h
theorem k70_open {w : World} {x : S70} {cs : List Value} (h : k70.K w x cs) : ∃ A2 c2, cs = [.int .u64 x.f0, .string x.f1, .slice A2 x.f2.length c2] ∧ x.f2.length ≤ c2 ∧ k25.C w A2 x.f2.length x.f2 := by
 obtain ⟨_, _, rfl, rfl, ⟨_, _, rfl, rfl, ⟨A2, c2, rfl, l2, g2⟩⟩⟩ := h
 exact ⟨A2, c2, rfl, l2, g2⟩
theorem k70_mkM (w : World) (base : Nat) (ok : Nat → Prop) (x : S70) {v2 : Value} (g2 : k25.R 25 w base ok v2 x.f2) : k70.M w base ok x [.int .u64 x.f0, .string x.f1, v2] := ⟨[.int .u64 x.f0], [.string x.f1, v2], rfl, rfl, ⟨[.string x.f1], [v2], rfl, rfl, ⟨v2, rfl, g2⟩⟩⟩
def rd_T70 (xs : List S70) (i : Int) : S70 := xs.getD i.toNat z70
theorem at_T70 {w : World} {A : Option Addr} {n : Nat} {xs : List S70} (h : Kd.C k70 w A n xs) (i : Int) (h0 : 0 ≤ i) (h1 : i < n) : ∃ ad A2 c2, A = some ad ∧ w.cell? (ad.add (i.toNat * 3)) = some (.int .u64 (rd_T70 xs i).f0) ∧ w.cell? ⟨(ad.add (i.toNat * 3)).block, (ad.add (i.toNat * 3)).off + 1, none⟩ = some (.string (rd_T70 xs i).f1) ∧ w.cell? ⟨(ad.add (i.toNat * 3)).block, (ad.add (i.toNat * 3)).off + 2, none⟩ = some (.slice A2 (rd_T70 xs i).f2.length c2) ∧ (rd_T70 xs i).f2.length ≤ c2 ∧ k25.C w A2 (rd_T70 xs i).f2.length (rd_T70 xs i).f2 := by
 obtain ⟨ad, c, e, _, hK, hc0⟩ := Kd.C_get h z70 i h0 h1
 have hc : ∀ j u, c[j]? = some u → w.cell? (ad.add (i.toNat * 3 + j)) = some u := hc0
 obtain ⟨A2, c2, rfl, l2, g2⟩ := k70_open hK
 exact ⟨ad, A2, c2, e, hc 0 _ rfl, by rw [← add_field _ _ 1 (by omega)]; exact hc 1 _ rfl, by rw [← add_field _ _ 2 (by omega)]; exact hc 2 _ rfl, l2, g2⟩
theorem k59_open {w : World} {x : S59} {cs : List Value} (h : k59.K w x cs) : ∃ A1 c1, cs = [.int .i64 x.f0, .slice A1 x.f1.length c1] ∧ x.f1.length ≤ c1 ∧ k70.C w A1 x.f1.length x.f1 := by
 obtain ⟨_, _, rfl, rfl, ⟨A1, c1, rfl, l1, g1⟩⟩ := h
 exact ⟨A1, c1, rfl, l1, g1⟩
theorem k59_mkM (w : World) (base : Nat) (ok : Nat → Prop) (x : S59) {v1 : Value} (g1 : k70.R 70 w base ok v1 x.f1) : k59.M w base ok x [.int .i64 x.f0, v1] := ⟨[.int .i64 x.f0], [v1], rfl, rfl, ⟨v1, rfl, g1⟩⟩
def rd_T59 (xs : List S59) (i : Int) : S59 := xs.getD i.toNat z59
theorem at_T59 {w : World} {A : Option Addr} {n : Nat} {xs : List S59} (h : Kd.C k59 w A n xs) (i : Int) (h0 : 0 ≤ i) (h1 : i < n) : ∃ ad A1 c1, A = some ad ∧ w.cell? (ad.add (i.toNat * 2)) = some (.int .i64 (rd_T59 xs i).f0) ∧ w.cell? ⟨(ad.add (i.toNat * 2)).block, (ad.add (i.toNat * 2)).off + 1, none⟩ = some (.slice A1 (rd_T59 xs i).f1.length c1) ∧ (rd_T59 xs i).f1.length ≤ c1 ∧ k70.C w A1 (rd_T59 xs i).f1.length (rd_T59 xs i).f1 := by
 obtain ⟨ad, c, e, _, hK, hc0⟩ := Kd.C_get h z59 i h0 h1
 have hc : ∀ j u, c[j]? = some u → w.cell? (ad.add (i.toNat * 2 + j)) = some u := hc0
 obtain ⟨A1, c1, rfl, l1, g1⟩ := k59_open hK
 exact ⟨ad, A1, c1, e, hc 0 _ rfl, by rw [← add_field _ _ 1 (by omega)]; exact hc 1 _ rfl, l1, g1⟩
theorem k25_open {w : World} {x : S25} {cs : List Value} (h : k25.K w x cs) : ∃ A0 c0 A1 c1, cs = [.slice A0 x.f0.length c0, .slice A1 x.f1.length c1] ∧ x.f0.length ≤ c0 ∧ k59.C w A0 x.f0.length x.f0 ∧ x.f1.length ≤ c1 ∧ k73.C w A1 x.f1.length x.f1 := by
 have h := un25K h
 obtain ⟨_, _, rfl, ⟨A0, c0, rfl, l0, g0⟩, ⟨A1, c1, rfl, l1, g1⟩⟩ := h
 exact ⟨A0, c0, A1, c1, rfl, l0, g0, l1, g1⟩
theorem k25_openM {w : World} {base : Nat} {ok : Nat → Prop} {x : S25} {cs : List Value} (h : k25.M w base ok x cs) : ∃ v0 v1, cs = [v0, v1] ∧ k59.R 59 w base ok v0 x.f0 ∧ k73.R 73 w base ok v1 x.f1 := by
 have h := un25M h
 obtain ⟨_, _, rfl, ⟨v0, rfl, g0⟩, ⟨v1, rfl, g1⟩⟩ := h
 exact ⟨v0, v1, rfl, g0, g1⟩
theorem k25_mkM (w : World) (base : Nat) (ok : Nat → Prop) (x : S25) {v0 : Value} (g0 : k59.R 59 w base ok v0 x.f0) {v1 : Value} (g1 : k73.R 73 w base ok v1 x.f1) : k25.M w base ok x [v0, v1] := fo25M ⟨[v0], [v1], rfl, ⟨v0, rfl, g0⟩, ⟨v1, rfl, g1⟩⟩
def rd_T25 (xs : List S25) (i : Int) : S25 := xs.getD i.toNat z25
theorem at_T25 {w : World} {A : Option Addr} {n : Nat} {xs : List S25} (h : Kd.C k25 w A n xs) (i : Int) (h0 : 0 ≤ i) (h1 : i < n) : ∃ ad A0 c0 A1 c1, A = some ad ∧ w.cell? (ad.add (i.toNat * 2)) = some (.slice A0 (rd_T25 xs i).f0.length c0) ∧ w.cell? ⟨(ad.add (i.toNat * 2)).block, (ad.add (i.toNat * 2)).off + 1, none⟩ = some (.slice A1 (rd_T25 xs i).f1.length c1) ∧ (rd_T25 xs i).f0.length ≤ c0 ∧ k59.C w A0 (rd_T25 xs i).f0.length (rd_T25 xs i).f0 ∧ (rd_T25 xs i).f1.length ≤ c1 ∧ k73.C w A1 (rd_T25 xs i).f1.length (rd_T25 xs i).f1 := by
 obtain ⟨ad, c, e, _, hK, hc0⟩ := Kd.C_get h z25 i h0 h1
 have hc : ∀ j u, c[j]? = some u → w.cell? (ad.add (i.toNat * 2 + j)) = some u := hc0
 obtain ⟨A0, c0, A1, c1, rfl, l0, g0, l1, g1⟩ := k25_open hK
 exact ⟨ad, A0, c0, A1, c1, e, hc 0 _ rfl, by rw [← add_field _ _ 1 (by omega)]; exact hc 1 _ rfl, l0, g0, l1, g1⟩
structure S88 where
 f0 : ByteArray
 f1 : Int
structure S86 where
 f0 : ByteArray
 f1 : (List S88)
structure S50 where
 f0 : ByteArray
 f1 : Int
 f2 : Int
 f3 : ByteArray
 f4 : Bool
 f5 : Bool
 f6 : ByteArray
structure S47 where
 f0 : ByteArray
 f1 : (List S50)
 f2 : (List Int)
structure S35 where
 f0 : (List S86)
 f1 : (List S47)
end Go.Proofs.Ytbpnfpckoapdbaa.KD
end
section
namespace Go.Proofs.Ytbpnfpckoapdbaa.Open
open Go.RowKit Go.ChangeShapes Go.WideShapes Go.Deep Go.Proofs.YtbpnfpckoapdbaaW.PrintWords
set_option linter.unusedVariables false
/-- What can be read at type t is of kind d, and Ok. -/
def Opens {α : Type} (P : Program) (d : Kd α) (Ok : α → Prop) (t : TypeId) : Prop :=
 ∀ (H : Type) (enc : TypeId × Value → H) (w : World) (base : Nat) (spare : Nat → Bool) (held : Bool) (fuel : Nat) (cs : List Value) (x : DataW H × List MemPlace), DataW.trod enc P w base spare held fuel t cs = some x → ∃ y, d.K w y cs ∧ Ok y
theorem opens_int {P : Program} {t : TypeId} {k : IntKind} (hu : P.underlying t = some (.int k)) : Opens P (Kd.int k) (fun n => (Lit.int k n).wf = true) t := by
 intro H enc w base spare held fuel cs x h
 obtain ⟨n, rfl, _, hw⟩ := DataW.trod_int hu h
 exact ⟨n, rfl, hw⟩
theorem list_of {α : Type} (p : Nat → α → Prop) : ∀ n, (∀ i, i < n → ∃ y, p i y) → ∃ l : List α, l.length = n ∧ ∀ i y, l[i]? = some y → p i y
 | 0, _ => ⟨[], rfl, fun i y h => by simp at h⟩
 | n + 1, h => by
  obtain ⟨l, hl, hp⟩ := list_of p n (fun i hi => h i (by omega))
  obtain ⟨y, hy⟩ := h n (by omega)
  refine ⟨l ++ [y], by rw [List.length_append, hl, List.length_singleton], fun i z hz => ?_⟩
  rcases Nat.lt_or_ge i l.length with hi | hi
  · rw [List.getElem?_append_left hi] at hz
    exact hp i z hz
  · rw [List.getElem?_append_right hi] at hz
    have hi2 : i = n := by
     have := (List.getElem?_eq_some_iff.1 hz).1
     rw [List.length_singleton] at this
     omega
    subst hi2
    rw [hl, Nat.sub_self] at hz
    have : y = z := by simpa using hz
    exact this ▸ hy
/-- Fields from a place on. -/
def Fields {β : Type} (P : Program) (d : Kd β) (Ok : β → Prop) (off : Nat) (fs : List Field) : Prop :=
 ∀ (H : Type) (enc : TypeId × Value → H) (w : World) (base : Nat) (spare : Nat → Bool) (held : Bool) (n : Nat) (cs : List Value), cs.length = off + d.sz →
  (∀ f ∈ fs, ∃ x, DataW.trod enc P w base spare held n f.type ((cs.drop f.offset).take (P.cellsOf f.type)) = some x) → ∃ y, d.K w y (cs.drop off) ∧ Ok y
end Go.Proofs.Ytbpnfpckoapdbaa.Open
end
section
namespace Go.Proofs.Ytbpnfpckoapdbaa.TK
open Go.RowKit Go.Proofs.Ytbpnfpckoapdbaa.KD Go.Proofs.Ytbpnfpckoapdbaa.M Go.Proofs.YtbpnfpckoapdbaaW.PrintWords Go.Proofs.YtbpnfpckoapdbaaW.PrintLast Go.Proofs.YtbpnfpckoapdbaaW.PrintMore Go.Proofs.Ytbpnfpckoapdbaa.Open
set_option linter.unusedVariables false
set_option linter.unusedSimpArgs false
set_option maxHeartbeats 1000000
set_option maxRecDepth 100000
theorem boxes {w w2 : World} {cs cs' : Array Value} {t t' : TypeId} (h : Below ((w.alloc (.cells cs t)).alloc (.cells cs' t')).heap.size ((w.alloc (.cells cs t)).alloc (.cells cs' t')) w2) : w2.heap[w.heap.size]? = some (.cells cs t (0, 0)) ∧ w2.heap[w.heap.size + 1]? = some (.cells cs' t' (0, 0)) := by
 have h1 := blk_alloc (blk_new w (.cells cs t)) (.cells cs' t')
 have h2 := blk_new (w.alloc (.cells cs t)) (.cells cs' t')
 rw [World.size_alloc] at h2
 exact ⟨(h.block _ (blk_lt h1)).trans h1, (h.block _ (blk_lt h2)).trans h2⟩
theorem b2 (w : World) (o o' : Obj) : Below w.heap.size w ((w.alloc o).alloc o') := below_alloc (below_alloc (Below.refl _ _) _) _
/-- So many cells, as_ they are. -/
def kFlat (sz : Nat) : Kd (List Value) where
 sz := sz
 E := []
 K := fun _ x cs => cs = x ∧ cs.length = sz ∧ ∀ u ∈ cs, u.oneCell' = true
 M := fun _ _ _ x cs => cs = x ∧ cs.length = sz ∧ ∀ u ∈ cs, u.oneCell' = true
 K_len := fun h => h.2.1
 K_one := fun h => h.2.2
 K_below := fun _ h => h
 K_of_M := fun h => h
 M_mono := fun _ h => h
 M_bound := fun h => h
 M_move := fun _ h => h
 M_lower := fun _ h => h
theorem flat_C {α : Type} {d : Kd α} {w : World} {A : Option Addr} {n : Nat} {xs : List α} (h : d.C w A n xs) : ∃ l : List (List Value), l.length = n ∧ (kFlat d.sz).C w A n l ∧ ∀ (i : Nat) (x : α) (c : List Value), xs[i]? = some x → l[i]? = some c → d.K w x c := by
 obtain ⟨h1, h2, h3⟩ := h
 rcases Nat.eq_zero_or_pos n with hn | hn
 · subst hn
   exact ⟨[], rfl, ⟨rfl, h2, fun h => absurd h (Nat.lt_irrefl 0)⟩, fun i x c _ hc => by simp at hc⟩
 · obtain ⟨ad, rfl, hc⟩ := h3 hn
   obtain ⟨l, hl, hp⟩ := list_of (fun i c => ∃ x, xs[i]? = some x ∧ c.length = d.sz ∧ d.K w x c ∧ ∀ j u, c[j]? = some u → w.cell? (ad.add (i * d.sz + j)) = some u) n (fun i hi => by
     have hx : xs[i]? = some xs[i] := List.getElem?_eq_getElem (by omega)
     obtain ⟨c, hc1, hc2, hc3⟩ := hc i _ hx
     exact ⟨c, xs[i], hx, hc1, hc2, hc3⟩)
   refine ⟨l, hl, ⟨hl, h2, fun _ => ⟨ad, rfl, fun j p hj => ?_⟩⟩, fun i x c hx hc => ?_⟩
   · obtain ⟨x, _, h5, h6, h7⟩ := hp j p hj
     exact ⟨p, h5, ⟨rfl, h5, d.K_one h6⟩, h7⟩
   · obtain ⟨x', h4, _, h6, _⟩ := hp i c hc
     rw [hx] at h4
     injection h4 with h4
     exact h4 ▸ h6
theorem eq_some {t e : TypeId} (hu : Try.prog.underlying t = some (.slice e)) (w : World) (ad : Addr) (n c : Nat) : (binOp .eql t (.slice (some ad) n c) (.slice none 0 0)).run Try.prog w = .ok (.bool false) w := by
 have h : ∀ d : Nat, (Op.equalIn (d + 1) t (.slice (some ad) n c) (.slice none 0 0)).run Try.prog w = .ok false w := fun d => by
  simp [Op.equalIn, run_underlying hu]
 simp only [binOp]
 simp [Op.equal, Op.maxDepth, h 9999]
theorem eq_none {t e : TypeId} (hu : Try.prog.underlying t = some (.slice e)) (w : World) (n c : Nat) : (binOp .eql t (.slice none n c) (.slice none 0 0)).run Try.prog w = .ok (.bool true) w := by
 have h : ∀ d : Nat, (Op.equalIn (d + 1) t (.slice none n c) (.slice none 0 0)).run Try.prog w = .ok true w := fun d => by
  simp [Op.equalIn, run_underlying hu]
 simp only [binOp]
 simp [Op.equal, Op.maxDepth, h 9999]
theorem infoCloneR : (Try.prog.info? 73).map (fun i => (i.zero, i.size, i.bytes)) = some (some (.agg #[.int .i64 0, .int .i64 0, .int .u64 0, .string ⟨#[]⟩]), 4, 40) := by kernel_rfl
theorem CloneR_c {w : World} {A : Option Addr} {c : Nat} {xs : List (List Value)} (hC : (kFlat 4).C w A xs.length xs) (hb : xs.length * 40 ≤ 140737488355328) :
   Calls Try.prog 48 #[.slice A xs.length c] w fun r w' => ∃ v, r = .returned v ∧ (kFlat 4).R 73 w' w.heap.size (fun _ => True) v xs ∧ Below w.heap.size w w' := by
 rcases A with _ | ad
 · have h1 : xs.length = 0 := by
    rcases Nat.eq_zero_or_pos xs.length with h | h
    · exact h
    · obtain ⟨_, h2, _⟩ := hC.2.2 h
      cases h2
   obtain rfl : xs = [] := List.length_eq_zero_iff.1 h1
   clear hC hb h1
   have q1 := eq_some Try.underlying23
   have q2 := eq_none Try.underlying23
   go_enter Try.func48, Try.ntmps48
   go_wp2
   go_ret
   exact ⟨_, rfl, Kd.R_nil _ _ _ _ _, Below.refl _ _⟩
 · have HC := Aside0.mk hC
   have HB := Aside0.mk hb
   clear hC hb
   have q1 := eq_some Try.underlying23
   have q2 := eq_none Try.underlying23
   go_enter Try.func48, Try.ntmps48
   have HO : Aside0 ((kFlat 4).R 73 (w.alloc (.cells #[] 73)) w.heap.size (fun _ => True) (.slice (some ⟨w.heap.size, 0, none⟩) 0 0) []) := ⟨⟨fun _ _ => trivial, _, ⟨rfl, .inr ⟨w.heap.size, 0, #[], rfl, Nat.le_refl _, blk_new w _, Nat.le_refl _, by decide, rfl, rfl⟩⟩, Reps.none _ _⟩⟩
   have HR := Aside0.mk (Kd.C_below HC.out (below_alloc (Below.refl _ w) (.cells #[] 73)))
   go_wp2_with (first
    | ((with_reducible refine gate_builtin (b := .append) rfl ?_); refine Kd.R_append_rows (kFlat 4) (Rr := (kFlat 4).K (w.alloc (.cells #[] 73))) (w0 := w) w.heap.size rfl (.tmp 5) (.tmp 6) 23 73 _ 40 rfl Try.underlying23 infoCloneR rfl (by decide) (by decide) (.slice (some ⟨w.heap.size, 0, none⟩) 0 0) [] xs (some ad) xs.length c (fun _ => True) (fun _ => False) rfl rfl HO.out HR.out (fun _ _ h => h) (fun _ h => h.elim) (fun _ _ => trivial) (below_alloc (Below.refl _ _) _) (by rw [World.size_alloc]; omega) (by have := HB.out; simp only [List.length_nil, Nat.zero_add]; exact this) ?_; intro v1 w1 h1 b1 _ _; have H1 := Aside0.mk h1; have B1 := Aside0.mk b1; clear h1 b1))
   go_ret
   exact ⟨_, rfl, by rw [← List.nil_append xs]; exact H1.out, B1.out⟩
theorem infoCloneS : (Try.prog.info? 59).map (fun i => (i.zero, i.size, i.bytes)) = some (some (.agg #[.int .i64 0, .slice none 0 0]), 2, 32) := by kernel_rfl
theorem CloneS_c {w : World} {A : Option Addr} {c : Nat} {xs : List (List Value)} (hC : (kFlat 2).C w A xs.length xs) (hb : xs.length * 32 ≤ 140737488355328) :
   Calls Try.prog 49 #[.slice A xs.length c] w fun r w' => ∃ v, r = .returned v ∧ (kFlat 2).R 59 w' w.heap.size (fun _ => True) v xs ∧ Below w.heap.size w w' := by
 rcases A with _ | ad
 · have h1 : xs.length = 0 := by
    rcases Nat.eq_zero_or_pos xs.length with h | h
    · exact h
    · obtain ⟨_, h2, _⟩ := hC.2.2 h
      cases h2
   obtain rfl : xs = [] := List.length_eq_zero_iff.1 h1
   clear hC hb h1
   have q1 := eq_some Try.underlying22
   have q2 := eq_none Try.underlying22
   go_enter Try.func49, Try.ntmps49
   go_wp2
   go_ret
   exact ⟨_, rfl, Kd.R_nil _ _ _ _ _, Below.refl _ _⟩
 · have HC := Aside0.mk hC
   have HB := Aside0.mk hb
   clear hC hb
   have q1 := eq_some Try.underlying22
   have q2 := eq_none Try.underlying22
   go_enter Try.func49, Try.ntmps49
   have HO : Aside0 ((kFlat 2).R 59 (w.alloc (.cells #[] 59)) w.heap.size (fun _ => True) (.slice (some ⟨w.heap.size, 0, none⟩) 0 0) []) := ⟨⟨fun _ _ => trivial, _, ⟨rfl, .inr ⟨w.heap.size, 0, #[], rfl, Nat.le_refl _, blk_new w _, Nat.le_refl _, by decide, rfl, rfl⟩⟩, Reps.none _ _⟩⟩
   have HR := Aside0.mk (Kd.C_below HC.out (below_alloc (Below.refl _ w) (.cells #[] 59)))
   go_wp2_with (first
    | ((with_reducible refine gate_builtin (b := .append) rfl ?_); refine Kd.R_append_rows (kFlat 2) (Rr := (kFlat 2).K (w.alloc (.cells #[] 59))) (w0 := w) w.heap.size rfl (.tmp 5) (.tmp 6) 22 59 _ 32 rfl Try.underlying22 infoCloneS rfl (by decide) (by decide) (.slice (some ⟨w.heap.size, 0, none⟩) 0 0) [] xs (some ad) xs.length c (fun _ => True) (fun _ => False) rfl rfl HO.out HR.out (fun _ _ h => h) (fun _ h => h.elim) (fun _ _ => trivial) (below_alloc (Below.refl _ _) _) (by rw [World.size_alloc]; omega) (by have := HB.out; simp only [List.length_nil, Nat.zero_add]; exact this) ?_; intro v1 w1 h1 b1 _ _; have H1 := Aside0.mk h1; have B1 := Aside0.mk b1; clear h1 b1))
   go_ret
   exact ⟨_, rfl, by rw [← List.nil_append xs]; exact H1.out, B1.out⟩
theorem infoCloneV : (Try.prog.info? 70).map (fun i => (i.zero, i.size, i.bytes)) = some (some (.agg #[.int .u64 0, .string ⟨#[]⟩, .slice none 0 0]), 3, 48) := by kernel_rfl
theorem CloneV_c {w : World} {A : Option Addr} {c : Nat} {xs : List (List Value)} (hC : (kFlat 3).C w A xs.length xs) (hb : xs.length * 48 ≤ 140737488355328) :
   Calls Try.prog 50 #[.slice A xs.length c] w fun r w' => ∃ v, r = .returned v ∧ (kFlat 3).R 70 w' w.heap.size (fun _ => True) v xs ∧ Below w.heap.size w w' := by
 rcases A with _ | ad
 · have h1 : xs.length = 0 := by
    rcases Nat.eq_zero_or_pos xs.length with h | h
    · exact h
    · obtain ⟨_, h2, _⟩ := hC.2.2 h
      cases h2
   obtain rfl : xs = [] := List.length_eq_zero_iff.1 h1
   clear hC hb h1
   have q1 := eq_some Try.underlying57
   have q2 := eq_none Try.underlying57
   go_enter Try.func50, Try.ntmps50
   go_wp2
   go_ret
   exact ⟨_, rfl, Kd.R_nil _ _ _ _ _, Below.refl _ _⟩
 · have HC := Aside0.mk hC
   have HB := Aside0.mk hb
   clear hC hb
   have q1 := eq_some Try.underlying57
   have q2 := eq_none Try.underlying57
   go_enter Try.func50, Try.ntmps50
   have HO : Aside0 ((kFlat 3).R 70 (w.alloc (.cells #[] 70)) w.heap.size (fun _ => True) (.slice (some ⟨w.heap.size, 0, none⟩) 0 0) []) := ⟨⟨fun _ _ => trivial, _, ⟨rfl, .inr ⟨w.heap.size, 0, #[], rfl, Nat.le_refl _, blk_new w _, Nat.le_refl _, by decide, rfl, rfl⟩⟩, Reps.none _ _⟩⟩
   have HR := Aside0.mk (Kd.C_below HC.out (below_alloc (Below.refl _ w) (.cells #[] 70)))
   go_wp2_with (first
    | ((with_reducible refine gate_builtin (b := .append) rfl ?_); refine Kd.R_append_rows (kFlat 3) (Rr := (kFlat 3).K (w.alloc (.cells #[] 70))) (w0 := w) w.heap.size rfl (.tmp 5) (.tmp 6) 57 70 _ 48 rfl Try.underlying57 infoCloneV rfl (by decide) (by decide) (.slice (some ⟨w.heap.size, 0, none⟩) 0 0) [] xs (some ad) xs.length c (fun _ => True) (fun _ => False) rfl rfl HO.out HR.out (fun _ _ h => h) (fun _ h => h.elim) (fun _ _ => trivial) (below_alloc (Below.refl _ _) _) (by rw [World.size_alloc]; omega) (by have := HB.out; simp only [List.length_nil, Nat.zero_add]; exact this) ?_; intro v1 w1 h1 b1 _ _; have H1 := Aside0.mk h1; have B1 := Aside0.mk b1; clear h1 b1))
   go_ret
   exact ⟨_, rfl, by rw [← List.nil_append xs]; exact H1.out, B1.out⟩
theorem infoCloneT : (Try.prog.info? 25).map (fun i => (i.zero, i.size, i.bytes)) = some (some (.agg #[.slice none 0 0, .slice none 0 0]), 2, 48) := by kernel_rfl
theorem CloneT_c {w : World} {A : Option Addr} {c : Nat} {xs : List (List Value)} (hC : (kFlat 2).C w A xs.length xs) (hb : xs.length * 48 ≤ 140737488355328) :
   Calls Try.prog 88 #[.slice A xs.length c] w fun r w' => ∃ v, r = .returned v ∧ (kFlat 2).R 25 w' w.heap.size (fun _ => True) v xs ∧ Below w.heap.size w w' := by
 rcases A with _ | ad
 · have h1 : xs.length = 0 := by
    rcases Nat.eq_zero_or_pos xs.length with h | h
    · exact h
    · obtain ⟨_, h2, _⟩ := hC.2.2 h
      cases h2
   obtain rfl : xs = [] := List.length_eq_zero_iff.1 h1
   clear hC hb h1
   have q1 := eq_some Try.underlying68
   have q2 := eq_none Try.underlying68
   go_enter Try.func88, Try.ntmps88
   go_wp2
   go_ret
   exact ⟨_, rfl, Kd.R_nil _ _ _ _ _, Below.refl _ _⟩
 · have HC := Aside0.mk hC
   have HB := Aside0.mk hb
   clear hC hb
   have q1 := eq_some Try.underlying68
   have q2 := eq_none Try.underlying68
   go_enter Try.func88, Try.ntmps88
   have HO : Aside0 ((kFlat 2).R 25 (w.alloc (.cells #[] 25)) w.heap.size (fun _ => True) (.slice (some ⟨w.heap.size, 0, none⟩) 0 0) []) := ⟨⟨fun _ _ => trivial, _, ⟨rfl, .inr ⟨w.heap.size, 0, #[], rfl, Nat.le_refl _, blk_new w _, Nat.le_refl _, by decide, rfl, rfl⟩⟩, Reps.none _ _⟩⟩
   have HR := Aside0.mk (Kd.C_below HC.out (below_alloc (Below.refl _ w) (.cells #[] 25)))
   go_wp2_with (first
    | ((with_reducible refine gate_builtin (b := .append) rfl ?_); refine Kd.R_append_rows (kFlat 2) (Rr := (kFlat 2).K (w.alloc (.cells #[] 25))) (w0 := w) w.heap.size rfl (.tmp 5) (.tmp 6) 68 25 _ 48 rfl Try.underlying68 infoCloneT rfl (by decide) (by decide) (.slice (some ⟨w.heap.size, 0, none⟩) 0 0) [] xs (some ad) xs.length c (fun _ => True) (fun _ => False) rfl rfl HO.out HR.out (fun _ _ h => h) (fun _ h => h.elim) (fun _ _ => trivial) (below_alloc (Below.refl _ _) _) (by rw [World.size_alloc]; omega) (by have := HB.out; simp only [List.length_nil, Nat.zero_add]; exact this) ?_; intro v1 w1 h1 b1 _ _; have H1 := Aside0.mk h1; have B1 := Aside0.mk b1; clear h1 b1))
   go_ret
   exact ⟨_, rfl, by rw [← List.nil_append xs]; exact H1.out, B1.out⟩
end Go.Proofs.Ytbpnfpckoapdbaa.TK
end
section
namespace Go.Proofs.Ytbpnfpckoapdbaa.Open
open Go.RowKit Go.ChangeShapes Go.WideShapes Go.Deep Go.Proofs.YtbpnfpckoapdbaaW.PrintWords
set_option linter.unusedVariables false
def Light {H : Type} (P : Program) (t : TypeId) (x : DataW H) : Prop := ∀ n ∈ DataW.weights P t x, n ≤ reachBytes
def OpensW {α : Type} (fuel : Nat) (P : Program) (d : Kd α) (Ok : α → Prop) (t : TypeId) : Prop :=
 ∀ (H : Type) (enc : TypeId × Value → H) (w : World) (base : Nat) (spare : Nat → Bool) (held : Bool) (cs : List Value) (x : DataW H × List MemPlace), DataW.trod enc P w base spare held fuel t cs = some x → Light P t x.1 → ∃ y, d.K w y cs ∧ Ok y
theorem Opens.toW {α : Type} {P : Program} {d : Kd α} {Ok : α → Prop} {t : TypeId} (h : Opens P d Ok t) (fuel : Nat) : OpensW fuel P d Ok t := fun H enc w base spare held cs x hx _ => h H enc w base spare held fuel cs x hx
theorem opensW_string {P : Program} {t : TypeId} {fuel : Nat} (hu : P.underlying t = some .string) : OpensW fuel P Kd.string (fun s => s.size ≤ reachBytes) t := by
 intro H enc w base spare held cs x h hl
 obtain ⟨s, rfl, hx, hs⟩ := DataW.trod_string hu h
 refine ⟨s, rfl, ?_⟩
 have := hl s.size (by rw [hx]; simp [DataW.weights])
 exact this
theorem mem_weightsAll {H : Type} {P : Program} {e : TypeId} {n : Nat} : ∀ {l : List (DataW H)} {d : DataW H}, d ∈ l → n ∈ DataW.weights P e d → n ∈ DataW.weightsAll P e l
 | [], d, h, _ => by cases h
 | a :: l, d, h, hn => by
  rcases List.mem_cons.1 h with rfl | h
  · simp [DataW.weightsAll, hn]
  · simp [DataW.weightsAll, mem_weightsAll h hn]
theorem opensW_slice {α : Type} {P : Program} {d : Kd α} {Ok : α → Prop} {t e : TypeId} {fuel : Nat} {B : Nat} (hu : P.underlying t = some (.slice e)) (hc : P.cellsOf e = d.sz) (hB : P.bytesOf e = B) (he : ∀ n, fuel = n + 1 → OpensW n P d Ok e) : OpensW fuel P (Kd.slice e d) (fun l => l.length * B ≤ reachBytes ∧ ∀ y ∈ l, Ok y) t := by
 intro H enc w base spare held cs x h hw
 rcases DataW.trod_slice hu h with ⟨rfl, _⟩ | ⟨a, len, cap, elems, rest, n, hf, rfl, rfl, hb, hl, hm, hlen, hi, _, _⟩
 · exact ⟨[], ⟨none, 0, rfl, Nat.le_refl _, Kd.C_nil d w⟩, by simp⟩
 · have hw1 : ∀ k ∈ (elems.length + rest.length) * P.bytesOf e :: (DataW.weightsAll P e (elems.map (·.1)) ++ DataW.weightsAll P e (rest.map (·.1))), k ≤ reachBytes := by
     intro k hk
     refine hw k ?_
     simp only [DataW.weights, hu, List.length_map]
     exact hk
   obtain ⟨l, hl1, hl2⟩ := list_of (fun i y => ∃ c, c.length = d.sz ∧ d.K w y c ∧ (∀ j u, c[j]? = some u → w.cell? (a.add (i * d.sz + j)) = some u) ∧ Ok y) len (fun i hil => by
     have hi1 := hi i hil
     rw [List.getElem?_eq_getElem (by omega : i < elems.length)] at hi1
     obtain ⟨cs', h1, h2⟩ := Option.bind_eq_some_iff.1 hi1
     obtain ⟨y, hy, ho⟩ := he n hf H enc w base spare held cs' _ h2 (fun k hk => hw1 k (by
      refine List.mem_cons_of_mem _ (List.mem_append_left _ (mem_weightsAll (List.mem_map.2 ⟨_, List.getElem_mem _, rfl⟩) hk))))
     refine ⟨y, cs', d.K_len hy, hy, fun j u hj => ?_, ho⟩
     obtain ⟨_, hcl, hat⟩ := World.cells?_some h1
     have hjl : j < P.cellsOf e := by
      have := (List.getElem?_eq_some_iff.1 hj).1
      rw [hcl] at this
      exact this
     have h3 := hat j hjl
     rw [Go.Deep.add_add, hc] at h3
     rw [h3, hj])
   refine ⟨l, ⟨some a, cap, by rw [hl1], by omega, rfl, by simp only [maxLen] at hm; omega, fun _ => ⟨a, rfl, fun j p hj => ?_⟩⟩, ?_, fun y hy => ?_⟩
   · obtain ⟨c, h1, h2, h3, _⟩ := hl2 j p hj
     exact ⟨c, h1, h2, h3⟩
   · have h1 := hw1 _ (List.mem_cons_self)
     rw [hB] at h1
     have h2 : l.length * B ≤ (elems.length + rest.length) * B := Nat.mul_le_mul_right _ (by omega)
     exact Nat.le_trans h2 h1
   · obtain ⟨i, hi⟩ := List.getElem?_of_mem hy
     obtain ⟨_, _, _, _, h4⟩ := hl2 i y hi
     exact h4
/-- Fields from a place on. -/
def FieldsW {β : Type} (fuel : Nat) (P : Program) (d : Kd β) (Ok : β → Prop) (off : Nat) (fs : List Field) : Prop :=
 ∀ (H : Type) (enc : TypeId × Value → H) (w : World) (base : Nat) (spare : Nat → Bool) (held : Bool) (cs : List Value), cs.length = off + d.sz →
  (∀ f ∈ fs, ∃ x, DataW.trod enc P w base spare held fuel f.type ((cs.drop f.offset).take (P.cellsOf f.type)) = some x ∧ Light P f.type x.1) → ∃ y, d.K w y (cs.drop off) ∧ Ok y
theorem fieldsW_last {α : Type} {P : Program} {d : Kd α} {Ok : α → Prop} {off n : Nat} {f : Field} (ho : f.offset = off) (hc : P.cellsOf f.type = d.sz) (h : OpensW n P d Ok f.type) : FieldsW n P d Ok off [f] := by
 intro H enc w base spare held cs hl hf
 obtain ⟨x, hx, hg⟩ := hf f (by simp)
 obtain ⟨y, hy, hk⟩ := h H enc w base spare held _ x hx hg
 rw [ho, hc, List.take_of_length_le (by rw [List.length_drop]; omega)] at hy
 exact ⟨y, hy, hk⟩
theorem fieldsW_cons {α β : Type} {P : Program} {d : Kd α} {d' : Kd β} {Ok : α → Prop} {Ok' : β → Prop} {off off' n : Nat} {f : Field} {fs : List Field} (ho : f.offset = off) (hc : P.cellsOf f.type = d.sz) (h : OpensW n P d Ok f.type) (hoff : off + d.sz = off') (h' : FieldsW n P d' Ok' off' fs) : FieldsW n P (Kd.pair d d') (fun x => Ok x.1 ∧ Ok' x.2) off (f :: fs) := by
 intro H enc w base spare held cs hl hf
 obtain ⟨x, hx, hg⟩ := hf f (by simp)
 obtain ⟨y, hy, hk⟩ := h H enc w base spare held _ x hx hg
 rw [ho, hc] at hy
 have hl' : cs.length = off + (d.sz + d'.sz) := hl
 obtain ⟨y', hy', hk'⟩ := h' H enc w base spare held cs (by omega) (fun g hg => hf g (by simp [hg]))
 refine ⟨(y, y'), ⟨(cs.drop off).take d.sz, cs.drop off', ?_, hy, hy'⟩, hk, hk'⟩
 rw [← hoff, ← List.drop_drop, List.take_append_drop]
theorem opensW_struct {β γ : Type} {P : Program} {d : Kd β} {Ok : β → Prop} {t : TypeId} {fs : Array Field} {fuel : Nat} (mk : β → γ) (proj : γ → β) (hmk : ∀ y, proj (mk y) = y) (hu : P.underlying t = some (.struct fs)) (hc : P.cellsOf t = d.sz) (h : ∀ n, fuel = n + 1 → FieldsW n P d Ok 0 fs.toList) : OpensW fuel P (Kd.iso d proj) (fun x => Ok (proj x)) t := by
 intro H enc w base spare held cs x ht hw
 obtain ⟨xs, n, hn, hx, hl, hxs, hf⟩ := DataW.trod_struct hu ht
 obtain ⟨y, hy, hk⟩ := h n hn H enc w base spare held cs (by omega) (fun f hfm => by
  obtain ⟨i, hi⟩ := List.getElem?_of_mem hfm
  have hi' : fs[i]? = some f := by rw [← Array.getElem?_toList]; exact hi
  have h1 := hf i f hi'
  have hlt : i < xs.length := by rw [hxs]; exact (Array.getElem?_eq_some_iff.1 hi').1
  refine ⟨xs[i], by rw [h1, List.getElem?_eq_getElem hlt], fun k hk => hw k ?_⟩
  rw [hx]
  simp only [DataW.weights, hu]
  exact DataW.weights_mem_each (j := i) (by rw [List.getElem?_map, hi]; rfl) (by rw [List.getElem?_map, List.getElem?_eq_getElem hlt]; rfl) k hk)
 refine ⟨mk y, ?_, by show Ok (proj (mk y)); rw [hmk]; exact hk⟩
 show d.K w (proj (mk y)) cs
 rw [hmk]
 exact hy
theorem opensW_zero {α : Type} {P : Program} {d : Kd α} {Ok : α → Prop} {t : TypeId} : OpensW 0 P d Ok t := fun H enc w base spare held cs x hx _ => by simp [DataW.trod] at hx
end Go.Proofs.Ytbpnfpckoapdbaa.Open
end
section
namespace Go.Proofs.Ytbpnfpckoapdbaa.Ops
open Go.RowKit Go.Proofs.YtbpnfpckoapdbaaW.PrintWords Go.Proofs.Ytbpnfpckoapdbaa.KD Go.Proofs.Ytbpnfpckoapdbaa.Open
set_option linter.unusedVariables false
set_option maxHeartbeats 1000000
abbrev TR := S73
abbrev TV := S70
abbrev TS := S59
abbrev TT := S25
def okRaw (x : TR) : Prop := (Lit.int .i64 x.f0).wf = true ∧ (Lit.int .i64 x.f1).wf = true ∧ (Lit.int .u64 x.f2).wf = true ∧ x.f3.size ≤ reachBytes
def okVal (O : TT → Prop) (x : TV) : Prop := (Lit.int .u64 x.f0).wf = true ∧ x.f1.size ≤ reachBytes ∧ (x.f2.length * 48 ≤ reachBytes ∧ ∀ y ∈ x.f2, O y)
def okSlot (O : TT → Prop) (x : TS) : Prop := (Lit.int .i64 x.f0).wf = true ∧ (x.f1.length * 48 ≤ reachBytes ∧ ∀ y ∈ x.f1, okVal O y)
/-- A tree that is no deeper than so much, and no greater than a machine's. -/
def okTree (O : TT → Prop) (x : TT) : Prop := (x.f0.length * 32 ≤ reachBytes ∧ ∀ y ∈ x.f0, okSlot O y) ∧ (x.f1.length * 40 ≤ reachBytes ∧ ∀ y ∈ x.f1, okRaw y)
def okT : Nat → TT → Prop
 | 0 => fun _ => False
 | n + 1 => okTree (okT n)
theorem opensRaw (n : Nat) : OpensW n Try.prog k73 okRaw 73 :=
 opensW_struct (mk := fun y : Int × Int × Int × ByteArray => (⟨y.1, y.2.1, y.2.2.1, y.2.2.2⟩ : TR)) (proj := fun x => (x.f0, x.f1, x.f2, x.f3)) (fun _ => rfl) Try.underlying73 (by kernel_rfl) fun n _ =>
  fieldsW_cons rfl (by kernel_rfl) ((opens_int Try.underlying3).toW n) rfl (fieldsW_cons rfl (by kernel_rfl) ((opens_int Try.underlying3).toW n) rfl (fieldsW_cons rfl (by kernel_rfl) ((opens_int Try.underlying67).toW n) rfl (fieldsW_last rfl (by kernel_rfl) (opensW_string Try.underlying9))))
theorem cellsT : Try.prog.cellsOf 25 = 2 := by kernel_rfl
theorem cellsS : Try.prog.cellsOf 59 = 2 := by kernel_rfl
theorem cellsV : Try.prog.cellsOf 70 = 3 := by kernel_rfl
section
variable {d : Kd TT} {ok : TT → Prop}
theorem opensV (hd : d.sz = 2) (fuel : Nat) (h : ∀ n, fuel = n + 2 → OpensW n Try.prog d ok 25) : OpensW fuel Try.prog (g70 d) (okVal ok) 70 := by
 have h1 : Try.prog.cellsOf 70 = (Kd.pair (Kd.int .u64) (Kd.pair (Kd.string) (Kd.slice 25 d))).sz := cellsV
 refine opensW_struct (d := Kd.pair (Kd.int .u64) (Kd.pair (Kd.string) (Kd.slice 25 d))) (Ok := fun x : Int × ByteArray × List TT => ((Lit.int .u64 x.1).wf = true) ∧ (x.2.1.size ≤ reachBytes) ∧ (x.2.2.length * 48 ≤ reachBytes ∧ ∀ y ∈ x.2.2, ok y)) (mk := fun y => (⟨y.1, y.2.1, y.2.2⟩ : TV)) (proj := fun x => (x.f0, x.f1, x.f2)) (fun _ => rfl) Try.underlying70 h1 fun f e => ?_
 have c0 : Try.prog.cellsOf 67 = 1 := by kernel_rfl
 have c1 : Try.prog.cellsOf 9 = 1 := by kernel_rfl
 have c2 : Try.prog.cellsOf 68 = 1 := by kernel_rfl
 have g0 : OpensW f Try.prog (Kd.int .u64) (fun n => (Lit.int .u64 n).wf = true) 67 := (opens_int Try.underlying67).toW f
 have g1 : OpensW f Try.prog Kd.string (fun x => x.size ≤ reachBytes) 9 := opensW_string Try.underlying9
 have b2 : Try.prog.bytesOf 25 = 48 := by kernel_rfl
 have g2 : OpensW f Try.prog (Kd.slice 25 d) (fun l => l.length * 48 ≤ reachBytes ∧ ∀ y ∈ l, ok y) 68 := opensW_slice Try.underlying68 (cellsT.trans hd.symm) b2 fun f1 e1 => h f1 (by omega)
 refine fieldsW_cons (off' := 1) (Ok := fun x : Int => (Lit.int .u64 x).wf = true) (Ok' := fun x : ByteArray × List TT => (x.1.size ≤ reachBytes) ∧ (x.2.length * 48 ≤ reachBytes ∧ ∀ y ∈ x.2, ok y)) ?_ ?_ ?_ ?_ ?_
 · exact rfl
 · exact c0
 · exact g0
 · exact rfl
 refine fieldsW_cons (off' := 2) (Ok := fun x : ByteArray => x.size ≤ reachBytes) (Ok' := fun x : List TT => (x.length * 48 ≤ reachBytes ∧ ∀ y ∈ x, ok y)) ?_ ?_ ?_ ?_ ?_
 · exact rfl
 · exact c1
 · exact g1
 · exact rfl
 refine fieldsW_last ?_ ?_ ?_
 · exact rfl
 · exact c2
 · exact g2
theorem opensS (hd : d.sz = 2) (fuel : Nat) (h : ∀ n, fuel = n + 4 → OpensW n Try.prog d ok 25) : OpensW fuel Try.prog (g59 d) (okSlot ok) 59 := by
 have h1 : Try.prog.cellsOf 59 = (Kd.pair (Kd.int .i64) (Kd.slice 70 (g70 d))).sz := cellsS
 refine opensW_struct (d := Kd.pair (Kd.int .i64) (Kd.slice 70 (g70 d))) (Ok := fun x : Int × List TV => ((Lit.int .i64 x.1).wf = true) ∧ (x.2.length * 48 ≤ reachBytes ∧ ∀ y ∈ x.2, okVal ok y)) (mk := fun y => (⟨y.1, y.2⟩ : TS)) (proj := fun x => (x.f0, x.f1)) (fun _ => rfl) Try.underlying59 h1 fun f e => ?_
 have c0 : Try.prog.cellsOf 3 = 1 := by kernel_rfl
 have c1 : Try.prog.cellsOf 57 = 1 := by kernel_rfl
 have g0 : OpensW f Try.prog (Kd.int .i64) (fun n => (Lit.int .i64 n).wf = true) 3 := (opens_int Try.underlying3).toW f
 have b1 : Try.prog.bytesOf 70 = 48 := by kernel_rfl
 have g1 : OpensW f Try.prog (Kd.slice 70 (g70 d)) (fun l => l.length * 48 ≤ reachBytes ∧ ∀ y ∈ l, okVal ok y) 57 := opensW_slice Try.underlying57 cellsV b1 fun f1 e1 => opensV hd f1 fun f2 e2 => h f2 (by omega)
 refine fieldsW_cons (off' := 1) (Ok := fun x : Int => (Lit.int .i64 x).wf = true) (Ok' := fun x : List TV => (x.length * 48 ≤ reachBytes ∧ ∀ y ∈ x, okVal ok y)) ?_ ?_ ?_ ?_ ?_
 · exact rfl
 · exact c0
 · exact g0
 · exact rfl
 refine fieldsW_last ?_ ?_ ?_
 · exact rfl
 · exact c1
 · exact g1
theorem opensTof (hd : d.sz = 2) (fuel : Nat) (h : ∀ n, fuel = n + 6 → OpensW n Try.prog d ok 25) : OpensW fuel Try.prog (F25 d) (okTree ok) 25 := by
 have h1 : Try.prog.cellsOf 25 = (Kd.pair (Kd.slice 59 (g59 d)) (Kd.slice 73 k73)).sz := cellsT
 refine opensW_struct (d := Kd.pair (Kd.slice 59 (g59 d)) (Kd.slice 73 k73)) (Ok := fun x : List TS × List TR => (x.1.length * 32 ≤ reachBytes ∧ ∀ y ∈ x.1, okSlot ok y) ∧ (x.2.length * 40 ≤ reachBytes ∧ ∀ y ∈ x.2, okRaw y)) (mk := fun y => (⟨y.1, y.2⟩ : TT)) (proj := fun x => (x.f0, x.f1)) (fun _ => rfl) Try.underlying25 h1 fun f e => ?_
 have c0 : Try.prog.cellsOf 22 = 1 := by kernel_rfl
 have c1 : Try.prog.cellsOf 23 = 1 := by kernel_rfl
 have b0 : Try.prog.bytesOf 59 = 32 := by kernel_rfl
 have g0 : OpensW f Try.prog (Kd.slice 59 (g59 d)) (fun l => l.length * 32 ≤ reachBytes ∧ ∀ y ∈ l, okSlot ok y) 22 := opensW_slice Try.underlying22 cellsS b0 fun f1 e1 => opensS hd f1 fun f2 e2 => h f2 (by omega)
 have b1 : Try.prog.bytesOf 73 = 40 := by kernel_rfl
 have g1 : OpensW f Try.prog (Kd.slice 73 k73) (fun l => l.length * 40 ≤ reachBytes ∧ ∀ y ∈ l, okRaw y) 23 := opensW_slice Try.underlying23 (by kernel_rfl) b1 fun f1 e1 => opensRaw f1
 refine fieldsW_cons (off' := 1) (Ok := fun x : List TS => (x.length * 32 ≤ reachBytes ∧ ∀ y ∈ x, okSlot ok y)) (Ok' := fun x : List TR => (x.length * 40 ≤ reachBytes ∧ ∀ y ∈ x, okRaw y)) ?_ ?_ ?_ ?_ ?_
 · exact rfl
 · exact c0
 · exact g0
 · exact rfl
 refine fieldsW_last ?_ ?_ ?_
 · exact rfl
 · exact c1
 · exact g1
end
theorem OpensW.lift {α : Type} {fuel : Nat} {P : Program} {d d' : Kd α} {Ok : α → Prop} {t : TypeId} (h : OpensW fuel P d Ok t) (hk : ∀ w x cs, d.K w x cs → d'.K w x cs) : OpensW fuel P d' Ok t := fun H enc w base spare held cs x hx hl => by
 obtain ⟨y, h1, h2⟩ := h H enc w base spare held cs x hx hl
 exact ⟨y, hk _ _ _ h1, h2⟩
theorem szTree : k25.sz = 2 := rfl
theorem opensT : ∀ (n fuel : Nat), fuel ≤ n → OpensW fuel Try.prog k25 (okT n) 25
 | 0, fuel, h => by
  obtain rfl : fuel = 0 := by omega
  exact opensW_zero
 | n + 1, fuel, h => OpensW.lift (opensTof (d := k25) (ok := okT n) szTree fuel fun m hm => opensT n m (by omega)) fun _ _ _ hk => fo25K hk
end Go.Proofs.Ytbpnfpckoapdbaa.Ops
end
section
namespace Go.Proofs.Ytbpnfpckoapdbaa.TK
open Go.RowKit Go.Proofs.Ytbpnfpckoapdbaa.Ops Go.Proofs.Ytbpnfpckoapdbaa.KD Go.Proofs.Ytbpnfpckoapdbaa.M Go.Proofs.YtbpnfpckoapdbaaW.PrintWords Go.Proofs.YtbpnfpckoapdbaaW.PrintLast Go.Proofs.YtbpnfpckoapdbaaW.PrintMore Go.Proofs.Ytbpnfpckoapdbaa.Open
set_option linter.unusedVariables false
set_option linter.unusedSimpArgs false
section
variable {d : Kd TT} {w : World}
theorem kV_open {x : TV} {cs : List Value} (h : (g70 d).K w x cs) : ∃ A c, cs = [.int .u64 x.f0, .string x.f1, .slice A x.f2.length c] ∧ x.f2.length ≤ c ∧ d.C w A x.f2.length x.f2 := by
 obtain ⟨_, _, rfl, rfl, ⟨_, _, rfl, rfl, ⟨A, c, rfl, l, g⟩⟩⟩ := h
 exact ⟨A, c, rfl, l, g⟩
theorem kS_open {x : TS} {cs : List Value} (h : (g59 d).K w x cs) : ∃ A c, cs = [.int .i64 x.f0, .slice A x.f1.length c] ∧ x.f1.length ≤ c ∧ (g70 d).C w A x.f1.length x.f1 := by
 obtain ⟨_, _, rfl, rfl, ⟨A, c, rfl, l, g⟩⟩ := h
 exact ⟨A, c, rfl, l, g⟩
theorem kT_open {x : TT} {cs : List Value} (h : (F25 d).K w x cs) : ∃ A c A' c', cs = [.slice A x.f0.length c, .slice A' x.f1.length c'] ∧ x.f0.length ≤ c ∧ (g59 d).C w A x.f0.length x.f0 ∧ x.f1.length ≤ c' ∧ k73.C w A' x.f1.length x.f1 := by
 obtain ⟨_, _, rfl, ⟨A, c, rfl, l, g⟩, ⟨A', c', rfl, l', g'⟩⟩ := h
 exact ⟨A, c, A', c', rfl, l, g, l', g'⟩
end
/-- Whatever stands for trees: two slices. -/
structure Two {β : Type} (d : Kd β) : Prop where
 sz : d.sz = 2
 two : ∀ {w : World} {x : β} {cs : List Value}, d.K w x cs → ∃ A n c A' n' c', cs = [.slice A n c, .slice A' n' c']
theorem F_two (d : Kd TT) : Two (F25 d) := ⟨rfl, fun h => by
 obtain ⟨A, c, A', c', rfl, _⟩ := kT_open h
 exact ⟨_, _, _, _, _, _, rfl⟩⟩
theorem upto_two (E_ : List Nat) : ∀ n, Two (Kd.upto F25 2 E_ n)
 | 0 => ⟨rfl, fun h => h.elim⟩
 | n + 1 => F_two _
/-- The first i elements are new (own rows, none of them this block), the others stand as_ they were. -/
structure Half {α : Type} (d : Kd α) (e G base n cap i : Nat) (ys : List α) (olds : List (List Value)) (w : World) : Prop where
 is : ∃ (news sp : List Value) (cur : Array Value), w.heap[G]? = some (.cells cur e (0, 0)) ∧ cur.toList = news ++ ((olds.drop i).flatten ++ sp) ∧ cur.size = cap * d.sz ∧ Reps (d.M w base (fun k => k ≠ G)) d.sz ys news
 ln : ys.length = i
 lo : olds.length = n
 hn : i ≤ n
 hc : n ≤ cap
 hm : cap ≤ maxLen
 hb : base ≤ G
 hs : ∀ x ∈ olds, x.length = d.sz
theorem reps_flat {R : List Value → List Value → Prop} {sz : Nat} (hR : ∀ x cs, R x cs → cs = x) : ∀ {olds : List (List Value)} {inner : List Value}, Reps R sz olds inner → inner = olds.flatten
 | [], inner, h => by
  have := h.1
  simp at this
  simp [this]
 | x :: r, inner, h => by
  have h0 := hR _ _ (h.2 0 x rfl)
  rw [Nat.zero_mul, List.drop_zero] at h0
  have h1 : Reps R sz r (inner.drop sz) := by
   refine ⟨by rw [List.length_drop, h.1, List.length_cons, Nat.add_mul, Nat.one_mul]; omega, fun j p hj => ?_⟩
   have := h.2 (j + 1) p (by simpa using hj)
   rw [List.drop_drop]
   rwa [show (j + 1) * sz = sz + j * sz by rw [Nat.add_mul, Nat.one_mul, Nat.add_comm]] at this
  rw [List.flatten_cons, ← reps_flat hR h1, ← h0, List.take_append_drop]
theorem reps_mem {R : List Value → List Value → Prop} {sz : Nat} {olds : List (List Value)} {inner : List Value} (h : Reps R sz olds inner) (hR : ∀ x cs, R x cs → x.length = sz) : ∀ x ∈ olds, x.length = sz := by
 intro x hx
 obtain ⟨i, hi⟩ := List.getElem?_of_mem hx
 exact hR _ _ (h.2 i x hi)
theorem Half.start {α : Type} {d : Kd α} {e base : Nat} {w : World} {v : Value} {olds : List (List Value)} (h : (kFlat d.sz).R e w base (fun _ => True) v olds) (h0 : 0 < olds.length) : ∃ G cap, v = .slice (some ⟨G, 0, none⟩) olds.length cap ∧ Half d e G base olds.length cap 0 ([] : List α) olds w := by
 obtain ⟨_, inner, ⟨h1, h2⟩, hr⟩ := h
 rcases h2 with ⟨_, h2⟩ | ⟨G, cap, cur, rfl, hb, hh, hn, hm, hs, ht⟩
 · omega
 · refine ⟨G, cap, rfl, ⟨[], cur.toList.drop (olds.length * d.sz), cur, hh, ?_, hs, Reps.none _ _⟩, rfl, rfl, Nat.zero_le _, hn, hm, hb, reps_mem hr (fun x cs hx => by rw [← hx.1]; exact hx.2.1)⟩
   have := reps_flat (fun x cs hx => hx.1) hr
   rw [List.nil_append, List.drop_zero, ← this, ← ht]
   exact (List.take_append_drop _ _).symm
theorem Half.below {α : Type} {d : Kd α} {e G base n cap i : Nat} {ys : List α} {olds : List (List Value)} {w w' : World} (h : Half d e G base n cap i ys olds w) (hb : Below w.heap.size w w') : Half d e G base n cap i ys olds w' := by
 obtain ⟨⟨news, sp, cur, h1, h2, h3, h4⟩, r⟩ := h
 exact ⟨⟨news, sp, cur, blk_below h1 hb, h2, h3, h4.imp_ (fun _ _ hp => Kd.M_below hp hb)⟩, ‹_›, ‹_›, ‹_›, ‹_›, ‹_›, ‹_›, ‹_›⟩
theorem Half.cell {α : Type} {d : Kd α} {e G base n cap i : Nat} {ys : List α} {olds : List (List Value)} {w : World} (h : Half d e G base n cap i ys olds w) {o : List Value} (ho : olds[i]? = some o) {j : Nat} {u : Value} (hj : o[j]? = some u) : w.cell? ⟨G, i * d.sz + j, none⟩ = some u ∧ w.frozen? ⟨G, i * d.sz + j, none⟩ = false := by
 obtain ⟨⟨news, sp, cur, h1, h2, h3, h4⟩, ln, lo, hn, hc, hm, hb, hs⟩ := h
 obtain ⟨hi, rfl⟩ := List.getElem?_eq_some_iff.1 ho
 have hl : news.length = i * d.sz := by rw [h4.1, ln]
 refine ⟨?_, blk_frozen h1 _⟩
 rw [blk_cell h1, ← Array.getElem?_toList, h2, List.getElem?_append_right (by omega), hl, Nat.add_sub_cancel_left, List.drop_eq_getElem_cons hi, List.flatten_cons, List.append_assoc, List.getElem?_append_left (List.getElem?_eq_some_iff.1 hj).1]
 exact hj
/-- A store below the base touches neither the row nor what hangs on it. -/
theorem Half.low {α : Type} {d : Kd α} {e G base n cap i : Nat} {ys : List α} {olds : List (List Value)} {w : World} (h : Half d e G base n cap i ys olds w) {p : Addr} (hp : p.block < base) (u : Value) : Half d e G base n cap i ys olds (w.setCell p u) := by
 obtain ⟨⟨news, sp, cur, h1, h2, h3, h4⟩, ln, lo, hn, hc, hm, hb, hs⟩ := h
 refine ⟨⟨news, sp, cur, (Below.heap_setCell w p u G (by omega)).trans h1, h2, h3, h4.imp_ (fun _ _ hq => ?_)⟩, ln, lo, hn, hc, hm, hb, hs⟩
 exact d.M_mono (fun k hk => hk.1) (d.M_move (fun k hk => Below.heap_setCell w p u k (by have := hk.2.1; omega)) (d.M_bound hq))
/-- All is new. -/
theorem Half.done {α : Type} {d : Kd α} {e G base n cap : Nat} {ys : List α} {olds : List (List Value)} {w : World} (h : Half d e G base n cap n ys olds w) : d.R e w base (fun _ => True) (.slice (some ⟨G, 0, none⟩) n cap) ys := by
 obtain ⟨⟨news, sp, cur, h1, h2, h3, h4⟩, ln, lo, hn, hc, hm, hb, hs⟩ := h
 have hl : news.length = n * d.sz := by rw [h4.1, ln]
 refine ⟨fun _ _ => trivial, news, ⟨by rw [hl, ln], .inr ⟨G, cap, cur, by rw [ln], hb, h1, by omega, hm, h3, ?_⟩⟩, h4.imp_ (fun x cs hp => d.M_mono (fun k hk => ⟨trivial, fun hh => hk (by injection hh)⟩) hp)⟩
 rw [ln, h2, ← hl, List.take_left']
 rfl
theorem Half.step2 {α : Type} {d : Kd α} {e G base n cap i : Nat} {ys : List α} {olds : List (List Value)} {w : World} (h : Half d e G base n cap i ys olds w) (hi : i < n) (hd : d.sz = 2) {y : α} {u0 u1 : Value} (hy : d.M w base (fun k => k ≠ G) y [u0, u1]) :
  Half d e G base n cap (i + 1) (ys ++ [y]) olds ((w.setCell ⟨G, i * 2, none⟩ u0).setCell ⟨G, i * 2 + 1, none⟩ u1) := by
 obtain ⟨⟨news, sp, cur, h1, h2, h3, h4⟩, ln, lo, hn, hc, hm, hb, hs⟩ := h
 have hl : news.length = i * 2 := by rw [h4.1, ln, hd]
 have hio : i < olds.length := by omega
 have ho : (olds[i]).length = 2 := by rw [hs _ (List.getElem_mem _), hd]
 rw [List.drop_eq_getElem_cons hio, List.flatten_cons] at h2
 generalize olds[i] = o at h2 ho
 match o, ho with
 | [a0, a1], _ =>
  have b0 := blk_put h1 (i * 2) u0 rfl
  have b1 := blk_put b0 (i * 2 + 1) u1 rfl
  refine ⟨⟨news ++ [u0, u1], sp, _, b1, ?_, ?_, ?_⟩, by rw [List.length_append, ln]; rfl, lo, hi, hc, hm, hb, hs⟩
  · simp only [Array.toList_setIfInBounds, h2]
    rw [← hl]
    simp [List.set_append]
  · simp only [Array.size_setIfInBounds]
    exact h3
  · refine Reps.snoc (h4.imp_ (fun _ _ hp => Kd.M_far (Kd.M_far (hp) (fun k hk => hk) _) (fun k hk => hk) _)) (Kd.M_far (Kd.M_far (hy) (fun k hk => hk) _) (fun k hk => hk) _) (by rw [hd]; rfl)
theorem Half.step3 {α : Type} {d : Kd α} {e G base n cap i : Nat} {ys : List α} {olds : List (List Value)} {w : World} (h : Half d e G base n cap i ys olds w) (hi : i < n) (hd : d.sz = 3) {y : α} {u0 u1 u2 : Value} (hy : d.M w base (fun k => k ≠ G) y [u0, u1, u2]) :
  Half d e G base n cap (i + 1) (ys ++ [y]) olds (((w.setCell ⟨G, i * 3, none⟩ u0).setCell ⟨G, i * 3 + 1, none⟩ u1).setCell ⟨G, i * 3 + 2, none⟩ u2) := by
 obtain ⟨⟨news, sp, cur, h1, h2, h3, h4⟩, ln, lo, hn, hc, hm, hb, hs⟩ := h
 have hl : news.length = i * 3 := by rw [h4.1, ln, hd]
 have hio : i < olds.length := by omega
 have ho : (olds[i]).length = 3 := by rw [hs _ (List.getElem_mem _), hd]
 rw [List.drop_eq_getElem_cons hio, List.flatten_cons] at h2
 generalize olds[i] = o at h2 ho
 match o, ho with
 | [a0, a1, a2], _ =>
  have b0 := blk_put h1 (i * 3) u0 rfl
  have b1 := blk_put b0 (i * 3 + 1) u1 rfl
  have b2 := blk_put b1 (i * 3 + 2) u2 rfl
  refine ⟨⟨news ++ [u0, u1, u2], sp, _, b2, ?_, ?_, ?_⟩, by rw [List.length_append, ln]; rfl, lo, hi, hc, hm, hb, hs⟩
  · simp only [Array.toList_setIfInBounds, h2]
    rw [← hl]
    simp [List.set_append]
  · simp only [Array.size_setIfInBounds]
    exact h3
  · refine Reps.snoc (h4.imp_ (fun _ _ hp => Kd.M_far (Kd.M_far (Kd.M_far (hp) (fun k hk => hk) _) (fun k hk => hk) _) (fun k hk => hk) _)) (Kd.M_far (Kd.M_far (Kd.M_far (hy) (fun k hk => hk) _) (fun k hk => hk) _) (fun k hk => hk) _) (by rw [hd]; rfl)
/-- What stands there is an own one already. -/
theorem Half.take {α : Type} {d : Kd α} {e G base n cap i : Nat} {ys : List α} {olds : List (List Value)} {w : World} (h : Half d e G base n cap i ys olds w) {o : List Value} (ho : olds[i]? = some o) {y : α} (hy : d.M w base (fun k => k ≠ G) y o) (hi : i < n) : Half d e G base n cap (i + 1) (ys ++ [y]) olds w := by
 obtain ⟨⟨news, sp, cur, h1, h2, h3, h4⟩, ln, lo, hn, hc, hm, hb, hs⟩ := h
 obtain ⟨hio, rfl⟩ := List.getElem?_eq_some_iff.1 ho
 rw [List.drop_eq_getElem_cons hio, List.flatten_cons] at h2
 refine ⟨⟨news ++ olds[i], sp, cur, h1, by rw [h2, List.append_assoc, List.append_assoc], h3, Reps.snoc h4 hy (hs _ (List.getElem_mem _))⟩, by rw [List.length_append, ln]; rfl, lo, hi, hc, hm, hb, hs⟩
/-- One cell of the next one is turned. -/
theorem Half.turn2 {α : Type} {d : Kd α} {e G base n cap i : Nat} {ys : List α} {olds : List (List Value)} {w : World} (h : Half d e G base n cap i ys olds w) (hd : d.sz = 2) {a0 a1 : Value} (ho : olds[i]? = some [a0, a1]) (u : Value) : Half d e G base n cap i ys (olds.set i [a0, u]) (w.setCell ⟨G, i * 2 + 1, none⟩ u) := by
 obtain ⟨⟨news, sp, cur, h1, h2, h3, h4⟩, ln, lo, hn, hc, hm, hb, hs⟩ := h
 have hl : news.length = i * 2 := by rw [h4.1, ln, hd]
 obtain ⟨hio, he⟩ := List.getElem?_eq_some_iff.1 ho
 rw [List.drop_eq_getElem_cons hio, List.flatten_cons, he] at h2
 have h5 : (olds.set i [a0, u]).drop i = [a0, u] :: olds.drop (i + 1) := by
   rw [List.drop_eq_getElem_cons (by rw [List.length_set]; exact hio), List.getElem_set_self, List.drop_set_of_lt (by omega)]
 have b1 := blk_put h1 (i * 2 + 1) u rfl
 refine ⟨⟨news, sp, _, b1, ?_, ?_, h4.imp_ (fun _ _ hp => Kd.M_far hp (fun k hk => hk) _)⟩, ln, by rw [List.length_set]; exact lo, hn, hc, hm, hb, fun x hx => ?_⟩
 · rw [h5, List.flatten_cons]
   simp only [Array.toList_setIfInBounds, h2]
   rw [← hl]
   simp [List.set_append]
 · simp only [Array.size_setIfInBounds]
   exact h3
 · rcases List.mem_or_eq_of_mem_set hx with hx | rfl
   · exact hs x hx
   · rw [hd]; rfl
/-- A row half written, or none. -/
def HV {α : Type} (d : Kd α) (e base n k : Nat) (v : Value) (ys : List α) (olds : List (List Value)) (w : World) : Prop :=
 (n = 0 ∧ k = 0 ∧ ys = [] ∧ d.R e w base (fun _ => True) v []) ∨ (0 < n ∧ ∃ G c, v = .slice (some ⟨G, 0, none⟩) n c ∧ Half d e G base n c k ys olds w)
theorem R_empty {α : Type} {d : Kd α} {e base : Nat} {w : World} {v : Value} (h : (kFlat d.sz).R e w base (fun _ => True) v []) : d.R e w base (fun _ => True) v ([] : List α) := by
 obtain ⟨h0, inner, h1, hr⟩ := h
 have := hr.1
 simp at this
 subst this
 exact ⟨h0, [], h1, Reps.none _ _⟩
theorem HV.start {α : Type} {d : Kd α} {e base : Nat} {w : World} {v : Value} {olds : List (List Value)} (h : (kFlat d.sz).R e w base (fun _ => True) v olds) : HV d e base olds.length 0 v ([] : List α) olds w := by
 rcases Nat.eq_zero_or_pos olds.length with hz | hp
 · obtain rfl := List.length_eq_zero_iff.1 hz
   exact .inl ⟨rfl, rfl, rfl, R_empty h⟩
 · obtain ⟨G, c, rfl, hh⟩ := Half.start (d := d) h hp
   exact .inr ⟨hp, G, c, rfl, hh⟩
theorem HV.below {α : Type} {d : Kd α} {e base n k : Nat} {v : Value} {ys : List α} {olds : List (List Value)} {w w' : World} (h : HV d e base n k v ys olds w) (hb : Below w.heap.size w w') : HV d e base n k v ys olds w' := by
 rcases h with ⟨h1, h2, h3, h4⟩ | ⟨h1, G, c, h2, h3⟩
 · exact .inl ⟨h1, h2, h3, Kd.R_below h4 hb⟩
 · exact .inr ⟨h1, G, c, h2, h3.below hb⟩
theorem HV.done {α : Type} {d : Kd α} {e base n : Nat} {v : Value} {ys : List α} {olds : List (List Value)} {w : World} (h : HV d e base n n v ys olds w) : d.R e w base (fun _ => True) v ys := by
 rcases h with ⟨h1, h2, h3, h4⟩ | ⟨h1, G, c, h2, h3⟩
 · rw [h3]; exact h4
 · rw [h2]; exact h3.done
theorem HV.low {α : Type} {d : Kd α} {e base n k : Nat} {v : Value} {ys : List α} {olds : List (List Value)} {w : World} (h : HV d e base n k v ys olds w) {p : Addr} (hp : p.block < base) (u : Value) : HV d e base n k v ys olds (w.setCell p u) := by
 rcases h with ⟨h1, h2, h3, h4⟩ | ⟨h1, G, c, h2, h3⟩
 · exact .inl ⟨h1, h2, h3, Kd.R_mono (Kd.R_far (Kd.R_bound h4) (fun k hk => by have := hk.2.1; omega) _) (fun _ _ => trivial)⟩
 · exact .inr ⟨h1, G, c, h2, h3.low hp u⟩
section
variable {d : Kd TT} {w : World} {base : Nat} {ok : Nat → Prop}
theorem kV_openM {x : TV} {cs : List Value} (h : (g70 d).M w base ok x cs) : ∃ v, cs = [.int .u64 x.f0, .string x.f1, v] ∧ d.R 25 w base ok v x.f2 := by
 obtain ⟨_, _, rfl, rfl, ⟨_, _, rfl, rfl, ⟨v, rfl, g⟩⟩⟩ := h
 exact ⟨v, rfl, g⟩
theorem kV_mkM {x : TV} {v : Value} (g : d.R 25 w base ok v x.f2) : (g70 d).M w base ok x [.int .u64 x.f0, .string x.f1, v] :=
 ⟨[.int .u64 x.f0], _, rfl, rfl, ⟨[.string x.f1], _, rfl, rfl, ⟨v, rfl, g⟩⟩⟩
theorem kS_openM {x : TS} {cs : List Value} (h : (g59 d).M w base ok x cs) : ∃ v, cs = [.int .i64 x.f0, v] ∧ (g70 d).R 70 w base ok v x.f1 := by
 obtain ⟨_, _, rfl, rfl, ⟨v, rfl, g⟩⟩ := h
 exact ⟨v, rfl, g⟩
theorem kS_mkM {x : TS} {v : Value} (g : (g70 d).R 70 w base ok v x.f1) : (g59 d).M w base ok x [.int .i64 x.f0, v] :=
 ⟨[.int .i64 x.f0], _, rfl, rfl, ⟨v, rfl, g⟩⟩
theorem kT_openM {x : TT} {cs : List Value} (h : (F25 d).M w base ok x cs) : ∃ v v', cs = [v, v'] ∧ (g59 d).R 59 w base ok v x.f0 ∧ k73.R 73 w base ok v' x.f1 := by
 obtain ⟨_, _, rfl, ⟨v, rfl, g⟩, ⟨v', rfl, g'⟩⟩ := h
 exact ⟨v, v', rfl, g, g'⟩
theorem kT_mkM {x : TT} {v v' : Value} (g : (g59 d).R 59 w base ok v x.f0) (g' : k73.R 73 w base ok v' x.f1) : (F25 d).M w base ok x [v, v'] :=
 ⟨[v], _, rfl, ⟨v, rfl, g⟩, ⟨v', rfl, g'⟩⟩
end
/-- A function makes an own one of what it is handed. -/
def Copies {α : Type} (d : Kd α) (ok : α → Prop) (F : FuncId) : Prop :=
 ∀ (w : World) (x : α) (cs : List Value), d.K w x cs → ok x → Calls Try.prog F #[.agg cs.toArray] w fun r w' => (∃ cs', r = .returned (.agg cs'.toArray) ∧ d.M w' w.heap.size (fun _ => True) x cs') ∧ Below w.heap.size w w'
end Go.Proofs.Ytbpnfpckoapdbaa.TK
end
section
namespace Go.Proofs.Ytbpnfpckoapdbaa.TK
open Go.RowKit Go.Proofs.Ytbpnfpckoapdbaa.Ops Go.Proofs.Ytbpnfpckoapdbaa.KD Go.Proofs.Ytbpnfpckoapdbaa.M Go.Proofs.YtbpnfpckoapdbaaW.PrintWords Go.Proofs.YtbpnfpckoapdbaaW.PrintLast Go.Proofs.YtbpnfpckoapdbaaW.PrintMore Go.Proofs.Ytbpnfpckoapdbaa.Open
set_option linter.unusedVariables false
set_option linter.unusedSimpArgs false
set_option maxHeartbeats 1000000
set_option maxRecDepth 100000
theorem copied_c {d : Kd TT} {ok : TT → Prop} (hd : Two d) (HD : Copies d ok 13) : Copies (g70 d) (okVal ok) 51 := by
  intro w v cs h hok
  obtain ⟨A, c, rfl, hl, hC⟩ := kV_open h
  obtain ⟨olds, ho1, ho2, ho3⟩ := flat_C hC
  obtain ⟨wz, hwz⟩ : ∃ wz, wz = (w.alloc (.cells #[.int .u64 v.f0, .string v.f1, .slice A v.f2.length c] 70)).alloc (.cells #[.int .u64 0, .string ⟨#[]⟩, .slice none 0 0] 70) := ⟨_, rfl⟩
  have HWZ := Aside0.mk hwz
  have bz : Below w.heap.size w wz := by rw [hwz]; exact b2 _ _ _
  have HBX : Aside0 (∀ w2, Below wz.heap.size wz w2 → w2.heap[w.heap.size]? = some (.cells #[.int .u64 v.f0, .string v.f1, .slice A v.f2.length c] 70 (0, 0)) ∧ w2.heap[w.heap.size + 1]? = some (.cells #[.int .u64 0, .string ⟨#[]⟩, .slice none 0 0] 70 (0, 0))) := ⟨fun w2 h2 => by rw [hwz] at h2; exact boxes h2⟩
  rw [hd.sz] at ho2
  rw [← ho1] at ho2
  have HCL := Aside0.mk (CloneT_c (c := c) (Kd.C_below ho2 bz) (by have := hok.2.2.1; rw [ho1]; exact Nat.le_trans this (by decide)))
  rw [ho1] at HCL
  have BZ := Aside0.mk bz
  have HQ := Aside0.mk HD
  have HO1 := Aside0.mk ho1
  have HO3 := Aside0.mk ho3
  have HOK := Aside0.mk hok
  have HM := Aside0.mk (Kd.C_max hC)
  have HC := Aside0.mk hC
  clear hwz bz ho1 ho2 ho3 hok hC hl h HD
  go_enter Try.func51, Try.ntmps51
  go_wp2_with (first
    | (go_at_call 88; rw [← HWZ.out]; refine HCL.out.mono ?_; rintro r w1 ⟨vv, rfl, hR, b1⟩
       obtain ⟨A', c', rfl⟩ := Kd.R_slice hR
       have HR := Aside0.mk hR
       have B1 := Aside0.mk b1
       have z0 := (blk_cell (HBX.out _ b1).1 2).trans rfl
       have f0 := blk_frozen (HBX.out _ b1).1 2
       clear hR b1))
  have HO1' := HO1.out
  have hgz : w.heap.size < wz.heap.size := by rw [HWZ.out]; simp only [World.size_alloc]; omega
  have bx1 := blk_put (HBX.out _ B1.out).1 2 (.slice A' olds.length c') rfl
  have bx2 := (Below.heap_setCell w1 ⟨w.heap.size, 2, none⟩ (.slice A' olds.length c') (w.heap.size + 1) (by simp)).trans (HBX.out _ B1.out).2
  by_cases hz : v.f2.length = 0
  · have ho : olds = [] := List.length_eq_zero_iff.1 (by omega)
    have c1 : decide ((0 : Int) < (olds.length : Int)) = false := decide_eq_false (by omega)
    have c2 : decide (0 < olds.length) = false := decide_eq_false (by omega)
    obtain ⟨W0, hW0⟩ : ∃ W0, W0 = w1.setCell ⟨w.heap.size, 2, none⟩ (.slice A' olds.length c') := ⟨_, rfl⟩
    rw [← hW0] at bx1 bx2
    rw [← hW0]
    have HR0 : Aside0 (d.R 25 w1 wz.heap.size (fun _ => True) (.slice A' olds.length c') v.f2) := ⟨by
      have h1 := HR.out
      rw [ho, ← hd.sz] at h1
      rw [ho, List.length_eq_zero_iff.1 hz]
      exact R_empty h1⟩
    have HW0 := Aside0.mk hW0
    have BX1 := Aside0.mk bx1
    have BX2 := Aside0.mk bx2
    clear hW0 bx1 bx2 z0 f0 ho hz HO1'
    go_loopg [12] 0 (fun kq v12 w' => v12 = .int .i64 0 ∧ Aside0 (w' = W0))
    case atStart => exact ⟨rfl, ⟨rfl⟩⟩
    case round =>
      obtain ⟨rfl, hw⟩ := hrel
      obtain rfl := hw.out
      have a0 := (blk_cell BX1.out 0).trans rfl
      have a1 := (blk_cell BX1.out 1).trans rfl
      have a2 := (blk_cell BX1.out 2).trans rfl
      have b0 := (blk_cell BX2.out 0).trans rfl
      have b1 := (blk_cell BX2.out 1).trans rfl
      have b2 := (blk_cell BX2.out 2).trans rfl
      have f0 := blk_frozen BX2.out 0
      have f1 := blk_frozen BX2.out 1
      have f2 := blk_frozen BX2.out 2
      go_wp2
      have hw2 : w.heap.size + 2 ≤ wz.heap.size := by rw [HWZ.out]; simp only [World.size_alloc]; omega
      have e1 := blk_put BX2.out 0 (.int .u64 v.f0) rfl
      have e2 := blk_put e1 1 (.string v.f1) rfl
      have e3 := blk_put e2 2 (.slice A' olds.length c') rfl
      refine bodyPost_ret (v := .agg #[.int .u64 v.f0, .string v.f1, .slice A' olds.length c']) (results_cell_row rfl _ _ (w.heap.size + 1) 70 _ _ _ rfl e3 Try.underlying70 rfl (by kernel_rfl)) rfl ⟨⟨[.int .u64 v.f0, .string v.f1, .slice A' olds.length c'], rfl, kV_mkM ?_⟩, ?_⟩
      · have h1 := Kd.R_bound HR0.out
        have hne : ∀ q : Nat, q ≤ w.heap.size + 1 → ∀ j, (True ∧ wz.heap.size ≤ j ∧ j < w1.heap.size ∧ ∃ q, q ∈ 25 :: d.E ∧ ∃ cells, w1.heap[j]? = some (.cells cells q (0, 0))) → j ≠ q := fun q hq j hj => by have := hj.2.1; omega
        rw [HW0.out]
        exact Kd.R_lower (Kd.R_mono (Kd.R_far (Kd.R_far (Kd.R_far (Kd.R_far h1 (hne w.heap.size (by omega)) _) (hne _ (Nat.le_refl _)) _) (hne _ (Nat.le_refl _)) _) (hne _ (Nat.le_refl _)) _) (fun _ _ => trivial)) (by omega)
      · rw [HW0.out]
        exact ((((BZ.out.trans (B1.out.mono BZ.out.size)).setCell (Nat.le_refl _) _).setCell (by show w.heap.size ≤ w.heap.size + 1; omega) _).setCell (by show w.heap.size ≤ w.heap.size + 1; omega) _).setCell (by show w.heap.size ≤ w.heap.size + 1; omega) _
  · obtain ⟨G, cap, hv, hh⟩ := Half.start (d := d) (by rw [hd.sz]; exact HR.out) (by omega)
    injection hv with hv1 hv2 hv3
    subst hv1
    subst hv3
    have HH := Aside0.mk (hh.low (p := ⟨w.heap.size, 2, none⟩) hgz (.slice (some ⟨G, 0, none⟩) olds.length c'))
    have BX1 := Aside0.mk bx1
    have BX2 := Aside0.mk bx2
    clear hh bx1 bx2 hv2 z0 f0
    rw [HO1'] at *
    go_loopg [12] v.f2.length (fun kq v12 w' => ∃ k : Nat, v12 = .int .i64 (k : Int) ∧ Aside0 (kq + k = v.f2.length) ∧ Aside0 (Half d 25 G wz.heap.size v.f2.length c' k (v.f2.take k) olds w') ∧ Aside0 (w'.heap[w.heap.size]? = some (.cells #[.int .u64 v.f0, .string v.f1, .slice (some ⟨G, 0, none⟩) v.f2.length c'] 70 (0, 0))) ∧ Aside0 (w'.heap[w.heap.size + 1]? = some (.cells #[.int .u64 0, .string ⟨#[]⟩, .slice none 0 0] 70 (0, 0))) ∧ Aside0 (Below w.heap.size w w'))
    case atStart => exact ⟨0, rfl, ⟨by omega⟩, HH, BX1, BX2, ⟨(BZ.out.trans (B1.out.mono BZ.out.size)).setCell (Nat.le_refl _) _⟩⟩
    case round =>
      obtain ⟨k, rfl, HK, HH, BX1, BX2, BW⟩ := hrel
      by_cases hk : (k : Int) < (v.f2.length : Int)
      · have c1 : decide ((k : Int) < (v.f2.length : Int)) = true := decide_eq_true hk
        have p0 : (0 : Int) ≤ (k : Int) := by omega
        have hw : IntKind.i64.wrap ((k : Int) + 1) = ((k + 1 : Nat) : Int) := by have := HM.out; rw [IntKind.wrap_i64]; omega
        obtain ⟨x, hx⟩ : ∃ x, v.f2[k]? = some x := ⟨v.f2[k], List.getElem?_eq_getElem (by omega)⟩
        obtain ⟨o, ho⟩ : ∃ o, olds[k]? = some o := ⟨olds[k]'(by have := HO1.out; omega), List.getElem?_eq_getElem (by have := HO1.out; omega)⟩
        have hkx := HO3.out k x o hx ho
        obtain ⟨A1, n1, c1', A2, n2, c2', rfl⟩ := hd.two hkx
        have r0 := HH.out.cell ho (j := 0) rfl
        have r1 := HH.out.cell ho (j := 1) rfl
        rw [hd.sz] at r0 r1
        rw [Nat.add_zero] at r0
        obtain ⟨r0, g0⟩ := r0
        obtain ⟨r1, g1⟩ := r1
        have HX := Aside0.mk hx
        have HOO := Aside0.mk ho
        have HKX := Aside0.mk hkx
        have HI := Aside0.mk (show k < v.f2.length by omega)
        replace hk := eq_true hk
        clear hx ho hkx
        go_wp2_with fail
        obtain ⟨wa, hwa⟩ : ∃ wa, wa = wr.alloc (.cells #[.slice A1 n1 c1', .slice A2 n2 c2'] 25) := ⟨_, rfl⟩
        rw [← hwa]
        have ba : Below wr.heap.size wr wa := by rw [hwa]; exact below_alloc (Below.refl _ _) _
        have HHA := Aside0.mk (HH.out.below ba)
        have BXA := Aside0.mk (blk_below BX1.out ba)
        have BXB := Aside0.mk (blk_below BX2.out ba)
        have h4 : wa.heap[wr.heap.size]? = some (.cells #[.slice A1 n1 c1', .slice A2 n2 c2'] 25 (0, 0)) := by rw [hwa]; exact blk_new _ _
        have BWA := Aside0.mk (BW.out.trans (ba.mono BW.out.size))
        have HM2 := Aside0.mk (fun w2 (hb : Below wa.heap.size wa w2) => show w2.cell? ⟨w.heap.size, 2, none⟩ = some (.slice (some ⟨G, 0, none⟩) v.f2.length c') ∧ w2.cell? ⟨wr.heap.size, 0, none⟩ = some (.slice A1 n1 c1') ∧ w2.cell? ⟨wr.heap.size, 1, none⟩ = some (.slice A2 n2 c2') from
          ⟨(blk_cell (blk_below BXA.out hb) 2).trans rfl, (blk_cell (blk_below h4 hb) 0).trans rfl, (blk_cell (blk_below h4 hb) 1).trans rfl⟩)
        have hm := HM2.out wa (Below.refl _ _)
        have HT := Aside0.mk (fun m => HQ.out (wa.drewN m) x _ (d.K_below (pw_below_drewN BWA.out m) HKX.out) (HOK.out.2.2.2 x (List.mem_of_getElem? HX.out)))
        clear hwa ba h4 r0 r1 g0 g1
        obtain ⟨s1, s2, s3⟩ := hm
        have hm := HM2.out wa (Below.refl _ _)
        have hG1 : w.heap.size ≠ G := by have := HH.out.hb; omega
        have hG2 : wr.heap.size ≠ G := by obtain ⟨_, _, _, hh, _⟩ := HH.out.is; have := blk_lt hh; omega
        go_region_held3 (fun w' => w'.cell? ⟨w.heap.size, 2, none⟩ = some (.slice (some ⟨G, 0, none⟩) v.f2.length c') ∧ w'.cell? ⟨wr.heap.size, 0, none⟩ = some (.slice A1 n1 c1') ∧ w'.cell? ⟨wr.heap.size, 1, none⟩ = some (.slice A2 n2 c2')) (first | exact hm | exact CM.out | exact CS.out _ _ | go_keep) (first
          | (go_at_call 13; refine (HT.out _).mono ?_; rintro r w2 ⟨⟨cs', rfl, hcm⟩, b2⟩
             obtain ⟨A3, n3, c3, A4, n4, c4, rfl⟩ := hd.two (d.K_of_M hcm)
             have b3 := (pw_below_drewN (Below.refl wa.heap.size wa) _).trans b2
             have CM := Aside0.mk (HM2.out _ b3)
             have HHB := Aside0.mk (HHA.out.below b3)
             have B3 := Aside0.mk b3
             have HCM := Aside0.mk hcm
             have t0 := HHB.out.cell HOO.out (j := 0) rfl
             have t1 := HHB.out.cell HOO.out (j := 1) rfl
             rw [hd.sz] at t0 t1
             rw [Nat.add_zero] at t0
             obtain ⟨t0, g0⟩ := t0
             obtain ⟨t1, g1⟩ := t1
             have CS : Aside0 (∀ u v' : Value, ((w2.setCell ⟨G, k * 2, none⟩ u).setCell ⟨G, k * 2 + 1, none⟩ v').cell? ⟨w.heap.size, 2, none⟩ = some (.slice (some ⟨G, 0, none⟩) v.f2.length c') ∧ ((w2.setCell ⟨G, k * 2, none⟩ u).setCell ⟨G, k * 2 + 1, none⟩ v').cell? ⟨wr.heap.size, 0, none⟩ = some (.slice A1 n1 c1') ∧ ((w2.setCell ⟨G, k * 2, none⟩ u).setCell ⟨G, k * 2 + 1, none⟩ v').cell? ⟨wr.heap.size, 1, none⟩ = some (.slice A2 n2 c2')) := ⟨fun u v' => by
               obtain ⟨k1, k2, k3⟩ := CM.out
               exact ⟨by rw [cell_far hG1, cell_far hG1]; exact k1, by rw [cell_far hG2, cell_far hG2]; exact k2, by rw [cell_far hG2, cell_far hG2]; exact k3⟩⟩
             clear b2 b3 hcm))
        go_wp2
        go_roundg (v.f2.length - (k + 1))
        case measure => have := HK.out; have := HI.out; omega
        case rel =>
          have hk0 := HI.out
          have hw2 : w.heap.size + 2 ≤ wz.heap.size := by rw [HWZ.out]; simp only [World.size_alloc]; omega
          have hgw : w.heap.size ≤ G := by have := HH.out.hb; omega
          have hGa : G < wa.heap.size := by obtain ⟨_, _, _, hh, _⟩ := HHA.out.is; exact blk_lt hh
          have hza : wz.heap.size ≤ wa.heap.size := by have := HH.out.hb; omega
          have hy : d.M w2 wz.heap.size (fun k => k ≠ G) x [.slice A3 n3 c3, .slice A4 n4 c4] := d.M_lower hza (d.M_mono (fun j hj => by have h1 : wa.heap.size ≤ j := hj.2.1; omega) (d.M_bound HCM.out))
          refine ⟨k + 1, rfl, ⟨by omega⟩, ⟨?_⟩, ⟨?_⟩, ⟨?_⟩, ⟨?_⟩⟩
          · have h1 := HHB.out.step2 hk0 hd.sz hy
            have h2 : v.f2.take k ++ [x] = v.f2.take (k + 1) := by
              obtain ⟨h3, rfl⟩ := List.getElem?_eq_some_iff.1 HX.out
              rw [List.take_succ_eq_append_getElem h3]
            rw [h2] at h1
            exact h1
          · rw [Below.heap_setCell _ _ _ _ hG1, Below.heap_setCell _ _ _ _ hG1]
            exact blk_below BXA.out B3.out
          · rw [Below.heap_setCell _ _ _ _ (by have h5 := HH.out.hb; show w.heap.size + 1 ≠ G; omega), Below.heap_setCell _ _ _ _ (by have h5 := HH.out.hb; show w.heap.size + 1 ≠ G; omega)]
            exact blk_below BXB.out B3.out
          · exact ((BWA.out.trans (B3.out.mono BWA.out.size)).setCell hgw _).setCell hgw _
      · have c1 : decide ((k : Int) < (v.f2.length : Int)) = false := decide_eq_false hk
        have c2 : decide (k < v.f2.length) = false := decide_eq_false (by omega)
        obtain rfl : k = v.f2.length := by have := HH.out.hn; omega
        have HR := Aside0.mk HH.out.done
        have a0 := (blk_cell BX1.out 0).trans rfl
        have a1 := (blk_cell BX1.out 1).trans rfl
        have a2 := (blk_cell BX1.out 2).trans rfl
        have b0 := (blk_cell BX2.out 0).trans rfl
        have b1 := (blk_cell BX2.out 1).trans rfl
        have b2 := (blk_cell BX2.out 2).trans rfl
        have f0 := blk_frozen BX2.out 0
        have f1 := blk_frozen BX2.out 1
        have f2 := blk_frozen BX2.out 2
        clear hk
        go_wp2
        have hw2 : w.heap.size + 2 ≤ wz.heap.size := by rw [HWZ.out]; simp only [World.size_alloc]; omega
        have e1 := blk_put BX2.out 0 (.int .u64 v.f0) rfl
        have e2 := blk_put e1 1 (.string v.f1) rfl
        have e3 := blk_put e2 2 (.slice (some ⟨G, 0, none⟩) v.f2.length c') rfl
        refine bodyPost_ret (v := .agg #[.int .u64 v.f0, .string v.f1, .slice (some ⟨G, 0, none⟩) v.f2.length c']) (results_cell_row rfl _ _ (w.heap.size + 1) 70 _ _ _ rfl e3 Try.underlying70 rfl (by kernel_rfl)) rfl ⟨⟨[.int .u64 v.f0, .string v.f1, .slice (some ⟨G, 0, none⟩) v.f2.length c'], rfl, kV_mkM ?_⟩, ?_⟩
        · have h1 := Kd.R_bound HR.out
          have hne : ∀ j, (True ∧ wz.heap.size ≤ j ∧ j < wr.heap.size ∧ ∃ q, q ∈ 25 :: d.E ∧ ∃ cells, wr.heap[j]? = some (.cells cells q (0, 0))) → j ≠ w.heap.size + 1 := fun j hj => by have := hj.2.1; omega
          rw [List.take_length] at h1
          exact Kd.R_lower (Kd.R_mono (Kd.R_far (Kd.R_far (Kd.R_far h1 hne _) hne _) hne _) (fun _ _ => trivial)) (by omega)
        · exact ((BW.out.setCell (by show w.heap.size ≤ w.heap.size + 1; omega) _).setCell (by show w.heap.size ≤ w.heap.size + 1; omega) _).setCell (by show w.heap.size ≤ w.heap.size + 1; omega) _
end Go.Proofs.Ytbpnfpckoapdbaa.TK
end
section
namespace Go.Proofs.Ytbpnfpckoapdbaa.TK
open Go.RowKit Go.Proofs.Ytbpnfpckoapdbaa.Ops Go.Proofs.Ytbpnfpckoapdbaa.KD Go.Proofs.Ytbpnfpckoapdbaa.M Go.Proofs.YtbpnfpckoapdbaaW.PrintWords Go.Proofs.YtbpnfpckoapdbaaW.PrintLast Go.Proofs.YtbpnfpckoapdbaaW.PrintMore Go.Proofs.Ytbpnfpckoapdbaa.Open
set_option linter.unusedVariables false
set_option linter.unusedSimpArgs false
set_option maxHeartbeats 1000000
set_option maxRecDepth 100000
theorem bcell {W w1 : World} (hb : Below W.heap.size W w1) : (∀ b o, b < W.heap.size → w1.cell? ⟨b, o, none⟩ = W.cell? ⟨b, o, none⟩) ∧ (∀ b o, b < W.heap.size → w1.frozen? ⟨b, o, none⟩ = W.frozen? ⟨b, o, none⟩) :=
 ⟨fun b o h => hb.cell (p := ⟨b, o, none⟩) h, fun b o h => hb.frozen (p := ⟨b, o, none⟩) h⟩
/-- Flat cells that are own ones. -/
theorem R_of_flat {α : Type} {d : Kd α} {e base : Nat} {w : World} {ok : Nat → Prop} {v : Value} {olds : List (List Value)} {xs : List α} (h : (kFlat d.sz).R e w base ok v olds) (hl : olds.length = xs.length) (hM : ∀ (i : Nat) (x : α) (o : List Value), xs[i]? = some x → olds[i]? = some o → ∀ ok' : Nat → Prop, d.M w base ok' x o) : d.R e w base ok v xs := by
 obtain ⟨h0, inner, h1, hr⟩ := h
 refine ⟨h0, inner, by rw [← hl]; exact h1, by show inner.length = _; rw [hr.1, hl]; rfl, fun j x hj => ?_⟩
 have hj2 : j < olds.length := by rw [hl]; exact (List.getElem?_eq_some_iff.1 hj).1
 have h2 : (inner.drop (j * d.sz)).take d.sz = olds[j] := (hr.2 j _ (List.getElem?_eq_getElem hj2)).1
 rw [h2]
 exact hM j x _ hj (List.getElem?_eq_getElem hj2) _
theorem rawM {w w' : World} {base : Nat} {ok : Nat → Prop} {x : TR} {cs : List Value} (h : k73.K w x cs) : k73.M w' base ok x cs := by
 obtain rfl := k73_open h
 exact k73_mkM w' base ok x
theorem Half.swap {α : Type} {d : Kd α} {e G base n cap i : Nat} {ys : List α} {olds olds' : List (List Value)} {w : World} (h : Half d e G base n cap i ys olds w) (hd : olds.drop i = olds'.drop i) (hl : olds'.length = n) (hs : ∀ x ∈ olds', x.length = d.sz) : Half d e G base n cap i ys olds' w := by
 obtain ⟨⟨news, sp, cur, h1, h2, h3, h4⟩, ln, lo, hn, hc, hm, hb, _⟩ := h
 exact ⟨⟨news, sp, cur, h1, by rw [← hd]; exact h2, h3, h4⟩, ln, hl, hn, hc, hm, hb, hs⟩
/-- A store that comes behind is as_ one that came ahead. -/
theorem below_both {wa w2 : World} {G o : Nat} {u : Value} {cur : Array Value} {e : TypeId} (hb : Below wa.heap.size wa w2) (h : wa.heap[G]? = some (.cells cur e (0, 0))) : Below (wa.setCell ⟨G, o, none⟩ u).heap.size (wa.setCell ⟨G, o, none⟩ u) (w2.setCell ⟨G, o, none⟩ u) := by
 have a := (Below.refl G wa).setCell (p := ⟨G, o, none⟩) (Nat.le_refl _) u
 have b := (Below.refl G w2).setCell (p := ⟨G, o, none⟩) (Nat.le_refl _) u
 refine ⟨b.os.trans (hb.os.trans a.os.symm), b.tape.trans (hb.tape.trans a.tape.symm), b.output.trans (hb.output.trans a.output.symm), by simp [hb.size], fun k hk => ?_⟩
 by_cases hk2 : k = G
 · subst hk2
   exact (blk_put (blk_below h hb) o u rfl).trans (blk_put h o u rfl).symm
 · rw [Below.heap_setCell _ _ _ _ hk2, Below.heap_setCell _ _ _ _ hk2]
   exact hb.block k (by simpa using hk)
theorem at_gV {d : Kd TT} {w : World} {A : Option Addr} {n : Nat} {xs : List TV} (h : (g70 d).C w A n xs) (i : Nat) (h1 : i < n) :
  ∃ ad A2 c2 x, A = some ad ∧ xs[i]? = some x ∧ w.cell? (ad.add (i * 3)) = some (.int .u64 x.f0) ∧ w.cell? ⟨(ad.add (i * 3)).block, (ad.add (i * 3)).off + 1, none⟩ = some (.string x.f1) ∧
   w.cell? ⟨(ad.add (i * 3)).block, (ad.add (i * 3)).off + 2, none⟩ = some (.slice A2 x.f2.length c2) ∧ (g70 d).K w x [.int .u64 x.f0, .string x.f1, .slice A2 x.f2.length c2] := by
 have hl : i < xs.length := by have := h.1; omega
 obtain ⟨ad, c, e, _, hK, hc0⟩ := Kd.C_get h xs[i] i (by omega) (by omega)
 have hc : ∀ j u, c[j]? = some u → w.cell? (ad.add (i * 3 + j)) = some u := hc0
 have hx : xs.getD (i : Int).toNat xs[i] = xs[i] := by rw [Int.toNat_natCast, List.getD_eq_getElem?_getD, List.getElem?_eq_getElem hl]; rfl
 rw [hx] at hK
 obtain ⟨A2, c2, rfl, l2, g2⟩ := kV_open hK
 exact ⟨ad, A2, c2, xs[i], e, List.getElem?_eq_getElem hl, hc 0 _ rfl, by rw [← add_field _ _ 1 (by omega)]; exact hc 1 _ rfl, by rw [← add_field _ _ 2 (by omega)]; exact hc 2 _ rfl, hK⟩
theorem cut1 {wz w2 w3 wx : World} {gO b2 b3 : Nat} {P2 P3 : Nat → Prop} {v2 v3 : Value} {so ro : List (List Value)} (h2 : (kFlat 4).R 73 w2 b2 P2 v2 ro) (p2 : ∀ k, P2 k → k < w2.heap.size ∧ k ≠ gO) (hb2 : wz.heap.size ≤ b2) (h3 : (kFlat 2).R 59 w3 b3 P3 v3 so) (p3 : ∀ k, P3 k → w2.heap.size ≤ k ∧ k < w3.heap.size ∧ k ≠ gO) (hb3 : wz.heap.size ≤ b3) (hs : w2.heap.size ≤ w3.heap.size) (h23 : ∀ k, k < w2.heap.size → w3.heap[k]? = w2.heap[k]?) (hx : ∀ k, k < w3.heap.size → k ≠ gO → wx.heap[k]? = w3.heap[k]?) :
   (kFlat 2).R 59 wx wz.heap.size (fun k => k ≠ gO) v3 so ∧ (kFlat 4).R 73 wx wz.heap.size (fun k => k ≠ gO ∧ some k ≠ v3.ownBlock) v2 ro := by
 refine ⟨Kd.R_lower (Kd.R_mono (Kd.R_move h3 (fun k hk => hx k (p3 k hk).2.1 (p3 k hk).2.2)) (fun k hk => (p3 k hk).2.2)) hb3, Kd.R_lower (Kd.R_mono (Kd.R_move h2 (fun k hk => ?_)) (fun k hk => ⟨(p2 k hk).2, fun e => ?_⟩)) hb2⟩
 · have := p2 k hk
   exact (hx k (by omega) this.2).trans (h23 k this.1)
 · have := p2 k hk
   have h5 := p3 k (h3.1 k e.symm)
   omega
theorem Copy_c {d : Kd TT} {ok : TT → Prop} (hd : Two d) (HD : Copies d ok 13) : Copies (F25 d) (okTree ok) 13 := by
 intro w x cs h hok
 obtain ⟨A, c, A', ca, rfl, hl, hC, hl2, hR⟩ := kT_open h
 obtain ⟨so, so1, so2, so3⟩ := flat_C hC
 obtain ⟨ro, ro1, ro2, ro3⟩ := flat_C hR
 obtain ⟨wz, hwz⟩ : ∃ wz, wz = (w.alloc (.cells #[.slice A x.f0.length c, .slice A' x.f1.length ca] 25)).alloc (.cells #[.slice none 0 0, .slice none 0 0] 25) := ⟨_, rfl⟩
 have HWZ := Aside0.mk hwz
 have bz : Below w.heap.size w wz := by rw [hwz]; exact b2 _ _ _
 have HBX : Aside0 (∀ w2, Below wz.heap.size wz w2 → w2.heap[w.heap.size]? = some (.cells #[.slice A x.f0.length c, .slice A' x.f1.length ca] 25 (0, 0)) ∧ w2.heap[w.heap.size + 1]? = some (.cells #[.slice none 0 0, .slice none 0 0] 25 (0, 0))) := ⟨fun w2 h2 => by rw [hwz] at h2; exact boxes h2⟩
 have HM2 := Aside0.mk (fun w2 (hb : Below wz.heap.size wz w2) => show w2.cell? ⟨w.heap.size, 0, none⟩ = some (.slice A x.f0.length c) ∧ w2.cell? ⟨w.heap.size, 1, none⟩ = some (.slice A' x.f1.length ca) from ⟨(blk_cell (HBX.out _ hb).1 0).trans rfl, (blk_cell (HBX.out _ hb).1 1).trans rfl⟩)
 have HS := Aside0.mk (fun w2 (hb : Below wz.heap.size wz w2) => CloneS_c (c := c) (xs := so) (A := A) (w := w2) (by rw [so1]; exact Kd.C_below (Kd.C_below so2 bz) (hb.mono (Nat.le_refl _))) (by rw [so1]; exact Nat.le_trans hok.1.1 (by decide)))
 have HRC := Aside0.mk (fun w2 (hb : Below wz.heap.size wz w2) => CloneR_c (c := ca) (xs := ro) (A := A') (w := w2) (by rw [ro1]; exact Kd.C_below (Kd.C_below ro2 bz) (hb.mono (Nat.le_refl _))) (by rw [ro1]; exact Nat.le_trans hok.2.1 (by decide)))
 rw [so1] at HS
 rw [ro1] at HRC
 have BZ := Aside0.mk bz
 have BB := Aside0.mk (Below.refl wz.heap.size wz)
 have hm := HM2.out wz BB.out
 clear hwz bz
 go_enter Try.func13, Try.ntmps13
 go_upto_region 1 with fail
 rw [← HWZ.out]
 go_cut [3] (fun s3 wx => ∃ (gO c2 c3 : Nat) (A2 A3 : Option Addr), s3 = .pointer (some ⟨gO, 0, none⟩) ∧ Aside0 (wx.heap[gO]? = some (.cells #[.slice A3 x.f0.length c3, .slice A2 x.f1.length c2] 25 (0, 0))) ∧ Aside0 (wz.heap.size ≤ gO) ∧ Aside0 ((kFlat 2).R 59 wx wz.heap.size (fun k => k ≠ gO) (.slice A3 x.f0.length c3) so) ∧ Aside0 ((kFlat 4).R 73 wx wz.heap.size (fun k => k ≠ gO ∧ some k ≠ (Value.slice A3 x.f0.length c3).ownBlock) (.slice A2 x.f1.length c2) ro) ∧ Aside0 (Below wz.heap.size wz wx))
 case first =>
  obtain ⟨m1, m2⟩ := HM2.out wz BB.out
  clear h hl hl2 hC hR so2 ro2
  go_region_held3 (fun w' => w'.cell? ⟨w.heap.size, 0, none⟩ = some (.slice A x.f0.length c) ∧ w'.cell? ⟨w.heap.size, 1, none⟩ = some (.slice A' x.f1.length ca)) (first | exact hm | exact HM2.out _ (by repeat (first | (with_reducible first | exact BB.out | apply below_alloc | apply pw_below_drewN | apply below_drew | refine below_set ?_ (by first | exact E3.out | exact E2.out | exact Nat.le_refl _)) )) | go_keep) (first
    | (go_at_call 48; refine (HRC.out _ (by repeat (first | (with_reducible first | exact BB.out | apply below_alloc | apply pw_below_drewN | apply below_drew | refine below_set ?_ (by first | exact E3.out | exact E2.out | exact Nat.le_refl _)) ))).mono ?_; rintro r w2 ⟨v2, rfl, h2, b2⟩
       obtain ⟨A2, c2, rfl⟩ := Kd.R_slice h2
       have BX : Below wz.heap.size wz w2 := below_step (by repeat (first | (with_reducible first | exact BB.out | apply below_alloc | apply pw_below_drewN | apply below_drew | refine below_set ?_ (by first | exact E3.out | exact E2.out | exact Nat.le_refl _)) )) b2
       have R2 := Aside0.mk (Kd.R_bound h2)
       have Z2 := Aside0.mk b2.size
       have H12 := Aside0.mk b2
       obtain ⟨hc2, hf2⟩ := bcell b2
       have E2 := Aside0.mk BX.size
       try (have hz2 : wz.heap.size < w2.heap.size := by have hz2 := b2.size; simp at hz2; omega)
       clear b2 h2
       have BB := Aside0.mk BX
       have CM := Aside0.mk (HM2.out _ BX))
    | (go_at_call 49; refine (HS.out _ (by repeat (first | (with_reducible first | exact BB.out | apply below_alloc | apply pw_below_drewN | apply below_drew | refine below_set ?_ (by first | exact E3.out | exact E2.out | exact Nat.le_refl _)) ))).mono ?_; rintro r w3 ⟨v3, rfl, h3, b3⟩
       obtain ⟨A3, c3, rfl⟩ := Kd.R_slice h3
       have BX : Below wz.heap.size wz w3 := below_step (by repeat (first | (with_reducible first | exact BB.out | apply below_alloc | apply pw_below_drewN | apply below_drew | refine below_set ?_ (by first | exact E3.out | exact E2.out | exact Nat.le_refl _)) )) b3
       have R3 := Aside0.mk (Kd.R_bound h3)
       have Z3 := Aside0.mk b3.size
       have H23 := Aside0.mk b3
       obtain ⟨hc3, hf3⟩ := bcell b3
       have E3 := Aside0.mk BX.size
       try (have hz3 : w2.heap.size < w3.heap.size := by have hz3 := b3.size; simp at hz3; omega)
       try (have hz4 : wz.heap.size < w3.heap.size := by have hz4 := b3.size; simp at hz4; omega)
       clear b3 h3
       have BB := Aside0.mk BX
       have CM := Aside0.mk (HM2.out _ BX)))
  · go_wp2_with fail
    go_meet
    case rel =>
      have q := cut1 (wz := wz) (gO := w3.heap.size) (wx := w3.alloc (.cells #[.slice A3 x.f0.length c3, .slice A2 x.f1.length c2] 25)) R2.out (by rintro k ⟨_, _, h6, _⟩; have := Z3.out; omega) (Nat.le_refl _) R3.out (by rintro k ⟨_, h5, h6, _⟩; omega) E2.out Z3.out H23.out.block (fun k h1 h2 => Below.heap_alloc _ _ _ h1)
      rw [so1, ro1] at q
      exact ⟨w3.heap.size, c2, c3, A2, A3, rfl, ⟨blk_new _ _⟩, ⟨E3.out⟩, ⟨q.1⟩, ⟨q.2⟩, ⟨below_alloc BB.out _⟩⟩
  · go_wp2_with fail
    go_meet
    case rel =>
      have q0 : w3.heap[w2.heap.size]? = some (.cells #[.slice none 0 0, .slice none 0 0] 25 (0, 0)) := (H23.out.block _ (by rw [World.size_alloc]; omega)).trans (blk_new _ _)
      have q := cut1 (wz := wz) (gO := w2.heap.size) (wx := (w3.setCell ⟨w2.heap.size, 0, none⟩ (.slice A3 x.f0.length c3)).setCell ⟨w2.heap.size, 1, none⟩ (.slice A2 x.f1.length c2)) R2.out (by rintro k ⟨_, _, h6, _⟩; omega) (Nat.le_refl _) R3.out (by rintro k ⟨_, h5, h6, _⟩; rw [World.size_alloc] at h5; omega) (Nat.le_trans E2.out (by rw [World.size_alloc]; omega)) (Nat.le_of_lt hz3) (fun k hk => (H23.out.block k (by rw [World.size_alloc]; omega)).trans (Below.heap_alloc _ _ _ hk)) (fun k h1 h2 => by rw [Below.heap_setCell _ _ _ _ h2, Below.heap_setCell _ _ _ _ h2])
      rw [so1, ro1] at q
      exact ⟨w2.heap.size, c2, c3, A2, A3, rfl, ⟨blk_put (blk_put q0 0 _ rfl) 1 _ rfl⟩, ⟨E2.out⟩, ⟨q.1⟩, ⟨q.2⟩, ⟨(BB.out.setCell E2.out _).setCell E2.out _⟩⟩
  · go_wp2_with fail
    go_meet
    case rel =>
      have q0 : w3.heap[wz.heap.size]? = some (.cells #[.slice none 0 0, .slice none 0 0] 25 (0, 0)) := (H23.out.block _ hz2).trans ((H12.out.block _ (by simp)).trans (blk_new _ _))
      have q := cut1 (wz := wz) (gO := wz.heap.size) (wx := (w3.setCell ⟨wz.heap.size, 0, none⟩ (.slice A3 x.f0.length c3)).setCell ⟨wz.heap.size, 1, none⟩ (.slice A2 x.f1.length c2)) R2.out (by rintro k ⟨_, h5, h6, _⟩; simp at h5; omega) (by simp) R3.out (by rintro k ⟨_, h5, h6, _⟩; omega) E2.out Z3.out H23.out.block (fun k h1 h2 => by rw [Below.heap_setCell _ _ _ _ h2, Below.heap_setCell _ _ _ _ h2])
      rw [so1, ro1] at q
      exact ⟨wz.heap.size, c2, c3, A2, A3, rfl, ⟨blk_put (blk_put q0 0 _ rfl) 1 _ rfl⟩, ⟨Nat.le_refl _⟩, ⟨q.1⟩, ⟨q.2⟩, ⟨(BB.out.setCell (Nat.le_refl _) _).setCell (Nat.le_refl _) _⟩⟩
 case rest =>
  obtain ⟨gO, k2, k3, A2, A3, rfl, HO, HG, R3, R2, BX⟩ := hcut
  have HGO := Aside0.mk (Kd.R_away R3.out (fun k hk => hk))
  have HV0 := Aside0.mk (HV.start (d := g59 d) (Kd.R_mono R3.out (fun _ _ => trivial)))
  have HRR : Aside0 (k73.R 73 wc wz.heap.size (fun k => k ≠ gO ∧ some k ≠ (Value.slice A3 x.f0.length k3).ownBlock) (.slice A2 x.f1.length k2) x.f1) := ⟨R_of_flat (d := k73) R2.out ro1 (fun i y o hy ho _ => rawM (ro3 i y o hy ho))⟩
  have h0 := (blk_cell HO.out 0).trans rfl
  rw [so1] at HV0
  have HOK := Aside0.mk hok
  have HC := Aside0.mk hC
  have HQ := Aside0.mk (copied_c hd HD)
  have HSO := Aside0.mk so1
  have HS3 := Aside0.mk so3
  have HM := Aside0.mk (Kd.C_max hC)
  clear h hl hl2 hC hR so2 ro2 hok HD so3 ro3 R3 R2 hm
  go_wp2_with fail
  go_loopg [18] x.f0.length (fun kq v18 w' => ∃ i : Nat, v18 = .int .i64 (i : Int) ∧ Aside0 (kq + i = x.f0.length) ∧ Aside0 (HV (g59 d) 59 wz.heap.size x.f0.length i (.slice A3 x.f0.length k3) (x.f0.take i) so w') ∧ Aside0 (k73.R 73 w' wz.heap.size (fun k => k ≠ gO ∧ some k ≠ (Value.slice A3 x.f0.length k3).ownBlock) (.slice A2 x.f1.length k2) x.f1) ∧ Aside0 (w'.heap[gO]? = some (.cells #[.slice A3 x.f0.length k3, .slice A2 x.f1.length k2] 25 (0, 0))) ∧ Aside0 (Below wz.heap.size wz w'))
  case atStart => exact ⟨0, rfl, ⟨by omega⟩, HV0, HRR, HO, BX⟩
  case round =>
    clear h0 HV0 HRR HO BX
    obtain ⟨i, rfl, HK, HH, HRR, HO, BW⟩ := hrel
    by_cases hi : (i : Int) < (x.f0.length : Int)
    · have c1 : decide ((i : Int) < (x.f0.length : Int)) = true := decide_eq_true hi
      have p0 : (0 : Int) ≤ (i : Int) := by omega
      have hw : IntKind.i64.wrap ((i : Int) + 1) = ((i + 1 : Nat) : Int) := by have := HM.out; rw [IntKind.wrap_i64]; omega
      have hin : i < x.f0.length := by omega
      obtain ⟨y, hy⟩ : ∃ y, x.f0[i]? = some y := ⟨x.f0[i], List.getElem?_eq_getElem hin⟩
      obtain ⟨o, ho⟩ : ∃ o, so[i]? = some o := ⟨so[i]'(by have := HSO.out; omega), List.getElem?_eq_getElem (by have := HSO.out; omega)⟩
      have hky := HS3.out i y o hy ho
      obtain ⟨Av, cv, rfl, hlv, hCv⟩ := kS_open hky
      rcases HH.out with ⟨hz, _⟩ | ⟨_, G, cG, hv, hh⟩
      · omega
      injection hv with hv1 hv2 hv3
      subst hv1
      subst hv3
      have r0 := hh.cell ho (j := 0) rfl
      have r1 := hh.cell ho (j := 1) rfl
      rw [show (g59 d).sz = 2 from rfl] at r0 r1
      rw [Nat.add_zero] at r0
      obtain ⟨r0, g0⟩ := r0
      obtain ⟨r1, g1⟩ := r1
      have HY := Aside0.mk hy
      have HOO := Aside0.mk ho
      have HI := Aside0.mk hin
      have HHH := Aside0.mk hh
      have HCV := Aside0.mk hCv
      have HKY := Aside0.mk hky
      have a0 := (blk_cell HO.out 0).trans rfl
      replace hi := eq_true hi
      clear hy ho hky hlv hCv hh hin hv2 HH g0 g1
      go_upto_region 5 with fail
      obtain ⟨wa, hwa⟩ : ∃ wa, wa = wr.alloc (.cells #[.int .i64 y.f0, .slice Av y.f1.length cv] 59) := ⟨_, rfl⟩
      rw [← hwa]
      have ba : Below wr.heap.size wr wa := by rw [hwa]; exact below_alloc (Below.refl _ _) _
      have BA := Aside0.mk (BW.out.trans (ba.mono BW.out.size))
      have HHA := Aside0.mk (HHH.out.below ba)
      have HOA := Aside0.mk (blk_below HO.out ba)
      have HRA := Aside0.mk (Kd.R_below HRR.out ba)
      have h5 : wa.heap[wr.heap.size]? = some (.cells #[.int .i64 y.f0, .slice Av y.f1.length cv] 59 (0, 0)) := by rw [hwa]; exact blk_new _ _
      have HM5 := Aside0.mk (fun w2 (hb : Below wa.heap.size wa w2) => show w2.cell? ⟨gO, 0, none⟩ = some (.slice (some ⟨G, 0, none⟩) x.f0.length k3) ∧ w2.cell? ⟨wr.heap.size, 1, none⟩ = some (.slice Av y.f1.length cv) from
        ⟨(blk_cell (blk_below HOA.out hb) 0).trans rfl, (blk_cell (blk_below h5 hb) 1).trans rfl⟩)
      have H5 := Aside0.mk h5
      have hm := HM5.out wa (Below.refl _ _)
      obtain ⟨lv, lv1, lv2, lv3⟩ := flat_C HCV.out
      have BWA := Aside0.mk (BZ.out.trans (BA.out.mono BZ.out.size))
      have HCL := Aside0.mk (fun W (hb : Below wa.heap.size wa W) => CloneV_c (c := cv) (xs := lv) (A := Av) (w := W) (by rw [lv1]; exact Kd.C_below (Kd.C_below lv2 BWA.out) (hb.mono (Nat.le_refl _))) (by rw [lv1]; have := (HOK.out.1.2 y (List.mem_of_getElem? HY.out)).2.1; exact Nat.le_trans this (by decide)))
      rw [lv1] at HCL
      have HAW := Aside0.mk hwa
      have LV1 := Aside0.mk lv1
      have LV3 := Aside0.mk lv3
      have hgO : gO ≠ G := fun e => HGO.out (by rw [e]; rfl)
      have hGlt : G < wa.heap.size := by obtain ⟨_, _, _, hh, _⟩ := HHA.out.is; exact blk_lt hh
      have hG5 : wr.heap.size ≠ G := by obtain ⟨_, _, _, hh, _⟩ := HHH.out.is; have := blk_lt hh; omega
      have GLT := Aside0.mk hGlt
      have GNE := Aside0.mk hgO
      have G5N := Aside0.mk hG5
      clear hwa ba h5 r0 r1 a0 lv2 hgO hGlt hG5 lv3
      obtain ⟨s1, s2⟩ := HM5.out wa (Below.refl _ _)
      go_region_held3 (fun w' => w'.cell? ⟨gO, 0, none⟩ = some (.slice (some ⟨G, 0, none⟩) x.f0.length k3) ∧ w'.cell? ⟨wr.heap.size, 1, none⟩ = some (.slice Av y.f1.length cv)) (first | exact hm | exact CM.out | exact CS.out _ | go_keep) (first
        | (go_at_call 50; refine (HCL.out _ (by repeat (first | (with_reducible first | exact Below.refl _ _ | apply below_alloc | apply pw_below_drewN | apply below_drew) ))).mono ?_; rintro r w2 ⟨v5, rfl, h5, b5⟩
           obtain ⟨A5, c5, rfl⟩ := Kd.R_slice h5
           have BX : Below wa.heap.size wa w2 := below_step (by repeat (first | (with_reducible first | exact Below.refl _ _ | apply below_alloc | apply pw_below_drewN | apply below_drew) )) b5
           have R5 : Aside0 ((kFlat 3).R 70 w2 wa.heap.size (fun _ => True) (.slice A5 lv.length c5) lv) := ⟨h5⟩
           have CM := Aside0.mk (HM5.out _ BX)
           have HHB := Aside0.mk (HHA.out.below BX)
           have B5 := Aside0.mk BX
           have t1 := HHB.out.cell HOO.out (j := 1) rfl
           rw [show (g59 d).sz = 2 from rfl] at t1
           obtain ⟨t1, g1⟩ := t1
           have CS : Aside0 (∀ u : Value, (w2.setCell ⟨G, i * 2 + 1, none⟩ u).cell? ⟨gO, 0, none⟩ = some (.slice (some ⟨G, 0, none⟩) x.f0.length k3) ∧ (w2.setCell ⟨G, i * 2 + 1, none⟩ u).cell? ⟨wr.heap.size, 1, none⟩ = some (.slice Av y.f1.length cv)) := ⟨fun u => by
             obtain ⟨k1, k2⟩ := CM.out
             exact ⟨by rw [cell_far GNE.out]; exact k1, by rw [cell_far G5N.out]; exact k2⟩⟩
           clear b5 BX h5))
      go_upto_block 2 with fail
      rw [LV1.out] at R5
      have BG := Aside0.mk HHA.out.hb
      obtain ⟨_, _, cur, hh, _⟩ := HHA.out.is
      obtain ⟨wv, hwv⟩ : ∃ wv, wv = wa.setCell ⟨G, i * 2 + 1, none⟩ (.slice A5 y.f1.length c5) := ⟨_, rfl⟩
      obtain ⟨w5, hw5⟩ : ∃ w5, w5 = w2.setCell ⟨G, i * 2 + 1, none⟩ (.slice A5 y.f1.length c5) := ⟨_, rfl⟩
      rw [← hw5]
      have BV := Aside0.mk (show Below wv.heap.size wv w5 by rw [hwv, hw5]; exact below_both B5.out hh)
      have SV := Aside0.mk (show wv.heap.size = wa.heap.size by rw [hwv]; simp)
      have HHV := Aside0.mk (show Half (g59 d) 59 G wz.heap.size x.f0.length k3 i (x.f0.take i) (so.set i [.int .i64 y.f0, .slice A5 y.f1.length c5]) wv by rw [hwv]; exact HHA.out.turn2 rfl HOO.out _)
      have HOV := Aside0.mk (show wv.heap[gO]? = some (.cells #[.slice (some ⟨G, 0, none⟩) x.f0.length k3, .slice A2 x.f1.length k2] 25 (0, 0)) by rw [hwv]; exact (Below.heap_setCell _ _ _ _ GNE.out).trans HOA.out)
      have HRV := Aside0.mk (show k73.R 73 wv wz.heap.size (fun k => k ≠ gO ∧ some k ≠ (Value.slice (some ⟨G, 0, none⟩) x.f0.length k3).ownBlock) (.slice A2 x.f1.length k2) x.f1 by rw [hwv]; exact Kd.R_far HRA.out (fun k hk e => hk.2 (by rw [e]; rfl)) _)
      have BWV := Aside0.mk (show Below wz.heap.size wz wv by rw [hwv]; exact BA.out.setCell BG.out _)
      have HI0 := Aside0.mk (show HV (g70 d) 70 wa.heap.size y.f1.length 0 (.slice A5 y.f1.length c5) (y.f1.take 0) lv w5 by
        have q := HV.start (d := g70 d) R5.out
        rw [LV1.out] at q
        rw [hw5]
        exact q.low GLT.out _)
      have HMV := Aside0.mk (Kd.C_max HCV.out)
      have YB := Aside0.mk (HOK.out.1.2 y (List.mem_of_getElem? HY.out)).2.2
      clear hwv hw5 hh t1 g1 hm s1 s2 lv1 R5 CM CS HHB B5 HM5 HCL
      go_wp2_with fail
      go_loopg [34] y.f1.length (fun kq v34 w' => ∃ k : Nat, v34 = .int .i64 (k : Int) ∧ Aside0 (kq + k = y.f1.length) ∧ Aside0 (HV (g70 d) 70 wa.heap.size y.f1.length k (.slice A5 y.f1.length c5) (y.f1.take k) lv w') ∧ Aside0 (Below wv.heap.size wv w'))
      case atStart => exact ⟨0, rfl, ⟨by omega⟩, HI0, BV⟩
      case round =>
        clear HI0 BV
        obtain ⟨k, rfl, HK2, HH2, BV⟩ := hrel
        by_cases hk : (k : Int) < (y.f1.length : Int)
        · have d1 : decide ((k : Int) < (y.f1.length : Int)) = true := decide_eq_true hk
          have p1 : (0 : Int) ≤ (k : Int) := by omega
          have hw2 : IntKind.i64.wrap ((k : Int) + 1) = ((k + 1 : Nat) : Int) := by have := HMV.out; rw [IntKind.wrap_i64]; omega
          have hkn : k < y.f1.length := by omega
          rcases HH2.out with ⟨hz, _⟩ | ⟨_, G2, cG2, hv, hh2⟩
          · omega
          injection hv with hv1 hv2 hv3
          subst hv1
          subst hv3
          have BWW := Aside0.mk (BZ.out.trans ((BWV.out.trans (BV.out.mono BWV.out.size)).mono BZ.out.size))
          obtain ⟨ad, At, ct, z, rfl, hz, q0, q1, q2, hkz⟩ := at_gV (Kd.C_below HCV.out BWW.out) k hkn
          obtain ⟨o2, ho2⟩ : ∃ o2, lv[k]? = some o2 := ⟨lv[k]'(by have := LV1.out; omega), List.getElem?_eq_getElem (by have := LV1.out; omega)⟩
          obtain ⟨At', ct', rfl, _, _⟩ := kV_open (LV3.out k z o2 hz ho2)
          have HZ := Aside0.mk hz
          have HO2 := Aside0.mk ho2
          have HKZ := Aside0.mk hkz
          have HHI := Aside0.mk hh2
          have HKN := Aside0.mk hkn
          replace hk := eq_true hk
          clear hz ho2 hkz hh2 hkn hv2 HH2
          go_upto_region 9 with fail
          obtain ⟨wb, hwb⟩ : ∃ wb, wb = wr.alloc (.cells #[.int .u64 z.f0, .string z.f1, .slice At z.f2.length ct] 70) := ⟨_, rfl⟩
          rw [← hwb]
          have bb : Below wr.heap.size wr wb := by rw [hwb]; exact below_alloc (Below.refl _ _) _
          have h7 : wb.heap[wr.heap.size]? = some (.cells #[.int .u64 z.f0, .string z.f1, .slice At z.f2.length ct] 70 (0, 0)) := by rw [hwb]; exact blk_new _ _
          have BVB := Aside0.mk (BV.out.trans (bb.mono BV.out.size))
          have HOB := Aside0.mk (blk_below HOV.out BVB.out)
          have HHVB := Aside0.mk (HHV.out.below BVB.out)
          have HHIB := Aside0.mk (HHI.out.below bb)
          have HO3 : Aside0 ((so.set i [.int .i64 y.f0, .slice (some ⟨G2, 0, none⟩) y.f1.length c5])[i]? = some [.int .i64 y.f0, .slice (some ⟨G2, 0, none⟩) y.f1.length c5]) := ⟨by
            have := HSO.out
            have := HI.out
            rw [List.getElem?_set_self (by omega)]⟩
          have HM9 := Aside0.mk (fun w2 (hb : Below wb.heap.size wb w2) => show w2.cell? ⟨gO, 0, none⟩ = some (.slice (some ⟨G, 0, none⟩) x.f0.length k3) ∧ w2.cell? ⟨G, i * 2 + 1, none⟩ = some (.slice (some ⟨G2, 0, none⟩) y.f1.length c5) ∧ w2.cell? ⟨wr.heap.size, 0, none⟩ = some (.int .u64 z.f0) ∧ w2.cell? ⟨wr.heap.size, 1, none⟩ = some (.string z.f1) ∧ w2.cell? ⟨wr.heap.size, 2, none⟩ = some (.slice At z.f2.length ct) from
            ⟨(blk_cell (blk_below HOB.out hb) 0).trans rfl, ((HHVB.out.below hb).cell HO3.out (j := 1) rfl).1, (blk_cell (blk_below h7 hb) 0).trans rfl, (blk_cell (blk_below h7 hb) 1).trans rfl, (blk_cell (blk_below h7 hb) 2).trans rfl⟩)
          have hm := HM9.out wb (Below.refl _ _)
          have HCP := Aside0.mk (fun W (hb : Below wb.heap.size wb W) => HQ.out W z [.int .u64 z.f0, .string z.f1, .slice At z.f2.length ct] ((g70 d).K_below (bb.trans (hb.mono bb.size)) HKZ.out) (YB.out z (List.mem_of_getElem? HZ.out)))
          have G2L := Aside0.mk (show G2 < wr.heap.size by obtain ⟨_, _, _, hh, _⟩ := HHI.out.is; exact blk_lt hh)
          have G2B := Aside0.mk HHI.out.hb
          have BBZ := Aside0.mk bb.size
          clear hwb bb h7 q0 q1 q2
          have n1 : gO ≠ G2 := by
            have h1 : gO < wa.heap.size := blk_lt HOA.out
            have h2 := G2B.out
            omega
          have n2 : G ≠ G2 := by have h1 := GLT.out; have h2 := G2B.out; omega
          have n3 : wr.heap.size ≠ G2 := by have h1 := G2L.out; omega
          have N1 := Aside0.mk n1
          have N2 := Aside0.mk n2
          have N3 := Aside0.mk n3
          clear n1 n2 n3
          obtain ⟨s1, s2, s3, s4, s5⟩ := HM9.out wb (Below.refl _ _)
          go_region_held3 (fun w' => w'.cell? ⟨gO, 0, none⟩ = some (.slice (some ⟨G, 0, none⟩) x.f0.length k3) ∧ w'.cell? ⟨G, i * 2 + 1, none⟩ = some (.slice (some ⟨G2, 0, none⟩) y.f1.length c5) ∧ w'.cell? ⟨wr.heap.size, 0, none⟩ = some (.int .u64 z.f0) ∧ w'.cell? ⟨wr.heap.size, 1, none⟩ = some (.string z.f1) ∧ w'.cell? ⟨wr.heap.size, 2, none⟩ = some (.slice At z.f2.length ct)) (first | exact hm | exact CM.out | exact CS.out _ _ _ | go_keep) (first
            | (go_at_call 51; refine (HCP.out _ (by repeat (first | (with_reducible first | exact Below.refl _ _ | apply below_alloc | apply pw_below_drewN | apply below_drew) ))).mono ?_; rintro r w2 ⟨⟨cs', rfl, hcm⟩, b6⟩
               obtain ⟨v6, rfl, h6⟩ := kV_openM hcm
               obtain ⟨A6, c6, rfl⟩ := Kd.R_slice h6
               have BX : Below wb.heap.size wb w2 := below_step (by repeat (first | (with_reducible first | exact Below.refl _ _ | apply below_alloc | apply pw_below_drewN | apply below_drew) )) b6
               have HCM : Aside0 ((g70 d).M w2 wb.heap.size (fun _ => True) z [.int .u64 z.f0, .string z.f1, .slice A6 z.f2.length c6]) := ⟨hcm⟩
               have CM := Aside0.mk (HM9.out _ BX)
               have HH6 := Aside0.mk (HHIB.out.below BX)
               have B6 := Aside0.mk BX
               have t0 := HH6.out.cell HO2.out (j := 0) rfl
               have t1 := HH6.out.cell HO2.out (j := 1) rfl
               have t2 := HH6.out.cell HO2.out (j := 2) rfl
               rw [show (g70 d).sz = 3 from rfl] at t0 t1 t2
               rw [Nat.add_zero] at t0
               obtain ⟨t0, g0⟩ := t0
               obtain ⟨t1, g1⟩ := t1
               obtain ⟨t2, g2⟩ := t2
               have CS : Aside0 (∀ u v u' : Value, (((w2.setCell ⟨G2, k * 3, none⟩ u).setCell ⟨G2, k * 3 + 1, none⟩ v).setCell ⟨G2, k * 3 + 2, none⟩ u').cell? ⟨gO, 0, none⟩ = some (.slice (some ⟨G, 0, none⟩) x.f0.length k3) ∧ (((w2.setCell ⟨G2, k * 3, none⟩ u).setCell ⟨G2, k * 3 + 1, none⟩ v).setCell ⟨G2, k * 3 + 2, none⟩ u').cell? ⟨G, i * 2 + 1, none⟩ = some (.slice (some ⟨G2, 0, none⟩) y.f1.length c5) ∧ (((w2.setCell ⟨G2, k * 3, none⟩ u).setCell ⟨G2, k * 3 + 1, none⟩ v).setCell ⟨G2, k * 3 + 2, none⟩ u').cell? ⟨wr.heap.size, 0, none⟩ = some (.int .u64 z.f0) ∧ (((w2.setCell ⟨G2, k * 3, none⟩ u).setCell ⟨G2, k * 3 + 1, none⟩ v).setCell ⟨G2, k * 3 + 2, none⟩ u').cell? ⟨wr.heap.size, 1, none⟩ = some (.string z.f1) ∧ (((w2.setCell ⟨G2, k * 3, none⟩ u).setCell ⟨G2, k * 3 + 1, none⟩ v).setCell ⟨G2, k * 3 + 2, none⟩ u').cell? ⟨wr.heap.size, 2, none⟩ = some (.slice At z.f2.length ct)) := ⟨fun u v u' => by
                 obtain ⟨k1, k2, k4, k5, k6⟩ := CM.out
                 exact ⟨by rw [cell_far N1.out, cell_far N1.out, cell_far N1.out]; exact k1, by rw [cell_far N2.out, cell_far N2.out, cell_far N2.out]; exact k2, by rw [cell_far N3.out, cell_far N3.out, cell_far N3.out]; exact k4, by rw [cell_far N3.out, cell_far N3.out, cell_far N3.out]; exact k5, by rw [cell_far N3.out, cell_far N3.out, cell_far N3.out]; exact k6⟩⟩
               clear b6 BX h6 hcm))
          go_wp2
          go_roundg (y.f1.length - (k + 1))
          case measure => have := HK2.out; have := HKN.out; omega
          case rel =>
            have hk0 := HKN.out
            have g2l := G2L.out
            have bbz := BBZ.out
            have hM : (g70 d).M w2 wa.heap.size (fun k => k ≠ G2) z [.int .u64 z.f0, .string z.f1, .slice A6 z.f2.length c6] := (g70 d).M_lower (by have := SV.out; have := BVB.out.size; omega) ((g70 d).M_mono (fun j hj => by have h1 : wb.heap.size ≤ j := hj.2.1; omega) ((g70 d).M_bound HCM.out))
            have hb2 : wv.heap.size ≤ G2 := by have := SV.out; have := G2B.out; omega
            refine ⟨k + 1, rfl, ⟨by omega⟩, ⟨.inr ⟨by omega, G2, c5, rfl, ?_⟩⟩, ⟨?_⟩⟩
            · have h1 := HH6.out.step3 hk0 rfl hM
              have h2 : y.f1.take k ++ [z] = y.f1.take (k + 1) := by
                obtain ⟨h3, rfl⟩ := List.getElem?_eq_some_iff.1 HZ.out
                rw [List.take_succ_eq_append_getElem h3]
              rw [h2] at h1
              exact h1
            · exact (((BVB.out.trans (B6.out.mono BVB.out.size)).setCell hb2 _).setCell hb2 _).setCell hb2 _
        · have d1 : decide ((k : Int) < (y.f1.length : Int)) = false := decide_eq_false hk
          have d2 : decide (k < y.f1.length) = false := decide_eq_false (by omega)
          obtain rfl : k = y.f1.length := by have := HK2.out; omega
          have HD5 := Aside0.mk HH2.out.done
          clear hk
          go_wp2
          go_roundg (x.f0.length - (i + 1))
          case measure => have := HK.out; have := HI.out; omega
          case rel =>
            have hi0 := HI.out
            have hso := HSO.out
            have glt := GLT.out
            have bg := BG.out
            have hA : wz.heap.size ≤ wa.heap.size := BA.out.size
            have h1 := HHV.out.below BV.out
            have h2 : (g59 d).M wr wz.heap.size (fun k => k ≠ G) y [.int .i64 y.f0, .slice A5 y.f1.length c5] := kS_mkM (Kd.R_lower (Kd.R_mono (Kd.R_bound (by have q := HD5.out; rw [List.take_length] at q; exact q)) (fun k hk => by have := hk.2.1; omega)) hA)
            have h3 := (h1.take (by rw [List.getElem?_set_self (by omega)]) h2 hi0).swap (olds' := so) (List.drop_set_of_lt (by omega)) HSO.out HHH.out.hs
            have h4 : x.f0.take i ++ [y] = x.f0.take (i + 1) := by
              obtain ⟨h5, rfl⟩ := List.getElem?_eq_some_iff.1 HY.out
              rw [List.take_succ_eq_append_getElem h5]
            rw [h4] at h3
            exact ⟨i + 1, rfl, ⟨by omega⟩, ⟨.inr ⟨by omega, G, k3, rfl, h3⟩⟩, ⟨Kd.R_below HRV.out BV.out⟩, ⟨blk_below HOV.out BV.out⟩, ⟨BWV.out.trans (BV.out.mono BWV.out.size)⟩⟩
    · have c1 : decide ((i : Int) < (x.f0.length : Int)) = false := decide_eq_false hi
      have c2 : decide (i < x.f0.length) = false := decide_eq_false (by omega)
      obtain rfl : i = x.f0.length := by have := HK.out; omega
      have HR := Aside0.mk HH.out.done
      have a0 := (blk_cell HO.out 0).trans rfl
      have a1 := (blk_cell HO.out 1).trans rfl
      have BX2 := Aside0.mk (HBX.out _ BW.out).2
      have b0 := (blk_cell BX2.out 0).trans rfl
      have b1 := (blk_cell BX2.out 1).trans rfl
      have f0 := blk_frozen BX2.out 0
      have f1 := blk_frozen BX2.out 1
      clear hi
      go_wp2
      have hw2 : w.heap.size + 2 ≤ wz.heap.size := by rw [HWZ.out]; simp only [World.size_alloc]; omega
      have e1 := blk_put BX2.out 0 (.slice A3 x.f0.length k3) rfl
      have e2 := blk_put e1 1 (.slice A2 x.f1.length k2) rfl
      refine bodyPost_ret (v := .agg #[.slice A3 x.f0.length k3, .slice A2 x.f1.length k2]) (results_cell_row rfl _ _ (w.heap.size + 1) 25 _ _ _ rfl e2 Try.underlying25 rfl (by kernel_rfl)) rfl ⟨⟨[.slice A3 x.f0.length k3, .slice A2 x.f1.length k2], rfl, kT_mkM ?_ ?_⟩, ?_⟩
      · have h1 := Kd.R_bound HR.out
        rw [List.take_length] at h1
        exact Kd.R_lower (Kd.R_mono (Kd.R_far (Kd.R_far h1 (p := ⟨w.heap.size + 1, 0, none⟩) (fun k hk => by have := hk.2.1; show k ≠ w.heap.size + 1; omega) _) (p := ⟨w.heap.size + 1, 1, none⟩) (fun k hk => by have := hk.2.1; show k ≠ w.heap.size + 1; omega) _) (fun _ _ => trivial)) (by omega)
      · have h1 := Kd.R_bound HRR.out
        exact Kd.R_lower (Kd.R_mono (Kd.R_far (Kd.R_far h1 (p := ⟨w.heap.size + 1, 0, none⟩) (fun k hk => by have := hk.2.1; show k ≠ w.heap.size + 1; omega) _) (p := ⟨w.heap.size + 1, 1, none⟩) (fun k hk => by have := hk.2.1; show k ≠ w.heap.size + 1; omega) _) (fun _ _ => trivial)) (by omega)
      · exact ((BZ.out.trans (BW.out.mono BZ.out.size)).setCell (by show w.heap.size ≤ w.heap.size + 1; omega) _).setCell (by show w.heap.size ≤ w.heap.size + 1; omega) _
/-- A tree no greater than a machine's. -/
def okTr (t : TT) : Prop := ∃ n, okT n t
theorem okTr_sub {t : TT} (h : okTr t) : okTree okTr t := by
 obtain ⟨n, h⟩ := h
 cases n with
 | zero => exact h.elim
 | succ n => exact ⟨⟨h.1.1, fun y hy => ⟨(h.1.2 y hy).1, (h.1.2 y hy).2.1, fun v hv => ⟨((h.1.2 y hy).2.2 v hv).1, ((h.1.2 y hy).2.2 v hv).2.1, ((h.1.2 y hy).2.2 v hv).2.2.1, fun z hz => ⟨n, ((h.1.2 y hy).2.2 v hv).2.2.2 z hz⟩⟩⟩⟩, h.2⟩
theorem Copies.imp {α : Type} {d : Kd α} {ok ok' : α → Prop} {F : FuncId} (h : Copies d ok F) (hi : ∀ x, ok' x → ok x) : Copies d ok' F := fun w x cs hk ho => h w x cs hk (hi x ho)
theorem copy_upto (E_ : List Nat) : ∀ n, Copies (Kd.upto F25 2 E_ n) okTr 13
 | 0 => fun w x cs h => h.elim
 | n + 1 => (Copy_c (upto_two E_ n) (copy_upto E_ n)).imp fun x hx => okTr_sub hx
/-- tree.Copy makes an own one of every tree. -/
theorem tree_Copy : Copies k25 okTr 13 := fun w x cs h hok => by
 obtain ⟨n, h⟩ := h
 exact (copy_upto _ n w x cs h hok).mono fun e w' he => by
  obtain ⟨⟨cs', he, hm⟩, hb⟩ := he
  exact ⟨⟨cs', he, n, hm⟩, hb⟩
end Go.Proofs.Ytbpnfpckoapdbaa.TK
end
section
namespace Go.Proofs.Ytbpnfpckoapdbaa.TK
open Go.RowKit Go.Proofs.Ytbpnfpckoapdbaa.Ops Go.Proofs.Ytbpnfpckoapdbaa.KD Go.Proofs.Ytbpnfpckoapdbaa.M Go.Proofs.YtbpnfpckoapdbaaW.PrintWords Go.Proofs.YtbpnfpckoapdbaaW.PrintLast Go.Proofs.YtbpnfpckoapdbaaW.PrintMore Go.Proofs.Ytbpnfpckoapdbaa.Open
set_option linter.unusedVariables false
set_option linter.unusedSimpArgs false
set_option maxHeartbeats 1000000
set_option maxRecDepth 100000
/-- A number that may be written over. -/
def SpInt (w : World) (k : IntKind) (g o : Nat) : Prop := (∃ m, w.cell? ⟨g, o, none⟩ = some (.int k m)) ∧ w.frozen? ⟨g, o, none⟩ = false
/-- A row of one's own whose elements are so. -/
def SpRow (B0 B1 sz : Nat) (P : Nat → Nat → Prop) (v : Value) : Prop := ∃ (A : Option Addr) (n c : Nat), v = .slice A n c ∧ n ≤ c ∧ n ≤ 9223372036854775807 ∧ (0 < n → ∃ g, A = some ⟨g, 0, none⟩ ∧ B0 ≤ g ∧ g < B1 ∧ ∀ i, i < n → P g (i * sz))
def SpVal (B0 B1 : Nat) (T : Value → Value → Prop) (w : World) (g o : Nat) : Prop := SpInt w .u64 g o ∧ ∃ v, w.cell? ⟨g, o + 2, none⟩ = some v ∧ SpRow B0 B1 2 (fun g o => ∃ v1 v2, w.cell? ⟨g, o, none⟩ = some v1 ∧ w.cell? ⟨g, o + 1, none⟩ = some v2 ∧ T v1 v2) v
def SpSlot (B0 B1 : Nat) (T : Value → Value → Prop) (w : World) (g o : Nat) : Prop := SpInt w .i64 g o ∧ ∃ v, w.cell? ⟨g, o + 1, none⟩ = some v ∧ SpRow B0 B1 3 (SpVal B0 B1 T w) v
def SpTree (B0 B1 : Nat) (T : Value → Value → Prop) (w : World) (v1 v2 : Value) : Prop := SpRow B0 B1 2 (SpSlot B0 B1 T w) v1 ∧ SpRow B0 B1 4 (SpInt w .i64) v2
def SpN (B0 B1 : Nat) : Nat → World → Value → Value → Prop
 | 0, _ => fun _ _ => False
 | n + 1, w => SpTree B0 B1 (SpN B0 B1 n w) w
/-- Numbers in blocks from B0 up to B1 may have turned, nothing else. -/
structure Turned (B0 B1 : Nat) (w w' : World) : Prop where
 os : w'.os = w.os
 tape : w'.tape = w.tape
 output : w'.output = w.output
 size : w.heap.size ≤ w'.heap.size
 block : ∀ k, k < w.heap.size → (k < B0 ∨ B1 ≤ k) → w'.heap[k]? = w.heap[k]?
 cell : ∀ g o v, w.cell? ⟨g, o, none⟩ = some v → w'.cell? ⟨g, o, none⟩ = some v ∨ ∃ k m m', v = .int k m ∧ w'.cell? ⟨g, o, none⟩ = some (.int k m')
 frozen : ∀ g o, g < w.heap.size → w'.frozen? ⟨g, o, none⟩ = w.frozen? ⟨g, o, none⟩
section
variable {B0 B1 : Nat} {w w' w2 : World}
theorem Turned.refl : Turned B0 B1 w w := ⟨rfl, rfl, rfl, Nat.le_refl _, fun _ _ _ => rfl, fun _ _ _ h => .inl h, fun _ _ _ => rfl⟩
theorem Turned.trans (h : Turned B0 B1 w w') (k : Turned B0 B1 w' w2) : Turned B0 B1 w w2 :=
 ⟨k.os.trans h.os, k.tape.trans h.tape, k.output.trans h.output, Nat.le_trans h.size k.size, fun i hi hb => (k.block i (Nat.lt_of_lt_of_le hi h.size) hb).trans (h.block i hi hb), fun g o v hv => by
   rcases h.cell g o v hv with h1 | ⟨kk, m, m', rfl, h1⟩
   · exact k.cell g o v h1
   · rcases k.cell g o _ h1 with h2 | ⟨kk', m1, m2, he, h2⟩
     · exact .inr ⟨kk, m, m', rfl, h2⟩
     · injection he with he1 he2
       subst he1
       exact .inr ⟨kk, m, m2, rfl, h2⟩,
  fun g o hg => (k.frozen g o (Nat.lt_of_lt_of_le hg h.size)).trans (h.frozen g o hg)⟩
theorem Turned.of_below (h : Below w.heap.size w w') : Turned B0 B1 w w' :=
 ⟨h.os, h.tape, h.output, h.size, fun k hk _ => h.block k hk, fun g o v hv => .inl ((h.cell (p := ⟨g, o, none⟩) (World.block_lt_of_cell? w _ hv)).trans hv), fun g o hg => h.frozen (p := ⟨g, o, none⟩) hg⟩
theorem Turned.store {k : IntKind} {g o : Nat} {m : Int} (hc : w.cell? ⟨g, o, none⟩ = some (.int k m)) (h0 : B0 ≤ g) (h1 : g < B1) (m' : Int) : Turned B0 B1 w (w.setCell ⟨g, o, none⟩ (.int k m')) := by
 have a := (Below.refl g w).setCell (p := ⟨g, o, none⟩) (Nat.le_refl _) (.int k m')
 refine ⟨a.os, a.tape, a.output, a.size, fun j hj hb => Below.heap_setCell _ _ _ _ (by show j ≠ g; omega), fun g' o' v hv => ?_, fun g' o' _ => World.frozen?_setCell _ _ _ _⟩
 by_cases he : (⟨g, o, none⟩ : Addr) = ⟨g', o', none⟩
 · rw [← he] at hv ⊢
   rw [hc] at hv
   obtain rfl := Option.some.inj hv
   exact .inr ⟨k, m, m', rfl, (by first | exact World.cell?_setCell_same w hc | exact World.cell?_setCell_same w _ hc | exact World.cell?_setCell_same w _ _ hc)⟩
 · refine .inl (Eq.trans ?_ hv); (first | exact World.cell?_setCell_other w he | exact World.cell?_setCell_other w _ he | exact World.cell?_setCell_other w _ _ he | exact World.cell?_setCell_other w _ _ _ he)
theorem SpInt.turned {k : IntKind} {g o : Nat} (h : SpInt w k g o) (ht : Turned B0 B1 w w') : SpInt w' k g o := by
 obtain ⟨⟨m, hm⟩, hf⟩ := h
 refine ⟨?_, (ht.frozen g o (World.block_lt_of_cell? w _ hm)).trans hf⟩
 rcases ht.cell g o _ hm with h1 | ⟨k', m1, m2, he, h1⟩
 · exact ⟨m, h1⟩
 · injection he with he1 he2
   subst he1
   exact ⟨m2, h1⟩
theorem keep_slice {A : Option Addr} {n c g o : Nat} (ht : Turned B0 B1 w w') (h : w.cell? ⟨g, o, none⟩ = some (.slice A n c)) : w'.cell? ⟨g, o, none⟩ = some (.slice A n c) := by
 rcases ht.cell g o _ h with h1 | ⟨k', m1, m2, he, h1⟩
 · exact h1
 · cases he
theorem SpRow.imp {sz : Nat} {P P' : Nat → Nat → Prop} {v : Value} (h : SpRow B0 B1 sz P v) (hp : ∀ g o, P g o → P' g o) : SpRow B0 B1 sz P' v := by
 obtain ⟨A, n, c, rfl, h1, h2, h3⟩ := h
 exact ⟨A, n, c, rfl, h1, h2, fun hn => by obtain ⟨g, e, a, b, hh⟩ := h3 hn; exact ⟨g, e, a, b, fun i hi => hp _ _ (hh i hi)⟩⟩
theorem SpRow.slice {sz : Nat} {P : Nat → Nat → Prop} {v : Value} (h : SpRow B0 B1 sz P v) : ∃ A n c, v = .slice A n c := by
 obtain ⟨A, n, c, rfl, _⟩ := h
 exact ⟨A, n, c, rfl⟩
theorem SpVal.turned {T T' : Value → Value → Prop} {g o : Nat} (hT : ∀ v1 v2, T v1 v2 → T' v1 v2) (hs : ∀ v1 v2, T v1 v2 → (∃ A n c, v1 = .slice A n c) ∧ ∃ A n c, v2 = .slice A n c) (ht : Turned B0 B1 w w') (h : SpVal B0 B1 T w g o) : SpVal B0 B1 T' w' g o := by
 obtain ⟨h1, v, h2, h3⟩ := h
 obtain ⟨A, n, c, rfl⟩ := h3.slice
 refine ⟨h1.turned ht, _, keep_slice ht h2, h3.imp ?_⟩
 rintro g o ⟨v1, v2, c1, c2, h4⟩
 obtain ⟨⟨A1, n1, k1, rfl⟩, ⟨A2, n2, k2, rfl⟩⟩ := hs _ _ h4
 exact ⟨_, _, keep_slice ht c1, keep_slice ht c2, hT _ _ h4⟩
theorem SpSlot.turned {T T' : Value → Value → Prop} {g o : Nat} (hT : ∀ v1 v2, T v1 v2 → T' v1 v2) (hs : ∀ v1 v2, T v1 v2 → (∃ A n c, v1 = .slice A n c) ∧ ∃ A n c, v2 = .slice A n c) (ht : Turned B0 B1 w w') (h : SpSlot B0 B1 T w g o) : SpSlot B0 B1 T' w' g o := by
 obtain ⟨h1, v, h2, h3⟩ := h
 obtain ⟨A, n, c, rfl⟩ := h3.slice
 exact ⟨h1.turned ht, _, keep_slice ht h2, h3.imp fun g o hh => hh.turned hT hs ht⟩
theorem SpN.slices : ∀ {n : Nat} {v1 v2 : Value}, SpN B0 B1 n w v1 v2 → (∃ A n c, v1 = .slice A n c) ∧ ∃ A n c, v2 = .slice A n c
 | 0, _, _, h => h.elim
 | n + 1, _, _, h => ⟨h.1.slice, h.2.slice⟩
theorem SpN.turned (ht : Turned B0 B1 w w') : ∀ {n : Nat} {v1 v2 : Value}, SpN B0 B1 n w v1 v2 → SpN B0 B1 n w' v1 v2
 | 0, _, _, h => h.elim
 | n + 1, _, _, h => ⟨h.1.imp fun g o hh => hh.turned (fun v1 v2 => SpN.turned ht) (fun v1 v2 => SpN.slices) ht, h.2.imp fun g o hh => hh.turned ht⟩
end
theorem spoil_c (B0 B1 : Nat) : ∀ (n : Nat) (w : World) (v1 v2 : Value), SpN B0 B1 n w v1 v2 → B1 ≤ w.heap.size → Calls Try.prog 15 #[.agg #[v1, v2]] w fun e w' => e = .returned (.tuple #[]) ∧ Turned B0 B1 w w'
 | 0, w, v1, v2, h, _ => h.elim
 | n + 1, w, v1, v2, h, hB => by
  have IH := Aside0.mk (spoil_c B0 B1 n)
  obtain ⟨⟨A1, n1, c1, rfl, nc1, nm1, h1⟩, ⟨A2, n2, c2, rfl, nc2, nm2, h2⟩⟩ := h
  obtain ⟨wz, hwz⟩ : ∃ wz, wz = w.alloc (.cells #[.slice A1 n1 c1, .slice A2 n2 c2] 25) := ⟨_, rfl⟩
  have bz : Below w.heap.size w wz := by rw [hwz]; exact below_alloc (Below.refl _ _) _
  have hz : wz.heap[w.heap.size]? = some (.cells #[.slice A1 n1 c1, .slice A2 n2 c2] 25 (0, 0)) := by rw [hwz]; exact blk_new _ _
  have HBX : Aside0 (∀ w', Turned B0 B1 wz w' → w'.cell? ⟨w.heap.size, 0, none⟩ = some (.slice A1 n1 c1) ∧ w'.cell? ⟨w.heap.size, 1, none⟩ = some (.slice A2 n2 c2)) := ⟨fun w' ht => by
   have h3 := (ht.block w.heap.size (blk_lt hz) (.inr hB)).trans hz
   exact ⟨(blk_cell h3 0).trans rfl, (blk_cell h3 1).trans rfl⟩⟩
  have T0 := Aside0.mk (Turned.of_below (B0 := B0) (B1 := B1) bz)
  have H1 := Aside0.mk (fun w' (ht : Turned B0 B1 wz w') hn => by
   obtain ⟨g, e, a, b, hh⟩ := h1 hn
   exact (⟨g, e, a, b, fun i hi => (hh i hi).turned (fun v1 v2 => SpN.turned (T0.out.trans ht)) (fun v1 v2 => SpN.slices) (T0.out.trans ht)⟩ : ∃ g, A1 = some ⟨g, 0, none⟩ ∧ B0 ≤ g ∧ g < B1 ∧ ∀ i, i < n1 → SpSlot B0 B1 (SpN B0 B1 n w') w' g (i * 2)))
  have H2 := Aside0.mk (fun w' (ht : Turned B0 B1 wz w') hn => by
   obtain ⟨g, e, a, b, hh⟩ := h2 hn
   exact (⟨g, e, a, b, fun i hi => (hh i hi).turned (T0.out.trans ht)⟩ : ∃ g, A2 = some ⟨g, 0, none⟩ ∧ B0 ≤ g ∧ g < B1 ∧ ∀ i, i < n2 → SpInt w' .i64 g (i * 4)))
  have HZ := Aside0.mk hwz
  have HB1 := Aside0.mk hB
  have NM1 := Aside0.mk nm1
  have NM2 := Aside0.mk nm2
  clear h1 h2 hz bz hwz hB nm1 nm2 nc1 nc2
  go_enter Try.func15, Try.ntmps15
  go_wp2_with fail
  rw [← HZ.out]
  go_loopg [2] n2 (fun kq x2 w' => ∃ i : Nat, x2 = .int .i64 (i : Int) ∧ Aside0 (kq + i = n2) ∧ Aside0 (Turned B0 B1 wz w'))
  case atStart => exact ⟨0, rfl, ⟨by omega⟩, ⟨Turned.refl⟩⟩
  case round =>
   obtain ⟨i, rfl, HK, TW⟩ := hrel
   obtain ⟨b0, b1⟩ := HBX.out _ TW.out
   by_cases hi : (i : Int) < (n2 : Int)
   · have d1 : decide ((i : Int) < (n2 : Int)) = true := decide_eq_true hi
     have p0 : (0 : Int) ≤ (i : Int) := by omega
     have hin : i < n2 := by omega
     have hw : IntKind.i64.wrap ((i : Int) + 1) = ((i + 1 : Nat) : Int) := by have := NM2.out; rw [IntKind.wrap_i64]; omega
     obtain ⟨g, rfl, g0, g1, hh⟩ := H2.out _ TW.out (by omega)
     obtain ⟨⟨m, hm⟩, hf⟩ := hh i hin
     have HN := Aside0.mk hin
     have TS := Aside0.mk (Turned.store (B0 := B0) (B1 := B1) hm g0 g1 (-7))
     replace hi := eq_true hi
     clear hh hin g0 g1
     go_wp2
     go_roundg (n2 - (i + 1))
     case measure => have := HK.out; have := HN.out; omega
     case rel => exact ⟨i + 1, rfl, ⟨by have := HN.out; omega⟩, ⟨TW.out.trans TS.out⟩⟩
   · have d1 : decide ((i : Int) < (n2 : Int)) = false := decide_eq_false hi
     have d2 : decide (i < n2) = false := decide_eq_false (by omega)
     clear hi
     go_wp2_with fail
     go_loopg [3] n1 (fun kq x3 w' => ∃ i : Nat, x3 = .int .i64 (i : Int) ∧ Aside0 (kq + i = n1) ∧ Aside0 (Turned B0 B1 wz w'))
     case atStart => exact ⟨0, rfl, ⟨by omega⟩, TW⟩
     case round =>
      clear TW
      clear b0 b1 d1 d2
      obtain ⟨i, rfl, HK, TW⟩ := hrel
      obtain ⟨b0, b1⟩ := HBX.out _ TW.out
      by_cases hi : (i : Int) < (n1 : Int)
      · have d1 : decide ((i : Int) < (n1 : Int)) = true := decide_eq_true hi
        have p0 : (0 : Int) ≤ (i : Int) := by omega
        have hin : i < n1 := by omega
        have hw : IntKind.i64.wrap ((i : Int) + 1) = ((i + 1 : Nat) : Int) := by have := NM1.out; rw [IntKind.wrap_i64]; omega
        obtain ⟨g, rfl, g0, g1, hh⟩ := H1.out wz Turned.refl (by omega)
        obtain ⟨hsi, v5, hv5, A5, n5, c5, rfl, nc5, nm5, h5⟩ := hh i hin
        obtain ⟨⟨m, hm⟩, hf⟩ := hsi.turned TW.out
        have j5 := keep_slice TW.out hv5
        have HN := Aside0.mk hin
        have TS := Aside0.mk (TW.out.trans (Turned.store (B0 := B0) (B1 := B1) hm g0 g1 (-7)))
        have NM5 := Aside0.mk nm5
        have HV5 := Aside0.mk hv5
        have H5 := Aside0.mk h5
        replace hi := eq_true hi
        clear hh hin g0 g1 h5 nc5 nm5 hv5 hsi
        go_wp2_with fail
        go_loopg [4] n5 (fun kq x4 w' => ∃ k : Nat, x4 = .int .i64 (k : Int) ∧ Aside0 (kq + k = n5) ∧ Aside0 (Turned B0 B1 wz w'))
        case atStart => exact ⟨0, rfl, ⟨by omega⟩, TS⟩
        case round =>
         clear TS TW b0 b1 hm hf j5
         obtain ⟨k, rfl, HK5, TW⟩ := hrel
         obtain ⟨b0, b1⟩ := HBX.out _ TW.out
         have j5 := keep_slice TW.out HV5.out
         by_cases hk : (k : Int) < (n5 : Int)
         · have d3 : decide ((k : Int) < (n5 : Int)) = true := decide_eq_true hk
           have p1 : (0 : Int) ≤ (k : Int) := by omega
           have hkn : k < n5 := by omega
           have hw5 : IntKind.i64.wrap ((k : Int) + 1) = ((k + 1 : Nat) : Int) := by have := NM5.out; rw [IntKind.wrap_i64]; omega
           obtain ⟨g5, rfl, g50, g51, hh⟩ := H5.out (by omega)
           obtain ⟨hsi, v6, hv6, A6, n6, c6, rfl, nc6, nm6, h6⟩ := hh k hkn
           obtain ⟨⟨m, hm⟩, hf⟩ := hsi.turned TW.out
           have j6 := keep_slice TW.out hv6
           have HKN := Aside0.mk hkn
           have TS := Aside0.mk (TW.out.trans (Turned.store (B0 := B0) (B1 := B1) hm g50 g51 77))
           have NM6 := Aside0.mk nm6
           have HV6 := Aside0.mk hv6
           have H6 := Aside0.mk h6
           replace hk := eq_true hk
           clear hh hkn g50 g51 h6 nc6 nm6 hv6 hsi
           go_wp2_with fail
           go_loopg [5] n6 (fun kq x5 w' => ∃ j : Nat, x5 = .int .i64 (j : Int) ∧ Aside0 (kq + j = n6) ∧ Aside0 (Turned B0 B1 wz w'))
           case atStart => exact ⟨0, rfl, ⟨by omega⟩, TS⟩
           case round =>
            clear TS TW b0 b1 hm hf j5 j6
            obtain ⟨j, rfl, HK6, TW⟩ := hrel
            obtain ⟨b0, b1⟩ := HBX.out _ TW.out
            have j5 := keep_slice TW.out HV5.out
            have j6 := keep_slice TW.out HV6.out
            by_cases hj : (j : Int) < (n6 : Int)
            · have d5 : decide ((j : Int) < (n6 : Int)) = true := decide_eq_true hj
              have p2 : (0 : Int) ≤ (j : Int) := by omega
              have hjn : j < n6 := by omega
              have hw6 : IntKind.i64.wrap ((j : Int) + 1) = ((j + 1 : Nat) : Int) := by have := NM6.out; rw [IntKind.wrap_i64]; omega
              obtain ⟨g6, rfl, g60, g61, hh⟩ := H6.out (by omega)
              obtain ⟨v1, v2, hc1, hc2, hsp⟩ := hh j hjn
              obtain ⟨⟨B_1, m1, e1, rfl⟩, ⟨B_2, m2, e2, rfl⟩⟩ := hsp.slices
              have k1 := keep_slice TW.out hc1
              have k2 := keep_slice TW.out hc2
              have HJN := Aside0.mk hjn
              have HCALL := Aside0.mk (IH.out wr _ _ (hsp.turned TW.out) (Nat.le_trans HB1.out (Nat.le_trans T0.out.size TW.out.size)))
              replace hj := eq_true hj
              clear hh hjn g60 g61 hc1 hc2 hsp
              go_wp2_with (first | (go_at_call 15; refine HCALL.out.mono ?_; rintro r w2 ⟨rfl, t2⟩; have T2 := Aside0.mk (TW.out.trans t2); clear t2))
              go_roundg (n6 - (j + 1))
              case measure => have := HK6.out; have := HJN.out; omega
              case rel => exact ⟨j + 1, rfl, ⟨by have := HJN.out; omega⟩, T2⟩
            · have d5 : decide ((j : Int) < (n6 : Int)) = false := decide_eq_false hj
              have d6 : decide (j < n6) = false := decide_eq_false (by omega)
              clear hj
              go_wp2
              go_roundg (n5 - (k + 1))
              case measure => have := HK5.out; have := HKN.out; omega
              case rel => exact ⟨k + 1, rfl, ⟨by have := HKN.out; omega⟩, TW⟩
         · have d3 : decide ((k : Int) < (n5 : Int)) = false := decide_eq_false hk
           have d4 : decide (k < n5) = false := decide_eq_false (by omega)
           clear hk
           go_wp2
           go_roundg (n1 - (i + 1))
           case measure => have := HK.out; have := HN.out; omega
           case rel => exact ⟨i + 1, rfl, ⟨by have := HN.out; omega⟩, TW⟩
      · have d1 : decide ((i : Int) < (n1 : Int)) = false := decide_eq_false hi
        have d2 : decide (i < n1) = false := decide_eq_false (by omega)
        clear hi
        go_wp2
        go_end0
        exact ⟨rfl, T0.out.trans TW.out⟩
end Go.Proofs.Ytbpnfpckoapdbaa.TK
end
section
namespace Go.Proofs.Ytbpnfpckoapdbaa.TK
open Go.RowKit Go.Proofs.Ytbpnfpckoapdbaa.KD Go.Proofs.Ytbpnfpckoapdbaa.M Go.Proofs.YtbpnfpckoapdbaaW.PrintWords Go.Proofs.YtbpnfpckoapdbaaW.PrintLast Go.Proofs.YtbpnfpckoapdbaaW.PrintMore
set_option linter.unusedVariables false
set_option linter.unusedSimpArgs false
set_option maxHeartbeats 1000000
set_option maxRecDepth 100000
theorem bcellL {W w1 : World} (hb : Below W.heap.size W w1) : (∀ b o, b < W.heap.size → w1.cell? ⟨b, o, none⟩ = W.cell? ⟨b, o, none⟩) ∧ (∀ b o, b < W.heap.size → w1.frozen? ⟨b, o, none⟩ = W.frozen? ⟨b, o, none⟩) :=
 ⟨fun b o h => hb.cell (p := ⟨b, o, none⟩) h, fun b o h => hb.frozen (p := ⟨b, o, none⟩) h⟩
theorem each_none (f : Value) (w : World) : Calls Try.prog 58 #[.agg #[.slice none 0 0, .slice none 0 0], f] w fun e w' => e = .returned (.tuple #[]) ∧ Below w.heap.size w w' := by
 have HB := Aside0.mk (Below.refl w.heap.size w)
 go_enter Try.func58, Try.ntmps58
 go_wp2_with fail
 obtain ⟨wz, hwz⟩ : ∃ wz, wz = w.alloc (.cells #[.slice none 0 0, .slice none 0 0] 25) := ⟨_, rfl⟩
 rw [← hwz]
 have HZ := Aside0.mk (show Below w.heap.size w wz by rw [hwz]; exact below_alloc (Below.refl _ _) _)
 clear hwz
 go_loopg [11] 0 (fun kq v11 w' => v11 = .int .i64 0 ∧ Aside0 (Below w.heap.size w w'))
 case atStart => exact ⟨rfl, HZ⟩
 case round =>
  obtain ⟨rfl, BW⟩ := hrel
  go_wp2
  go_end0
  exact ⟨rfl, BW.out⟩
theorem deep_none (w : World) : Calls Try.prog 17 #[.agg #[.slice none 0 0, .slice none 0 0]] w fun e w' => e = .returned (.int .i64 1) ∧ Below w.heap.size w w' := by
 have HB := Aside0.mk (Below.refl w.heap.size w)
 go_enter Try.func17, Try.ntmps17
 go_wp2_with (first
  | (go_at_call 58; refine (each_none _ _).mono ?_; rintro r w1 ⟨rfl, b1⟩; obtain ⟨hc1, hf1⟩ := bcellL b1; have HB := Aside0.mk (below_step (by repeat (first | (with_reducible first | exact HB.out | apply below_alloc | apply pw_below_drewN | apply below_drew) )) b1); clear b1))
 go_ret
 exact ⟨rfl, HB.out⟩
theorem count_none (w : World) : Calls Try.prog 19 #[.agg #[.slice none 0 0, .slice none 0 0]] w fun e w' => e = .returned (.int .i64 0) ∧ Below w.heap.size w w' := by
 have HB := Aside0.mk (Below.refl w.heap.size w)
 go_enter Try.func19, Try.ntmps19
 go_wp2_with (first
  | (go_at_call 58; refine (each_none _ _).mono ?_; rintro r w1 ⟨rfl, b1⟩; obtain ⟨hc1, hf1⟩ := bcellL b1; have HB := Aside0.mk (below_step (by repeat (first | (with_reducible first | exact HB.out | apply below_alloc | apply pw_below_drewN | apply below_drew) )) b1); clear b1))
 go_ret
 exact ⟨rfl, HB.out⟩
theorem live_c (w : World) : Calls Try.prog 11 #[] w fun e w' => e = .returned (.bool true) ∧ Below w.heap.size w w' := by
 go_enter Try.func11, Try.ntmps11
 go_wp2_with (first
  | (go_at_call 17; refine (deep_none _).mono ?_; rintro r w1 ⟨rfl, b1⟩; have B1 := Aside0.mk b1; clear b1)
  | (go_at_call 19; refine (count_none _).mono ?_; rintro r w2 ⟨rfl, b2⟩; have B2 := Aside0.mk b2; clear b2))
 go_ret
 exact ⟨rfl, B1.out.trans (B2.out.mono B1.out.size)⟩
end Go.Proofs.Ytbpnfpckoapdbaa.TK
end
section
namespace Go.Proofs.Ytbpnfpckoapdbaa.PT19
open Go.RowKit Go.Proofs.Ytbpnfpckoapdbaa.M Go.Proofs.Ytbpnfpckoapdbaa.KD Go.Proofs.Ytbpnfpckoapdbaa Go.Proofs.YtbpnfpckoapdbaaW.PrintWords Go.Proofs.YtbpnfpckoapdbaaW.PrintLast Go.Proofs.YtbpnfpckoapdbaaW.PrintMore
attribute [local go_sem] max2_int min2_int max_two min_two max_three min_three max_four min_four   -- for this text's walks alone
set_option linter.unusedVariables false
set_option linter.unusedSimpArgs false
theorem info25 : (Try.prog.info? 25).map (fun i => (i.zero, i.size, i.bytes)) = some (some (.agg #[(.slice none 0 0), (.slice none 0 0)]), 2, 48) := by kernel_rfl
theorem info59 : (Try.prog.info? 59).map (fun i => (i.zero, i.size, i.bytes)) = some (some (.agg #[(.int .i64 0), (.slice none 0 0)]), 2, 32) := by kernel_rfl
theorem info70 : (Try.prog.info? 70).map (fun i => (i.zero, i.size, i.bytes)) = some (some (.agg #[(.int .u64 0), (.string ⟨#[]⟩), (.slice none 0 0)]), 3, 48) := by kernel_rfl
theorem info73 : (Try.prog.info? 73).map (fun i => (i.zero, i.size, i.bytes)) = some (some (.agg #[(.int .i64 0), (.int .i64 0), (.int .u64 0), (.string ⟨#[]⟩)]), 4, 40) := by kernel_rfl
end Go.Proofs.Ytbpnfpckoapdbaa.PT19
end
section
namespace Go.Proofs.Ytbpnfpckoapdbaa.PT19
open Go.RowKit Go.Proofs.Ytbpnfpckoapdbaa.M Go.Proofs.Ytbpnfpckoapdbaa.KD Go.Proofs.Ytbpnfpckoapdbaa Go.Proofs.YtbpnfpckoapdbaaW.PrintWords Go.Proofs.YtbpnfpckoapdbaaW.PrintLast Go.Proofs.YtbpnfpckoapdbaaW.PrintMore
attribute [local go_sem] max2_int min2_int max_two min_two max_three min_three max_four min_four   -- for this text's walks alone
set_option linter.unusedVariables false
set_option linter.unusedSimpArgs false
theorem eqA73 (d : Nat) (w : World) (x0 y0 : Int) (x1 y1 : Int) (x2 y2 : Int) (x3 y3 : ByteArray) :
  (Op.equalIn (d + 2) 73 (.agg #[.int .i64 x0, .int .i64 x1, .int .u64 x2, .string x3]) (.agg #[.int .i64 y0, .int .i64 y1, .int .u64 y2, .string y3])).run Try.prog w = .ok (x0 == y0 && (x1 == y1 && (x2 == y2 && (x3.toList == y3.toList)))) w := by
 refine eqA_of Try.underlying73 (by kernel_rfl) ?_
 refine eqf_cons (by rfl) (by go_simp; rfl) (by go_simp; rfl) (by go_simp) ?_
 refine eqf_cons (by rfl) (by go_simp; rfl) (by go_simp; rfl) (by go_simp) ?_
 refine eqf_cons (by rfl) (by go_simp; rfl) (by go_simp; rfl) (by go_simp) ?_
 exact eqf_last (by rfl) (by go_simp; rfl) (by go_simp; rfl) (by go_simp)
end Go.Proofs.Ytbpnfpckoapdbaa.PT19
end

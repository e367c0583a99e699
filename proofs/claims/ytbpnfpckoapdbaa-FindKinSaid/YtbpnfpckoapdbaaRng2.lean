/- Functions whose loops hold ranges over functions: their marks, and how they leave; conditions stand at each. -/
import Derived.Test.YtbpnfpckoapdbaaMRange
import Derived.Test.YtbpnfpckoapdbaaWMore
import Derived.Maps.OwnIn
namespace Go.Proofs.Ytbpnfpckoapdbaa.Rng
open Go.RowKit Go.Proofs.YtbpnfpckoapdbaaW.PrintWords
/-- The marks among deferred calls: each an open block of its own. -/
def Marks (B : Nat) : List Deferred → World → Prop
  | [], _ => True
  | d :: ds, W => ∃ D, d = { target := .collected D, args := #[] } ∧ B ≤ D ∧ W.heap[D]? = some (.deferred (some [])) ∧ (∀ d' ∈ ds, d'.target ≠ .collected D) ∧ Marks B ds W
theorem Marks.keep {B : Nat} : ∀ {ds : List Deferred} {W W' : World}, Marks B ds W → KeepsOthers W W' → Marks B ds W'
  | [], _, _, _, _ => trivial
  | _ :: _, _, _, ⟨D, h1, h2, h3, h4, h5⟩, hk => ⟨D, h1, h2, hk.same _ _ h3 rfl, h4, h5.keep hk⟩
theorem Marks.lt {B : Nat} : ∀ {ds : List Deferred} {W : World}, Marks B ds W → ∀ d ∈ ds, ∃ D, d.target = .collected D ∧ D < W.heap.size
  | [], _, _, d, hd => absurd hd List.not_mem_nil
  | e :: ds, W, ⟨D, h1, h2, h3, h4, h5⟩, d, hd => by
    rcases List.mem_cons.1 hd with rfl | hd
    · exact ⟨D, by rw [h1], (Array.getElem?_eq_some_iff.1 h3).1⟩
    · exact Marks.lt h5 d hd
theorem Marks.cons {B D : Nat} {ds : List Deferred} {W W0 : World} (h : Marks B ds W0) (hk : KeepsOthers W0 W) (hD : W0.heap.size ≤ D) (hB : B ≤ D) (hd : W.heap[D]? = some (.deferred (some []))) : Marks B ({ target := .collected D, args := #[] } :: ds) W :=
  ⟨D, rfl, hB, hd, fun d' hd' e => by
    obtain ⟨D', h1, h2⟩ := Marks.lt h d' hd'
    rw [e] at h1
    injection h1 with h1
    omega, h.keep hk⟩
/-- What shutting the marks leaves. -/
structure Shut (B : Nat) (W W' : World) : Prop where
  bel : Below B W W'
  cells : ∀ (j : Nat) (cs : Array Value) (t : TypeId) (fr : Nat × Nat), W.heap[j]? = some (.cells cs t fr) → W'.heap[j]? = some (.cells cs t fr)
theorem Shut.refl (B : Nat) (W : World) : Shut B W W := ⟨Below.refl _ _, fun _ _ _ _ h => h⟩
theorem Shut.trans {B : Nat} {W W1 W2 : World} (h : Shut B W W1) (k : Shut B W1 W2) : Shut B W W2 := ⟨h.bel.trans k.bel, fun j cs t fr hj => k.cells j cs t fr (h.cells j cs t fr hj)⟩
theorem leavesM {F : Fence} {n B : Nat} {P : Program} {fn : Func} {tmps : Array Value} {R : Ending → World → Prop} : ∀ (ds : List Deferred) (W : World), Marks B ds W → (∀ W', Shut B W W' → LeavesInM F n P fn tmps R [] .returning W') → LeavesInM F n P fn tmps R ds .returning W
  | [], W, _, h => h W (Shut.refl _ _)
  | d :: ds, W, ⟨D, h1, h2, h3, h4, h5⟩, h => by
    subst h1
    refine ⟨by simp, .inl ⟨D, _, rfl, run_takeDeferred h3, ?_⟩⟩
    have hne : ∀ j, j ≠ D → (W.putObj D (.deferred none)).heap[j]? = W.heap[j]? := fun j hj => World.putObj_heap_other hj
    have hs : Shut B W (W.putObj D (.deferred none)) := ⟨⟨rfl, rfl, rfl, by simp, fun i hi => hne i (by omega)⟩, fun j cs t fr hj => (hne j (fun e => by subst e; rw [h3] at hj; cases hj)).trans hj⟩
    have hm : ∀ (ds : List Deferred), (∀ d' ∈ ds, d'.target ≠ .collected D) → Marks B ds W → Marks B ds (W.putObj D (.deferred none)) := by
      intro ds
      induction ds with
      | nil => intro _ _; trivial
      | cons e es ih =>
        rintro hd ⟨D', g1, g2, g3, g4, g5⟩
        refine ⟨D', g1, g2, (hne D' (fun e' => hd e (by simp) (by rw [g1, e']))).trans g3, g4, ih (fun d' hd' => hd d' (by simp [hd'])) g5⟩
    exact leavesM ds _ (hm ds h4 h5) (fun W' hW' => h W' (hs.trans hW'))
theorem szA {B : Nat} {W : World} (h : B ≤ W.heap.size) (o : Obj) : B ≤ (W.alloc o).heap.size := by rw [World.size_alloc]; omega
theorem R_appendIn {F : Fence} {nF : Nat} {P : Program} {ops : Array Oper} {rest : List Oper} {o : Oper} {a : Act} {Q : Exit → Act → World → Prop} {α : Type} (d : Kd α) {w0 W : World} (base : Nat) (hgd : o.guard = none) (s x : Operand) (t e : TypeId) (z : Value) (bytes : Nat)
    (ho : o.op = .call { callee := .builtin .append, args := #[s, x], argTypes := #[t, t] })
    (ht : P.underlying t = some (.slice e)) (hinfo : (P.info? e).map (fun i => (i.zero, i.size, i.bytes)) = some (some z, d.sz, bytes)) (hz : z.cells.size = d.sz) (hs0 : 0 < d.sz) (hb0 : 0 < bytes)
    (v : Value) (xs : List α) (p : α) (cs : List Value) (ok okp : Nat → Prop) (hs : a.eval s = v) (hx : a.eval x = .slice (some ⟨W.heap.size, 0, none⟩) 1 1) (hp : d.M W base okp p cs) (hokp : ∀ k, okp k → ok k ∧ some k ≠ v.ownBlock) (hfresh : ∀ k, W.heap.size ≤ k → ok k)
    (HO : d.R e W base ok v xs) (HB : Below base w0 W) (hbase : base ≤ W.heap.size) (hl : (xs.length + 1) * bytes ≤ 140737488355328)
    (h : ∀ v1 w1, d.R e w1 base ok v1 (xs ++ [p]) → Below base w0 w1 → W.grownBy w1 v.ownBlock → wpListIn F nF P ops Q rest (a.put o.dst v1) w1) :
    wpListIn F nF P ops Q (o :: rest) a (W.alloc (.cells cs.toArray e)) := by
  obtain ⟨h0, inner, hown, hr⟩ := HO
  obtain ⟨i0, hi, hzz⟩ := Option.map_eq_some_iff.1 hinfo
  simp only [Prod.mk.injEq] at hzz
  obtain ⟨hz0, hz1, hz2⟩ := hzz
  have hlen : xs.length + 1 ≤ 140737488355328 := Nat.le_trans (Nat.le_mul_of_pos_right _ hb0) hl
  refine wpListIn_append_own_at (W.alloc _) hgd s x t ho base e i0 z d.sz bytes ht hi hz0 hz1 hz2 hz hs0 v xs.length inner hs (hown.alloc _) ⟨W.heap.size, 0, none⟩ 1 1 cs hx (by rw [Nat.one_mul]; exact d.K_len (d.K_of_M hp))
    (World.news_of_block (cs := cs.toArray) (t := e) (fr := (0, 0)) (heap_alloc_new W _)) (d.K_one (d.K_of_M hp)) (by simp only [maxLen]; omega) hl (szA hbase _) ?_
  intro v1 w1 hown1 hg _ hat
  have hg1 : W.grownBy w1 v.ownBlock := World.grownBy.trans (World.grownBy_alloc W _ _) hg
  refine h v1 w1 (Kd.R_appended h0 hr hp hokp hfresh hown1 hg1 ?_) ((HB.alloc hbase _).grown hg (szA hbase _) (own_base hown)) hg1
  rcases hat with hat | hat
  · exact .inl hat
  · exact .inr ⟨_, hat, by rw [World.size_alloc]; omega⟩
end Go.Proofs.Ytbpnfpckoapdbaa.Rng

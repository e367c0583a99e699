/- 'for x := range seq' whose body never leaves early, over an iterator that keeps its state in cells: one law; conditions stand at each. -/
import Derived.RangeFuncNested
import Derived.RangeFuncBound
import Derived.RangeFuncCalls
import Derived.RangeFuncLeaves
import Derived.Shelf.Abstract
import Derived.Shelf.RegionOpen
import Derived.WalkKit
import Derived.OwnWalkIn
import Derived.TacticsInMore
import Derived.LoopNIn
import Derived.LoopIn
import Derived.Test.YtbpnfpckoapdbaaProg
namespace Go.Proofs.Ytbpnfpckoapdbaa.Rng
open Go.RowKit
/-- Whatever predicate: it abides the turn of a block at or beyond B that is no cells, and a new block. -/
def Firm (B : Nat) (J : World → Prop) : Prop := (∀ W l o o', J W → B ≤ l → W.heap[l]? = some o → o.isCells = false → J (W.putObj l o')) ∧ (∀ W o, J W → J (W.alloc o))
/-- A round's end, where the body never leaves. -/
def OnPost (Z : World → Prop) (W : World) : Exit → Act → World → Prop
  | .normal, _, W' => KeepsOthers W W' ∧ Z W'
  | _, _, _ => False
/-- The iterator's contract: Bk is the caller's book-keeping; Y, Z: what holds when yield is called, and behind it. -/
def SeqOn {α σ : Type} (n : Nat) (P : Program) (gf : Nat) (lb : Array Value) (encs : α → Array Value) (R0 Fin : World → Prop) (Y Z : σ → α → World → Prop) : Prop :=
  ∀ (l : Nat) (Bk : World → Prop), (∀ A A', Bk A → KeepsOthers A A' → Bk A') →
    (∀ s x W, Y s x W → Bk W → YieldAt Fence.wide (n - 1) P l (encs x) W fun e W' => e = .returned (.bool true) ∧ Z s x W' ∧ Bk W') →
    ∀ W, R0 W → Bk W → CallsIn Fence.wide n P gf (#[.func (.yield l) #[] #[]] ++ lb) W fun e W' => (∃ v, e = .returned v) ∧ Fin W' ∧ Bk W'
theorem range_on {P : Program} {α σ : Type} {g : Operand} {ps : Array Tmp} {assign body : Code} {Q : Exit → Act → World → Prop} {a : Act} {w : World} {n : Nat} {gf : Nat} {lb : Array Value} (hg : a.eval g = .func (.func gf) #[] lb) (eg : ∀ args w, (callFunc gf args).run P w = .ok (.enter gf args) w)
    {encs : α → Array Value} {R0 Fin : World → Prop} {Y Z : σ → α → World → Prop} (hseq : SeqOn (n - 1) P gf lb encs R0 Fin Y Z) (hps : ∀ x, (encs x).size = ps.size)
    (hR : Firm w.heap.size R0) (hF : Firm w.heap.size Fin) (hY : ∀ s x, Firm w.heap.size (Y s x)) (hZ : ∀ s x, Firm w.heap.size (Z s x)) (h0 : R0 w) (Ax : α → Act → World → Prop)
    (hAx : ∀ x a₁, Firm w.heap.size (Ax x a₁))
    (hassign : ∀ (l : Nat) (s : σ) (x : α) (W : World) (K : Act → World → Prop), Y s x W → (∀ a₁ W', KeepsOthers W W' → Y s x W' → Ax x a₁ W' → K a₁ W') →
      assign.wpIn (Fence.wide.inRound l) (n - 1 - 1) P (Exit.then K (fun _ _ _ => False)) { tmps := (ps.zip (encs x)).foldl (fun t (p, v) => t.setIfInBounds p v) a.tmps, defers := [] } W)
    (hbody : ∀ (l : Nat) (s : σ) (x : α) (a₁ : Act) (W : World), Y s x W → Ax x a₁ W → body.wpIn (Fence.wide.inRound l) (n - 1 - 1) P (OnPost (Z s x) W) a₁ W)
    (hdone : ∀ (D : Nat) (W : World), w.heap.size ≤ D → Fin W → W.heap[D]? = some (.deferred (some [])) → Q .normal { a with defers := { target := .collected D, args := #[] } :: a.defers } W) :
    (Code.rangeFunc g ps assign body).wpIn Fence.wide n P Q a w := by
  refine wpIn_rangeFunc ?_
  intro fn hfn
  obtain ⟨rec, hrec⟩ : ∃ rec : LoopState → Loop, rec = fun st => { state := st, pending := none, fn, tmps := a.tmps, params := ps, assign, body, defers := w.heap.size } := ⟨_, rfl⟩
  obtain ⟨W1, hW1⟩ : ∃ W1, (w.alloc (.deferred (some []))).alloc (.loop (rec .ready)) = W1 := ⟨_, rfl⟩
  have hs1 : W1.heap.size = w.heap.size + 2 := by rw [← hW1]; simp
  have hl1 : W1.heap[w.heap.size + 1]? = some (.loop (rec .ready)) := by
    have := World.alloc_heap_new (w.alloc (.deferred (some []))) (.loop (rec .ready))
    rw [World.size_alloc] at this
    rw [← hW1]; exact this
  have hd1 : W1.heap[w.heap.size]? = some (.deferred (some [])) := by
    rw [← hW1]; exact (Below.heap_alloc _ _ _ (by simp)).trans (World.alloc_heap_new w _)
  have hR1 : R0 W1 := by rw [← hW1]; exact hR.2 _ _ (hR.2 _ _ h0)
  obtain ⟨Bk, hBk⟩ : ∃ Bk : World → Prop, Bk = fun W => W.heap[w.heap.size + 1]? = some (.loop (rec .ready)) ∧ W.heap[w.heap.size]? = some (.deferred (some [])) := ⟨_, rfl⟩
  have hB1 : Bk W1 := by rw [hBk]; exact ⟨hl1, hd1⟩
  refine ⟨w.heap.size + 1, [{ target := .collected w.heap.size, args := #[] }], W1, { target := .fn (.func gf) lb, args := #[.func (.yield (w.heap.size + 1)) #[] #[]] }, W1, gf,
    #[.func (.yield (w.heap.size + 1)) #[] #[]] ++ lb, W1, ?_, ?_, ?_, ?_, ?_, ?_⟩
  · rw [← hW1, hrec]; exact run_enterLoop_outer _ _ _ _ _
  · simp only [resolve, hg]
    simp [go_sem]
  · intro f' _; trivial
  · simp [invoke, go_sem, eg]
  · intro h; cases h
  · refine (hseq (w.heap.size + 1) Bk ?_ ?_ W1 hR1 hB1).mono ?_
    · intro A A' h k
      rw [hBk] at h ⊢
      exact ⟨k.same _ _ h.1 rfl, k.same _ _ h.2 rfl⟩
    · intro s x W hy hb
      rw [hBk] at hb
      obtain ⟨hl, hd⟩ := hb
      have hlt : w.heap.size + 1 < W.heap.size := (Array.getElem?_eq_some_iff.1 hl).1
      have hyl := run_yield (P := P) (args := encs x) hl (by rw [hrec]; exact hps x)
      rw [hrec] at hyl
      refine ⟨fn, _, assign, body, hyl, roundIn_of_wpIn hfn (hassign _ s x W _ hy ?_)⟩
      intro a₁ W2 hk hy2 hax
      have hl2 := hk.same _ _ hl rfl
      have hd2 := hk.same _ _ hd rfl
      refine ⟨_, run_beginRound hl2 (by rw [hrec]), ?_⟩
      have hlt2 : w.heap.size + 1 < W2.heap.size := (Array.getElem?_eq_some_iff.1 hl2).1
      obtain ⟨W3, hW3⟩ : ∃ W3, W2.putObj (w.heap.size + 1) (.loop { rec .ready with state := .busy }) = W3 := ⟨_, rfl⟩
      rw [hW3]
      have hl3 : W3.heap[w.heap.size + 1]? = some (.loop { rec .ready with state := .busy }) := by rw [← hW3]; exact World.putObj_heap_same hlt2
      have hd3 : W3.heap[w.heap.size]? = some (.deferred (some [])) := by rw [← hW3]; exact (World.putObj_heap_other (by omega)).trans hd2
      have hy3 : Y s x W3 := by rw [← hW3]; exact (hY s x).1 _ _ _ _ hy2 (by omega) hl2 rfl
      have hax3 : Ax x a₁ W3 := by rw [← hW3]; exact (hAx x a₁).1 _ _ _ _ hax (by omega) hl2 rfl
      refine wpIn_mono (hbody _ s x a₁ W3 hy3 hax3) ?_
      rintro e a4 W4 hp
      cases e with
      | normal =>
        obtain ⟨hk4, hz4⟩ := hp
        have hl4 := hk4.same _ _ hl3 rfl
        have hd4 := hk4.same _ _ hd3 rfl
        have hend := run_endRound (P := P) none hl4
        refine ⟨_, _, hend, rfl, (hZ s x).1 _ _ _ _ hz4 (by omega) hl4 rfl, ?_⟩
        rw [hBk]
        refine ⟨?_, (World.putObj_heap_other (by omega)).trans hd4⟩
        have h5 := World.putObj_heap_same (w := W4) (o := .loop { { rec .ready with state := .busy } with state := if (none : Option Code).isNone then .ready else .done, pending := none }) (Array.getElem?_eq_some_iff.1 hl4).1
        rw [h5, hrec]
        rfl
      | _ => exact hp.elim
    · rintro e W2 ⟨⟨v, rfl⟩, hfin, hb⟩
      rw [hBk] at hb
      have hend := run_endLoop (P := P) hb.1 (by rw [hrec]; simp)
      have hp : (rec .ready).pending = none := by rw [hrec]
      rw [hp] at hend
      exact ⟨none, _, hend, hdone _ _ (Nat.le_refl _) (hF.1 _ _ _ _ hfin (by omega) hb.1 rfl) ((World.putObj_heap_other (by omega)).trans hb.2)⟩
end Go.Proofs.Ytbpnfpckoapdbaa.Rng

/- find.Kin's iterator, handed the law's closure; conditions stand at each. -/
import Derived.Test.YtbpnfpckoapdbaaFindE
import Derived.Deep.RegionHeld3
namespace Go.Proofs.Ytbpnfpckoapdbaa.M
open Go.RowKit Go.Shelf Go.Proofs.Ytbpnfpckoapdbaa.Rng Go.Proofs.YtbpnfpckoapdbaaW.PrintWords Go.Proofs.YtbpnfpckoapdbaaW.PrintLast Go.Proofs.YtbpnfpckoapdbaaW.PrintMore Go.Proofs.Ytbpnfpckoapdbaa.KD
set_option linter.unusedVariables false
set_option linter.unusedSimpArgs false
set_option maxHeartbeats 1000000
set_option maxRecDepth 100000
attribute [local go_sem] Oper.semAt_some
/-- The boxes: the schema's, what is collected, how much at most, what is told. -/
structure KJ (w0 : World) (sb ob mb tb : Nat) (A0 A1 : Option Addr) (c0 c1 : Nat) (es : List S86) (ms : List S47) (most : Int) (outL toldL : List ByteArray) (vo vt : Value) (W : World) : Prop where
  bel : Below w0.heap.size w0 W
  hle : w0.heap.size ≤ W.heap.size
  sbx : W.heap[sb]? = some (.cells #[.slice A0 es.length c0, .slice A1 ms.length c1] 35 (0, 0))
  obx : W.heap[ob]? = some (.cells #[vo] 37 (0, 0))
  mbx : W.heap[mb]? = some (.cells #[.int .i64 most] 3 (0, 0))
  tbx : W.heap[tb]? = some (.cells #[vt] 37 (0, 0))
  out : Kd.R Kd.string 9 W w0.heap.size (fun _ => True) vo outL
  tol : Kd.R Kd.string 9 W w0.heap.size (fun _ => True) vt toldL
  ap : ∀ k, vt.ownBlock = some k → vo.ownBlock ≠ some k
  ne : ob ≠ tb
  obB : w0.heap.size ≤ ob
  tbB : w0.heap.size ≤ tb
  rdE : Kd.C k86 w0 A0 es.length es
  lcE : es.length ≤ c0
  rdM : Kd.C k47 w0 A1 ms.length ms
  lcM : ms.length ≤ c1
section
variable {w0 W W' : World} {sb ob mb tb : Nat} {A0 A1 : Option Addr} {c0 c1 : Nat} {es : List S86} {ms : List S47} {most : Int} {outL toldL : List ByteArray} {vo vt : Value}
theorem KJ.below (h : KJ w0 sb ob mb tb A0 A1 c0 c1 es ms most outL toldL vo vt W) (hb : Below W.heap.size W W') : KJ w0 sb ob mb tb A0 A1 c0 c1 es ms most outL toldL vo vt W' :=
  ⟨h.bel.trans (hb.mono h.hle), Nat.le_trans h.hle hb.size, blk_below h.sbx hb, blk_below h.obx hb, blk_below h.mbx hb, blk_below h.tbx hb, Rs_mv h.out (fun k hk => by obtain ⟨_, cs, hcs⟩ := R_typed' h.out hk; exact hb.block k (blk_lt hcs)), Rs_mv h.tol (fun k hk => by obtain ⟨_, cs, hcs⟩ := R_typed' h.tol hk; exact hb.block k (blk_lt hcs)), h.ap, h.ne, h.obB, h.tbB, h.rdE, h.lcE, h.rdM, h.lcM⟩
theorem KJ.alloc (h : KJ w0 sb ob mb tb A0 A1 c0 c1 es ms most outL toldL vo vt W) (o : Obj) : KJ w0 sb ob mb tb A0 A1 c0 c1 es ms most outL toldL vo vt (W.alloc o) := h.below (below_alloc (Below.refl _ _) _)
theorem KJ.drewN (h : KJ w0 sb ob mb tb A0 A1 c0 c1 es ms most outL toldL vo vt W) (n : Nat) : KJ w0 sb ob mb tb A0 A1 c0 c1 es ms most outL toldL vo vt (W.drewN n) := h.below (pw_below_drewN (Below.refl _ _) _)
theorem KJ.putObj (h : KJ w0 sb ob mb tb A0 A1 c0 c1 es ms most outL toldL vo vt W) {k : Nat} {o : Obj} (o' : Obj) (hB : w0.heap.size ≤ k) (hk : W.heap[k]? = some o) (ho : o.isCells = false) : KJ w0 sb ob mb tb A0 A1 c0 c1 es ms most outL toldL vo vt (W.putObj k o') := by
  have hne : ∀ j, (∃ cs t, W.heap[j]? = some (Obj.cells cs t (0, 0))) → (W.putObj k o').heap[j]? = W.heap[j]? := fun j ⟨cs, t, hj⟩ => World.putObj_heap_other (fun e => by subst e; rw [hk] at hj; cases hj; cases ho)
  exact ⟨h.bel.trans ⟨rfl, rfl, rfl, by simp, fun i hi => World.putObj_heap_other (by omega)⟩, by simpa using h.hle, (hne _ ⟨_, _, h.sbx⟩).trans h.sbx, (hne _ ⟨_, _, h.obx⟩).trans h.obx, (hne _ ⟨_, _, h.mbx⟩).trans h.mbx, (hne _ ⟨_, _, h.tbx⟩).trans h.tbx, Rs_mv h.out (fun j hj => by obtain ⟨_, cs, hcs⟩ := R_typed' h.out hj; exact hne j ⟨_, _, hcs⟩), Rs_mv h.tol (fun j hj => by obtain ⟨_, cs, hcs⟩ := R_typed' h.tol hj; exact hne j ⟨_, _, hcs⟩), h.ap, h.ne, h.obB, h.tbB, h.rdE, h.lcE, h.rdM, h.lcM⟩
/-- Behind the closure's call. -/
theorem KJ.yield (h : KJ w0 sb ob mb tb A0 A1 c0 c1 es ms most outL toldL vo vt W) {x : ByteArray} {e : Ending} (hp : Kin1P w0 W ob vo most outL x e W') :
    ∃ vo', e = .returned (.bool (((outL.length + 1 : Nat) : Int) != most)) ∧ KJ w0 sb ob mb tb A0 A1 c0 c1 es ms most (outL ++ [x]) toldL vo' vt W' ∧ KeepsOthers W W' := by
  obtain ⟨vo', he, h1, h2, h3, h4, h5, h6, h7⟩ := hp
  have ty : ∀ {k t : Nat} {cells : Array Value}, W.heap[k]? = some (.cells cells t (0, 0)) → t ≠ 37 → t ≠ 9 → W'.heap[k]? = W.heap[k]? := by
    intro k t cells hk ht1 ht2
    refine h3 k (blk_lt hk) (fun e => ?_) (fun e => ?_)
    · rw [e, h.obx] at hk; cases hk; exact ht1 rfl
    · obtain ⟨_, cs, hcs⟩ := R_typed' h.out e.symm
      rw [hcs] at hk; cases hk; exact ht2 rfl
  have tt : W'.heap[tb]? = W.heap[tb]? := by
    refine h3 tb (blk_lt h.tbx) (fun e => h.ne e.symm) (fun e => ?_)
    obtain ⟨_, cs, hcs⟩ := R_typed' h.out e.symm
    rw [h.tbx] at hcs
    cases hcs
  refine ⟨vo', he, ⟨h4, Nat.le_trans h.hle h6, (ty h.sbx (by decide) (by decide)).trans h.sbx, h1, (ty h.mbx (by decide) (by decide)).trans h.mbx, tt.trans h.tbx, h2, Rs_mv h.tol (fun k hk => ?_), fun k hk e => ?_, h.ne, h.obB, h.tbB, h.rdE, h.lcE, h.rdM, h.lcM⟩, h7⟩
  · obtain ⟨_, cs, hcs⟩ := R_typed' h.tol hk
    refine h3 k (blk_lt hcs) (fun e => ?_) (fun e => h.ap k hk e.symm)
    rw [e, h.obx] at hcs
    cases hcs
  · rcases h5 with h5 | ⟨b, h5, hb⟩
    · exact h.ap k hk (h5 ▸ e)
    · obtain ⟨_, cs, hcs⟩ := R_typed' h.tol hk
      have := blk_lt hcs
      rw [h5] at e
      injection e with e
      omega
theorem KJ.tolA (h : KJ w0 sb ob mb tb A0 A1 c0 c1 es ms most outL toldL vo vt W) : Kd.R Kd.string 9 W w0.heap.size (fun k => some k ≠ vo.ownBlock) vt toldL := by
  obtain ⟨_, inner, ho, hr⟩ := h.tol
  exact ⟨fun k hk e => h.ap k hk e.symm, inner, ho, hr.imp_ (fun _ _ hp => hp)⟩
theorem KJ.voL (h : KJ w0 sb ob mb tb A0 A1 c0 c1 es ms most outL toldL vo vt W) (k : Nat) (hk : W.heap.size ≤ k) : some k ≠ vo.ownBlock := fun e => by
  obtain ⟨_, cs, hcs⟩ := R_typed' h.out e.symm
  have := blk_lt hcs
  omega
/-- What is told has one more. -/
theorem KJ.told (h : KJ w0 sb ob mb tb A0 A1 c0 c1 es ms most outL toldL vo vt W) {W3 : World} {l' : List ByteArray} {vt' : Value} (ho : Kd.R Kd.string 9 W3 w0.heap.size (fun k => some k ≠ vo.ownBlock) vt' l') (hb : Below w0.heap.size w0 W3) (hg : W.grownBy W3 vt.ownBlock) :
    KJ w0 sb ob mb tb A0 A1 c0 c1 es ms most outL l' vo vt' (W3.setCell ⟨tb, 0, none⟩ vt') ∧ KeepsOthers W (W3.setCell ⟨tb, 0, none⟩ vt') ∧ (∃ A c, vt' = .slice A l'.length c) ∧ W3.heap[tb]? = some (.cells #[vt] 37 (0, 0)) := by
  have ne : ∀ {k t : Nat} {cells : Array Value}, W.heap[k]? = some (.cells cells t (0, 0)) → t ≠ 9 → some k ≠ vt.ownBlock := by
    intro k t cells hk ht e
    obtain ⟨_, cs, hcs⟩ := R_typed' h.tol e.symm
    rw [hcs] at hk
    cases hk
    exact ht rfl
  have mv : ∀ {k t : Nat} {cells : Array Value}, W.heap[k]? = some (.cells cells t (0, 0)) → t ≠ 9 → k ≠ tb → (W3.setCell ⟨tb, 0, none⟩ vt').heap[k]? = W.heap[k]? := by
    intro k t cells hk h1 h2
    exact (Below.heap_setCell W3 ⟨tb, 0, none⟩ vt' k h2).trans (hg.block k (blk_lt hk) (ne hk h1))
  have htbx : W3.heap[tb]? = some (.cells #[vt] 37 (0, 0)) := blk_grown h.tbx hg (ne h.tbx (by decide))
  have hst : sb ≠ tb := fun e => by have h1 := h.sbx; rw [e, h.tbx] at h1; cases h1
  have hmt : mb ≠ tb := fun e => by have h1 := h.mbx; rw [e, h.tbx] at h1; cases h1
  refine ⟨⟨hb.setCell (p := ⟨tb, 0, none⟩) h.tbB _, by rw [World.size_setCell]; exact Nat.le_trans h.hle hg.size, (mv h.sbx (by decide) hst).trans h.sbx, (mv h.obx (by decide) h.ne).trans h.obx, (mv h.mbx (by decide) hmt).trans h.mbx, blk_put htbx 0 _ rfl, Rs_mv h.out (fun k hk => ?_), Rs_mv (Kd.R_mono ho (fun _ _ => trivial)) (fun k hk => ?_), fun k hk e => ho.1 k hk e.symm, h.ne, h.obB, h.tbB, h.rdE, h.lcE, h.rdM, h.lcM⟩, ?_, Kd.R_slice ho, htbx⟩
  · obtain ⟨_, cs, hcs⟩ := R_typed' h.out hk
    refine (Below.heap_setCell W3 ⟨tb, 0, none⟩ vt' k (fun e => ?_)).trans (hg.block k (blk_lt hcs) (fun e => h.ap k e.symm hk))
    simp only at e
    rw [e, h.tbx] at hcs
    cases hcs
  · obtain ⟨_, cs, hcs⟩ := R_typed' ho hk
    refine Below.heap_setCell W3 ⟨tb, 0, none⟩ vt' k (fun e => ?_)
    simp only at e
    rw [e, htbx] at hcs
    cases hcs
  · refine (KeepsOthers.of_grownBy hg (fun j o e hj => ?_)).trans (KeepsOthers.setCell _ _ _)
    obtain ⟨_, cs, hcs⟩ := R_typed' h.tol e
    rw [hcs] at hj
    cases hj
    rfl
end
end Go.Proofs.Ytbpnfpckoapdbaa.M

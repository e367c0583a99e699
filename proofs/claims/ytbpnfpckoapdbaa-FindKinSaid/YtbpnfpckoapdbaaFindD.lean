/- The law's closure that collects what Kin tells; conditions stand at each. -/
import Derived.Test.YtbpnfpckoapdbaaFindC
namespace Go.Proofs.Ytbpnfpckoapdbaa.M
open Go.RowKit Go.Shelf Go.Proofs.Ytbpnfpckoapdbaa.Rng Go.Proofs.YtbpnfpckoapdbaaW.PrintWords Go.Proofs.YtbpnfpckoapdbaaW.PrintLast Go.Proofs.YtbpnfpckoapdbaaW.PrintMore Go.Proofs.Ytbpnfpckoapdbaa.KD
set_option linter.unusedVariables false
set_option linter.unusedSimpArgs false
set_option maxHeartbeats 1000000
set_option maxRecDepth 100000
theorem own_mv {W W' : World} {base : Nat} {e : TypeId} {size n : Nat} {v : Value} {xs : List Value} (h : W.ownsRow base e size v n xs) (hm : ∀ k, v.ownBlock = some k → W'.heap[k]? = W.heap[k]?) : W'.ownsRow base e size v n xs := by
  refine ⟨h.1, ?_⟩
  rcases h.2 with h2 | ⟨g, cap, cur, rfl, hb, hh, r⟩
  · exact .inl h2
  · exact .inr ⟨g, cap, cur, rfl, hb, (hm g (by simp [Value.ownBlock])).trans hh, r⟩
theorem Rs_mv {W W' : World} {e base : Nat} {ok : Nat → Prop} {v : Value} {xs : List ByteArray} (h : Kd.R Kd.string e W base ok v xs) (hm : ∀ k, v.ownBlock = some k → W'.heap[k]? = W.heap[k]?) : Kd.R Kd.string e W' base ok v xs := by
  obtain ⟨h0, inner, ho, hr⟩ := h
  exact ⟨h0, inner, own_mv ho hm, hr.imp_ (fun _ _ hp => hp)⟩
theorem R_typed' {α : Type} {d : Kd α} {W : World} {e base k : Nat} {ok : Nat → Prop} {v : Value} {xs : List α} (h : d.R e W base ok v xs) (hk : v.ownBlock = some k) : base ≤ k ∧ ∃ cs, W.heap[k]? = some (.cells cs e (0, 0)) := by
  obtain ⟨h0, inner, ho, hr⟩ := h
  rcases ho.2 with ⟨rfl, _⟩ | ⟨g, cap, cur, rfl, hb, hh, _⟩
  · simp [Value.ownBlock] at hk
  · have : g = k := by simpa [Value.ownBlock] using hk
    subst this
    exact ⟨hb, cur, hh⟩
theorem infoStr : (Try.prog.info? 9).map (fun i => (i.zero, i.size, i.bytes)) = some (some (.string ⟨#[]⟩), 1, 16) := by kernel_rfl
/-- What the closure leaves: what is collected has one more; nothing else of what was there has changed. -/
def Kin1P (w0 W : World) (ob : Nat) (vo : Value) (most : Int) (out : List ByteArray) (x : ByteArray) (e : Ending) (W' : World) : Prop :=
  ∃ vo', e = .returned (.bool (((out.length + 1 : Nat) : Int) != most)) ∧ W'.heap[ob]? = some (.cells #[vo'] 37 (0, 0)) ∧ Kd.R Kd.string 9 W' w0.heap.size (fun _ => True) vo' (out ++ [x]) ∧
    (∀ j, j < W.heap.size → j ≠ ob → some j ≠ vo.ownBlock → W'.heap[j]? = W.heap[j]?) ∧ Below w0.heap.size w0 W' ∧ (vo'.ownBlock = vo.ownBlock ∨ ∃ b, vo'.ownBlock = some b ∧ W.heap.size ≤ b) ∧ W.heap.size ≤ W'.heap.size ∧ KeepsOthers W W'
theorem kin1_c {w0 W : World} {ob mb : Nat} {vo : Value} {most : Int} {out : List ByteArray} (x : ByteArray) (hB : w0.heap.size ≤ W.heap.size) (h0 : Below w0.heap.size w0 W) (ho : W.heap[ob]? = some (.cells #[vo] 37 (0, 0))) (hob : w0.heap.size ≤ ob) (hm : W.heap[mb]? = some (.cells #[.int .i64 most] 3 (0, 0))) (hr : Kd.R Kd.string 9 W w0.heap.size (fun _ => True) vo out) (hl : out.length ≤ 1000000) :
    Calls Try.prog 62 #[.string x, .pointer (some ⟨ob, 0, none⟩), .pointer (some ⟨mb, 0, none⟩)] W (Kin1P w0 W ob vo most out x) := by
  have HB := Aside0.mk hB
  have H0 := Aside0.mk h0
  have HO := Aside0.mk ho
  have HOB := Aside0.mk hob
  have HM := Aside0.mk hm
  have HR := Aside0.mk hr
  have HL := Aside0.mk hl
  have c0 : ∀ o, (W.alloc o).cell? ⟨ob, 0, none⟩ = some vo := fun o => (blk_cell (blk_alloc ho o) 0).trans rfl
  have c1 := (blk_cell ho 0).trans rfl
  clear hB h0 ho hob hm hr hl
  go_enter Try.func62, Try.ntmps62
  go_wp2_with (first
    | ((with_reducible refine gate_builtin (b := .append) rfl ?_); at_builtin
       refine Kd.R_append Kd.string (w0 := w0) w0.heap.size rfl (.tmp 5) (.tmp 7) 37 9 (.string ⟨#[]⟩) 16 rfl Try.underlying37 infoStr rfl (by decide) (by decide) vo out x [.string x] (fun _ => True) (fun k => some k ≠ vo.ownBlock) rfl rfl ?aM ?aK ?aF HR.out H0.out HB.out ?aL ?_
       (case aM => exact rfl)
       (case aK => exact fun k hk => ⟨trivial, hk⟩)
       (case aF => exact fun k hk => trivial)
       (case aL => have := HL.out; omega)
       intro vo' w3 h3 b3 g3 at3
       have hne : some ob ≠ vo.ownBlock := fun e => by
         obtain ⟨_, cs, hcs⟩ := R_typed' HR.out e.symm
         rw [HO.out] at hcs
         cases hcs
       have x3 := blk_grown HO.out g3 hne
       have z3 : ∀ o, (w3.setCell ⟨ob, 0, none⟩ o).cell? ⟨ob, 0, none⟩ = some o := fun o => (blk_cell (blk_put x3 0 o rfl) 0).trans rfl
       have zm : ∀ o, (w3.setCell ⟨ob, 0, none⟩ o).cell? ⟨mb, 0, none⟩ = some (.int .i64 most) := fun o => by
         have hmo : mb ≠ ob := fun e => by
           have h1 := HM.out
           rw [e, HO.out] at h1
           cases h1
         have hmv : some mb ≠ vo.ownBlock := fun e => by
           obtain ⟨_, cs, hcs⟩ := R_typed' HR.out e.symm
           rw [HM.out] at hcs
           cases hcs
         exact (blk_cell ((Below.heap_setCell w3 ⟨ob, 0, none⟩ o mb hmo).trans (blk_grown HM.out g3 hmv)) 0).trans rfl
       have y3 := (blk_cell x3 0).trans rfl
       have f3 := blk_frozen x3 0
       obtain ⟨A3, c3, rfl⟩ := Kd.R_slice h3
       have H3 := Aside0.mk h3
       have B3 := Aside0.mk b3
       have G3 := Aside0.mk g3
       have AT3 := Aside0.mk at3
       have X3 := Aside0.mk x3
       clear h3 b3 g3 at3 x3))
  go_ret
  have e1 : (out ++ [x]).length = out.length + 1 := by simp
  have h3 := H3.out
  have at3 := AT3.out
  have g3 := G3.out
  rw [e1] at h3 at3
  have hk3 : ∀ k, (Value.slice A3 (out.length + 1) c3).ownBlock = some k → k ≠ ob := fun k hk e => by
    obtain ⟨_, cs, hcs⟩ := R_typed' h3 hk
    rw [e, X3.out] at hcs
    cases hcs
  refine ⟨_, by first | rfl | (rw [Int.natCast_add]; rfl), blk_put X3.out 0 _ rfl, Rs_mv h3 (fun k hk => Below.heap_setCell _ _ _ _ (hk3 k hk)), fun j hj h1 h2 => (Below.heap_setCell _ ⟨ob, 0, none⟩ _ j h1).trans (g3.block j hj h2), B3.out.setCell HOB.out _, at3, by rw [World.size_setCell]; exact g3.size, ?_⟩
  refine (KeepsOthers.of_grownBy g3 (fun j o e hj => ?_)).trans (KeepsOthers.setCell _ _ _)
  obtain ⟨_, cs, hcs⟩ := R_typed' HR.out e
  rw [hcs] at hj
  cases hj
  rfl
end Go.Proofs.Ytbpnfpckoapdbaa.M

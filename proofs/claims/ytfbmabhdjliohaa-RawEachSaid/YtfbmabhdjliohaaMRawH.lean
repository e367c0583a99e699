/- raw.Get; conditions stand at each. -/
import Derived.Test.YtfbmabhdjliohaaMRawG
namespace Go.Proofs.Ytfbmabhdjliohaa.Cur
open Go.RowKit Go.Shelf Go.Proofs.Ytfbmabhdjliohaa.Rng Go.Proofs.YtfbmabhdjliohaaW.PrintWords Go.Proofs.YtfbmabhdjliohaaW.PrintLast Go.Proofs.YtfbmabhdjliohaaW.PrintMore Go.Proofs.Ytfbmabhdjliohaa.Var
set_option maxHeartbeats 1000000
set_option maxRecDepth 100000
set_option linter.unusedSimpArgs false
set_option linter.unusedVariables false
attribute [local go_sem] Oper.semAt_some
theorem each_c (p : Option Addr) (w : World) : Calls Try.prog 55 #[.pointer p] w fun e w' => e = .returned (.func (.func 75) #[] #[.pointer (some ⟨w.heap.size, 0, none⟩)]) ∧ Below w.heap.size w w' ∧ w'.heap[w.heap.size]? = some (.cells #[.pointer p] 27 (0, 0)) := by
  go_enter Try.func55, Try.ntmps55
  go_wp2
  go_ret
  exact ⟨rfl, below_alloc (Below.refl _ _) _, blk_new _ _⟩
section
variable {w0 : World} {g cb ob : Nat} {A : Option Addr} {c : Nat} {b : List Int} {B : Nat}
theorem firmR (hB : w0.heap.size ≤ B) : Firm B (R0S w0 g cb ob A c b) :=
  ⟨fun W l o o' ⟨v, vo, h⟩ hl hk ho => ⟨v, vo, h.putObj o' (Nat.le_trans hB hl) hk ho⟩, fun W o ⟨v, vo, h⟩ => ⟨v, vo, h.alloc o⟩⟩
theorem firmF (hB : w0.heap.size ≤ B) : Firm B (FinS w0 g cb ob A c b) :=
  ⟨fun W l o o' ⟨l', p, v, vo, en, hp, h⟩ hl hk ho => ⟨l', p, v, vo, en, hp, h.putObj o' (Nat.le_trans hB hl) hk ho⟩, fun W o ⟨l', p, v, vo, en, hp, h⟩ => ⟨l', p, v, vo, en, hp, h.alloc o⟩⟩
theorem firmY (hB : w0.heap.size ≤ B) (s : List (Fd × Nat) × Nat) (x : Int × Fd) : Firm B (YS w0 g cb ob A c b s x) :=
  ⟨fun W l o o' ⟨n, v, vo, hp, h⟩ hl hk ho => ⟨n, v, vo, hp, h.putObj o' (Nat.le_trans hB hl) hk ho⟩, fun W o ⟨n, v, vo, hp, h⟩ => ⟨n, v, vo, hp, h.alloc o⟩⟩
theorem firmZ (hB : w0.heap.size ≤ B) (s : List (Fd × Nat) × Nat) (x : Int × Fd) : Firm B (ZS w0 g cb ob A c b s x) :=
  ⟨fun W l o o' ⟨n, v, vo, hp, h⟩ hl hk ho => ⟨n, v, vo, hp, h.putObj o' (Nat.le_trans hB hl) hk ho⟩, fun W o ⟨n, v, vo, hp, h⟩ => ⟨n, v, vo, hp, h.alloc o⟩⟩
end
theorem info46 : (Try.prog.info? 46).map (fun i => (i.zero, i.size, i.bytes)) = some (some (.agg #[.int .i64 0, .int .i64 0, .int .u64 0, .string ⟨#[]⟩]), 4, 40) := by kernel_rfl
theorem IsC.move {W W' : World} {B g : Nat} {A : Option Addr} {c : Nat} {b : List Int} {p : Int} {v : Value} {ends : List Int} (h : IsC W B g A c b p v ends) (h1 : W'.heap[g]? = W.heap[g]?) (h2 : ∀ k, v.ownBlock = some k → W'.heap[k]? = W.heap[k]?) (h3 : ∀ k, k < B → W'.heap[k]? = W.heap[k]?) : IsC W' B g A c b p v ends := by
  refine ⟨h1.trans h.blk, ?_, C_move h.rd (fun ad ha hn => h3 _ (h.ap ad ha hn)), h.lc, h.ge, h.ap⟩
  obtain ⟨h0, inner, ho, hr⟩ := h.row
  exact ⟨h0, inner, own_move ho h2, hr.imp_ (fun _ _ hp => hp)⟩
theorem GJ.appended {w0 W W3 : World} {g cb ob : Nat} {A : Option Addr} {c : Nat} {b : List Int} {l l' : List (Fd × Nat)} {p : Int} {v vo vo' : Value} {ends : List Int} (h : GJ w0 W g cb ob A c b l p v vo ends)
    (ho : Kd.R PRaw.k46 46 W3 w0.heap.size (fun _ => True) vo' (l'.map fun x => s46 x.1)) (hb : Below w0.heap.size w0 W3) (hg : W.grownBy W3 vo.ownBlock) :
    GJ w0 (W3.setCell ⟨ob, 0, none⟩ vo') g cb ob A c b l' p v vo' ends ∧ KeepsOthers W (W3.setCell ⟨ob, 0, none⟩ vo') ∧ (∃ A1 c1, vo' = .slice A1 l'.length c1) := by
  have ne : ∀ {k t : Nat} {cells : Array Value}, W.heap[k]? = some (.cells cells t (0, 0)) → t ≠ 46 → some k ≠ vo.ownBlock := by
    intro k t cells hk ht e
    obtain ⟨_, cs, hcs⟩ := R46_typed h.out e.symm
    rw [hcs] at hk
    cases hk
    exact ht rfl
  have hne : ∀ {k t : Nat} {cells : Array Value}, W.heap[k]? = some (.cells cells t (0, 0)) → t ≠ 38 → k ≠ ob := by
    intro k t cells hk ht e
    subst e
    rw [h.obx] at hk
    cases hk
    exact ht rfl
  have mv : ∀ {k t : Nat} {cells : Array Value}, W.heap[k]? = some (.cells cells t (0, 0)) → t ≠ 46 → t ≠ 38 → (W3.setCell ⟨ob, 0, none⟩ vo').heap[k]? = W.heap[k]? := by
    intro k t cells hk h1 h2
    exact (Below.heap_setCell W3 ⟨ob, 0, none⟩ vo' k (hne hk h2)).trans (hg.block k (blk_lt hk) (ne hk h1))
  have hobx : W3.heap[ob]? = some (.cells #[vo] 38 (0, 0)) := blk_grown h.obx hg (ne h.obx (by decide))
  have hob2 : some ob ≠ vo'.ownBlock := fun e => by
    obtain ⟨_, cs, hcs⟩ := R46_typed ho e.symm
    rw [hobx] at hcs
    cases hcs
  refine ⟨⟨h.cur.move (mv h.cur.blk (by decide) (by decide)) (fun k hk => ?_) (fun k hk => ?_), (mv h.box (by decide) (by decide)).trans h.box, blk_put hobx 0 _ rfl, R46_move ho (fun k hk => Below.heap_setCell W3 ⟨ob, 0, none⟩ vo' k (fun e => hob2 (by rw [hk, e]))), hb.setCell (p := ⟨ob, 0, none⟩) h.obB _, h.cbB, h.obB, by rw [World.size_setCell]; exact Nat.le_trans h.hle hg.size⟩, ?_, ?_⟩
  · rcases h.cur.row with ⟨_, inner, hw, _⟩
    rcases hw.2 with ⟨he, _⟩ | ⟨g2, cap, cur, he, _, hh, _⟩
    · rw [he] at hk; simp [Value.ownBlock] at hk
    · rw [he] at hk
      have hg2 : g2 = k := by simpa [Value.ownBlock] using hk
      subst hg2
      exact mv hh (by decide) (by decide)
  · have hlt : k < W.heap.size := Nat.lt_of_lt_of_le hk h.hle
    refine (Below.heap_setCell W3 ⟨ob, 0, none⟩ vo' k (by have := h.obB; simp only; omega)).trans (hg.block k hlt (fun e => ?_))
    have := (R46_typed h.out e.symm).1
    omega
  · refine (KeepsOthers.of_grownBy hg (fun j o e hj => ?_)).trans (KeepsOthers.setCell _ _ _)
    obtain ⟨_, cs, hcs⟩ := R46_typed h.out e
    rw [hcs] at hj
    cases hj
    rfl
  · obtain ⟨A1, c1, h1⟩ := Kd.R_slice ho
    exact ⟨A1, c1, by rw [h1, List.length_map]⟩
/-- What Get hands back. -/
def GetP (w : World) (b : List Int) (e : Ending) (w' : World) : Prop :=
  Below w.heap.size w w' ∧ ((par b).2 = true → ∃ vo, e = .returned (.tuple #[vo, .int .i64 0]) ∧ Kd.R PRaw.k46 46 w' w.heap.size (fun _ => True) vo ((par b).1.map fun x => s46 x.1)) ∧ ((par b).2 = false → e = .returned (.tuple #[.slice none 0 0, .int .i64 8]))
theorem Get_c {w : World} {A : Option Addr} {c : Nat} {b : List Int} (hr : Kd.C (Kd.int .u8) w A b.length b) (hc : b.length ≤ c) (hap : ∀ ad, A = some ad → 0 < b.length → ad.block < w.heap.size) (hb : ∀ x ∈ b, 0 ≤ x ∧ x ≤ 255) (hbl : b.length ≤ 1000000000) :
    Calls Try.prog 27 #[.slice A b.length c] w (GetP w b) := by
  have HF := Aside0.mk (From_c hr hc hap)
  have HBY := Aside0.mk hb
  have HBL := Aside0.mk hbl
  have fe1 : Fence.wide.fn 11 := trivial
  have fe2 : Fence.wide.fn 55 := trivial
  have fe3 : Fence.wide.fn 20 := trivial
  clear hr hc hap hb hbl
  refine (callsIn_wide (n := 9)).1 ?_
  refine callsIn_of_wp_marks Try.func27 rfl trivial ?_ rfl
  simp only [Try.ntmps27, List.size_toArray, List.length_cons, List.length_nil, Nat.reduceAdd, Nat.reduceSub, Array.replicate_succ, Array.replicate_zero, List.push_toArray, List.append_toArray, List.nil_append, List.cons_append]
  gi_wp2_with (first
    | (gi_at_call 11; refine (callsIn_wide.2 HF.out).mono ?_; rintro e w1 ⟨rfl, h1, b1⟩; have H1 := Aside0.mk h1; have B1 := Aside0.mk b1; clear h1 b1)
    | (gi_at_call 55; refine (callsIn_wide.2 (each_c _ _)).mono ?_; rintro e w2 ⟨rfl, b2, x2⟩; have B2 := Aside0.mk b2; have X2 := Aside0.mk x2; clear b2 x2))
  have J2 : GJ w w2 (w.heap.size + 1) (w1.heap.size + 1) w1.heap.size A c b [] 0 (.slice (some ⟨w.heap.size, 0, none⟩) 1 1) (.slice none 0 0) [(b.length : Int)] := by
    have hx := X2.out
    rw [World.size_alloc] at hx
    have hsz := B1.out.size
    have hb2 := B2.out
    exact ⟨(H1.out.below (below_alloc (Below.refl _ _) _)).below hb2, hx, blk_below (blk_new _ _) hb2, Kd.R_nil _ _ _ _ _, (B1.out.alloc hsz _).trans (hb2.mono (szA hsz _)), by omega, by omega, Nat.le_trans (szA hsz _) hb2.size⟩
  have HJ2 := Aside0.mk J2
  clear J2
  refine range_on (gf := 75) (lb := #[.pointer (some ⟨w1.heap.size + 1, 0, none⟩)]) rfl (enters_of Try.func75 (by kernel_rfl) rfl)
    (each_on (w0 := w) (g := w.heap.size + 1) (cb := w1.heap.size + 1) (ob := w1.heap.size) (A := A) (c := c) (b := b) 8 (by omega) HBY.out (Nat.le_trans HBL.out (by decide))) (fun _ => rfl)
    (firmR HJ2.out.hle) (firmF HJ2.out.hle) (firmY HJ2.out.hle) (firmZ HJ2.out.hle) ⟨_, _, HJ2.out⟩
    (fun x a₁ W => ∃ xb, W.heap[xb]? = some (.cells #[.int .i64 x.2.1, .int .i64 x.2.2.1, .int .u64 x.2.2.2.1, .string (strOfNums x.2.2.2.2)] 46 (0, 0)) ∧ w.heap.size ≤ xb ∧ a₁ = { tmps := #[.slice A b.length c, undef, .slice none 0 0, .int .i64 0, .pointer (some ⟨w.heap.size + 1, 0, none⟩), .pointer (some ⟨w1.heap.size, 0, none⟩), undef, .pointer (some ⟨xb, 0, none⟩), .slice A b.length c, .pointer (some ⟨w.heap.size + 1, 0, none⟩), .pointer (some ⟨w.heap.size + 1, 0, none⟩), .func (.func 75) #[] #[.pointer (some ⟨w1.heap.size + 1, 0, none⟩)], .int .i64 x.1, .agg #[.int .i64 x.2.1, .int .i64 x.2.2.1, .int .u64 x.2.2.2.1, .string (strOfNums x.2.2.2.2)], undef, undef, undef, undef, undef, undef, undef, undef], defers := [] })
    ?hAx ?assign ?body ?done
  case hAx =>
    intro x a₁
    exact ⟨fun W l o o' ⟨xb, h1, h2, h3⟩ hl hk ho => ⟨xb, (CK.putObj o' hk ho).2 _ _ _ _ h1, h2, h3⟩, fun W o ⟨xb, h1, h2, h3⟩ => ⟨xb, blk_alloc h1 _, h2, h3⟩⟩
  case assign =>
    intro l s x W K hy hK
    obtain ⟨xi, xn, xw, xv, xt⟩ := x
    dsimp only [encF, fdV]
    gi_wp2
    obtain ⟨n1, v1, vo1, hp1, h1⟩ := hy
    exact hK _ _ (KeepsOthers.alloc _ _) ⟨n1, v1, vo1, hp1, h1.alloc _⟩ ⟨W.heap.size, blk_new _ _, h1.hle, rfl⟩
  case body =>
    rintro l s x a₁ W ⟨n1, v1, vo1, hp1, h1⟩ ⟨xb, hxb, hle, rfl⟩
    obtain ⟨xi, xn, xw, xv, xt⟩ := x
    obtain ⟨s, sp⟩ := s
    have HP1 := Aside0.mk hp1
    have H1' := Aside0.mk h1
    have hcb : W.cell? ⟨w1.heap.size, 0, none⟩ = some vo1 := (blk_cell h1.obx 0).trans rfl
    obtain ⟨⟨xc0, xc1, xc2, xc3⟩, xf0, xf1, xf2, xf3⟩ := blk4 hxb
    clear hp1 h1 hxb
    dsimp only at HP1 H1' xc0 xc1 xc2 xc3 ⊢
    have hlen : s.length ≤ 1000000000 := by have h2 := HP1.out.2.2.2.2.2.2.1; have h3 := HP1.out.2.2.1; have h4 := HBL.out; omega
    have HLEN := Aside0.mk hlen
    clear hlen
    gi_wp2_with (first
      | (gi_at_builtin
         refine R_appendIn PRaw.k46 (w0 := w) w.heap.size rfl (.tmp 14) (.tmp 16) 38 46 (.agg #[.int .i64 0, .int .i64 0, .int .u64 0, .string ⟨#[]⟩]) 40 rfl Try.underlying38 info46 rfl (by decide) (by decide) vo1 (s.map fun x => s46 x.1) (s46 (xn, xw, xv, xt)) [.int .i64 xn, .int .i64 xw, .int .u64 xv, .string (strOfNums xt)] (fun _ => True) (fun k => some k ≠ vo1.ownBlock) rfl rfl ?aM ?aK ?aF H1'.out.out H1'.out.bel H1'.out.hle ?aL ?_
         (case aM => exact PRaw.k46_mkM _ _ _ (s46 (xn, xw, xv, xt)))
         (case aK => exact fun k hk => ⟨trivial, hk⟩)
         (case aF => exact fun k hk => trivial)
         (case aL => have := HLEN.out; rw [List.length_map]; omega)
         intro vo' W3 ho hb3 hg3
         have ho' : Kd.R PRaw.k46 46 W3 w.heap.size (fun _ => True) vo' ((s ++ [((xn, xw, xv, xt), n1)]).map fun x => s46 x.1) := by rw [List.map_append]; exact ho
         obtain ⟨j3, k3, A1, c1, hv3⟩ := H1'.out.appended ho' hb3 hg3
         subst hv3
         have hf3 := blk_frozen j3.obx 0
         rw [World.frozen?_setCell] at hf3
         have hc3 : ∃ u, W3.cell? ⟨w1.heap.size, 0, none⟩ = some u := by
           have := blk_grown H1'.out.obx hg3 (fun e => by obtain ⟨_, cs, hcs⟩ := R46_typed H1'.out.out e.symm; rw [H1'.out.obx] at hcs; cases hcs)
           exact ⟨_, (blk_cell this 0).trans rfl⟩
         obtain ⟨u3, hc3⟩ := hc3
         rw [List.length_append, List.length_singleton] at j3 k3
         have J3 := Aside0.mk j3
         have K3 := Aside0.mk k3
         clear j3 k3 ho ho' hb3 hg3))
    exact ⟨K3.out, n1, v1, _, HP1.out, J3.out⟩
  case done =>
    rintro D W hD ⟨l, p, v, vo, en, hpar, hj⟩ hK
    have HJ := Aside0.mk hj
    have HPAR := Aside0.mk hpar
    have HK := Aside0.mk hK
    have HD := Aside0.mk hD
    have hcb : W.cell? ⟨w1.heap.size, 0, none⟩ = some vo := (blk_cell hj.obx 0).trans rfl
    by_cases hn : 0 < en.length
    · have HN := Aside0.mk hn
      clear hj hpar hK hD hn
      gi_wp2_with (first
        | (gi_at_call 20; refine (callsIn_wide.2 (ok_yes HJ.out.cur HN.out)).mono ?_; rintro e w4 ⟨rfl, hd4⟩
           have j4 := HJ.out.drawn hd4
           have hcb4 : w4.cell? ⟨w1.heap.size, 0, none⟩ = some vo := (blk_cell j4.obx 0).trans rfl
           have hK4 : w4.heap[D]? = some (.deferred (some [])) := by obtain ⟨m4, rfl⟩ := hd4; exact HK.out
           have K4 := Aside0.mk hK4
           have J4 := Aside0.mk j4; clear j4 hd4 hK4))
      refine ⟨by simp, .inl ⟨_, _, rfl, run_takeDeferred K4.out, ?_⟩⟩
      have jf := J4.out.putObj (.deferred none) (Nat.le_trans HJ2.out.hle HD.out) K4.out rfl
      refine ⟨_, results_tmp2 rfl _ _ _, jf.bel, fun _ => ⟨vo, rfl, ?_⟩, fun h => ?_⟩
      · rw [HPAR.out]; exact jf.out
      · rw [HPAR.out] at h; simp only [decide_eq_false_iff_not] at h; exact absurd HN.out h
    · have HN := Aside0.mk (show en.length = 0 by omega)
      clear hj hpar hK hD hn
      gi_wp2_with (first
        | (gi_at_call 20; refine (callsIn_wide.2 (ok_no HJ.out.cur HN.out)).mono ?_; rintro e w4 ⟨rfl, hd4⟩
           have j4 := HJ.out.drawn hd4
           have hcb4 : w4.cell? ⟨w1.heap.size, 0, none⟩ = some vo := (blk_cell j4.obx 0).trans rfl
           have hK4 : w4.heap[D]? = some (.deferred (some [])) := by obtain ⟨m4, rfl⟩ := hd4; exact HK.out
           have K4 := Aside0.mk hK4
           have J4 := Aside0.mk j4; clear j4 hd4 hK4))
      refine ⟨by simp, .inl ⟨_, _, rfl, run_takeDeferred K4.out, ?_⟩⟩
      have jf := J4.out.putObj (.deferred none) (Nat.le_trans HJ2.out.hle HD.out) K4.out rfl
      refine ⟨_, results_tmp2 rfl _ _ _, jf.bel, fun h => ?_, fun _ => rfl⟩
      rw [HPAR.out] at h; simp only [decide_eq_true_eq] at h; exact absurd h (by have := HN.out; omega)
end Go.Proofs.Ytfbmabhdjliohaa.Cur

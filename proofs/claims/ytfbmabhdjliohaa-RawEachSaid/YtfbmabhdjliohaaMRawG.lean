/- raw.each's iterator under a range over it (raw.Get); conditions stand at each. -/
import Derived.Test.YtfbmabhdjliohaaMRawW
import Derived.Sort.LoopGhostIn
import Derived.Maps.OwnIn
namespace Go.Proofs.Ytfbmabhdjliohaa.Cur
open Go.RowKit Go.Shelf Go.Proofs.Ytfbmabhdjliohaa.Rng Go.Proofs.YtfbmabhdjliohaaW.PrintWords Go.Proofs.YtfbmabhdjliohaaW.PrintLast Go.Proofs.YtfbmabhdjliohaaW.PrintMore Go.Proofs.Ytfbmabhdjliohaa.Var
set_option maxHeartbeats 1000000
set_option maxRecDepth 100000
set_option linter.unusedSimpArgs false
set_option linter.unusedVariables false
attribute [local go_sem] Oper.semAt_some
/-- A cursor, its box, the box of what is collected, and what is. -/
structure GJ (w0 W : World) (g cb ob : Nat) (A : Option Addr) (c : Nat) (b : List Int) (l : List (Fd × Nat)) (p : Int) (v vo : Value) (ends : List Int) : Prop where
  cur : IsC W w0.heap.size g A c b p v ends
  box : W.heap[cb]? = some (.cells #[.pointer (some ⟨g, 0, none⟩)] 27 (0, 0))
  obx : W.heap[ob]? = some (.cells #[vo] 38 (0, 0))
  out : Kd.R PRaw.k46 46 W w0.heap.size (fun _ => True) vo (l.map fun x => s46 x.1)
  bel : Below w0.heap.size w0 W
  cbB : w0.heap.size ≤ cb
  obB : w0.heap.size ≤ ob
  hle : w0.heap.size ≤ W.heap.size
theorem R46_move {W W' : World} {base : Nat} {ok : Nat → Prop} {v : Value} {xs : List PRaw.S46} (h : Kd.R PRaw.k46 46 W base ok v xs) (hm : ∀ k, v.ownBlock = some k → W'.heap[k]? = W.heap[k]?) : Kd.R PRaw.k46 46 W' base ok v xs := by
  obtain ⟨h0, inner, ho, hr⟩ := h
  refine ⟨h0, inner, own_move ho hm, hr.imp_ (fun x cs hx => ?_)⟩
  obtain rfl := PRaw.k46_openM hx
  exact PRaw.k46_mkM _ _ _ x
theorem R46_typed {W : World} {base k : Nat} {ok : Nat → Prop} {v : Value} {xs : List PRaw.S46} (h : Kd.R PRaw.k46 46 W base ok v xs) (hk : v.ownBlock = some k) : base ≤ k ∧ ∃ cs, W.heap[k]? = some (.cells cs 46 (0, 0)) := by
  obtain ⟨h0, inner, ho, hr⟩ := h
  rcases ho.2 with ⟨rfl, _⟩ | ⟨g, cap, cur, rfl, hb, hh, _⟩
  · simp [Value.ownBlock] at hk
  · have : g = k := by simpa [Value.ownBlock] using hk
    subst this
    exact ⟨hb, cur, hh⟩
section
variable {w0 W W' : World} {g cb ob : Nat} {A : Option Addr} {c : Nat} {b : List Int} {l : List (Fd × Nat)} {p p' : Int} {v vo : Value} {ends ends' : List Int}
theorem C_typed_ne {B k t : Nat} {cells : Array Value} (h : IsC W B g A c b p v ends) (hb : W.heap[k]? = some (.cells cells t (0, 0))) (h1 : t ≠ 61) (h2 : t ≠ 3) : k ≠ g ∧ v.ownBlock ≠ some k := by
  refine ⟨fun e => ?_, fun e => ?_⟩
  · subst e; rw [h.blk] at hb; cases hb; exact h1 rfl
  · exact typed_ne h.row hb h2 e rfl
theorem GJ.moved (h : GJ w0 W g cb ob A c b l p v vo ends) (hm : Moved W w0.heap.size g A c b v p' ends' W') : ∃ v', GJ w0 W' g cb ob A c b l p' v' vo ends' := by
  obtain ⟨v', h', f⟩ := hm
  have n1 := C_typed_ne h.cur h.box (by decide) (by decide)
  have n2 := C_typed_ne h.cur h.obx (by decide) (by decide)
  refine ⟨v', h', f.blk h.box n1.1 n1.2, f.blk h.obx n2.1 n2.2, R46_move h.out (fun k hk => ?_), h.bel.trans (f.below h.hle h.cur.ge (fun k hk => (own_bounds h.cur.row hk).1)), h.cbB, h.obB, Nat.le_trans h.hle f.1.1⟩
  obtain ⟨_, cs, hcs⟩ := R46_typed h.out hk
  have n3 := C_typed_ne h.cur hcs (by decide) (by decide)
  rw [hcs]
  exact f.blk hcs n3.1 n3.2
theorem GJ.drawn (h : GJ w0 W g cb ob A c b l p v vo ends) (hd : Drawn0 W W') : GJ w0 W' g cb ob A c b l p v vo ends := by
  obtain ⟨n, rfl⟩ := hd
  exact ⟨h.cur.drewN n, h.box, h.obx, R46_move h.out (fun _ _ => rfl), pw_below_drewN h.bel n, h.cbB, h.obB, h.hle⟩
theorem GJ.alloc (h : GJ w0 W g cb ob A c b l p v vo ends) (o : Obj) : GJ w0 (W.alloc o) g cb ob A c b l p v vo ends :=
  ⟨h.cur.below (below_alloc (Below.refl _ _) _), blk_alloc h.box _, blk_alloc h.obx _, Kd.R_alloc h.out _, h.bel.alloc h.hle _, h.cbB, h.obB, szA h.hle _⟩
theorem GJ.putObj (h : GJ w0 W g cb ob A c b l p v vo ends) {k : Nat} {o : Obj} (o' : Obj) (hB : w0.heap.size ≤ k) (hk : W.heap[k]? = some o) (ho : o.isCells = false) : GJ w0 (W.putObj k o') g cb ob A c b l p v vo ends := by
  have ck := CK.putObj o' hk ho
  refine ⟨h.cur.ck ck, ck.2 _ _ _ _ h.box, ck.2 _ _ _ _ h.obx, R46_move h.out (fun j hj => ?_), h.bel.trans ⟨rfl, rfl, rfl, by simp, fun i hi => World.putObj_heap_other (by omega)⟩, h.cbB, h.obB, by simpa using h.hle⟩
  obtain ⟨_, cs, hcs⟩ := R46_typed h.out hj
  rw [hcs]
  exact ck.2 _ _ _ _ hcs
end
theorem R_appendIn {F : Fence} {nF : Nat} {P : Program} {ops : Array Oper} {rest : List Oper} {o : Oper} {a : Act} {Q : Exit → Act → World → Prop} {α : Type} (d : Kd α) {w0 W : World} (base : Nat) (hgd : o.guard = none) (s x : Operand) (t e : TypeId) (z : Value) (bytes : Nat)
    (ho : o.op = .call { callee := .builtin .append, args := #[s, x], argTypes := #[t, t] })
    (ht : P.underlying t = some (.slice e)) (hinfo : (P.info? e).map (fun i => (i.zero, i.size, i.bytes)) = some (some z, d.sz, bytes)) (hz : z.cells.size = d.sz) (hs0 : 0 < d.sz) (hb0 : 0 < bytes)
    (v : Value) (xs : List α) (p : α) (cs : List Value) (ok okp : Nat → Prop) (hs : a.eval s = v) (hx : a.eval x = .slice (some ⟨W.heap.size, 0, none⟩) 1 1) (hp : d.M W base okp p cs) (hokp : ∀ k, okp k → ok k ∧ some k ≠ v.ownBlock) (hfresh : ∀ k, W.heap.size ≤ k → ok k)
    (HO : d.R e W base ok v xs) (HB : Below base w0 W) (hbase : base ≤ W.heap.size) (hl : (xs.length + 1) * bytes ≤ 140737488355328)
    (h : ∀ v1 w1, d.R e w1 base ok v1 (xs ++ [p]) → Below base w0 w1 → W.grownBy w1 v.ownBlock → wpListIn F nF P ops Q rest (a.put o.dst v1) w1) :
    wpListIn F nF P ops Q (o :: rest) a (W.alloc (.cells cs.toArray e)) := by
  obtain ⟨h0, inner, hown, hr⟩ := HO
  obtain ⟨i0, hi, hzz⟩ := Option.map_eq_some_iff.1 hinfo
  simp only [Prod.mk.injEq] at hzz
  obtain ⟨hz0, hz1, hz2⟩ := hzz
  have hlen : xs.length + 1 ≤ 140737488355328 := Nat.le_trans (Nat.le_mul_of_pos_right _ hb0) hl
  refine wpListIn_append_own_at (W.alloc _) hgd s x t ho base e i0 z d.sz bytes ht hi hz0 hz1 hz2 hz hs0 v xs.length inner hs (hown.alloc _) ⟨W.heap.size, 0, none⟩ 1 1 cs hx (by rw [Nat.one_mul]; exact d.K_len (d.K_of_M hp))
    (World.news_of_block (cs := cs.toArray) (t := e) (fr := (0, 0)) (heap_alloc_new W _)) (d.K_one (d.K_of_M hp)) (by simp only [maxLen]; omega) hl (szA hbase _) ?_
  intro v1 w1 hown1 hg _ hat
  have hg1 : W.grownBy w1 v.ownBlock := World.grownBy.trans (World.grownBy_alloc W _ _) hg
  refine h v1 w1 (Kd.R_appended h0 hr hp hokp hfresh hown1 hg1 ?_) ((HB.alloc hbase _).grown hg (szA hbase _) (own_base hown)) hg1
  rcases hat with hat | hat
  · exact .inl hat
  · exact .inr ⟨_, hat, by rw [World.size_alloc]; omega⟩
/-- What yield is handed. -/
def encF (x : Int × Fd) : Array Value := #[.int .i64 x.1, fdV x.2]
section
variable (w0 : World) (g cb ob : Nat) (A : Option Addr) (c : Nat) (b : List Int)
def YS (s : List (Fd × Nat) × Nat) (x : Int × Fd) (W : World) : Prop :=
  ∃ (n : Nat) (v vo : Value), (x.1 = s.2 ∧ oneD (b.drop s.2) = some (x.2, n) ∧ s.2 < b.length ∧ 1 ≤ n ∧ s.2 + n ≤ b.length ∧ Way b s.1 s.2) ∧ GJ w0 W g cb ob A c b s.1 ((s.2 + n : Nat) : Int) v vo [(b.length : Int)]
def ZS (s : List (Fd × Nat) × Nat) (x : Int × Fd) (W : World) : Prop :=
  ∃ (n : Nat) (v vo : Value), (x.1 = s.2 ∧ oneD (b.drop s.2) = some (x.2, n) ∧ s.2 < b.length ∧ 1 ≤ n ∧ s.2 + n ≤ b.length ∧ Way b s.1 s.2) ∧ GJ w0 W g cb ob A c b (s.1 ++ [(x.2, n)]) ((s.2 + n : Nat) : Int) v vo [(b.length : Int)]
def FinS (W : World) : Prop := ∃ (l : List (Fd × Nat)) (p : Int) (v vo : Value) (ends : List Int), par b = (l, decide (0 < ends.length)) ∧ GJ w0 W g cb ob A c b l p v vo ends
def R0S (W : World) : Prop := ∃ v vo, GJ w0 W g cb ob A c b [] 0 v vo [(b.length : Int)]
end
theorem more_one (p n : Int) : moreB p [n] = decide (p < n) := by unfold moreB; rw [last_one]; rfl
theorem each_on {w0 : World} {g cb ob : Nat} {A : Option Addr} {c : Nat} {b : List Int} (n : Nat) (hn1 : 1 ≤ n) (hb : ∀ x ∈ b, 0 ≤ x ∧ x ≤ 255) (hbl : b.length ≤ 140737488359000) :
    SeqOn n Try.prog 75 #[.pointer (some ⟨cb, 0, none⟩)] encF (R0S w0 g cb ob A c b) (FinS w0 g cb ob A c b) (YS w0 g cb ob A c b) (ZS w0 g cb ob A c b) := by
  intro l Bk hBk hYZ W hR0 hB0
  obtain ⟨v0, vo0, h0⟩ := hR0
  have hc0 := blk_cell h0.box 0
  have HB0 := Aside0.mk hB0
  have H0 := Aside0.mk h0
  have HBY := Aside0.mk hb
  have HBL := Aside0.mk hbl
  have HBK := Aside0.mk hBk
  have HYZ := Aside0.mk hYZ
  have fe1 : Fence.wide.fn 14 := trivial
  have fe2 : Fence.wide.fn 21 := trivial
  have fe3 : Fence.wide.fn 76 := trivial
  have fe4 : Fence.wide.fn 20 := trivial
  clear hB0 h0 hb hbl hBk hYZ
  refine callsIn_of_wp Try.func75 rfl trivial ?_ rfl
  simp only [Try.ntmps75, List.size_toArray, List.length_cons, List.length_nil, Nat.reduceAdd, Nat.reduceSub, Array.replicate_succ, Array.replicate_zero, List.push_toArray, List.append_toArray, List.nil_append, List.cons_append, Array.append_assoc]
  gi_wp2
  gi_loopg [] (b.length + 1) (fun kq wr => ∃ (l : List (Fd × Nat)) (p : Nat) (v vo : Value), Aside0 (kq + p = b.length + 1 ∧ Way b l p ∧ GJ w0 wr g cb ob A c b l p v vo [(b.length : Int)] ∧ Bk wr))
  case atStart => exact ⟨[], 0, v0, vo0, ⟨by omega, Way.start b, H0.out, HB0.out⟩⟩
  case round =>
    obtain ⟨l, p, v, vo, HG⟩ := hrel
    obtain ⟨hg0, hway, HJ, hbk⟩ := HG.out
    have hcw : wr.cell? ⟨cb, 0, none⟩ = some (.pointer (some ⟨g, 0, none⟩)) := (blk_cell HJ.box 0).trans rfl
    have HW := Aside0.mk hway
    have HJ' := Aside0.mk HJ
    have HBK' := Aside0.mk hbk
    have HG0 := Aside0.mk hg0
    by_cases hp : p < b.length
    · have hm : moreB (p : Int) [(b.length : Int)] = true := by rw [more_one, decide_eq_true (by omega)]
      have HM := Aside0.mk (fun (W : World) (h : GJ w0 W g cb ob A c b l p v vo [(b.length : Int)]) => more_c h.cur)
      rw [hm] at HM
      have hnx := nxt_one (b := b) (p := (p : Int)) (by omega) (by omega) HBY.out
      rw [Int.toNat_natCast] at hnx
      have HN := Aside0.mk (fun (W : World) (h : GJ w0 W g cb ob A c b l p v vo [(b.length : Int)]) => next_c h.cur (inv_one (by omega) (by omega)) h.hle HBY.out HBL.out)
      have HP := Aside0.mk hp
      rcases h1 : oneD (b.drop p) with _ | ⟨x, s⟩
      · have h2 := hnx.1 h1
        obtain ⟨T, hT⟩ : ∃ T, T = nxt b p [(b.length : Int)] := ⟨_, rfl⟩
        rw [← hT] at HN h2
        obtain ⟨x, q, en⟩ := T
        simp only at HN h2
        injection h2 with h2 h3
        subst h2 h3
        have H1 := Aside0.mk h1
        clear hg0 hway HJ hbk HG hp hm hnx hT h1
        gi_wp2_with (first
          | (gi_at_call 14; refine (callsIn_wide.2 (HM.out _ HJ'.out)).mono ?_; rintro e w1 ⟨rfl, hd1⟩
             have j1 := HJ'.out.drawn hd1; have hc1 : w1.cell? ⟨cb, 0, none⟩ = some (.pointer (some ⟨g, 0, none⟩)) := (blk_cell j1.box 0).trans rfl
             have B1 := Aside0.mk (HBK.out _ _ HBK'.out (Drawn0.others hd1)); have J1 := Aside0.mk j1; clear j1 hd1)
          | (gi_at_call 21; refine (callsIn_wide.2 (at_c J1.out.cur)).mono ?_; rintro e w2 ⟨rfl, hd2⟩
             have j2 := J1.out.drawn hd2; have hc2 : w2.cell? ⟨cb, 0, none⟩ = some (.pointer (some ⟨g, 0, none⟩)) := (blk_cell j2.box 0).trans rfl
             have B2 := Aside0.mk (HBK.out _ _ B1.out (Drawn0.others hd2)); have J2 := Aside0.mk j2; clear j2 hd2)
          | (gi_at_call 76; refine (callsIn_wide.2 (HN.out _ J2.out)).mono ?_; rintro e w3 ⟨rfl, hm3⟩
             have b3 := (hm3.elim (fun v3 h3 => J2.out.cur.others h3.2))
             obtain ⟨v3, j3⟩ := J2.out.moved hm3
             have hc3 : (w3.alloc (.cells #[.int .i64 x.1, .int .i64 x.2.1, .int .u64 x.2.2.1, .string (strOfNums x.2.2.2)] 46)).cell? ⟨cb, 0, none⟩ = some (.pointer (some ⟨g, 0, none⟩)) := (blk_cell (blk_alloc j3.box _) 0).trans rfl
             have B3 := Aside0.mk (HBK.out _ _ B2.out b3); have J3 := Aside0.mk j3; clear j3 hm3 b3; unfold fdV)
          | (gi_at_call 20; refine (callsIn_wide.2 (ok_no (J3.out.alloc _).cur rfl)).mono ?_; rintro e w4 ⟨rfl, hd4⟩
             have j4 := (J3.out.alloc _).drawn hd4
             have B4 := Aside0.mk (HBK.out _ _ B3.out ((KeepsOthers.alloc _ _).trans (Drawn0.others hd4))); have J4 := Aside0.mk j4; clear j4 hd4))
        refine ⟨(fun _ h => (by cases h)), ?_⟩
        gi_wp2
        refine bodyPost_ret (results_none rfl _ _ _) rfl ?_
        exact ⟨⟨_, rfl⟩, ⟨l, 0, v3, vo, [], HW.out.fail HP.out H1.out, J4.out⟩, B4.out⟩
      · obtain ⟨hs1, h2, hs2⟩ := hnx.2 x s h1
        rw [h2] at HN
        simp only at HN
        have e1 : ((p : Int) + (s : Int)) = ((p + s : Nat) : Int) := (Int.natCast_add p s).symm
        rw [e1] at HN
        have HS := Aside0.mk (show 1 ≤ s ∧ p + s ≤ b.length by omega)
        have H1 := Aside0.mk h1
        clear hg0 hway HJ hbk HG hp hm hnx h1 h2 hs1 hs2 e1
        gi_wp2_with (first
          | (gi_at_call 14; refine (callsIn_wide.2 (HM.out _ HJ'.out)).mono ?_; rintro e w1 ⟨rfl, hd1⟩
             have j1 := HJ'.out.drawn hd1; have hc1 : w1.cell? ⟨cb, 0, none⟩ = some (.pointer (some ⟨g, 0, none⟩)) := (blk_cell j1.box 0).trans rfl
             have B1 := Aside0.mk (HBK.out _ _ HBK'.out (Drawn0.others hd1)); have J1 := Aside0.mk j1; clear j1 hd1)
          | (gi_at_call 21; refine (callsIn_wide.2 (at_c J1.out.cur)).mono ?_; rintro e w2 ⟨rfl, hd2⟩
             have j2 := J1.out.drawn hd2; have hc2 : w2.cell? ⟨cb, 0, none⟩ = some (.pointer (some ⟨g, 0, none⟩)) := (blk_cell j2.box 0).trans rfl
             have B2 := Aside0.mk (HBK.out _ _ B1.out (Drawn0.others hd2)); have J2 := Aside0.mk j2; clear j2 hd2)
          | (gi_at_call 76; refine (callsIn_wide.2 (HN.out _ J2.out)).mono ?_; rintro e w3 ⟨rfl, hm3⟩
             have b3 := (hm3.elim (fun v3 h3 => J2.out.cur.others h3.2))
             obtain ⟨v3, j3⟩ := J2.out.moved hm3
             have hc3 : (w3.alloc (.cells #[.int .i64 x.1, .int .i64 x.2.1, .int .u64 x.2.2.1, .string (strOfNums x.2.2.2)] 46)).cell? ⟨cb, 0, none⟩ = some (.pointer (some ⟨g, 0, none⟩)) := (blk_cell (blk_alloc j3.box _) 0).trans rfl
             have B3 := Aside0.mk (HBK.out _ _ B2.out b3); have J3 := Aside0.mk j3; clear j3 hm3 b3; unfold fdV)
          | (gi_at_call 20; refine (callsIn_wide.2 (ok_yes (J3.out.alloc _).cur (by simp))).mono ?_; rintro e w4 ⟨rfl, hd4⟩
             have j4 := (J3.out.alloc _).drawn hd4
             have b4 := HBK.out _ _ B3.out ((KeepsOthers.alloc _ _).trans (Drawn0.others hd4))
             have x4 : w4.heap[w3.heap.size]? = some (.cells #[.int .i64 x.1, .int .i64 x.2.1, .int .u64 x.2.2.1, .string (strOfNums x.2.2.2)] 46 (0, 0)) := by obtain ⟨m4, rfl⟩ := hd4; exact blk_new _ _
             obtain ⟨⟨xc0, xc1, xc2, xc3⟩, xf0, xf1, xf2, xf3⟩ := blk4 x4
             obtain ⟨fn, tmps, assign, body, hy, hR⟩ := HYZ.out (l, p) ((p : Int), x) w4 ⟨s, v3, vo, ⟨rfl, H1.out, HP.out, HS.out.1, HS.out.2, HW.out⟩, j4⟩ b4
             dsimp only [encF, fdV] at hy
             have HR := Aside0.mk hR
             clear j4 hd4 b4 x4 hR))
        refine HR.out.mono ?_
        rintro e w5 ⟨rfl, ⟨s', v5, vo5, ⟨_, hs', _⟩, j5⟩, b5⟩
        have hss : s' = s := by
          have h6 := H1.out
          simp only at hs'
          rw [hs'] at h6
          injection h6 with h6
          injection h6
        subst hss
        have B5 := Aside0.mk b5
        have J5 := Aside0.mk j5
        clear hs' j5 b5
        gi_wp2
        gi_roundg (gk - s')
        case measure => have := HG0.out; have := HP.out; have := HS.out; omega
        case rel => exact ⟨_, _, _, _, ⟨by have := HG0.out; have := HP.out; have := HS.out; omega, HW.out.step HP.out H1.out HS.out.1 HS.out.2, J5.out, B5.out⟩⟩
    · have hm : moreB (p : Int) [(b.length : Int)] = false := by rw [more_one, decide_eq_false (by omega)]
      have HM := Aside0.mk (fun (W : World) (h : GJ w0 W g cb ob A c b l p v vo [(b.length : Int)]) => more_c h.cur)
      rw [hm] at HM
      have HP := Aside0.mk (show b.length ≤ p by omega)
      clear hg0 hway HJ hbk HG hp hm
      gi_wp2_with (first
        | (gi_at_call 14; refine (callsIn_wide.2 (HM.out _ HJ'.out)).mono ?_; rintro e w1 ⟨rfl, hd1⟩
           have j1 := HJ'.out.drawn hd1
           have B1 := Aside0.mk (HBK.out _ _ HBK'.out (Drawn0.others hd1)); have J1 := Aside0.mk j1; clear j1 hd1))
      go_end0
      exact ⟨⟨_, rfl⟩, ⟨l, p, v, vo, [(b.length : Int)], HW.out.done HP.out, J1.out⟩, B1.out⟩
end Go.Proofs.Ytfbmabhdjliohaa.Cur

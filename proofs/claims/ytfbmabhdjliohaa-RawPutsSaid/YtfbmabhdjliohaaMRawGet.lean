/- raw: the way through bytes, field by field; what an iterator over a cursor keeps; conditions stand at each. -/
import Derived.Test.YtfbmabhdjliohaaMRawN
import Derived.Test.YtfbmabhdjliohaaMRange
import Derived.Test.YtfbmabhdjliohaaPRawx
import Derived.Sort.LoopGhostIn
import Derived.Maps.OwnIn
namespace Go.Proofs.Ytfbmabhdjliohaa.Cur
open Go.RowKit Go.Proofs.YtfbmabhdjliohaaW.PrintWords Go.Proofs.YtfbmabhdjliohaaW.PrintLast Go.Proofs.YtfbmabhdjliohaaW.PrintMore Go.Proofs.Ytfbmabhdjliohaa.Var
set_option linter.unusedSimpArgs false
set_option linter.unusedVariables false
/-- All fields of bytes. -/
def par (b : List Int) : List (Fd × Nat) × Bool := pgD (b.length + 1) b
/-- l has been read, up to place p. -/
def Way (b : List Int) (l : List (Fd × Nat)) (p : Nat) : Prop := p ≤ b.length ∧ l.length ≤ p ∧ ∀ k, pgD (l.length + k) b = (l ++ (pgD k (b.drop p)).1, (pgD k (b.drop p)).2)
theorem Way.start (b : List Int) : Way b [] 0 := ⟨by omega, by simp, fun k => by simp⟩
theorem Way.step {b : List Int} {l : List (Fd × Nat)} {p s : Nat} {x : Fd} (h : Way b l p) (hp : p < b.length) (h1 : oneD (b.drop p) = some (x, s)) (hs : 1 ≤ s) (hps : p + s ≤ b.length) : Way b (l ++ [(x, s)]) (p + s) := by
  have hn : b.drop p ≠ [] := by intro e; have := congrArg List.length e; rw [List.length_drop, List.length_nil] at this; omega
  refine ⟨hps, by rw [List.length_append, List.length_singleton]; have := h.2.1; omega, fun k => ?_⟩
  have hk := h.2.2 (k + 1)
  rw [pg_some hn h1, List.drop_drop] at hk
  rw [List.length_append, List.length_singleton, Nat.add_assoc, Nat.add_comm 1 k, hk, List.append_assoc]
  rfl
theorem Way.done {b : List Int} {l : List (Fd × Nat)} {p : Nat} (h : Way b l p) (hp : b.length ≤ p) : par b = (l, true) := by
  have h1 := h.2.2 (b.length + 1 - l.length)
  have h2 := h.1
  have h3 := h.2.1
  rw [show l.length + (b.length + 1 - l.length) = b.length + 1 by omega, List.drop_eq_nil_of_le hp, pg_nil] at h1
  unfold par
  rw [h1, List.append_nil]
theorem Way.fail {b : List Int} {l : List (Fd × Nat)} {p : Nat} (h : Way b l p) (hp : p < b.length) (h1 : oneD (b.drop p) = none) : par b = (l, false) := by
  have hn : b.drop p ≠ [] := by intro e; have := congrArg List.length e; rw [List.length_drop, List.length_nil] at this; omega
  have h2 := h.2.2 (b.length - l.length + 1)
  have h3 := h.2.1
  rw [show l.length + (b.length - l.length + 1) = b.length + 1 by omega, pg_none hn h1, List.append_nil] at h2
  exact h2
theorem Way.pre {b : List Int} {l : List (Fd × Nat)} {p : Nat} (h : Way b l p) : l <+: (par b).1 := by
  have h1 := h.2.2 (b.length + 1 - l.length)
  have h2 := h.1
  have h3 := h.2.1
  rw [show l.length + (b.length + 1 - l.length) = b.length + 1 by omega] at h1
  unfold par
  rw [h1]
  exact List.prefix_append _ _
/-- Whatever is cells lies as it lay. -/
def CK (W W' : World) : Prop := W.heap.size ≤ W'.heap.size ∧ ∀ (i : Nat) (cs : Array Value) (t : TypeId) (fr : Nat × Nat), W.heap[i]? = some (.cells cs t fr) → W'.heap[i]? = some (.cells cs t fr)
theorem CK.putObj {W : World} {l : Nat} {o : Obj} (o' : Obj) (h : W.heap[l]? = some o) (ho : o.isCells = false) : CK W (W.putObj l o') :=
  ⟨by simp, fun i cs t fr hi => (World.putObj_heap_other (fun e => by subst e; rw [h] at hi; cases hi; cases ho)).trans hi⟩
theorem CK.alloc (W : World) (o : Obj) : CK W (W.alloc o) := ⟨by rw [World.size_alloc]; omega, fun i cs t fr hi => blk_alloc hi o⟩
theorem C_ck {α : Type} {d : Kd α} {W W' : World} {A : Option Addr} {n : Nat} {xs : List Int} (h : Kd.C (Kd.int .u8) W A n xs) (hk : CK W W') : Kd.C (Kd.int .u8) W' A n xs := by
  refine C_move h (fun ad ha hn => ?_)
  obtain ⟨ad', ha', hc⟩ := (Kd.reads_of_C (enc := Value.int .u8) (d := (0 : Int)) (h1 := fun _ => rfl) h).2.2 hn
  rw [ha] at ha'
  injection ha' with ha'
  subst ha'
  have h0 := hc 0 hn
  obtain ⟨o, ho, hco⟩ := cells_of_cell h0
  rw [show (ad.add 0).block = ad.block by unfold Addr.add; rfl] at ho
  cases o with
  | cells cs t fr => rw [ho]; exact hk.2 _ _ _ _ ho
  | _ => cases hco
theorem own_ck {W W' : World} {base : Nat} {e : TypeId} {size n : Nat} {v : Value} {xs : List Value} (h : W.ownsRow base e size v n xs) (hk : CK W W') : W'.ownsRow base e size v n xs := by
  refine own_move h (fun j hj => ?_)
  rcases h.2 with ⟨rfl, _⟩ | ⟨g, cap, cur, rfl, hb, hh, _⟩
  · simp [Value.ownBlock] at hj
  · have hg : g = j := by simpa [Value.ownBlock] using hj
    subst hg
    rw [hh]
    exact hk.2 _ _ _ _ hh
theorem IsC.ck {W W' : World} {B g : Nat} {A : Option Addr} {c : Nat} {b : List Int} {p : Int} {v : Value} {ends : List Int} (h : IsC W B g A c b p v ends) (hk : CK W W') : IsC W' B g A c b p v ends := by
  refine ⟨hk.2 _ _ _ _ h.blk, ?_, C_ck (d := Kd.int .u8) h.rd hk, h.lc, h.ge, h.ap⟩
  obtain ⟨h0, inner, ho, hr⟩ := h.row
  exact ⟨h0, inner, own_ck ho hk, hr.imp_ (fun _ _ hp => hp)⟩
/-- A cursor's call leaves whatever is no cells. -/
theorem IsC.others {W W' : World} {B g : Nat} {A : Option Addr} {c : Nat} {b : List Int} {p : Int} {v v' : Value} {ends : List Int} (h : IsC W B g A c b p v ends) (f : Fr W W' g v v') : KeepsOthers W W' := by
  refine ⟨f.1.1, fun k o hk ho => ?_⟩
  refine f.blk hk (fun e => ?_) (fun e => ?_)
  · subst e; rw [h.blk] at hk; cases hk; cases ho
  · obtain ⟨A2, c2, rfl⟩ := Kd.R_slice h.row
    obtain ⟨h0, inner, hw, hr⟩ := h.row
    rcases hw.2 with ⟨he, _⟩ | ⟨g2, cap, cur, he, hb, hh, _⟩
    · rw [he] at e; simp [Value.ownBlock] at e
    · rw [he] at e
      have hg : g2 = k := by simpa [Value.ownBlock] using e
      subst hg
      rw [hh] at hk; cases hk; cases ho
theorem Drawn0.others {W W' : World} (h : Drawn0 W W') : KeepsOthers W W' := by
  obtain ⟨n, rfl⟩ := h
  exact ⟨Nat.le_refl _, fun _ _ h _ => h⟩
theorem Drawn0.ck {W W' : World} (h : Drawn0 W W') : CK W W' := by
  obtain ⟨n, rfl⟩ := h
  exact ⟨Nat.le_refl _, fun _ _ _ _ h => h⟩
/-- A field as the print's struct. -/
def s46 (x : Fd) : PRaw.S46 := ⟨x.1, x.2.1, x.2.2.1, strOfNums x.2.2.2⟩
theorem s46_cells (x : Fd) : (fdV x) = .agg #[.int .i64 (s46 x).f0, .int .i64 (s46 x).f1, .int .u64 (s46 x).f2, .string (s46 x).f3] := rfl
end Go.Proofs.Ytfbmabhdjliohaa.Cur
namespace Go.Proofs.Ytfbmabhdjliohaa.Cur
open Go.RowKit Go.Shelf Go.Proofs.Ytfbmabhdjliohaa.Rng Go.Proofs.YtfbmabhdjliohaaW.PrintWords Go.Proofs.YtfbmabhdjliohaaW.PrintLast Go.Proofs.YtfbmabhdjliohaaW.PrintMore Go.Proofs.Ytfbmabhdjliohaa.Var
set_option maxHeartbeats 1000000
set_option maxRecDepth 100000
set_option linter.unusedSimpArgs false
set_option linter.unusedVariables false
attribute [local go_sem] Oper.semAt_some
/-- A cursor, its box, the box of what is collected, and what is. -/
structure GJ (w0 W : World) (g cb ob : Nat) (A : Option Addr) (c : Nat) (b : List Int) (l : List (Fd × Nat)) (p : Int) (v vo : Value) (ends : List Int) : Prop where
  cur : IsC W w0.heap.size g A c b p v ends
  box : W.heap[cb]? = some (.cells #[.pointer (some ⟨g, 0, none⟩)] 27 (0, 0))
  obx : W.heap[ob]? = some (.cells #[vo] 38 (0, 0))
  out : Kd.R PRaw.k46 46 W w0.heap.size (fun _ => True) vo (l.map fun x => s46 x.1)
  bel : Below w0.heap.size w0 W
  cbB : w0.heap.size ≤ cb
  obB : w0.heap.size ≤ ob
  hle : w0.heap.size ≤ W.heap.size
theorem R46_move {W W' : World} {base : Nat} {ok : Nat → Prop} {v : Value} {xs : List PRaw.S46} (h : Kd.R PRaw.k46 46 W base ok v xs) (hm : ∀ k, v.ownBlock = some k → W'.heap[k]? = W.heap[k]?) : Kd.R PRaw.k46 46 W' base ok v xs := by
  obtain ⟨h0, inner, ho, hr⟩ := h
  refine ⟨h0, inner, own_move ho hm, hr.imp_ (fun x cs hx => ?_)⟩
  obtain rfl := PRaw.k46_openM hx
  exact PRaw.k46_mkM _ _ _ x
theorem R46_typed {W : World} {base k : Nat} {ok : Nat → Prop} {v : Value} {xs : List PRaw.S46} (h : Kd.R PRaw.k46 46 W base ok v xs) (hk : v.ownBlock = some k) : base ≤ k ∧ ∃ cs, W.heap[k]? = some (.cells cs 46 (0, 0)) := by
  obtain ⟨h0, inner, ho, hr⟩ := h
  rcases ho.2 with ⟨rfl, _⟩ | ⟨g, cap, cur, rfl, hb, hh, _⟩
  · simp [Value.ownBlock] at hk
  · have : g = k := by simpa [Value.ownBlock] using hk
    subst this
    exact ⟨hb, cur, hh⟩
section
variable {w0 W W' : World} {g cb ob : Nat} {A : Option Addr} {c : Nat} {b : List Int} {l : List (Fd × Nat)} {p p' : Int} {v vo : Value} {ends ends' : List Int}
theorem C_typed_ne {B k t : Nat} {cells : Array Value} (h : IsC W B g A c b p v ends) (hb : W.heap[k]? = some (.cells cells t (0, 0))) (h1 : t ≠ 61) (h2 : t ≠ 3) : k ≠ g ∧ v.ownBlock ≠ some k := by
  refine ⟨fun e => ?_, fun e => ?_⟩
  · subst e; rw [h.blk] at hb; cases hb; exact h1 rfl
  · exact typed_ne h.row hb h2 e rfl
theorem GJ.moved (h : GJ w0 W g cb ob A c b l p v vo ends) (hm : Moved W w0.heap.size g A c b v p' ends' W') : ∃ v', GJ w0 W' g cb ob A c b l p' v' vo ends' := by
  obtain ⟨v', h', f⟩ := hm
  have n1 := C_typed_ne h.cur h.box (by decide) (by decide)
  have n2 := C_typed_ne h.cur h.obx (by decide) (by decide)
  refine ⟨v', h', f.blk h.box n1.1 n1.2, f.blk h.obx n2.1 n2.2, R46_move h.out (fun k hk => ?_), h.bel.trans (f.below h.hle h.cur.ge (fun k hk => (own_bounds h.cur.row hk).1)), h.cbB, h.obB, Nat.le_trans h.hle f.1.1⟩
  obtain ⟨_, cs, hcs⟩ := R46_typed h.out hk
  have n3 := C_typed_ne h.cur hcs (by decide) (by decide)
  rw [hcs]
  exact f.blk hcs n3.1 n3.2
theorem GJ.drawn (h : GJ w0 W g cb ob A c b l p v vo ends) (hd : Drawn0 W W') : GJ w0 W' g cb ob A c b l p v vo ends := by
  obtain ⟨n, rfl⟩ := hd
  exact ⟨h.cur.drewN n, h.box, h.obx, R46_move h.out (fun _ _ => rfl), pw_below_drewN h.bel n, h.cbB, h.obB, h.hle⟩
theorem GJ.alloc (h : GJ w0 W g cb ob A c b l p v vo ends) (o : Obj) : GJ w0 (W.alloc o) g cb ob A c b l p v vo ends :=
  ⟨h.cur.below (below_alloc (Below.refl _ _) _), blk_alloc h.box _, blk_alloc h.obx _, Kd.R_alloc h.out _, h.bel.alloc h.hle _, h.cbB, h.obB, szA h.hle _⟩
theorem GJ.putObj (h : GJ w0 W g cb ob A c b l p v vo ends) {k : Nat} {o : Obj} (o' : Obj) (hB : w0.heap.size ≤ k) (hk : W.heap[k]? = some o) (ho : o.isCells = false) : GJ w0 (W.putObj k o') g cb ob A c b l p v vo ends := by
  have ck := CK.putObj o' hk ho
  refine ⟨h.cur.ck ck, ck.2 _ _ _ _ h.box, ck.2 _ _ _ _ h.obx, R46_move h.out (fun j hj => ?_), h.bel.trans ⟨rfl, rfl, rfl, by simp, fun i hi => World.putObj_heap_other (by omega)⟩, h.cbB, h.obB, by simpa using h.hle⟩
  obtain ⟨_, cs, hcs⟩ := R46_typed h.out hj
  rw [hcs]
  exact ck.2 _ _ _ _ hcs
end
theorem R_appendIn {F : Fence} {nF : Nat} {P : Program} {ops : Array Oper} {rest : List Oper} {o : Oper} {a : Act} {Q : Exit → Act → World → Prop} {α : Type} (d : Kd α) {w0 W : World} (base : Nat) (hgd : o.guard = none) (s x : Operand) (t e : TypeId) (z : Value) (bytes : Nat)
    (ho : o.op = .call { callee := .builtin .append, args := #[s, x], argTypes := #[t, t] })
    (ht : P.underlying t = some (.slice e)) (hinfo : (P.info? e).map (fun i => (i.zero, i.size, i.bytes)) = some (some z, d.sz, bytes)) (hz : z.cells.size = d.sz) (hs0 : 0 < d.sz) (hb0 : 0 < bytes)
    (v : Value) (xs : List α) (p : α) (cs : List Value) (ok okp : Nat → Prop) (hs : a.eval s = v) (hx : a.eval x = .slice (some ⟨W.heap.size, 0, none⟩) 1 1) (hp : d.M W base okp p cs) (hokp : ∀ k, okp k → ok k ∧ some k ≠ v.ownBlock) (hfresh : ∀ k, W.heap.size ≤ k → ok k)
    (HO : d.R e W base ok v xs) (HB : Below base w0 W) (hbase : base ≤ W.heap.size) (hl : (xs.length + 1) * bytes ≤ 140737488355328)
    (h : ∀ v1 w1, d.R e w1 base ok v1 (xs ++ [p]) → Below base w0 w1 → W.grownBy w1 v.ownBlock → wpListIn F nF P ops Q rest (a.put o.dst v1) w1) :
    wpListIn F nF P ops Q (o :: rest) a (W.alloc (.cells cs.toArray e)) := by
  obtain ⟨h0, inner, hown, hr⟩ := HO
  obtain ⟨i0, hi, hzz⟩ := Option.map_eq_some_iff.1 hinfo
  simp only [Prod.mk.injEq] at hzz
  obtain ⟨hz0, hz1, hz2⟩ := hzz
  have hlen : xs.length + 1 ≤ 140737488355328 := Nat.le_trans (Nat.le_mul_of_pos_right _ hb0) hl
  refine wpListIn_append_own_at (W.alloc _) hgd s x t ho base e i0 z d.sz bytes ht hi hz0 hz1 hz2 hz hs0 v xs.length inner hs (hown.alloc _) ⟨W.heap.size, 0, none⟩ 1 1 cs hx (by rw [Nat.one_mul]; exact d.K_len (d.K_of_M hp))
    (World.news_of_block (cs := cs.toArray) (t := e) (fr := (0, 0)) (heap_alloc_new W _)) (d.K_one (d.K_of_M hp)) (by simp only [maxLen]; omega) hl (szA hbase _) ?_
  intro v1 w1 hown1 hg _ hat
  have hg1 : W.grownBy w1 v.ownBlock := World.grownBy.trans (World.grownBy_alloc W _ _) hg
  refine h v1 w1 (Kd.R_appended h0 hr hp hokp hfresh hown1 hg1 ?_) ((HB.alloc hbase _).grown hg (szA hbase _) (own_base hown)) hg1
  rcases hat with hat | hat
  · exact .inl hat
  · exact .inr ⟨_, hat, by rw [World.size_alloc]; omega⟩
/-- What yield is handed. -/
def encF (x : Int × Fd) : Array Value := #[.int .i64 x.1, fdV x.2]
section
variable (w0 : World) (g cb ob : Nat) (A : Option Addr) (c : Nat) (b : List Int)
def YS (s : List (Fd × Nat) × Nat) (x : Int × Fd) (W : World) : Prop :=
  ∃ (n : Nat) (v vo : Value), (x.1 = s.2 ∧ oneD (b.drop s.2) = some (x.2, n) ∧ s.2 < b.length ∧ 1 ≤ n ∧ s.2 + n ≤ b.length ∧ Way b s.1 s.2) ∧ GJ w0 W g cb ob A c b s.1 ((s.2 + n : Nat) : Int) v vo [(b.length : Int)]
def ZS (s : List (Fd × Nat) × Nat) (x : Int × Fd) (W : World) : Prop :=
  ∃ (n : Nat) (v vo : Value), (x.1 = s.2 ∧ oneD (b.drop s.2) = some (x.2, n) ∧ s.2 < b.length ∧ 1 ≤ n ∧ s.2 + n ≤ b.length ∧ Way b s.1 s.2) ∧ GJ w0 W g cb ob A c b (s.1 ++ [(x.2, n)]) ((s.2 + n : Nat) : Int) v vo [(b.length : Int)]
def FinS (W : World) : Prop := ∃ (l : List (Fd × Nat)) (p : Int) (v vo : Value) (ends : List Int), par b = (l, decide (0 < ends.length)) ∧ GJ w0 W g cb ob A c b l p v vo ends
def R0S (W : World) : Prop := ∃ v vo, GJ w0 W g cb ob A c b [] 0 v vo [(b.length : Int)]
end
theorem more_one (p n : Int) : moreB p [n] = decide (p < n) := by unfold moreB; rw [last_one]; rfl
theorem each_on {w0 : World} {g cb ob : Nat} {A : Option Addr} {c : Nat} {b : List Int} (n : Nat) (hn1 : 1 ≤ n) (hb : ∀ x ∈ b, 0 ≤ x ∧ x ≤ 255) (hbl : b.length ≤ 140737488359000) :
    SeqOn n Try.prog 75 #[.pointer (some ⟨cb, 0, none⟩)] encF (R0S w0 g cb ob A c b) (FinS w0 g cb ob A c b) (YS w0 g cb ob A c b) (ZS w0 g cb ob A c b) := by
  intro l Bk hBk hYZ W hR0 hB0
  obtain ⟨v0, vo0, h0⟩ := hR0
  have hc0 := blk_cell h0.box 0
  have HB0 := Aside0.mk hB0
  have H0 := Aside0.mk h0
  have HBY := Aside0.mk hb
  have HBL := Aside0.mk hbl
  have HBK := Aside0.mk hBk
  have HYZ := Aside0.mk hYZ
  have fe1 : Fence.wide.fn 14 := trivial
  have fe2 : Fence.wide.fn 21 := trivial
  have fe3 : Fence.wide.fn 76 := trivial
  have fe4 : Fence.wide.fn 20 := trivial
  clear hB0 h0 hb hbl hBk hYZ
  refine callsIn_of_wp Try.func75 rfl trivial ?_ rfl
  simp only [Try.ntmps75, List.size_toArray, List.length_cons, List.length_nil, Nat.reduceAdd, Nat.reduceSub, Array.replicate_succ, Array.replicate_zero, List.push_toArray, List.append_toArray, List.nil_append, List.cons_append, Array.append_assoc]
  gi_wp2
  gi_loopg [] (b.length + 1) (fun kq wr => ∃ (l : List (Fd × Nat)) (p : Nat) (v vo : Value), Aside0 (kq + p = b.length + 1 ∧ Way b l p ∧ GJ w0 wr g cb ob A c b l p v vo [(b.length : Int)] ∧ Bk wr))
  case atStart => exact ⟨[], 0, v0, vo0, ⟨by omega, Way.start b, H0.out, HB0.out⟩⟩
  case round =>
    obtain ⟨l, p, v, vo, HG⟩ := hrel
    obtain ⟨hg0, hway, HJ, hbk⟩ := HG.out
    have hcw : wr.cell? ⟨cb, 0, none⟩ = some (.pointer (some ⟨g, 0, none⟩)) := (blk_cell HJ.box 0).trans rfl
    have HW := Aside0.mk hway
    have HJ' := Aside0.mk HJ
    have HBK' := Aside0.mk hbk
    have HG0 := Aside0.mk hg0
    by_cases hp : p < b.length
    · have hm : moreB (p : Int) [(b.length : Int)] = true := by rw [more_one, decide_eq_true (by omega)]
      have HM := Aside0.mk (fun (W : World) (h : GJ w0 W g cb ob A c b l p v vo [(b.length : Int)]) => more_c h.cur)
      rw [hm] at HM
      have hnx := nxt_one (b := b) (p := (p : Int)) (by omega) (by omega) HBY.out
      rw [Int.toNat_natCast] at hnx
      have HN := Aside0.mk (fun (W : World) (h : GJ w0 W g cb ob A c b l p v vo [(b.length : Int)]) => next_c h.cur (inv_one (by omega) (by omega)) h.hle HBY.out HBL.out)
      have HP := Aside0.mk hp
      rcases h1 : oneD (b.drop p) with _ | ⟨x, s⟩
      · have h2 := hnx.1 h1
        obtain ⟨T, hT⟩ : ∃ T, T = nxt b p [(b.length : Int)] := ⟨_, rfl⟩
        rw [← hT] at HN h2
        obtain ⟨x, q, en⟩ := T
        simp only at HN h2
        injection h2 with h2 h3
        subst h2 h3
        have H1 := Aside0.mk h1
        clear hg0 hway HJ hbk HG hp hm hnx hT h1
        gi_wp2_with (first
          | (gi_at_call 14; refine (callsIn_wide.2 (HM.out _ HJ'.out)).mono ?_; rintro e w1 ⟨rfl, hd1⟩
             have j1 := HJ'.out.drawn hd1; have hc1 : w1.cell? ⟨cb, 0, none⟩ = some (.pointer (some ⟨g, 0, none⟩)) := (blk_cell j1.box 0).trans rfl
             have B1 := Aside0.mk (HBK.out _ _ HBK'.out (Drawn0.others hd1)); have J1 := Aside0.mk j1; clear j1 hd1)
          | (gi_at_call 21; refine (callsIn_wide.2 (at_c J1.out.cur)).mono ?_; rintro e w2 ⟨rfl, hd2⟩
             have j2 := J1.out.drawn hd2; have hc2 : w2.cell? ⟨cb, 0, none⟩ = some (.pointer (some ⟨g, 0, none⟩)) := (blk_cell j2.box 0).trans rfl
             have B2 := Aside0.mk (HBK.out _ _ B1.out (Drawn0.others hd2)); have J2 := Aside0.mk j2; clear j2 hd2)
          | (gi_at_call 76; refine (callsIn_wide.2 (HN.out _ J2.out)).mono ?_; rintro e w3 ⟨rfl, hm3⟩
             have b3 := (hm3.elim (fun v3 h3 => J2.out.cur.others h3.2))
             obtain ⟨v3, j3⟩ := J2.out.moved hm3
             have hc3 : (w3.alloc (.cells #[.int .i64 x.1, .int .i64 x.2.1, .int .u64 x.2.2.1, .string (strOfNums x.2.2.2)] 46)).cell? ⟨cb, 0, none⟩ = some (.pointer (some ⟨g, 0, none⟩)) := (blk_cell (blk_alloc j3.box _) 0).trans rfl
             have B3 := Aside0.mk (HBK.out _ _ B2.out b3); have J3 := Aside0.mk j3; clear j3 hm3 b3; unfold fdV)
          | (gi_at_call 20; refine (callsIn_wide.2 (ok_no (J3.out.alloc _).cur rfl)).mono ?_; rintro e w4 ⟨rfl, hd4⟩
             have j4 := (J3.out.alloc _).drawn hd4
             have B4 := Aside0.mk (HBK.out _ _ B3.out ((KeepsOthers.alloc _ _).trans (Drawn0.others hd4))); have J4 := Aside0.mk j4; clear j4 hd4))
        refine ⟨(fun _ h => (by cases h)), ?_⟩
        gi_wp2
        refine bodyPost_ret (results_none rfl _ _ _) rfl ?_
        exact ⟨⟨_, rfl⟩, ⟨l, 0, v3, vo, [], HW.out.fail HP.out H1.out, J4.out⟩, B4.out⟩
      · obtain ⟨hs1, h2, hs2⟩ := hnx.2 x s h1
        rw [h2] at HN
        simp only at HN
        have e1 : ((p : Int) + (s : Int)) = ((p + s : Nat) : Int) := (Int.natCast_add p s).symm
        rw [e1] at HN
        have HS := Aside0.mk (show 1 ≤ s ∧ p + s ≤ b.length by omega)
        have H1 := Aside0.mk h1
        clear hg0 hway HJ hbk HG hp hm hnx h1 h2 hs1 hs2 e1
        gi_wp2_with (first
          | (gi_at_call 14; refine (callsIn_wide.2 (HM.out _ HJ'.out)).mono ?_; rintro e w1 ⟨rfl, hd1⟩
             have j1 := HJ'.out.drawn hd1; have hc1 : w1.cell? ⟨cb, 0, none⟩ = some (.pointer (some ⟨g, 0, none⟩)) := (blk_cell j1.box 0).trans rfl
             have B1 := Aside0.mk (HBK.out _ _ HBK'.out (Drawn0.others hd1)); have J1 := Aside0.mk j1; clear j1 hd1)
          | (gi_at_call 21; refine (callsIn_wide.2 (at_c J1.out.cur)).mono ?_; rintro e w2 ⟨rfl, hd2⟩
             have j2 := J1.out.drawn hd2; have hc2 : w2.cell? ⟨cb, 0, none⟩ = some (.pointer (some ⟨g, 0, none⟩)) := (blk_cell j2.box 0).trans rfl
             have B2 := Aside0.mk (HBK.out _ _ B1.out (Drawn0.others hd2)); have J2 := Aside0.mk j2; clear j2 hd2)
          | (gi_at_call 76; refine (callsIn_wide.2 (HN.out _ J2.out)).mono ?_; rintro e w3 ⟨rfl, hm3⟩
             have b3 := (hm3.elim (fun v3 h3 => J2.out.cur.others h3.2))
             obtain ⟨v3, j3⟩ := J2.out.moved hm3
             have hc3 : (w3.alloc (.cells #[.int .i64 x.1, .int .i64 x.2.1, .int .u64 x.2.2.1, .string (strOfNums x.2.2.2)] 46)).cell? ⟨cb, 0, none⟩ = some (.pointer (some ⟨g, 0, none⟩)) := (blk_cell (blk_alloc j3.box _) 0).trans rfl
             have B3 := Aside0.mk (HBK.out _ _ B2.out b3); have J3 := Aside0.mk j3; clear j3 hm3 b3; unfold fdV)
          | (gi_at_call 20; refine (callsIn_wide.2 (ok_yes (J3.out.alloc _).cur (by simp))).mono ?_; rintro e w4 ⟨rfl, hd4⟩
             have j4 := (J3.out.alloc _).drawn hd4
             have b4 := HBK.out _ _ B3.out ((KeepsOthers.alloc _ _).trans (Drawn0.others hd4))
             have x4 : w4.heap[w3.heap.size]? = some (.cells #[.int .i64 x.1, .int .i64 x.2.1, .int .u64 x.2.2.1, .string (strOfNums x.2.2.2)] 46 (0, 0)) := by obtain ⟨m4, rfl⟩ := hd4; exact blk_new _ _
             obtain ⟨⟨xc0, xc1, xc2, xc3⟩, xf0, xf1, xf2, xf3⟩ := blk4 x4
             obtain ⟨fn, tmps, assign, body, hy, hR⟩ := HYZ.out (l, p) ((p : Int), x) w4 ⟨s, v3, vo, ⟨rfl, H1.out, HP.out, HS.out.1, HS.out.2, HW.out⟩, j4⟩ b4
             dsimp only [encF, fdV] at hy
             have HR := Aside0.mk hR
             clear j4 hd4 b4 x4 hR))
        refine HR.out.mono ?_
        rintro e w5 ⟨rfl, ⟨s', v5, vo5, ⟨_, hs', _⟩, j5⟩, b5⟩
        have hss : s' = s := by
          have h6 := H1.out
          simp only at hs'
          rw [hs'] at h6
          injection h6 with h6
          injection h6
        subst hss
        have B5 := Aside0.mk b5
        have J5 := Aside0.mk j5
        clear hs' j5 b5
        gi_wp2
        gi_roundg (gk - s')
        case measure => have := HG0.out; have := HP.out; have := HS.out; omega
        case rel => exact ⟨_, _, _, _, ⟨by have := HG0.out; have := HP.out; have := HS.out; omega, HW.out.step HP.out H1.out HS.out.1 HS.out.2, J5.out, B5.out⟩⟩
    · have hm : moreB (p : Int) [(b.length : Int)] = false := by rw [more_one, decide_eq_false (by omega)]
      have HM := Aside0.mk (fun (W : World) (h : GJ w0 W g cb ob A c b l p v vo [(b.length : Int)]) => more_c h.cur)
      rw [hm] at HM
      have HP := Aside0.mk (show b.length ≤ p by omega)
      clear hg0 hway HJ hbk HG hp hm
      gi_wp2_with (first
        | (gi_at_call 14; refine (callsIn_wide.2 (HM.out _ HJ'.out)).mono ?_; rintro e w1 ⟨rfl, hd1⟩
           have j1 := HJ'.out.drawn hd1
           have B1 := Aside0.mk (HBK.out _ _ HBK'.out (Drawn0.others hd1)); have J1 := Aside0.mk j1; clear j1 hd1))
      go_end0
      exact ⟨⟨_, rfl⟩, ⟨l, p, v, vo, [(b.length : Int)], HW.out.done HP.out, J1.out⟩, B1.out⟩
end Go.Proofs.Ytfbmabhdjliohaa.Cur
namespace Go.Proofs.Ytfbmabhdjliohaa.Cur
open Go.RowKit Go.Shelf Go.Proofs.Ytfbmabhdjliohaa.Rng Go.Proofs.YtfbmabhdjliohaaW.PrintWords Go.Proofs.YtfbmabhdjliohaaW.PrintLast Go.Proofs.YtfbmabhdjliohaaW.PrintMore Go.Proofs.Ytfbmabhdjliohaa.Var
set_option maxHeartbeats 1000000
set_option maxRecDepth 100000
set_option linter.unusedSimpArgs false
set_option linter.unusedVariables false
attribute [local go_sem] Oper.semAt_some
theorem each_c (p : Option Addr) (w : World) : Calls Try.prog 55 #[.pointer p] w fun e w' => e = .returned (.func (.func 75) #[] #[.pointer (some ⟨w.heap.size, 0, none⟩)]) ∧ Below w.heap.size w w' ∧ w'.heap[w.heap.size]? = some (.cells #[.pointer p] 27 (0, 0)) := by
  go_enter Try.func55, Try.ntmps55
  go_wp2
  go_ret
  exact ⟨rfl, below_alloc (Below.refl _ _) _, blk_new _ _⟩
section
variable {w0 : World} {g cb ob : Nat} {A : Option Addr} {c : Nat} {b : List Int} {B : Nat}
theorem firmR (hB : w0.heap.size ≤ B) : Firm B (R0S w0 g cb ob A c b) :=
  ⟨fun W l o o' ⟨v, vo, h⟩ hl hk ho => ⟨v, vo, h.putObj o' (Nat.le_trans hB hl) hk ho⟩, fun W o ⟨v, vo, h⟩ => ⟨v, vo, h.alloc o⟩⟩
theorem firmF (hB : w0.heap.size ≤ B) : Firm B (FinS w0 g cb ob A c b) :=
  ⟨fun W l o o' ⟨l', p, v, vo, en, hp, h⟩ hl hk ho => ⟨l', p, v, vo, en, hp, h.putObj o' (Nat.le_trans hB hl) hk ho⟩, fun W o ⟨l', p, v, vo, en, hp, h⟩ => ⟨l', p, v, vo, en, hp, h.alloc o⟩⟩
theorem firmY (hB : w0.heap.size ≤ B) (s : List (Fd × Nat) × Nat) (x : Int × Fd) : Firm B (YS w0 g cb ob A c b s x) :=
  ⟨fun W l o o' ⟨n, v, vo, hp, h⟩ hl hk ho => ⟨n, v, vo, hp, h.putObj o' (Nat.le_trans hB hl) hk ho⟩, fun W o ⟨n, v, vo, hp, h⟩ => ⟨n, v, vo, hp, h.alloc o⟩⟩
theorem firmZ (hB : w0.heap.size ≤ B) (s : List (Fd × Nat) × Nat) (x : Int × Fd) : Firm B (ZS w0 g cb ob A c b s x) :=
  ⟨fun W l o o' ⟨n, v, vo, hp, h⟩ hl hk ho => ⟨n, v, vo, hp, h.putObj o' (Nat.le_trans hB hl) hk ho⟩, fun W o ⟨n, v, vo, hp, h⟩ => ⟨n, v, vo, hp, h.alloc o⟩⟩
end
theorem info46 : (Try.prog.info? 46).map (fun i => (i.zero, i.size, i.bytes)) = some (some (.agg #[.int .i64 0, .int .i64 0, .int .u64 0, .string ⟨#[]⟩]), 4, 40) := by kernel_rfl
theorem IsC.move {W W' : World} {B g : Nat} {A : Option Addr} {c : Nat} {b : List Int} {p : Int} {v : Value} {ends : List Int} (h : IsC W B g A c b p v ends) (h1 : W'.heap[g]? = W.heap[g]?) (h2 : ∀ k, v.ownBlock = some k → W'.heap[k]? = W.heap[k]?) (h3 : ∀ k, k < B → W'.heap[k]? = W.heap[k]?) : IsC W' B g A c b p v ends := by
  refine ⟨h1.trans h.blk, ?_, C_move h.rd (fun ad ha hn => h3 _ (h.ap ad ha hn)), h.lc, h.ge, h.ap⟩
  obtain ⟨h0, inner, ho, hr⟩ := h.row
  exact ⟨h0, inner, own_move ho h2, hr.imp_ (fun _ _ hp => hp)⟩
theorem GJ.appended {w0 W W3 : World} {g cb ob : Nat} {A : Option Addr} {c : Nat} {b : List Int} {l l' : List (Fd × Nat)} {p : Int} {v vo vo' : Value} {ends : List Int} (h : GJ w0 W g cb ob A c b l p v vo ends)
    (ho : Kd.R PRaw.k46 46 W3 w0.heap.size (fun _ => True) vo' (l'.map fun x => s46 x.1)) (hb : Below w0.heap.size w0 W3) (hg : W.grownBy W3 vo.ownBlock) :
    GJ w0 (W3.setCell ⟨ob, 0, none⟩ vo') g cb ob A c b l' p v vo' ends ∧ KeepsOthers W (W3.setCell ⟨ob, 0, none⟩ vo') ∧ (∃ A1 c1, vo' = .slice A1 l'.length c1) := by
  have ne : ∀ {k t : Nat} {cells : Array Value}, W.heap[k]? = some (.cells cells t (0, 0)) → t ≠ 46 → some k ≠ vo.ownBlock := by
    intro k t cells hk ht e
    obtain ⟨_, cs, hcs⟩ := R46_typed h.out e.symm
    rw [hcs] at hk
    cases hk
    exact ht rfl
  have hne : ∀ {k t : Nat} {cells : Array Value}, W.heap[k]? = some (.cells cells t (0, 0)) → t ≠ 38 → k ≠ ob := by
    intro k t cells hk ht e
    subst e
    rw [h.obx] at hk
    cases hk
    exact ht rfl
  have mv : ∀ {k t : Nat} {cells : Array Value}, W.heap[k]? = some (.cells cells t (0, 0)) → t ≠ 46 → t ≠ 38 → (W3.setCell ⟨ob, 0, none⟩ vo').heap[k]? = W.heap[k]? := by
    intro k t cells hk h1 h2
    exact (Below.heap_setCell W3 ⟨ob, 0, none⟩ vo' k (hne hk h2)).trans (hg.block k (blk_lt hk) (ne hk h1))
  have hobx : W3.heap[ob]? = some (.cells #[vo] 38 (0, 0)) := blk_grown h.obx hg (ne h.obx (by decide))
  have hob2 : some ob ≠ vo'.ownBlock := fun e => by
    obtain ⟨_, cs, hcs⟩ := R46_typed ho e.symm
    rw [hobx] at hcs
    cases hcs
  refine ⟨⟨h.cur.move (mv h.cur.blk (by decide) (by decide)) (fun k hk => ?_) (fun k hk => ?_), (mv h.box (by decide) (by decide)).trans h.box, blk_put hobx 0 _ rfl, R46_move ho (fun k hk => Below.heap_setCell W3 ⟨ob, 0, none⟩ vo' k (fun e => hob2 (by rw [hk, e]))), hb.setCell (p := ⟨ob, 0, none⟩) h.obB _, h.cbB, h.obB, by rw [World.size_setCell]; exact Nat.le_trans h.hle hg.size⟩, ?_, ?_⟩
  · rcases h.cur.row with ⟨_, inner, hw, _⟩
    rcases hw.2 with ⟨he, _⟩ | ⟨g2, cap, cur, he, _, hh, _⟩
    · rw [he] at hk; simp [Value.ownBlock] at hk
    · rw [he] at hk
      have hg2 : g2 = k := by simpa [Value.ownBlock] using hk
      subst hg2
      exact mv hh (by decide) (by decide)
  · have hlt : k < W.heap.size := Nat.lt_of_lt_of_le hk h.hle
    refine (Below.heap_setCell W3 ⟨ob, 0, none⟩ vo' k (by have := h.obB; simp only; omega)).trans (hg.block k hlt (fun e => ?_))
    have := (R46_typed h.out e.symm).1
    omega
  · refine (KeepsOthers.of_grownBy hg (fun j o e hj => ?_)).trans (KeepsOthers.setCell _ _ _)
    obtain ⟨_, cs, hcs⟩ := R46_typed h.out e
    rw [hcs] at hj
    cases hj
    rfl
  · obtain ⟨A1, c1, h1⟩ := Kd.R_slice ho
    exact ⟨A1, c1, by rw [h1, List.length_map]⟩
/-- What Get hands back. -/
def GetP (w : World) (b : List Int) (e : Ending) (w' : World) : Prop :=
  Below w.heap.size w w' ∧ ((par b).2 = true → ∃ vo, e = .returned (.tuple #[vo, .int .i64 0]) ∧ Kd.R PRaw.k46 46 w' w.heap.size (fun _ => True) vo ((par b).1.map fun x => s46 x.1)) ∧ ((par b).2 = false → e = .returned (.tuple #[.slice none 0 0, .int .i64 8]))
theorem Get_c {w : World} {A : Option Addr} {c : Nat} {b : List Int} (hr : Kd.C (Kd.int .u8) w A b.length b) (hc : b.length ≤ c) (hap : ∀ ad, A = some ad → 0 < b.length → ad.block < w.heap.size) (hb : ∀ x ∈ b, 0 ≤ x ∧ x ≤ 255) (hbl : b.length ≤ 1000000000) :
    Calls Try.prog 27 #[.slice A b.length c] w (GetP w b) := by
  have HF := Aside0.mk (From_c hr hc hap)
  have HBY := Aside0.mk hb
  have HBL := Aside0.mk hbl
  have fe1 : Fence.wide.fn 11 := trivial
  have fe2 : Fence.wide.fn 55 := trivial
  have fe3 : Fence.wide.fn 20 := trivial
  clear hr hc hap hb hbl
  refine (callsIn_wide (n := 9)).1 ?_
  refine callsIn_of_wp_marks Try.func27 rfl trivial ?_ rfl
  simp only [Try.ntmps27, List.size_toArray, List.length_cons, List.length_nil, Nat.reduceAdd, Nat.reduceSub, Array.replicate_succ, Array.replicate_zero, List.push_toArray, List.append_toArray, List.nil_append, List.cons_append]
  gi_wp2_with (first
    | (gi_at_call 11; refine (callsIn_wide.2 HF.out).mono ?_; rintro e w1 ⟨rfl, h1, b1⟩; have H1 := Aside0.mk h1; have B1 := Aside0.mk b1; clear h1 b1)
    | (gi_at_call 55; refine (callsIn_wide.2 (each_c _ _)).mono ?_; rintro e w2 ⟨rfl, b2, x2⟩; have B2 := Aside0.mk b2; have X2 := Aside0.mk x2; clear b2 x2))
  have J2 : GJ w w2 (w.heap.size + 1) (w1.heap.size + 1) w1.heap.size A c b [] 0 (.slice (some ⟨w.heap.size, 0, none⟩) 1 1) (.slice none 0 0) [(b.length : Int)] := by
    have hx := X2.out
    rw [World.size_alloc] at hx
    have hsz := B1.out.size
    have hb2 := B2.out
    exact ⟨(H1.out.below (below_alloc (Below.refl _ _) _)).below hb2, hx, blk_below (blk_new _ _) hb2, Kd.R_nil _ _ _ _ _, (B1.out.alloc hsz _).trans (hb2.mono (szA hsz _)), by omega, by omega, Nat.le_trans (szA hsz _) hb2.size⟩
  have HJ2 := Aside0.mk J2
  clear J2
  refine range_on (gf := 75) (lb := #[.pointer (some ⟨w1.heap.size + 1, 0, none⟩)]) rfl (enters_of Try.func75 (by kernel_rfl) rfl)
    (each_on (w0 := w) (g := w.heap.size + 1) (cb := w1.heap.size + 1) (ob := w1.heap.size) (A := A) (c := c) (b := b) 8 (by omega) HBY.out (Nat.le_trans HBL.out (by decide))) (fun _ => rfl)
    (firmR HJ2.out.hle) (firmF HJ2.out.hle) (firmY HJ2.out.hle) (firmZ HJ2.out.hle) ⟨_, _, HJ2.out⟩
    (fun x a₁ W => ∃ xb, W.heap[xb]? = some (.cells #[.int .i64 x.2.1, .int .i64 x.2.2.1, .int .u64 x.2.2.2.1, .string (strOfNums x.2.2.2.2)] 46 (0, 0)) ∧ w.heap.size ≤ xb ∧ a₁ = { tmps := #[.slice A b.length c, undef, .slice none 0 0, .int .i64 0, .pointer (some ⟨w.heap.size + 1, 0, none⟩), .pointer (some ⟨w1.heap.size, 0, none⟩), undef, .pointer (some ⟨xb, 0, none⟩), .slice A b.length c, .pointer (some ⟨w.heap.size + 1, 0, none⟩), .pointer (some ⟨w.heap.size + 1, 0, none⟩), .func (.func 75) #[] #[.pointer (some ⟨w1.heap.size + 1, 0, none⟩)], .int .i64 x.1, .agg #[.int .i64 x.2.1, .int .i64 x.2.2.1, .int .u64 x.2.2.2.1, .string (strOfNums x.2.2.2.2)], undef, undef, undef, undef, undef, undef, undef, undef], defers := [] })
    ?hAx ?assign ?body ?done
  case hAx =>
    intro x a₁
    exact ⟨fun W l o o' ⟨xb, h1, h2, h3⟩ hl hk ho => ⟨xb, (CK.putObj o' hk ho).2 _ _ _ _ h1, h2, h3⟩, fun W o ⟨xb, h1, h2, h3⟩ => ⟨xb, blk_alloc h1 _, h2, h3⟩⟩
  case assign =>
    intro l s x W K hy hK
    obtain ⟨xi, xn, xw, xv, xt⟩ := x
    dsimp only [encF, fdV]
    gi_wp2
    obtain ⟨n1, v1, vo1, hp1, h1⟩ := hy
    exact hK _ _ (KeepsOthers.alloc _ _) ⟨n1, v1, vo1, hp1, h1.alloc _⟩ ⟨W.heap.size, blk_new _ _, h1.hle, rfl⟩
  case body =>
    rintro l s x a₁ W ⟨n1, v1, vo1, hp1, h1⟩ ⟨xb, hxb, hle, rfl⟩
    obtain ⟨xi, xn, xw, xv, xt⟩ := x
    obtain ⟨s, sp⟩ := s
    have HP1 := Aside0.mk hp1
    have H1' := Aside0.mk h1
    have hcb : W.cell? ⟨w1.heap.size, 0, none⟩ = some vo1 := (blk_cell h1.obx 0).trans rfl
    obtain ⟨⟨xc0, xc1, xc2, xc3⟩, xf0, xf1, xf2, xf3⟩ := blk4 hxb
    clear hp1 h1 hxb
    dsimp only at HP1 H1' xc0 xc1 xc2 xc3 ⊢
    have hlen : s.length ≤ 1000000000 := by have h2 := HP1.out.2.2.2.2.2.2.1; have h3 := HP1.out.2.2.1; have h4 := HBL.out; omega
    have HLEN := Aside0.mk hlen
    clear hlen
    gi_wp2_with (first
      | (gi_at_builtin
         refine R_appendIn PRaw.k46 (w0 := w) w.heap.size rfl (.tmp 14) (.tmp 16) 38 46 (.agg #[.int .i64 0, .int .i64 0, .int .u64 0, .string ⟨#[]⟩]) 40 rfl Try.underlying38 info46 rfl (by decide) (by decide) vo1 (s.map fun x => s46 x.1) (s46 (xn, xw, xv, xt)) [.int .i64 xn, .int .i64 xw, .int .u64 xv, .string (strOfNums xt)] (fun _ => True) (fun k => some k ≠ vo1.ownBlock) rfl rfl ?aM ?aK ?aF H1'.out.out H1'.out.bel H1'.out.hle ?aL ?_
         (case aM => exact PRaw.k46_mkM _ _ _ (s46 (xn, xw, xv, xt)))
         (case aK => exact fun k hk => ⟨trivial, hk⟩)
         (case aF => exact fun k hk => trivial)
         (case aL => have := HLEN.out; rw [List.length_map]; omega)
         intro vo' W3 ho hb3 hg3
         have ho' : Kd.R PRaw.k46 46 W3 w.heap.size (fun _ => True) vo' ((s ++ [((xn, xw, xv, xt), n1)]).map fun x => s46 x.1) := by rw [List.map_append]; exact ho
         obtain ⟨j3, k3, A1, c1, hv3⟩ := H1'.out.appended ho' hb3 hg3
         subst hv3
         have hf3 := blk_frozen j3.obx 0
         rw [World.frozen?_setCell] at hf3
         have hc3 : ∃ u, W3.cell? ⟨w1.heap.size, 0, none⟩ = some u := by
           have := blk_grown H1'.out.obx hg3 (fun e => by obtain ⟨_, cs, hcs⟩ := R46_typed H1'.out.out e.symm; rw [H1'.out.obx] at hcs; cases hcs)
           exact ⟨_, (blk_cell this 0).trans rfl⟩
         obtain ⟨u3, hc3⟩ := hc3
         rw [List.length_append, List.length_singleton] at j3 k3
         have J3 := Aside0.mk j3
         have K3 := Aside0.mk k3
         clear j3 k3 ho ho' hb3 hg3))
    exact ⟨K3.out, n1, v1, _, HP1.out, J3.out⟩
  case done =>
    rintro D W hD ⟨l, p, v, vo, en, hpar, hj⟩ hK
    have HJ := Aside0.mk hj
    have HPAR := Aside0.mk hpar
    have HK := Aside0.mk hK
    have HD := Aside0.mk hD
    have hcb : W.cell? ⟨w1.heap.size, 0, none⟩ = some vo := (blk_cell hj.obx 0).trans rfl
    by_cases hn : 0 < en.length
    · have HN := Aside0.mk hn
      clear hj hpar hK hD hn
      gi_wp2_with (first
        | (gi_at_call 20; refine (callsIn_wide.2 (ok_yes HJ.out.cur HN.out)).mono ?_; rintro e w4 ⟨rfl, hd4⟩
           have j4 := HJ.out.drawn hd4
           have hcb4 : w4.cell? ⟨w1.heap.size, 0, none⟩ = some vo := (blk_cell j4.obx 0).trans rfl
           have hK4 : w4.heap[D]? = some (.deferred (some [])) := by obtain ⟨m4, rfl⟩ := hd4; exact HK.out
           have K4 := Aside0.mk hK4
           have J4 := Aside0.mk j4; clear j4 hd4 hK4))
      refine ⟨by simp, .inl ⟨_, _, rfl, run_takeDeferred K4.out, ?_⟩⟩
      have jf := J4.out.putObj (.deferred none) (Nat.le_trans HJ2.out.hle HD.out) K4.out rfl
      refine ⟨_, results_tmp2 rfl _ _ _, jf.bel, fun _ => ⟨vo, rfl, ?_⟩, fun h => ?_⟩
      · rw [HPAR.out]; exact jf.out
      · rw [HPAR.out] at h; simp only [decide_eq_false_iff_not] at h; exact absurd HN.out h
    · have HN := Aside0.mk (show en.length = 0 by omega)
      clear hj hpar hK hD hn
      gi_wp2_with (first
        | (gi_at_call 20; refine (callsIn_wide.2 (ok_no HJ.out.cur HN.out)).mono ?_; rintro e w4 ⟨rfl, hd4⟩
           have j4 := HJ.out.drawn hd4
           have hcb4 : w4.cell? ⟨w1.heap.size, 0, none⟩ = some vo := (blk_cell j4.obx 0).trans rfl
           have hK4 : w4.heap[D]? = some (.deferred (some [])) := by obtain ⟨m4, rfl⟩ := hd4; exact HK.out
           have K4 := Aside0.mk hK4
           have J4 := Aside0.mk j4; clear j4 hd4 hK4))
      refine ⟨by simp, .inl ⟨_, _, rfl, run_takeDeferred K4.out, ?_⟩⟩
      have jf := J4.out.putObj (.deferred none) (Nat.le_trans HJ2.out.hle HD.out) K4.out rfl
      refine ⟨_, results_tmp2 rfl _ _ _, jf.bel, fun h => ?_, fun _ => rfl⟩
      rw [HPAR.out] at h; simp only [decide_eq_true_eq] at h; exact absurd h (by have := HN.out; omega)
end Go.Proofs.Ytfbmabhdjliohaa.Cur
namespace Go.Proofs.Ytfbmabhdjliohaa.Cur
open Go.RowKit Go.Proofs.Ytfbmabhdjliohaa.Rng Go.Proofs.YtfbmabhdjliohaaW.PrintWords Go.Proofs.YtfbmabhdjliohaaW.PrintLast Go.Proofs.YtfbmabhdjliohaaW.PrintMore Go.Proofs.Ytfbmabhdjliohaa.Var
set_option maxHeartbeats 1000000
set_option maxRecDepth 100000
set_option linter.unusedSimpArgs false
set_option linter.unusedVariables false
/-- How many bytes fields have. -/
def siz : List (Fd × Nat) → Nat
  | [] => 0
  | x :: l => x.2 + siz l
/-- Where each field begins. -/
def offs : Nat → List (Fd × Nat) → List Int
  | _, [] => []
  | p, x :: l => (p : Int) :: offs (p + x.2) l
theorem siz_snoc : ∀ (l : List (Fd × Nat)) (x : Fd × Nat), siz (l ++ [x]) = siz l + x.2
  | [], x => by simp [siz]
  | y :: l, x => by simp only [List.cons_append, siz, siz_snoc l x]; omega
theorem offs_snoc : ∀ (l : List (Fd × Nat)) (p : Nat) (x : Fd × Nat), offs p (l ++ [x]) = offs p l ++ [((p + siz l : Nat) : Int)]
  | [], p, x => by simp [siz, offs]
  | y :: l, p, x => by simp only [List.cons_append, siz, offs, offs_snoc l]; rw [Nat.add_assoc]
theorem offs_length : ∀ (l : List (Fd × Nat)) (p : Nat), (offs p l).length = l.length
  | [], _ => rfl
  | x :: l, p => by simp only [offs, List.length_cons, offs_length l]
/-- The reference's cursor, and what is collected. -/
structure RJ (w0 W : World) (g : Nat) (A : Option Addr) (c : Nat) (b : List Int) (l : List (Fd × Nat)) (p : Int) (v vo va : Value) (ends : List Int) : Prop where
  cur : IsM W w0.heap.size g A c b p v ends
  out : Kd.R PRaw.k46 46 W w0.heap.size (fun _ => True) vo (l.map fun x => s46 x.1)
  ats : Kd.R (Kd.int .i64) 3 W w0.heap.size (fun k => k ≠ g) va (offs 0 l)
  ne : ∀ k, va.ownBlock = some k → v.ownBlock ≠ some k
  bel : Below w0.heap.size w0 W
  hle : w0.heap.size ≤ W.heap.size
theorem Rint_move {W W' : World} {base : Nat} {ok : Nat → Prop} {v : Value} {xs : List Int} (h : Kd.R (Kd.int .i64) 3 W base ok v xs) (hm : ∀ k, v.ownBlock = some k → W'.heap[k]? = W.heap[k]?) : Kd.R (Kd.int .i64) 3 W' base ok v xs := by
  obtain ⟨h0, inner, ho, hr⟩ := h
  exact ⟨h0, inner, own_move ho hm, hr.imp_ (fun _ _ hp => hp)⟩
theorem Rint_typed {W : World} {base k : Nat} {ok : Nat → Prop} {v : Value} {xs : List Int} (h : Kd.R (Kd.int .i64) 3 W base ok v xs) (hk : v.ownBlock = some k) : base ≤ k ∧ ∃ cs, W.heap[k]? = some (.cells cs 3 (0, 0)) := by
  obtain ⟨h0, inner, ho, hr⟩ := h
  rcases ho.2 with ⟨rfl, _⟩ | ⟨g, cap, cur, rfl, hb, hh, _⟩
  · simp [Value.ownBlock] at hk
  · have : g = k := by simpa [Value.ownBlock] using hk
    subst this
    exact ⟨hb, cur, hh⟩
section
variable {w0 W W' : World} {g : Nat} {A : Option Addr} {c : Nat} {b : List Int} {l : List (Fd × Nat)} {p p' : Int} {v vo va : Value} {ends ends' : List Int}
theorem M_typed_ne {B k t : Nat} {cells : Array Value} (h : IsM W B g A c b p v ends) (hb : W.heap[k]? = some (.cells cells t (0, 0))) (h1 : t ≠ 65) (h2 : t ≠ 3) : k ≠ g ∧ v.ownBlock ≠ some k := by
  refine ⟨fun e => ?_, fun e => ?_⟩
  · subst e; rw [h.blk] at hb; cases hb; exact h1 rfl
  · exact typed_ne h.row hb h2 e rfl
theorem RJ.moved (h : RJ w0 W g A c b l p v vo va ends) (hm : MovedM W w0.heap.size g A c b v p' ends' W') : ∃ v', RJ w0 W' g A c b l p' v' vo va ends' := by
  obtain ⟨v', h', f⟩ := hm
  refine ⟨v', h', R46_move h.out (fun k hk => ?_), Rint_move h.ats (fun k hk => ?_), fun k hk => ?_, h.bel.trans (f.below h.hle h.cur.ge (fun k hk => (own_bounds h.cur.row hk).1)), Nat.le_trans h.hle f.1.1⟩
  · obtain ⟨_, cs, hcs⟩ := R46_typed h.out hk
    have n3 := M_typed_ne h.cur hcs (by decide) (by decide)
    rw [hcs]
    exact f.blk hcs n3.1 n3.2
  · obtain ⟨_, cs, hcs⟩ := Rint_typed h.ats hk
    rw [hcs]
    exact f.blk hcs (h.ats.1 k hk) (h.ne k hk)
  · obtain ⟨_, cs, hcs⟩ := Rint_typed h.ats hk
    exact f.ne (h.ne k hk) (blk_lt hcs)
theorem RJ.drawn (h : RJ w0 W g A c b l p v vo va ends) (hd : Drawn0 W W') : RJ w0 W' g A c b l p v vo va ends := by
  obtain ⟨n, rfl⟩ := hd
  exact ⟨h.cur.drewN n, R46_move h.out (fun _ _ => rfl), Rint_move h.ats (fun _ _ => rfl), h.ne, pw_below_drewN h.bel n, h.hle⟩
theorem RJ.alloc (h : RJ w0 W g A c b l p v vo va ends) (o : Obj) : RJ w0 (W.alloc o) g A c b l p v vo va ends :=
  ⟨h.cur.below (below_alloc (Below.refl _ _) _), Kd.R_alloc h.out _, Kd.R_alloc h.ats _, h.ne, h.bel.alloc h.hle _, szA h.hle _⟩
theorem IsM.move {B : Nat} (h : IsM W B g A c b p v ends) (h1 : W'.heap[g]? = W.heap[g]?) (h2 : ∀ k, v.ownBlock = some k → W'.heap[k]? = W.heap[k]?) (h3 : ∀ k, k < B → W'.heap[k]? = W.heap[k]?) : IsM W' B g A c b p v ends := by
  refine ⟨h1.trans h.blk, ?_, C_move h.rd (fun ad ha hn => h3 _ (h.ap ad ha hn)), h.lc, h.ge, h.ap⟩
  obtain ⟨h0, inner, ho, hr⟩ := h.row
  exact ⟨h0, inner, own_move ho h2, hr.imp_ (fun _ _ hp => hp)⟩
/-- Behind the first append. -/
structure RK (w0 W : World) (g : Nat) (A : Option Addr) (c : Nat) (b : List Int) (l l' : List (Fd × Nat)) (p : Int) (v vo va : Value) (ends : List Int) : Prop where
  cur : IsM W w0.heap.size g A c b p v ends
  out : Kd.R PRaw.k46 46 W w0.heap.size (fun _ => True) vo (l'.map fun x => s46 x.1)
  ats : Kd.R (Kd.int .i64) 3 W w0.heap.size (fun k => k ≠ g) va (offs 0 l)
  ne : ∀ k, va.ownBlock = some k → v.ownBlock ≠ some k
  bel : Below w0.heap.size w0 W
  hle : w0.heap.size ≤ W.heap.size
theorem RJ.one (h : RJ w0 W g A c b l p v vo va ends) {l' : List (Fd × Nat)} {W3 : World} {vo' : Value} (ho : Kd.R PRaw.k46 46 W3 w0.heap.size (fun _ => True) vo' (l'.map fun x => s46 x.1)) (hb : Below w0.heap.size w0 W3) (hg : W.grownBy W3 vo.ownBlock) : RK w0 W3 g A c b l l' p v vo' va ends := by
  have ne : ∀ {k t : Nat} {cells : Array Value}, W.heap[k]? = some (.cells cells t (0, 0)) → t ≠ 46 → some k ≠ vo.ownBlock := by
    intro k t cells hk ht e
    obtain ⟨_, cs, hcs⟩ := R46_typed h.out e.symm
    rw [hcs] at hk
    cases hk
    exact ht rfl
  have mv : ∀ {k t : Nat} {cells : Array Value}, W.heap[k]? = some (.cells cells t (0, 0)) → t ≠ 46 → W3.heap[k]? = W.heap[k]? := fun hk h1 => hg.block _ (blk_lt hk) (ne hk h1)
  refine ⟨h.cur.move (mv h.cur.blk (by decide)) (fun k hk => ?_) (fun k hk => ?_), ho, Rint_move h.ats (fun k hk => ?_), h.ne, hb, Nat.le_trans h.hle hg.size⟩
  · obtain ⟨_, cs, hcs⟩ := Rint_typed h.cur.row hk
    exact mv hcs (by decide)
  · refine hg.block k (Nat.lt_of_lt_of_le hk h.hle) (fun e => ?_)
    have := (R46_typed h.out e.symm).1
    omega
  · obtain ⟨_, cs, hcs⟩ := Rint_typed h.ats hk
    exact mv hcs (by decide)
theorem RK.alloc {l' : List (Fd × Nat)} (h : RK w0 W g A c b l l' p v vo va ends) (o : Obj) : RK w0 (W.alloc o) g A c b l l' p v vo va ends :=
  ⟨h.cur.below (below_alloc (Below.refl _ _) _), Kd.R_alloc h.out _, Kd.R_alloc h.ats _, h.ne, h.bel.alloc h.hle _, szA h.hle _⟩
theorem RK.two {l' : List (Fd × Nat)} (h : RK w0 W g A c b l l' p v vo va ends) {W3 : World} {va' : Value} (ho : Kd.R (Kd.int .i64) 3 W3 w0.heap.size (fun k => k ≠ g) va' (offs 0 l')) (hb : Below w0.heap.size w0 W3) (hg : W.grownBy W3 va.ownBlock) (hat : va'.ownBlock = va.ownBlock ∨ ∃ k, va'.ownBlock = some k ∧ W.heap.size ≤ k) : RJ w0 W3 g A c b l' p v vo va' ends := by
  have ne : ∀ {k t : Nat} {cells : Array Value}, W.heap[k]? = some (.cells cells t (0, 0)) → t ≠ 3 → some k ≠ va.ownBlock := by
    intro k t cells hk ht e
    obtain ⟨_, cs, hcs⟩ := Rint_typed h.ats e.symm
    rw [hcs] at hk
    cases hk
    exact ht rfl
  have mv : ∀ {k t : Nat} {cells : Array Value}, W.heap[k]? = some (.cells cells t (0, 0)) → t ≠ 3 → W3.heap[k]? = W.heap[k]? := fun hk h1 => hg.block _ (blk_lt hk) (ne hk h1)
  refine ⟨h.cur.move (mv h.cur.blk (by decide)) (fun k hk => ?_) (fun k hk => ?_), R46_move h.out (fun k hk => ?_), ho, fun k hk hv => ?_, hb, Nat.le_trans h.hle hg.size⟩
  · obtain ⟨_, cs, hcs⟩ := Rint_typed h.cur.row hk
    exact hg.block k (blk_lt hcs) (fun e => h.ne k e.symm hk)
  · refine hg.block k (Nat.lt_of_lt_of_le hk h.hle) (fun e => ?_)
    have := (Rint_typed h.ats e.symm).1
    omega
  · obtain ⟨_, cs, hcs⟩ := R46_typed h.out hk
    exact mv hcs (by decide)
  · rcases hat with hat | ⟨k2, hat, hle⟩
    · exact h.ne k (hat ▸ hk) hv
    · rw [hat] at hk
      injection hk with hk
      have := (own_bounds h.cur.row hv).2
      omega
end
/-- What the reference's Get hands back. -/
def RGetP (w : World) (b : List Int) (e : Ending) (w' : World) : Prop :=
  Below w.heap.size w w' ∧ ∃ vo va, e = .returned (.tuple #[vo, va, .bool (par b).2]) ∧ Kd.R PRaw.k46 46 w' w.heap.size (fun _ => True) vo ((par b).1.map fun x => s46 x.1) ∧ Kd.R (Kd.int .i64) 3 w' w.heap.size (fun _ => True) va (offs 0 (par b).1)
theorem RGet_c {w : World} {A : Option Addr} {c : Nat} {b : List Int} (hr : Kd.C (Kd.int .u8) w A b.length b) (hc : b.length ≤ c) (hap : ∀ ad, A = some ad → 0 < b.length → ad.block < w.heap.size) (hb : ∀ x ∈ b, 0 ≤ x ∧ x ≤ 255) (hbl : b.length ≤ 1000000000) :
    Calls Try.prog 24 #[.slice A b.length c] w (RGetP w b) := by
  have HF := Aside0.mk (From_m hr hc hap)
  have HBY := Aside0.mk hb
  have HBL := Aside0.mk hbl
  clear hr hc hap hb hbl
  go_enter Try.func24, Try.ntmps24
  go_wp2_with (first
    | (go_at_call 17; refine HF.out.mono ?_; rintro e w1 ⟨rfl, h1, b1⟩; have H1 := Aside0.mk h1; have B1 := Aside0.mk b1; clear h1 b1))
  have J2 : RJ w ((w1.alloc (.cells #[] 46)).alloc (.cells #[] 3)) (w.heap.size + 1) A c b [] 0 (.slice (some ⟨w.heap.size, 0, none⟩) 1 1) (.slice (some ⟨w1.heap.size, 0, none⟩) 0 0) (.slice (some ⟨w1.heap.size + 1, 0, none⟩) 0 0) [(b.length : Int)] := by
    have hsz := B1.out.size
    have hs1 : (w1.alloc (.cells #[] 46)).heap.size = w1.heap.size + 1 := World.size_alloc _ _
    have hx := blk_new (w1.alloc (.cells #[] 46)) (.cells #[] 3)
    rw [hs1] at hx
    have hg1 := blk_lt H1.out.blk
    have hv1 := (own_bounds H1.out.row (k := w.heap.size) rfl).2
    refine ⟨(H1.out.below (below_alloc (Below.refl _ _) _)).below (below_alloc (Below.refl _ _) _), ⟨fun _ _ => trivial, [], ⟨rfl, .inr ⟨w1.heap.size, 0, #[], rfl, hsz, blk_alloc (blk_new _ _) _, Nat.le_refl _, by decide, rfl, rfl⟩⟩, Reps.none _ _⟩,
      ⟨fun k hk => ?_, [], ⟨rfl, .inr ⟨w1.heap.size + 1, 0, #[], rfl, by omega, hx, Nat.le_refl _, by decide, rfl, rfl⟩⟩, Reps.none _ _⟩, fun k hk he => ?_, (B1.out.alloc hsz _).alloc (szA hsz _) _, szA (szA hsz _) _⟩
    · have : w1.heap.size + 1 = k := by simpa [Value.ownBlock] using hk
      omega
    · have h1 : w1.heap.size + 1 = k := by simpa [Value.ownBlock] using hk
      have h2 : w.heap.size = k := by simpa [Value.ownBlock] using he
      omega
  have HJ2 := Aside0.mk J2
  clear J2
  go_loopg [6, 7] (b.length + 1) (fun kq v6 v7 wr => ∃ (l : List (Fd × Nat)) (p : Nat) (v vo va : Value), vo = v6 ∧ va = v7 ∧ Aside0 (kq + p = b.length + 1 ∧ Way b l p ∧ p = siz l ∧ RJ w wr (w.heap.size + 1) A c b l p v vo va [(b.length : Int)]))
  case atStart => exact ⟨[], 0, _, _, _, rfl, rfl, ⟨by omega, Way.start b, rfl, HJ2.out⟩⟩
  case round =>
    obtain ⟨l, p, v, vo, va, rfl, rfl, HG⟩ := hrel
    obtain ⟨hg0, hway, hsz, HJ⟩ := HG.out
    have HW := Aside0.mk hway
    have HJ' := Aside0.mk HJ
    have HG0 := Aside0.mk hg0
    have HSZ := Aside0.mk hsz
    by_cases hp : p < b.length
    · have hm : moreB (p : Int) [(b.length : Int)] = true := by rw [more_one, decide_eq_true (by omega)]
      have HM := Aside0.mk (fun (W : World) (h : RJ w W (w.heap.size + 1) A c b l p v vo va [(b.length : Int)]) => More_m h.cur)
      rw [hm] at HM
      have hnx := nxt_one (b := b) (p := (p : Int)) (by omega) (by omega) HBY.out
      rw [Int.toNat_natCast] at hnx
      have HN := Aside0.mk (fun (W : World) (h : RJ w W (w.heap.size + 1) A c b l p v vo va [(b.length : Int)]) => one_c h.cur (inv_one (by omega) (by omega)) h.hle HBY.out (Nat.le_trans HBL.out (by decide)))
      have HP := Aside0.mk hp
      have hlen : l.length ≤ 1000000000 := by have := hway.2.1; have := HBL.out; omega
      have HLEN := Aside0.mk hlen
      rcases h1 : oneD (b.drop p) with _ | ⟨x, s⟩
      · have h2 := hnx.1 h1
        obtain ⟨T, hT⟩ : ∃ T, T = nxt b p [(b.length : Int)] := ⟨_, rfl⟩
        rw [← hT] at HN h2
        obtain ⟨x, q, en⟩ := T
        simp only at HN h2
        injection h2 with h2 h3
        subst h2 h3
        have H1 := Aside0.mk h1
        clear hg0 hway HJ HG hp hm hnx hT h1 hsz hlen
        go_wp2_with (first
          | (go_at_call 49; refine (HM.out _ HJ'.out).mono ?_; rintro e w3 ⟨rfl, hd3⟩
             have j3 := HJ'.out.drawn hd3; have hc1 : w3.cell? ⟨w.heap.size + 1, 1, none⟩ = some (.int .i64 (p : Int)) := (blk_cell j3.cur.blk 1).trans rfl
             have J3 := Aside0.mk j3; clear j3 hd3)
          | (go_at_call 53; refine (HN.out _ J3.out).mono ?_; rintro e w4 ⟨rfl, hm4⟩
             obtain ⟨v4, j4⟩ := J3.out.moved hm4
             have hc4 := (j4.alloc (.cells #[.int .i64 x.1, .int .i64 x.2.1, .int .u64 x.2.2.1, .string (strOfNums x.2.2.2)] 46)).cur.bad rfl
             have J4 := Aside0.mk (j4.alloc (.cells #[.int .i64 x.1, .int .i64 x.2.1, .int .u64 x.2.2.1, .string (strOfNums x.2.2.2)] 46)); clear j4 hm4; unfold fdV))
        go_ret3
        have hf := HW.out.fail HP.out H1.out
        have hj := J4.out
        exact ⟨hj.bel, vo, va, by rw [hf]; rfl, by rw [hf]; exact hj.out, by rw [hf]; exact Kd.R_mono hj.ats (fun _ _ => trivial)⟩
      · obtain ⟨hs1, h2, hs2⟩ := hnx.2 x s h1
        rw [h2] at HN
        simp only at HN
        have e1 : ((p : Int) + (s : Int)) = ((p + s : Nat) : Int) := (Int.natCast_add p s).symm
        rw [e1] at HN
        have HS := Aside0.mk (show 1 ≤ s ∧ p + s ≤ b.length by omega)
        have H1 := Aside0.mk h1
        clear hg0 hway HJ HG hp hm hnx h1 h2 hs1 hs2 e1 hsz hlen
        go_wp2_with (first
          | (go_at_call 49; refine (HM.out _ HJ'.out).mono ?_; rintro e w3 ⟨rfl, hd3⟩
             have j3 := HJ'.out.drawn hd3; have hc1 : w3.cell? ⟨w.heap.size + 1, 1, none⟩ = some (.int .i64 (p : Int)) := (blk_cell j3.cur.blk 1).trans rfl
             have J3 := Aside0.mk j3; clear j3 hd3)
          | (go_at_call 53; refine (HN.out _ J3.out).mono ?_; rintro e w4 ⟨rfl, hm4⟩
             obtain ⟨v4, j4⟩ := J3.out.moved hm4
             have hc4 := (j4.alloc (.cells #[.int .i64 x.1, .int .i64 x.2.1, .int .u64 x.2.2.1, .string (strOfNums x.2.2.2)] 46)).cur.good (by simp)
             have J4 := Aside0.mk (j4.alloc (.cells #[.int .i64 x.1, .int .i64 x.2.1, .int .u64 x.2.2.1, .string (strOfNums x.2.2.2)] 46)); clear j4 hm4; unfold fdV)
          | ((with_reducible refine gate_builtin (b := .append) (xs := #[.tmp 28, .tmp 30]) rfl ?_); at_builtin
             refine Kd.R_append PRaw.k46 (w0 := w) w.heap.size rfl (.tmp 28) (.tmp 30) 38 46 (.agg #[.int .i64 0, .int .i64 0, .int .u64 0, .string ⟨#[]⟩]) 40 rfl Try.underlying38 info46 rfl (by decide) (by decide) vo (l.map fun x => s46 x.1) (s46 x) [.int .i64 x.1, .int .i64 x.2.1, .int .u64 x.2.2.1, .string (strOfNums x.2.2.2)] (fun _ => True) (fun k => some k ≠ vo.ownBlock) rfl ?aX ?aM ?aK ?aF J4.out.out J4.out.bel J4.out.hle ?aL ?_
             (case aX => rw [World.size_alloc]; rfl)
             (case aM => exact PRaw.k46_mkM _ _ _ (s46 x))
             (case aK => exact fun k hk => ⟨trivial, hk⟩)
             (case aF => exact fun k hk => trivial)
             (case aL => have := HLEN.out; rw [List.length_map]; omega)
             intro vo' w5 ho5 hb5 hg5 hat5
             have ho5' : Kd.R PRaw.k46 46 w5 w.heap.size (fun _ => True) vo' ((l ++ [(x, s)]).map fun x => s46 x.1) := by rw [List.map_append]; exact ho5
             have K5 := Aside0.mk (J4.out.one (l' := l ++ [(x, s)]) ho5' hb5 hg5)
             clear ho5 ho5' hb5 hg5 hat5)
          | ((with_reducible refine gate_builtin (b := .append) (xs := #[.tmp 32, .tmp 34]) rfl ?_); at_builtin
             refine Kd.R_append (Kd.int .i64) (w0 := w) w.heap.size rfl (.tmp 32) (.tmp 34) 39 3 (.int .i64 0) 8 rfl Try.underlying39 info3 rfl (by decide) (by decide) va (offs 0 l) (p : Int) [.int .i64 (p : Int)] (fun k => k ≠ w.heap.size + 1) (fun k => k ≠ w.heap.size + 1 ∧ some k ≠ va.ownBlock) rfl rfl ?bM ?bK ?bF K5.out.ats K5.out.bel K5.out.hle ?bL ?_
             (case bM => exact rfl)
             (case bK => exact fun k hk => hk)
             (case bF => have := blk_lt K5.out.cur.blk; exact fun k hk => by omega)
             (case bL => have := HLEN.out; rw [offs_length]; omega)
             intro va' w6 ho6 hb6 hg6 hat6
             have ho6' : Kd.R (Kd.int .i64) 3 w6 w.heap.size (fun k => k ≠ w.heap.size + 1) va' (offs 0 (l ++ [(x, s)])) := by rw [offs_snoc, Nat.zero_add, ← HSZ.out]; exact ho6
             have J6 := Aside0.mk (K5.out.two ho6' hb6 hg6 hat6)
             clear ho6 ho6' hb6 hg6 hat6))
        go_roundg (gk - s)
        case measure => have := HG0.out; have := HP.out; have := HS.out; omega
        case rel => exact ⟨l ++ [(x, s)], p + s, _, _, _, rfl, rfl, ⟨by have := HG0.out; have := HP.out; have := HS.out; omega, HW.out.step HP.out H1.out HS.out.1 HS.out.2, by rw [siz_snoc, ← HSZ.out], J6.out⟩⟩
    · have hm : moreB (p : Int) [(b.length : Int)] = false := by rw [more_one, decide_eq_false (by omega)]
      have HM := Aside0.mk (fun (W : World) (h : RJ w W (w.heap.size + 1) A c b l p v vo va [(b.length : Int)]) => More_m h.cur)
      rw [hm] at HM
      have HP := Aside0.mk (show b.length ≤ p by omega)
      clear hg0 hway HJ HG hp hm hsz
      go_wp2_with (first
        | (go_at_call 49; refine (HM.out _ HJ'.out).mono ?_; rintro e w3 ⟨rfl, hd3⟩
           have j3 := HJ'.out.drawn hd3
           have J3 := Aside0.mk j3; clear j3 hd3))
      go_ret3
      have hf := HW.out.done HP.out
      have hj := J3.out
      exact ⟨hj.bel, vo, va, by rw [hf]; rfl, by rw [hf]; exact hj.out, by rw [hf]; exact Kd.R_mono hj.ats (fun _ _ => trivial)⟩
end Go.Proofs.Ytfbmabhdjliohaa.Cur

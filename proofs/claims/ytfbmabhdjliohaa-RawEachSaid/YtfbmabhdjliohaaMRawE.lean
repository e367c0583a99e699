/- RawEach's own closure, and what it is called by; conditions stand at each. -/
import Derived.Test.YtfbmabhdjliohaaMRawR
namespace Go.Proofs.Ytfbmabhdjliohaa.Cur
open Go.RowKit Go.Proofs.Ytfbmabhdjliohaa.Rng Go.Proofs.YtfbmabhdjliohaaW.PrintWords Go.Proofs.YtfbmabhdjliohaaW.PrintLast Go.Proofs.YtfbmabhdjliohaaW.PrintMore Go.Proofs.Ytfbmabhdjliohaa.Var
set_option maxHeartbeats 1000000
set_option maxRecDepth 100000
set_option linter.unusedSimpArgs false
set_option linter.unusedVariables false
attribute [local go_sem high] PRaw.eqA46
/-- The law's boxes: good, how many came, the fields, their places, how many are asked for. -/
structure EB (W : World) (L gb nb mb ab sb : Nat) (k : Nat) (most : Int) (vm va : Value) (ms : List PRaw.S46) (az : List Int) : Prop where
  hg : W.heap[gb]? = some (.cells #[.bool true] 4 (0, 0))
  hn : W.heap[nb]? = some (.cells #[.int .i64 (k : Int)] 3 (0, 0))
  hm : W.heap[mb]? = some (.cells #[vm] 38 (0, 0))
  ha : W.heap[ab]? = some (.cells #[va] 39 (0, 0))
  hs : W.heap[sb]? = some (.cells #[.int .i64 most] 3 (0, 0))
  ns : nb ≠ sb
  rm : ∃ base, Kd.R PRaw.k46 46 W base (fun j => j < L) vm ms
  ra : ∃ base, Kd.R (Kd.int .i64) 3 W base (fun j => j < L) va az
  lg : L ≤ gb
  ln : L ≤ nb
theorem EB.alloc {W : World} {L gb nb mb ab sb k : Nat} {most : Int} {vm va : Value} {ms : List PRaw.S46} {az : List Int} (h : EB W L gb nb mb ab sb k most vm va ms az) (o : Obj) : EB (W.alloc o) L gb nb mb ab sb k most vm va ms az :=
  ⟨blk_alloc h.hg _, blk_alloc h.hn _, blk_alloc h.hm _, blk_alloc h.ha _, blk_alloc h.hs _, h.ns, h.rm.elim (fun b r => ⟨b, Kd.R_alloc r _⟩), h.ra.elim (fun b r => ⟨b, Kd.R_alloc r _⟩), h.lg, h.ln⟩
theorem EB.next {W : World} {L gb nb mb ab sb k : Nat} {most : Int} {vm va : Value} {ms : List PRaw.S46} {az : List Int} (h : EB W L gb nb mb ab sb k most vm va ms az) (k' : Nat) :
    EB ((W.setCell ⟨gb, 0, none⟩ (.bool true)).setCell ⟨nb, 0, none⟩ (.int .i64 (k' : Int))) L gb nb mb ab sb k' most vm va ms az := by
  have n1 : gb ≠ nb := blk_ne h.hg h.hn (by decide)
  have far : ∀ {j t : Nat} {cs : Array Value}, W.heap[j]? = some (.cells cs t (0, 0)) → j ≠ gb → j ≠ nb → ((W.setCell ⟨gb, 0, none⟩ (.bool true)).setCell ⟨nb, 0, none⟩ (.int .i64 (k' : Int))).heap[j]? = some (.cells cs t (0, 0)) := fun hj h1 h2 => blk_far (blk_far hj h1 _) h2 _
  obtain ⟨bm, rm⟩ := h.rm
  obtain ⟨ba, ra⟩ := h.ra
  have lg := h.lg
  have ln := h.ln
  refine ⟨blk_far (blk_put h.hg 0 _ rfl) n1 _, blk_put (blk_far h.hn (Ne.symm n1) _) 0 _ rfl, far h.hm (blk_ne h.hm h.hg (by decide)) (blk_ne h.hm h.hn (by decide)), far h.ha (blk_ne h.ha h.hg (by decide)) (blk_ne h.ha h.hn (by decide)), far h.hs (blk_ne h.hs h.hg (by decide)) (Ne.symm h.ns), h.ns, ⟨bm, R46_move rm (fun j hj => ?_)⟩, ⟨ba, Rint_move ra (fun j hj => ?_)⟩, lg, ln⟩
  · have h1 := rm.1 j hj
    have h2 : j ≠ gb := by omega
    have h3 : j ≠ nb := by omega
    exact (Below.heap_setCell _ ⟨nb, 0, none⟩ _ j h3).trans (Below.heap_setCell _ ⟨gb, 0, none⟩ _ j h2)
  · have h1 := ra.1 j hj
    have h2 : j ≠ gb := by omega
    have h3 : j ≠ nb := by omega
    exact (Below.heap_setCell _ ⟨nb, 0, none⟩ _ j h3).trans (Below.heap_setCell _ ⟨gb, 0, none⟩ _ j h2)
/-- The closure: the next field, at its place. -/
theorem EB.clos {W : World} {L gb nb mb ab sb k : Nat} {most : Int} {vm va : Value} {ms : List PRaw.S46} {az : List Int} (h : EB W L gb nb mb ab sb k most vm va ms az) (i : Int) (x : PRaw.S46) (hk : k < ms.length) (hka : k < az.length) (hx : PRaw.rd_T46 ms (k : Int) = x) (hi : rd az (k : Int) = i) (hml : k < 1000000000) :
    Calls Try.prog 26 #[.int .i64 i, .agg #[.int .i64 x.f0, .int .i64 x.f1, .int .u64 x.f2, .string x.f3], .pointer (some ⟨gb, 0, none⟩), .pointer (some ⟨nb, 0, none⟩), .pointer (some ⟨mb, 0, none⟩), .pointer (some ⟨ab, 0, none⟩), .pointer (some ⟨sb, 0, none⟩)] W fun e W' =>
      e = .returned (.bool ((k : Int) + 1 != most)) ∧ EB W' L gb nb mb ab sb (k + 1) most vm va ms az ∧ W.heap.size ≤ W'.heap.size ∧ (∀ j, j < W.heap.size → j ≠ gb → j ≠ nb → W'.heap[j]? = W.heap[j]?) ∧ (W'.os = W.os ∧ W'.tape = W.tape ∧ W'.output = W.output) := by
  obtain ⟨W1, hW1⟩ : ∃ W1, W1 = W.alloc (.cells #[.int .i64 x.f0, .int .i64 x.f1, .int .u64 x.f2, .string x.f3] 46) := ⟨_, rfl⟩
  have H0 := Aside0.mk h
  have h := h.alloc (.cells #[.int .i64 x.f0, .int .i64 x.f1, .int .u64 x.f2, .string x.f3] 46)
  have hxb := blk_new W (.cells #[.int .i64 x.f0, .int .i64 x.f1, .int .u64 x.f2, .string x.f3] 46)
  rw [← hW1] at h hxb
  have HW1 := Aside0.mk hW1
  obtain ⟨⟨x0, x1, x2, x3⟩, _⟩ := blk4 hxb
  obtain ⟨bm, rm⟩ := h.rm
  obtain ⟨ba, ra⟩ := h.ra
  obtain ⟨Am, cm, rfl⟩ := Kd.R_slice rm
  obtain ⟨Aa, ca, rfl⟩ := Kd.R_slice ra
  obtain ⟨ad, e1, m0, m1, m2, m3⟩ := PRaw.at_T46 (Kd.R_reads' rm).2.2 (k : Int) (by omega) (by omega)
  obtain ⟨ad2, e2, a0⟩ := Kd.at_int (Kd.R_reads' ra).2.2 (k : Int) (by omega) (by omega)
  subst e1 e2
  rw [hx] at m0 m1 m2 m3
  rw [hi] at a0
  rw [Int.toNat_natCast] at m0 m1 m2 m3 a0
  have hu46 := Try.underlying46
  have hg : W1.cell? ⟨gb, 0, none⟩ = some (.bool true) := (blk_cell h.hg 0).trans rfl
  have hn : W1.cell? ⟨nb, 0, none⟩ = some (.int .i64 (k : Int)) := (blk_cell h.hn 0).trans rfl
  have hm : W1.cell? ⟨mb, 0, none⟩ = some (.slice (some ad) ms.length cm) := (blk_cell h.hm 0).trans rfl
  have ha : W1.cell? ⟨ab, 0, none⟩ = some (.slice (some ad2) az.length ca) := (blk_cell h.ha 0).trans rfl
  have hs : W1.cell? ⟨sb, 0, none⟩ = some (.int .i64 most) := (blk_cell h.hs 0).trans rfl
  have fg := blk_frozen h.hg 0
  have fn := blk_frozen h.hn 0
  have c1 : (k : Int) < (ms.length : Int) := by omega
  have c2 : (k : Int) < (az.length : Int) := by omega
  have c1b : decide ((k : Int) < (ms.length : Int)) = true := decide_eq_true c1
  have c0 : (0 : Int) ≤ (k : Int) := by omega
  have hwi : IntKind.i64.wrap ((k : Int) + 1) = (k : Int) + 1 := by rw [IntKind.wrap_i64]; omega
  have H := Aside0.mk h
  have RM := Aside0.mk rm
  have RA := Aside0.mk ra
  clear h hxb rm ra hk hka hx hi hml
  go_enter Try.func26, Try.ntmps26
  go_wp2_with fail
  rw [← hW1]
  clear hW1
  go_still_tail 23, (by kernel_rfl)
  obtain ⟨W2, hW2⟩ : ∃ W2, W2 = W1.drew := ⟨_, rfl⟩
  have h2 : EB W2 L gb nb mb ab sb k most (.slice (some ad) ms.length cm) (.slice (some ad2) az.length ca) ms az := by
    have h1 := H.out
    subst hW2
    exact ⟨h1.hg, h1.hn, h1.hm, h1.ha, h1.hs, h1.ns, h1.rm.elim (fun b r => ⟨b, Kd.R_drew r⟩), h1.ra.elim (fun b r => ⟨b, Kd.R_drew r⟩), h1.lg, h1.ln⟩
  have hbW : Below W.heap.size W W2 := by rw [hW2, HW1.out]; exact below_drew (below_alloc (Below.refl _ _) _)
  change wpList _ _ _ _ _ W1.drew
  rw [← hW2]
  clear hW2 hg hn hs hm ha fg fn m0 m1 m2 m3 a0 x0 x1 x2 x3
  have hg : W2.cell? ⟨gb, 0, none⟩ = some (.bool true) := (blk_cell h2.hg 0).trans rfl
  have hn : W2.cell? ⟨nb, 0, none⟩ = some (.int .i64 (k : Int)) := (blk_cell h2.hn 0).trans rfl
  have hs : W2.cell? ⟨sb, 0, none⟩ = some (.int .i64 most) := (blk_cell h2.hs 0).trans rfl
  have fg := blk_frozen h2.hg 0
  have fn := blk_frozen h2.hn 0
  have e1 : gb ≠ nb := blk_ne h2.hg h2.hn (by decide)
  have e2 : gb ≠ sb := blk_ne h2.hg h2.hs (by decide)
  have e3 : nb ≠ sb := h2.ns
  have H2 := Aside0.mk h2
  have HB := Aside0.mk hbW
  clear h2 hbW
  go_wp2
  go_ret
  refine ⟨?_, H2.out.next (k + 1), ?_, ?_, ?_⟩
  · exact rfl
  · rw [World.size_setCell, World.size_setCell]; exact HB.out.size
  · intro j hj h1 h2
    exact (Below.heap_setCell _ ⟨nb, 0, none⟩ _ j h2).trans ((Below.heap_setCell _ ⟨gb, 0, none⟩ _ j h1).trans (HB.out.block j hj))
  · have h3 := ((Below.refl 0 W2).setCell (p := ⟨gb, 0, none⟩) (Nat.zero_le _) (.bool true)).setCell (p := ⟨nb, 0, none⟩) (Nat.zero_le _) (.int .i64 ((k + 1 : Nat) : Int))
    exact ⟨h3.os.trans HB.out.os, h3.tape.trans HB.out.tape, h3.output.trans HB.out.output⟩
theorem EB.below {W W' : World} {B L gb nb mb ab sb k : Nat} {most : Int} {vm va : Value} {ms : List PRaw.S46} {az : List Int} (h : EB W L gb nb mb ab sb k most vm va ms az) (hb : Below B W W') (hL : L ≤ B) (h1 : gb < B ∧ nb < B ∧ mb < B ∧ ab < B ∧ sb < B) : EB W' L gb nb mb ab sb k most vm va ms az := by
  obtain ⟨bm, rm⟩ := h.rm
  obtain ⟨ba, ra⟩ := h.ra
  refine ⟨(hb.block _ h1.1).trans h.hg, (hb.block _ h1.2.1).trans h.hn, (hb.block _ h1.2.2.1).trans h.hm, (hb.block _ h1.2.2.2.1).trans h.ha, (hb.block _ h1.2.2.2.2).trans h.hs, h.ns, ⟨bm, R46_move rm (fun j hj => hb.block _ (Nat.lt_of_lt_of_le (rm.1 j hj) hL))⟩, ⟨ba, Rint_move ra (fun j hj => hb.block _ (Nat.lt_of_lt_of_le (ra.1 j hj) hL))⟩, h.lg, h.ln⟩
/-- How many are asked for, of n. -/
def want (most : Int) (n : Nat) : Int := if 1 ≤ most ∧ most < n then most else n
/-- The cursor of the law's call, its box, and the law's boxes. -/
structure LJ (w0 W : World) (B g cb L gb nb mb ab sb : Nat) (A : Option Addr) (c : Nat) (b : List Int) (l : List (Fd × Nat)) (p : Int) (v : Value) (ends : List Int) (most : Int) (vm va : Value) : Prop where
  cur : IsC W B g A c b p v ends
  box : W.heap[cb]? = some (.cells #[.pointer (some ⟨g, 0, none⟩)] 27 (0, 0))
  eb : EB W L gb nb mb ab sb l.length most vm va ((par b).1.map fun x => s46 x.1) (offs 0 (par b).1)
  bel : Below w0.heap.size w0 W
  hB : B ≤ W.heap.size
  cbB : B ≤ cb
section
variable {w0 W W' : World} {B g cb L gb nb mb ab sb : Nat} {A : Option Addr} {c : Nat} {b : List Int} {l : List (Fd × Nat)} {p p' : Int} {v vm va : Value} {ends ends' : List Int} {most : Int}
/-- Which numbers of blocks the law has. -/
structure LN (w0 : World) (B L gb nb mb ab sb : Nat) (A : Option Addr) (b : List Int) : Prop where
  h1 : gb < B ∧ nb < B ∧ mb < B ∧ ab < B ∧ sb < B
  hL : L ≤ B
  h0 : w0.heap.size ≤ B
  hg : w0.heap.size ≤ gb ∧ w0.heap.size ≤ nb
  hA : ∀ ad, A = some ad → 0 < b.length → ad.block < w0.heap.size
theorem LJ.moved (h : LJ w0 W B g cb L gb nb mb ab sb A c b l p v ends most vm va) (n : LN w0 B L gb nb mb ab sb A b) (hm : Moved W B g A c b v p' ends' W') : ∃ v', LJ w0 W' B g cb L gb nb mb ab sb A c b l p' v' ends' most vm va := by
  obtain ⟨v', h', f⟩ := hm
  have n1 := C_typed_ne h.cur h.box (by decide) (by decide)
  have hb := f.below h.hB h.cur.ge (fun k hk => (own_bounds h.cur.row hk).1)
  exact ⟨v', h', f.blk h.box n1.1 n1.2, h.eb.below hb n.hL n.h1, h.bel.trans (hb.mono n.h0), Nat.le_trans h.hB hb.size, h.cbB⟩
theorem LJ.drawn (h : LJ w0 W B g cb L gb nb mb ab sb A c b l p v ends most vm va) (n : LN w0 B L gb nb mb ab sb A b) (hd : Drawn0 W W') : LJ w0 W' B g cb L gb nb mb ab sb A c b l p v ends most vm va := by
  obtain ⟨k, rfl⟩ := hd
  have hb : Below B W (W.drewN k) := pw_below_drewN (Below.refl _ _) k
  exact ⟨h.cur.drewN k, h.box, h.eb.below hb n.hL n.h1, h.bel.trans (hb.mono n.h0), h.hB, h.cbB⟩
theorem LJ.alloc (h : LJ w0 W B g cb L gb nb mb ab sb A c b l p v ends most vm va) (n : LN w0 B L gb nb mb ab sb A b) (o : Obj) : LJ w0 (W.alloc o) B g cb L gb nb mb ab sb A c b l p v ends most vm va := by
  have hb : Below B W (W.alloc o) := (Below.refl _ _).alloc h.hB o
  exact ⟨h.cur.below (below_alloc (Below.refl _ _) _), blk_alloc h.box _, h.eb.below hb n.hL n.h1, h.bel.trans (hb.mono n.h0), szA h.hB _, h.cbB⟩
/-- Behind the law's closure. -/
theorem LJ.called (h : LJ w0 W B g cb L gb nb mb ab sb A c b l p v ends most vm va) (n : LN w0 B L gb nb mb ab sb A b) (x : Fd × Nat)
    (he : EB W' L gb nb mb ab sb (l.length + 1) most vm va ((par b).1.map fun x => s46 x.1) (offs 0 (par b).1)) (hs : W.heap.size ≤ W'.heap.size) (hk : ∀ j, j < W.heap.size → j ≠ gb → j ≠ nb → W'.heap[j]? = W.heap[j]?)
    (ho : W'.os = W.os ∧ W'.tape = W.tape ∧ W'.output = W.output) : LJ w0 W' B g cb L gb nb mb ab sb A c b (l ++ [x]) p v ends most vm va := by
  have hg := n.h1
  have hg0 := n.hg
  have h0 := n.h0
  have hge := h.cur.ge
  have hcb := h.cbB
  refine ⟨?_, (hk cb (blk_lt h.box) (by omega) (by omega)).trans h.box, by rw [List.length_append, List.length_singleton]; exact he, h.bel.trans ⟨ho.1, ho.2.1, ho.2.2, hs, fun i hi => hk i (by have := h.hB; omega) (by omega) (by omega)⟩, Nat.le_trans h.hB hs, h.cbB⟩
  refine ⟨(hk g (blk_lt h.cur.blk) (by omega) (by omega)).trans h.cur.blk, ?_, C_move h.cur.rd (fun ad ha hn => ?_), h.cur.lc, h.cur.ge, h.cur.ap⟩
  · obtain ⟨h0', inner, how, hr⟩ := h.cur.row
    refine ⟨h0', inner, own_move how (fun j hj => ?_), hr.imp_ (fun _ _ hp => hp)⟩
    have := own_bounds h.cur.row hj
    exact hk j (by omega) (by omega) (by omega)
  · have := n.hA ad ha hn
    have := h.hB
    exact hk _ (by omega) (by omega) (by omega)
end
theorem getD_map_pre {l : List (Fd × Nat)} {b : List Int} {x : Fd} {s : Nat} (h : l ++ [(x, s)] <+: (par b).1) : l.length < ((par b).1.map fun x => s46 x.1).length ∧ l.length < (offs 0 (par b).1).length ∧ PRaw.rd_T46 ((par b).1.map fun x => s46 x.1) (l.length : Int) = s46 x ∧ rd (offs 0 (par b).1) (l.length : Int) = ((siz l : Nat) : Int) := by
  obtain ⟨r, hr⟩ := h
  rw [← hr]
  have e1 : ∀ (r : List (Fd × Nat)) (l : List (Fd × Nat)) (p : Nat), offs p (l ++ r) = offs p l ++ offs (p + siz l) r := by
    intro r l
    induction l with
    | nil => intro p; simp [offs, siz]
    | cons y l ih => intro p; simp only [List.cons_append, offs, siz, ih, Nat.add_assoc]
  refine ⟨by simp, by simp [offs_length], ?_, ?_⟩
  · unfold PRaw.rd_T46
    rw [Int.toNat_natCast, List.getD_eq_getElem?_getD]
    simp
  · unfold rd
    rw [Int.toNat_natCast, List.getD_eq_getElem?_getD, List.append_assoc, e1, List.getElem?_append_right (by rw [offs_length]; exact Nat.le_refl _), offs_length, Nat.sub_self]
    simp [offs]
theorem each_law {w0 W : World} {B g cb L gb nb mb ab sb : Nat} {A : Option Addr} {c : Nat} {b : List Int} {v vm va : Value} {most : Int} (hN : LN w0 B L gb nb mb ab sb A b) (h : LJ w0 W B g cb L gb nb mb ab sb A c b [] 0 v [(b.length : Int)] most vm va) (hb : ∀ x ∈ b, 0 ≤ x ∧ x ≤ 255) (hbl : b.length ≤ 1000) :
    Calls Try.prog 75 #[.func (.func 26) #[] #[.pointer (some ⟨gb, 0, none⟩), .pointer (some ⟨nb, 0, none⟩), .pointer (some ⟨mb, 0, none⟩), .pointer (some ⟨ab, 0, none⟩), .pointer (some ⟨sb, 0, none⟩)], .pointer (some ⟨cb, 0, none⟩)] W fun e W' =>
      e = .returned (.tuple #[]) ∧ ∃ k : Nat, (k : Int) = want most (par b).1.length ∧ EB W' L gb nb mb ab sb k most vm va ((par b).1.map fun x => s46 x.1) (offs 0 (par b).1) ∧ Below w0.heap.size w0 W' := by
  have hc0 : W.cell? ⟨cb, 0, none⟩ = some (.pointer (some ⟨g, 0, none⟩)) := (blk_cell h.box 0).trans rfl
  have H0 := Aside0.mk h
  have HN0 := Aside0.mk hN
  have HBY := Aside0.mk hb
  have HBL := Aside0.mk hbl
  clear h hN hb hbl
  go_enter Try.func75, Try.ntmps75
  go_wp2_with fail
  go_loopg [] (b.length + 1) (fun kq wr => ∃ (l : List (Fd × Nat)) (p : Nat) (v : Value), Aside0 (kq + p = b.length + 1 ∧ Way b l p ∧ p = siz l ∧ (most < 1 ∨ (l.length : Int) < most) ∧ LJ w0 wr B g cb L gb nb mb ab sb A c b l p v [(b.length : Int)] most vm va))
  case atStart => exact ⟨[], 0, v, ⟨by omega, Way.start b, rfl, by simp only [List.length_nil]; omega, H0.out⟩⟩
  case round =>
    obtain ⟨l, p, v, HG⟩ := hrel
    obtain ⟨hg0, hway, hsz, hmo, HJ⟩ := HG.out
    have hcw : wr.cell? ⟨cb, 0, none⟩ = some (.pointer (some ⟨g, 0, none⟩)) := (blk_cell HJ.box 0).trans rfl
    have HW := Aside0.mk hway
    have HJ' := Aside0.mk HJ
    have HG0 := Aside0.mk hg0
    have HSZ := Aside0.mk hsz
    have HMO := Aside0.mk hmo
    by_cases hp : p < b.length
    · have hm : moreB (p : Int) [(b.length : Int)] = true := by rw [more_one, decide_eq_true (by omega)]
      have HM := Aside0.mk (fun (W : World) (h : LJ w0 W B g cb L gb nb mb ab sb A c b l p v [(b.length : Int)] most vm va) => more_c h.cur)
      rw [hm] at HM
      have hnx := nxt_one (b := b) (p := (p : Int)) (by omega) (by omega) HBY.out
      rw [Int.toNat_natCast] at hnx
      have HN := Aside0.mk (fun (W : World) (h : LJ w0 W B g cb L gb nb mb ab sb A c b l p v [(b.length : Int)] most vm va) => next_c h.cur (inv_one (by omega) (by omega)) h.hB HBY.out (Nat.le_trans HBL.out (by decide)))
      have HP := Aside0.mk hp
      rcases h1 : oneD (b.drop p) with _ | ⟨x, s⟩
      · have h2 := hnx.1 h1
        obtain ⟨T, hT⟩ : ∃ T, T = nxt b p [(b.length : Int)] := ⟨_, rfl⟩
        rw [← hT] at HN h2
        obtain ⟨x, q, en⟩ := T
        simp only at HN h2
        injection h2 with h2 h3
        subst h2 h3
        have H1 := Aside0.mk h1
        clear hg0 hway HJ HG hp hm hnx hT h1 hsz hmo
        go_wp2_with (first
        | (go_at_call 14; refine (HM.out _ HJ'.out).mono ?_; rintro e w1 ⟨rfl, hd1⟩
           have j1 := HJ'.out.drawn HN0.out hd1; have hc1 : w1.cell? ⟨cb, 0, none⟩ = some (.pointer (some ⟨g, 0, none⟩)) := (blk_cell j1.box 0).trans rfl
           have J1 := Aside0.mk j1; clear j1 hd1)
        | (go_at_call 21; refine (at_c J1.out.cur).mono ?_; rintro e w2 ⟨rfl, hd2⟩
           have j2 := J1.out.drawn HN0.out hd2; have hc2 : w2.cell? ⟨cb, 0, none⟩ = some (.pointer (some ⟨g, 0, none⟩)) := (blk_cell j2.box 0).trans rfl
           have J2 := Aside0.mk j2; clear j2 hd2)
        | (go_at_call 76; refine (HN.out _ J2.out).mono ?_; rintro e w3 ⟨rfl, hm3⟩
           obtain ⟨v3, j3⟩ := J2.out.moved HN0.out hm3
           have hc3 : (w3.alloc (.cells #[.int .i64 x.1, .int .i64 x.2.1, .int .u64 x.2.2.1, .string (strOfNums x.2.2.2)] 46)).cell? ⟨cb, 0, none⟩ = some (.pointer (some ⟨g, 0, none⟩)) := (blk_cell (blk_alloc j3.box _) 0).trans rfl
           have J3 := Aside0.mk j3; clear j3 hm3; unfold fdV)
        | (go_at_call 20; refine (ok_no (J3.out.alloc HN0.out (.cells #[.int .i64 x.1, .int .i64 x.2.1, .int .u64 x.2.2.1, .string (strOfNums x.2.2.2)] 46)).cur rfl).mono ?_; rintro e w4 ⟨rfl, hd4⟩
           have j4 := (J3.out.alloc HN0.out (.cells #[.int .i64 x.1, .int .i64 x.2.1, .int .u64 x.2.2.1, .string (strOfNums x.2.2.2)] 46)).drawn HN0.out hd4
           have x4 : w4.heap[w3.heap.size]? = some (.cells #[.int .i64 x.1, .int .i64 x.2.1, .int .u64 x.2.2.1, .string (strOfNums x.2.2.2)] 46 (0, 0)) := by obtain ⟨m4, rfl⟩ := hd4; exact blk_new _ _
           obtain ⟨⟨xc0, xc1, xc2, xc3⟩, xf0, xf1, xf2, xf3⟩ := blk4 x4
           have J4 := Aside0.mk j4; clear j4 hd4 x4))
        refine bodyPost_ret (results_none rfl _ _ _) rfl ?_
        have hf := HW.out.fail HP.out H1.out
        have hj := J4.out
        refine ⟨rfl, l.length, ?_, hj.eb, hj.bel⟩
        rw [hf]
        unfold want
        rw [if_neg (by have := HMO.out; simp only; omega)]
      · obtain ⟨hs1, h2, hs2⟩ := hnx.2 x s h1
        rw [h2] at HN
        simp only at HN
        have e1 : ((p : Int) + (s : Int)) = ((p + s : Nat) : Int) := (Int.natCast_add p s).symm
        rw [e1] at HN
        have HS := Aside0.mk (show 1 ≤ s ∧ p + s ≤ b.length by omega)
        have H1 := Aside0.mk h1
        have HWS := Aside0.mk (hway.step hp h1 hs1 (by omega))
        have hgp := getD_map_pre HWS.out.pre
        rw [← hsz] at hgp
        have HGP := Aside0.mk hgp
        have hlen : l.length < 1000000000 := by have := hway.2.1; have := HBL.out; omega
        have HC := Aside0.mk (fun (W : World) (h : LJ w0 W B g cb L gb nb mb ab sb A c b l ((p + s : Nat) : Int) v [(b.length : Int)] most vm va) => h)
        have HLEN := Aside0.mk hlen
        clear hg0 hway HJ HG hp hm hnx h1 h2 hs1 hs2 e1 hsz hgp hlen hmo HC
        by_cases hst : ((l.length : Int) + 1 != most) = true
        · have HST := Aside0.mk hst
          clear hst
          go_wp2_with (first
          | (go_at_call 14; refine (HM.out _ HJ'.out).mono ?_; rintro e w1 ⟨rfl, hd1⟩
             have j1 := HJ'.out.drawn HN0.out hd1; have hc1 : w1.cell? ⟨cb, 0, none⟩ = some (.pointer (some ⟨g, 0, none⟩)) := (blk_cell j1.box 0).trans rfl
             have J1 := Aside0.mk j1; clear j1 hd1)
          | (go_at_call 21; refine (at_c J1.out.cur).mono ?_; rintro e w2 ⟨rfl, hd2⟩
             have j2 := J1.out.drawn HN0.out hd2; have hc2 : w2.cell? ⟨cb, 0, none⟩ = some (.pointer (some ⟨g, 0, none⟩)) := (blk_cell j2.box 0).trans rfl
             have J2 := Aside0.mk j2; clear j2 hd2)
          | (go_at_call 76; refine (HN.out _ J2.out).mono ?_; rintro e w3 ⟨rfl, hm3⟩
             obtain ⟨v3, j3⟩ := J2.out.moved HN0.out hm3
             have hc3 : (w3.alloc (.cells #[.int .i64 x.1, .int .i64 x.2.1, .int .u64 x.2.2.1, .string (strOfNums x.2.2.2)] 46)).cell? ⟨cb, 0, none⟩ = some (.pointer (some ⟨g, 0, none⟩)) := (blk_cell (blk_alloc j3.box _) 0).trans rfl
             have J3 := Aside0.mk j3; clear j3 hm3; unfold fdV)
          | (go_at_call 20; refine (ok_yes (J3.out.alloc HN0.out (.cells #[.int .i64 x.1, .int .i64 x.2.1, .int .u64 x.2.2.1, .string (strOfNums x.2.2.2)] 46)).cur (by simp)).mono ?_; rintro e w4 ⟨rfl, hd4⟩
             have j4 := (J3.out.alloc HN0.out (.cells #[.int .i64 x.1, .int .i64 x.2.1, .int .u64 x.2.2.1, .string (strOfNums x.2.2.2)] 46)).drawn HN0.out hd4
             have x4 : w4.heap[w3.heap.size]? = some (.cells #[.int .i64 x.1, .int .i64 x.2.1, .int .u64 x.2.2.1, .string (strOfNums x.2.2.2)] 46 (0, 0)) := by obtain ⟨m4, rfl⟩ := hd4; exact blk_new _ _
             obtain ⟨⟨xc0, xc1, xc2, xc3⟩, xf0, xf1, xf2, xf3⟩ := blk4 x4
             have J4 := Aside0.mk j4; clear j4 hd4 x4)
          | (go_at_call 26; refine (J4.out.eb.clos (p : Int) (s46 x) HGP.out.1 HGP.out.2.1 HGP.out.2.2.1 HGP.out.2.2.2 HLEN.out).mono ?_; rw [HST.out]; rintro e w5 ⟨rfl, he5, hs5, hk5, ho5⟩
             have J5 := Aside0.mk (J4.out.called HN0.out (x, s) he5 hs5 hk5 ho5); clear he5 hs5 hk5 ho5))
          go_roundg (gk - s)
          case measure => have := HG0.out; have := HP.out; have := HS.out; omega
          case rel => exact ⟨l ++ [(x, s)], p + s, _, ⟨by have := HG0.out; have := HP.out; have := HS.out; omega, HWS.out, by rw [siz_snoc, ← HSZ.out], by have h5 := bne_iff_ne.1 HST.out; have h6 := HMO.out; rw [List.length_append, List.length_singleton]; omega, J5.out⟩⟩
        · have HST := Aside0.mk (show ((l.length : Int) + 1 != most) = false by simpa using hst)
          clear hst
          go_wp2_with (first
          | (go_at_call 14; refine (HM.out _ HJ'.out).mono ?_; rintro e w1 ⟨rfl, hd1⟩
             have j1 := HJ'.out.drawn HN0.out hd1; have hc1 : w1.cell? ⟨cb, 0, none⟩ = some (.pointer (some ⟨g, 0, none⟩)) := (blk_cell j1.box 0).trans rfl
             have J1 := Aside0.mk j1; clear j1 hd1)
          | (go_at_call 21; refine (at_c J1.out.cur).mono ?_; rintro e w2 ⟨rfl, hd2⟩
             have j2 := J1.out.drawn HN0.out hd2; have hc2 : w2.cell? ⟨cb, 0, none⟩ = some (.pointer (some ⟨g, 0, none⟩)) := (blk_cell j2.box 0).trans rfl
             have J2 := Aside0.mk j2; clear j2 hd2)
          | (go_at_call 76; refine (HN.out _ J2.out).mono ?_; rintro e w3 ⟨rfl, hm3⟩
             obtain ⟨v3, j3⟩ := J2.out.moved HN0.out hm3
             have hc3 : (w3.alloc (.cells #[.int .i64 x.1, .int .i64 x.2.1, .int .u64 x.2.2.1, .string (strOfNums x.2.2.2)] 46)).cell? ⟨cb, 0, none⟩ = some (.pointer (some ⟨g, 0, none⟩)) := (blk_cell (blk_alloc j3.box _) 0).trans rfl
             have J3 := Aside0.mk j3; clear j3 hm3; unfold fdV)
          | (go_at_call 20; refine (ok_yes (J3.out.alloc HN0.out (.cells #[.int .i64 x.1, .int .i64 x.2.1, .int .u64 x.2.2.1, .string (strOfNums x.2.2.2)] 46)).cur (by simp)).mono ?_; rintro e w4 ⟨rfl, hd4⟩
             have j4 := (J3.out.alloc HN0.out (.cells #[.int .i64 x.1, .int .i64 x.2.1, .int .u64 x.2.2.1, .string (strOfNums x.2.2.2)] 46)).drawn HN0.out hd4
             have x4 : w4.heap[w3.heap.size]? = some (.cells #[.int .i64 x.1, .int .i64 x.2.1, .int .u64 x.2.2.1, .string (strOfNums x.2.2.2)] 46 (0, 0)) := by obtain ⟨m4, rfl⟩ := hd4; exact blk_new _ _
             obtain ⟨⟨xc0, xc1, xc2, xc3⟩, xf0, xf1, xf2, xf3⟩ := blk4 x4
             have J4 := Aside0.mk j4; clear j4 hd4 x4)
          | (go_at_call 26; refine (J4.out.eb.clos (p : Int) (s46 x) HGP.out.1 HGP.out.2.1 HGP.out.2.2.1 HGP.out.2.2.2 HLEN.out).mono ?_; rw [HST.out]; rintro e w5 ⟨rfl, he5, hs5, hk5, ho5⟩
             have J5 := Aside0.mk (J4.out.called HN0.out (x, s) he5 hs5 hk5 ho5); clear he5 hs5 hk5 ho5))
          refine bodyPost_ret (results_none rfl _ _ _) rfl ?_
          have hj := J5.out
          refine ⟨rfl, l.length + 1, ?_, by have h6 := hj.eb; rw [List.length_append, List.length_singleton] at h6; exact h6, hj.bel⟩
          have h5 := bne_eq_false_iff_eq.1 HST.out
          have h6 := HGP.out.1
          rw [List.length_map] at h6
          unfold want
          by_cases hw : most < ((par b).1.length : Int)
          · rw [if_pos ⟨by omega, hw⟩]; omega
          · rw [if_neg (fun h7 => hw h7.2)]; omega
    · have hm : moreB (p : Int) [(b.length : Int)] = false := by rw [more_one, decide_eq_false (by omega)]
      have HM := Aside0.mk (fun (W : World) (h : LJ w0 W B g cb L gb nb mb ab sb A c b l p v [(b.length : Int)] most vm va) => more_c h.cur)
      rw [hm] at HM
      have HP := Aside0.mk (show b.length ≤ p by omega)
      clear hg0 hway HJ HG hp hm hsz hmo
      go_wp2_with (first
        | (go_at_call 14; refine (HM.out _ HJ'.out).mono ?_; rintro e w1 ⟨rfl, hd1⟩
           have J1 := Aside0.mk (HJ'.out.drawn HN0.out hd1); clear hd1))
      go_end0
      have hf := HW.out.done HP.out
      have hj := J1.out
      refine ⟨rfl, l.length, ?_, hj.eb, hj.bel⟩
      rw [hf]
      unfold want
      rw [if_neg (by have := HMO.out; simp only; omega)]
end Go.Proofs.Ytfbmabhdjliohaa.Cur

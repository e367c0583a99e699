/- the reference's Get of layer 7: the fields of bytes, and where each begins; conditions stand at each. -/
import Derived.Test.YtfbmabhdjliohaaMRawH
namespace Go.Proofs.Ytfbmabhdjliohaa.Cur
open Go.RowKit Go.Proofs.Ytfbmabhdjliohaa.Rng Go.Proofs.YtfbmabhdjliohaaW.PrintWords Go.Proofs.YtfbmabhdjliohaaW.PrintLast Go.Proofs.YtfbmabhdjliohaaW.PrintMore Go.Proofs.Ytfbmabhdjliohaa.Var
set_option maxHeartbeats 1000000
set_option maxRecDepth 100000
set_option linter.unusedSimpArgs false
set_option linter.unusedVariables false
/-- How many bytes fields have. -/
def siz : List (Fd × Nat) → Nat
  | [] => 0
  | x :: l => x.2 + siz l
/-- Where each field begins. -/
def offs : Nat → List (Fd × Nat) → List Int
  | _, [] => []
  | p, x :: l => (p : Int) :: offs (p + x.2) l
theorem siz_snoc : ∀ (l : List (Fd × Nat)) (x : Fd × Nat), siz (l ++ [x]) = siz l + x.2
  | [], x => by simp [siz]
  | y :: l, x => by simp only [List.cons_append, siz, siz_snoc l x]; omega
theorem offs_snoc : ∀ (l : List (Fd × Nat)) (p : Nat) (x : Fd × Nat), offs p (l ++ [x]) = offs p l ++ [((p + siz l : Nat) : Int)]
  | [], p, x => by simp [siz, offs]
  | y :: l, p, x => by simp only [List.cons_append, siz, offs, offs_snoc l]; rw [Nat.add_assoc]
theorem offs_length : ∀ (l : List (Fd × Nat)) (p : Nat), (offs p l).length = l.length
  | [], _ => rfl
  | x :: l, p => by simp only [offs, List.length_cons, offs_length l]
/-- The reference's cursor, and what is collected. -/
structure RJ (w0 W : World) (g : Nat) (A : Option Addr) (c : Nat) (b : List Int) (l : List (Fd × Nat)) (p : Int) (v vo va : Value) (ends : List Int) : Prop where
  cur : IsM W w0.heap.size g A c b p v ends
  out : Kd.R PRaw.k46 46 W w0.heap.size (fun _ => True) vo (l.map fun x => s46 x.1)
  ats : Kd.R (Kd.int .i64) 3 W w0.heap.size (fun k => k ≠ g) va (offs 0 l)
  ne : ∀ k, va.ownBlock = some k → v.ownBlock ≠ some k
  bel : Below w0.heap.size w0 W
  hle : w0.heap.size ≤ W.heap.size
theorem Rint_move {W W' : World} {base : Nat} {ok : Nat → Prop} {v : Value} {xs : List Int} (h : Kd.R (Kd.int .i64) 3 W base ok v xs) (hm : ∀ k, v.ownBlock = some k → W'.heap[k]? = W.heap[k]?) : Kd.R (Kd.int .i64) 3 W' base ok v xs := by
  obtain ⟨h0, inner, ho, hr⟩ := h
  exact ⟨h0, inner, own_move ho hm, hr.imp_ (fun _ _ hp => hp)⟩
theorem Rint_typed {W : World} {base k : Nat} {ok : Nat → Prop} {v : Value} {xs : List Int} (h : Kd.R (Kd.int .i64) 3 W base ok v xs) (hk : v.ownBlock = some k) : base ≤ k ∧ ∃ cs, W.heap[k]? = some (.cells cs 3 (0, 0)) := by
  obtain ⟨h0, inner, ho, hr⟩ := h
  rcases ho.2 with ⟨rfl, _⟩ | ⟨g, cap, cur, rfl, hb, hh, _⟩
  · simp [Value.ownBlock] at hk
  · have : g = k := by simpa [Value.ownBlock] using hk
    subst this
    exact ⟨hb, cur, hh⟩
section
variable {w0 W W' : World} {g : Nat} {A : Option Addr} {c : Nat} {b : List Int} {l : List (Fd × Nat)} {p p' : Int} {v vo va : Value} {ends ends' : List Int}
theorem M_typed_ne {B k t : Nat} {cells : Array Value} (h : IsM W B g A c b p v ends) (hb : W.heap[k]? = some (.cells cells t (0, 0))) (h1 : t ≠ 65) (h2 : t ≠ 3) : k ≠ g ∧ v.ownBlock ≠ some k := by
  refine ⟨fun e => ?_, fun e => ?_⟩
  · subst e; rw [h.blk] at hb; cases hb; exact h1 rfl
  · exact typed_ne h.row hb h2 e rfl
theorem RJ.moved (h : RJ w0 W g A c b l p v vo va ends) (hm : MovedM W w0.heap.size g A c b v p' ends' W') : ∃ v', RJ w0 W' g A c b l p' v' vo va ends' := by
  obtain ⟨v', h', f⟩ := hm
  refine ⟨v', h', R46_move h.out (fun k hk => ?_), Rint_move h.ats (fun k hk => ?_), fun k hk => ?_, h.bel.trans (f.below h.hle h.cur.ge (fun k hk => (own_bounds h.cur.row hk).1)), Nat.le_trans h.hle f.1.1⟩
  · obtain ⟨_, cs, hcs⟩ := R46_typed h.out hk
    have n3 := M_typed_ne h.cur hcs (by decide) (by decide)
    rw [hcs]
    exact f.blk hcs n3.1 n3.2
  · obtain ⟨_, cs, hcs⟩ := Rint_typed h.ats hk
    rw [hcs]
    exact f.blk hcs (h.ats.1 k hk) (h.ne k hk)
  · obtain ⟨_, cs, hcs⟩ := Rint_typed h.ats hk
    exact f.ne (h.ne k hk) (blk_lt hcs)
theorem RJ.drawn (h : RJ w0 W g A c b l p v vo va ends) (hd : Drawn0 W W') : RJ w0 W' g A c b l p v vo va ends := by
  obtain ⟨n, rfl⟩ := hd
  exact ⟨h.cur.drewN n, R46_move h.out (fun _ _ => rfl), Rint_move h.ats (fun _ _ => rfl), h.ne, pw_below_drewN h.bel n, h.hle⟩
theorem RJ.alloc (h : RJ w0 W g A c b l p v vo va ends) (o : Obj) : RJ w0 (W.alloc o) g A c b l p v vo va ends :=
  ⟨h.cur.below (below_alloc (Below.refl _ _) _), Kd.R_alloc h.out _, Kd.R_alloc h.ats _, h.ne, h.bel.alloc h.hle _, szA h.hle _⟩
theorem IsM.move {B : Nat} (h : IsM W B g A c b p v ends) (h1 : W'.heap[g]? = W.heap[g]?) (h2 : ∀ k, v.ownBlock = some k → W'.heap[k]? = W.heap[k]?) (h3 : ∀ k, k < B → W'.heap[k]? = W.heap[k]?) : IsM W' B g A c b p v ends := by
  refine ⟨h1.trans h.blk, ?_, C_move h.rd (fun ad ha hn => h3 _ (h.ap ad ha hn)), h.lc, h.ge, h.ap⟩
  obtain ⟨h0, inner, ho, hr⟩ := h.row
  exact ⟨h0, inner, own_move ho h2, hr.imp_ (fun _ _ hp => hp)⟩
/-- Behind the first append. -/
structure RK (w0 W : World) (g : Nat) (A : Option Addr) (c : Nat) (b : List Int) (l l' : List (Fd × Nat)) (p : Int) (v vo va : Value) (ends : List Int) : Prop where
  cur : IsM W w0.heap.size g A c b p v ends
  out : Kd.R PRaw.k46 46 W w0.heap.size (fun _ => True) vo (l'.map fun x => s46 x.1)
  ats : Kd.R (Kd.int .i64) 3 W w0.heap.size (fun k => k ≠ g) va (offs 0 l)
  ne : ∀ k, va.ownBlock = some k → v.ownBlock ≠ some k
  bel : Below w0.heap.size w0 W
  hle : w0.heap.size ≤ W.heap.size
theorem RJ.one (h : RJ w0 W g A c b l p v vo va ends) {l' : List (Fd × Nat)} {W3 : World} {vo' : Value} (ho : Kd.R PRaw.k46 46 W3 w0.heap.size (fun _ => True) vo' (l'.map fun x => s46 x.1)) (hb : Below w0.heap.size w0 W3) (hg : W.grownBy W3 vo.ownBlock) : RK w0 W3 g A c b l l' p v vo' va ends := by
  have ne : ∀ {k t : Nat} {cells : Array Value}, W.heap[k]? = some (.cells cells t (0, 0)) → t ≠ 46 → some k ≠ vo.ownBlock := by
    intro k t cells hk ht e
    obtain ⟨_, cs, hcs⟩ := R46_typed h.out e.symm
    rw [hcs] at hk
    cases hk
    exact ht rfl
  have mv : ∀ {k t : Nat} {cells : Array Value}, W.heap[k]? = some (.cells cells t (0, 0)) → t ≠ 46 → W3.heap[k]? = W.heap[k]? := fun hk h1 => hg.block _ (blk_lt hk) (ne hk h1)
  refine ⟨h.cur.move (mv h.cur.blk (by decide)) (fun k hk => ?_) (fun k hk => ?_), ho, Rint_move h.ats (fun k hk => ?_), h.ne, hb, Nat.le_trans h.hle hg.size⟩
  · obtain ⟨_, cs, hcs⟩ := Rint_typed h.cur.row hk
    exact mv hcs (by decide)
  · refine hg.block k (Nat.lt_of_lt_of_le hk h.hle) (fun e => ?_)
    have := (R46_typed h.out e.symm).1
    omega
  · obtain ⟨_, cs, hcs⟩ := Rint_typed h.ats hk
    exact mv hcs (by decide)
theorem RK.alloc {l' : List (Fd × Nat)} (h : RK w0 W g A c b l l' p v vo va ends) (o : Obj) : RK w0 (W.alloc o) g A c b l l' p v vo va ends :=
  ⟨h.cur.below (below_alloc (Below.refl _ _) _), Kd.R_alloc h.out _, Kd.R_alloc h.ats _, h.ne, h.bel.alloc h.hle _, szA h.hle _⟩
theorem RK.two {l' : List (Fd × Nat)} (h : RK w0 W g A c b l l' p v vo va ends) {W3 : World} {va' : Value} (ho : Kd.R (Kd.int .i64) 3 W3 w0.heap.size (fun k => k ≠ g) va' (offs 0 l')) (hb : Below w0.heap.size w0 W3) (hg : W.grownBy W3 va.ownBlock) (hat : va'.ownBlock = va.ownBlock ∨ ∃ k, va'.ownBlock = some k ∧ W.heap.size ≤ k) : RJ w0 W3 g A c b l' p v vo va' ends := by
  have ne : ∀ {k t : Nat} {cells : Array Value}, W.heap[k]? = some (.cells cells t (0, 0)) → t ≠ 3 → some k ≠ va.ownBlock := by
    intro k t cells hk ht e
    obtain ⟨_, cs, hcs⟩ := Rint_typed h.ats e.symm
    rw [hcs] at hk
    cases hk
    exact ht rfl
  have mv : ∀ {k t : Nat} {cells : Array Value}, W.heap[k]? = some (.cells cells t (0, 0)) → t ≠ 3 → W3.heap[k]? = W.heap[k]? := fun hk h1 => hg.block _ (blk_lt hk) (ne hk h1)
  refine ⟨h.cur.move (mv h.cur.blk (by decide)) (fun k hk => ?_) (fun k hk => ?_), R46_move h.out (fun k hk => ?_), ho, fun k hk hv => ?_, hb, Nat.le_trans h.hle hg.size⟩
  · obtain ⟨_, cs, hcs⟩ := Rint_typed h.cur.row hk
    exact hg.block k (blk_lt hcs) (fun e => h.ne k e.symm hk)
  · refine hg.block k (Nat.lt_of_lt_of_le hk h.hle) (fun e => ?_)
    have := (Rint_typed h.ats e.symm).1
    omega
  · obtain ⟨_, cs, hcs⟩ := R46_typed h.out hk
    exact mv hcs (by decide)
  · rcases hat with hat | ⟨k2, hat, hle⟩
    · exact h.ne k (hat ▸ hk) hv
    · rw [hat] at hk
      injection hk with hk
      have := (own_bounds h.cur.row hv).2
      omega
end
/-- What the reference's Get hands back. -/
def RGetP (w : World) (b : List Int) (e : Ending) (w' : World) : Prop :=
  Below w.heap.size w w' ∧ ∃ vo va, e = .returned (.tuple #[vo, va, .bool (par b).2]) ∧ Kd.R PRaw.k46 46 w' w.heap.size (fun _ => True) vo ((par b).1.map fun x => s46 x.1) ∧ Kd.R (Kd.int .i64) 3 w' w.heap.size (fun _ => True) va (offs 0 (par b).1)
theorem RGet_c {w : World} {A : Option Addr} {c : Nat} {b : List Int} (hr : Kd.C (Kd.int .u8) w A b.length b) (hc : b.length ≤ c) (hap : ∀ ad, A = some ad → 0 < b.length → ad.block < w.heap.size) (hb : ∀ x ∈ b, 0 ≤ x ∧ x ≤ 255) (hbl : b.length ≤ 1000000000) :
    Calls Try.prog 24 #[.slice A b.length c] w (RGetP w b) := by
  have HF := Aside0.mk (From_m hr hc hap)
  have HBY := Aside0.mk hb
  have HBL := Aside0.mk hbl
  clear hr hc hap hb hbl
  go_enter Try.func24, Try.ntmps24
  go_wp2_with (first
    | (go_at_call 17; refine HF.out.mono ?_; rintro e w1 ⟨rfl, h1, b1⟩; have H1 := Aside0.mk h1; have B1 := Aside0.mk b1; clear h1 b1))
  have J2 : RJ w ((w1.alloc (.cells #[] 46)).alloc (.cells #[] 3)) (w.heap.size + 1) A c b [] 0 (.slice (some ⟨w.heap.size, 0, none⟩) 1 1) (.slice (some ⟨w1.heap.size, 0, none⟩) 0 0) (.slice (some ⟨w1.heap.size + 1, 0, none⟩) 0 0) [(b.length : Int)] := by
    have hsz := B1.out.size
    have hs1 : (w1.alloc (.cells #[] 46)).heap.size = w1.heap.size + 1 := World.size_alloc _ _
    have hx := blk_new (w1.alloc (.cells #[] 46)) (.cells #[] 3)
    rw [hs1] at hx
    have hg1 := blk_lt H1.out.blk
    have hv1 := (own_bounds H1.out.row (k := w.heap.size) rfl).2
    refine ⟨(H1.out.below (below_alloc (Below.refl _ _) _)).below (below_alloc (Below.refl _ _) _), ⟨fun _ _ => trivial, [], ⟨rfl, .inr ⟨w1.heap.size, 0, #[], rfl, hsz, blk_alloc (blk_new _ _) _, Nat.le_refl _, by decide, rfl, rfl⟩⟩, Reps.none _ _⟩,
      ⟨fun k hk => ?_, [], ⟨rfl, .inr ⟨w1.heap.size + 1, 0, #[], rfl, by omega, hx, Nat.le_refl _, by decide, rfl, rfl⟩⟩, Reps.none _ _⟩, fun k hk he => ?_, (B1.out.alloc hsz _).alloc (szA hsz _) _, szA (szA hsz _) _⟩
    · have : w1.heap.size + 1 = k := by simpa [Value.ownBlock] using hk
      omega
    · have h1 : w1.heap.size + 1 = k := by simpa [Value.ownBlock] using hk
      have h2 : w.heap.size = k := by simpa [Value.ownBlock] using he
      omega
  have HJ2 := Aside0.mk J2
  clear J2
  go_loopg [6, 7] (b.length + 1) (fun kq v6 v7 wr => ∃ (l : List (Fd × Nat)) (p : Nat) (v vo va : Value), vo = v6 ∧ va = v7 ∧ Aside0 (kq + p = b.length + 1 ∧ Way b l p ∧ p = siz l ∧ RJ w wr (w.heap.size + 1) A c b l p v vo va [(b.length : Int)]))
  case atStart => exact ⟨[], 0, _, _, _, rfl, rfl, ⟨by omega, Way.start b, rfl, HJ2.out⟩⟩
  case round =>
    obtain ⟨l, p, v, vo, va, rfl, rfl, HG⟩ := hrel
    obtain ⟨hg0, hway, hsz, HJ⟩ := HG.out
    have HW := Aside0.mk hway
    have HJ' := Aside0.mk HJ
    have HG0 := Aside0.mk hg0
    have HSZ := Aside0.mk hsz
    by_cases hp : p < b.length
    · have hm : moreB (p : Int) [(b.length : Int)] = true := by rw [more_one, decide_eq_true (by omega)]
      have HM := Aside0.mk (fun (W : World) (h : RJ w W (w.heap.size + 1) A c b l p v vo va [(b.length : Int)]) => More_m h.cur)
      rw [hm] at HM
      have hnx := nxt_one (b := b) (p := (p : Int)) (by omega) (by omega) HBY.out
      rw [Int.toNat_natCast] at hnx
      have HN := Aside0.mk (fun (W : World) (h : RJ w W (w.heap.size + 1) A c b l p v vo va [(b.length : Int)]) => one_c h.cur (inv_one (by omega) (by omega)) h.hle HBY.out (Nat.le_trans HBL.out (by decide)))
      have HP := Aside0.mk hp
      have hlen : l.length ≤ 1000000000 := by have := hway.2.1; have := HBL.out; omega
      have HLEN := Aside0.mk hlen
      rcases h1 : oneD (b.drop p) with _ | ⟨x, s⟩
      · have h2 := hnx.1 h1
        obtain ⟨T, hT⟩ : ∃ T, T = nxt b p [(b.length : Int)] := ⟨_, rfl⟩
        rw [← hT] at HN h2
        obtain ⟨x, q, en⟩ := T
        simp only at HN h2
        injection h2 with h2 h3
        subst h2 h3
        have H1 := Aside0.mk h1
        clear hg0 hway HJ HG hp hm hnx hT h1 hsz hlen
        go_wp2_with (first
          | (go_at_call 49; refine (HM.out _ HJ'.out).mono ?_; rintro e w3 ⟨rfl, hd3⟩
             have j3 := HJ'.out.drawn hd3; have hc1 : w3.cell? ⟨w.heap.size + 1, 1, none⟩ = some (.int .i64 (p : Int)) := (blk_cell j3.cur.blk 1).trans rfl
             have J3 := Aside0.mk j3; clear j3 hd3)
          | (go_at_call 53; refine (HN.out _ J3.out).mono ?_; rintro e w4 ⟨rfl, hm4⟩
             obtain ⟨v4, j4⟩ := J3.out.moved hm4
             have hc4 := (j4.alloc (.cells #[.int .i64 x.1, .int .i64 x.2.1, .int .u64 x.2.2.1, .string (strOfNums x.2.2.2)] 46)).cur.bad rfl
             have J4 := Aside0.mk (j4.alloc (.cells #[.int .i64 x.1, .int .i64 x.2.1, .int .u64 x.2.2.1, .string (strOfNums x.2.2.2)] 46)); clear j4 hm4; unfold fdV))
        go_ret3
        have hf := HW.out.fail HP.out H1.out
        have hj := J4.out
        exact ⟨hj.bel, vo, va, by rw [hf]; rfl, by rw [hf]; exact hj.out, by rw [hf]; exact Kd.R_mono hj.ats (fun _ _ => trivial)⟩
      · obtain ⟨hs1, h2, hs2⟩ := hnx.2 x s h1
        rw [h2] at HN
        simp only at HN
        have e1 : ((p : Int) + (s : Int)) = ((p + s : Nat) : Int) := (Int.natCast_add p s).symm
        rw [e1] at HN
        have HS := Aside0.mk (show 1 ≤ s ∧ p + s ≤ b.length by omega)
        have H1 := Aside0.mk h1
        clear hg0 hway HJ HG hp hm hnx h1 h2 hs1 hs2 e1 hsz hlen
        go_wp2_with (first
          | (go_at_call 49; refine (HM.out _ HJ'.out).mono ?_; rintro e w3 ⟨rfl, hd3⟩
             have j3 := HJ'.out.drawn hd3; have hc1 : w3.cell? ⟨w.heap.size + 1, 1, none⟩ = some (.int .i64 (p : Int)) := (blk_cell j3.cur.blk 1).trans rfl
             have J3 := Aside0.mk j3; clear j3 hd3)
          | (go_at_call 53; refine (HN.out _ J3.out).mono ?_; rintro e w4 ⟨rfl, hm4⟩
             obtain ⟨v4, j4⟩ := J3.out.moved hm4
             have hc4 := (j4.alloc (.cells #[.int .i64 x.1, .int .i64 x.2.1, .int .u64 x.2.2.1, .string (strOfNums x.2.2.2)] 46)).cur.good (by simp)
             have J4 := Aside0.mk (j4.alloc (.cells #[.int .i64 x.1, .int .i64 x.2.1, .int .u64 x.2.2.1, .string (strOfNums x.2.2.2)] 46)); clear j4 hm4; unfold fdV)
          | ((with_reducible refine gate_builtin (b := .append) (xs := #[.tmp 28, .tmp 30]) rfl ?_); at_builtin
             refine Kd.R_append PRaw.k46 (w0 := w) w.heap.size rfl (.tmp 28) (.tmp 30) 38 46 (.agg #[.int .i64 0, .int .i64 0, .int .u64 0, .string ⟨#[]⟩]) 40 rfl Try.underlying38 info46 rfl (by decide) (by decide) vo (l.map fun x => s46 x.1) (s46 x) [.int .i64 x.1, .int .i64 x.2.1, .int .u64 x.2.2.1, .string (strOfNums x.2.2.2)] (fun _ => True) (fun k => some k ≠ vo.ownBlock) rfl ?aX ?aM ?aK ?aF J4.out.out J4.out.bel J4.out.hle ?aL ?_
             (case aX => rw [World.size_alloc]; rfl)
             (case aM => exact PRaw.k46_mkM _ _ _ (s46 x))
             (case aK => exact fun k hk => ⟨trivial, hk⟩)
             (case aF => exact fun k hk => trivial)
             (case aL => have := HLEN.out; rw [List.length_map]; omega)
             intro vo' w5 ho5 hb5 hg5 hat5
             have ho5' : Kd.R PRaw.k46 46 w5 w.heap.size (fun _ => True) vo' ((l ++ [(x, s)]).map fun x => s46 x.1) := by rw [List.map_append]; exact ho5
             have K5 := Aside0.mk (J4.out.one (l' := l ++ [(x, s)]) ho5' hb5 hg5)
             clear ho5 ho5' hb5 hg5 hat5)
          | ((with_reducible refine gate_builtin (b := .append) (xs := #[.tmp 32, .tmp 34]) rfl ?_); at_builtin
             refine Kd.R_append (Kd.int .i64) (w0 := w) w.heap.size rfl (.tmp 32) (.tmp 34) 39 3 (.int .i64 0) 8 rfl Try.underlying39 info3 rfl (by decide) (by decide) va (offs 0 l) (p : Int) [.int .i64 (p : Int)] (fun k => k ≠ w.heap.size + 1) (fun k => k ≠ w.heap.size + 1 ∧ some k ≠ va.ownBlock) rfl rfl ?bM ?bK ?bF K5.out.ats K5.out.bel K5.out.hle ?bL ?_
             (case bM => exact rfl)
             (case bK => exact fun k hk => hk)
             (case bF => have := blk_lt K5.out.cur.blk; exact fun k hk => by omega)
             (case bL => have := HLEN.out; rw [offs_length]; omega)
             intro va' w6 ho6 hb6 hg6 hat6
             have ho6' : Kd.R (Kd.int .i64) 3 w6 w.heap.size (fun k => k ≠ w.heap.size + 1) va' (offs 0 (l ++ [(x, s)])) := by rw [offs_snoc, Nat.zero_add, ← HSZ.out]; exact ho6
             have J6 := Aside0.mk (K5.out.two ho6' hb6 hg6 hat6)
             clear ho6 ho6' hb6 hg6 hat6))
        go_roundg (gk - s)
        case measure => have := HG0.out; have := HP.out; have := HS.out; omega
        case rel => exact ⟨l ++ [(x, s)], p + s, _, _, _, rfl, rfl, ⟨by have := HG0.out; have := HP.out; have := HS.out; omega, HW.out.step HP.out H1.out HS.out.1 HS.out.2, by rw [siz_snoc, ← HSZ.out], J6.out⟩⟩
    · have hm : moreB (p : Int) [(b.length : Int)] = false := by rw [more_one, decide_eq_false (by omega)]
      have HM := Aside0.mk (fun (W : World) (h : RJ w W (w.heap.size + 1) A c b l p v vo va [(b.length : Int)]) => More_m h.cur)
      rw [hm] at HM
      have HP := Aside0.mk (show b.length ≤ p by omega)
      clear hg0 hway HJ HG hp hm hsz
      go_wp2_with (first
        | (go_at_call 49; refine (HM.out _ HJ'.out).mono ?_; rintro e w3 ⟨rfl, hd3⟩
           have j3 := HJ'.out.drawn hd3
           have J3 := Aside0.mk j3; clear j3 hd3))
      go_ret3
      have hf := HW.out.done HP.out
      have hj := J3.out
      exact ⟨hj.bel, vo, va, by rw [hf]; rfl, by rw [hf]; exact hj.out, by rw [hf]; exact Kd.R_mono hj.ats (fun _ _ => trivial)⟩
end Go.Proofs.Ytfbmabhdjliohaa.Cur

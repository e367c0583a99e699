/- How deep a tree is, and how much it has; conditions stand at each. -/
import Derived.Test.YtbpnfpckoapdbaaTSame
namespace Go.Proofs.Ytbpnfpckoapdbaa.Tr
open Go.RowKit Go.Proofs.YtbpnfpckoapdbaaW.PrintWords Go.Proofs.YtbpnfpckoapdbaaW.PrintLast Go.Proofs.YtbpnfpckoapdbaaW.PrintMore Go.Proofs.Ytbpnfpckoapdbaa.Open
set_option linter.unusedVariables false
set_option linter.unusedSimpArgs false
set_option maxHeartbeats 1000000
set_option maxRecDepth 100000
attribute [local go_sem] max2_int min2_int max_two min_two
/-- All blocks but one stay. -/
structure But (g : Nat) (w w' : World) : Prop where
  os : w'.os = w.os
  tape : w'.tape = w.tape
  output : w'.output = w.output
  size : w.heap.size ≤ w'.heap.size
  block : ∀ k, k < w.heap.size → k ≠ g → w'.heap[k]? = w.heap[k]?
theorem But.refl (g : Nat) (w : World) : But g w w := ⟨rfl, rfl, rfl, Nat.le_refl _, fun _ _ _ => rfl⟩
theorem But.trans {g : Nat} {a b c : World} (h : But g a b) (k : But g b c) : But g a c :=
  ⟨k.os.trans h.os, k.tape.trans h.tape, k.output.trans h.output, Nat.le_trans h.size k.size, fun i hi hg => (k.block i (Nat.lt_of_lt_of_le hi h.size) hg).trans (h.block i hi hg)⟩
theorem But.of_below {g : Nat} {w w' : World} (h : Below w.heap.size w w') : But g w w' := ⟨h.os, h.tape, h.output, h.size, fun k hk _ => h.block k hk⟩
theorem But.set {g : Nat} (w : World) (j : Nat) (v : Value) : But g w (w.setCell ⟨g, j, none⟩ v) := by
  have h : Below g w (w.setCell ⟨g, j, none⟩ v) := Below.setCell (Below.refl g w) (show g ≤ (⟨g, j, none⟩ : Addr).block from Nat.le_refl g) v
  exact ⟨h.os, h.tape, h.output, h.size, fun k hk hg => Below.heap_setCell w ⟨g, j, none⟩ v k hg⟩
theorem But.below {g : Nat} {w0 w w' : World} (hb : Below w0.heap.size w0 w) (hg : w0.heap.size ≤ g) (h : But g w w') : Below w0.heap.size w0 w' :=
  ⟨h.os.trans hb.os, h.tape.trans hb.tape, h.output.trans hb.output, Nat.le_trans hb.size h.size, fun k hk => (h.block k (Nat.lt_of_lt_of_le hk hb.size) (by omega)).trans (hb.block k hk)⟩
theorem But.blk {g k : Nat} {w w' : World} {o : Obj} (h : But g w w') (hk : w.heap[k]? = some o) (hg : k ≠ g) : w'.heap[k]? = some o := (h.block k (blk_lt hk) hg).trans hk
theorem below_alloc' {w0 w : World} (h : Below w0.heap.size w0 w) (o : Obj) : Below w0.heap.size w0 (w.alloc o) := h.alloc h.size o
abbrev Box (w : World) (g : Nat) (n : Int) : Prop := w.heap[g]? = some (.cells #[.int .i64 n] 3 (0, 0))
section
variable {α : Type} {d : Kd α} {st : Int → SV α → Int}
/-- A closure over one number. -/
def Sees (d : Kd α) (F : FuncId) (st : Int → SV α → Int) : Prop :=
  ∀ (w0 w : World) (g : Nat) (n : Int) (v : SV α) (cs : List Value), (kV d).K w0 v cs → Below w0.heap.size w0 w → w0.heap.size ≤ g → Box w g n →
    Calls Try.prog F #[.agg cs.toArray, .pointer (some ⟨g, 0, none⟩)] w fun r w' => r = .returned (.tuple #[]) ∧ Box w' g (st n v) ∧ But g w w'
def foldS (st : Int → SV α → Int) (n : Int) (l : List (SS α)) : Int := l.foldl (fun a s => s.vals.foldl st a) n
theorem each_deep (HS : Sees d 59 st) {w0 w : World} {g : Nat} {n : Int} {A : Option Addr} {c : Nat} {vr : Value} (hvr : ∃ A n c, vr = .slice A n c) {xs : List (SS α)} (hC : (kS d).C w0 A xs.length xs) (hb : Below w0.heap.size w0 w) (hg : w0.heap.size ≤ g) (hx : Box w g n) :
    Calls Try.prog 58 #[.agg #[.slice A xs.length c, vr], .func (.func 59) #[] #[.pointer (some ⟨g, 0, none⟩)]] w fun r w' => r = .returned (.tuple #[]) ∧ Box w' g (foldS st n xs) ∧ But g w w' := by
  obtain ⟨A', n', c', rfl⟩ := hvr
  have HQ := Aside0.mk HS
  have HC := Aside0.mk hC
  have HM := Aside0.mk (Kd.C_max hC)
  have B0 := Aside0.mk hb
  have HG := Aside0.mk hg
  have HX := Aside0.mk hx
  have HGL := Aside0.mk (blk_lt hx)
  clear HS hC hb hg hx
  go_enter Try.func58, Try.ntmps58
  go_wp2
  go_loopg [11] xs.length (fun kq v11 w' => ∃ (i : Nat) (m : Int), v11 = .int .i64 (i : Int) ∧ Aside0 (kq + i = xs.length) ∧ Aside0 (foldS st n xs = foldS st m (xs.drop i)) ∧ Aside0 (Box w' g m) ∧ Aside0 (But g w w'))
  case atStart => exact ⟨0, n, rfl, ⟨by omega⟩, ⟨rfl⟩, ⟨blk_alloc HX.out _⟩, ⟨But.of_below (below_alloc (Below.refl _ _) _)⟩⟩
  case round =>
    obtain ⟨i, m, rfl, HK, HE, HX, BW⟩ := hrel
    by_cases hi : (i : Int) < (xs.length : Int)
    · have c1 : decide ((i : Int) < (xs.length : Int)) = true := decide_eq_true hi
      have p0 : (0 : Int) ≤ (i : Int) := by omega
      have hbw := But.below B0.out HG.out BW.out
      obtain ⟨ad, A1, m1, s, rfl, hs, x1, x2, hk⟩ := at_Sk HC.out i (by omega)
      obtain ⟨_, _, he, hl, hCv⟩ := kS_open hk
      obtain ⟨rfl, rfl⟩ : A1 = _ ∧ m1 = _ := by simpa using he
      replace x1 := pw_cell_below hbw x1
      replace x2 := pw_cell_below hbw x2
      have hw : IntKind.i64.wrap ((i : Int) + 1) = ((i + 1 : Nat) : Int) := by have := HM.out; rw [IntKind.wrap_i64]; omega
      have HI := Aside0.mk (show i < xs.length by omega)
      have HST := Aside0.mk (show foldS st m (xs.drop i) = foldS st (s.vals.foldl st m) (xs.drop (i + 1)) by
        obtain ⟨h1, rfl⟩ := List.getElem?_eq_some_iff.1 hs
        rw [List.drop_eq_getElem_cons h1]
        rfl)
      replace hi := eq_true hi
      have HKS := Aside0.mk hCv
      have HMS := Aside0.mk (Kd.C_max hCv)
      have BB := Aside0.mk hbw
      have HGR := Aside0.mk (blk_lt HX.out)
      clear hs hk hbw he hl hCv
      go_wp2
      clear x1 x2
      go_loopg [18] s.vals.length (fun kq v18 w' => ∃ (k : Nat) (mk : Int), v18 = .int .i64 (k : Int) ∧ Aside0 (kq + k = s.vals.length) ∧ Aside0 (s.vals.foldl st m = (s.vals.drop k).foldl st mk) ∧ Aside0 (Box w' g mk) ∧ Aside0 (But g wr w'))
      case atStart => exact ⟨0, m, rfl, ⟨by omega⟩, ⟨rfl⟩, ⟨blk_alloc HX.out _⟩, ⟨But.of_below (below_alloc (Below.refl _ _) _)⟩⟩
      case round =>
        obtain ⟨k, mk, rfl, HK2, HE2, HX2, BW2⟩ := hrel
        by_cases hk : (k : Int) < (s.vals.length : Int)
        · have c3 : decide ((k : Int) < (s.vals.length : Int)) = true := decide_eq_true hk
          have p3 : (0 : Int) ≤ (k : Int) := by omega
          have hbw := But.below B0.out HG.out (BW.out.trans BW2.out)
          obtain ⟨bd, A2, m2, v, rfl, hv, y1, y2, y3, hkv⟩ := at_Vk HKS.out k (by omega)
          replace y1 := pw_cell_below hbw y1
          replace y2 := pw_cell_below hbw y2
          replace y3 := pw_cell_below hbw y3
          have hw2 : IntKind.i64.wrap ((k : Int) + 1) = ((k + 1 : Nat) : Int) := by have := HMS.out; rw [IntKind.wrap_i64]; omega
          have HI2 := Aside0.mk (show k < s.vals.length by omega)
          have HST2 := Aside0.mk (show (s.vals.drop k).foldl st mk = (s.vals.drop (k + 1)).foldl st (st mk v) by
            obtain ⟨h1, rfl⟩ := List.getElem?_eq_some_iff.1 hv
            rw [List.drop_eq_getElem_cons h1]
            rfl)
          have HT := Aside0.mk (HQ.out w0 (wr.alloc (.cells #[.int .u64 v.n, .string v.s, .slice A2 v.m.length m2] 70)) g mk v _ hkv (below_alloc' hbw _) HG.out (blk_alloc HX2.out _))
          replace hk := eq_true hk
          clear hv hkv hbw
          go_wp2_with (first | (go_at_call 59; refine HT.out.mono ?_; rintro r w2 ⟨rfl, hx2, bx2⟩; have HX3 := Aside0.mk hx2; have BX3 := Aside0.mk bx2; clear hx2 bx2))
          go_roundg (s.vals.length - (k + 1))
          case measure => have := HK2.out; have := HI2.out; omega
          case rel => exact ⟨k + 1, st mk v, rfl, ⟨by have := HI2.out; omega⟩, ⟨by rw [HE2.out, HST2.out]⟩, HX3, ⟨BW2.out.trans ((But.of_below (below_alloc (Below.refl _ _) _)).trans BX3.out)⟩⟩
        · have c3 : decide ((k : Int) < (s.vals.length : Int)) = false := decide_eq_false hk
          have c4 : decide (k < s.vals.length) = false := decide_eq_false (by omega)
          have HF := Aside0.mk (show s.vals.foldl st m = mk by rw [HE2.out, List.drop_eq_nil_of_le (by omega)]; rfl)
          clear hk
          go_wp2
          go_roundg (xs.length - (i + 1))
          case measure => have := HK.out; have := HI.out; omega
          case rel => exact ⟨i + 1, mk, rfl, ⟨by have := HI.out; omega⟩, ⟨by rw [HE.out, HST.out, HF.out]⟩, HX2, ⟨BW.out.trans BW2.out⟩⟩
    · have c1 : decide ((i : Int) < (xs.length : Int)) = false := decide_eq_false hi
      have c2 : decide (i < xs.length) = false := decide_eq_false (by omega)
      have HF := Aside0.mk (show foldS st n xs = m by rw [HE.out, List.drop_eq_nil_of_le (by omega)]; rfl)
      clear hi
      go_wp2
      go_end0
      exact ⟨rfl, by rw [HF.out]; exact HX.out, BW.out⟩
def Gives (d : Kd α) (F : FuncId) (f : α → Int) : Prop :=
  ∀ (w : World) (x : α) (cs : List Value), d.K w x cs → Calls Try.prog F #[.agg cs.toArray] w fun r w' => r = .returned (.int .i64 (f x)) ∧ Below w.heap.size w w'
def mx (a b : Int) : Int := if a < b then b else a
def dV (f : α → Int) (n : Int) (v : SV α) : Int := v.m.foldl (fun a x => mx a (f x)) n
theorem Deep1_c {f : α → Int} (hd : Two d) (HD : Gives d 17 f) : Sees d 59 (dV f) := by
  intro w0 w g n v cs h hb hg hx
  obtain ⟨A, c, rfl, hl, hC⟩ := kV_open h
  have HQ := Aside0.mk HD
  have HC := Aside0.mk hC
  have HM := Aside0.mk (Kd.C_max hC)
  have B0 := Aside0.mk hb
  have HG := Aside0.mk hg
  have HX := Aside0.mk hx
  clear HD hC hb hg hx h hl
  go_enter Try.func59, Try.ntmps59
  go_wp2
  go_loopg [8] v.m.length (fun kq v8 w' => ∃ (k : Nat) (mk : Int), v8 = .int .i64 (k : Int) ∧ Aside0 (kq + k = v.m.length) ∧ Aside0 (dV f n v = (v.m.drop k).foldl (fun a x => mx a (f x)) mk) ∧ Aside0 (Box w' g mk) ∧ Aside0 (But g w w'))
  case atStart => exact ⟨0, n, rfl, ⟨by omega⟩, ⟨rfl⟩, ⟨blk_alloc HX.out _⟩, ⟨But.of_below (below_alloc (Below.refl _ _) _)⟩⟩
  case round =>
    obtain ⟨k, mk, rfl, HK, HE, HX, BW⟩ := hrel
    by_cases hk : (k : Int) < (v.m.length : Int)
    · have c1 : decide ((k : Int) < (v.m.length : Int)) = true := decide_eq_true hk
      have p0 : (0 : Int) ≤ (k : Int) := by omega
      have hbw := But.below B0.out HG.out BW.out
      obtain ⟨bd, A1, n1, c1, A2, n2, c2, x, rfl, hx, x1, x2, hkx⟩ := at_T hd HC.out k (by omega)
      replace x1 := pw_cell_below hbw x1
      replace x2 := pw_cell_below hbw x2
      have hw : IntKind.i64.wrap ((k : Int) + 1) = ((k + 1 : Nat) : Int) := by have := HM.out; rw [IntKind.wrap_i64]; omega
      have HI := Aside0.mk (show k < v.m.length by omega)
      have HST := Aside0.mk (show (v.m.drop k).foldl (fun a x => mx a (f x)) mk = (v.m.drop (k + 1)).foldl (fun a x => mx a (f x)) (mx mk (f x)) by
        obtain ⟨h1, rfl⟩ := List.getElem?_eq_some_iff.1 hx
        rw [List.drop_eq_getElem_cons h1]
        rfl)
      obtain ⟨wa, hwa⟩ : ∃ wa, wa = wr.alloc (.cells #[.slice A1 n1 c1, .slice A2 n2 c2] 25) := ⟨_, rfl⟩
      have HWA := Aside0.mk hwa
      have bwa : Below wr.heap.size wr wa := by rw [hwa]; exact below_alloc (Below.refl _ _) _
      have BWA := Aside0.mk bwa
      have h3 := blk_below HX.out bwa
      have h4 : wa.heap[wr.heap.size]? = some (.cells #[.slice A1 n1 c1, .slice A2 n2 c2] 25 (0, 0)) := by rw [hwa]; exact blk_new _ _
      have HXA := Aside0.mk h3
      have HXT := Aside0.mk h4
      have i1 : wa.cell? ⟨g, 0, none⟩ = some (.int .i64 mk) := (blk_cell h3 0).trans rfl
      have i2 : wa.cell? ⟨wr.heap.size, 0, none⟩ = some (.slice A1 n1 c1) := (blk_cell h4 0).trans rfl
      have i3 : wa.cell? ⟨wr.heap.size, 1, none⟩ = some (.slice A2 n2 c2) := (blk_cell h4 1).trans rfl
      have f1 := blk_frozen h3 0
      have HT := Aside0.mk (fun m => HQ.out (wa.drewN m) x _ (d.K_below (below_then (below_then hbw hbw.size bwa) (Nat.le_trans hbw.size bwa.size) (pw_below_drewN (Below.refl wa.heap.size wa) m)) hkx))
      replace hk := eq_true hk
      clear hx hkx hbw bwa h3 h4 hwa
      obtain ⟨q, hq⟩ : ∃ q, q = mx mk (f x) := ⟨_, rfl⟩
      have hmx : (if mk < f x then f x else mk) = q := hq.symm
      have HQQ := Aside0.mk hq
      clear hq
      go_wp2_with fail
      rw [← HWA.out]
      go_region_with (first
        | (go_at_call 17; refine (HT.out _).mono ?_; rintro r w2 ⟨rfl, b2⟩
           have b3 := (pw_below_drewN (Below.refl wa.heap.size wa) _).trans b2
           have g2 := blk_below HXA.out b3
           have j1 := (blk_cell g2 0).trans rfl
           have f2 := blk_frozen g2 0
           have B3 := Aside0.mk b3
           clear b2 b3 g2))
      all_goals
        go_wp2
        go_roundg (v.m.length - (k + 1))
        case measure => have := HK.out; have := HI.out; omega
        case rel => exact ⟨k + 1, q, rfl, ⟨by have := HI.out; omega⟩, ⟨by rw [HE.out, HST.out, HQQ.out]⟩, ⟨blk_put (blk_below HXA.out B3.out) 0 _ rfl⟩, ⟨BW.out.trans ((But.of_below BWA.out).trans ((But.of_below B3.out).trans (But.set _ _ _)))⟩⟩
    · have c1 : decide ((k : Int) < (v.m.length : Int)) = false := decide_eq_false hk
      have c2 : decide (k < v.m.length) = false := decide_eq_false (by omega)
      have HF := Aside0.mk (show dV f n v = mk by rw [HE.out, List.drop_eq_nil_of_le (by omega)]; rfl)
      clear hk
      go_wp2
      go_end0
      exact ⟨rfl, by rw [HF.out]; exact HX.out, BW.out⟩
def deepT (f : α → Int) (t : ST α) : Int := wrap64 (foldS (dV f) 0 t.slots + 1)
theorem Deep_c {f : α → Int} (hd : Two d) (HD : Gives d 17 f) : Gives (kT d) 17 (deepT f) := by
  intro w x cs h
  obtain ⟨A, c, A', ca, rfl, hl, hC, hl2, hR⟩ := kT_open h
  have HC := Aside0.mk (each_deep (Deep1_c hd HD) (w0 := w) (w := (w.alloc (.cells #[.slice A x.slots.length c, .slice A' x.rest.length ca] 25)).alloc (.cells #[.int .i64 0] 3)) (g := w.heap.size + 1) (n := 0) (c := c) (vr := .slice A' x.rest.length ca) ⟨A', x.rest.length, ca, rfl⟩ hC (b2 _ _ _) (Nat.le_succ _) (by have := blk_new (w.alloc (.cells #[.slice A x.slots.length c, .slice A' x.rest.length ca] 25)) (.cells #[.int .i64 0] 3); rw [World.size_alloc] at this; exact this))
  clear hl hC hl2 hR h HD
  go_enter Try.func17, Try.ntmps17
  go_wp2_with (first | (go_at_call 58; refine HC.out.mono ?_; rintro r w2 ⟨rfl, hx2, bx2⟩; have j1 := (blk_cell hx2 0).trans rfl; have BX2 := Aside0.mk bx2; clear hx2 bx2))
  go_ret
  exact ⟨rfl, But.below (b2 _ _ _) (Nat.le_succ _) BX2.out⟩
end
def deepN : (n : Nat) → TN n → Int
  | 0 => fun _ => 0
  | n + 1 => deepT (deepN n)
theorem DeepN_c : ∀ n, Gives (kN n) 17 (deepN n)
  | 0 => fun w x cs h => h.elim
  | n + 1 => Deep_c (kN_two n) (DeepN_c n)
end Go.Proofs.Ytbpnfpckoapdbaa.Tr

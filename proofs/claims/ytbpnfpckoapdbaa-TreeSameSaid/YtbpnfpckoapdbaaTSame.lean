/- Which trees are the same; conditions stand at each. -/
import Derived.Test.YtbpnfpckoapdbaaTree
namespace Go.Proofs.Ytbpnfpckoapdbaa.Tr
open Go.RowKit Go.Proofs.YtbpnfpckoapdbaaW.PrintWords Go.Proofs.YtbpnfpckoapdbaaW.PrintLast Go.Proofs.YtbpnfpckoapdbaaW.PrintMore Go.Proofs.Ytbpnfpckoapdbaa.Open
set_option linter.unusedVariables false
set_option linter.unusedSimpArgs false
set_option maxHeartbeats 1000000
set_option maxRecDepth 100000
/-- Lists are the same, by whatever tells of two. -/
def eqL {α : Type} (e : α → α → Bool) : List α → List α → Bool
  | [], [] => true
  | x :: xs, y :: ys => e x y && eqL e xs ys
  | _, _ => false
section
variable {α : Type} {e : α → α → Bool}
theorem eqL_len : ∀ {xs ys : List α}, xs.length ≠ ys.length → eqL e xs ys = false
  | [], [], h => absurd rfl h
  | x :: xs, y :: ys, h => by
    simp only [eqL, eqL_len (xs := xs) (ys := ys) (fun h1 => h (by simp [h1])), Bool.and_false]
  | [], _ :: _, _ => rfl
  | _ :: _, [], _ => rfl
theorem eqL_at {xs ys : List α} {i : Nat} {x y : α} (hx : xs[i]? = some x) (hy : ys[i]? = some y) : eqL e (xs.drop i) (ys.drop i) = (e x y && eqL e (xs.drop (i + 1)) (ys.drop (i + 1))) := by
  obtain ⟨h1, rfl⟩ := List.getElem?_eq_some_iff.1 hx
  obtain ⟨h2, rfl⟩ := List.getElem?_eq_some_iff.1 hy
  rw [List.drop_eq_getElem_cons h1, List.drop_eq_getElem_cons h2, eqL]
theorem eqL_end {xs ys : List α} {i : Nat} (h1 : xs.length ≤ i) (h2 : ys.length ≤ i) : eqL e (xs.drop i) (ys.drop i) = true := by
  rw [List.drop_eq_nil_of_le h1, List.drop_eq_nil_of_le h2]
  rfl
end
def eqR (x y : SR) : Bool := ((x.f0 == y.f0) && ((x.f1 == y.f1) && ((x.f2 == y.f2) && (x.f3.toList == y.f3.toList))))
section
variable {α : Type} (e : α → α → Bool)
def eqV (x y : SV α) : Bool := x.n == y.n && x.s.toList == y.s.toList && eqL e x.m y.m
def eqS (x y : SS α) : Bool := x.num == y.num && eqL (eqV e) x.vals y.vals
def eqT (x y : ST α) : Bool := eqL eqR x.rest y.rest && eqL (eqS e) x.slots y.slots
end
def Tells {α : Type} (d : Kd α) (F : FuncId) (e : α → α → Bool) : Prop :=
  ∀ (w : World) (x y : α) (cs cs' : List Value), d.K w x cs → d.K w y cs' → Calls Try.prog F #[.agg cs.toArray, .agg cs'.toArray] w fun r w' => r = .returned (.bool (e x y)) ∧ Below w.heap.size w w'
theorem cell_new {w : World} {a : Addr} {v : Value} (h : w.cell? a = some v) (o : Obj) : (w.alloc o).cell? a = some v := pw_cell_below (below_alloc (Below.refl _ _) o) h
theorem EqT_c {α : Type} {d : Kd α} {e : α → α → Bool} (hd : Two d) (HE : Tells d 16 e) {w : World} {A B : Option Addr} {c c' : Nat} {xs ys : List α} (hA : d.C w A xs.length xs) (hB : d.C w B ys.length ys) :
    Calls Try.prog 90 #[.slice A xs.length c, .slice B ys.length c', .func (.func 16) #[] #[]] w fun r w' => r = .returned (.bool (eqL e xs ys)) ∧ Below w.heap.size w w' := by
  have HA := Aside0.mk hA
  have HB := Aside0.mk hB
  have HQ := Aside0.mk HE
  have HM := Aside0.mk (Kd.C_max hA)
  clear hA hB HE
  by_cases hl : (xs.length : Int) = (ys.length : Int)
  · have b1 : ((xs.length : Int) != (ys.length : Int)) = false := bne_eq_false_iff_eq.mpr hl
    have b2 : (xs.length == ys.length) = true := by simp; omega
    have HL := Aside0.mk hl
    clear hl
    go_enter Try.func90, Try.ntmps90
    go_wp2
    go_loopg [17] xs.length (fun kq v17 w' => ∃ i : Nat, v17 = .int .i64 (i : Int) ∧ Aside0 (kq + i = xs.length) ∧ Aside0 (eqL e xs ys = eqL e (xs.drop i) (ys.drop i)) ∧ Aside0 (Below w.heap.size w w'))
    case atStart => exact ⟨0, rfl, ⟨by omega⟩, ⟨rfl⟩, ⟨Below.refl _ _⟩⟩
    case round =>
      obtain ⟨i, rfl, HK, HE, BW⟩ := hrel
      by_cases hi : (i : Int) < (xs.length : Int)
      · have c1 : decide ((i : Int) < (xs.length : Int)) = true := decide_eq_true hi
        have p0 : (0 : Int) ≤ (i : Int) := by omega
        have q2 : (i : Int) < (ys.length : Int) := by have := HL.out; omega
        obtain ⟨ad, A1, n1, m1, A2, n2, m2, x, rfl, hx, x1, x2, hk⟩ := at_T hd (Kd.C_below HA.out BW.out) i (by omega)
        obtain ⟨ad', A1', n1', m1', A2', n2', m2', y, rfl, hy, y1, y2, hk'⟩ := at_T hd (Kd.C_below HB.out BW.out) i (by omega)
        have y3 := cell_new y1
        have y4 := cell_new y2
        have HX := Aside0.mk hx
        have HY := Aside0.mk hy
        have K1 := Aside0.mk hk
        have K2 := Aside0.mk hk'
        have hw : IntKind.i64.wrap ((i : Int) + 1) = ((i + 1 : Nat) : Int) := by have := HM.out; rw [IntKind.wrap_i64]; omega
        have HI := Aside0.mk (show i < xs.length by omega)
        replace hi := eq_true hi
        replace q2 := eq_true q2
        clear hx hy hk hk' y1 y2
        have bw : Below wr.heap.size wr ((wr.alloc (.cells #[.slice A1 n1 m1, .slice A2 n2 m2] 25)).alloc (.cells #[.slice A1' n1' m1', .slice A2' n2' m2'] 25)) := below_alloc (below_alloc (Below.refl _ _) _) _
        have HC := Aside0.mk (HQ.out _ _ _ _ _ (d.K_below bw K1.out) (d.K_below bw K2.out))
        have HN := Aside0.mk (eqL_at (e := e) HX.out HY.out)
        clear bw
        cases he : e x y with
        | true =>
          rw [he] at HC HN
          go_wp2_with (first | (go_at_call 16; refine HC.out.mono ?_; rintro r w2 ⟨rfl, b2⟩; have B2 := Aside0.mk b2; clear b2))
          go_roundg (xs.length - (i + 1))
          case measure => have := HK.out; have := HI.out; omega
          case rel =>
            refine ⟨i + 1, rfl, ⟨by have := HI.out; omega⟩, ⟨by rw [HE.out, HN.out, Bool.true_and]⟩, ⟨BW.out.trans ((below_alloc (below_alloc (Below.refl _ _) _) _).trans (B2.out.mono (by simp only [World.size_alloc]; omega)) |>.mono BW.out.size)⟩⟩
        | false =>
          rw [he] at HC HN
          have HF := Aside0.mk (show eqL e xs ys = false by rw [HE.out, HN.out, Bool.false_and])
          go_wp2_with (first | (go_at_call 16; refine HC.out.mono ?_; rintro r w2 ⟨rfl, b2⟩; have B2 := Aside0.mk b2; clear b2))
          go_ret
          exact ⟨by rw [HF.out]; rfl, BW.out.trans ((below_alloc (below_alloc (Below.refl _ _) _) _).trans (B2.out.mono (by simp only [World.size_alloc]; omega)) |>.mono BW.out.size)⟩
      · have c1 : decide ((i : Int) < (xs.length : Int)) = false := decide_eq_false hi
        have c2 : decide (i < xs.length) = false := decide_eq_false (by omega)
        have HF := Aside0.mk (show eqL e xs ys = true by rw [HE.out]; exact eqL_end (by omega) (by have := HL.out; omega))
        clear hi
        go_wp2
        go_ret
        exact ⟨by rw [HF.out]; rfl, BW.out⟩
  · have b1 : ((xs.length : Int) != (ys.length : Int)) = true := bne_iff_ne.mpr hl
    have b2 : (xs.length == ys.length) = false := by simp; omega
    have HF := Aside0.mk (eqL_len (e := e) (xs := xs) (ys := ys) (by omega))
    clear hl
    go_enter Try.func90, Try.ntmps90
    go_wp2
    go_ret
    exact ⟨by rw [HF.out]; rfl, Below.refl _ _⟩
theorem EqV_c {α : Type} {d : Kd α} {e : α → α → Bool} (HE : Tells (kV d) 57 (eqV e)) {w : World} {A B : Option Addr} {c c' : Nat} {xs ys : List (SV α)} (hA : (kV d).C w A xs.length xs) (hB : (kV d).C w B ys.length ys) :
    Calls Try.prog 56 #[.slice A xs.length c, .slice B ys.length c', .func (.func 57) #[] #[]] w fun r w' => r = .returned (.bool (eqL (eqV e) xs ys)) ∧ Below w.heap.size w w' := by
  have HA := Aside0.mk hA
  have HB := Aside0.mk hB
  have HQ := Aside0.mk HE
  have HM := Aside0.mk (Kd.C_max hA)
  clear hA hB HE
  by_cases hl : (xs.length : Int) = (ys.length : Int)
  · have b1 : ((xs.length : Int) != (ys.length : Int)) = false := bne_eq_false_iff_eq.mpr hl
    have b2 : (xs.length == ys.length) = true := by simp; omega
    have HL := Aside0.mk hl
    clear hl
    go_enter Try.func56, Try.ntmps56
    go_wp2
    go_loopg [17] xs.length (fun kq v17 w' => ∃ i : Nat, v17 = .int .i64 (i : Int) ∧ Aside0 (kq + i = xs.length) ∧ Aside0 (eqL (eqV e) xs ys = eqL (eqV e) (xs.drop i) (ys.drop i)) ∧ Aside0 (Below w.heap.size w w'))
    case atStart => exact ⟨0, rfl, ⟨by omega⟩, ⟨rfl⟩, ⟨Below.refl _ _⟩⟩
    case round =>
      obtain ⟨i, rfl, HK, HE, BW⟩ := hrel
      by_cases hi : (i : Int) < (xs.length : Int)
      · have c1 : decide ((i : Int) < (xs.length : Int)) = true := decide_eq_true hi
        have p0 : (0 : Int) ≤ (i : Int) := by omega
        have q2 : (i : Int) < (ys.length : Int) := by have := HL.out; omega
        obtain ⟨ad, A1, m1, x, rfl, hx, x1, x2, x3, hk⟩ := at_Vk (Kd.C_below HA.out BW.out) i (by omega)
        obtain ⟨ad', A1', m1', y, rfl, hy, y1, y2, y5, hk'⟩ := at_Vk (Kd.C_below HB.out BW.out) i (by omega)
        have y3 := cell_new y1
        have y4 := cell_new y2
        have y6 := cell_new y5
        have HX := Aside0.mk hx
        have HY := Aside0.mk hy
        have K1 := Aside0.mk hk
        have K2 := Aside0.mk hk'
        have hw : IntKind.i64.wrap ((i : Int) + 1) = ((i + 1 : Nat) : Int) := by have := HM.out; rw [IntKind.wrap_i64]; omega
        have HI := Aside0.mk (show i < xs.length by omega)
        replace hi := eq_true hi
        replace q2 := eq_true q2
        clear hx hy hk hk' y1 y2 y5
        have bw : Below wr.heap.size wr ((wr.alloc (.cells #[.int .u64 x.n, .string x.s, .slice A1 x.m.length m1] 70)).alloc (.cells #[.int .u64 y.n, .string y.s, .slice A1' y.m.length m1'] 70)) := below_alloc (below_alloc (Below.refl _ _) _) _
        have HC := Aside0.mk (HQ.out _ _ _ _ _ ((kV d).K_below bw K1.out) ((kV d).K_below bw K2.out))
        have HN := Aside0.mk (eqL_at (e := eqV e) HX.out HY.out)
        clear bw
        cases he : eqV e x y with
        | true =>
          rw [he] at HC HN
          go_wp2_with (first | (go_at_call 57; refine HC.out.mono ?_; rintro r w2 ⟨rfl, b2⟩; have B2 := Aside0.mk b2; clear b2))
          go_roundg (xs.length - (i + 1))
          case measure => have := HK.out; have := HI.out; omega
          case rel =>
            refine ⟨i + 1, rfl, ⟨by have := HI.out; omega⟩, ⟨by rw [HE.out, HN.out, Bool.true_and]⟩, ⟨BW.out.trans ((below_alloc (below_alloc (Below.refl _ _) _) _).trans (B2.out.mono (by simp only [World.size_alloc]; omega)) |>.mono BW.out.size)⟩⟩
        | false =>
          rw [he] at HC HN
          have HF := Aside0.mk (show eqL (eqV e) xs ys = false by rw [HE.out, HN.out, Bool.false_and])
          go_wp2_with (first | (go_at_call 57; refine HC.out.mono ?_; rintro r w2 ⟨rfl, b2⟩; have B2 := Aside0.mk b2; clear b2))
          go_ret
          exact ⟨by rw [HF.out]; rfl, BW.out.trans ((below_alloc (below_alloc (Below.refl _ _) _) _).trans (B2.out.mono (by simp only [World.size_alloc]; omega)) |>.mono BW.out.size)⟩
      · have c1 : decide ((i : Int) < (xs.length : Int)) = false := decide_eq_false hi
        have c2 : decide (i < xs.length) = false := decide_eq_false (by omega)
        have HF := Aside0.mk (show eqL (eqV e) xs ys = true by rw [HE.out]; exact eqL_end (by omega) (by have := HL.out; omega))
        clear hi
        go_wp2
        go_ret
        exact ⟨by rw [HF.out]; rfl, BW.out⟩
  · have b1 : ((xs.length : Int) != (ys.length : Int)) = true := bne_iff_ne.mpr hl
    have b2 : (xs.length == ys.length) = false := by simp; omega
    have HF := Aside0.mk (eqL_len (e := eqV e) (xs := xs) (ys := ys) (by omega))
    clear hl
    go_enter Try.func56, Try.ntmps56
    go_wp2
    go_ret
    exact ⟨by rw [HF.out]; rfl, Below.refl _ _⟩
theorem EqS_c {α : Type} {d : Kd α} {e : α → α → Bool} (HE : Tells (kS d) 55 (eqS e)) {w : World} {A B : Option Addr} {c c' : Nat} {xs ys : List (SS α)} (hA : (kS d).C w A xs.length xs) (hB : (kS d).C w B ys.length ys) :
    Calls Try.prog 54 #[.slice A xs.length c, .slice B ys.length c', .func (.func 55) #[] #[]] w fun r w' => r = .returned (.bool (eqL (eqS e) xs ys)) ∧ Below w.heap.size w w' := by
  have HA := Aside0.mk hA
  have HB := Aside0.mk hB
  have HQ := Aside0.mk HE
  have HM := Aside0.mk (Kd.C_max hA)
  clear hA hB HE
  by_cases hl : (xs.length : Int) = (ys.length : Int)
  · have b1 : ((xs.length : Int) != (ys.length : Int)) = false := bne_eq_false_iff_eq.mpr hl
    have b2 : (xs.length == ys.length) = true := by simp; omega
    have HL := Aside0.mk hl
    clear hl
    go_enter Try.func54, Try.ntmps54
    go_wp2
    go_loopg [17] xs.length (fun kq v17 w' => ∃ i : Nat, v17 = .int .i64 (i : Int) ∧ Aside0 (kq + i = xs.length) ∧ Aside0 (eqL (eqS e) xs ys = eqL (eqS e) (xs.drop i) (ys.drop i)) ∧ Aside0 (Below w.heap.size w w'))
    case atStart => exact ⟨0, rfl, ⟨by omega⟩, ⟨rfl⟩, ⟨Below.refl _ _⟩⟩
    case round =>
      obtain ⟨i, rfl, HK, HE, BW⟩ := hrel
      by_cases hi : (i : Int) < (xs.length : Int)
      · have c1 : decide ((i : Int) < (xs.length : Int)) = true := decide_eq_true hi
        have p0 : (0 : Int) ≤ (i : Int) := by omega
        have q2 : (i : Int) < (ys.length : Int) := by have := HL.out; omega
        obtain ⟨ad, A1, m1, x, rfl, hx, x1, x2, hk⟩ := at_Sk (Kd.C_below HA.out BW.out) i (by omega)
        obtain ⟨ad', A1', m1', y, rfl, hy, y1, y2, hk'⟩ := at_Sk (Kd.C_below HB.out BW.out) i (by omega)
        have y3 := cell_new y1
        have y4 := cell_new y2
        have HX := Aside0.mk hx
        have HY := Aside0.mk hy
        have K1 := Aside0.mk hk
        have K2 := Aside0.mk hk'
        have hw : IntKind.i64.wrap ((i : Int) + 1) = ((i + 1 : Nat) : Int) := by have := HM.out; rw [IntKind.wrap_i64]; omega
        have HI := Aside0.mk (show i < xs.length by omega)
        replace hi := eq_true hi
        replace q2 := eq_true q2
        clear hx hy hk hk' y1 y2
        have bw : Below wr.heap.size wr ((wr.alloc (.cells #[.int .i64 x.num, .slice A1 x.vals.length m1] 59)).alloc (.cells #[.int .i64 y.num, .slice A1' y.vals.length m1'] 59)) := below_alloc (below_alloc (Below.refl _ _) _) _
        have HC := Aside0.mk (HQ.out _ _ _ _ _ ((kS d).K_below bw K1.out) ((kS d).K_below bw K2.out))
        have HN := Aside0.mk (eqL_at (e := eqS e) HX.out HY.out)
        clear bw
        cases he : eqS e x y with
        | true =>
          rw [he] at HC HN
          go_wp2_with (first | (go_at_call 55; refine HC.out.mono ?_; rintro r w2 ⟨rfl, b2⟩; have B2 := Aside0.mk b2; clear b2))
          go_roundg (xs.length - (i + 1))
          case measure => have := HK.out; have := HI.out; omega
          case rel =>
            refine ⟨i + 1, rfl, ⟨by have := HI.out; omega⟩, ⟨by rw [HE.out, HN.out, Bool.true_and]⟩, ⟨BW.out.trans ((below_alloc (below_alloc (Below.refl _ _) _) _).trans (B2.out.mono (by simp only [World.size_alloc]; omega)) |>.mono BW.out.size)⟩⟩
        | false =>
          rw [he] at HC HN
          have HF := Aside0.mk (show eqL (eqS e) xs ys = false by rw [HE.out, HN.out, Bool.false_and])
          go_wp2_with (first | (go_at_call 55; refine HC.out.mono ?_; rintro r w2 ⟨rfl, b2⟩; have B2 := Aside0.mk b2; clear b2))
          go_ret
          exact ⟨by rw [HF.out]; rfl, BW.out.trans ((below_alloc (below_alloc (Below.refl _ _) _) _).trans (B2.out.mono (by simp only [World.size_alloc]; omega)) |>.mono BW.out.size)⟩
      · have c1 : decide ((i : Int) < (xs.length : Int)) = false := decide_eq_false hi
        have c2 : decide (i < xs.length) = false := decide_eq_false (by omega)
        have HF := Aside0.mk (show eqL (eqS e) xs ys = true by rw [HE.out]; exact eqL_end (by omega) (by have := HL.out; omega))
        clear hi
        go_wp2
        go_ret
        exact ⟨by rw [HF.out]; rfl, BW.out⟩
  · have b1 : ((xs.length : Int) != (ys.length : Int)) = true := bne_iff_ne.mpr hl
    have b2 : (xs.length == ys.length) = false := by simp; omega
    have HF := Aside0.mk (eqL_len (e := eqS e) (xs := xs) (ys := ys) (by omega))
    clear hl
    go_enter Try.func54, Try.ntmps54
    go_wp2
    go_ret
    exact ⟨by rw [HF.out]; rfl, Below.refl _ _⟩
-- END EQ
/-- Two boxes that were made last, behind whatever came then. -/
theorem boxes {w w2 : World} {cs cs' : Array Value} {t t' : TypeId} (h : Below ((w.alloc (.cells cs t)).alloc (.cells cs' t')).heap.size ((w.alloc (.cells cs t)).alloc (.cells cs' t')) w2) : w2.heap[w.heap.size]? = some (.cells cs t (0, 0)) ∧ w2.heap[w.heap.size + 1]? = some (.cells cs' t' (0, 0)) := by
  have h1 := blk_alloc (blk_new w (.cells cs t)) (.cells cs' t')
  have h2 := blk_new (w.alloc (.cells cs t)) (.cells cs' t')
  rw [World.size_alloc] at h2
  exact ⟨(h.block _ (blk_lt h1)).trans h1, (h.block _ (blk_lt h2)).trans h2⟩
theorem b2 (w : World) (o o' : Obj) : Below w.heap.size w ((w.alloc o).alloc o') := below_alloc (below_alloc (Below.refl _ _) _) _
section
variable {α : Type} {d : Kd α} {e : α → α → Bool}
theorem tsame_c (hd : Two d) (HE : Tells d 16 e) : Tells (kV d) 57 (eqV e) := by
  intro w x y cs cs' h h'
  obtain ⟨A, c, rfl, hl, hC⟩ := kV_open h
  obtain ⟨B, c', rfl, hl', hC'⟩ := kV_open h'
  have bw := b2 w (.cells #[.int .u64 x.n, .string x.s, .slice A x.m.length c] 70) (.cells #[.int .u64 y.n, .string y.s, .slice B y.m.length c'] 70)
  have HC := Aside0.mk (EqT_c hd HE (c := c) (c' := c') (Kd.C_below hC bw) (Kd.C_below hC' bw))
  clear bw hC hC' h h' HE
  cases hn : x.n == y.n with
  | false =>
    have HF := Aside0.mk (show eqV e x y = false by simp only [eqV, hn, Bool.false_and])
    go_enter Try.func57, Try.ntmps57
    go_wp2
    go_ret
    exact ⟨by rw [HF.out]; rfl, b2 _ _ _⟩
  | true =>
    cases hs : x.s.toList == y.s.toList with
    | false =>
      have HF := Aside0.mk (show eqV e x y = false by simp only [eqV, hn, hs, Bool.false_and, Bool.and_false])
      go_enter Try.func57, Try.ntmps57
      go_wp2
      go_ret
      exact ⟨by rw [HF.out]; rfl, b2 _ _ _⟩
    | true =>
      have HF := Aside0.mk (show eqV e x y = eqL e x.m y.m by simp only [eqV, hn, hs, Bool.true_and])
      go_enter Try.func57, Try.ntmps57
      go_wp2_with (first | (go_at_call 90; refine HC.out.mono ?_; rintro r w2 ⟨rfl, b2⟩; have B2 := Aside0.mk b2; clear b2))
      go_ret
      exact ⟨by rw [HF.out]; rfl, (b2 _ _ _).trans (B2.out.mono (by simp only [World.size_alloc]; omega))⟩
theorem tsame1_c (hd : Two d) (HE : Tells d 16 e) : Tells (kS d) 55 (eqS e) := by
  intro w x y cs cs' h h'
  obtain ⟨A, c, rfl, hl, hC⟩ := kS_open h
  obtain ⟨B, c', rfl, hl', hC'⟩ := kS_open h'
  have bw := b2 w (.cells #[.int .i64 x.num, .slice A x.vals.length c] 59) (.cells #[.int .i64 y.num, .slice B y.vals.length c'] 59)
  have HC := Aside0.mk (EqV_c (tsame_c hd HE) (c := c) (c' := c') (Kd.C_below hC bw) (Kd.C_below hC' bw))
  clear bw hC hC' h h' HE
  cases hn : x.num == y.num with
  | false =>
    have HF := Aside0.mk (show eqS e x y = false by simp only [eqS, hn, Bool.false_and])
    go_enter Try.func55, Try.ntmps55
    go_wp2
    go_ret
    exact ⟨by rw [HF.out]; rfl, b2 _ _ _⟩
  | true =>
    have HF := Aside0.mk (show eqS e x y = eqL (eqV e) x.vals y.vals by simp only [eqS, hn, Bool.true_and])
    go_enter Try.func55, Try.ntmps55
    go_wp2_with (first | (go_at_call 56; refine HC.out.mono ?_; rintro r w2 ⟨rfl, b2⟩; have B2 := Aside0.mk b2; clear b2))
    go_ret
    exact ⟨by rw [HF.out]; rfl, (b2 _ _ _).trans (B2.out.mono (by simp only [World.size_alloc]; omega))⟩
end
def rdR (xs : List SR) (i : Int) : SR := PTr.rd_T73 xs i
def neB (x y : SR) : Bool := (!((x.f0) == (y.f0)) || (!((x.f1) == (y.f1)) || (!((x.f2) == (y.f2)) || (!(((x.f3).toList) == ((y.f3).toList))))))
theorem neB_eq (x y : SR) : neB x y = !eqR x y := by
  unfold neB eqR
  cases (x.f0 == y.f0) <;> cases (x.f1 == y.f1) <;> cases (x.f2 == y.f2) <;> cases (x.f3.toList == y.f3.toList) <;> rfl
theorem rdR_get {l : List SR} {i : Nat} (h : i < l.length) : l[i]? = some (rdR l (i : Int)) := by
  unfold rdR PTr.rd_T73
  rw [Int.toNat_natCast, List.getD_eq_getElem?_getD, List.getElem?_eq_getElem h]
  rfl
theorem rsame_l (l m : List SR) (hl : l.length = m.length) (hb : l.length ≤ 9223372036854775807) : ∀ (d k i : Nat), i + d = l.length → d < k → PTr.api_Raw.l0 k l m (l.length : Int) (i : Int) = some (eqL eqR (l.drop i) (m.drop i))
  | 0, k, i, h, hk => by
    obtain ⟨k, rfl⟩ : ∃ j, k = j + 1 := ⟨k - 1, by omega⟩
    simp only [PTr.api_Raw.l0]
    rw [if_neg (by omega), eqL_end (by omega) (by omega)]
  | d + 1, k, i, h, hk => by
    obtain ⟨k, rfl⟩ : ∃ j, k = j + 1 := ⟨k - 1, by omega⟩
    have hw : wrap64 ((i : Int) + 1) = ((i + 1 : Nat) : Int) := by unfold wrap64; omega
    have ih := rsame_l l m hl hb d k (i + 1) (by omega) (by omega)
    simp only [PTr.api_Raw.l0]
    rw [if_pos (by omega), if_pos (by omega), if_pos (by omega), if_pos (by omega), hw, ih]
    show (if neB (rdR l (i : Int)) (rdR m (i : Int)) = true then some false else some (eqL eqR (l.drop (i + 1)) (m.drop (i + 1)))) = _
    rw [neB_eq, eqL_at (rdR_get (l := l) (i := i) (by omega)) (rdR_get (l := m) (i := i) (by omega))]
    cases eqR (rdR l (i : Int)) (rdR m (i : Int)) <;> rfl
theorem rsame_f (l m : List SR) (hb : l.length ≤ 9223372036854775807) : PTr.raw_Same.f (l.length + 1) l m = some (eqL eqR l m) := by
  unfold PTr.raw_Same.f PTr.api_Raw.f
  by_cases h : (l.length : Int) = (m.length : Int)
  · rw [if_pos h]
    have := rsame_l l m (by omega) hb l.length (l.length + 1) 0 (by omega) (by omega)
    rw [show ((0 : Nat) : Int) = 0 from rfl] at this
    rw [this]
    rfl
  · rw [if_neg h, eqL_len (by omega)]
    rfl
theorem refsame_l (l m : List SR) (hl : l.length = m.length) (hb : l.length ≤ 9223372036854775807) : ∀ (d k i : Nat), i + d = l.length → d < k → PTr.ecdysisref07_Same.l0 k l m (i : Int) = some (eqL eqR (l.drop i) (m.drop i))
  | 0, k, i, h, hk => by
    obtain ⟨k, rfl⟩ : ∃ j, k = j + 1 := ⟨k - 1, by omega⟩
    simp only [PTr.ecdysisref07_Same.l0]
    rw [if_neg (by omega), eqL_end (by omega) (by omega)]
  | d + 1, k, i, h, hk => by
    obtain ⟨k, rfl⟩ : ∃ j, k = j + 1 := ⟨k - 1, by omega⟩
    have hw : wrap64 ((i : Int) + 1) = ((i + 1 : Nat) : Int) := by unfold wrap64; omega
    have ih := refsame_l l m hl hb d k (i + 1) (by omega) (by omega)
    simp only [PTr.ecdysisref07_Same.l0]
    rw [if_pos (by omega), if_pos (by omega), if_pos (by omega), hw, ih]
    show (if neB (rdR l (i : Int)) (rdR m (i : Int)) = true then some false else some (eqL eqR (l.drop (i + 1)) (m.drop (i + 1)))) = _
    rw [neB_eq, eqL_at (rdR_get (l := l) (i := i) (by omega)) (rdR_get (l := m) (i := i) (by omega))]
    cases eqR (rdR l (i : Int)) (rdR m (i : Int)) <;> rfl
theorem refsame_f (l m : List SR) (hb : l.length ≤ 9223372036854775807) : PTr.ecdysisref07_Same.f (l.length + 1) l m = some (eqL eqR l m) := by
  unfold PTr.ecdysisref07_Same.f
  by_cases h : (l.length : Int) = (m.length : Int)
  · rw [if_pos h]
    exact refsame_l l m (by omega) hb l.length (l.length + 1) 0 (by omega) (by omega)
  · rw [if_neg h, eqL_len (by omega)]
theorem RSame_c {w : World} {A B : Option Addr} {c c' : Nat} {l m : List SR} (hA : kR.C w A l.length l) (hc : l.length ≤ c) (hB : kR.C w B m.length m) (hc' : m.length ≤ c') :
    Calls Try.prog 53 #[.slice A l.length c, .slice B m.length c'] w fun r w' => r = .returned (.bool (eqL eqR l m)) ∧ Below w.heap.size w w' :=
  (PTr.raw_Same.calls _ A c l B c' m _ w hA hc hB hc' (rsame_f l m (Kd.C_max hA))).mono fun r w' h => ⟨h.1, h.2.below⟩
theorem refSame_c {w : World} {A B : Option Addr} {c c' : Nat} {l m : List SR} (hA : kR.C w A l.length l) (hc : l.length ≤ c) (hB : kR.C w B m.length m) (hc' : m.length ≤ c') :
    Calls Try.prog 52 #[.slice A l.length c, .slice B m.length c'] w fun r w' => r = .returned (.bool (eqL eqR l m)) ∧ Below w.heap.size w w' :=
  (PTr.ecdysisref07_Same.calls _ A c l B c' m _ w hA hc hB hc' (refsame_f l m (Kd.C_max hA))).mono fun r w' h => ⟨h.1, h.2.below⟩
section
variable {α : Type} {d : Kd α} {e : α → α → Bool}
theorem tSame_c (hd : Two d) (HE : Tells d 16 e) : Tells (kT d) 16 (eqT e) := by
  intro w x y cs cs' h h'
  obtain ⟨A, c, A', ca, rfl, hl, hC, hl2, hR⟩ := kT_open h
  obtain ⟨B, c', B', cb, rfl, hl', hC', hl2', hR'⟩ := kT_open h'
  have bw := b2 w (.cells #[.slice A x.slots.length c, .slice A' x.rest.length ca] 25) (.cells #[.slice B y.slots.length c', .slice B' y.rest.length cb] 25)
  have HR := Aside0.mk (RSame_c (c := ca) (c' := cb) (Kd.C_below hR bw) hl2 (Kd.C_below hR' bw) hl2')
  have HC := Aside0.mk (fun w2 h2 => EqS_c (tsame1_c hd HE) (c := c) (c' := c') (w := w2) (Kd.C_below (Kd.C_below hC bw) h2) (Kd.C_below (Kd.C_below hC' bw) h2))
  clear bw hC hC' hR hR' h h' HE
  cases hn : eqL eqR x.rest y.rest with
  | false =>
    rw [hn] at HR
    have HF := Aside0.mk (show eqT e x y = false by simp only [eqT, hn, Bool.false_and])
    go_enter Try.func16, Try.ntmps16
    go_wp2_with (first | (go_at_call 53; refine HR.out.mono ?_; rintro r w2 ⟨rfl, b2⟩; have B2 := Aside0.mk b2; clear b2))
    go_ret
    exact ⟨by rw [HF.out]; rfl, (b2 _ _ _).trans (B2.out.mono (by simp only [World.size_alloc]; omega))⟩
  | true =>
    rw [hn] at HR
    have HF := Aside0.mk (show eqT e x y = eqL (eqS e) x.slots y.slots by simp only [eqT, hn, Bool.true_and])
    go_enter Try.func16, Try.ntmps16
    go_wp2_with (first
      | (go_at_call 53; refine HR.out.mono ?_; rintro r w2 ⟨rfl, b2⟩; have B2 := Aside0.mk b2
         have z1 := (blk_cell (boxes b2).1 0).trans rfl
         have z2 := (blk_cell (boxes b2).2 0).trans rfl
         clear b2)
      | (go_at_call 54; refine (HC.out _ B2.out).mono ?_; rintro r w3 ⟨rfl, b3⟩; have B3 := Aside0.mk b3; clear b3))
    go_ret
    exact ⟨by rw [HF.out]; rfl, (b2 _ _ _).trans ((B2.out.trans (B3.out.mono B2.out.size)).mono (by simp only [World.size_alloc]; omega))⟩
end
/-- Trees no deeper than so much are the same. -/
def eqN : (n : Nat) → TN n → TN n → Bool
  | 0 => fun _ _ => true
  | n + 1 => eqT (eqN n)
theorem tSameN_c : ∀ n, Tells (kN n) 16 (eqN n)
  | 0 => fun w x y cs cs' h _ => h.elim
  | n + 1 => tSame_c (kN_two n) (tSameN_c n)
end Go.Proofs.Ytbpnfpckoapdbaa.Tr

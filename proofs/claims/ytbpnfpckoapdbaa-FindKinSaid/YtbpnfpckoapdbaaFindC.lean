/- find.Uses: how many fields name a message; no conditions but that what comes in reads as lists. -/
import Derived.Test.YtbpnfpckoapdbaaFindB
import Derived.Test.YtbpnfpckoapdbaaRng2
namespace Go.Proofs.Ytbpnfpckoapdbaa.M
open Go.RowKit Go.Shelf Go.Proofs.Ytbpnfpckoapdbaa.Rng Go.Proofs.YtbpnfpckoapdbaaW.PrintWords Go.Proofs.YtbpnfpckoapdbaaW.PrintLast Go.Proofs.YtbpnfpckoapdbaaW.PrintMore Go.Proofs.Ytbpnfpckoapdbaa.KD
set_option linter.unusedVariables false
set_option linter.unusedSimpArgs false
set_option maxHeartbeats 1000000
set_option maxRecDepth 100000
attribute [local go_sem] Oper.semAt_some
def cntR (nm : ByteArray) (n : Int) (l : List ByteArray) : Int := l.foldl (fun n r => if r.toList == nm.toList then wrap64 (n + 1) else n) n
theorem cntR_snoc (nm : ByteArray) (n : Int) (l : List ByteArray) (x : ByteArray) : cntR nm n (l ++ [x]) = if x.toList == nm.toList then wrap64 (cntR nm n l + 1) else cntR nm n l := by
  unfold cntR
  rw [List.foldl_append]
  rfl
def usesM (nm : ByteArray) (l : List S47) : Int := l.foldl (fun n m => cntR nm n (refsL m.f1)) 0
theorem usesM_snoc (nm : ByteArray) (l : List S47) (x : S47) : usesM nm (l ++ [x]) = cntR nm (usesM nm l) (refsL x.f1) := by
  unfold usesM
  rw [List.foldl_append]
  rfl
structure UJ (w0 : World) (nm : ByteArray) (n : Int) (W : World) : Prop where
  bel : Below w0.heap.size w0 W
  b1 : W.heap[w0.heap.size + 1]? = some (.cells #[.string nm] 9 (0, 0))
  b2 : W.heap[w0.heap.size + 1 + 1]? = some (.cells #[.int .i64 n] 3 (0, 0))
  hle : w0.heap.size + 3 ≤ W.heap.size
theorem UJ.alloc {w0 W : World} {nm : ByteArray} {n : Int} (h : UJ w0 nm n W) (o : Obj) : UJ w0 nm n (W.alloc o) :=
  ⟨h.bel.alloc (by have := h.hle; omega) _, blk_alloc h.b1 _, blk_alloc h.b2 _, by rw [World.size_alloc]; have := h.hle; omega⟩
theorem UJ.drewN {w0 W : World} {nm : ByteArray} {n : Int} (h : UJ w0 nm n W) (k : Nat) : UJ w0 nm n (W.drewN k) := ⟨pw_below_drewN h.bel k, h.b1, h.b2, h.hle⟩
theorem UJ.below {w0 W W' : World} {nm : ByteArray} {n : Int} (h : UJ w0 nm n W) (hb : Below W.heap.size W W') : UJ w0 nm n W' :=
  ⟨h.bel.trans (hb.mono (by have := h.hle; omega)), blk_below h.b1 hb, blk_below h.b2 hb, Nat.le_trans h.hle hb.size⟩
theorem UJ.putObj {w0 W : World} {nm : ByteArray} {n : Int} (h : UJ w0 nm n W) {k : Nat} {o : Obj} (o' : Obj) (hB : w0.heap.size ≤ k) (hk : W.heap[k]? = some o) (ho : o.isCells = false) : UJ w0 nm n (W.putObj k o') := by
  have hne : ∀ j, (∃ cs t, W.heap[j]? = some (Obj.cells cs t (0, 0))) → (W.putObj k o').heap[j]? = W.heap[j]? := fun j ⟨cs, t, hj⟩ => World.putObj_heap_other (fun e => by subst e; rw [hk] at hj; cases hj; cases ho)
  exact ⟨h.bel.trans ⟨rfl, rfl, rfl, by simp, fun i hi => World.putObj_heap_other (by omega)⟩, (hne _ ⟨_, _, h.b1⟩).trans h.b1, (hne _ ⟨_, _, h.b2⟩).trans h.b2, by simpa using h.hle⟩
theorem UJ.set {w0 W : World} {nm : ByteArray} {n : Int} (h : UJ w0 nm n W) (m : Int) : UJ w0 nm m (W.setCell ⟨w0.heap.size + 1 + 1, 0, none⟩ (.int .i64 m)) :=
  ⟨h.bel.setCell (by simp only; omega) _, (Below.heap_setCell W ⟨w0.heap.size + 1 + 1, 0, none⟩ _ (w0.heap.size + 1) (by simp)).trans h.b1, blk_put h.b2 0 _ rfl, by rw [World.size_setCell]; exact h.hle⟩
def find_Uses.f (l0_0 : List S86) (l0_1 : List S47) (a1 : ByteArray) : Option Int := some (usesM a1 l0_1)
/-- While the fields of a message are gone through. -/
structure UR (w0 W0 : World) (nm : ByteArray) (n : Int) (mb : Nat) (m : ByteArray) (A A' : Option Addr) (c n' c' : Nat) (fs : List S50) (pre : List ByteArray) (W : World) : Prop where
  u : UJ w0 nm (cntR nm n pre) W
  box : W.heap[mb]? = some (.cells #[.string m, .slice A fs.length c, .slice A' n' c'] 47 (0, 0))
  rd : Kd.C k50 w0 A fs.length fs
  mbl : w0.heap.size + 3 ≤ mb
  ko : KeepsOthers W0 W
theorem UR.keeps (w0 W0 : World) (nm : ByteArray) (n : Int) (mb : Nat) (m : ByteArray) (A A' : Option Addr) (c n' c' : Nat) (fs : List S50) : Keeps mb m A A' c n' c' fs (UR w0 W0 nm n mb m A A' c n' c' fs) :=
  ⟨fun _ _ h => h.box, fun _ _ h => Kd.C_below h.rd h.u.bel, fun _ _ o h => ⟨h.u.alloc o, blk_alloc h.box _, h.rd, h.mbl, h.ko.trans (KeepsOthers.alloc _ _)⟩, fun _ _ k h => ⟨h.u.drewN k, h.box, h.rd, h.mbl, h.ko.trans ⟨Nat.le_refl _, fun _ _ hk _ => hk⟩⟩⟩
theorem KO_put {W0 W : World} (h : KeepsOthers W0 W) {l : Nat} (o' : Obj) (hl : W0.heap.size ≤ l) : KeepsOthers W0 (W.putObj l o') :=
  ⟨by simpa using h.size, fun k o hk ho => (World.putObj_heap_other (by have := (Array.getElem?_eq_some_iff.1 hk).1; omega)).trans (h.same k o hk ho)⟩
theorem UR.firm {w0 W0 : World} {nm : ByteArray} {n : Int} {mb : Nat} {m : ByteArray} {A A' : Option Addr} {c n' c' : Nat} {fs : List S50} (pre : List ByteArray) {B : Nat} (hB : w0.heap.size ≤ B) (hB' : W0.heap.size ≤ B) : Firm B (UR w0 W0 nm n mb m A A' c n' c' fs pre) :=
  ⟨fun W l o o' h hl hk ho => ⟨h.u.putObj o' (Nat.le_trans hB hl) hk ho, (World.putObj_heap_other (fun e => by subst e; have := h.box; rw [hk] at this; cases this; cases ho)).trans h.box, h.rd, h.mbl, KO_put h.ko o' (Nat.le_trans hB' hl)⟩, fun W o h => ⟨h.u.alloc o, blk_alloc h.box _, h.rd, h.mbl, h.ko.trans (KeepsOthers.alloc _ _)⟩⟩
theorem find_Uses.calls (A0_0 : Option Addr) (c0_0 : Nat) (l0_0 : List S86) (A0_1 : Option Addr) (c0_1 : Nat) (l0_1 : List S47) (a1 : ByteArray) (r : Int) (w : World) (hr0_0 : Kd.C k86 w A0_0 l0_0.length l0_0) (hc0_0 : l0_0.length ≤ c0_0) (hr0_1 : Kd.C k47 w A0_1 l0_1.length l0_1) (hc0_1 : l0_1.length ≤ c0_1) (h : find_Uses.f l0_0 l0_1 a1 = some r) :
    Calls Try.prog 31 #[.agg #[.slice A0_0 l0_0.length c0_0, .slice A0_1 l0_1.length c0_1], .string a1] w fun e w' => e = .returned (.int .i64 r) ∧ Below w.heap.size w w' := by
  obtain rfl := Option.some.inj h
  have HA := Aside0.mk hr0_1
  have HM := Aside0.mk (Kd.C_max hr0_1)
  clear hr0_0 hr0_1 hc0_0 hc0_1 h
  refine (callsIn_wide (n := 9)).1 ?_
  refine callsIn_of_wp_marks Try.func31 rfl trivial ?_ rfl
  refine wpIn_wide.2 ?_
  simp only [Try.ntmps31, List.size_toArray, List.length_cons, List.length_nil, Nat.reduceAdd, Nat.reduceSub, Array.replicate_succ, Array.replicate_zero, List.push_toArray, List.append_toArray, List.nil_append, List.cons_append, Array.append_assoc]
  go_wp2
  have U0 : UJ w a1 (usesM a1 (l0_1.take 0)) (((w.alloc (.cells #[.slice A0_0 l0_0.length c0_0, .slice A0_1 l0_1.length c0_1] 35)).alloc (.cells #[.string a1] 9)).alloc (.cells #[.int .i64 0] 3)) := by
    refine ⟨((Below.refl _ _).alloc (Nat.le_refl _) _ |>.alloc (by simp) _).alloc (by simp; omega) _, ?_, ?_, by simp⟩
    · have := blk_new (w.alloc (.cells #[.slice A0_0 l0_0.length c0_0, .slice A0_1 l0_1.length c0_1] 35)) (.cells #[.string a1] 9)
      rw [World.size_alloc] at this
      exact blk_alloc this _
    · have := blk_new ((w.alloc (.cells #[.slice A0_0 l0_0.length c0_0, .slice A0_1 l0_1.length c0_1] 35)).alloc (.cells #[.string a1] 9)) (.cells #[.int .i64 0] 3)
      rw [World.size_alloc, World.size_alloc] at this
      exact this
  have HU0 := Aside0.mk U0
  clear U0
  refine wp_loop_ghost_k (fun kq aq wq => ∃ u7 u8 u12 u13 u14 u15 u16 u17 u19 u20 u21 u22 u23 u24 ds, (∃ i : Nat, u12 = .int .i64 (i : Int) ∧ Aside0 (kq + i = l0_1.length) ∧ Aside0 (UJ w a1 (usesM a1 (l0_1.take i)) wq) ∧ Aside0 (Marks w.heap.size ds wq)) ∧ aq = { tmps := #[.agg #[.slice A0_0 l0_0.length c0_0, .slice A0_1 l0_1.length c0_1], .string a1, .pointer (some ⟨w.heap.size, 0, none⟩), .pointer (some ⟨w.heap.size + 1, 0, none⟩), .int .i64 0, .pointer (some ⟨w.heap.size + 1 + 1, 0, none⟩), undef, u7, u8, .pointer (some ⟨w.heap.size, 1, none⟩), .slice A0_1 l0_1.length c0_1, .int .i64 (l0_1.length : Int), u12, u13, u14, u15, u16, u17, undef, u19, u20, u21, u22, u23, u24, undef], defers := ds }) l0_1.length ?start ?round
  case start =>
    (repeat apply Exists.intro)
    exact ⟨⟨0, rfl, ⟨by omega⟩, HU0, ⟨show Marks _ [] _ from trivial⟩⟩, rfl⟩
  case round =>
    intro gk aq wr hinv
    obtain ⟨u7, u8, u12, u13, u14, u15, u16, u17, u19, u20, u21, u22, u23, u24, ds, ⟨i, rfl, HK, HU, HMK⟩, rfl⟩ := hinv
    intro _ _ _ _
    clear HU0
    by_cases hi : (i : Int) < (l0_1.length : Int)
    · have c1 : decide ((i : Int) < (l0_1.length : Int)) = true := decide_eq_true hi
      have p0 : (0 : Int) ≤ (i : Int) := by omega
      obtain ⟨ad, s0, A1, n1, m1, A2, n2, m2, x, rfl, hx, q0, q1, q2, hk⟩ := atK_Message HA.out i (by omega)
      have hk2 := k47_open hk
      obtain ⟨B1, d1, B2, d2, he, _, hC1, _, _⟩ := hk2
      injection he with e0 he
      injection he with e1 he
      injection he with e2 he
      injection e0 with e0
      injection e1 with e1 e1b e1c
      injection e2 with e2 e2b e2c
      subst e0 e1 e1b e1c e2 e2b e2c
      replace q0 := pw_cell_below HU.out.bel q0
      replace q1 := pw_cell_below HU.out.bel q1
      replace q2 := pw_cell_below HU.out.bel q2
      have hw : IntKind.i64.wrap ((i : Int) + 1) = ((i + 1 : Nat) : Int) := by have := HM.out; rw [IntKind.wrap_i64]; omega
      have HX := Aside0.mk hx
      have HI := Aside0.mk (show i < l0_1.length by omega)
      have HT := Aside0.mk (take_snoc' hx)
      have HC1 := Aside0.mk hC1
      replace hi := eq_true hi
      clear hx hk he hC1
      go_wp2_with (first | (go_at_call 75; refine (refs_c _ _ _ _ _ _ _ _).mono ?_; rintro e w2 ⟨rfl, b2, x2⟩; have B2_ := Aside0.mk b2; have X2 := Aside0.mk x2; clear b2 x2))
      have K2 := Aside0.mk (show KeepsOthers wr w2 from (KeepsOthers.alloc wr _).trans ⟨B2_.out.size, fun k o hk _ => (B2_.out.block k (Array.getElem?_eq_some_iff.1 hk).1).trans hk⟩)
      have J0 : UR w wr a1 (usesM a1 (l0_1.take i)) (wr.heap.size + 1) x.f0 A1 A2 m1 x.f2.length m2 x.f1 [] w2 := by
        have hx2 := X2.out
        rw [World.size_alloc] at hx2
        exact ⟨(HU.out.alloc _).below B2_.out, hx2, HC1.out, by have := HU.out.hle; omega, K2.out⟩
      have HJ0 := Aside0.mk J0
      have L3 := Aside0.mk K2.out.size
      have L2 := Aside0.mk (show w.heap.size ≤ w2.heap.size by have := HU.out.hle; have := B2_.out.size; rw [World.size_alloc] at this; omega)
      clear J0
      refine (wpIn_wide (n := 9)).1 ?_
      refine range_on (gf := 99) (lb := #[.pointer (some ⟨(wr.heap.size + 1), 0, none⟩)]) rfl (enters_of Try.func99 (by kernel_rfl) rfl)
        (refs_on (UR.keeps w wr a1 (usesM a1 (l0_1.take i)) (wr.heap.size + 1) x.f0 A1 A2 m1 x.f2.length m2 x.f1) 8 (by omega)) (fun _ => rfl)
        (UR.firm _ L2.out L3.out) (UR.firm _ L2.out L3.out) (fun _ _ => UR.firm _ L2.out L3.out) (fun _ _ => UR.firm _ L2.out L3.out) HJ0.out
        (fun r a₁ W => a₁ = { tmps := #[.agg #[.slice A0_0 l0_0.length c0_0, .slice (some ad) l0_1.length c0_1], .string a1, .pointer (some ⟨w.heap.size, 0, none⟩), .pointer (some ⟨w.heap.size + 1, 0, none⟩), .int .i64 0, .pointer (some ⟨w.heap.size + 1 + 1, 0, none⟩), undef, .pointer (some ⟨wr.heap.size, 0, none⟩), .string r, .pointer (some ⟨w.heap.size, 1, none⟩), .slice (some ad) l0_1.length c0_1, .int .i64 (l0_1.length : Int), .int .i64 (i : Int), .bool true, .pointer (some (ad.add (i * 3))), .agg #[.string x.f0, .slice A1 x.f1.length m1, .slice A2 x.f2.length m2], .agg #[.string x.f0, .slice A1 x.f1.length m1, .slice A2 x.f2.length m2], .func (.func 99) #[] #[.pointer (some ⟨(wr.heap.size + 1), 0, none⟩)], .string r, u19, u20, u21, u22, u23, u24, undef], defers := [] })
        ?hAx ?assign ?body ?done
      case hAx => exact fun x a₁ => ⟨fun W l o o' h _ _ _ => h, fun W o h => h⟩
      case assign =>
        intro l s r W K hy hK
        gi_wp2
        exact hK _ _ (KeepsOthers.refl _) hy rfl
      case body =>
        rintro l s r a₁ W hy rfl
        have hn := (blk_cell hy.u.b1 0).trans rfl
        have hc := (blk_cell hy.u.b2 0).trans rfl
        have hf := blk_frozen hy.u.b2 0
        have HY := Aside0.mk hy
        clear hy
        by_cases hr : (r.toList == a1.toList) = true
        · have HS := Aside0.mk (show cntR a1 (usesM a1 (l0_1.take i)) (s ++ [r]) = wrap64 (cntR a1 (usesM a1 (l0_1.take i)) s + 1) by rw [cntR_snoc, if_pos hr])
          gi_wp2
          exact ⟨KeepsOthers.setCell _ _ _, by rw [HS.out]; exact HY.out.u.set _, (Below.heap_setCell W ⟨w.heap.size + 1 + 1, 0, none⟩ _ (wr.heap.size + 1) (by have := HY.out.mbl; simp only; omega)).trans HY.out.box, HY.out.rd, HY.out.mbl, HY.out.ko.trans (KeepsOthers.setCell _ _ _)⟩
        · have HS := Aside0.mk (show cntR a1 (usesM a1 (l0_1.take i)) (s ++ [r]) = cntR a1 (usesM a1 (l0_1.take i)) s by rw [cntR_snoc, if_neg hr])
          replace hr : (r.toList == a1.toList) = false := by simpa using hr
          gi_wp2
          exact ⟨KeepsOthers.refl _, by rw [HS.out]; exact HY.out.u, HY.out.box, HY.out.rd, HY.out.mbl, HY.out.ko⟩
      case done =>
        rintro D W hD hfin hK
        have HF := Aside0.mk hfin
        have HK2 := Aside0.mk hK
        have HD := Aside0.mk hD
        clear hfin hK hD
        have M2 := Aside0.mk (HMK.out.cons (D := D) (W := W) HF.out.ko (Nat.le_trans L3.out HD.out) (Nat.le_trans L2.out HD.out) HK2.out)
        have HN := Aside0.mk (usesM_snoc a1 (l0_1.take i) x)
        go_wp2
        go_roundg (l0_1.length - (i + 1))
        case measure => have := HK.out; have := HI.out; omega
        case rel => exact ⟨i + 1, rfl, ⟨by have := HI.out; omega⟩, ⟨by rw [HT.out, HN.out]; exact HF.out.u⟩, M2⟩
    · have c1 : decide ((i : Int) < (l0_1.length : Int)) = false := decide_eq_false hi
      have c2 : decide (i < l0_1.length) = false := decide_eq_false (by omega)
      have HF := Aside0.mk (show l0_1.take i = l0_1 from List.take_of_length_le (by omega))
      have hc := (blk_cell HU.out.b2 0).trans rfl
      clear hi
      go_wp2
      refine leavesM ds wr HMK.out (fun W' hW' => ?_)
      exact ⟨_, results_tmp rfl _ _ _, by first | rfl | (rw [HF.out]; rfl), HU.out.bel.trans hW'.bel⟩
end Go.Proofs.Ytbpnfpckoapdbaa.M

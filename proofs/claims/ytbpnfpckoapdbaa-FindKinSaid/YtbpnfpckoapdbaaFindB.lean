/- find.refs: what an iterator over a message's fields tells; conditions stand at each. -/
import Derived.Test.YtbpnfpckoapdbaaFindA
import Derived.Test.YtbpnfpckoapdbaaMRange
import Derived.Sort.LoopGhostIn
import Derived.Maps.OwnIn
namespace Go.Proofs.Ytbpnfpckoapdbaa.M
open Go.RowKit Go.Shelf Go.Proofs.Ytbpnfpckoapdbaa.Rng Go.Proofs.YtbpnfpckoapdbaaW.PrintWords Go.Proofs.YtbpnfpckoapdbaaW.PrintLast Go.Proofs.YtbpnfpckoapdbaaW.PrintMore Go.Proofs.Ytbpnfpckoapdbaa.KD
set_option linter.unusedVariables false
set_option linter.unusedSimpArgs false
set_option maxHeartbeats 1000000
set_option maxRecDepth 100000
attribute [local go_sem] Oper.semAt_some
/-- The messages that fields name. -/
def refsL (fs : List S50) : List ByteArray := (fs.filter (fun x => x.f2 == 15)).map (·.f3)
theorem refsL_snoc_yes {fs : List S50} {x : S50} (h : (x.f2 == 15) = true) : refsL (fs ++ [x]) = refsL fs ++ [x.f3] := by
  unfold refsL
  rw [List.filter_append, List.map_append, List.filter_cons, h]
  rfl
theorem refsL_snoc_no {fs : List S50} {x : S50} (h : (x.f2 == 15) = false) : refsL (fs ++ [x]) = refsL fs := by
  unfold refsL
  rw [List.filter_append, List.filter_cons, h, List.map_append]
  simp
theorem take_snoc' {α : Type} {xs : List α} {i : Nat} {x : α} (h : xs[i]? = some x) : xs.take (i + 1) = xs.take i ++ [x] := by
  obtain ⟨h1, rfl⟩ := List.getElem?_eq_some_iff.1 h
  rw [List.take_succ_eq_append_getElem h1]
theorem refs_c (nm : ByteArray) (A A' : Option Addr) (n c n' c' : Nat) (w : World) : Calls Try.prog 75 #[.agg #[.string nm, .slice A n c, .slice A' n' c']] w fun e w' => e = .returned (.func (.func 99) #[] #[.pointer (some ⟨w.heap.size, 0, none⟩)]) ∧ Below w.heap.size w w' ∧ w'.heap[w.heap.size]? = some (.cells #[.string nm, .slice A n c, .slice A' n' c'] 47 (0, 0)) := by
  go_enter Try.func75, Try.ntmps75
  go_wp2
  go_ret
  exact ⟨rfl, below_alloc (Below.refl _ _) _, blk_new _ _⟩
/-- What a user of the iterator keeps: the message's box, its fields; it stands new blocks and draws. -/
structure Keeps (mb : Nat) (nm : ByteArray) (A A' : Option Addr) (c n' c' : Nat) (fs : List S50) (J : List ByteArray → World → Prop) : Prop where
  box : ∀ l W, J l W → W.heap[mb]? = some (.cells #[.string nm, .slice A fs.length c, .slice A' n' c'] 47 (0, 0))
  rd : ∀ l W, J l W → Kd.C k50 W A fs.length fs
  alloc : ∀ l W o, J l W → J l (W.alloc o)
  drew : ∀ l W n, J l W → J l (W.drewN n)
theorem refs_on {mb : Nat} {nm : ByteArray} {A A' : Option Addr} {c n' c' : Nat} {fs : List S50} {J : List ByteArray → World → Prop} (HJ : Keeps mb nm A A' c n' c' fs J) (n : Nat) (hn1 : 1 ≤ n) :
    SeqOn n Try.prog 99 #[.pointer (some ⟨mb, 0, none⟩)] (fun x : ByteArray => #[.string x]) (J []) (J (refsL fs)) (fun (s : List ByteArray) x W => J s W) (fun s x W => J (s ++ [x]) W) := by
  intro l Bk hBk hYZ W hR0 hB0
  have hb0 := HJ.box _ _ hR0
  have z0 := (blk_cell hb0 0).trans rfl
  have z1 := (blk_cell hb0 1).trans rfl
  have z2 := (blk_cell hb0 2).trans rfl
  have HB0 := Aside0.mk hB0
  have H0 := Aside0.mk hR0
  have HBK := Aside0.mk hBk
  have HYZ := Aside0.mk hYZ
  have HKJ := Aside0.mk HJ
  have HM := Aside0.mk (Kd.C_max (HJ.rd _ _ hR0))
  clear hB0 hR0 hBk hYZ hb0 HJ
  refine callsIn_of_wp Try.func99 rfl trivial ?_ rfl
  simp only [Try.ntmps99, List.size_toArray, List.length_cons, List.length_nil, Nat.reduceAdd, Nat.reduceSub, Array.replicate_succ, Array.replicate_zero, List.push_toArray, List.append_toArray, List.nil_append, List.cons_append, Array.append_assoc]
  gi_wp2
  gi_loopg [8] (fs.length + 1) (fun kq v8 wr => ∃ (i : Nat), v8 = .int .i64 (i : Int) ∧ Aside0 (kq + i = fs.length + 1 ∧ J (refsL (fs.take i)) wr ∧ Bk wr))
  case atStart => exact ⟨0, rfl, ⟨by omega, H0.out, HB0.out⟩⟩
  case round =>
    obtain ⟨i, rfl, HG⟩ := hrel
    obtain ⟨hg0, hj, hbk⟩ := HG.out
    by_cases hi : (i : Int) < (fs.length : Int)
    · have c1 : decide ((i : Int) < (fs.length : Int)) = true := decide_eq_true hi
      have p0 : (0 : Int) ≤ (i : Int) := by omega
      obtain ⟨ad, s0, i1, i2, s3, b4, b5, s6, x, rfl, hx, q0, q1, q2, q3, q4, q5, q6, hk⟩ := atK_Field (HKJ.out.rd _ _ hj) i (by omega)
      have hk2 := k50_open hk
      injection hk2 with e0 hk2
      injection hk2 with e1 hk2
      injection hk2 with e2 hk2
      injection hk2 with e3 hk2
      injection hk2 with e4 hk2
      injection hk2 with e5 hk2
      injection hk2 with e6 hk2
      injection e0 with e0
      injection e1 with _ e1
      injection e2 with _ e2
      injection e3 with e3
      injection e4 with e4
      injection e5 with e5
      injection e6 with e6
      subst e0 e1 e2 e3 e4 e5 e6
      have hw : IntKind.i64.wrap ((i : Int) + 1) = ((i + 1 : Nat) : Int) := by have := HM.out; rw [IntKind.wrap_i64]; omega
      have HX := Aside0.mk hx
      have HI := Aside0.mk (show i < fs.length by omega)
      have HT := Aside0.mk (take_snoc' hx)
      have HJ1 := Aside0.mk hj
      have HB1 := Aside0.mk hbk
      have HG0 := Aside0.mk hg0
      replace hi := eq_true hi
      clear hx hk hk2 HG hg0 hj hbk
      by_cases h15 : x.f2 = 15
      · have t1 : (x.f2 == 15) = true := by simpa using h15
        have HR := Aside0.mk (refsL_snoc_yes (fs := fs.take i) t1)
        clear h15
        obtain ⟨fn, tmps, assign, body, hy, hR⟩ := HYZ.out (refsL (fs.take i)) x.f3 (wr.alloc (.cells #[.string x.f0, .int .i64 x.f1, .int .i64 x.f2, .string x.f3, .bool x.f4, .bool x.f5, .string x.f6] 50)) (HKJ.out.alloc _ _ _ HJ1.out) (HBK.out _ _ HB1.out (KeepsOthers.alloc _ _))
        have HRD := Aside0.mk hR
        clear hR
        gi_wp2
        refine HRD.out.mono ?_
        rintro e w5 ⟨rfl, j5, b5⟩
        have J5 := Aside0.mk j5
        have B5 := Aside0.mk b5
        clear j5 b5
        gi_wp2
        gi_roundg (gk - 1)
        case measure => have := HG0.out; have := HI.out; omega
        case rel => exact ⟨i + 1, rfl, ⟨by have := HG0.out; have := HI.out; omega, by rw [HT.out, HR.out]; exact J5.out, B5.out⟩⟩
      · have t1 : (x.f2 == 15) = false := by simpa using h15
        have HR := Aside0.mk (refsL_snoc_no (fs := fs.take i) t1)
        clear h15
        have j5 := HKJ.out.alloc _ _ (.cells #[.string x.f0, .int .i64 x.f1, .int .i64 x.f2, .string x.f3, .bool x.f4, .bool x.f5, .string x.f6] 50) HJ1.out
        have J5 := Aside0.mk j5
        have B5 := Aside0.mk (HBK.out _ _ HB1.out (KeepsOthers.alloc wr (.cells #[.string x.f0, .int .i64 x.f1, .int .i64 x.f2, .string x.f3, .bool x.f4, .bool x.f5, .string x.f6] 50)))
        clear j5
        gi_wp2
        all_goals
          refine ⟨(fun _ h => (by cases h)), ?_⟩
          gi_wp2
          gi_roundg (gk - 1)
          case measure => have := HG0.out; have := HI.out; omega
          case rel => exact ⟨i + 1, rfl, ⟨by have := HG0.out; have := HI.out; omega, by rw [HT.out, HR.out]; exact J5.out, B5.out⟩⟩
    · have c1 : decide ((i : Int) < (fs.length : Int)) = false := decide_eq_false hi
      have c2 : decide (i < fs.length) = false := decide_eq_false (by omega)
      have HF := Aside0.mk (show fs.take i = fs from List.take_of_length_le (by omega))
      have HJ1 := Aside0.mk hj
      have HB1 := Aside0.mk hbk
      clear hi HG hg0 hj hbk
      gi_wp2
      go_end0
      exact ⟨⟨_, rfl⟩, by have := HJ1.out; rwa [HF.out] at this, HB1.out⟩
end Go.Proofs.Ytbpnfpckoapdbaa.M

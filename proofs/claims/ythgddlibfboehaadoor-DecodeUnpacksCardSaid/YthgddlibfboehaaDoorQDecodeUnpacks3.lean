/- decode.Unpack and the document's Unpack tell the same of every field and text; the page's example is read as it says (text 4 of 5; some of it the words and functions that the kit's print and this claim's programs wrote) -/
import Derived.Test.YthgddlibfboehaaDoorQDecodeUnpacks2
import Derived.Lib.Overlaps
import Derived.Laws.NewBlocks
import Derived.Laws.Externs
import Derived.Shelf.RegionOpenPlain
import Derived.Shelf.Unicode.ValidAny
import Derived.Test.YthgddlibfboehaaDoorProg
import Derived.Lib.ConvBytes
import Derived.Maps.AppendAt
import Derived.Laws.OwnMore
section
namespace Go.Proofs.YthgddlibfboehaaDoor.TK
open Go.RowKit Go.Proofs.YthgddlibfboehaaDoor.Ops Go.Proofs.YthgddlibfboehaaDoor.KD Go.Proofs.YthgddlibfboehaaDoor.M Go.Proofs.YthgddlibfboehaaDoorW.PrintWords Go.Proofs.YthgddlibfboehaaDoorW.PrintLast Go.Proofs.YthgddlibfboehaaDoorW.PrintMore Go.Proofs.YthgddlibfboehaaDoor.Open
set_option linter.unusedVariables false
set_option linter.unusedSimpArgs false
set_option maxHeartbeats 1000000
set_option maxRecDepth 100000
/-- The zero slot. -/
def zz : TZ := (⟨0, []⟩, .slice none 0 0)
theorem zz_M (w : World) (base : Nat) (ok : Nat → Prop) : k54.M w base ok zz.1 [.int .i64 zz.1.f0, zz.2] := k54_mkM w base ok zz.1 (Kd.R_nil _ _ _ _ _)
theorem zeros2 (n : Nat) : (Builtin.zeroCells #[.int .i64 0, .slice none 0 0] n).toList = fl (List.replicate n zz) := by
 apply List.ext_getElem?
 intro i
 have hs : (#[Value.int .i64 0, .slice none 0 0] : Array Value).size = 2 := rfl
 by_cases hi : i < n * 2
 · have hz : (List.replicate n zz)[i / 2]? = some zz := by rw [List.getElem?_replicate, if_pos (by omega)]
   obtain ⟨g1, g2⟩ := fl_get _ _ _ hz
   simp only [Builtin.zeroCells, Array.getElem?_toList, Array.getElem?_map, hs, Array.getElem?_range, hi, if_true, Option.map_some]
   rcases Nat.mod_two_eq_zero_or_one i with h | h
   · rw [show i / 2 * 2 = i by omega] at g1
     rw [h, g1]
     rfl
   · rw [show i / 2 * 2 + 1 = i by omega] at g2
     rw [h, g2]
     rfl
 · have h2 := fl_len (List.replicate n zz)
   rw [List.length_replicate] at h2
   have h3 : (Builtin.zeroCells #[.int .i64 0, .slice none 0 0] n).toList.length = n * 2 := by simp [Builtin.zeroCells]
   rw [List.getElem?_eq_none (by rw [h3]; omega), List.getElem?_eq_none (by omega)]
theorem clear2 {w : World} {G i n c : Nat} {cur : Array Value} (h1 : w.heap[G]? = some (.cells cur 54 (0, 0))) (hn : 0 < n) (hl : i * 2 + n * 2 ≤ cur.size) (ty : TypeId) :
  (Builtin.clear_ #[38] ty #[.slice (some ⟨G, i * 2, none⟩) n c]).run Tryd.prog w = .ok (.tuple #[]) (w.setRow G (cur.toList.take (i * 2) ++ fl (List.replicate n zz) ++ cur.toList.drop (i * 2 + (fl (List.replicate n zz)).length)).toArray) := by
 have hz : ∀ w, (zeroValue 54).run Tryd.prog w = .ok (.agg #[.int .i64 0, .slice none 0 0]) w := by
  intro w
  have hi := infoCloneS
  cases hq : Tryd.prog.info? 54 with
  | none => rw [hq] at hi; cases hi
  | some j =>
   rw [hq] at hi
   simp only [Option.map_some, Option.some.injEq, Prod.mk.injEq] at hi
   simp [zeroValue, typeInfo, hq, hi.1]
 have hc : (Value.agg #[.int .i64 0, .slice none 0 0]).cells = #[.int .i64 0, .slice none 0 0] := by simp [Value.cells]
 have hf := fl_len (List.replicate n zz)
 rw [List.length_replicate] at hf
 have hst := run_storeCells_at Tryd.prog G (i * 2) 54 (fl (List.replicate n zz)) 0 cur w h1 (by omega) (fun v hv => by
  obtain ⟨z, hz, hv⟩ := fl_mem _ _ hv
  rw [List.eq_of_mem_replicate hz] at hv
  rcases hv with rfl | rfl <;> rfl)
 obtain ⟨m, rfl⟩ : ∃ m, n = m + 1 := ⟨n - 1, by omega⟩
 simp only [Nat.add_zero] at hst
 simp [Builtin.clear_, run_underlying Tryd.underlying38, hz, hc, zeros2, hst]
theorem ZR.slot {w : World} {base G cap : Nat} {ok : Nat → Prop} {Z : List TZ} (h : ZR w base G cap ok Z) {i : Nat} {z : TZ} (hz : Z[i]? = some z) : ∃ A c, z.2 = .slice A z.1.f1.length c ∧ k54.K w z.1 [.int .i64 z.1.f0, .slice A z.1.f1.length c] := by
 have hM := h.el z (List.mem_of_getElem? hz)
 obtain ⟨v, he, hR⟩ := k54_openM hM
 injection he with _ he
 injection he with he _
 obtain ⟨A, c, hv⟩ := Kd.R_slice hR
 rw [he, hv] at hM
 exact ⟨A, c, by rw [he, hv], k54.K_of_M hM⟩
/-- The first place: nothing such ahead of it. -/
theorem ixF_two {α : Type} {p : α → Bool} : ∀ (xs : List α) (i : Nat), (ixF p xs i = -1 ∧ ∀ x ∈ xs, p x = false) ∨ ∃ k x, ixF p xs i = ((i + k : Nat) : Int) ∧ xs[k]? = some x ∧ p x = true ∧ ∀ y ∈ xs.take k, p y = false
 | [], _ => .inl ⟨rfl, by simp⟩
 | x :: xs, i => by
  rw [ixF]
  cases hp : p x with
  | true => exact .inr ⟨0, x, rfl, rfl, hp, by simp⟩
  | false =>
   rcases ixF_two (p := p) xs (i + 1) with ⟨h1, h2⟩ | ⟨k, y, h1, h2, h3, h4⟩
   · exact .inl ⟨h1, fun y hy => (List.mem_cons.1 hy).elim (fun e => e ▸ hp) (h2 y)⟩
   · refine .inr ⟨k + 1, y, ?_, h2, h3, fun y hy => ?_⟩
     · show ixF p xs (i + 1) = _
       rw [h1]; congr 1; omega
     · rw [List.take_succ_cons] at hy
       rcases List.mem_cons.1 hy with rfl | hy
       · exact hp
       · exact h4 y hy
set_option maxHeartbeats 8000000 in
theorem DeleteFunc_c {w : World} {base G cap : Nat} {ok : Nat → Prop} {Z : List TZ} {num : Int} {qa : Addr} (h : ZR w base G cap ok Z) (hq : w.cell? qa = some (.int .i64 num)) (hqb : qa.block ≠ G) :
   Calls Tryd.prog 82 #[.slice (some ⟨G, 0, none⟩) Z.length cap, .func (.func 88) #[] #[.pointer (some qa)]] w fun r w' => ∃ Y, r = .returned (.slice (some ⟨G, 0, none⟩) Y.length cap) ∧ ZR w' base G cap ok Y ∧ w.grownBy w' (some G) ∧ Y = Z.filter (fun z => !(z.1.f0 == num)) := by
 obtain ⟨Q, hQ⟩ : ∃ Q : TZ → Bool, Q = fun z => !(z.1.f0 == num) := ⟨_, rfl⟩
 rw [← hQ]
 have HX := Aside0.mk (Idx_tree_of1 (A := some ⟨G, 0, none⟩) (c := cap) (tree_of1_c hq) (Kd.R_reads' h.to_R).2.2)
 rw [List.length_map] at HX
 have HZ := Aside0.mk h
 have HQ := Aside0.mk hQ
 have HQA := Aside0.mk (show ∀ w', w.grownBy w' (some G) → w'.cell? qa = some (.int .i64 num) from fun w' hg => by
   rw [World.cell?_of_block (hg.block _ (by
    rcases Nat.lt_or_ge qa.block w.heap.size with h' | h'
    · exact h'
    · simp [World.cell?, Array.getElem?_eq_none h'] at hq) (fun e => hqb (by injection e)))]
   exact hq)
 have HM := Aside0.mk h.hm
 have HL := Aside0.mk h.hc
 rcases ixF_two (p := fun x : TS => x.f0 == num) (Z.map Prod.fst) 0 with ⟨hi, hall⟩ | ⟨k, x, hi, hk1, hk2, hk3⟩
 · rw [hi] at HX
   have HF := Aside0.mk (show Z.filter Q = Z by
    rw [List.filter_eq_self, hQ]
    intro z hz
    have h1 : (z.1.f0 == num) = false := hall z.1 (List.mem_map_of_mem hz)
    show (!(z.1.f0 == num)) = true
    rw [h1]
    rfl)
   clear h hq hqb hQ hi hall
   go_enter Tryd.func82, Tryd.ntmps82
   go_wp2_with (first
    | (go_at_call 76; refine HX.out.mono ?_; rintro r w2 ⟨rfl, b2⟩; have B2 := Aside0.mk b2; clear b2))
   go_ret
   exact ⟨Z, rfl, HZ.out.below B2.out, grown_of_below B2.out _, HF.out.symm⟩
 · rw [hi, Nat.zero_add] at HX
   rw [List.getElem?_map] at hk1
   obtain ⟨z0, hz0, rfl⟩ := Option.map_eq_some_iff.1 hk1
   have hkl := (List.getElem?_eq_some_iff.1 hz0).1
   have HK := Aside0.mk (show (Z.take (k + 1)).filter Q = Z.take k by
    rw [List.take_add_one, hz0]
    simp only [Option.toList_some, List.filter_append]
    rw [List.filter_eq_self.2 (fun z hz => by
      have h1 : (z.1.f0 == num) = false := hk3 z.1 (by rw [← List.map_take]; exact List.mem_map_of_mem hz)
      rw [hQ]
      show (!(z.1.f0 == num)) = true
      rw [h1]
      rfl), List.filter_cons_of_neg (by rw [hQ]; show ¬ (!(z0.1.f0 == num)) = true; rw [show (z0.1.f0 == num) = true from hk2]; decide), List.filter_nil, List.append_nil])
   have HKL := Aside0.mk hkl
   have hw0 : IntKind.i64.wrap ((k : Int) + 1) = ((k + 1 : Nat) : Int) := by have := HM.out; unfold maxLen at this; have := HL.out; rw [IntKind.wrap_i64]; omega
   have c0 : ¬ ((k : Int) = -1) := by omega
   clear h hq hqb hQ hi hk1 hk2 hk3 hz0 hkl
   go_enter Tryd.func82, Tryd.ntmps82
   go_wp2_with (first
    | (go_at_call 76; refine HX.out.mono ?_; rintro r w2 ⟨rfl, b2⟩; have B2 := Aside0.mk b2; clear b2))
   go_loopg [5, 6] (Z.length - (k + 1)) (fun kq v5 v6 w' => ∃ (i j : Nat) (Y : List TZ), v5 = .int .i64 (i : Int) ∧ v6 = .int .i64 (j : Int) ∧ Aside0 (kq + j = Z.length) ∧ Aside0 (i < j) ∧ Aside0 (ZR w' base G cap ok Y) ∧ Aside0 (Y.length = Z.length) ∧ Aside0 (Y.take i = (Z.take j).filter Q) ∧ Aside0 (Y.drop j = Z.drop j) ∧ Aside0 (w.grownBy w' (some G)))
   case atStart => exact ⟨k, k + 1, Z, rfl, rfl, ⟨by have := HKL.out; omega⟩, ⟨by omega⟩, ⟨HZ.out.below B2.out⟩, ⟨rfl⟩, ⟨HK.out.symm⟩, ⟨rfl⟩, ⟨grown_of_below B2.out _⟩⟩
   case round =>
    obtain ⟨i, j, Y, rfl, rfl, KQ, IJ, HY, YL, YT, YD, GW⟩ := hrel
    by_cases hj : j < Z.length
    · have c1 : decide ((j : Int) < (Z.length : Int)) = true := decide_eq_true (by omega)
      have c2 : decide (j < Z.length) = true := decide_eq_true hj
      have p0 : (0 : Int) ≤ (j : Int) := by omega
      have p1 : (0 : Int) ≤ (i : Int) := by omega
      have p2 : (j : Int) < (Z.length : Int) := by omega
      have hij := IJ.out
      have p3 : (i : Int) < (Z.length : Int) := by omega
      obtain ⟨z, hz⟩ : ∃ z, Z[j]? = some z := ⟨_, List.getElem?_eq_getElem hj⟩
      have hy : Y[j]? = some z := by
       have h1 : (Y.drop j)[0]? = (Z.drop j)[0]? := by rw [YD.out]
       rw [List.getElem?_drop, List.getElem?_drop] at h1
       exact h1.trans hz
      obtain ⟨y0, hy0⟩ : ∃ y, Y[i]? = some y := ⟨_, List.getElem?_eq_getElem (by have := YL.out; omega)⟩
      obtain ⟨A1, d1, he1, hK1⟩ := HY.out.slot hy
      obtain ⟨q0, q1, qf⟩ := HY.out.cell hy
      rw [he1] at q1
      have qf0 := qf (j * 2)
      have qf1 := qf (j * 2 + 1)
      have hwj : IntKind.i64.wrap ((j : Int) + 1) = ((j + 1 : Nat) : Int) := by have := HM.out; unfold maxLen at this; have := HL.out; rw [IntKind.wrap_i64]; omega
      have hwi : IntKind.i64.wrap ((i : Int) + 1) = ((i + 1 : Nat) : Int) := by have := HM.out; unfold maxLen at this; have := HL.out; rw [IntKind.wrap_i64]; omega
      have HZJ := Aside0.mk hz
      have HYJ := Aside0.mk hy
      have HY0 := Aside0.mk hy0
      have HE1 := Aside0.mk he1
      have HK1 := Aside0.mk hK1
      have HJ := Aside0.mk hj
      clear hz hy hy0 he1 hK1 qf hj hij
      have HN := Aside0.mk (show (Z.take (j + 1)).filter Q = (Z.take j).filter Q ++ (if Q z then [z] else []) by
       rw [List.take_add_one, HZJ.out]
       simp only [Option.toList_some, List.filter_append, List.filter_cons, List.filter_nil])
      have HYD := Aside0.mk (show Y.drop (j + 1) = Z.drop (j + 1) by
       rw [← List.drop_drop, YD.out, List.drop_drop])
      obtain ⟨wb, hwb⟩ : ∃ wb, wb = wr.alloc (.cells #[.int .i64 z.1.f0, .slice A1 z.1.f1.length d1] 54) := ⟨_, rfl⟩
      have HWB := Aside0.mk hwb
      have bb : Below wr.heap.size wr wb := by rw [hwb]; exact below_alloc (Below.refl _ _) _
      have HB3 := Aside0.mk (show wb.heap[wr.heap.size]? = some (.cells #[.int .i64 z.1.f0, .slice A1 z.1.f1.length d1] 54 (0, 0)) by rw [hwb]; exact blk_new _ _)
      have BB := Aside0.mk bb
      have HC := Aside0.mk (tree_of1_c (HQA.out _ (GW.out.trans (grown_of_below bb _))) wb z.1 _ (Below.refl _ _) (k54.K_below bb HK1.out))
      have HQZ := Aside0.mk (show Q z = !(z.1.f0 == num) by rw [HQ.out])
      dsimp only at HC
      clear hwb bb
      cases hb : (z.1.f0 == num) with
      | true =>
       rw [hb] at HC HQZ
       go_wp2_with (first
        | (go_at_call 88; rw [← HWB.out]; refine HC.out.mono ?_; rintro r w3 ⟨rfl, b3⟩; have B3 := Aside0.mk (BB.out.trans (b3.mono BB.out.size)); clear b3))
       go_roundg (Z.length - (j + 1))
       case measure => have := KQ.out; have := HJ.out; omega
       case rel =>
        refine ⟨i, j + 1, Y, rfl, rfl, ⟨by have := HJ.out; omega⟩, ⟨by have := IJ.out; omega⟩, ⟨HY.out.below B3.out⟩, YL, ⟨?_⟩, HYD, ⟨GW.out.trans (grown_of_below B3.out _)⟩⟩
        rw [HN.out, HQZ.out, YT.out]
        simp
      | false =>
       rw [hb] at HC HQZ
       go_wp2_with (first
        | (go_at_call 88; rw [← HWB.out]; refine HC.out.mono ?_; rintro r w3 ⟨rfl, b3⟩; have B3 := Aside0.mk (BB.out.trans (b3.mono BB.out.size)); have k3 := blk_below HB3.out b3; have l0 := (blk_cell k3 0).trans rfl; have l1 := (blk_cell k3 1).trans rfl; obtain ⟨A2, d2, he2, _⟩ := (HY.out.below B3.out).slot HY0.out; obtain ⟨o0, o1, of⟩ := (HY.out.below B3.out).cell HY0.out; rw [he2] at o1; have of0 := of (i * 2); have of1 := of (i * 2 + 1); clear b3 k3 of he2))
       go_roundg (Z.length - (j + 1))
       case measure => have := KQ.out; have := HJ.out; omega
       case rel =>
        have hS := (HY.out.below B3.out).set (i := i) (z := z) (by have := IJ.out; have := HJ.out; have := YL.out; omega) ((HY.out.below B3.out).el z (List.mem_of_getElem? HYJ.out))
        rw [HE1.out] at hS
        have hYi : i < Y.length := by have := IJ.out; have := HJ.out; have := YL.out; omega
        refine ⟨i + 1, j + 1, Y.set i z, rfl, rfl, ⟨by have := HJ.out; omega⟩, ⟨by have := IJ.out; omega⟩, ⟨hS⟩, ⟨by rw [List.length_set]; exact YL.out⟩, ⟨?_⟩, ⟨?_⟩, ⟨(GW.out.trans (grown_of_below B3.out _)).trans (grown_set2 _ _ _ _ _ _)⟩⟩
        · rw [HN.out, HQZ.out, ← YT.out, List.take_add_one, List.getElem?_set_self hYi, List.take_set_of_le (by omega)]
          rfl
        · rw [List.drop_set_of_lt (by have := IJ.out; omega)]
          exact HYD.out
    · have c1 : decide ((j : Int) < (Z.length : Int)) = false := decide_eq_false (by omega)
      have c2 : decide (j < Z.length) = false := decide_eq_false hj
      have hjn : j = Z.length := by have := KQ.out; omega
      have hij : i < Z.length := by have := IJ.out; omega
      have hcap := HL.out
      have p1 : (0 : Int) ≤ (i : Int) := by omega
      have p2 : (i : Int) ≤ (Z.length : Int) := by omega
      have p3 : ¬ (cap = i) := by omega
      have p4 : (i : Int) ≤ (cap : Int) := by omega
      obtain ⟨cur, sp, h1, h2, h3⟩ := HY.out.is
      have HH1 := Aside0.mk h1
      have h2l := congrArg List.length h2
      rw [Array.length_toList, h3, List.length_append, fl_len] at h2l
      have hYl := YL.out
      have hcl := clear2 (w := wr) (G := G) (i := i) (n := Z.length - i) (c := cap - i) (cur := cur) h1 (by omega) (by rw [h3]; omega)
      have HO := Aside0.mk (HY.out.over (i := i) (Y := List.replicate (Z.length - i) zz) h1 (by omega) (by rw [List.length_replicate]; omega) (fun z hz => by rw [List.eq_of_mem_replicate hz]; exact zz_M _ _ _))
      obtain ⟨wc, hwc⟩ : ∃ wc, wc = wr.setRow G (cur.toList.take (i * 2) ++ fl (List.replicate (Z.length - i) zz) ++ cur.toList.drop (i * 2 + (fl (List.replicate (Z.length - i) zz)).length)).toArray := ⟨_, rfl⟩
      rw [← hwc] at hcl HO
      have HYT := Aside0.mk (show Y.take i = Z.filter Q by rw [YT.out, hjn, List.take_length])
      have HIL := Aside0.mk (show i < Y.length by omega)
      clear h1 h2 h3 h2l hYl hwc hj
      go_wp2_with fail
      go_ret
      have h5 := HO.out.1.take i
      rw [List.append_assoc, List.take_append_of_le_length (by rw [List.length_take]; have := HIL.out; omega), List.take_take, Nat.min_self] at h5
      exact ⟨Y.take i, by rw [List.length_take, Nat.min_eq_left (Nat.le_of_lt HIL.out)]; rfl, h5, GW.out.trans HO.out.2, HYT.out⟩
end Go.Proofs.YthgddlibfboehaaDoor.TK
end
section
namespace Go.Proofs.YthgddlibfboehaaDoor.TK
open Go.RowKit Go.Proofs.YthgddlibfboehaaDoor.Ops Go.Proofs.YthgddlibfboehaaDoor.KD Go.Proofs.YthgddlibfboehaaDoor.M Go.Proofs.YthgddlibfboehaaDoorW.PrintWords Go.Proofs.YthgddlibfboehaaDoorW.PrintLast Go.Proofs.YthgddlibfboehaaDoorW.PrintMore Go.Proofs.YthgddlibfboehaaDoor.Open
set_option linter.unusedVariables false
set_option linter.unusedSimpArgs false
set_option maxHeartbeats 1000000
set_option maxRecDepth 100000
section
variable {P : Program} {ops : Array Oper} {rest : List Oper} {o : Oper} {a : Act} {Q : Exit → Act → World → Prop}
/-- A copy whose run is known. -/
theorem at_copy {w : World} {K : Act → World → Prop} {d s : Operand} {t t' : TypeId} (ho : o.op = .call { callee := .builtin .copy, args := #[d, s], argTypes := #[t, t'] }) {v u : Value} (hd : a.eval d = v) (hs : a.eval s = u) {v' : Value} {w' : World} (hr : (Builtin.copy_ #[t, t'] o.type #[v, u]).run P w = .ok v' w') (h : K (a.put o.dst v') w') : o.wp P a w K Q := by
 unfold Oper.wp
 simp [execOp, ho, resolve, invoke, builtin, hd, hs, hr, Result.andThen]
 exact h
theorem list_copy {w : World} (hg : o.guard = none) {d s : Operand} {t t' : TypeId} (ho : o.op = .call { callee := .builtin .copy, args := #[d, s], argTypes := #[t, t'] }) {v u : Value} (hd : a.eval d = v) (hs : a.eval s = u) {v' : Value} {w' : World} (hr : (Builtin.copy_ #[t, t'] o.type #[v, u]).run P w = .ok v' w') (h : wpList P ops Q rest (a.put o.dst v') w') : wpList P ops Q (o :: rest) a w :=
 wpList_plain hg fun _ hK => at_copy ho hd hs hr (hK _ _ h)
theorem step_copy {w : World} {K : Act → World → Prop} {E : Prop} (hg : o.guard = none) {d s : Operand} {t t' : TypeId} (ho : o.op = .call { callee := .builtin .copy, args := #[d, s], argTypes := #[t, t'] }) {v u : Value} (hd : a.eval d = v) (hs : a.eval s = u) {v' : Value} {w' : World} (hr : (Builtin.copy_ #[t, t'] o.type #[v, u]).run P w = .ok v' w') (h : K (a.put o.dst v') w') :
  if Region.wanted o (yielded ops a.tmps) = true then o.wp P a w K Q else E := by
 rw [if_pos (by simp [Region.wanted, hg])]
 exact at_copy ho hd hs hr h
end
/-- copy over slots: what the cells are. -/
theorem copy2 {w : World} {G i dl dc sl sc : Nat} {ad : Addr} {cur : Array Value} {Y : List TZ} (h1 : w.heap[G]? = some (.cells cur 54 (0, 0))) (hn : Y.length = Nat.min sl dl) (hsrc : ∀ j v, (fl Y)[j]? = some v → w.cell? (ad.add j) = some v) (hfit : i * 2 + Y.length * 2 ≤ cur.size) (h2 : ∀ z ∈ Y, z.2.oneCell' = true) (ty : TypeId) :
  (Builtin.copy_ #[38, 38] ty #[.slice (some ⟨G, i * 2, none⟩) dl dc, .slice (some ad) sl sc]).run Tryd.prog w = .ok (goInt Y.length) (w.setRow G (cur.toList.take (i * 2) ++ fl Y ++ cur.toList.drop (i * 2 + (fl Y).length)).toArray) := by
 have hf := fl_len Y
 have hl := run_loadCells_list (P := Tryd.prog) w ad (fl Y) hsrc
 have hst := run_storeCells_at Tryd.prog G (i * 2) 54 (fl Y) 0 cur w h1 (by omega) (fun v hv => by
  obtain ⟨z, hz, hv⟩ := fl_mem _ _ hv
  rcases hv with rfl | rfl
  · rfl
  · exact h2 z hz)
 rw [hf] at hl
 have hi := infoCloneS
 cases hq : Tryd.prog.info? 54 with
 | none => rw [hq] at hi; cases hi
 | some j =>
  rw [hq] at hi
  simp only [Option.map_some, Option.some.injEq, Prod.mk.injEq] at hi
  simp only [Nat.add_zero] at hst
  simp [Builtin.copy_, run_underlying Tryd.underlying38, Builtin.lenOf, Builtin.firstCells, sizeOf, typeInfo, hq, hi.2.1, ← hn, hl, hst]
theorem ZR.one {w : World} {base G cap : Nat} {ok : Nat → Prop} {Z : List TZ} (h : ZR w base G cap ok Z) : ∀ z ∈ Z, z.2.oneCell' = true := fun z hz => by
 obtain ⟨i, hi⟩ := List.getElem?_of_mem hz
 obtain ⟨A, c, he, _⟩ := h.slot hi
 rw [he]; rfl
theorem ZR.cells {w : World} {base G cap : Nat} {ok : Nat → Prop} {Z : List TZ} (h : ZR w base G cap ok Z) (i : Nat) : ∀ j v, (fl (Z.drop i))[j]? = some v → w.cell? ((⟨G, i * 2, none⟩ : Addr).add j) = some v := fun j v hj => by
 obtain ⟨⟨cur, sp, h1, h2, h3⟩, _⟩ := h
 rw [← fl_drop, List.getElem?_drop] at hj
 have hl := (List.getElem?_eq_some_iff.1 hj).1
 have e : (⟨G, i * 2, none⟩ : Addr).add j = ⟨G, i * 2 + j, none⟩ := by unfold Addr.add; split <;> simp_all
 rw [e, blk_cell h1, ← Array.getElem?_toList, h2, List.getElem?_append_left hl]
 exact hj
/-- What comes of it. -/
def Put (w : World) (base : Nat) (ok : Nat → Prop) (v : Value) (xs : List TS) (r : Ending) (w' : World) : Prop :=
 ∃ v', r = .returned v' ∧ k54.R 54 w' base ok v' xs ∧ w.grownBy w' v.ownBlock ∧ (v'.ownBlock = v.ownBlock ∨ ∃ b, v'.ownBlock = some b ∧ w.heap.size ≤ b)
theorem wrap3 (n : Nat) (h : n ≤ maxLen) : IntKind.i64.wrap (n : Int) = (n : Int) := by unfold maxLen at h; rw [IntKind.wrap_i64]; omega
set_option maxHeartbeats 8000000 in
theorem Insert_shift {w : World} {base G cap i vb vc : Nat} {ok : Nat → Prop} {Z : List TZ} {z : TZ} (h : ZR w base G cap ok Z) (hi : i < Z.length) (hroom : Z.length + 1 ≤ cap) (hv : w.heap[vb]? = some (.cells #[.int .i64 z.1.f0, z.2] 54 (0, 0))) (hvb : vb ≠ G) (h2 : z.2.oneCell' = true) (hz : k54.M w base (fun k => ok k ∧ k ≠ G) z.1 [.int .i64 z.1.f0, z.2]) :
  Calls Tryd.prog 84 #[.slice (some ⟨G, 0, none⟩) Z.length cap, .int .i64 i, .slice (some ⟨vb, 0, none⟩) 1 vc] w (Put w base ok (.slice (some ⟨G, 0, none⟩) Z.length cap) (Z.map Prod.fst |>.take i |>.append (z.1 :: (Z.map Prod.fst).drop i))) := by
 obtain ⟨cur, sp, h1, hc1, hc2⟩ := h.is
 have hl1 := congrArg List.length hc1
 rw [Array.length_toList, hc2, List.length_append, fl_len] at hl1
 have hov : ∀ lb cb, (callFunc 94 #[.slice (some ⟨vb, 0, none⟩) 1 vc, .slice (some ⟨G, (i + 1) * 2, none⟩) lb cb]).run Tryd.prog w = .ok (.value (.bool false)) w := fun lb cb => by
  rw [run_callFunc_extern Tryd.func94 (by kernel_rfl) (by kernel_rfl) (by kernel_rfl) (e := Extern.SlicesOverlaps.overlaps #[38, 38] #[4]) (by kernel_rfl),
   Lib.run_overlaps_apart w 38 4 54 Tryd.underlying38 2 (fun w => by
    have hi := infoCloneS
    cases hq : Tryd.prog.info? 54 with
    | none => rw [hq] at hi; cases hi
    | some j =>
     rw [hq] at hi
     simp only [Option.map_some, Option.some.injEq, Prod.mk.injEq] at hi
     simp [sizeOf, typeInfo, hq, hi.2.1]) ⟨vb, 0, none⟩ ⟨G, (i + 1) * 2, none⟩ 1 vc lb cb hvb 54 54 2 cur.size (by simp only [World.shape?, hv]; rfl) (by simp only [World.shape?, h1]) (by omega) (blk_frozen hv 0) (blk_frozen hv 2)]
  rfl
 have hd := h.below (below_drew (Below.refl _ w))
 have hdl : (Z.drop i).length = Z.length - i := List.length_drop
 have HO1 := Aside0.mk (hd.over (i := i + 1) (Y := Z.drop i) h1 (by omega) (by omega) (fun y hy => hd.el y (List.mem_of_mem_drop hy)))
 have hcp1 : ∀ ty dc sc, _ := fun ty dc sc => copy2 (w := w.drew) (G := G) (i := i + 1) (dl := Z.length + 1 - (i + 1)) (dc := dc) (sl := Z.length + 1 - i) (sc := sc) (ad := ⟨G, i * 2, none⟩) (Y := Z.drop i) h1 (by rw [hdl]; simp only [Nat.min_def]; split <;> omega) (hd.cells i) (by rw [hdl, hc2]; omega) (fun y hy => h.one y (List.mem_of_mem_drop hy)) ty
 obtain ⟨W1, hW1⟩ : ∃ W1, W1 = w.drew.setRow G (cur.toList.take ((i + 1) * 2) ++ fl (Z.drop i) ++ cur.toList.drop ((i + 1) * 2 + (fl (Z.drop i)).length)).toArray := ⟨_, rfl⟩
 rw [← hW1] at HO1 hcp1
 obtain ⟨Z1, hZ1⟩ : ∃ Z1, Z1 = Z.take (i + 1) ++ Z.drop i ++ Z.drop (i + 1 + (Z.drop i).length) := ⟨_, rfl⟩
 rw [← hZ1] at HO1
 have hZl : Z1.length = Z.length + 1 := by
  rw [hZ1]
  simp only [List.length_append, List.length_take, List.length_drop]
  omega
 have hZe : Z1.take i ++ [z] ++ Z1.drop (i + 1) = Z.take i ++ z :: Z.drop i := by
  rw [hZ1, hdl, List.drop_eq_nil_of_le (by omega : Z.length ≤ i + 1 + (Z.length - i)), List.append_nil, List.take_append_of_le_length (by rw [List.length_take]; omega), List.take_take, Nat.min_eq_left (by omega), List.drop_left' (by rw [List.length_take]; omega), List.append_assoc]
  rfl
 have hv1 : W1.heap[vb]? = some (.cells #[.int .i64 z.1.f0, z.2] 54 (0, 0)) := (HO1.out.2.block vb (blk_lt hv) (fun e => hvb (by injection e))).trans hv
 obtain ⟨cur1, sp1, k1, k2, k3⟩ := HO1.out.1.is
 have hz1 : k54.M W1 base (fun k => ok k ∧ k ≠ G) z.1 [.int .i64 z.1.f0, z.2] := Kd.M_grown (Kd.M_below hz (below_drew (Below.refl _ w))) HO1.out.2 (fun k hk e => hk.2 (by injection e))
 have HO2 := Aside0.mk (HO1.out.1.over (i := i) (Y := [z]) k1 (by omega) (by simp only [List.length_singleton]; omega) (fun y hy => by rw [List.mem_singleton.1 hy]; exact hz1))
 have hcp2 : ∀ ty dc, _ := fun ty dc => copy2 (w := W1) (G := G) (i := i) (dl := Z.length + 1 - i) (dc := dc) (sl := 1) (sc := vc) (ad := ⟨vb, 0, none⟩) (Y := [z]) k1 (by simp only [List.length_singleton, Nat.min_def]; split <;> omega) (fun j v hj => by
  have e : (⟨vb, 0, none⟩ : Addr).add j = ⟨vb, j, none⟩ := by unfold Addr.add; split <;> simp_all
  rw [e, blk_cell hv1, ← Array.getElem?_toList]
  exact hj) (by simp only [List.length_singleton]; omega) (fun y hy => by rw [List.mem_singleton.1 hy]; exact h2) ty
 obtain ⟨W2, hW2⟩ : ∃ W2, W2 = W1.setRow G (cur1.toList.take (i * 2) ++ fl [z] ++ cur1.toList.drop (i * 2 + (fl [z]).length)).toArray := ⟨_, rfl⟩
 rw [← hW2] at HO2 hcp2
 have HG := Aside0.mk (World.grownBy.trans (grown_of_below (below_drew (Below.refl _ w)) (some G)) (HO1.out.2.trans HO2.out.2))
 have HZE := Aside0.mk hZe
 have HD := Aside0.mk hd
 have hcm := h.hm
 have hw1 := wrap3 (Z.length + 1) (by omega)
 have hw2 := wrap3 (i + 1) (by omega)
 push_cast at hw1 hw2
 have b1 : ¬ ((i : Int) = (Z.length : Int)) := by omega
 have b2 : ¬ ((cap : Int) < (Z.length : Int) + 1) := by omega
 have b3 : (0 : Int) ≤ (i : Int) + 1 := by omega
 have b4 : (i : Int) + 1 ≤ (Z.length : Int) + 1 := by omega
 have b5 : (i : Int) ≤ (Z.length : Int) + 1 := by omega
 have b6 : (i : Int) ≤ (Z.length : Int) := by omega
 have b7 : ¬ (cap = i + 1) := by omega
 have b8 : ¬ (cap = i) := by omega
 have b9 : ((i : Int) + 1).toNat = i + 1 := by omega
 have b10 : ((Z.length : Int) + 1).toNat = Z.length + 1 := by omega
 have b11 : (Z.length : Int) + 1 ≤ (cap : Int) := by omega
 have mixed : Tryd.prog.follows Departure.mixedOrders = true := by kernel_rfl
 clear h1 hc1 hc2 hl1 hd HO1 hW1 hW2 hZ1 hZl hZe hv1 k1 k2 k3 hz1 h hz hi hroom hcm
 go_enter Tryd.func84, Tryd.ntmps84
 go_wp2_with (simp only [hov])
 go_region_law_o (refine step_copy rfl rfl (v := .slice (some ⟨G, (i + 1) * 2, none⟩) (Z.length + 1 - (i + 1)) (cap - (i + 1))) (u := .slice (some ⟨G, i * 2, none⟩) (Z.length + 1 - i) (cap - i)) (by simp [Act.eval, Act.put]) (by simp [Act.eval, Act.put]) (hcp1 _ _ _) ?_)
 go_wp2_with (at_builtin; refine list_copy rfl rfl rfl rfl (hcp2 _ _) ?_)
 go_ret
 have hR := HO2.out.1
 rw [List.length_singleton, HZE.out] at hR
 have hR := hR.to_R
 refine ⟨_, rfl, ?_, HG.out, .inl rfl⟩
 rw [List.map_append, List.map_cons, List.map_take, List.map_drop] at hR
 rw [show (Z.take i ++ z :: Z.drop i).length = Z.length + 1 by simp only [List.length_append, List.length_cons, List.length_take, List.length_drop]; omega] at hR
 exact hR
set_option maxHeartbeats 8000000 in
theorem Insert_grow {w : World} {base G cap i vb vc : Nat} {ok : Nat → Prop} {Z : List TZ} {z : TZ} (hfr : ∀ k, w.heap.size ≤ k → ok k) (h : ZR w base G cap ok Z) (hi : i < Z.length) (hroom : cap < Z.length + 1) (hbig : (Z.length + 1) * 32 ≤ 140737488355328) (hv : w.heap[vb]? = some (.cells #[.int .i64 z.1.f0, z.2] 54 (0, 0))) (h2 : z.2.oneCell' = true) (hz : k54.M w base (fun k => ok k ∧ k ≠ G) z.1 [.int .i64 z.1.f0, z.2]) :
  Calls Tryd.prog 84 #[.slice (some ⟨G, 0, none⟩) Z.length cap, .int .i64 i, .slice (some ⟨vb, 0, none⟩) 1 vc] w (Put w base ok (.slice (some ⟨G, 0, none⟩) Z.length cap) (Z.map Prod.fst |>.take i |>.append (z.1 :: (Z.map Prod.fst).drop i))) := by
 obtain ⟨cur, sp, h1, hc1, hc2⟩ := h.is
 have hbase : base ≤ w.heap.size := Nat.le_trans h.hb (Nat.le_of_lt h.lt)
 obtain ⟨inf, hinf, hzero, hsize, hbytes⟩ : ∃ inf, Tryd.prog.info? 54 = some inf ∧ inf.zero = some (.agg #[.int .i64 0, .slice none 0 0]) ∧ inf.size = 2 ∧ inf.bytes = 32 := by
  have hi := infoCloneS
  cases hq : Tryd.prog.info? 54 with
  | none => rw [hq] at hi; cases hi
  | some j =>
    rw [hq] at hi
    simp only [Option.map_some, Option.some.injEq, Prod.mk.injEq] at hi
    exact ⟨j, rfl, hi.1, hi.2.1, hi.2.2⟩
 have hold : (Builtin.firstCells inf.size i (.slice (some ⟨G, 0, none⟩) i cap)).run Tryd.prog w.drew = .ok (fl (Z.take i)).toArray w.drew := by
  rw [hsize]
  refine run_firstCells_some w.drew 2 i ⟨G, 0, none⟩ i cap (fl (Z.take i)) (by rw [fl_len, List.length_take]; omega) (fun j v hj => ?_)
  rw [← fl_take, List.getElem?_take] at hj
  split at hj
  · have := h.cells 0 j v (by rw [List.drop_zero]; exact hj)
    rw [Nat.zero_mul] at this
    exact this
  · cases hj
 have hzc : (Value.agg #[.int .i64 0, .slice none 0 0]).cells = #[.int .i64 0, .slice none 0 0] := by simp [Value.cells]
 have hkk : (Z.length : Int) + 1 - (i : Int) = ((Z.length + 1 - i : Nat) : Int) := by omega
 have hik : i + (Z.length + 1 - i) = Z.length + 1 := by omega
 obtain ⟨C, hC⟩ : ∃ C, C = grownCap w (Z.length + 1) cap 54 := ⟨_, rfl⟩
 have hC1 : Z.length + 1 ≤ C := by rw [hC]; exact grownCap_ge w _ _ _
 have hC2 : C ≤ maxLen := by rw [hC]; exact grownCap_le_maxLen w _ _ _ (by unfold maxLen; omega)
 obtain ⟨ROW, hROW⟩ : ∃ ROW : Array Value, ROW = (fl (Z.take i)).toArray ++ Builtin.zeroCells (Value.agg #[.int .i64 0, .slice none 0 0]).cells (Z.length + 1 - i) ++ Builtin.zeroCells (Value.agg #[.int .i64 0, .slice none 0 0]).cells (C - (Z.length + 1)) := ⟨_, rfl⟩
 have hap : ∀ ty, (Builtin.append_ #[38, 3] ty #[.slice (some ⟨G, 0, none⟩) i cap, .int .i64 ((Z.length : Int) + 1 - (i : Int))]).run Tryd.prog w = .ok (.slice (some ⟨w.heap.size, 0, none⟩) (Z.length + 1) C) (w.drew.alloc (.cells ROW 54)) := fun ty => by
  have q := Lib.run_append_grow_zeros w 38 3 ty 54 inf _ .i64 .i64 Tryd.underlying38 Tryd.underlying3 hinf hzero (some ⟨G, 0, none⟩) i cap (fl (Z.take i)) hold (Z.length + 1 - i) (by omega) (by omega) (by omega) (by omega) (by rw [hbytes]; omega) (by rw [hbytes, hik]; exact growslice_fits hroom hbig)
  rw [hik, ← hC, ← hROW] at q
  rw [hkk]
  exact q
 obtain ⟨W0, hW0⟩ : ∃ W0, W0 = w.drew.alloc (.cells ROW 54) := ⟨_, rfl⟩
 rw [← hW0] at hap
 have b0 : Below w.heap.size w W0 := by rw [hW0]; exact below_alloc (below_drew (Below.refl _ _)) _
 have hROWl : ROW.toList = fl (Z.take i ++ List.replicate (Z.length + 1 - i) zz) ++ fl (List.replicate (C - (Z.length + 1)) zz) := by
  rw [hROW, hzc, Array.toList_append, Array.toList_append, zeros2, zeros2, fl_append]
 have hZ0 : ZR W0 base w.heap.size C ok (Z.take i ++ List.replicate (Z.length + 1 - i) zz) := by
  refine ⟨⟨ROW, fl (List.replicate (C - (Z.length + 1)) zz), by rw [hW0]; exact blk_new w.drew _, hROWl, ?_⟩, by simp only [List.length_append, List.length_take, List.length_replicate]; omega, hC2, hbase, hfr _ (Nat.le_refl _), fun y hy => ?_⟩
  · rw [← Array.length_toList, hROWl]
    simp only [List.length_append, fl_len, List.length_take, List.length_replicate]
    omega
  · rcases List.mem_append.1 hy with hy | hy
    · exact k54.M_mono (fun k hk => ⟨hk.1.1, by have := hk.2.2.1; omega⟩) (Kd.M_below (k54.M_bound (h.el y (List.mem_of_mem_take hy))) b0)
    · rw [List.eq_of_mem_replicate hy]; exact zz_M _ _ _
 have hzl : (Z.take i ++ List.replicate (Z.length + 1 - i) zz).length = Z.length + 1 := by
  simp only [List.length_append, List.length_take, List.length_replicate]; omega
 have hdl : (Z.drop i).length = Z.length - i := List.length_drop
 obtain ⟨Z0, hZZ⟩ : ∃ Z0, Z0 = Z.take i ++ List.replicate (Z.length + 1 - i) zz := ⟨_, rfl⟩
 rw [← hZZ] at hZ0 hzl
 have hnew : k54.M W0 base (fun k => ok k ∧ k ≠ w.heap.size) z.1 [.int .i64 z.1.f0, z.2] := k54.M_mono (fun k hk => ⟨hk.1.1, by have := hk.2.2.1; omega⟩) (Kd.M_below (k54.M_bound hz) b0)
 have hgw : G < w.heap.size := h.lt
 have hv0 := blk_below hv b0
 obtain ⟨cur0, sp0, k1, k2, k3⟩ := hZ0.is
 have HO1 := Aside0.mk (hZ0.over (i := i) (Y := [z]) k1 (by omega) (by simp only [List.length_singleton]; omega) (fun y hy => by rw [List.mem_singleton.1 hy]; exact hnew))
 have hcp1 : ∀ ty dc, _ := fun ty dc => copy2 (w := W0) (G := w.heap.size) (i := i) (dl := Z.length + 1 - i) (dc := dc) (sl := 1) (sc := vc) (ad := ⟨vb, 0, none⟩) (Y := [z]) k1 (by simp only [List.length_singleton, Nat.min_def]; split <;> omega) (fun j v hj => by
  have e : (⟨vb, 0, none⟩ : Addr).add j = ⟨vb, j, none⟩ := by unfold Addr.add; split <;> simp_all
  rw [e, blk_cell hv0, ← Array.getElem?_toList]
  exact hj) (by simp only [List.length_singleton]; omega) (fun y hy => by rw [List.mem_singleton.1 hy]; exact h2) ty
 obtain ⟨W1, hW1⟩ : ∃ W1, W1 = W0.setRow w.heap.size (cur0.toList.take (i * 2) ++ fl [z] ++ cur0.toList.drop (i * 2 + (fl [z]).length)).toArray := ⟨_, rfl⟩
 rw [← hW1] at HO1 hcp1
 rw [List.length_singleton] at HO1
 obtain ⟨Z1, hZ1⟩ : ∃ Z1, Z1 = Z0.take i ++ [z] ++ Z0.drop (i + 1) := ⟨_, rfl⟩
 rw [← hZ1] at HO1
 have hZl : Z1.length = Z.length + 1 := by
  rw [hZ1]
  simp only [List.length_append, List.length_take, List.length_drop, List.length_singleton]
  omega
 have b1 : Below w.heap.size w W1 := by rw [hW1]; exact below_setRow b0 (Nat.le_refl _) _
 have b1d : Below w.heap.size w W1.drew := below_drew b1
 have hO1 := HO1.out.1.below (below_drew (Below.refl _ W1))
 obtain ⟨cur1, sp1, m1, m2, m3⟩ := hO1.is
 have hel : ∀ y ∈ Z.drop i, k54.M W1.drew base (fun k => ok k ∧ k ≠ w.heap.size) y.1 [.int .i64 y.1.f0, y.2] := fun y hy => k54.M_mono (fun k hk => ⟨hk.1.1, by have := hk.2.2.1; omega⟩) (Kd.M_below (k54.M_bound (h.el y (List.mem_of_mem_drop hy))) b1d)
 have HO2 := Aside0.mk (hO1.over (i := i + 1) (Y := Z.drop i) m1 (by omega) (by omega) hel)
 have hcp2 : ∀ ty dc sc, _ := fun ty dc sc => copy2 (w := W1.drew) (G := w.heap.size) (i := i + 1) (dl := Z.length + 1 - (i + 1)) (dc := dc) (sl := Z.length - i) (sc := sc) (ad := ⟨G, i * 2, none⟩) (Y := Z.drop i) m1 (by rw [hdl]; simp only [Nat.min_def]; split <;> omega) (fun j v hj => by
  have q := h.cells i j v hj
  have e : (⟨G, i * 2, none⟩ : Addr).add j = ⟨G, i * 2 + j, none⟩ := by unfold Addr.add; split <;> simp_all
  rw [e] at q ⊢
  rw [← q]
  exact b1d.cell (p := ⟨G, i * 2 + j, none⟩) hgw) (by rw [hdl]; omega) (fun y hy => h.one y (List.mem_of_mem_drop hy)) ty
 obtain ⟨W2, hW2⟩ : ∃ W2, W2 = W1.drew.setRow w.heap.size (cur1.toList.take ((i + 1) * 2) ++ fl (Z.drop i) ++ cur1.toList.drop ((i + 1) * 2 + (fl (Z.drop i)).length)).toArray := ⟨_, rfl⟩
 rw [← hW2] at HO2 hcp2
 have HG := Aside0.mk (show Below w.heap.size w W2 by rw [hW2]; exact below_setRow b1d (Nat.le_refl _) _)
 have hZe : Z1.take (i + 1) ++ Z.drop i ++ Z1.drop (i + 1 + (Z.drop i).length) = Z.take i ++ z :: Z.drop i := by
  have q1 : Z0.take i = Z.take i := by rw [hZZ, List.take_append_of_le_length (by rw [List.length_take]; omega), List.take_take, Nat.min_self]
  rw [List.drop_eq_nil_of_le (by rw [hdl]; omega : Z1.length ≤ _), List.append_nil, hZ1, q1, List.take_left' (by simp only [List.length_append, List.length_take, List.length_singleton]; omega), List.append_assoc]
  rfl
 have HZE := Aside0.mk hZe
 have hcm : cap ≤ maxLen := h.hm
 have hw1 := wrap3 (Z.length + 1) (by omega)
 have hw2 := wrap3 (i + 1) (by omega)
 have hw3 := wrap3 (Z.length + 1 - i) (by omega)
 rw [← hkk] at hw3
 push_cast at hw1 hw2
 have c1 : ¬ ((i : Int) = (Z.length : Int)) := by omega
 have c2 : (cap : Int) < (Z.length : Int) + 1 := by omega
 have c3 : (0 : Int) ≤ (i : Int) + 1 := by omega
 have c4 : (i : Int) + 1 ≤ (Z.length : Int) + 1 := by omega
 have c5 : (i : Int) ≤ (Z.length : Int) + 1 := by omega
 have c6 : (i : Int) ≤ (Z.length : Int) := by omega
 have c7 : ¬ (C = i + 1) := by omega
 have c8 : ¬ (C = i) := by omega
 have c9 : ((i : Int) + 1).toNat = i + 1 := by omega
 have c10 : ¬ (cap = i) := by have := h.hc; omega
 have c11 : (Z.length : Int) + 1 ≤ (C : Int) := by omega
 have c12 : (i : Int) ≤ (cap : Int) := by have := h.hc; omega
 have HIZ := Aside0.mk hi
 have mixed : Tryd.prog.follows Departure.mixedOrders = true := by kernel_rfl
 clear h1 hc1 hc2 hO1 HO1 hW0 hW1 hW2 hZ1 hZl hZe hv0 k1 k2 k3 m1 m2 m3 h hz hi hroom hcm hel b0 b1 b1d hgw hnew hzl hdl hZZ hROWl hZ0 hROW hC hC1 hC2 hkk hik hzc hold hinf hzero hsize hbytes hbase
 go_enter Tryd.func84, Tryd.ntmps84
 go_wp2_with (first
  | (at_builtin; refine Lib.wpList_append_run _ rfl _ _ _ _ rfl _ _ rfl rfl _ _ (hap _) ?_)
  | (at_builtin; refine list_copy rfl rfl rfl rfl (hcp1 _ _) ?_))
 go_region_law_o (refine step_copy rfl rfl (v := .slice (some ⟨w.heap.size, (i + 1) * 2, none⟩) (Z.length + 1 - (i + 1)) (C - (i + 1))) (u := .slice (some ⟨G, i * 2, none⟩) (Z.length - i) (cap - i)) (by simp [Act.eval, Act.put]) (by simp [Act.eval, Act.put]) (hcp2 _ _ _) ?_)
 go_wp2_with fail
 go_ret
 have hR := HO2.out.1
 rw [HZE.out] at hR
 have hR := hR.to_R
 refine ⟨_, rfl, ?_, grown_of_below HG.out _, .inr ⟨_, rfl, Nat.le_refl _⟩⟩
 rw [List.map_append, List.map_cons, List.map_take, List.map_drop] at hR
 rw [show (Z.take i ++ z :: Z.drop i).length = Z.length + 1 by have := HIZ.out; simp only [List.length_append, List.length_cons, List.length_take, List.length_drop]; omega] at hR
 exact hR
set_option maxHeartbeats 4000000 in
theorem Insert_end {w : World} {base c vb vc : Nat} {ok : Nat → Prop} {A : Option Addr} {xs : List TS} {x : TS} {u : Value} (hfr : ∀ k, w.heap.size ≤ k → ok k) (h : k54.R 54 w base ok (.slice A xs.length c) xs) (hbase : base ≤ w.heap.size) (hbig : (xs.length + 1) * 32 ≤ 140737488355328) (hv : w.heap[vb]? = some (.cells #[.int .i64 x.f0, u] 54 (0, 0))) (hz : k54.M w base (fun k => ok k ∧ some k ≠ (Value.slice A xs.length c).ownBlock) x [.int .i64 x.f0, u]) :
   Calls Tryd.prog 84 #[.slice A xs.length c, .int .i64 xs.length, .slice (some ⟨vb, 0, none⟩) 1 vc] w (Put w base ok (.slice A xs.length c) (xs ++ [x])) := by
 have hRr : ReadsRow (fun (y : TS) (cs : List Value) => y = x ∧ cs = [.int .i64 x.f0, u]) 2 w (some ⟨vb, 0, none⟩) 1 [x] := by
   refine ⟨rfl, by omega, fun _ => ⟨_, rfl, fun j p hj => ?_⟩⟩
   have h1 := (List.getElem?_eq_some_iff.1 hj).1
   obtain rfl : j = 0 := by simp only [List.length_singleton] at h1; omega
   obtain rfl : x = p := by simpa using hj
   refine ⟨[.int .i64 x.f0, u], rfl, ⟨rfl, rfl⟩, fun t v ht => ?_⟩
   have e : (⟨vb, 0, none⟩ : Addr).add (0 * 2 + t) = ⟨vb, t, none⟩ := by unfold Addr.add; split <;> simp_all
   rw [e, blk_cell hv, ← Array.getElem?_toList]
   exact ht
 have HO := Aside0.mk h
 have HFR := Aside0.mk hfr
 have HR := Aside0.mk hRr
 have HZ := Aside0.mk hz
 have HB := Aside0.mk hbig
 have HBS := Aside0.mk hbase
 have hc : xs.length ≤ c := (Kd.R_reads' h).2.1
 have q1 : (xs.length : Int) ≤ (c : Int) := by omega
 have HA : Aside0 (A = none → xs.length = 0) := ⟨fun e => by
   subst e
   rcases Nat.eq_zero_or_pos xs.length with h0 | h0
   · exact h0
   · obtain ⟨g, cap, he, _⟩ := Kd.R_form h h0
     injection he with he
     cases he⟩
 have HC0 : Aside0 (A = none → c = 0) := ⟨fun e => by
   subst e
   obtain ⟨_, inner, ⟨_, h1 | ⟨g, cap, cur, he, _⟩⟩, _⟩ := h
   · injection h1.1
   · injection he with he; cases he⟩
 clear h hRr hz hbig hbase hc hfr
 rcases A with _ | ⟨G, o, sp⟩
 · have e1 := HA.out rfl
   have e2 := HC0.out rfl
   have e3 : (xs.length : Int) = 0 := by omega
   go_enter Tryd.func84, Tryd.ntmps84
   go_wp2_with (first
     | ((with_reducible refine gate_builtin (b := .append) rfl ?_); refine Kd.R_append_rows k54 (w0 := w) base rfl (.tmp 23) (.tmp 24) 38 54 _ 32 rfl Tryd.underlying38 infoCloneS rfl (by decide) (by decide) (.slice none xs.length c) xs [x] (some ⟨vb, 0, none⟩) 1 vc ok (fun k => ok k ∧ some k ≠ (Value.slice none xs.length c).ownBlock) rfl rfl HO.out HR.out (fun y cs hy => by obtain ⟨rfl, rfl⟩ := hy; exact HZ.out) (fun k hk => hk) HFR.out (Below.refl _ _) HBS.out HB.out ?_; intro v1 w1 h1 b1 g1 a1; have H1 := Aside0.mk h1; have G1 := Aside0.mk g1; have A1 := Aside0.mk a1; clear h1 b1 g1 a1))
   go_ret
   exact ⟨_, rfl, H1.out, G1.out, A1.out⟩
 · have q2 : (c = xs.length) ∨ ¬ (c = xs.length) := Classical.em _
   rcases q2 with q2 | q2
   · go_enter Tryd.func84, Tryd.ntmps84
     go_wp2_with (first
      | ((with_reducible refine gate_builtin (b := .append) rfl ?_); refine Kd.R_append_rows k54 (w0 := w) base rfl (.tmp 23) (.tmp 24) 38 54 _ 32 rfl Tryd.underlying38 infoCloneS rfl (by decide) (by decide) (.slice (some ⟨G, o, sp⟩) xs.length c) xs [x] (some ⟨vb, 0, none⟩) 1 vc ok (fun k => ok k ∧ some k ≠ (Value.slice (some ⟨G, o, sp⟩) xs.length c).ownBlock) rfl rfl HO.out HR.out (fun y cs hy => by obtain ⟨rfl, rfl⟩ := hy; exact HZ.out) (fun k hk => hk) HFR.out (Below.refl _ _) HBS.out HB.out ?_; intro v1 w1 h1 b1 g1 a1; have H1 := Aside0.mk h1; have G1 := Aside0.mk g1; have A1 := Aside0.mk a1; clear h1 b1 g1 a1))
     go_ret
     exact ⟨_, rfl, H1.out, G1.out, A1.out⟩
   · go_enter Tryd.func84, Tryd.ntmps84
     go_wp2_with (first
      | ((with_reducible refine gate_builtin (b := .append) rfl ?_); refine Kd.R_append_rows k54 (w0 := w) base rfl (.tmp 23) (.tmp 24) 38 54 _ 32 rfl Tryd.underlying38 infoCloneS rfl (by decide) (by decide) (.slice (some ⟨G, o, sp⟩) xs.length c) xs [x] (some ⟨vb, 0, none⟩) 1 vc ok (fun k => ok k ∧ some k ≠ (Value.slice (some ⟨G, o, sp⟩) xs.length c).ownBlock) rfl rfl HO.out HR.out (fun y cs hy => by obtain ⟨rfl, rfl⟩ := hy; exact HZ.out) (fun k hk => hk) HFR.out (Below.refl _ _) HBS.out HB.out ?_; intro v1 w1 h1 b1 g1 a1; have H1 := Aside0.mk h1; have G1 := Aside0.mk g1; have A1 := Aside0.mk a1; clear h1 b1 g1 a1))
     go_ret
     exact ⟨_, rfl, H1.out, G1.out, A1.out⟩
theorem Insert_c {w : World} {base c vb vc i : Nat} {ok : Nat → Prop} {A : Option Addr} {xs : List TS} {x : TS} {A2 : Option Addr} {n2 c2 : Nat} (hfr : ∀ k, w.heap.size ≤ k → ok k) (h : k54.R 54 w base ok (.slice A xs.length c) xs) (hi : i ≤ xs.length) (hbase : base ≤ w.heap.size) (hbig : (xs.length + 1) * 32 ≤ 140737488355328) (hv : w.heap[vb]? = some (.cells #[.int .i64 x.f0, .slice A2 n2 c2] 54 (0, 0))) (hvb : some vb ≠ (Value.slice A xs.length c).ownBlock) (hz : k54.M w base (fun k => ok k ∧ some k ≠ (Value.slice A xs.length c).ownBlock) x [.int .i64 x.f0, .slice A2 n2 c2]) :
   Calls Tryd.prog 84 #[.slice A xs.length c, .int .i64 i, .slice (some ⟨vb, 0, none⟩) 1 vc] w (Put w base ok (.slice A xs.length c) (xs.take i ++ x :: xs.drop i)) := by
 rcases Nat.eq_or_lt_of_le hi with rfl | hi
 · rw [List.take_length, List.drop_length]
   exact Insert_end hfr h hbase hbig hv hz
 · obtain ⟨G, cap, he, _, _, _⟩ := Kd.R_form h (by omega)
   injection he with e1 _ e3
   subst e1
   subst e3
   obtain ⟨_, Z, hZ, rfl⟩ := ZR.of_R h
   rw [List.length_map] at *
   have hvb' : vb ≠ G := fun e => hvb (by rw [e]; rfl)
   have hz' := k54.M_mono (ok' := fun k => ok k ∧ k ≠ G) (fun k hk => ⟨hk.1, fun e => hk.2 (by rw [e]; rfl)⟩) hz
   by_cases hroom : Z.length + 1 ≤ c
   · exact Insert_shift (z := (x, .slice A2 n2 c2)) hZ hi hroom hv hvb' rfl hz'
   · exact Insert_grow (z := (x, .slice A2 n2 c2)) hfr hZ hi (by omega) hbig hv rfl hz'
theorem DeleteNil {w : World} {num : Int} {qa : Addr} (hq : w.cell? qa = some (.int .i64 num)) :
  Calls Tryd.prog 82 #[.slice none 0 0, .func (.func 88) #[] #[.pointer (some qa)]] w fun r w' => r = .returned (.slice none 0 0) ∧ Below w.heap.size w w' := by
 have HX := Aside0.mk (Idx_tree_of1 (A := none) (c := 0) (xs := []) (tree_of1_c hq) ⟨rfl, by decide, fun h => absurd h (Nat.lt_irrefl 0)⟩)
 clear hq
 go_enter Tryd.func82, Tryd.ntmps82
 go_wp2_with (first
  | (go_at_call 76; refine HX.out.mono ?_; rintro r w2 ⟨rfl, b2⟩; have B2 := Aside0.mk b2; clear b2))
 go_ret
 exact ⟨rfl, B2.out⟩
theorem Delete_c {w : World} {base c : Nat} {ok : Nat → Prop} {A : Option Addr} {xs : List TS} {num : Int} {qa : Addr} (h : k54.R 54 w base ok (.slice A xs.length c) xs) (hq : w.cell? qa = some (.int .i64 num)) (hqb : some qa.block ≠ (Value.slice A xs.length c).ownBlock) :
   Calls Tryd.prog 82 #[.slice A xs.length c, .func (.func 88) #[] #[.pointer (some qa)]] w fun r w' => ∃ ys, r = .returned (.slice A ys.length c) ∧ k54.R 54 w' base ok (.slice A ys.length c) ys ∧ w.grownBy w' (Value.slice A ys.length c).ownBlock ∧ ys = xs.filter (fun x => !(x.f0 == num)) := by
 rcases A with _ | ad
 · obtain ⟨_, inner, ⟨hl, h1 | ⟨g, cap, cur, he, _⟩⟩, _⟩ := h
   · have h2 := h1.2
     obtain rfl := List.length_eq_zero_iff.1 h2
     injection h1.1 with _ _ h3
     subst h3
     refine (DeleteNil hq).mono ?_
     rintro r w' ⟨rfl, hb⟩
     exact ⟨[], rfl, Kd.R_nil _ _ _ _ _, grown_of_below hb _, rfl⟩
   · injection he with he; cases he
 · have he : ∃ G, ad = ⟨G, 0, none⟩ := by
     obtain ⟨_, inner, ⟨hl, h1 | ⟨g, cap, cur, he, _⟩⟩, _⟩ := h
     · injection h1.1 with h1; cases h1
     · injection he with he; injection he with he; exact ⟨g, he⟩
   obtain ⟨G, rfl⟩ := he
   obtain ⟨_, Z, hZ, rfl⟩ := ZR.of_R h
   rw [List.length_map] at *
   refine (DeleteFunc_c hZ hq (fun e => hqb (by rw [e]; rfl))).mono ?_
   rintro r w' ⟨Y, rfl, hY, hg, rfl⟩
   refine ⟨(Z.filter (fun z => !(z.1.f0 == num))).map Prod.fst, by rw [List.length_map], by rw [List.length_map]; exact hY.to_R, hg, ?_⟩
   rw [List.filter_map]
   rfl
theorem of_c {w : World} {num : Int} : Calls Tryd.prog 77 #[.int .i64 num] w fun r w' => ∃ b, r = .returned (.func (.func 88) #[] #[.pointer (some ⟨b, 0, none⟩)]) ∧ w.heap.size ≤ b ∧ w'.cell? ⟨b, 0, none⟩ = some (.int .i64 num) ∧ Below w.heap.size w w' := by
 go_enter Tryd.func77, Tryd.ntmps77
 go_wp2
 go_ret
 exact ⟨w.heap.size, rfl, Nat.le_refl _, (blk_cell (blk_new w _) 0).trans rfl, below_alloc (Below.refl _ _) _⟩
end Go.Proofs.YthgddlibfboehaaDoor.TK
end
section
namespace Go.Proofs.YthgddlibfboehaaDoor.TK
open Go.RowKit Go.Proofs.YthgddlibfboehaaDoor.Ops Go.Proofs.YthgddlibfboehaaDoor.KD Go.Proofs.YthgddlibfboehaaDoor.M Go.Proofs.YthgddlibfboehaaDoorW.PrintWords Go.Proofs.YthgddlibfboehaaDoorW.PrintLast Go.Proofs.YthgddlibfboehaaDoorW.PrintMore Go.Proofs.YthgddlibfboehaaDoor.Open
set_option linter.unusedVariables false
set_option linter.unusedSimpArgs false
set_option maxHeartbeats 1000000
set_option maxRecDepth 100000
/-- Where a number's slot comes to lie. -/
def atT (xs : List TS) (num : Int) : Nat := if ixF (fun x : TS => decide (num < x.f0)) xs 0 < 0 then xs.length else (ixF (fun x : TS => decide (num < x.f0)) xs 0).toNat
def putT (xs : List TS) (num : Int) (vals : List TV) : List TS := xs.take (atT xs num) ++ ⟨num, vals⟩ :: xs.drop (atT xs num)
def outT (xs : List TS) (num : Int) : List TS := xs.filter (fun x => !(x.f0 == num))
/-- A tree with a number's values. -/
def withT (t : TT) (num : Int) (vals : List TV) : TT := ⟨if vals = [] then outT t.f0 num else putT (outT t.f0 num) num vals, t.f1⟩
theorem atT_le (xs : List TS) (num : Int) : atT xs num ≤ xs.length := by
 unfold atT
 rcases ixF_two (p := fun x : TS => decide (num < x.f0)) xs 0 with ⟨h, _⟩ | ⟨k, x, h, hk, _⟩
 · rw [h]; exact Nat.le_refl _
 · rw [h]
   have := (List.getElem?_eq_some_iff.1 hk).1
   split <;> omega
theorem tree_reads {w : World} {x : TT} {A0 A1 : Option Addr} {c0 c1 : Nat} (h : k41.K w x [.slice A0 x.f0.length c0, .slice A1 x.f1.length c1]) : x.f0.length ≤ c0 ∧ k54.C w A0 x.f0.length x.f0 ∧ x.f1.length ≤ c1 ∧ k92.C w A1 x.f1.length x.f1 := by
 obtain ⟨B0, d0, B1, d1, he, h1, h2, h3, h4⟩ := k41_open h
 injection he with e1 e2
 injection e2 with e2 _
 injection e1 with e1 _ e3
 injection e2 with e2 _ e4
 subst e1
 subst e2
 subst e3
 subst e4
 exact ⟨h1, h2, h3, h4⟩
/-- A tree of one's own. -/
def OwnT (w : World) (base : Nat) (x : TT) (r : Ending) : Prop := ∃ u0 u1, r = .returned (.agg #[u0, u1]) ∧ k54.R 54 w base (fun k => some k ≠ u1.ownBlock) u0 x.f0 ∧ k92.R 92 w base (fun _ => True) u1 x.f1
theorem copy_own {w : World} {x : TT} {A0 A1 : Option Addr} {c0 c1 : Nat} (h : k41.K w x [.slice A0 x.f0.length c0, .slice A1 x.f1.length c1]) (hok : okTr x) : Calls Tryd.prog 78 #[.agg #[.slice A0 x.f0.length c0, .slice A1 x.f1.length c1]] w fun r w' => OwnT w' w.heap.size x r ∧ Below w.heap.size w w' :=
 (tree_Copy w x _ h hok).mono fun r w' hh => by
  obtain ⟨⟨cs', rfl, hm⟩, hb⟩ := hh
  obtain ⟨u0, u1, rfl, h0, h1⟩ := k41_openM hm
  exact ⟨⟨u0, u1, rfl, Kd.R_mono h0 (fun _ hk => hk.2), h1⟩, hb⟩
theorem tree_mk {w : World} {x : TT} {A0 A1 : Option Addr} {c0 c1 : Nat} (h1 : x.f0.length ≤ c0) (h2 : k54.C w A0 x.f0.length x.f0) (h3 : x.f1.length ≤ c1) (h4 : k92.C w A1 x.f1.length x.f1) : k41.K w x [.slice A0 x.f0.length c0, .slice A1 x.f1.length c1] := k41_mk w x h1 h2 h3 h4
/-- Stores below the base. -/
theorem R_under {α : Type} {d : Kd α} {e base : Nat} {w : World} {ok : Nat → Prop} {v : Value} {xs : List α} (h : d.R e w base ok v xs) {g o o' : Nat} (hg : g < base) (u u' : Value) {b : Nat} (hb : b ≤ base) : d.R e ((w.setCell ⟨g, o, none⟩ u).setCell ⟨g, o', none⟩ u') b (fun _ => True) v xs :=
 Kd.R_lower (Kd.R_mono (Kd.R_far (Kd.R_far (Kd.R_bound h) (p := ⟨g, o, none⟩) (fun k hk => by have := hk.2.1; show k ≠ g; omega) _) (p := ⟨g, o', none⟩) (fun k hk => by have := hk.2.1; show k ≠ g; omega) _) (fun _ _ => trivial)) hb
theorem R_underS {α : Type} {d : Kd α} {e base : Nat} {w : World} {ok ok' : Nat → Prop} {v : Value} {xs : List α} (h : d.R e w base ok v xs) (hi : ∀ k, ok k → ok' k) {g o o' : Nat} (hg : g < base) (u u' : Value) {b : Nat} (hb : b ≤ base) : d.R e ((w.setCell ⟨g, o, none⟩ u).setCell ⟨g, o', none⟩ u') b ok' v xs :=
 Kd.R_lower (Kd.R_mono (Kd.R_far (Kd.R_far (Kd.R_bound h) (p := ⟨g, o, none⟩) (fun k hk => by have := hk.2.1; show k ≠ g; omega) _) (p := ⟨g, o', none⟩) (fun k hk => by have := hk.2.1; show k ≠ g; omega) _) (fun k hk => hi k hk.1)) hb
theorem one_C {w : World} {b : Nat} {z : TS} {u0 u1 : Value} (hb : w.heap[b]? = some (.cells #[u0, u1] 54 (0, 0))) (hK : k54.K w z [u0, u1]) : k54.C w (some ⟨b, 0, none⟩) 1 [z] := by
 refine ⟨rfl, by decide, fun _ => ⟨_, rfl, fun j p hj => ?_⟩⟩
 have h1 := (List.getElem?_eq_some_iff.1 hj).1
 obtain rfl : j = 0 := by simp only [List.length_singleton] at h1; omega
 obtain rfl : z = p := by simpa using hj
 refine ⟨[u0, u1], rfl, hK, fun t v ht => ?_⟩
 have e : (⟨b, 0, none⟩ : Addr).add (0 * k54.sz + t) = ⟨b, t, none⟩ := by rw [Nat.zero_mul, Nat.zero_add]; unfold Addr.add; split <;> simp_all
 rw [e, blk_cell hb, ← Array.getElem?_toList]
 exact ht
theorem none_C (w : World) : k92.C w none 0 [] := ⟨rfl, by decide, fun h => absurd h (Nat.lt_irrefl 0)⟩
theorem copy_one {w : World} {b : Nat} {num : Int} {vals : List TV} {AV : Option Addr} {cv : Nat} (hb : w.heap[b]? = some (.cells #[.int .i64 num, .slice AV vals.length cv] 54 (0, 0))) (hl : vals.length ≤ cv) (hV : k51.C w AV vals.length vals) (hok : okTr ⟨[⟨num, vals⟩], []⟩) :
  Calls Tryd.prog 78 #[.agg #[.slice (some ⟨b, 0, none⟩) 1 1, .slice none 0 0]] w fun r w' => ∃ (G cap : Nat) (A2 : Option Addr) (d2 : Nat) (D : Option Addr) (dn dc : Nat), r = .returned (.agg #[.slice (some ⟨G, 0, none⟩) 1 cap, .slice D dn dc]) ∧ w.heap.size ≤ G ∧ (w'.cell? ⟨G, 0, none⟩ = some (.int .i64 num) ∧ w'.cell? ⟨G, 1, none⟩ = some (.slice A2 vals.length d2)) ∧ k54.M w' w.heap.size (fun k => k ≠ G) ⟨num, vals⟩ [.int .i64 num, .slice A2 vals.length d2] ∧ Below w.heap.size w w' := by
 refine (copy_own (w := w) (x := ⟨[⟨num, vals⟩], []⟩) (A0 := some ⟨b, 0, none⟩) (A1 := none) (c0 := 1) (c1 := 0) (tree_mk (Nat.le_refl _) (one_C hb (k54_mk w ⟨num, vals⟩ hl hV)) (Nat.le_refl _) (none_C _)) hok).mono ?_
 rintro r w5 ⟨⟨p0, p1, rfl, h0, h1⟩, b5⟩
 obtain ⟨D, dc, rfl⟩ := Kd.R_slice h1
 obtain ⟨G, capG, rfl, hGb, hGl, _⟩ := Kd.R_form h0 (Nat.lt_succ_self _)
 obtain ⟨_, Z, hZ, hZe⟩ := ZR.of_R h0
 obtain ⟨z, rfl⟩ : ∃ z, Z = [z] := by
  have hl1 := congrArg List.length hZe
  rw [List.length_map] at hl1
  exact List.length_eq_one_iff.1 hl1
 have hz1 : z.1 = ⟨num, vals⟩ := by simpa using hZe
 obtain ⟨A2, d2, hz2, _⟩ := hZ.slot (i := 0) (z := z) rfl
 obtain ⟨y0, y1, yf⟩ := hZ.cell (i := 0) (z := z) rfl
 have hzM := hZ.el z (by simp)
 rw [hz1] at hz2 y0 hzM
 rw [hz2] at y1 hzM
 exact ⟨G, capG, A2, d2, D, _, dc, rfl, hGb, ⟨y0, y1⟩, k54.M_mono (fun k hk => hk.2) hzM, b5⟩
theorem own_n (D : Option Addr) (n m c c' : Nat) : (Value.slice D n c).ownBlock = (Value.slice D m c').ownBlock := by cases D <;> rfl
set_option maxHeartbeats 3000000 in
theorem With_c {w : World} {x : TT} {A0 A1 AV : Option Addr} {c0 c1 cv : Nat} {num : Int} {vals : List TV} (h : k41.K w x [.slice A0 x.f0.length c0, .slice A1 x.f1.length c1]) (hl : vals.length ≤ cv) (hV : k51.C w AV vals.length vals) (hok : okTr x) (hov : okTr ⟨[⟨num, vals⟩], []⟩) :
  Calls Tryd.prog 62 #[.agg #[.slice A0 x.f0.length c0, .slice A1 x.f1.length c1], .int .i64 num, .slice AV vals.length cv] w fun r w' => OwnT w' w.heap.size (withT x num vals) r ∧ Below w.heap.size w w' := by
 obtain ⟨wz, hwz⟩ : ∃ wz, wz = ((w.alloc (.cells #[.slice A0 x.f0.length c0, .slice A1 x.f1.length c1] 41)).alloc (.cells #[.int .i64 num] 3)).alloc (.cells #[.slice none 0 0, .slice none 0 0] 41) := ⟨_, rfl⟩
 have bz : Below w.heap.size w wz := by rw [hwz]; exact below_alloc (below_alloc (below_alloc (Below.refl _ _) _) _) _
 have hb1 : wz.heap[w.heap.size]? = some (.cells #[.slice A0 x.f0.length c0, .slice A1 x.f1.length c1] 41 (0, 0)) := by rw [hwz]; exact blk_alloc (blk_alloc (blk_new _ _) _) _
 have hb2 : wz.heap[w.heap.size + 1]? = some (.cells #[.int .i64 num] 3 (0, 0)) := by
  have q := blk_alloc (blk_new (w.alloc (.cells #[.slice A0 x.f0.length c0, .slice A1 x.f1.length c1] 41)) (.cells #[.int .i64 num] 3)) (.cells #[.slice none 0 0, .slice none 0 0] 41)
  rw [World.size_alloc] at q
  rw [hwz]
  exact q
 have hb3 : wz.heap[w.heap.size + 1 + 1]? = some (.cells #[.slice none 0 0, .slice none 0 0] 41 (0, 0)) := by
  have q := blk_new ((w.alloc (.cells #[.slice A0 x.f0.length c0, .slice A1 x.f1.length c1] 41)).alloc (.cells #[.int .i64 num] 3)) (.cells #[.slice none 0 0, .slice none 0 0] 41)
  rw [World.size_alloc, World.size_alloc] at q
  rw [hwz]
  exact q
 have hsz : wz.heap.size = w.heap.size + 3 := by rw [hwz]; simp only [World.size_alloc]
 have HWZ := Aside0.mk hwz
 have HSZ := Aside0.mk hsz
 have BZ := Aside0.mk bz
 have HB1 := Aside0.mk hb1
 have HB2 := Aside0.mk hb2
 have HB3 := Aside0.mk hb3
 have HC := Aside0.mk (copy_own (k41.K_below bz h) hok)
 have HV := Aside0.mk (Kd.C_below hV bz)
 have HOK := Aside0.mk hok
 have HOV := Aside0.mk hov
 have HL := Aside0.mk hl
 clear hwz bz hb1 hb2 hb3 hsz h hV hok hov hl
 go_enter Tryd.func62, Tryd.ntmps62
 go_wp2_with (first
  | (go_at_call 78; rw [← HWZ.out]; refine HC.out.mono ?_; rintro r w1 ⟨⟨u0, u1, rfl, h0, h1⟩, b1⟩
     obtain ⟨D0, e0, rfl⟩ := Kd.R_slice h0
     obtain ⟨D1, e1, rfl⟩ := Kd.R_slice h1
     have R0 := Aside0.mk h0
     have R1 := Aside0.mk h1
     have B1 := Aside0.mk b1
     clear h0 h1 b1))
 obtain ⟨wo, hwo⟩ : ∃ wo, wo = w1.alloc (.cells #[.slice D0 x.f0.length e0, .slice D1 x.f1.length e1] 41) := ⟨_, rfl⟩
 rw [← hwo]
 have bo : Below w1.heap.size w1 wo := by rw [hwo]; exact below_alloc (Below.refl _ _) _
 have ho0 : wo.heap[w1.heap.size]? = some (.cells #[.slice D0 x.f0.length e0, .slice D1 x.f1.length e1] 41 (0, 0)) := by rw [hwo]; exact blk_new _ _
 have hso : wo.heap.size = w1.heap.size + 1 := by rw [hwo, World.size_alloc]
 have hn0 := blk_below (blk_below HB2.out B1.out) bo
 have S1 := Aside0.mk B1.out.size
 have HSO := Aside0.mk hso
 have HO0 := Aside0.mk ho0
 have HN0 := Aside0.mk hn0
 have BO := Aside0.mk bo
 have KO := Aside0.mk (fun w2 (hb : Below wo.heap.size wo w2) => show w2.cell? ⟨w1.heap.size, 0, none⟩ = some (.slice D0 x.f0.length e0) ∧ w2.cell? ⟨w.heap.size + 1, 0, none⟩ = some (.int .i64 num) from ⟨(blk_cell (blk_below ho0 hb) 0).trans rfl, (blk_cell (blk_below hn0 hb) 0).trans rfl⟩)
 have BB := Aside0.mk (Below.refl wo.heap.size wo)
 have hm := KO.out wo BB.out
 obtain ⟨m1, m2⟩ := KO.out wo BB.out
 have RO := Aside0.mk (Kd.R_below R0.out bo)
 have hown : ∀ n c k, (Value.slice D0 n c).ownBlock = some k → wz.heap.size ≤ k ∧ k < w1.heap.size := fun n c k hk => by
  have e : (Value.slice D0 x.f0.length e0).ownBlock = some k := by rw [← hk]; cases D0 <;> rfl
  exact ⟨Kd.R_base R0.out k e, Kd.R_lt R0.out k e⟩
 have HOWN := Aside0.mk hown
 clear hwo bo ho0 hn0 hso hown
 have RO2 : Aside0 (k54.R 54 wo wz.heap.size (fun k => k ≠ w1.heap.size ∧ some k ≠ (Value.slice D1 x.f1.length e1).ownBlock) (.slice D0 x.f0.length e0) x.f0) := ⟨Kd.R_below (Kd.R_mono (Kd.R_bound R0.out) (fun k hk => ⟨by have := hk.2.2.1; omega, hk.1⟩)) BO.out⟩
 have RR2 : Aside0 (k92.R 92 wo wz.heap.size (fun k => k ≠ w1.heap.size) (.slice D1 x.f1.length e1) x.f1) := ⟨Kd.R_below (Kd.R_mono (Kd.R_bound R1.out) (fun k hk => by have := hk.2.2.1; omega)) BO.out⟩
 clear RO
 go_cut [7] (fun s7 wx => s7 = .pointer (some ⟨w1.heap.size, 0, none⟩) ∧ Aside0 (wx.heap[w1.heap.size]? = some (.cells #[.slice D0 (outT x.f0 num).length e0, .slice D1 x.f1.length e1] 41 (0, 0))) ∧ Aside0 (k54.R 54 wx wz.heap.size (fun k => k ≠ w1.heap.size ∧ some k ≠ (Value.slice D1 x.f1.length e1).ownBlock) (.slice D0 (outT x.f0 num).length e0) (outT x.f0 num)) ∧ Aside0 (k92.R 92 wx wz.heap.size (fun k => k ≠ w1.heap.size) (.slice D1 x.f1.length e1) x.f1) ∧ Aside0 (Below wz.heap.size wz wx))
 case first =>
  go_region_with (first
    | (go_at_call 77; refine of_c.mono ?_; rintro r w2 ⟨qb, rfl, hqb, hq, b2⟩
       have BX : Below wo.heap.size wo w2 := below_step (by repeat (first | (with_reducible first | exact BB.out | apply below_alloc | apply pw_below_drewN | apply below_drew))) b2
       have QB : Aside0 (wo.heap.size ≤ qb) := ⟨by have := hqb; simp at this; omega⟩
       have HQ := Aside0.mk hq
       clear b2 hqb hq
       have BB := Aside0.mk BX
       obtain ⟨m3, m4⟩ := KO.out _ BX
       clear BX)
    | (go_at_call 82
       refine (Delete_c (base := wz.heap.size) (ok := fun k => k ≠ w1.heap.size ∧ some k ≠ (Value.slice D1 x.f1.length e1).ownBlock) (A := D0) (c := e0) (xs := x.f0) (num := num) (qa := ⟨qb, 0, none⟩) (Kd.R_below RO2.out (by repeat (first | (with_reducible first | exact BB.out | apply below_alloc | apply pw_below_drewN | apply below_drew)))) HQ.out (fun e => by have := HOWN.out _ _ qb e.symm; have := QB.out; have := HSO.out; omega)).mono ?_
       rintro r w3 ⟨ys, rfl, hR, hg, hys⟩
       have hys : ys = outT x.f0 num := hys
       subst hys
       have BX : Below wo.heap.size wo w2 := BB.out
       have G3 := Aside0.mk (World.grownBy.trans (grown_of_below BX (Value.slice D0 (outT x.f0 num).length e0).ownBlock) hg)
       have R3 := Aside0.mk hR
       have hne : some w1.heap.size ≠ (Value.slice D0 (outT x.f0 num).length e0).ownBlock := fun e => by have := HOWN.out _ _ w1.heap.size e.symm; omega
       have ho3 := blk_grown HO0.out G3.out hne
       have HO3 := Aside0.mk ho3
       have j0 := (blk_cell ho3 0).trans rfl
       have j1 := blk_frozen ho3 0
       clear hR hg BX hne ho3))
  all_goals
    go_wp2_with fail
    go_meet
    case rel =>
      have b3 : Below wz.heap.size wz w3 := pw_below_grown (B1.out.trans (BO.out.mono B1.out.size)) _ (Nat.le_trans B1.out.size BO.out.size) G3.out (fun k hk => (HOWN.out _ _ k hk).1)
      exact ⟨rfl, ⟨blk_put HO3.out 0 _ rfl⟩, ⟨Kd.R_far R3.out (fun k hk => hk.1) _⟩, ⟨Kd.R_far (Kd.R_over RR2.out RO2.out (by decide) (by rw [own_n D0 _ (outT x.f0 num).length _ e0]; exact G3.out)) (fun k hk => hk) _⟩, ⟨b3.setCell B1.out.size _⟩⟩
 case rest =>
  obtain ⟨rfl, HO, HS, HR, BX⟩ := hcut
  have g0 := (blk_cell HO.out 0).trans rfl
  have g1 := (blk_cell HO.out 1).trans rfl
  have hz3 := blk_below HB3.out BX.out
  have f0 := (blk_cell hz3 0).trans rfl
  have f1 := (blk_cell hz3 1).trans rfl
  have HZ3 := Aside0.mk hz3
  clear m1 m2 hm KO BB RO2 RR2 HO0 HN0 HOWN BO HC R0 R1 hz3
  have fr := blk_frozen HZ3.out
  have fr0 := fr 0
  have fr1 := fr 1
  have HSZ' := HSZ.out
  clear fr
  by_cases hvz : vals.length = 0
  · have ev1 : (vals.length : Int) = 0 := by omega
    have hv0 : vals = [] := List.length_eq_zero_iff.1 hvz
    have HV0 := Aside0.mk hv0
    clear hvz hv0 HSZ'
    go_wp2_with fail
    have hw : withT x num vals = ⟨outT x.f0 num, x.f1⟩ := by unfold withT; rw [if_pos HV0.out]
    rw [hw]
    have := HSZ.out
    refine bodyPost_ret (results_cell_row rfl _ _ (w.heap.size + 1 + 1) 41 _ _ _ rfl (blk_put (blk_put HZ3.out 0 _ rfl) 1 _ rfl) Tryd.underlying41 rfl (by kernel_rfl)) rfl ?_
    exact ⟨⟨_, _, rfl, R_underS HS.out (fun _ hk => hk.2) (by omega) _ _ (by omega), R_under HR.out (by omega) _ _ (by omega)⟩, ((BZ.out.trans (BX.out.mono BZ.out.size)).setCell (by show w.heap.size ≤ w.heap.size + 1 + 1; omega) _).setCell (by show w.heap.size ≤ w.heap.size + 1 + 1; omega) _⟩
  · have ev1 : ¬ ((vals.length : Int) = 0) := by omega
    have hn3 := blk_below HB2.out BX.out
    have HN3 := Aside0.mk hn3
    have HVZ := Aside0.mk hvz
    have n0 := (blk_cell hn3 0).trans rfl
    have HIX := Aside0.mk (Idx_tree_With1 (A := D0) (c := e0) (tree_With1_c n0) (Kd.R_reads' HS.out).2.2)
    have hat : atT (outT x.f0 num) num = if ixF (fun x : TS => decide (num < x.f0)) (outT x.f0 num) 0 < 0 then (outT x.f0 num).length else (ixF (fun x : TS => decide (num < x.f0)) (outT x.f0 num) 0).toNat := rfl
    have hle := atT_le (outT x.f0 num) num
    rcases ixF_two (p := fun x : TS => decide (num < x.f0)) (outT x.f0 num) 0 with ⟨hi, _⟩ | ⟨k, y, hi, _, _, _⟩
    · rw [hi] at HIX hat
      have HAT := Aside0.mk (hat.trans (if_pos (by omega)))
      have HLE := Aside0.mk hle
      clear hi hat hle hn3 hvz HSZ'
      go_wp2_with (first
        | (go_at_call 76; refine HIX.out.mono ?_; rintro r w4 ⟨rfl, b4⟩; have B4 := Aside0.mk b4; have h4 := blk_below HO.out b4; have g2 := (blk_cell h4 0).trans rfl; have h5 := blk_below HN3.out b4; have g3 := (blk_cell h5 0).trans rfl; clear b4 h4 h5))
      obtain ⟨wv, hwv⟩ : ∃ wv, wv = w4.alloc (.cells #[.int .i64 num, .slice AV vals.length cv] 54) := ⟨_, rfl⟩
      rw [← hwv]
      have bv : Below w4.heap.size w4 wv := by rw [hwv]; exact below_alloc (Below.refl _ _) _
      have hv0 : wv.heap[w4.heap.size]? = some (.cells #[.int .i64 num, .slice AV vals.length cv] 54 (0, 0)) := by rw [hwv]; exact blk_new _ _
      have bzv : Below wz.heap.size wz wv := BX.out.trans ((B4.out.trans (bv.mono B4.out.size)).mono BX.out.size)
      have hcp := copy_one hv0 HL.out (Kd.C_below HV.out bzv) HOV.out
      have B4V := Aside0.mk (B4.out.trans (bv.mono B4.out.size))
      clear hwv bv hv0 bzv
      go_wp2_with (first
        | (go_at_call 78
           refine hcp.mono ?_
           rintro r w5 ⟨G, capG, A2, d2, D2, dn, dc, rfl, hGb, ⟨y0, y1⟩, hzM, b5⟩
           have HZM := Aside0.mk hzM
           have HGB := Aside0.mk hGb
           have B5 := Aside0.mk b5
           clear hcp hzM hGb b5))
      obtain ⟨wp, hwp⟩ : ∃ wp, wp = w5.alloc (.cells #[.slice (some ⟨G, 0, none⟩) 1 capG, .slice D2 dn dc] 41) := ⟨_, rfl⟩
      rw [← hwp]
      have bp : Below w5.heap.size w5 wp := by rw [hwp]; exact below_alloc (Below.refl _ _) _
      have hp0 : wp.heap[w5.heap.size]? = some (.cells #[.slice (some ⟨G, 0, none⟩) 1 capG, .slice D2 dn dc] 41 (0, 0)) := by rw [hwp]; exact blk_new _ _
      have hsp : wp.heap.size = w5.heap.size + 1 := by rw [hwp, World.size_alloc]
      have bvp : Below wv.heap.size wv wp := B5.out.trans (bp.mono B5.out.size)
      have bcp : Below wc.heap.size wc wp := B4V.out.trans (bvp.mono B4V.out.size)
      have hop := blk_below HO.out bcp
      have hgl : G < w5.heap.size := by
        rcases Nat.lt_or_ge G w5.heap.size with h | h
        · exact h
        · simp [World.cell?, Array.getElem?_eq_none h] at y0
      have t0 : wp.cell? ⟨w1.heap.size, 0, none⟩ = some (.slice D0 (outT x.f0 num).length e0) := (blk_cell hop 0).trans rfl
      have t1 : wp.cell? ⟨w5.heap.size, 0, none⟩ = some (.slice (some ⟨G, 0, none⟩) 1 capG) := (blk_cell hp0 0).trans rfl
      have t2 : wp.cell? ⟨G, 0, none⟩ = some (.int .i64 num) := (bp.cell (p := ⟨G, 0, none⟩) hgl).trans y0
      have t3 : wp.cell? ⟨G, 1, none⟩ = some (.slice A2 vals.length d2) := (bp.cell (p := ⟨G, 1, none⟩) hgl).trans y1
      have KA : ∀ o, (wp.alloc o).cell? ⟨w1.heap.size, 0, none⟩ = some (.slice D0 (outT x.f0 num).length e0) := fun o => pw_cell_below (below_alloc (Below.refl _ _) o) t0
      have HOP := Aside0.mk hop
      have HSC : ∀ n c k, (Value.slice D0 n c).ownBlock = some k → wz.heap.size ≤ k ∧ k < wc.heap.size := fun n c k hk => by
        rw [own_n D0 n (outT x.f0 num).length c e0] at hk
        exact ⟨Kd.R_base HS.out k hk, Kd.R_lt HS.out k hk⟩
      have HSCA := Aside0.mk HSC
      have HDL : Aside0 (∀ k, (Value.slice D1 x.f1.length e1).ownBlock = some k → k < wc.heap.size) := ⟨fun k hk => Kd.R_lt HR.out k hk⟩
      have s1 : w1.heap.size < wc.heap.size := blk_lt HO.out
      have S2 := Aside0.mk s1
      have S3 := Aside0.mk bcp.size
      have S4 := Aside0.mk B4V.out.size
      have S5 := Aside0.mk B1.out.size
      have S6 := Aside0.mk BX.out.size
      have hMp : k54.M wp wz.heap.size (fun k => (k ≠ w1.heap.size ∧ some k ≠ (Value.slice D1 x.f1.length e1).ownBlock) ∧ some k ≠ (Value.slice D0 (outT x.f0 num).length e0).ownBlock) ⟨num, vals⟩ [.int .i64 num, .slice A2 vals.length d2] :=
        k54.M_mono (fun k hk => ⟨⟨by have := hk.2.1; omega, fun e => by have := hk.2.1; have := HDL.out k e.symm; omega⟩, fun e => by have := hk.2.1; have := (HSC _ _ k e.symm).2; omega⟩) (k54.M_lower BX.out.size (k54.M_lower (Nat.le_refl _) (k54.M_bound (k54.M_lower S4.out (Kd.M_below HZM.out bp)))))
      have HMP := Aside0.mk hMp
      have RSP := Aside0.mk (Kd.R_below HS.out bcp)
      have RRP := Aside0.mk (Kd.R_below HR.out bcp)
      have BZP := Aside0.mk (BX.out.trans (bcp.mono BX.out.size))
      have HBIG : Aside0 (((outT x.f0 num).length + 1) * 32 ≤ 140737488355328) := ⟨by
        obtain ⟨n, hn⟩ := HOK.out
        have h2 : (outT x.f0 num).length ≤ x.f0.length := List.length_filter_le _ _
        cases n with
        | zero => exact hn.elim
        | succ n => have h1 := hn.1.1; unfold reachBytes at h1; omega⟩
      have SQ := Aside0.mk (show ((wp.alloc (.cells #[.int .i64 num, .slice A2 vals.length d2] 54)).drew).heap.size = wp.heap.size + 1 from World.size_alloc _ _)
      have BB := Aside0.mk (Below.refl wp.heap.size wp)
      have HIN := Aside0.mk (Insert_c (w := (wp.alloc (.cells #[.int .i64 num, .slice A2 vals.length d2] 54)).drew) (vb := wp.heap.size) (vc := 1) (i := (outT x.f0 num).length) (base := wz.heap.size) (ok := fun k => k ≠ w1.heap.size ∧ some k ≠ (Value.slice D1 x.f1.length e1).ownBlock) (A := D0) (c := e0) (xs := outT x.f0 num) (x := ⟨num, vals⟩) (A2 := A2) (n2 := vals.length) (c2 := d2) (fun k hk => ⟨by have := S2.out; have := S3.out; have := SQ.out; omega, fun e => by have := HDL.out k e.symm; have := S3.out; have := SQ.out; omega⟩) (Kd.R_below RSP.out (below_drew (below_alloc BB.out _))) (Nat.le_refl _) (by have := S3.out; have := S6.out; have := SQ.out; omega) HBIG.out (blk_new wp _) (fun e => by have h9 := HSCA.out _ _ _ e.symm; have := S3.out; have h10 : wp.heap.size < wc.heap.size := h9.2; omega) (Kd.M_below HMP.out (below_drew (below_alloc BB.out _))))
      rw [show (outT x.f0 num).take (outT x.f0 num).length ++ ⟨num, vals⟩ :: (outT x.f0 num).drop (outT x.f0 num).length = putT (outT x.f0 num) num vals by unfold putT; rw [HAT.out]] at HIN
      clear hwp bp hp0 hsp bvp bcp hop hgl y0 y1 HSC s1 hMp
      go_cut [7] (fun s7 wx => s7 = .pointer (some ⟨w1.heap.size, 0, none⟩) ∧ ∃ (D' : Option Addr) (c' : Nat), Aside0 (wx.heap[w1.heap.size]? = some (.cells #[.slice D' (putT (outT x.f0 num) num vals).length c', .slice D1 x.f1.length e1] 41 (0, 0))) ∧ Aside0 (k54.R 54 wx wz.heap.size (fun k => k ≠ w1.heap.size ∧ some k ≠ (Value.slice D1 x.f1.length e1).ownBlock) (.slice D' (putT (outT x.f0 num) num vals).length c') (putT (outT x.f0 num) num vals)) ∧ Aside0 (k92.R 92 wx wz.heap.size (fun k => k ≠ w1.heap.size) (.slice D1 x.f1.length e1) x.f1) ∧ Aside0 (Below wz.heap.size wz wx))
      case first =>
        go_region_with (first
          | (go_at_call 84
             refine HIN.out.mono ?_
             rintro r w7 ⟨v7, rfl, hR7, hg7, hat7⟩
             obtain ⟨D7, c7, rfl⟩ := Kd.R_slice hR7
             have R7 : Aside0 (k54.R 54 w7 wz.heap.size (fun k => k ≠ w1.heap.size ∧ some k ≠ (Value.slice D1 x.f1.length e1).ownBlock) (.slice D7 (putT (outT x.f0 num) num vals).length c7) (putT (outT x.f0 num) num vals)) := ⟨hR7⟩
             have bpa := below_drew (below_alloc BB.out (.cells #[.int .i64 num, .slice A2 vals.length d2] 54))
             have G7 := Aside0.mk (World.grownBy.trans (grown_of_below bpa _) hg7)
             have hne : some w1.heap.size ≠ (Value.slice D0 (outT x.f0 num).length e0).ownBlock := fun e => (HSCA.out _ _ _ e.symm).elim (fun _ _ => Kd.R_away RSP.out (fun k hk => hk.1) e)
             have ho7 := blk_grown HOP.out G7.out hne
             have HO7 := Aside0.mk ho7
             have j0 := (blk_cell ho7 0).trans rfl
             have j1 := blk_frozen ho7 0
             clear hR7 hg7 hat7 bpa hne ho7))
        all_goals
          go_wp2_with fail
          go_meet
          case rel =>
            have b7 : Below wz.heap.size wz w7 := pw_below_grown BZP.out _ BZP.out.size G7.out (fun k hk => (HSCA.out _ _ k hk).1)
            exact ⟨rfl, D7, c7, ⟨blk_put HO7.out 0 _ rfl⟩, ⟨Kd.R_far R7.out (fun k hk => hk.1) _⟩, ⟨Kd.R_far (Kd.R_over RRP.out RSP.out (by decide) G7.out) (fun k hk => hk) _⟩, ⟨b7.setCell S5.out _⟩⟩
      case rest =>
        obtain ⟨rfl, D', c', HO8, HS8, HR8, BX8⟩ := hcut
        have g0 := (blk_cell HO8.out 0).trans rfl
        have g1 := (blk_cell HO8.out 1).trans rfl
        have hz8 := blk_below HB3.out BX8.out
        have f0 := (blk_cell hz8 0).trans rfl
        have f1 := (blk_cell hz8 1).trans rfl
        have fr0 := blk_frozen hz8 0
        have fr1 := blk_frozen hz8 1
        have HZ8 := Aside0.mk hz8
        clear hz8 t0 t1 t2 t3 KA
        go_wp2_with fail
        have hw : withT x num vals = ⟨putT (outT x.f0 num) num vals, x.f1⟩ := by unfold withT; rw [if_neg (fun e => HVZ.out (by rw [e]; rfl))]
        rw [hw]
        have := HSZ.out
        refine bodyPost_ret (results_cell_row rfl _ _ (w.heap.size + 1 + 1) 41 _ _ _ rfl (blk_put (blk_put HZ8.out 0 _ rfl) 1 _ rfl) Tryd.underlying41 rfl (by kernel_rfl)) rfl ?_
        exact ⟨⟨_, _, rfl, R_underS HS8.out (fun _ hk => hk.2) (by omega) _ _ (by omega), R_under HR8.out (by omega) _ _ (by omega)⟩, ((BZ.out.trans (BX8.out.mono BZ.out.size)).setCell (by show w.heap.size ≤ w.heap.size + 1 + 1; omega) _).setCell (by show w.heap.size ≤ w.heap.size + 1 + 1; omega) _⟩
    · rw [hi, Nat.zero_add] at HIX hat
      have hk0 : ¬ ((k : Int) < 0) := by omega
      have HAT := Aside0.mk (hat.trans (if_neg (by omega)))
      rw [Int.toNat_natCast] at HAT
      have HLE := Aside0.mk hle
      clear hi hat hle hn3 hvz HSZ'
      go_wp2_with (first
        | (go_at_call 76; refine HIX.out.mono ?_; rintro r w4 ⟨rfl, b4⟩; have B4 := Aside0.mk b4; have h4 := blk_below HO.out b4; have g2 := (blk_cell h4 0).trans rfl; have h5 := blk_below HN3.out b4; have g3 := (blk_cell h5 0).trans rfl; clear b4 h4 h5))
      obtain ⟨wv, hwv⟩ : ∃ wv, wv = w4.alloc (.cells #[.int .i64 num, .slice AV vals.length cv] 54) := ⟨_, rfl⟩
      rw [← hwv]
      have bv : Below w4.heap.size w4 wv := by rw [hwv]; exact below_alloc (Below.refl _ _) _
      have hv0 : wv.heap[w4.heap.size]? = some (.cells #[.int .i64 num, .slice AV vals.length cv] 54 (0, 0)) := by rw [hwv]; exact blk_new _ _
      have bzv : Below wz.heap.size wz wv := BX.out.trans ((B4.out.trans (bv.mono B4.out.size)).mono BX.out.size)
      have hcp := copy_one hv0 HL.out (Kd.C_below HV.out bzv) HOV.out
      have B4V := Aside0.mk (B4.out.trans (bv.mono B4.out.size))
      clear hwv bv hv0 bzv
      go_wp2_with (first
        | (go_at_call 78
           refine hcp.mono ?_
           rintro r w5 ⟨G, capG, A2, d2, D2, dn, dc, rfl, hGb, ⟨y0, y1⟩, hzM, b5⟩
           have HZM := Aside0.mk hzM
           have HGB := Aside0.mk hGb
           have B5 := Aside0.mk b5
           clear hcp hzM hGb b5))
      obtain ⟨wp, hwp⟩ : ∃ wp, wp = w5.alloc (.cells #[.slice (some ⟨G, 0, none⟩) 1 capG, .slice D2 dn dc] 41) := ⟨_, rfl⟩
      rw [← hwp]
      have bp : Below w5.heap.size w5 wp := by rw [hwp]; exact below_alloc (Below.refl _ _) _
      have hp0 : wp.heap[w5.heap.size]? = some (.cells #[.slice (some ⟨G, 0, none⟩) 1 capG, .slice D2 dn dc] 41 (0, 0)) := by rw [hwp]; exact blk_new _ _
      have hsp : wp.heap.size = w5.heap.size + 1 := by rw [hwp, World.size_alloc]
      have bvp : Below wv.heap.size wv wp := B5.out.trans (bp.mono B5.out.size)
      have bcp : Below wc.heap.size wc wp := B4V.out.trans (bvp.mono B4V.out.size)
      have hop := blk_below HO.out bcp
      have hgl : G < w5.heap.size := by
        rcases Nat.lt_or_ge G w5.heap.size with h | h
        · exact h
        · simp [World.cell?, Array.getElem?_eq_none h] at y0
      have t0 : wp.cell? ⟨w1.heap.size, 0, none⟩ = some (.slice D0 (outT x.f0 num).length e0) := (blk_cell hop 0).trans rfl
      have t1 : wp.cell? ⟨w5.heap.size, 0, none⟩ = some (.slice (some ⟨G, 0, none⟩) 1 capG) := (blk_cell hp0 0).trans rfl
      have t2 : wp.cell? ⟨G, 0, none⟩ = some (.int .i64 num) := (bp.cell (p := ⟨G, 0, none⟩) hgl).trans y0
      have t3 : wp.cell? ⟨G, 1, none⟩ = some (.slice A2 vals.length d2) := (bp.cell (p := ⟨G, 1, none⟩) hgl).trans y1
      have KA : ∀ o, (wp.alloc o).cell? ⟨w1.heap.size, 0, none⟩ = some (.slice D0 (outT x.f0 num).length e0) := fun o => pw_cell_below (below_alloc (Below.refl _ _) o) t0
      have HOP := Aside0.mk hop
      have HSC : ∀ n c k, (Value.slice D0 n c).ownBlock = some k → wz.heap.size ≤ k ∧ k < wc.heap.size := fun n c k hk => by
        rw [own_n D0 n (outT x.f0 num).length c e0] at hk
        exact ⟨Kd.R_base HS.out k hk, Kd.R_lt HS.out k hk⟩
      have HSCA := Aside0.mk HSC
      have HDL : Aside0 (∀ k, (Value.slice D1 x.f1.length e1).ownBlock = some k → k < wc.heap.size) := ⟨fun k hk => Kd.R_lt HR.out k hk⟩
      have s1 : w1.heap.size < wc.heap.size := blk_lt HO.out
      have S2 := Aside0.mk s1
      have S3 := Aside0.mk bcp.size
      have S4 := Aside0.mk B4V.out.size
      have S5 := Aside0.mk B1.out.size
      have S6 := Aside0.mk BX.out.size
      have hMp : k54.M wp wz.heap.size (fun k => (k ≠ w1.heap.size ∧ some k ≠ (Value.slice D1 x.f1.length e1).ownBlock) ∧ some k ≠ (Value.slice D0 (outT x.f0 num).length e0).ownBlock) ⟨num, vals⟩ [.int .i64 num, .slice A2 vals.length d2] :=
        k54.M_mono (fun k hk => ⟨⟨by have := hk.2.1; omega, fun e => by have := hk.2.1; have := HDL.out k e.symm; omega⟩, fun e => by have := hk.2.1; have := (HSC _ _ k e.symm).2; omega⟩) (k54.M_lower BX.out.size (k54.M_lower (Nat.le_refl _) (k54.M_bound (k54.M_lower S4.out (Kd.M_below HZM.out bp)))))
      have HMP := Aside0.mk hMp
      have RSP := Aside0.mk (Kd.R_below HS.out bcp)
      have RRP := Aside0.mk (Kd.R_below HR.out bcp)
      have BZP := Aside0.mk (BX.out.trans (bcp.mono BX.out.size))
      have HBIG : Aside0 (((outT x.f0 num).length + 1) * 32 ≤ 140737488355328) := ⟨by
        obtain ⟨n, hn⟩ := HOK.out
        have h2 : (outT x.f0 num).length ≤ x.f0.length := List.length_filter_le _ _
        cases n with
        | zero => exact hn.elim
        | succ n => have h1 := hn.1.1; unfold reachBytes at h1; omega⟩
      have SQ := Aside0.mk (show ((wp.alloc (.cells #[.int .i64 num, .slice A2 vals.length d2] 54)).drew).heap.size = wp.heap.size + 1 from World.size_alloc _ _)
      have BB := Aside0.mk (Below.refl wp.heap.size wp)
      have HIN := Aside0.mk (Insert_c (w := (wp.alloc (.cells #[.int .i64 num, .slice A2 vals.length d2] 54)).drew) (vb := wp.heap.size) (vc := 1) (i := k) (base := wz.heap.size) (ok := fun k => k ≠ w1.heap.size ∧ some k ≠ (Value.slice D1 x.f1.length e1).ownBlock) (A := D0) (c := e0) (xs := outT x.f0 num) (x := ⟨num, vals⟩) (A2 := A2) (n2 := vals.length) (c2 := d2) (fun k hk => ⟨by have := S2.out; have := S3.out; have := SQ.out; omega, fun e => by have := HDL.out k e.symm; have := S3.out; have := SQ.out; omega⟩) (Kd.R_below RSP.out (below_drew (below_alloc BB.out _))) (by have := HLE.out; rw [HAT.out] at this; exact this) (by have := S3.out; have := S6.out; have := SQ.out; omega) HBIG.out (blk_new wp _) (fun e => by have h9 := HSCA.out _ _ _ e.symm; have := S3.out; have h10 : wp.heap.size < wc.heap.size := h9.2; omega) (Kd.M_below HMP.out (below_drew (below_alloc BB.out _))))
      rw [show (outT x.f0 num).take k ++ ⟨num, vals⟩ :: (outT x.f0 num).drop k = putT (outT x.f0 num) num vals by unfold putT; rw [HAT.out]] at HIN
      clear hwp bp hp0 hsp bvp bcp hop hgl y0 y1 HSC s1 hMp
      go_cut [7] (fun s7 wx => s7 = .pointer (some ⟨w1.heap.size, 0, none⟩) ∧ ∃ (D' : Option Addr) (c' : Nat), Aside0 (wx.heap[w1.heap.size]? = some (.cells #[.slice D' (putT (outT x.f0 num) num vals).length c', .slice D1 x.f1.length e1] 41 (0, 0))) ∧ Aside0 (k54.R 54 wx wz.heap.size (fun k => k ≠ w1.heap.size ∧ some k ≠ (Value.slice D1 x.f1.length e1).ownBlock) (.slice D' (putT (outT x.f0 num) num vals).length c') (putT (outT x.f0 num) num vals)) ∧ Aside0 (k92.R 92 wx wz.heap.size (fun k => k ≠ w1.heap.size) (.slice D1 x.f1.length e1) x.f1) ∧ Aside0 (Below wz.heap.size wz wx))
      case first =>
        go_region_with (first
          | (go_at_call 84
             refine HIN.out.mono ?_
             rintro r w7 ⟨v7, rfl, hR7, hg7, hat7⟩
             obtain ⟨D7, c7, rfl⟩ := Kd.R_slice hR7
             have R7 : Aside0 (k54.R 54 w7 wz.heap.size (fun k => k ≠ w1.heap.size ∧ some k ≠ (Value.slice D1 x.f1.length e1).ownBlock) (.slice D7 (putT (outT x.f0 num) num vals).length c7) (putT (outT x.f0 num) num vals)) := ⟨hR7⟩
             have bpa := below_drew (below_alloc BB.out (.cells #[.int .i64 num, .slice A2 vals.length d2] 54))
             have G7 := Aside0.mk (World.grownBy.trans (grown_of_below bpa _) hg7)
             have hne : some w1.heap.size ≠ (Value.slice D0 (outT x.f0 num).length e0).ownBlock := fun e => (HSCA.out _ _ _ e.symm).elim (fun _ _ => Kd.R_away RSP.out (fun k hk => hk.1) e)
             have ho7 := blk_grown HOP.out G7.out hne
             have HO7 := Aside0.mk ho7
             have j0 := (blk_cell ho7 0).trans rfl
             have j1 := blk_frozen ho7 0
             clear hR7 hg7 hat7 bpa hne ho7))
        all_goals
          go_wp2_with fail
          go_meet
          case rel =>
            have b7 : Below wz.heap.size wz w7 := pw_below_grown BZP.out _ BZP.out.size G7.out (fun k hk => (HSCA.out _ _ k hk).1)
            exact ⟨rfl, D7, c7, ⟨blk_put HO7.out 0 _ rfl⟩, ⟨Kd.R_far R7.out (fun k hk => hk.1) _⟩, ⟨Kd.R_far (Kd.R_over RRP.out RSP.out (by decide) G7.out) (fun k hk => hk) _⟩, ⟨b7.setCell S5.out _⟩⟩
      case rest =>
        obtain ⟨rfl, D', c', HO8, HS8, HR8, BX8⟩ := hcut
        have g0 := (blk_cell HO8.out 0).trans rfl
        have g1 := (blk_cell HO8.out 1).trans rfl
        have hz8 := blk_below HB3.out BX8.out
        have f0 := (blk_cell hz8 0).trans rfl
        have f1 := (blk_cell hz8 1).trans rfl
        have fr0 := blk_frozen hz8 0
        have fr1 := blk_frozen hz8 1
        have HZ8 := Aside0.mk hz8
        clear hz8 t0 t1 t2 t3 KA
        go_wp2_with fail
        have hw : withT x num vals = ⟨putT (outT x.f0 num) num vals, x.f1⟩ := by unfold withT; rw [if_neg (fun e => HVZ.out (by rw [e]; rfl))]
        rw [hw]
        have := HSZ.out
        refine bodyPost_ret (results_cell_row rfl _ _ (w.heap.size + 1 + 1) 41 _ _ _ rfl (blk_put (blk_put HZ8.out 0 _ rfl) 1 _ rfl) Tryd.underlying41 rfl (by kernel_rfl)) rfl ?_
        exact ⟨⟨_, _, rfl, R_underS HS8.out (fun _ hk => hk.2) (by omega) _ _ (by omega), R_under HR8.out (by omega) _ _ (by omega)⟩, ((BZ.out.trans (BX8.out.mono BZ.out.size)).setCell (by show w.heap.size ≤ w.heap.size + 1 + 1; omega) _).setCell (by show w.heap.size ≤ w.heap.size + 1 + 1; omega) _⟩
end Go.Proofs.YthgddlibfboehaaDoor.TK
end
section
namespace Go.Proofs.YthgddlibfboehaaDoor.TK
open Go.RowKit Go.Proofs.YthgddlibfboehaaDoor.Ops Go.Proofs.YthgddlibfboehaaDoor.KD Go.Proofs.YthgddlibfboehaaDoor.M Go.Proofs.YthgddlibfboehaaDoorW.PrintWords Go.Proofs.YthgddlibfboehaaDoorW.PrintLast Go.Proofs.YthgddlibfboehaaDoorW.PrintMore Go.Proofs.YthgddlibfboehaaDoor.Open
set_option linter.unusedVariables false
set_option linter.unusedSimpArgs false
set_option maxHeartbeats 1000000
set_option maxRecDepth 100000
/-- The values of a number. -/
def getT (t : TT) (num : Int) : List TV := match t.f0.find? (fun x => x.f0 == num) with
 | some x => x.f1
 | none => []
theorem getT_none {t : TT} {num : Int} (h : ∀ x ∈ t.f0, (x.f0 == num) = false) : getT t num = [] := by
 unfold getT
 rw [List.find?_eq_none.2 (fun x hx => by rw [h x hx]; decide)]
theorem getT_some {t : TT} {num : Int} {k : Nat} {x : TS} (h1 : t.f0[k]? = some x) (h2 : (x.f0 == num) = true) (h3 : ∀ y ∈ t.f0.take k, (y.f0 == num) = false) : getT t num = x.f1 := by
 have e : t.f0 = t.f0.take k ++ x :: t.f0.drop (k + 1) := by
  obtain ⟨hk, rfl⟩ := List.getElem?_eq_some_iff.1 h1
  rw [← List.drop_eq_getElem_cons hk, List.take_append_drop]
 unfold getT
 rw [e, List.find?_append, List.find?_eq_none.2 (fun y hy => by rw [h3 y hy]; decide), List.find?_cons_of_pos (by exact h2)]
 rfl
theorem field0 (a b : Value) (w : World) : (Instr.field 41 (.agg #[a, b]) 0).run Tryd.prog w = .ok a w := by
 simp [Instr.field, run_underlying Tryd.underlying41, part, isAgg, run_underlying Tryd.underlying38, asAgg]
theorem C_one {w : World} {ad : Addr} {n k : Nat} {xs : List TS} {z : TS} (h : k54.C w (some ad) n xs) (hz : xs[k]? = some z) : k54.C w (some (ad.add (k * 2))) 1 [z] := by
 obtain ⟨h1, h2, h3⟩ := h
 have hk := (List.getElem?_eq_some_iff.1 hz).1
 obtain ⟨b, he, hc⟩ := h3 (by omega)
 injection he with he
 subst he
 refine ⟨rfl, by decide, fun _ => ⟨_, rfl, fun j p hj => ?_⟩⟩
 have h4 := (List.getElem?_eq_some_iff.1 hj).1
 obtain rfl : j = 0 := by simp only [List.length_singleton] at h4; omega
 obtain rfl : z = p := by simpa using hj
 obtain ⟨c, hl, hK, hcc⟩ := hc k z hz
 refine ⟨c, hl, hK, fun t v ht => ?_⟩
 rw [add_add, Nat.zero_mul, Nat.zero_add]
 exact hcc t v ht
theorem copy_slot {w : World} {ad : Addr} {z : TS} {c : Nat} (hC : k54.C w (some ad) 1 [z]) (hc : 1 ≤ c) (hok : okTr ⟨[z], []⟩) :
  Calls Tryd.prog 78 #[.agg #[.slice (some ad) 1 c, .slice none 0 0]] w fun r w' => ∃ (G cap : Nat) (A2 : Option Addr) (d2 : Nat) (D : Option Addr) (dn dc : Nat), r = .returned (.agg #[.slice (some ⟨G, 0, none⟩) 1 cap, .slice D dn dc]) ∧ w'.cell? ⟨G, 1, none⟩ = some (.slice A2 z.f1.length d2) ∧ k51.R 51 w' w.heap.size (fun _ => True) (.slice A2 z.f1.length d2) z.f1 ∧ Below w.heap.size w w' := by
 refine (copy_own (w := w) (x := ⟨[z], []⟩) (A0 := some ad) (A1 := none) (c0 := c) (c1 := 0) (tree_mk hc hC (Nat.le_refl _) (none_C _)) hok).mono ?_
 rintro r w5 ⟨⟨p0, p1, rfl, h0, h1⟩, b5⟩
 obtain ⟨D, dc, rfl⟩ := Kd.R_slice h1
 obtain ⟨G, capG, rfl, hGb, hGl, _⟩ := Kd.R_form h0 (Nat.lt_succ_self _)
 obtain ⟨_, Z, hZ, hZe⟩ := ZR.of_R h0
 obtain ⟨y, rfl⟩ : ∃ y, Z = [y] := by
  have hl1 := congrArg List.length hZe
  rw [List.length_map] at hl1
  exact List.length_eq_one_iff.1 hl1
 have hz1 : y.1 = z := by simpa using hZe
 obtain ⟨A2, d2, hz2, _⟩ := hZ.slot (i := 0) (z := y) rfl
 obtain ⟨y0, y1, yf⟩ := hZ.cell (i := 0) (z := y) rfl
 have hzM := hZ.el y (by simp)
 rw [hz1] at hz2 y0 hzM
 rw [hz2] at y1 hzM
 obtain ⟨v, he, hR⟩ := k54_openM hzM
 injection he with _ he
 injection he with he _
 rw [← he] at hR
 exact ⟨G, capG, A2, d2, D, _, dc, rfl, y1, Kd.R_mono hR (fun _ _ => trivial), b5⟩
set_option maxHeartbeats 3000000 in
theorem Get_c {w : World} {x : TT} {A0 A1 : Option Addr} {c0 c1 : Nat} {num : Int} (h : k41.K w x [.slice A0 x.f0.length c0, .slice A1 x.f1.length c1]) (hok : okTr x) :
  Calls Tryd.prog 56 #[.agg #[.slice A0 x.f0.length c0, .slice A1 x.f1.length c1], .int .i64 num] w fun r w' => ∃ v, r = .returned v ∧ k51.R 51 w' w.heap.size (fun _ => True) v (getT x num) ∧ Below w.heap.size w w' := by
 obtain ⟨wz, hwz⟩ : ∃ wz, wz = w.alloc (.cells #[.slice A0 x.f0.length c0, .slice A1 x.f1.length c1] 41) := ⟨_, rfl⟩
 have bz : Below w.heap.size w wz := by rw [hwz]; exact below_alloc (Below.refl _ _) _
 have hb1 : wz.heap[w.heap.size]? = some (.cells #[.slice A0 x.f0.length c0, .slice A1 x.f1.length c1] 41 (0, 0)) := by rw [hwz]; exact blk_new _ _
 have HWZ := Aside0.mk hwz
 have BZ := Aside0.mk bz
 have KO := Aside0.mk (fun w2 (hb : Below wz.heap.size wz w2) => show w2.cell? ⟨w.heap.size, 0, none⟩ = some (.slice A0 x.f0.length c0) from (blk_cell (blk_below hb1 hb) 0).trans rfl)
 have HX := Aside0.mk (k41.K_below bz h)
 have HOK := Aside0.mk hok
 have BB := Aside0.mk (Below.refl wz.heap.size wz)
 have m1 := KO.out wz BB.out
 clear hwz bz hb1 h hok
 go_enter Tryd.func56, Tryd.ntmps56
 go_upto_region 1 with fail
 rw [← HWZ.out]
 go_cut [5] (fun s5 wx => s5 = .int .i64 (ixF (fun y : TS => y.f0 == num) x.f0 0) ∧ Aside0 (Below wz.heap.size wz wx))
 case first =>
  go_region_with (first
    | (go_at_call 77; refine of_c.mono ?_; rintro r w2 ⟨qb, rfl, hqb, hq, b2⟩
       have BX : Below wz.heap.size wz w2 := below_step (by repeat (first | (with_reducible first | exact BB.out | apply below_alloc | apply pw_below_drewN | apply below_drew))) b2
       have HQ := Aside0.mk hq
       clear b2 hqb hq
       have BB := Aside0.mk BX
       have m2 := KO.out _ BX
       clear BX)
    | (go_at_call 76
       refine (Idx_tree_of1 (A := A0) (c := c0) (tree_of1_c (a := ⟨qb, 0, none⟩) (v := num) HQ.out) (Kd.C_below (tree_reads HX.out).2.1 (by repeat (first | (with_reducible first | exact BB.out | apply below_alloc | apply pw_below_drewN | apply below_drew))))).mono ?_
       rintro r w3 ⟨rfl, b3⟩
       have BX : Below wz.heap.size wz w3 := below_step (by repeat (first | (with_reducible first | exact BB.out | apply below_alloc | apply pw_below_drewN | apply below_drew))) b3
       have B3 := Aside0.mk BX
       clear b3 BX))
  all_goals
    go_wp2_with fail
    go_meet
    case rel => exact ⟨rfl, B3⟩
 case rest =>
  obtain ⟨rfl, BX⟩ := hcut
  have m3 := KO.out _ BX.out
  rcases ixF_two (p := fun y : TS => y.f0 == num) x.f0 0 with ⟨hi, hall⟩ | ⟨k, y, hi, hk1, hk2, hk3⟩
  · rw [hi]
    have HG := Aside0.mk (getT_none (t := x) hall)
    clear hi hall m1
    go_wp2_with fail
    go_ret
    rw [HG.out]
    exact ⟨_, rfl, Kd.R_nil _ _ _ _ _, BZ.out.trans (BX.out.mono BZ.out.size)⟩
  · rw [hi, Nat.zero_add]
    have HG := Aside0.mk (getT_some (t := x) hk1 hk2 hk3)
    have hkl := (List.getElem?_eq_some_iff.1 hk1).1
    obtain ⟨hc0, hC0, _, _⟩ := tree_reads (k41.K_below BX.out HX.out)
    have hmx : x.f0.length ≤ 9223372036854775807 := Kd.C_max hC0
    obtain ⟨ad, rfl⟩ : ∃ ad, A0 = some ad := by
     obtain ⟨ad, _, e, _⟩ := Kd.C_get hC0 y k (by omega) (by omega)
     exact ⟨ad, e⟩
    have hw := wrap3 (k + 1) (by unfold maxLen; omega)
    push_cast at hw
    have p0 : (0 : Int) ≤ (k : Int) := by omega
    have p1 : (0 : Int) ≤ (k : Int) + 1 := by omega
    have p2 : (k : Int) + 1 ≤ (c0 : Int) := by omega
    have p3 : (k : Int) ≤ (k : Int) + 1 := by omega
    have p4 : ((k : Int) + 1).toNat = k + 1 := by omega
    have p5 : ¬ (c0 = k) := by omega
    have p6 : k + 1 - k = 1 := by omega
    have p7 : ¬ ((k : Int) < 0) := by omega
    have hoky : okTr ⟨[y], []⟩ := by
     obtain ⟨n, hn⟩ := HOK.out
     cases n with
     | zero => exact hn.elim
     | succ n => exact ⟨n + 1, ⟨(show 1 * 32 ≤ reachBytes by decide), fun z hz => by rw [List.mem_singleton.1 hz]; exact hn.1.2 y (List.mem_of_getElem? hk1)⟩, ⟨(show 0 * 40 ≤ reachBytes by decide), by simp⟩⟩
    have hcp := copy_slot (c := c0 - k) (C_one hC0 hk1) (by omega) hoky
    have HCP := Aside0.mk hcp
    have hf := field0
    clear hi hk1 hk2 hk3 hkl hc0 hC0 hmx hoky hcp m1
    go_wp2_with (first
     | (go_at_call 78
        refine HCP.out.mono ?_
        rintro r w5 ⟨G, capG, A2, d2, D2, dn, dc, rfl, y1, hR, b5⟩
        have HR := Aside0.mk hR
        have B5 := Aside0.mk b5
        clear hR b5))
    go_ret
    rw [HG.out]
    exact ⟨_, rfl, Kd.R_lower HR.out (Nat.le_trans BZ.out.size BX.out.size), BZ.out.trans ((BX.out.trans (B5.out.mono BX.out.size)).mono BZ.out.size)⟩
end Go.Proofs.YthgddlibfboehaaDoor.TK
end
section
namespace Go.Proofs.YthgddlibfboehaaDoor.M
open Go.RowKit Go.Proofs.YthgddlibfboehaaDoorW.PrintWords Go.Proofs.YthgddlibfboehaaDoorW.PrintLast Go.Proofs.YthgddlibfboehaaDoorW.PrintMore Go.Proofs.YthgddlibfboehaaDoor.KD
set_option linter.unusedVariables false
set_option linter.unusedSimpArgs false
set_option maxHeartbeats 1000000
set_option maxRecDepth 100000
theorem atK_Message {w : World} {A : Option Addr} {n : Nat} {xs : List S33} (h : k33.C w A n xs) (i : Nat) (h1 : i < n) : ∃ ad s0 A1 n1 c1 A2 n2 c2 x, A = some ad ∧ xs[i]? = some x ∧ w.cell? (ad.add (i * 3)) = some (.string s0) ∧ w.cell? ⟨(ad.add (i * 3)).block, (ad.add (i * 3)).off + 1, none⟩ = some (.slice A1 n1 c1) ∧ w.cell? ⟨(ad.add (i * 3)).block, (ad.add (i * 3)).off + 2, none⟩ = some (.slice A2 n2 c2) ∧ k33.K w x [.string s0, .slice A1 n1 c1, .slice A2 n2 c2] := by
 have hl : i < xs.length := by have := h.1; omega
 obtain ⟨ad, c, e, _, hK, hc0⟩ := Kd.C_get h xs[i] i (by omega) (by omega)
 have hr : xs.getD (i : Int).toNat xs[i] = xs[i] := by rw [Int.toNat_natCast, List.getD_eq_getElem?_getD, List.getElem?_eq_getElem hl]; rfl
 rw [hr] at hK
 have hc : ∀ j u, c[j]? = some u → w.cell? (ad.add (i * 3 + j)) = some u := hc0
 obtain ⟨A1, c1, A2, c2, rfl, _, _⟩ := k33_open hK
 exact ⟨ad, _, A1, _, c1, A2, _, c2, xs[i], e, List.getElem?_eq_getElem hl, hc 0 _ rfl, by rw [← add_field _ _ 1 (by omega)]; exact hc 1 _ rfl, by rw [← add_field _ _ 2 (by omega)]; exact hc 2 _ rfl, hK⟩
theorem Idx_find_Message1 {w : World} {A : Option Addr} {c : Nat} {cap : Value} {p : S33 → Bool} {xs : List S33} (HE : TellsC k33 37 cap w p) (hA : k33.C w A xs.length xs) :
  Calls Tryd.prog 36 #[.slice A xs.length c, .func (.func 37) #[] #[cap]] w fun r w' => r = .returned (.int .i64 (ixF p xs 0)) ∧ Below w.heap.size w w' := by
 have HA := Aside0.mk hA
 have HQ := Aside0.mk HE
 have HM := Aside0.mk (Kd.C_max hA)
 clear hA HE
 go_enter Tryd.func36, Tryd.ntmps36
 go_wp2
 go_loopg [8] xs.length (fun kq v8 w' => ∃ i : Nat, v8 = .int .i64 (i : Int) ∧ Aside0 (kq + i = xs.length) ∧ Aside0 (ixF p xs 0 = ixF p (xs.drop i) i) ∧ Aside0 (Below w.heap.size w w'))
 case atStart => exact ⟨0, rfl, ⟨by omega⟩, ⟨rfl⟩, ⟨Below.refl _ _⟩⟩
 case round =>
  obtain ⟨i, rfl, HK, HE, BW⟩ := hrel
  by_cases hi : (i : Int) < (xs.length : Int)
  · have c1 : decide ((i : Int) < (xs.length : Int)) = true := decide_eq_true hi
    have p0 : (0 : Int) ≤ (i : Int) := by omega
    obtain ⟨ad, s0, A1, n1, c1, A2, n2, c2, x, rfl, hx, q0, q1, q2, hk⟩ := atK_Message (Kd.C_below HA.out BW.out) i (by omega)
    have HX := Aside0.mk hx
    have K1 := Aside0.mk hk
    have hw : IntKind.i64.wrap ((i : Int) + 1) = ((i + 1 : Nat) : Int) := by have := HM.out; rw [IntKind.wrap_i64]; omega
    have HI := Aside0.mk (show i < xs.length by omega)
    replace hi := eq_true hi
    clear hx hk
    have HC := Aside0.mk (HQ.out _ _ _ BW.out K1.out)
    have HN := Aside0.mk (ixF_at (p := p) HX.out i)
    cases he : p x with
    | true =>
     rw [he] at HC HN
     have HF := Aside0.mk (show ixF p xs 0 = (i : Int) by rw [HE.out, HN.out]; rfl)
     go_wp2_with (first | (go_at_call 37; refine HC.out.mono ?_; rintro r w2 ⟨rfl, b2⟩; have B2 := Aside0.mk b2; clear b2))
     go_ret
     exact ⟨by rw [HF.out]; rfl, BW.out.trans (B2.out.mono BW.out.size)⟩
    | false =>
     rw [he] at HC HN
     go_wp2_with (first | (go_at_call 37; refine HC.out.mono ?_; rintro r w2 ⟨rfl, b2⟩; have B2 := Aside0.mk b2; clear b2))
     go_roundg (xs.length - (i + 1))
     case measure => have := HK.out; have := HI.out; omega
     case rel => exact ⟨i + 1, rfl, ⟨by have := HI.out; omega⟩, ⟨by rw [HE.out, HN.out]; rfl⟩, ⟨BW.out.trans (B2.out.mono BW.out.size)⟩⟩
  · have c1 : decide ((i : Int) < (xs.length : Int)) = false := decide_eq_false hi
    have c2 : decide (i < xs.length) = false := decide_eq_false (by omega)
    have HF := Aside0.mk (show ixF p xs 0 = -1 by rw [HE.out, List.drop_eq_nil_of_le (by omega)]; rfl)
    clear hi
    go_wp2
    go_ret
    exact ⟨by rw [HF.out]; rfl, BW.out⟩
theorem find_Message1_c {w : World} {a : Addr} {v : ByteArray} (hv : w.cell? a = some (.string v)) : TellsC k33 37 (.pointer (some a)) w (fun x => x.f0.toList == v.toList) := by
 intro w2 x cs hb hk
 obtain ⟨A1, c1, A2, c2, rfl, _, _⟩ := k33_open hk
 have hv2 := pw_cell_below hb hv
 have hv3 : ∀ o, (w2.alloc o).cell? a = some (.string v) := fun o => pw_cell_below (below_alloc (Below.refl _ _) o) hv2
 clear hk hb hv
 go_enter Tryd.func37, Tryd.ntmps37
 go_wp2
 go_ret
 exact ⟨rfl, below_alloc (Below.refl _ _) _⟩
end Go.Proofs.YthgddlibfboehaaDoor.M
end
section
namespace Go.Proofs.YthgddlibfboehaaDoor.M
open Go.RowKit Go.Proofs.YthgddlibfboehaaDoorW.PrintWords Go.Proofs.YthgddlibfboehaaDoorW.PrintLast Go.Proofs.YthgddlibfboehaaDoorW.PrintMore Go.Proofs.YthgddlibfboehaaDoor.KD
set_option linter.unusedVariables false
set_option linter.unusedSimpArgs false
set_option maxHeartbeats 1000000
set_option maxRecDepth 100000
theorem atK_Field {w : World} {A : Option Addr} {n : Nat} {xs : List S23} (h : k23.C w A n xs) (i : Nat) (h1 : i < n) : ∃ ad s0 i1 i2 s3 b4 b5 s6 x, A = some ad ∧ xs[i]? = some x ∧ w.cell? (ad.add (i * 7)) = some (.string s0) ∧ w.cell? ⟨(ad.add (i * 7)).block, (ad.add (i * 7)).off + 1, none⟩ = some (.int .i64 i1) ∧ w.cell? ⟨(ad.add (i * 7)).block, (ad.add (i * 7)).off + 2, none⟩ = some (.int .i64 i2) ∧ w.cell? ⟨(ad.add (i * 7)).block, (ad.add (i * 7)).off + 3, none⟩ = some (.string s3) ∧ w.cell? ⟨(ad.add (i * 7)).block, (ad.add (i * 7)).off + 4, none⟩ = some (.bool b4) ∧ w.cell? ⟨(ad.add (i * 7)).block, (ad.add (i * 7)).off + 5, none⟩ = some (.bool b5) ∧ w.cell? ⟨(ad.add (i * 7)).block, (ad.add (i * 7)).off + 6, none⟩ = some (.string s6) ∧ k23.K w x [.string s0, .int .i64 i1, .int .i64 i2, .string s3, .bool b4, .bool b5, .string s6] := by
 have hl : i < xs.length := by have := h.1; omega
 obtain ⟨ad, c, e, _, hK, hc0⟩ := Kd.C_get h xs[i] i (by omega) (by omega)
 have hr : xs.getD (i : Int).toNat xs[i] = xs[i] := by rw [Int.toNat_natCast, List.getD_eq_getElem?_getD, List.getElem?_eq_getElem hl]; rfl
 rw [hr] at hK
 have hc : ∀ j u, c[j]? = some u → w.cell? (ad.add (i * 7 + j)) = some u := hc0
 obtain rfl := k23_open hK
 exact ⟨ad, _, _, _, _, _, _, _, xs[i], e, List.getElem?_eq_getElem hl, hc 0 _ rfl, by rw [← add_field _ _ 1 (by omega)]; exact hc 1 _ rfl, by rw [← add_field _ _ 2 (by omega)]; exact hc 2 _ rfl, by rw [← add_field _ _ 3 (by omega)]; exact hc 3 _ rfl, by rw [← add_field _ _ 4 (by omega)]; exact hc 4 _ rfl, by rw [← add_field _ _ 5 (by omega)]; exact hc 5 _ rfl, by rw [← add_field _ _ 6 (by omega)]; exact hc 6 _ rfl, hK⟩
theorem Idx_find_Number1 {w : World} {A : Option Addr} {c : Nat} {cap : Value} {p : S23 → Bool} {xs : List S23} (HE : TellsC k23 53 cap w p) (hA : k23.C w A xs.length xs) :
  Calls Tryd.prog 52 #[.slice A xs.length c, .func (.func 53) #[] #[cap]] w fun r w' => r = .returned (.int .i64 (ixF p xs 0)) ∧ Below w.heap.size w w' := by
 have HA := Aside0.mk hA
 have HQ := Aside0.mk HE
 have HM := Aside0.mk (Kd.C_max hA)
 clear hA HE
 go_enter Tryd.func52, Tryd.ntmps52
 go_wp2
 go_loopg [8] xs.length (fun kq v8 w' => ∃ i : Nat, v8 = .int .i64 (i : Int) ∧ Aside0 (kq + i = xs.length) ∧ Aside0 (ixF p xs 0 = ixF p (xs.drop i) i) ∧ Aside0 (Below w.heap.size w w'))
 case atStart => exact ⟨0, rfl, ⟨by omega⟩, ⟨rfl⟩, ⟨Below.refl _ _⟩⟩
 case round =>
  obtain ⟨i, rfl, HK, HE, BW⟩ := hrel
  by_cases hi : (i : Int) < (xs.length : Int)
  · have c1 : decide ((i : Int) < (xs.length : Int)) = true := decide_eq_true hi
    have p0 : (0 : Int) ≤ (i : Int) := by omega
    obtain ⟨ad, s0, i1, i2, s3, b4, b5, s6, x, rfl, hx, q0, q1, q2, q3, q4, q5, q6, hk⟩ := atK_Field (Kd.C_below HA.out BW.out) i (by omega)
    have HX := Aside0.mk hx
    have K1 := Aside0.mk hk
    have hw : IntKind.i64.wrap ((i : Int) + 1) = ((i + 1 : Nat) : Int) := by have := HM.out; rw [IntKind.wrap_i64]; omega
    have HI := Aside0.mk (show i < xs.length by omega)
    replace hi := eq_true hi
    clear hx hk
    have HC := Aside0.mk (HQ.out _ _ _ BW.out K1.out)
    have HN := Aside0.mk (ixF_at (p := p) HX.out i)
    cases he : p x with
    | true =>
     rw [he] at HC HN
     have HF := Aside0.mk (show ixF p xs 0 = (i : Int) by rw [HE.out, HN.out]; rfl)
     go_wp2_with (first | (go_at_call 53; refine HC.out.mono ?_; rintro r w2 ⟨rfl, b2⟩; have B2 := Aside0.mk b2; clear b2))
     go_ret
     exact ⟨by rw [HF.out]; rfl, BW.out.trans (B2.out.mono BW.out.size)⟩
    | false =>
     rw [he] at HC HN
     go_wp2_with (first | (go_at_call 53; refine HC.out.mono ?_; rintro r w2 ⟨rfl, b2⟩; have B2 := Aside0.mk b2; clear b2))
     go_roundg (xs.length - (i + 1))
     case measure => have := HK.out; have := HI.out; omega
     case rel => exact ⟨i + 1, rfl, ⟨by have := HI.out; omega⟩, ⟨by rw [HE.out, HN.out]; rfl⟩, ⟨BW.out.trans (B2.out.mono BW.out.size)⟩⟩
  · have c1 : decide ((i : Int) < (xs.length : Int)) = false := decide_eq_false hi
    have c2 : decide (i < xs.length) = false := decide_eq_false (by omega)
    have HF := Aside0.mk (show ixF p xs 0 = -1 by rw [HE.out, List.drop_eq_nil_of_le (by omega)]; rfl)
    clear hi
    go_wp2
    go_ret
    exact ⟨by rw [HF.out]; rfl, BW.out⟩
theorem find_Number1_c {w : World} {a : Addr} {v : Int} (hv : w.cell? a = some (.int .i64 v)) : TellsC k23 53 (.pointer (some a)) w (fun x => x.f1 == v) := by
 intro w2 x cs hb hk
 obtain rfl := k23_open hk
 have hv2 := pw_cell_below hb hv
 have hv3 : ∀ o, (w2.alloc o).cell? a = some (.int .i64 v) := fun o => pw_cell_below (below_alloc (Below.refl _ _) o) hv2
 clear hk hb hv
 go_enter Tryd.func53, Tryd.ntmps53
 go_wp2
 go_ret
 exact ⟨rfl, below_alloc (Below.refl _ _) _⟩
end Go.Proofs.YthgddlibfboehaaDoor.M
end
section
namespace Go.Proofs.YthgddlibfboehaaDoor.M
open Go.RowKit Go.Proofs.YthgddlibfboehaaDoorW.PrintWords Go.Proofs.YthgddlibfboehaaDoorW.PrintLast Go.Proofs.YthgddlibfboehaaDoorW.PrintMore Go.Proofs.YthgddlibfboehaaDoor.KD
set_option linter.unusedVariables false
set_option linter.unusedSimpArgs false
set_option maxHeartbeats 1000000
set_option maxRecDepth 100000
theorem boxes2 (w : World) (o o' : Obj) : ∀ w2, Below ((w.alloc o).alloc o').heap.size ((w.alloc o).alloc o') w2 → w2.heap[w.heap.size]? = some o ∧ w2.heap[w.heap.size + 1]? = some o' := by
 intro w2 h
 have h1 : ((w.alloc o).alloc o').heap[w.heap.size]? = some o := (Below.heap_alloc _ _ _ (by simp)).trans (heap_alloc_new w o)
 have h2 : ((w.alloc o).alloc o').heap[w.heap.size + 1]? = some o' := by
  have := heap_alloc_new (w.alloc o) o'
  rwa [World.size_alloc] at this
 have hs : ((w.alloc o).alloc o').heap.size = w.heap.size + 2 := by simp
 exact ⟨(h.block _ (by omega)).trans h1, (h.block _ (by omega)).trans h2⟩
theorem bel2 (w : World) (o o' : Obj) : Below w.heap.size w ((w.alloc o).alloc o') := below_alloc (below_alloc (Below.refl _ _) _) _
def find_Message.f (l0_0 : List S158) (l0_1 : List S33) (a1 : ByteArray) : Option Int := some (ixF (fun x => x.f0.toList == a1.toList) l0_1 0)
theorem find_Message.calls (A0_0 : Option Addr) (c0_0 : Nat) (l0_0 : List S158) (A0_1 : Option Addr) (c0_1 : Nat) (l0_1 : List S33) (a1 : ByteArray) (r : Int) (w : World) (hr0_0 : Kd.C k158 w A0_0 l0_0.length l0_0) (hc0_0 : l0_0.length ≤ c0_0) (hr0_1 : Kd.C k33 w A0_1 l0_1.length l0_1) (hc0_1 : l0_1.length ≤ c0_1) (h : find_Message.f l0_0 l0_1 a1 = some r) :
  Calls Tryd.prog 22 #[.agg #[.slice A0_0 l0_0.length c0_0, .slice A0_1 l0_1.length c0_1], .string a1] w fun e w' => e = .returned (.int .i64 r) ∧ Below w.heap.size w w' := by
 obtain rfl := Option.some.inj h
 obtain ⟨wz, hwz⟩ : ∃ wz, wz = (w.alloc (.cells #[.slice A0_0 l0_0.length c0_0, .slice A0_1 l0_1.length c0_1] 37)).alloc (.cells #[.string a1] 9) := ⟨_, rfl⟩
 have HC := Aside0.mk (Idx_find_Message1 (c := c0_1) (find_Message1_c (w := wz) (a := ⟨w.heap.size + 1, 0, none⟩) (v := a1) ((blk_cell (boxes2 w _ _ wz (by rw [hwz]; exact Below.refl _ _)).2 0).trans rfl)) (Kd.C_below hr0_1 (by rw [hwz]; exact bel2 _ _ _)))
 have HB := Aside0.mk (show Below w.heap.size w wz by rw [hwz]; exact bel2 _ _ _)
 have HZ := Aside0.mk hwz
 clear hr0_0 hr0_1 hc0_0 hc0_1 h hwz
 go_enter Tryd.func22, Tryd.ntmps22
 go_wp2_with (first | (go_at_call 36; rw [← HZ.out]; refine HC.out.mono ?_; rintro r w2 ⟨rfl, b2⟩; have B2 := Aside0.mk b2; clear b2))
 go_ret
 exact ⟨rfl, HB.out.trans (B2.out.mono HB.out.size)⟩
def find_Number.f (a0_0 : ByteArray) (l0_1 : List S23) (l0_2 : List Int) (a1 : Int) : Option Int := some (ixF (fun x => x.f1 == a1) l0_1 0)
theorem find_Number.calls (a0_0 : ByteArray) (A0_1 : Option Addr) (c0_1 : Nat) (l0_1 : List S23) (A0_2 : Option Addr) (c0_2 : Nat) (l0_2 : List Int) (a1 : Int) (r : Int) (w : World) (hr0_1 : Kd.C k23 w A0_1 l0_1.length l0_1) (hc0_1 : l0_1.length ≤ c0_1) (hr0_2 : Kd.C (Kd.int .i64) w A0_2 l0_2.length l0_2) (hc0_2 : l0_2.length ≤ c0_2) (h : find_Number.f a0_0 l0_1 l0_2 a1 = some r) :
  Calls Tryd.prog 40 #[.agg #[.string a0_0, .slice A0_1 l0_1.length c0_1, .slice A0_2 l0_2.length c0_2], .int .i64 a1] w fun e w' => e = .returned (.int .i64 r) ∧ Below w.heap.size w w' := by
 obtain rfl := Option.some.inj h
 obtain ⟨wz, hwz⟩ : ∃ wz, wz = (w.alloc (.cells #[.string a0_0, .slice A0_1 l0_1.length c0_1, .slice A0_2 l0_2.length c0_2] 33)).alloc (.cells #[.int .i64 a1] 3) := ⟨_, rfl⟩
 have HC := Aside0.mk (Idx_find_Number1 (c := c0_1) (find_Number1_c (w := wz) (a := ⟨w.heap.size + 1, 0, none⟩) (v := a1) ((blk_cell (boxes2 w _ _ wz (by rw [hwz]; exact Below.refl _ _)).2 0).trans rfl)) (Kd.C_below hr0_1 (by rw [hwz]; exact bel2 _ _ _)))
 have HB := Aside0.mk (show Below w.heap.size w wz by rw [hwz]; exact bel2 _ _ _)
 have HZ := Aside0.mk hwz
 clear hr0_1 hr0_2 hc0_1 hc0_2 h hwz
 go_enter Tryd.func40, Tryd.ntmps40
 go_wp2_with (first | (go_at_call 52; rw [← HZ.out]; refine HC.out.mono ?_; rintro r w2 ⟨rfl, b2⟩; have B2 := Aside0.mk b2; clear b2))
 go_ret
 exact ⟨rfl, HB.out.trans (B2.out.mono HB.out.size)⟩
end Go.Proofs.YthgddlibfboehaaDoor.M
end
section
namespace Go.Proofs.YthgddlibfboehaaDoor.Dc
open Go.RowKit Go.Proofs.YthgddlibfboehaaDoorW.PrintWords Go.Proofs.YthgddlibfboehaaDoorW.PrintLast Go.Proofs.YthgddlibfboehaaDoorW.PrintMore Go.Proofs.YthgddlibfboehaaDoor.Var Go.Proofs.YthgddlibfboehaaDoor.Cur Go.Proofs.YthgddlibfboehaaDoor.PU Go.Proofs.YthgddlibfboehaaDoor.Un Go.Proofs.YthgddlibfboehaaDoor.KD
set_option linter.unusedVariables false
set_option linter.unusedSimpArgs false
set_option maxHeartbeats 1000000
set_option maxRecDepth 100000
/-- A type that the reader's own blocks are not of. -/
def Tk (q : Nat) : Prop := q ≠ 3 ∧ q ≠ 75 ∧ q ≠ 70
instance (q : Nat) : Decidable (Tk q) := by unfold Tk; infer_instance
/-- What stays: all below B; of what lies below b, the blocks of other types than the reader's own. -/
structure Keeps (B b : Nat) (w w' : World) : Prop where
 bel : Below B w w'
 kp : ∀ k cells q, k < b → w.heap[k]? = some (.cells cells q (0, 0)) → Tk q → w'.heap[k]? = some (.cells cells q (0, 0))
section
variable {B b b' : Nat} {w w' w2 : World}
theorem Keeps.refl (B b : Nat) (w : World) : Keeps B b w w := ⟨Below.refl _ _, fun _ _ _ _ h _ => h⟩
theorem Keeps.trans (h : Keeps B b w w') (h2 : Keeps B b' w' w2) (hb : b ≤ b') : Keeps B b w w2 :=
 ⟨h.bel.trans h2.bel, fun k cells q hk hc hq => h2.kp k cells q (Nat.lt_of_lt_of_le hk hb) (h.kp k cells q hk hc hq) hq⟩
theorem Keeps.of_below (h : Below w.heap.size w w') (hB : B ≤ w.heap.size) (hb : b ≤ w.heap.size) : Keeps B b w w' :=
 ⟨h.mono hB, fun k cells q hk hc _ => (h.block k (Nat.lt_of_lt_of_le hk hb)).trans hc⟩
theorem Keeps.size (h : Keeps B b w w') : w.heap.size ≤ w'.heap.size := h.bel.size
/-- An own row of types that are not the reader's stays. -/
theorem Keeps.R {α : Type} {d : Kd α} {e base : Nat} {ok : Nat → Prop} {v : Value} {xs : List α} (h : Keeps B w.heap.size w w') (hr : d.R e w base ok v xs) (ht : ∀ q, q ∈ e :: d.E → Tk q) : d.R e w' base ok v xs := by
 refine Kd.R_mono (Kd.R_move (Kd.R_bound hr) (fun k hk => ?_)) (fun _ hk => hk.1)
 obtain ⟨_, _, hl, q, hq, cells, hc⟩ := hk
 rw [hc]
 exact h.kp k cells q hl hc (ht q hq)
theorem Keeps.M {α : Type} {d : Kd α} {base : Nat} {ok : Nat → Prop} {x : α} {cs : List Value} (h : Keeps B w.heap.size w w') (hr : d.M w base ok x cs) (ht : ∀ q, q ∈ d.E → Tk q) : d.M w' base ok x cs := by
 refine d.M_mono (fun _ hk => hk.1) (d.M_move (fun k hk => ?_) (d.M_bound hr))
 obtain ⟨_, _, hl, q, hq, cells, hc⟩ := hk
 rw [hc]
 exact h.kp k cells q hl hc (ht q hq)
end
/-- decode's reader at block r. -/
structure RdI (w : World) (B r g : Nat) (sE sM : Value) (A : Option Addr) (c : Nat) (b : List Int) (p : Int) (v : Value) (ends : List Int) (f : Int) : Prop where
 blk : w.heap[r]? = some (.cells #[sE, sM, .pointer (some ⟨g, 0, none⟩), .int .i64 f] 70 (0, 0))
 cur : IsC w B g A c b p v ends
 ge : B ≤ r
section
variable {w w' : World} {B r g : Nat} {sE sM : Value} {A : Option Addr} {c : Nat} {b : List Int} {p p' : Int} {v : Value} {ends ends' : List Int} {f : Int}
theorem RdI.ne (h : RdI w B r g sE sM A c b p v ends f) : r ≠ g ∧ v.ownBlock ≠ some r := C_typed_ne h.cur h.blk (by decide) (by decide)
theorem RdI.below (h : RdI w B r g sE sM A c b p v ends f) (hb : Below w.heap.size w w') : RdI w' B r g sE sM A c b p v ends f := ⟨blk_below h.blk hb, h.cur.below hb, h.ge⟩
theorem RdI.drawn (h : RdI w B r g sE sM A c b p v ends f) (hd : Drawn0 w w') : RdI w' B r g sE sM A c b p v ends f := by
 obtain ⟨n, rfl⟩ := hd
 exact h.below (pw_below_drewN (Below.refl _ _) n)
theorem RdI.moved (h : RdI w B r g sE sM A c b p v ends f) (hB : B ≤ w.heap.size) (hm : Moved w B g A c b v p' ends' w') : ∃ v', RdI w' B r g sE sM A c b p' v' ends' f ∧ Keeps B w.heap.size w w' := by
 obtain ⟨v', h', fr⟩ := hm
 refine ⟨v', ⟨fr_blk fr h.blk h.ne.1 h.ne.2, h', h.ge⟩, fr.below hB h.cur.ge (fun k hk => (own_bounds h.cur.row hk).1), fun k cells q hk hc hq => ?_⟩
 have n := C_typed_ne h.cur hc hq.2.1 hq.1
 exact fr_blk fr hc n.1 n.2
theorem RdI.put (h : RdI w B r g sE sM A c b p v ends f) (hB : B ≤ w.heap.size) (e : Int) : RdI (w.setCell ⟨r, 3, none⟩ (.int .i64 e)) B r g sE sM A c b p v ends e ∧ Keeps B w.heap.size w (w.setCell ⟨r, 3, none⟩ (.int .i64 e)) := by
 have hk : KeepBut w (w.setCell ⟨r, 3, none⟩ (.int .i64 e)) r none := (KeepBut.refl w r none).set_ 3 _
 refine ⟨⟨blk_put h.blk 3 _ rfl, ?_, h.ge⟩, (Below.refl B w).setCell h.ge _, fun k cells q hk hc hq => ?_⟩
 · exact isC_move h.cur (Below.heap_setCell _ _ _ _ (fun e => h.ne.1 e.symm)) (fun k hk => Below.heap_setCell _ _ _ _ (fun e => h.ne.2 (by rw [hk]; exact congrArg some e))) (fun k hk => Below.heap_setCell _ _ _ _ (by have := h.ge; show k ≠ r; omega))
 · refine (Below.heap_setCell _ _ _ _ (fun e => ?_)).trans hc
   have e : k = r := e
   subst e
   rw [h.blk] at hc
   cases hc
   exact hq.2.2 rfl
theorem RdI.c2 (h : RdI w B r g sE sM A c b p v ends f) : w.cell? ⟨r, 2, none⟩ = some (.pointer (some ⟨g, 0, none⟩)) := (blk_cell h.blk 2).trans rfl
theorem RdI.c3 (h : RdI w B r g sE sM A c b p v ends f) : w.cell? ⟨r, 3, none⟩ = some (.int .i64 f) := (blk_cell h.blk 3).trans rfl
end
/-- The first fault is noted. -/
def flt (f e : Int) : Int := if f = 0 then e else f
theorem fail_r {w : World} {B r g : Nat} {sE sM : Value} {A : Option Addr} {c : Nat} {b : List Int} {p : Int} {v : Value} {ends : List Int} {f : Int} (h : RdI w B r g sE sM A c b p v ends f) (hB : B ≤ w.heap.size) (e : Int) :
   Calls Tryd.prog 49 #[.pointer (some ⟨r, 0, none⟩), .int .i64 e] w fun x w' => x = .returned (.tuple #[]) ∧ RdI w' B r g sE sM A c b p v ends (flt f e) ∧ Keeps B w.heap.size w w' := by
 have h3 := h.c3
 have fz := blk_frozen h.blk 3
 have HP := Aside0.mk (h.put hB e)
 have H := Aside0.mk h
 clear h
 by_cases hf : f = 0
 · subst hf
   go_enter Tryd.func49, Tryd.ntmps49
   go_wp2
   go_end0
   exact ⟨rfl, HP.out⟩
 · have e1 : (f = 0) = False := eq_false hf
   have d1 : decide (f = 0) = false := decide_eq_false hf
   have g1 : flt f e = f := if_neg hf
   rw [g1]
   clear HP
   go_enter Tryd.func49, Tryd.ntmps49
   go_wp2
   go_end0
   exact ⟨rfl, H.out, Keeps.refl _ _ _⟩
/-- The fault behind 'going'. -/
def gs (ends : List Int) (f : Int) : Int := if ends.length = 0 then flt f 8 else f
theorem going_r {w : World} {B r g : Nat} {sE sM : Value} {A : Option Addr} {c : Nat} {b : List Int} {p : Int} {v : Value} {ends : List Int} {f : Int} (h : RdI w B r g sE sM A c b p v ends f) (hB : B ≤ w.heap.size) :
   Calls Tryd.prog 38 #[.pointer (some ⟨r, 0, none⟩)] w fun x w' => x = .returned (.bool (gs ends f == 0)) ∧ RdI w' B r g sE sM A c b p v ends (gs ends f) ∧ Keeps B w.heap.size w w' := by
 have h2 := h.c2
 have HO := Aside0.mk (ok_c h.cur)
 have H := Aside0.mk h
 by_cases hn : 0 < ends.length
 · have g1 : gs ends f = f := if_neg (by omega)
   rw [g1]
   rw [decide_eq_true hn] at HO
   clear h hn g1
   go_enter Tryd.func38, Tryd.ntmps38
   go_wp2_with (first
    | (go_at_call 14; refine HO.out.mono ?_; rintro e w1 ⟨rfl, hd1⟩; have B1 := Aside0.mk (show Below w.heap.size w w1 from by obtain ⟨n1, e1⟩ := hd1; rw [e1]; exact pw_below_drewN (Below.refl _ _) n1); have h3 := (H.out.below B1.out).c3; clear hd1))
   go_ret
   exact ⟨rfl, H.out.below B1.out, Keeps.of_below B1.out hB (Nat.le_refl _)⟩
 · have g1 : gs ends f = flt f 8 := if_pos (by omega)
   rw [g1]
   rw [decide_eq_false hn] at HO
   clear h hn g1
   go_enter Tryd.func38, Tryd.ntmps38
   go_wp2_with (first
    | (go_at_call 14; refine HO.out.mono ?_; rintro e w1 ⟨rfl, hd1⟩; have B1 := Aside0.mk (show Below w.heap.size w w1 from by obtain ⟨n1, e1⟩ := hd1; rw [e1]; exact pw_below_drewN (Below.refl _ _) n1); clear hd1)
    | (go_at_call 49; refine (fail_r (H.out.below B1.out) (Nat.le_trans hB B1.out.size) 8).mono ?_; rintro e w2 ⟨rfl, h2', k2⟩; have H2 := Aside0.mk h2'; have K2 := Aside0.mk k2; have h3 := h2'.c3; clear h2' k2))
   go_ret
   exact ⟨rfl, H2.out, (Keeps.of_below B1.out hB (Nat.le_refl _)).trans K2.out B1.out.size⟩
end Go.Proofs.YthgddlibfboehaaDoor.Dc
end
section
namespace Go.Proofs.YthgddlibfboehaaDoor.Dc
open Go.RowKit Go.Proofs.YthgddlibfboehaaDoorW.PrintWords Go.Proofs.YthgddlibfboehaaDoorW.PrintLast Go.Proofs.YthgddlibfboehaaDoorW.PrintMore Go.Proofs.YthgddlibfboehaaDoor.Var Go.Proofs.YthgddlibfboehaaDoor.Cur Go.Proofs.YthgddlibfboehaaDoor.PU Go.Proofs.YthgddlibfboehaaDoor.Un Go.Proofs.YthgddlibfboehaaDoor.KD Go.Proofs.YthgddlibfboehaaDoor.Ops
set_option linter.unusedVariables false
set_option linter.unusedSimpArgs false
set_option maxHeartbeats 1000000
set_option maxRecDepth 100000
theorem RdI.stay {w w' : World} {B r g : Nat} {sE sM : Value} {A : Option Addr} {c : Nat} {b : List Int} {p : Int} {v : Value} {ends : List Int} {f : Int} (h : RdI w B r g sE sM A c b p v ends f)
  (hk : ∀ (k : Nat) (cells : Array Value) (t : Nat), w.heap[k]? = some (.cells cells t (0, 0)) → ¬ Tk t → w'.heap[k]? = some (.cells cells t (0, 0))) (hB : ∀ k : Nat, k < B → w'.heap[k]? = w.heap[k]?) : RdI w' B r g sE sM A c b p v ends f := by
 refine ⟨hk _ _ _ h.blk (by decide), isC_move h.cur ((hk _ _ _ h.cur.blk (by decide)).trans h.cur.blk.symm) (fun k hv => ?_) hB, h.ge⟩
 obtain ⟨_, inner, ho, _⟩ := h.cur.row
 obtain ⟨cs, hc⟩ := own_typed ho k hv
 rw [hc]
 exact hk _ _ _ hc (by decide)
/-- As Keeps: what stays, by a condition on blocks. -/
structure KeepsP (B : Nat) (P : Nat → Prop) (w w' : World) : Prop where
 bel : Below B w w'
 kp : ∀ (k : Nat) (cells : Array Value) (q : Nat), P k → w.heap[k]? = some (.cells cells q (0, 0)) → Tk q → w'.heap[k]? = some (.cells cells q (0, 0))
section
variable {B b' : Nat} {P P' : Nat → Prop} {w w' w2 : World}
theorem KeepsP.refl (B : Nat) (P : Nat → Prop) (w : World) : KeepsP B P w w := ⟨Below.refl _ _, fun _ _ _ _ h _ => h⟩
theorem KeepsP.keeps (h : KeepsP B P w w') (hp : ∀ k, k < b' → P k) : Keeps B b' w w' := ⟨h.bel, fun k cells q hk => h.kp k cells q (hp k hk)⟩
theorem Keeps.p (h : Keeps B b' w w') (hp : ∀ k, P k → k < b') : KeepsP B P w w' := ⟨h.bel, fun k cells q hk => h.kp k cells q (hp k hk)⟩
theorem KeepsP.trans (h : KeepsP B P w w') (h2 : KeepsP B P' w' w2) (hp : ∀ k, P k → P' k) : KeepsP B P w w2 :=
 ⟨h.bel.trans h2.bel, fun k cells q hk hc hq => h2.kp k cells q (hp k hk) (h.kp k cells q hk hc hq) hq⟩
theorem KeepsP.size (h : KeepsP B P w w') : w.heap.size ≤ w'.heap.size := h.bel.size
theorem KeepsP.R {α : Type} {d : Kd α} {e base : Nat} {ok : Nat → Prop} {v : Value} {xs : List α} (h : KeepsP B P w w') (hr : d.R e w base ok v xs) (hp : ∀ k, ok k → k < w.heap.size → P k) (ht : ∀ q, q ∈ e :: d.E → Tk q) : d.R e w' base ok v xs := by
 refine Kd.R_mono (Kd.R_move (Kd.R_bound hr) (fun k hk => ?_)) (fun _ hk => hk.1)
 obtain ⟨h0, _, hl, q, hq, cells, hc⟩ := hk
 rw [hc]
 exact h.kp k cells q (hp k h0 hl) hc (ht q hq)
theorem KeepsP.M {α : Type} {d : Kd α} {base : Nat} {ok : Nat → Prop} {x : α} {cs : List Value} (h : KeepsP B P w w') (hr : d.M w base ok x cs) (hp : ∀ k, ok k → k < w.heap.size → P k) (ht : ∀ q, q ∈ d.E → Tk q) : d.M w' base ok x cs := by
 refine d.M_mono (fun _ hk => hk.1) (d.M_move (fun k hk => ?_) (d.M_bound hr))
 obtain ⟨h0, _, hl, q, hq, cells, hc⟩ := hk
 rw [hc]
 exact h.kp k cells q (hp k h0 hl) hc (ht q hq)
end
/-- A tree in a cell of its own, its rows new from base on and none of them the cell's block. -/
def TB (w : World) (base : Nat) (ok : Nat → Prop) (q : Nat) (x : TT) : Prop := ∃ u0 u1, w.heap[q]? = some (.cells #[u0, u1] 41 (0, 0)) ∧ k41.M w base (fun k => ok k ∧ k ≠ q) x [u0, u1] ∧ base ≤ q
theorem tkv : ∀ q, q ∈ 51 :: k51.E → Tk q := by decide
theorem tkt : ∀ q, q ∈ k41.E → Tk q := by decide
theorem TB.keeps {B : Nat} {w w' : World} {base q : Nat} {ok : Nat → Prop} {x : TT} (h : TB w base ok q x) (hk : Keeps B w.heap.size w w') : TB w' base ok q x := by
 obtain ⟨u0, u1, h1, h2, h3⟩ := h
 exact ⟨u0, u1, hk.kp _ _ _ (blk_lt h1) h1 (by decide), hk.M h2 tkt, h3⟩
theorem infoR : (Tryd.prog.info? 92).map (fun i => (i.zero, i.size, i.bytes)) = some (some (.agg #[.int .i64 0, .int .i64 0, .int .u64 0, .string ⟨#[]⟩]), 4, 40) := by kernel_rfl
/-- Behind the append, when the cell has been written. -/
def AppR (w1 w5 : World) (B r g : Nat) (sE sM : Value) (A : Option Addr) (c : Nat) (b : List Int) (p : Int) (v : Value) (ends : List Int) (f : Int) (base : Nat) (ok : Nat → Prop) (q : Nat) (x : TT) (y : TR) (u0 u1 v2 : Value) : Prop :=
 (∃ A2 n2 c2, v2 = .slice A2 n2 c2) ∧ w5.heap[q]? = some (.cells #[u0, u1] 41 (0, 0)) ∧ (∀ k, k < w1.heap.size → some k ≠ u1.ownBlock → w5.heap[k]? = w1.heap[k]?) ∧ TB (w5.setCell ⟨q, 1, none⟩ v2) base ok q ⟨x.f0, x.f1 ++ [y]⟩ ∧ RdI (w5.setCell ⟨q, 1, none⟩ v2) B r g sE sM A c b p v ends f ∧ KeepsP B (fun k => k < w1.heap.size ∧ k ≠ q ∧ ¬ ok k) w1 (w5.setCell ⟨q, 1, none⟩ v2)
section
variable {ops : Array Oper} {o : Oper} {a : Act} {Q : Exit → Act → World → Prop} {K : Act → World → Prop}
theorem raw_step {w1 W : World} {B r g : Nat} {sE sM : Value} {A : Option Addr} {c : Nat} {b : List Int} {p : Int} {v : Value} {ends : List Int} {f : Int} (H : RdI w1 B r g sE sM A c b p v ends f) {base q : Nat} {ok : Nat → Prop} {x : TT} {u0 u1 : Value} (hfr : ∀ k, w1.heap.size ≤ k → ok k) (hq : w1.heap[q]? = some (.cells #[u0, u1] 41 (0, 0))) (hM : k41.M w1 base (fun k => ok k ∧ k ≠ q) x [u0, u1]) (hbq : base ≤ q)
   (hbw : Below w1.heap.size w1 W) (hBb : B ≤ base) (hl : (x.f1.length + 1) * 40 ≤ 140737488355328) (y : TR)
   (hw : Region.wanted o (yielded ops a.tmps) = true) (s z : Operand) (ho : o.op = .call { callee := .builtin .append, args := #[s, z], argTypes := #[39, 39] })
   (hs : a.eval s = u1) (hz : a.eval z = .slice (some ⟨W.heap.size, 0, none⟩) 1 1)
   {WW : World} (hWW : WW = W.alloc (.cells #[.int .i64 y.f0, .int .i64 y.f1, .int .u64 y.f2, .string y.f3] 92))
   (h : ∀ v2 w5, AppR w1 w5 B r g sE sM A c b p v ends f base ok q x y u0 u1 v2 → K (a.put o.dst v2) w5) :
   if Region.wanted o (yielded ops a.tmps) = true then Oper.wp Tryd.prog o a WW K Q else K (a.put o.dst undef) WW := by
 subst hWW
 have hsz := hbw.size
 have hql := blk_lt hq
 have hqt := blk_below hq hbw
 have hMW := k41.M_bound (Kd.M_below hM hbw)
 obtain ⟨_, _, e, h0, h1⟩ := k41_openM hMW
 injection e with e0 e
 injection e with e1 _
 subst e0
 subst e1
 have h1' : k92.R 92 W base (fun k => ok k ∧ k ≠ q) u1 x.f1 := Kd.R_mono h1 (fun _ hk => hk.1)
 have hu1 : ∀ k, u1.ownBlock = some k → base ≤ k ∧ k < w1.heap.size ∧ (ok k ∧ k ≠ q) ∧ ∃ cs, w1.heap[k]? = some (.cells cs 92 (0, 0)) := fun k hk => by
   obtain ⟨_, _, e, _, h1⟩ := k41_openM hM
   injection e with e0 e
   injection e with e1 _
   subst e1
   have q0 := h1.1 k hk
   obtain ⟨_, inner, ho, _⟩ := h1
   exact ⟨own_base ho k hk, own_lt ho k hk, q0, own_typed ho k hk⟩
 refine Kd.R_append_step k92 (w0 := W) base hw s z 39 92 _ 40 ho Tryd.underlying39 infoR rfl (by decide) (by decide) u1 x.f1 y [.int .i64 y.f0, .int .i64 y.f1, .int .u64 y.f2, .string y.f3] (fun k => ok k ∧ k ≠ q) (fun _ => False) hs hz (k92_mkM W base _ y) (fun _ hk => hk.elim) (fun k hk => ⟨hfr k (by omega), by omega⟩) h1' (Below.refl _ _) (by omega) hl ?_
 intro v2 w5 hr hb hgw hat
 have hkeep : ∀ k, k < w1.heap.size → some k ≠ u1.ownBlock → w5.heap[k]? = w1.heap[k]? := fun k hk hne => (hgw.block k (by omega) hne).trans (hbw.block k hk)
 have hqne : some q ≠ u1.ownBlock := fun e => (hu1 q e.symm).2.2.1.2 rfl
 have hq5 := (hkeep q hql hqne).trans hq
 have hs5 : ∀ k, k ≠ q → (w5.setCell ⟨q, 1, none⟩ v2).heap[k]? = w5.heap[k]? := fun k hk => Below.heap_setCell _ _ _ _ hk
 refine h v2 w5 ⟨(Kd.R_slice hr).elim fun A2 hh => hh.elim fun c2 e => ⟨A2, _, c2, e⟩, hq5, hkeep, ⟨u0, v2, blk_put hq5 1 _ rfl, ?_, hbq⟩, H.stay (fun k cells t hc ht => ?_) (fun k hk => ?_), ⟨⟨?_, ?_, ?_, ?_, fun k hk => ?_⟩, fun k cells t hk hc _ => ?_⟩⟩
 · refine k41_mkM _ _ _ ⟨x.f0, x.f1 ++ [y]⟩ (Kd.R_mono (Kd.R_move (w := W) h0 (fun k hk => ?_)) (fun k hk => ⟨hk.1.1, fun e => ?_⟩)) (Kd.R_far hr (fun k hk => hk.2) _)
   · rw [hs5 k hk.1.1.2]
     exact hgw.block k hk.1.2.2.1 hk.2
   · rcases hat with e' | ⟨j, e', hj⟩
     · rw [e'] at e; exact hk.2 e
     · rw [e'] at e; injection e with e; have := hk.1.2.2.1; omega
 · have hkq : k ≠ q := by
     rintro rfl
     rw [hq] at hc
     cases hc
     exact ht (by decide)
   rw [hs5 k hkq, hkeep k (blk_lt hc) (fun e => ?_)]
   · exact hc
   · obtain ⟨_, _, _, cs, hcs⟩ := hu1 k e.symm
     rw [hcs] at hc
     cases hc
     exact ht (by decide)
 · rw [hs5 k (by omega)]
   exact hkeep k (by omega) (fun e => by have := (hu1 k e.symm).1; omega)
 · exact ((Below.refl 0 w5).setCell (p := ⟨q, 1, none⟩) (Nat.zero_le _) v2).os.trans (hgw.os.trans hbw.os)
 · exact ((Below.refl 0 w5).setCell (p := ⟨q, 1, none⟩) (Nat.zero_le _) v2).tape.trans (hgw.tape.trans hbw.tape)
 · exact ((Below.refl 0 w5).setCell (p := ⟨q, 1, none⟩) (Nat.zero_le _) v2).output.trans (hgw.output.trans hbw.output)
 · exact Nat.le_trans (Nat.le_trans hsz hgw.size) ((Below.refl 0 w5).setCell (p := ⟨q, 1, none⟩) (Nat.zero_le _) v2).size
 · rw [hs5 k (by omega)]
   exact hkeep k (by omega) (fun e => by have := (hu1 k e.symm).1; omega)
 · rw [hs5 k hk.2.1, hkeep k hk.1 (fun e => hk.2.2 (hu1 k e.symm).2.2.1.1)]
   exact hc
end
/-- A field as_ it stands on the wire, of a wire type; where the cursor is then. -/
def rawD (n wire : Int) (b : List Int) (p : Int) (ends : List Int) : TR × Int × List Int :=
 if wire = 0 then (⟨n, wire, (vD b p ends).1, ⟨#[]⟩⟩, nx p ends (vD b p ends).2)
 else if wire = 1 then (⟨n, wire, (fD 8 b p ends).1, ⟨#[]⟩⟩, nx p ends (fD 8 b p ends).2)
 else if wire = 5 then (⟨n, wire, (fD 4 b p ends).1, ⟨#[]⟩⟩, nx p ends (fD 4 b p ends).2)
 else (⟨n, wire, 0, strOfNums (txt b p ends).1⟩, (txt b p ends).2)
theorem Keeps.far {B b' k : Nat} {w w' : World} (h : Keeps B b' w w') (h1 : B ≤ k) (h2 : b' ≤ k) (j : Nat) (u : Value) : Keeps B b' w (w'.setCell ⟨k, j, none⟩ u) :=
 ⟨h.bel.setCell h1 u, fun i cells q hi hc hq => (Below.heap_setCell _ _ _ _ (by show i ≠ k; omega)).trans (h.kp i cells q hi hc hq)⟩
theorem RdI.far {w : World} {B r g : Nat} {sE sM : Value} {A : Option Addr} {c : Nat} {b : List Int} {p : Int} {v : Value} {ends : List Int} {f : Int} (h : RdI w B r g sE sM A c b p v ends f) {k t : Nat} {cells : Array Value} (hk : w.heap[k]? = some (.cells cells t (0, 0))) (ht : Tk t) (h1 : B ≤ k) (j : Nat) (u : Value) : RdI (w.setCell ⟨k, j, none⟩ u) B r g sE sM A c b p v ends f :=
 h.stay (fun i cells' t' hi hq => (Below.heap_setCell _ _ _ _ (fun e => by
  have e : i = k := e
  subst e
  rw [hk] at hi
  cases hi
  exact hq ht)).trans hi) (fun i hi => Below.heap_setCell _ _ _ _ (by show i ≠ k; omega))
theorem below_of_drawn {w w' : World} (hd : Drawn0 w w') : Below w.heap.size w w' := by obtain ⟨n, rfl⟩ := hd; exact pw_below_drewN (Below.refl _ _) n
set_option maxHeartbeats 3000000 in
theorem unknown_r {w : World} {B r g : Nat} {sE sM : Value} {A : Option Addr} {c : Nat} {b : List Int} {p : Int} {v : Value} {ends : List Int} {f : Int} (h : RdI w B r g sE sM A c b p v ends f) (hi : Inv b.length p ends) (hB : B ≤ w.heap.size) (hb : ∀ x ∈ b, 0 ≤ x ∧ x ≤ 255) (hbl : b.length ≤ 140737488359000) {base q : Nat} {ok : Nat → Prop} {x : TT} (hfr : ∀ k, w.heap.size ≤ k → ok k) (ht : TB w base ok q x) (hBb : B ≤ base) (hl : (x.f1.length + 1) * 40 ≤ 140737488355328) (n wire : Int) :
  Calls Tryd.prog 41 #[.pointer (some ⟨r, 0, none⟩), .pointer (some ⟨q, 0, none⟩), .int .i64 n, .int .i64 wire] w fun e w' => e = .returned (.tuple #[]) ∧ ∃ v', RdI w' B r g sE sM A c b (rawD n wire b p ends).2.1 v' (rawD n wire b p ends).2.2 f ∧ TB w' base ok q ⟨x.f0, x.f1 ++ [(rawD n wire b p ends).1]⟩ ∧ KeepsP B (fun k => k < w.heap.size ∧ k ≠ q ∧ ¬ ok k) w w' := by
 have H := Aside0.mk h
 have HT := Aside0.mk ht
 have HB := Aside0.mk hB
 have HFR := Aside0.mk hfr
 have HBB := Aside0.mk hBb
 have HL := Aside0.mk hl
 have HV := Aside0.mk (fun (W : World) (hh : RdI W B r g sE sM A c b p v ends f) (hs : B ≤ W.heap.size) => Varint_c hh.cur hi hs hb hbl)
 have H4 := Aside0.mk (fun (W : World) (hh : RdI W B r g sE sM A c b p v ends f) (hs : B ≤ W.heap.size) => Fixed4_c hh.cur hi hs hb hbl)
 have H8 := Aside0.mk (fun (W : World) (hh : RdI W B r g sE sM A c b p v ends f) (hs : B ≤ W.heap.size) => Fixed8_c hh.cur hi hs hb hbl)
 have HX := Aside0.mk (fun (W : World) (hh : RdI W B r g sE sM A c b p v ends f) (hs : B ≤ W.heap.size) => Text_c hh.cur hi hs hb hbl)
 have B4 := Aside0.mk (f4_bounds (b := b) (p := p) (ends := ends) hb)
 clear h ht hfr hB hBb hl hi hb hbl
 go_enter Tryd.func41, Tryd.ntmps41
 go_upto_region 1 with fail
 obtain ⟨wa, hwa⟩ : ∃ wa, wa = w.alloc (.cells #[.int .i64 n, .int .i64 wire, .int .u64 0, .string ⟨#[]⟩] 92) := ⟨_, rfl⟩
 rw [← hwa]
 have ba : Below w.heap.size w wa := by rw [hwa]; exact below_alloc (Below.refl _ _) _
 have hx : wa.heap[w.heap.size]? = some (.cells #[.int .i64 n, .int .i64 wire, .int .u64 0, .string ⟨#[]⟩] 92 (0, 0)) := by rw [hwa]; exact blk_new _ _
 have ha := H.out.below ba
 have hsa : wa.heap.size = w.heap.size + 1 := by rw [hwa, World.size_alloc]
 have HA := Aside0.mk ha
 have HXB := Aside0.mk hx
 have KA := Aside0.mk (Keeps.of_below (b := w.heap.size) ba HB.out (Nat.le_refl _))
 have SA := Aside0.mk (show B ≤ wa.heap.size from Nat.le_trans HB.out ba.size)
 have SW := Aside0.mk (show w.heap.size ≤ wa.heap.size from ba.size)
 have k2 := ha.c2
 clear hwa ba ha hx hsa
 go_upto_block 0 with fail
 go_cut [8] (fun s8 wx => s8 = .pointer (some ⟨w.heap.size, 0, none⟩) ∧ ∃ v', Aside0 (wx.heap[w.heap.size]? = some (.cells #[.int .i64 (rawD n wire b p ends).1.f0, .int .i64 (rawD n wire b p ends).1.f1, .int .u64 (rawD n wire b p ends).1.f2, .string (rawD n wire b p ends).1.f3] 92 (0, 0))) ∧ Aside0 (RdI wx B r g sE sM A c b (rawD n wire b p ends).2.1 v' (rawD n wire b p ends).2.2 f) ∧ Aside0 (Keeps B w.heap.size w wx))
 case first =>
  by_cases z0 : wire = 0
  · have e0 : rawD n wire b p ends = (⟨n, wire, (vD b p ends).1, ⟨#[]⟩⟩, nx p ends (vD b p ends).2) := by unfold rawD; rw [if_pos z0]
    obtain ⟨V, hV⟩ : ∃ V, V = vD b p ends := ⟨_, rfl⟩
    rw [← hV] at HV e0
    have E0 := Aside0.mk e0
    subst z0
    clear hV e0
    go_wp2_with (first
      | (go_at_call 47; refine (HV.out wa HA.out SA.out).mono ?_; rintro e w1 ⟨rfl, hm⟩
         obtain ⟨v1, h1, k1⟩ := HA.out.moved SA.out hm
         have H1 := Aside0.mk h1
         have K1 := Aside0.mk (KA.out.trans k1 SW.out)
         have hx1 := k1.kp _ _ _ (blk_lt HXB.out) HXB.out (by decide)
         have HX1 := Aside0.mk hx1
         have fz := blk_frozen hx1 2
         have cz := (blk_cell hx1 2).trans rfl
         clear hm h1 k1 hx1))
    go_meet
    case rel => rw [E0.out]; exact ⟨rfl, v1, ⟨blk_put HX1.out 2 _ rfl⟩, ⟨H1.out.far HX1.out (by decide) HB.out 2 _⟩, ⟨K1.out.far HB.out (Nat.le_refl _) 2 _⟩⟩
  have d0 : decide (wire = 0) = false := decide_eq_false z0
  have f0 : (wire = 0) = False := eq_false z0
  by_cases z1 : wire = 1
  · have e0 : rawD n wire b p ends = (⟨n, wire, (fD 8 b p ends).1, ⟨#[]⟩⟩, nx p ends (fD 8 b p ends).2) := by unfold rawD; rw [if_neg z0, if_pos z1]
    obtain ⟨V, hV⟩ : ∃ V, V = fD 8 b p ends := ⟨_, rfl⟩
    rw [← hV] at H8 e0
    subst z1
    have E0 := Aside0.mk e0
    clear hV e0
    go_wp2_with (first
      | (go_at_call 46; refine (H8.out wa HA.out SA.out).mono ?_; rintro e w1 ⟨rfl, hm⟩
         obtain ⟨v1, h1, k1⟩ := HA.out.moved SA.out hm
         have H1 := Aside0.mk h1
         have K1 := Aside0.mk (KA.out.trans k1 SW.out)
         have hx1 := k1.kp _ _ _ (blk_lt HXB.out) HXB.out (by decide)
         have HX1 := Aside0.mk hx1
         have fz := blk_frozen hx1 2
         have cz := (blk_cell hx1 2).trans rfl
         clear hm h1 k1 hx1))
    go_meet
    case rel => rw [E0.out]; exact ⟨rfl, v1, ⟨blk_put HX1.out 2 _ rfl⟩, ⟨H1.out.far HX1.out (by decide) HB.out 2 _⟩, ⟨K1.out.far HB.out (Nat.le_refl _) 2 _⟩⟩
  have d1 : decide (wire = 1) = false := decide_eq_false z1
  have f1 : (wire = 1) = False := eq_false z1
  by_cases z5 : wire = 5
  · have e0 : rawD n wire b p ends = (⟨n, wire, (fD 4 b p ends).1, ⟨#[]⟩⟩, nx p ends (fD 4 b p ends).2) := by unfold rawD; rw [if_neg z0, if_neg z1, if_pos z5]
    obtain ⟨V, hV⟩ : ∃ V, V = fD 4 b p ends := ⟨_, rfl⟩
    rw [← hV] at H4 B4 e0
    have e4 : IntKind.u64.wrap V.1 = V.1 := by have := B4.out; simp only [IntKind.wrap_u64]; omega
    subst z5
    have E0 := Aside0.mk e0
    clear hV e0
    go_wp2_with (first
      | (go_at_call 45; refine (H4.out wa HA.out SA.out).mono ?_; rintro e w1 ⟨rfl, hm⟩
         obtain ⟨v1, h1, k1⟩ := HA.out.moved SA.out hm
         have H1 := Aside0.mk h1
         have K1 := Aside0.mk (KA.out.trans k1 SW.out)
         have hx1 := k1.kp _ _ _ (blk_lt HXB.out) HXB.out (by decide)
         have HX1 := Aside0.mk hx1
         have fz := blk_frozen hx1 2
         have cz := (blk_cell hx1 2).trans rfl
         clear hm h1 k1 hx1))
    try rw [e4]
    go_meet
    case rel => rw [E0.out]; exact ⟨rfl, v1, ⟨blk_put HX1.out 2 _ rfl⟩, ⟨H1.out.far HX1.out (by decide) HB.out 2 _⟩, ⟨K1.out.far HB.out (Nat.le_refl _) 2 _⟩⟩
  have d5 : decide (wire = 5) = false := decide_eq_false z5
  have f5 : (wire = 5) = False := eq_false z5
  have e0 : rawD n wire b p ends = (⟨n, wire, 0, strOfNums (txt b p ends).1⟩, (txt b p ends).2) := by unfold rawD; rw [if_neg z0, if_neg z1, if_neg z5]
  obtain ⟨V, hV⟩ : ∃ V, V = txt b p ends := ⟨_, rfl⟩
  rw [← hV] at HX e0
  have E0 := Aside0.mk e0
  clear hV e0
  go_wp2_with (first
    | (go_at_call 54; refine (HX.out wa HA.out SA.out).mono ?_; rintro e w1 ⟨rfl, hm⟩
       obtain ⟨v1, h1, k1⟩ := HA.out.moved SA.out hm
       have H1 := Aside0.mk h1
       have K1 := Aside0.mk (KA.out.trans k1 SW.out)
       have hx1 := k1.kp _ _ _ (blk_lt HXB.out) HXB.out (by decide)
       have HX1 := Aside0.mk hx1
       have fz := blk_frozen hx1 3
       have cz := (blk_cell hx1 3).trans rfl
       clear hm h1 k1 hx1))
  go_meet
  case rel => rw [E0.out]; exact ⟨rfl, v1, ⟨blk_put HX1.out 3 _ rfl⟩, ⟨H1.out.far HX1.out (by decide) HB.out 3 _⟩, ⟨K1.out.far HB.out (Nat.le_refl _) 3 _⟩⟩
 case rest =>
  obtain ⟨rfl, v', HX1, H1, K1⟩ := hcut
  obtain ⟨u0, u1, hq0, hM0, hbq⟩ := HT.out
  have hsl : (∃ A1 c1, u1 = .slice A1 x.f1.length c1) ∧ ∀ k, u1.ownBlock = some k → k < w.heap.size := by
    obtain ⟨_, _, e, _, h1⟩ := k41_openM hM0
    injection e with e0 e
    injection e with e1 _
    subst e1
    exact ⟨Kd.R_slice h1, fun k hk => Kd.R_lt h1 k hk⟩
  obtain ⟨⟨A1, c1, rfl⟩, hul⟩ := hsl
  have hq := K1.out.kp _ _ _ (blk_lt hq0) hq0 (by decide)
  have hM := K1.out.M hM0 tkt
  have HBL := Aside0.mk (show base ≤ w.heap.size by have := blk_lt hq0; omega)
  have hne : some w.heap.size ≠ (Value.slice A1 x.f1.length c1).ownBlock := fun e => by have := hul _ e.symm; omega
  have hq1 : wc.cell? ⟨q, 1, none⟩ = some (.slice A1 x.f1.length c1) := (blk_cell hq 1).trans rfl
  obtain ⟨D, hD⟩ : ∃ D, D = rawD n wire b p ends := ⟨_, rfl⟩
  rw [← hD] at HX1 H1
  have HDA := Aside0.mk hD
  have hx0 := (blk_cell HX1.out 0).trans rfl
  have hx1 := (blk_cell HX1.out 1).trans rfl
  have hx2 := (blk_cell HX1.out 2).trans rfl
  have hx3 := (blk_cell HX1.out 3).trans rfl
  clear hD hul hq0 hM0
  go_wp2_with fail
  refine start_ (n := 11) (S := fun w' => w'.cell? ⟨q, 1, none⟩ = some (.slice A1 x.f1.length c1) ∧ w'.cell? ⟨w.heap.size, 0, none⟩ = some (.int .i64 D.1.f0) ∧ w'.cell? ⟨w.heap.size, 1, none⟩ = some (.int .i64 D.1.f1) ∧ w'.cell? ⟨w.heap.size, 2, none⟩ = some (.int .u64 D.1.f2) ∧ w'.cell? ⟨w.heap.size, 3, none⟩ = some (.string D.1.f3)) (ds := [10]) #[false, false, false, false, false, false, false, false, false, false, false] (by kernel_rfl) rfl rfl ⟨hq1, hx0, hx1, hx2, hx3⟩ (fun hHeld => ?_)
  refine pure_ (i := 0) (N := some 44) (v := ?_) (a' := ?_) #[true, false, false, false, false, false, false, false, false, false, false] rfl rfl (by kernel_rfl) (fun _ _ _ h => h) (Or.inl ⟨by rfl, ?_⟩) ?_ ?_
  rotate_left
  · intro w'
    go_simp
    with_reducible rfl
  rotate_left
  · simp only [zs]
    rfl
  refine pure_ (i := 1) (N := some 45) (v := ?_) (a' := ?_) #[true, true, false, false, false, false, false, false, false, false, false] rfl rfl (by kernel_rfl) (fun _ _ _ h => h) (Or.inl ⟨by rfl, ?_⟩) ?_ ?_
  rotate_left
  · intro w'
    go_simp
    with_reducible rfl
  rotate_left
  · simp only [zs]
    rfl
  refine pure_ (i := 2) (N := some 46) (v := ?_) (a' := ?_) #[true, true, true, false, false, false, false, false, false, false, false] rfl rfl (by kernel_rfl) (fun _ _ _ h => h) (Or.inl ⟨by rfl, ?_⟩) ?_ ?_
  rotate_left
  · intro w'
    go_simp
    with_reducible rfl
  rotate_left
  · simp only [zs]
    rfl
  refine pure_ (i := 3) (N := some 47) (v := ?_) (a' := ?_) #[true, true, true, true, false, false, false, false, false, false, false] rfl rfl (by kernel_rfl) (fun _ _ _ h => h) (Or.inl ⟨by rfl, ?_⟩) ?_ ?_
  rotate_left
  · intro w'
    go_simp
    with_reducible rfl
  rotate_left
  · simp only [zs]
    rfl
  refine take_ (i := 4) (N := some 48) (v := ?_) (a' := ?_) #[true, true, true, true, true, false, false, false, false, false, false] rfl rfl (by kernel_rfl) (fun _ _ _ h => h) (Or.inl ⟨by rfl, ?_⟩) hHeld ?_ ?_
  rotate_left
  · rintro w' ⟨s0, s1, s2, s3, s4⟩
    go_simp
    with_reducible rfl
  rotate_left
  · simp only [zs]
    rfl
  refine take_ (i := 5) (N := some 49) (v := ?_) (a' := ?_) #[true, true, true, true, true, true, false, false, false, false, false] rfl rfl (by kernel_rfl) (fun _ _ _ h => h) (Or.inl ⟨by rfl, ?_⟩) hHeld ?_ ?_
  rotate_left
  · rintro w' ⟨s0, s1, s2, s3, s4⟩
    go_simp
    with_reducible rfl
  rotate_left
  · simp only [zs]
    rfl
  refine one_ (i := 6) (N := some 50) #[true, true, true, true, true, true, true, false, false, false, false] rfl rfl (by kernel_rfl) (by decide) (fun K hK => ?_)
  refine value_ (w1 := ?_) (v := ?_) (by rfl) rfl ?_ ?_
  rotate_left 2
  · go_simp
    constructor
    · rfl
    · rfl
  refine hK.out _ _ ⟨(by go_keep), (by go_keep), (by go_keep), (by go_keep), (by go_keep)⟩ (fun hHeld => ?_)
  clear hK K
  refine norm_ (a' := ?_) ?_ ?_
  rotate_left
  · show Act.put _ (some 50) _ = _
    simp only [zs]
    rfl
  refine one_ (i := 7) (N := some 51) #[true, true, true, true, true, true, true, true, false, false, false] rfl rfl (by kernel_rfl) (by decide) (fun K hK => ?_)
  refine raw_step H1.out (fun k hk => HFR.out k (Nat.le_trans K1.out.size hk)) hq hM hbq (below_drew (Below.refl _ _)) HBB.out HL.out D.1 ?hw (.tmp 48) (.tmp 50) ?ho ?hs ?hz ?hWW ?hk
  · rfl
  · rfl
  · rfl
  · rfl
  · rfl
  rintro v2 w5 ⟨⟨A2, n2, c2, rfl⟩, hq5, hk5, hT5, hR5, hK5⟩
  have T5 := Aside0.mk hT5
  have R5 := Aside0.mk hR5
  have K5 := Aside0.mk hK5
  have hg5 := blk_frozen hq5 1
  have hd0 : w5.cell? ⟨q, 1, none⟩ = some (.slice A1 x.f1.length c1) := (blk_cell hq5 1).trans rfl
  have hx5 := (hk5 _ (blk_lt HX1.out) hne).trans HX1.out
  have hd1 : w5.cell? ⟨w.heap.size, 0, none⟩ = _ := (blk_cell hx5 0).trans rfl
  have hd2 : w5.cell? ⟨w.heap.size, 1, none⟩ = _ := (blk_cell hx5 1).trans rfl
  have hd3 : w5.cell? ⟨w.heap.size, 2, none⟩ = _ := (blk_cell hx5 2).trans rfl
  have hd4 : w5.cell? ⟨w.heap.size, 3, none⟩ = _ := (blk_cell hx5 3).trans rfl
  clear hq5 hk5 hT5 hR5 hK5 hx5
  refine hK.out _ _ ⟨hd0, hd1, hd2, hd3, hd4⟩ (fun hHeld => ?_)
  clear hK K
  refine norm_ (a' := ?_) ?_ ?_
  rotate_left
  · show Act.put _ (some 51) _ = _
    simp only [zs]
    rfl
  refine pure_ (i := 8) (N := some 52) (v := ?_) (a' := ?_) #[true, true, true, true, true, true, true, true, true, false, false] rfl rfl (by kernel_rfl) (fun _ _ _ h => h) (Or.inl ⟨by rfl, ?_⟩) ?_ ?_
  rotate_left
  · intro w'
    go_simp
    with_reducible rfl
  rotate_left
  · simp only [zs]
    rfl
  refine pure_ (i := 9) (N := some 53) (v := ?_) (a' := ?_) #[true, true, true, true, true, true, true, true, true, true, false] rfl rfl (by kernel_rfl) (fun _ _ _ h => h) (Or.inl ⟨by rfl, ?_⟩) ?_ ?_
  rotate_left
  · intro w'
    go_simp
    with_reducible rfl
  rotate_left
  · simp only [zs]
    rfl
  refine last_ (i := 10) (N := none) #[true, true, true, true, true, true, true, true, true, true, true] rfl rfl (by kernel_rfl) (by decide) (fun K hK => ?_)
  refine skip_ (w1 := ?_) (by rfl) rfl ?_ ?_
  rotate_left
  · go_simp
    rfl
  refine hK.out _ _ ?_
  clear hK K
  refine done_ (by kernel_rfl) ?_
  go_end0
  rw [← HDA.out]
  exact ⟨rfl, v', R5.out, T5.out, (K1.out.p (fun k hk => hk.1)).trans K5.out (fun k hk => ⟨Nat.lt_of_lt_of_le hk.1 K1.out.size, hk.2⟩)⟩
theorem M_empty (w : World) (base : Nat) (ok : Nat → Prop) : k41.M w base ok ⟨[], []⟩ [.slice none 0 0, .slice none 0 0] := k41_mkM w base ok ⟨[], []⟩ (Kd.R_nil _ _ _ _ _) (Kd.R_nil _ _ _ _ _)
theorem skip_r {w : World} {B r g : Nat} {sE sM : Value} {A : Option Addr} {c : Nat} {b : List Int} {p : Int} {v : Value} {ends : List Int} {f : Int} (h : RdI w B r g sE sM A c b p v ends f) (hi : Inv b.length p ends) (hB : B ≤ w.heap.size) (hb : ∀ x ∈ b, 0 ≤ x ∧ x ≤ 255) (hbl : b.length ≤ 140737488359000) (wire : Int) :
  Calls Tryd.prog 58 #[.pointer (some ⟨r, 0, none⟩), .int .i64 wire] w fun e w' => e = .returned (.tuple #[]) ∧ ∃ v', RdI w' B r g sE sM A c b (rawD 1 wire b p ends).2.1 v' (rawD 1 wire b p ends).2.2 (flt f 8) ∧ Keeps B w.heap.size w w' := by
 obtain ⟨wa, hwa⟩ : ∃ wa, wa = w.alloc (.cells #[.slice none 0 0, .slice none 0 0] 41) := ⟨_, rfl⟩
 have ba : Below w.heap.size w wa := by rw [hwa]; exact below_alloc (Below.refl _ _) _
 have ht : TB wa w.heap.size (fun k => w.heap.size ≤ k) w.heap.size ⟨[], []⟩ := ⟨.slice none 0 0, .slice none 0 0, by rw [hwa]; exact blk_new _ _, M_empty _ _ _, Nat.le_refl _⟩
 have HU := Aside0.mk (unknown_r (h.below ba) hi (Nat.le_trans hB ba.size) hb hbl (fun k hk => Nat.le_trans ba.size hk) ht hB (show (0 + 1) * 40 ≤ _ by decide) 1 wire)
 have HF := Aside0.mk (fun (W : World) (v' : Value) (p' : Int) (e' : List Int) (hh : RdI W B r g sE sM A c b p' v' e' f) (hs : B ≤ W.heap.size) => fail_r hh hs 8)
 have HW := Aside0.mk hwa
 have BA := Aside0.mk ba
 have HB := Aside0.mk hB
 clear h hi hB hb hbl ht ba hwa
 go_enter Tryd.func58, Tryd.ntmps58
 go_wp2_with (first
  | (go_at_call 41; rw [← HW.out]; refine HU.out.mono ?_; rintro e w1 ⟨rfl, v1, h1, t1, k1⟩
     have H1 := Aside0.mk h1
     have K1 := Aside0.mk ((Keeps.of_below (b := w.heap.size) BA.out HB.out (Nat.le_refl _)).trans (k1.keeps (b' := w.heap.size) (fun k hk => ⟨Nat.lt_of_lt_of_le hk BA.out.size, by omega, by omega⟩)) (Nat.le_refl _))
     clear h1 t1 k1)
  | (go_at_call 49; refine (HF.out _ _ _ _ H1.out (Nat.le_trans HB.out K1.out.size)).mono ?_; rintro e w2 ⟨rfl, h2, k2⟩
     have H2 := Aside0.mk h2
     have K2 := Aside0.mk (K1.out.trans k2 K1.out.size)
     clear h2 k2))
 go_end0
 exact ⟨rfl, v1, H2.out, K2.out⟩
end Go.Proofs.YthgddlibfboehaaDoor.Dc
end
section
namespace Go.Proofs
open Go.Shelf
def Tryd.laysValid_ren : Go.Shelf.Ren := ⟨fun | 196 => 81 | 259 => 93 | n => n, fun | 9 => 9 | 4 => 4 | 3 => 3 | 5 => 5 | 12 => 12 | 119 => 135 | 0 => 0 | 46 => 115 | 139 => 138 | 138 => 137 | 53 => 48 | n => n, fun | 3 => 0 | 4 => 1 | n => n⟩
theorem Tryd.laysValid : Go.Proofs.Lays.n196 Tryd.prog Tryd.laysValid_ren := {
 mixed := by kernel_rfl
 f196 := Tryd.func81.trans (congrArg some (by kernel_rfl))
 f259 := Tryd.func93.trans (congrArg some (by kernel_rfl))
 t0 := Tryd.underlying0
 a0 := Tryd.isAgg0
 z0 := Tryd.sizeOf0
 v0 := Tryd.zeroValue0
 t3 := Tryd.underlying3
 a3 := Tryd.isAgg3
 z3 := Tryd.sizeOf3
 v3 := Tryd.zeroValue3
 t4 := Tryd.underlying4
 a4 := Tryd.isAgg4
 z4 := Tryd.sizeOf4
 v4 := Tryd.zeroValue4
 t5 := Tryd.underlying5
 a5 := Tryd.isAgg5
 z5 := Tryd.sizeOf5
 v5 := Tryd.zeroValue5
 t9 := Tryd.underlying9
 a9 := Tryd.isAgg9
 z9 := Tryd.sizeOf9
 v9 := Tryd.zeroValue9
 t12 := Tryd.underlying12
 a12 := Tryd.isAgg12
 z12 := Tryd.sizeOf12
 v12 := Tryd.zeroValue12
 t46 := Tryd.underlying115
 a46 := Tryd.isAgg115
 z46 := Tryd.sizeOf115
 v46 := Tryd.zeroValue115
 t53 := Tryd.underlying48
 a53 := Tryd.isAgg48
 z53 := Tryd.sizeOf48
 v53 := Tryd.zeroValue48
 t119 := Tryd.underlying135
 a119 := Tryd.isAgg135
 z119 := Tryd.sizeOf135
 t138 := Tryd.underlying137
 a138 := Tryd.isAgg137
 z138 := Tryd.sizeOf137
 v138 := Tryd.zeroValue137
 t139 := Tryd.underlying138
 a139 := Tryd.isAgg138
 z139 := Tryd.sizeOf138
 v139 := Tryd.zeroValue138
 g3 := by kernel_rfl
 g4 := by kernel_rfl }
end Go.Proofs
end
section
namespace Go.Proofs
open Go.Shelf
namespace YthgddlibfboehaaDoor.M
open Go.RowKit Go.Lib
def Tabs (w : World) : Prop := Lib.Utf8Tabs (Tryd.laysValid_ren.g 3) (Tryd.laysValid_ren.g 4) w
theorem Tabs.below {w w' : World} (h : Tabs w) (hb : Below w.heap.size w w') : Tabs w' := Utf8Tabs_below h hb
def utf8_ValidString.f (a0 : ByteArray) : Option Bool := if a0.size ≤ 9223372036854775807 then some (Lib.validD a0.data.toList) else none
theorem utf8_ValidString.calls (a0 : ByteArray) (r : Bool) (w : World) (hT : Tabs w) (h : utf8_ValidString.f a0 = some r) :
   Calls Tryd.prog 81 #[.string a0] w fun e w' => e = .returned (.bool r) ∧ Below w.heap.size w w' := by
 unfold utf8_ValidString.f at h
 split at h
 · rename_i hs
   obtain rfl := Option.some.inj h
   exact Any.utf8_ValidString Tryd.laysValid a0 w hs hT
 · cases h
end YthgddlibfboehaaDoor.M
end Go.Proofs
end
section
namespace Go.Proofs.YthgddlibfboehaaDoor.Dc
open Go.RowKit Go.Proofs.YthgddlibfboehaaDoorW.PrintWords Go.Proofs.YthgddlibfboehaaDoorW.PrintLast Go.Proofs.YthgddlibfboehaaDoorW.PrintMore Go.Proofs.YthgddlibfboehaaDoor.Var Go.Proofs.YthgddlibfboehaaDoor.Cur Go.Proofs.YthgddlibfboehaaDoor.PU Go.Proofs.YthgddlibfboehaaDoor.Un Go.Proofs.YthgddlibfboehaaDoor.KD Go.Proofs.YthgddlibfboehaaDoor.Ops
set_option linter.unusedVariables false
set_option linter.unusedSimpArgs false
set_option maxHeartbeats 1000000
set_option maxRecDepth 100000
/-- The numbers' frame, opened, read and left. -/
def packN (ty : Int) (b : List Int) (p : Int) (ends : List Int) : List Int × Int × List Int := numsD ty b (leftN (op b p ends).2.1 (op b p ends).2.2) (op b p ends).2.1 (op b p ends).2.2
def numV (n : Int) : TV := ⟨n, ⟨#[]⟩, []⟩
def packD (ty : Int) (b : List Int) (p : Int) (ends : List Int) : List TV × Int × List Int :=
 if (op b p ends).1 = false then ([], (op b p ends).2)
 else ((packN ty b p ends).1.map numV, (cl (packN ty b p ends).2.1 (packN ty b p ends).2.2).2)
theorem infoV : (Tryd.prog.info? 51).map (fun i => (i.zero, i.size, i.bytes)) = some (some (.agg #[.int .u64 0, .string ⟨#[]⟩, .slice none 0 0]), 3, 48) := by kernel_rfl
theorem numV_M (w : World) (base : Nat) (ok : Nat → Prop) (n : Int) : k51.M w base ok (numV n) [.int .u64 n, .string ⟨#[]⟩, .slice none 0 0] := k51_mkM w base ok (numV n) (Kd.R_nil _ _ _ _ _)
theorem strV_M (w : World) (base : Nat) (ok : Nat → Prop) (s : ByteArray) : k51.M w base ok ⟨0, s, []⟩ [.int .u64 0, .string s, .slice none 0 0] := k51_mkM w base ok ⟨0, s, []⟩ (Kd.R_nil _ _ _ _ _)
/-- A row of one value, newly made. -/
theorem one_V {w : World} {base : Nat} {x : TV} {u0 u1 u2 : Value} (hb : base ≤ w.heap.size) (hM : k51.M w base (fun _ => True) x [u0, u1, u2]) : k51.R 51 (w.alloc (.cells #[u0, u1, u2] 51)) base (fun _ => True) (.slice (some ⟨w.heap.size, 0, none⟩) 1 1) [x] := by
 refine ⟨fun _ _ => trivial, [u0, u1, u2], ⟨rfl, .inr ⟨w.heap.size, 1, #[u0, u1, u2], rfl, hb, blk_new _ _, Nat.le_refl _, by decide, rfl, rfl⟩⟩, ?_⟩
 refine ⟨rfl, fun j y hj => ?_⟩
 have h1 := (List.getElem?_eq_some_iff.1 hj).1
 obtain rfl : j = 0 := by simp only [List.length_singleton] at h1; omega
 obtain rfl : x = y := by simpa using hj
 refine k51.M_mono (fun k hk => ⟨trivial, fun e => ?_⟩) (k51.M_move (fun k hk => Below.heap_alloc _ _ _ hk.2.2.1) (k51.M_bound hM))
 injection e with e
 have e : k = w.heap.size := e
 have := hk.2.2.1
 omega
theorem numsD_len (ty : Int) (b : List Int) : ∀ (k : Nat) (p : Int) (ends : List Int), (numsD ty b k p ends).1.length ≤ k
 | 0, p, ends => Nat.le_refl _
 | k + 1, p, ends => by
  unfold numsD
  split
  · exact Nat.succ_le_succ (numsD_len ty b k _ _)
  · exact Nat.zero_le _
set_option maxHeartbeats 3000000 in
theorem packed_r {w : World} {B r g : Nat} {sE sM : Value} {A : Option Addr} {c : Nat} {b : List Int} {p : Int} {v : Value} {ends : List Int} {f : Int} (h : RdI w B r g sE sM A c b p v ends f) (hi : Inv b.length p ends) (hB : B ≤ w.heap.size) (hb : ∀ x ∈ b, 0 ≤ x ∧ x ≤ 255) (hbl : b.length ≤ 1000000000) (hnl : ends.length + 1 ≤ 1000000000000) (ty : Int) :
  Calls Tryd.prog 57 #[.pointer (some ⟨r, 0, none⟩), .int .i64 ty] w fun e w' => ∃ u v', e = .returned u ∧ k51.R 51 w' w.heap.size (fun _ => True) u (packD ty b p ends).1 ∧ RdI w' B r g sE sM A c b (packD ty b p ends).2.1 v' (packD ty b p ends).2.2 f ∧ Keeps B w.heap.size w w' := by
 have HO := Aside0.mk (Open_c h.cur hi hB hb (Nat.le_trans hbl (by decide)) hnl)
 have hio : Inv b.length (op b p ends).2.1 (op b p ends).2.2 := op_inv hi hb
 have h2 := h.c2
 have H := Aside0.mk h
 have HB := Aside0.mk hB
 cases ho : (op b p ends).1 with
 | false =>
  have e0 : packD ty b p ends = ([], (op b p ends).2) := by unfold packD; rw [if_pos ho]
  rw [ho] at HO
  rw [e0]
  obtain ⟨V, hV⟩ : ∃ V, V = (op b p ends).2 := ⟨_, rfl⟩
  rw [← hV] at HO ⊢
  clear h hi hB hb hbl hnl hio ho e0 hV
  go_enter Tryd.func57, Tryd.ntmps57
  go_wp2_with (first
   | (go_at_call 79; refine HO.out.mono ?_; rintro e w1 ⟨rfl, hm⟩
      obtain ⟨v1, h1, k1⟩ := H.out.moved HB.out hm
      have H1 := Aside0.mk h1
      have K1 := Aside0.mk k1
      clear hm h1 k1))
  go_ret
  exact ⟨_, v1, rfl, Kd.R_nil _ _ _ _ _, H1.out, K1.out⟩
 | true =>
  have e0 : packD ty b p ends = ((packN ty b p ends).1.map numV, (cl (packN ty b p ends).2.1 (packN ty b p ends).2.2).2) := by unfold packD; rw [if_neg (by rw [ho]; decide)]
  rw [ho] at HO
  rw [e0]
  unfold packN
  have hil := inv_last hio
  have hln : (numsD ty b (leftN (op b p ends).2.1 (op b p ends).2.2) (op b p ends).2.1 (op b p ends).2.2).1.length ≤ 1000000000 := Nat.le_trans (numsD_len ty b _ _ _) (by unfold leftN; omega)
  obtain ⟨V, hV⟩ : ∃ V, V = (op b p ends).2 := ⟨_, rfl⟩
  rw [← hV] at HO hio hln ⊢
  have HNU := Aside0.mk (fun (W : World) (v1 : Value) (hh : RdI W B r g sE sM A c b V.1 v1 V.2 f) (hs : B ≤ W.heap.size) => numbers_c hh.cur hio hs hb hbl ty)
  obtain ⟨T, hT⟩ : ∃ T, T = numsD ty b (leftN V.1 V.2) V.1 V.2 := ⟨_, rfl⟩
  rw [← hT] at HNU hln ⊢
  have HLN := Aside0.mk hln
  clear h hi hB hb hbl hnl hio ho e0 hV hil hln hT
  go_enter Tryd.func57, Tryd.ntmps57
  go_wp2_with (first
   | (go_at_call 79; refine HO.out.mono ?_; rintro e w1 ⟨rfl, hm⟩
      obtain ⟨v1, h1, k1⟩ := H.out.moved HB.out hm
      have H1 := Aside0.mk h1
      have K1 := Aside0.mk k1
      have c21 := h1.c2
      clear hm h1 k1)
   | (go_at_call 13; refine (HNU.out _ _ H1.out (Nat.le_trans HB.out K1.out.size)).mono ?_; rintro e w2 ⟨vo, v2, rfl, j2⟩
      obtain ⟨v2', h2', k2⟩ := H1.out.moved (Nat.le_trans HB.out K1.out.size) ⟨v2, j2.cur, j2.fr⟩
      have H2 := Aside0.mk h2'
      have K2 := Aside0.mk (K1.out.trans k2 K1.out.size)
      obtain ⟨Ao, co, rfl⟩ := Kd.R_slice j2.out
      have C2 := Aside0.mk (Kd.R_reads' j2.out).2.2
      have LM := Aside0.mk (Kd.C_max (Kd.R_reads' j2.out).2.2)
      clear j2 h2' k2))
  go_loopg [5, 21] T.1.length (fun kq v5 v21 wr => ∃ (i : Nat) (u : Value), u = v5 ∧ v21 = .int .i64 (i : Int) ∧ Aside0 (kq + i = T.1.length) ∧ Aside0 (k51.R 51 wr w2.heap.size (fun _ => True) u ((T.1.take i).map numV)) ∧ Aside0 (Below w2.heap.size w2 wr))
  case atStart => exact ⟨0, _, rfl, rfl, ⟨by omega⟩, ⟨Kd.R_nil _ _ _ _ _⟩, ⟨Below.refl _ _⟩⟩
  case round =>
   obtain ⟨i, u, rfl, rfl, HK, HR, HW⟩ := hrel
   by_cases hk : (i : Int) < (T.1.length : Int)
   · have c1 : decide ((i : Int) < (T.1.length : Int)) = true := decide_eq_true hk
     have p0 : (0 : Int) ≤ (i : Int) := by omega
     have hlm := LM.out
     have hw : IntKind.i64.wrap ((i : Int) + 1) = ((i + 1 : Nat) : Int) := by rw [IntKind.wrap_i64]; omega
     have hin : i < T.1.length := by omega
     obtain ⟨n, hn⟩ : ∃ n, T.1[i]? = some n := ⟨T.1[i], List.getElem?_eq_getElem hin⟩
     obtain ⟨ad, cc, rfl, _, hK, hc0⟩ := Kd.C_get (Kd.C_below C2.out HW.out) (0 : Int) i (by omega) (by omega)
     have hx : T.1.getD (i : Int).toNat 0 = n := by rw [Int.toNat_natCast, List.getD_eq_getElem?_getD, hn]; rfl
     rw [hx] at hK
     have hK : cc = [.int .u64 n] := hK
     subst hK
     have hcell : wr.cell? (ad.add i) = some (.int .u64 n) := by
       have := hc0 0 _ rfl
       have e1 : (i : Int).toNat * (Kd.int .u64).sz + 0 = i := by rw [Int.toNat_natCast]; exact Nat.mul_one _
       rw [e1] at this
       exact this
     have HN := Aside0.mk hn
     have HIN := Aside0.mk hin
     clear hn hin hK hc0 hx
     replace hk := eq_true hk
     go_wp2_with (first
       | ((with_reducible refine gate_builtin (b := .append) (xs := #[.tmp 25, .tmp 28]) rfl ?_); at_builtin
          refine Kd.R_append k51 (w0 := w2) w2.heap.size rfl (.tmp 25) (.tmp 28) 52 51 (.agg #[.int .u64 0, .string ⟨#[]⟩, .slice none 0 0]) 48 rfl Tryd.underlying52 infoV rfl (by decide) (by decide) u ((T.1.take i).map numV) (numV n) [.int .u64 n, .string ⟨#[]⟩, .slice none 0 0] (fun _ => True) (fun _ => False) rfl rfl ?aM ?aK ?aF HR.out HW.out HW.out.size ?aL ?_
          (case aM => exact numV_M _ _ _ _)
          (case aK => exact fun k hk => hk.elim)
          (case aF => exact fun k hk => trivial)
          (case aL => have := HLN.out; rw [List.length_map, List.length_take]; omega)
          intro vo' w5 ho5 hb5 hg5 hat5
          have R5 := Aside0.mk ho5
          have B5 := Aside0.mk hb5
          clear ho5 hb5 hg5 hat5))
     go_roundg (T.1.length - (i + 1))
     case measure => have := HK.out; have := HIN.out; omega
     case rel =>
       refine ⟨i + 1, _, rfl, rfl, ⟨by have := HIN.out; omega⟩, ⟨?_⟩, B5⟩
       have h2 : (T.1.take i).map numV ++ [numV n] = (T.1.take (i + 1)).map numV := by
        obtain ⟨h3, h4⟩ := List.getElem?_eq_some_iff.1 HN.out
        rw [List.take_succ_eq_append_getElem h3, List.map_append, h4]
        rfl
       rw [← h2]
       exact R5.out
   · have c1 : decide ((i : Int) < (T.1.length : Int)) = false := decide_eq_false hk
     have c2 : decide (i < T.1.length) = false := decide_eq_false (by omega)
     obtain rfl : i = T.1.length := by have := HK.out; omega
     have H3 := Aside0.mk (H2.out.below HW.out)
     have k3 := H3.out.c2
     clear hk
     go_wp2_with (first
       | (go_at_call 80; refine (Close_c H3.out.cur).mono ?_; rintro e w6 ⟨rfl, hm⟩
          obtain ⟨v6, h6, k6⟩ := H3.out.moved (Nat.le_trans (Nat.le_trans HB.out K2.out.size) HW.out.size) hm
          have H6 := Aside0.mk h6
          have K6 := Aside0.mk k6
          clear hm h6 k6))
     go_ret
     have hr := K6.out.R HR.out tkv
     rw [List.take_length] at hr
     exact ⟨_, v6, rfl, Kd.R_lower hr K2.out.size, H6.out, (K2.out.trans (Keeps.of_below HW.out (Nat.le_trans HB.out K2.out.size) (Nat.le_refl _)) K2.out.size).trans K6.out (Nat.le_trans K2.out.size HW.out.size)⟩
/-- A value that is no message, as_ it stands on the wire. -/
def plainD (ty : Int) (b : List Int) (p : Int) (ends : List Int) (f : Int) : List TV × Int × List Int × Int :=
 if isNum ty = true then ([numV (frm ty (wD (wireD ty) b p ends).1)], (nx p ends (wD (wireD ty) b p ends).2).1, (nx p ends (wD (wireD ty) b p ends).2).2, f)
 else ([⟨0, strOfNums (txt b p ends).1, []⟩], (txt b p ends).2.1, (txt b p ends).2.2, if ty = 12 ∧ Lib.validD (strOfNums (txt b p ends).1).data.toList = false then flt f 8 else f)
theorem txt_len (b : List Int) (p : Int) (ends : List Int) : (txt b p ends).1.length ≤ b.length := by
 unfold txt
 split
 · exact Nat.zero_le _
 · simp only [List.length_drop, List.length_take]; omega
/-- The tables stand, whatever comes above B. -/
def TabsB (B : Nat) (w : World) : Prop := ∀ W, Below B w W → M.Tabs W
theorem TabsB.keeps {B b' : Nat} {w w' : World} (h : TabsB B w) (hk : Keeps B b' w w') : TabsB B w' := fun W hb => h W (hk.bel.trans hb)
theorem TabsB.now {B : Nat} {w : World} (h : TabsB B w) : M.Tabs w := h w (Below.refl _ _)
set_option maxHeartbeats 3000000 in
theorem plain_r {w : World} {B r g : Nat} {sE sM : Value} {A : Option Addr} {c : Nat} {b : List Int} {p : Int} {v : Value} {ends : List Int} {f : Int} (h : RdI w B r g sE sM A c b p v ends f) (hi : Inv b.length p ends) (hB : B ≤ w.heap.size) (hb : ∀ x ∈ b, 0 ≤ x ∧ x ≤ 255) (hbl : b.length ≤ 1000000000) (hT : TabsB B w) {a0 a3 a6 : ByteArray} {a1 ty : Int} {a4 a5 : Bool} :
    Calls Tryd.prog 59 #[.pointer (some ⟨r, 0, none⟩), .agg #[.string a0, .int .i64 a1, .int .i64 ty, .string a3, .bool a4, .bool a5, .string a6]] w fun e w' => ∃ u v', e = .returned u ∧ k51.R 51 w' w.heap.size (fun _ => True) u (plainD ty b p ends f).1 ∧ RdI w' B r g sE sM A c b (plainD ty b p ends f).2.1 v' (plainD ty b p ends f).2.2.1 (plainD ty b p ends f).2.2.2 ∧ Keeps B w.heap.size w w' := by
  obtain ⟨wz, hwz⟩ : ∃ wz, wz = w.alloc (.cells #[.string a0, .int .i64 a1, .int .i64 ty, .string a3, .bool a4, .bool a5, .string a6] 23) := ⟨_, rfl⟩
  have bz : Below w.heap.size w wz := by rw [hwz]; exact below_alloc (Below.refl _ _) _
  have zb : wz.heap[w.heap.size]? = some (.cells #[.string a0, .int .i64 a1, .int .i64 ty, .string a3, .bool a4, .bool a5, .string a6] 23 (0, 0)) := by rw [hwz]; exact blk_new _ _
  have c0 : wz.cell? ⟨w.heap.size, 2, none⟩ = some (.int .i64 ty) := (blk_cell zb 2).trans rfl
  have HZ := Aside0.mk (h.below bz)
  have HB0 := Aside0.mk hB
  have SZ := Aside0.mk (show B ≤ wz.heap.size from Nat.le_trans hB bz.size)
  have KZ := Aside0.mk (Keeps.of_below (b := w.heap.size) bz hB (Nat.le_refl _))
  have ZB := Aside0.mk zb
  have BZ := Aside0.mk bz
  have HN := Aside0.mk (fun W => scalar_Number.calls ty (isNum ty) W (number_eq ty))
  have HNU := Aside0.mk (fun (W : World) (hh : RdI W B r g sE sM A c b p v ends f) (hs : B ≤ W.heap.size) => number_c hh.cur hi hs hb (Nat.le_trans hbl (by decide)) ty)
  have HX := Aside0.mk (fun (W : World) (hh : RdI W B r g sE sM A c b p v ends f) (hs : B ≤ W.heap.size) => Text_c hh.cur hi hs hb (Nat.le_trans hbl (by decide)))
  have HTB := Aside0.mk hT
  have HWZ := Aside0.mk hwz
  have HTL := Aside0.mk (show (strOfNums (txt b p ends).1).size ≤ 9223372036854775807 by rw [strOfNums_size]; have := txt_len b p ends; omega)
  clear h hi hB hb hbl hT hwz bz zb
  cases hty : isNum ty with
  | true =>
    have e0 : plainD ty b p ends f = ([numV (frm ty (wD (wireD ty) b p ends).1)], (nx p ends (wD (wireD ty) b p ends).2).1, (nx p ends (wD (wireD ty) b p ends).2).2, f) := by unfold plainD; rw [if_pos hty]
    rw [hty] at HN
    rw [e0]
    obtain ⟨V, hV⟩ : ∃ V, V = nx p ends (wD (wireD ty) b p ends).2 := ⟨_, rfl⟩
    obtain ⟨x, hx⟩ : ∃ x, x = frm ty (wD (wireD ty) b p ends).1 := ⟨_, rfl⟩
    rw [← hV, ← hx] at HNU ⊢
    clear e0 hV hx HX hty
    go_enter Tryd.func59, Tryd.ntmps59
    go_upto_region 1 with fail
    rw [← HWZ.out]
    go_wp2_with (first
      | (go_at_call 11; refine (HN.out _).mono ?_; rintro e w1 ⟨rfl, b1⟩
         have H1 := Aside0.mk (HZ.out.below b1)
         have K1 := Aside0.mk (KZ.out.trans (Keeps.of_below (b := wz.heap.size) b1 SZ.out (Nat.le_refl _)) BZ.out.size)
         have hz1 := blk_below ZB.out b1
         have HZ1 := Aside0.mk hz1
         have c1 := (blk_cell hz1 2).trans rfl
         have S1 := Aside0.mk (Nat.le_trans SZ.out b1.size)
         have SS1 := Aside0.mk (Nat.le_trans BZ.out.size b1.size)
         have r1 := H1.out.c2
         have hm := And.intro r1 c1
         clear b1 hz1))
    go_region_held3 (fun w' => w'.cell? ⟨r, 2, none⟩ = some (.pointer (some ⟨g, 0, none⟩)) ∧ w'.cell? ⟨w.heap.size, 2, none⟩ = some (.int .i64 ty)) (first | exact hm | exact CM.out | exact CM.out.below0 _ | go_keep) (first
      | (go_at_call 28; refine (HNU.out _ (H1.out.below (below_drew (Below.refl _ _))) S1.out).mono ?_; rintro e w2 ⟨rfl, hm2⟩
         obtain ⟨v2, h2, k2⟩ := (H1.out.below (below_drew (Below.refl _ _))).moved S1.out hm2
         have H2 := Aside0.mk h2
         have K2 := Aside0.mk ((K1.out.trans (Keeps.of_below (b := w1.heap.size) (below_drew (Below.refl _ _)) S1.out (Nat.le_refl _)) SS1.out).trans k2 SS1.out)
         have CM := Aside0.mk (And.intro h2.c2 ((blk_cell (k2.kp _ _ _ (blk_lt HZ1.out) HZ1.out (by decide)) 2).trans rfl))
         clear hm2 h2 k2)
      | fail)
    go_wp2_with fail
    go_ret
    have hs2 : B ≤ w2.heap.size := Nat.le_trans HB0.out K2.out.size
    exact ⟨_, v2, rfl, one_V K2.out.size (numV_M _ _ _ _), H2.out.below (below_alloc (Below.refl _ _) _), K2.out.trans (Keeps.of_below (b := w2.heap.size) (below_alloc (Below.refl _ _) _) hs2 (Nat.le_refl _)) K2.out.size⟩
  | false =>
    have e0 : plainD ty b p ends f = ([⟨0, strOfNums (txt b p ends).1, []⟩], (txt b p ends).2.1, (txt b p ends).2.2, if ty = 12 ∧ Lib.validD (strOfNums (txt b p ends).1).data.toList = false then flt f 8 else f) := by unfold plainD; rw [if_neg (by rw [hty]; decide)]
    rw [hty] at HN
    rw [e0]
    obtain ⟨S, hS⟩ : ∃ S, S = strOfNums (txt b p ends).1 := ⟨_, rfl⟩
    rw [← hS] at HX HTL ⊢
    obtain ⟨V, hV⟩ : ∃ V, V = (txt b p ends).2 := ⟨_, rfl⟩
    rw [← hV] at HX ⊢
    clear e0 hS hV HNU hty
    by_cases h12 : ty = 12
    · subst h12
      cases hvd : Lib.validD S.data.toList with
      | true =>
        rw [if_neg (by simp)]
        have HVD := Aside0.mk hvd
        clear hvd
        go_enter Tryd.func59, Tryd.ntmps59
        go_upto_region 1 with fail
        rw [← HWZ.out]
        go_wp2_with (first
          | (go_at_call 11; refine (HN.out _).mono ?_; rintro e w1 ⟨rfl, b1⟩
             have H1 := Aside0.mk (HZ.out.below b1)
             have K1 := Aside0.mk (KZ.out.trans (Keeps.of_below (b := wz.heap.size) b1 SZ.out (Nat.le_refl _)) BZ.out.size)
             have hz1 := blk_below ZB.out b1
             have HZ1 := Aside0.mk hz1
             have c1 := (blk_cell hz1 2).trans rfl
             have S1 := Aside0.mk (Nat.le_trans SZ.out b1.size)
             have SS1 := Aside0.mk (Nat.le_trans BZ.out.size b1.size)
             have r1 := H1.out.c2
             clear b1 hz1)
          | (go_at_call 54; refine (HX.out _ H1.out S1.out).mono ?_; rintro e w2 ⟨rfl, hm2⟩
             obtain ⟨v2, h2, k2⟩ := H1.out.moved S1.out hm2
             have H2 := Aside0.mk h2
             have K2 := Aside0.mk (K1.out.trans k2 SS1.out)
             have S2 := Aside0.mk (Nat.le_trans S1.out k2.size)
             have c2 := (blk_cell (k2.kp _ _ _ (blk_lt HZ1.out) HZ1.out (by decide)) 2).trans rfl
             clear hm2 h2 k2)
          | (go_at_call 81; refine (M.utf8_ValidString.calls _ (Lib.validD S.data.toList) _ (HTB.out.keeps K2.out).now (by unfold M.utf8_ValidString.f; rw [if_pos HTL.out])).mono ?_; rw [HVD.out]; rintro e w3 ⟨rfl, b3⟩
             have H3 := Aside0.mk (H2.out.below b3)
             have S3 := Aside0.mk (Nat.le_trans S2.out b3.size)
             have K3 := Aside0.mk (K2.out.trans (Keeps.of_below (b := w2.heap.size) b3 S2.out (Nat.le_refl _)) K2.out.size)
             clear b3))
        go_ret
        exact ⟨_, v2, rfl, one_V K3.out.size (strV_M _ _ _ _), H3.out.below (below_alloc (Below.refl _ _) _), K3.out.trans (Keeps.of_below (b := w3.heap.size) (below_alloc (Below.refl _ _) _) (Nat.le_trans HB0.out K3.out.size) (Nat.le_refl _)) K3.out.size⟩
      | false =>
        rw [if_pos ⟨rfl, rfl⟩]
        have HVD := Aside0.mk hvd
        clear hvd
        go_enter Tryd.func59, Tryd.ntmps59
        go_upto_region 1 with fail
        rw [← HWZ.out]
        go_wp2_with (first
          | (go_at_call 11; refine (HN.out _).mono ?_; rintro e w1 ⟨rfl, b1⟩
             have H1 := Aside0.mk (HZ.out.below b1)
             have K1 := Aside0.mk (KZ.out.trans (Keeps.of_below (b := wz.heap.size) b1 SZ.out (Nat.le_refl _)) BZ.out.size)
             have hz1 := blk_below ZB.out b1
             have HZ1 := Aside0.mk hz1
             have c1 := (blk_cell hz1 2).trans rfl
             have S1 := Aside0.mk (Nat.le_trans SZ.out b1.size)
             have SS1 := Aside0.mk (Nat.le_trans BZ.out.size b1.size)
             have r1 := H1.out.c2
             clear b1 hz1)
          | (go_at_call 54; refine (HX.out _ H1.out S1.out).mono ?_; rintro e w2 ⟨rfl, hm2⟩
             obtain ⟨v2, h2, k2⟩ := H1.out.moved S1.out hm2
             have H2 := Aside0.mk h2
             have K2 := Aside0.mk (K1.out.trans k2 SS1.out)
             have S2 := Aside0.mk (Nat.le_trans S1.out k2.size)
             have c2 := (blk_cell (k2.kp _ _ _ (blk_lt HZ1.out) HZ1.out (by decide)) 2).trans rfl
             clear hm2 h2 k2)
          | (go_at_call 81; refine (M.utf8_ValidString.calls _ (Lib.validD S.data.toList) _ (HTB.out.keeps K2.out).now (by unfold M.utf8_ValidString.f; rw [if_pos HTL.out])).mono ?_; rw [HVD.out]; rintro e w3 ⟨rfl, b3⟩
             have H3 := Aside0.mk (H2.out.below b3)
             have S3 := Aside0.mk (Nat.le_trans S2.out b3.size)
             have K3 := Aside0.mk (K2.out.trans (Keeps.of_below (b := w2.heap.size) b3 S2.out (Nat.le_refl _)) K2.out.size)
             clear b3)
          | (go_at_call 49; refine (fail_r H3.out S3.out 8).mono ?_; rintro e w4 ⟨rfl, h4, k4⟩
             have H4 := Aside0.mk h4
             have K4 := Aside0.mk (K3.out.trans k4 K3.out.size)
             clear h4 k4))
        go_ret
        exact ⟨_, v2, rfl, one_V K4.out.size (strV_M _ _ _ _), H4.out.below (below_alloc (Below.refl _ _) _), K4.out.trans (Keeps.of_below (b := w4.heap.size) (below_alloc (Below.refl _ _) _) (Nat.le_trans HB0.out K4.out.size) (Nat.le_refl _)) K4.out.size⟩
    · have d12 : decide (ty = 12) = false := decide_eq_false h12
      have e12 : (ty = 12) = False := eq_false h12
      rw [if_neg (fun hh => h12 hh.1)]
      go_enter Tryd.func59, Tryd.ntmps59
      go_upto_region 1 with fail
      rw [← HWZ.out]
      go_wp2_with (first
        | (go_at_call 11; refine (HN.out _).mono ?_; rintro e w1 ⟨rfl, b1⟩
           have H1 := Aside0.mk (HZ.out.below b1)
           have K1 := Aside0.mk (KZ.out.trans (Keeps.of_below (b := wz.heap.size) b1 SZ.out (Nat.le_refl _)) BZ.out.size)
           have hz1 := blk_below ZB.out b1
           have HZ1 := Aside0.mk hz1
           have c1 := (blk_cell hz1 2).trans rfl
           have S1 := Aside0.mk (Nat.le_trans SZ.out b1.size)
           have SS1 := Aside0.mk (Nat.le_trans BZ.out.size b1.size)
           have r1 := H1.out.c2
           clear b1 hz1)
        | (go_at_call 54; refine (HX.out _ H1.out S1.out).mono ?_; rintro e w2 ⟨rfl, hm2⟩
           obtain ⟨v2, h2, k2⟩ := H1.out.moved S1.out hm2
           have H2 := Aside0.mk h2
           have K2 := Aside0.mk (K1.out.trans k2 SS1.out)
           have S2 := Aside0.mk (Nat.le_trans S1.out k2.size)
           have c2 := (blk_cell (k2.kp _ _ _ (blk_lt HZ1.out) HZ1.out (by decide)) 2).trans rfl
           clear hm2 h2 k2))
      go_ret
      exact ⟨_, v2, rfl, one_V K2.out.size (strV_M _ _ _ _), H2.out.below (below_alloc (Below.refl _ _) _), K2.out.trans (Keeps.of_below (b := w2.heap.size) (below_alloc (Below.refl _ _) _) (Nat.le_trans HB0.out K2.out.size) (Nat.le_refl _)) K2.out.size⟩
end Go.Proofs.YthgddlibfboehaaDoor.Dc
end
section
namespace Go.Proofs.YthgddlibfboehaaDoor.Dc
open Go.RowKit Go.Proofs.YthgddlibfboehaaDoorW.PrintWords Go.Proofs.YthgddlibfboehaaDoorW.PrintLast Go.Proofs.YthgddlibfboehaaDoorW.PrintMore Go.Proofs.YthgddlibfboehaaDoor.Var Go.Proofs.YthgddlibfboehaaDoor.Cur Go.Proofs.YthgddlibfboehaaDoor.PU Go.Proofs.YthgddlibfboehaaDoor.Un Go.Proofs.YthgddlibfboehaaDoor.KD Go.Proofs.YthgddlibfboehaaDoor.Ops Go.Proofs.YthgddlibfboehaaDoor.TK Go.Proofs.YthgddlibfboehaaDoor.Ev
set_option linter.unusedVariables false
set_option linter.unusedSimpArgs false
set_option maxHeartbeats 1000000
set_option maxRecDepth 100000
abbrev SM := S33
abbrev SF := S23
abbrev SE := S158
def limR (x : TR) : Prop := (Lit.int .i64 x.f0).wf = true ∧ (Lit.int .i64 x.f1).wf = true ∧ (Lit.int .u64 x.f2).wf = true ∧ x.f3.size ≤ 1000000000
def limV (O : TT → Prop) (x : TV) : Prop := (Lit.int .u64 x.f0).wf = true ∧ x.f1.size ≤ 1000000000 ∧ x.f2.length ≤ 1 ∧ ∀ y ∈ x.f2, O y
def limS (O : TT → Prop) (m : Nat) (x : TS) : Prop := (Lit.int .i64 x.f0).wf = true ∧ x.f1.length ≤ m ∧ ∀ y ∈ x.f1, limV O y
def limTree (O : TT → Prop) (m : Nat) (x : TT) : Prop := (x.f0.length ≤ m ∧ ∀ y ∈ x.f0, limS O m y) ∧ x.f1.length ≤ m ∧ ∀ y ∈ x.f1, limR y
/-- No deeper than so much, and in no place more than m. -/
def limT : Nat → Nat → TT → Prop
 | 0, _ => fun _ => False
 | n + 1, m => limTree (limT n m) m
def Lim (m : Nat) (x : TT) : Prop := ∃ n, limT n m x
theorem limV_imp {O O' : TT → Prop} (h : ∀ x, O x → O' x) {x : TV} (hx : limV O x) : limV O' x := ⟨hx.1, hx.2.1, hx.2.2.1, fun y hy => h y (hx.2.2.2 y hy)⟩
theorem limS_imp {O O' : TT → Prop} (h : ∀ x, O x → O' x) {m m' : Nat} (hm : m ≤ m') {x : TS} (hx : limS O m x) : limS O' m' x := ⟨hx.1, Nat.le_trans hx.2.1 hm, fun y hy => limV_imp h (hx.2.2 y hy)⟩
theorem limT_mono : ∀ (n n' m m' : Nat), n ≤ n' → m ≤ m' → ∀ x, limT n m x → limT n' m' x
 | 0, _, _, _, _, _, _, h => h.elim
 | n + 1, 0, _, _, h, _, _, _ => absurd h (by omega)
 | n + 1, n' + 1, m, m', h, hm, x, hx => ⟨⟨Nat.le_trans hx.1.1 hm, fun y hy => limS_imp (limT_mono n n' m m' (by omega) hm) hm (hx.1.2 y hy)⟩, Nat.le_trans hx.2.1 hm, hx.2.2⟩
theorem Lim.mono {m m' : Nat} {x : TT} (h : Lim m x) (hm : m ≤ m') : Lim m' x := by
 obtain ⟨n, hn⟩ := h
 exact ⟨n, limT_mono n n m m' (Nat.le_refl _) hm x hn⟩
theorem limT_ok : ∀ (n m : Nat), m ≤ 1000000000000 → ∀ x, limT n m x → okT n x
 | 0, _, _, _, h => h.elim
 | n + 1, m, hm, x, h => by
  have r : reachBytes = 140737488351232 := by rfl
  refine ⟨⟨by rw [r]; have := h.1.1; omega, fun y hy => ?_⟩, by rw [r]; have := h.2.1; omega, fun y hy => ?_⟩
  · obtain ⟨h1, h2, h3⟩ := h.1.2 y hy
    refine ⟨h1, by rw [r]; omega, fun z hz => ?_⟩
    obtain ⟨q1, q2, q3, q4⟩ := h3 z hz
    exact ⟨q1, by rw [r]; omega, by rw [r]; omega, fun t ht => limT_ok n m hm t (q4 t ht)⟩
  · obtain ⟨q1, q2, q3, q4⟩ := h.2.2 y hy
    exact ⟨q1, q2, q3, by rw [r]; omega⟩
theorem Lim.ok {m : Nat} {x : TT} (h : Lim m x) (hm : m ≤ 1000000000000) : okTr x := by
 obtain ⟨n, hn⟩ := h
 exact ⟨n, limT_ok n m hm x hn⟩
theorem lim_all {P : Nat → TV → Prop} (hp : ∀ n n' v, n ≤ n' → P n v → P n' v) : ∀ (l : List TV), (∀ v ∈ l, ∃ n, P n v) → ∃ n, ∀ v ∈ l, P n v
 | [], _ => ⟨0, by simp⟩
 | v :: l, h => by
  obtain ⟨n, hn⟩ := h v (by simp)
  obtain ⟨n', hn'⟩ := lim_all hp l (fun u hu => h u (by simp [hu]))
  refine ⟨max n n', fun u hu => ?_⟩
  rcases List.mem_cons.1 hu with rfl | hu
  · exact hp _ _ _ (Nat.le_max_left _ _) hn
  · exact hp _ _ _ (Nat.le_max_right _ _) (hn' u hu)
/-- Values that are no greater. -/
def LimV (m : Nat) (v : TV) : Prop := limV (Lim m) v
theorem LimV.at {m : Nat} {v : TV} (h : LimV m v) : ∃ n, limV (limT n m) v := by
 obtain ⟨h1, h2, h3, h4⟩ := h
 match hv : v.f2 with
 | [] => exact ⟨0, h1, h2, by rw [hv]; exact Nat.zero_le _, by rw [hv]; simp⟩
 | [y] =>
  obtain ⟨n, hn⟩ := h4 y (by rw [hv]; simp)
  exact ⟨n, h1, h2, by rw [hv]; exact Nat.le_refl _, by rw [hv]; intro z hz; rw [List.mem_singleton.1 hz]; exact hn⟩
 | y :: z :: l => rw [hv] at h3; simp at h3
theorem LimV.all {m : Nat} {l : List TV} (h : ∀ v ∈ l, LimV m v) : ∃ n, ∀ v ∈ l, limV (limT n m) v :=
 lim_all (P := fun n v => limV (limT n m) v) (fun n n' v hn => limV_imp (limT_mono n n' m m hn (Nat.le_refl _))) l (fun v hv => (h v hv).at)
theorem Lim.get {m : Nat} {x : TT} (h : Lim m x) {y : TS} (hy : y ∈ x.f0) : (Lit.int .i64 y.f0).wf = true ∧ y.f1.length ≤ m ∧ ∀ v ∈ y.f1, LimV m v := by
 obtain ⟨n, hn⟩ := h
 cases n with
 | zero => exact hn.elim
 | succ n => exact ⟨(hn.1.2 y hy).1, (hn.1.2 y hy).2.1, fun v hv => limV_imp (fun t ht => ⟨n, ht⟩) ((hn.1.2 y hy).2.2 v hv)⟩
theorem Lim.getT {m : Nat} {x : TT} (h : Lim m x) (num : Int) : (getT x num).length ≤ m ∧ ∀ v ∈ getT x num, LimV m v := by
 unfold TK.getT
 split
 · rename_i y hy
   have := h.get (List.mem_of_find?_eq_some hy)
   exact ⟨this.2.1, this.2.2⟩
 · exact ⟨Nat.zero_le _, by simp⟩
theorem Lim.withT {m : Nat} {x : TT} (h : Lim m x) {num : Int} (hn : (Lit.int .i64 num).wf = true) {vals : List TV} (hl : vals.length ≤ m + 1) (hv : ∀ v ∈ vals, LimV (m + 1) v) : Lim (m + 1) (withT x num vals) := by
 obtain ⟨n, hx⟩ := h
 obtain ⟨k, hk⟩ := LimV.all hv
 cases n with
 | zero => exact hx.elim
 | succ n =>
  have hx' : limTree (limT (max n k) (m + 1)) (m + 1) x := limT_mono (n + 1) (max n k + 1) m (m + 1) (by omega) (Nat.le_succ _) x hx
  have ho : ∀ y ∈ outT x.f0 num, limS (limT (max n k) (m + 1)) (m + 1) y := fun y hy => hx'.1.2 y (List.mem_filter.1 hy).1
  have hlo : (outT x.f0 num).length ≤ m := Nat.le_trans (List.length_filter_le _ _) hx.1.1
  refine ⟨max n k + 1, ⟨?_, ?_⟩, hx'.2⟩
  · unfold TK.withT
    show (if vals = [] then outT x.f0 num else putT (outT x.f0 num) num vals).length ≤ _
    split
    · omega
    · unfold putT
      simp only [List.length_append, List.length_cons, List.length_take, List.length_drop]
      omega
  · unfold TK.withT
    show ∀ y ∈ (if vals = [] then outT x.f0 num else putT (outT x.f0 num) num vals), _
    split
    · exact ho
    · intro y hy
      unfold putT at hy
      rcases List.mem_append.1 hy with hy | hy
      · exact ho y (List.mem_of_mem_take hy)
      · rcases List.mem_cons.1 hy with rfl | hy
        · exact ⟨hn, hl, fun v hv => limV_imp (limT_mono k (max n k) (m + 1) (m + 1) (Nat.le_max_right _ _) (Nat.le_refl _)) (hk v hv)⟩
        · exact ho y (List.mem_of_mem_drop hy)
/-- What is struck makes nothing greater. -/
theorem Lim.without {m : Nat} {x : TT} (h : Lim m x) (num : Int) : Lim m (TK.withT x num []) := by
 obtain ⟨n, hx⟩ := h
 cases n with
 | zero => exact hx.elim
 | succ n =>
  have e : TK.withT x num [] = ⟨outT x.f0 num, x.f1⟩ := by unfold TK.withT; rw [if_pos rfl]
  rw [e]
  exact ⟨n + 1, ⟨Nat.le_trans (List.length_filter_le _ _) hx.1.1, fun y hy => hx.1.2 y (List.mem_filter.1 hy).1⟩, hx.2⟩
theorem Lim.one {m : Nat} {num : Int} {vals : List TV} (hn : (Lit.int .i64 num).wf = true) (hl : vals.length ≤ m) (hm : 1 ≤ m) (hv : ∀ v ∈ vals, LimV m v) : Lim m ⟨[⟨num, vals⟩], []⟩ := by
 obtain ⟨k, hk⟩ := LimV.all hv
 exact ⟨k + 1, ⟨hm, fun y hy => by rw [List.mem_singleton.1 hy]; exact ⟨hn, hl, hk⟩⟩, Nat.zero_le _, by simp⟩
theorem Lim.rest {m : Nat} {x : TT} (h : Lim m x) {y : TR} (hy : limR y) : Lim (m + 1) ⟨x.f0, x.f1 ++ [y]⟩ := by
 obtain ⟨n, hx⟩ := h
 cases n with
 | zero => exact hx.elim
 | succ n =>
  have hx' : limTree (limT n (m + 1)) (m + 1) x := limT_mono (n + 1) (n + 1) m (m + 1) (Nat.le_refl _) (Nat.le_succ _) x hx
  refine ⟨n + 1, hx'.1, ?_, fun z hz => ?_⟩
  · show (x.f1 ++ [y]).length ≤ _
    rw [List.length_append]
    exact Nat.succ_le_succ hx.2.1
  · rcases List.mem_append.1 hz with hz | hz
    · exact hx.2.2 z hz
    · rw [List.mem_singleton.1 hz]; exact hy
theorem Lim.restlen {m : Nat} {x : TT} (h : Lim m x) : x.f1.length ≤ m := by
 obtain ⟨n, hx⟩ := h
 cases n with
 | zero => exact hx.elim
 | succ n => exact hx.2.1
theorem Lim.empty (m : Nat) : Lim m ⟨[], []⟩ := ⟨1, ⟨Nat.zero_le _, by simp⟩, Nat.zero_le _, by simp⟩
theorem rdF (xs : List SF) (i : Nat) : rd_T23 xs (i : Int) = xs.getD i z23 := rfl
def mems (a : ByteArray) (acc : List Int) : List SF → List Int
 | [] => acc
 | x :: l => mems a (if a.toList = [] then acc else if x.f6.toList = a.toList then acc ++ [x.f1] else acc) l
theorem mems_cons (a : ByteArray) (acc : List Int) (x : SF) (l : List SF) : mems a acc (x :: l) = mems a (if a.toList = [] then acc else if x.f6.toList = a.toList then acc ++ [x.f1] else acc) l := rfl
theorem mems_le (a : ByteArray) : ∀ (l : List SF) (acc : List Int), (mems a acc l).length ≤ acc.length + l.length
 | [], acc => Nat.le_refl _
 | x :: l, acc => by
  rw [mems_cons]
  refine Nat.le_trans (mems_le a l _) ?_
  simp only [List.length_cons]
  split
  · omega
  · split
    · simp; omega
    · omega
theorem mems_all {P : Int → Prop} (a : ByteArray) : ∀ (l : List SF) (acc : List Int), (∀ n ∈ acc, P n) → (∀ x ∈ l, P x.f1) → ∀ n ∈ mems a acc l, P n
 | [], acc, h, _ => h
 | x :: l, acc, h, hl => by
  rw [mems_cons]
  refine mems_all a l _ ?_ (fun y hy => hl y (by simp [hy]))
  split
  · exact h
  · split
    · intro n hn
      rcases List.mem_append.1 hn with hn | hn
      · exact h n hn
      · rw [List.mem_singleton.1 hn]; exact hl x (by simp)
    · exact h
theorem members_E (n : ByteArray) (l1 : List SF) (l2 : List Int) (a : ByteArray) (h : l1.length ≤ 10000000000000) : E (fun k => find_Members.f k n l1 l2 a) (mems a [] l1) := by
 have h' : l1.length ≤ 9000000000000000000 := by omega
 have key := up (C := fun i => ∀ acc : List Int, acc.length ≤ i → E (fun k => find_Members.l0 k a acc l1 (l1.length : Int) (i : Int)) (mems a acc (l1.drop i))) l1.length (fun i hi => ?_) (fun i hi ih => ?_) 0
 · exact key [] (by simp)
 · intro acc ha
   rw [List.drop_eq_nil_of_le hi]
   exact E.succ E.const fun k => by simp only [find_Members.l0]; rw [if_neg (by omega)]; rfl
 · intro acc ha
   rw [drop_getD z23 hi, mems_cons]
   by_cases h0 : a.toList = []
   · rw [if_pos h0]
     exact E.succ (ih acc (by omega)) fun k => by simp only [find_Members.l0]; rw [if_pos (by omega), if_pos (by omega), if_pos (by omega), if_pos h0, w1 hi h']
   · rw [if_neg h0]
     by_cases he : (l1.getD i z23).f6.toList = a.toList
     · rw [if_pos he]
       exact E.succ (ih _ (by simp; omega)) fun k => by simp only [find_Members.l0]; rw [if_pos (by omega), if_pos (by omega), if_pos (by omega), if_neg h0, rdF, if_pos he, if_pos (by omega), w1 hi h']
     · rw [if_neg he]
       exact E.succ (ih acc (by omega)) fun k => by simp only [find_Members.l0]; rw [if_pos (by omega), if_pos (by omega), if_pos (by omega), if_neg h0, rdF, if_neg he, w1 hi h']
/-- A tree without the other fields of a oneof. -/
def aloneD (x : TT) (num : Int) : List Int → TT
 | [] => x
 | o :: l => aloneD (if o = num then x else withT x o []) num l
theorem Lim.alone {m : Nat} (num : Int) : ∀ (l : List Int) {x : TT}, Lim m x → Lim m (aloneD x num l)
 | [], _, h => h
 | o :: l, x, h => by
  unfold aloneD
  refine Lim.alone num l ?_
  split
  · exact h
  · exact h.without o
end Go.Proofs.YthgddlibfboehaaDoor.Dc
end
section
namespace Go.Proofs.YthgddlibfboehaaDoor.Dc
open Go.RowKit Go.Proofs.YthgddlibfboehaaDoorW.PrintWords Go.Proofs.YthgddlibfboehaaDoorW.PrintLast Go.Proofs.YthgddlibfboehaaDoorW.PrintMore Go.Proofs.YthgddlibfboehaaDoor.Var Go.Proofs.YthgddlibfboehaaDoor.Cur Go.Proofs.YthgddlibfboehaaDoor.PU Go.Proofs.YthgddlibfboehaaDoor.Un Go.Proofs.YthgddlibfboehaaDoor.KD Go.Proofs.YthgddlibfboehaaDoor.Ops Go.Proofs.YthgddlibfboehaaDoor.TK Go.Proofs.YthgddlibfboehaaDoor.Ev
set_option linter.unusedVariables false
set_option linter.unusedSimpArgs false
set_option maxHeartbeats 1000000
set_option maxRecDepth 100000
theorem K_of {w : World} {base : Nat} {ok : Nat → Prop} {x : TT} {u0 u1 : Value} (h : k41.M w base ok x [u0, u1]) : ∃ A0 c0 A1 c1, u0 = .slice A0 x.f0.length c0 ∧ u1 = .slice A1 x.f1.length c1 ∧ k41.K w x [.slice A0 x.f0.length c0, .slice A1 x.f1.length c1] := by
 obtain ⟨_, _, e, h0, h1⟩ := k41_openM h
 injection e with e0 e
 injection e with e1 _
 subst e0
 subst e1
 obtain ⟨A0, c0, rfl⟩ := Kd.R_slice h0
 obtain ⟨A1, c1, rfl⟩ := Kd.R_slice h1
 exact ⟨A0, c0, A1, c1, rfl, rfl, k41.K_of_M h⟩
theorem M_ofOwn {w : World} {base : Nat} {x : TT} {e : Ending} (h : OwnT w base x e) : ∃ A0 c0 A1 c1, e = .returned (.agg #[.slice A0 x.f0.length c0, .slice A1 x.f1.length c1]) ∧ k41.M w base (fun _ => True) x [.slice A0 x.f0.length c0, .slice A1 x.f1.length c1] := by
 obtain ⟨u0, u1, rfl, h0, h1⟩ := h
 obtain ⟨A0, c0, rfl⟩ := Kd.R_slice h0
 obtain ⟨A1, c1, rfl⟩ := Kd.R_slice h1
 exact ⟨A0, c0, A1, c1, rfl, k41_mkM w base _ x (Kd.R_mono h0 (fun _ hk => ⟨trivial, hk⟩)) h1⟩
theorem nil_C (w : World) : k51.C w none 0 [] := ⟨rfl, by decide, fun h => absurd h (Nat.lt_irrefl 0)⟩
set_option maxHeartbeats 3000000 in
theorem alone_r {w : World} {base m : Nat} {ok : Nat → Prop} {x : TT} {u0 u1 : Value} (hM : k41.M w base ok x [u0, u1]) (hbs : base ≤ w.heap.size) (hx : Lim m x) (hm : m ≤ 100000000000) {mn : ByteArray} {AF AB : Option Addr} {cF cB : Nat} {fs : List SF} {bar : List Int} (hF : k23.C w AF fs.length fs) (hFc : fs.length ≤ cF) (hBr : (Kd.int .i64).C w AB bar.length bar) (hBc : bar.length ≤ cB) (hfl : fs.length ≤ 1000000000) (hfw : ∀ f ∈ fs, (Lit.int .i64 f.f1).wf = true)
  {a0 a3 a6 : ByteArray} {num ty : Int} {a4 a5 : Bool} (hnum : (Lit.int .i64 num).wf = true) :
  Calls Tryd.prog 55 #[.agg #[u0, u1], .agg #[.string mn, .slice AF fs.length cF, .slice AB bar.length cB], .agg #[.string a0, .int .i64 num, .int .i64 ty, .string a3, .bool a4, .bool a5, .string a6]] w fun e w' => ∃ y0 y1, e = .returned (.agg #[y0, y1]) ∧ k41.M w' base (fun k => ok k ∨ w.heap.size ≤ k) (aloneD x num (mems a6 [] fs)) [y0, y1] ∧ Below w.heap.size w w' := by
 obtain ⟨A0, c0, A1, c1, rfl, rfl, hK⟩ := K_of hM
 obtain ⟨wz, hwz⟩ : ∃ wz, wz = (((w.alloc (.cells #[.slice A0 x.f0.length c0, .slice A1 x.f1.length c1] 41)).alloc (.cells #[.string mn, .slice AF fs.length cF, .slice AB bar.length cB] 33)).alloc (.cells #[.string a0, .int .i64 num, .int .i64 ty, .string a3, .bool a4, .bool a5, .string a6] 23)).alloc (.cells #[.slice none 0 0, .slice none 0 0] 41) := ⟨_, rfl⟩
 have bz : Below w.heap.size w wz := by rw [hwz]; exact below_alloc (below_alloc (below_alloc (below_alloc (Below.refl _ _) _) _) _) _
 have hsz : wz.heap.size = w.heap.size + 4 := by rw [hwz]; simp only [World.size_alloc]
 have hb0 : wz.heap[w.heap.size]? = some (.cells #[.slice A0 x.f0.length c0, .slice A1 x.f1.length c1] 41 (0, 0)) := by rw [hwz]; exact blk_alloc (blk_alloc (blk_alloc (blk_new _ _) _) _) _
 have hb1 : wz.heap[w.heap.size + 1]? = some (.cells #[.string mn, .slice AF fs.length cF, .slice AB bar.length cB] 33 (0, 0)) := by
  have q := blk_alloc (blk_alloc (blk_new (w.alloc (.cells #[.slice A0 x.f0.length c0, .slice A1 x.f1.length c1] 41)) (.cells #[.string mn, .slice AF fs.length cF, .slice AB bar.length cB] 33)) (.cells #[.string a0, .int .i64 num, .int .i64 ty, .string a3, .bool a4, .bool a5, .string a6] 23)) (.cells #[.slice none 0 0, .slice none 0 0] 41)
  rw [World.size_alloc] at q
  rw [hwz]
  exact q
 have hb2 : wz.heap[w.heap.size + 2]? = some (.cells #[.string a0, .int .i64 num, .int .i64 ty, .string a3, .bool a4, .bool a5, .string a6] 23 (0, 0)) := by
  have q := blk_alloc (blk_new ((w.alloc (.cells #[.slice A0 x.f0.length c0, .slice A1 x.f1.length c1] 41)).alloc (.cells #[.string mn, .slice AF fs.length cF, .slice AB bar.length cB] 33)) (.cells #[.string a0, .int .i64 num, .int .i64 ty, .string a3, .bool a4, .bool a5, .string a6] 23)) (.cells #[.slice none 0 0, .slice none 0 0] 41)
  rw [World.size_alloc, World.size_alloc] at q
  rw [hwz]
  exact q
 have hb3 : wz.heap[w.heap.size + 3]? = some (.cells #[.slice none 0 0, .slice none 0 0] 41 (0, 0)) := by
  have q := blk_new (((w.alloc (.cells #[.slice A0 x.f0.length c0, .slice A1 x.f1.length c1] 41)).alloc (.cells #[.string mn, .slice AF fs.length cF, .slice AB bar.length cB] 33)).alloc (.cells #[.string a0, .int .i64 num, .int .i64 ty, .string a3, .bool a4, .bool a5, .string a6] 23)) (.cells #[.slice none 0 0, .slice none 0 0] 41)
  rw [World.size_alloc, World.size_alloc, World.size_alloc] at q
  rw [hwz]
  exact q
 obtain ⟨k0, hk0⟩ := (members_E mn fs bar a6 (by omega)).get
 have HMB := Aside0.mk (find_Members.calls k0 mn AF cF fs AB cB bar a6 (mems a6 [] fs) wz (Kd.C_below hF bz) hFc (Kd.C_below hBr bz) hBc hk0)
 have HMZ := Aside0.mk (k41.M_mono (ok' := fun k => (ok k ∨ w.heap.size ≤ k) ∧ k ≠ w.heap.size ∧ k ≠ w.heap.size + 3) (fun k hk => ⟨.inl hk.1, by have := hk.2.2.1; omega⟩) (k41.M_bound hM))
 have HBS := Aside0.mk hbs
 have HX := Aside0.mk hx
 have HNW := Aside0.mk hnum
 have HLW := Aside0.mk (mems_all (P := fun n => (Lit.int .i64 n).wf = true) a6 fs [] (by simp) hfw)
 have HLL := Aside0.mk (show (mems a6 [] fs).length ≤ 1000000000 by have := mems_le a6 fs []; simp at this; omega)
 have HMM := Aside0.mk hm
 have HWZ := Aside0.mk hwz
 have BZ := Aside0.mk bz
 have SZ := Aside0.mk hsz
 have HB0 := Aside0.mk hb0
 have HB1 := Aside0.mk hb1
 have HB2 := Aside0.mk hb2
 have HB3 := Aside0.mk hb3
 have q0 := (blk_cell hb1 0).trans rfl
 have q1 := (blk_cell hb1 1).trans rfl
 have q2 := (blk_cell hb1 2).trans rfl
 have q6 := (blk_cell hb2 6).trans rfl
 obtain ⟨L, hL⟩ : ∃ L, L = mems a6 [] fs := ⟨_, rfl⟩
 rw [← hL] at HMB HLW HLL ⊢
 clear hwz bz hsz hb0 hb1 hb2 hb3 hk0 hF hFc hBr hBc hfl hfw hnum hM hK hx hm hL hbs
 go_enter Tryd.func55, Tryd.ntmps55
 go_upto_region 1 with fail
 rw [← HWZ.out]
 go_wp2_with (first
  | (go_at_call 75; refine HMB.out.mono ?_; rintro e w1 ⟨v1, rfl, h1, b1⟩
     obtain ⟨AL, cL, rfl⟩ := Kd.R_slice h1
     have R1 := Aside0.mk h1
     have B1 := Aside0.mk b1
     have LM := Aside0.mk (Kd.C_max (Kd.R_reads' h1).2.2)
     clear h1 b1))
 have RL := Aside0.mk (show Kd.R (Kd.int .i64) 3 w1 wz.heap.size (fun k => k ≠ w.heap.size) (.slice AL L.length cL) L from Kd.R_mono (Kd.R_bound R1.out) (fun k hk => by have := hk.2.1; have := SZ.out; omega))
 clear R1
 go_loopg [14] L.length (fun kq v14 wr => ∃ (i : Nat) (x' : TT) (v0 v1 : Value), v14 = .int .i64 (i : Int) ∧ Aside0 (kq + i = L.length) ∧ Aside0 (wr.heap[w.heap.size]? = some (.cells #[v0, v1] 41 (0, 0))) ∧ Aside0 (k41.M wr base (fun k => (ok k ∨ w.heap.size ≤ k) ∧ k ≠ w.heap.size ∧ k ≠ w.heap.size + 3) x' [v0, v1]) ∧ Aside0 (aloneD x num L = aloneD x' num (L.drop i)) ∧ Aside0 (Lim m x') ∧ Aside0 (Kept w1 wr w.heap.size))
 case atStart => exact ⟨0, x, _, _, rfl, ⟨by omega⟩, ⟨blk_below HB0.out B1.out⟩, ⟨Kd.M_below HMZ.out (BZ.out.trans (B1.out.mono BZ.out.size))⟩, ⟨rfl⟩, HX, ⟨Kept.refl _ _⟩⟩
 case round =>
  obtain ⟨i, x', v0, v1, rfl, HK, HBX, HM, HA, HL, HW⟩ := hrel
  have hwr : w1.heap.size ≤ wr.heap.size := HW.out.1.1
  by_cases hk : (i : Int) < (L.length : Int)
  · have c1 : decide ((i : Int) < (L.length : Int)) = true := decide_eq_true hk
    have p0 : (0 : Int) ≤ (i : Int) := by omega
    have hlm := LM.out
    have hw : IntKind.i64.wrap ((i : Int) + 1) = ((i + 1 : Nat) : Int) := by rw [IntKind.wrap_i64]; omega
    have hin : i < L.length := by omega
    obtain ⟨o, ho⟩ : ∃ o, L[i]? = some o := ⟨L[i], List.getElem?_eq_getElem hin⟩
    have hmo : o ∈ L := List.mem_of_getElem? ho
    obtain ⟨ad, cc, rfl, _, hK, hc0⟩ := Kd.C_get (Kd.R_reads' (Kd.R_keep RL.out HW.out.1 (fun k hk => hk))).2.2 (0 : Int) i (by omega) (by omega)
    have hxo : L.getD (i : Int).toNat 0 = o := by rw [Int.toNat_natCast, List.getD_eq_getElem?_getD, ho]; rfl
    rw [hxo] at hK
    have hK : cc = [.int .i64 o] := hK
    subst hK
    have hcell : wr.cell? (ad.add i) = some (.int .i64 o) := by
      have := hc0 0 _ rfl
      have e1 : (i : Int).toNat * (Kd.int .i64).sz + 0 = i := by rw [Int.toNat_natCast]; exact Nat.mul_one _
      rw [e1] at this
      exact this
    have hfb : wr.heap[w.heap.size + 2]? = some (.cells #[.string a0, .int .i64 num, .int .i64 ty, .string a3, .bool a4, .bool a5, .string a6] 23 (0, 0)) := HW.out.1.blk (blk_below HB2.out B1.out) (by omega) (by simp)
    have n1 := (blk_cell hfb 1).trans rfl
    have hdr : L.drop i = o :: L.drop (i + 1) := by
      obtain ⟨h3, rfl⟩ := List.getElem?_eq_some_iff.1 ho
      exact List.drop_eq_getElem_cons h3
    have HIN := Aside0.mk hin
    obtain ⟨A2, e2, A3, e3, rfl, rfl, hKx⟩ := K_of HM.out
    have g0 := (blk_cell HBX.out 0).trans rfl
    have g1 := (blk_cell HBX.out 1).trans rfl
    replace hk := eq_true hk
    by_cases hon : o = num
    · have hne : (o != num) = false := by simp [hon]
      have hA : aloneD x num L = aloneD x' num (L.drop (i + 1)) := by rw [HA.out, hdr]; show aloneD (if o = num then x' else withT x' o []) num _ = _; rw [if_pos hon]
      have HA2 := Aside0.mk hA
      subst hon
      clear ho hin hK hc0 hxo hA hdr hfb hKx hmo
      go_wp2_with fail
      go_roundg (L.length - (i + 1))
      case measure => have := HK.out; have := HIN.out; omega
      case rel => exact ⟨i + 1, x', _, _, rfl, ⟨by have := HIN.out; omega⟩, HBX, HM, HA2, HL, HW⟩
    · have hne : (o != num) = true := by simp [hon]
      have e1 : (o = num) = False := eq_false hon
      have hA : aloneD x num L = aloneD (withT x' o []) num (L.drop (i + 1)) := by rw [HA.out, hdr]; show aloneD (if o = num then x' else withT x' o []) num _ = _; rw [if_neg hon]
      have HA2 := Aside0.mk hA
      have HWC := Aside0.mk (With_c (vals := []) (num := o) (cv := 0) (AV := none) hKx (Nat.le_refl 0) (nil_C _) (HL.out.ok (by have := HMM.out; omega)) (Lim.ok (m := 1) (Lim.one (HLW.out o hmo) (Nat.zero_le _) (Nat.le_refl _) (by simp)) (by decide)))
      have HL2 := Aside0.mk (HL.out.without o)
      have HWR := Aside0.mk hwr
      clear ho hin hK hc0 hxo hA hdr hfb hKx hmo hwr
      go_wp2_with (first
       | (go_at_call 62; refine HWC.out.mono ?_; rintro e w2 ⟨hown, b2⟩
          obtain ⟨A4, e4, A5, e5, rfl, hM2⟩ := M_ofOwn hown
          have HM2 := Aside0.mk hM2
          have B2 := Aside0.mk b2
          have hbx := blk_below HBX.out b2
          have HBX2 := Aside0.mk hbx
          have z0 := (blk_cell hbx 0).trans rfl
          have z1 := (blk_cell hbx 1).trans rfl
          have fz0 := blk_frozen hbx 0
          have fz1 := blk_frozen hbx 1
          clear hown hM2 b2 hbx))
      go_roundg (L.length - (i + 1))
      case measure => have := HK.out; have := HIN.out; omega
      case rel =>
       have hlt : w.heap.size < wr.heap.size := blk_lt HBX.out
       have hsz := SZ.out
       have hs1 := B1.out.size
       have hwr := HWR.out
       have hM3 := k41.M_mono (ok' := fun k => (ok k ∨ w.heap.size ≤ k) ∧ k ≠ w.heap.size ∧ k ≠ w.heap.size + 3) (fun k hk => ⟨.inr (by have := hk.2.1; omega), by have := hk.2.1; omega⟩) (k41.M_bound HM2.out)
       have hb : base ≤ wr.heap.size := by have := HBS.out; omega
       exact ⟨i + 1, _, _, _, rfl, ⟨by have := HIN.out; omega⟩, ⟨blk_put (blk_put HBX2.out 0 _ rfl) 1 _ rfl⟩, ⟨k41.M_lower hb (Kd.M_far (Kd.M_far hM3 (fun k hk => hk.2.1) _) (fun k hk => hk.2.1) _)⟩, HA2, HL2, ⟨((Kept.trans HW.out (Kept.of_below B2.out)).set_ 0 _).set_ 1 _⟩⟩
  · have c1 : decide ((i : Int) < (L.length : Int)) = false := decide_eq_false hk
    have c2 : decide (i < L.length) = false := decide_eq_false (by omega)
    obtain rfl : i = L.length := by have := HK.out; omega
    have hA : aloneD x num L = x' := by rw [HA.out, List.drop_length]; rfl
    have HAA := Aside0.mk hA
    obtain ⟨A2, e2, A3, e3, rfl, rfl, _⟩ := K_of HM.out
    have g0 := (blk_cell HBX.out 0).trans rfl
    have g1 := (blk_cell HBX.out 1).trans rfl
    have hrb : wr.heap[w.heap.size + 3]? = some (.cells #[.slice none 0 0, .slice none 0 0] 41 (0, 0)) := HW.out.1.blk (blk_below HB3.out B1.out) (by omega) (by simp)
    have z0 := (blk_cell hrb 0).trans rfl
    have z1 := (blk_cell hrb 1).trans rfl
    have fz0 := blk_frozen hrb 0
    have fz1 := blk_frozen hrb 1
    have HRB := Aside0.mk hrb
    clear hk hA hrb
    go_wp2
    refine bodyPost_ret (results_cell_row rfl _ _ (w.heap.size + 1 + 1 + 1) 41 _ _ _ rfl (blk_put (blk_put HRB.out 0 _ rfl) 1 _ rfl) Tryd.underlying41 rfl (by kernel_rfl)) rfl ?_
    rw [HAA.out]
    have hsz := SZ.out
    have hs1 := B1.out.size
    have hM4 := k41.M_mono (ok' := fun k => ok k ∨ w.heap.size ≤ k) (fun _ hk => hk.1) (Kd.M_far (Kd.M_far HM.out (p := ⟨w.heap.size + 1 + 1 + 1, 0, none⟩) (fun k hk => hk.2.2) (.slice A2 x'.f0.length e2)) (p := ⟨w.heap.size + 1 + 1 + 1, 1, none⟩) (fun k hk => hk.2.2) (.slice A3 x'.f1.length e3))
    have hb4 : Below w.heap.size w wr := by
      have q := BZ.out.trans (B1.out.mono BZ.out.size)
      refine ⟨HW.out.2.1.trans q.os, HW.out.2.2.1.trans q.tape, HW.out.2.2.2.trans q.output, Nat.le_trans q.size hwr, fun k hk => ?_⟩
      exact (HW.out.1.2 k (by omega) (by omega) (by simp)).trans (q.block k hk)
    exact ⟨_, _, rfl, hM4, (hb4.setCell (by show w.heap.size ≤ w.heap.size + 1 + 1 + 1; omega) _).setCell (by show w.heap.size ≤ w.heap.size + 1 + 1 + 1; omega) _⟩
end Go.Proofs.YthgddlibfboehaaDoor.Dc
end
section
namespace Go.Proofs.YthgddlibfboehaaDoor.Un
open Go.RowKit Go.Proofs.YthgddlibfboehaaDoorW.PrintWords Go.Proofs.YthgddlibfboehaaDoorW.PrintLast Go.Proofs.YthgddlibfboehaaDoorW.PrintMore Go.Proofs.YthgddlibfboehaaDoor.Var Go.Proofs.YthgddlibfboehaaDoor.Cur Go.Proofs.YthgddlibfboehaaDoor.PU
set_option linter.unusedVariables false
set_option linter.unusedSimpArgs false
set_option maxHeartbeats 1000000
set_option maxRecDepth 100000
theorem bytes_len (s : ByteArray) : (bytesOf s).length = s.size := by
 unfold bytesOf
 rw [List.length_map, Array.length_toList]
 rfl
theorem bytes_byte (s : ByteArray) : ∀ x ∈ bytesOf s, 0 ≤ x ∧ x ≤ 255 := by
 intro x hx
 unfold bytesOf at hx
 obtain ⟨u, _, rfl⟩ := List.mem_map.1 hx
 have := u.toNat_lt
 omega
theorem bytes_below (w : World) (e : TypeId) (s : ByteArray) : Below w.heap.size w (Lib.bytesWorld w e s) := by
 refine ⟨rfl, rfl, rfl, ?_, fun k hk => Lib.bytesWorld_at_old w e s k hk⟩
 rw [Lib.bytesWorld_size]
 omega
theorem bytes_C (w : World) (e : TypeId) (s : ByteArray) (hs : s.size ≤ 140737488351232) : Kd.C (Kd.int .u8) (Lib.bytesWorld w e s) (some ⟨w.heap.size, 0, none⟩) (bytesOf s).length (bytesOf s) := by
 refine Kd.C_of_reads (enc := Value.int .u8) (d := 0) ⟨rfl, by rw [bytes_len]; omega, fun _ => ⟨⟨w.heap.size, 0, none⟩, rfl, fun i hi => ?_⟩⟩
 rw [bytes_len] at hi
 have h := Lib.bytesWorld_cell w e s i hi
 have ha : (⟨w.heap.size, 0, none⟩ : Addr).add i = ⟨w.heap.size, i, none⟩ := by
  simp [Addr.add]
  omega
 rw [ha, h]
 congr 1
 unfold bytesOf
 rw [List.getD_eq_getElem?_getD, List.getD_eq_getElem?_getD, List.getElem?_map]
 have hl : i < s.data.toList.length := by rw [Array.length_toList]; exact hi
 rw [List.getElem?_eq_getElem hl]
 rfl
/-- What Unpack tells. -/
def unp (ty : Int) (b : List Int) : List Int × Bool := if isNum ty = true ∧ 0 < (numsD ty b (leftN 0 [(b.length : Int)]) 0 [(b.length : Int)]).2.2.length then ((numsD ty b (leftN 0 [(b.length : Int)]) 0 [(b.length : Int)]).1, true) else ([], false)
theorem inv_one0 (b : List Int) : Inv b.length 0 [(b.length : Int)] := ⟨Int.le_refl 0, fun x hx => by rw [List.mem_singleton.1 hx]; omega, List.pairwise_singleton _ _, fun h => by simp at h⟩
theorem conv_run (w : World) (s : ByteArray) : (convert 9 45 (.string s)).run Tryd.prog w = .ok (.slice (some ⟨w.heap.size, 0, none⟩) s.size (grownCap w s.size 0 5)) (Lib.bytesWorld w 5 s) := Lib.run_convert_string_bytes w _ _ _ s Tryd.underlying9 Tryd.underlying45 Tryd.underlying5
theorem CAP (w : World) {s : ByteArray} : s.size ≤ grownCap w s.size 0 5 := by
 exact grownCap_ge w s.size 0 _
set_option maxHeartbeats 3000000 in
theorem Unpack_c {w : World} {a0 a3 a6 s : ByteArray} {a1 ty : Int} {a4 a5 : Bool} (hs : s.size ≤ 300) :
  Calls Tryd.prog 5 #[.agg #[.string a0, .int .i64 a1, .int .i64 ty, .string a3, .bool a4, .bool a5, .string a6], .string s] w fun e w' => ∃ A c, e = .returned (.tuple #[.slice A (unp ty (bytesOf s)).1.length c, .bool (unp ty (bytesOf s)).2]) ∧ (unp ty (bytesOf s)).1.length ≤ c ∧ Kd.C (Kd.int .u64) w' A (unp ty (bytesOf s)).1.length (unp ty (bytesOf s)).1 ∧ Below w.heap.size w w' := by
 obtain ⟨wz, hwz⟩ : ∃ wz, wz = w.alloc (.cells #[.string a0, .int .i64 a1, .int .i64 ty, .string a3, .bool a4, .bool a5, .string a6] 23) := ⟨_, rfl⟩
 have bz : Below w.heap.size w wz := by rw [hwz]; exact below_alloc (Below.refl _ _) _
 have zb : wz.heap[w.heap.size]? = some (.cells #[.string a0, .int .i64 a1, .int .i64 ty, .string a3, .bool a4, .bool a5, .string a6] 23 (0, 0)) := by rw [hwz]; exact blk_new _ _
 have c0 : wz.cell? ⟨w.heap.size, 2, none⟩ = some (.int .i64 ty) := (blk_cell zb 2).trans rfl
 have HN := Aside0.mk (fun W => scalar_Number.calls ty (isNum ty) W (number_eq ty))
 have HWZ := Aside0.mk hwz
 clear hwz
 cases hty : isNum ty with
 | false =>
  rw [hty] at HN
  go_enter Tryd.func5, Tryd.ntmps5
  go_upto_region 1 with fail
  rw [← HWZ.out]
  go_wp2_with (first
    | (go_at_call 11; refine (HN.out _).mono ?_; rintro e w1 ⟨rfl, b1⟩; have B1 := Aside0.mk b1; clear b1))
  go_ret2
  have hu : unp ty (bytesOf s) = ([], false) := by unfold unp; rw [if_neg (fun h => by rw [hty] at h; exact absurd h.1 (by simp))]
  rw [hu]
  exact ⟨none, 0, rfl, Nat.le_refl _, Kd.C_nil _ _, bz.trans (B1.out.mono bz.size)⟩
 | true =>
  rw [hty] at HN
  by_cases hok : 0 < (numsD ty (bytesOf s) (leftN 0 [((bytesOf s).length : Int)]) 0 [((bytesOf s).length : Int)]).2.2.length
  · skip
    go_enter Tryd.func5, Tryd.ntmps5
    go_upto_region 1 with fail
    rw [← HWZ.out]
    go_wp2_with (first
     | (go_at_call 11; refine (HN.out _).mono ?_; rintro e w1 ⟨rfl, b1⟩; have B1 := Aside0.mk b1; have c1 := (blk_cell (blk_below zb b1) 2).trans rfl; clear b1)
     | rw [conv_run]
     | (go_at_call 12
        rw [← bytes_len s]
        refine (From_c (bytes_C w1 5 s (by omega)) (by rw [bytes_len]; exact CAP w1) (fun ad ha _ => by cases ha; show w1.heap.size < _; rw [Lib.bytesWorld_size]; omega)).mono ?_
        rintro e w3 ⟨rfl, h3, b3⟩
        have b2 := bytes_below w1 5 s
        have B2 := Aside0.mk (B1.out.trans (b2.mono B1.out.size))
        have B3 := Aside0.mk (B2.out.trans (b3.mono B2.out.size))
        have H3 := Aside0.mk h3
        have S3 := Aside0.mk b3.size
        have c3 := (blk_cell (blk_below zb B3.out) 2).trans rfl
        clear h3 b3 b2 c1)
     | (go_at_call 13
        refine (numbers_c H3.out (inv_one0 _) S3.out (bytes_byte s) (by rw [bytes_len]; omega) ty).mono ?_
        rintro e w4 ⟨vo, v', rfl, j4⟩
        have J4 := Aside0.mk j4
        clear j4)
     | (go_at_call 14
        refine (ok_c J4.out.cur).mono ?_
        rw [decide_eq_true hok]
        rintro e w5 ⟨rfl, hd5⟩
        have J5 := Aside0.mk (J4.out.drawn hd5)
        clear hd5))
    go_ret2
    have hu : unp ty (bytesOf s) = ((numsD ty (bytesOf s) (leftN 0 [((bytesOf s).length : Int)]) 0 [((bytesOf s).length : Int)]).1, true) := by unfold unp; rw [if_pos ⟨hty, hok⟩]
    rw [hu]
    have ho := J5.out.out
    obtain ⟨A, c, rfl⟩ := Kd.R_slice ho
    have hr := Kd.R_reads' ho
    refine ⟨A, c, rfl, hr.2.1, hr.2.2, bz.trans ((B3.out.trans (J5.out.bel.mono ?_)).mono bz.size)⟩
    have := B2.out.size
    exact this
  · skip
    go_enter Tryd.func5, Tryd.ntmps5
    go_upto_region 1 with fail
    rw [← HWZ.out]
    go_wp2_with (first
     | (go_at_call 11; refine (HN.out _).mono ?_; rintro e w1 ⟨rfl, b1⟩; have B1 := Aside0.mk b1; have c1 := (blk_cell (blk_below zb b1) 2).trans rfl; clear b1)
     | rw [conv_run]
     | (go_at_call 12
        rw [← bytes_len s]
        refine (From_c (bytes_C w1 5 s (by omega)) (by rw [bytes_len]; exact CAP w1) (fun ad ha _ => by cases ha; show w1.heap.size < _; rw [Lib.bytesWorld_size]; omega)).mono ?_
        rintro e w3 ⟨rfl, h3, b3⟩
        have b2 := bytes_below w1 5 s
        have B2 := Aside0.mk (B1.out.trans (b2.mono B1.out.size))
        have B3 := Aside0.mk (B2.out.trans (b3.mono B2.out.size))
        have H3 := Aside0.mk h3
        have S3 := Aside0.mk b3.size
        have c3 := (blk_cell (blk_below zb B3.out) 2).trans rfl
        clear h3 b3 b2 c1)
     | (go_at_call 13
        refine (numbers_c H3.out (inv_one0 _) S3.out (bytes_byte s) (by rw [bytes_len]; omega) ty).mono ?_
        rintro e w4 ⟨vo, v', rfl, j4⟩
        have J4 := Aside0.mk j4
        clear j4)
     | (go_at_call 14
        refine (ok_c J4.out.cur).mono ?_
        rw [decide_eq_false hok]
        rintro e w5 ⟨rfl, hd5⟩
        have J5 := Aside0.mk (J4.out.drawn hd5)
        clear hd5))
    go_ret2
    have hu : unp ty (bytesOf s) = ([], false) := by unfold unp; rw [if_neg (fun h => hok h.2)]
    rw [hu]
    refine ⟨none, 0, rfl, Nat.le_refl _, Kd.C_nil _ _, bz.trans ((B3.out.trans (J5.out.bel.mono ?_)).mono bz.size)⟩
    have := B2.out.size
    exact this
end Go.Proofs.YthgddlibfboehaaDoor.Un
end
section
namespace Go.Proofs.YthgddlibfboehaaDoor.Un
open Go.RowKit Go.Proofs.YthgddlibfboehaaDoorW.PrintWords Go.Proofs.YthgddlibfboehaaDoorW.PrintLast Go.Proofs.YthgddlibfboehaaDoorW.PrintMore Go.Proofs.YthgddlibfboehaaDoor.Var Go.Proofs.YthgddlibfboehaaDoor.Cur Go.Proofs.YthgddlibfboehaaDoor.PU
set_option linter.unusedVariables false
set_option linter.unusedSimpArgs false
set_option maxHeartbeats 1000000
set_option maxRecDepth 100000
theorem M_typed_ne {W : World} {B g k t : Nat} {A : Option Addr} {c : Nat} {b : List Int} {p : Int} {v : Value} {ends : List Int} {cells : Array Value} (h : IsM W B g A c b p v ends) (hb : W.heap[k]? = some (.cells cells t (0, 0))) (h1 : t ≠ 65) (h2 : t ≠ 3) : k ≠ g ∧ v.ownBlock ≠ some k := by
 refine ⟨fun e => ?_, fun e => ?_⟩
 · subst e; rw [h.blk] at hb; cases hb; exact h1 rfl
 · exact typed_ne h.row hb h2 e rfl
theorem isM_move {W W' : World} {B g : Nat} {A : Option Addr} {c : Nat} {b : List Int} {p : Int} {v : Value} {ends : List Int} (h : IsM W B g A c b p v ends) (h1 : W'.heap[g]? = W.heap[g]?) (h2 : ∀ k, v.ownBlock = some k → W'.heap[k]? = W.heap[k]?) (h3 : ∀ k, k < B → W'.heap[k]? = W.heap[k]?) : IsM W' B g A c b p v ends := by
 refine ⟨h1.trans h.blk, ?_, C_move h.rd (fun ad ha hn => h3 _ (h.ap ad ha hn)), h.lc, h.ge, h.ap⟩
 obtain ⟨h0, inner, ho, hr⟩ := h.row
 exact ⟨h0, inner, own_move ho h2, hr.imp_ (fun _ _ hp => hp)⟩
/-- On the way: a cursor, and a row of numbers that is new. -/
structure MJ (w0 W : World) (B g : Nat) (A : Option Addr) (c : Nat) (b : List Int) (acc : List Int) (p : Int) (v0 v vo : Value) (ends : List Int) : Prop where
 cur : IsM W B g A c b p v ends
 out : Kd.R (Kd.int .u64) 48 W B (fun _ => True) vo acc
 new : ∀ k, vo.ownBlock = some k → w0.heap.size ≤ k
 fr : Fr w0 W g v0 v
 bel : Below B w0 W
 sz : B ≤ W.heap.size
section
variable {w0 W W' W3 : World} {B g : Nat} {A : Option Addr} {c : Nat} {b acc acc' : List Int} {p p' : Int} {v0 v vo vo' : Value} {ends ends' : List Int}
theorem MJ.moved (h : MJ w0 W B g A c b acc p v0 v vo ends) (hm : MovedM W B g A c b v p' ends' W') : ∃ v', MJ w0 W' B g A c b acc p' v0 v' vo ends' := by
 obtain ⟨v', h', f⟩ := hm
 refine ⟨v', h', Ru_move h.out (fun k hk => ?_), h.new, h.fr.trans f, h.bel.trans (f.below h.sz h.cur.ge (fun k hk => (own_bounds h.cur.row hk).1)), Nat.le_trans h.sz f.1.1⟩
 obtain ⟨_, _, cs, hcs⟩ := Ru_typed h.out hk
 have n3 := M_typed_ne h.cur hcs (by decide) (by decide)
 rw [hcs]
 exact fr_blk f hcs n3.1 n3.2
theorem MJ.drawn (h : MJ w0 W B g A c b acc p v0 v vo ends) (hd : Drawn0 W W') : MJ w0 W' B g A c b acc p v0 v vo ends := by
 obtain ⟨n, rfl⟩ := hd
 exact ⟨h.cur.drewN n, Ru_move h.out (fun _ _ => rfl), h.new, h.fr.drew n, pw_below_drewN h.bel n, h.sz⟩
theorem MJ.appended (h : MJ w0 W B g A c b acc p v0 v vo ends) (ho : Kd.R (Kd.int .u64) 48 W3 B (fun _ => True) vo' acc') (hb : Below B w0 W3) (hg : W.grownBy W3 vo.ownBlock) (hat : vo'.ownBlock = vo.ownBlock ∨ ∃ k, vo'.ownBlock = some k ∧ W.heap.size ≤ k) : MJ w0 W3 B g A c b acc' p v0 v vo' ends := by
 have hW : w0.heap.size ≤ W.heap.size := h.fr.1.1
 have ne : ∀ {k t : Nat} {cells : Array Value}, W.heap[k]? = some (.cells cells t (0, 0)) → t ≠ 48 → some k ≠ vo.ownBlock := by
   intro k t cells hk ht e
   obtain ⟨_, _, cs, hcs⟩ := Ru_typed h.out e.symm
   rw [hcs] at hk
   cases hk
   exact ht rfl
 refine ⟨isM_move h.cur (hg.block g (blk_lt h.cur.blk) (ne h.cur.blk (by decide))) (fun k hk => ?_) (fun k hk => hg.block k (Nat.lt_of_lt_of_le hk h.sz) (fun e => ?_)), ho, fun k hk => ?_, ⟨⟨Nat.le_trans h.fr.1.1 hg.size, fun i h1 h2 h3 => ?_⟩, ⟨hb.os, hb.tape, hb.output⟩, h.fr.2.2⟩, hb, Nat.le_trans h.sz hg.size⟩
 · obtain ⟨_, inner, hoo, _⟩ := h.cur.row
   obtain ⟨cs, hcs⟩ := own_typed hoo k hk
   exact hg.block k (own_lt hoo k hk) (ne hcs (by decide))
 · have := (Ru_typed h.out e.symm).1
   omega
 · rcases hat with e | ⟨j, e, hj⟩
   · rw [e] at hk; exact h.new k hk
   · rw [e] at hk; injection hk with hk; omega
 · refine (hg.block i (by omega) (fun e => ?_)).trans (h.fr.1.2 i h1 h2 h3)
   have := h.new i e.symm
   omega
end
end Go.Proofs.YthgddlibfboehaaDoor.Un
end
section
namespace Go.Proofs.YthgddlibfboehaaDoor.Un
open Go.RowKit Go.Proofs.YthgddlibfboehaaDoorW.PrintWords Go.Proofs.YthgddlibfboehaaDoorW.PrintLast Go.Proofs.YthgddlibfboehaaDoorW.PrintMore Go.Proofs.YthgddlibfboehaaDoor.Var Go.Proofs.YthgddlibfboehaaDoor.Cur Go.Proofs.YthgddlibfboehaaDoor.PU
set_option linter.unusedVariables false
set_option linter.unusedSimpArgs false
set_option maxHeartbeats 1000000
set_option maxRecDepth 100000
theorem nx_fail {p s : Int} {ends : List Int} (h : s = 0) : nx p ends s = (0, []) := by unfold nx; rw [if_pos h]
theorem nx_go {p s : Int} {ends : List Int} (h : ¬ s = 0) : nx p ends s = (p + s, ends) := by unfold nx; rw [if_neg h]
/-- A failure ends it. -/
theorem numsD_failed (ty : Int) (b : List Int) (k : Nat) : numsD ty b k 0 [] = ([], 0, []) := by
 cases k with
 | zero => rfl
 | succ k => rw [numsD, if_neg (by unfold moreB; simp)]
/-- What a read of a number does, whatever the wire type. -/
theorem wireM_c {w : World} {B g : Nat} {A : Option Addr} {c : Nat} {b : List Int} {p : Int} {v : Value} {ends : List Int} (h : IsM w B g A c b p v ends) (hi : Inv b.length p ends) (hB : B ≤ w.heap.size) (hb : ∀ x ∈ b, 0 ≤ x ∧ x ≤ 255) (hbl : b.length ≤ 140737488359000) (k : Int) :
   (k = 1 → Calls Tryd.prog 19 #[.pointer (some ⟨g, 0, none⟩), .int .i64 8] w fun e w' => e = .returned (.int .u64 (wD k b p ends).1) ∧ MovedM w B g A c b v (nx p ends (wD k b p ends).2).1 (nx p ends (wD k b p ends).2).2 w') ∧
   (k = 5 → Calls Tryd.prog 19 #[.pointer (some ⟨g, 0, none⟩), .int .i64 4] w fun e w' => e = .returned (.int .u64 (wD k b p ends).1) ∧ MovedM w B g A c b v (nx p ends (wD k b p ends).2).1 (nx p ends (wD k b p ends).2).2 w') ∧
   (k ≠ 1 → k ≠ 5 → Calls Tryd.prog 20 #[.pointer (some ⟨g, 0, none⟩)] w fun e w' => e = .returned (.int .u64 (wD k b p ends).1) ∧ MovedM w B g A c b v (nx p ends (wD k b p ends).2).1 (nx p ends (wD k b p ends).2).2 w') := by
 refine ⟨fun e => ?_, fun e => ?_, fun e1 e5 => ?_⟩
 · subst e
   exact Fixed_m h hi hB hb hbl 8 (.inr rfl)
 · subst e
   exact Fixed_m h hi hB hb hbl 4 (.inl rfl)
 · unfold wD
   rw [if_neg e5, if_neg e1]
   exact Varint_m h hi hB hb hbl
end Go.Proofs.YthgddlibfboehaaDoor.Un
end
section
namespace Go.Proofs.YthgddlibfboehaaDoor.Dc
open Go.RowKit Go.Proofs.YthgddlibfboehaaDoorW.PrintWords Go.Proofs.YthgddlibfboehaaDoorW.PrintLast Go.Proofs.YthgddlibfboehaaDoorW.PrintMore Go.Proofs.YthgddlibfboehaaDoor.Var Go.Proofs.YthgddlibfboehaaDoor.Cur Go.Proofs.YthgddlibfboehaaDoor.PU Go.Proofs.YthgddlibfboehaaDoor.Un Go.Proofs.YthgddlibfboehaaDoor.KD Go.Proofs.YthgddlibfboehaaDoor.Ops Go.Proofs.YthgddlibfboehaaDoor.TK Go.Proofs.YthgddlibfboehaaDoor.Ev
set_option linter.unusedVariables false
set_option linter.unusedSimpArgs false
def wL (k : Int) (l : List Int) : Int × Int := if k = 5 then fixD 4 l else if k = 1 then fixD 8 l else dec l 0 0
def tagL (l : List Int) : Option ((Int × Int) × List Int) :=
 if (dec l 0 0).2 = 0 then none else if (spl (dec l 0 0).1).2.2 = true then some (((spl (dec l 0 0).1).1, (spl (dec l 0 0).1).2.1), l.drop (dec l 0 0).2.toNat) else none
def textL (l : List Int) : Option (List Int × List Int) :=
 if (dec l 0 0).2 = 0 then none else if (dec l 0 0).1 > (l.length : Int) - (dec l 0 0).2 then none else some ((l.drop (dec l 0 0).2.toNat).take (dec l 0 0).1.toNat, (l.drop (dec l 0 0).2.toNat).drop (dec l 0 0).1.toNat)
def numL (k : Int) (l : List Int) : Option (Int × List Int) := if (wL k l).2 = 0 then none else some ((wL k l).1, l.drop (wL k l).2.toNat)
def rawL (n wire : Int) (l : List Int) : Option (TR × List Int) :=
 if wire = 0 ∨ wire = 1 ∨ wire = 5 then (match numL wire l with | none => none | some (u, l2) => some (⟨n, wire, u, ⟨#[]⟩⟩, l2))
 else match textL l with | none => none | some (t, l2) => some (⟨n, wire, 0, strOfNums t⟩, l2)
/-- The numbers that bytes are, if they are some. -/
def numsL (ty : Int) : Nat → List Int → Option (List Int)
 | 0, l => if l = [] then some [] else none
 | k + 1, l => if l = [] then some [] else match numL (wireD ty) l with
  | none => none
  | some (u, l2) => match numsL ty k l2 with
   | none => none
   | some ns => some (frm ty u :: ns)
section
variable {b : List Int} {p : Int} {ends : List Int}
theorem wD_L (k : Int) : wD k b p ends = wL k (seg b p ends) := rfl
theorem vD_L : vD b p ends = dec (seg b p ends) 0 0 := rfl
theorem seg_step (hi : Inv b.length p ends) {s : Int} (h0 : 0 ≤ s) : seg b (p + s) ends = (seg b p ends).drop s.toNat := by
 unfold seg
 rw [List.drop_drop]
 congr 1
 have := hi.1
 omega
theorem dec_b {l : List Int} (hb : ∀ x ∈ l, 0 ≤ x ∧ x ≤ 255) : 0 ≤ (dec l 0 0).1 ∧ (dec l 0 0).1 ≤ 18446744073709551615 ∧ 0 ≤ (dec l 0 0).2 ∧ (dec l 0 0).2 ≤ l.length := by
 have := dec_facts l hb
 exact ⟨this.1, this.2.1, this.2.2.1, this.2.2.2.1⟩
theorem fix_b {k : Nat} (hk : k = 4 ∨ k = 8) {l : List Int} (hb : ∀ x ∈ l, 0 ≤ x ∧ x ≤ 255) : 0 ≤ (fixD k l).1 ∧ (fixD k l).1 ≤ 18446744073709551615 ∧ 0 ≤ (fixD k l).2 ∧ (fixD k l).2 ≤ l.length := by
 unfold fixD
 by_cases h : l.length < k
 · rw [if_pos h]; simp
 · rw [if_neg h]
   rcases hk with rfl | rfl
   · have := val4_ok l hb h
     rw [if_pos rfl]
     simp only
     omega
   · have := val8_ok l hb h
     rw [if_neg (by decide)]
     simp only
     omega
theorem wL_b (k : Int) {l : List Int} (hb : ∀ x ∈ l, 0 ≤ x ∧ x ≤ 255) : 0 ≤ (wL k l).1 ∧ (wL k l).1 ≤ 18446744073709551615 ∧ 0 ≤ (wL k l).2 ∧ (wL k l).2 ≤ l.length := by
 unfold wL
 split
 · exact fix_b (.inl rfl) hb
 · split
   · exact fix_b (.inr rfl) hb
   · exact dec_b hb
theorem segl (hi : Inv b.length p ends) : ((seg b p ends).length : Int) = last ends - p := by
 have h1 := inv_last hi
 have h2 := seg_len hi
 omega
/-- A read behind which the place lies s further on. -/
theorem nx_L (hi : Inv b.length p ends) {s : Int} (h0 : 0 ≤ s) (hs : s ≤ (seg b p ends).length) (hn : ¬ s = 0) : nx p ends s = (p + s, ends) ∧ Inv b.length (p + s) ends ∧ seg b (p + s) ends = (seg b p ends).drop s.toNat := by
 have h1 := segl hi
 have h2 := nx_inv hi h0 (by omega)
 have h3 := nx_go (p := p) (ends := ends) hn
 rw [h3] at h2
 exact ⟨h3, h2, seg_step hi h0⟩
theorem num_L (hi : Inv b.length p ends) (hb : ∀ x ∈ b, 0 ≤ x ∧ x ≤ 255) (k : Int) : match numL k (seg b p ends) with
   | none => nx p ends (wD k b p ends).2 = (0, [])
   | some (u, l2) => u = (wD k b p ends).1 ∧ ∃ p', nx p ends (wD k b p ends).2 = (p', ends) ∧ Inv b.length p' ends ∧ seg b p' ends = l2 ∧ l2.length < (seg b p ends).length := by
 rw [wD_L]
 have hw := wL_b k (seg_bytes (p := p) (ends := ends) hb)
 unfold numL
 by_cases h : (wL k (seg b p ends)).2 = 0
 · rw [if_pos h]; exact nx_fail h
 · rw [if_neg h]
   have := nx_L hi hw.2.2.1 hw.2.2.2 h
   refine ⟨rfl, _, this.1, this.2.1, this.2.2, ?_⟩
   rw [List.length_drop]
   omega
theorem tag_L (hi : Inv b.length p ends) (hb : ∀ x ∈ b, 0 ≤ x ∧ x ≤ 255) : match tagL (seg b p ends) with
   | none => tg b p ends = ((0, 0), 0, [])
   | some (t, l2) => ∃ p', tg b p ends = (t, p', ends) ∧ Inv b.length p' ends ∧ seg b p' ends = l2 ∧ l2.length < (seg b p ends).length := by
 have hw := dec_b (seg_bytes (p := p) (ends := ends) hb)
 unfold tagL tg
 rw [vD_L]
 by_cases h : (dec (seg b p ends) 0 0).2 = 0
 · rw [if_pos h, if_pos h]
 · rw [if_neg h, if_neg h]
   by_cases h2 : (spl (dec (seg b p ends) 0 0).1).2.2 = true
   · rw [if_pos h2, if_pos h2]
     have := nx_L hi hw.2.2.1 hw.2.2.2 h
     refine ⟨_, rfl, this.2.1, this.2.2, ?_⟩
     rw [List.length_drop]
     omega
   · rw [if_neg h2, if_neg h2]
/-- A length, and what stands behind it. -/
theorem lg_L (hi : Inv b.length p ends) (hb : ∀ x ∈ b, 0 ≤ x ∧ x ≤ 255) : match textL (seg b p ends) with
   | none => lg b p ends = (-1, 0, [])
   | some (t, l2) => ∃ p', lg b p ends = ((t.length : Int), p', ends) ∧ Inv b.length p' ends ∧ seg b p' ends = t ++ l2 ∧ (t ++ l2).length < (seg b p ends).length := by
 have hw := dec_b (seg_bytes (p := p) (ends := ends) hb)
 have hl := segl hi
 unfold textL lg
 rw [vD_L]
 by_cases h : (dec (seg b p ends) 0 0).2 = 0
 · rw [if_pos h, if_pos h]
 · rw [if_neg h, if_neg h]
   by_cases h2 : (dec (seg b p ends) 0 0).1 > ((seg b p ends).length : Int) - (dec (seg b p ends) 0 0).2
   · rw [if_pos h2, if_pos (by omega)]
   · rw [if_neg h2, if_neg (by omega)]
     have := nx_L hi hw.2.2.1 hw.2.2.2 h
     refine ⟨p + (dec (seg b p ends) 0 0).2, ?_, this.2.1, ?_, ?_⟩
     · rw [List.length_take, List.length_drop]
       congr 1
       omega
     · rw [this.2.2, List.take_append_drop]
     · rw [List.take_append_drop, List.length_drop]
       omega
theorem cut_seg {t l2 : List Int} (h2 : Inv b.length p ends) (h3 : seg b p ends = t ++ l2) : (b.take (p + (t.length : Int)).toNat).drop p.toNat = t := by
 have h0 := inv_last h2
 have e3 := h3
 unfold seg at e3
 have hL : (p + (t.length : Int)).toNat = p.toNat + t.length := by omega
 have hs := segl h2
 rw [h3, List.length_append] at hs
 have hlt : p.toNat + t.length ≤ (last ends).toNat := by omega
 rw [hL, ← List.take_drop]
 have e4 : (b.take (last ends).toNat).drop p.toNat = ((b.drop p.toNat).take ((last ends).toNat - p.toNat)) := by rw [List.drop_take]
 rw [e4] at e3
 have e5 : ((b.drop p.toNat).take ((last ends).toNat - p.toNat)).take t.length = t := by rw [e3, List.take_left]
 rw [List.take_take] at e5
 rw [show min t.length ((last ends).toNat - p.toNat) = t.length by omega] at e5
 exact e5
theorem text_L (hi : Inv b.length p ends) (hb : ∀ x ∈ b, 0 ≤ x ∧ x ≤ 255) : match textL (seg b p ends) with
  | none => txt b p ends = ([], 0, [])
  | some (t, l2) => ∃ p', txt b p ends = (t, p', ends) ∧ Inv b.length p' ends ∧ seg b p' ends = l2 ∧ t.length + l2.length < (seg b p ends).length := by
 have h := lg_L hi hb
 have hti := txt_inv hi hb
 unfold txt at hti ⊢
 cases ht : textL (seg b p ends) with
 | none =>
  rw [ht] at h
  simp only at h ⊢
  rw [h]
  rfl
 | some q =>
  obtain ⟨t, l2⟩ := q
  rw [ht] at h
  simp only at h ⊢
  obtain ⟨p', h1, h2, h3, h4⟩ := h
  rw [h1] at hti ⊢
  rw [if_neg (by first | omega | (simp only; omega))] at hti ⊢
  have h0 := inv_last h2
  have hs := segl h2
  rw [h3, List.length_append] at hs
  have hcut : (b.take (p' + (t.length : Int)).toNat).drop p'.toNat = t := cut_seg h2 h3
  refine ⟨p' + t.length, by simp only; rw [hcut], ?_⟩
  have h5 : seg b (p' + t.length) ends = l2 := by
    rw [seg_step h2 (by omega), h3, Int.toNat_natCast, List.drop_left]
  refine ⟨⟨by first | omega | (simp only; omega), fun x hx => ?_, hi.2.2.1, fun h6 => ?_⟩, h5, by rw [← List.length_append]; exact h4⟩
  · have h6 := last_le hi.2.2.1 x hx
    have h7 := hi.2.1 x hx
    first | omega | (simp only; omega)
  · have := last_nil h6; omega
theorem op_L (hi : Inv b.length p ends) (hb : ∀ x ∈ b, 0 ≤ x ∧ x ≤ 255) : match textL (seg b p ends) with
  | none => op b p ends = (false, 0, [])
  | some (t, l2) => ∃ p' q, op b p ends = (true, p', ends ++ [q]) ∧ Inv b.length p' (ends ++ [q]) ∧ seg b p' (ends ++ [q]) = t ∧ Inv b.length q ends ∧ seg b q ends = l2 ∧ t.length + l2.length < (seg b p ends).length ∧ 0 < ends.length := by
 have h := lg_L hi hb
 have hoi := op_inv hi hb
 have h9 := text_L hi hb
 unfold op at hoi ⊢
 cases ht : textL (seg b p ends) with
 | none =>
  rw [ht] at h
  simp only at h ⊢
  rw [h]
  rfl
 | some q =>
  obtain ⟨t, l2⟩ := q
  rw [ht] at h h9
  simp only at h h9 ⊢
  obtain ⟨p', h1, h2, h3, h4⟩ := h
  rw [h1] at hoi ⊢
  rw [if_neg (by first | omega | (simp only; omega))] at hoi ⊢
  obtain ⟨pq, e9, i9, s9, l9⟩ := h9
  have hpq : pq = p' + t.length := by
    unfold txt at e9
    rw [h1, if_neg (by first | omega | (simp only; omega))] at e9
    simp only [Prod.mk.injEq] at e9
    exact e9.2.1.symm
  subst hpq
  have h0 := inv_last h2
  refine ⟨p', p' + t.length, rfl, hoi, ?_, i9, s9, l9, ?_⟩
  · unfold seg
    rw [last_snoc]
    exact cut_seg h2 h3
  · rcases Nat.eq_zero_or_pos ends.length with h6 | h6
    · have h7 := last_nil h6
      have h8 := inv_last hi
      have hs := segl hi
      rw [List.length_append] at h4
      omega
    · exact h6
/-- A frame that has been read up to its end is left. -/
theorem cl_L {q : Int} (h : 0 < ends.length) : cl q (ends ++ [q]) = (true, q, ends) := by
 unfold cl
 rw [if_neg (fun hh => hh.elim (fun h1 => by rw [List.length_append, List.length_singleton] at h1; omega) (fun h1 => h1 (last_snoc _ _).symm)), List.dropLast_concat]
theorem end_L (hi : Inv b.length p ends) (h : seg b p ends = []) : p = last ends := by
 have := segl hi
 rw [h] at this
 simp at this
 omega
theorem more_L (hi : Inv b.length p ends) (h : 0 < ends.length) : moreB p ends = !decide (seg b p ends = []) := by
 have hs := segl hi
 unfold moreB
 rw [decide_eq_true h, Bool.true_and]
 by_cases e : seg b p ends = []
 · have := end_L hi e
   rw [decide_eq_false (by omega), decide_eq_true e]; rfl
 · have : 0 < (seg b p ends).length := List.length_pos_iff.2 e
   rw [decide_eq_true (by omega), decide_eq_false e]; rfl
/-- The numbers, read up to the frame's end. -/
theorem nums_L (ty : Int) (hb : ∀ x ∈ b, 0 ≤ x ∧ x ≤ 255) : ∀ (k : Nat) (p : Int) (ends : List Int), Inv b.length p ends → 0 < ends.length → (seg b p ends).length ≤ k → match numsL ty k (seg b p ends) with
  | none => (numsD ty b k p ends).2 = (0, [])
  | some ns => numsD ty b k p ends = (ns, last ends, ends) ∧ ns.length ≤ (seg b p ends).length
 | 0, p, ends, hi, h, hl => by
  have e : seg b p ends = [] := List.length_eq_zero_iff.1 (by omega)
  have := end_L hi e
  unfold numsL numsD
  rw [if_pos e]
  exact ⟨by rw [this], Nat.zero_le _⟩
 | k + 1, p, ends, hi, h, hl => by
  unfold numsL numsD
  rw [more_L hi h]
  by_cases e : seg b p ends = []
  · have := end_L hi e
    rw [if_pos e, decide_eq_true e, if_neg (by decide)]
    exact ⟨by rw [this], Nat.zero_le _⟩
  · rw [if_neg e, decide_eq_false e, show (!false) = true from rfl, if_pos (rfl : true = true)]
    have hn := num_L hi hb (wireD ty)
    cases hq : numL (wireD ty) (seg b p ends) with
    | none =>
     rw [hq] at hn
     simp only at hn ⊢
     rw [hn, numsD_failed]
    | some q =>
     obtain ⟨u, l2⟩ := q
     rw [hq] at hn
     simp only at hn ⊢
     obtain ⟨rfl, p', e1, e2, e3, e4⟩ := hn
     have ih := nums_L ty hb k p' ends e2 h (by rw [e3]; omega)
     rw [e3] at ih
     rw [e1]
     cases hk : numsL ty k l2 with
     | none => rw [hk] at ih; exact ih
     | some ns =>
      rw [hk] at ih
      simp only at ih ⊢
      rw [ih.1]
      exact ⟨rfl, by rw [List.length_cons]; omega⟩
theorem raw_L (hi : Inv b.length p ends) (hb : ∀ x ∈ b, 0 ≤ x ∧ x ≤ 255) (n wire : Int) : match rawL n wire (seg b p ends) with
   | none => (rawD n wire b p ends).2 = (0, [])
   | some (r, l2) => ∃ p', rawD n wire b p ends = (r, p', ends) ∧ Inv b.length p' ends ∧ seg b p' ends = l2 ∧ l2.length < (seg b p ends).length := by
 unfold rawL
 by_cases hw : wire = 0 ∨ wire = 1 ∨ wire = 5
 · rw [if_pos hw]
   have hn := num_L hi hb wire
   have e : rawD n wire b p ends = (⟨n, wire, (wD wire b p ends).1, ⟨#[]⟩⟩, nx p ends (wD wire b p ends).2) := by
    unfold rawD wD
    rcases hw with rfl | rfl | rfl
    · rfl
    · rfl
    · rfl
   rw [e]
   cases hq : numL wire (seg b p ends) with
   | none => rw [hq] at hn; exact hn
   | some q =>
    obtain ⟨u, l2⟩ := q
    rw [hq] at hn
    simp only at hn ⊢
    obtain ⟨rfl, p', e1, e2, e3, e4⟩ := hn
    exact ⟨p', by rw [e1], e2, e3, e4⟩
 · rw [if_neg hw]
   have e : rawD n wire b p ends = (⟨n, wire, 0, strOfNums (txt b p ends).1⟩, (txt b p ends).2) := by
    unfold rawD
    rw [if_neg (fun h => hw (.inl h)), if_neg (fun h => hw (.inr (.inl h))), if_neg (fun h => hw (.inr (.inr h)))]
   rw [e]
   have ht := text_L hi hb
   cases hq : textL (seg b p ends) with
   | none => rw [hq] at ht; simp only at ht ⊢; rw [ht]
   | some q =>
    obtain ⟨t, l2⟩ := q
    rw [hq] at ht
    simp only at ht ⊢
    obtain ⟨p', e1, e2, e3, e4⟩ := ht
    rw [e1]
    exact ⟨p', rfl, e2, e3, by omega⟩
end
end Go.Proofs.YthgddlibfboehaaDoor.Dc
end
section
namespace Go.Proofs.YthgddlibfboehaaDoor.Dc
open Go.RowKit Go.Proofs.YthgddlibfboehaaDoorW.PrintWords Go.Proofs.YthgddlibfboehaaDoorW.PrintLast Go.Proofs.YthgddlibfboehaaDoorW.PrintMore Go.Proofs.YthgddlibfboehaaDoor.Var Go.Proofs.YthgddlibfboehaaDoor.Cur Go.Proofs.YthgddlibfboehaaDoor.PU Go.Proofs.YthgddlibfboehaaDoor.Un Go.Proofs.YthgddlibfboehaaDoor.KD Go.Proofs.YthgddlibfboehaaDoor.Ops Go.Proofs.YthgddlibfboehaaDoor.TK Go.Proofs.YthgddlibfboehaaDoor.Ev
set_option linter.unusedVariables false
set_option linter.unusedSimpArgs false
/-- Is a zero of such a field nowhere? -/
def hidD (f : SF) : Bool := !f.f4 && (decide (f.f6.toList = []) && (f.f2 != 15))
/-- Is it a zero? -/
def zeroV (v : TV) : Bool := (v.f0 == 0) && decide (v.f1.toList = [])
/-- A field's values, when others come behind them. -/
def layD (f : SF) (had l : List TV) : List TV := if f.f4 = true then had ++ l else match l with
 | [] => []
 | v :: r => if hidD f = true ∧ zeroV v = true then [] else v :: r
/-- What a message is read into. -/
def wasD (f : SF) (had : List TV) : TT := if f.f4 = true then ⟨[], []⟩ else match had with
 | [] => ⟨[], []⟩
 | v :: _ => match v.f2 with
  | [] => ⟨[], []⟩
  | y :: _ => y
/-- The message in a frame. -/
def withinL (sub : ByteArray → TT → List Int → Except Int TT) (f : SF) (was : TT) (deep : Int) (l : List Int) : Except Int (TT × List Int) :=
 match textL l with
 | none => .error 8
 | some (t, l2) => if 16 ≤ deep then .error 3 else match sub f.f3 was t with
  | .error e => .error e
  | .ok y => .ok (y, l2)
/-- A value that is no message. -/
def plainL (f : SF) (l : List Int) : Except Int (List TV × List Int) :=
 if isNum f.f2 = true then match numL (wireD f.f2) l with
  | none => .error 8
  | some (u, l2) => .ok ([numV (frm f.f2 u)], l2)
 else match textL l with
  | none => .error 8
  | some (t, l2) => if f.f2 = 12 ∧ Lib.validD (strOfNums t).data.toList = false then .error 8 else .ok ([⟨0, strOfNums t, []⟩], l2)
/-- Numbers that stand together. -/
def packL (ty : Int) (l : List Int) : Except Int (List TV × List Int) :=
 match textL l with
 | none => .error 8
 | some (t, l2) => match numsL ty t.length t with
  | none => .error 8
  | some ns => .ok (ns.map numV, l2)
/-- A field's values. -/
def valsL (sub : ByteArray → TT → List Int → Except Int TT) (f : SF) (wire deep : Int) (had : List TV) (l : List Int) : Except Int (List TV × List Int) :=
 if f.f4 = true ∧ isNum f.f2 = true ∧ wire = 2 then packL f.f2 l
 else if wire ≠ wireD f.f2 then .error 8
 else if f.f2 ≠ 15 then plainL f l
 else match withinL sub f (wasD f had) deep l with
  | .error e => .error e
  | .ok (y, l2) => .ok ([⟨0, ⟨#[]⟩, [y]⟩], l2)
/-- The index of a number's field. -/
def atF (fs : List SF) (n : Int) : Int := M.ixF (fun y : SF => y.f1 == n) fs 0
def fldF (fs : List SF) (n : Int) : SF := fs.getD (atF fs n).toNat z23
/-- A field that is known. -/
def knownL (sub : ByteArray → TT → List Int → Except Int TT) (fs : List SF) (f : SF) (wire deep : Int) (x : TT) (l : List Int) : Except Int (TT × List Int) :=
 match valsL sub f wire deep (getT (aloneD x f.f1 (mems f.f6 [] fs)) f.f1) l with
 | .error e => .error e
 | .ok (vs, l2) => .ok (withT (aloneD x f.f1 (mems f.f6 [] fs)) f.f1 (layD f (getT (aloneD x f.f1 (mems f.f6 [] fs)) f.f1) vs), l2)
/-- A field. -/
def fieldL (sub : ByteArray → TT → List Int → Except Int TT) (fs : List SF) (deep : Int) (x : TT) (l : List Int) : Except Int (TT × List Int) :=
 match tagL l with
 | none => .error 8
 | some ((n, wire), l1) => if atF fs n < 0 then (match rawL n wire l1 with
   | none => .error 8
   | some (r, l2) => .ok (⟨x.f0, x.f1 ++ [r]⟩, l2))
  else knownL sub fs (fldF fs n) wire deep x l1
/-- Fields, up to the end. -/
def loopL (sub : ByteArray → TT → List Int → Except Int TT) (fs : List SF) (deep : Int) : Nat → TT → List Int → Except Int TT
 | 0, x, l => if l = [] then .ok x else .error 8
 | n + 1, x, l => if l = [] then .ok x else match fieldL sub fs deep x l with
  | .error e => .error e
  | .ok (y, l2) => loopL sub fs deep n y l2
def ixM (ms : List SM) (name : ByteArray) : Int := M.ixF (fun y : SM => y.f0.toList == name.toList) ms 0
def fldsM (ms : List SM) (name : ByteArray) : List SF := (ms.getD (ixM ms name).toNat z33).f1
/-- The message that bytes are, read into a tree, k deeper at most. -/
def treeL (ms : List SM) : Nat → ByteArray → TT → Int → List Int → Except Int TT
 | 0, name, x, deep, l => loopL (fun _ _ _ => .error 3) (fldsM ms name) deep l.length x l
 | k + 1, name, x, deep, l => loopL (fun ref y t => treeL ms k ref y (deep + 1) t) (fldsM ms name) deep l.length x l
def NZ {α : Type} (r : Except Int α) : Prop := ∀ e, r = .error e → e ≠ 0
section
variable {sub : ByteArray → TT → List Int → Except Int TT}
theorem withinL_nz (hs : ∀ r y t, NZ (sub r y t)) (f : SF) (was : TT) (deep : Int) (l : List Int) : NZ (withinL sub f was deep l) := by
 intro e he
 unfold withinL at he
 split at he
 · injection he with he; omega
 · split at he
   · injection he with he; omega
   · split at he
     · rename_i h; injection he with he; exact he ▸ hs _ _ _ _ h
     · cases he
theorem valsL_nz (hs : ∀ r y t, NZ (sub r y t)) (f : SF) (wire deep : Int) (had : List TV) (l : List Int) : NZ (valsL sub f wire deep had l) := by
 intro e he
 unfold valsL at he
 split at he
 · unfold packL at he
   split at he
   · injection he with he; omega
   · split at he
     · injection he with he; omega
     · cases he
 · split at he
   · injection he with he; omega
   · split at he
     · unfold plainL at he
       split at he
       · split at he
         · injection he with he; omega
         · cases he
       · split at he
         · injection he with he; omega
         · split at he
           · injection he with he; omega
           · cases he
     · split at he
       · rename_i h; injection he with he; exact he ▸ withinL_nz hs _ _ _ _ _ h
       · cases he
theorem knownL_nz (hs : ∀ r y t, NZ (sub r y t)) (fs : List SF) (f : SF) (wire deep : Int) (x : TT) (l : List Int) : NZ (knownL sub fs f wire deep x l) := by
 intro e he
 unfold knownL at he
 split at he
 · rename_i h; injection he with he; exact he ▸ valsL_nz hs _ _ _ _ _ _ h
 · cases he
theorem fieldL_nz (hs : ∀ r y t, NZ (sub r y t)) (fs : List SF) (deep : Int) (x : TT) (l : List Int) : NZ (fieldL sub fs deep x l) := by
 intro e he
 unfold fieldL at he
 split at he
 · injection he with he; omega
 · split at he
   · split at he
     · injection he with he; omega
     · cases he
   · exact knownL_nz hs _ _ _ _ _ _ _ he
theorem loopL_nz (hs : ∀ r y t, NZ (sub r y t)) (fs : List SF) (deep : Int) : ∀ (n : Nat) (x : TT) (l : List Int), NZ (loopL sub fs deep n x l)
 | 0, x, l => by
  intro e he
  unfold loopL at he
  split at he
  · cases he
  · injection he with he; omega
 | n + 1, x, l => by
  intro e he
  unfold loopL at he
  split at he
  · cases he
  · split at he
    · rename_i h; injection he with he; exact he ▸ fieldL_nz hs _ _ _ _ _ h
    · exact loopL_nz hs fs deep n _ _ _ he
end
theorem treeL_nz (ms : List SM) : ∀ (k : Nat) (name : ByteArray) (x : TT) (deep : Int) (l : List Int), NZ (treeL ms k name x deep l)
 | 0, name, x, deep, l => loopL_nz (fun _ _ _ e he => by injection he with he; omega) _ _ _ _ _
 | k + 1, name, x, deep, l => loopL_nz (fun r y t => treeL_nz ms k r y (deep + 1) t) _ _ _ _ _
/-- Where the message says that there are messages, there is one in each value. -/
def fitT (ms : List SM) : Nat → List SF → TT → Prop
 | 0, _, _ => False
 | n + 1, fs, x => ∀ y ∈ x.f0, 0 ≤ atF fs y.f0 → (fldF fs y.f0).f2 = 15 → ∀ v ∈ y.f1, ∃ t, v.f2 = [t] ∧ fitT ms n (fldsM ms (fldF fs y.f0).f3) t
def Fit (ms : List SM) (fs : List SF) (x : TT) : Prop := ∃ n, fitT ms n fs x
theorem fitT_mono (ms : List SM) : ∀ (n n' : Nat), n ≤ n' → ∀ fs x, fitT ms n fs x → fitT ms n' fs x
 | 0, _, _, _, _, h => h.elim
 | n + 1, 0, h, _, _, _ => absurd h (by omega)
 | n + 1, n' + 1, h, fs, x, hx => fun y hy h0 h1 v hv => by
  obtain ⟨t, e, ht⟩ := hx y hy h0 h1 v hv
  exact ⟨t, e, fitT_mono ms n n' (by omega) _ t ht⟩
theorem Fit.empty (ms : List SM) (fs : List SF) : Fit ms fs ⟨[], []⟩ := ⟨1, by simp [fitT]⟩
theorem Fit.rest {ms : List SM} {fs : List SF} {x : TT} (h : Fit ms fs x) (r : List TR) : Fit ms fs ⟨x.f0, r⟩ := by
 obtain ⟨n, hn⟩ := h
 cases n with
 | zero => exact hn.elim
 | succ n => exact ⟨n + 1, hn⟩
theorem Fit.without {ms : List SM} {fs : List SF} {x : TT} (h : Fit ms fs x) (num : Int) : Fit ms fs (withT x num []) := by
 obtain ⟨n, hn⟩ := h
 cases n with
 | zero => exact hn.elim
 | succ n =>
  have e : TK.withT x num [] = ⟨outT x.f0 num, x.f1⟩ := by unfold TK.withT; rw [if_pos rfl]
  rw [e]
  exact ⟨n + 1, fun y hy => hn y (List.mem_filter.1 hy).1⟩
theorem Fit.alone {ms : List SM} {fs : List SF} (num : Int) : ∀ (l : List Int) {x : TT}, Fit ms fs x → Fit ms fs (aloneD x num l)
 | [], _, h => h
 | o :: l, x, h => by
  unfold aloneD
  refine Fit.alone num l ?_
  split
  · exact h
  · exact h.without o
/-- A value's message, if the field is one. -/
def FitV (ms : List SM) (f : SF) (v : TV) : Prop := f.f2 = 15 → ∃ t, v.f2 = [t] ∧ Fit ms (fldsM ms f.f3) t
theorem fit_all {P : Nat → TV → Prop} (hp : ∀ n n' v, n ≤ n' → P n v → P n' v) (l : List TV) (h : ∀ v ∈ l, ∃ n, P n v) : ∃ n, ∀ v ∈ l, P n v := lim_all hp l h
theorem Fit.withT {ms : List SM} {fs : List SF} {x : TT} (h : Fit ms fs x) {num : Int} {vals : List TV} (hv : 0 ≤ atF fs num → ∀ v ∈ vals, FitV ms (fldF fs num) v) : Fit ms fs (withT x num vals) := by
 obtain ⟨n, hn⟩ := h
 obtain ⟨k, hk⟩ : ∃ k, 0 ≤ atF fs num → (fldF fs num).f2 = 15 → ∀ v ∈ vals, ∃ t, v.f2 = [t] ∧ fitT ms k (fldsM ms (fldF fs num).f3) t := by
  by_cases h0 : 0 ≤ atF fs num ∧ (fldF fs num).f2 = 15
  · obtain ⟨k, hk⟩ := fit_all (P := fun n v => ∃ t, v.f2 = [t] ∧ fitT ms n (fldsM ms (fldF fs num).f3) t) (fun n n' v hn ⟨t, e, ht⟩ => ⟨t, e, fitT_mono ms n n' hn _ t ht⟩) vals (fun v hvv => by
      obtain ⟨t, e, m, ht⟩ := hv h0.1 v hvv h0.2
      exact ⟨m, t, e, ht⟩)
    exact ⟨k, fun _ _ => hk⟩
  · exact ⟨0, fun a b => absurd ⟨a, b⟩ h0⟩
 cases n with
 | zero => exact hn.elim
 | succ n =>
  have hn' : fitT ms (max n k + 1) fs x := fitT_mono ms (n + 1) _ (by omega) fs x hn
  refine ⟨max n k + 1, fun y hy => ?_⟩
  unfold TK.withT at hy
  have hy : y ∈ (if vals = [] then outT x.f0 num else putT (outT x.f0 num) num vals) := hy
  have ho : ∀ z ∈ outT x.f0 num, z ∈ x.f0 := fun z hz => (List.mem_filter.1 hz).1
  split at hy
  · exact hn' y (ho y hy)
  · unfold putT at hy
    rcases List.mem_append.1 hy with hy | hy
    · exact hn' y (ho y (List.mem_of_mem_take hy))
    · rcases List.mem_cons.1 hy with rfl | hy
      · intro h0 h1 v hvv
        obtain ⟨t, e, ht⟩ := hk h0 h1 v hvv
        exact ⟨t, e, fitT_mono ms k _ (Nat.le_max_right _ _) _ t ht⟩
      · exact hn' y (ho y (List.mem_of_mem_drop hy))
theorem Fit.getT {ms : List SM} {fs : List SF} {x : TT} (h : Fit ms fs x) {num : Int} (h0 : 0 ≤ atF fs num) : ∀ v ∈ getT x num, FitV ms (fldF fs num) v := by
 intro v hv h1
 unfold TK.getT at hv
 split at hv
 · rename_i y hy
   obtain ⟨n, hn⟩ := h
   cases n with
   | zero => exact hn.elim
   | succ n =>
    have hm := List.mem_of_find?_eq_some hy
    have he : y.f0 = num := by simpa using List.find?_some hy
    obtain ⟨t, e, ht⟩ := hn y hm (by rw [he]; exact h0) (by rw [he]; exact h1) v hv
    rw [he] at ht
    exact ⟨t, e, n, ht⟩
 · simp at hv
end Go.Proofs.YthgddlibfboehaaDoor.Dc
end
section
namespace Go.Proofs.YthgddlibfboehaaDoor.Dc
open Go.RowKit Go.Proofs.YthgddlibfboehaaDoorW.PrintWords Go.Proofs.YthgddlibfboehaaDoorW.PrintLast Go.Proofs.YthgddlibfboehaaDoorW.PrintMore Go.Proofs.YthgddlibfboehaaDoor.Var Go.Proofs.YthgddlibfboehaaDoor.Cur Go.Proofs.YthgddlibfboehaaDoor.PU Go.Proofs.YthgddlibfboehaaDoor.Un Go.Proofs.YthgddlibfboehaaDoor.KD Go.Proofs.YthgddlibfboehaaDoor.Ops Go.Proofs.YthgddlibfboehaaDoor.TK Go.Proofs.YthgddlibfboehaaDoor.Ev
set_option linter.unusedVariables false
set_option linter.unusedSimpArgs false
set_option maxHeartbeats 1000000
set_option maxRecDepth 100000
/-- What stands all the while: a schema in which there are the messages that its fields name; bytes; tables. -/
structure Cx (w0 : World) (B : Nat) (AE : Option Addr) (cE : Nat) (es : List SE) (AM : Option Addr) (cM : Nat) (ms : List SM) (b : List Int) : Prop where
 sz : w0.heap.size = B
 hE : k158.C w0 AE es.length es
 hEc : es.length ≤ cE
 hM : k33.C w0 AM ms.length ms
 hMc : ms.length ≤ cM
 nm : ms.length ≤ 1000000000
 fl : ∀ m ∈ ms, m.f1.length ≤ 1000000000
 wf : ∀ m ∈ ms, ∀ f ∈ m.f1, (Lit.int .i64 f.f1).wf = true
 sch : ∀ m ∈ ms, ∀ f ∈ m.f1, f.f2 = 15 → 0 ≤ ixM ms f.f3
 tb : M.Tabs w0
 byt : ∀ x ∈ b, 0 ≤ x ∧ x ≤ 255
 bl : b.length ≤ 1000000000
section
variable {w0 w : World} {B : Nat} {AE : Option Addr} {cE : Nat} {es : List SE} {AM : Option Addr} {cM : Nat} {ms : List SM} {b : List Int}
theorem Cx.bel (h : Cx w0 B AE cE es AM cM ms b) (hb : Below B w0 w) : Below w0.heap.size w0 w := by rw [h.sz]; exact hb
theorem Cx.E (h : Cx w0 B AE cE es AM cM ms b) (hb : Below B w0 w) : k158.C w AE es.length es := Kd.C_below h.hE (h.bel hb)
theorem Cx.M (h : Cx w0 B AE cE es AM cM ms b) (hb : Below B w0 w) : k33.C w AM ms.length ms := Kd.C_below h.hM (h.bel hb)
theorem Cx.T (h : Cx w0 B AE cE es AM cM ms b) (hb : Below B w0 w) : TabsB B w := fun W hW => h.tb.below (h.bel (hb.trans hW))
end
/-- The fault that it ends with. -/
def Bad (e f : Int) (ends : List Int) : Prop := f = e ∧ e ≠ 0 ∨ f = 0 ∧ ends = [] ∧ e = 8
theorem Bad.gs {e f : Int} {ends : List Int} (h : Bad e f ends) : gs ends f = e ∧ e ≠ 0 := by
 rcases h with ⟨rfl, h⟩ | ⟨rfl, rfl, rfl⟩
 · refine ⟨?_, h⟩
   unfold Dc.gs flt
   split
   · first | rfl | exact if_neg h
   · first | rfl | exact if_neg h
 · exact ⟨rfl, by decide⟩
/-- What is told of a field's values, and where it is then. -/
def ResP (R : Except Int (TT × List Int)) (m : Nat) (b : List Int) (p : Int) (ends : List Int) (y : TT) (p' f' : Int) (ends' : List Int) : Prop :=
 match R with
 | .ok (z, l2) => y = z ∧ f' = 0 ∧ ends' = ends ∧ Inv b.length p' ends ∧ seg b p' ends = l2 ∧ l2.length < (seg b p ends).length ∧ Lim (m + ((seg b p ends).length - l2.length)) y
 | .error e => Bad e f' ends' ∧ Lim (m + (seg b p ends).length) y
theorem ResP.ok {R : Except Int (TT × List Int)} {m : Nat} {b : List Int} {p : Int} {ends : List Int} {y : TT} {p' f' : Int} {ends' : List Int} {z : TT} {l2 : List Int} (hR : R = .ok (z, l2)) (h : y = z ∧ f' = 0 ∧ ends' = ends ∧ Inv b.length p' ends ∧ seg b p' ends = l2 ∧ l2.length < (seg b p ends).length ∧ Lim (m + ((seg b p ends).length - l2.length)) y) : ResP R m b p ends y p' f' ends' := by
 rw [hR]; exact h
theorem ResP.bad {R : Except Int (TT × List Int)} {m : Nat} {b : List Int} {p : Int} {ends : List Int} {y : TT} {p' f' : Int} {ends' : List Int} {e : Int} (hR : R = .error e) (h : Bad e f' ends') (hl : Lim (m + (seg b p ends).length) y) : ResP R m b p ends y p' f' ends' := by
 rw [hR]; exact ⟨h, hl⟩
/-- What is told of a message, and where it is then. -/
def TreeP (R : Except Int TT) (ends : List Int) (y : TT) (p' f' : Int) (ends' : List Int) : Prop :=
 match R with
 | .ok z => y = z ∧ p' = last ends ∧ ends' = ends ∧ f' = 0
 | .error e => f' = e
/-- What reading a message does. -/
def TreeC (w0 : World) (B r g : Nat) (AE : Option Addr) (cE : Nat) (es : List SE) (AM : Option Addr) (cM : Nat) (ms : List SM) (A : Option Addr) (c : Nat) (b : List Int) (deep : Int) (T : ByteArray → TT → List Int → Except Int TT) : Prop :=
 ∀ (w : World) (p : Int) (v : Value) (ends : List Int) (base m : Nat) (ok : Nat → Prop) (x : TT) (u0 u1 : Value) (name : ByteArray),
  Below B w0 w → RdI w B r g (.slice AE es.length cE) (.slice AM ms.length cM) A c b p v ends 0 → Inv b.length p ends → 0 < ends.length → (ends.length : Int) ≤ deep + 1 → B ≤ base → base ≤ w.heap.size →
  k41.M w base ok x [u0, u1] → Lim m x → m + (seg b p ends).length ≤ 10000000000 → Fit ms (fldsM ms name) x → 0 ≤ ixM ms name →
  Calls Tryd.prog 23 #[.pointer (some ⟨r, 0, none⟩), .string name, .agg #[u0, u1], .int .i64 deep] w fun e w' => ∃ y0 y1 y v' p' ends' f', e = .returned (.agg #[y0, y1]) ∧ k41.M w' base (fun k => ok k ∨ w.heap.size ≤ k) y [y0, y1] ∧ RdI w' B r g (.slice AE es.length cE) (.slice AM ms.length cM) A c b p' v' ends' f' ∧ KeepsP B (fun k => k < w.heap.size ∧ ¬ ok k) w w' ∧ Lim (m + (seg b p ends).length) y ∧
   TreeP (T name x (seg b p ends)) ends y p' f' ends'
theorem KeepsP.far {B k : Nat} {P : Nat → Prop} {w w' : World} (h : KeepsP B P w w') (h1 : B ≤ k) (h2 : ∀ j, P j → j ≠ k) (o : Nat) (u : Value) : KeepsP B P w (w'.setCell ⟨k, o, none⟩ u) :=
 ⟨h.bel.setCell h1 u, fun i cells q hi hc hq => (Below.heap_setCell _ _ _ _ (h2 i hi)).trans (h.kp i cells q hi hc hq)⟩
/-- A tree is laid into a cell of the call's own. -/
theorem fin2 {B r g : Nat} {sE sM : Value} {A : Option Addr} {c : Nat} {b : List Int} {p : Int} {v : Value} {ends : List Int} {f : Int} {P : Nat → Prop} {w w1 : World} {base q : Nat} {ok : Nat → Prop} {x : TT} {u0 u1 a0 a1 : Value} (hk : KeepsP B P w w1) (hr : RdI w1 B r g sE sM A c b p v ends f) (hq : w1.heap[q]? = some (.cells #[a0, a1] 41 (0, 0))) (hqB : B ≤ q) (hqP : ∀ k, P k → k ≠ q) (hM : k41.M w1 base ok x [u0, u1]) (hok : ∀ k, ok k → k ≠ q) :
  k41.M ((w1.setCell ⟨q, 0, none⟩ u0).setCell ⟨q, 1, none⟩ u1) base ok x [u0, u1] ∧ RdI ((w1.setCell ⟨q, 0, none⟩ u0).setCell ⟨q, 1, none⟩ u1) B r g sE sM A c b p v ends f ∧ KeepsP B P w ((w1.setCell ⟨q, 0, none⟩ u0).setCell ⟨q, 1, none⟩ u1) := by
 have ou : u0.oneCell' = true := k41.K_one (k41.K_of_M hM) u0 (by simp)
 have ou1 : u1.oneCell' = true := k41.K_one (k41.K_of_M hM) u1 (by simp)
 refine ⟨Kd.M_far (Kd.M_far hM (p := ⟨q, 0, none⟩) (fun k h => hok k h) _) (p := ⟨q, 1, none⟩) (fun k h => hok k h) _, ?_, (hk.far hqB hqP 0 _).far hqB hqP 1 _⟩
 have h1 := hr.far hq (by decide) hqB 0 u0
 have h2 := blk_put hq 0 u0 rfl
 exact h1.far h2 (by decide) hqB 1 u1
set_option maxHeartbeats 4000000 in
theorem within_r {w0 : World} {B r g : Nat} {AE : Option Addr} {cE : Nat} {es : List SE} {AM : Option Addr} {cM : Nat} {ms : List SM} {A : Option Addr} {c : Nat} {b : List Int} {deep : Int} {sub : ByteArray → TT → List Int → Except Int TT} (hcx : Cx w0 B AE cE es AM cM ms b) (hd : 1 ≤ deep ∧ deep ≤ 16) (hsub : deep < 16 → TreeC w0 B r g AE cE es AM cM ms A c b (deep + 1) sub) (hnz : ∀ r y t, NZ (sub r y t))
  {w : World} {p : Int} {v : Value} {ends : List Int} {base m : Nat} {ok : Nat → Prop} {x : TT} {u0 u1 : Value} {f : SF} (hb0 : Below B w0 w) (h : RdI w B r g (.slice AE es.length cE) (.slice AM ms.length cM) A c b p v ends 0) (hi : Inv b.length p ends) (hn : 0 < ends.length) (hel : (ends.length : Int) ≤ deep + 1) (hBb : B ≤ base) (hbs : base ≤ w.heap.size)
  (hM : k41.M w base ok x [u0, u1]) (hx : Lim m x) (hm : m + (seg b p ends).length ≤ 10000000000) (hfit : Fit ms (fldsM ms f.f3) x) (hix : 0 ≤ ixM ms f.f3) :
  Calls Tryd.prog 60 #[.pointer (some ⟨r, 0, none⟩), .agg #[.string f.f0, .int .i64 f.f1, .int .i64 f.f2, .string f.f3, .bool f.f4, .bool f.f5, .string f.f6], .agg #[u0, u1], .int .i64 deep] w fun e w' => ∃ y0 y1 y v' p' ends' f', e = .returned (.agg #[y0, y1]) ∧ k41.M w' base (fun k => ok k ∨ w.heap.size ≤ k) y [y0, y1] ∧ RdI w' B r g (.slice AE es.length cE) (.slice AM ms.length cM) A c b p' v' ends' f' ∧ KeepsP B (fun k => k < w.heap.size ∧ ¬ ok k) w w' ∧
    ResP (withinL sub f x deep (seg b p ends)) m b p ends y p' f' ends' := by
 obtain ⟨A0, c0, A1, c1, rfl, rfl, hK⟩ := K_of hM
 obtain ⟨wz, hwz⟩ : ∃ wz, wz = ((w.alloc (.cells #[.string f.f0, .int .i64 f.f1, .int .i64 f.f2, .string f.f3, .bool f.f4, .bool f.f5, .string f.f6] 23)).alloc (.cells #[.slice A0 x.f0.length c0, .slice A1 x.f1.length c1] 41)).alloc (.cells #[.slice none 0 0, .slice none 0 0] 41) := ⟨_, rfl⟩
 have bz : Below w.heap.size w wz := by rw [hwz]; exact below_alloc (below_alloc (below_alloc (Below.refl _ _) _) _) _
 have hsz : wz.heap.size = w.heap.size + 3 := by rw [hwz]; simp only [World.size_alloc]
 have hb0' : wz.heap[w.heap.size]? = some (.cells #[.string f.f0, .int .i64 f.f1, .int .i64 f.f2, .string f.f3, .bool f.f4, .bool f.f5, .string f.f6] 23 (0, 0)) := by rw [hwz]; exact blk_alloc (blk_alloc (blk_new _ _) _) _
 have hb1' : wz.heap[w.heap.size + 1]? = some (.cells #[.slice A0 x.f0.length c0, .slice A1 x.f1.length c1] 41 (0, 0)) := by
  have q := blk_alloc (blk_new (w.alloc (.cells #[.string f.f0, .int .i64 f.f1, .int .i64 f.f2, .string f.f3, .bool f.f4, .bool f.f5, .string f.f6] 23)) (.cells #[.slice A0 x.f0.length c0, .slice A1 x.f1.length c1] 41)) (.cells #[.slice none 0 0, .slice none 0 0] 41)
  rw [World.size_alloc] at q
  rw [hwz]
  exact q
 have hb2' : wz.heap[w.heap.size + 2]? = some (.cells #[.slice none 0 0, .slice none 0 0] 41 (0, 0)) := by
  have q := blk_new ((w.alloc (.cells #[.string f.f0, .int .i64 f.f1, .int .i64 f.f2, .string f.f3, .bool f.f4, .bool f.f5, .string f.f6] 23)).alloc (.cells #[.slice A0 x.f0.length c0, .slice A1 x.f1.length c1] 41)) (.cells #[.slice none 0 0, .slice none 0 0] 41)
  rw [World.size_alloc, World.size_alloc] at q
  rw [hwz]
  exact q
 have HB : Aside0 (B ≤ w.heap.size) := ⟨Nat.le_trans hBb hbs⟩
 have HZ := Aside0.mk (h.below bz)
 have SZ := Aside0.mk (Nat.le_trans HB.out bz.size)
 have HO := Aside0.mk (Open_c (h.below bz).cur hi SZ.out hcx.byt (Nat.le_trans hcx.bl (by decide)) (by omega))
 have KZ := Aside0.mk (Keeps.of_below (b := w.heap.size) bz HB.out (Nat.le_refl _))
 have MZ := Aside0.mk (k41.M_bound hM)
 have hop := op_L hi hcx.byt
 have k2 := HZ.out.c2
 have HB0 := Aside0.mk hb0'
 have HB1 := Aside0.mk hb1'
 have HB2 := Aside0.mk hb2'
 have HSZ := Aside0.mk hsz
 have BZ := Aside0.mk bz
 have HWZ := Aside0.mk hwz
 have HX := Aside0.mk hx
 have HBS := Aside0.mk hbs
 have HBB := Aside0.mk hBb
 obtain ⟨WR, hWR⟩ : ∃ WR, WR = withinL sub f x deep (seg b p ends) := ⟨_, rfl⟩
 rw [← hWR]
 cases ht : textL (seg b p ends) with
 | none =>
  rw [ht] at hop
  rw [hop] at HO
  have he : WR = .error 8 := by rw [hWR]; unfold withinL; rw [ht]
  have HE := Aside0.mk he
  clear hWR he
  clear h hi hn hel hM hx hm hfit hix hsub hnz hcx hb0 hwz bz hsz hb0' hb1' hb2' hop ht hbs hBb hK hd
  go_enter Tryd.func60, Tryd.ntmps60
  go_upto_region 1 with fail
  rw [← HWZ.out]
  go_wp2_with (first
  | (go_at_call 79; refine HO.out.mono ?_; rintro e w1 ⟨rfl, hm1⟩
     obtain ⟨v1, h1, k1⟩ := HZ.out.moved SZ.out hm1
     have H1 := Aside0.mk h1
     have K1 := Aside0.mk (KZ.out.trans k1 BZ.out.size)
     have hq1 := k1.kp _ _ _ (blk_lt HB1.out) HB1.out (by decide)
     have hq2 := k1.kp _ _ _ (blk_lt HB2.out) HB2.out (by decide)
     have hq0 := k1.kp _ _ _ (blk_lt HB0.out) HB0.out (by decide)
     have Q2 := Aside0.mk hq2
     have S1 := Aside0.mk k1.size
     have x0 := (blk_cell hq1 0).trans rfl
     have x1 := (blk_cell hq1 1).trans rfl
     have n3 := (blk_cell hq0 3).trans rfl
     have z0 := (blk_cell hq2 0).trans rfl
     have z1 := (blk_cell hq2 1).trans rfl
     have fz0 := blk_frozen hq2 0
     have fz1 := blk_frozen hq2 1
     clear hm1 h1 k1 hq1 hq2 hq0))
  have hsz := HSZ.out
  have hbs := HBS.out
  have hfin := fin2 (q := w.heap.size + 2) ((K1.out.p (P := fun k => k < w.heap.size ∧ ¬ ok k) (fun k hk => hk.1))) H1.out Q2.out (by have := HB.out; omega) (fun k hk => by omega) (K1.out.M MZ.out tkt) (fun k hk => by have := hk.2.2.1; omega)
  refine bodyPost_ret (results_cell_row rfl _ _ (w.heap.size + 1 + 1) 41 _ _ _ rfl (blk_put (blk_put Q2.out 0 _ rfl) 1 _ rfl) Tryd.underlying41 rfl (by kernel_rfl)) rfl ?_
  exact ⟨_, _, x, v1, 0, [], 0, rfl, k41.M_mono (fun k hk => .inl hk.1) hfin.1, hfin.2.1, hfin.2.2, ResP.bad HE.out (.inr ⟨rfl, rfl, rfl⟩) (HX.out.mono (Nat.le_add_right _ _))⟩
 | some q =>
  obtain ⟨t, l2⟩ := q
  rw [ht] at hop
  obtain ⟨p1, qe, ho, hi1, hs1, hiq, hsq, hlen, _⟩ := hop
  rw [ho] at HO
  have hlt := segl hi1
  by_cases h16 : 16 ≤ deep
  · have d1 : decide (deep ≥ 16) = true := decide_eq_true h16
    have e1 : (16 ≤ deep) = True := eq_true h16
    have he : WR = .error 3 := by rw [hWR]; unfold withinL; rw [ht]; exact if_pos h16
    have HE := Aside0.mk he
    clear h hi hn hel hM hx hm hfit hix hsub hnz hcx hb0 hwz bz hsz hb0' hb1' hb2' ho ht hbs hBb hK hd hi1 hs1 hiq hsq hlen hlt hWR he
    go_enter Tryd.func60, Tryd.ntmps60
    go_upto_region 1 with fail
    rw [← HWZ.out]
    go_wp2_with (first
      | (go_at_call 79; refine HO.out.mono ?_; rintro e w1 ⟨rfl, hm1⟩
         obtain ⟨v1, h1, k1⟩ := HZ.out.moved SZ.out hm1
         have H1 := Aside0.mk h1
         have K1 := Aside0.mk (KZ.out.trans k1 BZ.out.size)
         have hq1 := k1.kp _ _ _ (blk_lt HB1.out) HB1.out (by decide)
         have hq2 := k1.kp _ _ _ (blk_lt HB2.out) HB2.out (by decide)
         have hq0 := k1.kp _ _ _ (blk_lt HB0.out) HB0.out (by decide)
         have Q2 := Aside0.mk hq2
         have S1 := Aside0.mk k1.size
         have P2 := Aside0.mk hq1
         have x0 := (blk_cell hq1 0).trans rfl
         have x1 := (blk_cell hq1 1).trans rfl
         have n3 := (blk_cell hq0 3).trans rfl
         have z0 := (blk_cell hq2 0).trans rfl
         have z1 := (blk_cell hq2 1).trans rfl
         have fz0 := blk_frozen hq2 0
         have fz1 := blk_frozen hq2 1
         clear hm1 h1 k1 hq1 hq2 hq0)
      | (go_at_call 49; refine (fail_r H1.out (Nat.le_trans SZ.out S1.out) 3).mono ?_; rintro e w2 ⟨rfl, h2, k2⟩
         have H2 := Aside0.mk h2
         have K2 := Aside0.mk (K1.out.trans k2 K1.out.size)
         have hq2 := k2.kp _ _ _ (blk_lt Q2.out) Q2.out (by decide)
         have R2 := Aside0.mk hq2
         have x0 := (blk_cell (k2.kp _ _ _ (blk_lt P2.out) P2.out (by decide)) 0).trans rfl
         have x1 := (blk_cell (k2.kp _ _ _ (blk_lt P2.out) P2.out (by decide)) 1).trans rfl
         have z0 := (blk_cell hq2 0).trans rfl
         have z1 := (blk_cell hq2 1).trans rfl
         have fz0 := blk_frozen hq2 0
         have fz1 := blk_frozen hq2 1
         clear h2 k2 hq2))
    have hsz := HSZ.out
    have hbs := HBS.out
    have hfin := fin2 (q := w.heap.size + 2) ((K2.out.p (P := fun k => k < w.heap.size ∧ ¬ ok k) (fun k hk => hk.1))) H2.out R2.out (by have := HB.out; omega) (fun k hk => by omega) (K2.out.M MZ.out tkt) (fun k hk => by have := hk.2.2.1; omega)
    refine bodyPost_ret (results_cell_row rfl _ _ (w.heap.size + 1 + 1) 41 _ _ _ rfl (blk_put (blk_put R2.out 0 _ rfl) 1 _ rfl) Tryd.underlying41 rfl (by kernel_rfl)) rfl ?_
    exact ⟨_, _, x, v1, p1, _, 3, rfl, k41.M_mono (fun k hk => .inl hk.1) hfin.1, hfin.2.1, hfin.2.2, ResP.bad HE.out (.inl ⟨rfl, by decide⟩) (HX.out.mono (Nat.le_add_right _ _))⟩
  · have d1 : decide (deep ≥ 16) = false := decide_eq_false h16
    have e1 : (16 ≤ deep) = False := eq_false h16
    have hw : IntKind.i64.wrap (deep + 1) = deep + 1 := by rw [IntKind.wrap_i64]; omega
    have he1 : ∀ e, sub f.f3 x t = .error e → WR = .error e := fun e hs => by rw [hWR]; unfold withinL; rw [ht]; simp only [if_neg h16, hs]
    have he2 : ∀ z, sub f.f3 x t = .ok z → WR = .ok (z, l2) := fun z hs => by rw [hWR]; unfold withinL; rw [ht]; simp only [if_neg h16, hs]
    have HE1 := Aside0.mk he1
    have HE2 := Aside0.mk he2
    have HTC := Aside0.mk (fun (w1 : World) (v1 : Value) (h1 : RdI w1 B r g (.slice AE es.length cE) (.slice AM ms.length cM) A c b p1 v1 (ends ++ [qe]) 0) (k1 : Keeps B w.heap.size w w1) (s1 : wz.heap.size ≤ w1.heap.size) => hsub (by omega) w1 p1 v1 (ends ++ [qe]) base m (fun k => ok k ∧ k < w.heap.size) x _ _ f.f3 (hb0.trans k1.bel) h1 hi1 (by simp) (by rw [List.length_append, List.length_singleton]; omega) hBb (by have := k1.size; omega) (k41.M_mono (fun k hk => ⟨hk.1, hk.2.2.1⟩) (k1.M MZ.out tkt)) hx (by rw [hs1]; omega) hfit hix)
    rw [hs1] at HTC
    have HN := Aside0.mk hn
    have HLEN := Aside0.mk hlen
    have HIQ := Aside0.mk hiq
    have HSQ := Aside0.mk hsq
    have HNZ := Aside0.mk (hnz f.f3 x t)
    clear h hi hn hel hM hx hm hfit hix hsub hnz hcx hb0 hwz bz hsz hb0' hb1' hb2' ho ht hbs hBb hK hd hi1 hs1 hiq hsq hlen hlt hWR he1 he2
    go_enter Tryd.func60, Tryd.ntmps60
    go_upto_region 1 with fail
    rw [← HWZ.out]
    go_wp2_with (first
      | (go_at_call 79; refine HO.out.mono ?_; rintro e w1 ⟨rfl, hm1⟩
         obtain ⟨v1, h1, k1⟩ := HZ.out.moved SZ.out hm1
         have H1 := Aside0.mk h1
         have K1 := Aside0.mk (KZ.out.trans k1 BZ.out.size)
         have hq1 := k1.kp _ _ _ (blk_lt HB1.out) HB1.out (by decide)
         have hq2 := k1.kp _ _ _ (blk_lt HB2.out) HB2.out (by decide)
         have hq0 := k1.kp _ _ _ (blk_lt HB0.out) HB0.out (by decide)
         have Q2 := Aside0.mk hq2
         have S1 := Aside0.mk k1.size
         have x0 := (blk_cell hq1 0).trans rfl
         have x1 := (blk_cell hq1 1).trans rfl
         have n3 := (blk_cell hq0 3).trans rfl
         have z0 := (blk_cell hq2 0).trans rfl
         have z1 := (blk_cell hq2 1).trans rfl
         have fz0 := blk_frozen hq2 0
         have fz1 := blk_frozen hq2 1
         clear hm1 h1 k1 hq1 hq2 hq0)
      | (go_at_call 23; refine (HTC.out w1 v1 H1.out K1.out S1.out).mono ?_; rintro e w2 ⟨y0, y1, y, v2, p2, e2, f2, rfl, m2, h2, k2, l2', t2⟩
         obtain ⟨E0, i0, E1, i1, rfl, rfl, _⟩ := K_of m2
         have H2 := Aside0.mk h2
         have M2 := Aside0.mk m2
         have L2 := Aside0.mk l2'
         have T2 := Aside0.mk t2
         have K2 := Aside0.mk ((K1.out.p (P := fun k => k < w.heap.size ∧ ¬ ok k) (fun k hk => hk.1)).trans k2 (fun k hk => ⟨Nat.lt_of_lt_of_le hk.1 K1.out.size, fun h => hk.2 h.1⟩))
         have hq2 := k2.kp _ _ _ ⟨blk_lt Q2.out, fun h => by have := h.2; omega⟩ Q2.out (by decide)
         have R2 := Aside0.mk hq2
         have S2 := Aside0.mk k2.size
         have HA := Aside0.mk (h2.below (below_alloc (Below.refl _ _) (.cells #[.slice E0 y.f0.length i0, .slice E1 y.f1.length i1] 41)))
         have ka := HA.out.c2
         clear m2 h2 k2 l2' t2 hq2)
      | (go_at_call 80; refine (Close_c HA.out.cur).mono ?_; rintro e w4 ⟨rfl, hm4⟩
         obtain ⟨v4, h4, k4⟩ := HA.out.moved (by have := HB.out; have := K2.out.size; rw [World.size_alloc]; omega) hm4
         have H4 := Aside0.mk h4
         have K4 := Aside0.mk k4
         have hb4 := k4.kp _ _ _ (blk_lt (blk_new w2 _)) (blk_new w2 _) (by decide)
         have hq4 := k4.kp _ _ _ (blk_lt (blk_alloc R2.out _)) (blk_alloc R2.out _) (by decide)
         have Q4 := Aside0.mk hq4
         have x0 := (blk_cell hb4 0).trans rfl
         have x1 := (blk_cell hb4 1).trans rfl
         have z0 := (blk_cell hq4 0).trans rfl
         have z1 := (blk_cell hq4 1).trans rfl
         have fz0 := blk_frozen hq4 0
         have fz1 := blk_frozen hq4 1
         clear hm4 h4 k4 hb4 hq4))
    have hsz := HSZ.out
    have hbs := HBS.out
    have hs1 := S1.out
    have hs2 := S2.out
    have hB := HB.out
    have hk24 : KeepsP B (fun k => k < w.heap.size ∧ ¬ ok k) w w4 := (K2.out.trans ((Keeps.of_below (b := w2.heap.size) (below_alloc (Below.refl _ _) _) (by omega) (Nat.le_refl _)).p (P := fun k => k < w.heap.size) (fun k hk => by omega)) (fun k hk => hk.1)).trans (K4.out.p (P := fun k => k < w.heap.size) (fun k hk => by rw [World.size_alloc]; omega)) (fun k hk => hk.1)
    have hm4 := K4.out.M (Kd.M_below M2.out (below_alloc (Below.refl _ _) _)) tkt
    have hfin := fin2 (q := w.heap.size + 2) hk24 H4.out Q4.out (by omega) (fun k hk => by omega) (k41.M_mono (ok' := fun k => (ok k ∨ w.heap.size ≤ k) ∧ k ≠ w.heap.size + 2) (fun k hk => ?_) hm4) (fun k hk => hk.2)
    · refine bodyPost_ret (results_cell_row rfl _ _ (w.heap.size + 1 + 1) 41 _ _ _ rfl (blk_put (blk_put Q4.out 0 _ rfl) 1 _ rfl) Tryd.underlying41 rfl (by kernel_rfl)) rfl ?_
      refine ⟨_, _, y, v4, _, _, f2, rfl, k41.M_mono (fun k hk => hk.1) hfin.1, hfin.2.1, hfin.2.2, ?_⟩
      cases hs : sub f.f3 x t with
      | error e =>
        have hT := T2.out
        rw [hs] at hT
        have hT : f2 = e := hT
        refine ResP.bad (HE1.out e hs) (.inl ⟨hT, ?_⟩) (L2.out.mono (by have := HLEN.out; omega))
        exact HNZ.out e hs
      | ok z =>
        have hT := T2.out
        rw [hs] at hT
        obtain ⟨rfl, rfl, rfl, rfl⟩ : y = z ∧ p2 = last (ends ++ [qe]) ∧ e2 = ends ++ [qe] ∧ f2 = 0 := hT
        rw [last_snoc, cl_L HN.out]
        exact ResP.ok (HE2.out y hs) ⟨rfl, rfl, rfl, HIQ.out, HSQ.out, by have := HLEN.out; omega, L2.out.mono (by have := HLEN.out; omega)⟩
    · rcases hk with hk | hk
      · exact ⟨.inl hk.1, by omega⟩
      · exact ⟨.inr (by omega), by omega⟩
end Go.Proofs.YthgddlibfboehaaDoor.Dc
end
section
namespace Go.Proofs.YthgddlibfboehaaDoor.Dc
open Go.RowKit Go.Proofs.YthgddlibfboehaaDoorW.PrintWords Go.Proofs.YthgddlibfboehaaDoorW.PrintLast Go.Proofs.YthgddlibfboehaaDoorW.PrintMore Go.Proofs.YthgddlibfboehaaDoor.Var Go.Proofs.YthgddlibfboehaaDoor.Cur Go.Proofs.YthgddlibfboehaaDoor.PU Go.Proofs.YthgddlibfboehaaDoor.Un Go.Proofs.YthgddlibfboehaaDoor.KD Go.Proofs.YthgddlibfboehaaDoor.Ops Go.Proofs.YthgddlibfboehaaDoor.TK Go.Proofs.YthgddlibfboehaaDoor.Ev
set_option linter.unusedVariables false
set_option linter.unusedSimpArgs false
theorem wf64 {n : Int} (h0 : 0 ≤ n) (h1 : n ≤ 18446744073709551615) : (Lit.int .u64 n).wf = true := by
 show (decide (IntKind.u64.min ≤ n) && decide (n ≤ IntKind.u64.max)) = true
 have e0 : IntKind.u64.min = 0 := by decide
 have e1 : IntKind.u64.max = 18446744073709551615 := by decide
 rw [e0, e1, decide_eq_true h0, decide_eq_true h1]
 rfl
theorem frm_b (ty u : Int) (h0 : 0 ≤ u) (h1 : u ≤ 18446744073709551615) : 0 ≤ frm ty u ∧ frm ty u ≤ 18446744073709551615 := by
 have hw : ∀ n : Int, 0 ≤ IntKind.u64.wrap n ∧ IntKind.u64.wrap n ≤ 18446744073709551615 := fun n => by rw [IntKind.wrap_u64]; omega
 unfold frm
 split
 · exact hw _
 · split
   · omega
   · split
     · exact hw _
     · split
       · exact hw _
       · split
         · split <;> omega
         · split
           · exact ⟨h0, h1⟩
           · omega
theorem LimV.num {m : Nat} {n : Int} (h : (Lit.int .u64 n).wf = true) : LimV m (numV n) := ⟨h, Nat.zero_le _, Nat.zero_le _, fun y hy => by simp [numV] at hy⟩
theorem LimV.str {m : Nat} {s : ByteArray} (h : s.size ≤ 1000000000) : LimV m ⟨0, s, []⟩ := ⟨(show (Lit.int .u64 0).wf = true by decide), h, Nat.zero_le _, fun y hy => by simp at hy⟩
theorem LimV.tree {m : Nat} {y : TT} (h : Lim m y) : LimV m ⟨0, ⟨#[]⟩, [y]⟩ := ⟨(show (Lit.int .u64 0).wf = true by decide), Nat.zero_le _, Nat.le_refl _, fun z hz => by rw [List.mem_singleton.1 hz]; exact h⟩
theorem numsD_wf (ty : Int) {b : List Int} (hb : ∀ x ∈ b, 0 ≤ x ∧ x ≤ 255) : ∀ (k : Nat) (p : Int) (ends : List Int), ∀ n ∈ (numsD ty b k p ends).1, (Lit.int .u64 n).wf = true
 | 0, p, ends => by intro n hn; simp [numsD] at hn
 | k + 1, p, ends => by
  intro n hn
  unfold numsD at hn
  split at hn
  · rcases List.mem_cons.1 hn with rfl | hn
    · have := wL_b (wireD ty) (seg_bytes (p := p) (ends := ends) hb)
      have := frm_b ty (wD (wireD ty) b p ends).1 this.1 this.2.1
      exact wf64 this.1 this.2
    · exact numsD_wf ty hb k _ _ n hn
  · simp at hn
/-- What is told of values, and where it is then. -/
def ValsP (R : Except Int (List TV × List Int)) (m : Nat) (b : List Int) (p : Int) (ends : List Int) (vs : List TV) (p' f' : Int) (ends' : List Int) : Prop :=
 match R with
 | .ok (z, l2) => vs = z ∧ f' = 0 ∧ ends' = ends ∧ Inv b.length p' ends ∧ seg b p' ends = l2 ∧ l2.length < (seg b p ends).length ∧ vs.length ≤ (seg b p ends).length - l2.length ∧ ∀ v ∈ vs, LimV (m + ((seg b p ends).length - l2.length)) v
 | .error e => Bad e f' ends' ∧ vs.length ≤ (seg b p ends).length + 1 ∧ ∀ v ∈ vs, LimV (m + (seg b p ends).length) v
section
variable {m : Nat} {b : List Int} {p : Int} {ends : List Int} {vs : List TV} {p' f' : Int} {ends' : List Int}
theorem ValsP.ok {R : Except Int (List TV × List Int)} {z : List TV} {l2 : List Int} (hR : R = .ok (z, l2)) (h : vs = z ∧ f' = 0 ∧ ends' = ends ∧ Inv b.length p' ends ∧ seg b p' ends = l2 ∧ l2.length < (seg b p ends).length ∧ vs.length ≤ (seg b p ends).length - l2.length ∧ ∀ v ∈ vs, LimV (m + ((seg b p ends).length - l2.length)) v) : ValsP R m b p ends vs p' f' ends' := by
 rw [hR]; exact h
theorem ValsP.bad {R : Except Int (List TV × List Int)} {e : Int} (hR : R = .error e) (h : Bad e f' ends') (hl : vs.length ≤ (seg b p ends).length + 1) (hv : ∀ v ∈ vs, LimV (m + (seg b p ends).length) v) : ValsP R m b p ends vs p' f' ends' := by
 rw [hR]; exact ⟨h, hl, hv⟩
theorem packD_P (hi : Inv b.length p ends) (hb : ∀ x ∈ b, 0 ≤ x ∧ x ≤ 255) (ty : Int) : ValsP (packL ty (seg b p ends)) m b p ends (packD ty b p ends).1 (packD ty b p ends).2.1 0 (packD ty b p ends).2.2 := by
 have ho := op_L hi hb
 cases ht : textL (seg b p ends) with
 | none =>
  rw [ht] at ho
  have e : packD ty b p ends = ([], 0, []) := by unfold packD; rw [ho]; rfl
  rw [e]
  exact ValsP.bad (e := 8) (by unfold packL; rw [ht]) (.inr ⟨rfl, rfl, rfl⟩) (Nat.zero_le _) (by simp)
 | some q =>
  obtain ⟨t, l2⟩ := q
  rw [ht] at ho
  obtain ⟨p1, qe, ho, hi1, hs1, hiq, hsq, hlen, hn⟩ := ho
  have hl := segl hi1
  have hk : leftN p1 (ends ++ [qe]) = t.length := by unfold leftN; rw [hs1] at hl; omega
  have hN : packN ty b p ends = numsD ty b t.length p1 (ends ++ [qe]) := by unfold packN; rw [ho]; show numsD ty b (leftN p1 (ends ++ [qe])) p1 (ends ++ [qe]) = _; rw [hk]
  have e : packD ty b p ends = ((packN ty b p ends).1.map numV, (cl (packN ty b p ends).2.1 (packN ty b p ends).2.2).2) := by unfold packD; rw [if_neg (by rw [ho]; exact fun h => by cases h)]
  rw [e, hN]
  have hwf := numsD_wf ty hb t.length p1 (ends ++ [qe])
  have hln := numsD_len ty b t.length p1 (ends ++ [qe])
  have h9 := nums_L ty hb t.length p1 (ends ++ [qe]) hi1 (by simp) (by rw [hs1]; exact Nat.le_refl _)
  rw [hs1] at h9
  have hlv : ∀ (k : Nat), ∀ v ∈ (numsD ty b t.length p1 (ends ++ [qe])).1.map numV, LimV k v := fun k v hv => by
   obtain ⟨n, hn, rfl⟩ := List.mem_map.1 hv
   exact LimV.num (hwf n hn)
  cases hns : numsL ty t.length t with
  | none =>
   rw [hns] at h9
   have h9 : (numsD ty b t.length p1 (ends ++ [qe])).2 = (0, []) := h9
   refine ValsP.bad (e := 8) (by unfold packL; rw [ht]; simp only; rw [hns]) (.inr ⟨rfl, ?_, rfl⟩) (by rw [List.length_map]; omega) (hlv _)
   rw [h9]; rfl
  | some ns =>
   rw [hns] at h9
   obtain ⟨h9, h10⟩ := h9
   rw [h9, last_snoc] at hlv ⊢
   simp only at hlv ⊢
   rw [cl_L hn]
   exact ValsP.ok (by unfold packL; rw [ht]; simp only; rw [hns]) ⟨rfl, rfl, rfl, hiq, hsq, by omega, by rw [List.length_map]; omega, hlv _⟩
theorem plainD_P (hi : Inv b.length p ends) (hb : ∀ x ∈ b, 0 ≤ x ∧ x ≤ 255) (hbl : b.length ≤ 1000000000) (f : SF) : ValsP (plainL f (seg b p ends)) m b p ends (plainD f.f2 b p ends 0).1 (plainD f.f2 b p ends 0).2.1 (plainD f.f2 b p ends 0).2.2.2 (plainD f.f2 b p ends 0).2.2.1 := by
 unfold plainD plainL
 by_cases hn : isNum f.f2 = true
 · rw [if_pos hn, if_pos hn]
   have h := num_L hi hb (wireD f.f2)
   have hw := wL_b (wireD f.f2) (seg_bytes (p := p) (ends := ends) hb)
   have hfr := frm_b f.f2 (wD (wireD f.f2) b p ends).1 hw.1 hw.2.1
   have hlv : ∀ (k : Nat), ∀ v ∈ [numV (frm f.f2 (wD (wireD f.f2) b p ends).1)], LimV k v := fun k v hv => by
    rw [List.mem_singleton.1 hv]
    exact LimV.num (wf64 hfr.1 hfr.2)
   cases hq : numL (wireD f.f2) (seg b p ends) with
   | none =>
    rw [hq] at h
    have h : nx p ends (wD (wireD f.f2) b p ends).2 = (0, []) := h
    refine ValsP.bad (e := 8) rfl (.inr ⟨rfl, ?_, rfl⟩) (by simp) (hlv _)
    rw [h]
   | some q =>
    obtain ⟨u, l2⟩ := q
    rw [hq] at h
    obtain ⟨rfl, p1, h1, h2, h3, h4⟩ := h
    refine ValsP.ok rfl ⟨rfl, rfl, by rw [h1], by rw [h1]; exact h2, by rw [h1]; exact h3, h4, by simp only [List.length_singleton]; omega, hlv _⟩
 · rw [if_neg hn, if_neg hn]
   have h := text_L hi hb
   have hsz : (strOfNums (txt b p ends).1).size ≤ 1000000000 := by rw [strOfNums_size]; have := txt_len b p ends; omega
   have hlv : ∀ (k : Nat), ∀ v ∈ [(⟨0, strOfNums (txt b p ends).1, []⟩ : TV)], LimV k v := fun k v hv => by
    rw [List.mem_singleton.1 hv]
    exact LimV.str hsz
   cases hq : textL (seg b p ends) with
   | none =>
    rw [hq] at h
    have h : txt b p ends = ([], 0, []) := h
    refine ValsP.bad (e := 8) rfl ?_ (by simp) (hlv _)
    rw [h]
    simp only
    split
    · exact .inl ⟨rfl, by decide⟩
    · exact .inr ⟨rfl, rfl, rfl⟩
   | some q =>
    obtain ⟨t, l2⟩ := q
    rw [hq] at h
    obtain ⟨p1, h1, h2, h3, h4⟩ := h
    rw [h1] at hlv ⊢
    simp only at hlv ⊢
    by_cases hc : f.f2 = 12 ∧ Lib.validD (strOfNums t).data.toList = false
    · simp only [if_pos hc]
      exact ValsP.bad (e := 8) rfl (.inl ⟨rfl, by decide⟩) (by simp) (hlv _)
    · simp only [if_neg hc]
      exact ValsP.ok rfl ⟨rfl, rfl, rfl, h2, h3, by omega, by simp only [List.length_singleton]; omega, hlv _⟩
theorem skip_P {R : Except Int (List TV × List Int)} (hR : R = .error 8) (p' : Int) (ends' : List Int) : ValsP R m b p ends [] p' (flt 0 8) ends' := ValsP.bad hR (.inl ⟨rfl, by decide⟩) (Nat.zero_le _) (by simp)
theorem within_P {R : Except Int (TT × List Int)} {VR : Except Int (List TV × List Int)} (h1 : ∀ e, R = .error e → VR = .error e) (h2 : ∀ y l2, R = .ok (y, l2) → VR = .ok ([⟨0, ⟨#[]⟩, [y]⟩], l2)) {y : TT} (h : ResP R m b p ends y p' f' ends') : ValsP VR m b p ends [⟨0, ⟨#[]⟩, [y]⟩] p' f' ends' := by
 unfold ResP at h
 match R, h, h1, h2 with
 | .error e, h, h1, h2 => exact ValsP.bad (h1 e rfl) h.1 (by simp) (fun v hv => by rw [List.mem_singleton.1 hv]; exact LimV.tree h.2)
 | .ok (z, l2), h, h1, h2 =>
  obtain ⟨rfl, rfl, rfl, q1, q2, q3, q4⟩ := h
  exact ValsP.ok (h2 y l2 rfl) ⟨rfl, rfl, rfl, q1, q2, q3, by simp only [List.length_singleton]; omega, fun v hv => by rw [List.mem_singleton.1 hv]; exact LimV.tree q4⟩
end
end Go.Proofs.YthgddlibfboehaaDoor.Dc
end
section
namespace Go.Proofs.YthgddlibfboehaaDoor.Dc
open Go.RowKit Go.Proofs.YthgddlibfboehaaDoorW.PrintWords Go.Proofs.YthgddlibfboehaaDoorW.PrintLast Go.Proofs.YthgddlibfboehaaDoorW.PrintMore
set_option linter.unusedVariables false
theorem reps_append {α : Type} {R : α → List Value → Prop} {size : Nat} {ps qs : List α} {cs ds : List Value} (h : Reps R size ps cs) (h2 : Reps R size qs ds) : Reps R size (ps ++ qs) (cs ++ ds) := by
 refine ⟨by rw [List.length_append, h.1, h2.1, List.length_append, Nat.add_mul], fun j q hq => ?_⟩
 rcases Nat.lt_or_ge j ps.length with hj | hj
 · rw [List.getElem?_append_left hj] at hq
   have h1 : j * size + size ≤ cs.length := by rw [h.1, ← Nat.succ_mul]; exact Nat.mul_le_mul_right _ hj
   have h3 := h.2 j q hq
   rw [List.drop_append_of_le_length (by omega), List.take_append_of_le_length (by rw [List.length_drop]; omega)]
   exact h3
 · rw [List.getElem?_append_right hj] at hq
   have h3 := h2.2 _ q hq
   have e : j * size = cs.length + (j - ps.length) * size := by rw [h.1, ← Nat.add_mul, Nat.add_sub_cancel' hj]
   rw [e, List.drop_append, List.drop_eq_nil_of_le (by omega), Nat.add_sub_cancel_left, List.nil_append]
   exact h3
section
variable {P : Program} {ops : Array Oper} {rest : List Oper} {o : Oper} {a : Act} {Q : Exit → Act → World → Prop} {α : Type}
theorem append_rows (d : Kd α) {w0 W : World} (base base' : Nat) (hgd : o.guard = none) (s x : Operand) (t e : TypeId) (z : Value) (bytes : Nat)
   (ho : o.op = .call { callee := .builtin .append, args := #[s, x], argTypes := #[t, t] })
   (ht : P.underlying t = some (.slice e)) (hinfo : (P.info? e).map (fun i => (i.zero, i.size, i.bytes)) = some (some z, d.sz, bytes)) (hz : z.cells.size = d.sz) (hs0 : 0 < d.sz)
   (u v : Value) (xs ys : List α) (ok okv : Nat → Prop) (hs : a.eval s = u) (hx : a.eval x = v)
   (HU : d.R e W base ok u xs) (HV : d.R e W base' okv v ys) (hbb : base ≤ base') (hokv : ∀ k, okv k → k < W.heap.size → base' ≤ k → ok k ∧ some k ≠ u.ownBlock) (hfresh : ∀ k, W.heap.size ≤ k → ok k)
   (HB : Below base w0 W) (hbase : base ≤ W.heap.size) (hm : xs.length + ys.length ≤ maxLen) (hl : (xs.length + ys.length) * bytes ≤ 140737488355328)
   (h : ∀ v1 w1, d.R e w1 base ok v1 (xs ++ ys) → Below base w0 w1 → W.grownBy w1 u.ownBlock → (v1.ownBlock = u.ownBlock ∨ v1.ownBlock = some W.heap.size) → wpList P ops Q rest (a.put o.dst v1) w1) :
   wpList P ops Q (o :: rest) a W := by
 obtain ⟨i0, hi, hzz⟩ := Option.map_eq_some_iff.1 hinfo
 simp only [Prod.mk.injEq] at hzz
 obtain ⟨hz0, hz1, hz2⟩ := hzz
 obtain ⟨h0, inner, hown, hr⟩ := HU
 have HV' := Kd.R_bound HV
 obtain ⟨hv0, inv, hvo, hvr⟩ := HV'
 rcases hvo.2 with ⟨rfl, hz'⟩ | ⟨G, cap, cur, rfl, hb, hh, hn, hcm, hcs, htk⟩
 · obtain rfl := List.length_eq_zero_iff.1 hz'
   refine wpList_plain hgd fun K hK => ?_
   have hrun := run_append_owned_none (P := P) (w := W) base t o.type e i0 d.sz ht hi u xs.length inner hown
   unfold Oper.wp execOp
   simp only [ho, resolve, invoke, builtin, Sem.run_bind, Sem.run_pure, Result.andThen_ok, List.map_toArray, List.map_cons, List.map_nil, hs, hx, hrun]
   refine hK _ _ (h u W ?_ HB ⟨rfl, rfl, rfl, Nat.le_refl _, fun k _ _ => rfl⟩ (.inl rfl))
   rw [List.append_nil]
   exact ⟨h0, inner, hown, hr⟩
 · have hcell : ∀ j w', inv[j]? = some w' → W.cell? ((⟨G, 0, none⟩ : Addr).add j) = some w' := fun j w' hj => by
     have hjl : j < ys.length * d.sz := by rw [← hvo.1]; exact (List.getElem?_eq_some_iff.1 hj).1
     have e1 : (⟨G, 0, none⟩ : Addr).add j = ⟨G, j, none⟩ := by simp [Addr.add]; omega
     rw [e1, hvo.cellAt j hjl]
     exact hj
   have hone : ∀ w' ∈ inv, w'.oneCell' = true := by
     intro w' hw
     obtain ⟨j, hj⟩ := List.getElem?_of_mem hw
     have hjl : j < ys.length * d.sz := by rw [← hvo.1]; exact (List.getElem?_eq_some_iff.1 hj).1
     have hq : j / d.sz < ys.length := Nat.div_lt_of_lt_mul (by rw [Nat.mul_comm]; exact hjl)
     have h5 := hvr.2 (j / d.sz) _ (List.getElem?_eq_getElem hq)
     refine d.K_one (d.K_of_M h5) w' ?_
     refine List.mem_of_getElem? (i := j % d.sz) ?_
     rw [List.getElem?_take, if_pos (Nat.mod_lt _ hs0), List.getElem?_drop]
     rw [show j / d.sz * d.sz + j % d.sz = j by rw [Nat.mul_comm]; exact Nat.div_add_mod j d.sz]
     exact hj
   refine wpList_append_own_at W hgd s x t ho base e i0 z d.sz bytes ht hi hz0 hz1 hz2 hz hs0 u xs.length inner hs hown ⟨G, 0, none⟩ ys.length cap inv hx hvo.1 hcell hone hm hl hbase ?_
   intro v1 w1 hown1 hg _ hat
   refine h v1 w1 ⟨fun k hk => ?_, inner ++ inv, by rw [List.length_append]; exact hown1, ?_⟩ (HB.grown hg hbase (own_base hown)) hg hat
   · rcases hat with hat | hat
     · exact h0 k (hat ▸ hk)
     · rw [hat] at hk
       injection hk with hk
       exact hfresh k (by omega)
   · have hne : ∀ k, some k ≠ u.ownBlock → k < W.heap.size → some k ≠ v1.ownBlock := by
       intro k hk hlt
       rcases hat with hat | hat
       · rw [hat]; exact hk
       · rw [hat]
         intro he
         injection he with he
         omega
     have step : ∀ {q : α} {c : List Value} {o : Nat → Prop}, d.M W base o q c → (∀ k, o k → k < W.heap.size → ok k ∧ some k ≠ u.ownBlock) → d.M w1 base (fun k => ok k ∧ some k ≠ v1.ownBlock) q c := by
       intro q c o hq ho
       have h1 := d.M_move (w1 := w1) (fun k hk => hg.block k hk.2.2.1 (ho k hk.1 hk.2.2.1).2) (d.M_bound hq)
       exact d.M_mono (fun k hk => ⟨(ho k hk.1 hk.2.2.1).1, hne k (ho k hk.1 hk.2.2.1).2 hk.2.2.1⟩) h1
     exact reps_append (hr.imp_ (fun _ _ hq => step hq (fun _ hk _ => hk))) (hvr.imp_ (fun _ _ hq => step (d.M_lower hbb hq) (fun k hk hlt => hokv k hk.1.1 hlt hk.1.2.1)))
end
end Go.Proofs.YthgddlibfboehaaDoor.Dc
end

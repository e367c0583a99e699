/- RawPuts holds: which fields are right, their bytes, and that they are got; which lists are the same; no condition but the row's own -/
import Derived.Test.YtfbmabhdjliohaaRows
import Derived.Test.YtfbmabhdjliohaaMRawY
import Derived.WalkKit
import Derived.ProofKit
import Derived.OpenShut
import Derived.ShutString
import Derived.ChangeOld
import Derived.Below
import Derived.SizedLaws
import Derived.SliceStrings
import Derived.Test.YtfbmabhdjliohaaWSized
namespace Go.Proofs.Ytfbmabhdjliohaa.rawPuts
open Go.ChangeShapes Go.WideShapes Go.ChangeAt Go.RowKit
open Go.ChangeMaps (open_string shut_string)
set_option linter.unusedVariables false
theorem own : ownKnob Try.prog.godebug = none := by kernel_rfl
theorem laidOut : laidOutB Try.prog = true := by kernel_rfl
def IsRow (k : IntKind) (w : World) (a : Option Addr) (len cap : Nat) (zs : List Int) : Prop :=
  (a = none ∧ len = 0 ∧ cap = 0 ∧ zs = []) ∨
  ∃ x, a = some x ∧ len ≤ cap ∧ cap ≤ maxLen ∧ zs.length = cap ∧ (∀ i, i < zs.length → w.cell? (x.add i) = some (.int k (zs.getD i 0))) ∧ ∀ n ∈ zs, (Lit.int k n).wf = true
theorem row_of {W : World} {a : Option Addr} {len cap : Nat} {z : List Int} (h : IsRow .u8 W a len cap z) : ∃ l : List Int, len = l.length ∧ Go.Proofs.YtfbmabhdjliohaaW.PrintWords.Kd.C (Go.Proofs.YtfbmabhdjliohaaW.PrintWords.Kd.int .u8) W a l.length l ∧ l.length ≤ cap ∧ ∀ x ∈ l, 0 ≤ x ∧ x ≤ 255 := by
  obtain ⟨l, e, hr, _, hw, hc⟩ := Go.Proofs.YtfbmabhdjliohaaW.PrintWords.ReadsInt.ofRowC h
  exact ⟨l, e, Go.Proofs.YtfbmabhdjliohaaW.PrintWords.Kd.C_of_reads (d := (0 : Int)) (h1 := fun _ => rfl) hr, hc, fun x hx => Var.u8_of (hw x hx)⟩
theorem strs_of {W : World} {x : Addr} {len cap : Nat} {ss : List ByteArray} (hl : len ≤ cap) (hm : cap ≤ maxLen) (hz : ss.length = cap) (hcell : ∀ i, i < ss.length → W.cell? (x.add i) = some (.string (ss.getD i ByteArray.empty))) : ∃ l : List ByteArray, len = l.length ∧ Go.Proofs.YtfbmabhdjliohaaW.PrintWords.Kd.C Go.Proofs.YtfbmabhdjliohaaW.PrintWords.Kd.string W (some x) l.length l ∧ l.length ≤ cap := by
  have e1 : (ss.take len).length = len := by rw [List.length_take]; omega
  refine ⟨ss.take len, e1.symm, ?_, by omega⟩
  refine Go.Proofs.YtfbmabhdjliohaaW.PrintWords.Kd.C_of_reads (d := ByteArray.empty) (h1 := fun _ => rfl) ⟨rfl, by rw [e1]; simp only [maxLen] at hm; omega, fun hn => ⟨x, rfl, fun j hj => ?_⟩⟩
  rw [e1] at hj
  rw [hcell j (by omega)]
  simp [List.getD_eq_getElem?_getD, hj]
set_option maxRecDepth 100000 in
theorem lifted (os : Os) (started : os.Started) (H : Type) (enc : TypeId × Value → H) :
    ReturnsInHanded {} Try.checked os 8 .any (Rows.rawPutsSpec.pre6 enc Try.prog Try.f8 Rows.rawPutsRow.domain false) (Rows.rawPutsSpec.post enc Try.prog Try.f8 false true false false) := by
  refine returnsInHanded_of_change_sized (C := Try.checked) own started (by kernel_rfl) Try.func8
    (ChangeSpec.witness6 (enc := enc) (C := Try.checked) false ⟨#[], #[.slice none 0 0, .slice none 0 0], []⟩ 8 (by kernel_rfl) (by kernel_rfl) (by kernel_rfl) (by kernel_rfl)) ?_
  intro W base args ds gs before hval0 hW hcnd hsz0 _
  have hsz : (DataW.weightsEach Try.prog (Try.f8.params.toList ++ Rows.rawPutsSpec.plain.varTypes Try.prog) (ds ++ gs)).all (· ≤ reachBytes) = true := hsz0
  have hval : ∀ (j : Nat) t v, Try.f8.params[j]? = some t → args[j]? = some v → Value.okWide Try.prog W .any base t v := hval0
  have hW' := hW
  obtain ⟨p, q, hA0, hV, rfl, hfz, hnd⟩ := hW
  have hA : DataW.TrodAll enc Try.prog W 0 (fun _ => true) true Try.f8.params.toList args.toList ds p := hA0
  rw [Try.params8] at hA hval
  obtain ⟨v0, vs0, d0, ds0, p0, q0, hargs, rfl, rfl, h0, r0⟩ := trodAll_cons hA
  obtain ⟨v1, vs1, d1, ds1, p1, q1, rfl, rfl, rfl, h1, r1⟩ := trodAll_cons r0
  obtain ⟨rfl, rfl, rfl⟩ := trodAll_nil r1
  obtain rfl : args = #[v0, v1] := by cases args; simp_all
  obtain ⟨rfl, rfl⟩ := trodVars_none hV
  obtain ⟨a0, len0, cap0, rfl⟩ := okWide_slice Try.underlying38 (hval 0 38 v0 rfl rfl)
  have k0 := h0
  have lt0 : ∀ x ∈ p0, x.block < W.heap.size := by obtain ⟨m, hm⟩ := k0; exact DataW.trod_lt m _ _ _ hm
  have y0 : len0 * 40 ≤ 140737488351232 := Open.sized_any hsz (j := 0) (t := 38) rfl rfl Try.underlying38 (by kernel_rfl) k0
  obtain ⟨l0, e0, hc0, hr0, hb0⟩ : ∃ l, len0 = l.length ∧ l.length ≤ cap0 ∧ Go.Proofs.YtfbmabhdjliohaaW.PrintWords.Kd.C _ W a0 l.length l ∧ Cur.OkRows l := by
    obtain ⟨fuel, hf⟩ := h0
    obtain ⟨l, ⟨A, c, hcs, hle, hC⟩, hok⟩ := Cur.open_rows _ _ _ _ _ _ _ _ _ hf
    simp [Value.cells] at hcs
    obtain ⟨rfl, rfl, rfl⟩ := hcs
    exact ⟨l, rfl, hle, hC, hok⟩
  obtain ⟨a1, len1, cap1, rfl⟩ := okWide_slice Try.underlying38 (hval 1 38 v1 rfl rfl)
  have k1 := h1
  have lt1 : ∀ x ∈ p1, x.block < W.heap.size := by obtain ⟨m, hm⟩ := k1; exact DataW.trod_lt m _ _ _ hm
  have y1 : len1 * 40 ≤ 140737488351232 := Open.sized_any hsz (j := 1) (t := 38) rfl rfl Try.underlying38 (by kernel_rfl) k1
  obtain ⟨l1, e1, hc1, hr1, hb1⟩ : ∃ l, len1 = l.length ∧ l.length ≤ cap1 ∧ Go.Proofs.YtfbmabhdjliohaaW.PrintWords.Kd.C _ W a1 l.length l ∧ Cur.OkRows l := by
    obtain ⟨fuel, hf⟩ := h1
    obtain ⟨l, ⟨A, c, hcs, hle, hC⟩, hok⟩ := Cur.open_rows _ _ _ _ _ _ _ _ _ hf
    simp [Value.cells] at hcs
    obtain ⟨rfl, rfl, rfl⟩ := hcs
    exact ⟨l, rfl, hle, hC, hok⟩
  clear hA0 hval0 hsz0 hsz
  subst e0
  subst e1
  refine (Cur.RawPuts_q hr0 hc0 hr1 hc1 hb0 hb1 (by omega) (by omega)).mono fun e W' ⟨he, bel⟩ => ?_
  subst he
  exact ⟨_, rfl, _, _, _, [], _, [], hW', trodAll_mk1 (shut_bool Try.underlying4 _), (trodAll_cons_mk (Below.trod laidOut (by kernel_rfl) (of_decide_eq_true (by kernel_rfl)) k0 bel lt0) (trodAll_cons_mk (Below.trod laidOut (by kernel_rfl) (of_decide_eq_true (by kernel_rfl)) k1 bel lt1) trodAll_mk0)), rfl, bel.frame _, fun h => by cases h⟩
theorem over : Rows.rawPutsRow.holds Try.pinned (OpenSpec.ofChange Rows.rawPutsSpec) :=
  OpenClaim.holds_of_wide 8 Try.f8 rfl rfl rfl rfl rfl rfl rfl ⟨rfl, rfl, rfl, rfl, rfl⟩ rfl rfl rfl rfl rfl (by kernel_rfl) Try.func8 (by kernel_rfl)
    (of_decide_eq_true (by kernel_rfl)) (by unfold Func.isWrapper; first | (rw [if_pos (by decide +kernel)]; kernel_rfl) | (rw [if_neg (by decide +kernel)]; exact ⟨rfl, rfl⟩))
    (fun os started H enc _ => lifted os started H enc)
theorem proved : Rows.RawPutsSaid := over
#print axioms proved
end Go.Proofs.Ytfbmabhdjliohaa.rawPuts
namespace Go.Proofs.Ytfbmabhdjliohaa
/-- The row, under a short name, for the claim. -/
theorem rawPuts_holds : Rows.RawPutsSaid := rawPuts.proved
end Go.Proofs.Ytfbmabhdjliohaa

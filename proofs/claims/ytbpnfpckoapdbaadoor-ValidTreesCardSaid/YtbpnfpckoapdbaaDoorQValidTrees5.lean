/- The law ValidTrees holds for every input that the row lets in (text 6 of 6; some of it the words and functions that the kit's print and this claim's programs wrote) -/
import Derived.Test.YtbpnfpckoapdbaaDoorQValidTrees4
import Derived.Test.YtbpnfpckoapdbaaDoorProg
import Derived.KernelRfl
import Derived.Test.YtbpnfpckoapdbaaDoorRows
import Derived.Test.YtbpnfpckoapdbaaDoorTie
import Derived.Test.YtbpnfpckoapdbaaDoorCards
import Derived.WalkKit
import Derived.ProofKit
import Derived.LaidMore
import Derived.OpenShut
import Derived.ShutString
import Derived.ChangeOld
import Derived.Below
import Derived.SizedLaws
import Derived.LaidLaws
import Derived.Lib.LaidU8T
import Derived.SevenTiedAt
import Derived.MakeChecks
import Derived.Lay
section
namespace Go.Proofs.YtbpnfpckoapdbaaDoor.P20
open Go.RowKit Go.Proofs.YtbpnfpckoapdbaaDoorW.PrintWords Go.Proofs.YtbpnfpckoapdbaaDoorW.PrintLast Go.Proofs.YtbpnfpckoapdbaaDoorW.PrintMore Go.Proofs.YtbpnfpckoapdbaaDoor.KD Go.Proofs.YtbpnfpckoapdbaaDoor.M Go.Proofs.YtbpnfpckoapdbaaDoor.PV20 Go.Proofs.YtbpnfpckoapdbaaDoor.Ev
set_option linter.unusedVariables false
set_option linter.unusedSimpArgs false
theorem turn {b x : Bool} (h : b = !x) : x = !b := by rw [h, Bool.not_not]
section
variable (s0 : List SE) (s1 : List SM)
abbrev vVal (f : SF) (v : SV) : Nat → Option Bool := fun k => valid_Val.f k s0 s1 f.f0 f.f1 f.f2 f.f3 f.f4 f.f5 f.f6 v.f0 v.f1 v.f2
abbrev rVal (f : SF) (v : SV) : Nat → Option Bool := fun k => ecdysisref20_Val.f k s0 s1 f.f0 f.f1 f.f2 f.f3 f.f4 f.f5 f.f6 v.f0 v.f1 v.f2
abbrev vTree (name : ByteArray) (t : ST) : Nat → Option Bool := fun k => valid_Tree.f k s0 s1 name t.f0 t.f1
abbrev rTree (name : ByteArray) (t : ST) : Nat → Option Bool := fun k => ecdysisref20_Tree.f k s0 s1 name t.f0 t.f1
/-- Whether a value may be a field's. -/
noncomputable def vB (f : SF) (v : SV) : Bool := @decide (E (vVal s0 s1 f v) true) (Classical.propDecidable _)
variable {s0 s1}
theorem vB_E {f : SF} {v : SV} {r : Bool} (h : E (vVal s0 s1 f v) r) : vB s0 s1 f v = r := by
 cases r with
 | true => exact @decide_eq_true _ (Classical.propDecidable _) h
 | false => exact @decide_eq_false _ (Classical.propDecidable _) (fun h' => by have := E.uniq h h'; cases this)
/-- Of a value and a message below it. -/
def valB (T : ByteArray → ST → Bool) (f : SF) (v : SV) : Bool :=
 if numB f.f2 = true then (mayB f.f2 v.f0 && v.f1.toList == []) && v.f2.length == 0
 else if f.f2 = 12 then (v.f0 == 0 && v.f2.length == 0) && Lib.validD v.f1.data.toList
 else if f.f2 = 13 then v.f0 == 0 && v.f2.length == 0
 else if f.f2 = 15 then ((v.f0 == 0 && v.f1.toList == []) && v.f2.length == 1) && T f.f3 (rd_T29 v.f2 0)
 else false
theorem val_v {f : SF} {v : SV} {T : ByteArray → ST → Bool} (h0 : 0 ≤ v.f0) (h1 : v.f1.size ≤ 9000000000000000000) (hT : ∀ t ∈ v.f2, E (vTree s0 s1 f.f3 t) (T f.f3 t)) : E (vVal s0 s1 f v) (valB T f v) := by
 have hl : ((v.f2.length : Int) == 0) = (v.f2.length == 0) := by rw [Bool.eq_iff_iff, beq_iff_eq, beq_iff_eq]; omega
 have key : ∀ x7, x7 = (v.f0 == 0 && v.f2.length == 0) → E (fun k => valid_Val.j0 k x7 s0 s1 f.f0 f.f1 f.f2 f.f3 f.f4 f.f5 f.f6 v.f0 v.f1 v.f2) (valB T f v) := by
   intro x7 hx
   refine E.step ?_
   simp only [valid_Val.j0]
   refine E.bind0 (num_v _) ?_
   unfold valB
   by_cases hn : numB f.f2 = true
   · rw [if_pos hn]
     refine E.yes hn (E.bind (may_v _ _ h0) ?_)
     by_cases hm : mayB f.f2 v.f0 = true
     · rw [hm]
       refine E.yes rfl ?_
       by_cases he : v.f1.toList = []
       · rw [he, hl]; exact E.yes rfl E.const
       · rw [beq_eq_false_iff_ne.2 he]; exact E.no he E.const
     · refine E.no hm ?_
       rw [Bool.not_eq_true] at hm
       rw [hm]; exact E.const
   rw [if_neg hn]
   refine E.no hn ?_
   by_cases h12 : f.f2 = 12
   · rw [if_pos h12]
     refine E.yes h12 ?_
     cases x7 with
     | true => rw [← hx]; exact E.yes rfl (E.bind0 (a := Lib.validD v.f1.data.toList) (by unfold utf8_ValidString.f; rw [if_pos (by omega)]) E.const)
     | false => rw [← hx]; exact E.no (by simp) E.const
   rw [if_neg h12]
   refine E.no h12 ?_
   by_cases h13 : f.f2 = 13
   · rw [if_pos h13, ← hx]
     exact E.yes h13 E.const
   rw [if_neg h13]
   refine E.no h13 ?_
   by_cases h15 : f.f2 = 15
   · rw [if_pos h15]
     refine E.yes h15 ?_
     by_cases hz : v.f0 = 0
     · refine E.yes hz ?_
       rw [hz]
       by_cases he : v.f1.toList = []
       · refine E.yes he ?_
         rw [he]
         by_cases h1 : v.f2.length = 1
         · rw [h1]
           refine E.yes rfl (E.yes (by decide) ?_)
           exact E.bind (hT (rd_T29 v.f2 0) (by match hv : v.f2, h1 with | [a], _ => simp [rd_T29])) E.const
         · rw [show (v.f2.length == 1) = false by rw [beq_eq_false_iff_ne]; exact h1]
           exact E.no (by omega) E.const
       · rw [beq_eq_false_iff_ne.2 he]
         exact E.no he E.const
     · rw [beq_eq_false_iff_ne.2 hz]
       exact E.no hz E.const
   rw [if_neg h15]
   exact E.no h15 E.const
 by_cases hz : v.f0 = 0
 · refine E.succ (key _ rfl) fun k => ?_
   simp only [valid_Val.f]
   rw [if_pos hz, hl, hz]
   rfl
 · refine E.succ (key _ rfl) fun k => ?_
   simp only [valid_Val.f]
   rw [if_neg hz, beq_eq_false_iff_ne.2 hz]
   rfl
theorem val_r {f : SF} {v : SV} {T : ByteArray → ST → Bool} (h0 : 0 ≤ v.f0) (h1 : v.f1.size ≤ 9000000000000000000) (hT : ∀ t ∈ v.f2, E (rTree s0 s1 f.f3 t) (T f.f3 t)) : E (rVal s0 s1 f v) (valB T f v) := by
 have hl : ((v.f2.length : Int) == 0) = (v.f2.length == 0) := by rw [Bool.eq_iff_iff, beq_iff_eq, beq_iff_eq]; omega
 refine E.step ?_
 show E (fun k => ecdysisref20_Val.f (k + 1) _ _ _ _ _ _ _ _ _ _ _ _) _
 simp only [ecdysisref20_Val.f]
 refine E.bind0 (num_r _) ?_
 unfold valB
 by_cases hn : numB f.f2 = true
 · rw [if_pos hn]
   refine E.yes hn (E.bind (may_r _ _) ?_)
   by_cases hm : mayB f.f2 v.f0 = true
   · rw [hm]
     refine E.yes rfl ?_
     by_cases he : v.f1.toList = []
     · rw [he, hl]; exact E.yes rfl E.const
     · rw [beq_eq_false_iff_ne.2 he]; exact E.no he E.const
   · refine E.no hm ?_
     rw [Bool.not_eq_true] at hm
     rw [hm]; exact E.const
 rw [if_neg hn]
 refine E.no hn ?_
 by_cases h12 : f.f2 = 12
 · rw [if_pos h12]
   refine E.yes h12 ?_
   by_cases hz : v.f0 = 0
   · refine E.yes hz ?_
     rw [hz]
     by_cases hn : v.f2.length = 0
     · rw [hn]
       exact E.yes (by rfl) (E.bind0 (a := Lib.validD v.f1.data.toList) (by unfold utf8_ValidString.f; rw [if_pos (by omega)]) E.const)
     · rw [show (v.f2.length == 0) = false by rw [beq_eq_false_iff_ne]; exact hn]
       exact E.no (by omega) E.const
   · rw [beq_eq_false_iff_ne.2 hz]
     exact E.no hz E.const
 rw [if_neg h12]
 refine E.no h12 ?_
 by_cases h13 : f.f2 = 13
 · rw [if_pos h13]
   refine E.yes h13 ?_
   by_cases hz : v.f0 = 0
   · rw [hz, hl]; exact E.yes rfl E.const
   · rw [beq_eq_false_iff_ne.2 hz]; exact E.no hz E.const
 rw [if_neg h13]
 refine E.no h13 ?_
 by_cases h15 : f.f2 = 15
 · rw [if_pos h15]
   refine E.yes h15 ?_
   by_cases hz : v.f0 = 0
   · refine E.yes hz ?_
     rw [hz]
     by_cases he : v.f1.toList = []
     · refine E.yes he ?_
       rw [he]
       by_cases h1 : v.f2.length = 1
       · rw [h1]
         refine E.yes rfl (E.yes (by decide) ?_)
         exact E.bind (hT (rd_T29 v.f2 0) (by match hv : v.f2, h1 with | [a], _ => simp [rd_T29])) E.const
       · rw [show (v.f2.length == 1) = false by rw [beq_eq_false_iff_ne]; exact h1]
         exact E.no (by omega) E.const
     · rw [beq_eq_false_iff_ne.2 he]
       exact E.no he E.const
   · rw [beq_eq_false_iff_ne.2 hz]
     exact E.no hz E.const
 rw [if_neg h15]
 exact E.no h15 E.const
/-- A value and what its field may not have unsaid. -/
noncomputable def oneB (s0 : List SE) (s1 : List SM) (f : SF) (v : SV) : Bool := vB s0 s1 f v && !(hidB f && v.f0 == 0 && v.f1.toList == [])
noncomputable def valsB (s0 : List SE) (s1 : List SM) (f : SF) (l : List SV) : Bool := (l.length != 0 && (f.f4 || decide (l.length ≤ 1))) && l.all (oneB s0 s1 f)
theorem vals_v {f : SF} {l : List SV} (hn : l.length ≤ 9000000000000000000) (h : ∀ v ∈ l, E (vVal s0 s1 f v) (vB s0 s1 f v)) : E (fun k => valid_vals.f k s0 s1 f.f0 f.f1 f.f2 f.f3 f.f4 f.f5 f.f6 l) (valsB s0 s1 f l) := by
 have loop := up (C := fun i => E (fun k => valid_vals.l0 k l (l.length : Int) (i : Int) s0 s1 f.f0 f.f1 f.f2 f.f3 f.f4 f.f5 f.f6) ((l.drop i).all (oneB s0 s1 f))) l.length (fun i hi => ?_) (fun i hi ih => ?_) 0
 · have key : ∀ b, b = !(l.length != 0 && (f.f4 || decide (l.length ≤ 1))) → E (fun k => valid_vals.j0 k l b s0 s1 f.f0 f.f1 f.f2 f.f3 f.f4 f.f5 f.f6) (valsB s0 s1 f l) := by
     intro b hb
     unfold valsB
     cases b with
     | true =>
       rw [turn hb]
       exact E.succ E.const fun k => by simp only [valid_vals.j0]; rw [if_pos trivial]; rfl
     | false =>
       rw [turn hb, Bool.not_false, Bool.true_and]
       exact E.succ loop fun k => by simp only [valid_vals.j0]; rw [if_neg (by simp)]; rfl
   by_cases hz : l.length = 0
   · exact E.succ (key true (by rw [hz]; rfl)) fun k => by simp only [valid_vals.f]; rw [if_pos (by omega)]
   · have hb : (l.length != 0) = true := bne_iff_ne.2 hz
     by_cases h4 : f.f4 = true
     · exact E.succ (key false (by rw [hb, h4]; rfl)) fun k => by simp only [valid_vals.f]; rw [if_neg (by omega), if_pos h4]
     · refine E.succ (key (decide ((l.length : Int) > 1)) ?_) fun k => by simp only [valid_vals.f]; rw [if_neg (by omega), if_neg h4]
       rw [Bool.not_eq_true] at h4
       rw [hb, h4, Bool.true_and, Bool.false_or]
       by_cases h1 : l.length ≤ 1
       · rw [decide_eq_true h1, decide_eq_false (by omega)]; rfl
       · rw [decide_eq_false h1, decide_eq_true (by omega)]; rfl
 · rw [List.drop_eq_nil_of_le hi]
   exact E.succ E.const fun k => by simp only [valid_vals.l0]; rw [if_neg (by omega)]; rfl
 · rw [drop_getD z40 hi, List.all_cons]
   have hv := h (l.getD i z40) (by rw [List.getD_eq_getElem?_getD, List.getElem?_eq_getElem hi]; exact List.getElem_mem _)
   refine E.step ?_
   simp only [valid_vals.l0, w1 hi hn]
   refine E.yes (by omega) (E.yes (by omega) (E.yes (by omega) (E.bind hv ?_)))
   generalize (List.drop (i + 1) l).all (oneB s0 s1 f) = Q at ih ⊢
   unfold oneB
   cases hvb : vB s0 s1 f (l.getD i z40) with
   | false => exact E.no (by simp) E.const
   | true =>
     refine E.yes rfl (E.bind0 (hid_v f) ?_)
     cases hh : hidB f with
     | false => exact E.no (by simp) ih
     | true =>
       refine E.yes rfl ?_
       by_cases hz : (l.getD i z40).f0 = 0
       · refine E.yes hz ?_
         rw [hz]
         by_cases he : (l.getD i z40).f1.toList = []
         · rw [he]; exact E.yes he E.const
         · rw [beq_eq_false_iff_ne.2 he]; exact E.no he ih
       · rw [beq_eq_false_iff_ne.2 hz]
         exact E.no hz ih
theorem slot_r {f : SF} {i : Int} {n : ByteArray} {fs : List SF} {bs : List Int} {num : Int} {l : List SV} (hfs : fs.length ≤ 9000000000000000000) (hn : l.length ≤ 9000000000000000000) (hi : i = ixF (fun x => x.f1 == num) fs 0) (hf : f = rd_T36 fs i) (h : ∀ v ∈ l, E (rVal s0 s1 f v) (vB s0 s1 f v)) : E (fun k => ecdysisref20_slot.f k s0 s1 n fs bs num l) (decide (0 ≤ i) && valsB s0 s1 f l) := by
 have bd := ixF_bd (fun x : SF => x.f1 == num) fs 0
 rw [← hi] at bd
 have bad : E (fun k => ecdysisref20_slot.j0 k i true s0 s1 n fs bs num l) false := E.succ E.const fun k => by simp only [ecdysisref20_slot.j0]; rw [if_pos trivial]
 refine E.step ?_
 simp only [ecdysisref20_slot.f]
 refine E.bind (number_E n fs bs num hfs) ?_
 rw [← hi]
 by_cases h0 : i < 0
 · rw [decide_eq_false (by omega)]
   exact E.yes h0 bad
 rw [decide_eq_true (by omega), Bool.true_and]
 refine E.no h0 ?_
 by_cases hz : l.length = 0
 · rw [show ((l.length : Int) == 0) = true by rw [beq_iff_eq]; omega, valsB, hz]
   exact bad
 rw [show ((l.length : Int) == 0) = false by rw [beq_eq_false_iff_ne]; omega]
 refine E.step ?_
 simp only [ecdysisref20_slot.j0]
 refine E.no (by simp) (E.yes (by omega) (E.yes (by omega) ?_))
 rw [← hf]
 have hb : (l.length != 0) = true := bne_iff_ne.2 hz
 have bad1 : E (fun k => ecdysisref20_slot.j1 k true s0 s1 num l f.f0 f.f1 f.f2 f.f3 f.f4 f.f5 f.f6) false := E.succ E.const fun k => by simp only [ecdysisref20_slot.j1]; rw [if_pos trivial]
 have loop : (f.f4 = true ∨ l.length = 1) → E (fun k => ecdysisref20_slot.l0 k 0 s0 s1 num l f.f0 f.f1 f.f2 f.f3 f.f4 f.f5 f.f6) (l.all (oneB s0 s1 f)) := by
   intro hone
   have hidone : hidB f = true → l.length = 1 := fun hh => by
     rcases hone with h4 | h1
     · unfold hidB at hh; rw [h4] at hh; simp at hh
     · exact h1
   have go := up (C := fun i => E (fun k => ecdysisref20_slot.l0 k (i : Int) s0 s1 num l f.f0 f.f1 f.f2 f.f3 f.f4 f.f5 f.f6) ((l.drop i).all (vB s0 s1 f) && (!hidB f || !((rd_T40 l 0).f0 == 0 && (rd_T40 l 0).f1.toList == [])))) l.length (fun i hi => ?_) (fun i hi ih => ?_) 0
   · have e : l.all (oneB s0 s1 f) = (l.all (vB s0 s1 f) && (!hidB f || !((rd_T40 l 0).f0 == 0 && (rd_T40 l 0).f1.toList == []))) := by
       cases hh : hidB f with
       | false => rw [Bool.not_false, Bool.true_or, Bool.and_true]; congr 1; funext v; unfold oneB; rw [hh]; simp
       | true =>
         have h1 := hidone hh
         match l, h1 with
         | [a], _ => simp [oneB, hh, rd_T40]
     rw [e]
     exact go
   · rw [List.drop_eq_nil_of_le hi]
     refine E.step ?_
     simp only [ecdysisref20_slot.l0]
     refine E.no (by omega) (E.bind0 (hid_r f) ?_)
     cases hh : hidB f with
     | false => exact E.no (by simp) E.const
     | true =>
       refine E.yes rfl (E.yes (by omega) ?_)
       by_cases hz : (rd_T40 l 0).f0 = 0
       · refine E.yes hz ?_
         rw [hz]
         by_cases he : (rd_T40 l 0).f1.toList = []
         · rw [he]; exact E.const
         · rw [beq_eq_false_iff_ne.2 he, bne_iff_ne.2 he]; exact E.const
       · rw [beq_eq_false_iff_ne.2 hz]
         exact E.no hz E.const
   · rw [drop_getD z40 hi, List.all_cons]
     have hv := h (l.getD i z40) (by rw [List.getD_eq_getElem?_getD, List.getElem?_eq_getElem hi]; exact List.getElem_mem _)
     refine E.step ?_
     simp only [ecdysisref20_slot.l0, w1 hi hn]
     refine E.yes (by omega) (E.yes (by omega) (E.bind hv ?_))
     cases hvb : vB s0 s1 f (l.getD i z40) with
     | false => exact E.no (by simp) E.const
     | true => exact E.yes rfl ih
 have fin : ∀ b, b = !(f.f4 || decide (l.length ≤ 1)) → E (fun k => ecdysisref20_slot.j1 k b s0 s1 num l f.f0 f.f1 f.f2 f.f3 f.f4 f.f5 f.f6) (valsB s0 s1 f l) := by
   intro b hb'
   unfold valsB
   rw [hb, Bool.true_and]
   cases b with
   | true =>
     rw [turn hb']
     exact bad1
   | false =>
     have e1 : (f.f4 || decide (l.length ≤ 1)) = true := turn hb'
     rw [e1, Bool.true_and]
     refine E.succ (loop ?_) fun k => by simp only [ecdysisref20_slot.j1]; rw [if_neg (by simp)]
     rw [Bool.or_eq_true, decide_eq_true_eq] at e1
     rcases e1 with e1 | e1
     · exact .inl e1
     · exact .inr (by omega)
 by_cases h4 : f.f4 = true
 · exact E.yes h4 (fin false (by rw [h4]; rfl))
 · refine E.no h4 (fin _ ?_)
   rw [Bool.not_eq_true] at h4
   rw [h4, Bool.false_or]
   by_cases h1 : l.length ≤ 1
   · rw [decide_eq_true h1, show ((l.length : Int) != 1) = false by rw [bne_eq_false_iff_eq]; omega]; rfl
   · rw [decide_eq_false h1, show ((l.length : Int) != 1) = true by rw [bne_iff_ne]; omega]; rfl
end
end Go.Proofs.YtbpnfpckoapdbaaDoor.P20
end
section
namespace Go.Proofs.YtbpnfpckoapdbaaDoor.P20
open Go.RowKit Go.Proofs.YtbpnfpckoapdbaaDoorW.PrintWords Go.Proofs.YtbpnfpckoapdbaaDoorW.PrintLast Go.Proofs.YtbpnfpckoapdbaaDoorW.PrintMore Go.Proofs.YtbpnfpckoapdbaaDoor.KD Go.Proofs.YtbpnfpckoapdbaaDoor.M Go.Proofs.YtbpnfpckoapdbaaDoor.PV20 Go.Proofs.YtbpnfpckoapdbaaDoor.Ev
set_option linter.unusedVariables false
set_option linter.unusedSimpArgs false
def atF (fs : List SF) (num : Int) : Int := ixF (fun x => x.f1 == num) fs 0
def fld (fs : List SF) (num : Int) : SF := rd_T36 fs (atF fs num)
def okNum : Option Int → Int → Bool
 | none, _ => true
 | some p, n => decide (p < n)
theorem okNum_some (p n : Int) : okNum (some p) n = decide (p < n) := rfl
def fresh (one : ByteArray) (ones : List ByteArray) : Bool := one.toList == [] || !(ones.any fun o => o.toList == one.toList)
noncomputable def slB (s0 : List SE) (s1 : List SM) (fs : List SF) : Option Int → List ByteArray → List SS → Bool
 | _, _, [] => true
 | prev, ones, x :: r => (decide (0 ≤ atF fs x.f0) && (okNum prev x.f0 && valsB s0 s1 (fld fs x.f0) x.f1)) && (fresh (fld fs x.f0).f6 ones && slB s0 s1 fs (some x.f0) ((fld fs x.f0).f6 :: ones) r)
def prevOf (l : List SS) : Nat → Option Int
 | 0 => none
 | i + 1 => some (l.getD i z43).f0
theorem mcnt_any (s : ByteArray) : ∀ l, (0 < mcnt s l) ↔ (l.any fun o => o.toList == s.toList) = true
 | [] => by simp [mcnt]
 | x :: l => by
  have h0 := mcnt_le s l
  have ih := mcnt_any s l
  rw [List.any_cons]
  simp only [mcnt]
  by_cases h : x.data.toList = s.data.toList
  · rw [if_pos h, show (x.toList == s.toList) = true by rw [beq_iff_eq, ByteArray.toList_eq, ByteArray.toList_eq]; exact h]
    simp; omega
  · rw [if_neg h, show (x.toList == s.toList) = false by rw [beq_eq_false_iff_ne, ByteArray.toList_eq, ByteArray.toList_eq]; exact h, Bool.false_or]
    exact ih
theorem atF_bd (fs : List SF) (num : Int) : -1 ≤ atF fs num ∧ atF fs num < fs.length := by
 have := ixF_bd (fun x : SF => x.f1 == num) fs 0
 unfold atF; omega
theorem fld_mem {fs : List SF} {num : Int} (h : 0 ≤ atF fs num) : fld fs num ∈ fs := by
 have := atF_bd fs num
 obtain ⟨j, hj⟩ : ∃ j : Nat, atF fs num = (j : Int) := ⟨(atF fs num).toNat, by omega⟩
 unfold fld
 rw [hj, rdF, List.getD_eq_getElem?_getD, List.getElem?_eq_getElem (by omega)]
 exact List.getElem_mem _
theorem mem_getD {α : Type} {l : List α} {i : Nat} (z : α) (h : i < l.length) : l.getD i z ∈ l := by
 rw [List.getD_eq_getElem?_getD, List.getElem?_eq_getElem h]; exact List.getElem_mem _
theorem wm {i n : Nat} (h : i + 1 < n) (hn : n ≤ 9000000000000000000) : wrap64 (((i + 1 : Nat) : Int) - 1) = (i : Int) := by unfold wrap64; omega
/-- A schema no greater than a machine's. -/
structure Sch (fs : List SF) : Prop where
 n : fs.length ≤ 9000000000000000000
 one : ∀ f ∈ fs, f.f6.size ≤ 140737488351232
section
variable {s0 : List SE} {s1 : List SM}
def Vals (s0 : List SE) (s1 : List SM) (l : List SS) : Prop := ∀ x ∈ l, x.f1.length ≤ 9000000000000000000 ∧ ∀ f, ∀ v ∈ x.f1, E (vVal s0 s1 f v) (vB s0 s1 f v) ∧ E (rVal s0 s1 f v) (vB s0 s1 f v)
theorem slots_v {n : ByteArray} {fs : List SF} {bs : List Int} {l : List SS} (hfs : Sch fs) (hl : l.length ≤ 4398046511104) (hv : Vals s0 s1 l) : E (fun k => valid_slots.f k s0 s1 n fs bs l) (slB s0 s1 fs none [] l) := by
 have hl' : l.length ≤ 9000000000000000000 := by omega
 have loop := up (C := fun i => ∀ ones : List ByteArray, ones.length = i → E (fun k => valid_slots.l0 k l l (l.length : Int) (i : Int) s0 s1 n fs bs ones) (slB s0 s1 fs (prevOf l i) ones (l.drop i))) l.length (fun i hi => ?_) (fun i hi ih => ?_) 0
 · exact E.succ (loop [] rfl) fun k => by simp only [valid_slots.f]; rfl
 · intro ones ho
   rw [List.drop_eq_nil_of_le hi]
   exact E.succ E.const fun k => by simp only [valid_slots.l0]; rw [if_neg (by omega)]; rfl
 · intro ones ho
   rw [drop_getD z43 hi]
   have hx := hv _ (mem_getD z43 hi)
   have hr : rd_T43 l (i : Int) = l.getD i z43 := rfl
   have hp : prevOf l (i + 1) = some (l.getD i z43).f0 := rfl
   rw [hp] at ih
   generalize l.getD i z43 = x at hx hr ih
   have bd := atF_bd fs x.f0
   have hf : rd_T36 fs (atF fs x.f0) = fld fs x.f0 := rfl
   have bad : ∀ at_, E (fun k => valid_slots.j1 k l at_ l (l.length : Int) (i : Int) true s0 s1 n fs bs ones) false := fun at_ => E.succ E.const fun k => by simp only [valid_slots.j1]; rw [if_pos trivial]
   have good : 0 ≤ atF fs x.f0 → E (fun k => valid_slots.j1 k l (atF fs x.f0) l (l.length : Int) (i : Int) false s0 s1 n fs bs ones) (fresh (fld fs x.f0).f6 ones && slB s0 s1 fs (some x.f0) ((fld fs x.f0).f6 :: ones) (l.drop (i + 1))) := by
     intro h0
     have hk : keyOkM (fld fs x.f0).f6 ones = true := by
       have := hfs.one _ (fld_mem h0)
       unfold keyOkM maxLen
       rw [Bool.and_eq_true, decide_eq_true_eq, decide_eq_true_eq]
       omega
     have ih1 := ih ((fld fs x.f0).f6 :: ones) (by rw [List.length_cons, ho])
     refine E.step ?_
     simp only [valid_slots.j1, w1 hi hl']
     refine E.no (by simp) (E.yes h0 (E.yes bd.2 (E.yes hk ?_)))
     simp only [hf]
     unfold fresh
     by_cases he : (fld fs x.f0).f6.toList = []
     · rw [he]
       exact E.yes rfl ih1
     · rw [beq_eq_false_iff_ne.2 he, Bool.false_or]
       refine E.no he ?_
       have hm := mcnt_any (fld fs x.f0).f6 ones
       have hm0 := mcnt_le (fld fs x.f0).f6 ones
       cases ha : (ones.any fun o => o.toList == (fld fs x.f0).f6.toList) with
       | true =>
         rw [ha] at hm
         have := hm.2 rfl
         exact E.yes (by rw [mcnt_same]; omega) E.const
       | false =>
         rw [ha] at hm
         have : ¬ (0 < mcnt (fld fs x.f0).f6 ones) := fun h => by have := hm.1 h; cases this
         exact E.no (by rw [mcnt_same]; omega) ih1
   have vals : E (fun k => valid_vals.f k s0 s1 (fld fs x.f0).f0 (fld fs x.f0).f1 (fld fs x.f0).f2 (fld fs x.f0).f3 (fld fs x.f0).f4 (fld fs x.f0).f5 (fld fs x.f0).f6 x.f1) (valsB s0 s1 (fld fs x.f0) x.f1) := vals_v hx.1 fun v hm => (hx.2 _ v hm).1
   have last : 0 ≤ atF fs x.f0 → E (fun k => if 0 ≤ atF fs x.f0 then if atF fs x.f0 < (fs.length : Int) then (valid_vals.f k s0 s1 (fld fs x.f0).f0 (fld fs x.f0).f1 (fld fs x.f0).f2 (fld fs x.f0).f3 (fld fs x.f0).f4 (fld fs x.f0).f5 (fld fs x.f0).f6 x.f1).bind fun t => valid_slots.j1 k l (atF fs x.f0) l (l.length : Int) (i : Int) (!t) s0 s1 n fs bs ones else none else none) (valsB s0 s1 (fld fs x.f0) x.f1 && (fresh (fld fs x.f0).f6 ones && slB s0 s1 fs (some x.f0) ((fld fs x.f0).f6 :: ones) (l.drop (i + 1)))) := by
     intro h0
     refine E.yes h0 (E.yes bd.2 (E.bind vals ?_))
     cases valsB s0 s1 (fld fs x.f0) x.f1 with
     | false => exact bad _
     | true => exact good h0
   refine E.step ?_
   simp only [valid_slots.l0, hr]
   refine E.yes (by omega) (E.yes (by omega) (E.yes (by omega) (E.bind0 (a := atF fs x.f0) rfl ?_)))
   rw [slB]
   by_cases h0 : atF fs x.f0 < 0
   · rw [decide_eq_false (by omega)]
     exact E.yes h0 (bad _)
   · rw [decide_eq_true (by omega), Bool.true_and]
     refine E.no h0 ?_
     cases i with
     | zero =>
       refine E.no (by omega) ?_
       exact last (by omega)
     | succ j =>
       have hw := wm hi hl'
       refine E.yes (by omega) ?_
       rw [hw]
       refine E.yes (by omega) (E.yes (by omega) ?_)
       simp only [rdS]
       show E _ (okNum (some (l.getD j z43).f0) x.f0 && _ && _)
       rw [okNum_some]
       by_cases hc : (l.getD j z43).f0 ≥ x.f0
       · rw [decide_eq_false (by omega)]
         exact E.yes hc (bad _)
       · rw [decide_eq_true (by omega), Bool.true_and]
         exact E.no hc (last (by omega))
def restB (fs : List SF) (l : List SR) : Bool := l.all fun x => rightR x && !knownR fs x.f0
theorem rest_r {n : ByteArray} {fs : List SF} {bs : List Int} {sl : List SS} {l : List SR} (hfs : fs.length ≤ 9000000000000000000) (hl : l.length ≤ 9000000000000000000) (h0 : ∀ x ∈ l, 0 ≤ x.f2) : E (fun k => ecdysisref20_Tree.l2 k 0 sl l n fs bs) (restB fs l) := by
 have loop := up (C := fun i => E (fun k => ecdysisref20_Tree.l2 k (i : Int) sl l n fs bs) (restB fs (l.drop i))) l.length (fun i hi => ?_) (fun i hi ih => ?_) 0
 · exact loop
 · rw [List.drop_eq_nil_of_le hi]
   exact E.succ E.const fun k => by simp only [ecdysisref20_Tree.l2]; rw [if_neg (by omega)]; rfl
 · unfold restB at ih ⊢
   rw [drop_getD z63 hi, List.all_cons]
   have hx := h0 _ (mem_getD z63 hi)
   have hr : rd_T63 l (i : Int) = l.getD i z63 := rfl
   generalize l.getD i z63 = x at hx hr
   refine E.step ?_
   simp only [ecdysisref20_Tree.l2, w1 hi hl, hr]
   refine E.yes (by omega) (E.yes (by omega) (E.bind0 (right_r x hx) ?_))
   cases rightR x with
   | false => exact E.no (by simp) E.const
   | true =>
    refine E.yes rfl (E.bind (number_E n fs bs x.f0 hfs) ?_)
    unfold knownR
    by_cases hk : ixF (fun y : SF => y.f1 == x.f0) fs 0 ≥ 0
    · rw [decide_eq_true hk]
      exact E.yes hk E.const
    · rw [decide_eq_false hk]
      exact E.no hk ih
theorem ones_r {n : ByteArray} {fs : List SF} {bs : List Int} {sl : List SS} {l : List SR} {i : Nat} {one : ByteArray} {ones : List ByteArray} {R : Bool} (hi : i < sl.length) (hsl : sl.length ≤ 4398046511104) (ho : ones.length = i)
   (h : E (fun k => ecdysisref20_Tree.l0 k (one :: ones).reverse ((i + 1 : Nat) : Int) s0 s1 sl l n fs bs) R) : E (fun k => ecdysisref20_Tree.l1 k ones.reverse (i : Int) one 0 s0 s1 sl l n fs bs) (fresh one ones && R) := by
 have hn : ones.reverse.length ≤ 9000000000000000000 := by rw [List.length_reverse]; omega
 have loop := up (C := fun j => E (fun k => ecdysisref20_Tree.l1 k ones.reverse (i : Int) one (j : Int) s0 s1 sl l n fs bs) (fresh one (ones.reverse.drop j) && R)) ones.reverse.length (fun j hj => ?_) (fun j hj ih => ?_) 0
 · have e : fresh one (ones.reverse.drop 0) = fresh one ones := by unfold fresh; rw [List.drop_zero, List.any_reverse]
   rw [e] at loop
   exact loop
 · rw [List.drop_eq_nil_of_le hj, show fresh one [] = true by simp [fresh], Bool.true_and]
   refine E.step ?_
   simp only [ecdysisref20_Tree.l1]
   refine E.no (by omega) (E.yes (by rw [List.length_reverse]; omega) ?_)
   rw [w1 hi (by omega), ← List.reverse_cons]
   exact h
 · have hr : rdOf ByteArray.empty ones.reverse (j : Int) = ones.reverse.getD j ByteArray.empty := rfl
   have hd : fresh one (ones.reverse.drop j) = (one.toList == [] || (!((ones.reverse.getD j ByteArray.empty).toList == one.toList) && !((ones.reverse.drop (j + 1)).any fun o => o.toList == one.toList))) := by
     unfold fresh; rw [drop_getD ByteArray.empty hj, List.any_cons, Bool.not_or]
   rw [hd]
   unfold fresh at ih
   generalize ones.reverse.getD j ByteArray.empty = o at hr
   generalize (!((ones.reverse.drop (j + 1)).any fun o => o.toList == one.toList)) = Q at ih
   refine E.step ?_
   simp only [ecdysisref20_Tree.l1, hr, w1 hj hn]
   refine E.yes (by omega) ?_
   by_cases he : one.toList = []
   · rw [he] at ih ⊢
     exact E.yes rfl ih
   · rw [beq_eq_false_iff_ne.2 he, Bool.false_or] at ih ⊢
     refine E.no he (E.yes (by omega) ?_)
     by_cases hc : o.toList = one.toList
     · rw [hc, show (one.toList == one.toList) = true by simp]
       exact E.yes rfl E.const
     · rw [beq_eq_false_iff_ne.2 hc]
       exact E.no hc ih
theorem slots_r {n : ByteArray} {fs : List SF} {bs : List Int} {l : List SS} {re : List SR} (hfs : Sch fs) (hl : l.length ≤ 4398046511104) (hre : re.length ≤ 9000000000000000000) (h0 : ∀ x ∈ re, 0 ≤ x.f2) (hv : Vals s0 s1 l) : E (fun k => ecdysisref20_Tree.l0 k [] 0 s0 s1 l re n fs bs) (slB s0 s1 fs none [] l && restB fs re) := by
 have hl' : l.length ≤ 9000000000000000000 := by omega
 have loop := up (C := fun i => ∀ ones : List ByteArray, ones.length = i → E (fun k => ecdysisref20_Tree.l0 k ones.reverse (i : Int) s0 s1 l re n fs bs) (slB s0 s1 fs (prevOf l i) ones (l.drop i) && restB fs re)) l.length (fun i hi => ?_) (fun i hi ih => ?_) 0
 · exact loop [] rfl
 · intro ones ho
   rw [List.drop_eq_nil_of_le hi]
   exact E.succ (rest_r (bs := bs) hfs.n hre h0) fun k => by simp only [ecdysisref20_Tree.l0]; rw [if_neg (by omega)]
 · intro ones ho
   rw [drop_getD z43 hi]
   have hx := hv _ (mem_getD z43 hi)
   have hr : rd_T43 l (i : Int) = l.getD i z43 := rfl
   have hp : prevOf l (i + 1) = some (l.getD i z43).f0 := rfl
   rw [hp] at ih
   generalize l.getD i z43 = x at hx hr ih
   have bd := atF_bd fs x.f0
   have hf : rd_T36 fs (atF fs x.f0) = fld fs x.f0 := rfl
   rw [slB]
   simp only [Bool.and_assoc]
   have bad : E (fun k => ecdysisref20_Tree.j1 k ones.reverse (i : Int) true s0 s1 l re n fs bs) false := E.succ E.const fun k => by simp only [ecdysisref20_Tree.j1]; rw [if_pos trivial]
   have good : 0 ≤ atF fs x.f0 → E (fun k => ecdysisref20_Tree.j1 k ones.reverse (i : Int) false s0 s1 l re n fs bs) (fresh (fld fs x.f0).f6 ones && (slB s0 s1 fs (some x.f0) ((fld fs x.f0).f6 :: ones) (l.drop (i + 1)) && restB fs re)) := by
    intro h1
    refine E.step ?_
    simp only [ecdysisref20_Tree.j1, hr]
    refine E.no (by simp) (E.yes (by omega) (E.yes (by omega) (E.bind (number_E n fs bs x.f0 hfs.n) ?_)))
    show E (fun k => if 0 ≤ atF fs x.f0 then if atF fs x.f0 < (fs.length : Int) then ecdysisref20_Tree.l1 k ones.reverse (i : Int) (fld fs x.f0).f6 0 s0 s1 l re n fs bs else none else none) _
    exact E.yes h1 (E.yes bd.2 (ones_r hi hl ho (ih _ (by rw [List.length_cons, ho]))))
   have slot : E (fun k => ecdysisref20_slot.f k s0 s1 n fs bs x.f0 x.f1) (decide (0 ≤ atF fs x.f0) && valsB s0 s1 (fld fs x.f0) x.f1) := slot_r hfs.n hx.1 rfl rfl fun v hm => (hx.2 _ v hm).2
   have last : E (fun k => (ecdysisref20_slot.f k s0 s1 n fs bs x.f0 x.f1).bind fun t => ecdysisref20_Tree.j1 k ones.reverse (i : Int) (!t) s0 s1 l re n fs bs) (decide (0 ≤ atF fs x.f0) && (valsB s0 s1 (fld fs x.f0) x.f1 && (fresh (fld fs x.f0).f6 ones && (slB s0 s1 fs (some x.f0) ((fld fs x.f0).f6 :: ones) (l.drop (i + 1)) && restB fs re)))) := by
    refine E.bind slot ?_
    by_cases h1 : 0 ≤ atF fs x.f0
    · rw [decide_eq_true h1, Bool.true_and]
      cases valsB s0 s1 (fld fs x.f0) x.f1 with
      | false => exact bad
      | true => exact good h1
    · rw [decide_eq_false h1]
      exact bad
   refine E.step ?_
   simp only [ecdysisref20_Tree.l0, hr]
   refine E.yes (by omega) ?_
   cases i with
   | zero =>
    refine E.no (by omega) (E.yes (by omega) ?_)
    exact last
   | succ j =>
    have hw := wm hi hl'
    refine E.yes (by omega) ?_
    rw [hw]
    refine E.yes (by omega) (E.yes (by omega) (E.yes (by omega) ?_))
    simp only [rdS]
    show E _ (decide (0 ≤ atF fs x.f0) && (okNum (some (l.getD j z43).f0) x.f0 && _))
    rw [okNum_some]
    by_cases hc : (l.getD j z43).f0 ≥ x.f0
    · rw [decide_eq_false (show ¬ (l.getD j z43).f0 < x.f0 by omega), Bool.false_and, Bool.and_false]
      exact E.yes hc bad
    · rw [decide_eq_true (show (l.getD j z43).f0 < x.f0 by omega), Bool.true_and]
      exact E.no hc last
/-- A schema no greater than a machine's. -/
structure Sc (s1 : List SM) : Prop where
 n : s1.length ≤ 9000000000000000000
 fs : ∀ m ∈ s1, Sch m.f1
def atM (s1 : List SM) (name : ByteArray) : Int := ixF (fun x => x.f0.toList == name.toList) s1 0
/-- Whether a tree is a message's value. -/
noncomputable def treeB (s0 : List SE) (s1 : List SM) (name : ByteArray) (t : ST) : Bool :=
 decide (0 ≤ atM s1 name) && (slB s0 s1 (rd_T52 s1 (atM s1 name)).f1 none [] t.f0 && restB (rd_T52 s1 (atM s1 name)).f1 t.f1)
theorem atM_mem {s1 : List SM} {name : ByteArray} (h : 0 ≤ atM s1 name) : rd_T52 s1 (atM s1 name) ∈ s1 ∧ atM s1 name < s1.length := by
 have h1 := ixF_bd (fun x : SM => x.f0.toList == name.toList) s1 0
 have h2 : atM s1 name < s1.length := by unfold atM; omega
 obtain ⟨j, hj⟩ : ∃ j : Nat, atM s1 name = (j : Int) := ⟨(atM s1 name).toNat, by omega⟩
 refine ⟨?_, h2⟩
 rw [hj] at h2 ⊢
 rw [rdM]
 exact mem_getD _ (by omega)
theorem tree_v (hs : Sc s1) {name : ByteArray} {t : ST} (hl : t.f0.length ≤ 4398046511104) (hv : Vals s0 s1 t.f0) : E (vTree s0 s1 name t) (treeB s0 s1 name t) := by
 refine E.step ?_
 show E (fun k => valid_Tree.f (k + 1) _ _ _ _ _) _
 simp only [valid_Tree.f]
 refine E.bind0 (a := atM s1 name) rfl ?_
 unfold treeB
 by_cases h : 0 ≤ atM s1 name
 · have hm := atM_mem h
   rw [decide_eq_true h, Bool.true_and]
   refine E.yes h (E.yes h (E.yes hm.2 (E.bind (slots_v (hs.fs _ hm.1) hl hv) ?_)))
   cases slB s0 s1 (rd_T52 s1 (atM s1 name)).f1 none [] t.f0 with
   | false => exact E.no (by simp) E.const
   | true => exact E.yes rfl (E.bind0 (a := restB (rd_T52 s1 (atM s1 name)).f1 t.f1) rfl E.const)
 · rw [decide_eq_false h]
   exact E.no h E.const
theorem tree_r (hs : Sc s1) {name : ByteArray} {t : ST} (hl : t.f0.length ≤ 4398046511104) (hre : t.f1.length ≤ 9000000000000000000) (h0 : ∀ x ∈ t.f1, 0 ≤ x.f2) (hv : Vals s0 s1 t.f0) : E (rTree s0 s1 name t) (treeB s0 s1 name t) := by
 refine E.step ?_
 show E (fun k => ecdysisref20_Tree.f (k + 1) _ _ _ _ _) _
 simp only [ecdysisref20_Tree.f]
 refine E.bind (a := atM s1 name) (message_E s0 s1 name hs.n) ?_
 unfold treeB
 by_cases h : 0 ≤ atM s1 name
 · have hm := atM_mem h
   rw [decide_eq_true h, Bool.true_and]
   exact E.no (by omega) (E.yes h (E.yes hm.2 (slots_r (hs.fs _ hm.1) hl hre h0 hv)))
 · rw [decide_eq_false h]
   exact E.yes (by omega) E.const
end
section
open Go.Proofs.YtbpnfpckoapdbaaDoor.Ops
theorem reach : reachBytes = 140737488351232 := by decide
theorem u64_ge {n : Int} (h : (Lit.int .u64 n).wf = true) : 0 ≤ n ∧ n < 18446744073709551616 := by
 simp only [Lit.wf, Bool.and_eq_true, decide_eq_true_eq] at h
 obtain ⟨h1, h2⟩ := h
 have e1 : IntKind.u64.min = 0 := by decide
 have e2 : IntKind.u64.max = 18446744073709551615 := by decide
 omega
/-- Whatever a tree: the program and the document tell the same. -/
theorem level {s0 : List SE} {s1 : List SM} (hs : Sc s1) : ∀ (n : Nat) (t : ST), okT n t → Vals s0 s1 t.f0 ∧ ∀ name, E (vTree s0 s1 name t) (treeB s0 s1 name t) ∧ E (rTree s0 s1 name t) (treeB s0 s1 name t)
 | 0, t, h => h.elim
 | n + 1, t, h => by
  obtain ⟨⟨hl, hx⟩, hre, hr⟩ := h
  rw [reach] at hl hre
  have hv : Vals s0 s1 t.f0 := fun x hm => by
   obtain ⟨_, hlv, hvv⟩ := hx x hm
   rw [reach] at hlv
   refine ⟨by omega, fun f v hmv => ?_⟩
   obtain ⟨w0, w1, hlt, hlow⟩ := hvv v hmv
   rw [reach] at w1
   have h1 := val_v (s0 := s0) (s1 := s1) (f := f) (v := v) (T := treeB s0 s1) (u64_ge w0).1 (by omega) fun t ht => ((level hs n t (hlow t ht)).2 _).1
   have h2 := val_r (s0 := s0) (s1 := s1) (f := f) (v := v) (T := treeB s0 s1) (u64_ge w0).1 (by omega) fun t ht => ((level hs n t (hlow t ht)).2 _).2
   rw [vB_E h1]
   exact ⟨h1, h2⟩
  refine ⟨hv, fun name => ⟨tree_v hs (by omega) hv, tree_r hs (by omega) (by omega) (fun x hm => (u64_ge (hr x hm).2.2.1).1) hv⟩⟩
end
end Go.Proofs.YtbpnfpckoapdbaaDoor.P20
end
section
namespace Go.Proofs.YtbpnfpckoapdbaaDoor.Ops
open Go.RowKit Go.Proofs.YtbpnfpckoapdbaaDoorW.PrintWords Go.Proofs.YtbpnfpckoapdbaaDoor.KD Go.Proofs.YtbpnfpckoapdbaaDoor.Open
set_option linter.unusedVariables false
set_option maxHeartbeats 1000000
def ok54 (x : S54) : Prop := x.f0.size ≤ reachBytes ∧ (Lit.int .i64 x.f1).wf = true
theorem opens54 (fuel : Nat) : OpensW fuel Tryd.prog k54 ok54 54 := by
 have c0 : Tryd.prog.cellsOf 9 = Kd.string.sz := by kernel_rfl
 have c1 : Tryd.prog.cellsOf 3 = (Kd.int .i64).sz := by kernel_rfl
 refine (opensW_struct (P := Tryd.prog) (t := 54) (fuel := fuel) (d := (Kd.pair Kd.string ((Kd.int .i64)))) (Ok := fun x_ : ByteArray × Int => (x_.1).size ≤ reachBytes ∧ (Lit.int .i64 (x_.2)).wf = true) (mk := fun y => (⟨y.1, y.2⟩ : S54)) (proj := fun x => (x.f0, x.f1)) (fun _ => rfl) Tryd.underlying54 (by kernel_rfl) fun f_ e_ => ?_)
 refine fieldsW_cons (off' := 1) (Ok := fun x_ : ByteArray => x_.size ≤ reachBytes) (Ok' := fun x_ : Int => (Lit.int .i64 x_).wf = true) ?_ ?_ ?_ ?_ ?_
 · exact rfl
 · exact c0
 · exact (opensW_string Tryd.underlying9)
 · exact rfl
 refine fieldsW_last ?_ ?_ ?_
 · exact rfl
 · exact c1
 · exact ((opens_int Tryd.underlying3).toW _)
def ok48 (x : S48) : Prop := x.f0.size ≤ reachBytes ∧ (x.f1.length * 24 ≤ reachBytes ∧ ∀ y_ ∈ x.f1, ok54 y_)
theorem opens48 (fuel : Nat) : OpensW fuel Tryd.prog k48 ok48 48 := by
 have c0 : Tryd.prog.cellsOf 9 = Kd.string.sz := by kernel_rfl
 have c1 : Tryd.prog.cellsOf 46 = (Kd.slice 54 k54).sz := by kernel_rfl
 refine (opensW_struct (P := Tryd.prog) (t := 48) (fuel := fuel) (d := (Kd.pair Kd.string ((Kd.slice 54 k54)))) (Ok := fun x_ : ByteArray × (List S54) => (x_.1).size ≤ reachBytes ∧ ((x_.2).length * 24 ≤ reachBytes ∧ ∀ y_ ∈ (x_.2), ok54 y_)) (mk := fun y => (⟨y.1, y.2⟩ : S48)) (proj := fun x => (x.f0, x.f1)) (fun _ => rfl) Tryd.underlying48 (by kernel_rfl) fun f_ e_ => ?_)
 refine fieldsW_cons (off' := 1) (Ok := fun x_ : ByteArray => x_.size ≤ reachBytes) (Ok' := fun x_ : (List S54) => (x_.length * 24 ≤ reachBytes ∧ ∀ y_ ∈ x_, ok54 y_)) ?_ ?_ ?_ ?_ ?_
 · exact rfl
 · exact c0
 · exact (opensW_string Tryd.underlying9)
 · exact rfl
 refine fieldsW_last ?_ ?_ ?_
 · exact rfl
 · exact c1
 · exact (opensW_slice (B := 24) Tryd.underlying46 (by kernel_rfl) (by kernel_rfl) (fun _ _ => (opens54 _)))
def ok36 (x : S36) : Prop := x.f0.size ≤ reachBytes ∧ (Lit.int .i64 x.f1).wf = true ∧ (Lit.int .i64 x.f2).wf = true ∧ x.f3.size ≤ reachBytes ∧ True ∧ True ∧ x.f6.size ≤ reachBytes
theorem opens36 (fuel : Nat) : OpensW fuel Tryd.prog k36 ok36 36 := by
 have c0 : Tryd.prog.cellsOf 9 = Kd.string.sz := by kernel_rfl
 have c1 : Tryd.prog.cellsOf 3 = (Kd.int .i64).sz := by kernel_rfl
 have c2 : Tryd.prog.cellsOf 3 = (Kd.int .i64).sz := by kernel_rfl
 have c3 : Tryd.prog.cellsOf 9 = Kd.string.sz := by kernel_rfl
 have c4 : Tryd.prog.cellsOf 4 = Kd.bool.sz := by kernel_rfl
 have c5 : Tryd.prog.cellsOf 4 = Kd.bool.sz := by kernel_rfl
 have c6 : Tryd.prog.cellsOf 9 = Kd.string.sz := by kernel_rfl
 refine (opensW_struct (P := Tryd.prog) (t := 36) (fuel := fuel) (d := (Kd.pair Kd.string (Kd.pair (Kd.int .i64) (Kd.pair (Kd.int .i64) (Kd.pair Kd.string (Kd.pair Kd.bool (Kd.pair Kd.bool (Kd.string)))))))) (Ok := fun x_ : ByteArray × Int × Int × ByteArray × Bool × Bool × ByteArray => (x_.1).size ≤ reachBytes ∧ (Lit.int .i64 (x_.2.1)).wf = true ∧ (Lit.int .i64 (x_.2.2.1)).wf = true ∧ (x_.2.2.2.1).size ≤ reachBytes ∧ True ∧ True ∧ (x_.2.2.2.2.2.2).size ≤ reachBytes) (mk := fun y => (⟨y.1, y.2.1, y.2.2.1, y.2.2.2.1, y.2.2.2.2.1, y.2.2.2.2.2.1, y.2.2.2.2.2.2⟩ : S36)) (proj := fun x => (x.f0, x.f1, x.f2, x.f3, x.f4, x.f5, x.f6)) (fun _ => rfl) Tryd.underlying36 (by kernel_rfl) fun f_ e_ => ?_)
 refine fieldsW_cons (off' := 1) (Ok := fun x_ : ByteArray => x_.size ≤ reachBytes) (Ok' := fun x_ : Int × Int × ByteArray × Bool × Bool × ByteArray => (Lit.int .i64 (x_.1)).wf = true ∧ (Lit.int .i64 (x_.2.1)).wf = true ∧ (x_.2.2.1).size ≤ reachBytes ∧ True ∧ True ∧ (x_.2.2.2.2.2).size ≤ reachBytes) ?_ ?_ ?_ ?_ ?_
 · exact rfl
 · exact c0
 · exact (opensW_string Tryd.underlying9)
 · exact rfl
 refine fieldsW_cons (off' := 2) (Ok := fun x_ : Int => (Lit.int .i64 x_).wf = true) (Ok' := fun x_ : Int × ByteArray × Bool × Bool × ByteArray => (Lit.int .i64 (x_.1)).wf = true ∧ (x_.2.1).size ≤ reachBytes ∧ True ∧ True ∧ (x_.2.2.2.2).size ≤ reachBytes) ?_ ?_ ?_ ?_ ?_
 · exact rfl
 · exact c1
 · exact ((opens_int Tryd.underlying3).toW _)
 · exact rfl
 refine fieldsW_cons (off' := 3) (Ok := fun x_ : Int => (Lit.int .i64 x_).wf = true) (Ok' := fun x_ : ByteArray × Bool × Bool × ByteArray => (x_.1).size ≤ reachBytes ∧ True ∧ True ∧ (x_.2.2.2).size ≤ reachBytes) ?_ ?_ ?_ ?_ ?_
 · exact rfl
 · exact c2
 · exact ((opens_int Tryd.underlying3).toW _)
 · exact rfl
 refine fieldsW_cons (off' := 4) (Ok := fun x_ : ByteArray => x_.size ≤ reachBytes) (Ok' := fun x_ : Bool × Bool × ByteArray => True ∧ True ∧ (x_.2.2).size ≤ reachBytes) ?_ ?_ ?_ ?_ ?_
 · exact rfl
 · exact c3
 · exact (opensW_string Tryd.underlying9)
 · exact rfl
 refine fieldsW_cons (off' := 5) (Ok := fun x_ : Bool => True) (Ok' := fun x_ : Bool × ByteArray => True ∧ (x_.2).size ≤ reachBytes) ?_ ?_ ?_ ?_ ?_
 · exact rfl
 · exact c4
 · exact ((opens_bool Tryd.underlying4).toW _)
 · exact rfl
 refine fieldsW_cons (off' := 6) (Ok := fun x_ : Bool => True) (Ok' := fun x_ : ByteArray => x_.size ≤ reachBytes) ?_ ?_ ?_ ?_ ?_
 · exact rfl
 · exact c5
 · exact ((opens_bool Tryd.underlying4).toW _)
 · exact rfl
 refine fieldsW_last ?_ ?_ ?_
 · exact rfl
 · exact c6
 · exact (opensW_string Tryd.underlying9)
def ok52 (x : S52) : Prop := x.f0.size ≤ reachBytes ∧ (x.f1.length * 72 ≤ reachBytes ∧ ∀ y_ ∈ x.f1, ok36 y_) ∧ (x.f2.length * 8 ≤ reachBytes ∧ ∀ y_ ∈ x.f2, (Lit.int .i64 y_).wf = true)
theorem opens52 (fuel : Nat) : OpensW fuel Tryd.prog k52 ok52 52 := by
 have c0 : Tryd.prog.cellsOf 9 = Kd.string.sz := by kernel_rfl
 have c1 : Tryd.prog.cellsOf 49 = (Kd.slice 36 k36).sz := by kernel_rfl
 have c2 : Tryd.prog.cellsOf 50 = (Kd.slice 3 (Kd.int .i64)).sz := by kernel_rfl
 refine (opensW_struct (P := Tryd.prog) (t := 52) (fuel := fuel) (d := (Kd.pair Kd.string (Kd.pair (Kd.slice 36 k36) ((Kd.slice 3 (Kd.int .i64)))))) (Ok := fun x_ : ByteArray × (List S36) × (List Int) => (x_.1).size ≤ reachBytes ∧ ((x_.2.1).length * 72 ≤ reachBytes ∧ ∀ y_ ∈ (x_.2.1), ok36 y_) ∧ ((x_.2.2).length * 8 ≤ reachBytes ∧ ∀ y_ ∈ (x_.2.2), (Lit.int .i64 y_).wf = true)) (mk := fun y => (⟨y.1, y.2.1, y.2.2⟩ : S52)) (proj := fun x => (x.f0, x.f1, x.f2)) (fun _ => rfl) Tryd.underlying52 (by kernel_rfl) fun f_ e_ => ?_)
 refine fieldsW_cons (off' := 1) (Ok := fun x_ : ByteArray => x_.size ≤ reachBytes) (Ok' := fun x_ : (List S36) × (List Int) => ((x_.1).length * 72 ≤ reachBytes ∧ ∀ y_ ∈ (x_.1), ok36 y_) ∧ ((x_.2).length * 8 ≤ reachBytes ∧ ∀ y_ ∈ (x_.2), (Lit.int .i64 y_).wf = true)) ?_ ?_ ?_ ?_ ?_
 · exact rfl
 · exact c0
 · exact (opensW_string Tryd.underlying9)
 · exact rfl
 refine fieldsW_cons (off' := 2) (Ok := fun x_ : List S36 => (x_.length * 72 ≤ reachBytes ∧ ∀ y_ ∈ x_, ok36 y_)) (Ok' := fun x_ : (List Int) => (x_.length * 8 ≤ reachBytes ∧ ∀ y_ ∈ x_, (Lit.int .i64 y_).wf = true)) ?_ ?_ ?_ ?_ ?_
 · exact rfl
 · exact c1
 · exact (opensW_slice (B := 72) Tryd.underlying49 (by kernel_rfl) (by kernel_rfl) (fun _ _ => (opens36 _)))
 · exact rfl
 refine fieldsW_last ?_ ?_ ?_
 · exact rfl
 · exact c2
 · exact (opensW_slice (B := 8) Tryd.underlying50 (by kernel_rfl) (by kernel_rfl) (fun _ _ => ((opens_int Tryd.underlying3).toW _)))
def ok25 (x : S25) : Prop := (x.f0.length * 40 ≤ reachBytes ∧ ∀ y_ ∈ x.f0, ok48 y_) ∧ (x.f1.length * 64 ≤ reachBytes ∧ ∀ y_ ∈ x.f1, ok52 y_)
theorem opens25 (fuel : Nat) : OpensW fuel Tryd.prog k25 ok25 25 := by
 have c0 : Tryd.prog.cellsOf 22 = (Kd.slice 48 k48).sz := by kernel_rfl
 have c1 : Tryd.prog.cellsOf 23 = (Kd.slice 52 k52).sz := by kernel_rfl
 refine (opensW_struct (P := Tryd.prog) (t := 25) (fuel := fuel) (d := (Kd.pair (Kd.slice 48 k48) ((Kd.slice 52 k52)))) (Ok := fun x_ : (List S48) × (List S52) => ((x_.1).length * 40 ≤ reachBytes ∧ ∀ y_ ∈ (x_.1), ok48 y_) ∧ ((x_.2).length * 64 ≤ reachBytes ∧ ∀ y_ ∈ (x_.2), ok52 y_)) (mk := fun y => (⟨y.1, y.2⟩ : S25)) (proj := fun x => (x.f0, x.f1)) (fun _ => rfl) Tryd.underlying25 (by kernel_rfl) fun f_ e_ => ?_)
 refine fieldsW_cons (off' := 1) (Ok := fun x_ : List S48 => (x_.length * 40 ≤ reachBytes ∧ ∀ y_ ∈ x_, ok48 y_)) (Ok' := fun x_ : (List S52) => (x_.length * 64 ≤ reachBytes ∧ ∀ y_ ∈ x_, ok52 y_)) ?_ ?_ ?_ ?_ ?_
 · exact rfl
 · exact c0
 · exact (opensW_slice (B := 40) Tryd.underlying22 (by kernel_rfl) (by kernel_rfl) (fun _ _ => (opens48 _)))
 · exact rfl
 refine fieldsW_last ?_ ?_ ?_
 · exact rfl
 · exact c1
 · exact (opensW_slice (B := 64) Tryd.underlying23 (by kernel_rfl) (by kernel_rfl) (fun _ _ => (opens52 _)))
end Go.Proofs.YtbpnfpckoapdbaaDoor.Ops
end
section
namespace Go.Proofs.YtbpnfpckoapdbaaDoor.P20
open Go.RowKit Go.Proofs.YtbpnfpckoapdbaaDoorW.PrintWords Go.Proofs.YtbpnfpckoapdbaaDoorW.PrintLast Go.Proofs.YtbpnfpckoapdbaaDoorW.PrintMore Go.Proofs.YtbpnfpckoapdbaaDoor.KD Go.Proofs.YtbpnfpckoapdbaaDoor.M Go.Proofs.YtbpnfpckoapdbaaDoor.PV20 Go.Proofs.YtbpnfpckoapdbaaDoor.Ev Go.Proofs.YtbpnfpckoapdbaaDoor.Ops
set_option linter.unusedVariables false
set_option linter.unusedSimpArgs false
/-- It tells something. -/
def T {α : Type} (g : Nat → Option α) : Prop := ∃ r, E g r
theorem T.const {α : Type} {r : α} : T (fun _ => some r) := ⟨r, E.const⟩
theorem T.step {α : Type} {g : Nat → Option α} (h : T (fun k => g (k + 1))) : T g := ⟨h.choose, E.step h.choose_spec⟩
theorem T.yes {α : Type} {c : Prop} [Decidable c] {g h : Nat → Option α} (hc : c) (hg : T g) : T (fun k => if c then g k else h k) := ⟨hg.choose, E.yes hc hg.choose_spec⟩
theorem T.no {α : Type} {c : Prop} [Decidable c] {g h : Nat → Option α} (hc : ¬ c) (hh : T h) : T (fun k => if c then g k else h k) := ⟨hh.choose, E.no hc hh.choose_spec⟩
theorem T.ite {α : Type} {c : Prop} [Decidable c] {g h : Nat → Option α} (hg : c → T g) (hh : ¬ c → T h) : T (fun k => if c then g k else h k) := by
 by_cases hc : c
 · exact T.yes hc (hg hc)
 · exact T.no hc (hh hc)
theorem T.bind {α β : Type} {f : Nat → Option α} {g : Nat → α → Option β} (hf : T f) (hg : ∀ a, E f a → T (fun k => g k a)) : T (fun k => (f k).bind (g k)) := by
 obtain ⟨a, ha⟩ := hf
 obtain ⟨r, hr⟩ := hg a ha
 exact ⟨r, E.bind ha hr⟩
theorem w1' {i n : Nat} (h : i < n) (hn : n ≤ 140737488351232) : wrap64 ((i : Int) + 1) = ((i + 1 : Nat) : Int) := by unfold wrap64; omega
/-- A schema no greater than a machine's, whole. -/
structure Big (s0 : List SE) (s1 : List SM) : Prop where
 n0 : s0.length ≤ 140737488351232
 n1 : s1.length ≤ 140737488351232
 v0 : ∀ x ∈ s0, x.f1.length ≤ 140737488351232
 f1 : ∀ m ∈ s1, m.f1.length ≤ 140737488351232
theorem rdE_mem {s0 : List SE} {i : Nat} (h : i < s0.length) : rd_T48 s0 (i : Int) ∈ s0 := mem_getD z48 h
theorem rdM_mem {s1 : List SM} {i : Nat} (h : i < s1.length) : rd_T52 s1 (i : Int) ∈ s1 := mem_getD z52 h
theorem small_T {s0 : List SE} {s1 : List SM} (B : Big s0 s1) : T (fun k => ecdysisref15_Small.f k s0 s1) := by
 have l45 := up (C := fun i => T (fun k => ecdysisref15_Small.l4 k (i : Int) s0 s1)) s1.length (fun i hi => by
   refine T.step ?_
   simp only [ecdysisref15_Small.l4]
   exact T.no (by omega) T.const) (fun i hi ih => by
   refine T.step ?_
   simp only [ecdysisref15_Small.l4]
   refine T.yes (by omega) ?_
   have hm := B.f1 _ (rdM_mem hi)
   generalize hx : rd_T52 s1 (i : Int) = x at hm
   have inner := up (C := fun j => T (fun k => ecdysisref15_Small.l5 k (i : Int) (j : Int) s0 s1)) x.f1.length (fun j hj => by
    refine T.step ?_
    simp only [ecdysisref15_Small.l5, hx, w1' hi B.n1]
    exact T.yes (by omega) (T.yes (by omega) (T.no (by omega) ih))) (fun j hj ihj => by
    refine T.step ?_
    simp only [ecdysisref15_Small.l5, hx, w1' hi B.n1, w1' hj hm]
    exact T.yes (by omega) (T.yes (by omega) (T.yes (by omega) (T.yes (by omega) (T.ite (fun _ => T.const) fun _ => T.ite (fun _ => T.const) fun _ => T.ite (fun _ => T.const) fun _ => ihj))))) 0
   exact inner) 0
 have l23 := up (C := fun i => T (fun k => ecdysisref15_Small.l2 k (i : Int) s0 s1)) s0.length (fun i hi => by
   refine T.step ?_
   simp only [ecdysisref15_Small.l2]
   exact T.no (by omega) l45) (fun i hi ih => by
   refine T.step ?_
   simp only [ecdysisref15_Small.l2]
   refine T.yes (by omega) ?_
   have hm := B.v0 _ (rdE_mem hi)
   generalize hx : rd_T48 s0 (i : Int) = x at hm
   have inner := up (C := fun j => T (fun k => ecdysisref15_Small.l3 k (i : Int) (j : Int) s0 s1)) x.f1.length (fun j hj => by
    refine T.step ?_
    simp only [ecdysisref15_Small.l3, hx, w1' hi B.n0]
    exact T.yes (by omega) (T.yes (by omega) (T.no (by omega) ih))) (fun j hj ihj => by
    refine T.step ?_
    simp only [ecdysisref15_Small.l3, hx, w1' hi B.n0, w1' hj hm]
    exact T.yes (by omega) (T.yes (by omega) (T.yes (by omega) (T.yes (by omega) (T.ite (fun _ => T.const) fun _ => ihj))))) 0
   exact inner) 0
 have j3 : ∀ x, T (fun k => ecdysisref15_Small.j3 k x s0 s1) := fun x => by
  refine T.step ?_
  simp only [ecdysisref15_Small.j3]
  exact T.ite (fun _ => T.const) fun _ => l23
 have l1 := up (C := fun i => ∀ x, T (fun k => ecdysisref15_Small.l1 k x (i : Int) s0 s1)) s1.length (fun i hi x => by
   refine T.step ?_
   simp only [ecdysisref15_Small.l1]
   exact T.no (by omega) (j3 x)) (fun i hi ih x => by
   refine T.step ?_
   simp only [ecdysisref15_Small.l1, w1' hi B.n1]
   exact T.yes (by omega) (T.ite (fun _ => T.yes (by omega) (ih _)) fun _ => j3 x)) 0
 have j1 : ∀ x, T (fun k => ecdysisref15_Small.j1 k x s0 s1) := fun x => by
  refine T.step ?_
  simp only [ecdysisref15_Small.j1]
  exact l1 x
 have l0 := up (C := fun i => ∀ x, T (fun k => ecdysisref15_Small.l0 k x (i : Int) s0 s1)) s0.length (fun i hi x => by
   refine T.step ?_
   simp only [ecdysisref15_Small.l0]
   exact T.no (by omega) (j1 x)) (fun i hi ih x => by
   refine T.step ?_
   simp only [ecdysisref15_Small.l0, w1' hi B.n0]
   exact T.yes (by omega) (T.ite (fun _ => T.yes (by omega) (ih _)) fun _ => j1 x)) 0
 exact l0 _
theorem left_T : ∀ (n : Nat) (t : ST), okT n t → ∀ a d, T (fun k => ecdysisref19_left.f k t.f0 t.f1 a d)
 | 0, t, h => h.elim
 | n + 1, t, h => by
  obtain ⟨⟨hl, hx⟩, hre, hr⟩ := h
  rw [reach] at hl hre
  intro a d
  have l1 := up (C := fun i => ∀ a, T (fun k => ecdysisref19_left.l1 k a d (i : Int) t.f0 t.f1)) t.f0.length (fun i hi a => by
   refine T.step ?_
   simp only [ecdysisref19_left.l1]
   refine T.no (by omega) (T.step ?_)
   simp only [ecdysisref19_left.j3]
   exact T.no (by simp) T.const) (fun i hi ih a => by
   have hs := hx _ (mem_getD z43 hi)
   have hrd : rd_T43 t.f0 (i : Int) = t.f0.getD i z43 := rfl
   generalize t.f0.getD i z43 = x at hs hrd
   obtain ⟨_, hvl, hvv⟩ := hs
   rw [reach] at hvl
   have l2 := up (C := fun j => ∀ a, T (fun k => ecdysisref19_left.l2 k a d (i : Int) (j : Int) t.f0 t.f1)) x.f1.length (fun j hj a => by
    refine T.step ?_
    simp only [ecdysisref19_left.l2, hrd]
    refine T.yes (by omega) (T.yes (by omega) (T.no (by omega) (T.step ?_)))
    simp only [ecdysisref19_left.j5, w1' hi (by omega : t.f0.length ≤ 140737488351232)]
    exact T.no (by simp) (ih a)) (fun j hj ihj a => by
    have hv := hvv _ (mem_getD z40 hj)
    have hrv : rd_T40 x.f1 (j : Int) = x.f1.getD j z40 := rfl
    generalize x.f1.getD j z40 = v at hv hrv
    obtain ⟨_, _, hml, hmm⟩ := hv
    rw [reach] at hml
    have l3 := up (C := fun m => ∀ a, T (fun k => ecdysisref19_left.l3 k a d (i : Int) (j : Int) (m : Int) t.f0 t.f1)) v.f2.length (fun m hm a => by
     refine T.step ?_
     simp only [ecdysisref19_left.l3, hrd, hrv, w1' hj (by omega : x.f1.length ≤ 140737488351232)]
     exact T.yes (by omega) (T.yes (by omega) (T.yes (by omega) (T.yes (by omega) (T.no (by omega) (ihj a)))))) (fun m hm ihm a => by
     have ht := hmm _ (mem_getD z29 hm)
     have hrt : rd_T29 v.f2 (m : Int) = v.f2.getD m z29 := rfl
     generalize v.f2.getD m z29 = y at ht hrt
     refine T.step ?_
     simp only [ecdysisref19_left.l3, hrd, hrv, hrt, w1' hj (by omega : x.f1.length ≤ 140737488351232), w1' hm (by omega : v.f2.length ≤ 140737488351232)]
     exact T.yes (by omega) (T.yes (by omega) (T.yes (by omega) (T.yes (by omega) (T.yes (by omega) (T.ite (fun _ => T.yes (by omega) (T.bind (left_T n y ht _ _) fun b _ => ihm b)) fun _ => ihj a)))))) 0
    refine T.step ?_
    simp only [ecdysisref19_left.l2, hrd]
    refine T.yes (by omega) (T.yes (by omega) (T.yes (by omega) (T.step ?_)))
    simp only [ecdysisref19_left.j5, hrd, hrv, w1' hi (by omega : t.f0.length ≤ 140737488351232)]
    exact T.ite (fun _ => T.yes (by omega) (T.yes (by omega) (T.yes (by omega) (T.yes (by omega) (l3 _))))) fun _ => ih a) 0
   refine T.step ?_
   simp only [ecdysisref19_left.l1]
   refine T.yes (by omega) (T.step ?_)
   simp only [ecdysisref19_left.j3, hrd]
   exact T.ite (fun _ => T.yes (by omega) (T.yes (by omega) (l2 _))) fun _ => T.const) 0
  have l0 := up (C := fun i => ∀ a, T (fun k => ecdysisref19_left.l0 k a d (i : Int) t.f0 t.f1)) t.f1.length (fun i hi a => by
   refine T.step ?_
   simp only [ecdysisref19_left.l0]
   refine T.no (by omega) (T.step ?_)
   simp only [ecdysisref19_left.j1]
   exact l1 a) (fun i hi ih a => by
   refine T.step ?_
   simp only [ecdysisref19_left.l0, w1' hi (by omega : t.f1.length ≤ 140737488351232)]
   refine T.yes (by omega) (T.ite (fun _ => T.yes (by omega) (ih _)) fun _ => T.step ?_)
   simp only [ecdysisref19_left.j1]
   exact l1 a) 0
  refine T.step ?_
  show T (fun k => ecdysisref19_left.f (k + 1) _ _ _ _)
  simp only [ecdysisref19_left.f]
  exact T.ite (fun _ => T.const) fun _ => l0 _
theorem small19_T {n : Nat} {t : ST} (h : okT n t) : T (fun k => ecdysisref19_Small.f k t.f0 t.f1) := T.bind (left_T n t h 400 40) fun b _ => T.const
def lvSch : List SM := [⟨⟨#[77]⟩, [⟨⟨#[97]⟩, 1, 1, ⟨#[]⟩, false, false, ⟨#[]⟩⟩], []⟩]
def lvTree (n : Int) : ST := ⟨[⟨1, [⟨n, ⟨#[]⟩, []⟩]⟩], []⟩
theorem lvSc : Sc lvSch := ⟨by decide, fun m hm => by
 obtain rfl := List.mem_singleton.1 hm
 exact ⟨by decide, fun f hf => by obtain rfl := List.mem_singleton.1 hf; decide⟩⟩
theorem lvOk {n : Int} (h : (Lit.int .u64 n).wf = true) : okT 2 (lvTree n) := by
 refine ⟨⟨by show 1 * 32 ≤ _; decide, fun x hx => ?_⟩, by show 0 * 40 ≤ _; decide, fun x hx => by cases hx⟩
 obtain rfl := List.mem_singleton.1 hx
 refine ⟨by show (Lit.int .i64 1).wf = true; decide, by show 1 * 48 ≤ _; decide, fun v hv => ?_⟩
 obtain rfl := List.mem_singleton.1 hv
 exact ⟨h, by show (0 : Nat) ≤ _; decide, by show 0 * 48 ≤ _; decide, fun y hy => by cases hy⟩
theorem lv_B {n : Int} (h : (Lit.int .u64 n).wf = true) (hf : fit32 n = true) : treeB [] lvSch ⟨#[77]⟩ (lvTree n) = decide (n ≠ 0) := by
 have hv : vB [] lvSch ⟨⟨#[97]⟩, 1, 1, ⟨#[]⟩, false, false, ⟨#[]⟩⟩ ⟨n, ⟨#[]⟩, []⟩ = true := by
  refine vB_E ?_
  have h1 := val_v (s0 := []) (s1 := lvSch) (f := ⟨⟨#[97]⟩, 1, 1, ⟨#[]⟩, false, false, ⟨#[]⟩⟩) (v := ⟨n, ⟨#[]⟩, []⟩) (T := fun _ _ => false) (u64_ge h).1 (by show (0 : Nat) ≤ _; decide) (fun t ht => by cases ht)
  have h2 : valB (fun _ _ => false) ⟨⟨#[97]⟩, 1, 1, ⟨#[]⟩, false, false, ⟨#[]⟩⟩ ⟨n, ⟨#[]⟩, []⟩ = true := by
   simp [valB, numB, mayB, wideB, sgnB, hf, ByteArray.toList_eq]
  rw [h2] at h1
  exact h1
 have ha : atM lvSch ⟨#[77]⟩ = 0 := by simp [atM, lvSch, ixF, ByteArray.toList_eq]
 have hm : rd_T52 lvSch 0 = ⟨⟨#[77]⟩, [⟨⟨#[97]⟩, 1, 1, ⟨#[]⟩, false, false, ⟨#[]⟩⟩], []⟩ := rfl
 have hat : atF [⟨⟨#[97]⟩, 1, 1, ⟨#[]⟩, false, false, ⟨#[]⟩⟩] 1 = 0 := by simp [atF, ixF]
 have hfl : fld [⟨⟨#[97]⟩, 1, 1, ⟨#[]⟩, false, false, ⟨#[]⟩⟩] 1 = ⟨⟨#[97]⟩, 1, 1, ⟨#[]⟩, false, false, ⟨#[]⟩⟩ := by unfold fld; rw [hat]; rfl
 unfold treeB
 rw [ha, hm]
 simp only [lvTree, slB, hat, hfl, restB, valsB, oneB, List.all_cons, List.all_nil, hv, okNum, fresh, hidB, ByteArray.toList_eq]
 by_cases hn : n = 0 <;> simp [hn]
theorem live_E : E (fun k => ecdysislaw20_live.f k) true := by
 have h5 := (level (s0 := []) lvSc 2 (lvTree 5) (lvOk (by decide))).2 ⟨#[77]⟩ |>.1
 have h0 := (level (s0 := []) lvSc 2 (lvTree 0) (lvOk (by decide))).2 ⟨#[77]⟩ |>.1
 rw [lv_B (by decide) (by unfold fit32 wrap64; decide)] at h5
 rw [lv_B (by decide) (by unfold fit32 wrap64; decide)] at h0
 unfold ecdysislaw20_live.f
 refine E.bind0 rfl (E.bind h5 (E.yes rfl (E.bind h0 E.const)))
/-- Everything that comes in, no greater than a machine's. -/
structure In (s0 : List SE) (s1 : List SM) : Prop where
 big : Big s0 s1
 sc : Sc s1
theorem In.mk' {s : S25} (h : ok25 s) : In s.f0 s.f1 := by
 obtain ⟨⟨h0, h1⟩, h2, h3⟩ := h
 rw [reach] at h0 h2
 refine ⟨⟨by omega, by omega, fun x hx => ?_, fun m hm => ?_⟩, ⟨by omega, fun m hm => ⟨?_, fun f hf => ?_⟩⟩⟩
 · have := (h1 x hx).2.1
   rw [reach] at this; omega
 · have := (h3 m hm).2.1.1
   rw [reach] at this; omega
 · have := (h3 m hm).2.1.1
   rw [reach] at this; omega
 · have := ((h3 m hm).2.1.2 f hf).2.2.2.2.2.2
   rw [reach] at this; exact this
theorem live_some : E (fun k => (ecdysislaw20_live.f k).bind fun t => some t) true := E.bind live_E E.const
theorem ValidTrees {s0 : List SE} {s1 : List SM} {name : ByteArray} {t : ST} {n : Nat} (hs : In s0 s1) (ht : okT n t) : ∃ k, ecdysislaw20_ValidTrees.f k s0 s1 name t.f0 t.f1 = some true := by
 have same : E (fun k => ecdysislaw20_ValidTrees.j0 k name false s0 s1 t.f0 t.f1) true := by
  have hh := (level (s0 := s0) hs.sc n t ht).2 name
  refine E.step ?_
  simp only [ecdysislaw20_ValidTrees.j0]
  exact E.no (by simp) (E.bind hh.1 (E.bind hh.2 (E.yes (by simp) live_some)))
 have other : E (fun k => ecdysislaw20_ValidTrees.j0 k name true s0 s1 t.f0 t.f1) true := by
  refine E.step ?_
  simp only [ecdysislaw20_ValidTrees.j0]
  exact E.yes trivial live_some
 obtain ⟨b, hb⟩ := small_T hs.big
 obtain ⟨c, hc⟩ := small19_T ht
 refine E.get ?_
 refine E.bind hb ?_
 cases b with
 | false => exact E.no (by simp) other
 | true =>
  refine E.yes rfl (E.bind hc ?_)
  cases c with
  | false => exact other
  | true => exact same
end Go.Proofs.YtbpnfpckoapdbaaDoor.P20
end
section
namespace Go.Proofs.YtbpnfpckoapdbaaDoor.validTrees
open Go.ChangeShapes Go.WideShapes Go.ChangeAt Go.RowKit Go.Lib
open Go.ChangeMaps (open_string shut_string)
open Go.Proofs.YtbpnfpckoapdbaaDoor.KD Go.Proofs.YtbpnfpckoapdbaaDoorW.PrintWords
set_option linter.unusedVariables false
theorem own : ownKnob Tryd.prog.godebug = none := by kernel_rfl
theorem laidOut : laidOutB Tryd.prog = true := by kernel_rfl
theorem first_is : Rows.laid_unicode_utf8_first = Lib.firstData := by kernel_rfl
theorem accept_is : (Rows.laid_unicode_utf8_acceptRanges : DataW Unit) = Lib.acceptData := by kernel_rfl
/-- What the condition gives the walks: the tables. -/
theorem tabs {W : World} (h : laidMetH Tryd.prog Rows.validTreesRow.laid W) : M.Tabs W := by
 rw [MakeChecks.laidMetH_plain _ _ _ (by kernel_rfl)] at h
 exact utf8Tabs_of_readsT (U8Types.of196 Tryd.laysValid) ⟨by kernel_rfl, by kernel_rfl, by kernel_rfl, by kernel_rfl, by kernel_rfl, by kernel_rfl, by kernel_rfl⟩
  (first_is ▸ Lib.laidMet.reads h (.tail _ (.head _))) (accept_is ▸ Lib.laidMet.reads h (.head _))
set_option maxRecDepth 100000 in
theorem lifted (os : Os) (started : os.Started) (H : Type) (enc : TypeId × Value → H) :
  ReturnsInHanded {} Tryd.checked os 3 .any (fun w args => (Rows.validTreesSpec.pre enc Tryd.prog Tryd.f3 Rows.validTreesRow.domain false w args ∧ laidMetH Tryd.prog Rows.validTreesRow.laid w) ∧ sizedMet enc Tryd.prog Tryd.f3 (OpenSpec.ofChange Rows.validTreesSpec) false w args) (Rows.validTreesSpec.post enc Tryd.prog Tryd.f3 false true false false) := by
 refine returnsInHanded_of_change_and (C := Tryd.checked) (X := fun w _ => laidMetH Tryd.prog Rows.validTreesRow.laid w) (fun _ _ _ hh h => h.of_heap hh) own started (by kernel_rfl) Tryd.func3
  (ChangeSpec.witness_shaped (enc := enc) (C := Tryd.checked) (os := os) (X := fun w _ => laidMetH Tryd.prog Rows.validTreesRow.laid w) false (World.laidAll Tryd.prog os Rows.validTreesRow.laid) #[.agg #[.slice none 0 0, .slice none 0 0], .string ByteArray.empty, .agg #[.slice none 0 0, .slice none 0 0]] 8 (World.laidAll_os _ _ _)
   (World.shaped_of_ZipB (by kernel_rfl) (by kernel_rfl)) (by kernel_rfl) (by kernel_rfl) (by kernel_rfl)
   (by rw [MakeChecks.laidMetH_plain _ _ _ (by kernel_rfl)]; exact laidMet_laidAll _ (by kernel_rfl) (by kernel_rfl))) ?_
 intro W base args ds gs before hval0 hW hcnd hsz0 hL _
 have hT := tabs hL
 have hsz : (DataW.weightsEach Tryd.prog (Tryd.f3.params.toList ++ Rows.validTreesSpec.plain.varTypes Tryd.prog) (ds ++ gs)).all (· ≤ reachBytes) = true := hsz0
 have hval : ∀ (j : Nat) t v, Tryd.f3.params[j]? = some t → args[j]? = some v → Value.okWide Tryd.prog W .any base t v := hval0
 have hW' := hW
 obtain ⟨p, q, hA0, hV, rfl, hfz, hnd⟩ := hW
 have hA : DataW.TrodAll enc Tryd.prog W 0 (fun _ => true) true Tryd.f3.params.toList args.toList ds p := hA0
 rw [Tryd.params3] at hA hval hsz
 obtain ⟨v0, vs0, d0, ds0, p0, q0, hargs, rfl, rfl, h0, r0⟩ := trodAll_cons hA
 obtain ⟨v1, vs1, d1, ds1, p1, q1, rfl, rfl, rfl, h1, r1⟩ := trodAll_cons r0
 obtain ⟨v2, vs2, d2, ds2, p2, q2, rfl, rfl, rfl, h2, r2⟩ := trodAll_cons r1
 obtain ⟨rfl, rfl, rfl⟩ := trodAll_nil r2
 obtain rfl : args = #[v0, v1, v2] := by cases args; simp_all
 obtain ⟨rfl, rfl⟩ := trodVars_none hV
 obtain ⟨cs0, rfl, _⟩ := okWide_struct Tryd.underlying25 (hval 0 25 v0 rfl rfl)
 have k0 := h0
 have lt0 : ∀ x ∈ p0, x.block < W.heap.size := by obtain ⟨m, hm⟩ := k0; exact DataW.trod_lt m _ _ _ hm
 have li0 : Open.Light Tryd.prog 25 d0 := fun n hn => by simpa using List.all_eq_true.1 hsz n (DataW.weights_mem_each (j := 0) rfl rfl n hn)
 obtain ⟨fu0, hf0⟩ := h0
 obtain ⟨y0, hk0, w0⟩ := Ops.opens25 fu0 _ enc W 0 (fun _ => true) true _ _ hf0 li0
 have ec0 : (Value.agg cs0).cells.toList.toArray = cs0 := by simp [Value.cells]
 obtain ⟨A0_0, c0_0, A0_1, c0_1, hcs0, hl0_0, hc0_0, hl0_1, hc0_1⟩ := k25_open hk0
 rw [hcs0] at ec0
 obtain ⟨a1, rfl, rfl, rfl, y1⟩ := open_string Tryd.underlying9 (hval 1 9 v1 rfl rfl) h1
 obtain ⟨cs2, rfl, _⟩ := okWide_struct Tryd.underlying29 (hval 2 29 v2 rfl rfl)
 have k2 := h2
 have lt2 : ∀ x ∈ p2, x.block < W.heap.size := by obtain ⟨m, hm⟩ := k2; exact DataW.trod_lt m _ _ _ hm
 have li2 : Open.Light Tryd.prog 29 d2 := fun n hn => by simpa using List.all_eq_true.1 hsz n (DataW.weights_mem_each (j := 2) rfl rfl n hn)
 obtain ⟨fu2, hf2⟩ := h2
 obtain ⟨y2, hk2, w2⟩ := Ops.opensT fu2 fu2 (Nat.le_refl _) _ enc W 0 (fun _ => true) true _ _ hf2 li2
 have ec2 : (Value.agg cs2).cells.toList.toArray = cs2 := by simp [Value.cells]
 obtain ⟨A2_0, c2_0, A2_1, c2_1, hcs2, hl2_0, hc2_0, hl2_1, hc2_1⟩ := k29_open hk2
 rw [hcs2] at ec2
 clear hA0 hval0 hsz0 hsz hL
 obtain ⟨k, hP⟩ := (P20.ValidTrees (name := a1) (P20.In.mk' w0) w2)
 have hcall := PV20.ecdysislaw20_ValidTrees.calls k A0_0 c0_0 y0.f0 A0_1 c0_1 y0.f1 a1 A2_0 c2_0 y2.f0 A2_1 c2_1 y2.f1 true W hT hc0_0 hl0_0 hc0_1 hl0_1 hc2_0 hl2_0 hc2_1 hl2_1 hP
 have ec0' := ec0.symm
 subst ec0'
 have ec2' := ec2.symm
 subst ec2'
 refine hcall.mono fun e W' ⟨he, bel0⟩ => ?_
 have bel : Below W.heap.size W W' := bel0
 subst he
 exact ⟨_, rfl, _, _, _, [], _, [], hW', trodAll_mk1 (shut_bool Tryd.underlying4 _), (trodAll_cons_mk (Below.trod laidOut (by kernel_rfl) (of_decide_eq_true (by kernel_rfl)) k0 bel lt0) (trodAll_cons_mk (shut_string Tryd.underlying9 y1) (trodAll_cons_mk (Below.trod laidOut (by kernel_rfl) (of_decide_eq_true (by kernel_rfl)) k2 bel lt2) trodAll_mk0))), rfl, bel.frame _, fun h => by cases h⟩
theorem over : Rows.validTreesRow.holds Tryd.pinned (OpenSpec.ofChange Rows.validTreesSpec) :=
 OpenClaim.holds_of_wide 3 Tryd.f3 rfl rfl rfl rfl rfl rfl rfl ⟨rfl, rfl, rfl, rfl, rfl⟩ rfl rfl rfl rfl rfl (by kernel_rfl) Tryd.func3 (by kernel_rfl)
  (of_decide_eq_true (by kernel_rfl)) (by unfold Func.isWrapper; first | (rw [if_pos (by decide +kernel)]; kernel_rfl) | (rw [if_neg (by decide +kernel)]; exact ⟨rfl, rfl⟩))
  (fun os started H enc _ => lifted os started H enc)
theorem proved : Rows.ValidTreesSaid := over
theorem card_proved : Rows.ValidTreesCardSaid :=
 Claim7.holds_tied_plain_at .later [] [.data, .pinned] true Rows.validTreesCard.stood.harness false
  over (fun _ h => by cases h) (by kernel_rfl) (fun _ h => by cases h) validTrees_row_tie rfl ⟨rfl, rfl⟩ (by kernel_rfl) rfl
  (fun f fn hf hfn => by
   obtain rfl : f = 3 := Option.some.inj ((show Tryd.prog.funcNamed Rows.validTreesRow.func = some 3 by kernel_rfl).symm.trans hf) |>.symm
   obtain rfl : fn = Tryd.f3 := (Option.some.inj (Tryd.func3.symm.trans hfn)).symm
   exact ⟨by kernel_rfl, fun j t ht => by
    rw [Tryd.params3] at ht
    have hm : t ∈ [25, 9, 29] := by simpa using Array.mem_of_getElem? ht
    have hall : ([25, 9, 29].all fun u => !Tryd.prog.wantsStandIn u) = true := by kernel_rfl
    exact (show Tryd.prog.wantsStandIn t = false by simpa using List.all_eq_true.1 hall t hm)⟩)
  (by kernel_rfl)
#print axioms card_proved
end Go.Proofs.YtbpnfpckoapdbaaDoor.validTrees
namespace Go.Proofs.YtbpnfpckoapdbaaDoor
/-- The tied card, under a short name, for the claim. -/
theorem validTrees_holds : Rows.ValidTreesCardSaid := validTrees.card_proved
end Go.Proofs.YtbpnfpckoapdbaaDoor
end

/- What messages a schema has, plainly; conditions stand at each. -/
import Derived.Test.YtbpnfpckoapdbaaPF16x2
import Derived.Test.YtbpnfpckoapdbaaPF16x1
import Derived.Test.YtbpnfpckoapdbaaEv
namespace Go.Proofs.Ytbpnfpckoapdbaa.P16
open Go.RowKit Go.Proofs.YtbpnfpckoapdbaaW.PrintWords Go.Proofs.YtbpnfpckoapdbaaW.PrintLast Go.Proofs.YtbpnfpckoapdbaaW.PrintMore Go.Proofs.Ytbpnfpckoapdbaa.KD Go.Proofs.Ytbpnfpckoapdbaa.M Go.Proofs.Ytbpnfpckoapdbaa.PF16 Go.Proofs.Ytbpnfpckoapdbaa.Ev
set_option linter.unusedVariables false
set_option linter.unusedSimpArgs false
abbrev SE := S86
abbrev SM := S47
abbrev SF := S50
theorem rdM (xs : List SM) (i : Nat) : rd_T47 xs (i : Int) = xs.getD i z47 := rfl
theorem rdE (xs : List SE) (i : Nat) : rd_T86 xs (i : Int) = xs.getD i z86 := rfl
theorem rdF (xs : List SF) (i : Nat) : rd_T50 xs (i : Int) = xs.getD i z50 := rfl
theorem toL {x y : ByteArray} : (x.toList == y.toList) = true ↔ x.toList = y.toList := by simp
theorem ixF_cons {α : Type} (p : α → Bool) (x : α) (l : List α) (i : Nat) : ixF p (x :: l) i = if p x = true then (i : Int) else ixF p l (i + 1) := rfl
theorem message_E (l0 : List SE) (l1 : List SM) (a : ByteArray) (h : l1.length ≤ 9000000000000000000) : E (fun k => ecdysisref15_Message.f k l0 l1 a) (ixF (fun x => x.f0.toList == a.toList) l1 0) := by
  have key := up (C := fun i => E (fun k => ecdysisref15_Message.l0 k a (i : Int) l0 l1) (ixF (fun x => x.f0.toList == a.toList) (l1.drop i) i)) l1.length (fun i hi => ?_) (fun i hi ih => ?_) 0
  · exact key
  · rw [List.drop_eq_nil_of_le hi]
    exact E.succ E.const fun k => by simp only [ecdysisref15_Message.l0]; rw [if_neg (by omega)]; rfl
  · rw [drop_getD z47 hi, ixF_cons]
    by_cases he : ((l1.getD i z47).f0.toList == a.toList) = true
    · rw [if_pos he]
      exact E.succ E.const fun k => by simp only [ecdysisref15_Message.l0]; rw [if_pos (by omega), if_pos (by omega), rdM, if_pos (toL.1 he)]
    · rw [if_neg he]
      exact E.succ ih fun k => by simp only [ecdysisref15_Message.l0]; rw [if_pos (by omega), if_pos (by omega), rdM, if_neg (fun h => he (toL.2 h)), w1 hi h]
theorem refsL_cons (x : SF) (l : List SF) : refsL (x :: l) = if x.f2 = 15 then x.f3 :: refsL l else refsL l := by
  unfold refsL
  rw [List.filter_cons]
  by_cases h : x.f2 = 15 <;> simp [h]
theorem names_E (l : List ByteArray) (h : l.length ≤ 9000000000000000000) : E (fun k => ecdysisref01_Names.f k l l) true := by
  have key := up (C := fun i => E (fun k => ecdysisref01_Names.l0 k l l (i : Int)) true) l.length (fun i hi => ?_) (fun i hi ih => ?_) 0
  · exact E.yes rfl key
  · exact E.succ E.const fun k => by simp only [ecdysisref01_Names.l0]; rw [if_neg (by omega)]
  · exact E.succ ih fun k => by simp only [ecdysisref01_Names.l0]; rw [if_pos (by omega), if_pos (by omega), if_pos (by omega), if_pos trivial, w1 hi h]
end Go.Proofs.Ytbpnfpckoapdbaa.P16

/- The places of messages, enums and fields: the program's and the document's, plainly; conditions stand at each. -/
import Derived.Test.YtbpnfpckoapdbaaPF16x5
import Derived.Test.YtbpnfpckoapdbaaEv
namespace Go.Proofs.Ytbpnfpckoapdbaa.P16
open Go.RowKit Go.Proofs.YtbpnfpckoapdbaaW.PrintWords Go.Proofs.YtbpnfpckoapdbaaW.PrintLast Go.Proofs.YtbpnfpckoapdbaaW.PrintMore Go.Proofs.Ytbpnfpckoapdbaa.KD Go.Proofs.Ytbpnfpckoapdbaa.M Go.Proofs.Ytbpnfpckoapdbaa.PF16 Go.Proofs.Ytbpnfpckoapdbaa.Ev
set_option linter.unusedVariables false
set_option linter.unusedSimpArgs false
abbrev SE := S86
abbrev SM := S47
abbrev SF := S50
theorem rdM (xs : List SM) (i : Nat) : rd_T47 xs (i : Int) = xs.getD i z47 := rfl
theorem rdE (xs : List SE) (i : Nat) : rd_T86 xs (i : Int) = xs.getD i z86 := rfl
theorem rdF (xs : List SF) (i : Nat) : rd_T50 xs (i : Int) = xs.getD i z50 := rfl
theorem toL {x y : ByteArray} : (x.toList == y.toList) = true ↔ x.toList = y.toList := by simp
theorem ixF_cons {α : Type} (p : α → Bool) (x : α) (l : List α) (i : Nat) : ixF p (x :: l) i = if p x = true then (i : Int) else ixF p l (i + 1) := rfl
theorem message_E (l0 : List SE) (l1 : List SM) (a : ByteArray) (h : l1.length ≤ 9000000000000000000) : E (fun k => ecdysisref15_Message.f k l0 l1 a) (ixF (fun x => x.f0.toList == a.toList) l1 0) := by
  have key := up (C := fun i => E (fun k => ecdysisref15_Message.l0 k a (i : Int) l0 l1) (ixF (fun x => x.f0.toList == a.toList) (l1.drop i) i)) l1.length (fun i hi => ?_) (fun i hi ih => ?_) 0
  · exact key
  · rw [List.drop_eq_nil_of_le hi]
    exact E.succ E.const fun k => by simp only [ecdysisref15_Message.l0]; rw [if_neg (by omega)]; rfl
  · rw [drop_getD z47 hi, ixF_cons]
    by_cases he : ((l1.getD i z47).f0.toList == a.toList) = true
    · rw [if_pos he]
      exact E.succ E.const fun k => by simp only [ecdysisref15_Message.l0]; rw [if_pos (by omega), if_pos (by omega), rdM, if_pos (toL.1 he)]
    · rw [if_neg he]
      exact E.succ ih fun k => by simp only [ecdysisref15_Message.l0]; rw [if_pos (by omega), if_pos (by omega), rdM, if_neg (fun h => he (toL.2 h)), w1 hi h]
theorem enum_E (l0 : List SE) (l1 : List SM) (a : ByteArray) (h : l0.length ≤ 9000000000000000000) : E (fun k => ecdysisref15_Enum.f k l0 l1 a) (ixF (fun x => x.f0.toList == a.toList) l0 0) := by
  have key := up (C := fun i => E (fun k => ecdysisref15_Enum.l0 k a (i : Int) l0 l1) (ixF (fun x => x.f0.toList == a.toList) (l0.drop i) i)) l0.length (fun i hi => ?_) (fun i hi ih => ?_) 0
  · exact key
  · rw [List.drop_eq_nil_of_le hi]
    exact E.succ E.const fun k => by simp only [ecdysisref15_Enum.l0]; rw [if_neg (by omega)]; rfl
  · rw [drop_getD z86 hi, ixF_cons]
    by_cases he : ((l0.getD i z86).f0.toList == a.toList) = true
    · rw [if_pos he]
      exact E.succ E.const fun k => by simp only [ecdysisref15_Enum.l0]; rw [if_pos (by omega), if_pos (by omega), rdE, if_pos (toL.1 he)]
    · rw [if_neg he]
      exact E.succ ih fun k => by simp only [ecdysisref15_Enum.l0]; rw [if_pos (by omega), if_pos (by omega), rdE, if_neg (fun h => he (toL.2 h)), w1 hi h]
theorem field_E (n : ByteArray) (l1 : List SF) (l2 : List Int) (a : ByteArray) (h : l1.length ≤ 9000000000000000000) : E (fun k => ecdysisref16_Field.f k n l1 l2 a) (ixF (fun x => x.f0.toList == a.toList) l1 0) := by
  have key := up (C := fun i => E (fun k => ecdysisref16_Field.l0 k a (i : Int) n l1 l2) (ixF (fun x => x.f0.toList == a.toList) (l1.drop i) i)) l1.length (fun i hi => ?_) (fun i hi ih => ?_) 0
  · exact key
  · rw [List.drop_eq_nil_of_le hi]
    exact E.succ E.const fun k => by simp only [ecdysisref16_Field.l0]; rw [if_neg (by omega)]; rfl
  · rw [drop_getD z50 hi, ixF_cons]
    by_cases he : ((l1.getD i z50).f0.toList == a.toList) = true
    · rw [if_pos he]
      exact E.succ E.const fun k => by simp only [ecdysisref16_Field.l0]; rw [if_pos (by omega), if_pos (by omega), rdF, if_pos (toL.1 he)]
    · rw [if_neg he]
      exact E.succ ih fun k => by simp only [ecdysisref16_Field.l0]; rw [if_pos (by omega), if_pos (by omega), rdF, if_neg (fun h => he (toL.2 h)), w1 hi h]
theorem number_E (n : ByteArray) (l1 : List SF) (l2 : List Int) (a : Int) (h : l1.length ≤ 9000000000000000000) : E (fun k => ecdysisref16_Number.f k n l1 l2 a) (ixF (fun x => x.f1 == a) l1 0) := by
  have key := up (C := fun i => E (fun k => ecdysisref16_Number.l0 k a (i : Int) n l1 l2) (ixF (fun x => x.f1 == a) (l1.drop i) i)) l1.length (fun i hi => ?_) (fun i hi ih => ?_) 0
  · exact key
  · rw [List.drop_eq_nil_of_le hi]
    exact E.succ E.const fun k => by simp only [ecdysisref16_Number.l0]; rw [if_neg (by omega)]; rfl
  · rw [drop_getD z50 hi, ixF_cons]
    by_cases he : ((l1.getD i z50).f1 == a) = true
    · rw [if_pos he]
      exact E.succ E.const fun k => by simp only [ecdysisref16_Number.l0]; rw [if_pos (by omega), if_pos (by omega), rdF, if_pos (by simpa using he)]
    · rw [if_neg he]
      exact E.succ ih fun k => by simp only [ecdysisref16_Number.l0]; rw [if_pos (by omega), if_pos (by omega), rdF, if_neg (by simpa using he), w1 hi h]
theorem refsL_cons (x : SF) (l : List SF) : refsL (x :: l) = if x.f2 = 15 then x.f3 :: refsL l else refsL l := by
  unfold refsL
  rw [List.filter_cons]
  by_cases h : x.f2 = 15 <;> simp [h]
theorem cntR_cons (nm : ByteArray) (n : Int) (r : ByteArray) (l : List ByteArray) : cntR nm n (r :: l) = cntR nm (if r.toList == nm.toList then wrap64 (n + 1) else n) l := rfl
/-- Behind some messages. -/
def usesF (nm : ByteArray) (n : Int) (l : List SM) : Int := l.foldl (fun n m => cntR nm n (refsL m.f1)) n
theorem usesF_cons (nm : ByteArray) (n : Int) (m : SM) (l : List SM) : usesF nm n (m :: l) = usesF nm (cntR nm n (refsL m.f1)) l := rfl
theorem uses_E (l0 : List SE) (l1 : List SM) (a : ByteArray) (h : l1.length ≤ 9000000000000000000) (hf : ∀ m ∈ l1, m.f1.length ≤ 9000000000000000000) : E (fun k => ecdysisref16_Uses.f k l0 l1 a) (usesM a l1) := by
  have key := up (C := fun i => ∀ n, E (fun k => ecdysisref16_Uses.l0 k a n (i : Int) l0 l1) (usesF a n (l1.drop i))) l1.length (fun i hi => ?_) (fun i hi ih => ?_) 0
  · exact key 0
  · intro n
    rw [List.drop_eq_nil_of_le hi]
    exact E.succ E.const fun k => by simp only [ecdysisref16_Uses.l0]; rw [if_neg (by omega)]; rfl
  · have hm : (l1.getD i z47).f1.length ≤ 9000000000000000000 := hf _ (by rw [List.getD_eq_getElem?_getD, List.getElem?_eq_getElem hi]; exact List.getElem_mem _)
    have inner := up (C := fun j => ∀ n, E (fun k => ecdysisref16_Uses.l1 k a n (i : Int) (j : Int) l0 l1) (usesF a (cntR a n (refsL ((l1.getD i z47).f1.drop j))) (l1.drop (i + 1)))) (l1.getD i z47).f1.length (fun j hj => ?_) (fun j hj jh => ?_) 0
    · intro n
      rw [drop_getD z47 hi, usesF_cons]
      exact E.succ (inner n) fun k => by simp only [ecdysisref16_Uses.l0]; rw [if_pos (by omega)]; rfl
    · intro n
      rw [List.drop_eq_nil_of_le hj]
      exact E.succ (ih n) fun k => by simp only [ecdysisref16_Uses.l1]; rw [if_pos (by omega), if_pos (by omega), rdM, if_neg (by omega), w1 hi h]
    · intro n
      rw [drop_getD z50 hj, refsL_cons]
      by_cases h15 : ((l1.getD i z47).f1.getD j z50).f2 = 15
      · rw [if_pos h15, cntR_cons]
        by_cases he : (((l1.getD i z47).f1.getD j z50).f3.toList == a.toList) = true
        · rw [if_pos he]
          exact E.succ (jh _) fun k => by simp only [ecdysisref16_Uses.l1]; rw [if_pos (by omega), if_pos (by omega), rdM, if_pos (by omega), if_pos (by omega), rdF, if_pos h15, if_pos (toL.1 he), w1 hj hm]
        · rw [if_neg he]
          exact E.succ (jh _) fun k => by simp only [ecdysisref16_Uses.l1]; rw [if_pos (by omega), if_pos (by omega), rdM, if_pos (by omega), if_pos (by omega), rdF, if_pos h15, if_neg (fun h => he (toL.2 h)), w1 hj hm]
      · rw [if_neg h15]
        exact E.succ (jh _) fun k => by simp only [ecdysisref16_Uses.l1]; rw [if_pos (by omega), if_pos (by omega), rdM, if_pos (by omega), if_pos (by omega), rdF, if_neg h15, w1 hj hm]
theorem rdI (xs : List Int) (i : Nat) : rd xs (i : Int) = xs.getD i 0 := rfl
theorem contains_E (l : List Int) (x : Int) (h : l.length ≤ 9000000000000000000) : E (fun k => slices_Contains_int_int.f k l x) (l.any (fun y => y == x)) := by
  have key := up (C := fun i => ∃ r, E (fun k => slices_Index_int_int.l0 k l x (l.length : Int) (i : Int)) r ∧ decide (r ≥ 0) = (l.drop i).any (fun y => y == x)) l.length (fun i hi => ?_) (fun i hi ih => ?_) 0
  · obtain ⟨r, h1, h2⟩ := key
    refine E.bind1 (f := fun k => slices_Index_int_int.f k l x) h1 ?_
    rw [h2]
    rfl
  · rw [List.drop_eq_nil_of_le hi]
    exact ⟨-1, E.succ E.const fun k => by simp only [slices_Index_int_int.l0]; rw [if_neg (by omega)], rfl⟩
  · rw [drop_getD 0 hi, List.any_cons]
    obtain ⟨r, h1, h2⟩ := ih
    by_cases he : l.getD i 0 = x
    · refine ⟨(i : Int), E.succ E.const fun k => by simp only [slices_Index_int_int.l0]; rw [if_pos (by omega), if_pos (by omega), if_pos (by omega), rdI, if_pos he.symm], ?_⟩
      rw [he, decide_eq_true (by omega)]
      simp
    · refine ⟨r, E.succ h1 fun k => by simp only [slices_Index_int_int.l0]; rw [if_pos (by omega), if_pos (by omega), if_pos (by omega), rdI, if_neg (fun h => he h.symm), w1 hi h], ?_⟩
      rw [h2, beq_eq_false_iff_ne.2 he, Bool.false_or]
theorem has_E (l : List Int) (x : Int) (h : l.length ≤ 9000000000000000000) : E (fun k => ecdysisref15_Has.f k l x) (l.any (fun y => y == x)) := by
  have key := up (C := fun i => E (fun k => ecdysisref15_Has.l0 k l x (i : Int)) ((l.drop i).any (fun y => y == x))) l.length (fun i hi => ?_) (fun i hi ih => ?_) 0
  · exact key
  · rw [List.drop_eq_nil_of_le hi]
    exact E.succ E.const fun k => by simp only [ecdysisref15_Has.l0]; rw [if_neg (by omega)]; rfl
  · rw [drop_getD 0 hi, List.any_cons]
    by_cases he : l.getD i 0 = x
    · rw [he, show (x == x) = true by simp, Bool.true_or]
      exact E.succ E.const fun k => by simp only [ecdysisref15_Has.l0]; rw [if_pos (by omega), if_pos (by omega), rdI, if_pos he]
    · rw [beq_eq_false_iff_ne.2 he, Bool.false_or]
      exact E.succ ih fun k => by simp only [ecdysisref15_Has.l0]; rw [if_pos (by omega), if_pos (by omega), rdI, if_neg he, w1 hi h]
theorem tags (a : Int) : tag_Field.f a = ecdysisref04_Field.f a ∧ ∃ b, tag_Field.f a = some b := by
  unfold tag_Field.f ecdysisref04_Field.f tag_number.f
  by_cases h1 : a ≥ 1
  · rw [if_pos h1, if_pos h1, Option.bind_some]
    by_cases h2 : a ≤ 536870911
    · rw [if_pos h2, if_pos (decide_eq_true h2)]
      refine ⟨rfl, ?_⟩
      split <;> exact ⟨_, rfl⟩
    · rw [if_neg h2, decide_eq_false h2]
      exact ⟨rfl, false, rfl⟩
  · rw [if_neg h1, if_neg h1]
    exact ⟨rfl, false, rfl⟩
theorem free_E (n : ByteArray) (l1 : List SF) (l2 : List Int) (a : Int) (h1 : l1.length ≤ 9000000000000000000) (h2 : l2.length ≤ 9000000000000000000) : ∃ b, E (fun k => find_Free.f k n l1 l2 a) b ∧ E (fun k => ecdysisref16_Free.f k n l1 l2 a) b := by
  obtain ⟨e1, b, e2⟩ := tags a
  have e3 := e1.symm.trans e2
  cases b with
  | false =>
    refine ⟨false, ?_, ?_⟩
    · exact E.bind0 e2 E.const
    · exact E.bind0 e3 E.const
  | true =>
    by_cases hn : ixF (fun x : SF => x.f1 == a) l1 0 < 0
    · refine ⟨!(l2.any (fun y => y == a)), ?_, ?_⟩
      · refine E.bind0 e2 (E.yes rfl (E.bind0 (a := ixF (fun x : SF => x.f1 == a) l1 0) rfl (E.yes hn ?_)))
        exact E.bind1 (contains_E l2 a h2) rfl
      · refine E.bind0 e3 (E.yes rfl (E.bind (number_E n l1 l2 a h1) (E.yes hn ?_)))
        exact E.bind1 (has_E l2 a h2) rfl
    · refine ⟨false, ?_, ?_⟩
      · exact E.bind0 e2 (E.yes rfl (E.bind0 (a := ixF (fun x : SF => x.f1 == a) l1 0) rfl (E.no hn E.const)))
      · exact E.bind0 e3 (E.yes rfl (E.bind (number_E n l1 l2 a h1) (E.no hn E.const)))
theorem ints_E (l : List Int) (h : l.length ≤ 9000000000000000000) : E (fun k => ecdysisref01_Ints.f k l l) true := by
  have key := up (C := fun i => E (fun k => ecdysisref01_Ints.l0 k l l (i : Int)) true) l.length (fun i hi => ?_) (fun i hi ih => ?_) 0
  · exact E.yes rfl key
  · exact E.succ E.const fun k => by simp only [ecdysisref01_Ints.l0]; rw [if_neg (by omega)]
  · exact E.succ ih fun k => by simp only [ecdysisref01_Ints.l0]; rw [if_pos (by omega), if_pos (by omega), if_pos (by omega), if_pos trivial, w1 hi h]
theorem names_E (l : List ByteArray) (h : l.length ≤ 9000000000000000000) : E (fun k => ecdysisref01_Names.f k l l) true := by
  have key := up (C := fun i => E (fun k => ecdysisref01_Names.l0 k l l (i : Int)) true) l.length (fun i hi => ?_) (fun i hi ih => ?_) 0
  · exact E.yes rfl key
  · exact E.succ E.const fun k => by simp only [ecdysisref01_Names.l0]; rw [if_neg (by omega)]
  · exact E.succ ih fun k => by simp only [ecdysisref01_Names.l0]; rw [if_pos (by omega), if_pos (by omega), if_pos (by omega), if_pos trivial, w1 hi h]
/-- The numbers of a oneof's fields. -/
def mems (a : ByteArray) (acc : List Int) (l : List SF) : List Int := l.foldl (fun acc x => if a.toList = [] then acc else if x.f6.toList = a.toList then acc ++ [x.f1] else acc) acc
theorem mems_cons (a : ByteArray) (acc : List Int) (x : SF) (l : List SF) : mems a acc (x :: l) = mems a (if a.toList = [] then acc else if x.f6.toList = a.toList then acc ++ [x.f1] else acc) l := rfl
theorem mems_le (a : ByteArray) : ∀ (l : List SF) (acc : List Int), (mems a acc l).length ≤ acc.length + l.length
  | [], acc => Nat.le_refl _
  | x :: l, acc => by
    rw [mems_cons]
    refine Nat.le_trans (mems_le a l _) ?_
    simp only [List.length_cons]
    split
    · omega
    · split
      · simp; omega
      · omega
theorem members_E (n : ByteArray) (l1 : List SF) (l2 : List Int) (a : ByteArray) (h : l1.length ≤ 10000000000000) : E (fun k => find_Members.f k n l1 l2 a) (mems a [] l1) ∧ E (fun k => ecdysisref16_Members.f k n l1 l2 a) (mems a [] l1) := by
  have h' : l1.length ≤ 9000000000000000000 := by omega
  constructor
  · have key := up (C := fun i => ∀ acc : List Int, acc.length ≤ i → E (fun k => find_Members.l0 k a acc l1 (l1.length : Int) (i : Int)) (mems a acc (l1.drop i))) l1.length (fun i hi => ?_) (fun i hi ih => ?_) 0
    · exact key [] (by simp)
    · intro acc ha
      rw [List.drop_eq_nil_of_le hi]
      exact E.succ E.const fun k => by simp only [find_Members.l0]; rw [if_neg (by omega)]; rfl
    · intro acc ha
      rw [drop_getD z50 hi, mems_cons]
      by_cases h0 : a.toList = []
      · rw [if_pos h0]
        exact E.succ (ih acc (by omega)) fun k => by simp only [find_Members.l0]; rw [if_pos (by omega), if_pos (by omega), if_pos (by omega), if_pos h0, w1 hi h']
      · rw [if_neg h0]
        by_cases he : (l1.getD i z50).f6.toList = a.toList
        · rw [if_pos he]
          exact E.succ (ih _ (by simp; omega)) fun k => by simp only [find_Members.l0]; rw [if_pos (by omega), if_pos (by omega), if_pos (by omega), if_neg h0, rdF, if_pos he, if_pos (by omega), w1 hi h']
        · rw [if_neg he]
          exact E.succ (ih acc (by omega)) fun k => by simp only [find_Members.l0]; rw [if_pos (by omega), if_pos (by omega), if_pos (by omega), if_neg h0, rdF, if_neg he, w1 hi h']
  · have key := up (C := fun i => ∀ acc : List Int, acc.length ≤ i → E (fun k => ecdysisref16_Members.l0 k a acc (i : Int) n l1 l2) (mems a acc (l1.drop i))) l1.length (fun i hi => ?_) (fun i hi ih => ?_) 0
    · exact key [] (by simp)
    · intro acc ha
      rw [List.drop_eq_nil_of_le hi]
      exact E.succ E.const fun k => by simp only [ecdysisref16_Members.l0]; rw [if_neg (by omega)]; rfl
    · intro acc ha
      rw [drop_getD z50 hi, mems_cons]
      by_cases h0 : a.toList = []
      · rw [if_pos h0]
        exact E.succ (ih acc (by omega)) fun k => by simp only [ecdysisref16_Members.l0]; rw [if_pos (by omega), if_pos h0, w1 hi h']
      · rw [if_neg h0]
        by_cases he : (l1.getD i z50).f6.toList = a.toList
        · rw [if_pos he]
          exact E.succ (ih _ (by simp; omega)) fun k => by simp only [ecdysisref16_Members.l0]; rw [if_pos (by omega), if_neg h0, if_pos (by omega), rdF, if_pos he, if_pos (by omega), w1 hi h']
        · rw [if_neg he]
          exact E.succ (ih acc (by omega)) fun k => by simp only [ecdysisref16_Members.l0]; rw [if_pos (by omega), if_neg h0, if_pos (by omega), rdF, if_neg he, w1 hi h']
end Go.Proofs.Ytbpnfpckoapdbaa.P16

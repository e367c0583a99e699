/- The law of what Kin tells, plainly; of schemas whose lists and texts have the size that any machine's have. -/
import Derived.Test.YtbpnfpckoapdbaaP16b0
import Derived.Test.YtbpnfpckoapdbaaPF16x7
namespace Go.Proofs.Ytbpnfpckoapdbaa.P16
open Go.RowKit Go.Proofs.YtbpnfpckoapdbaaW.PrintWords Go.Proofs.YtbpnfpckoapdbaaW.PrintLast Go.Proofs.YtbpnfpckoapdbaaW.PrintMore Go.Proofs.Ytbpnfpckoapdbaa.KD Go.Proofs.Ytbpnfpckoapdbaa.M Go.Proofs.Ytbpnfpckoapdbaa.PF16 Go.Proofs.Ytbpnfpckoapdbaa.Ev Go.Proofs.Ytbpnfpckoapdbaa.Ops
set_option linter.unusedVariables false
set_option linter.unusedSimpArgs false
/-- All that is told, from place i on. -/
def kinA (ms : List SM) : Nat → Nat → List ByteArray → List ByteArray
  | 0, _, told => told
  | f + 1, i, told => match told[i]? with
    | none => told
    | some x => kinA ms f (i + 1) (extR ms told (refsL (fieldsAt ms x)))
theorem kinA_pre (ms : List SM) : ∀ (f i : Nat) (told : List ByteArray), told <+: kinA ms f i told
  | 0, _, _ => List.prefix_refl _
  | f + 1, i, told => by
    unfold kinA
    split
    · exact List.prefix_refl _
    · exact (extR_pre ms _ told).trans (kinA_pre ms f (i + 1) _)
theorem kinA_told {ms : List SM} : ∀ {f i : Nat} {told : List ByteArray}, M.Told ms told → M.Told ms (kinA ms f i told)
  | 0, _, _, h => h
  | f + 1, i, told, h => by
    unfold kinA
    split
    · exact h
    · exact kinA_told h.ext
theorem pre_take {α : Type} {a b : List α} (h : a <+: b) (n : Nat) (hn : n ≤ a.length) : a.take n = b.take n := by
  obtain ⟨c, rfl⟩ := h
  rw [List.take_append_of_le_length hn]
theorem kinR_A {ms : List SM} {most : Int} : ∀ (f i : Nat) (told : List ByteArray), M.Told ms told → i ≤ told.length → ms.length < f + i → kinR ms most f i told (told.take i) = if (i : Int) + 1 ≤ most ∧ most ≤ ((kinA ms f i told).length : Int) then (kinA ms f i told).take most.toNat else kinA ms f i told
  | 0, i, told, ht, hi, hf => by
    have := ht.le
    omega
  | f + 1, i, told, ht, hi, hf => by
    rcases hx : told[i]? with _ | x
    · rw [kinR_end hx]
      have hl : told.length ≤ i := List.getElem?_eq_none_iff.1 hx
      have hA : kinA ms (f + 1) i told = told := by simp only [kinA, hx]
      rw [hA, List.take_of_length_le hl, if_neg (by omega)]
    · have hl := (List.getElem?_eq_some_iff.1 hx).1
      have hlen : (told.take i).length = i := by rw [List.length_take]; omega
      have hsn : told.take i ++ [x] = told.take (i + 1) := (take_snoc' hx).symm
      have hA : kinA ms (f + 1) i told = kinA ms f (i + 1) (extR ms told (refsL (fieldsAt ms x))) := by simp only [kinA, hx]
      have hp := extR_pre ms (refsL (fieldsAt ms x)) told
      have hpA := hp.trans (kinA_pre ms f (i + 1) (extR ms told (refsL (fieldsAt ms x))))
      by_cases hm : ((((told.take i).length + 1 : Nat) : Int) != most) = true
      · rw [kinR_go hx hm, hsn, hA]
        have hle := hp.length_le
        rw [pre_take hp (i + 1) (by omega), kinR_A f (i + 1) _ ht.ext (by omega) (by omega)]
        have hne : ((i : Int) + 1) ≠ most := by rw [hlen] at hm; simpa using hm
        by_cases hc : ((i + 1 : Nat) : Int) + 1 ≤ most ∧ most ≤ ((kinA ms f (i + 1) (extR ms told (refsL (fieldsAt ms x)))).length : Int)
        · rw [if_pos hc, if_pos (by omega)]
        · rw [if_neg hc, if_neg (by omega)]
      · replace hm : ((((told.take i).length + 1 : Nat) : Int) != most) = false := by simpa using hm
        rw [kinR_stop hx hm, hsn, hA]
        have he : ((i : Int) + 1) = most := by rw [hlen] at hm; simpa using hm
        have hle := hpA.length_le
        rw [if_pos (by omega), ← he, pre_take hpA (i + 1) (by omega)]
        rfl
theorem addF {ms : List SM} {t : List ByteArray} {r : ByteArray} (h : has t r = false) : addR ms t r = if msgAt ms r ≥ 0 then t ++ [r] else t := by
  unfold addR
  rw [h, Bool.or_false]
  by_cases hm : msgAt ms r < 0
  · rw [if_pos (decide_eq_true hm), if_neg (by omega)]
  · rw [if_neg (by rw [decide_eq_false hm]; simp), if_pos (by omega)]
theorem addT {ms : List SM} {t : List ByteArray} {r : ByteArray} (h : has t r = true) : addR ms t r = t := by
  unfold addR
  rw [h, Bool.or_true]
  rfl
theorem has_or (t : List ByteArray) (r : ByteArray) (b : Bool) : (t.any (fun y => y.toList == r.toList)) = has t r := by
  unfold has
  congr
  funext y
  rw [Bool.eq_iff_iff]
  simp only [beq_iff_eq]
  exact eq_comm
theorem rdS (l : List ByteArray) (i : Nat) : rdOf ByteArray.empty l (i : Int) = l.getD i ByteArray.empty := rfl
/-- Is a name told? Behind that the next field. -/
theorem toldRef_E {l0 : List SE} {l1 : List SM} (h1 : l1.length ≤ 9000000000000000000) {nm : ByteArray} {fs : List SF} {l2 : List Int} {i q : Nat} {g : SF} {t : List ByteArray} {R : List ByteArray → List ByteArray} (hg : g = fs.getD q z50) (hq : q < fs.length) (hfs : fs.length ≤ 10000000000000) (hi : i < t.length) (ht : M.Told l1 t) (hl : l1.length < 200)
    (qh : ∀ t : List ByteArray, M.Told l1 t → i < t.length → E (fun k => ecdysisref16_Kin.l1 k t (i : Int) ((q + 1 : Nat) : Int) l0 l1 nm fs l2) (R t)) :
    ∀ (s : Nat) (b : Bool), (b || (t.drop s).any (fun y => y.toList == g.f3.toList)) = has t g.f3 → E (fun k => ecdysisref16_Kin.l2 k t (i : Int) (q : Int) g.f3 b (s : Int) l0 l1 nm fs l2) (R (if g.f2 = 15 then addR l1 t g.f3 else t)) := by
  have htl : t.length < 200 := by have := ht.le; omega
  refine up t.length (fun s hs => ?_) (fun s hs sh => ?_)
  · intro b hb
    rw [List.drop_eq_nil_of_le hs, List.any_nil, Bool.or_false] at hb
    refine E.step ?_
    have hwq : wrap64 ((q : Int) + 1) = ((q + 1 : Nat) : Int) := w1 hq (by omega)
    have e1 : ¬ ((s : Int) < (t.length : Int)) := by clear hb qh; omega
    have e2 : (0 : Int) ≤ (q : Int) := by clear hb qh; omega
    have e3 : (q : Int) < (fs.length : Int) := by clear hb qh; omega
    simp only [ecdysisref16_Kin.l2, rdF, ← hg, hwq]
    refine E.no e1 (E.yes e2 (E.yes e3 ?_))
    by_cases h15 : g.f2 = 15
    · rw [if_pos h15]
      refine E.yes h15 ?_
      by_cases hbt : b = true
      · rw [addT (by rw [← hb, hbt])]
        exact E.yes hbt (qh t ht hi)
      · replace hbt : b = false := by simpa using hbt
        have hadd := ht.add g.f3
        rw [addF (by rw [← hb, hbt])] at hadd ⊢
        refine E.no (by rw [hbt]; simp) (E.bind (message_E l0 l1 g.f3 h1) ?_)
        by_cases hm : msgAt l1 g.f3 ≥ 0
        · rw [if_pos hm] at hadd ⊢
          have e4 : t.length < 8796093022208 := by clear hb qh hadd hm; omega
          have e5 : i < (t ++ [g.f3]).length := by rw [List.length_append]; clear hb qh hadd hm; omega
          exact E.yes hm (E.yes e4 (qh _ hadd e5))
        · rw [if_neg hm]
          exact E.no hm (qh t ht hi)
    · rw [if_neg h15]
      exact E.no h15 (qh t ht hi)
  · intro b hb
    rw [drop_getD ByteArray.empty hs, List.any_cons] at hb
    refine E.step ?_
    have hws : wrap64 ((s : Int) + 1) = ((s + 1 : Nat) : Int) := w1 hs (by omega)
    have e1 : (s : Int) < (t.length : Int) := by clear hb qh sh; omega
    have e2 : (0 : Int) ≤ (s : Int) := by clear hb qh sh; omega
    simp only [ecdysisref16_Kin.l2, rdS, hws]
    refine E.yes e1 ?_
    by_cases hbt : b = true
    · rw [hbt, Bool.true_or] at hb
      exact E.yes hbt (sh true (by rw [Bool.true_or]; exact hb))
    · replace hbt : b = false := by simpa using hbt
      rw [hbt, Bool.false_or] at hb
      exact E.no (by rw [hbt]; simp) (E.yes e2 (sh _ hb))
theorem fieldsRef_E {l0 : List SE} {l1 : List SM} (h1 : l1.length ≤ 9000000000000000000) {nm : ByteArray} {fs : List SF} {l2 : List Int} {i : Nat} {R : List ByteArray → List ByteArray} (hfs : fs.length ≤ 10000000000000) (hl : l1.length < 200)
    (ih : ∀ t : List ByteArray, M.Told l1 t → i < t.length → E (fun k => ecdysisref16_Kin.l0 k t ((i + 1 : Nat) : Int) l0 l1) (R t)) :
    ∀ (q : Nat) (t : List ByteArray), M.Told l1 t → i < t.length → E (fun k => ecdysisref16_Kin.l1 k t (i : Int) (q : Int) l0 l1 nm fs l2) (R (extR l1 t (refsL (fs.drop q)))) := by
  refine up fs.length (fun q hq => ?_) (fun q hq qh => ?_)
  · intro t htt hit
    rw [List.drop_eq_nil_of_le hq]
    have hz : extR l1 t (refsL ([] : List SF)) = t := rfl
    have htl := htt.le
    have hw : wrap64 ((i : Int) + 1) = ((i + 1 : Nat) : Int) := by clear ih hz; unfold wrap64; omega
    have e1 : ¬ ((q : Int) < (fs.length : Int)) := by clear ih hz hw; omega
    rw [hz]
    refine E.step ?_
    simp only [ecdysisref16_Kin.l1]
    refine E.no e1 ?_
    rw [hw]
    exact ih t htt hit
  · intro t htt hit
    obtain ⟨g, hg⟩ : ∃ g, g = fs.getD q z50 := ⟨_, rfl⟩
    rw [drop_getD z50 hq, refsL_cons, ← hg]
    have tl := toldRef_E (R := fun t => R (extR l1 t (refsL (fs.drop (q + 1))))) h1 hg hq hfs hit htt hl qh 0 false (by rw [Bool.false_or, List.drop_zero]; exact has_or t g.f3 false)
    have e1 : (q : Int) < (fs.length : Int) := by clear ih tl qh; omega
    have e2 : (0 : Int) ≤ (q : Int) := by clear ih tl qh; omega
    refine E.step ?_
    simp only [ecdysisref16_Kin.l1, rdF, ← hg]
    refine E.yes e1 (E.yes e2 ?_)
    by_cases h15 : g.f2 = 15
    · rw [if_pos h15] at tl ⊢
      exact tl
    · rw [if_neg h15] at tl ⊢
      exact tl
theorem kinRef_E {l0 : List SE} {l1 : List SM} (ok : OkS l0 l1) (hl1 : l1.length < 200) : ∀ (f i : Nat) (told : List ByteArray), M.Told l1 told → i ≤ told.length → l1.length < f + i → E (fun k => ecdysisref16_Kin.l0 k told (i : Int) l0 l1) (kinA l1 f i told) := by
  intro f
  induction f with
  | zero => intro i told ht hi hf; have := ht.le; omega
  | succ f ih =>
    intro i told ht hi hf
    have htl := ht.le
    rcases hx : told[i]? with _ | x
    · have hl : told.length ≤ i := List.getElem?_eq_none_iff.1 hx
      have hA : kinA l1 (f + 1) i told = told := by simp only [kinA, hx]
      have e1 : ¬ ((i : Int) < (told.length : Int)) := by clear hA ih hx; omega
      rw [hA]
      refine E.step ?_
      simp only [ecdysisref16_Kin.l0]
      refine E.no e1 (E.step ?_)
      simp only [ecdysisref16_Kin.j1]
      exact E.no (by simp) E.const
    · have hl := (List.getElem?_eq_some_iff.1 hx).1
      have hA : kinA l1 (f + 1) i told = kinA l1 f (i + 1) (extR l1 told (refsL (fieldsAt l1 x))) := by simp only [kinA, hx]
      rw [hA]
      have hxd : told.getD i ByteArray.empty = x := by rw [List.getD_eq_getElem?_getD, hx]; rfl
      have hat := ht.at_ x (List.mem_of_getElem? hx)
      obtain ⟨m, hm1, hm2, hm3⟩ := msgAt_some hat
      obtain ⟨j, hj⟩ : ∃ j : Nat, msgAt l1 x = (j : Int) := ⟨_, (Int.toNat_of_nonneg hat).symm⟩
      rw [hj] at hm3
      rw [hj, Int.toNat_natCast] at hm1
      have hmd : l1.getD j z47 = m := by rw [List.getD_eq_getElem?_getD, hm1]; rfl
      have hfa : fieldsAt l1 x = m.f1 := by
        unfold fieldsAt
        rw [hj, Int.toNat_natCast, hm1]
        rfl
      have hml : m.f1.length ≤ 10000000000000 := (ok.m m (List.mem_of_getElem? hm1)).1
      have h9 : l1.length ≤ 9000000000000000000 := by clear hA ih hx hj hm3; omega
      have hE := message_E l0 l1 x h9
      have hixx : ixF (fun y : SM => y.f0.toList == x.toList) l1 0 = (j : Int) := hj
      rw [hixx] at hE
      have e1 : (i : Int) < (told.length : Int) := by clear hA ih hx hj hixx hm3; omega
      have e2 : (i : Int) ≤ (l1.length : Int) := by clear hA ih hx hj hixx hm3; omega
      have e3 : (0 : Int) ≤ (i : Int) := by clear hA ih hx hj hixx hm3; omega
      have e4 : (0 : Int) ≤ (j : Int) := by clear hA ih hx hj hixx hm3; omega
      have ih' : ∀ t : List ByteArray, M.Told l1 t → i < t.length → E (fun k => ecdysisref16_Kin.l0 k t ((i + 1 : Nat) : Int) l0 l1) (kinA l1 f (i + 1) t) := fun t htt hit => ih (i + 1) t htt hit (by clear hA ih hx hj hixx hm3; omega)
      have fl := fieldsRef_E (R := kinA l1 f (i + 1)) h9 (nm := m.f0) (l2 := m.f2) hml hl1 ih' 0 told ht hl
      rw [hfa]
      refine E.step ?_
      simp only [ecdysisref16_Kin.l0]
      refine E.yes e1 (E.step ?_)
      simp only [ecdysisref16_Kin.j1, rdS, hxd]
      refine E.yes (decide_eq_true e2) (E.yes e3 (E.yes e1 (E.bind hE (E.yes e4 (E.yes hm3 ?_)))))
      simp only [rdM, hmd]
      exact fl
/-- The law of what Kin tells. -/
theorem FindKin (l0 : List SE) (l1 : List SM) (most : Int) (ok : ok35 ⟨l0, l1⟩) (_ : (Lit.int .i64 most).wf = true) : ∃ k, ecdysislaw16_FindKin.f k l0 l1 most = some true := by
  have ok := okS_of ok
  have h1 : l1.length ≤ 9000000000000000000 := by have := ok.le1; omega
  refine E.get (g := fun k => ecdysislaw16_FindKin.f k l0 l1 most) ?_
  unfold ecdysislaw16_FindKin.f
  obtain ⟨b, hb, hc⟩ := small_E ok
  refine E.bind hb ?_
  cases b with
  | false => exact E.no (by simp) (E.bind1 live_E rfl)
  | true =>
    have hl := hc rfl
    -- what both tell
    obtain ⟨F, hF, hT, hR⟩ : ∃ F, E (fun k => ecdysisref16_Kin.f k l0 l1) F ∧ F.length ≤ l1.length ∧ kinL l1 most = if 1 ≤ most ∧ most ≤ (F.length : Int) then F.take most.toNat else F := by
      cases l1 with
      | nil =>
        refine ⟨[], ?_, Nat.le_refl _, ?_⟩
        · unfold ecdysisref16_Kin.f
          exact E.bind0 rfl (E.yes rfl E.const)
        · rw [if_neg (by simp only [List.length_nil]; omega)]
          rfl
      | cons m ms =>
        have ht : M.Told (m :: ms) [m.f0] := M.Told.first rfl
        refine ⟨kinA (m :: ms) ((m :: ms).length + 1) 0 [m.f0], ?_, (kinA_told ht).le, ?_⟩
        · unfold ecdysisref16_Kin.f
          refine E.bind0 rfl (E.no (by simp only [List.length_cons]; omega) (E.yes (by simp only [List.length_cons]; omega) (E.yes (by simp) ?_)))
          exact kinRef_E ok hl _ 0 [m.f0] ht (by simp) (by omega)
        · have := kinR_A (most := most) ((m :: ms).length + 1) 0 [m.f0] ht (by simp) (by omega)
          simp only [List.take_zero] at this
          show kinR (m :: ms) most ((m :: ms).length + 1) 0 [m.f0] [] = _
          rw [this]
          simp
    refine E.yes rfl (E.bind0 (a := (kinL l1 most, true)) ?_ (E.bind hF ?_))
    · unfold ecdysislaw16_kin.f
      rw [if_pos (by omega)]
    · rw [hR]
      have last : ∀ G : List ByteArray, G.length ≤ l1.length → E (fun k => (ecdysisref01_Names.f k G G).bind fun t => if t = true then ((ecdysislaw16_live.f k).bind fun t => some t) else some false) true := fun G hG => E.bind (names_E G (by omega)) (E.yes rfl (E.bind1 live_E rfl))
      by_cases hm : most ≥ 1
      · refine E.yes hm ?_
        by_cases hlt : most < (F.length : Int)
        · rw [if_pos (by omega), decide_eq_true hlt]
          refine E.step ?_
          simp only [ecdysislaw16_FindKin.j0]
          exact E.yes (by simp) (E.yes (by omega) (E.yes (by omega) (E.yes (by simp) (last _ (by rw [List.length_take]; omega)))))
        · rw [decide_eq_false hlt]
          have hF2 : (if 1 ≤ most ∧ most ≤ (F.length : Int) then F.take most.toNat else F) = F := by
            split
            · exact List.take_of_length_le (by omega)
            · rfl
          rw [hF2]
          refine E.step ?_
          simp only [ecdysislaw16_FindKin.j0]
          exact E.no (by simp) (E.yes (by simp) (last F hT))
      · rw [if_neg (by omega)]
        refine E.no hm (E.step ?_)
        simp only [ecdysislaw16_FindKin.j0]
        exact E.no (by simp) (E.yes (by simp) (last F hT))
end Go.Proofs.Ytbpnfpckoapdbaa.P16

/- raw: the plain law of fields in bytes: the field at the head of bytes, all fields of bytes, the bytes of fields; conditions stand at each. -/
import Derived.Test.YtfbmabhdjliohaaMCurE
namespace Go.Proofs.Ytfbmabhdjliohaa.Cur
open Go.RowKit Go.Proofs.YtfbmabhdjliohaaW.PrintWords Go.Proofs.YtfbmabhdjliohaaW.PrintLast Go.Proofs.YtfbmabhdjliohaaW.PrintMore Go.Proofs.Ytfbmabhdjliohaa.Var
/-- A field: its number, its wire type, its number's value, its text's bytes. -/
abbrev Fd := Int × Int × Int × List Int
/-- A field behind its tag, which has s bytes. -/
def payD (num wire : Int) (s : Nat) (l : List Int) : Option (Fd × Nat) :=
  if wire = 0 then (if (dec l 0 0).2 = 0 then none else some ((num, wire, (dec l 0 0).1, []), s + (dec l 0 0).2.toNat))
  else if wire = 1 then (if l.length < 8 then none else some ((num, wire, M.val8 l, []), s + 8))
  else if wire = 5 then (if l.length < 4 then none else some ((num, wire, M.val4 l, []), s + 4))
  else if (dec l 0 0).2 = 0 then none
  else if (dec l 0 0).1 > (l.length : Int) - (dec l 0 0).2 then none
  else some ((num, wire, 0, (l.drop (dec l 0 0).2.toNat).take (dec l 0 0).1.toNat), s + (dec l 0 0).2.toNat + (dec l 0 0).1.toNat)
/-- The field at the head of bytes, and how many bytes it has. -/
def oneD (l : List Int) : Option (Fd × Nat) :=
  if (dec l 0 0).2 = 0 then none
  else if (spl (dec l 0 0).1).2.2 = true then payD (spl (dec l 0 0).1).1 (spl (dec l 0 0).1).2.1 (dec l 0 0).2.toNat (l.drop (dec l 0 0).2.toNat)
  else none
/-- What a cursor reads of a field behind its tag. -/
def payN (num wire : Int) (b : List Int) (p : Int) (ends : List Int) : Fd × Int × List Int :=
  if wire = 0 then ((num, wire, (vD b p ends).1, []), nx p ends (vD b p ends).2)
  else if wire = 1 then ((num, wire, (fD 8 b p ends).1, []), nx p ends (fD 8 b p ends).2)
  else if wire = 5 then ((num, wire, (fD 4 b p ends).1, []), nx p ends (fD 4 b p ends).2)
  else ((num, wire, 0, (txt b p ends).1), (txt b p ends).2)
/-- What a cursor reads of a field. -/
def nxt (b : List Int) (p : Int) (ends : List Int) : Fd × Int × List Int := payN (tg b p ends).1.1 (tg b p ends).1.2 b (tg b p ends).2.1 (tg b p ends).2.2
section
variable {b : List Int} {p : Int}
theorem last_one (x : Int) : last [x] = x := last_snoc [] x
theorem seg_one (b : List Int) (p : Int) : seg b p [(b.length : Int)] = b.drop p.toNat := by
  unfold seg
  rw [last_one, Int.toNat_natCast, List.take_length]
theorem inv_one (h0 : 0 ≤ p) (h1 : p ≤ b.length) : Inv b.length p [(b.length : Int)] :=
  ⟨h0, fun x hx => by rw [List.mem_singleton.1 hx]; omega, List.pairwise_singleton _ _, by simp⟩
theorem nxt_none (b : List Int) : (payN 0 0 b 0 []).2 = (0, []) := by
  have h : vD b 0 [] = (0, 0) := by unfold vD; rw [seg_nil rfl]; rfl
  unfold payN
  rw [if_pos rfl, h]
  rfl
theorem payN_one (h0 : 0 ≤ p) (h1 : p ≤ b.length) (hb : ∀ x ∈ b, 0 ≤ x ∧ x ≤ 255) (num wire : Int) (s : Nat) :
    (payD num wire s (b.drop p.toNat) = none → (payN num wire b p [(b.length : Int)]).2 = (0, [])) ∧
    ∀ x r, payD num wire s (b.drop p.toNat) = some (x, r) → s ≤ r ∧ payN num wire b p [(b.length : Int)] = (x, p - s + r, [(b.length : Int)]) ∧ p - s + r ≤ b.length := by
  have hi := inv_one h0 h1
  have hv := vD_facts hi hb
  have e1 : vD b p [(b.length : Int)] = dec (b.drop p.toNat) 0 0 := by unfold vD; rw [seg_one]
  have e4 : fD 4 b p [(b.length : Int)] = fixD 4 (b.drop p.toNat) := by unfold fD; rw [seg_one]
  have e8 : fD 8 b p [(b.length : Int)] = fixD 8 (b.drop p.toNat) := by unfold fD; rw [seg_one]
  have hL : (b.drop p.toNat).length = b.length - p.toNat := List.length_drop
  rw [last_one] at hv
  unfold payD payN
  rw [e1] at hv ⊢
  rw [e4, e8]
  by_cases w0 : wire = 0
  · rw [if_pos w0, if_pos w0]
    by_cases z : (dec (b.drop p.toNat) 0 0).2 = 0
    · rw [if_pos z, z]
      exact ⟨fun _ => rfl, fun x r h => by cases h⟩
    · rw [if_neg z]
      refine ⟨(fun h => by cases h), fun x r h => ?_⟩
      injection h with h
      injection h with ha hr
      subst ha
      refine ⟨by omega, ?_, by omega⟩
      unfold nx
      rw [if_neg z]
      congr 2
      omega
  · rw [if_neg w0, if_neg w0]
    by_cases w1 : wire = 1
    · rw [if_pos w1, if_pos w1]
      unfold fixD
      by_cases z : (b.drop p.toNat).length < 8
      · rw [if_pos z, if_pos z]
        exact ⟨fun _ => rfl, fun x r h => by cases h⟩
      · rw [if_neg z, if_neg z]
        refine ⟨(fun h => by cases h), fun x r h => ?_⟩
        injection h with h
        injection h with ha hr
        subst ha
        refine ⟨by omega, ?_, by omega⟩
        rw [if_neg (show ¬ (8 : Nat) = 4 by decide)]
        unfold nx
        rw [if_neg (show ¬ ((8 : Nat) : Int) = 0 by decide)]
        congr 2
        simp only
        omega
    · rw [if_neg w1, if_neg w1]
      by_cases w5 : wire = 5
      · rw [if_pos w5, if_pos w5]
        unfold fixD
        by_cases z : (b.drop p.toNat).length < 4
        · rw [if_pos z, if_pos z]
          exact ⟨fun _ => rfl, fun x r h => by cases h⟩
        · rw [if_neg z, if_neg z]
          refine ⟨(fun h => by cases h), fun x r h => ?_⟩
          injection h with h
          injection h with ha hr
          subst ha
          refine ⟨by omega, ?_, by omega⟩
          rw [if_pos rfl]
          unfold nx
          rw [if_neg (show ¬ ((4 : Nat) : Int) = 0 by decide)]
          congr 2
          simp only
          omega
      · rw [if_neg w5, if_neg w5]
        have hlg : lg b p [(b.length : Int)] = if (dec (b.drop p.toNat) 0 0).2 = 0 then (-1, 0, []) else if (dec (b.drop p.toNat) 0 0).1 > (b.length : Int) - (p + (dec (b.drop p.toNat) 0 0).2) then (-1, 0, []) else ((dec (b.drop p.toNat) 0 0).1, p + (dec (b.drop p.toNat) 0 0).2, [(b.length : Int)]) := by
          unfold lg
          rw [e1, last_one]
        by_cases z : (dec (b.drop p.toNat) 0 0).2 = 0
        · rw [if_pos z] at hlg ⊢
          refine ⟨fun _ => ?_, fun x r h => by cases h⟩
          unfold txt
          rw [hlg]
          rfl
        · rw [if_neg z] at hlg ⊢
          by_cases y : (dec (b.drop p.toNat) 0 0).1 > (b.length : Int) - (p + (dec (b.drop p.toNat) 0 0).2)
          · rw [if_pos y] at hlg
            rw [if_pos (by rw [hL]; omega)]
            refine ⟨fun _ => ?_, fun x r h => by cases h⟩
            unfold txt
            rw [hlg]
            rfl
          · rw [if_neg y] at hlg
            rw [if_neg (by rw [hL]; omega)]
            refine ⟨(fun h => by cases h), fun x r h => ?_⟩
            injection h with h
            injection h with ha hr
            subst ha
            refine ⟨by omega, ?_, by omega⟩
            unfold txt
            rw [hlg]
            simp only
            rw [if_neg (by omega)]
            have hd : (b.drop p.toNat).drop (dec (b.drop p.toNat) 0 0).2.toNat = b.drop (p + (dec (b.drop p.toNat) 0 0).2).toNat := by
              rw [List.drop_drop]
              congr 1
              omega
            refine Prod.ext (Prod.ext rfl (Prod.ext rfl (Prod.ext rfl ?_))) (Prod.ext ?_ rfl)
            · simp only
              rw [hd, List.take_drop]
              congr 2
              omega
            · simp only
              omega
theorem nxt_one (h0 : 0 ≤ p) (h1 : p ≤ b.length) (hb : ∀ x ∈ b, 0 ≤ x ∧ x ≤ 255) :
    (oneD (b.drop p.toNat) = none → (nxt b p [(b.length : Int)]).2 = (0, [])) ∧
    ∀ x s, oneD (b.drop p.toNat) = some (x, s) → 1 ≤ s ∧ nxt b p [(b.length : Int)] = (x, p + s, [(b.length : Int)]) ∧ p + s ≤ b.length := by
  have hi := inv_one h0 h1
  have hv := vD_facts hi hb
  have e1 : vD b p [(b.length : Int)] = dec (b.drop p.toNat) 0 0 := by unfold vD; rw [seg_one]
  rw [last_one, e1] at hv
  have htg : tg b p [(b.length : Int)] = if (dec (b.drop p.toNat) 0 0).2 = 0 then ((0, 0), 0, []) else if (spl (dec (b.drop p.toNat) 0 0).1).2.2 = true then (((spl (dec (b.drop p.toNat) 0 0).1).1, (spl (dec (b.drop p.toNat) 0 0).1).2.1), p + (dec (b.drop p.toNat) 0 0).2, [(b.length : Int)]) else ((0, 0), 0, []) := by
    unfold tg
    rw [e1]
  unfold oneD nxt
  by_cases z : (dec (b.drop p.toNat) 0 0).2 = 0
  · rw [if_pos z] at htg ⊢
    rw [htg]
    exact ⟨fun _ => nxt_none b, fun x s h => by cases h⟩
  · rw [if_neg z] at htg ⊢
    by_cases y : (spl (dec (b.drop p.toNat) 0 0).1).2.2 = true
    · rw [if_pos y] at htg ⊢
      rw [htg]
      have hd : (b.drop p.toNat).drop (dec (b.drop p.toNat) 0 0).2.toNat = b.drop (p + (dec (b.drop p.toNat) 0 0).2).toNat := by
        rw [List.drop_drop]
        congr 1
        omega
      rw [hd]
      have hp := payN_one (b := b) (p := p + (dec (b.drop p.toNat) 0 0).2) (by omega) (by omega) hb (spl (dec (b.drop p.toNat) 0 0).1).1 (spl (dec (b.drop p.toNat) 0 0).1).2.1 (dec (b.drop p.toNat) 0 0).2.toNat
      refine ⟨hp.1, fun x s h => ?_⟩
      obtain ⟨h2, h3, h4⟩ := hp.2 x s h
      refine ⟨by omega, ?_, by omega⟩
      simp only
      rw [h3]
      congr 2
      omega
    · rw [if_neg y] at htg ⊢
      rw [htg]
      exact ⟨fun _ => nxt_none b, fun x s h => by cases h⟩
end
/-- All fields of bytes, each with how many bytes it has; whether they are all. -/
def pgD : Nat → List Int → List (Fd × Nat) × Bool
  | 0, l => ([], l.isEmpty)
  | k + 1, l => if l.isEmpty then ([], true) else match oneD l with
    | none => ([], false)
    | some (x, s) => ((x, s) :: (pgD k (l.drop s)).1, (pgD k (l.drop s)).2)
theorem pg_nil (k : Nat) : pgD k [] = ([], true) := by cases k <;> rfl
theorem pg_none {k : Nat} {l : List Int} (h : l ≠ []) (h1 : oneD l = none) : pgD (k + 1) l = ([], false) := by
  have he : l.isEmpty = false := by cases l with | nil => exact absurd rfl h | cons _ _ => rfl
  simp only [pgD, he, h1]
  rfl
theorem pg_some {k : Nat} {l : List Int} {x : Fd} {s : Nat} (h : l ≠ []) (h1 : oneD l = some (x, s)) : pgD (k + 1) l = ((x, s) :: (pgD k (l.drop s)).1, (pgD k (l.drop s)).2) := by
  have he : l.isEmpty = false := by cases l with | nil => exact absurd rfl h | cons _ _ => rfl
  simp only [pgD, he, h1]
  rfl
/-- The bytes of a field's payload. -/
def payB (wire n : Int) (t : List Int) : List Int := if wire = 0 then enc (e n) n else if wire = 1 then M.b8 n else if wire = 5 then M.b4 n else enc (e (t.length : Int)) (t.length : Int) ++ t
/-- The bytes of a field. -/
def wb (x : Fd) : List Int := enc (e (x.1 * 8 + x.2.1)) (x.1 * 8 + x.2.1) ++ payB x.2.1 x.2.2.1 x.2.2.2
/-- Which fields are right. -/
def RightD (x : Fd) : Prop := (1 ≤ x.1 ∧ x.1 ≤ 536870911 ∧ (x.2.1 = 0 ∨ x.2.1 = 1 ∨ x.2.1 = 2 ∨ x.2.1 = 5)) ∧ (if x.2.1 = 2 then x.2.2.1 = 0 else x.2.2.2 = [] ∧ (x.2.1 = 5 → x.2.2.1 < 4294967296))
/-- Whatever is a value of the type. -/
def FdOk (x : Fd) : Prop := 0 ≤ x.2.2.1 ∧ x.2.2.1 ≤ 18446744073709551615 ∧ (∀ y ∈ x.2.2.2, 0 ≤ y ∧ y ≤ 255) ∧ x.2.2.2.length ≤ 140737488359000
theorem spl_put {a w : Int} (h : 1 ≤ a ∧ a ≤ 536870911 ∧ (w = 0 ∨ w = 1 ∨ w = 2 ∨ w = 5)) : spl (a * 8 + w) = (a, w, true) := by
  unfold spl
  rw [if_pos (by omega)]
  refine Prod.ext ?_ (Prod.ext ?_ rfl) <;> simp only <;> omega
theorem spl_back {u : Int} (h : (spl u).2.2 = true) : (1 ≤ (spl u).1 ∧ (spl u).1 ≤ 536870911 ∧ ((spl u).2.1 = 0 ∨ (spl u).2.1 = 1 ∨ (spl u).2.1 = 2 ∨ (spl u).2.1 = 5)) ∧ (spl u).1 * 8 + (spl u).2.1 = u := by
  unfold spl at h ⊢
  split at h
  · rename_i hc
    rw [if_pos hc]
    simp only
    omega
  · cases h
theorem one_wb {x : Fd} (hr : RightD x) (ho : FdOk x) (rest : List Int) : oneD (wb x ++ rest) = some (x, (wb x).length) := by
  obtain ⟨a, w, n, t⟩ := x
  obtain ⟨⟨h1, h2, h3⟩, h4⟩ := hr
  obtain ⟨o1, o2, o3, o4⟩ := ho
  simp only at h1 h2 h3 h4 o1 o2 o3 o4
  have hd := fun rest => dec_put (a * 8 + w) (by omega) (by omega) rest
  unfold wb oneD
  simp only
  rw [List.append_assoc, hd]
  simp only
  rw [if_neg (by omega), spl_put ⟨h1, h2, h3⟩]
  simp only
  have hdr : (enc (e (a * 8 + w)) (a * 8 + w) ++ (payB w n t ++ rest)).drop ((e (a * 8 + w) : Int) + 1).toNat = payB w n t ++ rest := by
    rw [show ((e (a * 8 + w) : Int) + 1).toNat = (enc (e (a * 8 + w)) (a * 8 + w)).length by rw [enc_length]; omega, List.drop_left]
  rw [if_pos trivial, hdr]
  have hl : (enc (e (a * 8 + w)) (a * 8 + w)).length = e (a * 8 + w) + 1 := enc_length _ _
  rw [List.length_append, hl]
  unfold payD payB
  have c10 : ¬ (1 : Int) = 0 := by decide
  have c12 : ¬ (1 : Int) = 2 := by decide
  have c20 : ¬ (2 : Int) = 0 := by decide
  have c21 : ¬ (2 : Int) = 1 := by decide
  have c25 : ¬ (2 : Int) = 5 := by decide
  have c50 : ¬ (5 : Int) = 0 := by decide
  have c51 : ¬ (5 : Int) = 1 := by decide
  have c52 : ¬ (5 : Int) = 2 := by decide
  have c02 : ¬ (0 : Int) = 2 := by decide
  rcases h3 with rfl | rfl | rfl | rfl
  · rw [if_neg c02] at h4
    obtain ⟨rfl, _⟩ := h4
    rw [if_pos (rfl : (0 : Int) = 0), if_pos (rfl : (0 : Int) = 0), dec_put n o1 o2 rest]
    simp only
    rw [if_neg (by omega), enc_length]
    exact congrArg some (Prod.ext rfl (by simp only; omega))
  · rw [if_neg c12] at h4
    obtain ⟨rfl, _⟩ := h4
    rw [if_neg c10, if_pos (rfl : (1 : Int) = 1), if_neg c10, if_pos (rfl : (1 : Int) = 1), if_neg (by simp [M.b8])]
    have hv : M.val8 (M.b8 n ++ rest) = n := by
      simp only [M.val8, M.b8, List.cons_append, List.getD_cons_zero, List.getD_cons_succ]
      omega
    rw [hv]
    have h8 : (M.b8 n).length = 8 := rfl
    rw [h8]
    exact congrArg some (Prod.ext rfl (by simp only; omega))
  · rw [if_pos rfl] at h4
    subst h4
    rw [if_neg c20, if_neg c21, if_neg c25, if_neg c20, if_neg c21, if_neg c25, List.append_assoc, dec_put (t.length : Int) (by omega) (by omega) (t ++ rest)]
    simp only
    rw [if_neg (by omega)]
    have ht : (enc (e (t.length : Int)) (t.length : Int) ++ (t ++ rest)).drop ((e (t.length : Int) : Int) + 1).toNat = t ++ rest := by
      rw [show ((e (t.length : Int) : Int) + 1).toNat = (enc (e (t.length : Int)) (t.length : Int)).length by rw [enc_length]; omega, List.drop_left]
    rw [ht, if_neg (by simp only [List.length_append, enc_length]; omega), Int.toNat_natCast, List.take_left, List.length_append, enc_length]
    exact congrArg some (Prod.ext rfl (by simp only; omega))
  · rw [if_neg c52] at h4
    obtain ⟨rfl, hn⟩ := h4
    have hn := hn rfl
    rw [if_neg c50, if_neg c51, if_pos (rfl : (5 : Int) = 5), if_neg c50, if_neg c51, if_pos (rfl : (5 : Int) = 5), if_neg (by simp [M.b4])]
    have hv : M.val4 (M.b4 n ++ rest) = n := by
      simp only [M.val4, M.b4, List.cons_append, List.getD_cons_zero, List.getD_cons_succ]
      omega
    rw [hv]
    have h8 : (M.b4 n).length = 4 := rfl
    rw [h8]
    exact congrArg some (Prod.ext rfl (by simp only; omega))
theorem dec_min {l : List Int} (hb : ∀ x ∈ l, 0 ≤ x ∧ x ≤ 255) (h : (dec l 0 0).2 ≠ 0) : 0 ≤ (dec l 0 0).1 ∧ (dec l 0 0).1 ≤ 18446744073709551615 ∧ (e (dec l 0 0).1 : Int) + 1 ≤ (dec l 0 0).2 ∧ (dec l 0 0).2 ≤ l.length := by
  rcases dec_spec l 0 0 hb (by omega) (by decide) (by omega) with h1 | ⟨s, h1, h2, h3, h4, h5, h6, h7⟩
  · rw [h1] at h; exact absurd rfl h
  · obtain ⟨j, rfl⟩ : ∃ j, s = j + 1 := ⟨s - 1, by omega⟩
    have := ex_le 9 (dec l 0 0).1 j h6
    refine ⟨h5, h7, ?_, by omega⟩
    rw [h1]
    unfold e
    omega
theorem val8_ok (l : List Int) (hb : ∀ x ∈ l, 0 ≤ x ∧ x ≤ 255) (h : ¬ l.length < 8) : 0 ≤ M.val8 l ∧ M.val8 l ≤ 18446744073709551615 := by
  obtain ⟨c0, c1, c2, c3, c4, c5, c6, c7, rest, rfl⟩ := M.eight l (by omega)
  have g0 := hb c0 (by simp)
  have g1 := hb c1 (by simp)
  have g2 := hb c2 (by simp)
  have g3 := hb c3 (by simp)
  have g4 := hb c4 (by simp)
  have g5 := hb c5 (by simp)
  have g6 := hb c6 (by simp)
  have g7 := hb c7 (by simp)
  simp only [M.val8, List.getD_cons_zero, List.getD_cons_succ]
  omega
theorem val4_ok (l : List Int) (hb : ∀ x ∈ l, 0 ≤ x ∧ x ≤ 255) (h : ¬ l.length < 4) : 0 ≤ M.val4 l ∧ M.val4 l ≤ 4294967295 := by
  obtain ⟨c0, c1, c2, c3, rest, rfl⟩ := M.four l (by omega)
  have g0 := hb c0 (by simp)
  have g1 := hb c1 (by simp)
  have g2 := hb c2 (by simp)
  have g3 := hb c3 (by simp)
  simp only [M.val4, List.getD_cons_zero, List.getD_cons_succ]
  omega
theorem one_back {l : List Int} (hb : ∀ x ∈ l, 0 ≤ x ∧ x ≤ 255) (hl : l.length ≤ 140737488359000) {x : Fd} {s : Nat} (h : oneD l = some (x, s)) : RightD x ∧ FdOk x ∧ (wb x).length ≤ s ∧ s ≤ l.length := by
  unfold oneD at h
  by_cases z : (dec l 0 0).2 = 0
  · rw [if_pos z] at h; cases h
  rw [if_neg z] at h
  obtain ⟨d1, d2, d3, d4⟩ := dec_min hb z
  have y : (spl (dec l 0 0).1).2.2 = true := by
    by_cases y : (spl (dec l 0 0).1).2.2 = true
    · exact y
    · rw [if_neg y] at h; cases h
  rw [if_pos y] at h
  obtain ⟨q1, q2⟩ := spl_back y
  obtain ⟨S, hS⟩ : ∃ S, S = spl (dec l 0 0).1 := ⟨_, rfl⟩
  rw [← hS] at h q1 q2
  obtain ⟨a, w, t⟩ := S
  simp only at h q1 q2
  clear hS y
  rw [← q2] at d3
  obtain ⟨D, hD⟩ : ∃ D, D = l.drop (dec l 0 0).2.toNat := ⟨_, rfl⟩
  have hDl : D.length = l.length - (dec l 0 0).2.toNat := by rw [hD, List.length_drop]
  have hDb : ∀ x ∈ D, 0 ≤ x ∧ x ≤ 255 := fun x hx => hb x (by rw [hD] at hx; exact List.mem_of_mem_drop hx)
  rw [← hD] at h
  clear hD
  unfold payD at h
  have hwl : ∀ n t, (wb (a, w, n, t)).length = e (a * 8 + w) + 1 + (payB w n t).length := fun n t => by unfold wb; rw [List.length_append, enc_length]
  by_cases w0 : w = 0
  · rw [if_pos w0] at h
    by_cases z2 : (dec D 0 0).2 = 0
    · rw [if_pos z2] at h; cases h
    rw [if_neg z2] at h
    injection h with h
    injection h with ha hr
    subst ha
    obtain ⟨f1, f2, f3, f4⟩ := dec_min hDb z2
    refine ⟨⟨q1, ?_⟩, ⟨f1, f2, by simp, by simp⟩, ?_, by omega⟩
    · exact (if_neg (show ¬ w = 2 by omega)).mpr ⟨rfl, fun h => by simp only at h ⊢; omega⟩
    · rw [hwl]; unfold payB; rw [if_pos w0, enc_length]; omega
  rw [if_neg w0] at h
  by_cases w1 : w = 1
  · rw [if_pos w1] at h
    by_cases z2 : D.length < 8
    · rw [if_pos z2] at h; cases h
    rw [if_neg z2] at h
    injection h with h
    injection h with ha hr
    subst ha
    obtain ⟨f1, f2⟩ := val8_ok D hDb z2
    refine ⟨⟨q1, ?_⟩, ⟨f1, f2, by simp, by simp⟩, ?_, by omega⟩
    · exact (if_neg (show ¬ w = 2 by omega)).mpr ⟨rfl, fun h => by simp only at h ⊢; omega⟩
    · rw [hwl]; unfold payB; rw [if_neg w0, if_pos w1]
      have h8 : (M.b8 (M.val8 D)).length = 8 := rfl
      omega
  rw [if_neg w1] at h
  by_cases w5 : w = 5
  · rw [if_pos w5] at h
    by_cases z2 : D.length < 4
    · rw [if_pos z2] at h; cases h
    rw [if_neg z2] at h
    injection h with h
    injection h with ha hr
    subst ha
    obtain ⟨f1, f2⟩ := val4_ok D hDb z2
    refine ⟨⟨q1, ?_⟩, ⟨f1, by simp only; omega, by simp, by simp⟩, ?_, by omega⟩
    · exact (if_neg (show ¬ w = 2 by omega)).mpr ⟨rfl, fun h => by simp only at h ⊢; omega⟩
    · rw [hwl]; unfold payB; rw [if_neg w0, if_neg w1, if_pos w5]
      have h8 : (M.b4 (M.val4 D)).length = 4 := rfl
      omega
  rw [if_neg w5] at h
  by_cases z2 : (dec D 0 0).2 = 0
  · rw [if_pos z2] at h; cases h
  rw [if_neg z2] at h
  obtain ⟨f1, f2, f3, f4⟩ := dec_min hDb z2
  by_cases z3 : (dec D 0 0).1 > (D.length : Int) - (dec D 0 0).2
  · rw [if_pos z3] at h; cases h
  rw [if_neg z3] at h
  injection h with h
  injection h with ha hr
  subst ha
  have w2 : w = 2 := by omega
  have htl : ((D.drop (dec D 0 0).2.toNat).take (dec D 0 0).1.toNat).length = (dec D 0 0).1.toNat := by
    rw [List.length_take, List.length_drop]
    omega
  refine ⟨⟨q1, ?_⟩, ⟨by simp, by simp, fun y hy => hDb y (List.mem_of_mem_drop (List.mem_of_mem_take hy)), by simp only; rw [htl]; omega⟩, ?_, by omega⟩
  · exact (if_pos w2).mpr rfl
  · rw [hwl]; unfold payB; rw [if_neg w0, if_neg w1, if_neg w5, List.length_append, enc_length, htl, show (((dec D 0 0).1.toNat : Nat) : Int) = (dec D 0 0).1 by omega]; omega
/-- The bytes of fields. -/
def wbs (l : List Fd) : List Int := (l.map wb).flatten
theorem wbs_cons (x : Fd) (l : List Fd) : wbs (x :: l) = wb x ++ wbs l := by simp [wbs]
theorem wbs_snoc (l : List Fd) (x : Fd) : wbs (l ++ [x]) = wbs l ++ wb x := by simp [wbs]
theorem wb_pos (x : Fd) : 1 ≤ (wb x).length := by unfold wb; rw [List.length_append, enc_length]; omega
/-- What was put is got. -/
theorem pg_put : ∀ (l : List Fd) (k : Nat), (∀ x ∈ l, RightD x ∧ FdOk x) → (wbs l).length ≤ k → pgD k (wbs l) = (l.map (fun x => (x, (wb x).length)), true)
  | [], k, _, _ => pg_nil k
  | x :: l, k, h, hk => by
    have hx := h x (by simp)
    have hp := wb_pos x
    rw [wbs_cons] at hk ⊢
    rw [List.length_append] at hk
    obtain ⟨k, rfl⟩ : ∃ m, k = m + 1 := ⟨k - 1, by omega⟩
    rw [pg_some (by intro he; have := congrArg List.length he; rw [List.length_append, List.length_nil] at this; omega) (one_wb hx.1 hx.2 (wbs l)), List.drop_left, pg_put l k (fun y hy => h y (by simp [hy])) (by omega)]
    rfl
/-- What is got is right, and has no more bytes when it is put. -/
theorem pg_got : ∀ (k : Nat) (l : List Int), (∀ x ∈ l, 0 ≤ x ∧ x ≤ 255) → l.length ≤ 140737488359000 → (∀ x ∈ (pgD k l).1, RightD x.1 ∧ FdOk x.1) ∧ (wbs ((pgD k l).1.map Prod.fst)).length ≤ l.length ∧ (pgD k l).1.length ≤ l.length
  | 0, l, _, _ => by simp [pgD, wbs]
  | k + 1, l, hb, hl => by
    by_cases hn : l = []
    · subst hn; rw [pg_nil]; simp [wbs]
    rcases h1 : oneD l with _ | ⟨x, s⟩
    · rw [pg_none hn h1]; simp [wbs]
    · obtain ⟨h2, h3, h4, h5⟩ := one_back hb hl h1
      have hp := wb_pos x
      rw [pg_some hn h1]
      have hd : (l.drop s).length = l.length - s := List.length_drop
      obtain ⟨i1, i2, i3⟩ := pg_got k (l.drop s) (fun y hy => hb y (List.mem_of_mem_drop hy)) (by omega)
      refine ⟨fun y hy => ?_, ?_, ?_⟩
      · rcases List.mem_cons.1 hy with rfl | hy
        · exact ⟨h2, h3⟩
        · exact i1 y hy
      · simp only [List.map_cons]
        rw [wbs_cons, List.length_append]
        omega
      · simp only [List.length_cons]
        omega
end Go.Proofs.Ytfbmabhdjliohaa.Cur

/- Texts that stand one behind the other: what a cursor reads of them; conditions stand at each. -/
import Derived.Test.YtfbmabhdjliohaaMCurG
namespace Go.Proofs.Ytfbmabhdjliohaa.Cur
open Go.RowKit Go.Proofs.YtfbmabhdjliohaaW.PrintWords Go.Proofs.YtfbmabhdjliohaaW.PrintLast Go.Proofs.YtfbmabhdjliohaaW.PrintMore Go.Proofs.Ytfbmabhdjliohaa.Var
/-- A text's bytes, its length ahead. -/
def wrt (s : List Int) : List Int := enc (e s.length) s.length ++ s
def cat (l : List (List Int)) : List Int := (l.map wrt).flatten
theorem cat_snoc (l : List (List Int)) (s : List Int) : cat (l ++ [s]) = cat l ++ wrt s := by simp [cat]
theorem cat_cons (l : List (List Int)) (s : List Int) : cat (s :: l) = wrt s ++ cat l := by simp [cat]
theorem wrt_len (s : List Int) : (wrt s).length = e s.length + 1 + s.length := by rw [wrt, List.length_append, enc_length]
theorem wrt_byte {s : List Int} (hb : ∀ x ∈ s, 0 ≤ x ∧ x ≤ 255) : ∀ x ∈ wrt s, 0 ≤ x ∧ x ≤ 255 := by
  intro x hx
  rcases List.mem_append.1 hx with h | h
  · exact VLib.enc_byte _ _ x h
  · exact hb x h
theorem cat_byte {l : List (List Int)} (hb : ∀ s ∈ l, ∀ x ∈ s, 0 ≤ x ∧ x ≤ 255) : ∀ x ∈ cat l, 0 ≤ x ∧ x ≤ 255 := by
  intro x hx
  obtain ⟨t, ht, h⟩ := List.mem_flatten.1 hx
  obtain ⟨s, hs, rfl⟩ := List.mem_map.1 ht
  exact wrt_byte (hb s hs) x h
theorem cut_part (b : List Int) (p k d L : Nat) (h : p + k + d ≤ L) : (b.take (p + k + d)).drop (p + k) = ((((b.take L).drop p).drop k).take d) := by
  rw [List.drop_drop, List.drop_take, List.drop_take, List.take_take]
  congr 1
  omega
/-- A length stands there. -/
theorem lg_at {b : List Int} {p L : Nat} {ends : List Int} (hL : last ends = (L : Int)) (hpL : p ≤ L) (hLb : L ≤ b.length) (n : Nat) (t : List Int) (hn : n ≤ t.length) (hs : n ≤ 140737488359000) (h : (b.take L).drop p = enc (e n) n ++ t) :
    lg b p ends = ((n : Int), ((p + (e n + 1) : Nat) : Int), ends) := by
  have hv : vD b p ends = ((n : Int), (e n : Int) + 1) := by
    unfold vD seg
    rw [hL, Int.toNat_natCast, Int.toNat_natCast, h]
    exact dec_put n (by omega) (by omega) t
  have hlen : L - p = e n + 1 + t.length := by
    have h1 := congrArg List.length h
    rw [List.length_drop, List.length_take, List.length_append, enc_length] at h1
    omega
  unfold lg
  rw [hv]
  simp only
  rw [if_neg (by omega), if_neg (by rw [hL]; omega)]
  congr 2
/-- A text stands there. -/
theorem txt_at {b : List Int} {p L : Nat} {ends : List Int} (hL : last ends = (L : Int)) (hpL : p ≤ L) (hLb : L ≤ b.length) (s t : List Int) (hs : s.length ≤ 140737488359000) (h : (b.take L).drop p = wrt s ++ t) :
    txt b p ends = (s, ((p + (wrt s).length : Nat) : Int), ends) := by
  have h' : (b.take L).drop p = enc (e s.length) s.length ++ (s ++ t) := by rw [h, wrt, List.append_assoc]
  have hg := lg_at hL hpL hLb s.length (s ++ t) (by rw [List.length_append]; omega) hs h'
  have hlen : L - p = e s.length + 1 + s.length + t.length := by
    have h1 := congrArg List.length h'
    rw [List.length_drop, List.length_take, List.length_append, List.length_append, enc_length] at h1
    omega
  unfold txt
  rw [hg]
  simp only
  rw [if_neg (by omega)]
  refine Prod.ext ?_ (Prod.ext ?_ rfl)
  · simp only
    have e1 : (((p + (e s.length + 1) : Nat) : Int) + (s.length : Int)).toNat = p + (e s.length + 1) + s.length := by omega
    rw [e1, Int.toNat_natCast, cut_part b p (e s.length + 1) s.length L (by omega), h', List.drop_left' (enc_length _ _), List.take_left]
  · simp only
    rw [wrt_len]
    omega
theorem nums_str (s : ByteArray) : strOfNums (bytesOf s) = s := by
  cases s with
  | mk data =>
    unfold strOfNums bytesOf
    congr 1
    apply Array.ext'
    simp only [List.map_map]
    exact (List.map_congr_left (fun y _ => show UInt8.ofNat ((y.toNat : Int)).toNat = y by rw [Int.toNat_natCast]; simp)).trans (List.map_id _)
theorem bytesOf_byte (s : ByteArray) : ∀ x ∈ bytesOf s, 0 ≤ x ∧ x ≤ 255 := by
  intro x hx
  obtain ⟨y, _, rfl⟩ := List.mem_map.1 hx
  have := y.toNat_lt
  omega
end Go.Proofs.Ytfbmabhdjliohaa.Cur

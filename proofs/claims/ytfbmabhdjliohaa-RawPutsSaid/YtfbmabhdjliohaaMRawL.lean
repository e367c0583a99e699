/- RawEach; the law's example; which lists are the same; conditions stand at each. -/
import Derived.Test.YtfbmabhdjliohaaMRawGet
namespace Go.Proofs.Ytfbmabhdjliohaa.Cur
open Go.RowKit Go.Proofs.Ytfbmabhdjliohaa.Rng Go.Proofs.YtfbmabhdjliohaaW.PrintWords Go.Proofs.YtfbmabhdjliohaaW.PrintLast Go.Proofs.YtfbmabhdjliohaaW.PrintMore Go.Proofs.Ytfbmabhdjliohaa.Var
set_option maxHeartbeats 1000000
set_option maxRecDepth 100000
set_option linter.unusedSimpArgs false
set_option linter.unusedVariables false
abbrev SR := PRaw.S46
def rdR (xs : List SR) (i : Int) : SR := PRaw.rd_T46 xs i
/-- Two fields part. -/
def neB (x y : SR) : Bool := (!((x.f0) == (y.f0)) || (!((x.f1) == (y.f1)) || (!((x.f2) == (y.f2)) || (!(((x.f3).toList) == ((y.f3).toList))))))
theorem neB_self (x : SR) : neB x x = false := by simp [neB]
/-- Lists are the same from a place on. -/
def sameFrom (l m : List SR) : Nat → Nat → Bool
  | 0, _ => true
  | d + 1, i => if neB (rdR l (i : Int)) (rdR m (i : Int)) = true then false else sameFrom l m d (i + 1)
theorem sameFrom_self (l : List SR) : ∀ d i, sameFrom l l d i = true
  | 0, _ => rfl
  | d + 1, i => by simp only [sameFrom]; rw [if_neg (by rw [neB_self]; decide)]; exact sameFrom_self l d (i + 1)
def sameB (l m : List SR) : Bool := if (l.length : Int) = (m.length : Int) then sameFrom l m l.length 0 else false
theorem sameB_self (l : List SR) : sameB l l = true := by unfold sameB; rw [if_pos rfl]; exact sameFrom_self _ _ _
theorem refsame_l (l m : List SR) (hl : l.length = m.length) (hb : l.length ≤ 4000000000000) : ∀ (d k i : Nat), i + d = l.length → d < k → PRaw.ecdysisref07_Same.l0 k l m (i : Int) = some (sameFrom l m d i)
  | 0, k, i, h, hk => by
    obtain ⟨k, rfl⟩ : ∃ j, k = j + 1 := ⟨k - 1, by omega⟩
    simp only [PRaw.ecdysisref07_Same.l0, sameFrom]
    rw [if_neg (by omega)]
  | d + 1, k, i, h, hk => by
    obtain ⟨k, rfl⟩ : ∃ j, k = j + 1 := ⟨k - 1, by omega⟩
    have hw : wrap64 ((i : Int) + 1) = ((i + 1 : Nat) : Int) := by unfold wrap64; omega
    have ih := refsame_l l m hl hb d k (i + 1) (by omega) (by omega)
    simp only [PRaw.ecdysisref07_Same.l0, sameFrom]
    rw [if_pos (by omega), if_pos (by omega), if_pos (by omega), hw, ih]
    show (if neB (rdR l (i : Int)) (rdR m (i : Int)) = true then some false else some (sameFrom l m d (i + 1))) = _
    split <;> rfl
theorem refsame_f (l m : List SR) (hb : l.length ≤ 4000000000000) (k : Nat) (hk : l.length < k) : PRaw.ecdysisref07_Same.f k l m = some (sameB l m) := by
  unfold PRaw.ecdysisref07_Same.f sameB
  by_cases h : (l.length : Int) = (m.length : Int)
  · rw [if_pos h, if_pos h]
    exact refsame_l l m (by omega) hb l.length k 0 (by omega) hk
  · rw [if_neg h, if_neg h]
/-- The example's fields. -/
def liveL : List SR := [⟨1, 0, 1, strOfNums []⟩, ⟨2, 2, 0, strOfNums [97]⟩]
theorem live_par : par [8, 1, 18, 1, 97] = ([((1, 0, 1, []), 2), ((2, 2, 0, [97]), 3)], true) := by kernel_rfl
theorem u8_row {w : World} {xs : List Int} (hl : xs.length ≤ 1000) : Kd.C (Kd.int .u8) (w.alloc (.cells (encs (Value.int .u8) xs).toArray 5)) (some ⟨w.heap.size, 0, none⟩) xs.length xs :=
  (Kd.R_reads' (Kd.R_of_own (enc := Value.int .u8) (h1 := fun _ => rfl) (xs := xs) (base := 0) (ok := fun _ => True) ⟨by rw [encs_length, Nat.mul_one], .inr ⟨w.heap.size, xs.length, (encs (Value.int .u8) xs).toArray, rfl, Nat.zero_le _, blk_new w _, Nat.le_refl _, by simp only [maxLen]; omega, by rw [List.size_toArray, encs_length, Nat.mul_one], by rw [List.toList_toArray, List.take_of_length_le (by rw [encs_length]; omega)]⟩⟩ (fun _ _ => trivial))).2.2
theorem two46 (W : World) (x y : SR) : Kd.C PRaw.k46 (W.alloc (.cells #[.int .i64 x.f0, .int .i64 x.f1, .int .u64 x.f2, .string x.f3, .int .i64 y.f0, .int .i64 y.f1, .int .u64 y.f2, .string y.f3] 46)) (some ⟨W.heap.size, 0, none⟩) [x, y].length [x, y] := by
  have h : Kd.R PRaw.k46 46 (W.alloc (.cells #[.int .i64 x.f0, .int .i64 x.f1, .int .u64 x.f2, .string x.f3, .int .i64 y.f0, .int .i64 y.f1, .int .u64 y.f2, .string y.f3] 46)) 0 (fun _ => True) (.slice (some ⟨W.heap.size, 0, none⟩) 2 2) [x, y] :=
    ⟨fun _ _ => trivial, _, ⟨rfl, .inr ⟨W.heap.size, 2, _, rfl, Nat.zero_le _, blk_new W _, Nat.le_refl _, by decide, rfl, rfl⟩⟩, ((Reps.none _ _).snoc (PRaw.k46_mkM _ _ _ x) rfl).snoc (PRaw.k46_mkM _ _ _ y) rfl⟩
  exact (Kd.R_reads' h).2.2
theorem live_raw (w : World) : Calls Try.prog 23 #[] w fun e w' => e = .returned (.bool true) ∧ Below w.heap.size w w' := by
  have HG := Aside0.mk (Get_c (w := w.alloc (.cells #[.int .u8 8, .int .u8 1, .int .u8 18, .int .u8 1, .int .u8 97] 5)) (A := some ⟨w.heap.size, 0, none⟩) (c := 5) (b := [8, 1, 18, 1, 97]) (u8_row (xs := [8, 1, 18, 1, 97]) (by decide)) (Nat.le_refl _) (fun ad h1 _ => by injection h1 with h1; subst h1; rw [World.size_alloc]; exact Nat.lt_succ_self _) (by decide) (by decide))
  go_enter Try.func23, Try.ntmps23
  go_wp2_with (first
    | (go_at_call 27; refine HG.out.mono ?_; rintro e w1 ⟨hb1, hy1, _⟩
       rw [live_par] at hy1
       obtain ⟨vo, rfl, ho⟩ := hy1 rfl
       obtain ⟨Ao, co, rfl⟩ := Kd.R_slice ho
       have HO := Aside0.mk ho
       have B1 := Aside0.mk hb1
       clear ho hy1 hb1)
    | (go_at_call 28; refine (PRaw.ecdysislaw07_num.calls 0 0 _ rfl).mono ?_; rintro e w2 ⟨rfl, ⟨n2, rfl⟩⟩)
    | (go_at_call 30
       refine (PRaw.ecdysisref07_Same.calls 9 _ _ liveL _ _ liveL true _ (Kd.R_reads' (Kd.R_alloc (Kd.R_drewN HO.out _) _)).2.2 (Kd.R_reads' HO.out).2.1 (two46 _ ⟨1, 0, 1, strOfNums []⟩ ⟨2, 2, 0, strOfNums [97]⟩) (Nat.le_refl _) (by rw [refsame_f _ _ (by decide) _ (by decide), sameB_self])).mono ?_
       rintro e w3 ⟨rfl, hd3⟩
       have D3 := Aside0.mk hd3
       clear hd3))
  go_ret
  refine ⟨rfl, ?_⟩
  have b1 := B1.out
  have hs := b1.size
  rw [World.size_alloc] at hs
  exact ((below_alloc (Below.refl _ _) _).trans (b1.mono (szA (Nat.le_refl _) _))).trans (((pw_below_drewN (Below.refl w.heap.size w1) n2).alloc (by show _ ≤ w1.heap.size; omega) _).trans (Drawn0.bel D3.out))
end Go.Proofs.Ytfbmabhdjliohaa.Cur

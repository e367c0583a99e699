/- fix.Put4, Put8, Get4, Get8: numbers' bytes and back, as the Go code computes them; no conditions but that numbers are of their kind. -/
import Derived.Test.YtfbmabhdjliohaaMk
import Derived.Test.YtfbmabhdjliohaaWNEv
import Derived.LoopN
import Derived.Laws.CopyOwn
import Derived.Laws.Rows
import Derived.Laws.BitsAllLaws
import Derived.WalkLawsBesides
namespace Go.Proofs.Ytfbmabhdjliohaa.M
open Go.RowKit Go.Proofs.YtfbmabhdjliohaaW.PrintWords Go.Proofs.YtfbmabhdjliohaaW.PrintLast
/-- The eight bytes of a number. -/
def b8 (a : Int) : List Int := [a % 256, a / 256 % 256, a / 65536 % 256, a / 16777216 % 256, a / 4294967296 % 256, a / 1099511627776 % 256, a / 281474976710656 % 256, a / 72057594037927936]
def b4 (a : Int) : List Int := [a % 256, a / 256 % 256, a / 65536 % 256, a / 16777216]
def cells8 (a : Int) : Array Value := #[.int .u8 (a % 256), .int .u8 (a / 256 % 256), .int .u8 (a / 65536 % 256), .int .u8 (a / 16777216 % 256), .int .u8 (a / 4294967296 % 256), .int .u8 (a / 1099511627776 % 256), .int .u8 (a / 281474976710656 % 256), .int .u8 (a / 72057594037927936)]
set_option maxHeartbeats 1000000 in
theorem bytesOf_calls (a0 : Int) (w : World) (h0 : 0 ≤ a0) (h1 : a0 ≤ 18446744073709551615) :
    Calls Try.prog 96 #[.int .u64 a0] w fun e w' => e = .returned (.agg (cells8 a0)) ∧ Below w.heap.size w w' := by
  go_enter Try.func96, Try.ntmps96
  go_wp2
  refine wp_loop_rounds 9 ?_
  iterate 9 (rw [rounds_succ]; go_wp2)
  refine bodyPost_ret (v := .agg (cells8 a0)) (by simp [results, Try.results96, go_sem, cells8]) rfl ⟨rfl, ?_⟩
  exact below_alloc (below_alloc (Below.refl _ _) _) _
theorem row_of (w w1 : World) (t : Nat) (n : Nat) (xs : List Int) (cur : Array Value) (hb : Below w.heap.size w w1) (hn : n ≤ 8) (hl : xs.length = n) (hs : cur.size = 8) (ht : cur.toList.take n = xs.map (Value.int .u8)) :
    Kd.R (Kd.int .u8) t (w1.alloc (.cells cur t)) w.heap.size (fun _ => True) (.slice (some ⟨w1.heap.size, 0, none⟩) n 8) xs := by
  refine ⟨fun _ _ => trivial, xs.map (Value.int .u8), ?_, ?_⟩
  · refine ⟨by simp [hl, Kd.int, Kd.scalar], .inr ⟨w1.heap.size, 8, cur, by simp [hl], hb.size, blk_new w1 _, by omega, by unfold maxLen; omega, by simp [Kd.int, Kd.scalar, hs], ?_⟩⟩
    rw [hl]
    simpa [Kd.int, Kd.scalar] using ht
  · refine ⟨by simp [Kd.int, Kd.scalar], fun j p hp => ?_⟩
    simp only [Kd.int, Kd.scalar, Nat.mul_one]
    have hj := (List.getElem?_eq_some_iff.1 hp)
    obtain ⟨hlt, he⟩ := hj
    rw [List.drop_eq_getElem_cons (by simpa using hlt)]
    simp [he]
def fix_Put8.f (a0 : Int) : Option (List Int) := if 0 ≤ a0 ∧ a0 ≤ 18446744073709551615 then some (b8 a0) else none
set_option maxHeartbeats 1000000 in
theorem fix_Put8.calls (a0 : Int) (r : List Int) (w : World) (h : fix_Put8.f a0 = some r) :
    Calls Try.prog 90 #[.int .u64 a0] w fun e w' => ∃ v0_ : Value, e = .returned v0_ ∧ Kd.R (Kd.int .u8) 103 w' w.heap.size (fun _ => True) v0_ r ∧ Below w.heap.size w w' := by
  unfold fix_Put8.f at h
  by_cases hc : 0 ≤ a0 ∧ a0 ≤ 18446744073709551615
  · rw [if_pos hc] at h
    obtain rfl := Option.some.inj h
    obtain ⟨h0, h1⟩ := hc
    have HC := Aside0.mk (bytesOf_calls a0)
    clear h
    go_enter Try.func90, Try.ntmps90
    go_wp2_with fail
    refine (HC.out _ h0 h1).mono ?_
    rintro e w1 ⟨rfl, hb⟩
    have HB := Aside0.mk hb
    clear hb
    unfold cells8
    go_wp2_with fail
    go_ret
    exact ⟨_, rfl, row_of w w1 _ 8 _ (cells8 a0) HB.out (by omega) rfl rfl rfl, below_alloc HB.out _⟩
  · rw [if_neg hc] at h
    cases h
theorem orP (a y : Int) (i : Nat) (P : Int) (hP : P = ((2 ^ (8 * i) : Nat) : Int)) (hi : i ≤ 7) (a0 : 0 ≤ a) (a1 : a < P) (h0 : 0 ≤ y ∧ y ≤ 255) : Go.bits .or .u64 a (y * P) = a + y * P := by
  have hle : P ≤ 72057594037927936 := by
    rw [hP]
    have h1 : 2 ^ (8 * i) ≤ 2 ^ 56 := Nat.pow_le_pow_right (by omega) (by omega)
    have h2 : (2 ^ 56 : Nat) = 72057594037927936 := by decide
    omega
  have h3 : 0 ≤ y * P ∧ y * P ≤ 255 * P := ⟨Int.mul_nonneg h0.1 (by omega), Int.mul_le_mul_of_nonneg_right h0.2 (by omega)⟩
  rw [u64_or _ _ a0 (by omega) h3.1 (by omega), Nat.or_comm]
  have h4 : (y * P).toNat = y.toNat * 2 ^ (8 * i) := by
    obtain ⟨m, rfl⟩ := Int.eq_ofNat_of_zero_le h0.1
    rw [hP, ← Int.natCast_mul, Int.toNat_natCast, Int.toNat_natCast]
  rw [nat_join (8 * i) _ _ (by rw [h4]; exact Nat.mul_mod_left _ _) (by omega)]
  omega
theorem sum8 (c0 c1 c2 c3 c4 c5 c6 c7 : Int) (h0 : 0 ≤ c0 ∧ c0 ≤ 255) (h1 : 0 ≤ c1 ∧ c1 ≤ 255) (h2 : 0 ≤ c2 ∧ c2 ≤ 255) (h3 : 0 ≤ c3 ∧ c3 ≤ 255) (h4 : 0 ≤ c4 ∧ c4 ≤ 255) (h5 : 0 ≤ c5 ∧ c5 ≤ 255) (h6 : 0 ≤ c6 ∧ c6 ≤ 255) (h7 : 0 ≤ c7 ∧ c7 ≤ 255) : (Go.bits .or .u64 (Go.bits .or .u64 (Go.bits .or .u64 (Go.bits .or .u64 (Go.bits .or .u64 (Go.bits .or .u64 (Go.bits .or .u64 (Go.bits .or .u64 0 c0) (c1 * 256)) (c2 * 65536)) (c3 * 16777216)) (c4 * 4294967296)) (c5 * 1099511627776)) (c6 * 281474976710656)) (c7 * 72057594037927936)) = c0 + c1 * 256 + c2 * 65536 + c3 * 16777216 + c4 * 4294967296 + c5 * 1099511627776 + c6 * 281474976710656 + c7 * 72057594037927936 := by
  rw [show Go.bits .or .u64 0 c0 = c0 from by rw [u64_or _ _ (by omega) (by omega) (by omega) (by omega)]; simp; omega]
  rw [orP _ c1 1 256 (by decide) (by omega) (by omega) (by omega) h1]
  rw [orP _ c2 2 65536 (by decide) (by omega) (by omega) (by omega) h2]
  rw [orP _ c3 3 16777216 (by decide) (by omega) (by omega) (by omega) h3]
  rw [orP _ c4 4 4294967296 (by decide) (by omega) (by omega) (by omega) h4]
  rw [orP _ c5 5 1099511627776 (by decide) (by omega) (by omega) (by omega) h5]
  rw [orP _ c6 6 281474976710656 (by decide) (by omega) (by omega) (by omega) h6]
  rw [orP _ c7 7 72057594037927936 (by decide) (by omega) (by omega) (by omega) h7]
set_option maxHeartbeats 2000000 in
theorem number_calls (c0 c1 c2 c3 c4 c5 c6 c7 : Int) (w : World) (h0 : 0 ≤ c0 ∧ c0 ≤ 255) (h1 : 0 ≤ c1 ∧ c1 ≤ 255) (h2 : 0 ≤ c2 ∧ c2 ≤ 255) (h3 : 0 ≤ c3 ∧ c3 ≤ 255) (h4 : 0 ≤ c4 ∧ c4 ≤ 255) (h5 : 0 ≤ c5 ∧ c5 ≤ 255) (h6 : 0 ≤ c6 ∧ c6 ≤ 255) (h7 : 0 ≤ c7 ∧ c7 ≤ 255) :
    Calls Try.prog 87 #[.agg #[.int .u8 c0, .int .u8 c1, .int .u8 c2, .int .u8 c3, .int .u8 c4, .int .u8 c5, .int .u8 c6, .int .u8 c7]] w fun e w' => e = .returned (.int .u64 (c0 + c1 * 256 + c2 * 65536 + c3 * 16777216 + c4 * 4294967296 + c5 * 1099511627776 + c6 * 281474976710656 + c7 * 72057594037927936)) ∧ Below w.heap.size w w' := by
  have hs := sum8 c0 c1 c2 c3 c4 c5 c6 c7 h0 h1 h2 h3 h4 h5 h6 h7
  have HS := Aside0.mk hs
  clear hs
  obtain ⟨p0, q0⟩ := h0
  obtain ⟨p1, q1⟩ := h1
  obtain ⟨p2, q2⟩ := h2
  obtain ⟨p3, q3⟩ := h3
  obtain ⟨p4, q4⟩ := h4
  obtain ⟨p5, q5⟩ := h5
  obtain ⟨p6, q6⟩ := h6
  obtain ⟨p7, q7⟩ := h7
  have i0 : ∀ w, (Instr.index 103 (.agg #[.int .u8 c0, .int .u8 c1, .int .u8 c2, .int .u8 c3, .int .u8 c4, .int .u8 c5, .int .u8 c6, .int .u8 c7]) (.int .i64 0)).run Try.prog w = .ok (.int .u8 c0) w := fun _ => by kernel_rfl
  have i1 : ∀ w, (Instr.index 103 (.agg #[.int .u8 c0, .int .u8 c1, .int .u8 c2, .int .u8 c3, .int .u8 c4, .int .u8 c5, .int .u8 c6, .int .u8 c7]) (.int .i64 1)).run Try.prog w = .ok (.int .u8 c1) w := fun _ => by kernel_rfl
  have i2 : ∀ w, (Instr.index 103 (.agg #[.int .u8 c0, .int .u8 c1, .int .u8 c2, .int .u8 c3, .int .u8 c4, .int .u8 c5, .int .u8 c6, .int .u8 c7]) (.int .i64 2)).run Try.prog w = .ok (.int .u8 c2) w := fun _ => by kernel_rfl
  have i3 : ∀ w, (Instr.index 103 (.agg #[.int .u8 c0, .int .u8 c1, .int .u8 c2, .int .u8 c3, .int .u8 c4, .int .u8 c5, .int .u8 c6, .int .u8 c7]) (.int .i64 3)).run Try.prog w = .ok (.int .u8 c3) w := fun _ => by kernel_rfl
  have i4 : ∀ w, (Instr.index 103 (.agg #[.int .u8 c0, .int .u8 c1, .int .u8 c2, .int .u8 c3, .int .u8 c4, .int .u8 c5, .int .u8 c6, .int .u8 c7]) (.int .i64 4)).run Try.prog w = .ok (.int .u8 c4) w := fun _ => by kernel_rfl
  have i5 : ∀ w, (Instr.index 103 (.agg #[.int .u8 c0, .int .u8 c1, .int .u8 c2, .int .u8 c3, .int .u8 c4, .int .u8 c5, .int .u8 c6, .int .u8 c7]) (.int .i64 5)).run Try.prog w = .ok (.int .u8 c5) w := fun _ => by kernel_rfl
  have i6 : ∀ w, (Instr.index 103 (.agg #[.int .u8 c0, .int .u8 c1, .int .u8 c2, .int .u8 c3, .int .u8 c4, .int .u8 c5, .int .u8 c6, .int .u8 c7]) (.int .i64 6)).run Try.prog w = .ok (.int .u8 c6) w := fun _ => by kernel_rfl
  have i7 : ∀ w, (Instr.index 103 (.agg #[.int .u8 c0, .int .u8 c1, .int .u8 c2, .int .u8 c3, .int .u8 c4, .int .u8 c5, .int .u8 c6, .int .u8 c7]) (.int .i64 7)).run Try.prog w = .ok (.int .u8 c7) w := fun _ => by kernel_rfl
  go_enter Try.func87, Try.ntmps87
  go_wp2
  refine wp_loop_rounds 9 ?_
  iterate 9 (rw [rounds_succ]; go_wp2)
  go_ret
  exact ⟨congrArg (fun z => Ending.returned (.int .u64 z)) HS.out, below_alloc (Below.refl _ _) _⟩
def fix_Put4.f (a0 : Int) : Option (List Int) := if 0 ≤ a0 ∧ a0 ≤ 4294967295 then some (b4 a0) else none
theorem b4_cells (a0 : Int) (h0 : 0 ≤ a0) (h1 : a0 ≤ 4294967295) : (cells8 a0).toList.take 4 = (b4 a0).map (Value.int .u8) := by
  have : a0 / 16777216 % 256 = a0 / 16777216 := by omega
  simp [cells8, b4, this]
set_option maxHeartbeats 1000000 in
theorem fix_Put4.calls (a0 : Int) (r : List Int) (w : World) (h : fix_Put4.f a0 = some r) :
    Calls Try.prog 91 #[.int .u32 a0] w fun e w' => ∃ v0_ : Value, e = .returned v0_ ∧ Kd.R (Kd.int .u8) 103 w' w.heap.size (fun _ => True) v0_ r ∧ Below w.heap.size w w' := by
  unfold fix_Put4.f at h
  by_cases hc : 0 ≤ a0 ∧ a0 ≤ 4294967295
  · rw [if_pos hc] at h
    obtain rfl := Option.some.inj h
    obtain ⟨h0, h1⟩ := hc
    have HC := Aside0.mk (bytesOf_calls a0)
    have H4 := Aside0.mk (b4_cells a0 h0 h1)
    clear h
    go_enter Try.func91, Try.ntmps91
    go_wp2_with fail
    refine (HC.out _ h0 (by omega)).mono ?_
    rintro e w1 ⟨rfl, hb⟩
    have HB := Aside0.mk hb
    clear hb
    unfold cells8
    go_wp2_with fail
    go_ret
    exact ⟨_, rfl, row_of w w1 _ 4 _ (cells8 a0) HB.out (by omega) rfl rfl H4.out, below_alloc HB.out _⟩
  · rw [if_neg hc] at h
    cases h
/-- What bytes are as a number, the first one least. -/
def val8 (l : List Int) : Int := l.getD 0 0 + l.getD 1 0 * 256 + l.getD 2 0 * 65536 + l.getD 3 0 * 16777216 + l.getD 4 0 * 4294967296 + l.getD 5 0 * 1099511627776 + l.getD 6 0 * 281474976710656 + l.getD 7 0 * 72057594037927936
theorem elem8 : (Try.prog.info? 5).map (·.size) = some 1 := by kernel_rfl
theorem src_cells {w : World} {A : Option Addr} {l : List Int} (h : Kd.C (Kd.int .u8) w A l.length l) (m : Nat) (hm : m ≤ l.length) (h0 : 0 < m) :
    ∃ ad, A = some ad ∧ ∀ j v, ((l.take m).map (Value.int .u8))[j]? = some v → w.cell? (ad.add j) = some v := by
  have hr := Kd.reads_of_C (enc := Value.int .u8) (d := 0) h
  obtain ⟨ad, ha, hc⟩ := hr.2.2 (by omega)
  refine ⟨ad, ha, fun j v hv => ?_⟩
  rw [List.getElem?_map, List.getElem?_take] at hv
  split at hv
  · rename_i hj
    have hj2 : j < l.length := by omega
    rw [List.getElem?_eq_getElem hj2] at hv
    simp at hv
    rw [hc j hj2, ← hv]
    simp [List.getD_eq_getElem?_getD, List.getElem?_eq_getElem hj2]
  · simp at hv
theorem eight (l : List Int) (h : 8 ≤ l.length) : ∃ c0 c1 c2 c3 c4 c5 c6 c7 rest, l = c0 :: c1 :: c2 :: c3 :: c4 :: c5 :: c6 :: c7 :: rest := by
  iterate 8 (rcases l with _ | ⟨_, l⟩; · simp at h)
  exact ⟨_, _, _, _, _, _, _, _, _, rfl⟩
theorem four (l : List Int) (h : 4 ≤ l.length) : ∃ c0 c1 c2 c3 rest, l = c0 :: c1 :: c2 :: c3 :: rest := by
  iterate 4 (rcases l with _ | ⟨_, l⟩; · simp at h)
  exact ⟨_, _, _, _, _, rfl⟩
def val4 (l : List Int) : Int := l.getD 0 0 + l.getD 1 0 * 256 + l.getD 2 0 * 65536 + l.getD 3 0 * 16777216
def fix_Get8.f (l0 : List Int) : Option (Int × Bool) := if l0.length < 8 then some (0, false) else if ∀ x ∈ l0.take 8, 0 ≤ x ∧ x ≤ 255 then some (val8 l0, true) else none
set_option maxHeartbeats 2000000 in
theorem fix_Get8.calls (A0 : Option Addr) (c0 : Nat) (l0 : List Int) (r1 : Int) (r2 : Bool) (w : World) (hr0 : Kd.C (Kd.int .u8) w A0 l0.length l0) (_hc0 : l0.length ≤ c0) (h : fix_Get8.f l0 = some (r1, r2)) :
    Calls Try.prog 71 #[.slice A0 l0.length c0] w fun e w' => e = .returned (.tuple #[.int .u64 r1, .bool r2]) ∧ Below w.heap.size w w' := by
  unfold fix_Get8.f at h
  by_cases hl : l0.length < 8
  · rw [if_pos hl] at h
    simp only [Option.some.injEq, Prod.mk.injEq] at h
    obtain ⟨rfl, rfl⟩ := h
    go_enter Try.func71, Try.ntmps71
    go_wp2
    go_ret2
    exact ⟨rfl, Below.refl _ _⟩
  · rw [if_neg hl] at h
    by_cases hb : ∀ x ∈ l0.take 8, 0 ≤ x ∧ x ≤ 255
    · rw [if_pos hb] at h
      simp only [Option.some.injEq, Prod.mk.injEq] at h
      obtain ⟨rfl, rfl⟩ := h
      obtain ⟨ad, ha, hcell⟩ := src_cells hr0 8 (by omega) (by omega)
      obtain ⟨c0', c1, c2, c3, c4, c5, c6, c7, rest, rfl⟩ := eight l0 (by omega)
      have HA := Aside0.mk ha
      have HCL := Aside0.mk hcell
      have HN := Aside0.mk (fun W => number_calls c0' c1 c2 c3 c4 c5 c6 c7 W (hb _ (by simp)) (hb _ (by simp)) (hb _ (by simp)) (hb _ (by simp)) (hb _ (by simp)) (hb _ (by simp)) (hb _ (by simp)) (hb _ (by simp)))
      have hlen : ¬ (((c0' :: c1 :: c2 :: c3 :: c4 :: c5 :: c6 :: c7 :: rest).length : Int) < 8) := by simp; omega
      clear ha hcell hb hl hr0
      go_enter Try.func71, Try.ntmps71
      go_wp2_with (first | ((with_reducible refine wpList_copy_splice rfl (.tmp 8) (.tmp 9) _ _ rfl 5 Try.underlying23 elem8 _ _ _ _ _ _ rfl rfl w.heap.size 0 [.int .u8 0, .int .u8 0, .int .u8 0, .int .u8 0, .int .u8 0, .int .u8 0, .int .u8 0, .int .u8 0] 103 ?h1 [.int .u8 c0', .int .u8 c1, .int .u8 c2, .int .u8 c3, .int .u8 c4, .int .u8 c5, .int .u8 c6, .int .u8 c7] ?h2 ?h3 ?h4 ?h5 w.heap.size w ?h6 (Nat.le_refl _) ?_); (case h1 => exact blk_new w _); (case h2 => show 8 = Nat.min _ 8; exact (Nat.min_eq_right (by omega)).symm); (case h3 => exact fun _ => ⟨rfl, ad, HA.out, fun j v hv => pw_cell_below (below_alloc (Below.refl _ _) _) (HCL.out j v hv)⟩); (case h4 => simp); (case h5 => simp [Value.oneCell']); (case h6 => exact below_alloc (Below.refl _ _) _); intro w2 hh hb2; have hb3 := Aside0.mk hb2; clear hb2) | (refine wpList_load_row rfl 103 (.tmp 4) rfl w.heap.size rfl 103 #[.int .u8 c0', .int .u8 c1, .int .u8 c2, .int .u8 c3, .int .u8 c4, .int .u8 c5, .int .u8 c6, .int .u8 c7] (0, 0) _ hh Try.underlying103 rfl (by kernel_rfl) ?_))
      refine (HN.out _).mono ?_
      rintro e w3 ⟨rfl, hb4⟩
      have hb5 := Aside0.mk (hb3.out.trans (hb4.mono hb3.out.size))
      clear hb3 hb4 hh
      have hb3 := hb5
      go_wp2_with fail
      go_ret2
      exact ⟨rfl, hb3.out⟩
    · rw [if_neg hb] at h
      cases h
def fix_Get4.f (l0 : List Int) : Option (Int × Bool) := if l0.length < 4 then some (0, false) else if ∀ x ∈ l0.take 4, 0 ≤ x ∧ x ≤ 255 then some (val4 l0, true) else none
set_option maxHeartbeats 2000000 in
theorem fix_Get4.calls (A0 : Option Addr) (c0 : Nat) (l0 : List Int) (r1 : Int) (r2 : Bool) (w : World) (hr0 : Kd.C (Kd.int .u8) w A0 l0.length l0) (_hc0 : l0.length ≤ c0) (h : fix_Get4.f l0 = some (r1, r2)) :
    Calls Try.prog 68 #[.slice A0 l0.length c0] w fun e w' => e = .returned (.tuple #[.int .u32 r1, .bool r2]) ∧ Below w.heap.size w w' := by
  unfold fix_Get4.f at h
  by_cases hl : l0.length < 4
  · rw [if_pos hl] at h
    simp only [Option.some.injEq, Prod.mk.injEq] at h
    obtain ⟨rfl, rfl⟩ := h
    go_enter Try.func68, Try.ntmps68
    go_wp2
    go_ret2
    exact ⟨rfl, Below.refl _ _⟩
  · rw [if_neg hl] at h
    by_cases hb : ∀ x ∈ l0.take 4, 0 ≤ x ∧ x ≤ 255
    · rw [if_pos hb] at h
      simp only [Option.some.injEq, Prod.mk.injEq] at h
      obtain ⟨rfl, rfl⟩ := h
      obtain ⟨ad, ha, hcell⟩ := src_cells hr0 4 (by omega) (by omega)
      obtain ⟨c0', c1, c2, c3, rest, rfl⟩ := four l0 (by omega)
      have HA := Aside0.mk ha
      have HCL := Aside0.mk hcell
      have HN := Aside0.mk (fun W => number_calls c0' c1 c2 c3 0 0 0 0 W (hb _ (by simp)) (hb _ (by simp)) (hb _ (by simp)) (hb _ (by simp)) (by omega) (by omega) (by omega) (by omega))
      have HV := Aside0.mk (show (c0' + c1 * 256 + c2 * 65536 + c3 * 16777216) % 4294967296 = c0' + c1 * 256 + c2 * 65536 + c3 * 16777216 by have b0 := hb c0' (by simp); have b1 := hb c1 (by simp); have b2 := hb c2 (by simp); have b3 := hb c3 (by simp); omega)
      have hlen : ¬ (((c0' :: c1 :: c2 :: c3 :: rest).length : Int) < 4) := by simp; omega
      clear ha hcell hb hl hr0
      go_enter Try.func68, Try.ntmps68
      go_wp2_with (first | ((with_reducible refine wpList_copy_splice rfl (.tmp 8) (.tmp 9) _ _ rfl 5 Try.underlying23 elem8 _ _ _ _ _ _ rfl rfl w.heap.size 0 [.int .u8 0, .int .u8 0, .int .u8 0, .int .u8 0, .int .u8 0, .int .u8 0, .int .u8 0, .int .u8 0] 103 ?h1 [.int .u8 c0', .int .u8 c1, .int .u8 c2, .int .u8 c3] ?h2 ?h3 ?h4 ?h5 w.heap.size w ?h6 (Nat.le_refl _) ?_); (case h1 => exact blk_new w _); (case h2 => show 4 = Nat.min _ 4; exact (Nat.min_eq_right (by omega)).symm); (case h3 => exact fun _ => ⟨rfl, ad, HA.out, fun j v hv => pw_cell_below (below_alloc (Below.refl _ _) _) (HCL.out j v hv)⟩); (case h4 => simp); (case h5 => simp [Value.oneCell']); (case h6 => exact below_alloc (Below.refl _ _) _); intro w2 hh hb2; have hb3 := Aside0.mk hb2; clear hb2) | (refine wpList_load_row rfl 103 (.tmp 4) rfl w.heap.size rfl 103 #[.int .u8 c0', .int .u8 c1, .int .u8 c2, .int .u8 c3, .int .u8 0, .int .u8 0, .int .u8 0, .int .u8 0] (0, 0) _ hh Try.underlying103 rfl (by kernel_rfl) ?_))
      refine (HN.out _).mono ?_
      rintro e w3 ⟨rfl, hb4⟩
      have hb5 := Aside0.mk (hb3.out.trans (hb4.mono hb3.out.size))
      clear hb3 hb4 hh
      have hb3 := hb5
      go_wp2_with fail
      go_ret2
      exact ⟨congrArg (fun z => Ending.returned (.tuple #[.int .u32 z, .bool true])) HV.out, hb3.out⟩
    · rw [if_neg hb] at h
      cases h
end Go.Proofs.Ytfbmabhdjliohaa.M

/- The law's live, and CursorReads; conditions stand at each. -/
import Derived.Test.YtfbmabhdjliohaaMCurE
namespace Go.Proofs.Ytfbmabhdjliohaa.Cur
open Go.RowKit Go.Proofs.YtfbmabhdjliohaaW.PrintWords Go.Proofs.YtfbmabhdjliohaaW.PrintLast Go.Proofs.YtfbmabhdjliohaaW.PrintMore Go.Proofs.Ytfbmabhdjliohaa.Var
set_option maxHeartbeats 1000000
set_option maxRecDepth 100000
set_option linter.unusedSimpArgs false
theorem live_txt : txt [2, 97, 98] 0 [3] = ([97, 98], 3, [3]) := by decide +kernel
theorem live_row (w : World) : Kd.C (Kd.int .u8) (w.alloc (.cells #[.int .u8 2, .int .u8 97, .int .u8 98] 5)) (some ⟨w.heap.size, 0, none⟩) ([2, 97, 98] : List Int).length [2, 97, 98] :=
  (Kd.R_reads' (Kd.R_of_own (enc := Value.int .u8) (h1 := fun _ => rfl) (xs := [2, 97, 98]) (base := 0) (ok := fun _ => True) ⟨rfl, .inr ⟨w.heap.size, 3, #[.int .u8 2, .int .u8 97, .int .u8 98], rfl, Nat.zero_le _, blk_new w _, by decide, by decide, rfl, rfl⟩⟩ (fun _ _ => trivial))).2.2
theorem live_from (w : World) : Calls Try.prog 11 #[.slice (some ⟨w.heap.size, 0, none⟩) 3 3] (w.alloc (.cells #[.int .u8 2, .int .u8 97, .int .u8 98] 5)) fun e w' => ∃ b g v, e = .returned (.pointer (some ⟨g, 0, none⟩)) ∧ b = [2, 97, 98] ∧ IsC w' (w.heap.size + 1) g (some ⟨w.heap.size, 0, none⟩) 3 b 0 v [3] ∧ Below w.heap.size w w' ∧ w.heap.size + 1 ≤ w'.heap.size := by
  have hs1 : (w.alloc (.cells #[.int .u8 2, .int .u8 97, .int .u8 98] 5)).heap.size = w.heap.size + 1 := Array.size_push _
  refine (From_c (live_row w) (Nat.le_refl _) (fun ad h1 _ => by injection h1 with h1; subst h1; rw [hs1]; exact Nat.lt_succ_self _)).mono ?_
  rintro e w' ⟨rfl, h1, b1⟩
  rw [hs1] at h1 b1
  have b2 := b1.size
  rw [hs1] at b2
  refine ⟨_, w.heap.size + 1 + 1, _, by rw [hs1], rfl, h1, ?_, b2⟩
  exact (below_alloc (Below.refl _ _) _).trans (b1.mono (Nat.le_succ _))
/-- live. -/
theorem live_c (w : World) : Calls Try.prog 9 #[] w fun e w' => e = .returned (.bool true) ∧ Below w.heap.size w w' := by
  have HF := Aside0.mk (live_from w)
  have hst : (strOfNums [97, 98]).toList = [97, 98] := by decide +kernel
  go_enter Try.func9, Try.ntmps9
  go_wp2_with (first
    | (go_at_call 11; refine HF.out.mono ?_; rintro e w1 ⟨b, g, v, rfl, hb, h1, b1, s1⟩
       have ht := live_txt; rw [← hb] at ht; have HT := Aside0.mk ht
       have HI := Aside0.mk (show Inv b.length 0 [3] by subst hb; exact ⟨by decide, by decide, List.pairwise_singleton _ _, by decide⟩)
       have HX := Aside0.mk (show (∀ x ∈ b, 0 ≤ x ∧ x ≤ 255) ∧ b.length ≤ 140737488359000 by subst hb; exact ⟨by decide, by decide⟩)
       have H1 := Aside0.mk h1; have B1 := Aside0.mk b1; have S1 := Aside0.mk s1; clear h1 b1 hb ht s1)
    | (go_at_call 15; refine (Text_c H1.out HI.out S1.out HX.out.1 HX.out.2).mono ?_; rw [HT.out]; rintro e w2 ⟨rfl, v2, h2, f2⟩; have H2 := Aside0.mk h2; have F2 := Aside0.mk f2; clear h2 f2)
    | (go_at_call 14; refine (more_c H2.out).mono ?_; rw [show moreB 3 [3] = false by decide]; rintro e w3 ⟨rfl, hd3⟩; have H3 := Aside0.mk (H2.out.drawn hd3); have D3 := Aside0.mk hd3; clear hd3)
    | (go_at_call 20; refine (ok_yes H3.out (by decide)).mono ?_; rintro e w4 ⟨rfl, hd4⟩; have D4 := Aside0.mk hd4; clear hd4))
  go_ret
  exact ⟨rfl, B1.out.trans ((F2.out.below (B := w.heap.size) (Nat.le_trans (Nat.le_succ _) S1.out) (Nat.le_trans (Nat.le_succ _) H1.out.ge) (fun k hk => Nat.le_trans (Nat.le_succ _) (own_bounds H1.out.row hk).1)).trans ((Drawn0.bel D3.out).trans (Drawn0.bel D4.out)))⟩
theorem C_lt {w : World} {A : Option Addr} {n : Nat} {xs : List Int} (h : Kd.C (Kd.int .u8) w A n xs) : ∀ ad, A = some ad → 0 < n → ad.block < w.heap.size := by
  intro ad h1 h2
  rcases Nat.lt_or_ge ad.block w.heap.size with h3 | h3
  · exact h3
  · exact absurd rfl (Kd.far_C (0 : Int) h h3 ad h1 h2)
/-- A cursor's row and what else it is at a larger base. -/
theorem IsM.lower {w : World} {B B' g : Nat} {A : Option Addr} {c : Nat} {b : List Int} {p : Int} {v : Value} {ends : List Int} (h : IsM w B' g A c b p v ends) (hB : B ≤ B') (hA : ∀ ad, A = some ad → 0 < b.length → ad.block < B) : IsM w B g A c b p v ends :=
  ⟨h.blk, Kd.R_lower h.row hB, h.rd, h.lc, Nat.le_trans hB h.ge, hA⟩
theorem two_new {w2 w3 : World} {B g gm : Nat} {A Am : Option Addr} {c cm : Nat} {b : List Int} {p : Int} {v : Value} {ends : List Int} {N : Nat} {vm : Value} {em : List Int} (hC : IsC w2 B g A c b p v ends) (hM : IsM w3 w2.heap.size gm Am cm b 0 vm em) (hem : em = [(b.length : Int)]) (hb23 : Below w2.heap.size w2 w3) (hB : B ≤ w2.heap.size) (hA : ∀ ad, Am = some ad → 0 < b.length → ad.block < B)
    (hi : Inv b.length p ends) (hb : ∀ x ∈ b, 0 ≤ x ∧ x ≤ 255) (hl : b.length ≤ 140737488359000) (hN : ends.length ≤ N) (h1 : 1 ≤ N) : Two w3 B g gm A Am c cm b p v ends 0 vm em N := by
  subst hem
  refine ⟨hC.below hb23, hM.lower hB hA, fun k hk he => ?_, Nat.le_trans hB hb23.size, hi, ⟨by omega, ?_, List.pairwise_singleton _ _, by simp⟩, hb, hl, hN, h1⟩
  · have h2 := (own_bounds hC.row hk).2
    have h3 := (own_bounds hM.row he).1
    omega
  · intro x hx
    rw [List.mem_singleton.1 hx]
    omega
theorem inv_new (n : Nat) : Inv n 0 [(n : Int)] := ⟨by omega, fun x hx => by rw [List.mem_singleton.1 hx]; omega, List.pairwise_singleton _ _, by simp⟩
theorem info5' : (Try.prog.info? 5).map (fun i => (i.zero, i.size, i.bytes)) = some (some (.int .u8 0), 1, 1) := by kernel_rfl
theorem rd_u8 {ks : List Int} (h : ∀ x ∈ ks, 0 ≤ x ∧ x ≤ 255) (i : Nat) : 0 ≤ rd ks (i : Int) := by
  unfold rd
  rw [List.getD_eq_getElem?_getD]
  rcases hh : ks[(i : Int).toNat]? with _ | x
  · simp
  · exact (h x (List.mem_of_getElem? hh)).1
/-- CursorReads. -/
theorem reads_c {w : World} {A : Option Addr} {c : Nat} {b : List Int} {A2 : Option Addr} {c2 : Nat} {ks : List Int} (hr : Kd.C (Kd.int .u8) w A b.length b) (hc : b.length ≤ c) (hr2 : Kd.C (Kd.int .u8) w A2 ks.length ks) (_hc2 : ks.length ≤ c2) (hb : ∀ x ∈ b, 0 ≤ x ∧ x ≤ 255) (hks : ∀ x ∈ ks, 0 ≤ x ∧ x ≤ 255) :
    Calls Try.prog 4 #[.slice A b.length c, .slice A2 ks.length c2] w fun e w' => e = .returned (.bool true) ∧ Below w.heap.size w w' := by
  have HL := Aside0.mk live_c
  by_cases h1 : (b.length : Int) > 1000
  · have hd1 : decide ((b.length : Int) > 1000) = true := decide_eq_true h1
    clear hr hc hr2 hb hks h1
    go_enter Try.func4, Try.ntmps4
    go_wp2_with (first | (go_at_call 9; refine (HL.out _).mono ?_; rintro e w1 ⟨rfl, b1⟩; have B1 := Aside0.mk b1; clear b1))
    go_ret
    exact ⟨rfl, B1.out⟩
  have hd1 : decide ((b.length : Int) > 1000) = false := decide_eq_false h1
  by_cases h2 : (ks.length : Int) > 100
  · have hd2 : decide ((ks.length : Int) > 100) = true := decide_eq_true h2
    clear hr hc hr2 hb hks h1 h2
    go_enter Try.func4, Try.ntmps4
    go_wp2_with (first | (go_at_call 9; refine (HL.out _).mono ?_; rintro e w1 ⟨rfl, b1⟩; have B1 := Aside0.mk b1; clear b1))
    go_ret
    exact ⟨rfl, B1.out⟩
  have hd2 : decide ((ks.length : Int) > 100) = false := decide_eq_false h2
  have HR := Aside0.mk hr
  have HR2 := Aside0.mk hr2
  have HC := Aside0.mk hc
  have HBY := Aside0.mk hb
  have HKS := Aside0.mk hks
  have HBL := Aside0.mk (show b.length ≤ 1000 ∧ ks.length ≤ 100 by omega)
  clear hr hc hr2 hb hks h1 h2
  go_enter Try.func4, Try.ntmps4
  go_wp2_with (first
    | ((with_reducible refine gate_builtin (b := .append) (xs := #[.tmp 17, .tmp 18]) rfl ?_); at_builtin
       refine Kd.R_append_row (Value.int .u8) (0 : Int) (h1 := fun _ => rfl) (w0 := w) w.heap.size rfl (.tmp 17) (.tmp 18) 23 5 (.int .u8 0) 1 rfl Try.underlying23 info5' rfl (by decide) (.slice (some ⟨w.heap.size, 0, none⟩) 0 0) [] b A b.length c (fun _ => True) rfl rfl (fun _ _ => trivial) ?aO ?aR ?aB ?aS ?aL ?_
       (case aO => exact Kd.R_of_own ⟨rfl, .inr ⟨w.heap.size, 0, #[], rfl, Nat.le_refl _, blk_new w _, Nat.le_refl _, by decide, rfl, rfl⟩⟩ (fun _ _ => trivial))
       (case aR => exact Kd.C_alloc HR.out _)
       (case aB => exact below_alloc (Below.refl _ _) _)
       (case aS => exact (below_alloc (Below.refl _ _) _ : Below w.heap.size w _).size)
       (case aL => have := HBL.out; simp; omega)
       intro v1 w1 ho hb1 hgw hat
       clear hgw hat
       rw [List.nil_append] at ho
       obtain ⟨A1, c1, rfl⟩ := Kd.R_slice ho
       have HO1 := Aside0.mk ho
       have B1 := Aside0.mk hb1
       clear ho hb1)
    | (go_at_call 11; refine (From_c (Kd.R_reads' HO1.out).2.2 (Kd.R_reads' HO1.out).2.1 (C_lt (Kd.R_reads' HO1.out).2.2)).mono ?_; rintro e w2 ⟨rfl, h2, b2⟩; have H2 := Aside0.mk h2; have B2 := Aside0.mk b2; clear h2 b2)
    | (go_at_call 17; refine (From_m (Kd.C_below HR.out (B1.out.trans (B2.out.mono B1.out.size))) HC.out (fun ad h1 h2 => Nat.lt_of_lt_of_le (C_lt HR.out ad h1 h2) (Nat.le_trans B1.out.size B2.out.size))).mono ?_; rintro e w3 ⟨rfl, h3, b3⟩; have T3 := Aside0.mk (two_new H2.out h3 rfl b3 B2.out.size (fun ad h1 h2 => Nat.lt_of_lt_of_le (C_lt HR.out ad h1 h2) B1.out.size) (inv_new _) HBY.out (by have := HBL.out; omega) (Nat.le_refl 1) (Nat.le_refl 1)); have B3 := Aside0.mk ((B1.out.trans (B2.out.mono B1.out.size)).trans (b3.mono (Nat.le_trans B1.out.size B2.out.size))); clear h3 b3))
  go_loopg [7] (ks.length) (fun kq v7 w' => ∃ (i : Nat) (p : Int) (v : Value) (ends : List Int) (vm : Value), v7 = .int .i64 (i : Int) ∧ Aside0 (kq + i = ks.length) ∧ Aside0 (Two w' w1.heap.size (w1.heap.size + 1) (w2.heap.size + 1) A1 A c1 c b p v ends p vm ends (2 * i + 1)) ∧ Aside0 (Below w.heap.size w w'))
  case atStart => exact ⟨0, 0, _, _, _, rfl, ⟨by omega⟩, T3, B3⟩
  case round =>
    obtain ⟨i, p, v, ends, vm, rfl, HK, T, B⟩ := hrel
    by_cases hik : (i : Int) < (ks.length : Int)
    · have hdk : decide ((i : Int) < (ks.length : Int)) = true := decide_eq_true hik
      have hi0 : (0 : Int) ≤ (i : Int) := by omega
      obtain ⟨ad, e, hx⟩ := Kd.at_int HR2.out (i : Int) hi0 hik
      subst e
      have hx2 := (B.out.cell (World.block_lt_of_cell? w _ hx)).trans hx
      have hwi : IntKind.i64.wrap ((i : Int) + 1) = (i : Int) + 1 := by have := HBL.out; rw [IntKind.wrap_i64]; omega
      rw [Int.toNat_natCast] at hx2
      clear hx
      go_wp2_with (first
        | (go_at_call 18; refine (read_c T.out (by have := HBL.out; omega) (rd ks (i : Int)) (rd_u8 HKS.out i)).mono ?_; rintro e w4 ⟨r, v', vm', rfl, hr, t4, b4⟩; obtain rfl := hr rfl rfl; have T4 := Aside0.mk t4; have B4 := Aside0.mk b4; clear hr t4 b4)
        | (go_at_call 19; refine (like_c T4.out).mono ?_; rintro e w5 ⟨rfl, hd5⟩; have T5 := Aside0.mk (T4.out.drawn hd5); have hD5 := Aside0.mk hd5; clear hd5))
      go_roundg (gk - 1)
      case measure => have := HK.out; omega
      case rel => exact ⟨i + 1, _, _, _, _, by rw [Int.natCast_add]; rfl, ⟨by have := HK.out; omega⟩, ⟨T5.out.more (by omega)⟩, ⟨B.out.trans ((B4.out.trans (Drawn0.bel (hD5.out))).mono B1.out.size)⟩⟩
    · have hdk : decide ((i : Int) < (ks.length : Int)) = false := decide_eq_false hik
      have hdk2 : decide (i < ks.length) = false := decide_eq_false (by omega)
      clear hik
      go_wp2_with (first | (go_at_call 9; refine (HL.out _).mono ?_; rintro e w6 ⟨rfl, b6⟩; have B6 := Aside0.mk b6; clear b6))
      go_ret
      exact ⟨rfl, B.out.trans (B6.out.mono B.out.size)⟩
end Go.Proofs.Ytfbmabhdjliohaa.Cur

/- RawEach; conditions stand at each. -/
import Derived.Test.YtfbmabhdjliohaaMRawL
namespace Go.Proofs.Ytfbmabhdjliohaa.Cur
open Go.RowKit Go.Proofs.Ytfbmabhdjliohaa.Rng Go.Proofs.YtfbmabhdjliohaaW.PrintWords Go.Proofs.YtfbmabhdjliohaaW.PrintLast Go.Proofs.YtfbmabhdjliohaaW.PrintMore Go.Proofs.Ytfbmabhdjliohaa.Var
set_option maxHeartbeats 1000000
set_option maxRecDepth 100000
set_option linter.unusedSimpArgs false
set_option linter.unusedVariables false
theorem Each_c (A : Option Addr) (n c : Nat) (w : World) : Calls Try.prog 25 #[.slice A n c] w fun e w' => e = .returned (.func (.func 54) #[] #[.pointer (some ⟨w.heap.size, 0, none⟩)]) ∧ Below w.heap.size w w' ∧ w'.heap[w.heap.size]? = some (.cells #[.slice A n c] 23 (0, 0)) := by
  go_enter Try.func25, Try.ntmps25
  go_wp2
  go_ret
  exact ⟨rfl, below_alloc (Below.refl _ _) _, blk_new _ _⟩
theorem eq_fn (w : World) (f : Fn) (fi ca : Array Value) : (binOp .eql 43 (.func f fi ca) .nilFunc).run Try.prog w = .ok (.bool false) w := by
  have h : ∀ d : Nat, (Op.equalIn (d + 1) 43 (.func f fi ca) .nilFunc).run Try.prog w = .ok false w := fun d => by
    simp [Op.equalIn, run_underlying Try.underlying43]
  simp only [binOp]
  simp [Op.equal, Op.maxDepth, h 9999]
/-- The sequence's value, called with the law's closure. -/
theorem Each1_c {w0 W : World} {L gb nb mb ab sb bx : Nat} {A : Option Addr} {c : Nat} {b : List Int} {vm va : Value} {most : Int} (hx : W.heap[bx]? = some (.cells #[.slice A b.length c] 23 (0, 0))) (hr : Kd.C (Kd.int .u8) W A b.length b) (hc : b.length ≤ c)
    (he : EB W L gb nb mb ab sb 0 most vm va ((par b).1.map fun x => s46 x.1) (offs 0 (par b).1)) (hbel : Below w0.heap.size w0 W) (hL : L ≤ W.heap.size) (h0 : w0.heap.size ≤ W.heap.size) (hg : w0.heap.size ≤ gb ∧ w0.heap.size ≤ nb) (hA : ∀ ad, A = some ad → 0 < b.length → ad.block < w0.heap.size) (hb : ∀ x ∈ b, 0 ≤ x ∧ x ≤ 255) (hbl : b.length ≤ 1000) :
    Calls Try.prog 54 #[.func (.func 26) #[] #[.pointer (some ⟨gb, 0, none⟩), .pointer (some ⟨nb, 0, none⟩), .pointer (some ⟨mb, 0, none⟩), .pointer (some ⟨ab, 0, none⟩), .pointer (some ⟨sb, 0, none⟩)], .pointer (some ⟨bx, 0, none⟩)] W fun e W' =>
      e = .returned (.tuple #[]) ∧ ∃ k : Nat, (k : Int) = want most (par b).1.length ∧ EB W' L gb nb mb ab sb k most vm va ((par b).1.map fun x => s46 x.1) (offs 0 (par b).1) ∧ Below w0.heap.size w0 W' := by
  have hlt := (⟨blk_lt he.hg, blk_lt he.hn, blk_lt he.hm, blk_lt he.ha, blk_lt he.hs⟩ : gb < W.heap.size ∧ nb < W.heap.size ∧ mb < W.heap.size ∧ ab < W.heap.size ∧ sb < W.heap.size)
  have HF := Aside0.mk (From_c hr hc (fun ad h1 h2 => Nat.lt_of_lt_of_le (hA ad h1 h2) h0))
  have HE := Aside0.mk he
  have HBEL := Aside0.mk hbel
  have HLN : Aside0 (LN w0 W.heap.size L gb nb mb ab sb A b) := ⟨⟨hlt, hL, h0, hg, hA⟩⟩
  have HBY := Aside0.mk hb
  have HBL := Aside0.mk hbl
  have hcx : W.cell? ⟨bx, 0, none⟩ = some (.slice A b.length c) := (blk_cell hx 0).trans rfl
  clear hx hr hc he hbel hL h0 hg hA hb hbl hlt
  go_enter Try.func54, Try.ntmps54
  go_wp2_with (first
    | (go_at_call 11; refine HF.out.mono ?_; rintro e w1 ⟨rfl, h1, b1⟩; have H1 := Aside0.mk h1; have B1 := Aside0.mk b1; clear h1 b1)
    | (go_at_call 55; refine (each_c _ _).mono ?_; rintro e w2 ⟨rfl, b2, x2⟩
       have J2 : Aside0 (LJ w0 w2 W.heap.size (W.heap.size + 1) w1.heap.size L gb nb mb ab sb A c b [] 0 (.slice (some ⟨W.heap.size, 0, none⟩) 1 1) [(b.length : Int)] most vm va) := by
         have hb1 := B1.out
         have hbb := hb1.trans (b2.mono hb1.size)
         exact ⟨⟨H1.out.below b2, x2, HE.out.below hbb HLN.out.hL HLN.out.h1, HBEL.out.trans (hbb.mono HLN.out.h0), hbb.size, hb1.size⟩⟩
       clear b2 x2)
    | (go_at_call 75; refine (each_law HLN.out J2.out HBY.out HBL.out).mono ?_; rintro e w3 ⟨rfl, k, hk, he3, hb3⟩
       have HK := Aside0.mk hk; have E3 := Aside0.mk he3; have B3 := Aside0.mk hb3; clear hk he3 hb3))
  go_end0
  exact ⟨rfl, k, HK.out, E3.out, B3.out⟩
theorem R46_bound {W : World} {base : Nat} {v : Value} {xs : List PRaw.S46} (h : Kd.R PRaw.k46 46 W base (fun _ => True) v xs) : Kd.R PRaw.k46 46 W base (fun j => j < W.heap.size) v xs := by
  obtain ⟨h0, inner, ho, hr⟩ := h
  refine ⟨fun k hk => own_lt ho k hk, inner, ho, hr.imp_ (fun x cs hx => ?_)⟩
  obtain rfl := PRaw.k46_openM hx
  exact PRaw.k46_mkM _ _ _ x
theorem Rint_bound {W : World} {base : Nat} {v : Value} {xs : List Int} (h : Kd.R (Kd.int .i64) 3 W base (fun _ => True) v xs) : Kd.R (Kd.int .i64) 3 W base (fun j => j < W.heap.size) v xs := by
  obtain ⟨h0, inner, ho, hr⟩ := h
  exact ⟨fun k hk => own_lt ho k hk, inner, ho, hr.imp_ (fun _ _ hp => hp)⟩
theorem EB.make {w2 : World} {sb : Nat} {most : Int} {vm va : Value} {ms : List PRaw.S46} {az : List Int} {base : Nat} (hs : w2.heap[sb]? = some (.cells #[.int .i64 most] 3 (0, 0))) (ho : Kd.R PRaw.k46 46 w2 base (fun _ => True) vm ms) (ha : Kd.R (Kd.int .i64) 3 w2 base (fun _ => True) va az) :
    EB ((((w2.alloc (.cells #[vm] 38)).alloc (.cells #[va] 39)).alloc (.cells #[.int .i64 0] 3)).alloc (.cells #[.bool true] 4)) w2.heap.size (w2.heap.size + 1 + 1 + 1) (w2.heap.size + 1 + 1) w2.heap.size (w2.heap.size + 1) sb 0 most vm va ms az := by
  have b0 := blk_new w2 (.cells #[vm] 38)
  have b1 := blk_new (w2.alloc (.cells #[vm] 38)) (.cells #[va] 39)
  have b2 := blk_new ((w2.alloc (.cells #[vm] 38)).alloc (.cells #[va] 39)) (.cells #[.int .i64 0] 3)
  have b3 := blk_new (((w2.alloc (.cells #[vm] 38)).alloc (.cells #[va] 39)).alloc (.cells #[.int .i64 0] 3)) (.cells #[.bool true] 4)
  simp only [World.size_alloc] at b1 b2 b3
  have hlt := blk_lt hs
  refine ⟨b3, blk_alloc b2 _, blk_alloc (blk_alloc (blk_alloc b0 _) _) _, blk_alloc (blk_alloc b1 _) _, blk_alloc (blk_alloc (blk_alloc (blk_alloc hs _) _) _) _, by omega,
    ⟨base, Kd.R_alloc (Kd.R_alloc (Kd.R_alloc (Kd.R_alloc (Kd.R_mono (R46_bound ho) (fun k hk => hk)) _) _) _) _⟩, ⟨base, Kd.R_alloc (Kd.R_alloc (Kd.R_alloc (Kd.R_alloc (Kd.R_mono (Rint_bound ha) (fun k hk => hk)) _) _) _) _⟩, by omega, by omega⟩
theorem RawEach_c {w : World} {A : Option Addr} {c : Nat} {b : List Int} (most : Int) (hr : Kd.C (Kd.int .u8) w A b.length b) (hc : b.length ≤ c) (hap : ∀ ad, A = some ad → 0 < b.length → ad.block < w.heap.size) (hb : ∀ x ∈ b, 0 ≤ x ∧ x ≤ 255) :
    Calls Try.prog 6 #[.slice A b.length c, .int .i64 most] w fun e w' => e = .returned (.bool true) ∧ Below w.heap.size w w' := by
  have HL := Aside0.mk live_raw
  have hef := eq_fn
  by_cases hl : (b.length : Int) > 1000
  · have hd1 : decide ((b.length : Int) > 1000) = true := decide_eq_true hl
    clear hr hc hap hb hl
    go_enter Try.func6, Try.ntmps6
    go_wp2_with (first | (go_at_call 23; refine (HL.out _).mono ?_; rintro e w1 ⟨rfl, b1⟩; have B1 := Aside0.mk b1; clear b1))
    go_ret
    exact ⟨rfl, (below_alloc (Below.refl _ _) _).trans (B1.out.mono (szA (Nat.le_refl _) _))⟩
  have hd1 : decide ((b.length : Int) > 1000) = false := decide_eq_false hl
  obtain ⟨w1, hw1⟩ : ∃ w1, w1 = w.alloc (.cells #[.int .i64 most] 3) := ⟨_, rfl⟩
  have b1 : Below w.heap.size w w1 := by rw [hw1]; exact below_alloc (Below.refl _ _) _
  have hs1 : w1.heap.size = w.heap.size + 1 := by rw [hw1]; exact World.size_alloc _ _
  have x1 : w1.heap[w.heap.size]? = some (.cells #[.int .i64 most] 3 (0, 0)) := by rw [hw1]; exact blk_new _ _
  have HR := Aside0.mk (RGet_c (Kd.C_below hr b1) hc (fun ad h1 h2 => by have := hap ad h1 h2; omega) hb (by omega))
  have HRR := Aside0.mk hr
  have HC := Aside0.mk hc
  have HAP := Aside0.mk hap
  have HBY := Aside0.mk hb
  have HBL := Aside0.mk (show b.length ≤ 1000 by omega)
  have B1 := Aside0.mk b1
  have HS1 := Aside0.mk hs1
  have X1 := Aside0.mk x1
  have HW1 := Aside0.mk hw1
  clear hr hc hap hb hl b1 hs1 x1
  by_cases hq : 1 ≤ most
  · have q1 : decide (most ≥ 1) = true := decide_eq_true hq
    by_cases hr : most < ((par b).1.length : Int)
    · have q2 : decide (most < ((par b).1.length : Int)) = true := decide_eq_true hr
      have HWT := Aside0.mk (show want most (par b).1.length = most by unfold want; rw [if_pos ⟨hq, hr⟩])
      clear hq hr
      go_enter Try.func6, Try.ntmps6
      clear hw1
      go_wp2_with (first
        | (go_at_call 24; rw [← HW1.out]; refine HR.out.mono ?_; rintro e w2 ⟨hb2, vo, va, rfl, ho, ha⟩
           obtain ⟨Ao, co, rfl⟩ := Kd.R_slice ho
           obtain ⟨Aa, ca, rfl⟩ := Kd.R_slice ha
           rw [List.length_map] at ho
           have B2 := Aside0.mk hb2; have HO := Aside0.mk ho; have HA := Aside0.mk ha; clear hb2 ho ha)
        | (go_at_call 25; refine (Each_c _ _ _ _).mono ?_; rintro e w5 ⟨rfl, b5, x5⟩
           have hb2 := B2.out
           have hs2 := HS1.out
           have hz2 := hb2.size
           have x2 : w2.heap[w.heap.size]? = some (.cells #[.int .i64 most] 3 (0, 0)) := (hb2.block _ (by omega)).trans X1.out
           have e4 := EB.make x2 HO.out HA.out
           have b4 := below_alloc (below_alloc (below_alloc (below_alloc (Below.refl w2.heap.size w2) (.cells #[.slice Ao (par b).1.length co] 38)) (.cells #[.slice Aa (offs 0 (par b).1).length ca] 39)) (.cells #[.int .i64 0] 3)) (.cells #[.bool true] 4)
           have e5 := e4.below b5 (by simp only [World.size_alloc]; omega) (by simp only [World.size_alloc]; omega)
           have b25 := b4.trans (b5.mono b4.size)
           have bw5 : Below w.heap.size w w5 := B1.out.trans ((hb2.mono (by omega)).trans (b25.mono (by omega)))
           have hc5 : Kd.C (Kd.int .u8) w5 A b.length b := Kd.C_below HRR.out bw5
           simp only [World.size_alloc] at x5
           have E5 := Aside0.mk e5
           have X5 := Aside0.mk x5
           have BW5 := Aside0.mk bw5
           have C5 := Aside0.mk hc5
           have B25 := Aside0.mk b25
           clear e4 e5 x2 x5 b4 b5 b25 bw5 hc5 hb2 hs2 hz2)
        | (go_at_call 54; refine (Each1_c (w0 := w) X5.out C5.out HC.out E5.out BW5.out ?eL ?e0 ?eG HAP.out HBY.out HBL.out).mono ?_
           (case eL => exact B25.out.size)
           (case e0 => exact BW5.out.size)
           (case eG => have := B2.out.size; have := HS1.out; omega)
           rintro e w6 ⟨rfl, k, hk, e6, b6⟩
           rw [HWT.out] at hk
           have hm6 : w6.cell? ⟨w2.heap.size, 0, none⟩ = some (.slice Ao (par b).1.length co) := (blk_cell e6.hm 0).trans rfl
           have hs6 : w6.cell? ⟨w.heap.size, 0, none⟩ = some (.int .i64 most) := (blk_cell e6.hs 0).trans rfl
           have hg6 : w6.cell? ⟨w2.heap.size + 1 + 1 + 1, 0, none⟩ = some (.bool true) := (blk_cell e6.hg 0).trans rfl
           have hn6 : w6.cell? ⟨w2.heap.size + 1 + 1, 0, none⟩ = some (.int .i64 (k : Int)) := (blk_cell e6.hn 0).trans rfl
           rw [hk] at hn6
           have B6 := Aside0.mk b6
           clear e6 b6 hk)
        | (go_at_call 23; refine (HL.out _).mono ?_; rintro e w7 ⟨rfl, b7⟩; have B7 := Aside0.mk b7; clear b7))
      go_ret
      exact ⟨rfl, B6.out.trans (B7.out.mono B6.out.size)⟩
    · have q2 : decide (most < ((par b).1.length : Int)) = false := decide_eq_false hr
      have HWT := Aside0.mk (show want most (par b).1.length = ((par b).1.length : Int) by unfold want; rw [if_neg (fun h => hr h.2)])
      clear hq hr
      go_enter Try.func6, Try.ntmps6
      clear hw1
      go_wp2_with (first
        | (go_at_call 24; rw [← HW1.out]; refine HR.out.mono ?_; rintro e w2 ⟨hb2, vo, va, rfl, ho, ha⟩
           obtain ⟨Ao, co, rfl⟩ := Kd.R_slice ho
           obtain ⟨Aa, ca, rfl⟩ := Kd.R_slice ha
           rw [List.length_map] at ho
           have B2 := Aside0.mk hb2; have HO := Aside0.mk ho; have HA := Aside0.mk ha; clear hb2 ho ha)
        | (go_at_call 25; refine (Each_c _ _ _ _).mono ?_; rintro e w5 ⟨rfl, b5, x5⟩
           have hb2 := B2.out
           have hs2 := HS1.out
           have hz2 := hb2.size
           have x2 : w2.heap[w.heap.size]? = some (.cells #[.int .i64 most] 3 (0, 0)) := (hb2.block _ (by omega)).trans X1.out
           have e4 := EB.make x2 HO.out HA.out
           have b4 := below_alloc (below_alloc (below_alloc (below_alloc (Below.refl w2.heap.size w2) (.cells #[.slice Ao (par b).1.length co] 38)) (.cells #[.slice Aa (offs 0 (par b).1).length ca] 39)) (.cells #[.int .i64 0] 3)) (.cells #[.bool true] 4)
           have e5 := e4.below b5 (by simp only [World.size_alloc]; omega) (by simp only [World.size_alloc]; omega)
           have b25 := b4.trans (b5.mono b4.size)
           have bw5 : Below w.heap.size w w5 := B1.out.trans ((hb2.mono (by omega)).trans (b25.mono (by omega)))
           have hc5 : Kd.C (Kd.int .u8) w5 A b.length b := Kd.C_below HRR.out bw5
           simp only [World.size_alloc] at x5
           have E5 := Aside0.mk e5
           have X5 := Aside0.mk x5
           have BW5 := Aside0.mk bw5
           have C5 := Aside0.mk hc5
           have B25 := Aside0.mk b25
           clear e4 e5 x2 x5 b4 b5 b25 bw5 hc5 hb2 hs2 hz2)
        | (go_at_call 54; refine (Each1_c (w0 := w) X5.out C5.out HC.out E5.out BW5.out ?eL ?e0 ?eG HAP.out HBY.out HBL.out).mono ?_
           (case eL => exact B25.out.size)
           (case e0 => exact BW5.out.size)
           (case eG => have := B2.out.size; have := HS1.out; omega)
           rintro e w6 ⟨rfl, k, hk, e6, b6⟩
           rw [HWT.out] at hk
           have hm6 : w6.cell? ⟨w2.heap.size, 0, none⟩ = some (.slice Ao (par b).1.length co) := (blk_cell e6.hm 0).trans rfl
           have hs6 : w6.cell? ⟨w.heap.size, 0, none⟩ = some (.int .i64 most) := (blk_cell e6.hs 0).trans rfl
           have hg6 : w6.cell? ⟨w2.heap.size + 1 + 1 + 1, 0, none⟩ = some (.bool true) := (blk_cell e6.hg 0).trans rfl
           have hn6 : w6.cell? ⟨w2.heap.size + 1 + 1, 0, none⟩ = some (.int .i64 (k : Int)) := (blk_cell e6.hn 0).trans rfl
           rw [hk] at hn6
           have B6 := Aside0.mk b6
           clear e6 b6 hk)
        | (go_at_call 23; refine (HL.out _).mono ?_; rintro e w7 ⟨rfl, b7⟩; have B7 := Aside0.mk b7; clear b7))
      go_ret
      exact ⟨rfl, B6.out.trans (B7.out.mono B6.out.size)⟩
  · have q1 : decide (most ≥ 1) = false := decide_eq_false hq
    have HWT := Aside0.mk (show want most (par b).1.length = ((par b).1.length : Int) by unfold want; rw [if_neg (fun h => hq h.1)])
    clear hq
    go_enter Try.func6, Try.ntmps6
    clear hw1
    go_wp2_with (first
      | (go_at_call 24; rw [← HW1.out]; refine HR.out.mono ?_; rintro e w2 ⟨hb2, vo, va, rfl, ho, ha⟩
         obtain ⟨Ao, co, rfl⟩ := Kd.R_slice ho
         obtain ⟨Aa, ca, rfl⟩ := Kd.R_slice ha
         rw [List.length_map] at ho
         have B2 := Aside0.mk hb2; have HO := Aside0.mk ho; have HA := Aside0.mk ha; clear hb2 ho ha)
      | (go_at_call 25; refine (Each_c _ _ _ _).mono ?_; rintro e w5 ⟨rfl, b5, x5⟩
         have hb2 := B2.out
         have hs2 := HS1.out
         have hz2 := hb2.size
         have x2 : w2.heap[w.heap.size]? = some (.cells #[.int .i64 most] 3 (0, 0)) := (hb2.block _ (by omega)).trans X1.out
         have e4 := EB.make x2 HO.out HA.out
         have b4 := below_alloc (below_alloc (below_alloc (below_alloc (Below.refl w2.heap.size w2) (.cells #[.slice Ao (par b).1.length co] 38)) (.cells #[.slice Aa (offs 0 (par b).1).length ca] 39)) (.cells #[.int .i64 0] 3)) (.cells #[.bool true] 4)
         have e5 := e4.below b5 (by simp only [World.size_alloc]; omega) (by simp only [World.size_alloc]; omega)
         have b25 := b4.trans (b5.mono b4.size)
         have bw5 : Below w.heap.size w w5 := B1.out.trans ((hb2.mono (by omega)).trans (b25.mono (by omega)))
         have hc5 : Kd.C (Kd.int .u8) w5 A b.length b := Kd.C_below HRR.out bw5
         simp only [World.size_alloc] at x5
         have E5 := Aside0.mk e5
         have X5 := Aside0.mk x5
         have BW5 := Aside0.mk bw5
         have C5 := Aside0.mk hc5
         have B25 := Aside0.mk b25
         clear e4 e5 x2 x5 b4 b5 b25 bw5 hc5 hb2 hs2 hz2)
      | (go_at_call 54; refine (Each1_c (w0 := w) X5.out C5.out HC.out E5.out BW5.out ?eL ?e0 ?eG HAP.out HBY.out HBL.out).mono ?_
         (case eL => exact B25.out.size)
         (case e0 => exact BW5.out.size)
         (case eG => have := B2.out.size; have := HS1.out; omega)
         rintro e w6 ⟨rfl, k, hk, e6, b6⟩
         rw [HWT.out] at hk
         have hm6 : w6.cell? ⟨w2.heap.size, 0, none⟩ = some (.slice Ao (par b).1.length co) := (blk_cell e6.hm 0).trans rfl
         have hs6 : w6.cell? ⟨w.heap.size, 0, none⟩ = some (.int .i64 most) := (blk_cell e6.hs 0).trans rfl
         have hg6 : w6.cell? ⟨w2.heap.size + 1 + 1 + 1, 0, none⟩ = some (.bool true) := (blk_cell e6.hg 0).trans rfl
         have hn6 : w6.cell? ⟨w2.heap.size + 1 + 1, 0, none⟩ = some (.int .i64 (k : Int)) := (blk_cell e6.hn 0).trans rfl
         rw [hk] at hn6
         have B6 := Aside0.mk b6
         clear e6 b6 hk)
      | (go_at_call 23; refine (HL.out _).mono ?_; rintro e w7 ⟨rfl, b7⟩; have B7 := Aside0.mk b7; clear b7))
    go_ret
    exact ⟨rfl, B6.out.trans (B7.out.mono B6.out.size)⟩
theorem RawEach_q {w : World} {A : Option Addr} {c : Nat} {b : List Int} (hr : Kd.C (Kd.int .u8) w A b.length b) (hc : b.length ≤ c) (most : Int) (hb : ∀ x ∈ b, 0 ≤ x ∧ x ≤ 255) :
    Calls Try.prog 6 #[.slice A b.length c, .int .i64 most] w fun e w' => e = .returned (.bool true) ∧ Below w.heap.size w w' := RawEach_c most hr hc (C_lt hr) hb
end Go.Proofs.Ytfbmabhdjliohaa.Cur

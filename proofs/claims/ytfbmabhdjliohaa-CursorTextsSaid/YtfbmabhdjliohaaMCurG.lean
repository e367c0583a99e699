/- CursorGoes; conditions stand at each. -/
import Derived.Test.YtfbmabhdjliohaaMCurL
namespace Go.Proofs.Ytfbmabhdjliohaa.Cur
open Go.RowKit Go.Proofs.YtfbmabhdjliohaaW.PrintWords Go.Proofs.YtfbmabhdjliohaaW.PrintLast Go.Proofs.YtfbmabhdjliohaaW.PrintMore Go.Proofs.Ytfbmabhdjliohaa.Var
set_option maxHeartbeats 1000000
set_option maxRecDepth 100000
set_option linter.unusedSimpArgs false
section
variable {b : List Int} {p : Int} {ends : List Int}
theorem nx_mono {s : Int} (h0 : 0 ≤ s) (h : 0 < (nx p ends s).2.length) : p ≤ (nx p ends s).1 := by
  unfold nx at h ⊢
  split at h
  · simp at h
  · rw [if_neg (by assumption)]
    simp only; omega
theorem rdS_mono (k : Int) (hi : Inv b.length p ends) (hb : ∀ x ∈ b, 0 ≤ x ∧ x ≤ 255) (h : 0 < (rdS k b p ends).2.length) : p ≤ (rdS k b p ends).1 := by
  have hv := vD_facts hi hb
  have h4 := fD_facts hi 4 (by omega)
  have h8 := fD_facts hi 8 (by omega)
  obtain ⟨hl, _⟩ := lg_facts hi hb
  unfold rdS at h ⊢
  by_cases k0 : k = 0
  · rw [if_pos k0] at h ⊢; exact nx_mono hv.2.2.1 h
  rw [if_neg k0] at h ⊢
  by_cases k1 : k = 1
  · rw [if_pos k1] at h ⊢; exact nx_mono h4.1 h
  rw [if_neg k1] at h ⊢
  by_cases k2 : k = 2
  · rw [if_pos k2] at h ⊢; exact nx_mono h8.1 h
  rw [if_neg k2] at h ⊢
  by_cases k3 : k = 3
  · rw [if_pos k3] at h ⊢
    unfold txt at h ⊢
    by_cases h0 : (lg b p ends).1 < 0
    · rw [if_pos h0] at h; simp at h
    · rw [if_neg h0]
      rcases hl with hl | hl
      · rw [hl] at h0; exact absurd (show ((-1 : Int) < 0) by decide) h0
      · simp only; omega
  rw [if_neg k3] at h ⊢
  by_cases k4 : k = 4
  · rw [if_pos k4] at h ⊢
    unfold tg at h ⊢
    by_cases h0 : (vD b p ends).2 = 0
    · rw [if_pos h0] at h; simp at h
    · rw [if_neg h0] at h ⊢
      by_cases hs : (spl (vD b p ends).1).2.2 = true
      · rw [if_pos hs]; simp only; omega
      · rw [if_neg hs] at h; simp at h
  rw [if_neg k4] at h ⊢
  by_cases k5 : k = 5
  · rw [if_pos k5] at h ⊢
    unfold op at h ⊢
    by_cases h0 : (lg b p ends).1 < 0
    · rw [if_pos h0] at h; simp at h
    · rw [if_neg h0]
      rcases hl with hl | hl
      · rw [hl] at h0; exact absurd (show ((-1 : Int) < 0) by decide) h0
      · simp only; omega
  rw [if_neg k5] at h ⊢
  by_cases k6 : k = 6
  · rw [if_pos k6]
    unfold cl
    split <;> simp
  rw [if_neg k6]
  simp
theorem vD_no : vD b 0 [] = (0, 0) := by
  unfold vD
  rw [seg_nil rfl]
  rfl
theorem lg_no : lg b 0 [] = (-1, 0, []) := by
  unfold lg
  rw [vD_no]
  rfl
theorem txt_no : txt b 0 [] = ([], 0, []) := by
  unfold txt
  rw [lg_no]
  rfl
theorem op_no : op b 0 [] = (false, 0, []) := by
  unfold op
  rw [lg_no]
  rfl
theorem cl_no : cl 0 [] = (false, 0, []) := rfl
theorem moreB_no : moreB 0 [] = false := rfl
end
/-- One reading, of a cursor beside a reference's new one. -/
theorem read_one {w : World} {B g gm : Nat} {A Am : Option Addr} {c cm : Nat} {b : List Int} {p : Int} {v : Value} {ends : List Int} {pm : Int} {vm : Value} {em : List Int} {N : Nat} (T : Two w B g gm A Am c cm b p v ends pm vm em N) (hN : N + 2 ≤ 1000000000000) (k : Int) (h0 : 0 ≤ k) :
    Calls Try.prog 18 #[.pointer (some ⟨g, 0, none⟩), .pointer (some ⟨gm, 0, none⟩), .int .u8 k] w fun e w' => ∃ r v', e = .returned (.bool r) ∧ IsC w' B g A c b (rdS k b p ends).1 v' (rdS k b p ends).2 ∧ Below B w w' := by
  refine (read_c T hN k h0).mono ?_
  rintro e w' ⟨r, v', vm', rfl, _, t, hb⟩
  exact ⟨r, v', rfl, t.C, hb⟩
theorem moved_below {w w' : World} {B g : Nat} {A : Option Addr} {c : Nat} {b : List Int} {p : Int} {v : Value} {ends : List Int} {p' : Int} {e' : List Int} (h : IsC w B g A c b p v ends) (hB : B ≤ w.heap.size) (m : Moved w B g A c b v p' e' w') : ∃ v', IsC w' B g A c b p' v' e' ∧ Below B w w' := by
  obtain ⟨v', h1, f⟩ := m
  exact ⟨v', h1, f.below hB h.ge (fun k hk => (own_bounds h.row hk).1)⟩
section
variable {w : World} {B g : Nat} {A : Option Addr} {c : Nat} {b : List Int} {v : Value}
theorem no_varint (h : IsC w B g A c b 0 v []) (hB : B ≤ w.heap.size) (hb : ∀ x ∈ b, 0 ≤ x ∧ x ≤ 255) (hbl : b.length ≤ 140737488359000) :
    Calls Try.prog 22 #[.pointer (some ⟨g, 0, none⟩)] w fun e w' => e = .returned (.int .u64 0) ∧ ∃ v', IsC w' B g A c b 0 v' [] ∧ Below B w w' := by
  refine (Varint_c h inv_nil hB hb hbl).mono ?_
  rintro e w' ⟨rfl, hm⟩
  rw [vD_no] at hm ⊢
  exact ⟨rfl, moved_below h hB hm⟩
theorem no_text (h : IsC w B g A c b 0 v []) (hB : B ≤ w.heap.size) (hb : ∀ x ∈ b, 0 ≤ x ∧ x ≤ 255) (hbl : b.length ≤ 140737488359000) :
    Calls Try.prog 15 #[.pointer (some ⟨g, 0, none⟩)] w fun e w' => e = .returned (.string ⟨#[]⟩) ∧ ∃ v', IsC w' B g A c b 0 v' [] ∧ Below B w w' := by
  refine (Text_c h inv_nil hB hb hbl).mono ?_
  rintro e w' ⟨rfl, hm⟩
  rw [txt_no] at hm ⊢
  exact ⟨rfl, moved_below h hB hm⟩
theorem no_open (h : IsC w B g A c b 0 v []) (hB : B ≤ w.heap.size) (hb : ∀ x ∈ b, 0 ≤ x ∧ x ≤ 255) (hbl : b.length ≤ 140737488359000) :
    Calls Try.prog 12 #[.pointer (some ⟨g, 0, none⟩)] w fun e w' => e = .returned (.bool false) ∧ ∃ v', IsC w' B g A c b 0 v' [] ∧ Below B w w' := by
  refine (Open_c h inv_nil hB hb hbl (by decide)).mono ?_
  rintro e w' ⟨rfl, hm⟩
  rw [op_no] at hm ⊢
  exact ⟨rfl, moved_below h hB hm⟩
theorem no_close (h : IsC w B g A c b 0 v []) (hB : B ≤ w.heap.size) :
    Calls Try.prog 16 #[.pointer (some ⟨g, 0, none⟩)] w fun e w' => e = .returned (.bool false) ∧ ∃ v', IsC w' B g A c b 0 v' [] ∧ Below B w w' := by
  refine (Close_c h).mono ?_
  rintro e w' ⟨rfl, hm⟩
  rw [cl_no] at hm ⊢
  exact ⟨rfl, moved_below h hB hm⟩
theorem no_deep (h : IsC w B g A c b 0 v []) : Calls Try.prog 13 #[.pointer (some ⟨g, 0, none⟩)] w fun e w' => e = .returned (.int .i64 0) ∧ Drawn0 w w' := deep_c h
theorem no_more (h : IsC w B g A c b 0 v []) : Calls Try.prog 14 #[.pointer (some ⟨g, 0, none⟩)] w fun e w' => e = .returned (.bool false) ∧ Drawn0 w w' := more_c h
end
/-- CursorGoes. -/
theorem goes_c {w : World} {A : Option Addr} {c : Nat} {b : List Int} {A2 : Option Addr} {c2 : Nat} {ks : List Int} (hr : Kd.C (Kd.int .u8) w A b.length b) (hc : b.length ≤ c) (hr2 : Kd.C (Kd.int .u8) w A2 ks.length ks) (_hc2 : ks.length ≤ c2) (hb : ∀ x ∈ b, 0 ≤ x ∧ x ≤ 255) (hks : ∀ x ∈ ks, 0 ≤ x ∧ x ≤ 255) :
    Calls Try.prog 5 #[.slice A b.length c, .slice A2 ks.length c2] w fun e w' => e = .returned (.bool true) ∧ Below w.heap.size w w' := by
  have HL := Aside0.mk live_c
  by_cases h1 : (b.length : Int) > 1000
  · have hd1 : decide ((b.length : Int) > 1000) = true := decide_eq_true h1
    clear hr hc hr2 hb hks h1
    go_enter Try.func5, Try.ntmps5
    go_wp2_with (first | (go_at_call 9; refine (HL.out _).mono ?_; rintro e w1 ⟨rfl, b1⟩; have B1 := Aside0.mk b1; clear b1))
    go_ret
    exact ⟨rfl, B1.out⟩
  have hd1 : decide ((b.length : Int) > 1000) = false := decide_eq_false h1
  by_cases h2 : (ks.length : Int) > 100
  · have hd2 : decide ((ks.length : Int) > 100) = true := decide_eq_true h2
    clear hr hc hr2 hb hks h1 h2
    go_enter Try.func5, Try.ntmps5
    go_wp2_with (first | (go_at_call 9; refine (HL.out _).mono ?_; rintro e w1 ⟨rfl, b1⟩; have B1 := Aside0.mk b1; clear b1))
    go_ret
    exact ⟨rfl, B1.out⟩
  have hd2 : decide ((ks.length : Int) > 100) = false := decide_eq_false h2
  have HR := Aside0.mk hr
  have HR2 := Aside0.mk hr2
  have HC := Aside0.mk hc
  have HBY := Aside0.mk hb
  have HKS := Aside0.mk hks
  have HBL := Aside0.mk (show b.length ≤ 1000 ∧ ks.length ≤ 100 by omega)
  clear hr hc hr2 hb hks h1 h2
  go_enter Try.func5, Try.ntmps5
  go_wp2_with (first
    | (go_at_call 11; refine (From_c HR.out HC.out (C_lt HR.out)).mono ?_; rintro e w2 ⟨rfl, h2, b2⟩; have H2 := Aside0.mk h2; have B2 := Aside0.mk b2; clear h2 b2))
  go_loopg [6, 7] (ks.length) (fun kq v6 v7 w' => ∃ (i : Nat) (p : Int) (v : Value) (ends : List Int), v6 = .int .i64 p ∧ v7 = .int .i64 (i : Int) ∧ Aside0 (kq + i = ks.length) ∧ Aside0 (0 < ends.length ∧ ends.length ≤ 2 * i + 1) ∧ Aside0 (Inv b.length p ends) ∧ Aside0 (IsC w' w.heap.size (w.heap.size + 1) A c b p v ends) ∧ Aside0 (Below w.heap.size w w'))
  case atStart => exact ⟨0, 0, _, [(b.length : Int)], rfl, rfl, ⟨by omega⟩, ⟨Nat.zero_lt_one, Nat.le_refl _⟩, ⟨inv_new _⟩, H2, B2⟩
  case round =>
    obtain ⟨i, p, v, ends, rfl, rfl, HK, HN, HI, H, B⟩ := hrel
    by_cases hik : (i : Int) < (ks.length : Int)
    · have hdk : decide ((i : Int) < (ks.length : Int)) = true := decide_eq_true hik
      have hi0 : (0 : Int) ≤ (i : Int) := by omega
      obtain ⟨ad, e, hx⟩ := Kd.at_int HR2.out (i : Int) hi0 hik
      subst e
      have hx2 := (B.out.cell (World.block_lt_of_cell? w _ hx)).trans hx
      have hwi : IntKind.i64.wrap ((i : Int) + 1) = (i : Int) + 1 := by have := HBL.out; rw [IntKind.wrap_i64]; omega
      rw [Int.toNat_natCast] at hx2
      rw [Int.toNat_natCast] at hx
      have HX := Aside0.mk hx
      clear hx
      go_wp2_with fail
      go_region_held3 (fun w' => w'.cell? (ad.add i) = some (.int .u8 (rd ks (i : Int)))) (first | exact hx2 | exact (B4.out.cell (World.block_lt_of_cell? w _ HX.out)).trans HX.out | exact (B3.out.cell (World.block_lt_of_cell? w _ HX.out)).trans HX.out | go_keep) (first
        | (go_at_call 17; refine (From_m (H.out.drewN _).rd HC.out (C_lt (H.out.drewN _).rd)).mono ?_; rintro e w3 ⟨rfl, h3, b3⟩; have T3 : Aside0 (Two w3 w.heap.size (w.heap.size + 1) (wr.heap.size + 1) A A c c b p v ends 0 _ _ (2 * i + 1)) := ⟨two_new (H.out.drewN _) h3 rfl b3 B.out.size H.out.ap HI.out HBY.out (by have := HBL.out; omega) HN.out.2 (by omega)⟩; have B3 := Aside0.mk (B.out.trans ((pw_below_drewN (Below.refl w.heap.size wr) _).trans (b3.mono B.out.size))); clear h3 b3)
        | (go_at_call 18; refine (read_one T3.out (by have := HBL.out; omega) (rd ks (i : Int)) (rd_u8 HKS.out i)).mono ?_; rintro e w4 ⟨r, v4, rfl, h4, b4⟩; have H4 := Aside0.mk h4; have B4 := Aside0.mk (B3.out.trans b4); clear h4 b4))
      have hi4 := rdS_inv (rd ks (i : Int)) HI.out HBY.out
      have hm4 := rdS_mono (rd ks (i : Int)) HI.out HBY.out
      have hl4 := rdS_len (b := b) (p := p) (ends := ends) (rd ks (i : Int))
      obtain ⟨Q, hQ⟩ : ∃ Q, Q = rdS (rd ks (i : Int)) b p ends := ⟨_, rfl⟩
      rw [← hQ] at H4 hi4 hm4 hl4
      obtain ⟨q1, q2⟩ := Q
      simp only at H4 hi4 hm4 hl4
      clear hQ T3 B3
      by_cases hz : q2.length = 0
      · have hq : q1 = 0 := hi4.2.2.2 hz
        obtain rfl : q2 = [] := List.length_eq_zero_iff.1 hz
        subst hq
        clear hi4 hm4 hl4 hz
        go_wp2_with (first
        | (go_at_call 20; refine (ok_no H4.out rfl).mono ?_; rintro e w5 ⟨rfl, hd⟩; have n0_ := Aside0.mk (H4.out.drawn hd); have n1_ := Aside0.mk (B4.out.trans (Drawn0.bel hd)); clear hd; clear H4; clear B4; have H4 := n0_; have B4 := n1_; clear n0_ n1_)
        | (go_at_call 21; refine (at_c H4.out).mono ?_; rintro e w5 ⟨rfl, hd⟩; have n0_ := Aside0.mk (H4.out.drawn hd); have n1_ := Aside0.mk (B4.out.trans (Drawn0.bel hd)); clear hd; clear H4; clear B4; have H4 := n0_; have B4 := n1_; clear n0_ n1_)
        | (go_at_call 13; refine (no_deep H4.out).mono ?_; rintro e w5 ⟨rfl, hd⟩; have n0_ := Aside0.mk (H4.out.drawn hd); have n1_ := Aside0.mk (B4.out.trans (Drawn0.bel hd)); clear hd; clear H4; clear B4; have H4 := n0_; have B4 := n1_; clear n0_ n1_)
        | (go_at_call 14; refine (no_more H4.out).mono ?_; rintro e w5 ⟨rfl, hd⟩; have n0_ := Aside0.mk (H4.out.drawn hd); have n1_ := Aside0.mk (B4.out.trans (Drawn0.bel hd)); clear hd; clear H4; clear B4; have H4 := n0_; have B4 := n1_; clear n0_ n1_)
        | (go_at_call 22; refine (no_varint H4.out B4.out.size HBY.out (by have := HBL.out; omega)).mono ?_; rintro e w5 ⟨rfl, v5, hh, hb⟩; have n0_ := Aside0.mk hh; have n1_ := Aside0.mk (B4.out.trans hb); clear hh hb; clear H4; clear B4; have H4 := n0_; have B4 := n1_; clear n0_ n1_)
        | (go_at_call 15; refine (no_text H4.out B4.out.size HBY.out (by have := HBL.out; omega)).mono ?_; rintro e w5 ⟨rfl, v5, hh, hb⟩; have n0_ := Aside0.mk hh; have n1_ := Aside0.mk (B4.out.trans hb); clear hh hb; clear H4; clear B4; have H4 := n0_; have B4 := n1_; clear n0_ n1_)
        | (go_at_call 12; refine (no_open H4.out B4.out.size HBY.out (by have := HBL.out; omega)).mono ?_; rintro e w5 ⟨rfl, v5, hh, hb⟩; have n0_ := Aside0.mk hh; have n1_ := Aside0.mk (B4.out.trans hb); clear hh hb; clear H4; clear B4; have H4 := n0_; have B4 := n1_; clear n0_ n1_)
        | (go_at_call 16; refine (no_close H4.out B4.out.size).mono ?_; rintro e w5 ⟨rfl, v5, hh, hb⟩; have n0_ := Aside0.mk hh; have n1_ := Aside0.mk (B4.out.trans hb); clear hh hb; clear H4; clear B4; have H4 := n0_; have B4 := n1_; clear n0_ n1_)
        | (go_at_call 9; refine (HL.out _).mono ?_; rintro e w6 ⟨rfl, b6⟩; have B6 := Aside0.mk (B4.out.trans (b6.mono B4.out.size)); clear b6))
        go_ret
        exact ⟨rfl, B6.out⟩
      · have HZ := Aside0.mk (show 0 < q2.length by omega)
        have hb1 : decide (q1 < p) = false := decide_eq_false (by have := hm4 HZ.out; omega)
        have hb2 : decide (q1 > (b.length : Int)) = false := decide_eq_false (by have := inv_last hi4; omega)
        have HI4 := Aside0.mk hi4
        have HL4 := Aside0.mk hl4
        clear hi4 hm4 hl4 hz
        go_wp2_with (first
        | (go_at_call 20; refine (ok_yes H4.out HZ.out).mono ?_; rintro e w5 ⟨rfl, hd⟩; have n0_ := Aside0.mk (H4.out.drawn hd); have n1_ := Aside0.mk (B4.out.trans (Drawn0.bel hd)); clear hd; clear H4; clear B4; have H4 := n0_; have B4 := n1_; clear n0_ n1_)
        | (go_at_call 21; refine (at_c H4.out).mono ?_; rintro e w5 ⟨rfl, hd⟩; have n0_ := Aside0.mk (H4.out.drawn hd); have n1_ := Aside0.mk (B4.out.trans (Drawn0.bel hd)); clear hd; clear H4; clear B4; have H4 := n0_; have B4 := n1_; clear n0_ n1_))
        go_roundg (gk - 1)
        case measure => have := HK.out; omega
        case rel => exact ⟨i + 1, _, _, _, rfl, by rw [Int.natCast_add]; rfl, ⟨by have := HK.out; omega⟩, ⟨HZ.out, by have := HN.out; have := HL4.out; omega⟩, HI4, H4, B4⟩
    · have hdk : decide ((i : Int) < (ks.length : Int)) = false := decide_eq_false hik
      have hdk2 : decide (i < ks.length) = false := decide_eq_false (by omega)
      clear hik
      go_wp2_with (first | (go_at_call 9; refine (HL.out _).mono ?_; rintro e w6 ⟨rfl, b6⟩; have B6 := Aside0.mk b6; clear b6))
      go_ret
      exact ⟨rfl, B.out.trans (B6.out.mono B.out.size)⟩
end Go.Proofs.Ytfbmabhdjliohaa.Cur

/- RawGets; conditions stand at each. -/
import Derived.Test.YtfbmabhdjliohaaMRawPut
namespace Go.Proofs.Ytfbmabhdjliohaa.Cur
open Go.RowKit Go.Proofs.Ytfbmabhdjliohaa.Rng Go.Proofs.YtfbmabhdjliohaaW.PrintWords Go.Proofs.YtfbmabhdjliohaaW.PrintLast Go.Proofs.YtfbmabhdjliohaaW.PrintMore Go.Proofs.Ytfbmabhdjliohaa.Var
set_option maxHeartbeats 1000000
set_option maxRecDepth 100000
set_option linter.unusedSimpArgs false
set_option linter.unusedVariables false
theorem str_size (t : List Int) : (strOfNums t).size = t.length := by
  unfold strOfNums
  show (List.toArray _).size = _
  simp
theorem str_bytes {t : List Int} (h : ∀ y ∈ t, 0 ≤ y ∧ y ≤ 255) : bytesOf (strOfNums t) = t := by
  unfold bytesOf strOfNums
  simp only [List.map_map]
  refine (List.map_congr_left (fun y hy => ?_)).trans (List.map_id _)
  have := h y hy
  show ((UInt8.ofNat y.toNat).toNat : Int) = y
  rw [UInt8.toNat_ofNat']
  omega
theorem RS_s46 {x : Fd} : RS (s46 x) ↔ RightD x := by
  unfold RS RightD s46
  simp only [str_size]
  rw [List.length_eq_zero_iff]
theorem wbS_s46 {x : Fd} (h : FdOk x) : wbS (s46 x) = wb x := by
  unfold wbS wb s46
  simp only
  rw [str_bytes h.2.2.1]
theorem wbsS_s46 : ∀ (l : List Fd), (∀ x ∈ l, FdOk x) → wbsS (l.map s46) = wbs l
  | [], _ => rfl
  | x :: l, h => by
    have e1 : wbsS ((x :: l).map s46) = wbS (s46 x) ++ wbsS (l.map s46) := by simp [wbsS]
    rw [e1, wbs_cons, wbS_s46 (h x (by simp)), wbsS_s46 l (fun y hy => h y (by simp [hy]))]
theorem text_le {x : Fd} (h : RightD x) : x.2.2.2.length ≤ (wb x).length := by
  obtain ⟨⟨h1, h2, h3⟩, h4⟩ := h
  by_cases hw : x.2.1 = 2
  · unfold wb payB
    rw [hw, if_neg (by decide), if_neg (by decide), if_neg (by decide), List.length_append, List.length_append]
    omega
  · rw [if_neg hw] at h4
    rw [h4.1]
    exact Nat.zero_le _
theorem wb_le_wbs {l : List Fd} {x : Fd} (h : x ∈ l) : (wb x).length ≤ (wbs l).length := by
  obtain ⟨a, b, rfl⟩ := List.append_of_mem h
  simp only [wbs, List.map_append, List.map_cons, List.flatten_append, List.flatten_cons, List.length_append]
  omega
/-- What was got is right, small, and no longer than its bytes. -/
theorem got {b : List Int} (hb : ∀ x ∈ b, 0 ≤ x ∧ x ≤ 255) (hl : b.length ≤ 1000) : (∀ x ∈ (par b).1.map (fun x => s46 x.1), RS x ∧ VS x) ∧ (wbsS ((par b).1.map fun x => s46 x.1)).length ≤ b.length ∧ (par b).1.length ≤ b.length := by
  obtain ⟨h1, h2, h3⟩ := pg_got (b.length + 1) b hb (by omega)
  have e1 : (par b).1.map (fun x => s46 x.1) = ((par b).1.map Prod.fst).map s46 := by rw [List.map_map]; rfl
  have hok : ∀ x ∈ (par b).1.map Prod.fst, RightD x ∧ FdOk x := fun x hx => by
    obtain ⟨y, hy, rfl⟩ := List.mem_map.1 hx
    exact h1 y hy
  refine ⟨fun x hx => ?_, ?_, h3⟩
  · rw [e1] at hx
    obtain ⟨y, hy, rfl⟩ := List.mem_map.1 hx
    obtain ⟨q1, q2⟩ := hok y hy
    have q3 := text_le q1
    have q4 := wb_le_wbs hy
    have q5 : (wbs ((par b).1.map Prod.fst)).length ≤ b.length := h2
    refine ⟨RS_s46.2 q1, ⟨⟨q2.1, q2.2.1⟩, ?_⟩⟩
    show (strOfNums y.2.2.2).size ≤ _
    rw [str_size]
    omega
  · rw [e1, wbsS_s46 _ (fun x hx => (hok x hx).2)]
    exact h2
theorem wbsS_take (l : List SR) (k : Nat) : (wbsS (l.take k)).length ≤ (wbsS l).length := by
  have e1 : wbsS l = wbsS (l.take k) ++ wbsS (l.drop k) := by
    unfold wbsS
    rw [← List.flatten_append, ← List.map_append, List.take_append_drop]
  rw [e1, List.length_append]
  omega
theorem R46_lt {w : World} {base : Nat} {ok : Nat → Prop} {A : Option Addr} {n c : Nat} {xs : List SR} (h : Kd.R PRaw.k46 46 w base ok (.slice A n c) xs) : ∀ ad, A = some ad → 0 < xs.length → ad.block < w.heap.size := by
  intro ad ha hn
  obtain ⟨g, cap, he, hb, hlt, _⟩ := Kd.R_form h hn
  injection he with he
  rw [ha] at he
  injection he with he
  subst he
  exact hlt
theorem RawGets_q {w : World} {A : Option Addr} {c : Nat} {b : List Int} (hr : Kd.C (Kd.int .u8) w A b.length b) (hc : b.length ≤ c) (hb : ∀ x ∈ b, 0 ≤ x ∧ x ≤ 255) :
    Calls Try.prog 7 #[.slice A b.length c] w fun e w' => e = .returned (.bool true) ∧ Below w.heap.size w w' := by
  have HL := Aside0.mk live_raw
  by_cases hl : (b.length : Int) > 1000
  · have hd1 : decide ((b.length : Int) > 1000) = true := decide_eq_true hl
    clear hr hc hb hl
    go_enter Try.func7, Try.ntmps7
    go_wp2_with (first | (go_at_call 23; refine (HL.out _).mono ?_; rintro e w1 ⟨rfl, b1⟩; have B1 := Aside0.mk b1; clear b1))
    go_ret
    exact ⟨rfl, B1.out⟩
  have hd1 : decide ((b.length : Int) > 1000) = false := decide_eq_false hl
  have HG := Aside0.mk (Get_c hr hc (C_lt hr) hb (by omega))
  have HRR := Aside0.mk hr
  have HC := Aside0.mk hc
  have HBY := Aside0.mk hb
  have HBL := Aside0.mk (show b.length ≤ 1000 by omega)
  have HGOT := Aside0.mk (got hb (by omega))
  have HNUM := Aside0.mk (fun (k : Int) (w : World) => PRaw.ecdysislaw07_num.calls k k w rfl)
  clear hr hc hb hl
  rcases hp : (par b).2 with _ | _
  · have HP := Aside0.mk hp
    clear hp
    go_enter Try.func7, Try.ntmps7
    go_wp2_with (first
      | (go_at_call 27; refine HG.out.mono ?_; rintro e w1 ⟨hb1, _, hn1⟩; obtain rfl := hn1 HP.out; have B1 := Aside0.mk hb1; clear hb1 hn1)
      | (go_at_call 24
         refine (RGet_c (Kd.C_below HRR.out B1.out) HC.out (fun ad h1 h2 => Nat.lt_of_lt_of_le (C_lt HRR.out ad h1 h2) B1.out.size) HBY.out (Nat.le_trans HBL.out (by decide))).mono ?_
         rintro e w2 ⟨hb2, vo, va, rfl, ho, ha⟩
         rw [HP.out]
         have B2 := Aside0.mk (B1.out.trans (hb2.mono B1.out.size))
         clear hb2 ho ha)
      | (go_at_call 28; refine (HNUM.out _ _).mono ?_; rintro e w3 ⟨rfl, hd3⟩; have D3 := Aside0.mk hd3; clear hd3)
      | (go_at_call 23; refine (HL.out _).mono ?_; rintro e w7 ⟨rfl, b7⟩; have B7 := Aside0.mk b7; clear b7))
    go_ret
    exact ⟨rfl, B2.out.trans ((Drawn0.bel D3.out).trans (B7.out.mono (Nat.le_trans B2.out.size D3.out.grown.2.2)))⟩
  · have HP := Aside0.mk hp
    obtain ⟨L, hL⟩ : ∃ L, L = (par b).1.map fun x => s46 x.1 := ⟨_, rfl⟩
    have HG2 : Aside0 (Calls Try.prog 27 #[.slice A b.length c] w fun e w' => ∃ A1 c1, e = .returned (.tuple #[.slice A1 L.length c1, .int .i64 0]) ∧ Kd.R PRaw.k46 46 w' w.heap.size (fun _ => True) (.slice A1 L.length c1) L ∧ Below w.heap.size w w') := ⟨HG.out.mono (fun e w' ⟨q1, q2, q3⟩ => by
      obtain ⟨v1, rfl, ho1⟩ := q2 hp
      rw [← hL] at ho1
      obtain ⟨A1, c1, rfl⟩ := Kd.R_slice ho1
      exact ⟨A1, c1, rfl, ho1, q1⟩)⟩
    have HG3 : Aside0 (∀ w1, Below w.heap.size w w1 → Calls Try.prog 24 #[.slice A b.length c] w1 fun e w' => ∃ A1 c1 va, e = .returned (.tuple #[.slice A1 L.length c1, va, .bool true]) ∧ Kd.R PRaw.k46 46 w' w1.heap.size (fun _ => True) (.slice A1 L.length c1) L ∧ Below w1.heap.size w1 w') := ⟨fun w1 hb1 => (RGet_c (Kd.C_below HRR.out hb1) HC.out (fun ad h1 h2 => Nat.lt_of_lt_of_le (C_lt HRR.out ad h1 h2) hb1.size) HBY.out (Nat.le_trans HBL.out (by decide))).mono (fun e w' ⟨q1, vo, va, q2, q3, q4⟩ => by
      subst q2
      rw [hp]
      rw [← hL] at q3
      obtain ⟨A1, c1, rfl⟩ := Kd.R_slice q3
      exact ⟨A1, c1, va, rfl, q3, q1⟩)⟩
    obtain ⟨g1, g2, g3⟩ := HGOT.out
    rw [← hL] at g1 g2
    have g4 : L.length ≤ b.length := by rw [hL, List.length_map]; exact g3
    have HL1 := Aside0.mk g1
    have HL2 := Aside0.mk g2
    have HL4 := Aside0.mk g4
    have HSM := Aside0.mk (refsame_f L L (by have := HBL.out; omega) (L.length + 1) (by omega))
    clear hp hL g1 g2 g3 g4 HGOT HG
    go_enter Try.func7, Try.ntmps7
    go_wp2_with (first
      | (go_at_call 27; refine HG2.out.mono ?_; rintro e w1 ⟨A1, c1, rfl, ho1, hb1⟩
         have B1 := Aside0.mk hb1; have O1 := Aside0.mk ho1; clear hb1 ho1)
      | (go_at_call 24
         refine (HG3.out _ B1.out).mono ?_
         rintro e w2 ⟨A2, c2, va, rfl, ho, hb2⟩
         have O2 := Aside0.mk ho
         have O1' := Aside0.mk (Kd.R_below O1.out hb2)
         have B2 := Aside0.mk (B1.out.trans (hb2.mono B1.out.size))
         clear hb2 ho)
      | (go_at_call 29
         refine (Put_c (Kd.R_reads' O1'.out).2.2 (Kd.R_reads' O1'.out).2.1 (R46_lt O1'.out) (fun x hx => (HL1.out x hx).2) (Nat.le_trans HL4.out (Nat.le_trans HBL.out (by decide))) (fun k _ => Nat.le_trans (wbsS_take L k) (Nat.le_trans HL2.out (Nat.le_trans HBL.out (by decide))))).mono ?_
         rintro e w3 ⟨b3, q3, _⟩
         obtain ⟨v3, rfl, h3⟩ := q3 (fun x hx => (HL1.out x hx).1)
         obtain ⟨A3, c3, rfl⟩ := Kd.R_slice h3
         have O1'' := Aside0.mk (Kd.R_below O1'.out b3)
         have O2'' := Aside0.mk (Kd.R_below O2.out b3)
         have B3 := Aside0.mk (B2.out.trans (b3.mono B2.out.size))
         have hle : decide (((wbsS L).length : Int) ≤ (b.length : Int)) = true := decide_eq_true (by have := HL2.out; omega)
         have hle2 : decide ((wbsS L).length ≤ b.length) = true := decide_eq_true HL2.out
         clear b3 q3 h3)
      | (go_at_call 28; refine (HNUM.out _ _).mono ?_; rintro e w4 ⟨rfl, ⟨n4, rfl⟩⟩)
      | (go_at_call 30
         refine (PRaw.ecdysisref07_Same.calls (L.length + 1) _ _ L _ _ L true _ (Kd.R_reads' (Kd.R_drewN O1''.out _)).2.2 (Kd.R_reads' O1''.out).2.1 (Kd.R_reads' (Kd.R_drewN O2''.out _)).2.2 (Kd.R_reads' O2''.out).2.1 (by rw [HSM.out, sameB_self])).mono ?_
         rintro e w5 ⟨rfl, ⟨n5, rfl⟩⟩)
      | (go_at_call 23; refine (HL.out _).mono ?_; rintro e w7 ⟨rfl, b7⟩; have B7 := Aside0.mk b7; clear b7))
    go_ret
    refine ⟨rfl, ?_⟩
    have b7 := B7.out
    exact (pw_below_drewN B3.out _).trans (b7.mono B3.out.size)
end Go.Proofs.Ytfbmabhdjliohaa.Cur

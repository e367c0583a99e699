/- CursorTexts; conditions stand at each. -/
import Derived.Test.YtfbmabhdjliohaaMCurU
namespace Go.Proofs.Ytfbmabhdjliohaa.Cur
open Go.RowKit Go.Proofs.YtfbmabhdjliohaaW.PrintWords Go.Proofs.YtfbmabhdjliohaaW.PrintLast Go.Proofs.YtfbmabhdjliohaaW.PrintMore Go.Proofs.Ytfbmabhdjliohaa.Var
set_option maxHeartbeats 1000000
set_option maxRecDepth 100000
set_option linter.unusedSimpArgs false
section
variable {P : Program} {ops : Array Oper} {o : Oper} {a : Act} {Q : Exit → Act → World → Prop} {K : Act → World → Prop}
/-- append of a row that is read, at a place whose order is drawn. -/
theorem row_step {w0 W : World} {base : Nat} {ok : Nat → Prop} (hw : Region.wanted o (yielded ops a.tmps) = true) (s x : Operand) (t e : TypeId)
    (ho : o.op = .call { callee := .builtin .append, args := #[s, x], argTypes := #[t, t] })
    (ht : P.underlying t = some (.slice e)) (hinfo : (P.info? e).map (fun i => (i.zero, i.size, i.bytes)) = some (some (.int .u8 0), 1, 1))
    (v : Value) (xs ys : List Int) (ad : Addr) (c : Nat) (hs : a.eval s = v) (hx : a.eval x = .slice (some ad) ys.length c) (hfresh : ∀ k, W.heap.size ≤ k → ok k)
    (HO : Kd.R (Kd.int .u8) e W base ok v xs) (HR : Kd.C (Kd.int .u8) W (some ad) ys.length ys) (HB : Below base w0 W) (hbase : base ≤ W.heap.size) (hl : xs.length + ys.length ≤ 140737488355328)
    (h : ∀ v1 w1, Kd.R (Kd.int .u8) e w1 base ok v1 (xs ++ ys) → Below base w0 w1 → K (a.put o.dst v1) w1) :
    if Region.wanted o (yielded ops a.tmps) = true then Oper.wp P o a W K Q else K (a.put o.dst undef) W := by
  obtain ⟨i0, hi, hzz⟩ := Option.map_eq_some_iff.1 hinfo
  simp only [Prod.mk.injEq] at hzz
  obtain ⟨hz0, hz1, hz2⟩ := hzz
  have hown := Kd.own_of_R HO
  have hreads := Kd.reads_of_C (enc := Value.int .u8) (d := (0 : Int)) (h1 := fun _ => rfl) HR
  rw [if_pos hw]
  obtain ⟨v1, w1, hr, hown1, hg, _, hat⟩ := run_append_own_at (P := P) W base t o.type e i0 (.int .u8 0) 1 1 ht hi hz0 hz1 hz2 rfl (by decide) v xs.length (encs (Value.int .u8) xs) hown ad ys.length c (encs (Value.int .u8) ys) (by rw [encs_length, Nat.mul_one])
    (fun j u hu => by
      have hj : j < ys.length := by
        rcases Nat.lt_or_ge j ys.length with h1 | h1
        · exact h1
        · rw [List.getElem?_eq_none (by rw [encs_length]; exact h1)] at hu
          cases hu
      obtain ⟨ad', he, hc⟩ := hreads.2.2 (by omega)
      injection he with he
      subst he
      rw [encs_get (d := (0 : Int)) ys j hj] at hu
      injection hu with hu
      rw [hc j hj, hu])
    (fun u hu => by obtain ⟨y, _, rfl⟩ := List.mem_map.1 hu; rfl) (by simp only [maxLen]; omega) (by omega) hbase
  unfold Oper.wp execOp
  simp only [ho, resolve, invoke, builtin, Sem.run_bind, Sem.run_pure, Result.andThen_ok, List.map_toArray, List.map_cons, List.map_nil, hs, hx, hr]
  refine h v1 w1 (Kd.R_of_own (by rw [List.length_append, encs_append]; exact hown1) (fun k hk => ?_)) (HB.grown hg hbase (own_base hown))
  rcases hat with hat | hat
  · exact HO.1 k (by rw [← hat]; exact hk)
  · rw [hat] at hk
    injection hk with hk
    subst hk
    exact hfresh _ (Nat.le_refl _)
/-- append of a string. -/
theorem str_step {w0 W : World} {base : Nat} (hw : Region.wanted o (yielded ops a.tmps) = true) (s x : Operand) (t u e : TypeId)
    (ho : o.op = .call { callee := .builtin .append, args := #[s, x], argTypes := #[t, u] })
    (ht : P.underlying t = some (.slice e)) (hu : P.underlying u = some .string) (hinfo : (P.info? e).map (fun i => (i.zero, i.size, i.bytes)) = some (some (.int .u8 0), 1, 1))
    (v : Value) (xs : List Int) (y : ByteArray) (hs : a.eval s = v) (hx : a.eval x = .string y)
    (HO : Kd.R (Kd.int .u8) e W base (fun _ => True) v xs) (HB : Below base w0 W) (hbase : base ≤ W.heap.size) (hl : xs.length + y.size ≤ 140737488355328)
    (h : ∀ v1 w1, Kd.R (Kd.int .u8) e w1 base (fun _ => True) v1 (xs ++ bytesOf y) → Below base w0 w1 → K (a.put o.dst v1) w1) :
    if Region.wanted o (yielded ops a.tmps) = true then Oper.wp P o a W K Q else K (a.put o.dst undef) W := by
  obtain ⟨i0, hi, hzz⟩ := Option.map_eq_some_iff.1 hinfo
  simp only [Prod.mk.injEq] at hzz
  obtain ⟨hz0, hz1, hz2⟩ := hzz
  have hown := Kd.own_of_R HO
  rw [if_pos hw]
  obtain ⟨v1, w1, hr, hown1, hg, _⟩ := Lib.run_append_own_string (P := P) W base t u o.type e i0 ht hu hi hz0 hz1 hz2 v xs.length (encs (Value.int .u8) xs) hown y (by simp only [maxLen]; omega) hl hbase
  unfold Oper.wp execOp
  simp only [ho, resolve, invoke, builtin, Sem.run_bind, Sem.run_pure, Result.andThen_ok, List.map_toArray, List.map_cons, List.map_nil, hs, hx, hr]
  have e1 : encs (Value.int .u8) (xs ++ bytesOf y) = encs (Value.int .u8) xs ++ Lib.strCells y := by
    rw [encs_append]
    congr 1
    simp [encs, bytesOf, Lib.strCells]
  exact h v1 w1 (Kd.R_of_own (by rw [List.length_append, bytesOf_length, e1]; exact hown1) (fun _ _ => trivial)) (HB.grown hg hbase (own_base hown))
end
theorem cat_len : ∀ (l : List (List Int)), (∀ s ∈ l, s.length ≤ 500) → (cat l).length ≤ 510 * l.length
  | [], _ => by simp [cat]
  | s :: l, h => by
    have h1 := h s (by simp)
    have h2 := cat_len l (fun x hx => h x (by simp [hx]))
    have h3 := e_le (s.length : Int) (by omega)
    rw [cat_cons, List.length_append, wrt_len, List.length_cons]
    omega
/-- the reference's Put. -/
theorem put_c {W : World} (n : Int) (h0 : 0 ≤ n) (h1 : n ≤ 18446744073709551615) :
    Calls Try.prog 10 #[.int .u64 n] W fun e' w' => ∃ ad c, e' = .returned (.slice (some ad) (enc (e n) n).length c) ∧ Kd.R (Kd.int .u8) 5 w' W.heap.size (fun _ => True) (.slice (some ad) (enc (e n) n).length c) (enc (e n) n) ∧ Below W.heap.size W w' := by
  refine (PLib.ecdysisref01_Put.calls 11 n _ W (VLib.refput_f 11 n (by decide) h0 h1)).mono ?_
  rintro e' w' ⟨v, rfl, hr, hb⟩
  obtain ⟨A, c, rfl⟩ := Kd.R_slice hr
  obtain ⟨ad, rfl, _⟩ := Kd.at_int (Kd.R_reads' hr).2.2 0 (by omega) (by rw [enc_length]; omega)
  exact ⟨ad, c, rfl, hr, hb⟩
theorem op_new {b E X rest : List Int} (hb : b = E ++ X ++ rest) (hE : E = enc (e (X.length : Int)) (X.length : Int)) (hs : X.length ≤ 140737488359000) : op b 0 [(b.length : Int)] = (true, (E.length : Int), [(b.length : Int), ((E.length + X.length : Nat) : Int)]) := by
  have hl : E.length = e (X.length : Int) + 1 := by rw [hE, enc_length]
  have h := lg_at (b := b) (p := 0) (L := b.length) (ends := [(b.length : Int)]) rfl (Nat.zero_le _) (Nat.le_refl _) X.length (X ++ rest) (by rw [List.length_append]; omega) hs (by rw [List.take_length, List.drop_zero, ← hE, hb, List.append_assoc])
  unfold op
  rw [show ((0 : Nat) : Int) = 0 from rfl] at h
  rw [h]
  simp only
  rw [if_neg (by omega)]
  refine Prod.ext rfl (Prod.ext ?_ ?_)
  · simp only; omega
  · simp only [List.cons_append, List.nil_append]
    congr 2
    omega
theorem txt_in {b E X rest : List Int} (hb : b = E ++ X ++ rest) {l1 l2 : List (List Int)} {s : List Int} (hX : X = cat l1 ++ (wrt s ++ cat l2)) (hs : s.length ≤ 140737488359000) :
    txt b ((E.length + (cat l1).length : Nat) : Int) [(b.length : Int), ((E.length + X.length : Nat) : Int)] = (s, ((E.length + (cat (l1 ++ [s])).length : Nat) : Int), [(b.length : Int), ((E.length + X.length : Nat) : Int)]) := by
  have hxl : X.length = (cat l1).length + ((wrt s).length + (cat l2).length) := by rw [hX, List.length_append, List.length_append]
  have hbl : b.length = E.length + X.length + rest.length := by rw [hb, List.length_append, List.length_append]
  have h := txt_at (b := b) (p := E.length + (cat l1).length) (L := E.length + X.length) (ends := [(b.length : Int), ((E.length + X.length : Nat) : Int)]) rfl (by omega) (by omega) s (cat l2) hs (by
    rw [hb, List.take_left' (by rw [List.length_append]), hX, ← List.append_assoc, List.drop_left' (by rw [List.length_append])])
  rw [h]
  refine Prod.ext rfl (Prod.ext ?_ rfl)
  simp only [cat_snoc, List.length_append]
  omega
theorem cat_append (l m : List (List Int)) : cat (l ++ m) = cat l ++ cat m := by simp [cat]
theorem cat_split (ss : List ByteArray) (j : Nat) (h : j < ss.length) : cat (ss.map bytesOf) = cat ((ss.take j).map bytesOf) ++ (wrt (bytesOf (ss[j]'h)) ++ cat ((ss.drop (j + 1)).map bytesOf)) := by
  have h1 : ss = ss.take j ++ (ss[j]'h :: ss.drop (j + 1)) := by rw [← List.drop_eq_getElem_cons h, List.take_append_drop]
  refine (congrArg (fun l => cat (List.map bytesOf l)) h1).trans ?_
  simp only [List.map_append, List.map_cons, cat_append, cat_cons]
theorem cat_step (l : List ByteArray) (s : ByteArray) (E : List Int) (hE : E = enc (e (s.size : Int)) (s.size : Int)) : cat (l.map bytesOf) ++ E ++ bytesOf s = cat ((l ++ [s]).map bytesOf) := by
  rw [List.map_append, List.map_singleton, cat_snoc, wrt, bytesOf_length, hE, List.append_assoc]
theorem inv_two {n : Nat} {p L : Int} (h0 : 0 ≤ p) (h1 : p ≤ L) (h2 : L ≤ n) : Inv n p [(n : Int), L] := by
  refine ⟨h0, fun x hx => ?_, ?_, by simp⟩
  · rcases List.mem_cons.1 hx with h | h
    · omega
    · rw [List.mem_singleton.1 h]; omega
  · refine List.pairwise_cons.2 ⟨fun x hx => ?_, List.pairwise_singleton _ _⟩
    rw [List.mem_singleton.1 hx]; omega
theorem text_in {w : World} {B g : Nat} {A : Option Addr} {c : Nat} {v : Value} {b E X rest : List Int} (hb : b = E ++ X ++ rest) {l1 l2 : List (List Int)} {s : ByteArray} (hX : X = cat l1 ++ (wrt (bytesOf s) ++ cat l2)) (hs : s.size ≤ 500) (hbb : ∀ x ∈ b, 0 ≤ x ∧ x ≤ 255) (hbl : b.length ≤ 140737488359000) (hB : B ≤ w.heap.size)
    (h : IsC w B g A c b ((E.length + (cat l1).length : Nat) : Int) v [(b.length : Int), ((E.length + X.length : Nat) : Int)]) :
    Calls Try.prog 15 #[.pointer (some ⟨g, 0, none⟩)] w fun e w' => e = .returned (.string s) ∧ ∃ v', IsC w' B g A c b ((E.length + (cat (l1 ++ [bytesOf s])).length : Nat) : Int) v' [(b.length : Int), ((E.length + X.length : Nat) : Int)] ∧ Below B w w' := by
  have hbn : b.length = E.length + X.length + rest.length := by rw [hb, List.length_append, List.length_append]
  have hxl : X.length = (cat l1).length + ((wrt (bytesOf s)).length + (cat l2).length) := by rw [hX, List.length_append, List.length_append]
  have hi : Inv b.length ((E.length + (cat l1).length : Nat) : Int) [(b.length : Int), ((E.length + X.length : Nat) : Int)] := inv_two (by omega) (by omega) (by omega)
  refine (Text_c h hi hB hbb hbl).mono ?_
  rw [txt_in hb hX (by rw [bytesOf_length]; omega)]
  rintro e w' ⟨rfl, hm⟩
  exact ⟨by simp only [nums_str], moved_below h hB hm⟩
/-- CursorTexts. -/
theorem texts_c {w : World} {A : Option Addr} {c : Nat} {ss : List ByteArray} {A2 : Option Addr} {c2 : Nat} {rest : List Int} (hr : Kd.C Kd.string w A ss.length ss) (_hc : ss.length ≤ c) (hr2 : Kd.C (Kd.int .u8) w A2 rest.length rest) (_hc2 : rest.length ≤ c2) (hb : ∀ x ∈ rest, 0 ≤ x ∧ x ≤ 255) :
    Calls Try.prog 3 #[.slice A ss.length c, .slice A2 rest.length c2] w fun e w' => e = .returned (.bool true) ∧ Below w.heap.size w w' := by
  have HL := Aside0.mk live_c
  by_cases h1 : (ss.length : Int) > 20
  · have hd1 : decide ((ss.length : Int) > 20) = true := decide_eq_true h1
    clear hr hr2 hb h1
    go_enter Try.func3, Try.ntmps3
    go_wp2_with (first | (go_at_call 9; refine (HL.out _).mono ?_; rintro e w1 ⟨rfl, b1⟩; have B1 := Aside0.mk b1; clear b1))
    go_ret
    exact ⟨rfl, B1.out⟩
  have hd1 : decide ((ss.length : Int) > 20) = false := decide_eq_false h1
  by_cases h2 : (rest.length : Int) > 100
  · have hd2 : decide ((rest.length : Int) > 100) = true := decide_eq_true h2
    clear hr hr2 hb h1 h2
    go_enter Try.func3, Try.ntmps3
    go_wp2_with (first | (go_at_call 9; refine (HL.out _).mono ?_; rintro e w1 ⟨rfl, b1⟩; have B1 := Aside0.mk b1; clear b1))
    go_ret
    exact ⟨rfl, B1.out⟩
  have hd2 : decide ((rest.length : Int) > 100) = false := decide_eq_false h2
  have HR := Aside0.mk hr
  have HR2 := Aside0.mk hr2
  have HBY := Aside0.mk hb
  have HBL := Aside0.mk (show ss.length ≤ 20 ∧ rest.length ≤ 100 by omega)
  clear hr hr2 hb h1 h2
  go_enter Try.func3, Try.ntmps3
  go_wp2_with fail
  go_loopg [5, 6] (ss.length) (fun kq v5 v6 w' => ∃ (i : Nat), v6 = .int .i64 (i : Int) ∧ Aside0 (kq + i = ss.length) ∧ Aside0 (∀ s ∈ ss.take i, s.size ≤ 500) ∧ Aside0 (Kd.R (Kd.int .u8) 5 w' w.heap.size (fun _ => True) v5 (cat ((ss.take i).map bytesOf))) ∧ Aside0 (Below w.heap.size w w'))
  case atStart => exact ⟨0, rfl, ⟨by omega⟩, ⟨by simp⟩, ⟨Kd.R_of_own ⟨rfl, .inr ⟨w.heap.size, 0, #[], rfl, Nat.le_refl _, blk_new w _, Nat.le_refl _, by decide, rfl, rfl⟩⟩ (fun _ _ => trivial)⟩, ⟨below_alloc (Below.refl _ _) _⟩⟩
  case round =>
    obtain ⟨i, rfl, HK, HS, HO, B⟩ := hrel
    by_cases hik : (i : Int) < (ss.length : Int)
    · have hdk : decide ((i : Int) < (ss.length : Int)) = true := decide_eq_true hik
      have hi0 : (0 : Int) ≤ (i : Int) := by omega
      obtain ⟨ad, e1, hx⟩ := Kd.at_string HR.out (i : Int) hi0 hik
      subst e1
      have hx2 := (B.out.cell (World.block_lt_of_cell? w _ hx)).trans hx
      have hwi : IntKind.i64.wrap ((i : Int) + 1) = (i : Int) + 1 := by have := HBL.out; rw [IntKind.wrap_i64]; omega
      rw [Int.toNat_natCast] at hx2 hx
      obtain ⟨s, hs⟩ : ∃ s, s = rdOf ByteArray.empty ss (i : Int) := ⟨_, rfl⟩
      rw [← hs] at hx2 hx
      have HX := Aside0.mk hx
      have HT := Aside0.mk (show ss.take (i + 1) = ss.take i ++ [s] by
        rw [hs, List.take_succ_eq_append_getElem (by omega)]
        simp [rdOf, List.getD_eq_getElem?_getD, List.getElem?_eq_getElem (show i < ss.length by omega)])
      clear hx hs
      by_cases h5 : (s.size : Int) > 500
      · have hd5 : decide ((s.size : Int) > 500) = true := decide_eq_true h5
        clear h5
        go_wp2_with (first | (go_at_call 9; refine (HL.out _).mono ?_; rintro e w6 ⟨rfl, b6⟩; have B6 := Aside0.mk b6; clear b6))
        go_ret
        exact ⟨rfl, B.out.trans (B6.out.mono B.out.size)⟩
      · have hd5 : decide ((s.size : Int) > 500) = false := decide_eq_false h5
        have HS5 := Aside0.mk (show s.size ≤ 500 by omega)
        have hwu : IntKind.u64.wrap (s.size : Int) = (s.size : Int) := by rw [IntKind.wrap_u64]; omega
        have HCL := Aside0.mk (show (cat ((ss.take i).map bytesOf)).length ≤ 510 * 20 by
          have h6 := cat_len ((ss.take i).map bytesOf) (fun x hx => by
            obtain ⟨y, hy, rfl⟩ := List.mem_map.1 hx
            rw [bytesOf_length]
            exact HS.out y hy)
          rw [List.length_map, List.length_take] at h6
          have := HBL.out
          omega)
        have HP := Aside0.mk (fun W : World => put_c (W := W) (s.size : Int) (by omega) (by have := HS5.out; omega))
        have HEL := Aside0.mk (show (enc (e (s.size : Int)) (s.size : Int)).length ≤ 10 by rw [enc_length]; have := e_le (s.size : Int) (by have := HS5.out; omega); omega)
        obtain ⟨E, hE⟩ : ∃ E, E = enc (e (s.size : Int)) (s.size : Int) := ⟨_, rfl⟩
        rw [← hE] at HP HEL
        have HE := Aside0.mk hE
        clear hE h5
        go_wp2_with fail
        go_region_held3 (fun w' => w'.cell? (ad.add i) = some (.string s)) (first | exact hx2 | exact (B5.out.cell (World.block_lt_of_cell? w _ HX.out)).trans HX.out | exact (B4.out.cell (World.block_lt_of_cell? w _ HX.out)).trans HX.out | exact (B3.out.cell (World.block_lt_of_cell? w _ HX.out)).trans HX.out | go_keep) (first
          | (go_at_call 10; refine (HP.out _).mono ?_; rintro e' w3 ⟨ap, cp, rfl, hp, hb⟩; have HO3 := Aside0.mk (Kd.R_below (Kd.R_drewN HO.out _) hb); have HPV := Aside0.mk (Kd.R_reads' hp).2.2; have B3 := Aside0.mk (B.out.trans ((pw_below_drewN (Below.refl w.heap.size wr) _).trans (hb.mono B.out.size))); clear hp hb)
          | (refine row_step (P := Try.prog) (w0 := w) (base := w.heap.size) (ok := fun _ => True) ?hw (.tmp 32) (.tmp 39) 23 5 ?ho Try.underlying23 info5' u5 (cat ((ss.take i).map bytesOf)) E ap cp ?hs ?hx (fun _ _ => trivial) ?hO ?hR ?hB ?hbase (by have := HCL.out; have := HEL.out; omega) ?hk; (case hO => first | exact HO3.out | exact Kd.R_drewN HO3.out _); (case hR => first | exact HPV.out | exact Kd.C_drewN HPV.out _); (case hB => first | exact B3.out | exact (B3.out.trans (pw_below_drewN (Below.refl _ _) _))); (case hbase => exact B3.out.size); (case hw => rfl); (case ho => rfl); (case hs => rfl); (case hx => rfl); intro v4 w4 ho hb4; have HO4 := Aside0.mk ho; have B4 := Aside0.mk hb4; clear ho hb4)
          | (refine str_step (P := Try.prog) (w0 := w) (base := w.heap.size) ?hw2 (.tmp 40) (.tmp 44) 23 9 5 ?ho2 Try.underlying23 Try.underlying9 info5' v4 (cat ((ss.take i).map bytesOf) ++ E) s ?hs2 ?hx2 ?hO2 ?hB2 ?hbase2 (by have := HCL.out; have := HEL.out; have := HS5.out; rw [List.length_append]; omega) ?hk2; (any_goals (first | exact HO4.out | exact B4.out | exact B4.out.size | rfl)); intro v5' w5 ho hb5; have HO5 := Aside0.mk ho; have B5 := Aside0.mk hb5; clear ho hb5)
          | fail)
        go_wp2_with fail
        go_roundg (gk - 1)
        case measure => have := HK.out; omega
        case rel =>
          refine ⟨i + 1, by rw [Int.natCast_add]; rfl, ⟨by have := HK.out; omega⟩, ⟨fun x hx => ?_⟩, ⟨?_⟩, B5⟩
          · rw [HT.out] at hx
            rcases List.mem_append.1 hx with h | h
            · exact HS.out x h
            · rw [List.mem_singleton.1 h]; exact HS5.out
          · rw [HT.out, ← cat_step _ _ E HE.out]
            exact HO5.out
    · have hdk : decide ((i : Int) < (ss.length : Int)) = false := decide_eq_false hik
      have hdk2 : decide (i < ss.length) = false := decide_eq_false (by omega)
      have hin : i = ss.length := by have := HK.out; omega
      rw [hin, List.take_length] at HS HO
      have HCL := Aside0.mk (show (cat (ss.map bytesOf)).length ≤ 510 * 20 by
        have h6 := cat_len (ss.map bytesOf) (fun x hx => by
          obtain ⟨y, hy, rfl⟩ := List.mem_map.1 hx
          rw [bytesOf_length]
          exact HS.out y hy)
        rw [List.length_map] at h6
        have := HBL.out
        omega)
      have HXB := Aside0.mk (show ∀ x ∈ cat (ss.map bytesOf), 0 ≤ x ∧ x ≤ 255 from cat_byte (fun s hs => by obtain ⟨y, _, rfl⟩ := List.mem_map.1 hs; exact bytesOf_byte y))
      obtain ⟨X, hX⟩ : ∃ X, X = cat (ss.map bytesOf) := ⟨_, rfl⟩
      rw [← hX] at HO HCL HXB
      have HX := Aside0.mk hX
      have HP := Aside0.mk (fun W : World => put_c (W := W) (X.length : Int) (by omega) (by have := HCL.out; omega))
      have HEL := Aside0.mk (show (enc (e (X.length : Int)) (X.length : Int)).length ≤ 10 by rw [enc_length]; have := e_le (X.length : Int) (by have := HCL.out; omega); omega)
      have HEB := Aside0.mk (VLib.enc_byte (e (X.length : Int)) (X.length : Int))
      obtain ⟨E, hE⟩ : ∃ E, E = enc (e (X.length : Int)) (X.length : Int) := ⟨_, rfl⟩
      rw [← hE] at HP HEL HEB
      have HE := Aside0.mk hE
      have hwu : IntKind.u64.wrap (X.length : Int) = (X.length : Int) := by have := HCL.out; rw [IntKind.wrap_u64]; omega
      obtain ⟨A5, c5, rfl⟩ := Kd.R_slice HO.out
      clear hik hE hX hin
      go_wp2_with (first
        | (go_at_call 10; refine (HP.out _).mono ?_; rintro e' w3 ⟨ap, cp, rfl, hp, hb⟩; have HP3 := Aside0.mk (Kd.R_lower hp B.out.size); have HX3 := Aside0.mk (Kd.C_below (Kd.R_reads' HO.out).2.2 hb); have B3 := Aside0.mk (B.out.trans (hb.mono B.out.size)); clear hp hb)
        | ((with_reducible refine gate_builtin (b := .append) (xs := #[.tmp 49, .tmp 50]) rfl ?_); at_builtin
           refine Kd.R_append_row (Value.int .u8) (0 : Int) (h1 := fun _ => rfl) (w0 := w) w.heap.size rfl (.tmp 49) (.tmp 50) 23 5 (.int .u8 0) 1 rfl Try.underlying23 info5' rfl (by decide) (.slice (some ap) E.length cp) E X A5 X.length c5 (fun _ => True) rfl rfl (fun _ _ => trivial) HP3.out HX3.out B3.out B3.out.size (by have := HCL.out; have := HEL.out; omega) ?_
           intro v4 w4 ho hb4 hgw hat
           clear hgw hat
           have HO4 := Aside0.mk ho
           have B4 := Aside0.mk hb4
           clear ho hb4)
        | ((with_reducible refine gate_builtin (b := .append) (xs := #[.tmp 51, .tmp 52]) rfl ?_); at_builtin
           refine Kd.R_append_row (Value.int .u8) (0 : Int) (h1 := fun _ => rfl) (w0 := w) w.heap.size rfl (.tmp 51) (.tmp 52) 23 5 (.int .u8 0) 1 rfl Try.underlying23 info5' rfl (by decide) v4 (E ++ X) rest A2 rest.length c2 (fun _ => True) rfl rfl (fun _ _ => trivial) HO4.out (Kd.C_below HR2.out B4.out) B4.out B4.out.size (by have := HCL.out; have := HEL.out; have := HBL.out; rw [List.length_append]; omega) ?_
           intro v6 w6 ho hb6 hgw hat
           clear hgw hat
           obtain ⟨b, hb⟩ : ∃ b, b = E ++ X ++ rest := ⟨_, rfl⟩
           rw [← hb] at ho
           have HBE := Aside0.mk hb
           obtain ⟨A6, c6, rfl⟩ := Kd.R_slice ho
           have HO6 := Aside0.mk ho
           have B6 := Aside0.mk hb6
           clear ho hb6 hb)
        | (go_at_call 11; refine (From_c (Kd.R_reads' HO6.out).2.2 (Kd.R_reads' HO6.out).2.1 (C_lt (Kd.R_reads' HO6.out).2.2)).mono ?_; rintro e' w7 ⟨rfl, h7, b7⟩
           have H7 := Aside0.mk h7
           have S7 := Aside0.mk b7.size
           have B7 := Aside0.mk (B6.out.trans (b7.mono B6.out.size))
           have HBB := Aside0.mk (show ∀ x ∈ b, 0 ≤ x ∧ x ≤ 255 by
             rw [HBE.out]
             intro x hx
             rcases List.mem_append.1 hx with h | h
             · rcases List.mem_append.1 h with h | h
               · exact HEB.out x h
               · exact HXB.out x h
             · exact HBY.out x h)
           have HBN := Aside0.mk (show b.length = E.length + X.length + rest.length by rw [HBE.out, List.length_append, List.length_append])
           clear h7 b7)
        | (go_at_call 12; refine (Open_c H7.out (inv_new _) S7.out HBB.out (by have := HBN.out; have := HCL.out; have := HEL.out; have := HBL.out; omega) (by simp)).mono ?_; rw [op_new HBE.out HE.out (by have := HCL.out; omega)]; rintro e' w8 ⟨rfl, hm8⟩; obtain ⟨v8, h8, b8⟩ := moved_below H7.out S7.out hm8; have H8 := Aside0.mk h8; have B8 := Aside0.mk (B7.out.trans (b8.mono B6.out.size)); have S8 := Aside0.mk (Nat.le_trans S7.out b8.size); clear hm8 h8 b8)
        | (go_at_call 13; refine (deep_c H8.out).mono ?_; rintro e' w9 ⟨rfl, hd9⟩; have H9 := Aside0.mk (H8.out.drawn hd9); have B9 := Aside0.mk (B8.out.trans (Drawn0.bel hd9)); have S9 := Aside0.mk (Nat.le_trans S8.out (Drawn0.bel (B := 0) hd9).size); clear hd9)
        | fail)
      clear HP HP3 HX3 HO4 HO6 H7 H8 B3 B4 B7 B8 HO B HK HXB HEB
      go_loopg [8] (ss.length) (fun kq v8 w' => ∃ (j : Nat) (v : Value), v8 = .int .i64 (j : Int) ∧ Aside0 (kq + j = ss.length) ∧ Aside0 (IsC w' w6.heap.size (w6.heap.size + 1) A6 c6 b ((E.length + (cat ((ss.take j).map bytesOf)).length : Nat) : Int) v [(b.length : Int), ((E.length + X.length : Nat) : Int)]) ∧ Aside0 (Below w.heap.size w w') ∧ Aside0 (w6.heap.size ≤ w'.heap.size))
      case atStart => exact ⟨0, _, rfl, ⟨by omega⟩, H9, B9, S9⟩
      case round =>
        obtain ⟨j, v, rfl, HK, H, B, SZ⟩ := hrel
        by_cases hjk : (j : Int) < (ss.length : Int)
        · have hdk : decide ((j : Int) < (ss.length : Int)) = true := decide_eq_true hjk
          have hj0 : (0 : Int) ≤ (j : Int) := by omega
          obtain ⟨ad, e1, hx⟩ := Kd.at_string HR.out (j : Int) hj0 hjk
          subst e1
          have hx2 := (B.out.cell (World.block_lt_of_cell? w _ hx)).trans hx
          have hwi : IntKind.i64.wrap ((j : Int) + 1) = (j : Int) + 1 := by have := HBL.out; rw [IntKind.wrap_i64]; omega
          rw [Int.toNat_natCast] at hx2 hx
          obtain ⟨s, hs⟩ : ∃ s, s = rdOf ByteArray.empty ss (j : Int) := ⟨_, rfl⟩
          rw [← hs] at hx2 hx
          have HX2 := Aside0.mk hx
          have hsj : s = ss[j]'(by omega) := by
            rw [hs]
            simp [rdOf, List.getD_eq_getElem?_getD, List.getElem?_eq_getElem (show j < ss.length by omega)]
          have HT := Aside0.mk (show ss.take (j + 1) = ss.take j ++ [s] by rw [hsj, List.take_succ_eq_append_getElem (by omega)])
          have HSS := Aside0.mk (show s.size ≤ 500 by rw [hsj]; exact HS.out _ (List.getElem_mem _))
          have HDX := Aside0.mk (show X = cat ((ss.take j).map bytesOf) ++ (wrt (bytesOf s) ++ cat ((ss.drop (j + 1)).map bytesOf)) by
            rw [HX.out, hsj]; exact cat_split ss j (by omega))
          have HM := Aside0.mk (show moreB ((E.length + (cat ((ss.take j).map bytesOf)).length : Nat) : Int) [(b.length : Int), ((E.length + X.length : Nat) : Int)] = true by
            have hxl : X.length = (cat ((ss.take j).map bytesOf)).length + ((wrt (bytesOf s)).length + (cat ((ss.drop (j + 1)).map bytesOf)).length) := by
              conv => lhs; rw [HDX.out, List.length_append, List.length_append]
            have hw := wrt_len (bytesOf s)
            have hlast : last [(b.length : Int), ((E.length + X.length : Nat) : Int)] = ((E.length + X.length : Nat) : Int) := rfl
            unfold moreB
            rw [hlast, decide_eq_true (by simp), decide_eq_true (by omega)]
            rfl)
          clear hx hs hsj
          go_wp2_with fail
          go_region_held3 (fun w' => w'.cell? (ad.add j) = some (.string s)) (first | exact hx2 | exact (B4.out.cell (World.block_lt_of_cell? w _ HX2.out)).trans HX2.out | go_keep) (first
            | (go_at_call 14; refine (more_c (H.out.drewN _)).mono ?_; rw [HM.out]; rintro e' w3 ⟨rfl, ⟨n3, rfl⟩⟩)
            | (go_at_call 15; refine (text_in HBE.out HDX.out HSS.out HBB.out (by have := HBN.out; have := HCL.out; have := HEL.out; have := HBL.out; omega) (by exact SZ.out) (H.out.drewN _)).mono ?_; rintro e' w4 ⟨rfl, v4, h4, b4⟩; have H4 := Aside0.mk h4; have B4 := Aside0.mk (B.out.trans ((pw_below_drewN (Below.refl w.heap.size wr) _).trans (b4.mono B6.out.size))); have S4 := Aside0.mk (Nat.le_trans SZ.out b4.size); clear h4 b4)
            | fail)
          go_wp2_with fail
          go_roundg (gk - 1)
          case measure => have := HK.out; omega
          case rel => exact ⟨j + 1, _, by rw [Int.natCast_add]; rfl, ⟨by have := HK.out; omega⟩, ⟨by rw [HT.out, List.map_append, List.map_singleton]; exact H4.out⟩, B4, S4⟩
        · have hdk : decide ((j : Int) < (ss.length : Int)) = false := decide_eq_false hjk
          have hdk2 : decide (j < ss.length) = false := decide_eq_false (by omega)
          have hjn : j = ss.length := by have := HK.out; omega
          rw [hjn, List.take_length, ← HX.out] at H
          have hm0 : moreB ((E.length + X.length : Nat) : Int) [(b.length : Int), ((E.length + X.length : Nat) : Int)] = false := by
            have hlast : last [(b.length : Int), ((E.length + X.length : Nat) : Int)] = ((E.length + X.length : Nat) : Int) := rfl
            unfold moreB
            rw [hlast, decide_eq_false (show ¬ ((E.length + X.length : Nat) : Int) < ((E.length + X.length : Nat) : Int) by omega), Bool.and_false]
          have hcl : cl ((E.length + X.length : Nat) : Int) [(b.length : Int), ((E.length + X.length : Nat) : Int)] = (true, ((E.length + X.length : Nat) : Int), [(b.length : Int)]) := by
            have hlast : last [(b.length : Int), ((E.length + X.length : Nat) : Int)] = ((E.length + X.length : Nat) : Int) := rfl
            unfold cl
            rw [hlast, if_neg (by simp)]
            rfl
          have hm1 : moreB ((E.length + X.length : Nat) : Int) [(b.length : Int)] = decide ((rest.length : Int) > 0) := by
            have hlast : last [(b.length : Int)] = (b.length : Int) := rfl
            have := HBN.out
            unfold moreB
            rw [hlast, decide_eq_true (by simp), Bool.true_and]
            by_cases h0 : (rest.length : Int) > 0
            · rw [decide_eq_true h0, decide_eq_true (by omega)]
            · rw [decide_eq_false h0, decide_eq_false (by omega)]
          have HM0 := Aside0.mk hm0
          have HCLO := Aside0.mk hcl
          have HM1 := Aside0.mk hm1
          clear hm0 hcl hm1 hjk hjn
          obtain ⟨x, hx⟩ : ∃ x, x = decide ((rest.length : Int) > 0) := ⟨_, rfl⟩
          rw [← hx] at HM1
          have hx2 := hx.symm
          have hx3 : decide (0 < rest.length) = x := by rw [hx]; congr 1; simp
          clear hx
          have hxx : (x == x) = true := beq_self_eq_true x
          go_wp2_with (first
            | (go_at_call 16; refine (Close_c H3.out).mono ?_; rw [HCLO.out]; rintro e' w4 ⟨rfl, hm4⟩; obtain ⟨v4, h4, b4⟩ := moved_below H3.out S3.out hm4; have H4 := Aside0.mk h4; have B4 := Aside0.mk (B3.out.trans (b4.mono B6.out.size)); clear hm4 h4 b4)
            | (go_at_call 13; refine (deep_c H4.out).mono ?_; rintro e' w5 ⟨rfl, hd5⟩; have H5 := Aside0.mk (H4.out.drawn hd5); have B5 := Aside0.mk (B4.out.trans (Drawn0.bel hd5)); clear hd5)
            | (go_at_call 14; refine (more_c H5.out).mono ?_; rw [HM1.out]; rintro e' w7 ⟨rfl, hd7⟩; have B7 := Aside0.mk (B5.out.trans (Drawn0.bel hd7)); clear hd7)
            | (go_at_call 14; refine (more_c H.out).mono ?_; rw [HM0.out]; rintro e' w3 ⟨rfl, hd3⟩; have H3 := Aside0.mk (H.out.drawn hd3); have B3 := Aside0.mk (B.out.trans (Drawn0.bel hd3)); have S3 := Aside0.mk (Nat.le_trans SZ.out (Drawn0.bel (B := 0) hd3).size); clear hd3)
            | (go_at_call 9; refine (HL.out _).mono ?_; rintro e w9 ⟨rfl, b9⟩; have B9 := Aside0.mk (B7.out.trans (b9.mono B7.out.size)); clear b9)
            | fail)
          go_ret
          exact ⟨rfl, B9.out⟩
end Go.Proofs.Ytfbmabhdjliohaa.Cur

/- the reference's Put of layer 7; conditions stand at each. -/
import Derived.Test.YtfbmabhdjliohaaMRawV
namespace Go.Proofs.Ytfbmabhdjliohaa.Cur
open Go.RowKit Go.Proofs.Ytfbmabhdjliohaa.Rng Go.Proofs.YtfbmabhdjliohaaW.PrintWords Go.Proofs.YtfbmabhdjliohaaW.PrintLast Go.Proofs.YtfbmabhdjliohaaW.PrintMore Go.Proofs.Ytfbmabhdjliohaa.Var
set_option maxHeartbeats 1000000
set_option maxRecDepth 100000
set_option linter.unusedSimpArgs false
set_option linter.unusedVariables false
/-- What hands back bytes in a row of its own. -/
def RowP (w : World) (l : List Int) (e : Ending) (w' : World) : Prop := ∃ v, e = .returned v ∧ Kd.R (Kd.int .u8) 5 w' w.heap.size (fun _ => True) v l ∧ Below w.heap.size w w'
theorem rput_n {w : World} (n : Int) (h0 : 0 ≤ n) (h1 : n ≤ 18446744073709551615) : Calls Try.prog 10 #[.int .u64 n] w (RowP w (enc (Var.e n) n)) :=
  PLib.ecdysisref01_Put.calls 20 n _ w (VLib.refput_f 20 n (by decide) h0 h1)
theorem rfix8_n {w : World} (n : Int) (h0 : 0 ≤ n) (h1 : n ≤ 18446744073709551615) : Calls Try.prog 86 #[.int .u64 n, .int .i64 8] w (RowP w (M.b8 n)) :=
  PLib.ecdysisref03_Put.calls 20 n 8 _ w (by
    unfold PLib.ecdysisref03_Put.f
    show PLib.ecdysisref03_Put.l0 20 n 8 [] ((0 : Nat) : Int) = _
    rw [VLib.fixputl 8 20 n 8 [] 0 (by omega) (by omega) (by omega) h0 h1 (by simp), VLib.low8 n h0 h1, List.nil_append])
theorem rfix4_n {w : World} (n : Int) (h0 : 0 ≤ n) (h1 : n < 4294967296) : Calls Try.prog 86 #[.int .u64 n, .int .i64 4] w (RowP w (M.b4 n)) :=
  PLib.ecdysisref03_Put.calls 20 n 4 _ w (by
    unfold PLib.ecdysisref03_Put.f
    show PLib.ecdysisref03_Put.l0 20 n 4 [] ((0 : Nat) : Int) = _
    rw [VLib.fixputl 4 20 n 4 [] 0 (by omega) (by omega) (by omega) h0 (by omega) (by simp)]
    simp only [VLib.low, M.b4, List.nil_append]
    rw [VLib.dd n 256 65536 (by decide) (by decide), VLib.dd n 65536 16777216 (by decide) (by decide), show n / 16777216 % 256 = n / 16777216 by omega])
theorem rtag_n {w : World} (a b : Int) (ha : 1 ≤ a ∧ a ≤ 536870911) (hb : 0 ≤ b ∧ b ≤ 7) : Calls Try.prog 85 #[.int .i64 a, .int .i64 b] w (RowP w (enc (Var.e (a * 8 + b)) (a * 8 + b))) := by
  have HO := Aside0.mk (fun w => PRaw.ecdysisref04_Of.calls a b (a * 8 + b) w (by unfold PRaw.ecdysisref04_Of.f; congr 1; simp only [IntKind.wrap_u64]; omega))
  have HP := Aside0.mk (fun w => rput_n (w := w) (a * 8 + b) (by omega) (by omega))
  obtain ⟨u, hu⟩ : ∃ u, u = a * 8 + b := ⟨_, rfl⟩
  rw [← hu] at HO HP ⊢
  clear hu ha hb
  go_enter Try.func85, Try.ntmps85
  go_wp2_with (first
    | (go_at_call 92; refine (HO.out _).mono ?_; rintro e w1 ⟨rfl, ⟨n1, rfl⟩⟩)
    | (go_at_call 10; refine (HP.out _).mono ?_; rintro e w2 ⟨v2, rfl, h2, b2⟩; have H2 := Aside0.mk h2; have B2 := Aside0.mk b2; clear h2 b2))
  go_ret
  exact ⟨v2, rfl, H2.out, (pw_below_drewN (Below.refl _ _) n1).trans B2.out⟩
theorem append_str {w0 W : World} {P : Program} {ops : Array Oper} {rest : List Oper} {o : Oper} {a : Act} {Q : Exit → Act → World → Prop} (base : Nat) (hgd : o.guard = none) (s x : Operand) (t u e : TypeId)
    (ho : o.op = .call { callee := .builtin .append, args := #[s, x], argTypes := #[t, u] })
    (ht : P.underlying t = some (.slice e)) (hu : P.underlying u = some .string) (hinfo : (P.info? e).map (fun i => (i.zero, i.size, i.bytes)) = some (some (.int .u8 0), 1, 1))
    (v : Value) (xs : List Int) (y : ByteArray) (hs : a.eval s = v) (hx : a.eval x = .string y)
    (HO : Kd.R (Kd.int .u8) e W base (fun _ => True) v xs) (HB : Below base w0 W) (hbase : base ≤ W.heap.size) (hl : xs.length + y.size ≤ 140737488355328)
    (h : ∀ v1 w1, Kd.R (Kd.int .u8) e w1 base (fun _ => True) v1 (xs ++ bytesOf y) → Below base w0 w1 → wpList P ops Q rest (a.put o.dst v1) w1) : wpList P ops Q (o :: rest) a W := by
  obtain ⟨i0, hi, hzz⟩ := Option.map_eq_some_iff.1 hinfo
  simp only [Prod.mk.injEq] at hzz
  obtain ⟨hz0, hz1, hz2⟩ := hzz
  have hown := Kd.own_of_R HO
  obtain ⟨v1, w1, hr, hown1, hg, _⟩ := Lib.run_append_own_string (P := P) W base t u o.type e i0 ht hu hi hz0 hz1 hz2 v xs.length (encs (Value.int .u8) xs) hown y (by simp only [maxLen]; omega) hl hbase
  refine wpList_plain hgd fun K hK => ?_
  unfold Oper.wp execOp
  simp only [ho, resolve, invoke, builtin, Sem.run_bind, Sem.run_pure, Result.andThen_ok, List.map_toArray, List.map_cons, List.map_nil, hs, hx, hr]
  refine hK _ _ (h v1 w1 (Kd.R_of_own ?_ (fun _ _ => trivial)) (HB.grown hg hbase (own_base hown)))
  have e1 : encs (Value.int .u8) (xs ++ bytesOf y) = encs (Value.int .u8) xs ++ Lib.strCells y := by
    rw [encs_append]
    congr 1
    unfold encs bytesOf Lib.strCells
    simp only [List.map_map]
    rfl
  rw [e1, List.length_append, bytesOf_length]
  exact hown1
def R1 (T : List Int) (w w1 : World) (v : Value) : Prop := Kd.R (Kd.int .u8) 5 w1 w.heap.size (fun _ => True) v T ∧ Below w.heap.size w w1
theorem RBytes_c {w : World} (x : SR) (hx : RS x) (hv : VS x) : Calls Try.prog 62 #[.int .i64 x.f0, .int .i64 x.f1, .int .u64 x.f2, .string x.f3] w (RowP w (wbS x)) := by
  obtain ⟨num, wire, n, s⟩ := x
  obtain ⟨⟨r1, r2, r3⟩, r4⟩ := hx
  obtain ⟨r5, r6⟩ := hv
  simp only at r1 r2 r3 r4 r5 r6
  unfold wbS payB
  simp only
  rcases r3 with rfl | rfl | rfl | rfl
  · rw [if_pos (rfl : (0 : Int) = 0)]
    have HT := Aside0.mk (rtag_n (w := w) num 0 ⟨r1, r2⟩ (by decide))
    have HTL := Aside0.mk (enc_le (n := num * 8 + 0) (by omega))
    obtain ⟨T, hT⟩ : ∃ T, T = enc (Var.e (num * 8 + 0)) (num * 8 + 0) := ⟨_, rfl⟩
    rw [← hT] at HT HTL ⊢
    have HP := Aside0.mk (fun w => rput_n (w := w) n r5.1 r5.2)
    have hul : (enc (Var.e n) n).length ≤ 10 := enc_le r5.2
    have HUL := Aside0.mk hul
    obtain ⟨U, hU⟩ : ∃ U, U = enc (Var.e n) n := ⟨_, rfl⟩
    rw [← hU] at HP HUL ⊢
    clear r1 r2 r4 r5 r6 hT hU hul
    go_enter Try.func62, Try.ntmps62
    go_wp2_with (first
      | (go_at_call 85; refine HT.out.mono ?_; rintro e w1 ⟨v1, rfl, h1, b1⟩; have H1 := Aside0.mk h1; have B1 := Aside0.mk b1; clear h1 b1)
      | (go_at_call 10; refine (HP.out _).mono ?_; rintro e w2 ⟨v2, rfl, h2, b2⟩
         obtain ⟨A2, c2, rfl⟩ := Kd.R_slice h2
         have H2 := Aside0.mk h2; have B2 := Aside0.mk b2; clear h2 b2)
      | ((with_reducible refine gate_builtin (b := .append) (xs := #[.tmp 16, .tmp 18]) rfl ?_); at_builtin
         refine Kd.R_append_row (Value.int .u8) (0 : Int) (h1 := fun _ => rfl) (w0 := w) w.heap.size rfl (.tmp 16) (.tmp 18) 23 5 (.int .u8 0) 1 rfl Try.underlying23 info5w rfl (by decide) v1 T U A2 U.length c2 (fun _ => True) rfl rfl (fun _ _ => trivial) (Kd.R_below H1.out B2.out) (Kd.R_reads' H2.out).2.2 (B1.out.trans (B2.out.mono B1.out.size)) (Nat.le_trans B1.out.size B2.out.size) ?aL ?_
         (case aL => have := HTL.out; have := HUL.out; omega)
         intro v3 w3 h3 b3 g3 t3
         have H3 := Aside0.mk h3; have B3 := Aside0.mk b3; clear h3 b3 g3 t3))
    go_ret
    exact ⟨v3, rfl, H3.out, B3.out⟩
  · rw [if_neg (show ¬ (1 : Int) = 0 by decide), if_pos (rfl : (1 : Int) = 1)]
    have HT := Aside0.mk (rtag_n (w := w) num 1 ⟨r1, r2⟩ (by decide))
    have HTL := Aside0.mk (enc_le (n := num * 8 + 1) (by omega))
    obtain ⟨T, hT⟩ : ∃ T, T = enc (Var.e (num * 8 + 1)) (num * 8 + 1) := ⟨_, rfl⟩
    rw [← hT] at HT HTL ⊢
    have HP := Aside0.mk (fun w => rfix8_n (w := w) n r5.1 r5.2)
    have hul : (M.b8 n).length ≤ 10 := by simp [M.b8]
    have HUL := Aside0.mk hul
    obtain ⟨U, hU⟩ : ∃ U, U = M.b8 n := ⟨_, rfl⟩
    rw [← hU] at HP HUL ⊢
    clear r1 r2 r4 r5 r6 hT hU hul
    go_enter Try.func62, Try.ntmps62
    go_wp2_with (first
      | (go_at_call 85; refine HT.out.mono ?_; rintro e w1 ⟨v1, rfl, h1, b1⟩; have H1 := Aside0.mk h1; have B1 := Aside0.mk b1; clear h1 b1)
      | (go_at_call 86; refine (HP.out _).mono ?_; rintro e w2 ⟨v2, rfl, h2, b2⟩
         obtain ⟨A2, c2, rfl⟩ := Kd.R_slice h2
         have H2 := Aside0.mk h2; have B2 := Aside0.mk b2; clear h2 b2)
      | ((with_reducible refine gate_builtin (b := .append) (xs := #[.tmp 22, .tmp 24]) rfl ?_); at_builtin
         refine Kd.R_append_row (Value.int .u8) (0 : Int) (h1 := fun _ => rfl) (w0 := w) w.heap.size rfl (.tmp 22) (.tmp 24) 23 5 (.int .u8 0) 1 rfl Try.underlying23 info5w rfl (by decide) v1 T U A2 U.length c2 (fun _ => True) rfl rfl (fun _ _ => trivial) (Kd.R_below H1.out B2.out) (Kd.R_reads' H2.out).2.2 (B1.out.trans (B2.out.mono B1.out.size)) (Nat.le_trans B1.out.size B2.out.size) ?aL ?_
         (case aL => have := HTL.out; have := HUL.out; omega)
         intro v3 w3 h3 b3 g3 t3
         have H3 := Aside0.mk h3; have B3 := Aside0.mk b3; clear h3 b3 g3 t3))
    go_ret
    exact ⟨v3, rfl, H3.out, B3.out⟩
  · rw [if_neg (show ¬ (2 : Int) = 0 by decide), if_neg (show ¬ (2 : Int) = 1 by decide), if_neg (show ¬ (2 : Int) = 5 by decide), bytesOf_length]
    have HS := Aside0.mk r6
    have hwi : IntKind.u64.wrap (s.size : Int) = (s.size : Int) := by rw [IntKind.wrap_u64]; omega
    have HT := Aside0.mk (rtag_n (w := w) num 2 ⟨r1, r2⟩ (by decide))
    have HTL := Aside0.mk (enc_le (n := num * 8 + 2) (by omega))
    obtain ⟨T, hT⟩ : ∃ T, T = enc (Var.e (num * 8 + 2)) (num * 8 + 2) := ⟨_, rfl⟩
    rw [← hT] at HT HTL ⊢
    have HP := Aside0.mk (fun w => rput_n (w := w) (s.size : Int) (by omega) (by omega))
    have hul : (enc (Var.e (s.size : Int)) (s.size : Int)).length ≤ 10 := enc_le (by omega)
    have HUL := Aside0.mk hul
    obtain ⟨U, hU⟩ : ∃ U, U = enc (Var.e (s.size : Int)) (s.size : Int) := ⟨_, rfl⟩
    rw [← hU] at HP HUL ⊢
    clear r1 r2 r4 r5 r6 hT hU hul
    go_enter Try.func62, Try.ntmps62
    go_wp2_with (first
      | (go_at_call 85; refine HT.out.mono ?_; rintro e w1 ⟨v1, rfl, h1, b1⟩; have H1 := Aside0.mk h1; have B1 := Aside0.mk b1; clear h1 b1)
      | (go_at_call 10; refine (HP.out _).mono ?_; rintro e w2 ⟨v2, rfl, h2, b2⟩
         obtain ⟨A2, c2, rfl⟩ := Kd.R_slice h2
         have H2 := Aside0.mk h2; have B2 := Aside0.mk b2; clear h2 b2)
      | ((with_reducible refine gate_builtin (b := .append) (xs := #[.tmp 32, .tmp 36]) rfl ?_); at_builtin
         refine Kd.R_append_row (Value.int .u8) (0 : Int) (h1 := fun _ => rfl) (w0 := w) w.heap.size rfl (.tmp 32) (.tmp 36) 23 5 (.int .u8 0) 1 rfl Try.underlying23 info5w rfl (by decide) v1 T U A2 U.length c2 (fun _ => True) rfl rfl (fun _ _ => trivial) (Kd.R_below H1.out B2.out) (Kd.R_reads' H2.out).2.2 (B1.out.trans (B2.out.mono B1.out.size)) (Nat.le_trans B1.out.size B2.out.size) ?aL ?_
         (case aL => have := HTL.out; have := HUL.out; omega)
         intro v3 w3 h3 b3 g3 t3
         have H3 := Aside0.mk h3; have B3 := Aside0.mk b3; clear h3 b3 g3 t3)
      | ((with_reducible refine gate_builtin (b := .append) (xs := #[.tmp 37, .tmp 38]) rfl ?_); at_builtin
         refine append_str (w0 := w) w.heap.size rfl (.tmp 37) (.tmp 38) 23 9 5 rfl Try.underlying23 Try.underlying9 info5w v3 (T ++ U) s rfl rfl H3.out B3.out B3.out.size ?bL ?_
         (case bL => have := HTL.out; have := HUL.out; have := HS.out; rw [List.length_append]; omega)
         intro v4 w4 h4 b4
         have H4 := Aside0.mk h4; have B4 := Aside0.mk b4; clear h4 b4))
    go_ret
    exact ⟨v4, rfl, by rw [← List.append_assoc]; exact H4.out, B4.out⟩
  · rw [if_neg (show ¬ (5 : Int) = 0 by decide), if_neg (show ¬ (5 : Int) = 1 by decide), if_pos (rfl : (5 : Int) = 5)]
    rw [if_neg (show ¬ (5 : Int) = 2 by decide)] at r4
    have HT := Aside0.mk (rtag_n (w := w) num 5 ⟨r1, r2⟩ (by decide))
    have HTL := Aside0.mk (enc_le (n := num * 8 + 5) (by omega))
    obtain ⟨T, hT⟩ : ∃ T, T = enc (Var.e (num * 8 + 5)) (num * 8 + 5) := ⟨_, rfl⟩
    rw [← hT] at HT HTL ⊢
    have HP := Aside0.mk (fun w => rfix4_n (w := w) n r5.1 (r4.2 rfl))
    have hul : (M.b4 n).length ≤ 10 := by simp [M.b4]
    have HUL := Aside0.mk hul
    obtain ⟨U, hU⟩ : ∃ U, U = M.b4 n := ⟨_, rfl⟩
    rw [← hU] at HP HUL ⊢
    clear r1 r2 r4 r5 r6 hT hU hul
    go_enter Try.func62, Try.ntmps62
    go_wp2_with (first
      | (go_at_call 85; refine HT.out.mono ?_; rintro e w1 ⟨v1, rfl, h1, b1⟩; have H1 := Aside0.mk h1; have B1 := Aside0.mk b1; clear h1 b1)
      | (go_at_call 86; refine (HP.out _).mono ?_; rintro e w2 ⟨v2, rfl, h2, b2⟩
         obtain ⟨A2, c2, rfl⟩ := Kd.R_slice h2
         have H2 := Aside0.mk h2; have B2 := Aside0.mk b2; clear h2 b2)
      | ((with_reducible refine gate_builtin (b := .append) (xs := #[.tmp 28, .tmp 30]) rfl ?_); at_builtin
         refine Kd.R_append_row (Value.int .u8) (0 : Int) (h1 := fun _ => rfl) (w0 := w) w.heap.size rfl (.tmp 28) (.tmp 30) 23 5 (.int .u8 0) 1 rfl Try.underlying23 info5w rfl (by decide) v1 T U A2 U.length c2 (fun _ => True) rfl rfl (fun _ _ => trivial) (Kd.R_below H1.out B2.out) (Kd.R_reads' H2.out).2.2 (B1.out.trans (B2.out.mono B1.out.size)) (Nat.le_trans B1.out.size B2.out.size) ?aL ?_
         (case aL => have := HTL.out; have := HUL.out; omega)
         intro v3 w3 h3 b3 g3 t3
         have H3 := Aside0.mk h3; have B3 := Aside0.mk b3; clear h3 b3 g3 t3))
    go_ret
    exact ⟨v3, rfl, H3.out, B3.out⟩
section
variable {P : Program} {ops : Array Oper} {o : Oper} {a : Act} {Q : Exit → Act → World → Prop} {K : Act → World → Prop}
/-- append of a row that is read, at a place whose order is drawn. -/
theorem row_step {w0 W : World} {base : Nat} {ok : Nat → Prop} (hw : Region.wanted o (yielded ops a.tmps) = true) (s x : Operand) (t e : TypeId)
    (ho : o.op = .call { callee := .builtin .append, args := #[s, x], argTypes := #[t, t] })
    (ht : P.underlying t = some (.slice e)) (hinfo : (P.info? e).map (fun i => (i.zero, i.size, i.bytes)) = some (some (.int .u8 0), 1, 1))
    (v : Value) (xs ys : List Int) (ad : Addr) (c : Nat) (hs : a.eval s = v) (hx : a.eval x = .slice (some ad) ys.length c) (hfresh : ∀ k, W.heap.size ≤ k → ok k)
    (HO : Kd.R (Kd.int .u8) e W base ok v xs) (HR : Kd.C (Kd.int .u8) W (some ad) ys.length ys) (HB : Below base w0 W) (hbase : base ≤ W.heap.size) (hl : xs.length + ys.length ≤ 140737488355328)
    (h : ∀ v1 w1, Kd.R (Kd.int .u8) e w1 base ok v1 (xs ++ ys) → Below base w0 w1 → K (a.put o.dst v1) w1) :
    if Region.wanted o (yielded ops a.tmps) = true then Oper.wp P o a W K Q else K (a.put o.dst undef) W := by
  obtain ⟨i0, hi, hzz⟩ := Option.map_eq_some_iff.1 hinfo
  simp only [Prod.mk.injEq] at hzz
  obtain ⟨hz0, hz1, hz2⟩ := hzz
  have hown := Kd.own_of_R HO
  have hreads := Kd.reads_of_C (enc := Value.int .u8) (d := (0 : Int)) (h1 := fun _ => rfl) HR
  rw [if_pos hw]
  obtain ⟨v1, w1, hr, hown1, hg, _, hat⟩ := run_append_own_at (P := P) W base t o.type e i0 (.int .u8 0) 1 1 ht hi hz0 hz1 hz2 rfl (by decide) v xs.length (encs (Value.int .u8) xs) hown ad ys.length c (encs (Value.int .u8) ys) (by rw [encs_length, Nat.mul_one])
    (fun j u hu => by
      have hj : j < ys.length := by
        rcases Nat.lt_or_ge j ys.length with h1 | h1
        · exact h1
        · rw [List.getElem?_eq_none (by rw [encs_length]; exact h1)] at hu
          cases hu
      obtain ⟨ad', he, hc⟩ := hreads.2.2 (by omega)
      injection he with he
      subst he
      rw [encs_get (d := (0 : Int)) ys j hj] at hu
      injection hu with hu
      rw [hc j hj, hu])
    (fun u hu => by obtain ⟨y, _, rfl⟩ := List.mem_map.1 hu; rfl) (by simp only [maxLen]; omega) (by omega) hbase
  unfold Oper.wp execOp
  simp only [ho, resolve, invoke, builtin, Sem.run_bind, Sem.run_pure, Result.andThen_ok, List.map_toArray, List.map_cons, List.map_nil, hs, hx, hr]
  refine h v1 w1 (Kd.R_of_own (by rw [List.length_append, encs_append]; exact hown1) (fun k hk => ?_)) (HB.grown hg hbase (own_base hown))
  rcases hat with hat | hat
  · exact HO.1 k (by rw [← hat]; exact hk)
  · rw [hat] at hk
    injection hk with hk
    subst hk
    exact hfresh _ (Nat.le_refl _)
end
theorem RPut_c {w : World} {A : Option Addr} {c : Nat} {l : List SR} (hr : Kd.C PRaw.k46 w A l.length l) (hv : ∀ x ∈ l, VS x ∧ RS x) (hll : l.length ≤ 1000) :
    Calls Try.prog 37 #[.slice A l.length c] w (RowP w (wbsS l)) := by
  have HR := Aside0.mk hr
  have HV := Aside0.mk hv
  have HLL := Aside0.mk hll
  clear hr hv hll
  go_enter Try.func37, Try.ntmps37
  go_wp2_with fail
  go_loopg [3, 4] (l.length) (fun kq v3 v4 wr => ∃ (k : Nat) (v : Value), v = v3 ∧ v4 = .int .i64 (k : Int) ∧ Aside0 (kq + k = l.length ∧ Kd.R (Kd.int .u8) 5 wr w.heap.size (fun _ => True) v (wbsS (l.take k)) ∧ Below w.heap.size w wr))
  case atStart => exact ⟨0, _, rfl, rfl, ⟨by omega, Kd.R_of_own (xs := []) ⟨rfl, .inr ⟨w.heap.size, 0, #[], rfl, Nat.le_refl _, blk_new w _, Nat.le_refl _, by decide, rfl, rfl⟩⟩ (fun _ _ => trivial), below_alloc (Below.refl _ _) _⟩⟩
  case round =>
    obtain ⟨k, v, rfl, rfl, HG⟩ := hrel
    obtain ⟨hk, hrow, hb⟩ := HG.out
    by_cases hlt : k < l.length
    · obtain ⟨ad, e1, m0, m1, m2, m3⟩ := PRaw.at_T46 HR.out (k : Int) (by omega) (by omega)
      subst e1
      obtain ⟨x, hx⟩ : ∃ x, x = PRaw.rd_T46 l (k : Int) := ⟨_, rfl⟩
      rw [← hx] at m0 m1 m2 m3
      rw [Int.toNat_natCast] at m0 m1 m2 m3
      have hxl : l[k]? = some x := by
        rw [hx]
        unfold PRaw.rd_T46
        rw [Int.toNat_natCast, List.getD_eq_getElem?_getD, List.getElem?_eq_getElem hlt]
        rfl
      obtain ⟨hvx, hrx⟩ := HV.out x (List.mem_of_getElem? hxl)
      have hdk : decide ((k : Int) < (l.length : Int)) = true := decide_eq_true (by omega)
      have hki : (k : Int) < (l.length : Int) := by omega
      have hk0 : (0 : Int) ≤ (k : Int) := by omega
      have hwi : IntKind.i64.wrap ((k : Int) + 1) = (k : Int) + 1 := by have := HLL.out; rw [IntKind.wrap_i64]; omega
      have HROW := Aside0.mk hrow
      have HB := Aside0.mk hb
      have HM := Aside0.mk (fun (W : World) (hW : Below w.heap.size w W) => And.intro (pw_cell_below hW m0) (And.intro (pw_cell_below hW m1) (And.intro (pw_cell_below hW m2) (pw_cell_below hW m3))))
      clear m0 m1 m2 m3
      obtain ⟨m0, m1, m2, m3⟩ := HM.out _ hb
      have hm := And.intro m0 (And.intro m1 (And.intro m2 m3))
      have HK := Aside0.mk hk
      have HXL := Aside0.mk hxl
      have HT := Aside0.mk (fun w => RBytes_c (w := w) x hrx hvx)
      have HSZ : Aside0 ((wbsS (l.take k)).length + (wbS x).length ≤ 10000000000000) := ⟨by
        have h1 := wbsS_len (l.take k) (fun y hy => (HV.out y (List.mem_of_mem_take hy)).1) (fun y hy => (HV.out y (List.mem_of_mem_take hy)).2)
        have h2 := wbS_le hvx hrx
        have h3 := hvx.2
        have h4 : (l.take k).length ≤ 1000 := by rw [List.length_take]; have := HLL.out; omega
        omega⟩
      obtain ⟨U, hU⟩ : ∃ U, U = wbS x := ⟨_, rfl⟩
      rw [← hU] at HT HSZ
      have HU := Aside0.mk hU
      have HUP : Aside0 (0 < U.length) := ⟨by rw [hU]; unfold wbS; rw [List.length_append, enc_length]; omega⟩
      obtain ⟨acc, hacc⟩ : ∃ acc, acc = wbsS (l.take k) := ⟨_, rfl⟩
      rw [← hacc] at HROW HSZ
      have HACC := Aside0.mk hacc
      clear hk hrow hb hlt hx hxl hvx hrx HG hU hacc
      go_wp2_with fail
      go_region_held3 (fun w' => w'.cell? (ad.add (k * 4)) = some (.int .i64 x.f0) ∧ w'.cell? ⟨(ad.add (k * 4)).block, (ad.add (k * 4)).off + 1, none⟩ = some (.int .i64 x.f1) ∧ w'.cell? ⟨(ad.add (k * 4)).block, (ad.add (k * 4)).off + 2, none⟩ = some (.int .u64 x.f2) ∧ w'.cell? ⟨(ad.add (k * 4)).block, (ad.add (k * 4)).off + 3, none⟩ = some (.string x.f3)) (first | exact hm | exact CM2.out | exact CM3.out | go_keep) (first
        | (go_at_call 62; refine (HT.out _).mono ?_; rintro e' w2 ⟨v2, rfl, h2, b2⟩
           obtain ⟨g2, c2, rfl, _⟩ := Kd.R_form h2 HUP.out
           have B2 := Aside0.mk ((pw_below_drewN (Below.refl wr.heap.size wr) _).trans b2)
           have HO2 := Aside0.mk (Kd.R_below HROW.out B2.out)
           have HC2 := Aside0.mk (Kd.R_reads' h2).2.2
           have HB2 := Aside0.mk (HB.out.trans (B2.out.mono HB.out.size))
           have CM2 := Aside0.mk (HM.out _ HB2.out)
           clear h2 b2)
        | (refine row_step (P := Try.prog) (w0 := w) (base := w.heap.size) (ok := fun _ => True) ?hw (.tmp 12) (.tmp 33) 23 5 ?ho Try.underlying23 info5w v acc U ⟨g2, 0, none⟩ c2 ?hs ?hx (fun _ _ => trivial) ?hO ?hR ?hB ?hbase ?hl ?hk
           (case hO => first | exact HO2.out | exact Kd.R_drewN HO2.out _)
           (case hR => first | exact HC2.out | exact Kd.C_drewN HC2.out _)
           (case hB => first | exact HB2.out | exact pw_below_drewN HB2.out _)
           (case hbase => first | exact HB2.out.size)
           (case hl => have := HSZ.out; omega)
           (case hw => rfl)
           (case ho => rfl)
           (case hs => rfl)
           (case hx => rfl)
           intro v3 w3 h3 b3
           have H3 := Aside0.mk h3; have B3 := Aside0.mk b3; have CM3 := Aside0.mk (HM.out _ b3); clear h3 b3)
        | fail)
      go_wp2_with fail
      go_roundg (gk - 1)
      case measure => have := HK.out; omega
      case rel =>
        have e2 : wbsS (l.take (k + 1)) = acc ++ U := by rw [List.take_add_one, HXL.out, HACC.out, HU.out]; exact wbsS_snoc _ _
        exact ⟨k + 1, v3, rfl, by rw [Int.natCast_add]; rfl, ⟨by have := HK.out; omega, by rw [e2]; exact H3.out, B3.out⟩⟩
    · have hdk : decide ((k : Int) < (l.length : Int)) = false := decide_eq_false (by omega)
      have hdk2 : decide (k < l.length) = false := decide_eq_false (by omega)
      have hkk : l.take k = l := List.take_of_length_le (by omega)
      rw [hkk] at hrow
      have HROW := Aside0.mk hrow
      have HB := Aside0.mk hb
      clear hk hrow hb hlt HG hkk
      go_wp2_with fail
      go_ret
      exact ⟨v, rfl, HROW.out, HB.out⟩
end Go.Proofs.Ytfbmabhdjliohaa.Cur

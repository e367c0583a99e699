/- emit.Writer: bytes that are written one behind the other; raw.Put; conditions stand at each. -/
import Derived.Test.YtfbmabhdjliohaaMRawL
namespace Go.Proofs.Ytfbmabhdjliohaa.Cur
open Go.RowKit Go.Proofs.Ytfbmabhdjliohaa.Rng Go.Proofs.YtfbmabhdjliohaaW.PrintWords Go.Proofs.YtfbmabhdjliohaaW.PrintLast Go.Proofs.YtfbmabhdjliohaaW.PrintMore Go.Proofs.Ytfbmabhdjliohaa.Var
set_option maxHeartbeats 1000000
set_option maxRecDepth 100000
set_option linter.unusedSimpArgs false
set_option linter.unusedVariables false
/-- A writer that New made: at block g, what it wrote in a row of its own. -/
structure IsW (w : World) (B g : Nat) (v : Value) (out : List Int) : Prop where
  blk : w.heap[g]? = some (.cells #[v, .slice none 0 0, .bool true] 94 (0, 0))
  row : Kd.R (Kd.int .u8) 5 w B (fun k => k ≠ g) v out
  ge : B ≤ g
theorem Ru8_move {W W' : World} {base : Nat} {ok : Nat → Prop} {v : Value} {xs : List Int} (h : Kd.R (Kd.int .u8) 5 W base ok v xs) (hm : ∀ k, v.ownBlock = some k → W'.heap[k]? = W.heap[k]?) : Kd.R (Kd.int .u8) 5 W' base ok v xs := by
  obtain ⟨h0, inner, ho, hr⟩ := h
  exact ⟨h0, inner, own_move ho hm, hr.imp_ (fun _ _ hp => hp)⟩
theorem Ru8_typed {W : World} {base k : Nat} {ok : Nat → Prop} {v : Value} {xs : List Int} (h : Kd.R (Kd.int .u8) 5 W base ok v xs) (hk : v.ownBlock = some k) : base ≤ k ∧ k < W.heap.size ∧ ∃ cs, W.heap[k]? = some (.cells cs 5 (0, 0)) := by
  obtain ⟨h0, inner, ho, hr⟩ := h
  rcases ho.2 with ⟨rfl, _⟩ | ⟨g, cap, cur, rfl, hb, hh, _⟩
  · simp [Value.ownBlock] at hk
  · have : g = k := by simpa [Value.ownBlock] using hk
    subst this
    exact ⟨hb, blk_lt hh, cur, hh⟩
section
variable {w w' : World} {B g : Nat} {v : Value} {out : List Int}
theorem IsW.below (h : IsW w B g v out) (hb : Below w.heap.size w w') : IsW w' B g v out := ⟨blk_below h.blk hb, Kd.R_step h.row (fun k _ hlt => hb.block k hlt), h.ge⟩
theorem IsW.drawn (h : IsW w B g v out) (hd : Drawn0 w w') : IsW w' B g v out := by
  obtain ⟨n, rfl⟩ := hd
  exact h.below (pw_below_drewN (Below.refl _ _) n)
theorem IsW.own_lt (h : IsW w B g v out) {k : Nat} (hk : w.heap.size ≤ k) : k ≠ g ∧ v.ownBlock ≠ some k := by
  refine ⟨?_, fun e => ?_⟩
  · have := blk_lt h.blk; omega
  · have := (Ru8_typed h.row e).2.1; omega
theorem IsW.ne (h : IsW w B g v out) {k t : Nat} {cs : Array Value} (hb : w.heap[k]? = some (.cells cs t (0, 0))) (h1 : t ≠ 94) (h2 : t ≠ 5) : k ≠ g ∧ v.ownBlock ≠ some k := by
  refine ⟨fun e => ?_, fun e => ?_⟩
  · subst e; rw [h.blk] at hb; cases hb; exact h1 rfl
  · obtain ⟨_, _, cs', hc⟩ := Ru8_typed h.row e; rw [hc] at hb; cases hb; exact h2 rfl
theorem IsW.fbelow (h : IsW w B g v out) (hB : B ≤ w.heap.size) {v' : Value} (f : Fr w w' g v v') : Below B w w' := f.below hB h.ge (fun k hk => (Ru8_typed h.row hk).1)
/-- Behind an append and the store of its slice. -/
theorem IsW.appended {W5 : World} {v1 : Value} {out1 : List Int} (h : IsW w B g v out) (ho : Kd.R (Kd.int .u8) 5 W5 B (fun k => k ≠ g) v1 out1) (hg : w.grownBy W5 v.ownBlock) (hat : v1.ownBlock = v.ownBlock ∨ ∃ b, v1.ownBlock = some b ∧ w.heap.size ≤ b) :
    IsW (W5.setCell ⟨g, 0, none⟩ v1) B g v1 out1 ∧ Fr w (W5.setCell ⟨g, 0, none⟩ v1) g v v1 := by
  have hbg : W5.heap[g]? = some (.cells #[v, .slice none 0 0, .bool true] 94 (0, 0)) := blk_grown h.blk hg (fun e => h.row.1 g e.symm rfl)
  have hs := (Below.refl 0 W5).setCell (p := ⟨g, 0, none⟩) (Nat.zero_le _) v1
  refine ⟨⟨blk_put hbg 0 _ rfl, Ru8_move ho (fun k hk => Below.heap_setCell W5 ⟨g, 0, none⟩ v1 k (ho.1 k hk)), h.ge⟩, ⟨by rw [World.size_setCell]; exact hg.size, fun i h1 h2 h3 => (Below.heap_setCell W5 ⟨g, 0, none⟩ v1 i h2).trans (hg.block i h1 h3)⟩, ⟨hs.os.trans hg.os, hs.tape.trans hg.tape, hs.output.trans hg.output⟩, ?_⟩
  rcases hat with hat | hat
  · exact .inr (.inl hat)
  · exact .inr (.inr hat)
theorem is_c (h : IsW w B g v out) : Calls Try.prog 82 #[.pointer (some ⟨g, 0, none⟩)] w fun e w' => e = .returned (.bool true) ∧ w = w' := by
  have hc2 : w.cell? ⟨g, 2, none⟩ = some (.bool true) := (blk_cell h.blk 2).trans rfl
  clear h
  go_enter Try.func82, Try.ntmps82
  go_wp2
  go_ret
  exact ⟨rfl, rfl⟩
/-- A part that is to be written. -/
def PartOk (w : World) (g : Nat) (v : Value) (P k : Nat) (l : List Int) : Prop :=
  ∃ A c, w.cell? ⟨P, k, none⟩ = some (.slice A l.length c) ∧ Kd.C (Kd.int .u8) w A l.length l ∧ l.length ≤ c ∧ ∀ ad, A = some ad → 0 < l.length → ad.block ≠ g ∧ v.ownBlock ≠ some ad.block ∧ ad.block < w.heap.size
theorem PartOk.keep {P k : Nat} {l : List Int} {v' : Value} (h : PartOk w g v P k l) (f : Fr w w' g v v') (hP : P ≠ g) (hv : v.ownBlock ≠ some P) (hlt : P < w.heap.size) : PartOk w' g v' P k l := by
  obtain ⟨A, c, h1, h2, h3, h4⟩ := h
  refine ⟨A, c, ?_, C_move h2 (fun ad ha hn => ?_), h3, fun ad ha hn => ?_⟩
  · have := f.1.2 P hlt hP (fun e => hv e.symm)
    unfold World.cell? at h1 ⊢
    simp only at h1 ⊢
    rw [this]
    exact h1
  · obtain ⟨q1, q2, q3⟩ := h4 ad ha hn
    exact f.1.2 _ q3 q1 (fun e => q2 e.symm)
  · obtain ⟨q1, q2, q3⟩ := h4 ad ha hn
    exact ⟨q1, f.ne q2 q3, Nat.lt_of_lt_of_le q3 f.1.1⟩
end
theorem info5w : (Try.prog.info? 5).map (fun i => (i.zero, i.size, i.bytes)) = some (some (.int .u8 0), 1, 1) := by kernel_rfl
theorem len_flat (ps : List (List Int)) (k : Nat) : (ps.take k).flatten.length ≤ ps.flatten.length := by
  have h : ps.flatten = (ps.take k).flatten ++ (ps.drop k).flatten := by rw [← List.flatten_append, List.take_append_drop]
  rw [h, List.length_append]
  omega
theorem Plain_c {w : World} {B g P : Nat} {v : Value} {out : List Int} (ps : List (List Int)) (h : IsW w B g v out) (hB : B ≤ w.heap.size) (hP : P ≠ g ∧ v.ownBlock ≠ some P ∧ P < w.heap.size) (hps : ∀ k l, ps[k]? = some l → PartOk w g v P k l) (hl : out.length + ps.flatten.length ≤ 1000000000000) (hpl : ps.length ≤ 1000) :
    Calls Try.prog 94 #[.pointer (some ⟨g, 0, none⟩), .slice (some ⟨P, 0, none⟩) ps.length ps.length] w fun e w' => e = .returned (.bool true) ∧ ∃ v', IsW w' B g v' (out ++ ps.flatten) ∧ Fr w w' g v v' := by
  have HI := Aside0.mk (is_c h)
  have H := Aside0.mk h
  have HB := Aside0.mk hB
  have HP := Aside0.mk hP
  have HPS := Aside0.mk hps
  have HL := Aside0.mk hl
  have HPL := Aside0.mk hpl
  clear h hB hP hps hl hpl
  go_enter Try.func94, Try.ntmps94
  go_wp2_with (first | (go_at_call 82; refine HI.out.mono ?_; rintro e w1 ⟨rfl, rfl⟩))
  go_loopg [12] (ps.length) (fun kq v12 wr => ∃ (k : Nat) (v' : Value), v12 = .int .i64 (k : Int) ∧ Aside0 (kq + k = ps.length ∧ IsW wr B g v' (out ++ (ps.take k).flatten) ∧ Fr w wr g v v'))
  case atStart => exact ⟨0, v, rfl, ⟨by omega, by simpa using H.out, Fr.of_keep (Kept.refl _ _) (.inl rfl)⟩⟩
  case round =>
    obtain ⟨k, v', rfl, HG⟩ := hrel
    obtain ⟨hk, hw, hf⟩ := HG.out
    by_cases hlt : k < ps.length
    · obtain ⟨l, hkl⟩ : ∃ l, ps[k]? = some l := ⟨_, List.getElem?_eq_getElem hlt⟩
      obtain ⟨A, c, p1, p2, p3, p4⟩ := (HPS.out k l hkl).keep hf HP.out.1 HP.out.2.1 HP.out.2.2
      obtain ⟨acc, hacc⟩ : ∃ acc, acc = out ++ (ps.take k).flatten := ⟨_, rfl⟩
      rw [← hacc] at hw
      have HACC := Aside0.mk hacc
      obtain ⟨A2, c2, rfl⟩ := Kd.R_slice hw.row
      have hg0 : wr.cell? ⟨g, 0, none⟩ = some (.slice A2 acc.length c2) := (blk_cell hw.blk 0).trans rfl
      have hdk : decide ((k : Int) < (ps.length : Int)) = true := decide_eq_true (by omega)
      have hki : (k : Int) < (ps.length : Int) := by omega
      have hk0 : (0 : Int) ≤ (k : Int) := by omega
      have hwi : IntKind.i64.wrap ((k : Int) + 1) = (k : Int) + 1 := by have := HPL.out; rw [IntKind.wrap_i64]; omega
      have hadd : (⟨P, 0, none⟩ : Addr).add k = ⟨P, k, none⟩ := add_plain P k
      have HW := Aside0.mk hw
      have HF := Aside0.mk hf
      have HKL := Aside0.mk hkl
      have P2 := Aside0.mk p2
      have P4 := Aside0.mk p4
      have HK := Aside0.mk hk
      have hout : acc.length + l.length ≤ 1000000000000 := by
        rw [hacc, List.length_append]
        have h1 := len_flat ps (k + 1)
        rw [List.take_add_one, hkl] at h1
        simp only [Option.toList_some, List.flatten_append, List.flatten_singleton, List.length_append] at h1
        have := HL.out
        omega
      have HO := Aside0.mk hout
      have hfg := blk_frozen hw.blk 0
      have hbw := H.out.fbelow HB.out hf
      have HBW := Aside0.mk hbw
      clear hk hw hf hlt hkl p2 p3 p4 hout HG hacc hbw
      go_wp2_with (first
        | ((with_reducible refine gate_builtin (b := .append) (xs := #[.tmp 20, .tmp 21]) rfl ?_); at_builtin
           refine Kd.R_append_row (Value.int .u8) (0 : Int) (h1 := fun _ => rfl) (w0 := w) B rfl (.tmp 20) (.tmp 21) 23 5 (.int .u8 0) 1 rfl Try.underlying23 info5w rfl (by decide) (.slice A2 acc.length c2) acc l A l.length c (fun k => k ≠ g) rfl rfl ?aF HW.out.row P2.out HBW.out ?aS ?aL ?_
           (case aF => have := blk_lt HW.out.blk; exact fun k hk => by omega)
           (case aS => exact Nat.le_trans HB.out HBW.out.size)
           (case aL => have := HO.out; omega)
           intro v1 w5 ho5 hb5 hg5 hat5
           obtain ⟨A5, c5, rfl⟩ := Kd.R_slice ho5
           have hfr5 : w5.frozen? ⟨g, 0, none⟩ = false := blk_frozen (blk_grown HW.out.blk hg5 (fun e => HW.out.row.1 g e.symm rfl)) 0
           have hcl5 : w5.cell? ⟨g, 0, none⟩ = some (.slice A2 acc.length c2) := (blk_cell (blk_grown HW.out.blk hg5 (fun e => HW.out.row.1 g e.symm rfl)) 0).trans rfl
           have x5 := HW.out.appended ho5 hg5 hat5
           rw [List.length_append] at x5
           have X5 := Aside0.mk x5
           clear ho5 hb5 hg5 hat5 x5))
      go_roundg (gk - 1)
      case measure => have := HK.out; omega
      case rel =>
        refine ⟨k + 1, _, by rw [Int.natCast_add]; rfl, ⟨by have := HK.out; omega, ?_, HF.out.trans X5.out.2⟩⟩
        have e1 : out ++ (ps.take (k + 1)).flatten = acc ++ l := by
          rw [List.take_add_one, HKL.out, HACC.out]
          simp
        rw [e1]
        exact X5.out.1
    · have hdk : decide ((k : Int) < (ps.length : Int)) = false := decide_eq_false (by omega)
      have hdk2 : decide (k < ps.length) = false := decide_eq_false (by omega)
      have hkk : ps.take k = ps := List.take_of_length_le (by omega)
      rw [hkk] at hw
      have HW := Aside0.mk hw
      have HF := Aside0.mk hf
      clear hk hw hf hlt HG hkk
      go_wp2_with fail
      go_ret
      exact ⟨rfl, v', HW.out, HF.out⟩
theorem put_n {w : World} (n : Int) (h0 : 0 ≤ n) (h1 : n ≤ 18446744073709551615) : Calls Try.prog 89 #[.int .u64 n] w fun e w' => ∃ A c, e = .returned (.slice A (enc (Var.e n) n).length c) ∧ Kd.R (Kd.int .u8) 5 w' w.heap.size (fun _ => True) (.slice A (enc (Var.e n) n).length c) (enc (Var.e n) n) ∧ Below w.heap.size w w' := by
  refine (PLib.varint_Put.calls 20 n _ w (VLib.put_f 20 n (by decide) h0 h1)).mono ?_
  rintro e w' ⟨v, rfl, hr, hb⟩
  obtain ⟨A, c, rfl⟩ := Kd.R_slice hr
  exact ⟨A, c, rfl, hr, hb⟩
/-- A part in a row of the call's own, behind the writer's world. -/
theorem part_of {w w1 : World} {B g P k te : Nat} {v : Value} {out l : List Int} {A : Option Addr} {c : Nat} (h : IsW w B g v out) (hr : Kd.R (Kd.int .u8) te w1 w.heap.size (fun _ => True) (.slice A l.length c) l) (hc : w1.cell? ⟨P, k, none⟩ = some (.slice A l.length c)) : PartOk w1 g v P k l := by
  obtain ⟨_, h2, h3⟩ := Kd.R_reads' hr
  refine ⟨A, c, hc, h3, h2, fun ad ha hn => ?_⟩
  obtain ⟨g', cap, he, hb, hlt, _⟩ := Kd.R_form hr hn
  injection he with he
  rw [ha] at he
  injection he with he
  subst he
  have := h.own_lt hb
  exact ⟨this.1, this.2, hlt⟩
theorem of_c {w : World} (num wire : Int) (h : 1 ≤ num ∧ num ≤ 536870911 ∧ (wire = 0 ∨ wire = 1 ∨ wire = 2 ∨ wire = 5)) : Calls Try.prog 93 #[.int .i64 num, .int .i64 wire] w fun e w' => e = .returned (.tuple #[.int .u64 (num * 8 + wire), .bool true]) ∧ Drawn0 w w' :=
  PLib.tag_Of.calls 1 num wire _ _ w (VLib.of_yes 0 num wire h)
theorem parts_one {w : World} {g P : Nat} {v : Value} {l : List Int} (h : PartOk w g v P 0 l) : ∀ k l', [l][k]? = some l' → PartOk w g v P k l' := by
  intro k l' hk
  cases k with
  | zero => simp only [List.getElem?_cons_zero, Option.some.injEq] at hk; subst hk; exact h
  | succ k => simp at hk
theorem parts_two {w : World} {g P : Nat} {v : Value} {l m : List Int} (h : PartOk w g v P 0 l) (h' : PartOk w g v P 1 m) : ∀ k l', [l, m][k]? = some l' → PartOk w g v P k l' := by
  intro k l' hk
  match k, hk with
  | 0, hk => simp only [List.getElem?_cons_zero, Option.some.injEq] at hk; subst hk; exact h
  | 1, hk => simp only [List.getElem?_cons_succ, List.getElem?_cons_zero, Option.some.injEq] at hk; subst hk; exact h'
  | k + 2, hk => simp at hk
theorem enc_le {n : Int} (h : n ≤ 18446744073709551615) : (enc (Var.e n) n).length ≤ 10 := by have := Var.e_le n h; rw [enc_length]; omega
theorem field_c {w : World} {B g P : Nat} {v : Value} {out : List Int} (num wire : Int) (ps : List (List Int)) (hr : 1 ≤ num ∧ num ≤ 536870911 ∧ (wire = 0 ∨ wire = 1 ∨ wire = 2 ∨ wire = 5)) (h : IsW w B g v out) (hB : B ≤ w.heap.size) (hP : P ≠ g ∧ v.ownBlock ≠ some P ∧ P < w.heap.size) (hps : ∀ k l, ps[k]? = some l → PartOk w g v P k l) (hl : out.length + ps.flatten.length ≤ 100000000000) (hpl : ps.length ≤ 1000) :
    Calls Try.prog 88 #[.pointer (some ⟨g, 0, none⟩), .int .i64 num, .int .i64 wire, .slice (some ⟨P, 0, none⟩) ps.length ps.length] w fun e w' => e = .returned (.bool true) ∧ ∃ v', IsW w' B g v' (out ++ enc (Var.e (num * 8 + wire)) (num * 8 + wire) ++ ps.flatten) ∧ Fr w w' g v v' := by
  have HO := Aside0.mk (fun w => of_c (w := w) num wire hr)
  have HPT := Aside0.mk (fun w => put_n (w := w) (num * 8 + wire) (by omega) (by omega))
  have HEL := Aside0.mk (enc_le (n := num * 8 + wire) (by omega))
  obtain ⟨u, hu⟩ : ∃ u, u = num * 8 + wire := ⟨_, rfl⟩
  rw [← hu] at HO HPT HEL ⊢
  obtain ⟨T, hT⟩ : ∃ T, T = enc (Var.e u) u := ⟨_, rfl⟩
  rw [← hT] at HPT HEL ⊢
  have H := Aside0.mk h
  have HB := Aside0.mk hB
  have HP := Aside0.mk hP
  have HPS := Aside0.mk hps
  have HL := Aside0.mk hl
  have HPL := Aside0.mk hpl
  clear hu hT hr h hB hP hps hl hpl
  go_enter Try.func88, Try.ntmps88
  go_wp2_with (first
    | (go_at_call 93; refine (HO.out _).mono ?_; rintro e w1 ⟨rfl, hd1⟩; have D1 := Aside0.mk hd1; clear hd1)
    | (go_at_call 89; refine (HPT.out _).mono ?_; rintro e w2 ⟨A, c, rfl, hr2, hb2⟩; have R2 := Aside0.mk hr2; have B2 := Aside0.mk hb2; have tok := True.intro; clear hr2 hb2)
    | (go_at_call 94; have _t := tok
       have hbt : Below w.heap.size w (w2.alloc (.cells #[.slice A T.length c] 23)) := (Drawn0.bel D1.out).trans ((B2.out.mono D1.out.grown.2.2).alloc (Nat.le_trans D1.out.grown.2.2 B2.out.size) _)
       have hx := blk_new w2 (.cells #[.slice A T.length c] 23)
       have hw1 := H.out.drawn D1.out
       have hw2 := (H.out.below hbt)
       have hpo := part_of (P := w2.heap.size) (k := 0) hw1 (Kd.R_alloc R2.out (.cells #[.slice A T.length c] 23)) (blk_cell hx 0)
       have hle2 : w.heap.size ≤ w2.heap.size := Nat.le_trans D1.out.grown.2.2 B2.out.size
       refine (Plain_c [T] hw2 (Nat.le_trans HB.out hbt.size) ⟨(H.out.own_lt hle2).1, (H.out.own_lt hle2).2, by rw [World.size_alloc]; omega⟩ ?aP ?aL ?aN).mono ?_
       (case aP => exact parts_one hpo)
       (case aL => have := HL.out; have := HEL.out; simp only [List.flatten_cons, List.flatten_nil, List.append_nil]; omega)
       (case aN => simp)
       rintro e w3 ⟨rfl, v3, h3, f3⟩
       have F3 := Aside0.mk ((Fr.of_keep (v := v) (g := g) (Kept.of_below hbt) (.inl rfl)).trans f3)
       simp only [List.flatten_cons, List.flatten_nil, List.append_nil] at h3
       have H3 := Aside0.mk h3
       clear hbt hx hw1 hw2 hpo hle2 h3 f3 tok)
    | (go_at_call 94
       refine (Plain_c ps H3.out (szF HB.out F3.out) ⟨HP.out.1, F3.out.ne HP.out.2.1 HP.out.2.2, Nat.lt_of_lt_of_le HP.out.2.2 F3.out.1.1⟩ (fun k l hk => (HPS.out k l hk).keep F3.out HP.out.1 HP.out.2.1 HP.out.2.2) ?bL HPL.out).mono ?_
       (case bL => have := HL.out; have := HEL.out; rw [List.length_append]; omega)
       rintro e w4 ⟨rfl, v4, h4, f4⟩
       have F4 := Aside0.mk (F3.out.trans f4)
       have H4 := Aside0.mk h4
       clear h4 f4))
  go_ret
  exact ⟨rfl, v4, H4.out, F4.out⟩
theorem put8_n {w : World} (n : Int) (h0 : 0 ≤ n) (h1 : n ≤ 18446744073709551615) : Calls Try.prog 90 #[.int .u64 n] w fun e w' => ∃ A c, e = .returned (.slice A (M.b8 n).length c) ∧ Kd.R (Kd.int .u8) 103 w' w.heap.size (fun _ => True) (.slice A (M.b8 n).length c) (M.b8 n) ∧ Below w.heap.size w w' := by
  refine (M.fix_Put8.calls n _ w (by unfold M.fix_Put8.f; rw [if_pos ⟨h0, h1⟩])).mono ?_
  rintro e w' ⟨v, rfl, hr, hb⟩
  obtain ⟨A, c, rfl⟩ := Kd.R_slice hr
  exact ⟨A, c, rfl, hr, hb⟩
theorem put4_n {w : World} (n : Int) (h0 : 0 ≤ n) (h1 : n ≤ 4294967295) : Calls Try.prog 91 #[.int .u32 n] w fun e w' => ∃ A c, e = .returned (.slice A (M.b4 n).length c) ∧ Kd.R (Kd.int .u8) 103 w' w.heap.size (fun _ => True) (.slice A (M.b4 n).length c) (M.b4 n) ∧ Below w.heap.size w w' := by
  refine (M.fix_Put4.calls n _ w (by unfold M.fix_Put4.f; rw [if_pos ⟨h0, h1⟩])).mono ?_
  rintro e w' ⟨v, rfl, hr, hb⟩
  obtain ⟨A, c, rfl⟩ := Kd.R_slice hr
  exact ⟨A, c, rfl, hr, hb⟩
theorem Varint_w {w : World} {B g : Nat} {v : Value} {out : List Int} (num n : Int) (hr : 1 ≤ num ∧ num ≤ 536870911) (hn : 0 ≤ n ∧ n ≤ 18446744073709551615) (h : IsW w B g v out) (hB : B ≤ w.heap.size) (hl : out.length ≤ 10000000000) :
    Calls Try.prog 77 #[.pointer (some ⟨g, 0, none⟩), .int .i64 num, .int .u64 n] w fun e w' => e = .returned (.bool true) ∧ ∃ v', IsW w' B g v' (out ++ enc (Var.e (num * 8 + 0)) (num * 8 + 0) ++ enc (Var.e n) n) ∧ Fr w w' g v v' := by
  have HPT := Aside0.mk (fun w => put_n (w := w) n hn.1 hn.2)
  obtain ⟨T, hT⟩ : ∃ T, T = enc (Var.e n) n := ⟨_, rfl⟩
  have hTl : T.length ≤ 10 := by rw [hT]; exact enc_le hn.2
  rw [← hT] at HPT ⊢
  have H := Aside0.mk h
  have HB := Aside0.mk hB
  have HL := Aside0.mk hl
  have HTL := Aside0.mk hTl
  have HR := Aside0.mk hr
  clear hT hr h hB hl hTl hn
  go_enter Try.func77, Try.ntmps77
  go_wp2_with (first
    | (go_at_call 89; refine (HPT.out _).mono ?_; rintro e w2 ⟨A, c, rfl, hr2, hb2⟩; have R2 := Aside0.mk hr2; have B2 := Aside0.mk hb2; clear hr2 hb2)
    | (go_at_call 88
       have hbt : Below w.heap.size w (w2.alloc (.cells #[.slice A T.length c] 23)) := B2.out.alloc B2.out.size _
       have hx := blk_new w2 (.cells #[.slice A T.length c] 23)
       have hpo := part_of (P := w2.heap.size) (k := 0) H.out (Kd.R_alloc R2.out (.cells #[.slice A T.length c] 23)) (blk_cell hx 0)
       refine (field_c num 0 [T] ⟨HR.out.1, HR.out.2, by decide⟩ (H.out.below hbt) (Nat.le_trans HB.out hbt.size) ⟨(H.out.own_lt B2.out.size).1, (H.out.own_lt B2.out.size).2, by rw [World.size_alloc]; omega⟩ ?aP ?aL ?aN).mono ?_
       (case aP => exact parts_one hpo)
       (case aL => have := HL.out; have := HTL.out; simp only [List.flatten_cons, List.flatten_nil, List.append_nil]; omega)
       (case aN => simp)
       rintro e w3 ⟨rfl, v3, h3, f3⟩
       have F3 := Aside0.mk ((Fr.of_keep (v := v) (g := g) (Kept.of_below hbt) (.inl rfl)).trans f3)
       simp only [List.flatten_cons, List.flatten_nil, List.append_nil] at h3
       have H3 := Aside0.mk h3
       clear hbt hx hpo h3 f3))
  go_ret
  exact ⟨rfl, v3, H3.out, F3.out⟩
theorem Fixed8_w {w : World} {B g : Nat} {v : Value} {out : List Int} (num n : Int) (hr : 1 ≤ num ∧ num ≤ 536870911) (hn : 0 ≤ n ∧ n ≤ 18446744073709551615) (h : IsW w B g v out) (hB : B ≤ w.heap.size) (hl : out.length ≤ 10000000000) :
    Calls Try.prog 78 #[.pointer (some ⟨g, 0, none⟩), .int .i64 num, .int .u64 n] w fun e w' => e = .returned (.bool true) ∧ ∃ v', IsW w' B g v' (out ++ enc (Var.e (num * 8 + 1)) (num * 8 + 1) ++ M.b8 n) ∧ Fr w w' g v v' := by
  have HPT := Aside0.mk (fun w => put8_n (w := w) n hn.1 hn.2)
  obtain ⟨T, hT⟩ : ∃ T, T = M.b8 n := ⟨_, rfl⟩
  have hTl : T.length ≤ 10 := by rw [hT]; simp [M.b8]
  rw [← hT] at HPT ⊢
  have H := Aside0.mk h
  have HB := Aside0.mk hB
  have HL := Aside0.mk hl
  have HTL := Aside0.mk hTl
  have HR := Aside0.mk hr
  clear hT hr h hB hl hTl hn
  go_enter Try.func78, Try.ntmps78
  go_wp2_with (first
    | (go_at_call 90; refine (HPT.out _).mono ?_; rintro e w2 ⟨A, c, rfl, hr2, hb2⟩; have R2 := Aside0.mk hr2; have B2 := Aside0.mk hb2; clear hr2 hb2)
    | (go_at_call 88
       have hbt : Below w.heap.size w (w2.alloc (.cells #[.slice A T.length c] 23)) := B2.out.alloc B2.out.size _
       have hx := blk_new w2 (.cells #[.slice A T.length c] 23)
       have hpo := part_of (P := w2.heap.size) (k := 0) H.out (Kd.R_alloc R2.out (.cells #[.slice A T.length c] 23)) (blk_cell hx 0)
       refine (field_c num 1 [T] ⟨HR.out.1, HR.out.2, by decide⟩ (H.out.below hbt) (Nat.le_trans HB.out hbt.size) ⟨(H.out.own_lt B2.out.size).1, (H.out.own_lt B2.out.size).2, by rw [World.size_alloc]; omega⟩ ?aP ?aL ?aN).mono ?_
       (case aP => exact parts_one hpo)
       (case aL => have := HL.out; have := HTL.out; simp only [List.flatten_cons, List.flatten_nil, List.append_nil]; omega)
       (case aN => simp)
       rintro e w3 ⟨rfl, v3, h3, f3⟩
       have F3 := Aside0.mk ((Fr.of_keep (v := v) (g := g) (Kept.of_below hbt) (.inl rfl)).trans f3)
       simp only [List.flatten_cons, List.flatten_nil, List.append_nil] at h3
       have H3 := Aside0.mk h3
       clear hbt hx hpo h3 f3))
  go_ret
  exact ⟨rfl, v3, H3.out, F3.out⟩
theorem Fixed4_w {w : World} {B g : Nat} {v : Value} {out : List Int} (num n : Int) (hr : 1 ≤ num ∧ num ≤ 536870911) (hn : 0 ≤ n ∧ n ≤ 4294967295) (h : IsW w B g v out) (hB : B ≤ w.heap.size) (hl : out.length ≤ 10000000000) :
    Calls Try.prog 79 #[.pointer (some ⟨g, 0, none⟩), .int .i64 num, .int .u32 n] w fun e w' => e = .returned (.bool true) ∧ ∃ v', IsW w' B g v' (out ++ enc (Var.e (num * 8 + 5)) (num * 8 + 5) ++ M.b4 n) ∧ Fr w w' g v v' := by
  have HPT := Aside0.mk (fun w => put4_n (w := w) n hn.1 hn.2)
  obtain ⟨T, hT⟩ : ∃ T, T = M.b4 n := ⟨_, rfl⟩
  have hTl : T.length ≤ 10 := by rw [hT]; simp [M.b4]
  rw [← hT] at HPT ⊢
  have H := Aside0.mk h
  have HB := Aside0.mk hB
  have HL := Aside0.mk hl
  have HTL := Aside0.mk hTl
  have HR := Aside0.mk hr
  clear hT hr h hB hl hTl hn
  go_enter Try.func79, Try.ntmps79
  go_wp2_with (first
    | (go_at_call 91; refine (HPT.out _).mono ?_; rintro e w2 ⟨A, c, rfl, hr2, hb2⟩; have R2 := Aside0.mk hr2; have B2 := Aside0.mk hb2; clear hr2 hb2)
    | (go_at_call 88
       have hbt : Below w.heap.size w (w2.alloc (.cells #[.slice A T.length c] 23)) := B2.out.alloc B2.out.size _
       have hx := blk_new w2 (.cells #[.slice A T.length c] 23)
       have hpo := part_of (P := w2.heap.size) (k := 0) H.out (Kd.R_alloc R2.out (.cells #[.slice A T.length c] 23)) (blk_cell hx 0)
       refine (field_c num 5 [T] ⟨HR.out.1, HR.out.2, by decide⟩ (H.out.below hbt) (Nat.le_trans HB.out hbt.size) ⟨(H.out.own_lt B2.out.size).1, (H.out.own_lt B2.out.size).2, by rw [World.size_alloc]; omega⟩ ?aP ?aL ?aN).mono ?_
       (case aP => exact parts_one hpo)
       (case aL => have := HL.out; have := HTL.out; simp only [List.flatten_cons, List.flatten_nil, List.append_nil]; omega)
       (case aN => simp)
       rintro e w3 ⟨rfl, v3, h3, f3⟩
       have F3 := Aside0.mk ((Fr.of_keep (v := v) (g := g) (Kept.of_below hbt) (.inl rfl)).trans f3)
       simp only [List.flatten_cons, List.flatten_nil, List.append_nil] at h3
       have H3 := Aside0.mk h3
       clear hbt hx hpo h3 f3))
  go_ret
  exact ⟨rfl, v3, H3.out, F3.out⟩
end Go.Proofs.Ytfbmabhdjliohaa.Cur
namespace Go.Proofs.Ytfbmabhdjliohaa.Cur
open Go.RowKit Go.Proofs.Ytfbmabhdjliohaa.Rng Go.Proofs.YtfbmabhdjliohaaW.PrintWords Go.Proofs.YtfbmabhdjliohaaW.PrintLast Go.Proofs.YtfbmabhdjliohaaW.PrintMore Go.Proofs.Ytfbmabhdjliohaa.Var
set_option maxHeartbeats 1000000
set_option maxRecDepth 100000
set_option linter.unusedSimpArgs false
set_option linter.unusedVariables false
theorem part_of_C {w w1 : World} {B g P k : Nat} {v : Value} {out l : List Int} {A : Option Addr} {c : Nat} (h : IsW w B g v out) (hr : Kd.C (Kd.int .u8) w1 A l.length l) (hlc : l.length ≤ c) (hA : ∀ ad, A = some ad → w.heap.size ≤ ad.block ∧ ad.block < w1.heap.size) (hc : w1.cell? ⟨P, k, none⟩ = some (.slice A l.length c)) : PartOk w1 g v P k l :=
  ⟨A, c, hc, hr, hlc, fun ad ha hn => ⟨(h.own_lt (hA ad ha).1).1, (h.own_lt (hA ad ha).1).2, (hA ad ha).2⟩⟩
theorem C_of_int {w : World} {A : Option Addr} {n : Nat} {xs : List Int} (h : ReadsInt w .u8 A n xs) : Kd.C (Kd.int .u8) w A n xs := Kd.C_of_reads (d := (0 : Int)) (h1 := fun _ => rfl) h
theorem Text_w {w : World} {B g : Nat} {v : Value} {out : List Int} (num : Int) (s : ByteArray) (hr : 1 ≤ num ∧ num ≤ 536870911) (hs : s.size ≤ 1000000000) (h : IsW w B g v out) (hB : B ≤ w.heap.size) (hl : out.length ≤ 10000000000) :
    Calls Try.prog 80 #[.pointer (some ⟨g, 0, none⟩), .int .i64 num, .string s] w fun e w' => e = .returned (.bool true) ∧ ∃ v', IsW w' B g v' (out ++ enc (Var.e (num * 8 + 2)) (num * 8 + 2) ++ (enc (Var.e (s.size : Int)) (s.size : Int) ++ bytesOf s)) ∧ Fr w w' g v v' := by
  have HPT := Aside0.mk (fun w => put_n (w := w) (s.size : Int) (by omega) (by omega))
  have hTl := enc_le (n := (s.size : Int)) (by omega)
  obtain ⟨T, hT⟩ : ∃ T, T = enc (Var.e (s.size : Int)) (s.size : Int) := ⟨_, rfl⟩
  rw [← hT] at HPT hTl ⊢
  have hwi : IntKind.u64.wrap (s.size : Int) = (s.size : Int) := by rw [IntKind.wrap_u64]; omega
  have kb := fun W => print_bytes (P := Try.prog) 9 23 5 Try.underlying9 Try.underlying23 Try.underlying5 s W
  have H := Aside0.mk h
  have HB := Aside0.mk hB
  have HL := Aside0.mk hl
  have HTL := Aside0.mk hTl
  have HR := Aside0.mk hr
  have HS := Aside0.mk hs
  clear hT hr h hB hl hTl hs
  go_enter Try.func80, Try.ntmps80
  go_wp2_with (first
    | (go_at_call 89; refine (HPT.out _).mono ?_; rintro e w2 ⟨A, c, rfl, hr2, hb2⟩; have R2 := Aside0.mk hr2; have B2 := Aside0.mk hb2; clear hr2 hb2)
    | (go_at_call 88
       have hsz : (Lib.bytesWorld w2 5 s).heap.size = w2.heap.size + 1 := Lib.bytesWorld_size _ _ _
       have hb3 : Below w.heap.size w (Lib.bytesWorld w2 5 s) := bytes_below B2.out B2.out.size _ _
       have hb23 : Below w2.heap.size w2 (Lib.bytesWorld w2 5 s) := bytes_below (Below.refl _ _) (Nat.le_refl _) _ _
       have hbt : Below w.heap.size w ((Lib.bytesWorld w2 5 s).alloc (.cells #[.slice A T.length c, .slice (some ⟨w2.heap.size, 0, none⟩) s.size (grownCap w2 s.size 0 5)] 23)) := hb3.alloc hb3.size _
       have hx := blk_new (Lib.bytesWorld w2 5 s) (.cells #[.slice A T.length c, .slice (some ⟨w2.heap.size, 0, none⟩) s.size (grownCap w2 s.size 0 5)] 23)
       have hpo := part_of (P := (Lib.bytesWorld w2 5 s).heap.size) (k := 0) H.out (Kd.R_alloc (Kd.R_below R2.out hb23) (.cells #[.slice A T.length c, .slice (some ⟨w2.heap.size, 0, none⟩) s.size (grownCap w2 s.size 0 5)] 23)) (blk_cell hx 0)
       have hbr : Kd.C (Kd.int .u8) (Lib.bytesWorld w2 5 s) (some ⟨w2.heap.size, 0, none⟩) (bytesOf s).length (bytesOf s) := by rw [bytesOf_length]; exact C_of_int (bytes_reads w2 5 s (by have := HS.out; omega))
       have hpo2 := part_of_C (P := (Lib.bytesWorld w2 5 s).heap.size) (k := 1) (c := grownCap w2 s.size 0 5) H.out (Kd.C_alloc hbr (.cells #[.slice A T.length c, .slice (some ⟨w2.heap.size, 0, none⟩) s.size (grownCap w2 s.size 0 5)] 23)) (by rw [bytesOf_length]; exact grownCap_ge _ _ _ _) (fun ad ha => by injection ha with ha; subst ha; refine ⟨B2.out.size, ?_⟩; rw [World.size_alloc, hsz]; simp only; omega) (by rw [bytesOf_length]; exact blk_cell hx 1)
       refine (field_c num 2 [T, bytesOf s] ⟨HR.out.1, HR.out.2, by decide⟩ (H.out.below hbt) (Nat.le_trans HB.out hbt.size) ⟨(H.out.own_lt hb3.size).1, (H.out.own_lt hb3.size).2, by rw [World.size_alloc]; omega⟩ ?aP ?aL ?aN).mono ?_
       (case aP => exact parts_two hpo hpo2)
       (case aL => have := HL.out; have := HTL.out; have := HS.out; simp only [List.flatten_cons, List.flatten_nil, List.append_nil, List.length_append, bytesOf_length]; omega)
       (case aN => simp)
       rintro e w3 ⟨rfl, v3, h3, f3⟩
       have F3 := Aside0.mk ((Fr.of_keep (v := v) (g := g) (Kept.of_below hbt) (.inl rfl)).trans f3)
       simp only [List.flatten_cons, List.flatten_nil, List.append_nil] at h3
       have H3 := Aside0.mk h3
       clear hbt hx hpo h3 f3 hsz hb3 hb23 hbr hpo2))
  go_ret
  exact ⟨rfl, v3, H3.out, F3.out⟩
/-- A field of the print, right. -/
def RightS (x : SR) : Prop := (1 ≤ x.f0 ∧ x.f0 ≤ 536870911 ∧ (x.f1 = 0 ∨ x.f1 = 1 ∨ x.f1 = 2 ∨ x.f1 = 5)) ∧ (if x.f1 = 2 then x.f2 = 0 else x.f3.size = 0 ∧ (x.f1 = 5 → x.f2 < 4294967296)) ∧ (0 ≤ x.f2 ∧ x.f2 ≤ 18446744073709551615) ∧ x.f3.size ≤ 1000000000
/-- The bytes of a field of the print. -/
def wbS (x : SR) : List Int := enc (Var.e (x.f0 * 8 + x.f1)) (x.f0 * 8 + x.f1) ++ payB x.f1 x.f2 (bytesOf x.f3)
def SwP (w : World) (B g : Nat) (v : Value) (out : List Int) (e : Ending) (w' : World) : Prop := e = .returned (.tuple #[]) ∧ ∃ v', IsW w' B g v' out ∧ Fr w w' g v v'
theorem rput_c {w : World} {B g : Nat} {v : Value} {out : List Int} (x : SR) (hx : RightS x) (h : IsW w B g v out) (hB : B ≤ w.heap.size) (hl : out.length ≤ 10000000000) :
    Calls Try.prog 57 #[.pointer (some ⟨g, 0, none⟩), .agg #[.int .i64 x.f0, .int .i64 x.f1, .int .u64 x.f2, .string x.f3]] w (SwP w B g v (out ++ wbS x)) := by
  obtain ⟨num, wire, n, s⟩ := x
  obtain ⟨⟨r1, r2, r3⟩, r4, r5, r6⟩ := hx
  simp only at r1 r2 r3 r4 r5 r6
  obtain ⟨W, hW⟩ : ∃ W, W = w.alloc (.cells #[.int .i64 num, .int .i64 wire, .int .u64 n, .string s] 46) := ⟨_, rfl⟩
  have hbW : Below w.heap.size w W := by rw [hW]; exact below_alloc (Below.refl _ _) _
  have hfW : Fr w W g v v := by rw [hW]; exact Fr.new _
  have H := Aside0.mk (h.below hbW)
  have HB := Aside0.mk (Nat.le_trans hB hbW.size)
  have HL := Aside0.mk hl
  have HF := Aside0.mk hfW
  have HR := Aside0.mk (⟨r1, r2⟩ : 1 ≤ num ∧ num ≤ 536870911)
  have HN := Aside0.mk r5
  have HS := Aside0.mk r6
  unfold wbS payB
  simp only
  rw [← List.append_assoc]
  clear h hB hl hbW hfW r5 r6
  have HW := Aside0.mk hW
  clear hW
  rcases r3 with rfl | rfl | rfl | rfl
  · rw [if_pos (rfl : (0 : Int) = 0)]
    clear r1 r2 r4
    go_enter Try.func57, Try.ntmps57
    go_wp2_with (first
      | (go_at_call 77; rw [← HW.out]; refine (Varint_w num n HR.out HN.out H.out HB.out HL.out).mono ?_; rintro e w3 ⟨rfl, v3, h3, f3⟩; have H3 := Aside0.mk h3; have F3 := Aside0.mk f3; clear h3 f3))
    go_end0
    exact ⟨rfl, v3, H3.out, HF.out.trans F3.out⟩
  · rw [if_neg (show ¬ (1 : Int) = 0 by decide), if_pos (rfl : (1 : Int) = 1)]
    clear r1 r2 r4
    go_enter Try.func57, Try.ntmps57
    go_wp2_with (first
      | (go_at_call 78; rw [← HW.out]; refine (Fixed8_w num n HR.out HN.out H.out HB.out HL.out).mono ?_; rintro e w3 ⟨rfl, v3, h3, f3⟩; have H3 := Aside0.mk h3; have F3 := Aside0.mk f3; clear h3 f3))
    go_end0
    exact ⟨rfl, v3, H3.out, HF.out.trans F3.out⟩
  · rw [if_neg (show ¬ (2 : Int) = 0 by decide), if_neg (show ¬ (2 : Int) = 1 by decide), if_neg (show ¬ (2 : Int) = 5 by decide), bytesOf_length]
    clear r1 r2 r4
    go_enter Try.func57, Try.ntmps57
    go_wp2_with (first
      | (go_at_call 80; rw [← HW.out]; refine (Text_w num s HR.out HS.out H.out HB.out HL.out).mono ?_; rintro e w3 ⟨rfl, v3, h3, f3⟩; have H3 := Aside0.mk h3; have F3 := Aside0.mk f3; clear h3 f3))
    go_end0
    exact ⟨rfl, v3, H3.out, HF.out.trans F3.out⟩
  · rw [if_neg (show ¬ (5 : Int) = 0 by decide), if_neg (show ¬ (5 : Int) = 1 by decide), if_pos (rfl : (5 : Int) = 5)]
    rw [if_neg (show ¬ (5 : Int) = 2 by decide)] at r4
    have hn4 := r4.2 rfl
    have hwn : IntKind.u32.wrap n = n := by have := HN.out; rw [IntKind.wrap_u32]; omega
    have HN4 := Aside0.mk (show 0 ≤ n ∧ n ≤ 4294967295 by have := HN.out; omega)
    clear r1 r2 r4 hn4
    go_enter Try.func57, Try.ntmps57
    go_wp2_with (first
      | (go_at_call 79; rw [← HW.out]; refine (Fixed4_w num n HR.out HN4.out H.out HB.out HL.out).mono ?_; rintro e w3 ⟨rfl, v3, h3, f3⟩; have H3 := Aside0.mk h3; have F3 := Aside0.mk f3; clear h3 f3))
    go_end0
    exact ⟨rfl, v3, H3.out, HF.out.trans F3.out⟩
theorem deep_w {w : World} {B g : Nat} {v : Value} {out : List Int} (h : IsW w B g v out) : Calls Try.prog 81 #[.pointer (some ⟨g, 0, none⟩)] w fun e w' => e = .returned (.int .i64 0) ∧ w = w' := by
  have HI := Aside0.mk (is_c h)
  have hc1 : w.cell? ⟨g, 1, none⟩ = some (.slice none 0 0) := (blk_cell h.blk 1).trans rfl
  clear h
  go_enter Try.func81, Try.ntmps81
  go_wp2_with (first | (go_at_call 82; refine HI.out.mono ?_; rintro e w1 ⟨rfl, rfl⟩))
  go_ret
  exact ⟨rfl, rfl⟩
theorem clone_c {w : World} {A : Option Addr} {n c : Nat} {xs : List Int} (hr : Kd.C (Kd.int .u8) w A n xs) (hn : xs.length = n) (hl : n ≤ 100000000000) : Calls Try.prog 83 #[.slice A n c] w fun e w' => ∃ v, e = .returned v ∧ Kd.R (Kd.int .u8) 5 w' w.heap.size (fun _ => True) v xs ∧ Below w.heap.size w w' := by
  have hq := fun (w : World) => Lib.run_eql_slice_nil (P := Try.prog) w 23 5 A n c 0 0 Try.underlying23
  have HR := Aside0.mk hr
  have HN := Aside0.mk hn
  have HL := Aside0.mk hl
  rcases A with _ | ad
  · have hn0 : n = 0 := by
      rcases Nat.eq_zero_or_pos n with h0 | h0
      · exact h0
      · obtain ⟨ad, h, _⟩ := (Kd.reads_of_C (enc := Value.int .u8) (d := (0 : Int)) (h1 := fun _ => rfl) hr).2.2 h0
        cases h
    subst hn0
    obtain rfl := List.eq_nil_of_length_eq_zero hn
    clear hr hn hl
    go_enter Try.func83, Try.ntmps83
    go_wp2
    go_ret
    exact ⟨_, rfl, Kd.R_nil _ _ _ _ _, Below.refl _ _⟩
  · clear hr hn hl
    go_enter Try.func83, Try.ntmps83
    go_wp2_with (first
      | ((with_reducible refine gate_builtin (b := .append) (xs := #[.tmp 5, .tmp 6]) rfl ?_); at_builtin
         refine Kd.R_append_row (Value.int .u8) (0 : Int) (h1 := fun _ => rfl) (w0 := w) w.heap.size rfl (.tmp 5) (.tmp 6) 23 5 (.int .u8 0) 1 rfl Try.underlying23 info5w rfl (by decide) (.slice (some ⟨w.heap.size, 0, none⟩) 0 0) [] xs (some ad) n c (fun _ => True) rfl rfl (fun _ _ => trivial) ?aO ?aR ?aB ?aS ?aL ?_
         (case aO => exact Kd.R_of_own ⟨rfl, .inr ⟨w.heap.size, 0, #[], rfl, Nat.le_refl _, blk_new w _, Nat.le_refl _, by decide, rfl, rfl⟩⟩ (fun _ _ => trivial))
         (case aR => exact Kd.C_alloc HR.out _)
         (case aB => exact below_alloc (Below.refl _ _) _)
         (case aS => exact szA (Nat.le_refl _) _)
         (case aL => have := HL.out; simp only [List.length_nil]; omega)
         intro v1 w5 ho5 hb5 hg5 hat5
         rw [List.nil_append] at ho5
         have HO := Aside0.mk ho5
         have HB := Aside0.mk hb5
         clear ho5 hb5 hg5 hat5))
    go_ret
    exact ⟨v1, rfl, HO.out, HB.out⟩
theorem Bytes_w {w : World} {B g : Nat} {v : Value} {out : List Int} (h : IsW w B g v out) (hl : out.length ≤ 100000000000) : Calls Try.prog 58 #[.pointer (some ⟨g, 0, none⟩)] w fun e w' => ∃ v, e = .returned v ∧ Kd.R (Kd.int .u8) 5 w' w.heap.size (fun _ => True) v out ∧ Below w.heap.size w w' := by
  have HI := Aside0.mk (is_c h)
  have HD := Aside0.mk (deep_w h)
  obtain ⟨A, c, rfl⟩ := Kd.R_slice h.row
  have hc0 : w.cell? ⟨g, 0, none⟩ = some (.slice A out.length c) := (blk_cell h.blk 0).trans rfl
  have HC := Aside0.mk (clone_c (c := c) (Kd.R_reads' h.row).2.2 rfl hl)
  clear h hl
  go_enter Try.func58, Try.ntmps58
  go_wp2_with (first
    | (go_at_call 82; refine HI.out.mono ?_; rintro e w1 ⟨rfl, rfl⟩)
    | (go_at_call 81; refine HD.out.mono ?_; rintro e w1 ⟨rfl, rfl⟩)
    | (go_at_call 83; refine HC.out.mono ?_; rintro e w2 ⟨v2, rfl, h2, b2⟩; have H2 := Aside0.mk h2; have B2 := Aside0.mk b2; clear h2 b2))
  go_ret
  exact ⟨v2, rfl, H2.out, B2.out⟩
end Go.Proofs.Ytfbmabhdjliohaa.Cur
namespace Go.Proofs.Ytfbmabhdjliohaa.Cur
open Go.RowKit Go.Proofs.Ytfbmabhdjliohaa.Rng Go.Proofs.YtfbmabhdjliohaaW.PrintWords Go.Proofs.YtfbmabhdjliohaaW.PrintLast Go.Proofs.YtfbmabhdjliohaaW.PrintMore Go.Proofs.Ytfbmabhdjliohaa.Var
set_option maxHeartbeats 1000000
set_option maxRecDepth 100000
set_option linter.unusedSimpArgs false
set_option linter.unusedVariables false
/-- Which fields of the print are right. -/
def RS (x : SR) : Prop := (1 ≤ x.f0 ∧ x.f0 ≤ 536870911 ∧ (x.f1 = 0 ∨ x.f1 = 1 ∨ x.f1 = 2 ∨ x.f1 = 5)) ∧ (if x.f1 = 2 then x.f2 = 0 else x.f3.size = 0 ∧ (x.f1 = 5 → x.f2 < 4294967296))
instance (x : SR) : Decidable (RS x) := by unfold RS; infer_instance
/-- Whatever is a value of the type. -/
def VS (x : SR) : Prop := (0 ≤ x.f2 ∧ x.f2 ≤ 18446744073709551615) ∧ x.f3.size ≤ 1000000000
theorem toList_nil (s : ByteArray) : (s.toList = ([] : List UInt8)) ↔ s.size = 0 := by
  rw [ByteArray.toList_eq, ← data_length]
  exact ⟨fun h => by rw [h]; rfl, List.eq_nil_of_length_eq_zero⟩
theorem tagright (a b : Int) : PRaw.tag_Right.f 1 a b = some (decide (1 ≤ a ∧ a ≤ 536870911 ∧ (b = 0 ∨ b = 1 ∨ b = 2 ∨ b = 5))) := by
  unfold PRaw.tag_Right.f
  simp only [PRaw.tag_Right.j0, PRaw.tag_number.f]
  by_cases h0 : b = 0
  · subst h0; by_cases ha : 1 ≤ a <;> simp [ha]
  · by_cases h1 : b = 1
    · subst h1; by_cases ha : 1 ≤ a <;> simp [ha]
    · by_cases h2 : b = 2
      · subst h2; by_cases ha : 1 ≤ a <;> simp [ha]
      · by_cases h5 : b = 5
        · subst h5; by_cases ha : 1 ≤ a <;> simp [ha]
        · simp [h0, h1, h2, h5]
theorem reftagright (a b : Int) : PRaw.ecdysisref04_Right.f a b = some (decide (1 ≤ a ∧ a ≤ 536870911 ∧ (b = 0 ∨ b = 1 ∨ b = 2 ∨ b = 5))) := by
  unfold PRaw.ecdysisref04_Right.f
  by_cases ha : 1 ≤ a
  · by_cases hb : a ≤ 536870911
    · by_cases h0 : b = 0
      · subst h0; simp [ha, hb]
      · by_cases h1 : b = 1
        · subst h1; simp [ha, hb]
        · by_cases h2 : b = 2
          · subst h2; simp [ha, hb]
          · by_cases h5 : b = 5
            · subst h5; simp [ha, hb]
            · simp [ha, hb, h0, h1, h2, h5]
    · simp [ha, hb]
  · simp [ha]
theorem someB {b : Bool} {P : Prop} [Decidable P] (h : b = true ↔ P) : some b = some (decide P) := by
  congr 1
  rw [Bool.eq_iff_iff, decide_eq_true_eq]
  exact h
theorem right_raw (x : SR) (h : VS x) : PRaw.raw_Right.f 1 x.f0 x.f1 x.f2 x.f3 = some (decide (RS x)) := by
  obtain ⟨a, b, n, s⟩ := x
  obtain ⟨⟨h0, h1⟩, _⟩ := h
  simp only at h0 h1
  unfold PRaw.raw_Right.f RS
  rw [tagright]
  simp only [Option.bind_some, decide_eq_true_eq]
  by_cases hr : 1 ≤ a ∧ a ≤ 536870911 ∧ (b = 0 ∨ b = 1 ∨ b = 2 ∨ b = 5)
  · rw [if_pos hr]
    by_cases h2 : b = 2
    · rw [if_pos h2]
      refine someB ?_
      rw [if_pos h2, beq_iff_eq]
      exact ⟨fun h => ⟨hr, h⟩, fun h => h.2⟩
    · rw [if_neg h2]
      by_cases h5 : b = 5
      · rw [if_pos h5]
        by_cases hq : n / 4294967296 = 0
        · rw [if_pos hq]
          refine someB ?_
          rw [if_neg h2, beq_iff_eq, toList_nil]
          exact ⟨fun h => ⟨hr, h, fun _ => by omega⟩, fun h => h.2.1⟩
        · rw [if_neg hq]
          refine someB ?_
          rw [if_neg h2]
          exact ⟨(fun h => by cases h), fun h => absurd (h.2.2 h5) (by omega)⟩
      · rw [if_neg h5]
        refine someB ?_
        rw [if_neg h2, beq_iff_eq, toList_nil]
        exact ⟨fun h => ⟨hr, h, fun h6 => absurd h6 h5⟩, fun h => h.2.1⟩
  · rw [if_neg hr]
    refine someB ?_
    exact ⟨(fun h => by cases h), fun h => absurd h.1 hr⟩
theorem right_ref (x : SR) : PRaw.ecdysisref07_Right.f x.f0 x.f1 x.f2 x.f3 = some (decide (RS x)) := by
  obtain ⟨a, b, n, s⟩ := x
  unfold PRaw.ecdysisref07_Right.f RS
  rw [reftagright]
  simp only [Option.bind_some, decide_eq_true_eq]
  by_cases hr : 1 ≤ a ∧ a ≤ 536870911 ∧ (b = 0 ∨ b = 1 ∨ b = 2 ∨ b = 5)
  · rw [if_pos hr]
    by_cases h2 : b = 2
    · rw [if_pos h2]
      refine someB ?_
      rw [if_pos h2, beq_iff_eq]
      exact ⟨fun h => ⟨hr, h⟩, fun h => h.2⟩
    · rw [if_neg h2]
      by_cases hs : s.toList = ([] : List UInt8)
      · rw [if_pos hs]
        have hz := (toList_nil s).1 hs
        by_cases h5 : b = 5
        · rw [if_pos h5]
          refine someB ?_
          rw [if_neg h2, decide_eq_true_eq]
          exact ⟨fun h => ⟨hr, hz, fun _ => h⟩, fun h => h.2.2 h5⟩
        · rw [if_neg h5]
          refine someB ?_
          rw [if_neg h2]
          exact ⟨fun _ => ⟨hr, hz, fun h6 => absurd h6 h5⟩, fun _ => rfl⟩
      · rw [if_neg hs]
        refine someB ?_
        rw [if_neg h2]
        exact ⟨(fun h => by cases h), fun h => absurd ((toList_nil s).2 h.2.1) hs⟩
  · rw [if_neg hr]
    refine someB ?_
    exact ⟨(fun h => by cases h), fun h => absurd h.1 hr⟩
/-- The bytes of fields. -/
def wbsS (l : List SR) : List Int := (l.map wbS).flatten
theorem wbS_le {x : SR} (h : VS x) (hr : RS x) : (wbS x).length ≤ x.f3.size + 30 := by
  obtain ⟨⟨⟨h1, h2, h3⟩, _⟩, ⟨h4, h5⟩, h6⟩ := And.intro hr h
  have e1 := enc_le (n := x.f0 * 8 + x.f1) (by omega)
  have e2 := enc_le h5
  have e3 := enc_le (n := (x.f3.size : Int)) (by omega)
  unfold wbS payB
  rw [List.length_append, bytesOf_length]
  have l8 : (M.b8 x.f2).length = 8 := rfl
  have l4 : (M.b4 x.f2).length = 4 := rfl
  split
  · omega
  · split
    · omega
    · split
      · omega
      · rw [List.length_append, bytesOf_length]; omega
theorem wbsS_snoc (l : List SR) (x : SR) : wbsS (l ++ [x]) = wbsS l ++ wbS x := by simp [wbsS]
/-- What raw.Put hands back. -/
def PutP (w : World) (l : List SR) (e : Ending) (w' : World) : Prop :=
  Below w.heap.size w w' ∧ ((∀ x ∈ l, RS x) → ∃ v, e = .returned (.tuple #[v, .int .i64 0]) ∧ Kd.R (Kd.int .u8) 5 w' w.heap.size (fun _ => True) v (wbsS l)) ∧ ((¬ ∀ x ∈ l, RS x) → e = .returned (.tuple #[.slice none 0 0, .int .i64 1]))
theorem wbsS_len : ∀ (l : List SR), (∀ x ∈ l, VS x) → (∀ x ∈ l, RS x) → (wbsS l).length ≤ l.length * 1000000030
  | [], _, _ => by simp [wbsS]
  | x :: l, h, hr => by
    have h1 := wbS_le (h x (by simp)) (hr x (by simp))
    have h2 := wbsS_len l (fun y hy => h y (by simp [hy])) (fun y hy => hr y (by simp [hy]))
    have h3 := (h x (by simp)).2
    have e1 : wbsS (x :: l) = wbS x ++ wbsS l := by simp [wbsS]
    rw [e1, List.length_append, List.length_cons]
    omega
theorem new_c (w : World) : Calls Try.prog 56 #[] w fun e w' => e = .returned (.pointer (some ⟨w.heap.size, 0, none⟩)) ∧ IsW w' w.heap.size w.heap.size (.slice none 0 0) [] ∧ Below w.heap.size w w' := by
  go_enter Try.func56, Try.ntmps56
  go_wp2
  go_ret
  exact ⟨rfl, ⟨blk_new _ _, Kd.R_nil _ _ _ _ _, Nat.le_refl _⟩, below_alloc (Below.refl _ _) _⟩
theorem Put_c {w : World} {A : Option Addr} {c : Nat} {l : List SR} (hr : Kd.C PRaw.k46 w A l.length l) (hc : l.length ≤ c) (hap : ∀ ad, A = some ad → 0 < l.length → ad.block < w.heap.size) (hv : ∀ x ∈ l, VS x) (hll : l.length ≤ 1000000) (hpre : ∀ k, (∀ x ∈ l.take k, RS x) → (wbsS (l.take k)).length ≤ 1000000000) :
    Calls Try.prog 29 #[.slice A l.length c] w (PutP w l) := by
  have HR := Aside0.mk hr
  have HV := Aside0.mk hv
  have HLL := Aside0.mk hll
  have HPRE := Aside0.mk hpre
  clear hr hc hap hv hll hpre
  go_enter Try.func29, Try.ntmps29
  go_wp2_with (first
    | (go_at_call 56; refine (new_c _).mono ?_; rintro e w1 ⟨rfl, h1, b1⟩; have H1 := Aside0.mk h1; have B1 := Aside0.mk b1; clear h1 b1))
  go_loopg [10] (l.length) (fun kq v10 wr => ∃ (k : Nat) (v : Value), v10 = .int .i64 (k : Int) ∧ Aside0 (kq + k = l.length ∧ (∀ x ∈ l.take k, RS x) ∧ IsW wr w.heap.size w.heap.size v (wbsS (l.take k)) ∧ Below w.heap.size w wr))
  case atStart => exact ⟨0, _, rfl, ⟨by omega, by simp, by simpa [wbsS] using H1.out, B1.out⟩⟩
  case round =>
    obtain ⟨k, v, rfl, HG⟩ := hrel
    obtain ⟨hk, hrs, hw, hb⟩ := HG.out
    by_cases hlt : k < l.length
    · have hx0 := HR.out
      obtain ⟨ad, e1, m0, m1, m2, m3⟩ := PRaw.at_T46 (Kd.C_below HR.out hb) (k : Int) (by omega) (by omega)
      subst e1
      obtain ⟨x, hx⟩ : ∃ x, x = PRaw.rd_T46 l (k : Int) := ⟨_, rfl⟩
      rw [← hx] at m0 m1 m2 m3
      rw [Int.toNat_natCast] at m0 m1 m2 m3
      have hxl : l[k]? = some x := by
        rw [hx]
        unfold PRaw.rd_T46
        rw [Int.toNat_natCast, List.getD_eq_getElem?_getD, List.getElem?_eq_getElem hlt]
        rfl
      have hvx := HV.out x (List.mem_of_getElem? hxl)
      have hdk : decide ((k : Int) < (l.length : Int)) = true := decide_eq_true (by omega)
      have hki : (k : Int) < (l.length : Int) := by omega
      have hk0 : (0 : Int) ≤ (k : Int) := by omega
      have hwi : IntKind.i64.wrap ((k : Int) + 1) = (k : Int) + 1 := by have := HLL.out; rw [IntKind.wrap_i64]; omega
      have HW := Aside0.mk hw
      have HB := Aside0.mk hb
      have HK := Aside0.mk hk
      have HRS := Aside0.mk hrs
      have HXL := Aside0.mk hxl
      have HVX := Aside0.mk hvx
      have HOUT := Aside0.mk (HPRE.out k hrs)
      by_cases hrx : RS x
      · have HRX := Aside0.mk hrx
        have HT := Aside0.mk (fun w => PRaw.raw_Right.calls 1 x.f0 x.f1 x.f2 x.f3 true w (by rw [right_raw x hvx, decide_eq_true hrx]))
        clear hk hrs hw hb hlt hx hxl hvx hrx HG hx0
        go_wp2_with (first
          | (go_at_call 32; refine (HT.out _).mono ?_; rintro e w3 ⟨rfl, b3⟩
             have x3 := blk_below (blk_new wr (.cells #[.int .i64 x.f0, .int .i64 x.f1, .int .u64 x.f2, .string x.f3] 46)) b3
             obtain ⟨⟨xc0, xc1, xc2, xc3⟩, xf0, xf1, xf2, xf3⟩ := blk4 x3
             have hw3 := (HW.out.below (below_alloc (Below.refl _ _) (.cells #[.int .i64 x.f0, .int .i64 x.f1, .int .u64 x.f2, .string x.f3] 46))).below b3
             have HW3 := Aside0.mk hw3
             have B3 := Aside0.mk ((HB.out.alloc HB.out.size _).trans (b3.mono (szA HB.out.size _)))
             clear x3 hw3 b3)
          | (go_at_call 57
             refine (rput_c x ⟨HRX.out.1, HRX.out.2, HVX.out.1, HVX.out.2⟩ HW3.out B3.out.size (Nat.le_trans HOUT.out (by decide))).mono ?_
             rintro e w4 ⟨rfl, v4, h4, f4⟩
             have B4 := Aside0.mk (B3.out.trans (HW3.out.fbelow B3.out.size f4))
             have H4 := Aside0.mk h4
             clear h4 f4))
        go_roundg (gk - 1)
        case measure => have := HK.out; omega
        case rel =>
          have e2 : l.take (k + 1) = l.take k ++ [x] := by rw [List.take_add_one, HXL.out]; rfl
          refine ⟨k + 1, v4, by rw [Int.natCast_add]; rfl, ⟨by have := HK.out; omega, fun y hy => ?_, by rw [e2, wbsS_snoc]; exact H4.out, B4.out⟩⟩
          rw [e2] at hy
          rcases List.mem_append.1 hy with hy | hy
          · exact HRS.out y hy
          · rw [List.mem_singleton.1 hy]; exact HRX.out
      · have HRX := Aside0.mk hrx
        have HT := Aside0.mk (fun w => PRaw.raw_Right.calls 1 x.f0 x.f1 x.f2 x.f3 false w (by rw [right_raw x hvx, decide_eq_false hrx]))
        clear hk hrs hw hb hlt hx hxl hvx hrx HG hx0
        go_wp2_with (first
          | (go_at_call 32; refine (HT.out _).mono ?_; rintro e w3 ⟨rfl, b3⟩
             have B3 := Aside0.mk ((HB.out.alloc HB.out.size (.cells #[.int .i64 x.f0, .int .i64 x.f1, .int .u64 x.f2, .string x.f3] 46)).trans (b3.mono (szA HB.out.size _)))
             clear b3))
        go_ret2
        exact ⟨B3.out, fun h => absurd (h x (List.mem_of_getElem? HXL.out)) HRX.out, fun _ => rfl⟩
    · have hdk : decide ((k : Int) < (l.length : Int)) = false := decide_eq_false (by omega)
      have hdk2 : decide (k < l.length) = false := decide_eq_false (by omega)
      have hkk : l.take k = l := List.take_of_length_le (by omega)
      have hpk := HPRE.out k hrs
      rw [hkk] at hw hrs hpk
      have HBY := Aside0.mk (Bytes_w hw (Nat.le_trans hpk (by decide)))
      have HB := Aside0.mk hb
      have HRS := Aside0.mk hrs
      clear hk hrs hw hb hlt HG hkk hpk
      go_wp2_with (first
        | (go_at_call 58; refine HBY.out.mono ?_; rintro e w4 ⟨v4, rfl, h4, b4⟩; have H4 := Aside0.mk h4; have B4 := Aside0.mk b4; clear h4 b4))
      go_ret2
      exact ⟨HB.out.trans (B4.out.mono HB.out.size), fun _ => ⟨v4, rfl, Kd.R_lower H4.out HB.out.size⟩, fun h => absurd HRS.out h⟩
end Go.Proofs.Ytfbmabhdjliohaa.Cur

/- cursor.Cursor: a cursor in memory (IsC), and what its reading methods and 'fail' do; conditions stand at each. -/
import Derived.Test.YtfbmabhdjliohaaPLibx
import Derived.Test.YtfbmabhdjliohaaMCurS
import Derived.WalkKit
import Derived.KernelRfl
import Derived.WalkSpells
import Derived.Deep.QuietTactic
import Derived.BigQuiet
import Derived.StillTailTactics
namespace Go.Proofs.Ytfbmabhdjliohaa.Cur
open Go.RowKit Go.Proofs.YtfbmabhdjliohaaW.PrintWords Go.Proofs.YtfbmabhdjliohaaW.PrintLast Go.Proofs.YtfbmabhdjliohaaW.PrintMore Go.Proofs.Ytfbmabhdjliohaa.Var
/-- A cursor at block g: its bytes b (read only), its place p, its frames' ends in a row of its own. -/
structure IsC (w : World) (B g : Nat) (A : Option Addr) (c : Nat) (b : List Int) (p : Int) (v : Value) (ends : List Int) : Prop where
  blk : w.heap[g]? = some (.cells #[.slice A b.length c, .int .i64 p, v] 61 (0, 0))
  row : Kd.R (Kd.int .i64) 3 w B (fun k => k ≠ g) v ends
  rd : Kd.C (Kd.int .u8) w A b.length b
  lc : b.length ≤ c
  ge : B ≤ g
  ap : ∀ ad, A = some ad → 0 < b.length → ad.block < B
section
variable {w w' : World} {B g : Nat} {A : Option Addr} {c : Nat} {b : List Int} {p : Int} {v : Value} {ends : List Int}
theorem IsC.below (h : IsC w B g A c b p v ends) (hb : Below w.heap.size w w') : IsC w' B g A c b p v ends :=
  ⟨blk_below h.blk hb, Kd.R_step h.row (fun k _ hlt => hb.block k hlt), Kd.C_below h.rd hb, h.lc, h.ge, h.ap⟩
theorem IsC.drewN (h : IsC w B g A c b p v ends) (n : Nat) : IsC (w.drewN n) B g A c b p v ends := h.below (pw_below_drewN (Below.refl _ _) n)
/-- Only block g is another, and what is new. -/
def Kept (w w' : World) (g : Nat) : Prop := KeepBut w w' g none ∧ w'.os = w.os ∧ w'.tape = w.tape ∧ w'.output = w.output
theorem Kept.refl (w : World) (g : Nat) : Kept w w g := ⟨KeepBut.refl w g none, rfl, rfl, rfl⟩
theorem Kept.of_below {g : Nat} (h : Below w.heap.size w w') : Kept w w' g := ⟨KeepBut.of_below h g none, h.os, h.tape, h.output⟩
theorem Kept.set_ {g : Nat} (h : Kept w w' g) (j : Nat) (u : Value) : Kept w (w'.setCell ⟨g, j, none⟩ u) g :=
  ⟨h.1.set_ j u, ((Below.refl 0 w').setCell (p := ⟨g, j, none⟩) (Nat.zero_le _) u).os.trans h.2.1, ((Below.refl 0 w').setCell (p := ⟨g, j, none⟩) (Nat.zero_le _) u).tape.trans h.2.2.1, ((Below.refl 0 w').setCell (p := ⟨g, j, none⟩) (Nat.zero_le _) u).output.trans h.2.2.2⟩
theorem Kept.trans {w2 : World} {g : Nat} (h : Kept w w' g) (k : Kept w' w2 g) : Kept w w2 g := ⟨h.1.trans k.1 (.inl rfl), k.2.1.trans h.2.1, k.2.2.1.trans h.2.2.1, k.2.2.2.trans h.2.2.2⟩
/-- What a cursor's call leaves: its block, its old row, and what is new. -/
def Fr (w w' : World) (g : Nat) (v v' : Value) : Prop := KeepBut w w' g v.ownBlock ∧ (w'.os = w.os ∧ w'.tape = w.tape ∧ w'.output = w.output) ∧ (v'.ownBlock = none ∨ v'.ownBlock = v.ownBlock ∨ ∃ k, v'.ownBlock = some k ∧ w.heap.size ≤ k)
theorem Keep_any {g : Nat} {r : Option Nat} (h : KeepBut w w' g none) : KeepBut w w' g r := ⟨h.1, fun i h1 h2 _ => h.2 i h1 h2 (by simp)⟩
theorem Fr.of_keep {v v' : Value} {g : Nat} (h : Kept w w' g) (hv : v' = v ∨ v' = .slice none 0 0) : Fr w w' g v v' := by
  refine ⟨Keep_any h.1, h.2, ?_⟩
  rcases hv with rfl | rfl
  · exact .inr (.inl rfl)
  · exact .inl rfl
theorem Fr.trans {w2 : World} {v v' v2 : Value} {g : Nat} (h : Fr w w' g v v') (k : Fr w' w2 g v' v2) : Fr w w2 g v v2 := by
  refine ⟨⟨Nat.le_trans h.1.1 k.1.1, fun i h1 h2 h3 => ?_⟩, ⟨k.2.1.1.trans h.2.1.1, k.2.1.2.1.trans h.2.1.2.1, k.2.1.2.2.trans h.2.1.2.2⟩, ?_⟩
  · rw [k.1.2 i (Nat.lt_of_lt_of_le h1 h.1.1) h2 ?_, h.1.2 i h1 h2 h3]
    rcases h.2.2 with e | e | ⟨b, e, hb⟩
    · rw [e]; simp
    · rw [e]; exact h3
    · rw [e]
      intro he
      injection he with he
      omega
  · rcases k.2.2 with e | e | ⟨b, e, hb⟩
    · exact .inl e
    · rcases h.2.2 with f | f | ⟨b, f, hb⟩
      · exact .inl (e.trans f)
      · exact .inr (.inl (e.trans f))
      · exact .inr (.inr ⟨b, e.trans f, hb⟩)
    · exact .inr (.inr ⟨b, e, Nat.le_trans h.1.1 hb⟩)
theorem Fr.below {B : Nat} {v v' : Value} {g : Nat} (h : Fr w w' g v v') (hB : B ≤ w.heap.size) (hg : B ≤ g) (hv : ∀ k, v.ownBlock = some k → B ≤ k) : Below B w w' := by
  refine ⟨h.2.1.1, h.2.1.2.1, h.2.1.2.2, h.1.1, fun i hi => h.1.2 i (Nat.lt_of_lt_of_le hi hB) (by omega) (fun he => ?_)⟩
  have := hv i he.symm
  omega
/-- What a reading method leaves. -/
def Moved (w : World) (B g : Nat) (A : Option Addr) (c : Nat) (b : List Int) (v : Value) (p' : Int) (ends' : List Int) (w' : World) : Prop :=
  ∃ v', IsC w' B g A c b p' v' ends' ∧ Fr w w' g v v'
theorem cell_last {W : World} (h : Kd.R (Kd.int .i64) 3 W B (fun k => k ≠ g) (.slice A ends.length c) ends) (hn : 0 < ends.length) : ∃ ad, A = some ad ∧ W.cell? (ad.add (ends.length - 1)) = some (.int .i64 (last ends)) := by
  obtain ⟨h1, _, h3⟩ := Kd.R_reads' h
  obtain ⟨ad, ha, hc⟩ := (Kd.reads_of_C (enc := Value.int .i64) (d := 0) h3).2.2 hn
  refine ⟨ad, ha, ?_⟩
  rw [hc (ends.length - 1) (by omega)]
  unfold last rd
  congr 3
  omega
end
set_option maxHeartbeats 400000
/-- Ok. -/
theorem ok_c {w : World} {B g : Nat} {A : Option Addr} {c : Nat} {b : List Int} {p : Int} {v : Value} {ends : List Int} (h : IsC w B g A c b p v ends) :
    Calls Try.prog 20 #[.pointer (some ⟨g, 0, none⟩)] w fun e w' => e = .returned (.bool (decide (0 < ends.length))) ∧ Drawn0 w w' := by
  obtain ⟨A2, c2, rfl⟩ := Kd.R_slice h.row
  have hc2 : w.cell? ⟨g, 2, none⟩ = some (.slice A2 ends.length c2) := (blk_cell h.blk 2).trans rfl
  clear h
  go_enter Try.func20, Try.ntmps20
  go_wp2
  go_ret
  exact ⟨rfl, Drawn0.refl _⟩
/-- end. -/
theorem end_c {w : World} {B g : Nat} {A : Option Addr} {c : Nat} {b : List Int} {p : Int} {v : Value} {ends : List Int} (h : IsC w B g A c b p v ends) (hn : 0 < ends.length) :
    Calls Try.prog 39 #[.pointer (some ⟨g, 0, none⟩)] w fun e w' => e = .returned (.int .i64 (last ends)) ∧ Drawn0 w w' := by
  obtain ⟨A2, c2, rfl⟩ := Kd.R_slice h.row
  have hc2 : w.cell? ⟨g, 2, none⟩ = some (.slice A2 ends.length c2) := (blk_cell h.blk 2).trans rfl
  have hrow := h.row
  obtain ⟨ad, rfl, hcell⟩ := cell_last hrow hn
  have hlen : ends.length ≤ 9223372036854775807 := Kd.C_max (Kd.R_reads' hrow).2.2
  obtain ⟨m, hm⟩ : ∃ m, ends.length = m + 1 := ⟨ends.length - 1, by omega⟩
  rw [hm] at hc2 hcell hlen
  have hw : IntKind.i64.wrap ((m : Int) + 1 - 1) = (m : Int) := by rw [IntKind.wrap_i64]; omega
  have hw2 : IntKind.i64.wrap (m : Int) = (m : Int) := by rw [IntKind.wrap_i64]; omega
  have hlt : (m : Int) < (m : Int) + 1 := by omega
  simp only [Nat.add_sub_cancel] at hcell
  clear h hrow hm hn
  obtain ⟨L, hL⟩ : ∃ L, L = last ends := ⟨_, rfl⟩
  rw [← hL] at hcell ⊢
  clear hL
  go_enter Try.func39, Try.ntmps39
  go_wp2
  go_quiet (fail)
  go_wp2
  go_ret
  exact ⟨rfl, Drawn0.step (Drawn0.refl _) _⟩
theorem quiet {P : Program} {f : FuncId} {args : Array Value} {w : World} {n : Nat} {v : Value} (h : Calls P f args (w.drewN n) fun e w' => e = .returned v ∧ Drawn0 (w.drewN n) w') :
    Calls P f args (w.drewN n) fun e w'' => e = .returned v ∧ ∃ m, w'' = w.drewN m := Calls.quiet_of (h.mono fun _ _ hh => ⟨hh.1, hh.2.out⟩)
theorem ok_yes {w : World} {B g : Nat} {A : Option Addr} {c : Nat} {b : List Int} {p : Int} {v : Value} {ends : List Int} (h : IsC w B g A c b p v ends) (hn : 0 < ends.length) :
    Calls Try.prog 20 #[.pointer (some ⟨g, 0, none⟩)] w fun e w' => e = .returned (.bool true) ∧ Drawn0 w w' :=
  (ok_c h).mono fun _ _ hh => ⟨by rw [hh.1, decide_eq_true hn], hh.2⟩
theorem ok_no {w : World} {B g : Nat} {A : Option Addr} {c : Nat} {b : List Int} {p : Int} {v : Value} {ends : List Int} (h : IsC w B g A c b p v ends) (hn : ends.length = 0) :
    Calls Try.prog 20 #[.pointer (some ⟨g, 0, none⟩)] w fun e w' => e = .returned (.bool false) ∧ Drawn0 w w' :=
  (ok_c h).mono fun _ _ hh => ⟨by rw [hh.1, decide_eq_false (by omega)], hh.2⟩
/-- More. -/
theorem more_c {w : World} {B g : Nat} {A : Option Addr} {c : Nat} {b : List Int} {p : Int} {v : Value} {ends : List Int} (h : IsC w B g A c b p v ends) :
    Calls Try.prog 14 #[.pointer (some ⟨g, 0, none⟩)] w fun e w' => e = .returned (.bool (moreB p ends)) ∧ Drawn0 w w' := by
  have hc1 : w.cell? ⟨g, 1, none⟩ = some (.int .i64 p) := (blk_cell h.blk 1).trans rfl
  by_cases hn : 0 < ends.length
  · have hb : moreB p ends = decide (p < last ends) := by unfold moreB; rw [decide_eq_true hn, Bool.true_and]
    have HE := Aside0.mk (fun n => end_c (h.drewN n) hn)
    have HO := Aside0.mk (fun n => ok_yes (h.drewN n) hn)
    rw [hb]
    obtain ⟨L, hL⟩ : ∃ L, L = last ends := ⟨_, rfl⟩
    rw [← hL] at HE ⊢
    clear h hn hb hL
    go_enter Try.func14, Try.ntmps14
    go_wp2_with fail
    go_quiet ((first | (go_at_call 20; exact quiet (HO.out _)) | (go_at_call 39; exact quiet (HE.out _))))
    go_wp2
    go_ret
    exact ⟨rfl, Drawn0.step (Drawn0.refl _) _⟩
  · have hb : moreB p ends = false := by unfold moreB; rw [decide_eq_false hn, Bool.false_and]
    have HO := Aside0.mk (fun n => ok_no (h.drewN n) (by omega))
    rw [hb]
    clear h hn hb
    go_enter Try.func14, Try.ntmps14
    go_wp2_with fail
    go_quiet ((first | (go_at_call 20; exact quiet (HO.out _))))
    go_wp2
    go_ret
    exact ⟨rfl, Drawn0.step (Drawn0.refl _) _⟩
/-- At. -/
theorem at_c {w : World} {B g : Nat} {A : Option Addr} {c : Nat} {b : List Int} {p : Int} {v : Value} {ends : List Int} (h : IsC w B g A c b p v ends) :
    Calls Try.prog 21 #[.pointer (some ⟨g, 0, none⟩)] w fun e w' => e = .returned (.int .i64 p) ∧ Drawn0 w w' := by
  have hc1 : w.cell? ⟨g, 1, none⟩ = some (.int .i64 p) := (blk_cell h.blk 1).trans rfl
  clear h
  go_enter Try.func21, Try.ntmps21
  go_wp2
  go_ret
  exact ⟨rfl, Drawn0.refl _⟩
/-- Deep. -/
theorem deep_c {w : World} {B g : Nat} {A : Option Addr} {c : Nat} {b : List Int} {p : Int} {v : Value} {ends : List Int} (h : IsC w B g A c b p v ends) :
    Calls Try.prog 13 #[.pointer (some ⟨g, 0, none⟩)] w fun e w' => e = .returned (.int .i64 (ends.length : Int)) ∧ Drawn0 w w' := by
  obtain ⟨A2, c2, rfl⟩ := Kd.R_slice h.row
  have hc2 : w.cell? ⟨g, 2, none⟩ = some (.slice A2 ends.length c2) := (blk_cell h.blk 2).trans rfl
  clear h
  go_enter Try.func13, Try.ntmps13
  go_wp2
  go_ret
  exact ⟨rfl, Drawn0.refl _⟩
/-- fail. -/
theorem fail_c {w : World} {B g : Nat} {A : Option Addr} {c : Nat} {b : List Int} {p : Int} {v : Value} {ends : List Int} (h : IsC w B g A c b p v ends) :
    Calls Try.prog 63 #[.pointer (some ⟨g, 0, none⟩)] w fun e w' => e = .returned (.tuple #[]) ∧ IsC w' B g A c b 0 (.slice none 0 0) [] ∧ Kept w w' g := by
  obtain ⟨A2, c2, rfl⟩ := Kd.R_slice h.row
  have hc1 : w.cell? ⟨g, 1, none⟩ = some (.int .i64 p) := (blk_cell h.blk 1).trans rfl
  have hc2 : w.cell? ⟨g, 2, none⟩ = some (.slice A2 ends.length c2) := (blk_cell h.blk 2).trans rfl
  have hf1 := blk_frozen h.blk 1
  have hf2 := blk_frozen h.blk 2
  have H := Aside0.mk h
  clear h
  go_enter Try.func63, Try.ntmps63
  go_wp2
  go_end0
  have hk : Kept w ((w.setCell ⟨g, 1, none⟩ (.int .i64 0)).setCell ⟨g, 2, none⟩ (.slice none 0 0)) g := ((Kept.refl w g).set_ 1 _).set_ 2 _
  exact ⟨rfl, ⟨blk_put (blk_put H.out.blk 1 _ rfl) 2 _ rfl, Kd.R_nil _ _ _ _ _, Kd.C_keep (d := 0) H.out.rd hk.1 (fun ad h1 h2 => by have h3 := H.out.ap ad h1 h2; have h4 := H.out.ge; omega), H.out.lc, H.out.ge, H.out.ap⟩, hk⟩
end Go.Proofs.Ytfbmabhdjliohaa.Cur

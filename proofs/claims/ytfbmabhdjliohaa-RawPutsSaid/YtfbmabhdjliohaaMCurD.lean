/- ecdysisref05.C: a reference's cursor in memory (IsM), and what its methods do; conditions stand at each. -/
import Derived.Test.YtfbmabhdjliohaaMCurC
namespace Go.Proofs.Ytfbmabhdjliohaa.Cur
open Go.RowKit Go.Proofs.YtfbmabhdjliohaaW.PrintWords Go.Proofs.YtfbmabhdjliohaaW.PrintLast Go.Proofs.YtfbmabhdjliohaaW.PrintMore Go.Proofs.Ytfbmabhdjliohaa.Var
set_option maxHeartbeats 1000000
set_option maxRecDepth 100000
set_option linter.unusedSimpArgs false
/-- A reference's cursor at block g. -/
structure IsM (w : World) (B g : Nat) (A : Option Addr) (c : Nat) (b : List Int) (p : Int) (v : Value) (ends : List Int) : Prop where
  blk : w.heap[g]? = some (.cells #[.slice A b.length c, .int .i64 p, v, .bool (decide (ends.length = 0))] 65 (0, 0))
  row : Kd.R (Kd.int .i64) 3 w B (fun k => k ≠ g) v ends
  rd : Kd.C (Kd.int .u8) w A b.length b
  lc : b.length ≤ c
  ge : B ≤ g
  ap : ∀ ad, A = some ad → 0 < b.length → ad.block < B
/-- What a method leaves. -/
def MovedM (w : World) (B g : Nat) (A : Option Addr) (c : Nat) (b : List Int) (v : Value) (p' : Int) (ends' : List Int) (w' : World) : Prop :=
  ∃ v', IsM w' B g A c b p' v' ends' ∧ Fr w w' g v v'
section
variable {w w' : World} {B g : Nat} {A : Option Addr} {c : Nat} {b : List Int} {p : Int} {v : Value} {ends : List Int}
theorem IsM.below (h : IsM w B g A c b p v ends) (hb : Below w.heap.size w w') : IsM w' B g A c b p v ends :=
  ⟨blk_below h.blk hb, Kd.R_step h.row (fun k _ hlt => hb.block k hlt), Kd.C_below h.rd hb, h.lc, h.ge, h.ap⟩
theorem IsM.drewN (h : IsM w B g A c b p v ends) (n : Nat) : IsM (w.drewN n) B g A c b p v ends := h.below (pw_below_drewN (Below.refl _ _) n)
theorem IsM.drawn {w' : World} (h : IsM w B g A c b p v ends) (hd : Drawn0 w w') : IsM w' B g A c b p v ends := by
  obtain ⟨n, rfl⟩ := hd
  exact h.drewN n
theorem IsM.lmax (h : IsM w B g A c b p v ends) : b.length ≤ 9223372036854775807 := Kd.C_max h.rd
theorem MovedM.after {w1 w' : World} {v1 : Value} {p' : Int} {e' : List Int} (f : Fr w w1 g v v1) (h : MovedM w1 B g A c b v1 p' e' w') : MovedM w B g A c b v p' e' w' := by
  obtain ⟨v', h1, h2⟩ := h
  exact ⟨v', h1, f.trans h2⟩
theorem IsM.set1 (h : IsM w B g A c b p v ends) (q : Int) : IsM (w.setCell ⟨g, 1, none⟩ (.int .i64 q)) B g A c b q v ends :=
  ⟨blk_put h.blk 1 _ rfl, Kd.R_keep h.row ((KeepBut.refl w g none).set_ 1 _) (fun _ hk => hk), Kd.C_keep (d := 0) h.rd ((KeepBut.refl w g none).set_ 1 _) (fun ad h1 h2 => by have h3 := h.ap ad h1 h2; have h4 := h.ge; omega), h.lc, h.ge, h.ap⟩
theorem IsM.bad (h : IsM w B g A c b p v ends) (hn : ends.length = 0) : w.cell? ⟨g, 3, none⟩ = some (.bool true) := by
  have h1 : w.cell? ⟨g, 3, none⟩ = some (.bool (decide (ends.length = 0))) := (blk_cell h.blk 3).trans rfl
  rw [h1, decide_eq_true hn]
theorem IsM.good (h : IsM w B g A c b p v ends) (hn : 0 < ends.length) : w.cell? ⟨g, 3, none⟩ = some (.bool false) := by
  have h1 : w.cell? ⟨g, 3, none⟩ = some (.bool (decide (ends.length = 0))) := (blk_cell h.blk 3).trans rfl
  rw [h1, decide_eq_false (by omega)]
theorem Fr.none (w : World) (g n : Nat) (v : Value) : Fr w (w.drewN n) g v v := (Fr.of_keep (Kept.refl _ _) (.inl rfl)).drew n
theorem Fr.same (w : World) (g : Nat) (v : Value) : Fr w w g v v := Fr.of_keep (Kept.refl _ _) (.inl rfl)
/-- What is left of the frame, read; the capacity is the bytes'. -/
theorem seg_M (h : IsM w B g A c b p v ends) (hi : Inv b.length p ends) : Kd.C (Kd.int .u8) w (if c = p.toNat then A else Option.map (fun x => x.add p.toNat) A) (seg b p ends).length (seg b p ends) := by
  have h0 := inv_last hi
  have h2 := Kd.C_mid (c := c) (lo := p.toNat) (hi := (last ends).toNat) h.rd (by omega) (by omega) h.lc
  have e1 : p.toNat * (Kd.int .u8).sz = p.toNat := Nat.mul_one _
  rw [e1] at h2
  exact h2
end
/-- end. -/
theorem end_m {w : World} {B g : Nat} {A : Option Addr} {c : Nat} {b : List Int} {p : Int} {v : Value} {ends : List Int} (h : IsM w B g A c b p v ends) (hn : 0 < ends.length) :
    Calls Try.prog 65 #[.pointer (some ⟨g, 0, none⟩)] w fun e w' => e = .returned (.int .i64 (last ends)) ∧ Drawn0 w w' := by
  obtain ⟨A2, c2, rfl⟩ := Kd.R_slice h.row
  have hc2 : w.cell? ⟨g, 2, none⟩ = some (.slice A2 ends.length c2) := (blk_cell h.blk 2).trans rfl
  have hrow := h.row
  obtain ⟨ad, rfl, hcell⟩ := cell_last hrow hn
  have hlen : ends.length ≤ 9223372036854775807 := Kd.C_max (Kd.R_reads' hrow).2.2
  obtain ⟨m, hm⟩ : ∃ m, ends.length = m + 1 := ⟨ends.length - 1, by omega⟩
  rw [hm] at hc2 hcell hlen
  have hw : IntKind.i64.wrap ((m : Int) + 1 - 1) = (m : Int) := by rw [IntKind.wrap_i64]; omega
  have hw2 : IntKind.i64.wrap (m : Int) = (m : Int) := by rw [IntKind.wrap_i64]; omega
  have hlt : (m : Int) < (m : Int) + 1 := by omega
  simp only [Nat.add_sub_cancel] at hcell
  clear h hrow hm hn
  obtain ⟨L, hL⟩ : ∃ L, L = last ends := ⟨_, rfl⟩
  rw [← hL] at hcell ⊢
  clear hL
  go_enter Try.func65, Try.ntmps65
  go_wp2
  go_quiet (fail)
  go_wp2
  go_ret
  exact ⟨rfl, Drawn0.step (Drawn0.refl _) _⟩
/-- fail. -/
theorem fail_m {w : World} {B g : Nat} {A : Option Addr} {c : Nat} {b : List Int} {p : Int} {v : Value} {ends : List Int} (h : IsM w B g A c b p v ends) :
    Calls Try.prog 66 #[.pointer (some ⟨g, 0, none⟩)] w fun e w' => e = .returned (.tuple #[]) ∧ IsM w' B g A c b 0 (.slice none 0 0) [] ∧ Kept w w' g := by
  obtain ⟨A2, c2, rfl⟩ := Kd.R_slice h.row
  have hc1 : w.cell? ⟨g, 1, none⟩ = some (.int .i64 p) := (blk_cell h.blk 1).trans rfl
  have hc2 : w.cell? ⟨g, 2, none⟩ = some (.slice A2 ends.length c2) := (blk_cell h.blk 2).trans rfl
  have hc3 : w.cell? ⟨g, 3, none⟩ = some (.bool (decide (ends.length = 0))) := (blk_cell h.blk 3).trans rfl
  have hf1 := blk_frozen h.blk 1
  have hf2 := blk_frozen h.blk 2
  have hf3 := blk_frozen h.blk 3
  have H := Aside0.mk h
  clear h
  go_enter Try.func66, Try.ntmps66
  go_wp2
  go_end0
  have hk : Kept w (((w.setCell ⟨g, 3, none⟩ (.bool true)).setCell ⟨g, 1, none⟩ (.int .i64 0)).setCell ⟨g, 2, none⟩ (.slice none 0 0)) g := (((Kept.refl w g).set_ 3 _).set_ 1 _).set_ 2 _
  exact ⟨rfl, ⟨blk_put (blk_put (blk_put H.out.blk 3 _ rfl) 1 _ rfl) 2 _ rfl, Kd.R_nil _ _ _ _ _, Kd.C_keep (d := 0) H.out.rd hk.1 (fun ad h1 h2 => by have h3 := H.out.ap ad h1 h2; have h4 := H.out.ge; omega), H.out.lc, H.out.ge, H.out.ap⟩, hk⟩
theorem refget_c {W : World} {A : Option Addr} {n c : Nat} {l : List Int} (hln : l.length = n) (hr : Kd.C (Kd.int .u8) W A l.length l) (hc : l.length ≤ c) (hb : ∀ x ∈ l, 0 ≤ x ∧ x ≤ 255) (hl : l.length ≤ 140737488359000) :
    Calls Try.prog 64 #[.slice A n c] W fun e w' => e = .returned (.tuple #[.int .u64 (dec l 0 0).1, .int .i64 (dec l 0 0).2]) ∧ Drawn0 W w' := by
  subst hln
  exact PLib.ecdysisref01_Get.calls (3 * l.length + 2) A c l _ _ W hr hc (VLib.refget_f _ l hb (by omega) hl)
theorem fix3_f (k : Nat) (hk : k = 4 ∨ k = 8) (l : List Int) (hb : ∀ x ∈ l, 0 ≤ x ∧ x ≤ 255) (hl : l.length ≤ 140737488359000) : PLib.ecdysisref03_Get.f 20 l (k : Int) = some ((fixD k l).1, decide ((fixD k l).2 ≠ 0)) := by
  have hrd : ∀ i : Nat, rd l (i : Int) = l.getD i 0 := fun i => by simp [rd]
  unfold PLib.ecdysisref03_Get.f fixD
  rcases hk with rfl | rfl
  · by_cases h : l.length < 4
    · rw [if_pos (by omega), if_pos h]; simp
    · have hw : wrap64 (((4 : Nat) : Int) - 1) = ((4 : Nat) : Int) - 1 := by unfold wrap64; omega
      rw [if_neg (by omega), if_neg h, hw, VLib.fixgetl l hb 4 20 0 (by omega) (by omega) (by omega) (by omega) (by decide)]
      simp only [VLib.down, hrd, M.val4]
      congr 2
      · rw [if_pos trivial]; omega
  · by_cases h : l.length < 8
    · rw [if_pos (by omega), if_pos h]; simp
    · have hw : wrap64 (((8 : Nat) : Int) - 1) = ((8 : Nat) : Int) - 1 := by unfold wrap64; omega
      rw [if_neg (by omega), if_neg h, hw, VLib.fixgetl l hb 8 20 0 (by omega) (by omega) (by omega) (by omega) (by decide)]
      simp only [VLib.down, hrd, M.val8]
      congr 2
      · rw [if_neg (by decide)]; omega
theorem fix3_c {W : World} {A : Option Addr} {n c : Nat} {l : List Int} (k : Nat) (hk : k = 4 ∨ k = 8) (hln : l.length = n) (hr : Kd.C (Kd.int .u8) W A l.length l) (hc : l.length ≤ c) (hb : ∀ x ∈ l, 0 ≤ x ∧ x ≤ 255) (hl : l.length ≤ 140737488359000) :
    Calls Try.prog 69 #[.slice A n c, .int .i64 (k : Int)] W fun e w' => e = .returned (.tuple #[.int .u64 (fixD k l).1, .bool (decide ((fixD k l).2 ≠ 0))]) ∧ Drawn0 W w' := by
  subst hln
  exact PLib.ecdysisref03_Get.calls 20 A c l k _ _ W hr hc (fix3_f k hk l hb hl)
/-- Varint_m. -/
theorem Varint_m {w : World} {B g : Nat} {A : Option Addr} {c : Nat} {b : List Int} {p : Int} {v : Value} {ends : List Int} (h : IsM w B g A c b p v ends) (hi : Inv b.length p ends) (_hB : B ≤ w.heap.size) (hb : ∀ x ∈ b, 0 ≤ x ∧ x ≤ 255) (hbl : b.length ≤ 140737488359000) :
    Calls Try.prog 40 #[.pointer (some ⟨g, 0, none⟩)] w fun e w' => e = .returned (.int .u64 (vD b p ends).1) ∧ MovedM w B g A c b v (nx p ends (vD b p ends).2).1 (nx p ends (vD b p ends).2).2 w' := by
  have hf := (show 0 ≤ (vD b p ends).2 ∧ (vD b p ends).2 ≤ last ends - p ∧ ((vD b p ends).2 = 0 → (vD b p ends).1 = 0) from (vD_facts hi hb).2.2)
  by_cases hn : ends.length = 0
  · have hc3 := h.bad hn
    have hs0 : (vD b p ends).2 = 0 := by
      have := last_nil hn
      have h2 := inv_last hi
      omega
    have hd0 := hf.2.2 hs0
    rw [hs0, hd0]
    have he : ends = [] := List.length_eq_zero_iff.1 hn
    subst he
    have hp : p = 0 := hi.2.2.2 rfl
    subst hp
    have H := Aside0.mk h
    clear h hi hb hbl hf hn hs0 hd0
    go_enter Try.func40, Try.ntmps40
    go_wp2_with fail
    go_ret
    exact ⟨rfl, v, H.out, Fr.same _ _ _⟩
  · have hn1 : 0 < ends.length := by omega
    have hc3 := h.good hn1
    have hc0 : w.cell? ⟨g, 0, none⟩ = some (.slice A b.length c) := (blk_cell h.blk 0).trans rfl
    have hc1 : w.cell? ⟨g, 1, none⟩ = some (.int .i64 p) := (blk_cell h.blk 1).trans rfl
    have hf1 := blk_frozen h.blk 1
    have H := Aside0.mk h
    have HE := Aside0.mk (fun n => end_m (h.drewN n) hn1)
    have HG := fun n => refget_c (seg_l hi) (seg_M (h.drewN n) hi) (c := c - p.toNat) (by have := seg_l hi; have := inv_last hi; have := h.lc; omega) (seg_bytes hb) (by have := seg_l hi; have := inv_last hi; omega)
    skip
    have hl := inv_last hi
    have lc := h.lc
    have lm := h.lmax
    obtain ⟨D, hD⟩ : ∃ D, D = vD b p ends := ⟨_, rfl⟩
    simp only [show dec (seg b p ends) 0 0 = D from hD.symm] at HG
    rw [← hD] at hf ⊢
    skip
    obtain ⟨L, hL⟩ : ∃ L, L = last ends := ⟨_, rfl⟩
    rw [← hL] at HE hl HG hf
    clear hD hL h hn hi hb hbl
    obtain ⟨p, rfl⟩ := Int.eq_ofNat_of_zero_le hl.1
    obtain ⟨L, rfl⟩ := Int.eq_ofNat_of_zero_le (show 0 ≤ L by omega)
    obtain ⟨d, s⟩ := D
    simp only [Int.toNat_natCast] at HG hf ⊢
    obtain ⟨A', hA'⟩ : ∃ A', (if c = p then A else Option.map (fun x => x.add p) A) = A' := ⟨_, rfl⟩
    simp only [hA'] at HG
    have hLc : L ≤ b.length := by omega
    have hpL : p ≤ L := by omega
    have hLc2 : L ≤ c := by omega
    have hsum : (p : Int) + s ≤ 9223372036854775807 := by omega
    have hs0 := hf.1
    have hz2 := hf.2.2
    clear hf hl
    by_cases hz : s = 0
    · subst hz
      have hd0 := hz2 rfl
      subst hd0
      unfold nx
      rw [if_pos rfl]
      skip
      have HGG := Aside0.mk HG
      clear HG hz2
      go_enter Try.func40, Try.ntmps40
      go_wp2_with fail
      go_region_held3 (fun w' => w'.cell? ⟨g, 0, none⟩ = some (.slice A b.length c) ∧ w'.cell? ⟨g, 1, none⟩ = some (.int .i64 (p : Int))) (first | exact ⟨hc0, hc1⟩ | go_keep) (first
        | (go_at_call 65; refine (HE.out _).mono ?_; rintro e w2 ⟨rfl, ⟨n2, rfl⟩⟩)
        | (go_at_call 64; refine (HGG.out _).mono ?_; rintro e w3 ⟨rfl, ⟨n3, rfl⟩⟩))
      all_goals
        go_wp2_with (first | (go_at_call 66; refine (fail_m (H.out.drewN _)).mono ?_; rintro e w4 ⟨rfl, hC4, hk4⟩; have H4 := Aside0.mk hC4; have K4 := Aside0.mk hk4; clear hC4 hk4))
        go_ret
        exact ⟨rfl, _, H4.out, (Fr.none _ _ _ _).kept K4.out (.inr rfl)⟩
    · have hz1 : (s == 0) = false := beq_eq_false_iff_ne.2 hz
      unfold nx
      rw [if_neg hz]
      skip
      have HGG := Aside0.mk HG
      clear HG hz2 hz
      go_enter Try.func40, Try.ntmps40
      go_wp2_with fail
      go_region_held3 (fun w' => w'.cell? ⟨g, 0, none⟩ = some (.slice A b.length c) ∧ w'.cell? ⟨g, 1, none⟩ = some (.int .i64 (p : Int))) (first | exact ⟨hc0, hc1⟩ | go_keep) (first
        | (go_at_call 65; refine (HE.out _).mono ?_; rintro e w2 ⟨rfl, ⟨n2, rfl⟩⟩)
        | (go_at_call 64; refine (HGG.out _).mono ?_; rintro e w3 ⟨rfl, ⟨n3, rfl⟩⟩))
      all_goals
        go_wp2_with fail
        go_ret
        exact ⟨rfl, _, (H.out.drewN _).set1 _, (Fr.none _ _ _ _).kept ((Kept.refl _ _).set_ 1 _) (.inl rfl)⟩
/-- Fixed_m. -/
theorem Fixed_m {w : World} {B g : Nat} {A : Option Addr} {c : Nat} {b : List Int} {p : Int} {v : Value} {ends : List Int} (h : IsM w B g A c b p v ends) (hi : Inv b.length p ends) (_hB : B ≤ w.heap.size) (hb : ∀ x ∈ b, 0 ≤ x ∧ x ≤ 255) (hbl : b.length ≤ 140737488359000) (k : Nat) (hk : k = 4 ∨ k = 8) :
    Calls Try.prog 42 #[.pointer (some ⟨g, 0, none⟩), .int .i64 (k : Int)] w fun e w' => e = .returned (.int .u64 (fD k b p ends).1) ∧ MovedM w B g A c b v (nx p ends (fD k b p ends).2).1 (nx p ends (fD k b p ends).2).2 w' := by
  have hf := fD_facts hi k (by omega)
  by_cases hn : ends.length = 0
  · have hc3 := h.bad hn
    have hs0 : (fD k b p ends).2 = 0 := by
      have := last_nil hn
      have h2 := inv_last hi
      omega
    have hd0 := hf.2.2 hs0
    rw [hs0, hd0]
    have he : ends = [] := List.length_eq_zero_iff.1 hn
    subst he
    have hp : p = 0 := hi.2.2.2 rfl
    subst hp
    have H := Aside0.mk h
    clear h hi hb hbl hf hn hs0 hd0
    go_enter Try.func42, Try.ntmps42
    go_wp2_with fail
    go_ret
    exact ⟨rfl, v, H.out, Fr.same _ _ _⟩
  · have hn1 : 0 < ends.length := by omega
    have hc3 := h.good hn1
    have hc0 : w.cell? ⟨g, 0, none⟩ = some (.slice A b.length c) := (blk_cell h.blk 0).trans rfl
    have hc1 : w.cell? ⟨g, 1, none⟩ = some (.int .i64 p) := (blk_cell h.blk 1).trans rfl
    have hf1 := blk_frozen h.blk 1
    have H := Aside0.mk h
    have HE := Aside0.mk (fun n => end_m (h.drewN n) hn1)
    have HG := fun n => fix3_c k hk (seg_l hi) (seg_M (h.drewN n) hi) (c := c - p.toNat) (by have := seg_l hi; have := inv_last hi; have := h.lc; omega) (seg_bytes hb) (by have := seg_l hi; have := inv_last hi; omega)
    have hkk : (fD k b p ends).2 = 0 ∨ (fD k b p ends).2 = (k : Int) := by
      unfold fD
      rcases fixD_two k (seg b p ends) with h1 | h1
      · rw [h1]; exact .inl rfl
      · exact .inr h1
    have hl := inv_last hi
    have lc := h.lc
    have lm := h.lmax
    obtain ⟨D, hD⟩ : ∃ D, D = fD k b p ends := ⟨_, rfl⟩
    simp only [show fixD k (seg b p ends) = D from hD.symm] at HG
    rw [← hD] at hf ⊢
    rw [← hD] at hkk
    obtain ⟨L, hL⟩ : ∃ L, L = last ends := ⟨_, rfl⟩
    rw [← hL] at HE hl HG hf
    clear hD hL h hn hi hb hbl
    obtain ⟨p, rfl⟩ := Int.eq_ofNat_of_zero_le hl.1
    obtain ⟨L, rfl⟩ := Int.eq_ofNat_of_zero_le (show 0 ≤ L by omega)
    obtain ⟨d, s⟩ := D
    simp only [Int.toNat_natCast] at HG hf ⊢
    obtain ⟨A', hA'⟩ : ∃ A', (if c = p then A else Option.map (fun x => x.add p) A) = A' := ⟨_, rfl⟩
    simp only [hA'] at HG
    have hLc : L ≤ b.length := by omega
    have hpL : p ≤ L := by omega
    have hLc2 : L ≤ c := by omega
    have hsum : (p : Int) + s ≤ 9223372036854775807 := by omega
    have hs0 := hf.1
    have hz2 := hf.2.2
    clear hf hl
    by_cases hz : s = 0
    · subst hz
      have hd0 := hz2 rfl
      subst hd0
      unfold nx
      rw [if_pos rfl]
      simp only [decide_eq_false (show ¬ (0 : Int) ≠ 0 by decide)] at HG
      have HGG := Aside0.mk HG
      clear HG hz2
      go_enter Try.func42, Try.ntmps42
      go_wp2_with fail
      go_region_held3 (fun w' => w'.cell? ⟨g, 0, none⟩ = some (.slice A b.length c) ∧ w'.cell? ⟨g, 1, none⟩ = some (.int .i64 (p : Int))) (first | exact ⟨hc0, hc1⟩ | go_keep) (first
        | (go_at_call 65; refine (HE.out _).mono ?_; rintro e w2 ⟨rfl, ⟨n2, rfl⟩⟩)
        | (go_at_call 69; refine (HGG.out _).mono ?_; rintro e w3 ⟨rfl, ⟨n3, rfl⟩⟩))
      all_goals
        go_wp2_with (first | (go_at_call 66; refine (fail_m (H.out.drewN _)).mono ?_; rintro e w4 ⟨rfl, hC4, hk4⟩; have H4 := Aside0.mk hC4; have K4 := Aside0.mk hk4; clear hC4 hk4))
        go_ret
        exact ⟨rfl, _, H4.out, (Fr.none _ _ _ _).kept K4.out (.inr rfl)⟩
    · have hz1 : (s == 0) = false := beq_eq_false_iff_ne.2 hz
      unfold nx
      rw [if_neg hz]
      obtain rfl : s = (k : Int) := by
        rcases hkk with hkk | hkk
        · exact absurd hkk hz
        · exact hkk
      simp only [decide_eq_true (show (k : Int) ≠ 0 by omega)] at HG
      have HGG := Aside0.mk HG
      clear HG hz2 hz
      go_enter Try.func42, Try.ntmps42
      go_wp2_with fail
      go_region_held3 (fun w' => w'.cell? ⟨g, 0, none⟩ = some (.slice A b.length c) ∧ w'.cell? ⟨g, 1, none⟩ = some (.int .i64 (p : Int))) (first | exact ⟨hc0, hc1⟩ | go_keep) (first
        | (go_at_call 65; refine (HE.out _).mono ?_; rintro e w2 ⟨rfl, ⟨n2, rfl⟩⟩)
        | (go_at_call 69; refine (HGG.out _).mono ?_; rintro e w3 ⟨rfl, ⟨n3, rfl⟩⟩))
      all_goals
        go_wp2_with fail
        go_ret
        exact ⟨rfl, _, (H.out.drewN _).set1 _, (Fr.none _ _ _ _).kept ((Kept.refl _ _).set_ 1 _) (.inl rfl)⟩
/-- long. -/
theorem long_m {w : World} {B g : Nat} {A : Option Addr} {c : Nat} {b : List Int} {p : Int} {v : Value} {ends : List Int} (h : IsM w B g A c b p v ends) (hi : Inv b.length p ends) (_hB : B ≤ w.heap.size) (hb : ∀ x ∈ b, 0 ≤ x ∧ x ≤ 255) (hbl : b.length ≤ 140737488359000) :
    Calls Try.prog 72 #[.pointer (some ⟨g, 0, none⟩)] w fun e w' => e = .returned (.int .i64 (lg b p ends).1) ∧ MovedM w B g A c b v (lg b p ends).2.1 (lg b p ends).2.2 w' := by
  have HV := Aside0.mk (Varint_m h hi _hB hb hbl)
  have hv := vD_facts hi hb
  have hl := inv_last hi
  have hp := vl_pos hi hb
  unfold lg
  by_cases h0 : (vD b p ends).2 = 0
  · rw [if_pos h0]
    unfold nx at HV
    rw [if_pos h0, hv.2.2.2.2 h0] at HV
    clear hi hb hbl h hv hl hp h0
    go_enter Try.func72, Try.ntmps72
    go_wp2_with (first
      | (go_at_call 40; refine HV.out.mono ?_; rintro e w1 ⟨rfl, v1, h1, f1⟩; have H1 := Aside0.mk h1; have F1 := Aside0.mk f1; have hc3 := h1.bad rfl; clear h1 f1))
    go_quiet (fail)
    go_wp2_with fail
    go_ret
    exact ⟨rfl, v1, H1.out.drewN _, F1.out.drew _⟩
  · rw [if_neg h0]
    unfold nx at HV
    rw [if_neg h0] at HV
    have hn := hp h0
    obtain ⟨D, hD⟩ : ∃ D, D = vD b p ends := ⟨_, rfl⟩
    rw [← hD] at HV hv ⊢
    obtain ⟨L, hL⟩ : ∃ L, L = last ends := ⟨_, rfl⟩
    rw [← hL] at hv hl ⊢
    obtain ⟨q, hq⟩ : ∃ q, q = p + D.2 := ⟨_, rfl⟩
    rw [← hq] at HV ⊢
    have hq0 : 0 ≤ L - q ∧ L - q ≤ 9223372036854775807 := by have := h.lmax; omega
    have HN := Aside0.mk hn
    have HL := Aside0.mk hL
    have hd0 := hv.1
    have hd1 := hv.2.1
    clear hi hb hbl h hv hl hp h0 hD hq hn hL
    have hw1 : IntKind.i64.wrap (L - q) = L - q := by rw [IntKind.wrap_i64]; omega
    have hw2 : IntKind.u64.wrap (L - q) = L - q := by rw [IntKind.wrap_u64]; omega
    obtain ⟨d, ds⟩ := D
    simp only at HV hd0 hd1 ⊢
    by_cases hgt : d > L - q
    · rw [if_pos hgt]
      go_enter Try.func72, Try.ntmps72
      go_wp2_with (first
        | (go_at_call 40; refine HV.out.mono ?_; rintro e w1 ⟨rfl, v1, h1, f1⟩; have H1 := Aside0.mk h1; have F1 := Aside0.mk f1; have hc3 := h1.good HN.out; have hc1 : w1.cell? ⟨g, 1, none⟩ = some (.int .i64 q) := (blk_cell h1.blk 1).trans rfl; clear h1 f1))
      have HE := Aside0.mk (fun n => end_m (H1.out.drewN n) HN.out)
      rw [← HL.out] at HE
      go_quiet ((go_at_call 65; exact quiet (HE.out _)))
      go_wp2_with (first
        | (go_at_call 66; refine (fail_m (H1.out.drewN _)).mono ?_; rintro e w4 ⟨rfl, h4, k4⟩; have H4 := Aside0.mk h4; have K4 := Aside0.mk k4; have hd3 := h4.bad rfl; clear h4 k4))
      go_ret
      exact ⟨rfl, _, H4.out, (F1.out.drew _).kept K4.out (.inr rfl)⟩
    · rw [if_neg hgt]
      have hw3 : IntKind.i64.wrap d = d := by rw [IntKind.wrap_i64]; omega
      go_enter Try.func72, Try.ntmps72
      go_wp2_with (first
        | (go_at_call 40; refine HV.out.mono ?_; rintro e w1 ⟨rfl, v1, h1, f1⟩; have H1 := Aside0.mk h1; have F1 := Aside0.mk f1; have hc3 := h1.good HN.out; have hc1 : w1.cell? ⟨g, 1, none⟩ = some (.int .i64 q) := (blk_cell h1.blk 1).trans rfl; clear h1 f1))
      have HE := Aside0.mk (fun n => end_m (H1.out.drewN n) HN.out)
      rw [← HL.out] at HE
      go_quiet ((go_at_call 65; exact quiet (HE.out _)))
      go_wp2_with fail
      go_ret
      exact ⟨rfl, _, H1.out.drewN _, F1.out.drew _⟩
/-- Text. -/
theorem Text_m {w : World} {B g : Nat} {A : Option Addr} {c : Nat} {b : List Int} {p : Int} {v : Value} {ends : List Int} (h : IsM w B g A c b p v ends) (hi : Inv b.length p ends) (_hB : B ≤ w.heap.size) (hb : ∀ x ∈ b, 0 ≤ x ∧ x ≤ 255) (hbl : b.length ≤ 140737488359000) :
    Calls Try.prog 44 #[.pointer (some ⟨g, 0, none⟩)] w fun e w' => e = .returned (.string (strOfNums (txt b p ends).1)) ∧ MovedM w B g A c b v (txt b p ends).2.1 (txt b p ends).2.2 w' := by
  have HL := Aside0.mk (long_m h hi _hB hb hbl)
  obtain ⟨hlg, hil⟩ := lg_facts hi hb
  unfold txt
  by_cases h0 : (lg b p ends).1 < 0
  · rw [if_pos h0]
    rcases hlg with hlg | hlg
    · rw [hlg] at HL
      clear h hi hb hbl hil hlg h0
      go_enter Try.func44, Try.ntmps44
      go_wp2_with (first | (go_at_call 72; refine HL.out.mono ?_; rintro e w1 ⟨rfl, h1⟩; have H1 := Aside0.mk h1; clear h1))
      go_ret
      exact ⟨rfl, H1.out⟩
    · omega
  · rw [if_neg h0]
    rcases hlg with hlg | hlg
    · rw [hlg] at h0
      exact absurd (show ((-1 : Int) < 0) by decide) h0
    · obtain ⟨hn, hd0, hq0, hd1, he⟩ := hlg
      have hil2 := inv_last hil
      rw [he] at HL hil2
      have lc := h.lc
      have lm := h.lmax
      obtain ⟨D, hD⟩ : ∃ D, D = lg b p ends := ⟨_, rfl⟩
      rw [← hD] at HL hd0 hq0 hd1 hil2 ⊢
      obtain ⟨d, q, e⟩ := D
      simp only at HL hd0 hq0 hd1 hil2 ⊢
      have hsum : q + d ≤ b.length := by omega
      obtain ⟨i8, hi8, hs8⟩ := Option.map_eq_some_iff.1 M.elem8
      have hsl := cut_mid (P := Try.prog) 23 5 .i64 .i64 Try.underlying23 hi8 1 hs8 A b.length c q (q + d) (by omega) (by omega) hsum lc
      have hq1 : 0 ≤ q := by omega
      have hlen : ((b.take (q + d).toNat).drop q.toNat).length = (q + d).toNat - q.toNat := by rw [List.length_drop, List.length_take]; omega
      have hmid : ∀ (W : World) (v : Value) (p : Int), IsM W B g A c b p v ends → (convert 23 9 (.slice (if c = q.toNat then A else A.map (·.add (q.toNat * 1))) ((q + d).toNat - q.toNat) (c - q.toNat))).run Try.prog W = .ok (.string (strOfNums ((b.take (q + d).toNat).drop q.toNat))) W := fun W v p hW => by
        have h1 := Kd.C_mid (c := c) (lo := q.toNat) (hi := (q + d).toNat) hW.rd (by omega) (by omega) lc
        rw [hlen] at h1
        exact Kd.C_string Try.underlying23 Try.underlying5 Try.underlying9 h1
      obtain ⟨T, hT⟩ : ∃ T, T = strOfNums ((b.take (q + d).toNat).drop q.toNat) := ⟨_, rfl⟩
      simp only [← hT] at hmid ⊢
      obtain ⟨S2, hS2⟩ : ∃ S2 : Value, S2 = (.slice (if c = q.toNat then A else A.map (·.add (q.toNat * 1))) ((q + d).toNat - q.toNat) (c - q.toNat)) := ⟨_, rfl⟩
      simp only [← hS2] at hmid hsl
      have HM := Aside0.mk hmid
      have hw : IntKind.i64.wrap (q + d) = q + d := by rw [IntKind.wrap_i64]; omega
      have hw2 : IntKind.i64.wrap (q + d - d) = q := by rw [IntKind.wrap_i64]; omega
      have hw3 : IntKind.i64.wrap q = q := by rw [IntKind.wrap_i64]; omega
      clear hil hD he h0 hn hi hb hbl hT hS2 hlen hmid h lc lm hil2 hd1 hq0 hsum hi8 hs8 hq1
      go_enter Try.func44, Try.ntmps44
      go_wp2_with (first | (go_at_call 72; refine HL.out.mono ?_; rintro e w1 ⟨rfl, v1, h1, f1⟩; have H1 := Aside0.mk h1; have F1 := Aside0.mk f1; have hc1 : w1.cell? ⟨g, 1, none⟩ = some (.int .i64 q) := (blk_cell h1.blk 1).trans rfl; have hg1 := blk_frozen h1.blk 1; clear h1 f1))
      have h4 := H1.out.set1 (q + d)
      have k4 := (Kept.refl w1 g).set_ 1 (.int .i64 (q + d))
      obtain ⟨W4, hW4⟩ : ∃ W, W = w1.setCell ⟨g, 1, none⟩ (.int .i64 (q + d)) := ⟨_, rfl⟩
      rw [← hW4] at h4 k4 ⊢
      clear hW4 hc1 hg1
      have hd0 : W4.cell? ⟨g, 0, none⟩ = some (.slice A b.length c) := (blk_cell h4.blk 0).trans rfl
      have hd1 : W4.cell? ⟨g, 1, none⟩ = some (.int .i64 (q + d)) := (blk_cell h4.blk 1).trans rfl
      have hcv := fun n => HM.out _ _ _ (h4.drewN n)
      have H4 := Aside0.mk h4
      have K4 := Aside0.mk k4
      clear h4 k4
      go_quiet (fail)
      go_wp2_with fail
      go_ret
      exact ⟨rfl, _, H4.out.drewN _, (F1.out.kept K4.out (.inl rfl)).drew _⟩
theorem split_m {w : World} (u : Int) (h0 : 0 ≤ u) (h1 : u ≤ 18446744073709551615) : Calls Try.prog 74 #[.int .u64 u] w fun e w' => e = .returned (.tuple #[.int .i64 (spl u).1, .int .i64 (spl u).2.1, .bool (spl u).2.2]) ∧ Drawn0 w w' :=
  PLib.ecdysisref04_Split.calls u _ _ _ w (VLib.refsplit u h0 h1)
/-- Tag. -/
theorem Tag_m {w : World} {B g : Nat} {A : Option Addr} {c : Nat} {b : List Int} {p : Int} {v : Value} {ends : List Int} (h : IsM w B g A c b p v ends) (hi : Inv b.length p ends) (_hB : B ≤ w.heap.size) (hb : ∀ x ∈ b, 0 ≤ x ∧ x ≤ 255) (hbl : b.length ≤ 140737488359000) :
    Calls Try.prog 46 #[.pointer (some ⟨g, 0, none⟩)] w fun e w' => e = .returned (.tuple #[.int .i64 (tg b p ends).1.1, .int .i64 (tg b p ends).1.2]) ∧ MovedM w B g A c b v (tg b p ends).2.1 (tg b p ends).2.2 w' := by
  have HV := Aside0.mk (Varint_m h hi _hB hb hbl)
  have hv := vD_facts hi hb
  have hp := vl_pos hi hb
  unfold tg
  by_cases h0 : (vD b p ends).2 = 0
  · rw [if_pos h0]
    unfold nx at HV
    rw [if_pos h0, hv.2.2.2.2 h0] at HV
    have HS := Aside0.mk (fun w => split_m (w := w) 0 (by decide) (by decide))
    rw [show spl 0 = (0, 0, false) by decide] at HS
    clear hi hb hbl h hv hp h0
    go_enter Try.func46, Try.ntmps46
    go_wp2_with (first
      | (go_at_call 40; refine HV.out.mono ?_; rintro e w1 ⟨rfl, v1, h1, f1⟩; have H1 := Aside0.mk h1; have F1 := Aside0.mk f1; clear h1 f1)
      | (go_at_call 74; refine (HS.out _).mono ?_; rintro e w3 ⟨rfl, hd3⟩; have H3 := Aside0.mk (H1.out.drawn hd3); have F3 := Aside0.mk (F1.out.drawn hd3); have hc3 := H3.out.bad rfl; clear hd3))
    go_ret2
    exact ⟨rfl, _, H3.out, F3.out⟩
  · rw [if_neg h0]
    unfold nx at HV
    rw [if_neg h0] at HV
    have HN := Aside0.mk (hp h0)
    obtain ⟨q, hq⟩ : ∃ q, q = p + (vD b p ends).2 := ⟨_, rfl⟩
    rw [← hq] at HV ⊢
    obtain ⟨u, hu⟩ : ∃ u, u = (vD b p ends).1 := ⟨_, rfl⟩
    rw [← hu] at HV hv ⊢
    have HS := Aside0.mk (fun w => split_m (w := w) u hv.1 hv.2.1)
    by_cases hs : (spl u).2.2 = true
    · rw [if_pos hs]
      obtain ⟨S, hS⟩ : ∃ S, S = spl u := ⟨_, rfl⟩
      rw [← hS] at HS hs ⊢
      obtain ⟨s1, s2, s3⟩ := S
      simp only at HS hs ⊢
      subst hs
      clear hi hb hbl h hv hp h0 hq hu hS
      go_enter Try.func46, Try.ntmps46
      go_wp2_with (first
        | (go_at_call 40; refine HV.out.mono ?_; rintro e w1 ⟨rfl, v1, h1, f1⟩; have H1 := Aside0.mk h1; have F1 := Aside0.mk f1; clear h1 f1)
        | (go_at_call 74; refine (HS.out _).mono ?_; rintro e w3 ⟨rfl, hd3⟩; have H3 := Aside0.mk (H1.out.drawn hd3); have F3 := Aside0.mk (F1.out.drawn hd3); have hc3 := H3.out.good HN.out; clear hd3))
      go_ret2
      exact ⟨rfl, _, H3.out, F3.out⟩
    · rw [if_neg hs]
      rw [spl_no hs] at HS
      clear hi hb hbl h hv hp h0 hq hu hs
      go_enter Try.func46, Try.ntmps46
      go_wp2_with (first
        | (go_at_call 40; refine HV.out.mono ?_; rintro e w1 ⟨rfl, v1, h1, f1⟩; have H1 := Aside0.mk h1; have F1 := Aside0.mk f1; clear h1 f1)
        | (go_at_call 74; refine (HS.out _).mono ?_; rintro e w3 ⟨rfl, hd3⟩; have H3 := Aside0.mk (H1.out.drawn hd3); have F3 := Aside0.mk (F1.out.drawn hd3); have hc3 := H3.out.good HN.out; clear hd3)
        | (go_at_call 66; refine (fail_m H3.out).mono ?_; rintro e w4 ⟨rfl, h4, k4⟩; have H4 := Aside0.mk h4; have K4 := Aside0.mk k4; have hd3 := h4.bad rfl; clear h4 k4))
      go_ret2
      exact ⟨rfl, _, H4.out, F3.out.kept K4.out (.inr rfl)⟩
/-- Behind an append to the ends, ahead of the store. -/
structure AppM (w w5 : World) (B g : Nat) (A : Option Addr) (c : Nat) (b : List Int) (p : Int) (v v2 : Value) (ends2 : List Int) : Prop where
  blk : w5.heap[g]? = some (.cells #[.slice A b.length c, .int .i64 p, v, .bool (decide (ends2.length = 0))] 65 (0, 0))
  row : Kd.R (Kd.int .i64) 3 w5 B (fun k => k ≠ g) v2 ends2
  rd : Kd.C (Kd.int .u8) w5 A b.length b
  fr : Fr w w5 g v v2
section
variable {ops : Array Oper} {o : Oper} {a : Act} {Q : Exit → Act → World → Prop} {K : Act → World → Prop}
theorem app_stepM {w W : World} {B g : Nat} {A : Option Addr} {c : Nat} {b : List Int} {p x : Int} {v : Value} {ends : List Int} (H : IsM w B g A c b p v ends) (hn : 0 < ends.length) (hbw : Below w.heap.size w W) (hB : B ≤ w.heap.size) (hl : ends.length + 1 ≤ 1000000000000)
    (hw : Region.wanted o (yielded ops a.tmps) = true) (s y : Operand) (ho : o.op = .call { callee := .builtin .append, args := #[s, y], argTypes := #[39, 39] })
    (hs : a.eval s = v) (hy : a.eval y = .slice (some ⟨W.heap.size, 0, none⟩) 1 1)
    {WW : World} (hWW : WW = W.alloc (.cells #[.int .i64 x] 3))
    (h : ∀ v2 w5, AppM w w5 B g A c b p v v2 (ends ++ [x]) → K (a.put o.dst v2) w5) :
    if Region.wanted o (yielded ops a.tmps) = true then Oper.wp Try.prog o a WW K Q else K (a.put o.dst undef) WW := by
  subst hWW
  have hg := blk_lt H.blk
  have hsz := hbw.size
  refine Kd.R_append_step (Kd.int .i64) (w0 := W) B hw s y 39 3 (.int .i64 0) 8 ho Try.underlying39 info3 rfl (by decide) (by omega) v ends x [.int .i64 x] (fun k => k ≠ g) (fun _ => False) hs hy rfl (fun _ hk => hk.elim) (fun k hk => by omega) (Kd.R_below H.row hbw) (Below.refl _ _) (by omega) (by omega) ?_
  intro v2 w5 hr hb hgw hat
  have hbw' : ∀ i, i < w.heap.size → some i ≠ v.ownBlock → w5.heap[i]? = w.heap[i]? := fun i hi hne => (hgw.block i (by omega) hne).trans (hbw.block i hi)
  have hgo : some g ≠ v.ownBlock := fun he => H.row.1 g he.symm rfl
  have hblk := H.blk
  rw [show (decide (ends.length = 0)) = decide ((ends ++ [x]).length = 0) by rw [decide_eq_false (by omega), decide_eq_false (by simp)]] at hblk
  refine h v2 w5 ⟨(hbw' g hg hgo).trans hblk, hr, C_move H.rd (fun ad h1 h2 => hbw' _ ?_ ?_), ⟨⟨Nat.le_trans hsz hgw.size, fun i h1 h2 h3 => hbw' i h1 h3⟩, ⟨hgw.os.trans hbw.os, hgw.tape.trans hbw.tape, hgw.output.trans hbw.output⟩, ?_⟩⟩
  · have := H.ap ad h1 h2; omega
  · intro he
    have h3 := H.ap ad h1 h2
    obtain ⟨_, inner, ho2, _⟩ := H.row
    have := own_base ho2 ad.block he.symm
    omega
  · rcases hat with e | ⟨k, e, hk⟩
    · exact .inr (.inl e)
    · exact .inr (.inr ⟨k, e, by omega⟩)
end
theorem set2M {w w5 : World} {B g : Nat} {A : Option Addr} {c : Nat} {b : List Int} {p : Int} {v v2 : Value} {ends2 : List Int} (P : AppM w w5 B g A c b p v v2 ends2) (lc : b.length ≤ c) (ge : B ≤ g) (ap : ∀ ad, A = some ad → 0 < b.length → ad.block < B) : MovedM w B g A c b v p ends2 (w5.setCell ⟨g, 2, none⟩ v2) := by
  have hk : Kept w5 (w5.setCell ⟨g, 2, none⟩ v2) g := (Kept.refl w5 g).set_ 2 v2
  exact ⟨v2, ⟨blk_put P.blk 2 _ rfl, Kd.R_keep P.row hk.1 (fun _ hh => hh), Kd.C_keep (d := 0) P.rd hk.1 (fun ad h1 h2 => by have := ap ad h1 h2; omega), lc, ge, ap⟩, P.fr.kept hk (.inl rfl)⟩
/-- Open. -/
theorem Open_m {w : World} {B g : Nat} {A : Option Addr} {c : Nat} {b : List Int} {p : Int} {v : Value} {ends : List Int} (h : IsM w B g A c b p v ends) (hi : Inv b.length p ends) (_hB : B ≤ w.heap.size) (hb : ∀ x ∈ b, 0 ≤ x ∧ x ≤ 255) (hbl : b.length ≤ 140737488359000) (hnl : ends.length + 1 ≤ 1000000000000) :
    Calls Try.prog 47 #[.pointer (some ⟨g, 0, none⟩)] w fun e w' => e = .returned (.bool (op b p ends).1) ∧ MovedM w B g A c b v (op b p ends).2.1 (op b p ends).2.2 w' := by
  have HL := Aside0.mk (long_m h hi _hB hb hbl)
  obtain ⟨hlg, hil⟩ := lg_facts hi hb
  unfold op
  by_cases h0 : (lg b p ends).1 < 0
  · rw [if_pos h0]
    rcases hlg with hlg | hlg
    · rw [hlg] at HL
      clear h hi hb hbl hil hlg h0
      go_enter Try.func47, Try.ntmps47
      go_wp2_with (first | (go_at_call 72; refine HL.out.mono ?_; rintro e w1 ⟨rfl, h1⟩; have H1 := Aside0.mk h1; clear h1))
      go_ret
      exact ⟨rfl, H1.out⟩
    · omega
  · rw [if_neg h0]
    rcases hlg with hlg | hlg
    · rw [hlg] at h0
      exact absurd (show ((-1 : Int) < 0) by decide) h0
    · obtain ⟨hn, hd0, hq0, hd1, he⟩ := hlg
      have hil2 := inv_last hil
      rw [he] at HL hil2
      have lm := h.lmax
      obtain ⟨D, hD⟩ : ∃ D, D = lg b p ends := ⟨_, rfl⟩
      rw [← hD] at HL hd0 hq0 hd1 hil2 ⊢
      obtain ⟨d, q, e⟩ := D
      simp only at HL hd0 hq0 hd1 hil2 ⊢
      have hw : IntKind.i64.wrap (q + d) = q + d := by rw [IntKind.wrap_i64]; omega
      have HB := Aside0.mk _hB
      have HNL := Aside0.mk hnl
      have HN := Aside0.mk hn
      clear hil hD he h0 hn hi hb hbl h lm hil2 hd1 hq0 hnl
      go_enter Try.func47, Try.ntmps47
      go_wp2_with (first | (go_at_call 72; refine HL.out.mono ?_; rintro e w1 ⟨rfl, v1, h1, f1⟩; have H1 := Aside0.mk h1; have F1 := Aside0.mk f1; have hc1 : w1.cell? ⟨g, 1, none⟩ = some (.int .i64 q) := (blk_cell h1.blk 1).trans rfl; have hc2 : w1.cell? ⟨g, 2, none⟩ = some v1 := (blk_cell h1.blk 2).trans rfl; clear h1 f1))
      have HB1 := Aside0.mk (Nat.le_trans HB.out F1.out.1.1)
      obtain ⟨A1, c1, rfl⟩ := Kd.R_slice H1.out.row
      refine start_ (n := 16) (S := fun w' => w'.cell? ⟨g, 1, none⟩ = some (.int .i64 q) ∧ w'.cell? ⟨g, 2, none⟩ = some (.slice A1 ends.length c1)) (ds := [15]) #[false, false, false, false, false, false, false, false, false, false, false, false, false, false, false, false] (by kernel_rfl) rfl rfl ⟨hc1, hc2⟩ (fun hHeld => ?_)
      refine pure_ (i := 0) (N := some 8) (v := ?_) (a' := ?_) #[true, false, false, false, false, false, false, false, false, false, false, false, false, false, false, false] rfl rfl (by kernel_rfl) (fun _ _ _ h => h) (Or.inl ⟨by rfl, ?_⟩) ?_ ?_
      rotate_left
      · intro w'
        go_simp
        with_reducible rfl
      rotate_left
      · simp only [Act.put, List.setIfInBounds_toArray, List.set_cons_zero, List.set_cons_succ, i64_w, i32_w]
        rfl
      refine pure_ (i := 1) (N := some 9) (v := ?_) (a' := ?_) #[true, true, false, false, false, false, false, false, false, false, false, false, false, false, false, false] rfl rfl (by kernel_rfl) (fun _ _ _ h => h) (Or.inl ⟨by rfl, ?_⟩) ?_ ?_
      rotate_left
      · intro w'
        go_simp
        with_reducible rfl
      rotate_left
      · simp only [Act.put, List.setIfInBounds_toArray, List.set_cons_zero, List.set_cons_succ, i64_w, i32_w]
        rfl
      refine pure_ (i := 2) (N := some 10) (v := ?_) (a' := ?_) #[true, true, true, false, false, false, false, false, false, false, false, false, false, false, false, false] rfl rfl (by kernel_rfl) (fun _ _ _ h => h) (Or.inl ⟨by rfl, ?_⟩) ?_ ?_
      rotate_left
      · intro w'
        go_simp
        with_reducible rfl
      rotate_left
      · simp only [Act.put, List.setIfInBounds_toArray, List.set_cons_zero, List.set_cons_succ, i64_w, i32_w]
        rfl
      refine pure_ (i := 3) (N := some 11) (v := ?_) (a' := ?_) #[true, true, true, true, false, false, false, false, false, false, false, false, false, false, false, false] rfl rfl (by kernel_rfl) (fun _ _ _ h => h) (Or.inl ⟨by rfl, ?_⟩) ?_ ?_
      rotate_left
      · intro w'
        go_simp
        with_reducible rfl
      rotate_left
      · simp only [Act.put, List.setIfInBounds_toArray, List.set_cons_zero, List.set_cons_succ, i64_w, i32_w]
        rfl
      refine pure_ (i := 5) (N := some 13) (v := ?_) (a' := ?_) #[true, true, true, true, false, true, false, false, false, false, false, false, false, false, false, false] rfl rfl (by kernel_rfl) (fun _ _ _ h => h) (Or.inl ⟨by rfl, ?_⟩) ?_ ?_
      rotate_left
      · intro w'
        go_simp
        with_reducible rfl
      rotate_left
      · simp only [Act.put, List.setIfInBounds_toArray, List.set_cons_zero, List.set_cons_succ, i64_w, i32_w]
        rfl
      refine pure_ (i := 6) (N := some 14) (v := ?_) (a' := ?_) #[true, true, true, true, false, true, true, false, false, false, false, false, false, false, false, false] rfl rfl (by kernel_rfl) (fun _ _ _ h => h) (Or.inl ⟨by rfl, ?_⟩) ?_ ?_
      rotate_left
      · intro w'
        go_simp
        with_reducible rfl
      rotate_left
      · simp only [Act.put, List.setIfInBounds_toArray, List.set_cons_zero, List.set_cons_succ, i64_w, i32_w]
        rfl
      refine pure_ (i := 7) (N := some 15) (v := ?_) (a' := ?_) #[true, true, true, true, false, true, true, true, false, false, false, false, false, false, false, false] rfl rfl (by kernel_rfl) (fun _ _ _ h => h) (Or.inl ⟨by rfl, ?_⟩) ?_ ?_
      rotate_left
      · intro w'
        go_simp
        with_reducible rfl
      rotate_left
      · simp only [Act.put, List.setIfInBounds_toArray, List.set_cons_zero, List.set_cons_succ, i64_w, i32_w]
        rfl
      refine pure_ (i := 9) (N := some 17) (v := ?_) (a' := ?_) #[true, true, true, true, false, true, true, true, false, true, false, false, false, false, false, false] rfl rfl (by kernel_rfl) (fun _ _ _ h => h) (Or.inl ⟨by rfl, ?_⟩) ?_ ?_
      rotate_left
      · intro w'
        go_simp
        with_reducible rfl
      rotate_left
      · simp only [Act.put, List.setIfInBounds_toArray, List.set_cons_zero, List.set_cons_succ, i64_w, i32_w]
        rfl
      refine take_ (i := 4) (N := some 12) (v := ?_) (a' := ?_) #[true, true, true, true, true, true, true, true, false, true, false, false, false, false, false, false] rfl rfl (by kernel_rfl) (fun _ _ _ h => h) (Or.inl ⟨by rfl, ?_⟩) hHeld ?_ ?_
      rotate_left
      · rintro w' ⟨s0, s1⟩
        go_simp
        with_reducible rfl
      rotate_left
      · simp only [Act.put, List.setIfInBounds_toArray, List.set_cons_zero, List.set_cons_succ, i64_w, i32_w]
        rfl
      refine take_ (i := 8) (N := some 16) (v := ?_) (a' := ?_) #[true, true, true, true, true, true, true, true, true, true, false, false, false, false, false, false] rfl rfl (by kernel_rfl) (fun _ _ _ h => h) (Or.inl ⟨by rfl, ?_⟩) hHeld ?_ ?_
      rotate_left
      · rintro w' ⟨s0, s1⟩
        go_simp
        with_reducible rfl
      rotate_left
      · simp only [Act.put, List.setIfInBounds_toArray, List.set_cons_zero, List.set_cons_succ, i64_w, i32_w]
        rfl
      refine pure_ (i := 10) (N := some 18) (v := ?_) (a' := ?_) #[true, true, true, true, true, true, true, true, true, true, true, false, false, false, false, false] rfl rfl (by kernel_rfl) (fun _ _ _ h => h) (Or.inl ⟨by rfl, ?_⟩) ?_ ?_
      rotate_left
      · intro w'
        go_simp
        with_reducible rfl
      rotate_left
      · simp only [Act.put, List.setIfInBounds_toArray, List.set_cons_zero, List.set_cons_succ, i64_w, i32_w]
        rfl
      refine one_ (i := 11) (N := some 19) #[true, true, true, true, true, true, true, true, true, true, true, true, false, false, false, false] rfl rfl (by kernel_rfl) (by decide) (fun K hK => ?_)
      refine value_ (w1 := ?_) (v := ?_) (by rfl) rfl ?_ ?_
      rotate_left 2
      · go_simp
        constructor
        · rfl
        · rfl
      refine hK.out _ _ ⟨(by go_keep), (by go_keep)⟩ (fun hHeld => ?_)
      clear hK K
      refine norm_ (a' := ?_) ?_ ?_
      rotate_left
      · show Act.put _ (some 19) _ = _
        simp only [Act.put, List.setIfInBounds_toArray, List.set_cons_zero, List.set_cons_succ, i64_w, i32_w]
        rfl
      refine one_ (i := 12) (N := some 20) #[true, true, true, true, true, true, true, true, true, true, true, true, true, false, false, false] rfl rfl (by kernel_rfl) (by decide) (fun K hK => ?_)
      refine app_stepM (x := q + d) (W := w1.drew) H1.out HN.out (below_drew (Below.refl _ _)) HB1.out HNL.out ?hw (.tmp 12) (.tmp 19) ?ho ?hs ?hy ?hWW ?hk
      · rfl
      · rfl
      · rfl
      · rfl
      · rfl
      intro v2 w5 hp5
      obtain ⟨A2, c2, rfl⟩ := Kd.R_slice hp5.row
      have P5 := Aside0.mk hp5
      have hg5 := blk_frozen hp5.blk 2
      have hd1 : w5.cell? ⟨g, 1, none⟩ = some (.int .i64 q) := (blk_cell hp5.blk 1).trans rfl
      have hd2 : w5.cell? ⟨g, 2, none⟩ = some (.slice A1 ends.length c1) := (blk_cell hp5.blk 2).trans rfl
      clear hp5
      refine hK.out _ _ ⟨hd1, hd2⟩ (fun hHeld => ?_)
      clear hK K
      refine norm_ (a' := ?_) ?_ ?_
      rotate_left
      · show Act.put _ (some 20) _ = _
        simp only [Act.put, List.setIfInBounds_toArray, List.set_cons_zero, List.set_cons_succ, i64_w, i32_w]
        rfl
      refine pure_ (i := 13) (N := some 21) (v := ?_) (a' := ?_) #[true, true, true, true, true, true, true, true, true, true, true, true, true, true, false, false] rfl rfl (by kernel_rfl) (fun _ _ _ h => h) (Or.inl ⟨by rfl, ?_⟩) ?_ ?_
      rotate_left
      · intro w'
        go_simp
        with_reducible rfl
      rotate_left
      · simp only [Act.put, List.setIfInBounds_toArray, List.set_cons_zero, List.set_cons_succ, i64_w, i32_w]
        rfl
      refine pure_ (i := 14) (N := some 22) (v := ?_) (a' := ?_) #[true, true, true, true, true, true, true, true, true, true, true, true, true, true, true, false] rfl rfl (by kernel_rfl) (fun _ _ _ h => h) (Or.inl ⟨by rfl, ?_⟩) ?_ ?_
      rotate_left
      · intro w'
        go_simp
        with_reducible rfl
      rotate_left
      · simp only [Act.put, List.setIfInBounds_toArray, List.set_cons_zero, List.set_cons_succ, i64_w, i32_w]
        rfl
      refine last_ (i := 15) (N := none) #[true, true, true, true, true, true, true, true, true, true, true, true, true, true, true, true] rfl rfl (by kernel_rfl) (by decide) (fun K hK => ?_)
      refine skip_ (w1 := ?_) (by rfl) rfl ?_ ?_
      rotate_left
      · go_simp
        rfl
      refine hK.out _ _ ?_
      clear hK K
      refine done_ (by kernel_rfl) ?_
      go_wp2_with fail
      go_ret
      have hm := set2M P5.out H1.out.lc H1.out.ge H1.out.ap
      rw [show (ends ++ [q + d]).length = ends.length + 1 by simp] at hm
      exact ⟨rfl, hm.after F1.out⟩
/-- Close. -/
theorem Close_m {w : World} {B g : Nat} {A : Option Addr} {c : Nat} {b : List Int} {p : Int} {v : Value} {ends : List Int} (h : IsM w B g A c b p v ends) :
    Calls Try.prog 48 #[.pointer (some ⟨g, 0, none⟩)] w fun e w' => e = .returned (.bool (cl p ends).1) ∧ MovedM w B g A c b v (cl p ends).2.1 (cl p ends).2.2 w' := by
  obtain ⟨A2, c2, rfl⟩ := Kd.R_slice h.row
  have hc1 : w.cell? ⟨g, 1, none⟩ = some (.int .i64 p) := (blk_cell h.blk 1).trans rfl
  have hc2 : w.cell? ⟨g, 2, none⟩ = some (.slice A2 ends.length c2) := (blk_cell h.blk 2).trans rfl
  have hg2 := blk_frozen h.blk 2
  have H := Aside0.mk h
  have hlm : ends.length ≤ 9223372036854775807 := Kd.C_max (Kd.R_reads' h.row).2.2
  unfold cl
  by_cases hn : ends.length ≤ 1
  · rw [if_pos (.inl hn)]
    by_cases hn0 : ends.length = 0
    · have hc3 := h.bad hn0
      clear h hn hlm hc1 hc2 hg2 hn0
      go_enter Try.func48, Try.ntmps48
      go_wp2_with fail
      go_quiet (fail)
      go_wp2_with fail
      go_ret
      exact ⟨rfl, _, H.out.drewN _, Fr.none _ _ _ _⟩
    · have hn1 : ends.length = 1 := by omega
      have hc3 := h.good (by omega)
      rw [hn1] at hc2
      clear h hn hlm hc1 hg2 hn0
      go_enter Try.func48, Try.ntmps48
      go_wp2_with fail
      go_quiet (fail)
      go_wp2_with fail
      go_ret
      exact ⟨rfl, _, H.out.drewN _, Fr.none _ _ _ _⟩
  · obtain ⟨m, hm⟩ : ∃ m, ends.length = m + 2 := ⟨ends.length - 2, by omega⟩
    have hc3 := h.good (by omega)
    have HE := Aside0.mk (fun n => end_m (h.drewN n) (by omega))
    rw [hm] at hc2 hlm
    have hne : ((m : Int) + 2 == 1) = false := by rw [beq_eq_false_iff_ne]; omega
    obtain ⟨L, hL⟩ : ∃ L, L = last ends := ⟨_, rfl⟩
    rw [← hL] at HE ⊢
    by_cases hp : p = L
    · rw [if_neg (by omega)]
      have hcap : m + 2 ≤ c2 := by
        obtain ⟨_, inner, ho, _⟩ := h.row
        rcases ho.2 with ⟨_, h0⟩ | ⟨g', cap, cur, he, _, _, h1, _⟩
        · omega
        · injection he with _ _ he
          omega
      have hrow := Kd.R_take (m := m + 1) h.row (by omega)
      rw [← show ends.dropLast = ends.take (m + 1) by rw [List.dropLast_eq_take, hm]; rfl] at hrow
      have HR := Aside0.mk hrow
      have hsl := cut_to (P := Try.prog) 39 3 .i64 Try.underlying39 (Option.map_eq_some_iff.1 info3).choose_spec.1 A2 (m + 2) c2 ((m : Int) + 1) (by omega) (by omega) hcap
      have ht : ((m : Int) + 1).toNat = m + 1 := by omega
      rw [ht] at hsl
      have hw : IntKind.i64.wrap ((m : Int) + 2 - 1) = (m : Int) + 1 := by rw [IntKind.wrap_i64]; omega
      have hpp : (L == L) = true := beq_self_eq_true L
      have HD := Aside0.mk (show decide (ends.length = 0) = decide (ends.dropLast.length = 0) by rw [decide_eq_false (by omega), decide_eq_false (by rw [List.length_dropLast]; omega)])
      subst hp
      clear h hn hlm hL hrow ht hcap hc1
      have hc1 : w.cell? ⟨g, 1, none⟩ = some (.int .i64 p) := (blk_cell H.out.blk 1).trans rfl
      go_enter Try.func48, Try.ntmps48
      go_wp2_with fail
      go_quiet ((go_at_call 65; exact quiet (HE.out _)))
      go_wp2_with fail
      refine start_ (n := 15) (S := fun w' => w'.cell? ⟨g, 2, none⟩ = some (.slice A2 (m + 2) c2)) (ds := [14]) #[false, false, false, false, false, false, false, false, false, false, false, false, false, false, false] (by kernel_rfl) rfl rfl (hc2) (fun hHeld => ?_)
      refine pure_ (i := 0) (N := some 24) (v := ?_) (a' := ?_) #[true, false, false, false, false, false, false, false, false, false, false, false, false, false, false] rfl rfl (by kernel_rfl) (fun _ _ _ h => h) (Or.inl ⟨by rfl, ?_⟩) ?_ ?_
      rotate_left
      · intro w'
        go_simp
        with_reducible rfl
      rotate_left
      · simp only [Act.put, List.setIfInBounds_toArray, List.set_cons_zero, List.set_cons_succ, i64_w, i32_w]
        rfl
      refine pure_ (i := 1) (N := some 25) (v := ?_) (a' := ?_) #[true, true, false, false, false, false, false, false, false, false, false, false, false, false, false] rfl rfl (by kernel_rfl) (fun _ _ _ h => h) (Or.inl ⟨by rfl, ?_⟩) ?_ ?_
      rotate_left
      · intro w'
        go_simp
        with_reducible rfl
      rotate_left
      · simp only [Act.put, List.setIfInBounds_toArray, List.set_cons_zero, List.set_cons_succ, i64_w, i32_w]
        rfl
      refine pure_ (i := 2) (N := some 26) (v := ?_) (a' := ?_) #[true, true, true, false, false, false, false, false, false, false, false, false, false, false, false] rfl rfl (by kernel_rfl) (fun _ _ _ h => h) (Or.inl ⟨by rfl, ?_⟩) ?_ ?_
      rotate_left
      · intro w'
        go_simp
        with_reducible rfl
      rotate_left
      · simp only [Act.put, List.setIfInBounds_toArray, List.set_cons_zero, List.set_cons_succ, i64_w, i32_w]
        rfl
      refine pure_ (i := 3) (N := some 27) (v := ?_) (a' := ?_) #[true, true, true, true, false, false, false, false, false, false, false, false, false, false, false] rfl rfl (by kernel_rfl) (fun _ _ _ h => h) (Or.inl ⟨by rfl, ?_⟩) ?_ ?_
      rotate_left
      · intro w'
        go_simp
        with_reducible rfl
      rotate_left
      · simp only [Act.put, List.setIfInBounds_toArray, List.set_cons_zero, List.set_cons_succ, i64_w, i32_w]
        rfl
      refine pure_ (i := 5) (N := some 29) (v := ?_) (a' := ?_) #[true, true, true, true, false, true, false, false, false, false, false, false, false, false, false] rfl rfl (by kernel_rfl) (fun _ _ _ h => h) (Or.inl ⟨by rfl, ?_⟩) ?_ ?_
      rotate_left
      · intro w'
        go_simp
        with_reducible rfl
      rotate_left
      · simp only [Act.put, List.setIfInBounds_toArray, List.set_cons_zero, List.set_cons_succ, i64_w, i32_w]
        rfl
      refine pure_ (i := 6) (N := some 30) (v := ?_) (a' := ?_) #[true, true, true, true, false, true, true, false, false, false, false, false, false, false, false] rfl rfl (by kernel_rfl) (fun _ _ _ h => h) (Or.inl ⟨by rfl, ?_⟩) ?_ ?_
      rotate_left
      · intro w'
        go_simp
        with_reducible rfl
      rotate_left
      · simp only [Act.put, List.setIfInBounds_toArray, List.set_cons_zero, List.set_cons_succ, i64_w, i32_w]
        rfl
      refine pure_ (i := 7) (N := some 31) (v := ?_) (a' := ?_) #[true, true, true, true, false, true, true, true, false, false, false, false, false, false, false] rfl rfl (by kernel_rfl) (fun _ _ _ h => h) (Or.inl ⟨by rfl, ?_⟩) ?_ ?_
      rotate_left
      · intro w'
        go_simp
        with_reducible rfl
      rotate_left
      · simp only [Act.put, List.setIfInBounds_toArray, List.set_cons_zero, List.set_cons_succ, i64_w, i32_w]
        rfl
      refine take_ (i := 4) (N := some 28) (v := ?_) (a' := ?_) #[true, true, true, true, true, true, true, true, false, false, false, false, false, false, false] rfl rfl (by kernel_rfl) (fun _ _ _ h => h) (Or.inl ⟨by rfl, ?_⟩) hHeld ?_ ?_
      rotate_left
      · intro w' s0
        go_simp
        with_reducible rfl
      rotate_left
      · simp only [Act.put, List.setIfInBounds_toArray, List.set_cons_zero, List.set_cons_succ, i64_w, i32_w]
        rfl
      refine take_ (i := 8) (N := some 32) (v := ?_) (a' := ?_) #[true, true, true, true, true, true, true, true, true, false, false, false, false, false, false] rfl rfl (by kernel_rfl) (fun _ _ _ h => h) (Or.inl ⟨by rfl, ?_⟩) hHeld ?_ ?_
      rotate_left
      · intro w' s0
        go_simp
        with_reducible rfl
      rotate_left
      · simp only [Act.put, List.setIfInBounds_toArray, List.set_cons_zero, List.set_cons_succ, i64_w, i32_w]
        rfl
      refine pure_ (i := 9) (N := some 33) (v := ?_) (a' := ?_) #[true, true, true, true, true, true, true, true, true, true, false, false, false, false, false] rfl rfl (by kernel_rfl) (fun _ _ _ h => h) (Or.inl ⟨by rfl, ?_⟩) ?_ ?_
      rotate_left
      · intro w'
        go_simp
        with_reducible rfl
      rotate_left
      · simp only [Act.put, List.setIfInBounds_toArray, List.set_cons_zero, List.set_cons_succ, i64_w, i32_w]
        rfl
      refine pure_ (i := 10) (N := some 34) (v := ?_) (a' := ?_) #[true, true, true, true, true, true, true, true, true, true, true, false, false, false, false] rfl rfl (by kernel_rfl) (fun _ _ _ h => h) (Or.inl ⟨by rfl, ?_⟩) ?_ ?_
      rotate_left
      · intro w'
        go_simp
        with_reducible rfl
      rotate_left
      · simp only [Act.put, List.setIfInBounds_toArray, List.set_cons_zero, List.set_cons_succ, i64_w, i32_w]
        rfl
      refine pure_ (i := 11) (N := some 35) (v := ?_) (a' := ?_) #[true, true, true, true, true, true, true, true, true, true, true, true, false, false, false] rfl rfl (by kernel_rfl) (fun _ _ _ h => h) (Or.inl ⟨by rfl, ?_⟩) ?_ ?_
      rotate_left
      · intro w'
        go_simp
        with_reducible rfl
      rotate_left
      · simp only [Act.put, List.setIfInBounds_toArray, List.set_cons_zero, List.set_cons_succ, i64_w, i32_w]
        rfl
      refine pure_ (i := 12) (N := some 36) (v := ?_) (a' := ?_) #[true, true, true, true, true, true, true, true, true, true, true, true, true, false, false] rfl rfl (by kernel_rfl) (fun _ _ _ h => h) (Or.inl ⟨by rfl, ?_⟩) ?_ ?_
      rotate_left
      · intro w'
        go_simp
        with_reducible rfl
      rotate_left
      · simp only [Act.put, List.setIfInBounds_toArray, List.set_cons_zero, List.set_cons_succ, i64_w, i32_w]
        rfl
      refine pure_ (i := 13) (N := some 37) (v := ?_) (a' := ?_) #[true, true, true, true, true, true, true, true, true, true, true, true, true, true, false] rfl rfl (by kernel_rfl) (fun _ _ _ h => h) (Or.inl ⟨by rfl, ?_⟩) ?_ ?_
      rotate_left
      · intro w'
        go_simp
        with_reducible rfl
      rotate_left
      · simp only [Act.put, List.setIfInBounds_toArray, List.set_cons_zero, List.set_cons_succ, i64_w, i32_w]
        rfl
      refine last_ (i := 14) (N := none) #[true, true, true, true, true, true, true, true, true, true, true, true, true, true, true] rfl rfl (by kernel_rfl) (by decide) (fun K hK => ?_)
      refine skip_ (w1 := ?_) (by rfl) rfl ?_ ?_
      rotate_left
      · go_simp
        rfl
      refine hK.out _ _ ?_
      clear hK K
      refine done_ (by kernel_rfl) ?_
      go_wp2_with fail
      go_ret
      have hb0 := blk_drewN H.out.blk (nq + 1)
      rw [HD.out] at hb0
      exact ⟨rfl, set2M (⟨hb0, Kd.R_drewN HR.out _, Kd.C_drewN H.out.rd _, ⟨Keep_any (Kept.of_below (pw_below_drewN (Below.refl _ _) _)).1, ⟨rfl, rfl, rfl⟩, .inr (.inl (by cases A2 <;> rfl))⟩⟩ : AppM w (w.drewN (nq + 1)) B g A c b p (.slice A2 ends.length c2) (.slice A2 (m + 1) c2) ends.dropLast) H.out.lc H.out.ge H.out.ap⟩
    · rw [if_pos (.inr hp)]
      have hpp : (p == L) = false := beq_eq_false_iff_ne.2 hp
      clear h hn hlm hL hp hg2 hm
      go_enter Try.func48, Try.ntmps48
      go_wp2_with fail
      go_quiet ((go_at_call 65; exact quiet (HE.out _)))
      go_wp2_with fail
      go_ret
      exact ⟨rfl, _, H.out.drewN _, Fr.none _ _ _ _⟩
/-- More. -/
theorem More_m {w : World} {B g : Nat} {A : Option Addr} {c : Nat} {b : List Int} {p : Int} {v : Value} {ends : List Int} (h : IsM w B g A c b p v ends) :
    Calls Try.prog 49 #[.pointer (some ⟨g, 0, none⟩)] w fun e w' => e = .returned (.bool (moreB p ends)) ∧ Drawn0 w w' := by
  have hc1 : w.cell? ⟨g, 1, none⟩ = some (.int .i64 p) := (blk_cell h.blk 1).trans rfl
  by_cases hn : 0 < ends.length
  · have hb : moreB p ends = decide (p < last ends) := by unfold moreB; rw [decide_eq_true hn, Bool.true_and]
    have HE := Aside0.mk (fun n => end_m (h.drewN n) hn)
    have hc3 := h.good hn
    rw [hb]
    obtain ⟨L, hL⟩ : ∃ L, L = last ends := ⟨_, rfl⟩
    rw [← hL] at HE ⊢
    clear h hn hb hL
    go_enter Try.func49, Try.ntmps49
    go_wp2_with fail
    go_quiet ((go_at_call 65; exact quiet (HE.out _)))
    go_wp2
    go_ret
    exact ⟨rfl, Drawn0.step (Drawn0.refl _) _⟩
  · have hb : moreB p ends = false := by unfold moreB; rw [decide_eq_false hn, Bool.false_and]
    have hc3 := h.bad (by omega)
    rw [hb]
    clear h hn hb
    go_enter Try.func49, Try.ntmps49
    go_wp2_with fail
    go_quiet (fail)
    go_wp2
    go_ret
    exact ⟨rfl, Drawn0.step (Drawn0.refl _) _⟩
/-- From. -/
theorem From_m {w : World} {A : Option Addr} {c : Nat} {b : List Int} (hr : Kd.C (Kd.int .u8) w A b.length b) (hc : b.length ≤ c) (hap : ∀ ad, A = some ad → 0 < b.length → ad.block < w.heap.size) :
    Calls Try.prog 17 #[.slice A b.length c] w fun e w' => e = .returned (.pointer (some ⟨w.heap.size + 1, 0, none⟩)) ∧ IsM w' w.heap.size (w.heap.size + 1) A c b 0 (.slice (some ⟨w.heap.size, 0, none⟩) 1 1) [(b.length : Int)] ∧ Below w.heap.size w w' := by
  have HR := Aside0.mk hr
  have hl := Kd.C_max hr
  have HL := Aside0.mk hl
  have HC := Aside0.mk hc
  have HAP := Aside0.mk hap
  clear hr hc hap hl
  go_enter Try.func17, Try.ntmps17
  go_wp2_with fail
  go_ret
  have hb1 : Below w.heap.size w ((w.alloc (.cells #[.int .i64 (b.length : Int)] 3)).alloc (.cells #[.slice A b.length c, .int .i64 0, .slice (some ⟨w.heap.size, 0, none⟩) 1 1, .bool false] 65)) := below_alloc (below_alloc (Below.refl _ _) _) _
  have hs1 : (w.alloc (.cells #[.int .i64 (b.length : Int)] 3)).heap.size = w.heap.size + 1 := Array.size_push _
  have hg1 := blk_new (w.alloc (.cells #[.int .i64 (b.length : Int)] 3)) (.cells #[.slice A b.length c, .int .i64 0, .slice (some ⟨w.heap.size, 0, none⟩) 1 1, .bool false] 65)
  rw [hs1] at hg1
  have hg0 : ((w.alloc (.cells #[.int .i64 (b.length : Int)] 3)).alloc (.cells #[.slice A b.length c, .int .i64 0, .slice (some ⟨w.heap.size, 0, none⟩) 1 1, .bool false] 65)).heap[w.heap.size]? = some (.cells #[.int .i64 (b.length : Int)] 3 (0, 0)) := blk_below (blk_new w _) (below_alloc (Below.refl _ _) _)
  refine ⟨rfl, ⟨hg1, Kd.R_of_own ⟨rfl, .inr ⟨w.heap.size, 1, #[.int .i64 (b.length : Int)], rfl, Nat.le_refl _, hg0, Nat.le_refl _, by decide, rfl, rfl⟩⟩ (fun k hk => ?_), Kd.C_below HR.out hb1, HC.out, by omega, HAP.out⟩, hb1⟩
  have hk' : w.heap.size = k := by simpa [Value.ownBlock] using hk
  omega
end Go.Proofs.Ytfbmabhdjliohaa.Cur

/- cursor.Cursor: what Varint, Fixed4 and Fixed8 do, through their closures and take; conditions stand at each. -/
import Derived.Test.YtfbmabhdjliohaaMCurA
import Derived.Deep.RegionWith
import Derived.Deep.RegionHeld3
import Derived.Deep.DeepCutAuto
import Derived.Deep.CutBlock
namespace Go.Proofs.Ytfbmabhdjliohaa.Cur
open Go.RowKit Go.Proofs.YtfbmabhdjliohaaW.PrintWords Go.Proofs.YtfbmabhdjliohaaW.PrintLast Go.Proofs.YtfbmabhdjliohaaW.PrintMore Go.Proofs.Ytfbmabhdjliohaa.Var
set_option maxHeartbeats 1000000
set_option maxRecDepth 100000
/-- varint.Get of whatever bytes. -/
theorem get_c {W : World} {A : Option Addr} {c : Nat} {l : List Int} (hr : Kd.C (Kd.int .u8) W A l.length l) (hc : l.length ≤ c) (hb : ∀ x ∈ l, 0 ≤ x ∧ x ≤ 255) (hl : l.length ≤ 140737488359000) :
    Calls Try.prog 52 #[.slice A l.length c] W fun e w' => e = .returned (.tuple #[.int .u64 (dec l 0 0).1, .int .i64 (dec l 0 0).2]) ∧ Drawn0 W w' :=
  PLib.varint_Get.calls (2 * l.length + 1) A c l _ _ W hr hc (VLib.get_f _ l hb (by omega) hl)
theorem get4_f (l : List Int) (hb : ∀ x ∈ l, 0 ≤ x ∧ x ≤ 255) : M.fix_Get4.f l = some ((fixD 4 l).1, decide ((fixD 4 l).2 ≠ 0)) := by
  unfold M.fix_Get4.f fixD
  by_cases h : l.length < 4
  · rw [if_pos h, if_pos h]; simp
  · rw [if_neg h, if_neg h, if_pos (fun x hx => hb x (List.mem_of_mem_take hx))]; simp
theorem get8_f (l : List Int) (hb : ∀ x ∈ l, 0 ≤ x ∧ x ≤ 255) : M.fix_Get8.f l = some ((fixD 8 l).1, decide ((fixD 8 l).2 ≠ 0)) := by
  unfold M.fix_Get8.f fixD
  by_cases h : l.length < 8
  · rw [if_pos h, if_pos h]; simp
  · rw [if_neg h, if_neg h, if_pos (fun x hx => hb x (List.mem_of_mem_take hx))]; simp
theorem fixD_two (k : Nat) (l : List Int) : (fixD k l = (0, 0)) ∨ (fixD k l).2 = k := by
  unfold fixD
  by_cases h : l.length < k
  · rw [if_pos h]; exact .inl rfl
  · rw [if_neg h]; exact .inr rfl
/-- Varint's closure. -/
theorem clos_v {W : World} {A : Option Addr} {n c nb : Nat} {l : List Int} (hln : l.length = n) (hr : Kd.C (Kd.int .u8) W A l.length l) (hc : l.length ≤ c) (hb : ∀ x ∈ l, 0 ≤ x ∧ x ≤ 255) (hl : l.length ≤ 140737488359000)
    (hnb : W.heap[nb]? = some (.cells #[.int .u64 0] 26 (0, 0))) :
    Calls Try.prog 51 #[.slice A n c, .pointer (some ⟨nb, 0, none⟩)] W fun e w' => e = .returned (.int .i64 (dec l 0 0).2) ∧ w'.heap[nb]? = some (.cells #[.int .u64 (dec l 0 0).1] 26 (0, 0)) ∧ Kept W w' nb := by
  subst hln
  have HG := Aside0.mk (get_c hr hc hb hl)
  have HN := Aside0.mk hnb
  have hc0 : W.cell? ⟨nb, 0, none⟩ = some (.int .u64 0) := (blk_cell hnb 0).trans rfl
  have hf0 := blk_frozen hnb 0
  obtain ⟨D, hD⟩ : ∃ D, D = dec l 0 0 := ⟨_, rfl⟩
  rw [← hD] at HG ⊢
  clear hr hc hb hl hnb hD
  go_enter Try.func51, Try.ntmps51
  go_wp2_with (first | (go_at_call 52; refine HG.out.mono ?_; rintro e w1 ⟨rfl, ⟨n1, rfl⟩⟩))
  go_ret
  exact ⟨rfl, blk_put (blk_drewN HN.out n1) 0 _ rfl, (Kept.of_below (pw_below_drewN (Below.refl _ _) n1)).set_ 0 _⟩
/-- What take leaves: w2: behind the closure. -/
def TakeP (Q : World → Prop) (B g : Nat) (A : Option Addr) (c : Nat) (b : List Int) (p : Int) (v : Value) (ends : List Int) (s : Int) (e : Ending) (w' : World) : Prop :=
  e = .returned (.tuple #[]) ∧ ∃ w2 v', Q w2 ∧ Kept w2 w' g ∧ (v' = v ∨ v' = .slice none 0 0) ∧ IsC w' B g A c b (nx p ends s).1 v' (nx p ends s).2
theorem IsC.set1 {w : World} {B g : Nat} {A : Option Addr} {c : Nat} {b : List Int} {p : Int} {v : Value} {ends : List Int} (h : IsC w B g A c b p v ends) (q : Int) : IsC (w.setCell ⟨g, 1, none⟩ (.int .i64 q)) B g A c b q v ends :=
  ⟨blk_put h.blk 1 _ rfl, Kd.R_keep h.row ((KeepBut.refl w g none).set_ 1 _) (fun _ hk => hk), Kd.C_keep (d := 0) h.rd ((KeepBut.refl w g none).set_ 1 _) (fun ad h1 h2 => by have h3 := h.ap ad h1 h2; have h4 := h.ge; omega), h.lc, h.ge, h.ap⟩
theorem IsC.keep {w w' : World} {B g k : Nat} {A : Option Addr} {c : Nat} {b : List Int} {p : Int} {v : Value} {ends : List Int} (h : IsC w B g A c b p v ends) (hk : Kept w w' k) (hg : g ≠ k) (hv : v.ownBlock ≠ some k) (hB : B ≤ k) : IsC w' B g A c b p v ends := by
  refine ⟨hk.1.blk h.blk hg (by simp), ?_, Kd.C_keep (d := 0) h.rd hk.1 (fun ad h1 h2 => by have h3 := h.ap ad h1 h2; omega), h.lc, h.ge, h.ap⟩
  obtain ⟨h0, inner, ho, hr⟩ := h.row
  refine ⟨h0, inner, own_move ho (fun j hj => ?_), ?_⟩
  · exact hk.1.2 j (own_lt ho j hj) (fun he => hv (by rw [hj, he])) (by simp)
  · exact hr.imp_ (fun _ _ hp => hp)
section
variable {w : World} {B g : Nat} {A : Option Addr} {c : Nat} {b : List Int} {p : Int} {v : Value} {ends : List Int}
/-- What is left of the frame, read. -/
theorem seg_C (h : IsC w B g A c b p v ends) (hi : Inv b.length p ends) : Kd.C (Kd.int .u8) w (if (last ends).toNat = p.toNat then A else Option.map (fun x => x.add p.toNat) A) (seg b p ends).length (seg b p ends) := by
  have h0 := inv_last hi
  have h1 := Kd.C_take (m := (last ends).toNat) h.rd (by omega)
  have hl : (b.take (last ends).toNat).length = (last ends).toNat := by rw [List.length_take]; omega
  have h2 := Kd.C_drop (c := (last ends).toNat) (m := p.toNat) h1 (by omega) (by omega)
  have e1 : p.toNat * (Kd.int .u8).sz = p.toNat := Nat.mul_one _
  rw [e1] at h2
  exact h2
theorem seg_l (hi : Inv b.length p ends) : (seg b p ends).length = (last ends).toNat - p.toNat := by
  have h0 := inv_last hi
  rw [seg_len hi]
  omega
/-- take of a cursor that has failed. -/
theorem take_no (h : IsC w B g A c b p v ends) (hn : ends.length = 0) (fv : Value) :
    Calls Try.prog 50 #[.pointer (some ⟨g, 0, none⟩), fv] w fun e w' => e = .returned (.tuple #[]) ∧ Drawn0 w w' := by
  have HO := Aside0.mk (ok_no h hn)
  clear h
  go_enter Try.func50, Try.ntmps50
  go_wp2_with (first | (go_at_call 20; refine HO.out.mono ?_; rintro e w1 ⟨rfl, ⟨n1, rfl⟩⟩))
  refine bodyPost_ret (results_none rfl _ _ _) rfl ?_
  exact ⟨rfl, ⟨_, rfl⟩⟩
end
/-- take, with the closure of Varint. Q: what the closure leaves. -/
theorem take_v {w : World} {B g : Nat} {A : Option Addr} {c : Nat} {b : List Int} {p : Int} {v : Value} {ends : List Int} (h : IsC w B g A c b p v ends) (hn : 0 < ends.length) (hi : Inv b.length p ends) (nb : Nat)
    (s : Int) (hs0 : 0 ≤ s) (hs : s ≤ last ends - p) (hbl : b.length ≤ 140737488359000) (Q : World → Prop)
    (HC : ∀ n, Calls Try.prog 51 #[.slice (if (last ends).toNat = p.toNat then A else Option.map (fun x => x.add p.toNat) A) ((last ends).toNat - p.toNat) ((last ends).toNat - p.toNat), .pointer (some ⟨nb, 0, none⟩)] (w.drewN n)
      fun e w' => e = .returned (.int .i64 s) ∧ IsC w' B g A c b p v ends ∧ Q w') :
    Calls Try.prog 50 #[.pointer (some ⟨g, 0, none⟩), .func (.func 51) #[] #[.pointer (some ⟨nb, 0, none⟩)]] w
      (TakeP Q B g A c b p v ends s) := by
  have hc0 : w.cell? ⟨g, 0, none⟩ = some (.slice A b.length c) := (blk_cell h.blk 0).trans rfl
  have hc1 : w.cell? ⟨g, 1, none⟩ = some (.int .i64 p) := (blk_cell h.blk 1).trans rfl
  have HE := Aside0.mk (fun n => end_c (h.drewN n) hn)
  have HO := Aside0.mk (ok_yes h hn)
  have hl := hi.2.1 _ (last_mem hn)
  have p0 := hi.1
  obtain ⟨L, hL⟩ : ∃ L, L = last ends := ⟨_, rfl⟩
  rw [← hL] at HE hl HC hs
  obtain ⟨l1, l2⟩ := hl
  have lc := h.lc
  clear h hn hL hi
  obtain ⟨p, rfl⟩ := Int.eq_ofNat_of_zero_le p0
  obtain ⟨L, rfl⟩ := Int.eq_ofNat_of_zero_le (show 0 ≤ L by omega)
  simp only [Int.toNat_natCast] at HC
  obtain ⟨A', hA'⟩ : ∃ A', (if L = p then A else Option.map (fun x => x.add p) A) = A' := ⟨_, rfl⟩
  rw [hA'] at HC
  have HCC := Aside0.mk HC
  have hLc : L ≤ c := by omega
  have hpL : p ≤ L := by omega
  clear HC l1
  by_cases hz : s = 0
  · subst hz
    clear hs0 hs
    go_enter Try.func50, Try.ntmps50
    go_wp2_with (first | (go_at_call 20; refine HO.out.mono ?_; rintro e w1 ⟨rfl, ⟨n1, rfl⟩⟩))
    go_region_held3 (fun w' => w'.cell? ⟨g, 0, none⟩ = some (.slice A b.length c) ∧ w'.cell? ⟨g, 1, none⟩ = some (.int .i64 (p : Int))) (first | exact ⟨hc0, hc1⟩ | exact ⟨(blk_cell H3.out.blk 0).trans rfl, (blk_cell H3.out.blk 1).trans rfl⟩ | go_keep) (first
      | (go_at_call 39; refine (HE.out _).mono ?_; rintro e w2 ⟨rfl, ⟨n2, rfl⟩⟩)
      | (go_at_call 51; refine (HCC.out _).mono ?_; rintro e w3 ⟨rfl, hC3, hQ3⟩; have H3 := Aside0.mk hC3; have Q3 := Aside0.mk hQ3; clear hC3 hQ3))
    all_goals
      go_wp2_with (first | (go_at_call 63; refine (fail_c H3.out).mono ?_; rintro e w4 ⟨rfl, hC4, hk4⟩; have H4 := Aside0.mk hC4; have K4 := Aside0.mk hk4; clear hC4 hk4))
      first
      | go_end0
      | (refine bodyPost_ret (results_none rfl _ _ _) rfl ?_)
      exact ⟨rfl, _, _, Q3.out, K4.out, .inr rfl, H4.out⟩
  · have hz1 : (s == 0) = false := beq_eq_false_iff_ne.2 hz
    have HZ := Aside0.mk (show nx (p : Int) ends s = ((p : Int) + s, ends) from if_neg hz)
    clear hz
    have hsum : (p : Int) + s ≤ 9223372036854775807 := by omega
    go_enter Try.func50, Try.ntmps50
    go_wp2_with (first | (go_at_call 20; refine HO.out.mono ?_; rintro e w1 ⟨rfl, ⟨n1, rfl⟩⟩))
    go_region_held3 (fun w' => w'.cell? ⟨g, 0, none⟩ = some (.slice A b.length c) ∧ w'.cell? ⟨g, 1, none⟩ = some (.int .i64 (p : Int))) (first | exact ⟨hc0, hc1⟩ | exact ⟨(blk_cell H3.out.blk 0).trans rfl, (blk_cell H3.out.blk 1).trans rfl⟩ | go_keep) (first
      | (go_at_call 39; refine (HE.out _).mono ?_; rintro e w2 ⟨rfl, ⟨n2, rfl⟩⟩)
      | (go_at_call 51; refine (HCC.out _).mono ?_; rintro e w3 ⟨rfl, hC3, hQ3⟩; have H3 := Aside0.mk hC3; have Q3 := Aside0.mk hQ3; clear hC3 hQ3))
    all_goals
      have hd1 : w3.cell? ⟨g, 1, none⟩ = some (.int .i64 (p : Int)) := (blk_cell H3.out.blk 1).trans rfl
      have hg1 := blk_frozen H3.out.blk 1
      go_wp2_with fail
      first
      | go_end0
      | (refine bodyPost_ret (results_none rfl _ _ _) rfl ?_)
      unfold TakeP
      rw [HZ.out]
      exact ⟨rfl, _, _, Q3.out, (Kept.refl _ g).set_ 1 _, .inl rfl, H3.out.set1 _⟩
/-- Varint. -/
theorem Varint_c {w : World} {B g : Nat} {A : Option Addr} {c : Nat} {b : List Int} {p : Int} {v : Value} {ends : List Int} (h : IsC w B g A c b p v ends) (hi : Inv b.length p ends) (hB : B ≤ w.heap.size) (hb : ∀ x ∈ b, 0 ≤ x ∧ x ≤ 255) (hbl : b.length ≤ 140737488359000) :
    Calls Try.prog 22 #[.pointer (some ⟨g, 0, none⟩)] w fun e w' => e = .returned (.int .u64 (vD b p ends).1) ∧ Moved w B g A c b v (nx p ends (vD b p ends).2).1 (nx p ends (vD b p ends).2).2 w' := by
  have hf := vD_facts hi hb
  have hgl := blk_lt h.blk
  have hnw : (w.alloc (.cells #[.int .u64 0] 26 (0, 0))).heap[w.heap.size]? = some (.cells #[.int .u64 0] 26 (0, 0)) := blk_new w _
  have hkw : Kept w (w.alloc (.cells #[.int .u64 0] 26 (0, 0))) w.heap.size := Kept.of_below (below_alloc (Below.refl _ _) _)
  have hA : IsC (w.alloc (.cells #[.int .u64 0] 26 (0, 0))) B g A c b p v ends := h.below (below_alloc (Below.refl _ _) _)
  have hvo : v.ownBlock ≠ some w.heap.size := by
    obtain ⟨h0, inner, ho, hr⟩ := h.row
    intro he
    have := own_lt ho _ he
    omega
  have hT : Calls Try.prog 50 #[.pointer (some ⟨g, 0, none⟩), .func (.func 51) #[] #[.pointer (some ⟨w.heap.size, 0, none⟩)]] (w.alloc (.cells #[.int .u64 0] 26 (0, 0)))
      fun e w' => e = .returned (.tuple #[]) ∧ w'.heap[w.heap.size]? = some (.cells #[.int .u64 (vD b p ends).1] 26 (0, 0)) ∧ Moved w B g A c b v (nx p ends (vD b p ends).2).1 (nx p ends (vD b p ends).2).2 w' := by
    by_cases hn : ends.length = 0
    · refine (take_no hA hn _).mono ?_
      rintro e w' ⟨rfl, ⟨n, rfl⟩⟩
      have hs0 : (vD b p ends).2 = 0 := by
        have := hf.2.2.2.1
        have h1 := last_nil hn
        have h2 := inv_last hi
        have h3 := hf.2.2.1
        omega
      have hd0 := hf.2.2.2.2 hs0
      rw [hs0, hd0]
      have he : ends = [] := List.length_eq_zero_iff.1 hn
      subst he
      have hp : p = 0 := hi.2.2.2 rfl
      subst hp
      exact ⟨rfl, blk_drewN hnw n, v, (hA.drewN n), Fr.of_keep (Kept.of_below (pw_below_drewN (below_alloc (Below.refl _ _) _) n)) (.inl rfl)⟩
    · refine (take_v hA (by omega) hi w.heap.size (vD b p ends).2 hf.2.2.1 hf.2.2.2.1 hbl (fun w2 => w2.heap[w.heap.size]? = some (.cells #[.int .u64 (vD b p ends).1] 26 (0, 0)) ∧ Kept w w2 w.heap.size) (fun n => ?_)).mono ?_
      · have hAn := hA.drewN n
        refine (clos_v (l := seg b p ends) (seg_l hi) (seg_C hAn hi) (by rw [seg_l hi]; omega) (seg_bytes hb) (by have := seg_l hi; have := inv_last hi; omega) (blk_drewN hnw n)).mono ?_
        rintro e w2 ⟨rfl, h2, h3⟩
        exact ⟨rfl, hAn.keep h3 (by omega) hvo hB, h2, (Kept.of_below (pw_below_drewN (below_alloc (Below.refl _ _) _) n)).trans h3⟩
      · rintro e w' ⟨rfl, w2, v', ⟨h2, h3⟩, h4, h5, h6⟩
        refine ⟨rfl, h4.1.blk h2 (by omega) (by simp), v', h6, Fr.of_keep ⟨⟨Nat.le_trans h3.1.1 h4.1.1, fun i hi1 hi2 _ => ?_⟩, h4.2.1.trans h3.2.1, h4.2.2.1.trans h3.2.2.1, h4.2.2.2.trans h3.2.2.2⟩ h5⟩
        rw [h4.1.2 i (Nat.lt_of_lt_of_le hi1 h3.1.1) hi2 (by simp), h3.1.2 i hi1 (by omega) (by simp)]
  have HT := Aside0.mk hT
  obtain ⟨D, hD⟩ : ∃ D, D = vD b p ends := ⟨_, rfl⟩
  rw [← hD] at HT ⊢
  clear hT hf hnw hkw hA hvo h hD
  go_enter Try.func22, Try.ntmps22
  go_wp2_with (first | (go_at_call 50; refine HT.out.mono ?_; rintro e w1 ⟨rfl, h1, h2⟩; have hc1 := (blk_cell h1 0).trans rfl; have H2 := Aside0.mk h2; clear h1 h2))
  go_ret
  exact ⟨rfl, H2.out⟩
/-- Fixed4's closure. -/
theorem clos_4 {W : World} {A : Option Addr} {n c nb : Nat} {l : List Int} (hln : l.length = n) (hr : Kd.C (Kd.int .u8) W A l.length l) (hc : l.length ≤ c) (hb : ∀ x ∈ l, 0 ≤ x ∧ x ≤ 255) (_hl : l.length ≤ 140737488359000)
    (hnb : W.heap[nb]? = some (.cells #[.int .u32 0] 66 (0, 0))) :
    Calls Try.prog 67 #[.slice A n c, .pointer (some ⟨nb, 0, none⟩)] W fun e w' => e = .returned (.int .i64 (fixD 4 l).2) ∧ w'.heap[nb]? = some (.cells #[.int .u32 (fixD 4 l).1] 66 (0, 0)) ∧ Kept W w' nb := by
  subst hln
  have HG := Aside0.mk (M.fix_Get4.calls A c l _ _ W hr hc (get4_f l hb))
  have HN := Aside0.mk hnb
  have hc0 : W.cell? ⟨nb, 0, none⟩ = some (.int .u32 0) := (blk_cell hnb 0).trans rfl
  have hf0 := blk_frozen hnb 0
  have hlt := blk_lt hnb
  rcases fixD_two 4 l with hD | hD
  · rw [hD] at HG ⊢
    rw [decide_eq_false (by simp)] at HG
    clear hr hc hb hnb hD
    go_enter Try.func67, Try.ntmps67
    go_wp2_with (first | (go_at_call 68; refine HG.out.mono ?_; rintro e w1 ⟨rfl, hb1⟩; have HB1 := Aside0.mk hb1; clear hb1))
    go_ret
    exact ⟨rfl, blk_below HN.out HB1.out, Kept.of_below HB1.out⟩
  · rw [hD] at HG ⊢
    rw [decide_eq_true (by decide)] at HG
    obtain ⟨D, hDD⟩ : ∃ D, D = (fixD 4 l).1 := ⟨_, rfl⟩
    rw [← hDD] at HG ⊢
    clear hr hc hb hnb hD hDD
    go_enter Try.func67, Try.ntmps67
    go_wp2_with (first | (go_at_call 68; refine HG.out.mono ?_; rintro e w1 ⟨rfl, hb1⟩; have HB1 := Aside0.mk hb1; have hn1 := blk_below HN.out hb1; have hc1 := (blk_cell hn1 0).trans rfl; have hf1 := blk_frozen hn1 0; have HN1 := Aside0.mk hn1; clear hb1 hn1))
    go_ret
    exact ⟨rfl, blk_put HN1.out 0 _ rfl, (Kept.of_below HB1.out).set_ 0 _⟩
/-- take, with the closure of Fixed4. Q: what the closure leaves. -/
theorem take_4 {w : World} {B g : Nat} {A : Option Addr} {c : Nat} {b : List Int} {p : Int} {v : Value} {ends : List Int} (h : IsC w B g A c b p v ends) (hn : 0 < ends.length) (hi : Inv b.length p ends) (nb : Nat)
    (s : Int) (hs0 : 0 ≤ s) (hs : s ≤ last ends - p) (hbl : b.length ≤ 140737488359000) (Q : World → Prop)
    (HC : ∀ n, Calls Try.prog 67 #[.slice (if (last ends).toNat = p.toNat then A else Option.map (fun x => x.add p.toNat) A) ((last ends).toNat - p.toNat) ((last ends).toNat - p.toNat), .pointer (some ⟨nb, 0, none⟩)] (w.drewN n)
      fun e w' => e = .returned (.int .i64 s) ∧ IsC w' B g A c b p v ends ∧ Q w') :
    Calls Try.prog 50 #[.pointer (some ⟨g, 0, none⟩), .func (.func 67) #[] #[.pointer (some ⟨nb, 0, none⟩)]] w
      (TakeP Q B g A c b p v ends s) := by
  have hc0 : w.cell? ⟨g, 0, none⟩ = some (.slice A b.length c) := (blk_cell h.blk 0).trans rfl
  have hc1 : w.cell? ⟨g, 1, none⟩ = some (.int .i64 p) := (blk_cell h.blk 1).trans rfl
  have HE := Aside0.mk (fun n => end_c (h.drewN n) hn)
  have HO := Aside0.mk (ok_yes h hn)
  have hl := hi.2.1 _ (last_mem hn)
  have p0 := hi.1
  obtain ⟨L, hL⟩ : ∃ L, L = last ends := ⟨_, rfl⟩
  rw [← hL] at HE hl HC hs
  obtain ⟨l1, l2⟩ := hl
  have lc := h.lc
  clear h hn hL hi
  obtain ⟨p, rfl⟩ := Int.eq_ofNat_of_zero_le p0
  obtain ⟨L, rfl⟩ := Int.eq_ofNat_of_zero_le (show 0 ≤ L by omega)
  simp only [Int.toNat_natCast] at HC
  obtain ⟨A', hA'⟩ : ∃ A', (if L = p then A else Option.map (fun x => x.add p) A) = A' := ⟨_, rfl⟩
  rw [hA'] at HC
  have HCC := Aside0.mk HC
  have hLc : L ≤ c := by omega
  have hpL : p ≤ L := by omega
  clear HC l1
  by_cases hz : s = 0
  · subst hz
    clear hs0 hs
    go_enter Try.func50, Try.ntmps50
    go_wp2_with (first | (go_at_call 20; refine HO.out.mono ?_; rintro e w1 ⟨rfl, ⟨n1, rfl⟩⟩))
    go_region_held3 (fun w' => w'.cell? ⟨g, 0, none⟩ = some (.slice A b.length c) ∧ w'.cell? ⟨g, 1, none⟩ = some (.int .i64 (p : Int))) (first | exact ⟨hc0, hc1⟩ | exact ⟨(blk_cell H3.out.blk 0).trans rfl, (blk_cell H3.out.blk 1).trans rfl⟩ | go_keep) (first
      | (go_at_call 39; refine (HE.out _).mono ?_; rintro e w2 ⟨rfl, ⟨n2, rfl⟩⟩)
      | (go_at_call 67; refine (HCC.out _).mono ?_; rintro e w3 ⟨rfl, hC3, hQ3⟩; have H3 := Aside0.mk hC3; have Q3 := Aside0.mk hQ3; clear hC3 hQ3))
    all_goals
      go_wp2_with (first | (go_at_call 63; refine (fail_c H3.out).mono ?_; rintro e w4 ⟨rfl, hC4, hk4⟩; have H4 := Aside0.mk hC4; have K4 := Aside0.mk hk4; clear hC4 hk4))
      first
      | go_end0
      | (refine bodyPost_ret (results_none rfl _ _ _) rfl ?_)
      exact ⟨rfl, _, _, Q3.out, K4.out, .inr rfl, H4.out⟩
  · have hz1 : (s == 0) = false := beq_eq_false_iff_ne.2 hz
    have HZ := Aside0.mk (show nx (p : Int) ends s = ((p : Int) + s, ends) from if_neg hz)
    clear hz
    have hsum : (p : Int) + s ≤ 9223372036854775807 := by omega
    go_enter Try.func50, Try.ntmps50
    go_wp2_with (first | (go_at_call 20; refine HO.out.mono ?_; rintro e w1 ⟨rfl, ⟨n1, rfl⟩⟩))
    go_region_held3 (fun w' => w'.cell? ⟨g, 0, none⟩ = some (.slice A b.length c) ∧ w'.cell? ⟨g, 1, none⟩ = some (.int .i64 (p : Int))) (first | exact ⟨hc0, hc1⟩ | exact ⟨(blk_cell H3.out.blk 0).trans rfl, (blk_cell H3.out.blk 1).trans rfl⟩ | go_keep) (first
      | (go_at_call 39; refine (HE.out _).mono ?_; rintro e w2 ⟨rfl, ⟨n2, rfl⟩⟩)
      | (go_at_call 67; refine (HCC.out _).mono ?_; rintro e w3 ⟨rfl, hC3, hQ3⟩; have H3 := Aside0.mk hC3; have Q3 := Aside0.mk hQ3; clear hC3 hQ3))
    all_goals
      have hd1 : w3.cell? ⟨g, 1, none⟩ = some (.int .i64 (p : Int)) := (blk_cell H3.out.blk 1).trans rfl
      have hg1 := blk_frozen H3.out.blk 1
      go_wp2_with fail
      first
      | go_end0
      | (refine bodyPost_ret (results_none rfl _ _ _) rfl ?_)
      unfold TakeP
      rw [HZ.out]
      exact ⟨rfl, _, _, Q3.out, (Kept.refl _ g).set_ 1 _, .inl rfl, H3.out.set1 _⟩
/-- Fixed4. -/
theorem Fixed4_c {w : World} {B g : Nat} {A : Option Addr} {c : Nat} {b : List Int} {p : Int} {v : Value} {ends : List Int} (h : IsC w B g A c b p v ends) (hi : Inv b.length p ends) (hB : B ≤ w.heap.size) (hb : ∀ x ∈ b, 0 ≤ x ∧ x ≤ 255) (hbl : b.length ≤ 140737488359000) :
    Calls Try.prog 41 #[.pointer (some ⟨g, 0, none⟩)] w fun e w' => e = .returned (.int .u32 (fD 4 b p ends).1) ∧ Moved w B g A c b v (nx p ends (fD 4 b p ends).2).1 (nx p ends (fD 4 b p ends).2).2 w' := by
  have hf := fD_facts hi 4 (by omega)
  have hgl := blk_lt h.blk
  have hnw : (w.alloc (.cells #[.int .u32 0] 66 (0, 0))).heap[w.heap.size]? = some (.cells #[.int .u32 0] 66 (0, 0)) := blk_new w _
  have hkw : Kept w (w.alloc (.cells #[.int .u32 0] 66 (0, 0))) w.heap.size := Kept.of_below (below_alloc (Below.refl _ _) _)
  have hA : IsC (w.alloc (.cells #[.int .u32 0] 66 (0, 0))) B g A c b p v ends := h.below (below_alloc (Below.refl _ _) _)
  have hvo : v.ownBlock ≠ some w.heap.size := by
    obtain ⟨h0, inner, ho, hr⟩ := h.row
    intro he
    have := own_lt ho _ he
    omega
  have hT : Calls Try.prog 50 #[.pointer (some ⟨g, 0, none⟩), .func (.func 67) #[] #[.pointer (some ⟨w.heap.size, 0, none⟩)]] (w.alloc (.cells #[.int .u32 0] 66 (0, 0)))
      fun e w' => e = .returned (.tuple #[]) ∧ w'.heap[w.heap.size]? = some (.cells #[.int .u32 (fD 4 b p ends).1] 66 (0, 0)) ∧ Moved w B g A c b v (nx p ends (fD 4 b p ends).2).1 (nx p ends (fD 4 b p ends).2).2 w' := by
    by_cases hn : ends.length = 0
    · refine (take_no hA hn _).mono ?_
      rintro e w' ⟨rfl, ⟨n, rfl⟩⟩
      have hs0 : (fD 4 b p ends).2 = 0 := by
        have := hf.2.1
        have h1 := last_nil hn
        have h2 := inv_last hi
        have h3 := hf.1
        omega
      have hd0 := hf.2.2 hs0
      rw [hs0, hd0]
      have he : ends = [] := List.length_eq_zero_iff.1 hn
      subst he
      have hp : p = 0 := hi.2.2.2 rfl
      subst hp
      exact ⟨rfl, blk_drewN hnw n, v, (hA.drewN n), Fr.of_keep (Kept.of_below (pw_below_drewN (below_alloc (Below.refl _ _) _) n)) (.inl rfl)⟩
    · refine (take_4 hA (by omega) hi w.heap.size (fD 4 b p ends).2 hf.1 hf.2.1 hbl (fun w2 => w2.heap[w.heap.size]? = some (.cells #[.int .u32 (fD 4 b p ends).1] 66 (0, 0)) ∧ Kept w w2 w.heap.size) (fun n => ?_)).mono ?_
      · have hAn := hA.drewN n
        refine (clos_4 (l := seg b p ends) (seg_l hi) (seg_C hAn hi) (by rw [seg_l hi]; omega) (seg_bytes hb) (by have := seg_l hi; have := inv_last hi; omega) (blk_drewN hnw n)).mono ?_
        rintro e w2 ⟨rfl, h2, h3⟩
        exact ⟨rfl, hAn.keep h3 (by omega) hvo hB, h2, (Kept.of_below (pw_below_drewN (below_alloc (Below.refl _ _) _) n)).trans h3⟩
      · rintro e w' ⟨rfl, w2, v', ⟨h2, h3⟩, h4, h5, h6⟩
        refine ⟨rfl, h4.1.blk h2 (by omega) (by simp), v', h6, Fr.of_keep ⟨⟨Nat.le_trans h3.1.1 h4.1.1, fun i hi1 hi2 _ => ?_⟩, h4.2.1.trans h3.2.1, h4.2.2.1.trans h3.2.2.1, h4.2.2.2.trans h3.2.2.2⟩ h5⟩
        rw [h4.1.2 i (Nat.lt_of_lt_of_le hi1 h3.1.1) hi2 (by simp), h3.1.2 i hi1 (by omega) (by simp)]
  have HT := Aside0.mk hT
  obtain ⟨D, hD⟩ : ∃ D, D = fD 4 b p ends := ⟨_, rfl⟩
  rw [← hD] at HT ⊢
  clear hT hf hnw hkw hA hvo h hD
  go_enter Try.func41, Try.ntmps41
  go_wp2_with (first | (go_at_call 50; refine HT.out.mono ?_; rintro e w1 ⟨rfl, h1, h2⟩; have hc1 := (blk_cell h1 0).trans rfl; have H2 := Aside0.mk h2; clear h1 h2))
  go_ret
  exact ⟨rfl, H2.out⟩
/-- Fixed8's closure. -/
theorem clos_8 {W : World} {A : Option Addr} {n c nb : Nat} {l : List Int} (hln : l.length = n) (hr : Kd.C (Kd.int .u8) W A l.length l) (hc : l.length ≤ c) (hb : ∀ x ∈ l, 0 ≤ x ∧ x ≤ 255) (_hl : l.length ≤ 140737488359000)
    (hnb : W.heap[nb]? = some (.cells #[.int .u64 0] 26 (0, 0))) :
    Calls Try.prog 70 #[.slice A n c, .pointer (some ⟨nb, 0, none⟩)] W fun e w' => e = .returned (.int .i64 (fixD 8 l).2) ∧ w'.heap[nb]? = some (.cells #[.int .u64 (fixD 8 l).1] 26 (0, 0)) ∧ Kept W w' nb := by
  subst hln
  have HG := Aside0.mk (M.fix_Get8.calls A c l _ _ W hr hc (get8_f l hb))
  have HN := Aside0.mk hnb
  have hc0 : W.cell? ⟨nb, 0, none⟩ = some (.int .u64 0) := (blk_cell hnb 0).trans rfl
  have hf0 := blk_frozen hnb 0
  have hlt := blk_lt hnb
  rcases fixD_two 8 l with hD | hD
  · rw [hD] at HG ⊢
    rw [decide_eq_false (by simp)] at HG
    clear hr hc hb hnb hD
    go_enter Try.func70, Try.ntmps70
    go_wp2_with (first | (go_at_call 71; refine HG.out.mono ?_; rintro e w1 ⟨rfl, hb1⟩; have HB1 := Aside0.mk hb1; clear hb1))
    go_ret
    exact ⟨rfl, blk_below HN.out HB1.out, Kept.of_below HB1.out⟩
  · rw [hD] at HG ⊢
    rw [decide_eq_true (by decide)] at HG
    obtain ⟨D, hDD⟩ : ∃ D, D = (fixD 8 l).1 := ⟨_, rfl⟩
    rw [← hDD] at HG ⊢
    clear hr hc hb hnb hD hDD
    go_enter Try.func70, Try.ntmps70
    go_wp2_with (first | (go_at_call 71; refine HG.out.mono ?_; rintro e w1 ⟨rfl, hb1⟩; have HB1 := Aside0.mk hb1; have hn1 := blk_below HN.out hb1; have hc1 := (blk_cell hn1 0).trans rfl; have hf1 := blk_frozen hn1 0; have HN1 := Aside0.mk hn1; clear hb1 hn1))
    go_ret
    exact ⟨rfl, blk_put HN1.out 0 _ rfl, (Kept.of_below HB1.out).set_ 0 _⟩
/-- take, with the closure of Fixed8. Q: what the closure leaves. -/
theorem take_8 {w : World} {B g : Nat} {A : Option Addr} {c : Nat} {b : List Int} {p : Int} {v : Value} {ends : List Int} (h : IsC w B g A c b p v ends) (hn : 0 < ends.length) (hi : Inv b.length p ends) (nb : Nat)
    (s : Int) (hs0 : 0 ≤ s) (hs : s ≤ last ends - p) (hbl : b.length ≤ 140737488359000) (Q : World → Prop)
    (HC : ∀ n, Calls Try.prog 70 #[.slice (if (last ends).toNat = p.toNat then A else Option.map (fun x => x.add p.toNat) A) ((last ends).toNat - p.toNat) ((last ends).toNat - p.toNat), .pointer (some ⟨nb, 0, none⟩)] (w.drewN n)
      fun e w' => e = .returned (.int .i64 s) ∧ IsC w' B g A c b p v ends ∧ Q w') :
    Calls Try.prog 50 #[.pointer (some ⟨g, 0, none⟩), .func (.func 70) #[] #[.pointer (some ⟨nb, 0, none⟩)]] w
      (TakeP Q B g A c b p v ends s) := by
  have hc0 : w.cell? ⟨g, 0, none⟩ = some (.slice A b.length c) := (blk_cell h.blk 0).trans rfl
  have hc1 : w.cell? ⟨g, 1, none⟩ = some (.int .i64 p) := (blk_cell h.blk 1).trans rfl
  have HE := Aside0.mk (fun n => end_c (h.drewN n) hn)
  have HO := Aside0.mk (ok_yes h hn)
  have hl := hi.2.1 _ (last_mem hn)
  have p0 := hi.1
  obtain ⟨L, hL⟩ : ∃ L, L = last ends := ⟨_, rfl⟩
  rw [← hL] at HE hl HC hs
  obtain ⟨l1, l2⟩ := hl
  have lc := h.lc
  clear h hn hL hi
  obtain ⟨p, rfl⟩ := Int.eq_ofNat_of_zero_le p0
  obtain ⟨L, rfl⟩ := Int.eq_ofNat_of_zero_le (show 0 ≤ L by omega)
  simp only [Int.toNat_natCast] at HC
  obtain ⟨A', hA'⟩ : ∃ A', (if L = p then A else Option.map (fun x => x.add p) A) = A' := ⟨_, rfl⟩
  rw [hA'] at HC
  have HCC := Aside0.mk HC
  have hLc : L ≤ c := by omega
  have hpL : p ≤ L := by omega
  clear HC l1
  by_cases hz : s = 0
  · subst hz
    clear hs0 hs
    go_enter Try.func50, Try.ntmps50
    go_wp2_with (first | (go_at_call 20; refine HO.out.mono ?_; rintro e w1 ⟨rfl, ⟨n1, rfl⟩⟩))
    go_region_held3 (fun w' => w'.cell? ⟨g, 0, none⟩ = some (.slice A b.length c) ∧ w'.cell? ⟨g, 1, none⟩ = some (.int .i64 (p : Int))) (first | exact ⟨hc0, hc1⟩ | exact ⟨(blk_cell H3.out.blk 0).trans rfl, (blk_cell H3.out.blk 1).trans rfl⟩ | go_keep) (first
      | (go_at_call 39; refine (HE.out _).mono ?_; rintro e w2 ⟨rfl, ⟨n2, rfl⟩⟩)
      | (go_at_call 70; refine (HCC.out _).mono ?_; rintro e w3 ⟨rfl, hC3, hQ3⟩; have H3 := Aside0.mk hC3; have Q3 := Aside0.mk hQ3; clear hC3 hQ3))
    all_goals
      go_wp2_with (first | (go_at_call 63; refine (fail_c H3.out).mono ?_; rintro e w4 ⟨rfl, hC4, hk4⟩; have H4 := Aside0.mk hC4; have K4 := Aside0.mk hk4; clear hC4 hk4))
      first
      | go_end0
      | (refine bodyPost_ret (results_none rfl _ _ _) rfl ?_)
      exact ⟨rfl, _, _, Q3.out, K4.out, .inr rfl, H4.out⟩
  · have hz1 : (s == 0) = false := beq_eq_false_iff_ne.2 hz
    have HZ := Aside0.mk (show nx (p : Int) ends s = ((p : Int) + s, ends) from if_neg hz)
    clear hz
    have hsum : (p : Int) + s ≤ 9223372036854775807 := by omega
    go_enter Try.func50, Try.ntmps50
    go_wp2_with (first | (go_at_call 20; refine HO.out.mono ?_; rintro e w1 ⟨rfl, ⟨n1, rfl⟩⟩))
    go_region_held3 (fun w' => w'.cell? ⟨g, 0, none⟩ = some (.slice A b.length c) ∧ w'.cell? ⟨g, 1, none⟩ = some (.int .i64 (p : Int))) (first | exact ⟨hc0, hc1⟩ | exact ⟨(blk_cell H3.out.blk 0).trans rfl, (blk_cell H3.out.blk 1).trans rfl⟩ | go_keep) (first
      | (go_at_call 39; refine (HE.out _).mono ?_; rintro e w2 ⟨rfl, ⟨n2, rfl⟩⟩)
      | (go_at_call 70; refine (HCC.out _).mono ?_; rintro e w3 ⟨rfl, hC3, hQ3⟩; have H3 := Aside0.mk hC3; have Q3 := Aside0.mk hQ3; clear hC3 hQ3))
    all_goals
      have hd1 : w3.cell? ⟨g, 1, none⟩ = some (.int .i64 (p : Int)) := (blk_cell H3.out.blk 1).trans rfl
      have hg1 := blk_frozen H3.out.blk 1
      go_wp2_with fail
      first
      | go_end0
      | (refine bodyPost_ret (results_none rfl _ _ _) rfl ?_)
      unfold TakeP
      rw [HZ.out]
      exact ⟨rfl, _, _, Q3.out, (Kept.refl _ g).set_ 1 _, .inl rfl, H3.out.set1 _⟩
/-- Fixed8. -/
theorem Fixed8_c {w : World} {B g : Nat} {A : Option Addr} {c : Nat} {b : List Int} {p : Int} {v : Value} {ends : List Int} (h : IsC w B g A c b p v ends) (hi : Inv b.length p ends) (hB : B ≤ w.heap.size) (hb : ∀ x ∈ b, 0 ≤ x ∧ x ≤ 255) (hbl : b.length ≤ 140737488359000) :
    Calls Try.prog 43 #[.pointer (some ⟨g, 0, none⟩)] w fun e w' => e = .returned (.int .u64 (fD 8 b p ends).1) ∧ Moved w B g A c b v (nx p ends (fD 8 b p ends).2).1 (nx p ends (fD 8 b p ends).2).2 w' := by
  have hf := fD_facts hi 8 (by omega)
  have hgl := blk_lt h.blk
  have hnw : (w.alloc (.cells #[.int .u64 0] 26 (0, 0))).heap[w.heap.size]? = some (.cells #[.int .u64 0] 26 (0, 0)) := blk_new w _
  have hkw : Kept w (w.alloc (.cells #[.int .u64 0] 26 (0, 0))) w.heap.size := Kept.of_below (below_alloc (Below.refl _ _) _)
  have hA : IsC (w.alloc (.cells #[.int .u64 0] 26 (0, 0))) B g A c b p v ends := h.below (below_alloc (Below.refl _ _) _)
  have hvo : v.ownBlock ≠ some w.heap.size := by
    obtain ⟨h0, inner, ho, hr⟩ := h.row
    intro he
    have := own_lt ho _ he
    omega
  have hT : Calls Try.prog 50 #[.pointer (some ⟨g, 0, none⟩), .func (.func 70) #[] #[.pointer (some ⟨w.heap.size, 0, none⟩)]] (w.alloc (.cells #[.int .u64 0] 26 (0, 0)))
      fun e w' => e = .returned (.tuple #[]) ∧ w'.heap[w.heap.size]? = some (.cells #[.int .u64 (fD 8 b p ends).1] 26 (0, 0)) ∧ Moved w B g A c b v (nx p ends (fD 8 b p ends).2).1 (nx p ends (fD 8 b p ends).2).2 w' := by
    by_cases hn : ends.length = 0
    · refine (take_no hA hn _).mono ?_
      rintro e w' ⟨rfl, ⟨n, rfl⟩⟩
      have hs0 : (fD 8 b p ends).2 = 0 := by
        have := hf.2.1
        have h1 := last_nil hn
        have h2 := inv_last hi
        have h3 := hf.1
        omega
      have hd0 := hf.2.2 hs0
      rw [hs0, hd0]
      have he : ends = [] := List.length_eq_zero_iff.1 hn
      subst he
      have hp : p = 0 := hi.2.2.2 rfl
      subst hp
      exact ⟨rfl, blk_drewN hnw n, v, (hA.drewN n), Fr.of_keep (Kept.of_below (pw_below_drewN (below_alloc (Below.refl _ _) _) n)) (.inl rfl)⟩
    · refine (take_8 hA (by omega) hi w.heap.size (fD 8 b p ends).2 hf.1 hf.2.1 hbl (fun w2 => w2.heap[w.heap.size]? = some (.cells #[.int .u64 (fD 8 b p ends).1] 26 (0, 0)) ∧ Kept w w2 w.heap.size) (fun n => ?_)).mono ?_
      · have hAn := hA.drewN n
        refine (clos_8 (l := seg b p ends) (seg_l hi) (seg_C hAn hi) (by rw [seg_l hi]; omega) (seg_bytes hb) (by have := seg_l hi; have := inv_last hi; omega) (blk_drewN hnw n)).mono ?_
        rintro e w2 ⟨rfl, h2, h3⟩
        exact ⟨rfl, hAn.keep h3 (by omega) hvo hB, h2, (Kept.of_below (pw_below_drewN (below_alloc (Below.refl _ _) _) n)).trans h3⟩
      · rintro e w' ⟨rfl, w2, v', ⟨h2, h3⟩, h4, h5, h6⟩
        refine ⟨rfl, h4.1.blk h2 (by omega) (by simp), v', h6, Fr.of_keep ⟨⟨Nat.le_trans h3.1.1 h4.1.1, fun i hi1 hi2 _ => ?_⟩, h4.2.1.trans h3.2.1, h4.2.2.1.trans h3.2.2.1, h4.2.2.2.trans h3.2.2.2⟩ h5⟩
        rw [h4.1.2 i (Nat.lt_of_lt_of_le hi1 h3.1.1) hi2 (by simp), h3.1.2 i hi1 (by omega) (by simp)]
  have HT := Aside0.mk hT
  obtain ⟨D, hD⟩ : ∃ D, D = fD 8 b p ends := ⟨_, rfl⟩
  rw [← hD] at HT ⊢
  clear hT hf hnw hkw hA hvo h hD
  go_enter Try.func43, Try.ntmps43
  go_wp2_with (first | (go_at_call 50; refine HT.out.mono ?_; rintro e w1 ⟨rfl, h1, h2⟩; have hc1 := (blk_cell h1 0).trans rfl; have H2 := Aside0.mk h2; clear h1 h2))
  go_ret
  exact ⟨rfl, H2.out⟩
end Go.Proofs.Ytfbmabhdjliohaa.Cur

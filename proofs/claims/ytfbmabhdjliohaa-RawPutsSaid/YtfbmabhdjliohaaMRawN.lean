/- raw.next, and the reference's One: a field read by a cursor; conditions stand at each. -/
import Derived.Test.YtfbmabhdjliohaaMRawS
import Derived.Test.YtfbmabhdjliohaaMCurL
namespace Go.Proofs.Ytfbmabhdjliohaa.Cur
open Go.RowKit Go.Proofs.YtfbmabhdjliohaaW.PrintWords Go.Proofs.YtfbmabhdjliohaaW.PrintLast Go.Proofs.YtfbmabhdjliohaaW.PrintMore Go.Proofs.Ytfbmabhdjliohaa.Var
set_option maxHeartbeats 1000000
set_option maxRecDepth 100000
set_option linter.unusedSimpArgs false
set_option linter.unusedVariables false
/-- A field as a value. -/
def fdV (x : Fd) : Value := .agg #[.int .i64 x.1, .int .i64 x.2.1, .int .u64 x.2.2.1, .string (strOfNums x.2.2.2)]
theorem blk4 {w : World} {g : Nat} {t : TypeId} {a b c d : Value} (h : w.heap[g]? = some (.cells #[a, b, c, d] t (0, 0))) :
    (w.cell? ⟨g, 0, none⟩ = some a ∧ w.cell? ⟨g, 1, none⟩ = some b ∧ w.cell? ⟨g, 2, none⟩ = some c ∧ w.cell? ⟨g, 3, none⟩ = some d) ∧
    (w.frozen? ⟨g, 0, none⟩ = false ∧ w.frozen? ⟨g, 1, none⟩ = false ∧ w.frozen? ⟨g, 2, none⟩ = false ∧ w.frozen? ⟨g, 3, none⟩ = false) :=
  ⟨⟨blk_cell h 0, blk_cell h 1, blk_cell h 2, blk_cell h 3⟩, blk_frozen h 0, blk_frozen h 1, blk_frozen h 2, blk_frozen h 3⟩
/-- What a cursor's call leaves of a block that is none of its own. -/
theorem Fr.blk {w w' : World} {g k : Nat} {v v' : Value} {o : Obj} (f : Fr w w' g v v') (h : w.heap[k]? = some o) (hk : k ≠ g) (hv : v.ownBlock ≠ some k) : w'.heap[k]? = some o :=
  f.1.blk h hk (fun e => hv e.symm)
theorem szA {w : World} {B : Nat} (h : B ≤ w.heap.size) (o : Obj) : B ≤ (w.alloc o).heap.size := by rw [World.size_alloc]; omega
theorem szF {w w' : World} {B g : Nat} {v v' : Value} (h : B ≤ w.heap.size) (f : Fr w w' g v v') : B ≤ w'.heap.size := Nat.le_trans h f.1.1
theorem Fr.ne {w w' : World} {g k : Nat} {v v' : Value} (f : Fr w w' g v v') (hv : v.ownBlock ≠ some k) (hk : k < w.heap.size) : v'.ownBlock ≠ some k := by
  rcases f.2.2 with e | e | ⟨j, e, hj⟩
  · rw [e]; simp
  · rw [e]; exact hv
  · rw [e]; intro h; injection h with h; omega
theorem Fr.alloc {w w' : World} {g : Nat} {v v' : Value} (f : Fr w w' g v v') (o : Obj) : Fr w (w'.alloc o) g v v' := f.trans (Fr.of_keep (Kept.of_below (below_alloc (Below.refl _ _) _)) (.inl rfl))
theorem Fr.new {w : World} {g : Nat} {v : Value} (o : Obj) : Fr w (w.alloc o) g v v := Fr.of_keep (Kept.of_below (below_alloc (Below.refl _ _) _)) (.inl rfl)
theorem Frset_new {w w' : World} {g k : Nat} {v v' : Value} (f : Fr w w' g v v') (hk : w.heap.size ≤ k) (j : Nat) (u : Value) : Fr w (w'.setCell ⟨k, j, none⟩ u) g v v' := by
  refine ⟨⟨by rw [World.size_setCell]; exact f.1.1, fun i h1 h2 h3 => ?_⟩, ?_, f.2.2⟩
  · exact (Below.heap_setCell w' ⟨k, j, none⟩ u i (by simp only; omega)).trans (f.1.2 i h1 h2 h3)
  · have h := (Below.refl 0 w').setCell (p := ⟨k, j, none⟩) (Nat.zero_le _) u
    exact ⟨h.os.trans f.2.1.1, h.tape.trans f.2.1.2.1, h.output.trans f.2.1.2.2⟩
theorem IsM.keep {w w' : World} {B g k : Nat} {A : Option Addr} {c : Nat} {b : List Int} {p : Int} {v : Value} {ends : List Int} (h : IsM w B g A c b p v ends) (hk : Kept w w' k) (hg : g ≠ k) (hv : v.ownBlock ≠ some k) (hB : B ≤ k) : IsM w' B g A c b p v ends := by
  refine ⟨hk.1.blk h.blk hg (by simp), ?_, Kd.C_keep (d := 0) h.rd hk.1 (fun ad h1 h2 => by have h3 := h.ap ad h1 h2; omega), h.lc, h.ge, h.ap⟩
  obtain ⟨h0, inner, ho, hr⟩ := h.row
  refine ⟨h0, inner, own_move ho (fun j hj => ?_), ?_⟩
  · exact hk.1.2 j (own_lt ho j hj) (fun he => hv (by rw [hj, he])) (by simp)
  · exact hr.imp_ (fun _ _ hp => hp)
theorem IsC.own_lt {w : World} {B g : Nat} {A : Option Addr} {c : Nat} {b : List Int} {p : Int} {v : Value} {ends : List Int} (h : IsC w B g A c b p v ends) {k : Nat} (hk : w.heap.size ≤ k) : k ≠ g ∧ v.ownBlock ≠ some k := by
  refine ⟨?_, fun e => ?_⟩
  · have := blk_lt h.blk; omega
  · have := (own_bounds h.row e).2; omega
theorem IsC.set_far {w : World} {B g : Nat} {A : Option Addr} {c : Nat} {b : List Int} {p : Int} {v : Value} {ends : List Int} (h : IsC w B g A c b p v ends) {k : Nat} (hg : k ≠ g) (hv : v.ownBlock ≠ some k) (hB : B ≤ k) (j : Nat) (u : Value) : IsC (w.setCell ⟨k, j, none⟩ u) B g A c b p v ends :=
  h.keep ((Kept.refl w k).set_ j u) (fun e => hg e.symm) hv hB
theorem next_movedC {w w2 w3 : World} {o1 o2 : Obj} {B g : Nat} {A : Option Addr} {c : Nat} {b : List Int} {p q p' : Int} {v v2 v3 : Value} {ends en e' : List Int} (H : IsC w B g A c b p v ends) (hB : B ≤ w.heap.size) (F2 : Fr (w.alloc o1) w2 g v v2) (H2 : IsC w2 B g A c b q v2 en) (F3 : Fr (w2.alloc o2) w3 g v2 v3) (H3 : IsC w3 B g A c b p' v3 e') (j : Nat) (u u0 u1 u2 u3 : Value) :
    Moved w B g A c b v p' e' (((((w3.setCell ⟨w2.heap.size, j, none⟩ u).setCell ⟨w.heap.size, 0, none⟩ u0).setCell ⟨w.heap.size, 1, none⟩ u1).setCell ⟨w.heap.size, 2, none⟩ u2).setCell ⟨w.heap.size, 3, none⟩ u3) := by
  have s1 : (w.alloc o1).heap.size = w.heap.size + 1 := World.size_alloc _ _
  have s2 : (w2.alloc o2).heap.size = w2.heap.size + 1 := World.size_alloc _ _
  have l1 := F2.1.1
  have l2 := F3.1.1
  have n2 := H.own_lt (Nat.le_refl _)
  have n3 := H2.own_lt (Nat.le_refl _)
  have m2 := F3.ne (F2.ne n2.2 (by omega)) (by omega : w.heap.size < (w2.alloc o2).heap.size)
  have m3 := F3.ne n3.2 (by omega : w2.heap.size < (w2.alloc o2).heap.size)
  refine ⟨v3, ((((H3.set_far n3.1 m3 (by omega) j u).set_far n2.1 m2 hB 0 u0).set_far n2.1 m2 hB 1 u1).set_far n2.1 m2 hB 2 u2).set_far n2.1 m2 hB 3 u3, ?_⟩
  exact Frset_new (Frset_new (Frset_new (Frset_new (Frset_new ((((Fr.new o1).trans F2).alloc o2).trans F3) (by omega) j u) (Nat.le_refl _) 0 u0) (Nat.le_refl _) 1 u1) (Nat.le_refl _) 2 u2) (Nat.le_refl _) 3 u3
theorem IsM.own_lt {w : World} {B g : Nat} {A : Option Addr} {c : Nat} {b : List Int} {p : Int} {v : Value} {ends : List Int} (h : IsM w B g A c b p v ends) {k : Nat} (hk : w.heap.size ≤ k) : k ≠ g ∧ v.ownBlock ≠ some k := by
  refine ⟨?_, fun e => ?_⟩
  · have := blk_lt h.blk; omega
  · have := (own_bounds h.row e).2; omega
theorem IsM.set_far {w : World} {B g : Nat} {A : Option Addr} {c : Nat} {b : List Int} {p : Int} {v : Value} {ends : List Int} (h : IsM w B g A c b p v ends) {k : Nat} (hg : k ≠ g) (hv : v.ownBlock ≠ some k) (hB : B ≤ k) (j : Nat) (u : Value) : IsM (w.setCell ⟨k, j, none⟩ u) B g A c b p v ends :=
  h.keep ((Kept.refl w k).set_ j u) (fun e => hg e.symm) hv hB
theorem next_movedM {w w2 w3 : World} {o1 o2 : Obj} {B g : Nat} {A : Option Addr} {c : Nat} {b : List Int} {p q p' : Int} {v v2 v3 : Value} {ends en e' : List Int} (H : IsM w B g A c b p v ends) (hB : B ≤ w.heap.size) (F2 : Fr (w.alloc o1) w2 g v v2) (H2 : IsM w2 B g A c b q v2 en) (F3 : Fr (w2.alloc o2) w3 g v2 v3) (H3 : IsM w3 B g A c b p' v3 e') (j : Nat) (u u0 u1 u2 u3 : Value) :
    MovedM w B g A c b v p' e' (((((w3.setCell ⟨w2.heap.size, j, none⟩ u).setCell ⟨w.heap.size, 0, none⟩ u0).setCell ⟨w.heap.size, 1, none⟩ u1).setCell ⟨w.heap.size, 2, none⟩ u2).setCell ⟨w.heap.size, 3, none⟩ u3) := by
  have s1 : (w.alloc o1).heap.size = w.heap.size + 1 := World.size_alloc _ _
  have s2 : (w2.alloc o2).heap.size = w2.heap.size + 1 := World.size_alloc _ _
  have l1 := F2.1.1
  have l2 := F3.1.1
  have n2 := H.own_lt (Nat.le_refl _)
  have n3 := H2.own_lt (Nat.le_refl _)
  have m2 := F3.ne (F2.ne n2.2 (by omega)) (by omega : w.heap.size < (w2.alloc o2).heap.size)
  have m3 := F3.ne n3.2 (by omega : w2.heap.size < (w2.alloc o2).heap.size)
  refine ⟨v3, ((((H3.set_far n3.1 m3 (by omega) j u).set_far n2.1 m2 hB 0 u0).set_far n2.1 m2 hB 1 u1).set_far n2.1 m2 hB 2 u2).set_far n2.1 m2 hB 3 u3, ?_⟩
  exact Frset_new (Frset_new (Frset_new (Frset_new (Frset_new ((((Fr.new o1).trans F2).alloc o2).trans F3) (by omega) j u) (Nat.le_refl _) 0 u0) (Nat.le_refl _) 1 u1) (Nat.le_refl _) 2 u2) (Nat.le_refl _) 3 u3
section
variable {w : World} {B g : Nat} {A : Option Addr} {c : Nat} {b : List Int} {p : Int} {v : Value} {ends : List Int}
theorem next_0 (h : IsC w B g A c b p v ends) (hi : Inv b.length p ends) (hB : B ≤ w.heap.size) (hb : ∀ x ∈ b, 0 ≤ x ∧ x ≤ 255) (hbl : b.length ≤ 140737488359000) (hw : (tg b p ends).1.2 = 0) :
    Calls Try.prog 76 #[.pointer (some ⟨g, 0, none⟩)] w fun e w' => e = .returned (fdV (nxt b p ends).1) ∧ Moved w B g A c b v (nxt b p ends).2.1 (nxt b p ends).2.2 w' := by
  have HTI := Aside0.mk (tg_inv hi hb)
  have HT := Aside0.mk (fun (W : World) (hW : IsC W B g A c b p v ends) (hBW : B ≤ W.heap.size) => Tag_c hW hi hBW hb hbl)
  have HV := Aside0.mk (fun (W : World) (u : Value) (hW : IsC W B g A c b (tg b p ends).2.1 u (tg b p ends).2.2) (hBW : B ≤ W.heap.size) => Varint_c hW HTI.out hBW hb hbl)
  have HB := Aside0.mk hB
  have H := Aside0.mk h
  unfold nxt payN
  rw [if_pos hw, hw]
  obtain ⟨T, hT⟩ : ∃ T, T = tg b p ends := ⟨_, rfl⟩
  rw [← hT] at HT HV hw ⊢
  clear hT HTI
  obtain ⟨⟨num, wire⟩, q, en⟩ := T
  simp only at HT HV hw ⊢
  subst hw
  obtain ⟨V, hV⟩ : ∃ V, V = vD b q en := ⟨_, rfl⟩
  rw [← hV] at HV ⊢
  clear hV h hi hB hb hbl
  go_enter Try.func76, Try.ntmps76
  go_wp2_with (first
    | (go_at_call 45; refine (HT.out _ (H.out.below (below_alloc (Below.refl _ _) _)) (szA HB.out _)).mono ?_; rintro e w2 ⟨rfl, v2, h2, f2⟩
       have r2 := f2.blk (blk_new w _) (H.out.own_lt (Nat.le_refl _)).1 (H.out.own_lt (Nat.le_refl _)).2
       obtain ⟨⟨rc0, rc1, rc2, rc3⟩, rf0, rf1, rf2, rf3⟩ := blk4 r2
       have s2 := szF (szA HB.out _) f2
       have S2 := Aside0.mk s2; have R2 := Aside0.mk r2
       have H2 := Aside0.mk h2; have F2 := Aside0.mk f2; clear h2 f2 s2 r2)
    | (go_at_call 22; refine (HV.out _ _ (H2.out.below (below_alloc (Below.refl _ _) _)) (szA S2.out _)).mono ?_; rintro e w3 ⟨rfl, v3, h3, f3⟩
       have ne0 := F2.out.ne (H.out.own_lt (Nat.le_refl _)).2 (by rw [World.size_alloc]; omega)
       have r3 := f3.blk (blk_alloc R2.out _) (H.out.own_lt (Nat.le_refl _)).1 ne0
       have x3 := f3.blk (blk_new w2 _) (H2.out.own_lt (Nat.le_refl _)).1 (H2.out.own_lt (Nat.le_refl _)).2
       clear rc0 rc1 rc2 rc3 rf0 rf1 rf2 rf3
       obtain ⟨⟨rc0, rc1, rc2, rc3⟩, rf0, rf1, rf2, rf3⟩ := blk4 r3
       obtain ⟨⟨xc0, xc1, xc2, xc3⟩, xf0, xf1, xf2, xf3⟩ := blk4 x3
       have hne : ¬ (w.heap.size = w2.heap.size) := by have := blk_lt R2.out; omega
       have H3 := Aside0.mk h3; have F3 := Aside0.mk f3; have R3 := Aside0.mk r3; have X3 := Aside0.mk x3; clear h3 f3 r3 x3 ne0))
  have hb4 : ((((((w3.setCell ⟨w2.heap.size, 2, none⟩ (.int .u64 V.1)).setCell ⟨w.heap.size, 0, none⟩ (.int .i64 num)).setCell ⟨w.heap.size, 1, none⟩ (.int .i64 0)).setCell ⟨w.heap.size, 2, none⟩ (.int .u64 V.1)).setCell ⟨w.heap.size, 3, none⟩ (.string (strOfNums []))).heap[w.heap.size]?) = some (.cells #[.int .i64 num, .int .i64 0, .int .u64 V.1, .string (strOfNums [])] 46 (0, 0)) :=
    blk_put (blk_put (blk_put (blk_put (blk_far R3.out hne _) 0 _ rfl) 1 _ rfl) 2 _ rfl) 3 _ rfl
  refine bodyPost_ret (v := fdV (num, 0, V.1, [])) (results_cell_row rfl _ _ w.heap.size 46 _ _ _ rfl hb4 Try.underlying46 rfl (by kernel_rfl)) rfl ⟨rfl, ?_⟩
  exact next_movedC H.out HB.out F2.out H2.out F3.out H3.out _ _ _ _ _ _
theorem next_1 (h : IsC w B g A c b p v ends) (hi : Inv b.length p ends) (hB : B ≤ w.heap.size) (hb : ∀ x ∈ b, 0 ≤ x ∧ x ≤ 255) (hbl : b.length ≤ 140737488359000) (hw : (tg b p ends).1.2 = 1) :
    Calls Try.prog 76 #[.pointer (some ⟨g, 0, none⟩)] w fun e w' => e = .returned (fdV (nxt b p ends).1) ∧ Moved w B g A c b v (nxt b p ends).2.1 (nxt b p ends).2.2 w' := by
  have HTI := Aside0.mk (tg_inv hi hb)
  have HT := Aside0.mk (fun (W : World) (hW : IsC W B g A c b p v ends) (hBW : B ≤ W.heap.size) => Tag_c hW hi hBW hb hbl)
  have HV := Aside0.mk (fun (W : World) (u : Value) (hW : IsC W B g A c b (tg b p ends).2.1 u (tg b p ends).2.2) (hBW : B ≤ W.heap.size) => Fixed8_c hW HTI.out hBW hb hbl)
  have HB := Aside0.mk hB
  have H := Aside0.mk h
  unfold nxt payN
  rw [if_neg (show ¬ (tg b p ends).1.2 = 0 by rw [hw]; decide), if_pos hw, hw]
  obtain ⟨T, hT⟩ : ∃ T, T = tg b p ends := ⟨_, rfl⟩
  rw [← hT] at HT HV hw ⊢
  clear hT HTI
  obtain ⟨⟨num, wire⟩, q, en⟩ := T
  simp only at HT HV hw ⊢
  subst hw
  obtain ⟨V, hV⟩ : ∃ V, V = fD 8 b q en := ⟨_, rfl⟩
  rw [← hV] at HV ⊢
  clear hV h hi hB hb hbl
  go_enter Try.func76, Try.ntmps76
  go_wp2_with (first
    | (go_at_call 45; refine (HT.out _ (H.out.below (below_alloc (Below.refl _ _) _)) (szA HB.out _)).mono ?_; rintro e w2 ⟨rfl, v2, h2, f2⟩
       have r2 := f2.blk (blk_new w _) (H.out.own_lt (Nat.le_refl _)).1 (H.out.own_lt (Nat.le_refl _)).2
       obtain ⟨⟨rc0, rc1, rc2, rc3⟩, rf0, rf1, rf2, rf3⟩ := blk4 r2
       have s2 := szF (szA HB.out _) f2
       have S2 := Aside0.mk s2; have R2 := Aside0.mk r2
       have H2 := Aside0.mk h2; have F2 := Aside0.mk f2; clear h2 f2 s2 r2)
    | (go_at_call 43; refine (HV.out _ _ (H2.out.below (below_alloc (Below.refl _ _) _)) (szA S2.out _)).mono ?_; rintro e w3 ⟨rfl, v3, h3, f3⟩
       have ne0 := F2.out.ne (H.out.own_lt (Nat.le_refl _)).2 (by rw [World.size_alloc]; omega)
       have r3 := f3.blk (blk_alloc R2.out _) (H.out.own_lt (Nat.le_refl _)).1 ne0
       have x3 := f3.blk (blk_new w2 _) (H2.out.own_lt (Nat.le_refl _)).1 (H2.out.own_lt (Nat.le_refl _)).2
       clear rc0 rc1 rc2 rc3 rf0 rf1 rf2 rf3
       obtain ⟨⟨rc0, rc1, rc2, rc3⟩, rf0, rf1, rf2, rf3⟩ := blk4 r3
       obtain ⟨⟨xc0, xc1, xc2, xc3⟩, xf0, xf1, xf2, xf3⟩ := blk4 x3
       have hne : ¬ (w.heap.size = w2.heap.size) := by have := blk_lt R2.out; omega
       have H3 := Aside0.mk h3; have F3 := Aside0.mk f3; have R3 := Aside0.mk r3; have X3 := Aside0.mk x3; clear h3 f3 r3 x3 ne0))
  have hb4 : ((((((w3.setCell ⟨w2.heap.size, 2, none⟩ (.int .u64 V.1)).setCell ⟨w.heap.size, 0, none⟩ (.int .i64 num)).setCell ⟨w.heap.size, 1, none⟩ (.int .i64 1)).setCell ⟨w.heap.size, 2, none⟩ (.int .u64 V.1)).setCell ⟨w.heap.size, 3, none⟩ (.string (strOfNums []))).heap[w.heap.size]?) = some (.cells #[.int .i64 num, .int .i64 1, .int .u64 V.1, .string (strOfNums [])] 46 (0, 0)) :=
    blk_put (blk_put (blk_put (blk_put (blk_far R3.out hne _) 0 _ rfl) 1 _ rfl) 2 _ rfl) 3 _ rfl
  refine bodyPost_ret (v := fdV (num, 1, V.1, [])) (results_cell_row rfl _ _ w.heap.size 46 _ _ _ rfl hb4 Try.underlying46 rfl (by kernel_rfl)) rfl ⟨rfl, ?_⟩
  exact next_movedC H.out HB.out F2.out H2.out F3.out H3.out _ _ _ _ _ _
theorem next_5 (h : IsC w B g A c b p v ends) (hi : Inv b.length p ends) (hB : B ≤ w.heap.size) (hb : ∀ x ∈ b, 0 ≤ x ∧ x ≤ 255) (hbl : b.length ≤ 140737488359000) (hw : (tg b p ends).1.2 = 5) :
    Calls Try.prog 76 #[.pointer (some ⟨g, 0, none⟩)] w fun e w' => e = .returned (fdV (nxt b p ends).1) ∧ Moved w B g A c b v (nxt b p ends).2.1 (nxt b p ends).2.2 w' := by
  have HTI := Aside0.mk (tg_inv hi hb)
  have HT := Aside0.mk (fun (W : World) (hW : IsC W B g A c b p v ends) (hBW : B ≤ W.heap.size) => Tag_c hW hi hBW hb hbl)
  have HV := Aside0.mk (fun (W : World) (u : Value) (hW : IsC W B g A c b (tg b p ends).2.1 u (tg b p ends).2.2) (hBW : B ≤ W.heap.size) => Fixed4_c hW HTI.out hBW hb hbl)
  have HSM := fD4_small hb (tg b p ends).2.1 (tg b p ends).2.2
  have HB := Aside0.mk hB
  have H := Aside0.mk h
  unfold nxt payN
  rw [if_neg (show ¬ (tg b p ends).1.2 = 0 by rw [hw]; decide), if_neg (show ¬ (tg b p ends).1.2 = 1 by rw [hw]; decide), if_pos hw, hw]
  obtain ⟨T, hT⟩ : ∃ T, T = tg b p ends := ⟨_, rfl⟩
  rw [← hT] at HT HV hw HSM ⊢
  clear hT HTI
  obtain ⟨⟨num, wire⟩, q, en⟩ := T
  simp only at HT HV hw HSM ⊢
  subst hw
  obtain ⟨V, hV⟩ : ∃ V, V = fD 4 b q en := ⟨_, rfl⟩
  rw [← hV] at HV HSM ⊢
  clear hV h hi hB hb hbl
  go_enter Try.func76, Try.ntmps76
  go_wp2_with (first
    | (go_at_call 45; refine (HT.out _ (H.out.below (below_alloc (Below.refl _ _) _)) (szA HB.out _)).mono ?_; rintro e w2 ⟨rfl, v2, h2, f2⟩
       have r2 := f2.blk (blk_new w _) (H.out.own_lt (Nat.le_refl _)).1 (H.out.own_lt (Nat.le_refl _)).2
       obtain ⟨⟨rc0, rc1, rc2, rc3⟩, rf0, rf1, rf2, rf3⟩ := blk4 r2
       have s2 := szF (szA HB.out _) f2
       have S2 := Aside0.mk s2; have R2 := Aside0.mk r2
       have H2 := Aside0.mk h2; have F2 := Aside0.mk f2; clear h2 f2 s2 r2)
    | (go_at_call 41; refine (HV.out _ _ (H2.out.below (below_alloc (Below.refl _ _) _)) (szA S2.out _)).mono ?_; rintro e w3 ⟨rfl, v3, h3, f3⟩
       have ne0 := F2.out.ne (H.out.own_lt (Nat.le_refl _)).2 (by rw [World.size_alloc]; omega)
       have r3 := f3.blk (blk_alloc R2.out _) (H.out.own_lt (Nat.le_refl _)).1 ne0
       have x3 := f3.blk (blk_new w2 _) (H2.out.own_lt (Nat.le_refl _)).1 (H2.out.own_lt (Nat.le_refl _)).2
       clear rc0 rc1 rc2 rc3 rf0 rf1 rf2 rf3
       obtain ⟨⟨rc0, rc1, rc2, rc3⟩, rf0, rf1, rf2, rf3⟩ := blk4 r3
       obtain ⟨⟨xc0, xc1, xc2, xc3⟩, xf0, xf1, xf2, xf3⟩ := blk4 x3
       have hne : ¬ (w.heap.size = w2.heap.size) := by have := blk_lt R2.out; omega
       have H3 := Aside0.mk h3; have F3 := Aside0.mk f3; have R3 := Aside0.mk r3; have X3 := Aside0.mk x3; clear h3 f3 r3 x3 ne0))
  have hb4 : ((((((w3.setCell ⟨w2.heap.size, 2, none⟩ (.int .u64 V.1)).setCell ⟨w.heap.size, 0, none⟩ (.int .i64 num)).setCell ⟨w.heap.size, 1, none⟩ (.int .i64 5)).setCell ⟨w.heap.size, 2, none⟩ (.int .u64 V.1)).setCell ⟨w.heap.size, 3, none⟩ (.string (strOfNums []))).heap[w.heap.size]?) = some (.cells #[.int .i64 num, .int .i64 5, .int .u64 V.1, .string (strOfNums [])] 46 (0, 0)) :=
    blk_put (blk_put (blk_put (blk_put (blk_far R3.out hne _) 0 _ rfl) 1 _ rfl) 2 _ rfl) 3 _ rfl
  refine bodyPost_ret (v := fdV (num, 5, V.1, [])) (results_cell_row rfl _ _ w.heap.size 46 _ _ _ rfl hb4 Try.underlying46 rfl (by kernel_rfl)) rfl ⟨rfl, ?_⟩
  exact next_movedC H.out HB.out F2.out H2.out F3.out H3.out _ _ _ _ _ _
theorem next_2 (h : IsC w B g A c b p v ends) (hi : Inv b.length p ends) (hB : B ≤ w.heap.size) (hb : ∀ x ∈ b, 0 ≤ x ∧ x ≤ 255) (hbl : b.length ≤ 140737488359000) (hw0 : ¬ (tg b p ends).1.2 = 0) (hw1 : ¬ (tg b p ends).1.2 = 1) (hw5 : ¬ (tg b p ends).1.2 = 5) :
    Calls Try.prog 76 #[.pointer (some ⟨g, 0, none⟩)] w fun e w' => e = .returned (fdV (nxt b p ends).1) ∧ Moved w B g A c b v (nxt b p ends).2.1 (nxt b p ends).2.2 w' := by
  have HTI := Aside0.mk (tg_inv hi hb)
  have HT := Aside0.mk (fun (W : World) (hW : IsC W B g A c b p v ends) (hBW : B ≤ W.heap.size) => Tag_c hW hi hBW hb hbl)
  have HV := Aside0.mk (fun (W : World) (u : Value) (hW : IsC W B g A c b (tg b p ends).2.1 u (tg b p ends).2.2) (hBW : B ≤ W.heap.size) => Text_c hW HTI.out hBW hb hbl)
  have HB := Aside0.mk hB
  have H := Aside0.mk h
  unfold nxt payN
  rw [if_neg hw0, if_neg hw1, if_neg hw5]
  obtain ⟨T, hT⟩ : ∃ T, T = tg b p ends := ⟨_, rfl⟩
  rw [← hT] at HT HV hw0 hw1 hw5 ⊢
  clear hT HTI
  obtain ⟨⟨num, wire⟩, q, en⟩ := T
  simp only at HT HV hw0 hw1 hw5 ⊢
  have t0 : (wire == 0) = false := beq_eq_false_iff_ne.2 hw0
  have t1 : (wire == 1) = false := beq_eq_false_iff_ne.2 hw1
  have t5 : (wire == 5) = false := beq_eq_false_iff_ne.2 hw5
  clear hw0 hw1 hw5
  obtain ⟨V, hV⟩ : ∃ V, V = txt b q en := ⟨_, rfl⟩
  rw [← hV] at HV ⊢
  clear hV h hi hB hb hbl
  go_enter Try.func76, Try.ntmps76
  go_wp2_with (first
    | (go_at_call 45; refine (HT.out _ (H.out.below (below_alloc (Below.refl _ _) _)) (szA HB.out _)).mono ?_; rintro e w2 ⟨rfl, v2, h2, f2⟩
       have r2 := f2.blk (blk_new w _) (H.out.own_lt (Nat.le_refl _)).1 (H.out.own_lt (Nat.le_refl _)).2
       obtain ⟨⟨rc0, rc1, rc2, rc3⟩, rf0, rf1, rf2, rf3⟩ := blk4 r2
       have s2 := szF (szA HB.out _) f2
       have S2 := Aside0.mk s2; have R2 := Aside0.mk r2
       have H2 := Aside0.mk h2; have F2 := Aside0.mk f2; clear h2 f2 s2 r2)
    | (go_at_call 15; refine (HV.out _ _ (H2.out.below (below_alloc (Below.refl _ _) _)) (szA S2.out _)).mono ?_; rintro e w3 ⟨rfl, v3, h3, f3⟩
       have ne0 := F2.out.ne (H.out.own_lt (Nat.le_refl _)).2 (by rw [World.size_alloc]; omega)
       have r3 := f3.blk (blk_alloc R2.out _) (H.out.own_lt (Nat.le_refl _)).1 ne0
       have x3 := f3.blk (blk_new w2 _) (H2.out.own_lt (Nat.le_refl _)).1 (H2.out.own_lt (Nat.le_refl _)).2
       clear rc0 rc1 rc2 rc3 rf0 rf1 rf2 rf3
       obtain ⟨⟨rc0, rc1, rc2, rc3⟩, rf0, rf1, rf2, rf3⟩ := blk4 r3
       obtain ⟨⟨xc0, xc1, xc2, xc3⟩, xf0, xf1, xf2, xf3⟩ := blk4 x3
       have hne : ¬ (w.heap.size = w2.heap.size) := by have := blk_lt R2.out; omega
       have H3 := Aside0.mk h3; have F3 := Aside0.mk f3; have R3 := Aside0.mk r3; have X3 := Aside0.mk x3; clear h3 f3 r3 x3 ne0))
  have hb4 : ((((((w3.setCell ⟨w2.heap.size, 3, none⟩ (.string (strOfNums V.1))).setCell ⟨w.heap.size, 0, none⟩ (.int .i64 num)).setCell ⟨w.heap.size, 1, none⟩ (.int .i64 wire)).setCell ⟨w.heap.size, 2, none⟩ (.int .u64 0)).setCell ⟨w.heap.size, 3, none⟩ (.string (strOfNums V.1))).heap[w.heap.size]?) = some (.cells #[.int .i64 num, .int .i64 wire, .int .u64 0, .string (strOfNums V.1)] 46 (0, 0)) :=
    blk_put (blk_put (blk_put (blk_put (blk_far R3.out hne _) 0 _ rfl) 1 _ rfl) 2 _ rfl) 3 _ rfl
  refine bodyPost_ret (v := fdV (num, wire, 0, V.1)) (results_cell_row rfl _ _ w.heap.size 46 _ _ _ rfl hb4 Try.underlying46 rfl (by kernel_rfl)) rfl ⟨rfl, ?_⟩
  exact next_movedC H.out HB.out F2.out H2.out F3.out H3.out _ _ _ _ _ _
theorem next_c (h : IsC w B g A c b p v ends) (hi : Inv b.length p ends) (hB : B ≤ w.heap.size) (hb : ∀ x ∈ b, 0 ≤ x ∧ x ≤ 255) (hbl : b.length ≤ 140737488359000) :
    Calls Try.prog 76 #[.pointer (some ⟨g, 0, none⟩)] w fun e w' => e = .returned (fdV (nxt b p ends).1) ∧ Moved w B g A c b v (nxt b p ends).2.1 (nxt b p ends).2.2 w' := by
  by_cases h0 : (tg b p ends).1.2 = 0
  · exact next_0 h hi hB hb hbl h0
  by_cases h1 : (tg b p ends).1.2 = 1
  · exact next_1 h hi hB hb hbl h1
  by_cases h5 : (tg b p ends).1.2 = 5
  · exact next_5 h hi hB hb hbl h5
  exact next_2 h hi hB hb hbl h0 h1 h5
theorem one_0 (h : IsM w B g A c b p v ends) (hi : Inv b.length p ends) (hB : B ≤ w.heap.size) (hb : ∀ x ∈ b, 0 ≤ x ∧ x ≤ 255) (hbl : b.length ≤ 140737488359000) (hw : (tg b p ends).1.2 = 0) :
    Calls Try.prog 53 #[.pointer (some ⟨g, 0, none⟩)] w fun e w' => e = .returned (fdV (nxt b p ends).1) ∧ MovedM w B g A c b v (nxt b p ends).2.1 (nxt b p ends).2.2 w' := by
  have HTI := Aside0.mk (tg_inv hi hb)
  have HT := Aside0.mk (fun (W : World) (hW : IsM W B g A c b p v ends) (hBW : B ≤ W.heap.size) => Tag_m hW hi hBW hb hbl)
  have HV := Aside0.mk (fun (W : World) (u : Value) (hW : IsM W B g A c b (tg b p ends).2.1 u (tg b p ends).2.2) (hBW : B ≤ W.heap.size) => Varint_m hW HTI.out hBW hb hbl)
  have HB := Aside0.mk hB
  have H := Aside0.mk h
  unfold nxt payN
  rw [if_pos hw, hw]
  obtain ⟨T, hT⟩ : ∃ T, T = tg b p ends := ⟨_, rfl⟩
  rw [← hT] at HT HV hw ⊢
  clear hT HTI
  obtain ⟨⟨num, wire⟩, q, en⟩ := T
  simp only at HT HV hw ⊢
  subst hw
  obtain ⟨V, hV⟩ : ∃ V, V = vD b q en := ⟨_, rfl⟩
  rw [← hV] at HV ⊢
  clear hV h hi hB hb hbl
  go_enter Try.func53, Try.ntmps53
  go_wp2_with (first
    | (go_at_call 46; refine (HT.out _ (H.out.below (below_alloc (Below.refl _ _) _)) (szA HB.out _)).mono ?_; rintro e w2 ⟨rfl, v2, h2, f2⟩
       have r2 := f2.blk (blk_new w _) (H.out.own_lt (Nat.le_refl _)).1 (H.out.own_lt (Nat.le_refl _)).2
       obtain ⟨⟨rc0, rc1, rc2, rc3⟩, rf0, rf1, rf2, rf3⟩ := blk4 r2
       have s2 := szF (szA HB.out _) f2
       have S2 := Aside0.mk s2; have R2 := Aside0.mk r2
       have H2 := Aside0.mk h2; have F2 := Aside0.mk f2; clear h2 f2 s2 r2)
    | (go_at_call 40; refine (HV.out _ _ (H2.out.below (below_alloc (Below.refl _ _) _)) (szA S2.out _)).mono ?_; rintro e w3 ⟨rfl, v3, h3, f3⟩
       have ne0 := F2.out.ne (H.out.own_lt (Nat.le_refl _)).2 (by rw [World.size_alloc]; omega)
       have r3 := f3.blk (blk_alloc R2.out _) (H.out.own_lt (Nat.le_refl _)).1 ne0
       have x3 := f3.blk (blk_new w2 _) (H2.out.own_lt (Nat.le_refl _)).1 (H2.out.own_lt (Nat.le_refl _)).2
       clear rc0 rc1 rc2 rc3 rf0 rf1 rf2 rf3
       obtain ⟨⟨rc0, rc1, rc2, rc3⟩, rf0, rf1, rf2, rf3⟩ := blk4 r3
       obtain ⟨⟨xc0, xc1, xc2, xc3⟩, xf0, xf1, xf2, xf3⟩ := blk4 x3
       have hne : ¬ (w.heap.size = w2.heap.size) := by have := blk_lt R2.out; omega
       have H3 := Aside0.mk h3; have F3 := Aside0.mk f3; have R3 := Aside0.mk r3; have X3 := Aside0.mk x3; clear h3 f3 r3 x3 ne0))
  have hb4 : ((((((w3.setCell ⟨w2.heap.size, 2, none⟩ (.int .u64 V.1)).setCell ⟨w.heap.size, 0, none⟩ (.int .i64 num)).setCell ⟨w.heap.size, 1, none⟩ (.int .i64 0)).setCell ⟨w.heap.size, 2, none⟩ (.int .u64 V.1)).setCell ⟨w.heap.size, 3, none⟩ (.string (strOfNums []))).heap[w.heap.size]?) = some (.cells #[.int .i64 num, .int .i64 0, .int .u64 V.1, .string (strOfNums [])] 46 (0, 0)) :=
    blk_put (blk_put (blk_put (blk_put (blk_far R3.out hne _) 0 _ rfl) 1 _ rfl) 2 _ rfl) 3 _ rfl
  refine bodyPost_ret (v := fdV (num, 0, V.1, [])) (results_cell_row rfl _ _ w.heap.size 46 _ _ _ rfl hb4 Try.underlying46 rfl (by kernel_rfl)) rfl ⟨rfl, ?_⟩
  exact next_movedM H.out HB.out F2.out H2.out F3.out H3.out _ _ _ _ _ _
theorem one_1 (h : IsM w B g A c b p v ends) (hi : Inv b.length p ends) (hB : B ≤ w.heap.size) (hb : ∀ x ∈ b, 0 ≤ x ∧ x ≤ 255) (hbl : b.length ≤ 140737488359000) (hw : (tg b p ends).1.2 = 1) :
    Calls Try.prog 53 #[.pointer (some ⟨g, 0, none⟩)] w fun e w' => e = .returned (fdV (nxt b p ends).1) ∧ MovedM w B g A c b v (nxt b p ends).2.1 (nxt b p ends).2.2 w' := by
  have HTI := Aside0.mk (tg_inv hi hb)
  have HT := Aside0.mk (fun (W : World) (hW : IsM W B g A c b p v ends) (hBW : B ≤ W.heap.size) => Tag_m hW hi hBW hb hbl)
  have HV := Aside0.mk (fun (W : World) (u : Value) (hW : IsM W B g A c b (tg b p ends).2.1 u (tg b p ends).2.2) (hBW : B ≤ W.heap.size) => Fixed_m hW HTI.out hBW hb hbl 8 (.inr rfl))
  have HB := Aside0.mk hB
  have H := Aside0.mk h
  unfold nxt payN
  rw [if_neg (show ¬ (tg b p ends).1.2 = 0 by rw [hw]; decide), if_pos hw, hw]
  obtain ⟨T, hT⟩ : ∃ T, T = tg b p ends := ⟨_, rfl⟩
  rw [← hT] at HT HV hw ⊢
  clear hT HTI
  obtain ⟨⟨num, wire⟩, q, en⟩ := T
  simp only at HT HV hw ⊢
  subst hw
  obtain ⟨V, hV⟩ : ∃ V, V = fD 8 b q en := ⟨_, rfl⟩
  rw [← hV] at HV ⊢
  clear hV h hi hB hb hbl
  go_enter Try.func53, Try.ntmps53
  go_wp2_with (first
    | (go_at_call 46; refine (HT.out _ (H.out.below (below_alloc (Below.refl _ _) _)) (szA HB.out _)).mono ?_; rintro e w2 ⟨rfl, v2, h2, f2⟩
       have r2 := f2.blk (blk_new w _) (H.out.own_lt (Nat.le_refl _)).1 (H.out.own_lt (Nat.le_refl _)).2
       obtain ⟨⟨rc0, rc1, rc2, rc3⟩, rf0, rf1, rf2, rf3⟩ := blk4 r2
       have s2 := szF (szA HB.out _) f2
       have S2 := Aside0.mk s2; have R2 := Aside0.mk r2
       have H2 := Aside0.mk h2; have F2 := Aside0.mk f2; clear h2 f2 s2 r2)
    | (go_at_call 42; refine (HV.out _ _ (H2.out.below (below_alloc (Below.refl _ _) _)) (szA S2.out _)).mono ?_; rintro e w3 ⟨rfl, v3, h3, f3⟩
       have ne0 := F2.out.ne (H.out.own_lt (Nat.le_refl _)).2 (by rw [World.size_alloc]; omega)
       have r3 := f3.blk (blk_alloc R2.out _) (H.out.own_lt (Nat.le_refl _)).1 ne0
       have x3 := f3.blk (blk_new w2 _) (H2.out.own_lt (Nat.le_refl _)).1 (H2.out.own_lt (Nat.le_refl _)).2
       clear rc0 rc1 rc2 rc3 rf0 rf1 rf2 rf3
       obtain ⟨⟨rc0, rc1, rc2, rc3⟩, rf0, rf1, rf2, rf3⟩ := blk4 r3
       obtain ⟨⟨xc0, xc1, xc2, xc3⟩, xf0, xf1, xf2, xf3⟩ := blk4 x3
       have hne : ¬ (w.heap.size = w2.heap.size) := by have := blk_lt R2.out; omega
       have H3 := Aside0.mk h3; have F3 := Aside0.mk f3; have R3 := Aside0.mk r3; have X3 := Aside0.mk x3; clear h3 f3 r3 x3 ne0))
  have hb4 : ((((((w3.setCell ⟨w2.heap.size, 2, none⟩ (.int .u64 V.1)).setCell ⟨w.heap.size, 0, none⟩ (.int .i64 num)).setCell ⟨w.heap.size, 1, none⟩ (.int .i64 1)).setCell ⟨w.heap.size, 2, none⟩ (.int .u64 V.1)).setCell ⟨w.heap.size, 3, none⟩ (.string (strOfNums []))).heap[w.heap.size]?) = some (.cells #[.int .i64 num, .int .i64 1, .int .u64 V.1, .string (strOfNums [])] 46 (0, 0)) :=
    blk_put (blk_put (blk_put (blk_put (blk_far R3.out hne _) 0 _ rfl) 1 _ rfl) 2 _ rfl) 3 _ rfl
  refine bodyPost_ret (v := fdV (num, 1, V.1, [])) (results_cell_row rfl _ _ w.heap.size 46 _ _ _ rfl hb4 Try.underlying46 rfl (by kernel_rfl)) rfl ⟨rfl, ?_⟩
  exact next_movedM H.out HB.out F2.out H2.out F3.out H3.out _ _ _ _ _ _
theorem one_5 (h : IsM w B g A c b p v ends) (hi : Inv b.length p ends) (hB : B ≤ w.heap.size) (hb : ∀ x ∈ b, 0 ≤ x ∧ x ≤ 255) (hbl : b.length ≤ 140737488359000) (hw : (tg b p ends).1.2 = 5) :
    Calls Try.prog 53 #[.pointer (some ⟨g, 0, none⟩)] w fun e w' => e = .returned (fdV (nxt b p ends).1) ∧ MovedM w B g A c b v (nxt b p ends).2.1 (nxt b p ends).2.2 w' := by
  have HTI := Aside0.mk (tg_inv hi hb)
  have HT := Aside0.mk (fun (W : World) (hW : IsM W B g A c b p v ends) (hBW : B ≤ W.heap.size) => Tag_m hW hi hBW hb hbl)
  have HV := Aside0.mk (fun (W : World) (u : Value) (hW : IsM W B g A c b (tg b p ends).2.1 u (tg b p ends).2.2) (hBW : B ≤ W.heap.size) => Fixed_m hW HTI.out hBW hb hbl 4 (.inl rfl))
  have HB := Aside0.mk hB
  have H := Aside0.mk h
  unfold nxt payN
  rw [if_neg (show ¬ (tg b p ends).1.2 = 0 by rw [hw]; decide), if_neg (show ¬ (tg b p ends).1.2 = 1 by rw [hw]; decide), if_pos hw, hw]
  obtain ⟨T, hT⟩ : ∃ T, T = tg b p ends := ⟨_, rfl⟩
  rw [← hT] at HT HV hw ⊢
  clear hT HTI
  obtain ⟨⟨num, wire⟩, q, en⟩ := T
  simp only at HT HV hw ⊢
  subst hw
  obtain ⟨V, hV⟩ : ∃ V, V = fD 4 b q en := ⟨_, rfl⟩
  rw [← hV] at HV ⊢
  clear hV h hi hB hb hbl
  go_enter Try.func53, Try.ntmps53
  go_wp2_with (first
    | (go_at_call 46; refine (HT.out _ (H.out.below (below_alloc (Below.refl _ _) _)) (szA HB.out _)).mono ?_; rintro e w2 ⟨rfl, v2, h2, f2⟩
       have r2 := f2.blk (blk_new w _) (H.out.own_lt (Nat.le_refl _)).1 (H.out.own_lt (Nat.le_refl _)).2
       obtain ⟨⟨rc0, rc1, rc2, rc3⟩, rf0, rf1, rf2, rf3⟩ := blk4 r2
       have s2 := szF (szA HB.out _) f2
       have S2 := Aside0.mk s2; have R2 := Aside0.mk r2
       have H2 := Aside0.mk h2; have F2 := Aside0.mk f2; clear h2 f2 s2 r2)
    | (go_at_call 42; refine (HV.out _ _ (H2.out.below (below_alloc (Below.refl _ _) _)) (szA S2.out _)).mono ?_; rintro e w3 ⟨rfl, v3, h3, f3⟩
       have ne0 := F2.out.ne (H.out.own_lt (Nat.le_refl _)).2 (by rw [World.size_alloc]; omega)
       have r3 := f3.blk (blk_alloc R2.out _) (H.out.own_lt (Nat.le_refl _)).1 ne0
       have x3 := f3.blk (blk_new w2 _) (H2.out.own_lt (Nat.le_refl _)).1 (H2.out.own_lt (Nat.le_refl _)).2
       clear rc0 rc1 rc2 rc3 rf0 rf1 rf2 rf3
       obtain ⟨⟨rc0, rc1, rc2, rc3⟩, rf0, rf1, rf2, rf3⟩ := blk4 r3
       obtain ⟨⟨xc0, xc1, xc2, xc3⟩, xf0, xf1, xf2, xf3⟩ := blk4 x3
       have hne : ¬ (w.heap.size = w2.heap.size) := by have := blk_lt R2.out; omega
       have H3 := Aside0.mk h3; have F3 := Aside0.mk f3; have R3 := Aside0.mk r3; have X3 := Aside0.mk x3; clear h3 f3 r3 x3 ne0))
  have hb4 : ((((((w3.setCell ⟨w2.heap.size, 2, none⟩ (.int .u64 V.1)).setCell ⟨w.heap.size, 0, none⟩ (.int .i64 num)).setCell ⟨w.heap.size, 1, none⟩ (.int .i64 5)).setCell ⟨w.heap.size, 2, none⟩ (.int .u64 V.1)).setCell ⟨w.heap.size, 3, none⟩ (.string (strOfNums []))).heap[w.heap.size]?) = some (.cells #[.int .i64 num, .int .i64 5, .int .u64 V.1, .string (strOfNums [])] 46 (0, 0)) :=
    blk_put (blk_put (blk_put (blk_put (blk_far R3.out hne _) 0 _ rfl) 1 _ rfl) 2 _ rfl) 3 _ rfl
  refine bodyPost_ret (v := fdV (num, 5, V.1, [])) (results_cell_row rfl _ _ w.heap.size 46 _ _ _ rfl hb4 Try.underlying46 rfl (by kernel_rfl)) rfl ⟨rfl, ?_⟩
  exact next_movedM H.out HB.out F2.out H2.out F3.out H3.out _ _ _ _ _ _
theorem one_2 (h : IsM w B g A c b p v ends) (hi : Inv b.length p ends) (hB : B ≤ w.heap.size) (hb : ∀ x ∈ b, 0 ≤ x ∧ x ≤ 255) (hbl : b.length ≤ 140737488359000) (hw0 : ¬ (tg b p ends).1.2 = 0) (hw1 : ¬ (tg b p ends).1.2 = 1) (hw5 : ¬ (tg b p ends).1.2 = 5) :
    Calls Try.prog 53 #[.pointer (some ⟨g, 0, none⟩)] w fun e w' => e = .returned (fdV (nxt b p ends).1) ∧ MovedM w B g A c b v (nxt b p ends).2.1 (nxt b p ends).2.2 w' := by
  have HTI := Aside0.mk (tg_inv hi hb)
  have HT := Aside0.mk (fun (W : World) (hW : IsM W B g A c b p v ends) (hBW : B ≤ W.heap.size) => Tag_m hW hi hBW hb hbl)
  have HV := Aside0.mk (fun (W : World) (u : Value) (hW : IsM W B g A c b (tg b p ends).2.1 u (tg b p ends).2.2) (hBW : B ≤ W.heap.size) => Text_m hW HTI.out hBW hb hbl)
  have HB := Aside0.mk hB
  have H := Aside0.mk h
  unfold nxt payN
  rw [if_neg hw0, if_neg hw1, if_neg hw5]
  obtain ⟨T, hT⟩ : ∃ T, T = tg b p ends := ⟨_, rfl⟩
  rw [← hT] at HT HV hw0 hw1 hw5 ⊢
  clear hT HTI
  obtain ⟨⟨num, wire⟩, q, en⟩ := T
  simp only at HT HV hw0 hw1 hw5 ⊢
  have t0 : (wire == 0) = false := beq_eq_false_iff_ne.2 hw0
  have t1 : (wire == 1) = false := beq_eq_false_iff_ne.2 hw1
  have t5 : (wire == 5) = false := beq_eq_false_iff_ne.2 hw5
  clear hw0 hw1 hw5
  obtain ⟨V, hV⟩ : ∃ V, V = txt b q en := ⟨_, rfl⟩
  rw [← hV] at HV ⊢
  clear hV h hi hB hb hbl
  go_enter Try.func53, Try.ntmps53
  go_wp2_with (first
    | (go_at_call 46; refine (HT.out _ (H.out.below (below_alloc (Below.refl _ _) _)) (szA HB.out _)).mono ?_; rintro e w2 ⟨rfl, v2, h2, f2⟩
       have r2 := f2.blk (blk_new w _) (H.out.own_lt (Nat.le_refl _)).1 (H.out.own_lt (Nat.le_refl _)).2
       obtain ⟨⟨rc0, rc1, rc2, rc3⟩, rf0, rf1, rf2, rf3⟩ := blk4 r2
       have s2 := szF (szA HB.out _) f2
       have S2 := Aside0.mk s2; have R2 := Aside0.mk r2
       have H2 := Aside0.mk h2; have F2 := Aside0.mk f2; clear h2 f2 s2 r2)
    | (go_at_call 44; refine (HV.out _ _ (H2.out.below (below_alloc (Below.refl _ _) _)) (szA S2.out _)).mono ?_; rintro e w3 ⟨rfl, v3, h3, f3⟩
       have ne0 := F2.out.ne (H.out.own_lt (Nat.le_refl _)).2 (by rw [World.size_alloc]; omega)
       have r3 := f3.blk (blk_alloc R2.out _) (H.out.own_lt (Nat.le_refl _)).1 ne0
       have x3 := f3.blk (blk_new w2 _) (H2.out.own_lt (Nat.le_refl _)).1 (H2.out.own_lt (Nat.le_refl _)).2
       clear rc0 rc1 rc2 rc3 rf0 rf1 rf2 rf3
       obtain ⟨⟨rc0, rc1, rc2, rc3⟩, rf0, rf1, rf2, rf3⟩ := blk4 r3
       obtain ⟨⟨xc0, xc1, xc2, xc3⟩, xf0, xf1, xf2, xf3⟩ := blk4 x3
       have hne : ¬ (w.heap.size = w2.heap.size) := by have := blk_lt R2.out; omega
       have H3 := Aside0.mk h3; have F3 := Aside0.mk f3; have R3 := Aside0.mk r3; have X3 := Aside0.mk x3; clear h3 f3 r3 x3 ne0))
  have hb4 : ((((((w3.setCell ⟨w2.heap.size, 3, none⟩ (.string (strOfNums V.1))).setCell ⟨w.heap.size, 0, none⟩ (.int .i64 num)).setCell ⟨w.heap.size, 1, none⟩ (.int .i64 wire)).setCell ⟨w.heap.size, 2, none⟩ (.int .u64 0)).setCell ⟨w.heap.size, 3, none⟩ (.string (strOfNums V.1))).heap[w.heap.size]?) = some (.cells #[.int .i64 num, .int .i64 wire, .int .u64 0, .string (strOfNums V.1)] 46 (0, 0)) :=
    blk_put (blk_put (blk_put (blk_put (blk_far R3.out hne _) 0 _ rfl) 1 _ rfl) 2 _ rfl) 3 _ rfl
  refine bodyPost_ret (v := fdV (num, wire, 0, V.1)) (results_cell_row rfl _ _ w.heap.size 46 _ _ _ rfl hb4 Try.underlying46 rfl (by kernel_rfl)) rfl ⟨rfl, ?_⟩
  exact next_movedM H.out HB.out F2.out H2.out F3.out H3.out _ _ _ _ _ _
theorem one_c (h : IsM w B g A c b p v ends) (hi : Inv b.length p ends) (hB : B ≤ w.heap.size) (hb : ∀ x ∈ b, 0 ≤ x ∧ x ≤ 255) (hbl : b.length ≤ 140737488359000) :
    Calls Try.prog 53 #[.pointer (some ⟨g, 0, none⟩)] w fun e w' => e = .returned (fdV (nxt b p ends).1) ∧ MovedM w B g A c b v (nxt b p ends).2.1 (nxt b p ends).2.2 w' := by
  by_cases h0 : (tg b p ends).1.2 = 0
  · exact one_0 h hi hB hb hbl h0
  by_cases h1 : (tg b p ends).1.2 = 1
  · exact one_1 h hi hB hb hbl h1
  by_cases h5 : (tg b p ends).1.2 = 5
  · exact one_5 h hi hB hb hbl h5
  exact one_2 h hi hB hb hbl h0 h1 h5
end
end Go.Proofs.Ytfbmabhdjliohaa.Cur

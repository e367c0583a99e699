/- The law TreeLaid: other numbers' values stay, laid twice it is as laid once, without values none are there; no conditions but those of the row. (text 3 of 3; some of it the words and functions that the kit's print and this claim's programs wrote) -/
import Derived.Test.YtbpnfpckoapdbaaQTreeLaid1
import Derived.Test.YtbpnfpckoapdbaaRows
import Derived.WalkKit
import Derived.ProofKit
import Derived.OpenShut
import Derived.ShutString
import Derived.ChangeOld
import Derived.Below
import Derived.SizedLaws
section
namespace Go.Proofs.Ytbpnfpckoapdbaa.TK
open Go.RowKit Go.Proofs.Ytbpnfpckoapdbaa.Ops Go.Proofs.Ytbpnfpckoapdbaa.KD Go.Proofs.Ytbpnfpckoapdbaa.M Go.Proofs.YtbpnfpckoapdbaaW.PrintWords Go.Proofs.YtbpnfpckoapdbaaW.PrintLast Go.Proofs.YtbpnfpckoapdbaaW.PrintMore Go.Proofs.Ytbpnfpckoapdbaa.Open
set_option linter.unusedVariables false
set_option linter.unusedSimpArgs false
set_option maxHeartbeats 1000000
set_option maxRecDepth 100000
/-- Where a number's slot comes to lie. -/
def atT (xs : List TS) (num : Int) : Nat := if ixF (fun x : TS => decide (num < x.f0)) xs 0 < 0 then xs.length else (ixF (fun x : TS => decide (num < x.f0)) xs 0).toNat
def putT (xs : List TS) (num : Int) (vals : List TV) : List TS := xs.take (atT xs num) ++ ⟨num, vals⟩ :: xs.drop (atT xs num)
def outT (xs : List TS) (num : Int) : List TS := xs.filter (fun x => !(x.f0 == num))
/-- A tree with a number's values. -/
def withT (t : TT) (num : Int) (vals : List TV) : TT := ⟨if vals = [] then outT t.f0 num else putT (outT t.f0 num) num vals, t.f1⟩
theorem atT_le (xs : List TS) (num : Int) : atT xs num ≤ xs.length := by
 unfold atT
 rcases ixF_two (p := fun x : TS => decide (num < x.f0)) xs 0 with ⟨h, _⟩ | ⟨k, x, h, hk, _⟩
 · rw [h]; exact Nat.le_refl _
 · rw [h]
   have := (List.getElem?_eq_some_iff.1 hk).1
   split <;> omega
theorem tree_reads {w : World} {x : TT} {A0 A1 : Option Addr} {c0 c1 : Nat} (h : k25.K w x [.slice A0 x.f0.length c0, .slice A1 x.f1.length c1]) : x.f0.length ≤ c0 ∧ k59.C w A0 x.f0.length x.f0 ∧ x.f1.length ≤ c1 ∧ k73.C w A1 x.f1.length x.f1 := by
 obtain ⟨B0, d0, B1, d1, he, h1, h2, h3, h4⟩ := k25_open h
 injection he with e1 e2
 injection e2 with e2 _
 injection e1 with e1 _ e3
 injection e2 with e2 _ e4
 subst e1
 subst e2
 subst e3
 subst e4
 exact ⟨h1, h2, h3, h4⟩
/-- A tree of one's own. -/
def OwnT (w : World) (base : Nat) (x : TT) (r : Ending) : Prop := ∃ u0 u1, r = .returned (.agg #[u0, u1]) ∧ k59.R 59 w base (fun _ => True) u0 x.f0 ∧ k73.R 73 w base (fun _ => True) u1 x.f1
theorem copy_own {w : World} {x : TT} {A0 A1 : Option Addr} {c0 c1 : Nat} (h : k25.K w x [.slice A0 x.f0.length c0, .slice A1 x.f1.length c1]) (hok : okTr x) : Calls Try.prog 13 #[.agg #[.slice A0 x.f0.length c0, .slice A1 x.f1.length c1]] w fun r w' => OwnT w' w.heap.size x r ∧ Below w.heap.size w w' :=
 (tree_Copy w x _ h hok).mono fun r w' hh => by
  obtain ⟨⟨cs', rfl, hm⟩, hb⟩ := hh
  obtain ⟨u0, u1, rfl, h0, h1⟩ := k25_openM hm
  exact ⟨⟨u0, u1, rfl, h0, h1⟩, hb⟩
theorem tree_mk {w : World} {x : TT} {A0 A1 : Option Addr} {c0 c1 : Nat} (h1 : x.f0.length ≤ c0) (h2 : k59.C w A0 x.f0.length x.f0) (h3 : x.f1.length ≤ c1) (h4 : k73.C w A1 x.f1.length x.f1) : k25.K w x [.slice A0 x.f0.length c0, .slice A1 x.f1.length c1] := k25_mk w x h1 h2 h3 h4
/-- Stores below the base. -/
theorem R_under {α : Type} {d : Kd α} {e base : Nat} {w : World} {ok : Nat → Prop} {v : Value} {xs : List α} (h : d.R e w base ok v xs) {g o o' : Nat} (hg : g < base) (u u' : Value) {b : Nat} (hb : b ≤ base) : d.R e ((w.setCell ⟨g, o, none⟩ u).setCell ⟨g, o', none⟩ u') b (fun _ => True) v xs :=
 Kd.R_lower (Kd.R_mono (Kd.R_far (Kd.R_far (Kd.R_bound h) (p := ⟨g, o, none⟩) (fun k hk => by have := hk.2.1; show k ≠ g; omega) _) (p := ⟨g, o', none⟩) (fun k hk => by have := hk.2.1; show k ≠ g; omega) _) (fun _ _ => trivial)) hb
theorem one_C {w : World} {b : Nat} {z : TS} {u0 u1 : Value} (hb : w.heap[b]? = some (.cells #[u0, u1] 59 (0, 0))) (hK : k59.K w z [u0, u1]) : k59.C w (some ⟨b, 0, none⟩) 1 [z] := by
 refine ⟨rfl, by decide, fun _ => ⟨_, rfl, fun j p hj => ?_⟩⟩
 have h1 := (List.getElem?_eq_some_iff.1 hj).1
 obtain rfl : j = 0 := by simp only [List.length_singleton] at h1; omega
 obtain rfl : z = p := by simpa using hj
 refine ⟨[u0, u1], rfl, hK, fun t v ht => ?_⟩
 have e : (⟨b, 0, none⟩ : Addr).add (0 * k59.sz + t) = ⟨b, t, none⟩ := by rw [Nat.zero_mul, Nat.zero_add]; unfold Addr.add; split <;> simp_all
 rw [e, blk_cell hb, ← Array.getElem?_toList]
 exact ht
theorem none_C (w : World) : k73.C w none 0 [] := ⟨rfl, by decide, fun h => absurd h (Nat.lt_irrefl 0)⟩
theorem copy_one {w : World} {b : Nat} {num : Int} {vals : List TV} {AV : Option Addr} {cv : Nat} (hb : w.heap[b]? = some (.cells #[.int .i64 num, .slice AV vals.length cv] 59 (0, 0))) (hl : vals.length ≤ cv) (hV : k70.C w AV vals.length vals) (hok : okTr ⟨[⟨num, vals⟩], []⟩) :
  Calls Try.prog 13 #[.agg #[.slice (some ⟨b, 0, none⟩) 1 1, .slice none 0 0]] w fun r w' => ∃ (G cap : Nat) (A2 : Option Addr) (d2 : Nat) (D : Option Addr) (dn dc : Nat), r = .returned (.agg #[.slice (some ⟨G, 0, none⟩) 1 cap, .slice D dn dc]) ∧ w.heap.size ≤ G ∧ (w'.cell? ⟨G, 0, none⟩ = some (.int .i64 num) ∧ w'.cell? ⟨G, 1, none⟩ = some (.slice A2 vals.length d2)) ∧ k59.M w' w.heap.size (fun k => k ≠ G) ⟨num, vals⟩ [.int .i64 num, .slice A2 vals.length d2] ∧ Below w.heap.size w w' := by
 refine (copy_own (w := w) (x := ⟨[⟨num, vals⟩], []⟩) (A0 := some ⟨b, 0, none⟩) (A1 := none) (c0 := 1) (c1 := 0) (tree_mk (Nat.le_refl _) (one_C hb (k59_mk w ⟨num, vals⟩ hl hV)) (Nat.le_refl _) (none_C _)) hok).mono ?_
 rintro r w5 ⟨⟨p0, p1, rfl, h0, h1⟩, b5⟩
 obtain ⟨D, dc, rfl⟩ := Kd.R_slice h1
 obtain ⟨G, capG, rfl, hGb, hGl, _⟩ := Kd.R_form h0 (Nat.lt_succ_self _)
 obtain ⟨_, Z, hZ, hZe⟩ := ZR.of_R h0
 obtain ⟨z, rfl⟩ : ∃ z, Z = [z] := by
  have hl1 := congrArg List.length hZe
  rw [List.length_map] at hl1
  exact List.length_eq_one_iff.1 hl1
 have hz1 : z.1 = ⟨num, vals⟩ := by simpa using hZe
 obtain ⟨A2, d2, hz2, _⟩ := hZ.slot (i := 0) (z := z) rfl
 obtain ⟨y0, y1, yf⟩ := hZ.cell (i := 0) (z := z) rfl
 have hzM := hZ.el z (by simp)
 rw [hz1] at hz2 y0 hzM
 rw [hz2] at y1 hzM
 exact ⟨G, capG, A2, d2, D, _, dc, rfl, hGb, ⟨y0, y1⟩, k59.M_mono (fun k hk => hk.2) hzM, b5⟩
theorem own_n (D : Option Addr) (n m c c' : Nat) : (Value.slice D n c).ownBlock = (Value.slice D m c').ownBlock := by cases D <;> rfl
set_option maxHeartbeats 3000000 in
theorem With_c {w : World} {x : TT} {A0 A1 AV : Option Addr} {c0 c1 cv : Nat} {num : Int} {vals : List TV} (h : k25.K w x [.slice A0 x.f0.length c0, .slice A1 x.f1.length c1]) (hl : vals.length ≤ cv) (hV : k70.C w AV vals.length vals) (hok : okTr x) (hov : okTr ⟨[⟨num, vals⟩], []⟩) :
  Calls Try.prog 42 #[.agg #[.slice A0 x.f0.length c0, .slice A1 x.f1.length c1], .int .i64 num, .slice AV vals.length cv] w fun r w' => OwnT w' w.heap.size (withT x num vals) r ∧ Below w.heap.size w w' := by
 obtain ⟨wz, hwz⟩ : ∃ wz, wz = ((w.alloc (.cells #[.slice A0 x.f0.length c0, .slice A1 x.f1.length c1] 25)).alloc (.cells #[.int .i64 num] 3)).alloc (.cells #[.slice none 0 0, .slice none 0 0] 25) := ⟨_, rfl⟩
 have bz : Below w.heap.size w wz := by rw [hwz]; exact below_alloc (below_alloc (below_alloc (Below.refl _ _) _) _) _
 have hb1 : wz.heap[w.heap.size]? = some (.cells #[.slice A0 x.f0.length c0, .slice A1 x.f1.length c1] 25 (0, 0)) := by rw [hwz]; exact blk_alloc (blk_alloc (blk_new _ _) _) _
 have hb2 : wz.heap[w.heap.size + 1]? = some (.cells #[.int .i64 num] 3 (0, 0)) := by
  have q := blk_alloc (blk_new (w.alloc (.cells #[.slice A0 x.f0.length c0, .slice A1 x.f1.length c1] 25)) (.cells #[.int .i64 num] 3)) (.cells #[.slice none 0 0, .slice none 0 0] 25)
  rw [World.size_alloc] at q
  rw [hwz]
  exact q
 have hb3 : wz.heap[w.heap.size + 1 + 1]? = some (.cells #[.slice none 0 0, .slice none 0 0] 25 (0, 0)) := by
  have q := blk_new ((w.alloc (.cells #[.slice A0 x.f0.length c0, .slice A1 x.f1.length c1] 25)).alloc (.cells #[.int .i64 num] 3)) (.cells #[.slice none 0 0, .slice none 0 0] 25)
  rw [World.size_alloc, World.size_alloc] at q
  rw [hwz]
  exact q
 have hsz : wz.heap.size = w.heap.size + 3 := by rw [hwz]; simp only [World.size_alloc]
 have HWZ := Aside0.mk hwz
 have HSZ := Aside0.mk hsz
 have BZ := Aside0.mk bz
 have HB1 := Aside0.mk hb1
 have HB2 := Aside0.mk hb2
 have HB3 := Aside0.mk hb3
 have HC := Aside0.mk (copy_own (k25.K_below bz h) hok)
 have HV := Aside0.mk (Kd.C_below hV bz)
 have HOK := Aside0.mk hok
 have HOV := Aside0.mk hov
 have HL := Aside0.mk hl
 clear hwz bz hb1 hb2 hb3 hsz h hV hok hov hl
 go_enter Try.func42, Try.ntmps42
 go_wp2_with (first
  | (go_at_call 13; rw [← HWZ.out]; refine HC.out.mono ?_; rintro r w1 ⟨⟨u0, u1, rfl, h0, h1⟩, b1⟩
     obtain ⟨D0, e0, rfl⟩ := Kd.R_slice h0
     obtain ⟨D1, e1, rfl⟩ := Kd.R_slice h1
     have R0 := Aside0.mk h0
     have R1 := Aside0.mk h1
     have B1 := Aside0.mk b1
     clear h0 h1 b1))
 obtain ⟨wo, hwo⟩ : ∃ wo, wo = w1.alloc (.cells #[.slice D0 x.f0.length e0, .slice D1 x.f1.length e1] 25) := ⟨_, rfl⟩
 rw [← hwo]
 have bo : Below w1.heap.size w1 wo := by rw [hwo]; exact below_alloc (Below.refl _ _) _
 have ho0 : wo.heap[w1.heap.size]? = some (.cells #[.slice D0 x.f0.length e0, .slice D1 x.f1.length e1] 25 (0, 0)) := by rw [hwo]; exact blk_new _ _
 have hso : wo.heap.size = w1.heap.size + 1 := by rw [hwo, World.size_alloc]
 have hn0 := blk_below (blk_below HB2.out B1.out) bo
 have S1 := Aside0.mk B1.out.size
 have HSO := Aside0.mk hso
 have HO0 := Aside0.mk ho0
 have HN0 := Aside0.mk hn0
 have BO := Aside0.mk bo
 have KO := Aside0.mk (fun w2 (hb : Below wo.heap.size wo w2) => show w2.cell? ⟨w1.heap.size, 0, none⟩ = some (.slice D0 x.f0.length e0) ∧ w2.cell? ⟨w.heap.size + 1, 0, none⟩ = some (.int .i64 num) from ⟨(blk_cell (blk_below ho0 hb) 0).trans rfl, (blk_cell (blk_below hn0 hb) 0).trans rfl⟩)
 have BB := Aside0.mk (Below.refl wo.heap.size wo)
 have hm := KO.out wo BB.out
 obtain ⟨m1, m2⟩ := KO.out wo BB.out
 have RO := Aside0.mk (Kd.R_below R0.out bo)
 have hown : ∀ n c k, (Value.slice D0 n c).ownBlock = some k → wz.heap.size ≤ k ∧ k < w1.heap.size := fun n c k hk => by
  have e : (Value.slice D0 x.f0.length e0).ownBlock = some k := by rw [← hk]; cases D0 <;> rfl
  exact ⟨Kd.R_base R0.out k e, Kd.R_lt R0.out k e⟩
 have HOWN := Aside0.mk hown
 clear hwo bo ho0 hn0 hso hown
 have RO2 : Aside0 (k59.R 59 wo wz.heap.size (fun k => k ≠ w1.heap.size) (.slice D0 x.f0.length e0) x.f0) := ⟨Kd.R_below (Kd.R_mono (Kd.R_bound R0.out) (fun k hk => by have := hk.2.2.1; omega)) BO.out⟩
 have RR2 : Aside0 (k73.R 73 wo wz.heap.size (fun k => k ≠ w1.heap.size) (.slice D1 x.f1.length e1) x.f1) := ⟨Kd.R_below (Kd.R_mono (Kd.R_bound R1.out) (fun k hk => by have := hk.2.2.1; omega)) BO.out⟩
 clear RO
 go_cut [7] (fun s7 wx => s7 = .pointer (some ⟨w1.heap.size, 0, none⟩) ∧ Aside0 (wx.heap[w1.heap.size]? = some (.cells #[.slice D0 (outT x.f0 num).length e0, .slice D1 x.f1.length e1] 25 (0, 0))) ∧ Aside0 (k59.R 59 wx wz.heap.size (fun k => k ≠ w1.heap.size) (.slice D0 (outT x.f0 num).length e0) (outT x.f0 num)) ∧ Aside0 (k73.R 73 wx wz.heap.size (fun k => k ≠ w1.heap.size) (.slice D1 x.f1.length e1) x.f1) ∧ Aside0 (Below wz.heap.size wz wx))
 case first =>
  go_region_with (first
    | (go_at_call 84; refine of_c.mono ?_; rintro r w2 ⟨qb, rfl, hqb, hq, b2⟩
       have BX : Below wo.heap.size wo w2 := below_step (by repeat (first | (with_reducible first | exact BB.out | apply below_alloc | apply pw_below_drewN | apply below_drew))) b2
       have QB : Aside0 (wo.heap.size ≤ qb) := ⟨by have := hqb; simp at this; omega⟩
       have HQ := Aside0.mk hq
       clear b2 hqb hq
       have BB := Aside0.mk BX
       obtain ⟨m3, m4⟩ := KO.out _ BX
       clear BX)
    | (go_at_call 83
       refine (Delete_c (base := wz.heap.size) (ok := fun k => k ≠ w1.heap.size) (A := D0) (c := e0) (xs := x.f0) (num := num) (qa := ⟨qb, 0, none⟩) (Kd.R_below RO2.out (by repeat (first | (with_reducible first | exact BB.out | apply below_alloc | apply pw_below_drewN | apply below_drew)))) HQ.out (fun e => by have := HOWN.out _ _ qb e.symm; have := QB.out; have := HSO.out; omega)).mono ?_
       rintro r w3 ⟨ys, rfl, hR, hg, hys⟩
       have hys : ys = outT x.f0 num := hys
       subst hys
       have BX : Below wo.heap.size wo w2 := BB.out
       have G3 := Aside0.mk (World.grownBy.trans (grown_of_below BX (Value.slice D0 (outT x.f0 num).length e0).ownBlock) hg)
       have R3 := Aside0.mk hR
       have hne : some w1.heap.size ≠ (Value.slice D0 (outT x.f0 num).length e0).ownBlock := fun e => by have := HOWN.out _ _ w1.heap.size e.symm; omega
       have ho3 := blk_grown HO0.out G3.out hne
       have HO3 := Aside0.mk ho3
       have j0 := (blk_cell ho3 0).trans rfl
       have j1 := blk_frozen ho3 0
       clear hR hg BX hne ho3))
  all_goals
    go_wp2_with fail
    go_meet
    case rel =>
      have b3 : Below wz.heap.size wz w3 := pw_below_grown (B1.out.trans (BO.out.mono B1.out.size)) _ (Nat.le_trans B1.out.size BO.out.size) G3.out (fun k hk => (HOWN.out _ _ k hk).1)
      exact ⟨rfl, ⟨blk_put HO3.out 0 _ rfl⟩, ⟨Kd.R_far R3.out (fun k hk => hk) _⟩, ⟨Kd.R_far (Kd.R_over RR2.out RO2.out (by decide) (by rw [own_n D0 _ (outT x.f0 num).length _ e0]; exact G3.out)) (fun k hk => hk) _⟩, ⟨b3.setCell B1.out.size _⟩⟩
 case rest =>
  obtain ⟨rfl, HO, HS, HR, BX⟩ := hcut
  have g0 := (blk_cell HO.out 0).trans rfl
  have g1 := (blk_cell HO.out 1).trans rfl
  have hz3 := blk_below HB3.out BX.out
  have f0 := (blk_cell hz3 0).trans rfl
  have f1 := (blk_cell hz3 1).trans rfl
  have HZ3 := Aside0.mk hz3
  clear m1 m2 hm KO BB RO2 RR2 HO0 HN0 HOWN BO HC R0 R1 hz3
  have fr := blk_frozen HZ3.out
  have fr0 := fr 0
  have fr1 := fr 1
  have HSZ' := HSZ.out
  clear fr
  by_cases hvz : vals.length = 0
  · have ev1 : (vals.length : Int) = 0 := by omega
    have hv0 : vals = [] := List.length_eq_zero_iff.1 hvz
    have HV0 := Aside0.mk hv0
    clear hvz hv0 HSZ'
    go_wp2_with fail
    have hw : withT x num vals = ⟨outT x.f0 num, x.f1⟩ := by unfold withT; rw [if_pos HV0.out]
    rw [hw]
    have := HSZ.out
    refine bodyPost_ret (results_cell_row rfl _ _ (w.heap.size + 1 + 1) 25 _ _ _ rfl (blk_put (blk_put HZ3.out 0 _ rfl) 1 _ rfl) Try.underlying25 rfl (by kernel_rfl)) rfl ?_
    exact ⟨⟨_, _, rfl, R_under HS.out (by omega) _ _ (by omega), R_under HR.out (by omega) _ _ (by omega)⟩, ((BZ.out.trans (BX.out.mono BZ.out.size)).setCell (by show w.heap.size ≤ w.heap.size + 1 + 1; omega) _).setCell (by show w.heap.size ≤ w.heap.size + 1 + 1; omega) _⟩
  · have ev1 : ¬ ((vals.length : Int) = 0) := by omega
    have hn3 := blk_below HB2.out BX.out
    have HN3 := Aside0.mk hn3
    have HVZ := Aside0.mk hvz
    have n0 := (blk_cell hn3 0).trans rfl
    have HIX := Aside0.mk (Idx_tree_With1 (A := D0) (c := e0) (tree_With1_c n0) (Kd.R_reads' HS.out).2.2)
    have hat : atT (outT x.f0 num) num = if ixF (fun x : TS => decide (num < x.f0)) (outT x.f0 num) 0 < 0 then (outT x.f0 num).length else (ixF (fun x : TS => decide (num < x.f0)) (outT x.f0 num) 0).toNat := rfl
    have hle := atT_le (outT x.f0 num) num
    rcases ixF_two (p := fun x : TS => decide (num < x.f0)) (outT x.f0 num) 0 with ⟨hi, _⟩ | ⟨k, y, hi, _, _, _⟩
    · rw [hi] at HIX hat
      have HAT := Aside0.mk (hat.trans (if_pos (by omega)))
      have HLE := Aside0.mk hle
      clear hi hat hle hn3 hvz HSZ'
      go_wp2_with (first
        | (go_at_call 85; refine HIX.out.mono ?_; rintro r w4 ⟨rfl, b4⟩; have B4 := Aside0.mk b4; have h4 := blk_below HO.out b4; have g2 := (blk_cell h4 0).trans rfl; have h5 := blk_below HN3.out b4; have g3 := (blk_cell h5 0).trans rfl; clear b4 h4 h5))
      obtain ⟨wv, hwv⟩ : ∃ wv, wv = w4.alloc (.cells #[.int .i64 num, .slice AV vals.length cv] 59) := ⟨_, rfl⟩
      rw [← hwv]
      have bv : Below w4.heap.size w4 wv := by rw [hwv]; exact below_alloc (Below.refl _ _) _
      have hv0 : wv.heap[w4.heap.size]? = some (.cells #[.int .i64 num, .slice AV vals.length cv] 59 (0, 0)) := by rw [hwv]; exact blk_new _ _
      have bzv : Below wz.heap.size wz wv := BX.out.trans ((B4.out.trans (bv.mono B4.out.size)).mono BX.out.size)
      have hcp := copy_one hv0 HL.out (Kd.C_below HV.out bzv) HOV.out
      have B4V := Aside0.mk (B4.out.trans (bv.mono B4.out.size))
      clear hwv bv hv0 bzv
      go_wp2_with (first
        | (go_at_call 13
           refine hcp.mono ?_
           rintro r w5 ⟨G, capG, A2, d2, D2, dn, dc, rfl, hGb, ⟨y0, y1⟩, hzM, b5⟩
           have HZM := Aside0.mk hzM
           have HGB := Aside0.mk hGb
           have B5 := Aside0.mk b5
           clear hcp hzM hGb b5))
      obtain ⟨wp, hwp⟩ : ∃ wp, wp = w5.alloc (.cells #[.slice (some ⟨G, 0, none⟩) 1 capG, .slice D2 dn dc] 25) := ⟨_, rfl⟩
      rw [← hwp]
      have bp : Below w5.heap.size w5 wp := by rw [hwp]; exact below_alloc (Below.refl _ _) _
      have hp0 : wp.heap[w5.heap.size]? = some (.cells #[.slice (some ⟨G, 0, none⟩) 1 capG, .slice D2 dn dc] 25 (0, 0)) := by rw [hwp]; exact blk_new _ _
      have hsp : wp.heap.size = w5.heap.size + 1 := by rw [hwp, World.size_alloc]
      have bvp : Below wv.heap.size wv wp := B5.out.trans (bp.mono B5.out.size)
      have bcp : Below wc.heap.size wc wp := B4V.out.trans (bvp.mono B4V.out.size)
      have hop := blk_below HO.out bcp
      have hgl : G < w5.heap.size := by
        rcases Nat.lt_or_ge G w5.heap.size with h | h
        · exact h
        · simp [World.cell?, Array.getElem?_eq_none h] at y0
      have t0 : wp.cell? ⟨w1.heap.size, 0, none⟩ = some (.slice D0 (outT x.f0 num).length e0) := (blk_cell hop 0).trans rfl
      have t1 : wp.cell? ⟨w5.heap.size, 0, none⟩ = some (.slice (some ⟨G, 0, none⟩) 1 capG) := (blk_cell hp0 0).trans rfl
      have t2 : wp.cell? ⟨G, 0, none⟩ = some (.int .i64 num) := (bp.cell (p := ⟨G, 0, none⟩) hgl).trans y0
      have t3 : wp.cell? ⟨G, 1, none⟩ = some (.slice A2 vals.length d2) := (bp.cell (p := ⟨G, 1, none⟩) hgl).trans y1
      have KA : ∀ o, (wp.alloc o).cell? ⟨w1.heap.size, 0, none⟩ = some (.slice D0 (outT x.f0 num).length e0) := fun o => pw_cell_below (below_alloc (Below.refl _ _) o) t0
      have HOP := Aside0.mk hop
      have HSC : ∀ n c k, (Value.slice D0 n c).ownBlock = some k → wz.heap.size ≤ k ∧ k < wc.heap.size := fun n c k hk => by
        rw [own_n D0 n (outT x.f0 num).length c e0] at hk
        exact ⟨Kd.R_base HS.out k hk, Kd.R_lt HS.out k hk⟩
      have HSCA := Aside0.mk HSC
      have s1 : w1.heap.size < wc.heap.size := blk_lt HO.out
      have S2 := Aside0.mk s1
      have S3 := Aside0.mk bcp.size
      have S4 := Aside0.mk B4V.out.size
      have S5 := Aside0.mk B1.out.size
      have S6 := Aside0.mk BX.out.size
      have hMp : k59.M wp wz.heap.size (fun k => k ≠ w1.heap.size ∧ some k ≠ (Value.slice D0 (outT x.f0 num).length e0).ownBlock) ⟨num, vals⟩ [.int .i64 num, .slice A2 vals.length d2] :=
        k59.M_mono (fun k hk => ⟨by have := hk.2.1; omega, fun e => by have := hk.2.1; have := (HSC _ _ k e.symm).2; omega⟩) (k59.M_lower BX.out.size (k59.M_lower (Nat.le_refl _) (k59.M_bound (k59.M_lower S4.out (Kd.M_below HZM.out bp)))))
      have HMP := Aside0.mk hMp
      have RSP := Aside0.mk (Kd.R_below HS.out bcp)
      have RRP := Aside0.mk (Kd.R_below HR.out bcp)
      have BZP := Aside0.mk (BX.out.trans (bcp.mono BX.out.size))
      have HBIG : Aside0 (((outT x.f0 num).length + 1) * 32 ≤ 140737488355328) := ⟨by
        obtain ⟨n, hn⟩ := HOK.out
        have h2 : (outT x.f0 num).length ≤ x.f0.length := List.length_filter_le _ _
        cases n with
        | zero => exact hn.elim
        | succ n => have h1 := hn.1.1; unfold reachBytes at h1; omega⟩
      have SQ := Aside0.mk (show ((wp.alloc (.cells #[.int .i64 num, .slice A2 vals.length d2] 59)).drew).heap.size = wp.heap.size + 1 from World.size_alloc _ _)
      have BB := Aside0.mk (Below.refl wp.heap.size wp)
      have HIN := Aside0.mk (Insert_c (w := (wp.alloc (.cells #[.int .i64 num, .slice A2 vals.length d2] 59)).drew) (vb := wp.heap.size) (vc := 1) (i := (outT x.f0 num).length) (base := wz.heap.size) (ok := fun k => k ≠ w1.heap.size) (A := D0) (c := e0) (xs := outT x.f0 num) (x := ⟨num, vals⟩) (A2 := A2) (n2 := vals.length) (c2 := d2) (fun k hk => by have := S2.out; have := S3.out; have := SQ.out; omega) (Kd.R_below RSP.out (below_drew (below_alloc BB.out _))) (Nat.le_refl _) (by have := S3.out; have := S6.out; have := SQ.out; omega) HBIG.out (blk_new wp _) (fun e => by have h9 := HSCA.out _ _ _ e.symm; have := S3.out; have h10 : wp.heap.size < wc.heap.size := h9.2; omega) (Kd.M_below HMP.out (below_drew (below_alloc BB.out _))))
      rw [show (outT x.f0 num).take (outT x.f0 num).length ++ ⟨num, vals⟩ :: (outT x.f0 num).drop (outT x.f0 num).length = putT (outT x.f0 num) num vals by unfold putT; rw [HAT.out]] at HIN
      clear hwp bp hp0 hsp bvp bcp hop hgl y0 y1 HSC s1 hMp
      go_cut [7] (fun s7 wx => s7 = .pointer (some ⟨w1.heap.size, 0, none⟩) ∧ ∃ (D' : Option Addr) (c' : Nat), Aside0 (wx.heap[w1.heap.size]? = some (.cells #[.slice D' (putT (outT x.f0 num) num vals).length c', .slice D1 x.f1.length e1] 25 (0, 0))) ∧ Aside0 (k59.R 59 wx wz.heap.size (fun k => k ≠ w1.heap.size) (.slice D' (putT (outT x.f0 num) num vals).length c') (putT (outT x.f0 num) num vals)) ∧ Aside0 (k73.R 73 wx wz.heap.size (fun k => k ≠ w1.heap.size) (.slice D1 x.f1.length e1) x.f1) ∧ Aside0 (Below wz.heap.size wz wx))
      case first =>
        go_region_with (first
          | (go_at_call 87
             refine HIN.out.mono ?_
             rintro r w7 ⟨v7, rfl, hR7, hg7, hat7⟩
             obtain ⟨D7, c7, rfl⟩ := Kd.R_slice hR7
             have R7 : Aside0 (k59.R 59 w7 wz.heap.size (fun k => k ≠ w1.heap.size) (.slice D7 (putT (outT x.f0 num) num vals).length c7) (putT (outT x.f0 num) num vals)) := ⟨hR7⟩
             have bpa := below_drew (below_alloc BB.out (.cells #[.int .i64 num, .slice A2 vals.length d2] 59))
             have G7 := Aside0.mk (World.grownBy.trans (grown_of_below bpa _) hg7)
             have hne : some w1.heap.size ≠ (Value.slice D0 (outT x.f0 num).length e0).ownBlock := fun e => (HSCA.out _ _ _ e.symm).elim (fun _ _ => Kd.R_away RSP.out (fun k hk => hk) e)
             have ho7 := blk_grown HOP.out G7.out hne
             have HO7 := Aside0.mk ho7
             have j0 := (blk_cell ho7 0).trans rfl
             have j1 := blk_frozen ho7 0
             clear hR7 hg7 hat7 bpa hne ho7))
        all_goals
          go_wp2_with fail
          go_meet
          case rel =>
            have b7 : Below wz.heap.size wz w7 := pw_below_grown BZP.out _ BZP.out.size G7.out (fun k hk => (HSCA.out _ _ k hk).1)
            exact ⟨rfl, D7, c7, ⟨blk_put HO7.out 0 _ rfl⟩, ⟨Kd.R_far R7.out (fun k hk => hk) _⟩, ⟨Kd.R_far (Kd.R_over RRP.out RSP.out (by decide) G7.out) (fun k hk => hk) _⟩, ⟨b7.setCell S5.out _⟩⟩
      case rest =>
        obtain ⟨rfl, D', c', HO8, HS8, HR8, BX8⟩ := hcut
        have g0 := (blk_cell HO8.out 0).trans rfl
        have g1 := (blk_cell HO8.out 1).trans rfl
        have hz8 := blk_below HB3.out BX8.out
        have f0 := (blk_cell hz8 0).trans rfl
        have f1 := (blk_cell hz8 1).trans rfl
        have fr0 := blk_frozen hz8 0
        have fr1 := blk_frozen hz8 1
        have HZ8 := Aside0.mk hz8
        clear hz8 t0 t1 t2 t3 KA
        go_wp2_with fail
        have hw : withT x num vals = ⟨putT (outT x.f0 num) num vals, x.f1⟩ := by unfold withT; rw [if_neg (fun e => HVZ.out (by rw [e]; rfl))]
        rw [hw]
        have := HSZ.out
        refine bodyPost_ret (results_cell_row rfl _ _ (w.heap.size + 1 + 1) 25 _ _ _ rfl (blk_put (blk_put HZ8.out 0 _ rfl) 1 _ rfl) Try.underlying25 rfl (by kernel_rfl)) rfl ?_
        exact ⟨⟨_, _, rfl, R_under HS8.out (by omega) _ _ (by omega), R_under HR8.out (by omega) _ _ (by omega)⟩, ((BZ.out.trans (BX8.out.mono BZ.out.size)).setCell (by show w.heap.size ≤ w.heap.size + 1 + 1; omega) _).setCell (by show w.heap.size ≤ w.heap.size + 1 + 1; omega) _⟩
    · rw [hi, Nat.zero_add] at HIX hat
      have hk0 : ¬ ((k : Int) < 0) := by omega
      have HAT := Aside0.mk (hat.trans (if_neg (by omega)))
      rw [Int.toNat_natCast] at HAT
      have HLE := Aside0.mk hle
      clear hi hat hle hn3 hvz HSZ'
      go_wp2_with (first
        | (go_at_call 85; refine HIX.out.mono ?_; rintro r w4 ⟨rfl, b4⟩; have B4 := Aside0.mk b4; have h4 := blk_below HO.out b4; have g2 := (blk_cell h4 0).trans rfl; have h5 := blk_below HN3.out b4; have g3 := (blk_cell h5 0).trans rfl; clear b4 h4 h5))
      obtain ⟨wv, hwv⟩ : ∃ wv, wv = w4.alloc (.cells #[.int .i64 num, .slice AV vals.length cv] 59) := ⟨_, rfl⟩
      rw [← hwv]
      have bv : Below w4.heap.size w4 wv := by rw [hwv]; exact below_alloc (Below.refl _ _) _
      have hv0 : wv.heap[w4.heap.size]? = some (.cells #[.int .i64 num, .slice AV vals.length cv] 59 (0, 0)) := by rw [hwv]; exact blk_new _ _
      have bzv : Below wz.heap.size wz wv := BX.out.trans ((B4.out.trans (bv.mono B4.out.size)).mono BX.out.size)
      have hcp := copy_one hv0 HL.out (Kd.C_below HV.out bzv) HOV.out
      have B4V := Aside0.mk (B4.out.trans (bv.mono B4.out.size))
      clear hwv bv hv0 bzv
      go_wp2_with (first
        | (go_at_call 13
           refine hcp.mono ?_
           rintro r w5 ⟨G, capG, A2, d2, D2, dn, dc, rfl, hGb, ⟨y0, y1⟩, hzM, b5⟩
           have HZM := Aside0.mk hzM
           have HGB := Aside0.mk hGb
           have B5 := Aside0.mk b5
           clear hcp hzM hGb b5))
      obtain ⟨wp, hwp⟩ : ∃ wp, wp = w5.alloc (.cells #[.slice (some ⟨G, 0, none⟩) 1 capG, .slice D2 dn dc] 25) := ⟨_, rfl⟩
      rw [← hwp]
      have bp : Below w5.heap.size w5 wp := by rw [hwp]; exact below_alloc (Below.refl _ _) _
      have hp0 : wp.heap[w5.heap.size]? = some (.cells #[.slice (some ⟨G, 0, none⟩) 1 capG, .slice D2 dn dc] 25 (0, 0)) := by rw [hwp]; exact blk_new _ _
      have hsp : wp.heap.size = w5.heap.size + 1 := by rw [hwp, World.size_alloc]
      have bvp : Below wv.heap.size wv wp := B5.out.trans (bp.mono B5.out.size)
      have bcp : Below wc.heap.size wc wp := B4V.out.trans (bvp.mono B4V.out.size)
      have hop := blk_below HO.out bcp
      have hgl : G < w5.heap.size := by
        rcases Nat.lt_or_ge G w5.heap.size with h | h
        · exact h
        · simp [World.cell?, Array.getElem?_eq_none h] at y0
      have t0 : wp.cell? ⟨w1.heap.size, 0, none⟩ = some (.slice D0 (outT x.f0 num).length e0) := (blk_cell hop 0).trans rfl
      have t1 : wp.cell? ⟨w5.heap.size, 0, none⟩ = some (.slice (some ⟨G, 0, none⟩) 1 capG) := (blk_cell hp0 0).trans rfl
      have t2 : wp.cell? ⟨G, 0, none⟩ = some (.int .i64 num) := (bp.cell (p := ⟨G, 0, none⟩) hgl).trans y0
      have t3 : wp.cell? ⟨G, 1, none⟩ = some (.slice A2 vals.length d2) := (bp.cell (p := ⟨G, 1, none⟩) hgl).trans y1
      have KA : ∀ o, (wp.alloc o).cell? ⟨w1.heap.size, 0, none⟩ = some (.slice D0 (outT x.f0 num).length e0) := fun o => pw_cell_below (below_alloc (Below.refl _ _) o) t0
      have HOP := Aside0.mk hop
      have HSC : ∀ n c k, (Value.slice D0 n c).ownBlock = some k → wz.heap.size ≤ k ∧ k < wc.heap.size := fun n c k hk => by
        rw [own_n D0 n (outT x.f0 num).length c e0] at hk
        exact ⟨Kd.R_base HS.out k hk, Kd.R_lt HS.out k hk⟩
      have HSCA := Aside0.mk HSC
      have s1 : w1.heap.size < wc.heap.size := blk_lt HO.out
      have S2 := Aside0.mk s1
      have S3 := Aside0.mk bcp.size
      have S4 := Aside0.mk B4V.out.size
      have S5 := Aside0.mk B1.out.size
      have S6 := Aside0.mk BX.out.size
      have hMp : k59.M wp wz.heap.size (fun k => k ≠ w1.heap.size ∧ some k ≠ (Value.slice D0 (outT x.f0 num).length e0).ownBlock) ⟨num, vals⟩ [.int .i64 num, .slice A2 vals.length d2] :=
        k59.M_mono (fun k hk => ⟨by have := hk.2.1; omega, fun e => by have := hk.2.1; have := (HSC _ _ k e.symm).2; omega⟩) (k59.M_lower BX.out.size (k59.M_lower (Nat.le_refl _) (k59.M_bound (k59.M_lower S4.out (Kd.M_below HZM.out bp)))))
      have HMP := Aside0.mk hMp
      have RSP := Aside0.mk (Kd.R_below HS.out bcp)
      have RRP := Aside0.mk (Kd.R_below HR.out bcp)
      have BZP := Aside0.mk (BX.out.trans (bcp.mono BX.out.size))
      have HBIG : Aside0 (((outT x.f0 num).length + 1) * 32 ≤ 140737488355328) := ⟨by
        obtain ⟨n, hn⟩ := HOK.out
        have h2 : (outT x.f0 num).length ≤ x.f0.length := List.length_filter_le _ _
        cases n with
        | zero => exact hn.elim
        | succ n => have h1 := hn.1.1; unfold reachBytes at h1; omega⟩
      have SQ := Aside0.mk (show ((wp.alloc (.cells #[.int .i64 num, .slice A2 vals.length d2] 59)).drew).heap.size = wp.heap.size + 1 from World.size_alloc _ _)
      have BB := Aside0.mk (Below.refl wp.heap.size wp)
      have HIN := Aside0.mk (Insert_c (w := (wp.alloc (.cells #[.int .i64 num, .slice A2 vals.length d2] 59)).drew) (vb := wp.heap.size) (vc := 1) (i := k) (base := wz.heap.size) (ok := fun k => k ≠ w1.heap.size) (A := D0) (c := e0) (xs := outT x.f0 num) (x := ⟨num, vals⟩) (A2 := A2) (n2 := vals.length) (c2 := d2) (fun k hk => by have := S2.out; have := S3.out; have := SQ.out; omega) (Kd.R_below RSP.out (below_drew (below_alloc BB.out _))) (by have := HLE.out; rw [HAT.out] at this; exact this) (by have := S3.out; have := S6.out; have := SQ.out; omega) HBIG.out (blk_new wp _) (fun e => by have h9 := HSCA.out _ _ _ e.symm; have := S3.out; have h10 : wp.heap.size < wc.heap.size := h9.2; omega) (Kd.M_below HMP.out (below_drew (below_alloc BB.out _))))
      rw [show (outT x.f0 num).take k ++ ⟨num, vals⟩ :: (outT x.f0 num).drop k = putT (outT x.f0 num) num vals by unfold putT; rw [HAT.out]] at HIN
      clear hwp bp hp0 hsp bvp bcp hop hgl y0 y1 HSC s1 hMp
      go_cut [7] (fun s7 wx => s7 = .pointer (some ⟨w1.heap.size, 0, none⟩) ∧ ∃ (D' : Option Addr) (c' : Nat), Aside0 (wx.heap[w1.heap.size]? = some (.cells #[.slice D' (putT (outT x.f0 num) num vals).length c', .slice D1 x.f1.length e1] 25 (0, 0))) ∧ Aside0 (k59.R 59 wx wz.heap.size (fun k => k ≠ w1.heap.size) (.slice D' (putT (outT x.f0 num) num vals).length c') (putT (outT x.f0 num) num vals)) ∧ Aside0 (k73.R 73 wx wz.heap.size (fun k => k ≠ w1.heap.size) (.slice D1 x.f1.length e1) x.f1) ∧ Aside0 (Below wz.heap.size wz wx))
      case first =>
        go_region_with (first
          | (go_at_call 87
             refine HIN.out.mono ?_
             rintro r w7 ⟨v7, rfl, hR7, hg7, hat7⟩
             obtain ⟨D7, c7, rfl⟩ := Kd.R_slice hR7
             have R7 : Aside0 (k59.R 59 w7 wz.heap.size (fun k => k ≠ w1.heap.size) (.slice D7 (putT (outT x.f0 num) num vals).length c7) (putT (outT x.f0 num) num vals)) := ⟨hR7⟩
             have bpa := below_drew (below_alloc BB.out (.cells #[.int .i64 num, .slice A2 vals.length d2] 59))
             have G7 := Aside0.mk (World.grownBy.trans (grown_of_below bpa _) hg7)
             have hne : some w1.heap.size ≠ (Value.slice D0 (outT x.f0 num).length e0).ownBlock := fun e => (HSCA.out _ _ _ e.symm).elim (fun _ _ => Kd.R_away RSP.out (fun k hk => hk) e)
             have ho7 := blk_grown HOP.out G7.out hne
             have HO7 := Aside0.mk ho7
             have j0 := (blk_cell ho7 0).trans rfl
             have j1 := blk_frozen ho7 0
             clear hR7 hg7 hat7 bpa hne ho7))
        all_goals
          go_wp2_with fail
          go_meet
          case rel =>
            have b7 : Below wz.heap.size wz w7 := pw_below_grown BZP.out _ BZP.out.size G7.out (fun k hk => (HSCA.out _ _ k hk).1)
            exact ⟨rfl, D7, c7, ⟨blk_put HO7.out 0 _ rfl⟩, ⟨Kd.R_far R7.out (fun k hk => hk) _⟩, ⟨Kd.R_far (Kd.R_over RRP.out RSP.out (by decide) G7.out) (fun k hk => hk) _⟩, ⟨b7.setCell S5.out _⟩⟩
      case rest =>
        obtain ⟨rfl, D', c', HO8, HS8, HR8, BX8⟩ := hcut
        have g0 := (blk_cell HO8.out 0).trans rfl
        have g1 := (blk_cell HO8.out 1).trans rfl
        have hz8 := blk_below HB3.out BX8.out
        have f0 := (blk_cell hz8 0).trans rfl
        have f1 := (blk_cell hz8 1).trans rfl
        have fr0 := blk_frozen hz8 0
        have fr1 := blk_frozen hz8 1
        have HZ8 := Aside0.mk hz8
        clear hz8 t0 t1 t2 t3 KA
        go_wp2_with fail
        have hw : withT x num vals = ⟨putT (outT x.f0 num) num vals, x.f1⟩ := by unfold withT; rw [if_neg (fun e => HVZ.out (by rw [e]; rfl))]
        rw [hw]
        have := HSZ.out
        refine bodyPost_ret (results_cell_row rfl _ _ (w.heap.size + 1 + 1) 25 _ _ _ rfl (blk_put (blk_put HZ8.out 0 _ rfl) 1 _ rfl) Try.underlying25 rfl (by kernel_rfl)) rfl ?_
        exact ⟨⟨_, _, rfl, R_under HS8.out (by omega) _ _ (by omega), R_under HR8.out (by omega) _ _ (by omega)⟩, ((BZ.out.trans (BX8.out.mono BZ.out.size)).setCell (by show w.heap.size ≤ w.heap.size + 1 + 1; omega) _).setCell (by show w.heap.size ≤ w.heap.size + 1 + 1; omega) _⟩
end Go.Proofs.Ytbpnfpckoapdbaa.TK
end
section
namespace Go.Proofs.Ytbpnfpckoapdbaa.TK
open Go.RowKit Go.Proofs.Ytbpnfpckoapdbaa.Ops Go.Proofs.Ytbpnfpckoapdbaa.KD Go.Proofs.Ytbpnfpckoapdbaa.M Go.Proofs.YtbpnfpckoapdbaaW.PrintWords Go.Proofs.YtbpnfpckoapdbaaW.PrintLast Go.Proofs.YtbpnfpckoapdbaaW.PrintMore Go.Proofs.Ytbpnfpckoapdbaa.Open
set_option linter.unusedVariables false
set_option linter.unusedSimpArgs false
set_option maxHeartbeats 1000000
set_option maxRecDepth 100000
/-- The values of a number. -/
def getT (t : TT) (num : Int) : List TV := match t.f0.find? (fun x => x.f0 == num) with
 | some x => x.f1
 | none => []
theorem getT_none {t : TT} {num : Int} (h : ∀ x ∈ t.f0, (x.f0 == num) = false) : getT t num = [] := by
 unfold getT
 rw [List.find?_eq_none.2 (fun x hx => by rw [h x hx]; decide)]
theorem getT_some {t : TT} {num : Int} {k : Nat} {x : TS} (h1 : t.f0[k]? = some x) (h2 : (x.f0 == num) = true) (h3 : ∀ y ∈ t.f0.take k, (y.f0 == num) = false) : getT t num = x.f1 := by
 have e : t.f0 = t.f0.take k ++ x :: t.f0.drop (k + 1) := by
  obtain ⟨hk, rfl⟩ := List.getElem?_eq_some_iff.1 h1
  rw [← List.drop_eq_getElem_cons hk, List.take_append_drop]
 unfold getT
 rw [e, List.find?_append, List.find?_eq_none.2 (fun y hy => by rw [h3 y hy]; decide), List.find?_cons_of_pos (by exact h2)]
 rfl
theorem field0 (a b : Value) (w : World) : (Instr.field 25 (.agg #[a, b]) 0).run Try.prog w = .ok a w := by
 simp [Instr.field, run_underlying Try.underlying25, part, isAgg, run_underlying Try.underlying22, asAgg]
theorem C_one {w : World} {ad : Addr} {n k : Nat} {xs : List TS} {z : TS} (h : k59.C w (some ad) n xs) (hz : xs[k]? = some z) : k59.C w (some (ad.add (k * 2))) 1 [z] := by
 obtain ⟨h1, h2, h3⟩ := h
 have hk := (List.getElem?_eq_some_iff.1 hz).1
 obtain ⟨b, he, hc⟩ := h3 (by omega)
 injection he with he
 subst he
 refine ⟨rfl, by decide, fun _ => ⟨_, rfl, fun j p hj => ?_⟩⟩
 have h4 := (List.getElem?_eq_some_iff.1 hj).1
 obtain rfl : j = 0 := by simp only [List.length_singleton] at h4; omega
 obtain rfl : z = p := by simpa using hj
 obtain ⟨c, hl, hK, hcc⟩ := hc k z hz
 refine ⟨c, hl, hK, fun t v ht => ?_⟩
 rw [add_add, Nat.zero_mul, Nat.zero_add]
 exact hcc t v ht
theorem copy_slot {w : World} {ad : Addr} {z : TS} {c : Nat} (hC : k59.C w (some ad) 1 [z]) (hc : 1 ≤ c) (hok : okTr ⟨[z], []⟩) :
  Calls Try.prog 13 #[.agg #[.slice (some ad) 1 c, .slice none 0 0]] w fun r w' => ∃ (G cap : Nat) (A2 : Option Addr) (d2 : Nat) (D : Option Addr) (dn dc : Nat), r = .returned (.agg #[.slice (some ⟨G, 0, none⟩) 1 cap, .slice D dn dc]) ∧ w'.cell? ⟨G, 1, none⟩ = some (.slice A2 z.f1.length d2) ∧ k70.R 70 w' w.heap.size (fun _ => True) (.slice A2 z.f1.length d2) z.f1 ∧ Below w.heap.size w w' := by
 refine (copy_own (w := w) (x := ⟨[z], []⟩) (A0 := some ad) (A1 := none) (c0 := c) (c1 := 0) (tree_mk hc hC (Nat.le_refl _) (none_C _)) hok).mono ?_
 rintro r w5 ⟨⟨p0, p1, rfl, h0, h1⟩, b5⟩
 obtain ⟨D, dc, rfl⟩ := Kd.R_slice h1
 obtain ⟨G, capG, rfl, hGb, hGl, _⟩ := Kd.R_form h0 (Nat.lt_succ_self _)
 obtain ⟨_, Z, hZ, hZe⟩ := ZR.of_R h0
 obtain ⟨y, rfl⟩ : ∃ y, Z = [y] := by
  have hl1 := congrArg List.length hZe
  rw [List.length_map] at hl1
  exact List.length_eq_one_iff.1 hl1
 have hz1 : y.1 = z := by simpa using hZe
 obtain ⟨A2, d2, hz2, _⟩ := hZ.slot (i := 0) (z := y) rfl
 obtain ⟨y0, y1, yf⟩ := hZ.cell (i := 0) (z := y) rfl
 have hzM := hZ.el y (by simp)
 rw [hz1] at hz2 y0 hzM
 rw [hz2] at y1 hzM
 obtain ⟨v, he, hR⟩ := k59_openM hzM
 injection he with _ he
 injection he with he _
 rw [← he] at hR
 exact ⟨G, capG, A2, d2, D, _, dc, rfl, y1, Kd.R_mono hR (fun _ _ => trivial), b5⟩
set_option maxHeartbeats 3000000 in
theorem Get_c {w : World} {x : TT} {A0 A1 : Option Addr} {c0 c1 : Nat} {num : Int} (h : k25.K w x [.slice A0 x.f0.length c0, .slice A1 x.f1.length c1]) (hok : okTr x) :
  Calls Try.prog 44 #[.agg #[.slice A0 x.f0.length c0, .slice A1 x.f1.length c1], .int .i64 num] w fun r w' => ∃ v, r = .returned v ∧ k70.R 70 w' w.heap.size (fun _ => True) v (getT x num) ∧ Below w.heap.size w w' := by
 obtain ⟨wz, hwz⟩ : ∃ wz, wz = w.alloc (.cells #[.slice A0 x.f0.length c0, .slice A1 x.f1.length c1] 25) := ⟨_, rfl⟩
 have bz : Below w.heap.size w wz := by rw [hwz]; exact below_alloc (Below.refl _ _) _
 have hb1 : wz.heap[w.heap.size]? = some (.cells #[.slice A0 x.f0.length c0, .slice A1 x.f1.length c1] 25 (0, 0)) := by rw [hwz]; exact blk_new _ _
 have HWZ := Aside0.mk hwz
 have BZ := Aside0.mk bz
 have KO := Aside0.mk (fun w2 (hb : Below wz.heap.size wz w2) => show w2.cell? ⟨w.heap.size, 0, none⟩ = some (.slice A0 x.f0.length c0) from (blk_cell (blk_below hb1 hb) 0).trans rfl)
 have HX := Aside0.mk (k25.K_below bz h)
 have HOK := Aside0.mk hok
 have BB := Aside0.mk (Below.refl wz.heap.size wz)
 have m1 := KO.out wz BB.out
 clear hwz bz hb1 h hok
 go_enter Try.func44, Try.ntmps44
 go_upto_region 1 with fail
 rw [← HWZ.out]
 go_cut [5] (fun s5 wx => s5 = .int .i64 (ixF (fun y : TS => y.f0 == num) x.f0 0) ∧ Aside0 (Below wz.heap.size wz wx))
 case first =>
  go_region_with (first
    | (go_at_call 84; refine of_c.mono ?_; rintro r w2 ⟨qb, rfl, hqb, hq, b2⟩
       have BX : Below wz.heap.size wz w2 := below_step (by repeat (first | (with_reducible first | exact BB.out | apply below_alloc | apply pw_below_drewN | apply below_drew))) b2
       have HQ := Aside0.mk hq
       clear b2 hqb hq
       have BB := Aside0.mk BX
       have m2 := KO.out _ BX
       clear BX)
    | (go_at_call 85
       refine (Idx_tree_of1 (A := A0) (c := c0) (tree_of1_c (a := ⟨qb, 0, none⟩) (v := num) HQ.out) (Kd.C_below (tree_reads HX.out).2.1 (by repeat (first | (with_reducible first | exact BB.out | apply below_alloc | apply pw_below_drewN | apply below_drew))))).mono ?_
       rintro r w3 ⟨rfl, b3⟩
       have BX : Below wz.heap.size wz w3 := below_step (by repeat (first | (with_reducible first | exact BB.out | apply below_alloc | apply pw_below_drewN | apply below_drew))) b3
       have B3 := Aside0.mk BX
       clear b3 BX))
  all_goals
    go_wp2_with fail
    go_meet
    case rel => exact ⟨rfl, B3⟩
 case rest =>
  obtain ⟨rfl, BX⟩ := hcut
  have m3 := KO.out _ BX.out
  rcases ixF_two (p := fun y : TS => y.f0 == num) x.f0 0 with ⟨hi, hall⟩ | ⟨k, y, hi, hk1, hk2, hk3⟩
  · rw [hi]
    have HG := Aside0.mk (getT_none (t := x) hall)
    clear hi hall m1
    go_wp2_with fail
    go_ret
    rw [HG.out]
    exact ⟨_, rfl, Kd.R_nil _ _ _ _ _, BZ.out.trans (BX.out.mono BZ.out.size)⟩
  · rw [hi, Nat.zero_add]
    have HG := Aside0.mk (getT_some (t := x) hk1 hk2 hk3)
    have hkl := (List.getElem?_eq_some_iff.1 hk1).1
    obtain ⟨hc0, hC0, _, _⟩ := tree_reads (k25.K_below BX.out HX.out)
    have hmx : x.f0.length ≤ 9223372036854775807 := Kd.C_max hC0
    obtain ⟨ad, rfl⟩ : ∃ ad, A0 = some ad := by
     obtain ⟨ad, _, e, _⟩ := Kd.C_get hC0 y k (by omega) (by omega)
     exact ⟨ad, e⟩
    have hw := wrap3 (k + 1) (by unfold maxLen; omega)
    push_cast at hw
    have p0 : (0 : Int) ≤ (k : Int) := by omega
    have p1 : (0 : Int) ≤ (k : Int) + 1 := by omega
    have p2 : (k : Int) + 1 ≤ (c0 : Int) := by omega
    have p3 : (k : Int) ≤ (k : Int) + 1 := by omega
    have p4 : ((k : Int) + 1).toNat = k + 1 := by omega
    have p5 : ¬ (c0 = k) := by omega
    have p6 : k + 1 - k = 1 := by omega
    have p7 : ¬ ((k : Int) < 0) := by omega
    have hoky : okTr ⟨[y], []⟩ := by
     obtain ⟨n, hn⟩ := HOK.out
     cases n with
     | zero => exact hn.elim
     | succ n => exact ⟨n + 1, ⟨(show 1 * 32 ≤ reachBytes by decide), fun z hz => by rw [List.mem_singleton.1 hz]; exact hn.1.2 y (List.mem_of_getElem? hk1)⟩, ⟨(show 0 * 40 ≤ reachBytes by decide), by simp⟩⟩
    have hcp := copy_slot (c := c0 - k) (C_one hC0 hk1) (by omega) hoky
    have HCP := Aside0.mk hcp
    have hf := field0
    clear hi hk1 hk2 hk3 hkl hc0 hC0 hmx hoky hcp m1
    go_wp2_with (first
     | (go_at_call 13
        refine HCP.out.mono ?_
        rintro r w5 ⟨G, capG, A2, d2, D2, dn, dc, rfl, y1, hR, b5⟩
        have HR := Aside0.mk hR
        have B5 := Aside0.mk b5
        clear hR b5))
    go_ret
    rw [HG.out]
    exact ⟨_, rfl, Kd.R_lower HR.out (Nat.le_trans BZ.out.size BX.out.size), BZ.out.trans ((BX.out.trans (B5.out.mono BX.out.size)).mono BZ.out.size)⟩
end Go.Proofs.Ytbpnfpckoapdbaa.TK
end
section
namespace Go.Proofs.Ytbpnfpckoapdbaa.P19
open Go.RowKit Go.Proofs.YtbpnfpckoapdbaaW.PrintWords Go.Proofs.YtbpnfpckoapdbaaW.PrintLast Go.Proofs.YtbpnfpckoapdbaaW.PrintMore Go.Proofs.Ytbpnfpckoapdbaa.KD Go.Proofs.Ytbpnfpckoapdbaa.M Go.Proofs.Ytbpnfpckoapdbaa.PT19 Go.Proofs.Ytbpnfpckoapdbaa.Ev Go.Proofs.Ytbpnfpckoapdbaa.Ops Go.Proofs.Ytbpnfpckoapdbaa.TK
set_option linter.unusedVariables false
set_option linter.unusedSimpArgs false
theorem out_out (xs : List TS) (n : Int) : outT (outT xs n) n = outT xs n := by
 unfold outT
 rw [List.filter_filter]
 simp
theorem out_put (ys : List TS) (n : Int) (v : List TV) : outT (putT ys n v) n = outT ys n := by
 unfold putT
 have h : outT (ys.take (atT ys n)) n ++ outT (ys.drop (atT ys n)) n = outT ys n := by
  unfold outT
  rw [← List.filter_append, List.take_append_drop]
 rw [← h]
 unfold outT
 rw [List.filter_append, List.filter_cons_of_neg (by simp)]
theorem out_with (t : TT) (n : Int) (v : List TV) : outT (withT t n v).f0 n = outT t.f0 n := by
 unfold withT
 split
 · exact out_out _ _
 · rw [out_put, out_out]
theorem with_with (t : TT) (n : Int) (v v' : List TV) : withT (withT t n v) n v' = withT t n v' := by
 show (⟨if v' = [] then outT (withT t n v).f0 n else putT (outT (withT t n v).f0 n) n v', t.f1⟩ : TT) = _
 rw [out_with]
 rfl
theorem get_out (t : TT) (n : Int) : getT (withT t n []) n = [] := by
 refine getT_none fun x hx => ?_
 have h : x ∈ outT t.f0 n := hx
 have := (List.mem_filter.1 h).2
 cases hb : (x.f0 == n) with
 | false => rfl
 | true => rw [hb] at this; cases this
theorem find_out {n m : Int} (h : n ≠ m) : ∀ xs : List TS, (outT xs n).find? (fun x => x.f0 == m) = xs.find? (fun x => x.f0 == m)
 | [] => rfl
 | x :: xs => by
  have ih := find_out h xs
  unfold outT at ih ⊢
  by_cases hn : x.f0 = n
  · rw [List.filter_cons_of_neg (by simp [hn]), ih, List.find?_cons_of_neg (by simp [hn, h])]
  · rw [List.filter_cons_of_pos (by simp [hn])]
    by_cases hm : x.f0 = m
    · rw [List.find?_cons_of_pos (by simp [hm]), List.find?_cons_of_pos (by simp [hm])]
    · rw [List.find?_cons_of_neg (by simp [hm]), List.find?_cons_of_neg (by simp [hm]), ih]
theorem find_put {n m : Int} (h : n ≠ m) (ys : List TS) (v : List TV) : (putT ys n v).find? (fun x => x.f0 == m) = ys.find? (fun x => x.f0 == m) := by
 unfold putT
 rw [List.find?_append, List.find?_cons_of_neg (by simp [h]), ← List.find?_append, List.take_append_drop]
theorem get_other (t : TT) {n m : Int} (h : n ≠ m) (v : List TV) : getT (withT t n v) m = getT t m := by
 have e : (withT t n v).f0.find? (fun x => x.f0 == m) = t.f0.find? (fun x => x.f0 == m) := by
  unfold withT
  show (if v = [] then outT t.f0 n else putT (outT t.f0 n) n v).find? _ = _
  split
  · exact find_out h _
  · rw [find_put h, find_out h]
 unfold getT
 rw [e]
/-- What is not too great has few slots. -/
theorem left_neg {d : Int} {s : List TS} {r : List TR} {x : Int} (hx : x < 0) : ∀ (k : Nat) (b : Int), ecdysisref19_left.l0 k x d 0 s r = some b → b = x := by
 have hj3 : ∀ k i b, ecdysisref19_left.j3 k x d i false s r = some b → b = x := fun k i b h => by
  cases k with
  | zero => simp [ecdysisref19_left.j3] at h
  | succ k => simp [ecdysisref19_left.j3] at h; exact h.symm
 have hl1 : ∀ k i b, ecdysisref19_left.l1 k x d i s r = some b → b = x := fun k i b h => by
  cases k with
  | zero => simp [ecdysisref19_left.l1] at h
  | succ k =>
   simp only [ecdysisref19_left.l1, show decide (x ≥ 0) = false from decide_eq_false (by omega)] at h
   split at h <;> exact hj3 k i b h
 have hj1 : ∀ k b, ecdysisref19_left.j1 k x d s r = some b → b = x := fun k b h => by
  cases k with
  | zero => simp [ecdysisref19_left.j1] at h
  | succ k => simp only [ecdysisref19_left.j1] at h; exact hl1 k 0 b h
 intro k b h
 cases k with
 | zero => simp [ecdysisref19_left.l0] at h
 | succ k =>
  simp only [ecdysisref19_left.l0] at h
  rw [if_neg (show ¬ (x ≥ 0) by omega)] at h
  split at h <;> exact hj1 k b h
theorem small_len {n : Nat} {t : TT} (ht : okT n t) {k : Nat} (h : ecdysisref19_Small.f k t.f0 t.f1 = some true) : t.f0.length ≤ 400 := by
 cases n with
 | zero => exact ht.elim
 | succ n =>
  have hl := ht.1.1
  have hr := ht.2.1
  rw [reach] at hl hr
  unfold ecdysisref19_Small.f at h
  obtain ⟨b, hb, h⟩ := Option.bind_eq_some_iff.1 h
  have hb0 : b ≥ 0 := by simpa using h
  cases k with
  | zero => simp [ecdysisref19_left.f] at hb
  | succ k =>
   simp only [ecdysisref19_left.f] at hb
   rw [if_neg (by decide)] at hb
   have e : wrap64 (wrap64 (400 - (t.f1.length : Int)) - (t.f0.length : Int)) = 400 - (t.f1.length : Int) - (t.f0.length : Int) := by
     unfold wrap64
     omega
   rw [e] at hb
   rcases Nat.lt_or_ge 400 t.f0.length with hlt | hge
   · have := left_neg (show 400 - (t.f1.length : Int) - (t.f0.length : Int) < 0 by omega) k b hb
     omega
   · exact hge
end Go.Proofs.Ytbpnfpckoapdbaa.P19
end
section
namespace Go.Proofs.Ytbpnfpckoapdbaa.TK
open Go.RowKit Go.Proofs.Ytbpnfpckoapdbaa.KD Go.Proofs.Ytbpnfpckoapdbaa.M Go.Proofs.YtbpnfpckoapdbaaW.PrintWords Go.Proofs.YtbpnfpckoapdbaaW.PrintLast Go.Proofs.YtbpnfpckoapdbaaW.PrintMore
set_option linter.unusedVariables false
set_option linter.unusedSimpArgs false
set_option maxHeartbeats 1000000
set_option maxRecDepth 100000
theorem bcellL {W w1 : World} (hb : Below W.heap.size W w1) : (∀ b o, b < W.heap.size → w1.cell? ⟨b, o, none⟩ = W.cell? ⟨b, o, none⟩) ∧ (∀ b o, b < W.heap.size → w1.frozen? ⟨b, o, none⟩ = W.frozen? ⟨b, o, none⟩) :=
 ⟨fun b o h => hb.cell (p := ⟨b, o, none⟩) h, fun b o h => hb.frozen (p := ⟨b, o, none⟩) h⟩
theorem each_none (f : Value) (w : World) : Calls Try.prog 58 #[.agg #[.slice none 0 0, .slice none 0 0], f] w fun e w' => e = .returned (.tuple #[]) ∧ Below w.heap.size w w' := by
 have HB := Aside0.mk (Below.refl w.heap.size w)
 go_enter Try.func58, Try.ntmps58
 go_wp2_with fail
 obtain ⟨wz, hwz⟩ : ∃ wz, wz = w.alloc (.cells #[.slice none 0 0, .slice none 0 0] 25) := ⟨_, rfl⟩
 rw [← hwz]
 have HZ := Aside0.mk (show Below w.heap.size w wz by rw [hwz]; exact below_alloc (Below.refl _ _) _)
 clear hwz
 go_loopg [11] 0 (fun kq v11 w' => v11 = .int .i64 0 ∧ Aside0 (Below w.heap.size w w'))
 case atStart => exact ⟨rfl, HZ⟩
 case round =>
  obtain ⟨rfl, BW⟩ := hrel
  go_wp2
  go_end0
  exact ⟨rfl, BW.out⟩
theorem deep_none (w : World) : Calls Try.prog 17 #[.agg #[.slice none 0 0, .slice none 0 0]] w fun e w' => e = .returned (.int .i64 1) ∧ Below w.heap.size w w' := by
 have HB := Aside0.mk (Below.refl w.heap.size w)
 go_enter Try.func17, Try.ntmps17
 go_wp2_with (first
  | (go_at_call 58; refine (each_none _ _).mono ?_; rintro r w1 ⟨rfl, b1⟩; obtain ⟨hc1, hf1⟩ := bcellL b1; have HB := Aside0.mk (below_step (by repeat (first | (with_reducible first | exact HB.out | apply below_alloc | apply pw_below_drewN | apply below_drew) )) b1); clear b1))
 go_ret
 exact ⟨rfl, HB.out⟩
theorem count_none (w : World) : Calls Try.prog 19 #[.agg #[.slice none 0 0, .slice none 0 0]] w fun e w' => e = .returned (.int .i64 0) ∧ Below w.heap.size w w' := by
 have HB := Aside0.mk (Below.refl w.heap.size w)
 go_enter Try.func19, Try.ntmps19
 go_wp2_with (first
  | (go_at_call 58; refine (each_none _ _).mono ?_; rintro r w1 ⟨rfl, b1⟩; obtain ⟨hc1, hf1⟩ := bcellL b1; have HB := Aside0.mk (below_step (by repeat (first | (with_reducible first | exact HB.out | apply below_alloc | apply pw_below_drewN | apply below_drew) )) b1); clear b1))
 go_ret
 exact ⟨rfl, HB.out⟩
theorem live_c (w : World) : Calls Try.prog 11 #[] w fun e w' => e = .returned (.bool true) ∧ Below w.heap.size w w' := by
 go_enter Try.func11, Try.ntmps11
 go_wp2_with (first
  | (go_at_call 17; refine (deep_none _).mono ?_; rintro r w1 ⟨rfl, b1⟩; have B1 := Aside0.mk b1; clear b1)
  | (go_at_call 19; refine (count_none _).mono ?_; rintro r w2 ⟨rfl, b2⟩; have B2 := Aside0.mk b2; clear b2))
 go_ret
 exact ⟨rfl, B1.out.trans (B2.out.mono B1.out.size)⟩
end Go.Proofs.Ytbpnfpckoapdbaa.TK
end
section
namespace Go.Proofs.Ytbpnfpckoapdbaa.TK
open Go.RowKit Go.Proofs.Ytbpnfpckoapdbaa.Ops Go.Proofs.Ytbpnfpckoapdbaa.KD Go.Proofs.Ytbpnfpckoapdbaa.M Go.Proofs.Ytbpnfpckoapdbaa.PT19 Go.Proofs.Ytbpnfpckoapdbaa.Ev Go.Proofs.YtbpnfpckoapdbaaW.PrintWords Go.Proofs.YtbpnfpckoapdbaaW.PrintLast Go.Proofs.YtbpnfpckoapdbaaW.PrintMore Go.Proofs.Ytbpnfpckoapdbaa.Open
set_option linter.unusedVariables false
set_option linter.unusedSimpArgs false
set_option maxHeartbeats 1000000
set_option maxRecDepth 100000
theorem live_all2 : Aside0 (∀ w, Calls Try.prog 11 #[] w fun e w' => e = .returned (.bool true) ∧ Below w.heap.size w w') := ⟨live_c⟩
/-- With few slots, with a number's values a tree is no greater than a machine's. -/
theorem with_ok {x : TT} {num : Int} {vals : List TV} (hx : okTr x) (hv : okTr ⟨[⟨num, vals⟩], []⟩) (hs : x.f0.length ≤ 1000) : okTr (withT x num vals) := by
 obtain ⟨n, hx⟩ := hx
 obtain ⟨m, hv⟩ := hv
 refine ⟨max n m, ?_⟩
 have h1 := okT_mono n (max n m) (Nat.le_max_left _ _) x hx
 have h2 := okT_mono m (max n m) (Nat.le_max_right _ _) _ hv
 generalize max n m = k at h1 h2
 cases k with
 | zero => exact h1.elim
 | succ k =>
  have ho : ∀ y ∈ outT x.f0 num, okSlot (okT k) y := fun y hy => h1.1.2 y ((List.mem_filter.1 hy).1)
  have hl : (outT x.f0 num).length ≤ x.f0.length := List.length_filter_le _ _
  have hone : okSlot (okT k) ⟨num, vals⟩ := h2.1.2 _ (by simp)
  refine ⟨⟨?_, ?_⟩, h1.2⟩
  · rw [Ev.reach]
    unfold withT
    show (if vals = [] then outT x.f0 num else putT (outT x.f0 num) num vals).length * 32 ≤ _
    split
    · omega
    · unfold putT
      simp only [List.length_append, List.length_cons, List.length_take, List.length_drop]
      omega
  · unfold withT
    show ∀ y ∈ (if vals = [] then outT x.f0 num else putT (outT x.f0 num) num vals), _
    split
    · exact ho
    · intro y hy
      unfold putT at hy
      rcases List.mem_append.1 hy with hy | hy
      · exact ho y (List.mem_of_mem_take hy)
      · rcases List.mem_cons.1 hy with rfl | hy
        · exact hone
        · exact ho y (List.mem_of_mem_drop hy)
theorem with_few {x : TT} {num : Int} {vals : List TV} (hs : x.f0.length ≤ 400) : (withT x num vals).f0.length ≤ 401 := by
 have hl : (outT x.f0 num).length ≤ x.f0.length := List.length_filter_le _ _
 unfold withT
 show (if vals = [] then outT x.f0 num else putT (outT x.f0 num) num vals).length ≤ _
 split
 · omega
 · unfold putT
   simp only [List.length_append, List.length_cons, List.length_take, List.length_drop]
   omega
set_option maxHeartbeats 3000000 in
theorem TreeLaid_c {n m : Nat} {w : World} {x : TT} {A0 A1 AV : Option Addr} {c0 c1 cv : Nat} {vals : List TV} {a b : Int} (h : k25.K w x [.slice A0 x.f0.length c0, .slice A1 x.f1.length c1]) (hok : okT n x) (ha : (Lit.int .i64 a).wf = true) (hl : vals.length ≤ cv) (hV : k70.C w AV vals.length vals) (hvl : vals.length * 48 ≤ reachBytes) (hvo : ∀ v ∈ vals, okVal (okT m) v) :
  Calls Try.prog 9 #[.agg #[.slice A0 x.f0.length c0, .slice A1 x.f1.length c1], .agg #[.int .i64 a, .int .i64 b], .slice AV vals.length cv] w fun e w' => e = .returned (.bool true) ∧ Below w.heap.size w w' := by
 have hone : ∀ q : Int, (Lit.int .i64 q).wf = true → okT (m + 1) ⟨[⟨q, vals⟩], []⟩ := fun q hq => ⟨⟨(show 1 * 32 ≤ reachBytes by decide), fun y hy => by rw [List.mem_singleton.1 hy]; exact ⟨hq, hvl, hvo⟩⟩, ⟨(show 0 * 40 ≤ reachBytes by decide), by simp⟩⟩
 obtain ⟨s1, hb1⟩ := P19.small19_T hok
 obtain ⟨s2, hb2⟩ := P19.small19_T (hone 0 (by decide))
 obtain ⟨k1, hk1⟩ := hb1.get
 obtain ⟨k2, hk2⟩ := hb2.get
 obtain ⟨wz, hwz⟩ : ∃ wz, wz = (w.alloc (.cells #[.slice A0 x.f0.length c0, .slice A1 x.f1.length c1] 25)).alloc (.cells #[.int .i64 a, .int .i64 b] 64) := ⟨_, rfl⟩
 have bz : Below w.heap.size w wz := by rw [hwz]; exact below_alloc (below_alloc (Below.refl _ _) _) _
 have HBX : Aside0 (∀ w2, Below wz.heap.size wz w2 → w2.heap[w.heap.size]? = some (.cells #[.slice A0 x.f0.length c0, .slice A1 x.f1.length c1] 25 (0, 0)) ∧ w2.heap[w.heap.size + 1]? = some (.cells #[.int .i64 a, .int .i64 b] 64 (0, 0))) := ⟨fun w2 h2 => by rw [hwz] at h2; exact boxes h2⟩
 have HWZ := Aside0.mk hwz
 have BZ := Aside0.mk bz
 have HK := Aside0.mk (k25.K_below bz h)
 have HV := Aside0.mk (Kd.C_below hV bz)
 have HL := Aside0.mk hl
 have HLV := live_all2
 have HOV : Aside0 (∀ q : Int, (Lit.int .i64 q).wf = true → okTr ⟨[⟨q, vals⟩], []⟩) := ⟨fun q hq => ⟨_, hone q hq⟩⟩
 have HOK : Aside0 (okTr x) := ⟨⟨_, hok⟩⟩
 have HSM := Aside0.mk (by
  obtain ⟨q1, q2, q3, q4⟩ := tree_reads HK.out
  exact ecdysisref19_Small.calls k1 A0 c0 x.f0 A1 c1 x.f1 s1 wz q2 q1 q4 q3 hk1)
 have HS2 := Aside0.mk (fun w1 (hb : Below wz.heap.size wz w1) => ecdysisref19_Small.calls k2 (some ⟨w1.heap.size, 0, none⟩) 1 [⟨0, vals⟩] none 0 [] s2 (w1.alloc (.cells #[.int .i64 0, .slice AV vals.length cv] 59)) (one_C (blk_new _ _) (k59_mk _ ⟨0, vals⟩ hl (Kd.C_below HV.out (below_alloc hb _)))) (Nat.le_refl _) (none_C _) (Nat.le_refl _) hk2)
 have HA := Aside0.mk ha
 cases s1 with
 | false =>
  clear hwz bz h hV hok hone hb1 hb2 hk1 hk2 hvl hvo hl ha
  go_enter Try.func9, Try.ntmps9
  go_wp2_with (first
   | (go_at_call 10; rw [← HWZ.out]; refine HSM.out.mono ?_; rintro r w1 ⟨rfl, b1⟩; have B1 := Aside0.mk b1; clear b1)
   | (go_at_call 11; refine (HLV.out _).mono ?_; rintro r w2 ⟨rfl, b2⟩; have B2 := Aside0.mk (B1.out.trans (b2.mono B1.out.size)); clear b2))
  go_ret
  exact ⟨rfl, BZ.out.trans (B2.out.mono BZ.out.size)⟩
 | true =>
  have HFW := Aside0.mk (P19.small_len hok hk1)
  cases s2 with
  | false =>
   clear hwz bz h hV hok hone hb1 hb2 hk1 hk2 hvl hvo hl ha
   go_enter Try.func9, Try.ntmps9
   go_wp2_with (first
     | (go_at_call 10; rw [← HWZ.out]; refine HSM.out.mono ?_; rintro r w1 ⟨rfl, b1⟩; have B1 := Aside0.mk b1; clear b1 HSM)
     | (go_at_call 10; refine (HS2.out _ B1.out).mono ?_; rintro r w2 ⟨rfl, b2⟩; have B2 := Aside0.mk ((below_alloc B1.out _).trans (b2.mono (below_alloc B1.out _).size)); clear b2 HS2)
     | (go_at_call 11; refine (HLV.out _).mono ?_; rintro r w3 ⟨rfl, b3⟩; have B3 := Aside0.mk (B2.out.trans (b3.mono B2.out.size)); clear b3))
   go_ret
   exact ⟨rfl, BZ.out.trans (B3.out.mono BZ.out.size)⟩
  | true =>
   have j0 := HBX.out wz (Below.refl _ _)
   clear hwz bz h hV hok hone hb1 hb2 hk1 hk2 hvl hvo hl ha
   go_enter Try.func9, Try.ntmps9
   go_wp2_with (first
     | (go_at_call 10; rw [← HWZ.out]; refine HSM.out.mono ?_; rintro r w1 ⟨rfl, b1⟩; have B1 := Aside0.mk b1; clear b1 HSM)
     | (go_at_call 10; refine (HS2.out _ B1.out).mono ?_; rintro r w2 ⟨rfl, b2⟩; have B2 := Aside0.mk ((below_alloc B1.out _).trans (b2.mono (below_alloc B1.out _).size)); have q0 := HBX.out _ B2.out; have i0 := (blk_cell q0.1 0).trans rfl; have i1 := (blk_cell q0.1 1).trans rfl; have i2 := (blk_cell q0.2 0).trans rfl; have i3 := (blk_cell q0.2 1).trans rfl; clear b2 HS2 q0 j0))
   go_at_call 42
   refine (With_c (k25.K_below B2.out HK.out) HL.out (Kd.C_below HV.out B2.out) HOK.out (HOV.out a HA.out)).mono ?_
   rintro r w3 ⟨⟨u0, u1, rfl, h0, h1⟩, b3⟩
   obtain ⟨D0, e0, rfl⟩ := Kd.R_slice h0
   obtain ⟨D1, e1, rfl⟩ := Kd.R_slice h1
   obtain ⟨X, hX⟩ : ∃ X, X = withT x a vals := ⟨_, rfl⟩
   rw [← hX] at h0 h1 ⊢
   have KX := Aside0.mk (k25.K_of_M (k25_mkM w3 w2.heap.size (fun _ => True) X h0 h1))
   have B3 := Aside0.mk (B2.out.trans (b3.mono B2.out.size))
   have OKX : Aside0 (okTr X) := ⟨by rw [hX]; exact with_ok HOK.out (HOV.out a HA.out) (by have := HFW.out; omega)⟩
   have FEW : Aside0 (X.f0.length ≤ 401) := ⟨by rw [hX]; exact with_few HFW.out⟩
   have HX := Aside0.mk hX
   have n3 := HBX.out _ B3.out
   have KA : ∀ o, (w3.alloc o).cell? ⟨w.heap.size + 1, 0, none⟩ = some (.int .i64 a) := fun o => (blk_cell (blk_alloc n3.2 o) 0).trans rfl
   clear h0 h1 b3 hX i0 i1 i2 i3 n3
   go_wp2_with fail
   obtain ⟨wx, hwx⟩ : ∃ wx, wx = w3.alloc (.cells #[.slice D0 X.f0.length e0, .slice D1 X.f1.length e1] 25) := ⟨_, rfl⟩
   rw [← hwx]
   have bx : Below w3.heap.size w3 wx := by rw [hwx]; exact below_alloc (Below.refl _ _) _
   have HBXX := Aside0.mk (show wx.heap[w3.heap.size]? = some (.cells #[.slice D0 X.f0.length e0, .slice D1 X.f1.length e1] 25 (0, 0)) by rw [hwx]; exact blk_new _ _)
   have BXW := Aside0.mk (B3.out.trans (bx.mono B3.out.size))
   have KXX := Aside0.mk (k25.K_below bx KX.out)
   clear KA hwx bx
   go_at_call 42
   refine (With_c KXX.out HL.out (Kd.C_below HV.out BXW.out) OKX.out (HOV.out a HA.out)).mono ?_
   rintro r w4 ⟨⟨u0, u1, rfl, h0, h1⟩, b4⟩
   rw [show withT X a vals = X by rw [HX.out, P19.with_with]] at h0 h1
   obtain ⟨E0, f0, rfl⟩ := Kd.R_slice h0
   obtain ⟨E1, f1, rfl⟩ := Kd.R_slice h1
   have KY := Aside0.mk (k25.K_of_M (k25_mkM w4 wx.heap.size (fun _ => True) X h0 h1))
   have BX4 := Aside0.mk b4
   have B4 := Aside0.mk (BXW.out.trans (b4.mono BXW.out.size))
   have n4 := HBX.out _ B4.out
   have x4 := blk_below HBXX.out b4
   have KA : ∀ o, (w4.alloc o).cell? ⟨w.heap.size + 1, 0, none⟩ = some (.int .i64 a) := fun o => (blk_cell (blk_alloc n4.2 o) 0).trans rfl
   have KB : ∀ o, (w4.alloc o).cell? ⟨w3.heap.size, 0, none⟩ = some (.slice D0 X.f0.length e0) := fun o => (blk_cell (blk_alloc x4 o) 0).trans rfl
   have KC : ∀ o, (w4.alloc o).cell? ⟨w3.heap.size, 1, none⟩ = some (.slice D1 X.f1.length e1) := fun o => (blk_cell (blk_alloc x4 o) 1).trans rfl
   clear h0 h1 b4 n4 x4
   go_wp2_with fail
   obtain ⟨wy, hwy⟩ : ∃ wy, wy = w4.alloc (.cells #[.slice E0 X.f0.length f0, .slice E1 X.f1.length f1] 25) := ⟨_, rfl⟩
   rw [← hwy]
   have by_ : Below w4.heap.size w4 wy := by rw [hwy]; exact below_alloc (Below.refl _ _) _
   have HBYY := Aside0.mk (show wy.heap[w4.heap.size]? = some (.cells #[.slice E0 X.f0.length f0, .slice E1 X.f1.length f1] 25 (0, 0)) by rw [hwy]; exact blk_new _ _)
   have BXY := Aside0.mk (BX4.out.trans (by_.mono BX4.out.size))
   have BYW := Aside0.mk (B4.out.trans (by_.mono B4.out.size))
   have KYY := Aside0.mk (k25.K_below by_ KY.out)
   have hnil : okTr ⟨[⟨a, []⟩], []⟩ := ⟨1 + 1, ⟨(show 1 * 32 ≤ reachBytes by decide), fun y hy => by rw [List.mem_singleton.1 hy]; exact ⟨HA.out, (show 0 * 48 ≤ reachBytes by decide), by simp⟩⟩, ⟨(show 0 * 40 ≤ reachBytes by decide), by simp⟩⟩
   have HNIL := Aside0.mk hnil
   have HCN : ∀ W : World, k70.C W none 0 [] := fun W => ⟨rfl, by decide, fun h => absurd h (Nat.lt_irrefl 0)⟩
   have HCNA := Aside0.mk HCN
   clear KA KB KC hwy by_ hnil HCN
   go_at_call 42
   refine (With_c (vals := []) (k25.K_below BXY.out KXX.out) (Nat.le_refl 0) (HCNA.out _) OKX.out HNIL.out).mono ?_
   rintro r w5 ⟨⟨u0, u1, rfl, h0, h1⟩, b5⟩
   obtain ⟨Y, hY⟩ : ∃ Y, Y = withT x a [] := ⟨_, rfl⟩
   rw [show withT X a [] = Y by rw [hY, HX.out, P19.with_with]] at h0 h1
   obtain ⟨G0, g0, rfl⟩ := Kd.R_slice h0
   obtain ⟨G1, g1, rfl⟩ := Kd.R_slice h1
   have KZ := Aside0.mk (k25.K_of_M (k25_mkM w5 wy.heap.size (fun _ => True) Y h0 h1))
   have BY5 := Aside0.mk b5
   have B5 := Aside0.mk (BYW.out.trans (b5.mono BYW.out.size))
   have HY := Aside0.mk hY
   have x5 := blk_below (blk_below HBXX.out BXY.out) b5
   have y5 := blk_below HBYY.out b5
   clear h0 h1 b5 hY
   go_wp2_with fail
   obtain ⟨wq, hwq⟩ : ∃ wq, wq = w5.alloc (.cells #[.slice G0 Y.f0.length g0, .slice G1 Y.f1.length g1] 25) := ⟨_, rfl⟩
   rw [← hwq]
   have bq : Below w5.heap.size w5 wq := by rw [hwq]; exact below_alloc (Below.refl _ _) _
   have zq : wq.heap[w5.heap.size]? = some (.cells #[.slice G0 Y.f0.length g0, .slice G1 Y.f1.length g1] 25 (0, 0)) := by rw [hwq]; exact blk_new _ _
   have xq := blk_below x5 bq
   have yq := blk_below y5 bq
   have BQW := Aside0.mk (B5.out.trans (bq.mono B5.out.size))
   have KZQ := Aside0.mk (k25.K_below bq KZ.out)
   have KXQ := Aside0.mk (k25.K_below bq (k25.K_below BY5.out (k25.K_below BXY.out KXX.out)))
   have KYQ := Aside0.mk (k25.K_below bq (k25.K_below BY5.out KYY.out))
   have KO := Aside0.mk (fun w2 (hb : Below wq.heap.size wq w2) => show w2.cell? ⟨w3.heap.size, 0, none⟩ = some (.slice D0 X.f0.length e0) ∧ w2.cell? ⟨w3.heap.size, 1, none⟩ = some (.slice D1 X.f1.length e1) ∧ w2.cell? ⟨w4.heap.size, 0, none⟩ = some (.slice E0 X.f0.length f0) ∧ w2.cell? ⟨w4.heap.size, 1, none⟩ = some (.slice E1 X.f1.length f1) ∧ w2.cell? ⟨w5.heap.size, 0, none⟩ = some (.slice G0 Y.f0.length g0) ∧ w2.cell? ⟨w5.heap.size, 1, none⟩ = some (.slice G1 Y.f1.length g1) ∧ w2.cell? ⟨w.heap.size, 0, none⟩ = some (.slice A0 x.f0.length c0) ∧ w2.cell? ⟨w.heap.size, 1, none⟩ = some (.slice A1 x.f1.length c1) ∧ w2.cell? ⟨w.heap.size + 1, 0, none⟩ = some (.int .i64 a) ∧ w2.cell? ⟨w.heap.size + 1, 1, none⟩ = some (.int .i64 b) from
     ⟨(blk_cell (blk_below xq hb) 0).trans rfl, (blk_cell (blk_below xq hb) 1).trans rfl, (blk_cell (blk_below yq hb) 0).trans rfl, (blk_cell (blk_below yq hb) 1).trans rfl, (blk_cell (blk_below zq hb) 0).trans rfl, (blk_cell (blk_below zq hb) 1).trans rfl, (blk_cell (HBX.out _ (BQW.out.trans (hb.mono BQW.out.size))).1 0).trans rfl, (blk_cell (HBX.out _ (BQW.out.trans (hb.mono BQW.out.size))).1 1).trans rfl, (blk_cell (HBX.out _ (BQW.out.trans (hb.mono BQW.out.size))).2 0).trans rfl, (blk_cell (HBX.out _ (BQW.out.trans (hb.mono BQW.out.size))).2 1).trans rfl⟩)
   have BB := Aside0.mk (Below.refl wq.heap.size wq)
   have OKY : Aside0 (okTr Y) := ⟨by rw [HY.out]; exact with_ok HOK.out HNIL.out (by have := HFW.out; omega)⟩
   have HSX : Aside0 (∀ w2, Below wq.heap.size wq w2 → Calls Try.prog 14 #[.agg #[.slice D0 X.f0.length e0, .slice D1 X.f1.length e1], .agg #[.slice E0 X.f0.length f0, .slice E1 X.f1.length f1]] w2 fun r w' => r = .returned (.bool true) ∧ Below w2.heap.size w2 w') := ⟨fun w2 hb => by
     obtain ⟨n', hn'⟩ := OKX.out
     obtain ⟨ke, hke⟩ := E.get (P19.same_E n' X hn')
     obtain ⟨q1, q2, q3, q4⟩ := tree_reads (k25.K_below hb KXQ.out)
     obtain ⟨t1, t2, t3, t4⟩ := tree_reads (k25.K_below hb KYQ.out)
     exact ecdysisref19_Same.calls ke D0 e0 X.f0 D1 e1 X.f1 E0 f0 X.f0 E1 f1 X.f1 true w2 q2 q1 q4 q3 t2 t1 t4 t3 hke⟩
   have hm := KO.out wq BB.out
   have m := KO.out wq BB.out
   obtain ⟨m0, m1, m2, m3, m4, m5, m6, m7, m8, m9⟩ := m
   have HGN := Aside0.mk (show getT Y a = [] by rw [HY.out]; exact P19.get_out x a)
   have HWY := Aside0.mk HY.out
   clear hwq bq zq xq yq x5 y5
   go_region_held3 (fun w2 => w2.cell? ⟨w3.heap.size, 0, none⟩ = some (.slice D0 X.f0.length e0) ∧ w2.cell? ⟨w3.heap.size, 1, none⟩ = some (.slice D1 X.f1.length e1) ∧ w2.cell? ⟨w4.heap.size, 0, none⟩ = some (.slice E0 X.f0.length f0) ∧ w2.cell? ⟨w4.heap.size, 1, none⟩ = some (.slice E1 X.f1.length f1) ∧ w2.cell? ⟨w5.heap.size, 0, none⟩ = some (.slice G0 Y.f0.length g0) ∧ w2.cell? ⟨w5.heap.size, 1, none⟩ = some (.slice G1 Y.f1.length g1) ∧ w2.cell? ⟨w.heap.size, 0, none⟩ = some (.slice A0 x.f0.length c0) ∧ w2.cell? ⟨w.heap.size, 1, none⟩ = some (.slice A1 x.f1.length c1) ∧ w2.cell? ⟨w.heap.size + 1, 0, none⟩ = some (.int .i64 a) ∧ w2.cell? ⟨w.heap.size + 1, 1, none⟩ = some (.int .i64 b)) (first | exact hm | exact KO.out _ (by repeat (first | (with_reducible first | exact BB.out | apply below_alloc | apply pw_below_drewN | apply below_drew)))) (first
     | (go_at_call 14; refine (HSX.out _ (by repeat (first | (with_reducible first | exact BB.out | apply below_alloc | apply pw_below_drewN | apply below_drew)))).mono ?_; rintro r w6 ⟨rfl, b6⟩
        have BX : Below wq.heap.size wq w6 := below_step (by repeat (first | (with_reducible first | exact BB.out | apply below_alloc | apply pw_below_drewN | apply below_drew))) b6
        clear b6 HSX
        have BB := Aside0.mk BX
        clear BX)
     | (go_at_call 44; refine (Get_c (k25.K_below (by repeat (first | (with_reducible first | exact BB.out | apply below_alloc | apply pw_below_drewN | apply below_drew))) KZQ.out) OKY.out).mono ?_; rintro r w7 ⟨v, rfl, hR, b7⟩
        rw [HGN.out] at hR
        obtain ⟨A7, c7, rfl⟩ := Kd.R_slice hR
        have BX : Below wq.heap.size wq w7 := below_step (by repeat (first | (with_reducible first | exact BB.out | apply below_alloc | apply pw_below_drewN | apply below_drew))) b7
        clear b7 hR
        have BB := Aside0.mk BX
        clear BX)
     | (go_at_call 42; refine (With_c (vals := []) (k25.K_below (BQW.out.trans (Below.mono (by repeat (first | (with_reducible first | exact BB.out | apply below_alloc | apply pw_below_drewN | apply below_drew))) BQW.out.size)) HK.out) (Nat.le_refl 0) (HCNA.out _) HOK.out HNIL.out).mono ?_
        rintro r w8 ⟨⟨u0, u1, rfl, h0, h1⟩, b8⟩
        rw [← HWY.out] at h0 h1
        obtain ⟨I0, i0, rfl⟩ := Kd.R_slice h0
        obtain ⟨I1, i1, rfl⟩ := Kd.R_slice h1
        have KI := Aside0.mk (k25.K_of_M (k25_mkM w8 _ (fun _ => True) Y h0 h1))
        have BX : Below wq.heap.size wq w8 := below_step (by repeat (first | (with_reducible first | exact BB.out | apply below_alloc | apply pw_below_drewN | apply below_drew))) b8
        clear b8 h0 h1
        have BB := Aside0.mk BX
        clear BX)
     | (go_at_call 14
        obtain ⟨n', hn'⟩ := OKY.out
        obtain ⟨ke, hke⟩ := E.get (P19.same_E n' Y hn')
        obtain ⟨q1, q2, q3, q4⟩ := tree_reads (k25.K_below (by repeat (first | (with_reducible first | exact BB.out | apply below_alloc | apply pw_below_drewN | apply below_drew))) KZQ.out)
        obtain ⟨t1, t2, t3, t4⟩ := tree_reads KI.out
        refine (ecdysisref19_Same.calls ke G0 g0 Y.f0 G1 g1 Y.f1 I0 i0 Y.f0 I1 i1 Y.f1 true _ q2 q1 q4 q3 t2 t1 t4 t3 hke).mono ?_
        rintro r w9 ⟨rfl, b9⟩
        have BX : Below wq.heap.size wq w9 := below_step (by repeat (first | (with_reducible first | exact BB.out | apply below_alloc | apply pw_below_drewN | apply below_drew))) b9
        clear b9 q1 q2 q3 q4 t1 t2 t3 t4 hke hn'
        have BB := Aside0.mk BX
        clear BX))
   go_wp2_with fail
   have hm9 := KO.out _ BB.out
   have m' := KO.out _ BB.out
   clear m0 m1 m2 m3 m4 m5 m6 m7 m8 m9 hm
   obtain ⟨m0, m1, m2, m3, m4, m5, m6, m7, m8, m9⟩ := m'
   by_cases hab : a = b
   · subst hab
     refine start_ (n := 20) (S := fun w' => w'.cell? ⟨w.heap.size + 1, 0, none⟩ = some (.int .i64 a) ∧ w'.cell? ⟨w.heap.size + 1, 1, none⟩ = some (.int .i64 a)) (ds := []) #[false, false, false, false, false, false, false, false, false, false, false, false, false, false, false, false, false, false, false, false] (by kernel_rfl) rfl rfl ⟨m8, m9⟩ (fun hHeld => ?_)
     refine pure_ (i := 0) (N := some 57) (v := ?_) (a' := ?_) #[true, false, false, false, false, false, false, false, false, false, false, false, false, false, false, false, false, false, false, false] rfl rfl (by kernel_rfl) (fun _ _ _ h => h) (Or.inl ⟨by rfl, ?_⟩) ?_ ?_
     rotate_left
     · intro w'
       go_simp
       with_reducible rfl
     rotate_left
     · simp only [zs]
       rfl
     refine pure_ (i := 2) (N := some 59) (v := ?_) (a' := ?_) #[true, false, true, false, false, false, false, false, false, false, false, false, false, false, false, false, false, false, false, false] rfl rfl (by kernel_rfl) (fun _ _ _ h => h) (Or.inl ⟨by rfl, ?_⟩) ?_ ?_
     rotate_left
     · intro w'
       go_simp
       with_reducible rfl
     rotate_left
     · simp only [zs]
       rfl
     refine take_ (i := 1) (N := some 58) (v := ?_) (a' := ?_) #[true, true, true, false, false, false, false, false, false, false, false, false, false, false, false, false, false, false, false, false] rfl rfl (by kernel_rfl) (fun _ _ _ h => h) (Or.inl ⟨by rfl, ?_⟩) hHeld ?_ ?_
     rotate_left
     · rintro w' ⟨s0, s1⟩
       go_simp
       with_reducible rfl
     rotate_left
     · simp only [zs]
       rfl
     refine take_ (i := 3) (N := some 60) (v := ?_) (a' := ?_) #[true, true, true, true, false, false, false, false, false, false, false, false, false, false, false, false, false, false, false, false] rfl rfl (by kernel_rfl) (fun _ _ _ h => h) (Or.inl ⟨by rfl, ?_⟩) hHeld ?_ ?_
     rotate_left
     · rintro w' ⟨s0, s1⟩
       go_simp
       with_reducible rfl
     rotate_left
     · simp only [zs]
       rfl
     refine pure_ (i := 4) (N := some 61) (v := ?_) (a' := ?_) #[true, true, true, true, true, false, false, false, false, false, false, false, false, false, false, false, false, false, false, false] rfl rfl (by kernel_rfl) (fun _ _ _ h => h) (Or.inl ⟨by rfl, ?_⟩) ?_ ?_
     rotate_left
     · intro w'
       go_simp
       with_reducible rfl
     rotate_left
     · simp only [zs]
       rfl
     refine pure_ (i := 5) (N := some 62) (v := ?_) (a' := ?_) #[true, true, true, true, true, true, false, false, false, false, false, false, false, false, false, false, false, false, false, false] rfl rfl (by kernel_rfl) (fun _ _ _ h => h) (Or.inl ⟨by rfl, ?_⟩) ?_ ?_
     rotate_left
     · intro w'
       go_simp
       with_reducible rfl
     rotate_left
     · simp only [zs]
       rfl
     refine pure_ (i := 6) (N := some 63) (v := undef) (a' := ?_) #[true, true, true, true, true, true, true, false, false, false, false, false, false, false, false, false, false, false, false, false] rfl rfl (by kernel_rfl) (fun _ _ _ h => h) (Or.inr ⟨by rfl, rfl⟩) ?_ ?_
     rotate_left
     · simp only [zs]
       rfl
     refine pure_ (i := 7) (N := some 64) (v := undef) (a' := ?_) #[true, true, true, true, true, true, true, true, false, false, false, false, false, false, false, false, false, false, false, false] rfl rfl (by kernel_rfl) (fun _ _ _ h => h) (Or.inr ⟨by rfl, rfl⟩) ?_ ?_
     rotate_left
     · simp only [zs]
       rfl
     refine pure_ (i := 8) (N := some 65) (v := undef) (a' := ?_) #[true, true, true, true, true, true, true, true, true, false, false, false, false, false, false, false, false, false, false, false] rfl rfl (by kernel_rfl) (fun _ _ _ h => h) (Or.inr ⟨by rfl, rfl⟩) ?_ ?_
     rotate_left
     · simp only [zs]
       rfl
     refine pure_ (i := 9) (N := some 66) (v := undef) (a' := ?_) #[true, true, true, true, true, true, true, true, true, true, false, false, false, false, false, false, false, false, false, false] rfl rfl (by kernel_rfl) (fun _ _ _ h => h) (Or.inr ⟨by rfl, rfl⟩) ?_ ?_
     rotate_left
     · simp only [zs]
       rfl
     refine pure_ (i := 10) (N := some 67) (v := undef) (a' := ?_) #[true, true, true, true, true, true, true, true, true, true, true, false, false, false, false, false, false, false, false, false] rfl rfl (by kernel_rfl) (fun _ _ _ h => h) (Or.inr ⟨by rfl, rfl⟩) ?_ ?_
     rotate_left
     · simp only [zs]
       rfl
     refine pure_ (i := 11) (N := some 68) (v := undef) (a' := ?_) #[true, true, true, true, true, true, true, true, true, true, true, true, false, false, false, false, false, false, false, false] rfl rfl (by kernel_rfl) (fun _ _ _ h => h) (Or.inr ⟨by rfl, rfl⟩) ?_ ?_
     rotate_left
     · simp only [zs]
       rfl
     refine pure_ (i := 12) (N := some 69) (v := undef) (a' := ?_) #[true, true, true, true, true, true, true, true, true, true, true, true, true, false, false, false, false, false, false, false] rfl rfl (by kernel_rfl) (fun _ _ _ h => h) (Or.inr ⟨by rfl, rfl⟩) ?_ ?_
     rotate_left
     · simp only [zs]
       rfl
     refine pure_ (i := 13) (N := some 70) (v := undef) (a' := ?_) #[true, true, true, true, true, true, true, true, true, true, true, true, true, true, false, false, false, false, false, false] rfl rfl (by kernel_rfl) (fun _ _ _ h => h) (Or.inr ⟨by rfl, rfl⟩) ?_ ?_
     rotate_left
     · simp only [zs]
       rfl
     refine pure_ (i := 14) (N := some 71) (v := undef) (a' := ?_) #[true, true, true, true, true, true, true, true, true, true, true, true, true, true, true, false, false, false, false, false] rfl rfl (by kernel_rfl) (fun _ _ _ h => h) (Or.inr ⟨by rfl, rfl⟩) ?_ ?_
     rotate_left
     · simp only [zs]
       rfl
     refine pure_ (i := 15) (N := some 72) (v := ?_) (a' := ?_) #[true, true, true, true, true, true, true, true, true, true, true, true, true, true, true, true, false, false, false, false] rfl rfl (by kernel_rfl) (fun _ _ _ h => h) (Or.inl ⟨by rfl, ?_⟩) ?_ ?_
     rotate_left
     · intro w'
       go_simp
       with_reducible rfl
     rotate_left
     · simp only [zs]
       rfl
     refine pure_ (i := 16) (N := some 73) (v := ?_) (a' := ?_) #[true, true, true, true, true, true, true, true, true, true, true, true, true, true, true, true, true, false, false, false] rfl rfl (by kernel_rfl) (fun _ _ _ h => h) (Or.inl ⟨by rfl, ?_⟩) ?_ ?_
     rotate_left
     · intro w'
       go_simp
       with_reducible rfl
     rotate_left
     · simp only [zs]
       rfl
     refine one_ (i := 17) (N := some 74) #[true, true, true, true, true, true, true, true, true, true, true, true, true, true, true, true, true, true, false, false] rfl rfl (by kernel_rfl) (by decide) (fun K hK => ?_)
     go_simp
     go_at_call 11
     refine (HLV.out _).mono ?_
     rintro r wl ⟨rfl, bl⟩
     have BX : Below wq.heap.size wq wl := below_step (by repeat (first | (with_reducible first | exact BB.out | apply below_alloc | apply pw_below_drewN | apply below_drew))) bl
     clear bl
     have BB := Aside0.mk BX
     clear BX
     go_wp2_with fail
     refine hK.out _ _ ⟨(KO.out _ BB.out).2.2.2.2.2.2.2.2.1, (KO.out _ BB.out).2.2.2.2.2.2.2.2.2⟩ (fun hHeld => ?_)
     clear hK K
     refine pure_ (i := 18) (N := some 75) (v := ?_) (a' := ?_) #[true, true, true, true, true, true, true, true, true, true, true, true, true, true, true, true, true, true, true, false] rfl rfl (by kernel_rfl) (fun _ _ _ h => h) (Or.inl ⟨by rfl, ?_⟩) ?_ ?_
     rotate_left
     · intro w'
       go_simp
       with_reducible rfl
     rotate_left
     · simp only [zs]
       rfl
     refine pure_ (i := 19) (N := some 6) (v := ?_) (a' := ?_) #[true, true, true, true, true, true, true, true, true, true, true, true, true, true, true, true, true, true, true, true] rfl rfl (by kernel_rfl) (fun _ _ _ h => h) (Or.inl ⟨by rfl, ?_⟩) ?_ ?_
     rotate_left
     · intro w'
       go_simp
       with_reducible rfl
     rotate_left
     · simp only [zs]
       rfl
     refine done_ (by kernel_rfl) ?_
     go_wp2_with fail
     go_ret
     exact ⟨rfl, BZ.out.trans ((BQW.out.trans (BB.out.mono BQW.out.size)).mono BZ.out.size)⟩
   · have ce1 : decide (a = b) = false := decide_eq_false hab
     have ce2 : (a == b) = false := by simpa using hab
     have ce3 : (a = b) = False := eq_false hab
     obtain ⟨L, hL⟩ : ∃ L, L = getT x b := ⟨_, rfl⟩
     have HG1 := Aside0.mk (show getT X b = L by rw [hL, HX.out]; exact P19.get_other x hab vals)
     have HG2 := Aside0.mk hL.symm
     have HSV : Aside0 (E (fun k => ecdysisref19_SameVals.f k L L) true) := ⟨by
       rw [hL]
       obtain ⟨n', hn'⟩ := HOK.out
       cases n' with
       | zero => exact hn'.elim
       | succ n' =>
         unfold getT
         split
         · rename_i y hy
           have hs := hn'.1.2 y (List.mem_of_find?_eq_some hy)
           obtain ⟨_, q1, q2⟩ := hs
           rw [Ev.reach] at q1
           refine P19.samevals_E _ (by omega) fun v hv => ⟨?_, fun t ht => P19.same_E n' t ((q2 v hv).2.2.2 t ht)⟩
           have q3 := (q2 v hv).2.2.1
           rw [Ev.reach] at q3
           omega
         · exact P19.samevals_E [] (by simp) (by simp)⟩
     clear hL
     go_region_held3 (fun w2 => w2.cell? ⟨w3.heap.size, 0, none⟩ = some (.slice D0 X.f0.length e0) ∧ w2.cell? ⟨w3.heap.size, 1, none⟩ = some (.slice D1 X.f1.length e1) ∧ w2.cell? ⟨w4.heap.size, 0, none⟩ = some (.slice E0 X.f0.length f0) ∧ w2.cell? ⟨w4.heap.size, 1, none⟩ = some (.slice E1 X.f1.length f1) ∧ w2.cell? ⟨w5.heap.size, 0, none⟩ = some (.slice G0 Y.f0.length g0) ∧ w2.cell? ⟨w5.heap.size, 1, none⟩ = some (.slice G1 Y.f1.length g1) ∧ w2.cell? ⟨w.heap.size, 0, none⟩ = some (.slice A0 x.f0.length c0) ∧ w2.cell? ⟨w.heap.size, 1, none⟩ = some (.slice A1 x.f1.length c1) ∧ w2.cell? ⟨w.heap.size + 1, 0, none⟩ = some (.int .i64 a) ∧ w2.cell? ⟨w.heap.size + 1, 1, none⟩ = some (.int .i64 b)) (first | exact hm9 | exact KO.out _ (by repeat (first | (with_reducible first | exact BB.out | apply below_alloc | apply pw_below_drewN | apply below_drew)))) (first
       | (go_at_call 44; refine (Get_c (x := X) (k25.K_below (by repeat (first | (with_reducible first | exact BB.out | apply below_alloc | apply pw_below_drewN | apply below_drew))) KXQ.out) OKX.out).mono ?_; rintro r w10 ⟨v10, rfl, hR, b10⟩
          rw [HG1.out] at hR
          obtain ⟨A10, c10, rfl⟩ := Kd.R_slice hR
          have R10 := Aside0.mk (Kd.R_reads' hR)
          have BX : Below wq.heap.size wq w10 := below_step (by repeat (first | (with_reducible first | exact BB.out | apply below_alloc | apply pw_below_drewN | apply below_drew))) b10
          clear b10 hR KXQ
          have BB := Aside0.mk BX
          clear BX)
       | (go_at_call 44; refine (Get_c (x := x) (k25.K_below (BQW.out.trans (Below.mono (by repeat (first | (with_reducible first | exact BB.out | apply below_alloc | apply pw_below_drewN | apply below_drew))) BQW.out.size)) HK.out) HOK.out).mono ?_; rintro r w11 ⟨v11, rfl, hR, b11⟩
          rw [HG2.out] at hR
          obtain ⟨A11, c11, rfl⟩ := Kd.R_slice hR
          have R11 := Aside0.mk (Kd.R_reads' hR)
          have B11 := Aside0.mk (Kd.C_below R10.out.2.2 b11)
          have BX : Below wq.heap.size wq w11 := below_step (by repeat (first | (with_reducible first | exact BB.out | apply below_alloc | apply pw_below_drewN | apply below_drew))) b11
          obtain ⟨ke, hke⟩ := E.get HSV.out
          have HC := Aside0.mk (ecdysisref19_SameVals.calls ke A10 c10 L A11 c11 L true w11 B11.out R10.out.2.1 R11.out.2.2 R11.out.2.1 hke)
          clear b11 hR hke
          have BB := Aside0.mk BX
          clear BX)
       | (go_at_call 43
          refine HC.out.mono ?_
          rintro r w12 ⟨rfl, b12⟩
          have BX : Below wq.heap.size wq w12 := below_step (by repeat (first | (with_reducible first | exact BB.out | apply below_alloc | apply pw_below_drewN | apply below_drew))) b12
          clear b12
          have BB := Aside0.mk BX
          clear BX)
       | (go_at_call 11; refine (HLV.out _).mono ?_; rintro r wl ⟨rfl, bl⟩
          have BX : Below wq.heap.size wq wl := below_step (by repeat (first | (with_reducible first | exact BB.out | apply below_alloc | apply pw_below_drewN | apply below_drew))) bl
          clear bl
          have BB := Aside0.mk BX
          clear BX))
     go_wp2_with fail
     go_ret
     exact ⟨rfl, BZ.out.trans ((BQW.out.trans (BB.out.mono BQW.out.size)).mono BZ.out.size)⟩
end Go.Proofs.Ytbpnfpckoapdbaa.TK
end
section
namespace Go.Proofs.Ytbpnfpckoapdbaa.treeLaid
open Go.ChangeShapes Go.WideShapes Go.ChangeAt Go.RowKit
open Go.ChangeMaps (open_string shut_string)
open Go.Proofs.Ytbpnfpckoapdbaa.KD Go.Proofs.YtbpnfpckoapdbaaW.PrintWords
set_option linter.unusedVariables false
theorem own : ownKnob Try.prog.godebug = none := by kernel_rfl
theorem laidOut : laidOutB Try.prog = true := by kernel_rfl
theorem openA2 {H : Type} {P : Program} {t e : TypeId} {enc : TypeId × Value → H} {w : World} {base : Nat} {spare : Nat → Bool} {held : Bool} {fuel : Nat} {cs : List Value} {x : DataW H × List MemPlace} (hu : P.underlying t = some (.array 2 e)) (he : P.underlying e = some (.int .i64)) (c2 : P.cellsOf t = 2) (c1 : P.cellsOf e = 1) (h : DataW.trod enc P w base spare held fuel t cs = some x) : ∃ a b, cs = [.int .i64 a, .int .i64 b] ∧ (Lit.int .i64 a).wf = true ∧ (Lit.int .i64 b).wf = true := by
 obtain ⟨xs, m, hf, hx, hl, hn, hi⟩ := DataW.trod_array hu h
 have h0 := hi 0 (by decide)
 have h1 := hi 1 (by decide)
 rw [c1, List.getElem?_eq_getElem (by omega)] at h0 h1
 obtain ⟨a, ha, wa⟩ := Open.opens_int he _ _ _ _ _ _ _ _ _ h0
 obtain ⟨b, hb, wb⟩ := Open.opens_int he _ _ _ _ _ _ _ _ _ h1
 obtain ⟨u, v, rfl⟩ : ∃ u v, cs = [u, v] := by
  have h2 := hl.trans c2
  clear h0 h1 hi hx h ha hb
  match cs, h2 with
  | [u, v], _ => exact ⟨u, v, rfl⟩
 have hu : [u] = [.int .i64 a] := ha
 have hv : [v] = [.int .i64 b] := hb
 rw [List.cons.injEq] at hu hv
 exact ⟨a, b, by rw [hu.1, hv.1], wa, wb⟩
set_option maxRecDepth 100000 in
theorem lifted (os : Os) (started : os.Started) (H : Type) (enc : TypeId × Value → H) :
  ReturnsInHanded {} Try.checked os 9 .any (Rows.treeLaidSpec.pre6 enc Try.prog Try.f9 Rows.treeLaidRow.domain false) (Rows.treeLaidSpec.post enc Try.prog Try.f9 false true false false) := by
 refine returnsInHanded_of_change_sized (C := Try.checked) own started (by kernel_rfl) Try.func9
  (ChangeSpec.witness6 (enc := enc) (C := Try.checked) false ⟨#[], #[.agg #[.slice none 0 0, .slice none 0 0], .agg #[.int .i64 0, .int .i64 0], .slice none 0 0], []⟩ 8 (by kernel_rfl) (by kernel_rfl) (by kernel_rfl) (by kernel_rfl)) ?_
 intro W base args ds gs before hval0 hW hcnd hsz0 _
 have hsz : (DataW.weightsEach Try.prog (Try.f9.params.toList ++ Rows.treeLaidSpec.plain.varTypes Try.prog) (ds ++ gs)).all (· ≤ reachBytes) = true := hsz0
 have hval : ∀ (j : Nat) t v, Try.f9.params[j]? = some t → args[j]? = some v → Value.okWide Try.prog W .any base t v := hval0
 have hW' := hW
 obtain ⟨p, q, hA0, hV, rfl, hfz, hnd⟩ := hW
 have hA : DataW.TrodAll enc Try.prog W 0 (fun _ => true) true Try.f9.params.toList args.toList ds p := hA0
 rw [Try.params9] at hA hval hsz
 obtain ⟨v0, vs0, d0, ds0, p0, q0, hargs, rfl, rfl, h0, r0⟩ := trodAll_cons hA
 obtain ⟨v1, vs1, d1, ds1, p1, q1, rfl, rfl, rfl, h1, r1⟩ := trodAll_cons r0
 obtain ⟨v2, vs2, d2, ds2, p2, q2, rfl, rfl, rfl, h2, r2⟩ := trodAll_cons r1
 obtain ⟨rfl, rfl, rfl⟩ := trodAll_nil r2
 obtain rfl : args = #[v0, v1, v2] := by cases args; simp_all
 obtain ⟨rfl, rfl⟩ := trodVars_none hV
 obtain ⟨cs0, rfl, _⟩ := okWide_struct Try.underlying25 (hval 0 25 v0 rfl rfl)
 have k0 := h0
 have lt0 : ∀ x ∈ p0, x.block < W.heap.size := by obtain ⟨m, hm⟩ := k0; exact DataW.trod_lt m _ _ _ hm
 have li0 : Open.Light Try.prog 25 d0 := fun n hn => by simpa using List.all_eq_true.1 hsz n (DataW.weights_mem_each (j := 0) rfl rfl n hn)
 obtain ⟨fu0, hf0⟩ := h0
 obtain ⟨y0, hk0, w0⟩ := Ops.opensT fu0 fu0 (Nat.le_refl _) _ enc W 0 (fun _ => true) true _ _ hf0 li0
 have ec0 : (Value.agg cs0).cells.toList.toArray = cs0 := by simp [Value.cells]
 obtain ⟨A0_0, c0_0, A0_1, c0_1, hcs0, _⟩ := k25_open hk0
 rw [hcs0] at ec0 hk0
 have ec0' := ec0.symm
 subst ec0'
 obtain ⟨cs1, rfl⟩ : ∃ cs, v1 = .agg cs := by
  have h := hval 1 64 v1 rfl rfl
  simp only [Value.okWide, Try.underlying64] at h
  obtain ⟨cs, h1, _⟩ := h
  exact ⟨cs, h1⟩
 have k1 := h1
 have lt1 : ∀ x ∈ p1, x.block < W.heap.size := by obtain ⟨m, hm⟩ := k1; exact DataW.trod_lt m _ _ _ hm
 obtain ⟨fu1, hf1⟩ := h1
 obtain ⟨a1, b1, hcs1, wa1, wb1⟩ := openA2 Try.underlying64 Try.underlying3 (by kernel_rfl) (by kernel_rfl) hf1
 obtain rfl : cs1 = #[.int .i64 a1, .int .i64 b1] := by
  have h := congrArg List.toArray hcs1
  simpa [Value.cells] using h
 obtain ⟨q2A, len2, cap2, rfl⟩ := okWide_slice Try.underlying57 (hval 2 57 v2 rfl rfl)
 have k2 := h2
 have lt2 : ∀ x ∈ p2, x.block < W.heap.size := by obtain ⟨m, hm⟩ := k2; exact DataW.trod_lt m _ _ _ hm
 have li2 : Open.Light Try.prog 57 d2 := fun n hn => by simpa using List.all_eq_true.1 hsz n (DataW.weights_mem_each (j := 2) rfl rfl n hn)
 obtain ⟨fu2, hf2⟩ := h2
 obtain ⟨l2, rfl, hc2, hr2, hl2, ho2⟩ : ∃ l : List Ops.TV, len2 = l.length ∧ l.length ≤ cap2 ∧ k70.C W q2A l.length l ∧ l.length * 48 ≤ reachBytes ∧ ∀ y ∈ l, Ops.okVal (Ops.okT fu2) y := by
  obtain ⟨l, ⟨A, c, hcs, hle, hC⟩, hok⟩ := Open.opensW_slice Try.underlying57 Ops.cellsV (by kernel_rfl : Try.prog.bytesOf 70 = 48) (fun n e => Ops.opensVal fu2 n (by omega)) _ enc W 0 (fun _ => true) true _ _ hf2 li2
  simp [Value.cells] at hcs
  obtain ⟨rfl, rfl, rfl⟩ := hcs
  exact ⟨l, rfl, hle, hC, hok.1, hok.2⟩
 clear hA0 hval0 hsz0 hsz
 have hcall := TK.TreeLaid_c hk0 w0 wa1 hc2 hr2 hl2 ho2 (b := b1) (w := W)
 refine hcall.mono fun e W' ⟨he, bel0⟩ => ?_
 have bel : Below W.heap.size W W' := bel0
 subst he
 exact ⟨_, rfl, _, _, _, [], _, [], hW', trodAll_mk1 (shut_bool Try.underlying4 _), (trodAll_cons_mk (Below.trod laidOut (by kernel_rfl) (of_decide_eq_true (by kernel_rfl)) k0 bel lt0) (trodAll_cons_mk (Below.trod laidOut (by kernel_rfl) (of_decide_eq_true (by kernel_rfl)) k1 bel lt1) (trodAll_cons_mk (Below.trod laidOut (by kernel_rfl) (of_decide_eq_true (by kernel_rfl)) k2 bel lt2) trodAll_mk0))), rfl, bel.frame _, fun h => by cases h⟩
theorem over : Rows.treeLaidRow.holds Try.pinned (OpenSpec.ofChange Rows.treeLaidSpec) :=
 OpenClaim.holds_of_wide 9 Try.f9 rfl rfl rfl rfl rfl rfl rfl ⟨rfl, rfl, rfl, rfl, rfl⟩ rfl rfl rfl rfl rfl (by kernel_rfl) Try.func9 (by kernel_rfl)
  (of_decide_eq_true (by kernel_rfl)) (by unfold Func.isWrapper; first | (rw [if_pos (by decide +kernel)]; kernel_rfl) | (rw [if_neg (by decide +kernel)]; exact ⟨rfl, rfl⟩))
  (fun os started H enc _ => lifted os started H enc)
theorem proved : Rows.TreeLaidSaid := over
#print axioms proved
end Go.Proofs.Ytbpnfpckoapdbaa.treeLaid
namespace Go.Proofs.Ytbpnfpckoapdbaa
/-- The row, under a short name, for the claim. -/
theorem treeLaid_holds : Rows.TreeLaidSaid := treeLaid.proved
end Go.Proofs.Ytbpnfpckoapdbaa
end

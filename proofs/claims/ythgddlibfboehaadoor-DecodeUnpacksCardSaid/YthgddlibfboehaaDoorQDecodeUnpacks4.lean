/- decode.Unpack and the document's Unpack tell the same of every field and text; the page's example is read as it says (text 5 of 5; some of it the words and functions that the kit's print and this claim's programs wrote) -/
import Derived.Test.YthgddlibfboehaaDoorQDecodeUnpacks3
import Derived.Test.YthgddlibfboehaaDoorProg
import Derived.KernelRfl
import Derived.Test.YthgddlibfboehaaDoorRows
import Derived.Test.YthgddlibfboehaaDoorTie
import Derived.Test.YthgddlibfboehaaDoorCards
import Derived.WalkKit
import Derived.ProofKit
import Derived.LaidMore
import Derived.OpenShut
import Derived.ShutString
import Derived.ChangeOld
import Derived.Below
import Derived.SizedLaws
import Derived.LaidLaws
import Derived.Lib.LaidU8T
import Derived.SevenTiedAt
import Derived.MakeChecks
import Derived.Lay
section
namespace Go.Proofs.YthgddlibfboehaaDoor.Dc
open Go.RowKit Go.Proofs.YthgddlibfboehaaDoorW.PrintWords Go.Proofs.YthgddlibfboehaaDoorW.PrintLast Go.Proofs.YthgddlibfboehaaDoorW.PrintMore Go.Proofs.YthgddlibfboehaaDoor.Var Go.Proofs.YthgddlibfboehaaDoor.Cur Go.Proofs.YthgddlibfboehaaDoor.PU Go.Proofs.YthgddlibfboehaaDoor.Un Go.Proofs.YthgddlibfboehaaDoor.KD Go.Proofs.YthgddlibfboehaaDoor.Ops Go.Proofs.YthgddlibfboehaaDoor.TK Go.Proofs.YthgddlibfboehaaDoor.Ev
set_option linter.unusedVariables false
set_option linter.unusedSimpArgs false
set_option maxHeartbeats 1000000
set_option maxRecDepth 100000
theorem Keeps.mono {B b b' : Nat} {w w' : World} (h : Keeps B b' w w') (hb : b ≤ b') : Keeps B b w w' := ⟨h.bel, fun k cells q hk => h.kp k cells q (Nat.lt_of_lt_of_le hk hb)⟩
theorem KeepsP.mono {B : Nat} {P P' : Nat → Prop} {w w' : World} (h : KeepsP B P' w w') (hp : ∀ k, P k → P' k) : KeepsP B P w w' := ⟨h.bel, fun k cells q hk => h.kp k cells q (hp k hk)⟩
theorem LimV.mono {m m' : Nat} {v : TV} (h : LimV m v) (hm : m ≤ m') : LimV m' v := limV_imp (fun _ hx => hx.mono hm) h
theorem hidden_eq (f : SF) : field_Hidden.f f.f0 f.f1 f.f2 f.f3 f.f4 f.f5 f.f6 = some (hidD f) := by
 unfold field_Hidden.f hidD
 cases f.f4 with
 | true => rfl
 | false =>
  rw [if_neg (by decide)]
  by_cases h : f.f6.toList = []
  · rw [if_pos h, decide_eq_true h]; rfl
  · rw [if_neg h, decide_eq_false h]; rfl
theorem tog_no {a b : Bool} {w : Int} (h : ¬ (a = true ∧ b = true ∧ w = 2)) : (a && (b && (w == 2))) = false := by
 cases a <;> cases b <;> simp_all
/-- A row of one element, newly made. -/
theorem one_row {α : Type} (d : Kd α) (e : Nat) {w : World} {base : Nat} {ok : Nat → Prop} {x : α} {cs : List Value} (hb : base ≤ w.heap.size) (hM : d.M w base ok x cs) : d.R e (w.alloc (.cells cs.toArray e)) base (fun k => ok k ∨ w.heap.size ≤ k) (.slice (some ⟨w.heap.size, 0, none⟩) 1 1) [x] := by
 have hl : cs.length = d.sz := d.K_len (d.K_of_M hM)
 refine ⟨fun k hk => ?_, cs, ⟨by rw [hl]; exact (Nat.one_mul _).symm, .inr ⟨w.heap.size, 1, cs.toArray, rfl, hb, blk_new _ _, Nat.le_refl _, by decide, by rw [List.size_toArray, hl, Nat.one_mul], by show List.take (1 * d.sz) cs = cs; rw [Nat.one_mul, ← hl, List.take_length]⟩⟩, ?_⟩
 · injection hk with hk
   have hk : w.heap.size = k := hk
   exact .inr (by omega)
 · refine ⟨by rw [hl]; exact (Nat.one_mul _).symm, fun j y hj => ?_⟩
   have h1 := (List.getElem?_eq_some_iff.1 hj).1
   obtain rfl : j = 0 := by simp only [List.length_singleton] at h1; omega
   obtain rfl : x = y := by simpa using hj
   rw [Nat.zero_mul, List.drop_zero, ← hl, List.take_length]
   refine d.M_mono (fun k hk => ⟨.inl hk.1, fun e => ?_⟩) (d.M_move (fun k hk => Below.heap_alloc _ _ _ hk.2.2.1) (d.M_bound hM))
   injection e with e
   have e : k = w.heap.size := e
   have := hk.2.2.1
   omega
/-- A row's first element, in memory. -/
theorem first_row {α : Type} (d : Kd α) {e : Nat} {w : World} {base n c : Nat} {ok : Nat → Prop} {A : Option Addr} {x : α} {xs : List α} (hR : d.R e w base ok (.slice A n c) (x :: xs)) : ∃ G cs cur, A = some ⟨G, 0, none⟩ ∧ d.M w base (fun k => ok k ∧ k ≠ G) x cs ∧ (∀ j u, cs[j]? = some u → w.cell? ⟨G, j, none⟩ = some u) ∧ w.heap[G]? = some (.cells cur e (0, 0)) ∧ ok G ∧ base ≤ G ∧ 0 < n ∧ n ≤ c := by
 obtain ⟨h0, inner, hown, hr⟩ := hR
 rcases hown.2 with ⟨_, h2⟩ | ⟨G, cap, cur, he, hb, hh, hn, hm, hs, ht⟩
 · simp at h2
 · injection he with e1 e2 e3
   subst e1
   have h1 := hr.2 0 x rfl
   rw [Nat.zero_mul, List.drop_zero] at h1
   refine ⟨G, inner.take d.sz, cur, rfl, d.M_mono (fun k hk => ⟨hk.1, fun hh => hk.2 (by rw [hh]; rfl)⟩) h1, fun j u hj => ?_, hh, h0 G rfl, hb, by rw [e2, List.length_cons]; omega, by rw [e2, e3]; exact hn⟩
   have hjl := (List.getElem?_eq_some_iff.1 hj).1
   rw [List.getElem?_take] at hj
   split at hj
   · rename_i hlt
     have hown' : w.ownsRow base e d.sz (.slice (some ⟨G, 0, none⟩) (x :: xs).length c) (x :: xs).length inner := by rw [← e2]; exact ⟨by rw [e2]; exact hown.1, by rw [e2]; exact e2 ▸ hown.2⟩
     rw [hown'.cellAt j (by rw [List.length_cons, Nat.add_mul]; omega)]
     exact hj
   · cases hj
theorem lay_nil {f : SF} {had : List TV} (h4 : f.f4 = false) : layD f had [] = [] := by unfold layD; rw [h4]; rfl
theorem lay_zero {f : SF} {had zs : List TV} {z : TV} (h4 : f.f4 = false) (hh : hidD f = true) (hz : zeroV z = true) : layD f had (z :: zs) = [] := by unfold layD; rw [if_neg (by rw [h4]; decide)]; exact if_pos ⟨hh, hz⟩
theorem lay_keep {f : SF} {had zs : List TV} {z : TV} (h4 : f.f4 = false) (hz : ¬ (hidD f = true ∧ zeroV z = true)) : layD f had (z :: zs) = z :: zs := by unfold layD; rw [if_neg (by rw [h4]; decide)]; exact if_neg hz
theorem lay_not {f : SF} {had vs : List TV} (h4 : f.f4 = false) (hh : hidD f = false) : layD f had vs = vs := by
 cases vs with
 | nil => exact lay_nil h4
 | cons z zs => exact lay_keep h4 (fun h => by rw [hh] at h; exact absurd h.1 (by decide))
theorem lay_len (f : SF) (had vs : List TV) : (layD f had vs).length ≤ had.length + vs.length := by
 unfold layD
 split
 · rw [List.length_append]; exact Nat.le_refl _
 · split
   · exact Nat.zero_le _
   · split
     · exact Nat.zero_le _
     · exact Nat.le_add_left _ _
theorem lay_lim {P : TV → Prop} (f : SF) {had vs : List TV} (h1 : ∀ v ∈ had, P v) (h2 : ∀ v ∈ vs, P v) : ∀ v ∈ layD f had vs, P v := by
 unfold layD
 split
 · intro v hv
   rcases List.mem_append.1 hv with hv | hv
   · exact h1 v hv
   · exact h2 v hv
 · split
   · simp
   · split
     · simp
     · exact h2
set_option maxHeartbeats 8000000 in
theorem known_r {w0 : World} {B r g : Nat} {AE : Option Addr} {cE : Nat} {es : List SE} {AM : Option Addr} {cM : Nat} {ms : List SM} {A : Option Addr} {c : Nat} {b : List Int} {deep : Int} {sub : ByteArray → TT → List Int → Except Int TT} (hcx : Cx w0 B AE cE es AM cM ms b) (hd : 1 ≤ deep ∧ deep ≤ 16) (hsub : deep < 16 → TreeC w0 B r g AE cE es AM cM ms A c b (deep + 1) sub) (hnz : ∀ r y t, NZ (sub r y t))
  {w : World} {p : Int} {v : Value} {ends : List Int} {base m : Nat} {ok : Nat → Prop} {x : TT} {u0 u1 : Value} {mn : ByteArray} {AF AB : Option Addr} {cF cB : Nat} {fs : List SF} {bar : List Int} {f : SF} {wire : Int} (hf : fldF fs f.f1 = f) (hat : 0 ≤ atF fs f.f1) (hfm : f ∈ fs) (hb0 : Below B w0 w) (h : RdI w B r g (.slice AE es.length cE) (.slice AM ms.length cM) A c b p v ends 0) (hi : Inv b.length p ends) (hn : 0 < ends.length) (hel : (ends.length : Int) ≤ deep + 1) (hBb : B ≤ base) (hbs : base ≤ w.heap.size)
  (hM : k41.M w base ok x [u0, u1]) (hx : Lim m x) (hm : m + (seg b p ends).length ≤ 10000000000) (hfit : Fit ms fs x) (hix : f.f2 = 15 → 0 ≤ ixM ms f.f3)
  (hF : k23.C w AF fs.length fs) (hFc : fs.length ≤ cF) (hBr : (Kd.int .i64).C w AB bar.length bar) (hBc : bar.length ≤ cB) (hfl : fs.length ≤ 1000000000) (hfw : ∀ f ∈ fs, (Lit.int .i64 f.f1).wf = true) :
  Calls Tryd.prog 42 #[.pointer (some ⟨r, 0, none⟩), .agg #[u0, u1], .agg #[.string mn, .slice AF fs.length cF, .slice AB bar.length cB], .agg #[.string f.f0, .int .i64 f.f1, .int .i64 f.f2, .string f.f3, .bool f.f4, .bool f.f5, .string f.f6], .int .i64 wire, .int .i64 deep] w fun e w' => ∃ y0 y1 y v' p' ends' f', e = .returned (.agg #[y0, y1]) ∧ k41.M w' w.heap.size (fun _ => True) y [y0, y1] ∧ RdI w' B r g (.slice AE es.length cE) (.slice AM ms.length cM) A c b p' v' ends' f' ∧ Keeps B w.heap.size w w' ∧
    ResP (knownL sub fs f wire deep x (seg b p ends)) (m + 1) b p ends y p' f' ends' := by
 obtain ⟨A0, c0, A1, c1, rfl, rfl, _⟩ := K_of hM
 obtain ⟨wz, hwz⟩ : ∃ wz, wz = (((w.alloc (.cells #[.slice A0 x.f0.length c0, .slice A1 x.f1.length c1] 41)).alloc (.cells #[.string mn, .slice AF fs.length cF, .slice AB bar.length cB] 33)).alloc (.cells #[.string f.f0, .int .i64 f.f1, .int .i64 f.f2, .string f.f3, .bool f.f4, .bool f.f5, .string f.f6] 23)).alloc (.cells #[.slice none 0 0, .slice none 0 0] 41) := ⟨_, rfl⟩
 have bz : Below w.heap.size w wz := by rw [hwz]; exact below_alloc (below_alloc (below_alloc (below_alloc (Below.refl _ _) _) _) _) _
 have hsz : wz.heap.size = w.heap.size + 4 := by rw [hwz]; simp only [World.size_alloc]
 have hb0' : wz.heap[w.heap.size]? = some (.cells #[.slice A0 x.f0.length c0, .slice A1 x.f1.length c1] 41 (0, 0)) := by rw [hwz]; exact blk_alloc (blk_alloc (blk_alloc (blk_new _ _) _) _) _
 have hb1' : wz.heap[w.heap.size + 1]? = some (.cells #[.string mn, .slice AF fs.length cF, .slice AB bar.length cB] 33 (0, 0)) := by
  have q := blk_alloc (blk_alloc (blk_new (w.alloc (.cells #[.slice A0 x.f0.length c0, .slice A1 x.f1.length c1] 41)) (.cells #[.string mn, .slice AF fs.length cF, .slice AB bar.length cB] 33)) (.cells #[.string f.f0, .int .i64 f.f1, .int .i64 f.f2, .string f.f3, .bool f.f4, .bool f.f5, .string f.f6] 23)) (.cells #[.slice none 0 0, .slice none 0 0] 41)
  rw [World.size_alloc] at q
  rw [hwz]
  exact q
 have hb2' : wz.heap[w.heap.size + 2]? = some (.cells #[.string f.f0, .int .i64 f.f1, .int .i64 f.f2, .string f.f3, .bool f.f4, .bool f.f5, .string f.f6] 23 (0, 0)) := by
  have q := blk_alloc (blk_new ((w.alloc (.cells #[.slice A0 x.f0.length c0, .slice A1 x.f1.length c1] 41)).alloc (.cells #[.string mn, .slice AF fs.length cF, .slice AB bar.length cB] 33)) (.cells #[.string f.f0, .int .i64 f.f1, .int .i64 f.f2, .string f.f3, .bool f.f4, .bool f.f5, .string f.f6] 23)) (.cells #[.slice none 0 0, .slice none 0 0] 41)
  rw [World.size_alloc, World.size_alloc] at q
  rw [hwz]
  exact q
 have hb3' : wz.heap[w.heap.size + 3]? = some (.cells #[.slice none 0 0, .slice none 0 0] 41 (0, 0)) := by
  have q := blk_new (((w.alloc (.cells #[.slice A0 x.f0.length c0, .slice A1 x.f1.length c1] 41)).alloc (.cells #[.string mn, .slice AF fs.length cF, .slice AB bar.length cB] 33)).alloc (.cells #[.string f.f0, .int .i64 f.f1, .int .i64 f.f2, .string f.f3, .bool f.f4, .bool f.f5, .string f.f6] 23)) (.cells #[.slice none 0 0, .slice none 0 0] 41)
  rw [World.size_alloc, World.size_alloc, World.size_alloc] at q
  rw [hwz]
  exact q
 have HB : Aside0 (B ≤ w.heap.size) := ⟨Nat.le_trans hBb hbs⟩
 have HZ := Aside0.mk (h.below bz)
 have KZ := Aside0.mk (Keeps.of_below (b := w.heap.size) bz HB.out (Nat.le_refl _))
 have hMz : k41.M wz base (fun k => k < w.heap.size) x [.slice A0 x.f0.length c0, .slice A1 x.f1.length c1] := Kd.M_below (k41.M_mono (fun k hk => hk.2.2.1) (k41.M_bound hM)) bz
 have HAL := Aside0.mk (alone_r hMz (Nat.le_trans hbs bz.size) hx (by omega) (mn := mn) (cF := cF) (cB := cB) (Kd.C_below hF bz) hFc (Kd.C_below hBr bz) hBc hfl hfw (a0 := f.f0) (a3 := f.f3) (a6 := f.f6) (num := f.f1) (ty := f.f2) (a4 := f.f4) (a5 := f.f5) (hfw f hfm))
 obtain ⟨x1, hx1⟩ : ∃ x1, x1 = aloneD x f.f1 (mems f.f6 [] fs) := ⟨_, rfl⟩
 obtain ⟨had, hhad⟩ : ∃ had, had = getT x1 f.f1 := ⟨_, rfl⟩
 have hlx1 : Lim m x1 := by rw [hx1]; exact hx.alone _ _
 have hfx1 : Fit ms fs x1 := by rw [hx1]; exact hfit.alone _ _
 have hgl : had.length ≤ m ∧ ∀ v ∈ had, LimV m v := by rw [hhad]; exact hlx1.getT _
 have hgf : ∀ v ∈ had, FitV ms f v := by rw [hhad]; have := hfx1.getT hat; rwa [hf] at this
 obtain ⟨VR, hVR⟩ : ∃ VR, VR = valsL sub f wire deep had (seg b p ends) := ⟨_, rfl⟩
 obtain ⟨KR, hKR⟩ : ∃ KR, KR = knownL sub fs f wire deep x (seg b p ends) := ⟨_, rfl⟩
 have hk1 : ∀ e, VR = .error e → KR = .error e := fun e he => by rw [hKR]; unfold knownL; rw [← hx1, ← hhad, ← hVR, he]
 have hk2 : ∀ vs l2, VR = .ok (vs, l2) → KR = .ok (withT x1 f.f1 (layD f had vs), l2) := fun vs l2 he => by rw [hKR]; unfold knownL; rw [← hx1, ← hhad, ← hVR, he]
 rw [← hx1] at HAL
 rw [← hKR]
 have HB0 := Aside0.mk hb0'
 have HB1 := Aside0.mk hb1'
 have HB2 := Aside0.mk hb2'
 have HB3 := Aside0.mk hb3'
 have HSZ := Aside0.mk hsz
 have BZ := Aside0.mk bz
 have HWZ := Aside0.mk hwz
 have HBS := Aside0.mk hbs
 have HBB := Aside0.mk hBb
 have HOKX := Aside0.mk (hlx1.ok (by omega))
 have HLX1 := Aside0.mk hlx1
 have HFW := Aside0.mk (hfw f hfm)
 have HHAD := Aside0.mk hhad
 have HNUM := Aside0.mk (fun W => scalar_Number.calls f.f2 (isNum f.f2) W (number_eq f.f2))
 have q0 := (blk_cell hb0' 0).trans rfl
 have q1 := (blk_cell hb0' 1).trans rfl
 have m0 := (blk_cell hb1' 0).trans rfl
 have m1 := (blk_cell hb1' 1).trans rfl
 have m2 := (blk_cell hb1' 2).trans rfl
 have n0 := (blk_cell hb2' 0).trans rfl
 have n1 := (blk_cell hb2' 1).trans rfl
 have n2 := (blk_cell hb2' 2).trans rfl
 have n3 := (blk_cell hb2' 3).trans rfl
 have n4 := (blk_cell hb2' 4).trans rfl
 have n5 := (blk_cell hb2' 5).trans rfl
 have n6 := (blk_cell hb2' 6).trans rfl
 clear hMz hwz bz hsz hb0' hb1' hb2' hb3' h hM hx hfit hF hFc hBr hBc hfl hfw hf hat hfm hbs hBb hlx1 hfx1 hx1 hhad hKR
 go_enter Tryd.func42, Tryd.ntmps42
 go_upto_region 1 with fail
 rw [← HWZ.out]
 go_upto_region 2 with (first
  | (go_at_call 55; refine HAL.out.mono ?_; rintro e w1 ⟨y0, y1, rfl, hm1, b1⟩
     obtain ⟨E0, i0, E1, i1, rfl, rfl, _⟩ := K_of hm1
     have M1 := Aside0.mk hm1
     have H1 := Aside0.mk (HZ.out.below b1)
     have B1 := Aside0.mk b1
     have hb := blk_below HB0.out b1
     have Q1 := Aside0.mk hb
     have z0 := (blk_cell hb 0).trans rfl
     have z1 := (blk_cell hb 1).trans rfl
     have fz0 := blk_frozen hb 0
     have fz1 := blk_frozen hb 1
     clear hm1 b1 hb))
 have S1 := Aside0.mk B1.out.size
 have hfin := fin2 (B := B) (P := fun k => k < w.heap.size) (q := w.heap.size) (ok := fun k => k < w.heap.size ∨ wz.heap.size ≤ k) (KZ.out.p (fun k hk => hk) |>.trans ((Keeps.of_below (b := wz.heap.size) B1.out (Nat.le_trans HB.out BZ.out.size) (Nat.le_refl _)).p (P := fun k => k < w.heap.size) (fun k hk => Nat.lt_of_lt_of_le hk BZ.out.size)) (fun k hk => hk)) H1.out Q1.out HB.out (fun k hk => by omega) M1.out (fun k hk => by have := HSZ.out; omega)
 obtain ⟨w2, hw2⟩ : ∃ w2, w2 = (w1.setCell ⟨w.heap.size, 0, none⟩ (.slice E0 x1.f0.length i0)).setCell ⟨w.heap.size, 1, none⟩ (.slice E1 x1.f1.length i1) := ⟨_, rfl⟩
 rw [← hw2] at hfin ⊢
 have hq2 : w2.heap[w.heap.size]? = some (.cells #[.slice E0 x1.f0.length i0, .slice E1 x1.f1.length i1] 41 (0, 0)) := by rw [hw2]; exact blk_put (blk_put Q1.out 0 _ rfl) 1 _ rfl
 have hsz2 : w2.heap.size = w1.heap.size := by rw [hw2]; simp
 have hoth : ∀ k, k ≠ w.heap.size → w2.heap[k]? = w1.heap[k]? := fun k hk => by rw [hw2, Below.heap_setCell _ _ _ _ hk, Below.heap_setCell _ _ _ _ hk]
 have hb2 : w2.heap[w.heap.size + 2]? = some (.cells #[.string f.f0, .int .i64 f.f1, .int .i64 f.f2, .string f.f3, .bool f.f4, .bool f.f5, .string f.f6] 23 (0, 0)) := (hoth _ (by omega)).trans (blk_below HB2.out B1.out)
 have hb3 : w2.heap[w.heap.size + 3]? = some (.cells #[.slice none 0 0, .slice none 0 0] 41 (0, 0)) := (hoth _ (by omega)).trans (blk_below HB3.out B1.out)
 obtain ⟨_, _, _, _, e0, e1, hK2⟩ := K_of hfin.1
 injection e0 with e0a _ e0b
 injection e1 with e1a _ e1b
 subst e0a
 subst e0b
 subst e1a
 subst e1b
 have HGET := Aside0.mk (Get_c (num := f.f1) hK2 HOKX.out)
 rw [← HHAD.out] at HGET
 have M2 := Aside0.mk hfin.1
 have H2 := Aside0.mk hfin.2.1
 have K2 := Aside0.mk hfin.2.2
 have Q2 := Aside0.mk hq2
 have HF2 := Aside0.mk hb2
 have HR2 := Aside0.mk hb3
 have S2 := Aside0.mk (show w.heap.size + 4 ≤ w2.heap.size by have := HSZ.out; have := S1.out; omega)
 have q0 := (blk_cell hq2 0).trans rfl
 have q1 := (blk_cell hq2 1).trans rfl
 have n1 := (blk_cell hb2 1).trans rfl
 clear hfin hw2 hq2 hsz2 hoth hb2 hb3 hK2 z0 z1 fz0 fz1 m0 m1 m2 n0 n2 n3 n4 n5 n6
 go_upto_region 3 with (first
  | (go_at_call 56; refine HGET.out.mono ?_; rintro e w3 ⟨uh, rfl, hR, b3⟩
     obtain ⟨AH, cH, rfl⟩ := Kd.R_slice hR
     have RH := Aside0.mk hR
     have B3 := Aside0.mk b3
     clear hR b3))
 have hf3 := blk_below HF2.out B3.out
 have n2 := (blk_cell hf3 2).trans rfl
 have n4 := (blk_cell hf3 4).trans rfl
 have HF3 := Aside0.mk hf3
 clear hf3 q0 q1 n1
 go_cut [14] (fun s14 wx => ∃ tog : Bool, s14 = .bool tog ∧ Aside0 (tog = (f.f4 && (isNum f.f2 && (wire == 2)))) ∧ Aside0 (Below w3.heap.size w3 wx))
 case first =>
  rcases Bool.eq_false_or_eq_true f.f4 with hf4 | hf4
  · rw [hf4] at n4
    have HF4 := Aside0.mk hf4
    clear hf4
    rcases Bool.eq_false_or_eq_true (isNum f.f2) with hnu | hnu
    · rw [hnu] at HNUM
      have HNU := Aside0.mk hnu
      clear hnu
      go_wp2_with (first
        | (go_at_call 11; refine (HNUM.out _).mono ?_; rintro e w4 ⟨rfl, b4⟩; have B4 := Aside0.mk b4; clear b4))
      go_meet
      case rel => exact ⟨_, rfl, ⟨by rw [HF4.out, HNU.out]; rfl⟩, B4⟩
    · rw [hnu] at HNUM
      have HNU := Aside0.mk hnu
      clear hnu
      go_wp2_with (first
        | (go_at_call 11; refine (HNUM.out _).mono ?_; rintro e w4 ⟨rfl, b4⟩; have B4 := Aside0.mk b4; clear b4))
      go_meet
      case rel => exact ⟨_, rfl, ⟨by rw [HF4.out, HNU.out]; rfl⟩, B4⟩
  · rw [hf4] at n4
    have HF4 := Aside0.mk hf4
    clear hf4
    go_wp2_with fail
    go_meet
    case rel => exact ⟨_, rfl, ⟨by rw [HF4.out]; rfl⟩, ⟨Below.refl _ _⟩⟩
 case rest =>
  obtain ⟨tog, rfl, HTOG, BC⟩ := hcut
  obtain ⟨wB, hwB⟩ : ∃ wB, wB = wc := ⟨_, rfl⟩
  subst hwB
  have B2C := Aside0.mk (show Below w2.heap.size w2 wB from B3.out.trans (BC.out.mono B3.out.size))
  have HC := Aside0.mk (H2.out.below B2C.out)
  have SC := Aside0.mk (show w2.heap.size ≤ wB.heap.size from B2C.out.size)
  have hBC : B ≤ wB.heap.size := by have := HB.out; have := S2.out; have := SC.out; omega
  have HBC := Aside0.mk hBC
  have KC := Aside0.mk (show KeepsP B (fun k => k < w.heap.size) w wB from K2.out.trans ((Keeps.of_below (b := w2.heap.size) B2C.out (by have := HB.out; have := S2.out; omega) (Nat.le_refl _)).p (P := fun k => k < w.heap.size) (fun k hk => by have := S2.out; omega)) (fun k hk => hk))
  have MC := Aside0.mk (show k41.M wB base (fun k => (k < w.heap.size ∨ wz.heap.size ≤ k) ∧ k < w2.heap.size) x1 [.slice E0 x1.f0.length i0, .slice E1 x1.f1.length i1] from Kd.M_below (k41.M_mono (fun k hk => ⟨hk.1, hk.2.2.1⟩) (k41.M_bound M2.out)) B2C.out)
  have RC := Aside0.mk (show k51.R 51 wB w2.heap.size (fun k => k < wB.heap.size) (.slice AH had.length cH) had from Kd.R_mono (Kd.R_bound (Kd.R_below RH.out BC.out)) (fun k hk => hk.2.2.1))
  have QC := Aside0.mk (blk_below Q2.out B2C.out)
  have hfc := blk_below HF2.out B2C.out
  have FC := Aside0.mk hfc
  have RSC := Aside0.mk (blk_below HR2.out B2C.out)
  have n0 := (blk_cell hfc 0).trans rfl
  have n1 := (blk_cell hfc 1).trans rfl
  have n2 := (blk_cell hfc 2).trans rfl
  have n3 := (blk_cell hfc 3).trans rfl
  have n4 := (blk_cell hfc 4).trans rfl
  have n5 := (blk_cell hfc 5).trans rfl
  have n6 := (blk_cell hfc 6).trans rfl
  have HPK := Aside0.mk (packed_r HC.out hi hBC hcx.byt hcx.bl (by omega) f.f2)
  have HSK := Aside0.mk (fun (W : World) (hb : Below wB.heap.size wB W) => skip_r (HC.out.below hb) hi (Nat.le_trans hBC hb.size) hcx.byt (Nat.le_trans hcx.bl (by decide)) wire)
  have HPL := Aside0.mk (fun (W : World) (hb : Below wB.heap.size wB W) => plain_r (HC.out.below hb) hi (Nat.le_trans hBC hb.size) hcx.byt hcx.bl (hcx.T (hb0.trans (KC.out.bel.trans (hb.mono hBC)))) (a0 := f.f0) (a1 := f.f1) (ty := f.f2) (a3 := f.f3) (a4 := f.f4) (a5 := f.f5) (a6 := f.f6))
  have HWI := Aside0.mk (fun (W : World) (hb : Below wB.heap.size wB W) (bs : Nat) (ok1 : Nat → Prop) (y : TT) (a0 a1 : Value) (h1 : B ≤ bs) (h2 : bs ≤ W.heap.size) (hM : k41.M W bs ok1 y [a0, a1]) (hl : Lim m y) (hft : Fit ms (fldsM ms f.f3) y) (h15 : f.f2 = 15) => within_r hcx hd hsub hnz (f := f) (hb0.trans (KC.out.bel.trans (hb.mono hBC))) (HC.out.below hb) hi hn hel h1 h2 hM hl hm hft (hix h15))
  have HWR := Aside0.mk (fun W => scalar_Wire.calls 2 f.f2 (wireD f.f2) W (wire_eq 0 f.f2))
  have HGL := Aside0.mk hgl
  have HLN := Aside0.mk (show (seg b p ends).length ≤ 10000000000 by omega)
  have HMM := Aside0.mk (show m ≤ 10000000000 ∧ m + (seg b p ends).length ≤ 10000000000 by omega)
  have HGF := Aside0.mk hgf
  have PPK := Aside0.mk (packD_P (m := m) hi hcx.byt f.f2)
  have PPL := Aside0.mk (plainD_P (m := m) hi hcx.byt hcx.bl f)
  have HVR := Aside0.mk hVR
  have HK1 := Aside0.mk hk1
  have HK2 := Aside0.mk hk2
  clear hfc hi hcx hsub hnz hd hb0 hn hel hm hix hgl hgf hVR hk1 hk2 hBC
  go_upto_block 0 with fail
  go_cut [15] (fun s15 wx => ∃ (ul : Value) (vs : List TV) (v' : Value) (p' f' : Int) (ends' : List Int), s15 = ul ∧ Aside0 (k51.R 51 wx w2.heap.size (fun k => f.f4 = true → wB.heap.size ≤ k) ul vs) ∧ Aside0 (RdI wx B r g (.slice AE es.length cE) (.slice AM ms.length cM) A c b p' v' ends' f') ∧ Aside0 (KeepsP B (fun k => k < wB.heap.size ∧ (f.f4 = true ∨ k < w2.heap.size)) wB wx) ∧ Aside0 (ValsP VR m b p ends vs p' f' ends'))
  case first =>
    by_cases hP1 : f.f4 = true ∧ isNum f.f2 = true ∧ wire = 2
    · have e1 : VR = packL f.f2 (seg b p ends) := by rw [HVR.out]; unfold valsL; exact if_pos hP1
      obtain rfl : tog = true := by rw [HTOG.out, hP1.1, hP1.2.1, hP1.2.2]; rfl
      have E1A := Aside0.mk e1
      clear hP1 e1
      go_wp2_with (first
        | (go_at_call 57; refine HPK.out.mono ?_; rintro e w4 ⟨u4, v4, rfl, r4, h4, k4⟩
           have R4 := Aside0.mk r4
           have H4 := Aside0.mk h4
           have K4 := Aside0.mk k4
           clear r4 h4 k4))
      go_meet
      case rel =>
        refine ⟨_, (packD f.f2 b p ends).1, v4, _, _, _, rfl, ⟨Kd.R_lower (Kd.R_mono (Kd.R_bound R4.out) (fun k hk _ => hk.2.1)) SC.out⟩, H4, ⟨K4.out.p (fun k hk => hk.1)⟩, ⟨?_⟩⟩
        rw [E1A.out]
        exact PPK.out
    · obtain rfl : tog = false := HTOG.out.trans (tog_no hP1)
      have e1 : VR = if wire ≠ wireD f.f2 then .error 8 else if f.f2 ≠ 15 then plainL f (seg b p ends) else match withinL sub f (wasD f had) deep (seg b p ends) with | .error e => .error e | .ok (y, l2) => .ok ([⟨0, ⟨#[]⟩, [y]⟩], l2) := by rw [HVR.out]; unfold valsL; exact if_neg hP1
      clear hP1
      by_cases hP2 : wire = wireD f.f2
      · have hP2' : (wire != wireD f.f2) = false := by rw [hP2]; simp
        by_cases h15 : f.f2 = 15
        · have h15' : (f.f2 != 15) = false := by simp [h15]
          have e2 : VR = match withinL sub f (wasD f had) deep (seg b p ends) with | .error e => .error e | .ok (y, l2) => .ok ([⟨0, ⟨#[]⟩, [y]⟩], l2) := by rw [e1, if_neg (fun h => h hP2)]; exact if_neg (fun h => h h15)
          have H15 := Aside0.mk h15
          have E2A := Aside0.mk e2
          clear hP2 e1 e2 h15
          by_cases hw : f.f4 = false ∧ 0 < had.length
          · obtain ⟨v0, vr, rfl⟩ : ∃ v0 vr, had = v0 :: vr := by
              cases had with
              | nil => exact absurd hw.2 (by simp)
              | cons a l => exact ⟨a, l, rfl⟩
            obtain ⟨z0, hz0, hfz⟩ := HGF.out v0 (by simp) H15.out
            have hwas : wasD f (v0 :: vr) = z0 := by unfold wasD; rw [if_neg (by rw [hw.1]; decide)]; simp only; rw [hz0]
            rw [hwas] at E2A
            have E3 := Aside0.mk (fun e (he : withinL sub f z0 deep (seg b p ends) = .error e) => show VR = .error e by rw [E2A.out, he])
            have E4 := Aside0.mk (fun y l2 (he : withinL sub f z0 deep (seg b p ends) = .ok (y, l2)) => show VR = .ok ([⟨0, ⟨#[]⟩, [y]⟩], l2) by rw [E2A.out, he])
            obtain ⟨G, cs, cur, rfl, hMv, hcl, hGb, hGo, hGB, _, _⟩ := first_row k51 RC.out
            obtain ⟨u2, rfl, hRt⟩ := k51_openM hMv
            rw [hz0] at hRt
            obtain ⟨A2, c2, rfl⟩ := Kd.R_slice hRt
            obtain ⟨G2, cs2, cur2, rfl, hMt, hcl2, hGb2, hGo2, hGB2, _, hc2⟩ := first_row k41 hRt
            obtain ⟨T0, T1, rfl, _, _⟩ := k41_openM hMt
            obtain ⟨A3, c3, A4, c4, rfl, rfl, _⟩ := K_of hMt
            have d2 := hcl 2 _ rfl
            have d30 := hcl2 0 _ rfl
            have d31 := hcl2 1 _ rfl
            have GB := Aside0.mk hGb
            have GB2 := Aside0.mk hGb2
            have GC := Aside0.mk hcl
            have GC2 := Aside0.mk hcl2
            have GGE := Aside0.mk hGB
            have GGE2 := Aside0.mk hGB2
            have MT := Aside0.mk (show k41.M wB w2.heap.size (fun k => w2.heap.size ≤ k ∧ k ≠ G ∧ k ≠ G2) z0 [.slice A3 z0.f0.length c3, .slice A4 z0.f1.length c4] from k41.M_mono (fun k hk => ⟨hk.2.1, hk.1.1.2, hk.1.2⟩) (k41.M_bound hMt))
            have HLZ := Aside0.mk (show Lim m z0 from ((HGL.out.2 v0 (by simp)).2.2.2 z0 (by rw [hz0]; simp)))
            have HFZ := Aside0.mk hfz
            have hq4 := hw.1
            rw [hq4] at n4 HWI FC
            have HQ4 := Aside0.mk hq4
            clear hwas hw hq4 hMv hcl hGb hGo hRt hMt hcl2 hGb2 hGo2 hc2 hz0 hfz hGB hGB2
            go_upto_region 13 with (first
              | (go_at_call 44; refine (HWR.out _).mono ?_; rintro e w4 ⟨rfl, hd4⟩; have B4 := Aside0.mk (below_of_drawn hd4); have hf4 := blk_below FC.out (below_of_drawn hd4); have HF4 := Aside0.mk hf4; have n0 := (blk_cell hf4 0).trans rfl; have n1 := (blk_cell hf4 1).trans rfl; have n2 := (blk_cell hf4 2).trans rfl; have n3 := (blk_cell hf4 3).trans rfl; have n4 := (blk_cell hf4 4).trans rfl; have n5 := (blk_cell hf4 5).trans rfl; have n6 := (blk_cell hf4 6).trans rfl; clear hd4 hf4))
            have d2 := pw_cell_below B4.out d2
            have d30 := pw_cell_below B4.out d30
            have d31 := pw_cell_below B4.out d31
            have hm : w4.cell? ⟨w.heap.size + 2, 0, none⟩ = some (.string f.f0) ∧ w4.cell? ⟨w.heap.size + 2, 1, none⟩ = some (.int .i64 f.f1) ∧ w4.cell? ⟨w.heap.size + 2, 2, none⟩ = some (.int .i64 f.f2) ∧ w4.cell? ⟨w.heap.size + 2, 3, none⟩ = some (.string f.f3) ∧ w4.cell? ⟨w.heap.size + 2, 4, none⟩ = some (.bool false) ∧ w4.cell? ⟨w.heap.size + 2, 5, none⟩ = some (.bool f.f5) ∧ w4.cell? ⟨w.heap.size + 2, 6, none⟩ = some (.string f.f6) ∧ w4.cell? ⟨G, 2, none⟩ = some (.slice (some ⟨G2, 0, none⟩) 1 c2) ∧ w4.cell? ⟨G2, 0, none⟩ = some (.slice A3 z0.f0.length c3) ∧ w4.cell? ⟨G2, 1, none⟩ = some (.slice A4 z0.f1.length c4) := ⟨n0, n1, n2, n3, n4, n5, n6, d2, d30, d31⟩
            go_region_held3 (fun w' => w'.cell? ⟨w.heap.size + 2, 0, none⟩ = some (.string f.f0) ∧ w'.cell? ⟨w.heap.size + 2, 1, none⟩ = some (.int .i64 f.f1) ∧ w'.cell? ⟨w.heap.size + 2, 2, none⟩ = some (.int .i64 f.f2) ∧ w'.cell? ⟨w.heap.size + 2, 3, none⟩ = some (.string f.f3) ∧ w'.cell? ⟨w.heap.size + 2, 4, none⟩ = some (.bool false) ∧ w'.cell? ⟨w.heap.size + 2, 5, none⟩ = some (.bool f.f5) ∧ w'.cell? ⟨w.heap.size + 2, 6, none⟩ = some (.string f.f6) ∧ w'.cell? ⟨G, 2, none⟩ = some (.slice (some ⟨G2, 0, none⟩) 1 c2) ∧ w'.cell? ⟨G2, 0, none⟩ = some (.slice A3 z0.f0.length c3) ∧ w'.cell? ⟨G2, 1, none⟩ = some (.slice A4 z0.f1.length c4)) (first | exact hm | exact CM.out | go_keep) (first
              | (go_at_call 60; refine (HWI.out _ (below_drew B4.out) w2.heap.size (fun k => w2.heap.size ≤ k ∧ k ≠ G ∧ k ≠ G2) z0 _ _ (by have := HB.out; have := S2.out; omega) (Nat.le_trans SC.out B4.out.size) (Kd.M_below MT.out (below_drew B4.out)) HLZ.out HFZ.out H15.out).mono ?_; rintro e w5 ⟨y0, y1, y, v5, p5, e5, f5, rfl, m5, h5, k5, r5⟩
                 obtain ⟨G0, j0, G1, j1, rfl, rfl, _⟩ := K_of m5
                 have M5 := Aside0.mk m5
                 have H5 := Aside0.mk h5
                 have P5 := Aside0.mk r5
                 have K5 := Aside0.mk (show KeepsP B (fun k => k < w2.heap.size) wB w5 from ((Keeps.of_below (b := wB.heap.size) (below_drew B4.out) HBC.out (Nat.le_refl _)).p (fun k hk => Nat.lt_of_lt_of_le hk SC.out)).trans k5 (fun k hk => ⟨Nat.lt_of_lt_of_le hk (Nat.le_trans SC.out B4.out.size), fun h => by have := h.1; omega⟩))
                 have hf5 := k5.kp _ _ _ ⟨blk_lt HF4.out, fun h => by have := h.1; have := S2.out; omega⟩ HF4.out (by decide)
                 have hg5 := k5.kp _ _ _ ⟨blk_lt (blk_below GB.out (below_drew B4.out)), fun h => h.2.1 rfl⟩ (blk_below GB.out (below_drew B4.out)) (by decide)
                 have hh5 := k5.kp _ _ _ ⟨blk_lt (blk_below GB2.out (below_drew B4.out)), fun h => h.2.2 rfl⟩ (blk_below GB2.out (below_drew B4.out)) (by decide)
                 have CM : Aside0 (w5.cell? ⟨w.heap.size + 2, 0, none⟩ = some (.string f.f0) ∧ w5.cell? ⟨w.heap.size + 2, 1, none⟩ = some (.int .i64 f.f1) ∧ w5.cell? ⟨w.heap.size + 2, 2, none⟩ = some (.int .i64 f.f2) ∧ w5.cell? ⟨w.heap.size + 2, 3, none⟩ = some (.string f.f3) ∧ w5.cell? ⟨w.heap.size + 2, 4, none⟩ = some (.bool false) ∧ w5.cell? ⟨w.heap.size + 2, 5, none⟩ = some (.bool f.f5) ∧ w5.cell? ⟨w.heap.size + 2, 6, none⟩ = some (.string f.f6) ∧ w5.cell? ⟨G, 2, none⟩ = some (.slice (some ⟨G2, 0, none⟩) 1 c2) ∧ w5.cell? ⟨G2, 0, none⟩ = some (.slice A3 z0.f0.length c3) ∧ w5.cell? ⟨G2, 1, none⟩ = some (.slice A4 z0.f1.length c4)) := ⟨⟨(blk_cell hf5 0).trans rfl, (blk_cell hf5 1).trans rfl, (blk_cell hf5 2).trans rfl, (blk_cell hf5 3).trans rfl, (blk_cell hf5 4).trans rfl, (blk_cell hf5 5).trans rfl, (blk_cell hf5 6).trans rfl, (blk_cell hg5 2).trans ((blk_cell GB.out 2).symm.trans (GC.out 2 _ rfl)), (blk_cell hh5 0).trans ((blk_cell GB2.out 0).symm.trans (GC2.out 0 _ rfl)), (blk_cell hh5 1).trans ((blk_cell GB2.out 1).symm.trans (GC2.out 1 _ rfl))⟩⟩
                 clear m5 h5 k5 r5 hf5 hg5 hh5)
              | fail)
            go_wp2_with fail
            go_meet
            case rel =>
              have hs5 : w2.heap.size ≤ w5.heap.size := Nat.le_trans SC.out K5.out.size
              have hT := one_row k41 41 hs5 M5.out
              have hV := one_row k51 51 (base := w2.heap.size) (by rw [World.size_alloc]; omega) (k51_mkM _ _ _ ⟨0, ⟨#[]⟩, [y]⟩ hT)
              rw [World.size_alloc] at hV
              have bA : Below w5.heap.size w5 ((w5.alloc (.cells #[.slice G0 y.f0.length j0, .slice G1 y.f1.length j1] 41)).alloc (.cells #[.int .u64 0, .string ⟨#[]⟩, .slice (some ⟨w5.heap.size, 0, none⟩) 1 1] 51)) := below_alloc (below_alloc (Below.refl _ _) _) _
              exact ⟨_, [⟨0, ⟨#[]⟩, [y]⟩], v5, p5, f5, e5, rfl, ⟨Kd.R_mono hV (fun k _ h => by rw [HQ4.out] at h; cases h)⟩, ⟨H5.out.below bA⟩, ⟨(K5.out.trans ((Keeps.of_below (b := w5.heap.size) bA (by have := HBC.out; have := K5.out.size; omega) (Nat.le_refl _)).p (P := fun k => k < w2.heap.size) (fun k hk => by omega)) (fun k hk => hk)).mono (fun k hk => hk.2.resolve_left (by rw [HQ4.out]; decide))⟩, ⟨within_P E3.out E4.out P5.out⟩⟩
          · have hwas : wasD f had = ⟨[], []⟩ := by
              unfold wasD
              cases hq4 : f.f4 with
              | true => rfl
              | false =>
                rw [if_neg (by decide)]
                cases hh : had with
                | nil => rfl
                | cons a l => exact absurd ⟨hq4, by rw [hh]; simp⟩ hw
            rw [hwas] at E2A
            have E3 := Aside0.mk (fun e (he : withinL sub f ⟨[], []⟩ deep (seg b p ends) = .error e) => show VR = .error e by rw [E2A.out, he])
            have E4 := Aside0.mk (fun y l2 (he : withinL sub f ⟨[], []⟩ deep (seg b p ends) = .ok (y, l2)) => show VR = .ok ([⟨0, ⟨#[]⟩, [y]⟩], l2) by rw [E2A.out, he])
            rcases Bool.eq_false_or_eq_true f.f4 with hq4 | hq4
            · rw [hq4] at n4 HWI FC
              have HQ4 := Aside0.mk hq4
              clear hwas hw hq4
              go_wp2_with (first
                | (go_at_call 44; refine (HWR.out _).mono ?_; rintro e w4 ⟨rfl, hd4⟩; have B4 := Aside0.mk (below_of_drawn hd4); have hf4 := blk_below FC.out (below_of_drawn hd4); have HF4 := Aside0.mk hf4; have n0 := (blk_cell hf4 0).trans rfl; have n1 := (blk_cell hf4 1).trans rfl; have n2 := (blk_cell hf4 2).trans rfl; have n3 := (blk_cell hf4 3).trans rfl; have n4 := (blk_cell hf4 4).trans rfl; have n5 := (blk_cell hf4 5).trans rfl; have n6 := (blk_cell hf4 6).trans rfl; clear hd4 hf4)
                | (go_at_call 60; refine (HWI.out _ B4.out wB.heap.size (fun _ => False) ⟨[], []⟩ _ _ HBC.out B4.out.size (M_empty _ _ _) (Lim.empty _) (Fit.empty _ _) H15.out).mono ?_; rintro e w5 ⟨y0, y1, y, v5, p5, e5, f5, rfl, m5, h5, k5, r5⟩
                   obtain ⟨G0, j0, G1, j1, rfl, rfl, _⟩ := K_of m5
                   have M5 := Aside0.mk m5
                   have H5 := Aside0.mk h5
                   have P5 := Aside0.mk r5
                   have K5 := Aside0.mk (show KeepsP B (fun k => k < wB.heap.size) wB w5 from ((Keeps.of_below (b := wB.heap.size) B4.out HBC.out (Nat.le_refl _)).p (fun k hk => hk)).trans k5 (fun k hk => ⟨Nat.lt_of_lt_of_le hk B4.out.size, fun h => h⟩))
                   clear m5 h5 k5 r5))
              go_meet
              case rel =>
                have hs5 : wB.heap.size ≤ w5.heap.size := K5.out.size
                have hT := one_row k41 41 hs5 M5.out
                have hV := one_row k51 51 (base := wB.heap.size) (by rw [World.size_alloc]; omega) (k51_mkM _ _ _ ⟨0, ⟨#[]⟩, [y]⟩ hT)
                rw [World.size_alloc] at hV
                have bA : Below w5.heap.size w5 ((w5.alloc (.cells #[.slice G0 y.f0.length j0, .slice G1 y.f1.length j1] 41)).alloc (.cells #[.int .u64 0, .string ⟨#[]⟩, .slice (some ⟨w5.heap.size, 0, none⟩) 1 1] 51)) := below_alloc (below_alloc (Below.refl _ _) _) _
                exact ⟨_, [⟨0, ⟨#[]⟩, [y]⟩], v5, p5, f5, e5, rfl, ⟨Kd.R_lower (Kd.R_mono (Kd.R_bound hV) (fun k hk _ => hk.2.1)) SC.out⟩, ⟨H5.out.below bA⟩, ⟨(K5.out.trans ((Keeps.of_below (b := w5.heap.size) bA (by have := HBC.out; omega) (Nat.le_refl _)).p (P := fun k => k < wB.heap.size) (fun k hk => by omega)) (fun k hk => hk)).mono (fun k hk => hk.1)⟩, ⟨within_P E3.out E4.out P5.out⟩⟩
            · obtain rfl : had = [] := by
                cases had with
                | nil => rfl
                | cons a l => exact absurd ⟨hq4, by simp⟩ hw
              rw [hq4] at n4 HWI FC
              have HQ4 := Aside0.mk hq4
              clear hwas hw hq4
              go_wp2_with (first
                | (go_at_call 44; refine (HWR.out _).mono ?_; rintro e w4 ⟨rfl, hd4⟩; have B4 := Aside0.mk (below_of_drawn hd4); have hf4 := blk_below FC.out (below_of_drawn hd4); have HF4 := Aside0.mk hf4; have n0 := (blk_cell hf4 0).trans rfl; have n1 := (blk_cell hf4 1).trans rfl; have n2 := (blk_cell hf4 2).trans rfl; have n3 := (blk_cell hf4 3).trans rfl; have n4 := (blk_cell hf4 4).trans rfl; have n5 := (blk_cell hf4 5).trans rfl; have n6 := (blk_cell hf4 6).trans rfl; clear hd4 hf4)
                | (go_at_call 60; refine (HWI.out _ B4.out wB.heap.size (fun _ => False) ⟨[], []⟩ _ _ HBC.out B4.out.size (M_empty _ _ _) (Lim.empty _) (Fit.empty _ _) H15.out).mono ?_; rintro e w5 ⟨y0, y1, y, v5, p5, e5, f5, rfl, m5, h5, k5, r5⟩
                   obtain ⟨G0, j0, G1, j1, rfl, rfl, _⟩ := K_of m5
                   have M5 := Aside0.mk m5
                   have H5 := Aside0.mk h5
                   have P5 := Aside0.mk r5
                   have K5 := Aside0.mk (show KeepsP B (fun k => k < wB.heap.size) wB w5 from ((Keeps.of_below (b := wB.heap.size) B4.out HBC.out (Nat.le_refl _)).p (fun k hk => hk)).trans k5 (fun k hk => ⟨Nat.lt_of_lt_of_le hk B4.out.size, fun h => h⟩))
                   clear m5 h5 k5 r5))
              go_meet
              case rel =>
                have hs5 : wB.heap.size ≤ w5.heap.size := K5.out.size
                have hT := one_row k41 41 hs5 M5.out
                have hV := one_row k51 51 (base := wB.heap.size) (by rw [World.size_alloc]; omega) (k51_mkM _ _ _ ⟨0, ⟨#[]⟩, [y]⟩ hT)
                rw [World.size_alloc] at hV
                have bA : Below w5.heap.size w5 ((w5.alloc (.cells #[.slice G0 y.f0.length j0, .slice G1 y.f1.length j1] 41)).alloc (.cells #[.int .u64 0, .string ⟨#[]⟩, .slice (some ⟨w5.heap.size, 0, none⟩) 1 1] 51)) := below_alloc (below_alloc (Below.refl _ _) _) _
                exact ⟨_, [⟨0, ⟨#[]⟩, [y]⟩], v5, p5, f5, e5, rfl, ⟨Kd.R_lower (Kd.R_mono (Kd.R_bound hV) (fun k hk _ => hk.2.1)) SC.out⟩, ⟨H5.out.below bA⟩, ⟨(K5.out.trans ((Keeps.of_below (b := w5.heap.size) bA (by have := HBC.out; omega) (Nat.le_refl _)).p (P := fun k => k < wB.heap.size) (fun k hk => by omega)) (fun k hk => hk)).mono (fun k hk => hk.1)⟩, ⟨within_P E3.out E4.out P5.out⟩⟩
        · have h15' : (f.f2 != 15) = true := by simp [h15]
          have e2 : VR = plainL f (seg b p ends) := by rw [e1, if_neg (fun h => h hP2)]; exact if_pos h15
          have E2A := Aside0.mk e2
          clear hP2 e1 e2 h15
          go_wp2_with (first
            | (go_at_call 44; refine (HWR.out _).mono ?_; rintro e w4 ⟨rfl, hd4⟩; have B4 := Aside0.mk (below_of_drawn hd4); have hf4 := blk_below FC.out (below_of_drawn hd4); have n0 := (blk_cell hf4 0).trans rfl; have n1 := (blk_cell hf4 1).trans rfl; have n2 := (blk_cell hf4 2).trans rfl; have n3 := (blk_cell hf4 3).trans rfl; have n4 := (blk_cell hf4 4).trans rfl; have n5 := (blk_cell hf4 5).trans rfl; have n6 := (blk_cell hf4 6).trans rfl; clear hd4 hf4)
            | (go_at_call 59; refine (HPL.out _ B4.out).mono ?_; rintro e w5 ⟨u5, v5, rfl, r5, h5, k5⟩
               have R5 := Aside0.mk r5
               have H5 := Aside0.mk h5
               have K5 := Aside0.mk ((Keeps.of_below (b := wB.heap.size) B4.out HBC.out (Nat.le_refl _)).trans k5 B4.out.size)
               clear r5 h5 k5))
          go_meet
          case rel =>
            refine ⟨_, (plainD f.f2 b p ends 0).1, v5, _, _, _, rfl, ⟨Kd.R_lower (Kd.R_mono (Kd.R_bound R5.out) (fun k hk _ => Nat.le_trans B4.out.size hk.2.1)) (Nat.le_trans SC.out B4.out.size)⟩, H5, ⟨K5.out.p (fun k hk => hk.1)⟩, ⟨?_⟩⟩
            rw [E2A.out]
            exact PPL.out
      · have hP2' : (wire != wireD f.f2) = true := by simp [hP2]
        have e2 : VR = .error 8 := by rw [e1]; exact if_pos hP2
        have E2A := Aside0.mk e2
        clear hP2 e1 e2
        go_wp2_with (first
          | (go_at_call 44; refine (HWR.out _).mono ?_; rintro e w4 ⟨rfl, hd4⟩; have B4 := Aside0.mk (below_of_drawn hd4); clear hd4)
          | (go_at_call 58; refine (HSK.out _ B4.out).mono ?_; rintro e w5 ⟨rfl, v5, h5, k5⟩
             have H5 := Aside0.mk h5
             have K5 := Aside0.mk ((Keeps.of_below (b := wB.heap.size) B4.out HBC.out (Nat.le_refl _)).trans k5 B4.out.size)
             clear h5 k5))
        go_meet
        case rel => exact ⟨_, [], v5, _, _, _, rfl, ⟨Kd.R_nil _ _ _ _ _⟩, H5, ⟨K5.out.p (fun k hk => hk.1)⟩, ⟨skip_P E2A.out _ _⟩⟩
  case rest =>
    obtain ⟨ul, vs, v', p', f', ends', rfl, HUL, HRD, HKP, HVP⟩ := hcut
    obtain ⟨wD, hwD⟩ : ∃ wD, wD = wc := ⟨_, rfl⟩
    subst hwD
    have SD := Aside0.mk (show wB.heap.size ≤ wD.heap.size from HKP.out.size)
    have hfd := HKP.out.kp _ _ _ ⟨blk_lt FC.out, .inr (by have := S2.out; omega)⟩ FC.out (by decide)
    have FD := Aside0.mk hfd
    have QD := Aside0.mk (HKP.out.kp _ _ _ ⟨blk_lt QC.out, .inr (by have := S2.out; omega)⟩ QC.out (by decide))
    have RSD := Aside0.mk (HKP.out.kp _ _ _ ⟨blk_lt RSC.out, .inr (by have := S2.out; omega)⟩ RSC.out (by decide))
    have MD := Aside0.mk (HKP.out.M MC.out (fun k hk hlt => ⟨hlt, .inr hk.2⟩) tkt)
    have n0 := (blk_cell hfd 0).trans rfl
    have n1 := (blk_cell hfd 1).trans rfl
    have n2 := (blk_cell hfd 2).trans rfl
    have n3 := (blk_cell hfd 3).trans rfl
    have n4 := (blk_cell hfd 4).trans rfl
    have n5 := (blk_cell hfd 5).trans rfl
    have n6 := (blk_cell hfd 6).trans rfl
    have HHD := Aside0.mk (fun W => field_Hidden.calls f.f0 f.f1 f.f2 f.f3 f.f4 f.f5 f.f6 (hidD f) W (hidden_eq f))
    have HVL := Aside0.mk (show vs.length ≤ (seg b p ends).length + 1 ∧ (seg b p ends).length ≤ 10000000000 from by
      have hv := HVP.out
      unfold ValsP at hv
      split at hv
      · exact ⟨by have := hv.2.2.2.2.2.2.1; omega, HLN.out⟩
      · exact ⟨hv.2.1, HLN.out⟩)
    obtain ⟨AL, cL, rfl⟩ := Kd.R_slice HUL.out
    clear hfd HPK HSK HPL HWI HWR PPK PPL
    go_upto_block 1 with fail
    go_cut [15] (fun s15 wx => ∃ (ul2 : Value), s15 = ul2 ∧ Aside0 (k51.R 51 wx w2.heap.size (fun _ => True) ul2 (layD f had vs)) ∧ Aside0 (RdI wx B r g (.slice AE es.length cE) (.slice AM ms.length cM) A c b p' v' ends' f') ∧ Aside0 (KeepsP B (fun k => k < w2.heap.size) wD wx))
    case first =>
      rcases Bool.eq_false_or_eq_true f.f4 with hf4 | hf4
      · have hlay : layD f had vs = had ++ vs := by unfold layD; rw [if_pos hf4]
        have HLY := Aside0.mk hlay
        have RHD := Aside0.mk (HKP.out.R RC.out (fun k hk hlt => ⟨hlt, .inl hf4⟩) tkv)
        have ULD := Aside0.mk (Kd.R_mono HUL.out (fun k hk => hk hf4))
        rw [hf4] at n4
        clear hf4 hlay
        go_wp2_with (first
          | ((with_reducible refine gate_builtin (b := .append) (xs := #[.tmp 90, .tmp 91]) rfl ?_); at_builtin
             refine append_rows k51 (w0 := wD) w2.heap.size w2.heap.size rfl (.tmp 90) (.tmp 91) 52 51 (.agg #[.int .u64 0, .string ⟨#[]⟩, .slice none 0 0]) 48 rfl Tryd.underlying52 infoV rfl (by decide) _ _ had vs (fun _ => True) (fun k => wB.heap.size ≤ k) rfl rfl (Kd.R_mono RHD.out (fun _ _ => trivial)) ULD.out (Nat.le_refl _) (fun k hk _ _ => ⟨trivial, fun e => by have := RHD.out.1 k e.symm; omega⟩) (fun _ _ => trivial) (Below.refl _ _) (Nat.le_trans SC.out SD.out) ?aM ?aL ?_
             (case aM => have := HVL.out; have := HGL.out.1; have := HMM.out; unfold maxLen; omega)
             (case aL => have := HVL.out; have := HGL.out.1; have := HMM.out; omega)
             intro vo w6 r6 b6 g6 a6'
             obtain ⟨AO, cO, rfl⟩ := Kd.R_slice r6
             have R6 := Aside0.mk r6
             have B6 := Aside0.mk b6
             have G6 := Aside0.mk g6
             clear r6 b6 g6 a6'))
        go_meet
        case rel =>
          refine ⟨_, rfl, ⟨by have q := R6.out; rw [List.length_append] at q; rw [HLY.out]; exact q⟩, ⟨HRD.out.stay (fun k cells t hc ht => ?_) (fun k hk => B6.out.block k (by have := HB.out; have := S2.out; omega))⟩, ⟨⟨B6.out.mono (by have := HB.out; have := S2.out; omega), fun k cells q hk hc _ => (B6.out.block k hk).trans hc⟩⟩⟩
          rw [G6.out.block k (blk_lt hc) (fun e => ?_)]
          · exact hc
          · obtain ⟨_, inner, ho, _⟩ := RHD.out
            obtain ⟨cs, hcs⟩ := own_typed ho k e.symm
            rw [hcs] at hc
            cases hc
            exact ht (by decide)
      · have HF4 := Aside0.mk hf4
        rw [hf4] at n4
        rw [hf4] at HHD
        clear hf4
        rcases Bool.eq_false_or_eq_true (hidD f) with hh | hh
        · rw [hh] at HHD
          cases vs with
          | nil =>
            have HLY := Aside0.mk (lay_nil (had := had) HF4.out)
            clear hh
            go_wp2_with (first
              | (go_at_call 61; refine (HHD.out _).mono ?_; rintro e w6 ⟨rfl, b6⟩; have B6 := Aside0.mk b6;  clear b6))
            go_meet
            case rel => exact ⟨_, rfl, ⟨by rw [HLY.out]; exact Kd.R_mono (Kd.R_below HUL.out B6.out) (fun _ _ => trivial)⟩, ⟨HRD.out.below B6.out⟩, ⟨(Keeps.of_below (b := wD.heap.size) B6.out (by have := HBC.out; have := SD.out; omega) (Nat.le_refl _)).p (fun k hk => Nat.lt_of_lt_of_le hk (Nat.le_trans SC.out SD.out))⟩⟩
          | cons z zs =>
            obtain ⟨GZ, cs, cur, rfl, hMv, hcl, hGb, _, _, _, _⟩ := first_row k51 HUL.out
            obtain ⟨u2, rfl, _⟩ := k51_openM hMv
            have d0 := hcl 0 _ rfl
            have d1 := hcl 1 _ rfl
            have D0 := Aside0.mk d0
            have D1 := Aside0.mk d1
            by_cases hz0 : z.f0 = 0
            · by_cases hz1 : z.f1.toList = []
              · have HLY := Aside0.mk (lay_zero (had := had) (zs := zs) HF4.out hh (by unfold zeroV; rw [hz0, decide_eq_true hz1]; rfl))
                have e2 : z.f1.toList.isEmpty = true := by rw [hz1]; rfl
                have e1 : (z.f0 == 0) = true := by simp [hz0]
                clear hh hMv hcl hGb hz0
                go_wp2_with (first
                  | (go_at_call 61; refine (HHD.out _).mono ?_; rintro e w6 ⟨rfl, b6⟩; have B6 := Aside0.mk b6; have d0 := pw_cell_below B6.out D0.out; have d1 := pw_cell_below B6.out D1.out; clear b6))
                go_meet
                case rel => exact ⟨_, rfl, ⟨by rw [HLY.out]; exact Kd.R_nil _ _ _ _ _⟩, ⟨HRD.out.below B6.out⟩, ⟨(Keeps.of_below (b := wD.heap.size) B6.out (by have := HBC.out; have := SD.out; omega) (Nat.le_refl _)).p (fun k hk => Nat.lt_of_lt_of_le hk (Nat.le_trans SC.out SD.out))⟩⟩
              · have HLY := Aside0.mk (lay_keep (had := had) (zs := zs) HF4.out (fun h => by have := h.2; unfold zeroV at this; rw [decide_eq_false hz1] at this; simp at this))
                have e2 : z.f1.toList.isEmpty = false := Bool.eq_false_iff.2 (fun h => hz1 (List.isEmpty_iff.1 h))
                have e1 : (z.f0 == 0) = true := by simp [hz0]
                clear hh hMv hcl hGb hz0
                go_wp2_with (first
                  | (go_at_call 61; refine (HHD.out _).mono ?_; rintro e w6 ⟨rfl, b6⟩; have B6 := Aside0.mk b6; have d0 := pw_cell_below B6.out D0.out; have d1 := pw_cell_below B6.out D1.out; clear b6))
                go_meet
                case rel => exact ⟨_, rfl, ⟨by rw [HLY.out]; exact Kd.R_mono (Kd.R_below HUL.out B6.out) (fun _ _ => trivial)⟩, ⟨HRD.out.below B6.out⟩, ⟨(Keeps.of_below (b := wD.heap.size) B6.out (by have := HBC.out; have := SD.out; omega) (Nat.le_refl _)).p (fun k hk => Nat.lt_of_lt_of_le hk (Nat.le_trans SC.out SD.out))⟩⟩
            · have HLY := Aside0.mk (lay_keep (had := had) (zs := zs) HF4.out (fun h => by have := h.2; unfold zeroV at this; simp at this; exact hz0 this.1))
              have e1 : (z.f0 == 0) = false := by simp [hz0]
              clear hh hMv hcl hGb hz0
              go_wp2_with (first
                | (go_at_call 61; refine (HHD.out _).mono ?_; rintro e w6 ⟨rfl, b6⟩; have B6 := Aside0.mk b6; have d0 := pw_cell_below B6.out D0.out; have d1 := pw_cell_below B6.out D1.out; clear b6))
              go_meet
              case rel => exact ⟨_, rfl, ⟨by rw [HLY.out]; exact Kd.R_mono (Kd.R_below HUL.out B6.out) (fun _ _ => trivial)⟩, ⟨HRD.out.below B6.out⟩, ⟨(Keeps.of_below (b := wD.heap.size) B6.out (by have := HBC.out; have := SD.out; omega) (Nat.le_refl _)).p (fun k hk => Nat.lt_of_lt_of_le hk (Nat.le_trans SC.out SD.out))⟩⟩
        · rw [hh] at HHD
          have HLY := Aside0.mk (lay_not (had := had) (vs := vs) HF4.out hh)
          clear hh
          go_wp2_with (first
            | (go_at_call 61; refine (HHD.out _).mono ?_; rintro e w6 ⟨rfl, b6⟩; have B6 := Aside0.mk b6;  clear b6))
          go_meet
          case rel => exact ⟨_, rfl, ⟨by rw [HLY.out]; exact Kd.R_mono (Kd.R_below HUL.out B6.out) (fun _ _ => trivial)⟩, ⟨HRD.out.below B6.out⟩, ⟨(Keeps.of_below (b := wD.heap.size) B6.out (by have := HBC.out; have := SD.out; omega) (Nat.le_refl _)).p (fun k hk => Nat.lt_of_lt_of_le hk (Nat.le_trans SC.out SD.out))⟩⟩
    case rest =>
      obtain ⟨ul2, rfl, HU2, HR3, HK3⟩ := hcut
      obtain ⟨AU, cU, rfl⟩ := Kd.R_slice HU2.out
      have hs3 : wD.heap.size ≤ wc.heap.size := HK3.out.size
      have hqc := HK3.out.kp _ _ _ (show w.heap.size < w2.heap.size by have := S2.out; omega) QD.out (by decide)
      have hfc := HK3.out.kp _ _ _ (show w.heap.size + 2 < w2.heap.size by have := S2.out; omega) FD.out (by decide)
      have hrc := HK3.out.kp _ _ _ (show w.heap.size + 3 < w2.heap.size by have := S2.out; omega) RSD.out (by decide)
      have hM9 := HK3.out.M MD.out (fun k hk _ => hk.2) tkt
      have hKc := k41.K_of_M hM9
      have q0 := (blk_cell hqc 0).trans rfl
      have q1 := (blk_cell hqc 1).trans rfl
      have n1 := (blk_cell hfc 1).trans rfl
      have HRC := Aside0.mk hrc
      have hlv : ∀ v ∈ vs, LimV (m + (seg b p ends).length) v := by
        have hv := HVP.out
        unfold ValsP at hv
        split at hv
        · exact fun v hvv => (hv.2.2.2.2.2.2.2 v hvv).mono (by omega)
        · exact hv.2.2
      have hll : ∀ v ∈ layD f had vs, LimV (m + (seg b p ends).length + 1) v := lay_lim f (fun v hv => (HGL.out.2 v hv).mono (by omega)) (fun v hv => (hlv v hv).mono (by omega))
      have hln := lay_len f had vs
      have hg1 := HGL.out.1
      have hvl := HVL.out
      have hmm := HMM.out
      have hLx : Lim (m + (seg b p ends).length + 1) (withT x1 f.f1 (layD f had vs)) := (HLX1.out.mono (Nat.le_add_right _ _)).withT HFW.out (by omega) hll
      have HLX := Aside0.mk hLx
      have hWC := With_c (num := f.f1) hKc (Kd.R_reads' HU2.out).2.1 (Kd.R_reads' HU2.out).2.2 HOKX.out (Lim.ok (m := m + (seg b p ends).length + 1) (Lim.one HFW.out (by omega) (by omega) hll) (by omega))
      have HWC := Aside0.mk hWC
      clear hqc hfc hrc hM9 hKc hll hln hg1 hvl hmm hLx hWC hlv hs3
      go_wp2_with (first
        | (go_at_call 62; refine HWC.out.mono ?_; rintro e w9 ⟨ho9, b9⟩
           obtain ⟨I0, l0, I1, l1, rfl, hM9⟩ := M_ofOwn ho9
           have M9 := Aside0.mk hM9
           have B9 := Aside0.mk b9
           have hr9 := blk_below HRC.out b9
           have R9 := Aside0.mk hr9
           have z0 := (blk_cell hr9 0).trans rfl
           have z1 := (blk_cell hr9 1).trans rfl
           have fz0 := blk_frozen hr9 0
           have fz1 := blk_frozen hr9 1
           clear ho9 hM9 b9 hr9))
      have hs2 := S2.out
      have hsc := SC.out
      have hsd := SD.out
      have hs3 : wD.heap.size ≤ wc.heap.size := HK3.out.size
      have hB := HB.out
      have hk9 : KeepsP B (fun k => k < w.heap.size) w w9 := ((KC.out.trans HKP.out (fun k hk => ⟨by omega, .inr (by omega)⟩)).trans HK3.out (fun k hk => by omega)).trans ((Keeps.of_below (b := wc.heap.size) B9.out (by omega) (Nat.le_refl _)).p (P := fun k => k < w.heap.size) (fun k hk => by omega)) (fun k hk => hk)
      have hfin := fin2 (q := w.heap.size + 3) hk9 (HR3.out.below B9.out) R9.out (by omega) (fun k hk => by omega) (k41.M_mono (ok' := fun k => wc.heap.size ≤ k) (fun k hk => hk.2.1) (k41.M_bound M9.out)) (fun k hk => by omega)
      refine bodyPost_ret (results_cell_row rfl _ _ (w.heap.size + 1 + 1 + 1) 41 _ _ _ rfl (blk_put (blk_put R9.out 0 _ rfl) 1 _ rfl) Tryd.underlying41 rfl (by kernel_rfl)) rfl ?_
      refine ⟨_, _, withT x1 f.f1 (layD f had vs), v', p', ends', f', rfl, k41.M_lower (by omega) (k41.M_mono (fun _ _ => trivial) hfin.1), hfin.2.1, hfin.2.2.keeps (fun k hk => hk), ?_⟩
      have hv := HVP.out
      unfold ValsP at hv
      cases VR with
      | error e => exact ResP.bad (HK1.out e rfl) hv.1 (HLX.out.mono (by omega))
      | ok q =>
        obtain ⟨z, l2⟩ := q
        obtain ⟨rfl, rfl, rfl, r1, r2, r3, r4, r5⟩ := hv
        have hln := lay_len f had vs
        have hg1 := HGL.out.1
        refine ResP.ok (HK2.out vs l2 rfl) ⟨rfl, rfl, rfl, r1, r2, r3, ?_⟩
        refine Lim.mono ((HLX1.out.mono (Nat.le_add_right m ((seg b p ends').length - l2.length))).withT HFW.out (by omega) (lay_lim f (fun v hv => (HGL.out.2 v hv).mono (by omega)) (fun v hv => (r5 v hv).mono (by omega)))) (by omega)
end Go.Proofs.YthgddlibfboehaaDoor.Dc
end
section
namespace Go.Proofs.YthgddlibfboehaaDoor.Dc
open Go.RowKit Go.Proofs.YthgddlibfboehaaDoorW.PrintWords Go.Proofs.YthgddlibfboehaaDoorW.PrintLast Go.Proofs.YthgddlibfboehaaDoorW.PrintMore Go.Proofs.YthgddlibfboehaaDoor.Var Go.Proofs.YthgddlibfboehaaDoor.Cur Go.Proofs.YthgddlibfboehaaDoor.PU Go.Proofs.YthgddlibfboehaaDoor.Un Go.Proofs.YthgddlibfboehaaDoor.KD Go.Proofs.YthgddlibfboehaaDoor.Ops Go.Proofs.YthgddlibfboehaaDoor.TK Go.Proofs.YthgddlibfboehaaDoor.Ev
set_option linter.unusedVariables false
set_option linter.unusedSimpArgs false
set_option maxHeartbeats 1000000
set_option maxRecDepth 100000
theorem gs_nz {ends : List Int} {f : Int} (h : f ≠ 0) : gs ends f = f := by
 unfold gs flt
 split
 · first | rfl | exact if_neg h
 · first | rfl | exact if_neg h
theorem gs_alive {ends : List Int} {f : Int} (h : 0 < ends.length) : gs ends f = f := if_neg (by omega)
/-- Where a round stands: all went well, or there is a fault. -/
def StP (ms : List SM) (sub : ByteArray → TT → List Int → Except Int TT) (fs : List SF) (deep : Int) (b ends : List Int) (T : Except Int TT) (len m : Nat) (n : Nat) (x : TT) (p1 f1 : Int) (e1 : List Int) : Prop :=
 (f1 = 0 ∧ e1 = ends ∧ Inv b.length p1 ends ∧ (seg b p1 ends).length ≤ n ∧ (seg b p1 ends).length ≤ len ∧ (∃ n', (seg b p1 ends).length ≤ n' ∧ T = loopL sub fs deep n' x (seg b p1 ends)) ∧ Lim (m + (len - (seg b p1 ends).length)) x ∧ Fit ms fs x) ∨
 (∃ e, Bad e f1 e1 ∧ T = .error e ∧ Lim (m + len) x)
theorem i64wf {n : Int} (h0 : 0 ≤ n) (h1 : n ≤ 9223372036854775807) : (Lit.int .i64 n).wf = true := by
 show (decide (IntKind.i64.min ≤ n) && decide (n ≤ IntKind.i64.max)) = true
 have e0 : IntKind.i64.min = -9223372036854775808 := by decide
 have e1 : IntKind.i64.max = 9223372036854775807 := by decide
 rw [e0, e1, decide_eq_true (by omega), decide_eq_true h1]
 rfl
theorem tag_wf {l l1 : List Int} {n wire : Int} (hb : ∀ x ∈ l, 0 ≤ x ∧ x ≤ 255) (h : tagL l = some ((n, wire), l1)) : (Lit.int .i64 n).wf = true ∧ (Lit.int .i64 wire).wf = true := by
 unfold tagL at h
 split at h
 · cases h
 · split at h
   · rename_i h2
     have hd := dec_b hb
     simp only [Option.some.injEq, Prod.mk.injEq] at h
     obtain ⟨⟨h3, h4⟩, _⟩ := h
     unfold spl at h2 h3 h4
     split at h2
     · rename_i h5
       rw [if_pos h5] at h3 h4
       simp only at h3 h4
       exact ⟨i64wf (by omega) (by omega), i64wf (by omega) (by omega)⟩
     · simp at h2
   · cases h
theorem rawD_lim {b : List Int} {p : Int} {ends : List Int} (hb : ∀ x ∈ b, 0 ≤ x ∧ x ≤ 255) (hbl : b.length ≤ 1000000000) {n wire : Int} (hn : (Lit.int .i64 n).wf = true) (hw : (Lit.int .i64 wire).wf = true) : limR (rawD n wire b p ends).1 := by
 have hs := seg_bytes (p := p) (ends := ends) hb
 unfold rawD
 split
 · have := dec_b hs
   exact ⟨hn, hw, wf64 this.1 this.2.1, Nat.zero_le _⟩
 · split
   · have := fix_b (k := 8) (.inr rfl) hs
     exact ⟨hn, hw, wf64 this.1 this.2.1, Nat.zero_le _⟩
   · split
     · have := fix_b (k := 4) (.inl rfl) hs
       exact ⟨hn, hw, wf64 this.1 this.2.1, Nat.zero_le _⟩
     · refine ⟨hn, hw, (show (Lit.int .u64 0).wf = true by decide), ?_⟩
       show (strOfNums (txt b p ends).1).size ≤ _
       rw [strOfNums_size]
       have := txt_len b p ends
       omega
theorem loop_err {sub : ByteArray → TT → List Int → Except Int TT} {fs : List SF} {deep : Int} {n : Nat} {x : TT} {l : List Int} {e : Int} (hl : l ≠ []) (hn : l.length ≤ n) (h : fieldL sub fs deep x l = .error e) : loopL sub fs deep n x l = .error e := by
 cases n with
 | zero => exact absurd (List.length_eq_zero_iff.1 (Nat.le_zero.1 hn)) hl
 | succ n => unfold loopL; rw [if_neg hl, h]
theorem loop_ok {sub : ByteArray → TT → List Int → Except Int TT} {fs : List SF} {deep : Int} {n : Nat} {x y : TT} {l l2 : List Int} (hl : l ≠ []) (hn : l.length ≤ n) (h : fieldL sub fs deep x l = .ok (y, l2)) (h2 : l2.length < l.length) : ∃ n', l2.length ≤ n' ∧ loopL sub fs deep n x l = loopL sub fs deep n' y l2 := by
 cases n with
 | zero => exact absurd (List.length_eq_zero_iff.1 (Nat.le_zero.1 hn)) hl
 | succ n => exact ⟨n, by omega, by conv => lhs; unfold loopL; rw [if_neg hl, h]⟩
theorem loop_end {sub : ByteArray → TT → List Int → Except Int TT} {fs : List SF} {deep : Int} (n : Nat) (x : TT) : loopL sub fs deep n x [] = .ok x := by
 cases n <;> rfl
theorem at_in {fs : List SF} {n : Int} (h : 0 ≤ atF fs n) : fldF fs n ∈ fs ∧ (fldF fs n).f1 = n ∧ ∃ j : Nat, atF fs n = (j : Int) ∧ fs[j]? = some (fldF fs n) := by
 rcases ixF_two (p := fun y : SF => y.f1 == n) fs 0 with ⟨h1, _⟩ | ⟨k, x, h1, h2, h3, _⟩
 · unfold atF at h; rw [h1] at h; omega
 · have e : atF fs n = (k : Int) := by unfold atF; rw [h1, Nat.zero_add]
   have ef : fldF fs n = x := by unfold fldF; rw [e, Int.toNat_natCast, List.getD_eq_getElem?_getD, h2]; rfl
   rw [ef]
   exact ⟨List.mem_of_getElem? h2, by simpa using h3, k, e, h2⟩
theorem Fit.known {ms : List SM} {sub : ByteArray → TT → List Int → Except Int TT} (hs : ∀ r y t z, Fit ms (fldsM ms r) y → sub r y t = .ok z → Fit ms (fldsM ms r) z) {fs : List SF} {f : SF} {wire deep : Int} {x y : TT} {l l2 : List Int} (hf : fldF fs f.f1 = f) (hat : 0 ≤ atF fs f.f1) (hx : Fit ms fs x) (h : knownL sub fs f wire deep x l = .ok (y, l2)) : Fit ms fs y := by
 have hx1 := hx.alone f.f1 (mems f.f6 [] fs)
 have hg := hx1.getT hat
 rw [hf] at hg
 unfold knownL at h
 split at h
 · cases h
 · rename_i vs l3 hv
   injection h with h
   injection h with h _
   subst h
   refine hx1.withT (fun _ => ?_)
   rw [hf]
   refine lay_lim (P := FitV ms f) f hg (fun v hv' h15 => ?_)
   unfold valsL at hv
   split at hv
   · rename_i hc
     have : isNum f.f2 = true := hc.2.1
     rw [h15] at this
     exact absurd this (by decide)
   · split at hv
     · cases hv
     · rw [if_neg (fun h => h h15)] at hv
       split at hv
       · cases hv
       · rename_i z l4 hw
         injection hv with hv
         injection hv with hv _
         subst hv
         rw [List.mem_singleton.1 hv']
         refine ⟨z, rfl, ?_⟩
         unfold withinL at hw
         split at hw
         · cases hw
         · split at hw
           · cases hw
           · split at hw
             · cases hw
             · rename_i y3 hs3
               injection hw with hw
               injection hw with hw _
               subst hw
               refine hs _ _ _ _ ?_ hs3
               unfold wasD
               split
               · exact Fit.empty _ _
               · split
                 · exact Fit.empty _ _
                 · rename_i v1 vr hh
                   obtain ⟨t, ht, hft⟩ := hg v1 (by rw [hh]; simp) h15
                   rw [ht]
                   exact hft
theorem Fit.field {ms : List SM} {sub : ByteArray → TT → List Int → Except Int TT} (hs : ∀ r y t z, Fit ms (fldsM ms r) y → sub r y t = .ok z → Fit ms (fldsM ms r) z) {fs : List SF} {deep : Int} {x y : TT} {l l2 : List Int} (hx : Fit ms fs x) (h : fieldL sub fs deep x l = .ok (y, l2)) : Fit ms fs y := by
 unfold fieldL at h
 split at h
 · cases h
 · split at h
   · split at h
     · cases h
     · injection h with h
       injection h with h _
       subst h
       exact hx.rest _
   · rename_i n wire l1 _ hat
     have ha := at_in (fs := fs) (n := n) (by omega)
     exact Fit.known hs (by rw [ha.2.1]) (by rw [ha.2.1]; omega) hx h
theorem Fit.loop {ms : List SM} {sub : ByteArray → TT → List Int → Except Int TT} (hs : ∀ r y t z, Fit ms (fldsM ms r) y → sub r y t = .ok z → Fit ms (fldsM ms r) z) {fs : List SF} {deep : Int} : ∀ (n : Nat) {x y : TT} {l : List Int}, Fit ms fs x → loopL sub fs deep n x l = .ok y → Fit ms fs y
 | 0, x, y, l, hx, h => by
  unfold loopL at h
  split at h
  · injection h with h; exact h ▸ hx
  · cases h
 | n + 1, x, y, l, hx, h => by
  unfold loopL at h
  split at h
  · injection h with h; exact h ▸ hx
  · split at h
    · cases h
    · rename_i hf
      exact Fit.loop hs n (Fit.field hs hx hf) h
theorem Fit.tree (ms : List SM) : ∀ (k : Nat) (r : ByteArray) (y : TT) (deep : Int) (t : List Int) (z : TT), Fit ms (fldsM ms r) y → treeL ms k r y deep t = .ok z → Fit ms (fldsM ms r) z
 | 0, r, y, deep, t, z, hy, h => Fit.loop (fun _ _ _ _ _ h => by cases h) _ hy h
 | k + 1, r, y, deep, t, z, hy, h => Fit.loop (fun r y t z hy h => Fit.tree ms k r y (deep + 1) t z hy h) _ hy h
set_option maxHeartbeats 8000000 in
theorem tree_r {w0 : World} {B r g : Nat} {AE : Option Addr} {cE : Nat} {es : List SE} {AM : Option Addr} {cM : Nat} {ms : List SM} {A : Option Addr} {c : Nat} {b : List Int} {deep : Int} {sub : ByteArray → TT → List Int → Except Int TT} (hcx : Cx w0 B AE cE es AM cM ms b) (hd : 1 ≤ deep ∧ deep ≤ 16) (hsub : deep < 16 → TreeC w0 B r g AE cE es AM cM ms A c b (deep + 1) sub) (hnz : ∀ r y t, NZ (sub r y t)) (hfs : ∀ r y t z, Fit ms (fldsM ms r) y → sub r y t = .ok z → Fit ms (fldsM ms r) z) :
    TreeC w0 B r g AE cE es AM cM ms A c b deep (fun name x l => loopL sub (fldsM ms name) deep l.length x l) := by
  intro w p v ends base m ok x u0 u1 name hb0 h hi hn hel hBb hbs hM hx hm hfit hix
  obtain ⟨A0, c0, A1, c1, rfl, rfl, _⟩ := K_of hM
  obtain ⟨k, mm, hk1, hk2⟩ : ∃ (k : Nat) (mm : SM), ixM ms name = (k : Int) ∧ ms[k]? = some mm := by
    rcases ixF_two (p := fun y : SM => y.f0.toList == name.toList) ms 0 with ⟨h1, _⟩ | ⟨k, x, h1, h2, _, _⟩
    · unfold ixM at hix; rw [h1] at hix; omega
    · exact ⟨k, x, by unfold ixM; rw [h1, Nat.zero_add], h2⟩
  have hkl := (List.getElem?_eq_some_iff.1 hk2).1
  have hmm : mm ∈ ms := List.mem_of_getElem? hk2
  have hfm : fldsM ms name = mm.f1 := by unfold fldsM; rw [hk1, Int.toNat_natCast, List.getD_eq_getElem?_getD, hk2]; rfl
  obtain ⟨ad, AF, cF, AB, cB, hAM, mc0, mc1, mc2, hFc, hF, hBc, hBr⟩ := at_T33 hcx.hM (k : Int) (by omega) (by omega)
  have hrd : rd_T33 ms (k : Int) = mm := by show ms.getD ((k : Int)).toNat _ = mm; rw [Int.toNat_natCast, List.getD_eq_getElem?_getD, hk2]; rfl
  rw [hrd] at mc0 mc1 mc2 hFc hF hBc hBr
  rw [Int.toNat_natCast] at mc0 mc1 mc2
  subst hAM
  rw [hfm] at hfit
  obtain ⟨T, hT⟩ : ∃ T, T = loopL sub mm.f1 deep (seg b p ends).length x (seg b p ends) := ⟨_, rfl⟩
  show Calls _ _ _ _ fun e w' => ∃ y0 y1 y v' p' ends' f', e = .returned (.agg #[y0, y1]) ∧ _ ∧ _ ∧ _ ∧ _ ∧ TreeP (loopL sub (fldsM ms name) deep (seg b p ends).length x (seg b p ends)) ends y p' f' ends'
  rw [hfm, ← hT]
  obtain ⟨wz, hwz⟩ : ∃ wz, wz = (w.alloc (.cells #[.slice A0 x.f0.length c0, .slice A1 x.f1.length c1] 41)).alloc (.cells #[.slice none 0 0, .slice none 0 0] 41) := ⟨_, rfl⟩
  have bz : Below w.heap.size w wz := by rw [hwz]; exact below_alloc (below_alloc (Below.refl _ _) _) _
  have hsz : wz.heap.size = w.heap.size + 2 := by rw [hwz]; simp only [World.size_alloc]
  have hb0' : wz.heap[w.heap.size]? = some (.cells #[.slice A0 x.f0.length c0, .slice A1 x.f1.length c1] 41 (0, 0)) := by rw [hwz]; exact blk_alloc (blk_new _ _) _
  have hb1' : wz.heap[w.heap.size + 1]? = some (.cells #[.slice none 0 0, .slice none 0 0] 41 (0, 0)) := by
    have q := blk_new (w.alloc (.cells #[.slice A0 x.f0.length c0, .slice A1 x.f1.length c1] 41)) (.cells #[.slice none 0 0, .slice none 0 0] 41)
    rw [World.size_alloc] at q
    rw [hwz]
    exact q
  have HB : Aside0 (B ≤ w.heap.size) := ⟨Nat.le_trans hBb hbs⟩
  have HZ := Aside0.mk (h.below bz)
  have KZ := Aside0.mk (Keeps.of_below (b := w.heap.size) bz HB.out (Nat.le_refl _))
  have BWZ := Aside0.mk (show Below B w0 wz from hb0.trans (bz.mono HB.out))
  have HTB := Aside0.mk (show TB wz base (fun k => ok k ∧ k < w.heap.size) w.heap.size x from ⟨_, _, hb0', Kd.M_below (k41.M_mono (fun k hk => ⟨⟨hk.1, hk.2.2.1⟩, by have := hk.2.2.1; omega⟩) (k41.M_bound hM)) bz, hbs⟩)
  have HCM := Aside0.mk (fun (W : World) (hb : Below B w0 W) => show W.cell? (ad.add (k * 3)) = some (.string mm.f0) ∧ W.cell? ⟨(ad.add (k * 3)).block, (ad.add (k * 3)).off + 1, none⟩ = some (.slice AF mm.f1.length cF) ∧ W.cell? ⟨(ad.add (k * 3)).block, (ad.add (k * 3)).off + 2, none⟩ = some (.slice AB mm.f2.length cB) from ⟨pw_cell_below (hcx.bel hb) mc0, pw_cell_below (hcx.bel hb) mc1, pw_cell_below (hcx.bel hb) mc2⟩)
  have HMS := Aside0.mk (fun (W : World) (hb : Below B w0 W) => M.find_Message.calls AE cE es (some ad) cM ms name (k : Int) W (hcx.E hb) hcx.hEc (hcx.M hb) hcx.hMc (by unfold M.find_Message.f; rw [← hk1]; rfl))
  have HNB := Aside0.mk (fun (W : World) (hb : Below B w0 W) (n : Int) => M.find_Number.calls mm.f0 AF cF mm.f1 AB cB mm.f2 n (atF mm.f1 n) W (Kd.C_below hF (hcx.bel hb)) hFc (Kd.C_below hBr (hcx.bel hb)) hBc rfl)
  have HFV := Aside0.mk (fun (W : World) (hb : Below B w0 W) => And.intro (Kd.C_below hF (hcx.bel hb)) (Kd.C_below hBr (hcx.bel hb)))
  have HSZ := Aside0.mk hsz
  have BZ := Aside0.mk bz
  have HWZ := Aside0.mk hwz
  have HBS := Aside0.mk hbs
  have HBB := Aside0.mk hBb
  have HQ1 := Aside0.mk hb1'
  have hkc : k < cM := by have := hcx.hMc; omega
  have hmc := HCM.out wz BWZ.out
  obtain ⟨mc0, mc1, mc2⟩ := hmc
  have r0 : wz.cell? ⟨r, 0, none⟩ = some (.slice AE es.length cE) := (blk_cell HZ.out.blk 0).trans rfl
  have r1 : wz.cell? ⟨r, 1, none⟩ = some (.slice (some ad) ms.length cM) := (blk_cell HZ.out.blk 1).trans rfl
  have hm5 := And.intro r0 (And.intro r1 (And.intro mc0 (And.intro mc1 mc2)))
  have HR1 := Aside0.mk (fun (W : World) (hb : Below wz.heap.size wz W) => show W.cell? ⟨r, 0, none⟩ = some (.slice AE es.length cE) ∧ W.cell? ⟨r, 1, none⟩ = some (.slice (some ad) ms.length cM) ∧ W.cell? (ad.add (k * 3)) = some (.string mm.f0) ∧ W.cell? ⟨(ad.add (k * 3)).block, (ad.add (k * 3)).off + 1, none⟩ = some (.slice AF mm.f1.length cF) ∧ W.cell? ⟨(ad.add (k * 3)).block, (ad.add (k * 3)).off + 2, none⟩ = some (.slice AB mm.f2.length cB) from ⟨pw_cell_below hb r0, pw_cell_below hb r1, pw_cell_below hb mc0, pw_cell_below hb mc1, pw_cell_below hb mc2⟩)
  have ci : decide ((k : Int) < (ms.length : Int)) = true := decide_eq_true (by omega)
  have p0 : (0 : Int) ≤ (k : Int) := by omega
  have p1 : (k : Int) < (ms.length : Int) := by omega
  have p2 : k < ms.length := hkl
  have BB := Aside0.mk (Below.refl wz.heap.size wz)
  have HI := Aside0.mk hi
  have HN := Aside0.mk hn
  have HX := Aside0.mk hx
  have HM1 := Aside0.mk hm
  have HFIT := Aside0.mk hfit
  have HT := Aside0.mk hT
  have HEL := Aside0.mk hel
  have HFS := Aside0.mk (show mm.f1.length ≤ 1000000000 from hcx.fl mm hmm)
  have HFW := Aside0.mk (fun f (hf : f ∈ mm.f1) => hcx.wf mm hmm f hf)
  have HSCH := Aside0.mk (fun f (hf : f ∈ mm.f1) (h15 : f.f2 = 15) => hcx.sch mm hmm f hf h15)
  have HCX := Aside0.mk hcx
  have HSUB := Aside0.mk hsub
  have HNZ := Aside0.mk hnz
  have HFT := Aside0.mk hfs
  have HFC := Aside0.mk hFc
  have HBC := Aside0.mk hBc
  have HD := Aside0.mk hd
  clear hwz bz hsz hb0' hb1' h hM hi hn hx hm hfit hT hix hel hBb hbs hk1 hk2 hfm hfs hrd hF hBr hmm hcx hsub hnz hd hb0 hFc hBc hkl hkc
  go_enter Tryd.func23, Tryd.ntmps23
  go_upto_region 1 with fail
  rw [← HWZ.out]
  go_step3
  go_upto_region 1 with fail
  go_cut [9] (fun s9 wx => ∃ q9, s9 = .pointer (some ⟨q9, 0, none⟩) ∧ Aside0 (wz.heap.size ≤ q9) ∧ Aside0 (wx.heap[q9]? = some (.cells #[.string mm.f0, .slice AF mm.f1.length cF, .slice AB mm.f2.length cB] 33 (0, 0))) ∧ Aside0 (Below wz.heap.size wz wx))
  case first =>
    go_region_held3 (fun w' => w'.cell? ⟨r, 0, none⟩ = some (.slice AE es.length cE) ∧ w'.cell? ⟨r, 1, none⟩ = some (.slice (some ad) ms.length cM) ∧ w'.cell? (ad.add (k * 3)) = some (.string mm.f0) ∧ w'.cell? ⟨(ad.add (k * 3)).block, (ad.add (k * 3)).off + 1, none⟩ = some (.slice AF mm.f1.length cF) ∧ w'.cell? ⟨(ad.add (k * 3)).block, (ad.add (k * 3)).off + 2, none⟩ = some (.slice AB mm.f2.length cB)) (first | exact hm5 | exact CM.out | exact HR1.out _ (by repeat (first | (with_reducible first | exact BB.out | apply below_alloc | apply pw_below_drewN | apply below_drew | refine below_set ?_ (Nat.le_refl _)))) | go_keep) (first
      | (go_at_call 22; refine (HMS.out _ (BWZ.out.trans ((show Below wz.heap.size wz _ by repeat (first | (with_reducible first | exact BB.out | apply below_alloc | apply pw_below_drewN | apply below_drew | refine below_set ?_ (Nat.le_refl _)))).mono (Nat.le_trans HB.out BZ.out.size)))).mono ?_; rintro e w2 ⟨rfl, b2⟩
         have BX : Below wz.heap.size wz w2 := below_step (by repeat (first | (with_reducible first | exact BB.out | apply below_alloc | apply pw_below_drewN | apply below_drew | refine below_set ?_ (Nat.le_refl _)))) b2
         obtain ⟨hc2, hf2⟩ := bcell b2
         have E2 := Aside0.mk BX.size
         have H12 := Aside0.mk b2
         try (have hz2 : wz.heap.size < w2.heap.size := by have hz2 := b2.size; simp at hz2; omega)
         clear b2
         have BB := Aside0.mk BX
         have CM := Aside0.mk (HR1.out _ BX))
      | fail)
    · go_wp2_with fail
      go_meet
      case rel => exact ⟨w2.heap.size, rfl, E2, ⟨blk_new _ _⟩, ⟨below_alloc BB.out _⟩⟩
    · go_wp2_with fail
      go_meet
      case rel =>
        have q0 : w2.heap[wz.heap.size]? = some (.cells #[.string ⟨#[]⟩, .slice none 0 0, .slice none 0 0] 33 (0, 0)) := (H12.out.block _ (by simp)).trans (blk_new _ _)
        exact ⟨wz.heap.size, rfl, ⟨Nat.le_refl _⟩, ⟨blk_put (blk_put (blk_put q0 0 _ rfl) 1 _ rfl) 2 _ rfl⟩, ⟨((BB.out.setCell (Nat.le_refl _) _).setCell (Nat.le_refl _) _).setCell (Nat.le_refl _) _⟩⟩
  case rest =>
    obtain ⟨q9, rfl, HQ9, HM9, BX⟩ := hcut
    obtain ⟨wA, hwA⟩ : ∃ wA, wA = wc := ⟨_, rfl⟩
    subst hwA
    have KX := Aside0.mk (Keeps.of_below (b := wz.heap.size) BX.out (Nat.le_trans HB.out BZ.out.size) (Nat.le_refl _))
    have SA := Aside0.mk (show wz.heap.size < wA.heap.size by have := blk_lt HM9.out; have := HQ9.out; omega)
    have HTA := Aside0.mk (show TB wA base (fun k => (ok k ∧ k < w.heap.size) ∨ wA.heap.size ≤ k) w.heap.size x by
      obtain ⟨a0, a1, h1, h2, h3⟩ := HTB.out.keeps KX.out
      exact ⟨a0, a1, h1, k41.M_mono (fun k hk => ⟨.inl hk.1, hk.2⟩) h2, h3⟩)
    have HRA := Aside0.mk (HZ.out.below BX.out)
    have HQA := Aside0.mk (blk_below HQ1.out BX.out)
    have KA := Aside0.mk (show KeepsP B (fun k => k < w.heap.size ∧ ¬ ok k) w wA from (KZ.out.trans KX.out BZ.out.size).p (fun k hk => hk.1))
    have BWA := Aside0.mk (show Below B w0 wA from BWZ.out.trans KX.out.bel)
    have HST := Aside0.mk (show StP ms sub mm.f1 deep b ends T (seg b p ends).length m (seg b p ends).length x p 0 ends from .inl ⟨rfl, rfl, HI.out, Nat.le_refl _, Nat.le_refl _, ⟨_, Nat.le_refl _, HT.out⟩, HX.out.mono (Nat.le_add_right _ _), HFIT.out⟩)
    clear r0 r1 mc0 mc1 mc2 hm5 HR1 HMS BB
    go_wp2_with (first | go_step3)
    go_loopg [12] ((seg b p ends).length + 1) (fun kq v12 wr => ∃ (x' : TT) (p1 : Int) (v1 : Value) (e1 : List Int) (f1 : Int), Aside0 (TB wr base (fun k => (ok k ∧ k < w.heap.size) ∨ wA.heap.size ≤ k) w.heap.size x') ∧ Aside0 (RdI wr B r g (.slice AE es.length cE) (.slice (some ad) ms.length cM) A c b p1 v1 e1 f1) ∧ Aside0 (KeepsP B (fun k => k < wA.heap.size ∧ k ≠ w.heap.size ∧ ¬ (ok k ∧ k < w.heap.size)) wA wr) ∧ Aside0 (StP ms sub mm.f1 deep b ends T (seg b p ends).length m kq x' p1 f1 e1))
    case atStart => exact ⟨x, p, v, ends, 0, HTA, HRA, ⟨KeepsP.refl _ _ _⟩, ⟨HST.out.imp (fun h => ⟨h.1, h.2.1, h.2.2.1, Nat.le_succ_of_le h.2.2.2.1, h.2.2.2.2⟩) (fun h => h)⟩⟩
    case round =>
      obtain ⟨x', p1, v1, e1, f1, HTR, HRR, HKR, HSR⟩ := hrel
      have SR := Aside0.mk (show B ≤ wr.heap.size from Nat.le_trans (Nat.le_trans HB.out (Nat.le_trans BZ.out.size (Nat.le_of_lt SA.out))) HKR.out.size)
      rcases HSR.out with ⟨rfl, rfl, hi1, hln, hlL, ⟨n', hn', hTn⟩, hlim, hfit⟩ | ⟨e, hbad, hTe, hlim⟩
      · have hg : gs e1 0 = 0 := gs_alive HN.out
        have HG := Aside0.mk (going_r HRR.out SR.out)
        rw [hg] at HG
        have HGA := Aside0.mk hg
        have hmo := more_L hi1 HN.out
        by_cases hl : seg b p1 e1 = []
        · rw [decide_eq_true hl] at hmo
          have HMO := Aside0.mk hmo
          rw [hl] at hTn
          have HTE := Aside0.mk (hTn.trans (loop_end n' x'))
          have HEND := Aside0.mk (end_L hi1 hl)
          have HLIM := Aside0.mk (hlim.mono (show m + ((seg b p e1).length - (seg b p1 e1).length) ≤ m + (seg b p e1).length by omega))
          clear hg hmo hTn hlim hfit hi1 hl hln hlL hn'
          go_wp2_with (first
            | (go_at_call 38; refine HG.out.mono ?_; rintro e' w4 ⟨rfl, h4, k4⟩
               have H4 := Aside0.mk h4
               have K4 := Aside0.mk k4
               have c4 := h4.c2
               clear HG h4 k4)
            | (go_at_call 27; refine (more_c H4.out.cur).mono ?_; rw [HMO.out]; rintro e' w5 ⟨rfl, hd5⟩
               have H5 := Aside0.mk (H4.out.drawn hd5)
               have K5 := Aside0.mk (K4.out.trans (Keeps.of_below (b := w4.heap.size) (below_of_drawn hd5) (Nat.le_trans SR.out K4.out.size) (Nat.le_refl _)) K4.out.size)
               have c5 := H5.out.c2
               clear hd5)
            | (go_at_call 38; refine (going_r H5.out (Nat.le_trans SR.out K5.out.size)).mono ?_; rw [HGA.out]; rintro e' w6 ⟨rfl, h6, k6⟩
               have H6 := Aside0.mk h6
               have K6 := Aside0.mk (K5.out.trans k6 K5.out.size)
               obtain ⟨a0, a1, t1, t2, t3⟩ := HTR.out.keeps K6.out
               obtain ⟨D0, d0, D1, d1, rfl, rfl, _⟩ := K_of t2
               have M6 := Aside0.mk t2
               have x0 := (blk_cell t1 0).trans rfl
               have x1 := (blk_cell t1 1).trans rfl
               have qr := HKR.out.kp _ _ _ ⟨blk_lt HQA.out, by omega, fun h => by have := h.2; omega⟩ HQA.out (by decide)
               have qr5 := K6.out.kp _ _ _ (blk_lt qr) qr (by decide)
               have Q6 := Aside0.mk qr5
               have z0 := (blk_cell qr5 0).trans rfl
               have z1 := (blk_cell qr5 1).trans rfl
               have fz0 := blk_frozen qr5 0
               have fz1 := blk_frozen qr5 1
               clear h6 k6 t1 t2 t3 qr qr5))
          rw [Exit.noGoto_ret]
          have hsz := HSZ.out
          have hsa := SA.out
          have hB := HB.out
          have hkr := HKR.out.size
          have hk9 : KeepsP B (fun k => k < w.heap.size ∧ ¬ ok k) w w6 := (KA.out.trans HKR.out (fun k hk => ⟨by omega, by omega, fun h => hk.2 h.1⟩)).trans (K6.out.p (P := fun k => k < w.heap.size) (fun k hk => by omega)) (fun k hk => hk.1)
          have hfin := fin2 (q := w.heap.size + 1) hk9 H6.out Q6.out (by omega) (fun k hk => by omega) (k41.M_mono (ok' := fun k => (ok k ∧ k < w.heap.size) ∨ wA.heap.size ≤ k) (fun k hk => hk.1) M6.out) (fun k hk => by omega)
          refine bodyPost_ret (results_cell_row rfl _ _ (w.heap.size + 1) 41 _ _ _ rfl (blk_put (blk_put Q6.out 0 _ rfl) 1 _ rfl) Tryd.underlying41 rfl (by kernel_rfl)) rfl ?_
          exact ⟨_, _, x', v1, p1, e1, 0, rfl, k41.M_mono (fun k hk => hk.elim (fun h => .inl h.1) (fun h => .inr (by omega))) hfin.1, hfin.2.1, hfin.2.2, HLIM.out, by rw [HTE.out]; exact ⟨rfl, HEND.out, rfl, rfl⟩⟩
        · rw [decide_eq_false hl] at hmo
          have HMO := Aside0.mk hmo
          have hm9r := HKR.out.kp _ _ _ ⟨blk_lt HM9.out, by have := HQ9.out; have := HSZ.out; omega, fun h => by have := h.2; have := HQ9.out; have := HSZ.out; omega⟩ HM9.out (by decide)
          have HMR := Aside0.mk hm9r
          have BWR := Aside0.mk (show Below B w0 wr from BWA.out.trans HKR.out.bel)
          have HI1 := Aside0.mk hi1
          have htg := tag_L hi1 HCX.out.byt
          have hsb := seg_bytes (p := p1) (ends := e1) HCX.out.byt
          cases hta : tagL (seg b p1 e1) with
          | none =>
            rw [hta] at htg
            have HTG := Aside0.mk (show tg b p1 e1 = ((0, 0), 0, []) from htg)
            have HTE := Aside0.mk (hTn.trans (loop_err hl hn' (show fieldL sub mm.f1 deep x' (seg b p1 e1) = .error 8 by unfold fieldL; rw [hta])))
            have HLIM := Aside0.mk (hlim.mono (show m + ((seg b p e1).length - (seg b p1 e1).length) ≤ m + (seg b p e1).length by omega))
            have e8 : ((8 : Int) == 0) = false := by decide
            clear hg hmo hTn hlim hfit hi1 hl hln hlL hn' hm9r htg hta hsb
            go_wp2_with (first
              | (go_at_call 38; refine HG.out.mono ?_; rintro e' w4 ⟨rfl, h4, k4⟩
                 have H4 := Aside0.mk h4
                 have K4 := Aside0.mk k4
                 have c4 := h4.c2
                 clear HG h4 k4)
              | (go_at_call 27; refine (more_c H4.out.cur).mono ?_; rw [HMO.out]; rintro e' w5 ⟨rfl, hd5⟩
                 have H5 := Aside0.mk (H4.out.drawn hd5)
                 have K5 := Aside0.mk (K4.out.trans (Keeps.of_below (b := w4.heap.size) (below_of_drawn hd5) (Nat.le_trans SR.out K4.out.size) (Nat.le_refl _)) K4.out.size)
                 have c5 := H5.out.c2
                 clear hd5)
              | (go_at_call 39; refine (Tag_c H5.out.cur HI1.out (Nat.le_trans SR.out K5.out.size) HCX.out.byt (Nat.le_trans HCX.out.bl (by decide))).mono ?_; rw [HTG.out]; rintro e' w6 ⟨rfl, hm6⟩
                 obtain ⟨v6, h6, k6⟩ := H5.out.moved (Nat.le_trans SR.out K5.out.size) hm6
                 have H6 := Aside0.mk h6
                 have K6 := Aside0.mk (K5.out.trans k6 K5.out.size)
                 have hm9 := K6.out.kp _ _ _ (blk_lt HMR.out) HMR.out (by decide)
                 have MB6 := Aside0.mk hm9
                 have m0 := (blk_cell hm9 0).trans rfl
                 have m1 := (blk_cell hm9 1).trans rfl
                 have m2 := (blk_cell hm9 2).trans rfl
                 clear hm6 h6 k6 hm9)
              | (go_at_call 40; refine (HNB.out _ (BWR.out.trans K6.out.bel) 0).mono ?_; rintro e' w7 ⟨rfl, b7⟩
                 have H7 := Aside0.mk (H6.out.below b7)
                 have K7 := Aside0.mk (K6.out.trans (Keeps.of_below (b := w6.heap.size) b7 (Nat.le_trans SR.out K6.out.size) (Nat.le_refl _)) K6.out.size)
                 have MB7 := Aside0.mk (blk_below MB6.out b7)
                 clear b7)
              | (go_at_call 38; refine (going_r H7.out (Nat.le_trans SR.out K7.out.size)).mono ?_; rw [show gs ([] : List Int) 0 = 8 from rfl]; rintro e' w8 ⟨rfl, h8, k8⟩
                 have H8 := Aside0.mk h8
                 have K8 := Aside0.mk (K7.out.trans k8 K7.out.size)
                 clear H7 h8 k8)
              | (go_at_call 38; refine (going_r H8.out (Nat.le_trans SR.out K8.out.size)).mono ?_; rw [show gs ([] : List Int) 8 = 8 from rfl]; rintro e' w9 ⟨rfl, h9, k9⟩
                 have H9 := Aside0.mk h9
                 have K9 := Aside0.mk (K8.out.trans k9 K8.out.size)
                 obtain ⟨a0, a1, t1, t2, t3⟩ := HTR.out.keeps K9.out
                 obtain ⟨D0, d0, D1, d1, rfl, rfl, _⟩ := K_of t2
                 have M9 := Aside0.mk t2
                 have x0 := (blk_cell t1 0).trans rfl
                 have x1 := (blk_cell t1 1).trans rfl
                 have qr := HKR.out.kp _ _ _ ⟨blk_lt HQA.out, by omega, fun h => by have := h.2; omega⟩ HQA.out (by decide)
                 have qr5 := K9.out.kp _ _ _ (blk_lt qr) qr (by decide)
                 have Q9 := Aside0.mk qr5
                 have z0 := (blk_cell qr5 0).trans rfl
                 have z1 := (blk_cell qr5 1).trans rfl
                 have fz0 := blk_frozen qr5 0
                 have fz1 := blk_frozen qr5 1
                 clear h9 k9 t1 t2 t3 qr qr5))
            rw [Exit.noGoto_ret]
            have hsz := HSZ.out
            have hsa := SA.out
            have hB := HB.out
            have hkr := HKR.out.size
            have hk9 : KeepsP B (fun k => k < w.heap.size ∧ ¬ ok k) w w9 := (KA.out.trans HKR.out (fun k hk => ⟨by omega, by omega, fun h => hk.2 h.1⟩)).trans (K9.out.p (P := fun k => k < w.heap.size) (fun k hk => by omega)) (fun k hk => hk.1)
            have hfin := fin2 (q := w.heap.size + 1) hk9 H9.out Q9.out (by omega) (fun k hk => by omega) (k41.M_mono (ok' := fun k => (ok k ∧ k < w.heap.size) ∨ wA.heap.size ≤ k) (fun k hk => hk.1) M9.out) (fun k hk => by omega)
            refine bodyPost_ret (results_cell_row rfl _ _ (w.heap.size + 1) 41 _ _ _ rfl (blk_put (blk_put Q9.out 0 _ rfl) 1 _ rfl) Tryd.underlying41 rfl (by kernel_rfl)) rfl ?_
            exact ⟨_, _, x', v6, 0, [], 8, rfl, k41.M_mono (fun k hk => hk.elim (fun h => .inl h.1) (fun h => .inr (by omega))) hfin.1, hfin.2.1, hfin.2.2, HLIM.out, by rw [HTE.out]; exact rfl⟩
          | some q =>
            obtain ⟨⟨n, wire⟩, l1⟩ := q
            rw [hta] at htg
            obtain ⟨p2, htg, hi2, hs2, hl2⟩ := htg
            have HTG := Aside0.mk htg
            have hwf := tag_wf hsb hta
            by_cases hat : atF mm.f1 n < 0
            · have ea : decide (atF mm.f1 n < 0) = true := decide_eq_true hat
              have hfl : fieldL sub mm.f1 deep x' (seg b p1 e1) = match rawL n wire l1 with | none => .error 8 | some (r, l2) => .ok (⟨x'.f0, x'.f1 ++ [r]⟩, l2) := by unfold fieldL; rw [hta]; exact if_pos hat
              have hraw := raw_L hi2 HCX.out.byt n wire
              rw [hs2] at hraw
              have hrl := rawD_lim (p := p2) (ends := e1) HCX.out.byt HCX.out.bl hwf.1 hwf.2
              have HRW := Aside0.mk hraw
              have HFL := Aside0.mk hfl
              have HLN := Aside0.mk (And.intro hl (And.intro hln (And.intro hlL hl2)))
              have HTN := Aside0.mk (And.intro hn' hTn)
              have HLIM := Aside0.mk hlim
              have HFI := Aside0.mk hfit
              have HRL := Aside0.mk hrl
              have HI2 := Aside0.mk hi2
              have HEA := Aside0.mk hat
              have HLR := Aside0.mk hlim.restlen
              clear hg hmo hTn hlim hfit hi1 hl hln hlL hn' hm9r htg hta hsb hi2 hs2 hl2 hwf hraw hrl hfl
              go_wp2_with (first
                | (go_at_call 38; refine HG.out.mono ?_; rintro e' w4 ⟨rfl, h4, k4⟩
                   have H4 := Aside0.mk h4
                   have K4 := Aside0.mk k4
                   have c4 := h4.c2
                   clear HG h4 k4)
                | (go_at_call 27; refine (more_c H4.out.cur).mono ?_; rw [HMO.out]; rintro e' w5 ⟨rfl, hd5⟩
                   have H5 := Aside0.mk (H4.out.drawn hd5)
                   have K5 := Aside0.mk (K4.out.trans (Keeps.of_below (b := w4.heap.size) (below_of_drawn hd5) (Nat.le_trans SR.out K4.out.size) (Nat.le_refl _)) K4.out.size)
                   have c5 := H5.out.c2
                   clear hd5)
                | (go_at_call 39; refine (Tag_c H5.out.cur HI1.out (Nat.le_trans SR.out K5.out.size) HCX.out.byt (Nat.le_trans HCX.out.bl (by decide))).mono ?_; rw [HTG.out]; rintro e' w6 ⟨rfl, hm6⟩
                   obtain ⟨v6, h6, k6⟩ := H5.out.moved (Nat.le_trans SR.out K5.out.size) hm6
                   have H6 := Aside0.mk h6
                   have K6 := Aside0.mk (K5.out.trans k6 K5.out.size)
                   have hm9 := K6.out.kp _ _ _ (blk_lt HMR.out) HMR.out (by decide)
                   have MB6 := Aside0.mk hm9
                   have m0 := (blk_cell hm9 0).trans rfl
                   have m1 := (blk_cell hm9 1).trans rfl
                   have m2 := (blk_cell hm9 2).trans rfl
                   clear hm6 h6 k6 hm9)
                | (go_at_call 40; refine (HNB.out _ (BWR.out.trans K6.out.bel) n).mono ?_; rintro e' w7 ⟨rfl, b7⟩
                   have H7 := Aside0.mk (H6.out.below b7)
                   have K7 := Aside0.mk (K6.out.trans (Keeps.of_below (b := w6.heap.size) b7 (Nat.le_trans SR.out K6.out.size) (Nat.le_refl _)) K6.out.size)
                   have MB7 := Aside0.mk (blk_below MB6.out b7)
                   clear b7)
                | (go_at_call 38; refine (going_r H7.out (Nat.le_trans SR.out K7.out.size)).mono ?_; rw [HGA.out]; rintro e' w8 ⟨rfl, h8, k8⟩
                   have H8 := Aside0.mk h8
                   have K8 := Aside0.mk (K7.out.trans k8 K7.out.size)
                   clear H7 h8 k8)
                | (go_at_call 41; refine (unknown_r H8.out HI2.out (Nat.le_trans SR.out K8.out.size) HCX.out.byt (Nat.le_trans HCX.out.bl (by decide)) (fun k hk => .inr (Nat.le_trans (Nat.le_trans HKR.out.size K8.out.size) hk)) (HTR.out.keeps K8.out) HBB.out (by have := HLR.out; have := HM1.out; omega) n wire).mono ?_; rintro e' w9 ⟨rfl, v9, h9, t9, k9⟩
                   have H9 := Aside0.mk h9
                   have T9 := Aside0.mk t9
                   have K9 := Aside0.mk k9
                   clear h9 t9 k9))
              go_roundg (gk - 1)
              case measure => have := HLN.out.1; have := List.length_pos_iff.2 HLN.out.1; have := HLN.out.2.1; omega
              case rel =>
                have hr9 := HKR.out.size
                have hk8 := K8.out.size
                refine ⟨_, _, v9, _, 0, T9, H9, ⟨(HKR.out.trans (K8.out.p (P := fun k => k < wA.heap.size) (fun k hk => by omega)) (fun k hk => hk.1)).trans K9.out (fun k hk => ⟨by omega, hk.2.1, fun h => h.elim hk.2.2 (fun h => by omega)⟩)⟩, ⟨?_⟩⟩
                have hll := HLN.out
                have hps := List.length_pos_iff.2 hll.1
                have hlim2 := HLIM.out.rest HRL.out
                have hfl := HFL.out
                have hraw := HRW.out
                cases hq : rawL n wire l1 with
                | none =>
                  rw [hq] at hraw hfl
                  have hraw : (rawD n wire b p2 e1).2 = (0, []) := hraw
                  refine .inr ⟨8, .inr ⟨rfl, by rw [hraw], rfl⟩, HTN.out.2.trans (loop_err hll.1 HTN.out.1 hfl), hlim2.mono (by omega)⟩
                | some q =>
                  obtain ⟨r3, l3⟩ := q
                  rw [hq] at hraw hfl
                  obtain ⟨p3, hr3, hi3, hs3, hl3⟩ := hraw
                  have hfl : fieldL sub mm.f1 deep x' (seg b p1 e1) = .ok (⟨x'.f0, x'.f1 ++ [r3]⟩, l3) := hfl
                  obtain ⟨n3, hn3, hT3⟩ := loop_ok hll.1 HTN.out.1 hfl (by omega)
                  rw [hr3] at hlim2 ⊢
                  simp only at hlim2 ⊢
                  refine .inl ⟨rfl, rfl, hi3, by rw [hs3]; omega, by rw [hs3]; omega, ⟨n3, by rw [hs3]; exact hn3, by rw [hs3]; exact HTN.out.2.trans hT3⟩, hlim2.mono (by rw [hs3]; omega), HFI.out.rest _⟩
            · have ea : decide (atF mm.f1 n < 0) = false := decide_eq_false hat
              have hin := at_in (fs := mm.f1) (n := n) (by omega)
              obtain ⟨hfin, hfn, j, hj, hfj⟩ := hin
              obtain ⟨F, hF⟩ : ∃ F, F = fldF mm.f1 n := ⟨_, rfl⟩
              rw [← hF] at hfin hfn hfj
              have hjl := (List.getElem?_eq_some_iff.1 hfj).1
              have hfl : fieldL sub mm.f1 deep x' (seg b p1 e1) = knownL sub mm.f1 F wire deep x' l1 := by unfold fieldL; rw [hta, hF]; exact if_neg hat
              obtain ⟨ad2, hAF, _⟩ := at_T23 (HFV.out wr BWR.out).1 (j : Int) (by omega) (by omega)
              subst hAF
              have HF7 : Aside0 (∀ W, Below B w0 W → W.cell? (ad2.add (j * 7)) = some (.string F.f0) ∧ W.cell? ⟨(ad2.add (j * 7)).block, (ad2.add (j * 7)).off + 1, none⟩ = some (.int .i64 F.f1) ∧ W.cell? ⟨(ad2.add (j * 7)).block, (ad2.add (j * 7)).off + 2, none⟩ = some (.int .i64 F.f2) ∧ W.cell? ⟨(ad2.add (j * 7)).block, (ad2.add (j * 7)).off + 3, none⟩ = some (.string F.f3) ∧ W.cell? ⟨(ad2.add (j * 7)).block, (ad2.add (j * 7)).off + 4, none⟩ = some (.bool F.f4) ∧ W.cell? ⟨(ad2.add (j * 7)).block, (ad2.add (j * 7)).off + 5, none⟩ = some (.bool F.f5) ∧ W.cell? ⟨(ad2.add (j * 7)).block, (ad2.add (j * 7)).off + 6, none⟩ = some (.string F.f6)) := ⟨fun W hb => by
                obtain ⟨ad3, he, c0, c1, c2, c3, c4, c5, c6⟩ := at_T23 (HFV.out W hb).1 (j : Int) (by omega) (by omega)
                injection he with he
                subst he
                have hr7 : rd_T23 mm.f1 (j : Int) = F := by show mm.f1.getD ((j : Int)).toNat _ = F; rw [Int.toNat_natCast, List.getD_eq_getElem?_getD, hfj]; rfl
                rw [hr7] at c0 c1 c2 c3 c4 c5 c6
                exact ⟨c0, c1, c2, c3, c4, c5, c6⟩⟩
              have HJ := Aside0.mk hj
              have HKN := Aside0.mk (fun (W W0 : World) (v6 : Value) (hh : RdI W0 B r g (.slice AE es.length cE) (.slice (some ad) ms.length cM) A c b p2 v6 e1 0) (hb : Below B w0 W0) (hs : B ≤ W0.heap.size) (hbs : base ≤ W0.heap.size) (hW : Below W0.heap.size W0 W) (a0 a1 : Value) (hM : k41.M W0 base (fun k => ((ok k ∧ k < w.heap.size) ∨ wA.heap.size ≤ k) ∧ k ≠ w.heap.size) x' [a0, a1]) => known_r (wire := wire) (mn := mm.f0) HCX.out HD.out HSUB.out HNZ.out (f := F) (by rw [hfn, hF]) (by rw [hfn]; omega) hfin (hb.trans (hW.mono hs)) (hh.below hW) hi2 HN.out HEL.out HBB.out (Nat.le_trans hbs hW.size) (Kd.M_below hM hW) hlim (by have := HM1.out; rw [hs2]; omega) hfit (fun h15 => HSCH.out F hfin h15) (HFV.out W (hb.trans (hW.mono hs))).1 HFC.out (HFV.out W (hb.trans (hW.mono hs))).2 HBC.out HFS.out HFW.out)
              rw [hs2] at HKN
              have HFL := Aside0.mk hfl
              have HLN := Aside0.mk (And.intro hl (And.intro hln (And.intro hlL hl2)))
              have HTN := Aside0.mk (And.intro hn' hTn)
              have HFI := Aside0.mk hfit
              have HS2 := Aside0.mk hs2
              have p0 : (0 : Int) ≤ (j : Int) := by omega
              have p1' : (j : Int) < (mm.f1.length : Int) := by omega
              have p2' : decide ((j : Int) < (mm.f1.length : Int)) = true := decide_eq_true p1'
              have p3' : decide ((j : Int) < 0) = false := decide_eq_false (by omega)
              have p4' : ((j : Int) < 0) = False := eq_false (by omega)
              clear hg hmo hTn hlim hfit hi1 hl hln hlL hn' hm9r htg hta hsb hi2 hs2 hl2 hwf hfl hfin hfn hfj hF hj hjl ea hat
              go_upto_region 5 with (first
                | (go_at_call 38; refine HG.out.mono ?_; rintro e' w4 ⟨rfl, h4, k4⟩
                   have H4 := Aside0.mk h4
                   have K4 := Aside0.mk k4
                   have c4 := h4.c2
                   clear HG h4 k4)
                | (go_at_call 27; refine (more_c H4.out.cur).mono ?_; rw [HMO.out]; rintro e' w5 ⟨rfl, hd5⟩
                   have H5 := Aside0.mk (H4.out.drawn hd5)
                   have K5 := Aside0.mk (K4.out.trans (Keeps.of_below (b := w4.heap.size) (below_of_drawn hd5) (Nat.le_trans SR.out K4.out.size) (Nat.le_refl _)) K4.out.size)
                   have c5 := H5.out.c2
                   clear hd5)
                | (go_at_call 39; refine (Tag_c H5.out.cur HI1.out (Nat.le_trans SR.out K5.out.size) HCX.out.byt (Nat.le_trans HCX.out.bl (by decide))).mono ?_; rw [HTG.out]; rintro e' w6 ⟨rfl, hm6⟩
                   obtain ⟨v6, h6, k6⟩ := H5.out.moved (Nat.le_trans SR.out K5.out.size) hm6
                   have H6 := Aside0.mk h6
                   have K6 := Aside0.mk (K5.out.trans k6 K5.out.size)
                   have hm9 := K6.out.kp _ _ _ (blk_lt HMR.out) HMR.out (by decide)
                   have MB6 := Aside0.mk hm9
                   have m0 := (blk_cell hm9 0).trans rfl
                   have m1 := (blk_cell hm9 1).trans rfl
                   have m2 := (blk_cell hm9 2).trans rfl
                   clear hm6 h6 k6 hm9)
                | (go_at_call 40; refine (HNB.out _ (BWR.out.trans K6.out.bel) n).mono ?_; rw [HJ.out]; rintro e' w7 ⟨rfl, b7⟩
                   have H7 := Aside0.mk (H6.out.below b7)
                   have K7 := Aside0.mk (K6.out.trans (Keeps.of_below (b := w6.heap.size) b7 (Nat.le_trans SR.out K6.out.size) (Nat.le_refl _)) K6.out.size)
                   have MB7 := Aside0.mk (blk_below MB6.out b7)
                   clear b7 m0 m1 m2)
                | (go_at_call 38; refine (going_r H7.out (Nat.le_trans SR.out K7.out.size)).mono ?_; rw [HGA.out]; rintro e' w8 ⟨rfl, h8, k8⟩
                   have H8 := Aside0.mk h8
                   have K8 := Aside0.mk (K7.out.trans k8 K7.out.size)
                   have hm9 := k8.kp _ _ _ (blk_lt MB7.out) MB7.out (by decide)
                   have MB8 := Aside0.mk hm9
                   have m0 := (blk_cell hm9 0).trans rfl
                   have m1 := (blk_cell hm9 1).trans rfl
                   have m2 := (blk_cell hm9 2).trans rfl
                   have hbw := BWR.out.trans K8.out.bel
                   obtain ⟨f0, f1, f2, f3, f4, f5, f6⟩ := HF7.out w8 hbw
                   have BW8 := Aside0.mk hbw
                   obtain ⟨a0, a1, t1, t2, t3⟩ := HTR.out.keeps K8.out
                   obtain ⟨D0, d0, D1, d1, rfl, rfl, _⟩ := K_of t2
                   have M8 := Aside0.mk t2
                   have T8 := Aside0.mk t1
                   have x0 := (blk_cell t1 0).trans rfl
                   have x1 := (blk_cell t1 1).trans rfl
                   clear H7 h8 k8 hm9 hbw t1 t2 t3))
              refine start_ (n := 12) (S := fun w' => w'.cell? ⟨w.heap.size, 0, none⟩ = some (.slice D0 x'.f0.length d0) ∧ w'.cell? ⟨w.heap.size, 1, none⟩ = some (.slice D1 x'.f1.length d1) ∧ w'.cell? ⟨q9, 0, none⟩ = some (.string mm.f0) ∧ w'.cell? ⟨q9, 1, none⟩ = some (.slice (some ad2) mm.f1.length cF) ∧ w'.cell? ⟨q9, 2, none⟩ = some (.slice AB mm.f2.length cB) ∧ w'.cell? (ad2.add (j * 7)) = some (.string F.f0) ∧ w'.cell? ⟨(ad2.add (j * 7)).block, (ad2.add (j * 7)).off + 1, none⟩ = some (.int .i64 F.f1) ∧ w'.cell? ⟨(ad2.add (j * 7)).block, (ad2.add (j * 7)).off + 2, none⟩ = some (.int .i64 F.f2) ∧ w'.cell? ⟨(ad2.add (j * 7)).block, (ad2.add (j * 7)).off + 3, none⟩ = some (.string F.f3) ∧ w'.cell? ⟨(ad2.add (j * 7)).block, (ad2.add (j * 7)).off + 4, none⟩ = some (.bool F.f4) ∧ w'.cell? ⟨(ad2.add (j * 7)).block, (ad2.add (j * 7)).off + 5, none⟩ = some (.bool F.f5) ∧ w'.cell? ⟨(ad2.add (j * 7)).block, (ad2.add (j * 7)).off + 6, none⟩ = some (.string F.f6)) (ds := [11]) #[false, false, false, false, false, false, false, false, false, false, false, false] (by kernel_rfl) rfl rfl ⟨x0, x1, m0, m1, m2, f0, f1, f2, f3, f4, f5, f6⟩ (fun hHeld => ?_)
              refine pure_ (i := 0) (N := some 46) (v := ?_) (a' := ?_) #[true, false, false, false, false, false, false, false, false, false, false, false] rfl rfl (by kernel_rfl) (fun _ _ _ h => h) (Or.inl ⟨by rfl, ?_⟩) ?_ ?_
              rotate_left
              · intro w'
                go_simp
                with_reducible rfl
              rotate_left
              · simp only [zs]
                rfl
              refine pure_ (i := 3) (N := some 49) (v := ?_) (a' := ?_) #[true, false, false, true, false, false, false, false, false, false, false, false] rfl rfl (by kernel_rfl) (fun _ _ _ h => h) (Or.inl ⟨by rfl, ?_⟩) ?_ ?_
              rotate_left
              · intro w'
                go_simp
                with_reducible rfl
              rotate_left
              · simp only [zs]
                rfl
              refine pure_ (i := 5) (N := some 51) (v := ?_) (a' := ?_) #[true, false, false, true, false, true, false, false, false, false, false, false] rfl rfl (by kernel_rfl) (fun _ _ _ h => h) (Or.inl ⟨by rfl, ?_⟩) ?_ ?_
              rotate_left
              · intro w'
                go_simp
                with_reducible rfl
              rotate_left
              · simp only [zs]
                rfl
              refine pure_ (i := 8) (N := some 54) (v := ?_) (a' := ?_) #[true, false, false, true, false, true, false, false, true, false, false, false] rfl rfl (by kernel_rfl) (fun _ _ _ h => h) (Or.inl ⟨by rfl, ?_⟩) ?_ ?_
              rotate_left
              · intro w'
                go_simp
                with_reducible rfl
              rotate_left
              · simp only [zs]
                rfl
              refine pure_ (i := 9) (N := some 55) (v := ?_) (a' := ?_) #[true, false, false, true, false, true, false, false, true, true, false, false] rfl rfl (by kernel_rfl) (fun _ _ _ h => h) (Or.inl ⟨by rfl, ?_⟩) ?_ ?_
              rotate_left
              · intro w'
                go_simp
                with_reducible rfl
              rotate_left
              · simp only [zs]
                rfl
              refine take_ (i := 1) (N := some 47) (v := ?_) (a' := ?_) #[true, true, false, true, false, true, false, false, true, true, false, false] rfl rfl (by kernel_rfl) (fun _ _ _ h => h) (Or.inl ⟨by rfl, ?_⟩) hHeld ?_ ?_
              rotate_left
              · rintro w' ⟨s0, s1, s2, s3, s4, s5, s6, s7, s8, s9, s10, s11⟩
                go_simp
                with_reducible rfl
              rotate_left
              · simp only [zs]
                rfl
              refine take_ (i := 2) (N := some 48) (v := ?_) (a' := ?_) #[true, true, true, true, false, true, false, false, true, true, false, false] rfl rfl (by kernel_rfl) (fun _ _ _ h => h) (Or.inl ⟨by rfl, ?_⟩) hHeld ?_ ?_
              rotate_left
              · rintro w' ⟨s0, s1, s2, s3, s4, s5, s6, s7, s8, s9, s10, s11⟩
                go_simp
                with_reducible rfl
              rotate_left
              · simp only [zs]
                rfl
              refine take_ (i := 4) (N := some 50) (v := ?_) (a' := ?_) #[true, true, true, true, true, true, false, false, true, true, false, false] rfl rfl (by kernel_rfl) (fun _ _ _ h => h) (Or.inl ⟨by rfl, ?_⟩) hHeld ?_ ?_
              rotate_left
              · rintro w' ⟨s0, s1, s2, s3, s4, s5, s6, s7, s8, s9, s10, s11⟩
                go_simp
                with_reducible rfl
              rotate_left
              · simp only [zs]
                rfl
              refine pure_ (i := 6) (N := some 52) (v := ?_) (a' := ?_) #[true, true, true, true, true, true, true, false, true, true, false, false] rfl rfl (by kernel_rfl) (fun _ _ _ h => h) (Or.inl ⟨by rfl, ?_⟩) ?_ ?_
              rotate_left
              · intro w'
                go_simp
                with_reducible rfl
              rotate_left
              · simp only [zs]
                rfl
              refine take_ (i := 7) (N := some 53) (v := ?_) (a' := ?_) #[true, true, true, true, true, true, true, true, true, true, false, false] rfl rfl (by kernel_rfl) (fun _ _ _ h => h) (Or.inl ⟨by rfl, ?_⟩) hHeld ?_ ?_
              rotate_left
              · rintro w' ⟨s0, s1, s2, s3, s4, s5, s6, s7, s8, s9, s10, s11⟩
                go_simp
                with_reducible rfl
              rotate_left
              · simp only [zs]
                rfl
              refine one_ (i := 10) (N := some 56) #[true, true, true, true, true, true, true, true, true, true, true, false] rfl rfl (by kernel_rfl) (by decide) (fun K hK => ?_)
              refine goes_ Tryd.func42 (by kernel_rfl) rfl #[.pointer (some ⟨r, 0, none⟩), .agg #[.slice D0 x'.f0.length d0, .slice D1 x'.f1.length d1], .agg #[.string mm.f0, .slice (some ad2) mm.f1.length cF, .slice AB mm.f2.length cB], .agg #[.string F.f0, .int .i64 F.f1, .int .i64 F.f2, .string F.f3, .bool F.f4, .bool F.f5, .string F.f6], .int .i64 wire, .int .i64 deep] (by rfl) rfl rfl (by simp only [List.map_toArray, List.map_cons, List.map_nil]; rfl) ?_
              with_reducible refine (HKN.out _ _ _ H8.out BW8.out (Nat.le_trans SR.out K8.out.size) (by have := HBS.out; have := K8.out.size; have := HKR.out.size; have := SA.out; have := HSZ.out; omega) (below_drew (Below.refl _ _)) _ _ M8.out).mono ?_
              rintro e w9 ⟨y0, y1, y, v9, p9, e9, f9, rfl, m9, h9, k9, r9⟩
              obtain ⟨I0, l0, I1, l9, rfl, rfl, _⟩ := K_of m9
              refine ⟨_, rfl, ?_⟩
              have M9 := Aside0.mk m9
              have H9 := Aside0.mk h9
              have R9 := Aside0.mk r9
              have K9 := Aside0.mk k9
              have tb9 := k9.kp _ _ _ (blk_lt T8.out) T8.out (by decide)
              have T9 := Aside0.mk tb9
              have mb9 := k9.kp _ _ _ (blk_lt MB8.out) MB8.out (by decide)
              have g0 := (blk_cell tb9 0).trans rfl
              have g1 := (blk_cell tb9 1).trans rfl
              have g2 := (blk_cell mb9 0).trans rfl
              have g3 := (blk_cell mb9 1).trans rfl
              have g4 := (blk_cell mb9 2).trans rfl
              obtain ⟨s0', s1', s2', s3', s4', s5', s6'⟩ := HF7.out w9 (BW8.out.trans ((Below.refl _ _ |> below_drew).trans k9.bel))
              have fz0 := blk_frozen tb9 0
              have fz1 := blk_frozen tb9 1
              clear m9 h9 r9 k9 tb9 mb9
              refine hK.out _ _ ⟨g0, g1, g2, g3, g4, s0', s1', s2', s3', s4', s5', s6'⟩ (fun hHeld => ?_)
              clear hK K
              refine norm_ (a' := ?_) ?_ ?_
              rotate_left
              · show Act.put _ (some 56) _ = _
                simp only [zs]
                rfl
              refine last_ (i := 11) (N := none) #[true, true, true, true, true, true, true, true, true, true, true, true] rfl rfl (by kernel_rfl) (by decide) (fun K hK => ?_)
              refine skip_ (w1 := ?_) (by rfl) rfl ?_ ?_
              rotate_left
              · go_simp
                rfl
              refine hK.out _ _ ?_
              clear hK K
              refine done_ (by kernel_rfl) ?_
              go_wp2_with fail
              go_roundg (gk - 1)
              case measure => have := HLN.out.1; have := List.length_pos_iff.2 HLN.out.1; have := HLN.out.2.1; omega
              case rel =>
                have hr9 := HKR.out.size
                have hk8 := K8.out.size
                have hsa := SA.out
                have hsz := HSZ.out
                have hd8 : Keeps B w8.heap.size w8 w8.drew := Keeps.of_below (below_drew (Below.refl _ _)) (Nat.le_trans SR.out K8.out.size) (Nat.le_refl _)
                have hkk : KeepsP B (fun k => k < wA.heap.size ∧ k ≠ w.heap.size ∧ ¬ (ok k ∧ k < w.heap.size)) wA w9 := (HKR.out.trans (K8.out.p (P := fun k => k < wA.heap.size) (fun k hk => by omega)) (fun k hk => hk.1)).trans ((hd8.trans K9.out (Nat.le_refl _)).p (P := fun k => k < wA.heap.size) (fun k hk => by omega)) (fun k hk => hk.1)
                have hm9 := k41.M_mono (ok' := fun k => w8.heap.size ≤ k) (fun k hk => hk.2.1) (k41.M_bound M9.out)
                have hfin := fin2 (q := w.heap.size) hkk H9.out T9.out HB.out (fun k hk => hk.2.1) hm9 (fun k hk => by omega)
                refine ⟨y, p9, v9, e9, f9, ⟨_, _, blk_put (blk_put T9.out 0 _ rfl) 1 _ rfl, k41.M_lower (by show base ≤ w8.heap.size; have := HBS.out; omega) (k41.M_mono (fun k hk => ⟨.inr (by omega), by omega⟩) hfin.1), HBS.out⟩, ⟨hfin.2.1⟩, ⟨hfin.2.2⟩, ⟨?_⟩⟩
                have hll := HLN.out
                have hps := List.length_pos_iff.2 hll.1
                have hR := R9.out
                unfold ResP at hR
                rw [HS2.out] at hR
                have hfl := HFL.out
                cases hq : knownL sub mm.f1 F wire deep x' l1 with
                | error e => 
                  rw [hq] at hR hfl
                  exact .inr ⟨e, hR.1, HTN.out.2.trans (loop_err hll.1 HTN.out.1 hfl), hR.2.mono (by omega)⟩
                | ok z =>
                  obtain ⟨z, l3⟩ := z
                  rw [hq] at hR hfl
                  obtain ⟨rfl, rfl, rfl, hi3, hs3, hl3, hlim3⟩ := hR
                  obtain ⟨n3, hn3, hT3⟩ := loop_ok hll.1 HTN.out.1 hfl (by omega)
                  exact .inl ⟨rfl, rfl, hi3, by rw [hs3]; omega, by rw [hs3]; omega, ⟨n3, by rw [hs3]; exact hn3, by rw [hs3]; exact HTN.out.2.trans hT3⟩, hlim3.mono (by rw [hs3]; omega), Fit.field HFT.out HFI.out hfl⟩
      · have hg := hbad.gs
        have hg2 : gs e1 e = e := gs_nz hg.2
        have e0 : (e == 0) = false := by simp [hg.2]
        have HG := Aside0.mk (going_r HRR.out SR.out)
        rw [hg.1] at HG
        have HTE := Aside0.mk hTe
        have HLIM := Aside0.mk hlim
        have HG2 := Aside0.mk hg2
        clear hg hg2 hTe hlim hbad
        go_wp2_with (first
          | (go_at_call 38; refine HG.out.mono ?_; rintro e' w4 ⟨rfl, h4, k4⟩
             have H4 := Aside0.mk h4
             have K4 := Aside0.mk k4
             clear HG h4 k4)
          | (go_at_call 38; refine (going_r H4.out (Nat.le_trans SR.out K4.out.size)).mono ?_; rw [HG2.out]; rintro e' w5 ⟨rfl, h5, k5⟩
             have H5 := Aside0.mk h5
             have K5 := Aside0.mk (K4.out.trans k5 K4.out.size)
             obtain ⟨a0, a1, t1, t2, t3⟩ := HTR.out.keeps K5.out
             obtain ⟨D0, d0, D1, d1, rfl, rfl, _⟩ := K_of t2
             have M5 := Aside0.mk t2
             have x0 := (blk_cell t1 0).trans rfl
             have x1 := (blk_cell t1 1).trans rfl
             have qr := HKR.out.kp _ _ _ ⟨blk_lt HQA.out, by omega, fun h => by have := h.2; omega⟩ HQA.out (by decide)
             have qr5 := K5.out.kp _ _ _ (blk_lt qr) qr (by decide)
             have Q5 := Aside0.mk qr5
             have z0 := (blk_cell qr5 0).trans rfl
             have z1 := (blk_cell qr5 1).trans rfl
             have fz0 := blk_frozen qr5 0
             have fz1 := blk_frozen qr5 1
             clear h5 k5 t1 t2 t3 qr qr5))
        rw [Exit.noGoto_ret]
        have hsz := HSZ.out
        have hsa := SA.out
        have hB := HB.out
        have hkr := HKR.out.size
        have hk9 : KeepsP B (fun k => k < w.heap.size ∧ ¬ ok k) w w5 := (KA.out.trans HKR.out (fun k hk => ⟨by omega, by omega, fun h => hk.2 h.1⟩)).trans (K5.out.p (P := fun k => k < w.heap.size) (fun k hk => by omega)) (fun k hk => hk.1)
        have hfin := fin2 (q := w.heap.size + 1) hk9 H5.out Q5.out (by omega) (fun k hk => by omega) (k41.M_mono (ok' := fun k => (ok k ∧ k < w.heap.size) ∨ wA.heap.size ≤ k) (fun k hk => hk.1) M5.out) (fun k hk => by omega)
        refine bodyPost_ret (results_cell_row rfl _ _ (w.heap.size + 1) 41 _ _ _ rfl (blk_put (blk_put Q5.out 0 _ rfl) 1 _ rfl) Tryd.underlying41 rfl (by kernel_rfl)) rfl ?_
        exact ⟨_, _, x', v1, p1, e1, e, rfl, k41.M_mono (fun k hk => hk.elim (fun h => .inl h.1) (fun h => .inr (by omega))) hfin.1, hfin.2.1, hfin.2.2, HLIM.out, by rw [HTE.out]; exact rfl⟩
end Go.Proofs.YthgddlibfboehaaDoor.Dc
end
section
namespace Go.Proofs.YthgddlibfboehaaDoor.Dc
open Go.RowKit Go.Proofs.YthgddlibfboehaaDoorW.PrintWords Go.Proofs.YthgddlibfboehaaDoorW.PrintLast Go.Proofs.YthgddlibfboehaaDoorW.PrintMore Go.Proofs.YthgddlibfboehaaDoor.Var Go.Proofs.YthgddlibfboehaaDoor.Cur Go.Proofs.YthgddlibfboehaaDoor.PU Go.Proofs.YthgddlibfboehaaDoor.Un Go.Proofs.YthgddlibfboehaaDoor.KD Go.Proofs.YthgddlibfboehaaDoor.Ops Go.Proofs.YthgddlibfboehaaDoor.TK Go.Proofs.YthgddlibfboehaaDoor.Ev
set_option linter.unusedVariables false
set_option linter.unusedSimpArgs false
set_option maxHeartbeats 1000000
set_option maxRecDepth 100000
theorem tree_all {w0 : World} {B r g : Nat} {AE : Option Addr} {cE : Nat} {es : List SE} {AM : Option Addr} {cM : Nat} {ms : List SM} {A : Option Addr} {c : Nat} {b : List Int} (hcx : Cx w0 B AE cE es AM cM ms b) : ∀ (k : Nat) (deep : Int), 1 ≤ deep → deep ≤ 16 → 16 ≤ deep + k → TreeC w0 B r g AE cE es AM cM ms A c b deep (fun name x l => treeL ms k name x deep l)
 | 0, deep, h1, h2, h3 => tree_r hcx ⟨h1, h2⟩ (fun h => by omega) (sub := fun _ _ _ => .error 3) (fun _ _ _ e he => by injection he with he; omega) (fun _ _ _ _ _ h => by cases h)
 | k + 1, deep, h1, h2, h3 => tree_r hcx ⟨h1, h2⟩ (fun h => tree_all hcx k (deep + 1) (by omega) (by omega) (by omega)) (fun r y t => treeL_nz ms k r y (deep + 1) t) (fun r y t z => Fit.tree ms k r y (deep + 1) t z)
theorem seg_all (b : List Int) : seg b 0 [(b.length : Int)] = b := by
 have e : last [(b.length : Int)] = (b.length : Int) := rfl
 unfold seg
 rw [e, Int.toNat_natCast, List.take_length]
 rfl
theorem inv_all (b : List Int) : Inv b.length 0 [(b.length : Int)] := ⟨Int.le_refl 0, fun x hx => by rw [List.mem_singleton.1 hx]; omega, List.pairwise_singleton _ _, fun h => by simp at h⟩
/-- The fault (0: none), and the value. -/
def getL (ms : List SM) (name : ByteArray) (b : List Int) : Int × TT :=
 if ixM ms name < 0 then (5, ⟨[], []⟩) else if (b.length : Int) > 65536 then (3, ⟨[], []⟩) else match treeL ms 16 name ⟨[], []⟩ 1 b with
  | .error e => (e, ⟨[], []⟩)
  | .ok y => (0, y)
/-- A schema that may be, as_ far as_ reading asks for it. -/
structure SchR (ms : List SM) : Prop where
 nm : ms.length ≤ 1000000000
 fl : ∀ m ∈ ms, m.f1.length ≤ 1000000000
 wf : ∀ m ∈ ms, ∀ f ∈ m.f1, (Lit.int .i64 f.f1).wf = true
 sch : ∀ m ∈ ms, ∀ f ∈ m.f1, f.f2 = 15 → 0 ≤ ixM ms f.f3
set_option maxHeartbeats 8000000 in
theorem Get_r {w : World} {AE : Option Addr} {cE : Nat} {es : List SE} {AM : Option Addr} {cM : Nat} {ms : List SM} {A : Option Addr} {c : Nat} {b : List Int} {name : ByteArray} (hE : k158.C w AE es.length es) (hEc : es.length ≤ cE) (hM : k33.C w AM ms.length ms) (hMc : ms.length ≤ cM) (hs : SchR ms) (ht : M.Tabs w) (hr : Kd.C (Kd.int .u8) w A b.length b) (hc : b.length ≤ c) (hb : ∀ x ∈ b, 0 ≤ x ∧ x ≤ 255) :
    Calls Tryd.prog 8 #[.agg #[.slice AE es.length cE, .slice AM ms.length cM], .string name, .slice A b.length c] w fun e w' => ∃ y0 y1, e = .returned (.tuple #[.agg #[y0, y1], .int .i64 (getL ms name b).1]) ∧ k41.M w' w.heap.size (fun _ => True) (getL ms name b).2 [y0, y1] ∧ Below w.heap.size w w' := by
  obtain ⟨wz, hwz⟩ : ∃ wz, wz = (w.alloc (.cells #[.slice AE es.length cE, .slice AM ms.length cM] 37)).alloc (.cells #[.slice none 0 0, .slice none 0 0] 41) := ⟨_, rfl⟩
  have bz : Below w.heap.size w wz := by rw [hwz]; exact below_alloc (below_alloc (Below.refl _ _) _) _
  have hsz : wz.heap.size = w.heap.size + 2 := by rw [hwz]; simp only [World.size_alloc]
  have hb0 : wz.heap[w.heap.size]? = some (.cells #[.slice AE es.length cE, .slice AM ms.length cM] 37 (0, 0)) := by rw [hwz]; exact blk_alloc (blk_new _ _) _
  have hb1 : wz.heap[w.heap.size + 1]? = some (.cells #[.slice none 0 0, .slice none 0 0] 41 (0, 0)) := by
    have q := blk_new (w.alloc (.cells #[.slice AE es.length cE, .slice AM ms.length cM] 37)) (.cells #[.slice none 0 0, .slice none 0 0] 41)
    rw [World.size_alloc] at q
    rw [hwz]
    exact q
  have HMS := Aside0.mk (M.find_Message.calls AE cE es AM cM ms name (ixM ms name) wz (Kd.C_below hE bz) hEc (Kd.C_below hM bz) hMc rfl)
  have HE := Aside0.mk (Kd.C_below hE bz)
  have HM := Aside0.mk (Kd.C_below hM bz)
  have HR := Aside0.mk (Kd.C_below hr bz)
  have HT := Aside0.mk (ht.below bz)
  have HEC := Aside0.mk hEc
  have HMC := Aside0.mk hMc
  have HCC := Aside0.mk hc
  have HS := Aside0.mk hs
  have HBY := Aside0.mk hb
  have HB0 := Aside0.mk hb0
  have HB1 := Aside0.mk hb1
  have HSZ := Aside0.mk hsz
  have BZ := Aside0.mk bz
  have HWZ := Aside0.mk hwz
  have q0 := (blk_cell hb0 0).trans rfl
  have q1 := (blk_cell hb0 1).trans rfl
  have z0 := (blk_cell hb1 0).trans rfl
  have z1 := (blk_cell hb1 1).trans rfl
  have fz0 := blk_frozen hb1 0
  have fz1 := blk_frozen hb1 1
  have HLM := Aside0.mk (Kd.C_max hr)
  clear hwz bz hsz hb0 hb1 hE hM hr ht hEc hMc hc hs hb
  by_cases hix : ixM ms name < 0
  · have hg : getL ms name b = (5, ⟨[], []⟩) := if_pos hix
    rw [hg]
    have d0 : decide (ixM ms name < 0) = true := decide_eq_true hix
    clear hg
    go_enter Tryd.func8, Tryd.ntmps8
    go_upto_block 0 with fail
    rw [← HWZ.out]
    go_wp2_with (first
      | (go_at_call 22; refine HMS.out.mono ?_; rintro e w1 ⟨rfl, b1⟩
         have B1 := Aside0.mk b1
         have hq := blk_below HB1.out b1
         have Q1 := Aside0.mk hq
         have z0 := (blk_cell hq 0).trans rfl
         have z1 := (blk_cell hq 1).trans rfl
         have fz0 := blk_frozen hq 0
         have fz1 := blk_frozen hq 1
         clear b1 hq))
    refine bodyPost_ret (results_ct rfl _ _ (w.heap.size + 1) 41 _ _ _ rfl (blk_put (blk_put Q1.out 0 _ rfl) 1 _ rfl) Tryd.underlying41 rfl (by kernel_rfl)) rfl ?_
    exact ⟨_, _, rfl, M_empty _ _ _, ((BZ.out.trans (B1.out.mono BZ.out.size)).setCell (by show w.heap.size ≤ w.heap.size + 1; omega) _).setCell (by show w.heap.size ≤ w.heap.size + 1; omega) _⟩
  · have d0 : decide (ixM ms name < 0) = false := decide_eq_false hix
    by_cases hlong : (b.length : Int) > 65536
    · have hg : getL ms name b = (3, ⟨[], []⟩) := (if_neg hix).trans (if_pos hlong)
      rw [hg]
      have d1 : decide ((b.length : Int) > 65536) = true := decide_eq_true hlong
      clear hg
      go_enter Tryd.func8, Tryd.ntmps8
      go_upto_block 0 with fail
      rw [← HWZ.out]
      go_wp2_with (first
      | (go_at_call 22; refine HMS.out.mono ?_; rintro e w1 ⟨rfl, b1⟩
         have B1 := Aside0.mk b1
         have hq := blk_below HB1.out b1
         have Q1 := Aside0.mk hq
         have q0 := (blk_cell (blk_below HB0.out b1) 0).trans rfl
         have q1 := (blk_cell (blk_below HB0.out b1) 1).trans rfl
         have z0 := (blk_cell hq 0).trans rfl
         have z1 := (blk_cell hq 1).trans rfl
         have fz0 := blk_frozen hq 0
         have fz1 := blk_frozen hq 1
         clear b1 hq))
      refine bodyPost_ret (results_ct rfl _ _ (w.heap.size + 1) 41 _ _ _ rfl (blk_put (blk_put Q1.out 0 _ rfl) 1 _ rfl) Tryd.underlying41 rfl (by kernel_rfl)) rfl ?_
      exact ⟨_, _, rfl, M_empty _ _ _, ((BZ.out.trans (B1.out.mono BZ.out.size)).setCell (by show w.heap.size ≤ w.heap.size + 1; omega) _).setCell (by show w.heap.size ≤ w.heap.size + 1; omega) _⟩
    · have d1 : decide ((b.length : Int) > 65536) = false := decide_eq_false hlong
      have hbl : b.length ≤ 65536 := by omega
      have hg : getL ms name b = match treeL ms 16 name ⟨[], []⟩ 1 b with | .error e => (e, ⟨[], []⟩) | .ok y => (0, y) := (if_neg hix).trans (if_neg hlong)
      obtain ⟨GR, hGR⟩ : ∃ GR, GR = getL ms name b := ⟨_, rfl⟩
      rw [← hGR] at hg ⊢
      have HG := Aside0.mk hg
      have HBL := Aside0.mk hbl
      have HIX := Aside0.mk (show 0 ≤ ixM ms name by omega)
      clear hg hbl hGR hlong
      go_enter Tryd.func8, Tryd.ntmps8
      go_upto_block 0 with fail
      rw [← HWZ.out]
      go_upto_region 5 with (first
      | (go_at_call 22; refine HMS.out.mono ?_; rintro e w1 ⟨rfl, b1⟩
         have B1 := Aside0.mk b1
         have hq := blk_below HB1.out b1
         have Q1 := Aside0.mk hq
         have q0 := (blk_cell (blk_below HB0.out b1) 0).trans rfl
         have q1 := (blk_cell (blk_below HB0.out b1) 1).trans rfl
         have z0 := (blk_cell hq 0).trans rfl
         have z1 := (blk_cell hq 1).trans rfl
         have fz0 := blk_frozen hq 0
         have fz1 := blk_frozen hq 1
         clear b1 hq))
      have HW := Aside0.mk (And.intro (Kd.C_below HE.out B1.out) (Kd.C_below HM.out B1.out))
      have HR1 := Aside0.mk (Kd.C_below HR.out B1.out)
      have HT1 := Aside0.mk (HT.out.below B1.out)
      have hm := And.intro q0 q1
      have HAP : Aside0 (∀ ad, A = some ad → 0 < b.length → ad.block < w1.heap.size) := ⟨fun ad ha hn => by
        obtain ⟨ad', c', he, _, hK, hcell⟩ := Kd.C_get HR1.out (0 : Int) 0 (Int.le_refl _) (by omega)
        have hK : c' = [.int .u8 (b.getD (0 : Int).toNat 0)] := hK
        subst hK
        rw [ha] at he
        injection he with he
        subst he
        have h0 := World.block_lt_of_cell? _ _ (hcell 0 _ rfl)
        have e1 : ∀ n, (ad.add n).block = ad.block := fun n => by unfold Addr.add; split <;> rfl
        rw [e1] at h0
        exact h0⟩
      go_region_held3 (fun w' => w'.cell? ⟨w.heap.size, 0, none⟩ = some (.slice AE es.length cE) ∧ w'.cell? ⟨w.heap.size, 1, none⟩ = some (.slice AM ms.length cM)) (first | exact hm | exact CM.out | go_keep) (first
        | (go_at_call 12; refine (From_c (Kd.C_below HR1.out (below_drew (Below.refl _ _))) HCC.out HAP.out).mono ?_; rintro e w3 ⟨rfl, h3, b3⟩
           have H3 := Aside0.mk h3
           have B3 := Aside0.mk b3
           have CM : Aside0 (w3.cell? ⟨w.heap.size, 0, none⟩ = some (.slice AE es.length cE) ∧ w3.cell? ⟨w.heap.size, 1, none⟩ = some (.slice AM ms.length cM)) := ⟨⟨pw_cell_below b3 q0, pw_cell_below b3 q1⟩⟩
           clear h3 b3)
        | fail)
      go_wp2_with fail
      obtain ⟨w4, hw4⟩ : ∃ w4, w4 = w3.alloc (.cells #[.slice AE es.length cE, .slice AM ms.length cM, .pointer (some ⟨w1.heap.size + 1, 0, none⟩), .int .i64 0] 70) := ⟨_, rfl⟩
      try rw [← hw4]
      have b4 : Below w3.heap.size w3 w4 := by rw [hw4]; exact below_alloc (Below.refl _ _) _
      have bd : Below w1.heap.size w1 w1.drew := below_drew (Below.refl _ _)
      have b14 : Below w1.heap.size w1.drew w4 := B3.out.trans (b4.mono B3.out.size)
      have hs13 : w1.heap.size ≤ w3.heap.size := B3.out.size
      have hcx : Cx w1.drew w1.heap.size AE cE es AM cM ms b := ⟨rfl, Kd.C_below HW.out.1 bd, HEC.out, Kd.C_below HW.out.2 bd, HMC.out, HS.out.nm, HS.out.fl, HS.out.wf, HS.out.sch, HT1.out.below bd, HBY.out, by have := HBL.out; omega⟩
      have hrd : RdI w4 w1.heap.size w3.heap.size (w1.heap.size + 1) (.slice AE es.length cE) (.slice AM ms.length cM) A c b 0 (.slice (some ⟨w1.heap.size, 0, none⟩) 1 1) [(b.length : Int)] 0 := ⟨by rw [hw4]; exact blk_new _ _, IsC.below H3.out b4, hs13⟩
      have htr := tree_all (r := w3.heap.size) (g := w1.heap.size + 1) (A := A) (c := c) hcx 16 1 (by decide) (by decide) (by decide) w4 0 _ [(b.length : Int)] w4.heap.size 0 (fun _ => False) ⟨[], []⟩ (.slice none 0 0) (.slice none 0 0) name b14 hrd (inv_all b) (by simp) (by simp) (Nat.le_trans hs13 b4.size) (Nat.le_refl _) (M_empty _ _ _) (Lim.empty _) (by rw [seg_all]; have := HBL.out; omega) (Fit.empty _ _) HIX.out
      rw [seg_all] at htr
      have HTR := Aside0.mk htr
      have B14 := Aside0.mk b14
      have Q4 := Aside0.mk (blk_below (blk_below (show w1.drew.heap[w.heap.size + 1]? = _ from Q1.out) B3.out) b4)
      have S4 := Aside0.mk (show w1.heap.size ≤ w4.heap.size from Nat.le_trans hs13 b4.size)
      clear hw4 b4 bd b14 hs13 hcx hrd htr q0 q1 hm
      obtain ⟨TL, hTL⟩ : ∃ TL, TL = treeL ms 16 name ⟨[], []⟩ 1 b := ⟨_, rfl⟩
      have HTL := Aside0.mk (show treeL ms 16 name ⟨[], []⟩ 1 b = TL from hTL.symm)
      cases TL with
      | error e0 =>
        have hgr : GR = (e0, ⟨[], []⟩) := by rw [HG.out, ← hTL]
        have hnz : e0 ≠ 0 := treeL_nz ms 16 name ⟨[], []⟩ 1 b e0 hTL.symm
        have d3 : (e0 != 0) = true := by simp [hnz]
        have HGR := Aside0.mk hgr
        have HNE := Aside0.mk hnz
        clear hTL hgr hnz
        go_at_call 23
        refine HTR.out.mono ?_
        rintro e w5 ⟨y0, y1, y, v5, p5, e5, f5, rfl, m5, h5, k5, _, t5⟩
        obtain ⟨I0, l0, I1, l1, rfl, rfl, _⟩ := K_of m5
        have M5 := Aside0.mk m5
        have H5 := Aside0.mk h5
        have K5 := Aside0.mk k5
        have hp : TreeP (treeL ms 16 name ⟨[], []⟩ 1 b) [(b.length : Int)] y p5 f5 e5 := t5
        rw [HTL.out] at hp
        obtain rfl : f5 = e0 := hp
        have q5 := k5.kp _ _ _ ⟨blk_lt Q4.out, fun h => h⟩ Q4.out (by decide)
        have Q5 := Aside0.mk q5
        have KC3 : ∀ o, (w5.alloc o).cell? ⟨w3.heap.size, 3, none⟩ = some (.int .i64 f5) := fun o => (h5.below (below_alloc (Below.refl _ _) o)).c3
        have c3' := h5.c3
        have z0 : ∀ o, (w5.alloc o).cell? ⟨w.heap.size + 1, 0, none⟩ = some (.slice none 0 0) := fun o => (blk_cell (blk_alloc q5 o) 0).trans rfl
        have z1 : ∀ o, (w5.alloc o).cell? ⟨w.heap.size + 1, 1, none⟩ = some (.slice none 0 0) := fun o => (blk_cell (blk_alloc q5 o) 1).trans rfl
        have fz0 : ∀ o, (w5.alloc o).frozen? ⟨w.heap.size + 1, 0, none⟩ = false := fun o => blk_frozen (blk_alloc q5 o) 0
        have fz1 : ∀ o, (w5.alloc o).frozen? ⟨w.heap.size + 1, 1, none⟩ = false := fun o => blk_frozen (blk_alloc q5 o) 1
        clear m5 h5 k5 t5 q5
        go_wp2_with fail
        have hne3 : w3.heap.size ≠ w.heap.size + 1 := by have := HSZ.out; have := B1.out.size; have := B3.out.size; show w3.heap.size ≠ _; have e : w1.drew.heap.size = w1.heap.size := rfl; omega
        have KS : ∀ o u u', (((w5.alloc o).setCell ⟨w.heap.size + 1, 0, none⟩ u).setCell ⟨w.heap.size + 1, 1, none⟩ u').drew.cell? ⟨w3.heap.size, 3, none⟩ = some (.int .i64 f5) := fun o u u' => by
          show (((w5.alloc o).setCell ⟨w.heap.size + 1, 0, none⟩ u).setCell ⟨w.heap.size + 1, 1, none⟩ u').cell? ⟨w3.heap.size, 3, none⟩ = _
          rw [cell_far hne3, cell_far hne3]
          exact KC3 o
        go_region_held3 (fun w' => w'.cell? ⟨w3.heap.size, 3, none⟩ = some (.int .i64 f5)) (first | exact KC3 _ | exact KS _ _ _ | go_keep) (fail)
        go_wp2_with fail
        have hsz := HSZ.out
        have hs1 := B1.out.size
        have hs4 := S4.out
        have hs5 := K5.out.size
        have hbw : Below w.heap.size w w5 := (((BZ.out.trans (B1.out.mono BZ.out.size)).trans ((below_drew (Below.refl w1.heap.size w1)).mono (by omega))).trans (B14.out.mono (by omega))).trans (K5.out.bel.mono (by omega))
        refine bodyPost_ret (results_ct rfl _ _ (w.heap.size + 1) 41 _ _ _ rfl (blk_put (blk_put (blk_alloc Q5.out _) 0 _ rfl) 1 _ rfl) Tryd.underlying41 rfl (by kernel_rfl)) rfl ?_
        rw [HGR.out]
        exact ⟨_, _, rfl, M_empty _ _ _, below_drew (((below_alloc hbw _).setCell (p := ⟨w.heap.size + 1, 0, none⟩) (by show w.heap.size ≤ w.heap.size + 1; omega) _).setCell (p := ⟨w.heap.size + 1, 1, none⟩) (by show w.heap.size ≤ w.heap.size + 1; omega) _)⟩
      | ok z =>
        have hgr : GR = (0, z) := by rw [HG.out, ← hTL]
        have HGR := Aside0.mk hgr
        clear hTL hgr
        go_at_call 23
        refine HTR.out.mono ?_
        rintro e w5 ⟨y0, y1, y, v5, p5, e5, f5, rfl, m5, h5, k5, _, t5⟩
        obtain ⟨I0, l0, I1, l1, rfl, rfl, _⟩ := K_of m5
        have M5 := Aside0.mk m5
        have H5 := Aside0.mk h5
        have K5 := Aside0.mk k5
        have hp : TreeP (treeL ms 16 name ⟨[], []⟩ 1 b) [(b.length : Int)] y p5 f5 e5 := t5
        rw [HTL.out] at hp
        obtain ⟨rfl, rfl, rfl, rfl⟩ : y = z ∧ p5 = last [(b.length : Int)] ∧ e5 = [(b.length : Int)] ∧ f5 = 0 := hp
        have q5 := k5.kp _ _ _ ⟨blk_lt Q4.out, fun h => h⟩ Q4.out (by decide)
        have Q5 := Aside0.mk q5
        have KC3 : ∀ o, (w5.alloc o).cell? ⟨w3.heap.size, 3, none⟩ = some (.int .i64 0) := fun o => (h5.below (below_alloc (Below.refl _ _) o)).c3
        have c3' := h5.c3
        have z0 : ∀ o, (w5.alloc o).cell? ⟨w.heap.size + 1, 0, none⟩ = some (.slice none 0 0) := fun o => (blk_cell (blk_alloc q5 o) 0).trans rfl
        have z1 : ∀ o, (w5.alloc o).cell? ⟨w.heap.size + 1, 1, none⟩ = some (.slice none 0 0) := fun o => (blk_cell (blk_alloc q5 o) 1).trans rfl
        have fz0 : ∀ o, (w5.alloc o).frozen? ⟨w.heap.size + 1, 0, none⟩ = false := fun o => blk_frozen (blk_alloc q5 o) 0
        have fz1 : ∀ o, (w5.alloc o).frozen? ⟨w.heap.size + 1, 1, none⟩ = false := fun o => blk_frozen (blk_alloc q5 o) 1
        clear m5 h5 k5 t5 q5
        go_wp2_with fail
        have hsz := HSZ.out
        have hs1 := B1.out.size
        have hs4 := S4.out
        have hs5 := K5.out.size
        have hbw : Below w.heap.size w w5 := (((BZ.out.trans (B1.out.mono BZ.out.size)).trans ((below_drew (Below.refl w1.heap.size w1)).mono (by omega))).trans (B14.out.mono (by omega))).trans (K5.out.bel.mono (by omega))
        refine bodyPost_ret (results_ct rfl _ _ (w.heap.size + 1) 41 _ _ _ rfl (blk_put (blk_put (blk_alloc Q5.out _) 0 _ rfl) 1 _ rfl) Tryd.underlying41 rfl (by kernel_rfl)) rfl ?_
        rw [HGR.out]
        have hm := k41.M_mono (ok' := fun k => w4.heap.size ≤ k) (fun k hk => hk.elim (fun h => h.elim) (fun h => h)) M5.out
        have hm2 := Kd.M_far (Kd.M_far (Kd.M_below hm (below_alloc (Below.refl _ _) (.cells #[.slice I0 y.f0.length l0, .slice I1 y.f1.length l1] 41))) (p := ⟨w.heap.size + 1, 0, none⟩) (fun k hk => by show k ≠ w.heap.size + 1; omega) (.slice I0 y.f0.length l0)) (p := ⟨w.heap.size + 1, 1, none⟩) (fun k hk => by show k ≠ w.heap.size + 1; omega) (.slice I1 y.f1.length l1)
        exact ⟨_, _, rfl, k41.M_lower (by omega) (k41.M_mono (fun _ _ => trivial) hm2), ((below_alloc hbw _).setCell (by show w.heap.size ≤ w.heap.size + 1; omega) _).setCell (by show w.heap.size ≤ w.heap.size + 1; omega) _⟩
end Go.Proofs.YthgddlibfboehaaDoor.Dc
end
section
namespace Go.Proofs.YthgddlibfboehaaDoor.Dc
open Go.RowKit Go.Proofs.YthgddlibfboehaaDoorW.PrintWords Go.Proofs.YthgddlibfboehaaDoorW.PrintLast Go.Proofs.YthgddlibfboehaaDoorW.PrintMore Go.Proofs.YthgddlibfboehaaDoor.Var Go.Proofs.YthgddlibfboehaaDoor.Cur Go.Proofs.YthgddlibfboehaaDoor.PU Go.Proofs.YthgddlibfboehaaDoor.Un Go.Proofs.YthgddlibfboehaaDoor.KD Go.Proofs.YthgddlibfboehaaDoor.Ops Go.Proofs.YthgddlibfboehaaDoor.TK Go.Proofs.YthgddlibfboehaaDoor.Ev
set_option linter.unusedVariables false
set_option linter.unusedSimpArgs false
set_option maxHeartbeats 1000000
set_option maxRecDepth 100000
def lvF : SF := ⟨⟨#[97]⟩, 1, 1, ⟨#[]⟩, false, false, ⟨#[]⟩⟩
def lvM : List SM := [⟨⟨#[77]⟩, [lvF], []⟩]
def lvT : TT := ⟨[⟨1, [⟨7, ⟨#[]⟩, []⟩]⟩], []⟩
theorem lv_get : getL lvM ⟨#[77]⟩ [8, 5, 8, 7] = (0, lvT) := by kernel_rfl
theorem lv_same : ecdysisref19_Same.f 20 lvT.f0 lvT.f1 lvT.f0 lvT.f1 = some true := by kernel_rfl
theorem lv_sch : SchR lvM := ⟨by decide, fun m hm => by rw [List.mem_singleton.1 hm]; decide, fun m hm f hf => by
 rw [List.mem_singleton.1 hm] at hf
 obtain rfl := List.mem_singleton.1 hf
 rfl, fun m hm f hf h => by
 rw [List.mem_singleton.1 hm] at hf
 obtain rfl := List.mem_singleton.1 hf
 exact absurd h (by decide)⟩
theorem al_at {w : World} {o : Obj} {n : Nat} (hn : w.heap.size = n) : (w.alloc o).heap[n]? = some o := hn ▸ heap_alloc_new w o
theorem C_one1 {α : Type} {d : Kd α} {W : World} {g e : Nat} {cs : Array Value} {x : α} (hb : W.heap[g]? = some (.cells cs e (0, 0))) (hK : d.K W x cs.toList) : Kd.C d W (some ⟨g, 0, none⟩) 1 [x] := by
 refine ⟨rfl, by omega, fun _ => ⟨_, rfl, fun j p hp => ?_⟩⟩
 match j, hp with
 | 0, hp =>
  obtain rfl := Option.some.inj hp
  refine ⟨cs.toList, d.K_len hK, hK, fun i u hu => ?_⟩
  have e1 : (⟨g, 0, none⟩ : Addr).add (0 * d.sz + i) = ⟨g, i, none⟩ := by simp only [Addr.add, Nat.zero_mul, Nat.zero_add]; split <;> simp_all
  rw [e1]
  exact (blk_cell hb i).trans (by simpa using hu)
theorem C_four {W : World} {g e : Nat} {a b c d : Int} (hb : W.heap[g]? = some (.cells #[.int .u8 a, .int .u8 b, .int .u8 c, .int .u8 d] e (0, 0))) : Kd.C (Kd.int .u8) W (some ⟨g, 0, none⟩) 4 [a, b, c, d] := by
 refine ⟨rfl, by omega, fun _ => ⟨_, rfl, fun j p hp => ?_⟩⟩
 have e1 : ∀ i, (⟨g, 0, none⟩ : Addr).add i = ⟨g, i, none⟩ := fun i => by simp only [Addr.add, Nat.zero_add]; split <;> simp_all
 refine ⟨[.int .u8 p], rfl, rfl, fun i u hu => ?_⟩
 match i, hu with
 | 0, hu =>
  obtain rfl := Option.some.inj hu
  rw [e1]
  match j, hp with
  | 0, hp => obtain rfl := Option.some.inj hp; exact (blk_cell hb 0).trans rfl
  | 1, hp => obtain rfl := Option.some.inj hp; exact (blk_cell hb 1).trans rfl
  | 2, hp => obtain rfl := Option.some.inj hp; exact (blk_cell hb 2).trans rfl
  | 3, hp => obtain rfl := Option.some.inj hp; exact (blk_cell hb 3).trans rfl
  | j + 4, hp => simp at hp
def lvW (w : World) : World := ((((w.alloc (.cells #[.string ⟨#[97]⟩, .int .i64 1, .int .i64 1, .string ⟨#[]⟩, .bool false, .bool false, .string ⟨#[]⟩] 23)).alloc (.cells #[.string ⟨#[77]⟩, .slice (some ⟨w.heap.size, 0, none⟩) 1 1, .slice none 0 0] 33)).alloc (.cells #[.slice none 0 0, .slice (some ⟨w.heap.size + 1, 0, none⟩) 1 1] 37)).alloc (.cells #[.int .u8 8, .int .u8 5, .int .u8 8, .int .u8 7] 5))
theorem lvW_below (w : World) : Below w.heap.size w (lvW w) := by
 unfold lvW
 repeat (first | exact Below.refl _ _ | apply below_alloc)
theorem lv_C (w : World) : k33.C (lvW w) (some ⟨w.heap.size + 1, 0, none⟩) 1 lvM ∧ Kd.C (Kd.int .u8) (lvW w) (some ⟨w.heap.size + 1 + 1 + 1, 0, none⟩) 4 [8, 5, 8, 7] := by
 have f0 : (lvW w).heap[w.heap.size]? = _ := id (by unfold lvW; exact blk_alloc (blk_alloc (blk_alloc (al_at (by simp)) _) _) _)
 have f1 : (lvW w).heap[w.heap.size + 1]? = _ := id (by unfold lvW; exact blk_alloc (blk_alloc (al_at (by simp)) _) _)
 have f3 : (lvW w).heap[w.heap.size + 1 + 1 + 1]? = _ := id (by unfold lvW; exact al_at (by simp))
 have c0 : k23.C (lvW w) (some ⟨w.heap.size, 0, none⟩) 1 [lvF] := C_one1 f0 (k23_mk _ lvF)
 exact ⟨C_one1 f1 (k33_mk _ ⟨⟨#[77]⟩, [lvF], []⟩ (Nat.le_refl _) c0 (Nat.le_refl _) (Kd.C_nil _ _)), C_four f3⟩
theorem lv_T (w : World) : k54.C ((w.alloc (.cells #[.int .u64 7, .string ⟨#[]⟩, .slice none 0 0] 51)).alloc (.cells #[.int .i64 1, .slice (some ⟨w.heap.size, 0, none⟩) 1 1] 54)) (some ⟨w.heap.size + 1, 0, none⟩) 1 lvT.f0 := by
 have c3 : k51.C ((w.alloc (.cells #[.int .u64 7, .string ⟨#[]⟩, .slice none 0 0] 51)).alloc (.cells #[.int .i64 1, .slice (some ⟨w.heap.size, 0, none⟩) 1 1] 54)) (some ⟨w.heap.size, 0, none⟩) 1 [⟨7, ⟨#[]⟩, []⟩] := C_one1 (blk_alloc (al_at rfl) _) (k51_mk _ ⟨7, ⟨#[]⟩, []⟩ (Nat.le_refl _) (Kd.C_nil _ _))
 exact C_one1 (al_at (by simp)) (k54_mk _ ⟨1, [⟨7, ⟨#[]⟩, []⟩]⟩ (Nat.le_refl _) c3)
set_option maxHeartbeats 4000000 in
theorem live_c (w : World) (hT : M.Tabs w) :
  Calls Tryd.prog 4 #[] w fun e w' => e = .returned (.bool true) ∧ Below w.heap.size w w' := by
 obtain ⟨wz, hz⟩ : ∃ wz, wz = lvW w := ⟨_, rfl⟩
 have hB : Below w.heap.size w wz := hz ▸ lvW_below w
 have hC := lv_C w
 rw [← hz] at hC
 have hg := Get_r (w := wz) (cE := 0) (cM := 1) (c := 4) (name := ⟨#[77]⟩) (Kd.C_nil _ _) (Nat.le_refl _) hC.1 (Nat.le_refl _) lv_sch (hT.below hB) hC.2 (Nat.le_refl _) (by decide)
 rw [lv_get] at hg
 have HG := Aside0.mk hg
 have HB := Aside0.mk hB
 have HZ := Aside0.mk hz
 unfold lvW at HZ
 clear hT hz hB hC hg
 go_enter Tryd.func4, Tryd.ntmps4
 go_wp2_with (first
  | (go_at_call 8; rw [← HZ.out]; refine HG.out.mono ?_; rintro e w2 ⟨y0, y1, rfl, m2, b2⟩
     obtain ⟨I0, l0, I1, l1, rfl, rfl, k2⟩ := K_of m2
     obtain ⟨J0, d0, J1, d1, ee, hl0, hg0, hl1, hg1⟩ := k41_open k2
     injection ee with e0 ee
     injection ee with e1 _
     injection e0 with e00 _ e01
     injection e1 with e10 _ e11
     subst e00; subst e01; subst e10; subst e11
     have K2 := Aside0.mk (And.intro (And.intro hl0 hg0) (And.intro hl1 hg1))
     have B2 := Aside0.mk b2
     clear m2 b2 k2 hl0 hg0 hl1 hg1 HZ)
  | (go_at_call 9; refine (ecdysislaw22_num.calls 0 0 _ rfl).mono ?_; rintro e w3 ⟨rfl, b3⟩; 
     go_loud (
      have bb := b3.below
      have hq := blk_below (blk_new _ _) bb
      have B3 := Aside0.mk (B2.out.trans ((below_alloc (Below.refl _ _) _).trans (bb.mono (by rw [World.size_alloc]; omega)) |>.mono B2.out.size))
      have K3 := Aside0.mk (And.intro (Kd.C_below K2.out.1.2 ((below_alloc (Below.refl _ _) _).trans (bb.mono (by rw [World.size_alloc]; omega)))) (Kd.C_below K2.out.2.2 ((below_alloc (Below.refl _ _) _).trans (bb.mono (by rw [World.size_alloc]; omega)))))
      have z0 := (blk_cell hq 0).trans rfl
      have z1 := (blk_cell hq 1).trans rfl
      clear bb hq b3))
  | (go_at_call 10; go_loud (
      refine (ecdysisref19_Same.calls 20 _ _ lvT.f0 _ _ lvT.f1 _ 1 lvT.f0 none 0 lvT.f1 true _ (Kd.C_below K3.out.1 (below_alloc (below_alloc (Below.refl _ _) _) _)) K2.out.1.1 (Kd.C_below K3.out.2 (below_alloc (below_alloc (Below.refl _ _) _) _)) K2.out.2.1 (lv_T _) (Nat.le_refl _) (Kd.C_nil _ _) (Nat.le_refl _) lv_same).mono ?_
      rintro e w4 ⟨rfl, b4⟩
      have B4 := Aside0.mk (B3.out.trans (((below_alloc (below_alloc (Below.refl _ _) _) _).trans (b4.mono (by rw [World.size_alloc, World.size_alloc]; omega))).mono B3.out.size))
      clear b4)))
 go_ret
 exact ⟨rfl, HB.out.trans (B4.out.mono HB.out.size)⟩
end Go.Proofs.YthgddlibfboehaaDoor.Dc
end
section
namespace Go.Proofs.YthgddlibfboehaaDoor.Un
open Go.RowKit Go.Proofs.YthgddlibfboehaaDoorW.PrintWords Go.Proofs.YthgddlibfboehaaDoorW.PrintLast Go.Proofs.YthgddlibfboehaaDoorW.PrintMore Go.Proofs.YthgddlibfboehaaDoor.Var Go.Proofs.YthgddlibfboehaaDoor.Cur Go.Proofs.YthgddlibfboehaaDoor.PU
set_option linter.unusedVariables false
set_option linter.unusedSimpArgs false
set_option maxHeartbeats 1000000
set_option maxRecDepth 100000
theorem unp_T {ty : Int} {b : List Int} {T : List Int × Int × List Int} (h : T = numsD ty b (leftN 0 [(b.length : Int)]) 0 [(b.length : Int)]) : unp ty b = if isNum ty = true ∧ 0 < T.2.2.length then (T.1, true) else ([], false) := by rw [h]; rfl
section
variable {w0 W W' : World} {B g : Nat} {A : Option Addr} {c : Nat} {b acc : List Int} {p : Int} {v0 v vo : Value} {ends : List Int}
theorem MJ.later (h : MJ w0 W B g A c b acc p v0 v vo ends) (hb : Below W.heap.size W W') : MJ w0 W' B g A c b acc p v0 v vo ends :=
 ⟨h.cur.below hb, Kd.R_step h.out (fun k _ hlt => hb.block k hlt), h.new, h.fr.trans (Fr.of_keep (Kept.of_below hb) (.inl rfl)), h.bel.trans (hb.mono h.sz), Nat.le_trans h.sz hb.size⟩
end
set_option maxHeartbeats 3000000 in
theorem RUnpack_c {w : World} {a0 a3 a6 s : ByteArray} {a1 ty : Int} {a4 a5 : Bool} (hs : s.size ≤ 300) :
  Calls Tryd.prog 6 #[.agg #[.string a0, .int .i64 a1, .int .i64 ty, .string a3, .bool a4, .bool a5, .string a6], .string s] w fun e w' => ∃ A c, e = .returned (.tuple #[.slice A (unp ty (bytesOf s)).1.length c, .bool (unp ty (bytesOf s)).2]) ∧ (unp ty (bytesOf s)).1.length ≤ c ∧ Kd.C (Kd.int .u64) w' A (unp ty (bytesOf s)).1.length (unp ty (bytesOf s)).1 ∧ Below w.heap.size w w' := by
 obtain ⟨wz, hwz⟩ : ∃ wz, wz = w.alloc (.cells #[.string a0, .int .i64 a1, .int .i64 ty, .string a3, .bool a4, .bool a5, .string a6] 23) := ⟨_, rfl⟩
 have bz : Below w.heap.size w wz := by rw [hwz]; exact below_alloc (Below.refl _ _) _
 have zb : wz.heap[w.heap.size]? = some (.cells #[.string a0, .int .i64 a1, .int .i64 ty, .string a3, .bool a4, .bool a5, .string a6] 23 (0, 0)) := by rw [hwz]; exact blk_new _ _
 have c0 : wz.cell? ⟨w.heap.size, 2, none⟩ = some (.int .i64 ty) := (blk_cell zb 2).trans rfl
 have HN := Aside0.mk (fun W => ecdysisref11_Number.calls ty (isNum ty) W (refnumber_eq ty))
 have HWZ := Aside0.mk hwz
 clear hwz
 cases hty : isNum ty with
 | false =>
  rw [hty] at HN
  go_enter Tryd.func6, Tryd.ntmps6
  go_upto_region 1 with fail
  rw [← HWZ.out]
  go_wp2_with (first
   | (go_at_call 15; refine (HN.out _).mono ?_; rintro e w1 ⟨rfl, ⟨n1, rfl⟩⟩))
  go_ret2
  have hu : unp ty (bytesOf s) = ([], false) := by unfold unp; rw [if_neg (fun h => by rw [hty] at h; exact absurd h.1 (by simp))]
  rw [hu]
  exact ⟨none, 0, rfl, Nat.le_refl _, Kd.C_nil _ _, pw_below_drewN bz _⟩
 | true =>
  rw [hty] at HN
  go_enter Tryd.func6, Tryd.ntmps6
  go_upto_region 1 with fail
  rw [← HWZ.out]
  go_wp2_with (first
   | (go_at_call 15; refine (HN.out _).mono ?_; rintro e w1 ⟨rfl, hd1⟩; have B1 := Aside0.mk (show Below wz.heap.size wz w1 from by obtain ⟨n1, e1⟩ := hd1; rw [e1]; exact pw_below_drewN (Below.refl _ _) n1); clear hd1)
   | rw [conv_run]
   | (go_at_call 16
      rw [← bytes_len s]
      refine (From_m (bytes_C w1 5 s (by omega)) (by rw [bytes_len]; exact CAP w1) (fun ad ha _ => by cases ha; show w1.heap.size < _; rw [Lib.bytesWorld_size]; omega)).mono ?_
      rintro e w3 ⟨rfl, h3, b3⟩
      have b2 := bytes_below w1 5 s
      have B2 := Aside0.mk (B1.out.trans (b2.mono B1.out.size))
      have B3 := Aside0.mk (B2.out.trans (b3.mono B2.out.size))
      have H3 := Aside0.mk h3
      have S3 := Aside0.mk b3.size
      have c3 := (blk_cell (blk_below zb B3.out) 2).trans rfl
      clear h3 b3 b2))
  have J0 : MJ w3 (w3.alloc (.cells #[] 48)) (Lib.bytesWorld w1 5 s).heap.size ((Lib.bytesWorld w1 5 s).heap.size + 1) (some ⟨w1.heap.size, 0, none⟩) (grownCap w1 (bytesOf s).length 0 5) (bytesOf s) [] 0 (.slice (some ⟨(Lib.bytesWorld w1 5 s).heap.size, 0, none⟩) 1 1) (.slice (some ⟨(Lib.bytesWorld w1 5 s).heap.size, 0, none⟩) 1 1) (.slice (some ⟨w3.heap.size, 0, none⟩) 0 0) [((bytesOf s).length : Int)] := by
   have hs3 := S3.out
   refine ⟨H3.out.below (below_alloc (Below.refl _ _) _), ⟨fun _ _ => trivial, [], ⟨rfl, .inr ⟨w3.heap.size, 0, #[], rfl, hs3, blk_new _ _, Nat.le_refl _, by decide, rfl, rfl⟩⟩, Reps.none _ _⟩, fun k hk => ?_, Fr.of_keep (Kept.of_below (below_alloc (Below.refl _ _) _)) (.inl rfl), (Below.refl _ _).alloc hs3 _, ?_⟩
   · have : w3.heap.size = k := by simpa [Value.ownBlock] using hk
     omega
   · rw [World.size_alloc]; omega
  obtain ⟨T, hT⟩ : ∃ T, T = numsD ty (bytesOf s) (leftN 0 [((bytesOf s).length : Int)]) 0 [((bytesOf s).length : Int)] := ⟨_, rfl⟩
  have HT := Aside0.mk hT
  have HTY := Aside0.mk hty
  have HJ0 := Aside0.mk J0
  have HBY := Aside0.mk (bytes_byte s)
  have HBL := Aside0.mk (show (bytesOf s).length ≤ 300 by rw [bytes_len]; exact hs)
  have HI := Aside0.mk (inv_one0 (bytesOf s))
  have HLN := Aside0.mk (show leftN 0 [((bytesOf s).length : Int)] ≤ (bytesOf s).length from by
   have := inv_last (inv_one0 (bytesOf s))
   unfold leftN
   omega)
  have BB := Aside0.mk (show wz.heap.size ≤ (Lib.bytesWorld w1 5 s).heap.size from B2.out.size)
  have HC := Aside0.mk (fun (W : World) (hb : Below (Lib.bytesWorld w1 5 s).heap.size w3 W) => (blk_cell (blk_below zb (B3.out.trans (hb.mono BB.out))) 2).trans rfl)
  clear J0 hT hty
  go_loopg [7] (leftN 0 [((bytesOf s).length : Int)]) (fun kq v7 wr => ∃ (acc : List Int) (p1 : Int) (v1 vo : Value), vo = v7 ∧ Aside0 (leftN p1 [((bytesOf s).length : Int)] ≤ kq ∧ acc.length + leftN p1 [((bytesOf s).length : Int)] ≤ leftN 0 [((bytesOf s).length : Int)] ∧ Inv (bytesOf s).length p1 [((bytesOf s).length : Int)] ∧ T = (acc ++ (numsD ty (bytesOf s) kq p1 [((bytesOf s).length : Int)]).1, (numsD ty (bytesOf s) kq p1 [((bytesOf s).length : Int)]).2) ∧ MJ w3 wr (Lib.bytesWorld w1 5 s).heap.size ((Lib.bytesWorld w1 5 s).heap.size + 1) (some ⟨w1.heap.size, 0, none⟩) (grownCap w1 (bytesOf s).length 0 5) (bytesOf s) acc p1 (.slice (some ⟨(Lib.bytesWorld w1 5 s).heap.size, 0, none⟩) 1 1) v1 vo [((bytesOf s).length : Int)]))
  case atStart => exact ⟨[], 0, _, _, rfl, ⟨Nat.le_refl _, by simp, HI.out, by rw [HT.out]; rfl, HJ0.out⟩⟩
  case round =>
   obtain ⟨acc, p1, v1, vo, rfl, HG⟩ := hrel
   obtain ⟨hk, hlen, hinv, hTT, hj⟩ := HG.out
   have HJ := Aside0.mk hj
   have HM := Aside0.mk (fun (W : World) (h : MJ w3 W (Lib.bytesWorld w1 5 s).heap.size ((Lib.bytesWorld w1 5 s).heap.size + 1) (some ⟨w1.heap.size, 0, none⟩) (grownCap w1 (bytesOf s).length 0 5) (bytesOf s) acc p1 (.slice (some ⟨(Lib.bytesWorld w1 5 s).heap.size, 0, none⟩) 1 1) v1 vo [((bytesOf s).length : Int)]) => More_m h.cur)
   cases hm : moreB p1 [((bytesOf s).length : Int)] with
   | false =>
     have hN : numsD ty (bytesOf s) gk p1 [((bytesOf s).length : Int)] = ([], p1, [((bytesOf s).length : Int)]) := by
       cases gk with
       | zero => rfl
       | succ k => simp only [numsD, hm]; rfl
     rw [hN] at hTT
     have HTT := Aside0.mk hTT
     rw [hm] at HM
     clear hk hlen hinv hTT hj hm hN HG
     go_wp2_with (first
       | (go_at_call 17; refine (HM.out _ HJ.out).mono ?_; rintro e w4 ⟨rfl, hd4⟩
          have J4 := Aside0.mk (HJ.out.drawn hd4); clear hd4))
     go_ret2
     have hu : unp ty (bytesOf s) = (acc, true) := by rw [unp_T HT.out, HTT.out, HTY.out]; simp
     rw [hu]
     have ho := J4.out.out
     obtain ⟨A, c, rfl⟩ := Kd.R_slice ho
     have hr := Kd.R_reads' ho
     exact ⟨A, c, rfl, hr.2.1, hr.2.2, bz.trans ((B3.out.trans (J4.out.bel.mono BB.out)).mono bz.size)⟩
   | true =>
     have hlt := left_less hinv HBY.out (wireD ty) hm
     cases gk with
     | zero => exact absurd hlt (by omega)
     | succ k1 =>
     have hN : numsD ty (bytesOf s) (k1 + 1) p1 [((bytesOf s).length : Int)] = (frm ty (wD (wireD ty) (bytesOf s) p1 [((bytesOf s).length : Int)]).1 :: (numsD ty (bytesOf s) k1 (nx p1 [((bytesOf s).length : Int)] (wD (wireD ty) (bytesOf s) p1 [((bytesOf s).length : Int)]).2).1 (nx p1 [((bytesOf s).length : Int)] (wD (wireD ty) (bytesOf s) p1 [((bytesOf s).length : Int)]).2).2).1, (numsD ty (bytesOf s) k1 (nx p1 [((bytesOf s).length : Int)] (wD (wireD ty) (bytesOf s) p1 [((bytesOf s).length : Int)]).2).1 (nx p1 [((bytesOf s).length : Int)] (wD (wireD ty) (bytesOf s) p1 [((bytesOf s).length : Int)]).2).2).2) := by rw [numsD, if_pos hm]
     rw [hN] at hTT
     have HINV := Aside0.mk (nx_wD_inv hinv HBY.out (wireD ty))
     have HXX := (wD_facts hinv HBY.out (wireD ty)).1
     obtain ⟨V, hV⟩ : ∃ V, V = wD (wireD ty) (bytesOf s) p1 [((bytesOf s).length : Int)] := ⟨_, rfl⟩
     have HLEN := Aside0.mk (show acc.length + 1 + leftN (nx p1 [((bytesOf s).length : Int)] (wD (wireD ty) (bytesOf s) p1 [((bytesOf s).length : Int)]).2).1 (nx p1 [((bytesOf s).length : Int)] (wD (wireD ty) (bytesOf s) p1 [((bytesOf s).length : Int)]).2).2 ≤ leftN 0 [((bytesOf s).length : Int)] ∧ leftN (nx p1 [((bytesOf s).length : Int)] (wD (wireD ty) (bytesOf s) p1 [((bytesOf s).length : Int)]).2).1 (nx p1 [((bytesOf s).length : Int)] (wD (wireD ty) (bytesOf s) p1 [((bytesOf s).length : Int)]).2).2 ≤ k1 from by omega)
     have HW := Aside0.mk (fun W => ecdysisref11_Wire.calls 2 ty (wireD ty) W (refwire_eq 0 ty))
     rw [hm] at HM
     by_cases k1' : wireD ty = 1
     · rw [k1'] at HW
       have HNU := Aside0.mk (fun (W : World) (h : MJ w3 W (Lib.bytesWorld w1 5 s).heap.size ((Lib.bytesWorld w1 5 s).heap.size + 1) (some ⟨w1.heap.size, 0, none⟩) (grownCap w1 (bytesOf s).length 0 5) (bytesOf s) acc p1 (.slice (some ⟨(Lib.bytesWorld w1 5 s).heap.size, 0, none⟩) 1 1) v1 vo [((bytesOf s).length : Int)]) => (wireM_c h.cur hinv h.sz HBY.out (Nat.le_trans HBL.out (by decide)) (wireD ty)).1 k1')
       rw [← hV] at HNU hTT hlt HINV HLEN HXX
       have HF := Aside0.mk (fun W => ecdysisref12_From.calls 3 ty V.1 (frm ty V.1) W (reffrom_eq 0 ty V.1 HXX.1 HXX.2))
       obtain ⟨x, hx⟩ : ∃ x, x = frm ty V.1 := ⟨_, rfl⟩
       rw [← hx] at HF hTT
       clear HXX hx
       by_cases hz : V.2 = 0
       · rw [nx_fail hz] at HNU hTT hlt HINV
         rw [numsD_failed] at hTT
         have HTT := Aside0.mk hTT
         clear hk hlen hinv hTT hj hm hN hlt hV HG HF HLEN
         go_wp2_with (first
           | (go_at_call 17; refine (HM.out _ HJ.out).mono ?_; rintro e w4 ⟨rfl, hd4⟩
              have J4 := Aside0.mk (HJ.out.drawn hd4)
              have c4 := HC.out _ J4.out.bel
              clear hd4)
           | (go_at_call 18; refine (HW.out _).mono ?_; rintro e w5 ⟨rfl, hd5⟩
              have J5 := Aside0.mk (J4.out.drawn hd5)
              clear hd5)
           | (go_at_call 19; refine (HNU.out _ J5.out).mono ?_; rintro e w6 ⟨rfl, hm6⟩
              obtain ⟨v6, j6⟩ := J5.out.moved hm6
              have J6 := Aside0.mk j6
              have c6 := HC.out _ J6.out.bel
              have b6 := j6.cur.bad (by simp)
              clear j6 hm6))
         go_ret2
         have hu : unp ty (bytesOf s) = ([], false) := by rw [unp_T HT.out]; rw [HTT.out]; simp
         rw [hu]
         exact ⟨none, 0, rfl, Nat.le_refl _, Kd.C_nil _ _, bz.trans ((B3.out.trans (J6.out.bel.mono BB.out)).mono bz.size)⟩
       · rw [nx_go hz] at HNU hTT hlt HINV HLEN
         have HTT := Aside0.mk hTT
         clear hk hlen hinv hTT hj hm hN hlt hV HG
         go_wp2_with (first
           | (go_at_call 17; refine (HM.out _ HJ.out).mono ?_; rintro e w4 ⟨rfl, hd4⟩
              have J4 := Aside0.mk (HJ.out.drawn hd4)
              have c4 := HC.out _ J4.out.bel
              clear hd4)
           | (go_at_call 18; refine (HW.out _).mono ?_; rintro e w5 ⟨rfl, hd5⟩
              have J5 := Aside0.mk (J4.out.drawn hd5)
              clear hd5)
           | (go_at_call 19; refine (HNU.out _ J5.out).mono ?_; rintro e w6 ⟨rfl, hm6⟩
              obtain ⟨v6, j6⟩ := J5.out.moved hm6
              have J6 := Aside0.mk j6
              have c6 := HC.out _ J6.out.bel
              have b6 := j6.cur.good (by simp)
              clear j6 hm6)
           | (go_at_call 21; refine (HF.out _).mono ?_; rintro e w7 ⟨rfl, hd7⟩
              have J7 := Aside0.mk (J6.out.drawn hd7)
              clear hd7)
           | ((with_reducible refine gate_builtin (b := .append) (xs := #[.tmp 36, .tmp 41]) rfl ?_); at_builtin
              refine Kd.R_append (Kd.int .u64) (w0 := w3) (Lib.bytesWorld w1 5 s).heap.size rfl (.tmp 36) (.tmp 41) 25 48 (.int .u64 0) 8 rfl Tryd.underlying25 infoU rfl (by decide) (by decide) vo acc x [.int .u64 x] (fun _ => True) (fun k => some k ≠ vo.ownBlock) rfl rfl ?aM ?aK ?aF J7.out.out J7.out.bel J7.out.sz ?aL ?_
              (case aM => exact rfl)
              (case aK => exact fun k hk => ⟨trivial, hk⟩)
              (case aF => exact fun k hk => trivial)
              (case aL => have := HLEN.out; have := HLN.out; have := HBL.out; omega)
              intro vo' w8 ho8 hb8 hg8 hat8
              have J8 := Aside0.mk (J7.out.appended ho8 hb8 hg8 hat8)
              clear ho8 hb8 hg8 hat8))
         go_roundg k1
         case measure => omega
         case rel => exact ⟨acc ++ [x], p1 + V.2, v6, _, rfl, ⟨HLEN.out.2, by rw [List.length_append]; exact HLEN.out.1, HINV.out, by rw [HTT.out]; simp, J8.out⟩⟩
     · by_cases k5' : wireD ty = 5
       · rw [k5'] at HW
         have HNU := Aside0.mk (fun (W : World) (h : MJ w3 W (Lib.bytesWorld w1 5 s).heap.size ((Lib.bytesWorld w1 5 s).heap.size + 1) (some ⟨w1.heap.size, 0, none⟩) (grownCap w1 (bytesOf s).length 0 5) (bytesOf s) acc p1 (.slice (some ⟨(Lib.bytesWorld w1 5 s).heap.size, 0, none⟩) 1 1) v1 vo [((bytesOf s).length : Int)]) => (wireM_c h.cur hinv h.sz HBY.out (Nat.le_trans HBL.out (by decide)) (wireD ty)).2.1 k5')
         rw [← hV] at HNU hTT hlt HINV HLEN HXX
         have HF := Aside0.mk (fun W => ecdysisref12_From.calls 3 ty V.1 (frm ty V.1) W (reffrom_eq 0 ty V.1 HXX.1 HXX.2))
         obtain ⟨x, hx⟩ : ∃ x, x = frm ty V.1 := ⟨_, rfl⟩
         rw [← hx] at HF hTT
         clear HXX hx
         by_cases hz : V.2 = 0
         · rw [nx_fail hz] at HNU hTT hlt HINV
           rw [numsD_failed] at hTT
           have HTT := Aside0.mk hTT
           clear hk hlen hinv hTT hj hm hN hlt hV HG HF HLEN
           go_wp2_with (first
            | (go_at_call 17; refine (HM.out _ HJ.out).mono ?_; rintro e w4 ⟨rfl, hd4⟩
               have J4 := Aside0.mk (HJ.out.drawn hd4)
               have c4 := HC.out _ J4.out.bel
               clear hd4)
            | (go_at_call 18; refine (HW.out _).mono ?_; rintro e w5 ⟨rfl, hd5⟩
               have J5 := Aside0.mk (J4.out.drawn hd5)
               clear hd5)
            | (go_at_call 19; refine (HNU.out _ J5.out).mono ?_; rintro e w6 ⟨rfl, hm6⟩
               obtain ⟨v6, j6⟩ := J5.out.moved hm6
               have J6 := Aside0.mk j6
               have c6 := HC.out _ J6.out.bel
               have b6 := j6.cur.bad (by simp)
               clear j6 hm6))
           go_ret2
           have hu : unp ty (bytesOf s) = ([], false) := by rw [unp_T HT.out]; rw [HTT.out]; simp
           rw [hu]
           exact ⟨none, 0, rfl, Nat.le_refl _, Kd.C_nil _ _, bz.trans ((B3.out.trans (J6.out.bel.mono BB.out)).mono bz.size)⟩
         · rw [nx_go hz] at HNU hTT hlt HINV HLEN
           have HTT := Aside0.mk hTT
           clear hk hlen hinv hTT hj hm hN hlt hV HG
           go_wp2_with (first
            | (go_at_call 17; refine (HM.out _ HJ.out).mono ?_; rintro e w4 ⟨rfl, hd4⟩
               have J4 := Aside0.mk (HJ.out.drawn hd4)
               have c4 := HC.out _ J4.out.bel
               clear hd4)
            | (go_at_call 18; refine (HW.out _).mono ?_; rintro e w5 ⟨rfl, hd5⟩
               have J5 := Aside0.mk (J4.out.drawn hd5)
               clear hd5)
            | (go_at_call 19; refine (HNU.out _ J5.out).mono ?_; rintro e w6 ⟨rfl, hm6⟩
               obtain ⟨v6, j6⟩ := J5.out.moved hm6
               have J6 := Aside0.mk j6
               have c6 := HC.out _ J6.out.bel
               have b6 := j6.cur.good (by simp)
               clear j6 hm6)
            | (go_at_call 21; refine (HF.out _).mono ?_; rintro e w7 ⟨rfl, hd7⟩
               have J7 := Aside0.mk (J6.out.drawn hd7)
               clear hd7)
            | ((with_reducible refine gate_builtin (b := .append) (xs := #[.tmp 36, .tmp 41]) rfl ?_); at_builtin
               refine Kd.R_append (Kd.int .u64) (w0 := w3) (Lib.bytesWorld w1 5 s).heap.size rfl (.tmp 36) (.tmp 41) 25 48 (.int .u64 0) 8 rfl Tryd.underlying25 infoU rfl (by decide) (by decide) vo acc x [.int .u64 x] (fun _ => True) (fun k => some k ≠ vo.ownBlock) rfl rfl ?aM ?aK ?aF J7.out.out J7.out.bel J7.out.sz ?aL ?_
               (case aM => exact rfl)
               (case aK => exact fun k hk => ⟨trivial, hk⟩)
               (case aF => exact fun k hk => trivial)
               (case aL => have := HLEN.out; have := HLN.out; have := HBL.out; omega)
               intro vo' w8 ho8 hb8 hg8 hat8
               have J8 := Aside0.mk (J7.out.appended ho8 hb8 hg8 hat8)
               clear ho8 hb8 hg8 hat8))
           go_roundg k1
           case measure => omega
           case rel => exact ⟨acc ++ [x], p1 + V.2, v6, _, rfl, ⟨HLEN.out.2, by rw [List.length_append]; exact HLEN.out.1, HINV.out, by rw [HTT.out]; simp, J8.out⟩⟩
       · have d1 : decide (wireD ty = 1) = false := decide_eq_false k1'
         have e1 : (wireD ty = 1) = False := eq_false k1'
         have d5 : decide (wireD ty = 5) = false := decide_eq_false k5'
         have e5 : (wireD ty = 5) = False := eq_false k5'
         have HNU := Aside0.mk (fun (W : World) (h : MJ w3 W (Lib.bytesWorld w1 5 s).heap.size ((Lib.bytesWorld w1 5 s).heap.size + 1) (some ⟨w1.heap.size, 0, none⟩) (grownCap w1 (bytesOf s).length 0 5) (bytesOf s) acc p1 (.slice (some ⟨(Lib.bytesWorld w1 5 s).heap.size, 0, none⟩) 1 1) v1 vo [((bytesOf s).length : Int)]) => (wireM_c h.cur hinv h.sz HBY.out (Nat.le_trans HBL.out (by decide)) (wireD ty)).2.2 k1' k5')
         rw [← hV] at HNU hTT hlt HINV HLEN HXX
         have HF := Aside0.mk (fun W => ecdysisref12_From.calls 3 ty V.1 (frm ty V.1) W (reffrom_eq 0 ty V.1 HXX.1 HXX.2))
         obtain ⟨x, hx⟩ : ∃ x, x = frm ty V.1 := ⟨_, rfl⟩
         rw [← hx] at HF hTT
         clear HXX hx
         by_cases hz : V.2 = 0
         · rw [nx_fail hz] at HNU hTT hlt HINV
           rw [numsD_failed] at hTT
           have HTT := Aside0.mk hTT
           clear hk hlen hinv hTT hj hm hN hlt hV HG HF HLEN
           go_wp2_with (first
            | (go_at_call 17; refine (HM.out _ HJ.out).mono ?_; rintro e w4 ⟨rfl, hd4⟩
               have J4 := Aside0.mk (HJ.out.drawn hd4)
               have c4 := HC.out _ J4.out.bel
               clear hd4)
            | (go_at_call 18; refine (HW.out _).mono ?_; rintro e w5 ⟨rfl, hd5⟩
               have J5 := Aside0.mk (J4.out.drawn hd5)
               clear hd5)
            | (go_at_call 20; refine (HNU.out _ J5.out).mono ?_; rintro e w6 ⟨rfl, hm6⟩
               obtain ⟨v6, j6⟩ := J5.out.moved hm6
               have J6 := Aside0.mk j6
               have c6 := HC.out _ J6.out.bel
               have b6 := j6.cur.bad (by simp)
               clear j6 hm6))
           go_ret2
           have hu : unp ty (bytesOf s) = ([], false) := by rw [unp_T HT.out]; rw [HTT.out]; simp
           rw [hu]
           exact ⟨none, 0, rfl, Nat.le_refl _, Kd.C_nil _ _, bz.trans ((B3.out.trans (J6.out.bel.mono BB.out)).mono bz.size)⟩
         · rw [nx_go hz] at HNU hTT hlt HINV HLEN
           have HTT := Aside0.mk hTT
           clear hk hlen hinv hTT hj hm hN hlt hV HG
           go_wp2_with (first
            | (go_at_call 17; refine (HM.out _ HJ.out).mono ?_; rintro e w4 ⟨rfl, hd4⟩
               have J4 := Aside0.mk (HJ.out.drawn hd4)
               have c4 := HC.out _ J4.out.bel
               clear hd4)
            | (go_at_call 18; refine (HW.out _).mono ?_; rintro e w5 ⟨rfl, hd5⟩
               have J5 := Aside0.mk (J4.out.drawn hd5)
               clear hd5)
            | (go_at_call 20; refine (HNU.out _ J5.out).mono ?_; rintro e w6 ⟨rfl, hm6⟩
               obtain ⟨v6, j6⟩ := J5.out.moved hm6
               have J6 := Aside0.mk j6
               have c6 := HC.out _ J6.out.bel
               have b6 := j6.cur.good (by simp)
               clear j6 hm6)
            | (go_at_call 21; refine (HF.out _).mono ?_; rintro e w7 ⟨rfl, hd7⟩
               have J7 := Aside0.mk (J6.out.drawn hd7)
               clear hd7)
            | ((with_reducible refine gate_builtin (b := .append) (xs := #[.tmp 36, .tmp 41]) rfl ?_); at_builtin
               refine Kd.R_append (Kd.int .u64) (w0 := w3) (Lib.bytesWorld w1 5 s).heap.size rfl (.tmp 36) (.tmp 41) 25 48 (.int .u64 0) 8 rfl Tryd.underlying25 infoU rfl (by decide) (by decide) vo acc x [.int .u64 x] (fun _ => True) (fun k => some k ≠ vo.ownBlock) rfl rfl ?aM ?aK ?aF J7.out.out J7.out.bel J7.out.sz ?aL ?_
               (case aM => exact rfl)
               (case aK => exact fun k hk => ⟨trivial, hk⟩)
               (case aF => exact fun k hk => trivial)
               (case aL => have := HLEN.out; have := HLN.out; have := HBL.out; omega)
               intro vo' w8 ho8 hb8 hg8 hat8
               have J8 := Aside0.mk (J7.out.appended ho8 hb8 hg8 hat8)
               clear ho8 hb8 hg8 hat8))
           go_roundg k1
           case measure => omega
           case rel => exact ⟨acc ++ [x], p1 + V.2, v6, _, rfl, ⟨HLEN.out.2, by rw [List.length_append]; exact HLEN.out.1, HINV.out, by rw [HTT.out]; simp, J8.out⟩⟩
end Go.Proofs.YthgddlibfboehaaDoor.Un
end
section
namespace Go.Proofs.YthgddlibfboehaaDoor.Dc
open Go.RowKit Go.Proofs.YthgddlibfboehaaDoorW.PrintWords Go.Proofs.YthgddlibfboehaaDoorW.PrintLast Go.Proofs.YthgddlibfboehaaDoorW.PrintMore Go.Proofs.YthgddlibfboehaaDoor.Var Go.Proofs.YthgddlibfboehaaDoor.Cur Go.Proofs.YthgddlibfboehaaDoor.PU Go.Proofs.YthgddlibfboehaaDoor.Un Go.Proofs.YthgddlibfboehaaDoor.KD Go.Proofs.YthgddlibfboehaaDoor.Ops Go.Proofs.YthgddlibfboehaaDoor.TK Go.Proofs.YthgddlibfboehaaDoor.Ev
set_option linter.unusedVariables false
set_option linter.unusedSimpArgs false
set_option maxHeartbeats 1000000
set_option maxRecDepth 100000
theorem nums_refl_l (l : List Int) (hl : (l.length : Int) ≤ 9223372036854775807) : ∀ (k : Nat) (i : Nat), i ≤ l.length → l.length < i + k → ecdysisref01_Nums.l0 k l l (i : Int) = some true
 | 0, i, h0, h => by omega
 | k + 1, i, h0, h => by
  unfold ecdysisref01_Nums.l0
  by_cases hi : (i : Int) < (l.length : Int)
  · have e1 : wrap64 ((i : Int) + 1) = ((i + 1 : Nat) : Int) := by rw [Go.IntWalk.wrap64_in _ (by omega)]; rfl
    rw [if_pos hi, if_pos (by omega), if_pos hi, if_pos rfl, e1]
    exact nums_refl_l l hl k (i + 1) (by omega) (by omega)
  · rw [if_neg hi]
theorem nums_refl (l : List Int) (hl : (l.length : Int) ≤ 9223372036854775807) : ecdysisref01_Nums.f (l.length + 1) l l = some true := by
 unfold ecdysisref01_Nums.f
 rw [if_pos rfl]
 exact nums_refl_l l hl _ 0 (by omega) (by omega)
set_option maxHeartbeats 4000000 in
theorem unpacks_c {w : World} {a0 a3 a6 s : ByteArray} {a1 ty : Int} {a4 a5 : Bool} (hT : M.Tabs w) :
   Calls Tryd.prog 3 #[.agg #[.string a0, .int .i64 a1, .int .i64 ty, .string a3, .bool a4, .bool a5, .string a6], .string s] w fun e w' => e = .returned (.bool true) ∧ Below w.heap.size w w' := by
 obtain ⟨wz, hwz⟩ : ∃ wz, wz = w.alloc (.cells #[.string a0, .int .i64 a1, .int .i64 ty, .string a3, .bool a4, .bool a5, .string a6] 23) := ⟨_, rfl⟩
 have bz : Below w.heap.size w wz := by rw [hwz]; exact below_alloc (Below.refl _ _) _
 have zb : wz.heap[w.heap.size]? = some (.cells #[.string a0, .int .i64 a1, .int .i64 ty, .string a3, .bool a4, .bool a5, .string a6] 23 (0, 0)) := by rw [hwz]; exact blk_new _ _
 have HT := Aside0.mk hT
 have BZ := Aside0.mk bz
 have ZB := Aside0.mk zb
 have HWZ := Aside0.mk hwz
 have hsz : wz.heap.size = w.heap.size + 1 := by rw [hwz, World.size_alloc]
 have HSZ := Aside0.mk hsz
 clear hT bz hwz hsz
 have q0 := (blk_cell zb 0).trans rfl
 have q1 := (blk_cell zb 1).trans rfl
 have q2 := (blk_cell zb 2).trans rfl
 have q3 := (blk_cell zb 3).trans rfl
 have q4 := (blk_cell zb 4).trans rfl
 have q5 := (blk_cell zb 5).trans rfl
 have q6 := (blk_cell zb 6).trans rfl
 clear zb
 by_cases hl : (s.size : Int) > 300
 · have d0 : decide ((s.size : Int) > 300) = true := decide_eq_true hl
   go_enter Tryd.func3, Tryd.ntmps3
   go_upto_region 1 with fail
   rw [← HWZ.out]
   go_wp2_with (first
    | (go_at_call 4; refine (live_c _ (HT.out.below BZ.out)).mono ?_; rintro e w1 ⟨rfl, b1⟩
       have B1 := Aside0.mk (BZ.out.trans (b1.mono BZ.out.size))
       clear b1))
   go_ret
   exact ⟨rfl, B1.out⟩
 · have d0 : decide ((s.size : Int) > 300) = false := decide_eq_false hl
   have hs : s.size ≤ 300 := by omega
   have HS := Aside0.mk hs
   obtain ⟨U, hU⟩ : ∃ U, U = unp ty (bytesOf s) := ⟨_, rfl⟩
   have HU := Aside0.mk hU
   obtain ⟨l, ok⟩ := U
   clear hl hs hU
   go_enter Tryd.func3, Tryd.ntmps3
   go_upto_region 1 with fail
   rw [← HWZ.out]
   go_wp2_with (first
    | (go_at_call 5; refine (Unpack_c HS.out).mono ?_; rintro e w1 ⟨A1, c1, rfl, l1, h1, b1⟩
       rw [← HU.out] at l1 h1 ⊢
       have L1 := Aside0.mk l1
       have H1 := Aside0.mk h1
       have B1 := Aside0.mk b1
       have hq := blk_below ZB.out b1
       have Q1 := Aside0.mk hq
       have q0 := (blk_cell hq 0).trans rfl
       have q1 := (blk_cell hq 1).trans rfl
       have q2 := (blk_cell hq 2).trans rfl
       have q3 := (blk_cell hq 3).trans rfl
       have q4 := (blk_cell hq 4).trans rfl
       have q5 := (blk_cell hq 5).trans rfl
       have q6 := (blk_cell hq 6).trans rfl
       clear l1 h1 b1 hq)
    | (go_at_call 6; go_loud (
        refine (RUnpack_c HS.out).mono ?_; rintro e w2 ⟨A2, c2, rfl, l2, h2, b2⟩
        rw [← HU.out] at l2 h2 ⊢
        have L2 := Aside0.mk l2
        have H2 := Aside0.mk h2
        have B2 := Aside0.mk (B1.out.trans (b2.mono B1.out.size))
        have H1b := Aside0.mk (Kd.C_below H1.out b2))
       clear l2 h2 b2)
    | (go_at_call 7; go_loud (
        refine (ecdysisref01_Nums.calls (l.length + 1) _ _ l _ _ l true _ H1b.out L1.out H2.out L2.out (nums_refl l (by have := Kd.C_max H2.out; omega))).mono ?_; rintro e w3 ⟨rfl, b3⟩
        have B3 := Aside0.mk ((BZ.out.trans (B2.out.mono BZ.out.size)).trans (b3.below.mono (Nat.le_trans BZ.out.size B2.out.size))))
       clear b3)
    | (go_at_call 4; refine (live_c _ (HT.out.below B3.out)).mono ?_; rintro e w4 ⟨rfl, b4⟩
       have B4 := Aside0.mk (B3.out.trans (b4.mono B3.out.size))
       clear b4))
   go_ret
   exact ⟨rfl, B4.out⟩
end Go.Proofs.YthgddlibfboehaaDoor.Dc
end
section
namespace Go.Proofs.YthgddlibfboehaaDoor.Ops
open Go.RowKit Go.Proofs.YthgddlibfboehaaDoorW.PrintWords Go.Proofs.YthgddlibfboehaaDoor.KD Go.Proofs.YthgddlibfboehaaDoor.Open
set_option linter.unusedVariables false
set_option maxHeartbeats 1000000
def ok23 (x : S23) : Prop := x.f0.size ≤ reachBytes ∧ (Lit.int .i64 x.f1).wf = true ∧ (Lit.int .i64 x.f2).wf = true ∧ x.f3.size ≤ reachBytes ∧ True ∧ True ∧ x.f6.size ≤ reachBytes
theorem opens23 (fuel : Nat) : OpensW fuel Tryd.prog k23 ok23 23 := by
 have c0 : Tryd.prog.cellsOf 9 = Kd.string.sz := by kernel_rfl
 have c1 : Tryd.prog.cellsOf 3 = (Kd.int .i64).sz := by kernel_rfl
 have c2 : Tryd.prog.cellsOf 3 = (Kd.int .i64).sz := by kernel_rfl
 have c3 : Tryd.prog.cellsOf 9 = Kd.string.sz := by kernel_rfl
 have c4 : Tryd.prog.cellsOf 4 = Kd.bool.sz := by kernel_rfl
 have c5 : Tryd.prog.cellsOf 4 = Kd.bool.sz := by kernel_rfl
 have c6 : Tryd.prog.cellsOf 9 = Kd.string.sz := by kernel_rfl
 refine (opensW_struct (P := Tryd.prog) (t := 23) (fuel := fuel) (d := (Kd.pair Kd.string (Kd.pair (Kd.int .i64) (Kd.pair (Kd.int .i64) (Kd.pair Kd.string (Kd.pair Kd.bool (Kd.pair Kd.bool (Kd.string)))))))) (Ok := fun x_ : ByteArray × Int × Int × ByteArray × Bool × Bool × ByteArray => (x_.1).size ≤ reachBytes ∧ (Lit.int .i64 (x_.2.1)).wf = true ∧ (Lit.int .i64 (x_.2.2.1)).wf = true ∧ (x_.2.2.2.1).size ≤ reachBytes ∧ True ∧ True ∧ (x_.2.2.2.2.2.2).size ≤ reachBytes) (mk := fun y => (⟨y.1, y.2.1, y.2.2.1, y.2.2.2.1, y.2.2.2.2.1, y.2.2.2.2.2.1, y.2.2.2.2.2.2⟩ : S23)) (proj := fun x => (x.f0, x.f1, x.f2, x.f3, x.f4, x.f5, x.f6)) (fun _ => rfl) Tryd.underlying23 (by kernel_rfl) fun f_ e_ => ?_)
 refine fieldsW_cons (off' := 1) (Ok := fun x_ : ByteArray => x_.size ≤ reachBytes) (Ok' := fun x_ : Int × Int × ByteArray × Bool × Bool × ByteArray => (Lit.int .i64 (x_.1)).wf = true ∧ (Lit.int .i64 (x_.2.1)).wf = true ∧ (x_.2.2.1).size ≤ reachBytes ∧ True ∧ True ∧ (x_.2.2.2.2.2).size ≤ reachBytes) ?_ ?_ ?_ ?_ ?_
 · exact rfl
 · exact c0
 · exact (opensW_string Tryd.underlying9)
 · exact rfl
 refine fieldsW_cons (off' := 2) (Ok := fun x_ : Int => (Lit.int .i64 x_).wf = true) (Ok' := fun x_ : Int × ByteArray × Bool × Bool × ByteArray => (Lit.int .i64 (x_.1)).wf = true ∧ (x_.2.1).size ≤ reachBytes ∧ True ∧ True ∧ (x_.2.2.2.2).size ≤ reachBytes) ?_ ?_ ?_ ?_ ?_
 · exact rfl
 · exact c1
 · exact ((opens_int Tryd.underlying3).toW _)
 · exact rfl
 refine fieldsW_cons (off' := 3) (Ok := fun x_ : Int => (Lit.int .i64 x_).wf = true) (Ok' := fun x_ : ByteArray × Bool × Bool × ByteArray => (x_.1).size ≤ reachBytes ∧ True ∧ True ∧ (x_.2.2.2).size ≤ reachBytes) ?_ ?_ ?_ ?_ ?_
 · exact rfl
 · exact c2
 · exact ((opens_int Tryd.underlying3).toW _)
 · exact rfl
 refine fieldsW_cons (off' := 4) (Ok := fun x_ : ByteArray => x_.size ≤ reachBytes) (Ok' := fun x_ : Bool × Bool × ByteArray => True ∧ True ∧ (x_.2.2).size ≤ reachBytes) ?_ ?_ ?_ ?_ ?_
 · exact rfl
 · exact c3
 · exact (opensW_string Tryd.underlying9)
 · exact rfl
 refine fieldsW_cons (off' := 5) (Ok := fun x_ : Bool => True) (Ok' := fun x_ : Bool × ByteArray => True ∧ (x_.2).size ≤ reachBytes) ?_ ?_ ?_ ?_ ?_
 · exact rfl
 · exact c4
 · exact ((opens_bool Tryd.underlying4).toW _)
 · exact rfl
 refine fieldsW_cons (off' := 6) (Ok := fun x_ : Bool => True) (Ok' := fun x_ : ByteArray => x_.size ≤ reachBytes) ?_ ?_ ?_ ?_ ?_
 · exact rfl
 · exact c5
 · exact ((opens_bool Tryd.underlying4).toW _)
 · exact rfl
 refine fieldsW_last ?_ ?_ ?_
 · exact rfl
 · exact c6
 · exact (opensW_string Tryd.underlying9)
end Go.Proofs.YthgddlibfboehaaDoor.Ops
end
section
namespace Go.Proofs.YthgddlibfboehaaDoor.decodeUnpacks
open Go.ChangeShapes Go.WideShapes Go.ChangeAt Go.RowKit Go.Lib
open Go.ChangeMaps (open_string shut_string)
open Go.Proofs.YthgddlibfboehaaDoor.KD Go.Proofs.YthgddlibfboehaaDoorW.PrintWords
set_option linter.unusedVariables false
theorem own : ownKnob Tryd.prog.godebug = none := by kernel_rfl
theorem laidOut : laidOutB Tryd.prog = true := by kernel_rfl
theorem first_is : Rows.laid_unicode_utf8_first = Lib.firstData := by kernel_rfl
theorem accept_is : (Rows.laid_unicode_utf8_acceptRanges : DataW Unit) = Lib.acceptData := by kernel_rfl
/-- What the condition gives the walks: the tables. -/
theorem tabs {W : World} (h : laidMetH Tryd.prog Rows.decodeUnpacksRow.laid W) : M.Tabs W := by
 rw [MakeChecks.laidMetH_plain _ _ _ (by kernel_rfl)] at h
 exact utf8Tabs_of_readsT (U8Types.of196 Tryd.laysValid) ⟨by kernel_rfl, by kernel_rfl, by kernel_rfl, by kernel_rfl, by kernel_rfl, by kernel_rfl, by kernel_rfl⟩
  (first_is ▸ Lib.laidMet.reads h (.tail _ (.head _))) (accept_is ▸ Lib.laidMet.reads h (.head _))
set_option maxRecDepth 100000 in
theorem lifted (os : Os) (started : os.Started) (H : Type) (enc : TypeId × Value → H) :
  ReturnsInHanded {} Tryd.checked os 3 .any (fun w args => (Rows.decodeUnpacksSpec.pre enc Tryd.prog Tryd.f3 Rows.decodeUnpacksRow.domain false w args ∧ laidMetH Tryd.prog Rows.decodeUnpacksRow.laid w) ∧ sizedMet enc Tryd.prog Tryd.f3 (OpenSpec.ofChange Rows.decodeUnpacksSpec) false w args) (Rows.decodeUnpacksSpec.post enc Tryd.prog Tryd.f3 false true false false) := by
 refine returnsInHanded_of_change_and (C := Tryd.checked) (X := fun w _ => laidMetH Tryd.prog Rows.decodeUnpacksRow.laid w) (fun _ _ _ hh h => h.of_heap hh) own started (by kernel_rfl) Tryd.func3
  (ChangeSpec.witness_shaped (enc := enc) (C := Tryd.checked) (os := os) (X := fun w _ => laidMetH Tryd.prog Rows.decodeUnpacksRow.laid w) false (World.laidAll Tryd.prog os Rows.decodeUnpacksRow.laid) #[.agg #[.string ByteArray.empty, .int .i64 0, .int .i64 0, .string ByteArray.empty, .bool false, .bool false, .string ByteArray.empty], .string ByteArray.empty] 8 (World.laidAll_os _ _ _)
   (World.shaped_of_ZipB (by kernel_rfl) (by kernel_rfl)) (by kernel_rfl) (by kernel_rfl) (by kernel_rfl)
   (by rw [MakeChecks.laidMetH_plain _ _ _ (by kernel_rfl)]; exact laidMet_laidAll _ (by kernel_rfl) (by kernel_rfl))) ?_
 intro W base args ds gs before hval0 hW hcnd hsz0 hL _
 have hT := tabs hL
 have hsz : (DataW.weightsEach Tryd.prog (Tryd.f3.params.toList ++ Rows.decodeUnpacksSpec.plain.varTypes Tryd.prog) (ds ++ gs)).all (· ≤ reachBytes) = true := hsz0
 have hval : ∀ (j : Nat) t v, Tryd.f3.params[j]? = some t → args[j]? = some v → Value.okWide Tryd.prog W .any base t v := hval0
 have hW' := hW
 obtain ⟨p, q, hA0, hV, rfl, hfz, hnd⟩ := hW
 have hA : DataW.TrodAll enc Tryd.prog W 0 (fun _ => true) true Tryd.f3.params.toList args.toList ds p := hA0
 rw [Tryd.params3] at hA hval hsz
 obtain ⟨v0, vs0, d0, ds0, p0, q0, hargs, rfl, rfl, h0, r0⟩ := trodAll_cons hA
 obtain ⟨v1, vs1, d1, ds1, p1, q1, rfl, rfl, rfl, h1, r1⟩ := trodAll_cons r0
 obtain ⟨rfl, rfl, rfl⟩ := trodAll_nil r1
 obtain rfl : args = #[v0, v1] := by cases args; simp_all
 obtain ⟨rfl, rfl⟩ := trodVars_none hV
 obtain ⟨cs0, rfl, _⟩ := okWide_struct Tryd.underlying23 (hval 0 23 v0 rfl rfl)
 have k0 := h0
 have lt0 : ∀ x ∈ p0, x.block < W.heap.size := by obtain ⟨m, hm⟩ := k0; exact DataW.trod_lt m _ _ _ hm
 have li0 : Open.Light Tryd.prog 23 d0 := fun n hn => by simpa using List.all_eq_true.1 hsz n (DataW.weights_mem_each (j := 0) rfl rfl n hn)
 obtain ⟨fu0, hf0⟩ := h0
 obtain ⟨y0, hk0, w0⟩ := Ops.opens23 fu0 _ enc W 0 (fun _ => true) true _ _ hf0 li0
 have ec0 : (Value.agg cs0).cells.toList.toArray = cs0 := by simp [Value.cells]
 obtain hcs0 := k23_open hk0
 rw [hcs0] at ec0
 obtain ⟨a1, rfl, rfl, rfl, y1⟩ := open_string Tryd.underlying9 (hval 1 9 v1 rfl rfl) h1
 clear hA0 hval0 hsz0 hsz hL
 have hcall := Dc.unpacks_c (w := W) (a0 := y0.f0) (a1 := y0.f1) (ty := y0.f2) (a3 := y0.f3) (a4 := y0.f4) (a5 := y0.f5) (a6 := y0.f6) (s := a1) hT
 have ec0' := ec0.symm
 subst ec0'
 refine hcall.mono fun e W' ⟨he, bel0⟩ => ?_
 have bel : Below W.heap.size W W' := bel0
 subst he
 exact ⟨_, rfl, _, _, _, [], _, [], hW', trodAll_mk1 (shut_bool Tryd.underlying4 _), (trodAll_cons_mk (Below.trod laidOut (by kernel_rfl) (of_decide_eq_true (by kernel_rfl)) k0 bel lt0) (trodAll_cons_mk (shut_string Tryd.underlying9 y1) trodAll_mk0)), rfl, bel.frame _, fun h => by cases h⟩
theorem over : Rows.decodeUnpacksRow.holds Tryd.pinned (OpenSpec.ofChange Rows.decodeUnpacksSpec) :=
 OpenClaim.holds_of_wide 3 Tryd.f3 rfl rfl rfl rfl rfl rfl rfl ⟨rfl, rfl, rfl, rfl, rfl⟩ rfl rfl rfl rfl rfl (by kernel_rfl) Tryd.func3 (by kernel_rfl)
  (of_decide_eq_true (by kernel_rfl)) (by unfold Func.isWrapper; first | (rw [if_pos (by decide +kernel)]; kernel_rfl) | (rw [if_neg (by decide +kernel)]; exact ⟨rfl, rfl⟩))
  (fun os started H enc _ => lifted os started H enc)
theorem proved : Rows.DecodeUnpacksSaid := over
theorem card_proved : Rows.DecodeUnpacksCardSaid :=
 Claim7.holds_tied_plain_at .later [] [.data, .pinned] true Rows.decodeUnpacksCard.stood.harness false
  over (fun _ h => by cases h) (by kernel_rfl) (fun _ h => by cases h) decodeUnpacks_row_tie rfl ⟨rfl, rfl⟩ (by kernel_rfl) rfl
  (fun f fn hf hfn => by
   obtain rfl : f = 3 := Option.some.inj ((show Tryd.prog.funcNamed Rows.decodeUnpacksRow.func = some 3 by kernel_rfl).symm.trans hf) |>.symm
   obtain rfl : fn = Tryd.f3 := (Option.some.inj (Tryd.func3.symm.trans hfn)).symm
   exact ⟨by kernel_rfl, fun j t ht => by
    rw [Tryd.params3] at ht
    have hm : t ∈ [23, 9] := by simpa using Array.mem_of_getElem? ht
    have hall : ([23, 9].all fun u => !Tryd.prog.wantsStandIn u) = true := by kernel_rfl
    exact (show Tryd.prog.wantsStandIn t = false by simpa using List.all_eq_true.1 hall t hm)⟩)
  (by kernel_rfl)
#print axioms card_proved
end Go.Proofs.YthgddlibfboehaaDoor.decodeUnpacks
namespace Go.Proofs.YthgddlibfboehaaDoor
/-- The tied card, under a short name, for the claim. -/
theorem decodeUnpacks_holds : Rows.DecodeUnpacksCardSaid := decodeUnpacks.card_proved
end Go.Proofs.YthgddlibfboehaaDoor
end

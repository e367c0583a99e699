/- find.Kin's iterator, handed the law's closure: the walk; conditions stand at each. -/
import Derived.Test.YtbpnfpckoapdbaaFindF
namespace Go.Proofs.Ytbpnfpckoapdbaa.M
open Go.RowKit Go.Shelf Go.Proofs.Ytbpnfpckoapdbaa.Rng Go.Proofs.YtbpnfpckoapdbaaW.PrintWords Go.Proofs.YtbpnfpckoapdbaaW.PrintLast Go.Proofs.YtbpnfpckoapdbaaW.PrintMore Go.Proofs.Ytbpnfpckoapdbaa.KD
set_option linter.unusedVariables false
set_option linter.unusedSimpArgs false
set_option maxHeartbeats 4000000
set_option maxRecDepth 100000
attribute [local go_sem] Oper.semAt_some
/-- Ahead of the call: nothing is told yet. -/
structure KI (w0 : World) (sb ob mb : Nat) (A0 A1 : Option Addr) (c0 c1 : Nat) (es : List S86) (ms : List S47) (most : Int) (outL : List ByteArray) (vo : Value) (W : World) : Prop where
  bel : Below w0.heap.size w0 W
  hle : w0.heap.size ≤ W.heap.size
  sbx : W.heap[sb]? = some (.cells #[.slice A0 es.length c0, .slice A1 ms.length c1] 35 (0, 0))
  obx : W.heap[ob]? = some (.cells #[vo] 37 (0, 0))
  mbx : W.heap[mb]? = some (.cells #[.int .i64 most] 3 (0, 0))
  out : Kd.R Kd.string 9 W w0.heap.size (fun _ => True) vo outL
  obB : w0.heap.size ≤ ob
  rdE : Kd.C k86 w0 A0 es.length es
  lcE : es.length ≤ c0
  rdM : Kd.C k47 w0 A1 ms.length ms
  lcM : ms.length ≤ c1
theorem KJ.toI {w0 W : World} {sb ob mb tb : Nat} {A0 A1 : Option Addr} {c0 c1 : Nat} {es : List S86} {ms : List S47} {most : Int} {outL toldL : List ByteArray} {vo vt : Value} (h : KJ w0 sb ob mb tb A0 A1 c0 c1 es ms most outL toldL vo vt W) {W' : World} {B : Nat} (hB : w0.heap.size ≤ B) (hs : Go.Proofs.Ytbpnfpckoapdbaa.Rng.Shut B W W') : KI w0 sb ob mb A0 A1 c0 c1 es ms most outL vo W' :=
  ⟨h.bel.trans (hs.bel.mono hB), Nat.le_trans h.hle hs.bel.size, hs.cells _ _ _ _ h.sbx, hs.cells _ _ _ _ h.obx, hs.cells _ _ _ _ h.mbx, Rs_mv h.out (fun k hk => by obtain ⟨_, cs, hcs⟩ := R_typed' h.out hk; exact (hs.cells _ _ _ _ hcs).trans hcs.symm), h.obB, h.rdE, h.lcE, h.rdM, h.lcM⟩
theorem kinR_go {ms : List S47} {most : Int} {f i : Nat} {told out : List ByteArray} {x : ByteArray} (h : told[i]? = some x) (hm : (((out.length + 1 : Nat) : Int) != most) = true) : kinR ms most (f + 1) i told out = kinR ms most f (i + 1) (extR ms told (refsL (fieldsAt ms x))) (out ++ [x]) := by
  simp only [kinR, h]
  rw [if_pos hm]
theorem kinR_stop {ms : List S47} {most : Int} {f i : Nat} {told out : List ByteArray} {x : ByteArray} (h : told[i]? = some x) (hm : (((out.length + 1 : Nat) : Int) != most) = false) : kinR ms most (f + 1) i told out = out ++ [x] := by
  simp only [kinR, h]
  rw [if_neg (by rw [hm]; simp)]
theorem kinR_end {ms : List S47} {most : Int} {f i : Nat} {told out : List ByteArray} (h : told[i]? = none) : kinR ms most (f + 1) i told out = out := by
  simp only [kinR, h]
/-- While the fields of a message are gone through. -/
structure KR (w0 W0 : World) (sb ob mb tb : Nat) (A0 A1 : Option Addr) (c0 c1 : Nat) (es : List S86) (ms : List S47) (most : Int) (outL toldL : List ByteArray) (vo : Value) (bx : Nat) (nm : ByteArray) (B B' : Option Addr) (d n' d' : Nat) (fs : List S50) (pre : List ByteArray) (W : World) : Prop where
  j : ∃ At ct, KJ w0 sb ob mb tb A0 A1 c0 c1 es ms most outL (extR ms toldL pre) vo (.slice At (extR ms toldL pre).length ct) W
  box : W.heap[bx]? = some (.cells #[.string nm, .slice B fs.length d, .slice B' n' d'] 47 (0, 0))
  rd : Kd.C k50 w0 B fs.length fs
  ko : KeepsOthers W0 W
  bge : bx ≠ tb
section
variable {w0 W0 W : World} {sb ob mb tb : Nat} {A0 A1 : Option Addr} {c0 c1 : Nat} {es : List S86} {ms : List S47} {most : Int} {outL toldL : List ByteArray} {vo : Value} {bx : Nat} {nm : ByteArray} {B B' : Option Addr} {d n' d' : Nat} {fs : List S50} {pre : List ByteArray}
theorem KR.below {W' : World} (h : KR w0 W0 sb ob mb tb A0 A1 c0 c1 es ms most outL toldL vo bx nm B B' d n' d' fs pre W) (hb : Below W.heap.size W W') (hk : KeepsOthers W W') : KR w0 W0 sb ob mb tb A0 A1 c0 c1 es ms most outL toldL vo bx nm B B' d n' d' fs pre W' := by
  obtain ⟨At, ct, hj⟩ := h.j
  exact ⟨⟨At, ct, hj.below hb⟩, blk_below h.box hb, h.rd, h.ko.trans hk, h.bge⟩
theorem KO_below {W W' : World} (hb : Below W.heap.size W W') : KeepsOthers W W' := ⟨hb.size, fun k o hk _ => (hb.block k (Array.getElem?_eq_some_iff.1 hk).1).trans hk⟩
theorem KR.keeps : Keeps bx nm B B' d n' d' fs (KR w0 W0 sb ob mb tb A0 A1 c0 c1 es ms most outL toldL vo bx nm B B' d n' d' fs) :=
  ⟨fun _ _ h => h.box, fun _ _ h => by obtain ⟨At, ct, hj⟩ := h.j; exact Kd.C_below h.rd hj.bel, fun _ _ o h => h.below (below_alloc (Below.refl _ _) o) (KeepsOthers.alloc _ _), fun _ _ k h => h.below (pw_below_drewN (Below.refl _ _) k) ⟨Nat.le_refl _, fun _ _ hk _ => hk⟩⟩
theorem KR.same (h : KR w0 W0 sb ob mb tb A0 A1 c0 c1 es ms most outL toldL vo bx nm B B' d n' d' fs pre W) {r : ByteArray} (he : addR ms (extR ms toldL pre) r = extR ms toldL pre) : KR w0 W0 sb ob mb tb A0 A1 c0 c1 es ms most outL toldL vo bx nm B B' d n' d' fs (pre ++ [r]) W :=
  ⟨by rw [extR_snoc, he]; exact h.j, h.box, h.rd, h.ko, h.bge⟩
theorem KR.firm (pre : List ByteArray) {L : Nat} (hB : w0.heap.size ≤ L) (hB' : W0.heap.size ≤ L) : Firm L (KR w0 W0 sb ob mb tb A0 A1 c0 c1 es ms most outL toldL vo bx nm B B' d n' d' fs pre) :=
  ⟨fun W l o o' h hl hk ho => by
    obtain ⟨At, ct, hj⟩ := h.j
    exact ⟨⟨At, ct, hj.putObj o' (Nat.le_trans hB hl) hk ho⟩, (World.putObj_heap_other (fun e => by subst e; have := h.box; rw [hk] at this; cases this; cases ho)).trans h.box, h.rd, KO_put h.ko o' (Nat.le_trans hB' hl), h.bge⟩,
   fun W o h => h.below (below_alloc (Below.refl _ _) o) (KeepsOthers.alloc _ _)⟩
end
theorem Kin1_c {w0 w : World} {sb ob mb : Nat} {A0 A1 : Option Addr} {c0 c1 : Nat} {es : List S86} {ms : List S47} {most : Int} {vo : Value} (h : KI w0 sb ob mb A0 A1 c0 c1 es ms most [] vo w) (hl : ms.length ≤ 100000) :
    Calls Try.prog 91 #[.func (.func 62) #[] #[.pointer (some ⟨ob, 0, none⟩), .pointer (some ⟨mb, 0, none⟩)], .pointer (some ⟨sb, 0, none⟩)] w fun e w' =>
      (∃ v, e = .returned v) ∧ ∃ vo', KI w0 sb ob mb A0 A1 c0 c1 es ms most (kinL ms most) vo' w' := by
  have z0 := (blk_cell h.sbx 0).trans rfl
  have z1 := (blk_cell h.sbx 1).trans rfl
  have H := Aside0.mk h
  have HL := Aside0.mk hl
  clear h hl
  refine (callsIn_wide (n := 9)).1 ?_
  refine callsIn_of_wp_marks Try.func91 rfl trivial ?_ rfl
  refine wpIn_wide.2 ?_
  simp only [Try.ntmps91, List.size_toArray, List.length_cons, List.length_nil, Nat.reduceAdd, Nat.reduceSub, Array.replicate_succ, Array.replicate_zero, List.push_toArray, List.append_toArray, List.nil_append, List.cons_append, Array.append_assoc]
  rcases ms with _ | ⟨m0, mr⟩
  · go_step3
    go_wp2
    rw [Exit.noGoto_ret]
    exact ⟨_, results_none rfl _ _ _, ⟨_, rfl⟩, vo, H.out⟩
  · have hm0 : ((m0 :: mr).length : Int) ≠ 0 := by simp only [List.length_cons]; omega
    have t0 : (((m0 :: mr).length : Int) == 0) = false := beq_eq_false_iff_ne.mpr hm0
    obtain ⟨MS, hMS⟩ : ∃ MS, MS = m0 :: mr := ⟨_, rfl⟩
    rw [← hMS] at H HL z0 z1 t0 ⊢
    have HMS := Aside0.mk hMS
    obtain ⟨ad, s0, A1', n1, m1, A2, n2, m2, x, hA1, hx, q0, q1, q2, hk⟩ := atK_Message H.out.rdM 0 (by rw [hMS]; simp)
    subst hA1
    rw [Nat.zero_mul, Addr.add_zero'] at q0
    replace q0 := pw_cell_below H.out.bel q0
    have p1 : (0 : Int) < (MS.length : Int) := by rw [hMS]; simp only [List.length_cons]; omega
    have p2 : 0 < MS.length := by omega
    have hk2 := k47_open hk
    obtain ⟨B1, d1, B2, d2, he, _, _, _, _⟩ := hk2
    injection he with e0 he
    injection e0 with e0
    subst e0
    have HX := Aside0.mk hx
    clear hk he hx q1 q2 hMS hm0
    go_step3
    go_wp2_with (first | go_step3)
    have J0 : KJ w0 sb ob mb (w.heap.size + 1) A0 (some ad) c0 c1 es MS most [] [x.f0] vo (.slice (some ⟨w.heap.size, 0, none⟩) 1 1) ((w.alloc (.cells #[.string x.f0] 9)).alloc (.cells #[.slice (some ⟨w.heap.size, 0, none⟩) 1 1] 37)) := by
      have h := H.out
      have hb1 : Below w.heap.size w ((w.alloc (.cells #[.string x.f0] 9)).alloc (.cells #[.slice (some ⟨w.heap.size, 0, none⟩) 1 1] 37)) := bel2 _ _ _
      have hx1 := boxes2 w (.cells #[.string x.f0] 9) (.cells #[.slice (some ⟨w.heap.size, 0, none⟩) 1 1] 37) _ (Below.refl _ _)
      refine ⟨h.bel.trans (hb1.mono h.hle), Nat.le_trans h.hle hb1.size, blk_below h.sbx hb1, blk_below h.obx hb1, blk_below h.mbx hb1, hx1.2, Rs_mv h.out (fun k hk => by obtain ⟨_, cs, hcs⟩ := R_typed' h.out hk; exact hb1.block k (blk_lt hcs)), ⟨fun _ _ => trivial, [.string x.f0], ⟨rfl, .inr ⟨w.heap.size, 1, #[.string x.f0], rfl, h.hle, hx1.1, Nat.le_refl _, by decide, rfl, rfl⟩⟩, ⟨rfl, fun j p hj => ?_⟩⟩, fun k hk e => ?_, ?_, h.obB, by have := h.hle; omega, h.rdE, h.lcE, h.rdM, h.lcM⟩
      · match j, hj with
        | 0, hj =>
          obtain rfl := Option.some.inj hj
          exact rfl
      · have hk' : w.heap.size = k := by simpa [Value.ownBlock] using hk
        obtain ⟨_, cs, hcs⟩ := R_typed' h.out e
        have := blk_lt hcs
        omega
      · have := blk_lt h.obx
        omega
    have HJ0 := Aside0.mk J0
    have HWL := Aside0.mk H.out.hle
    have HT0 := Aside0.mk (Told.first HX.out)
    have HS0 := Aside0.mk (show kinR MS most (MS.length + 1) 0 [x.f0] [] = kinL MS most by
      have h1 := HX.out
      match MS, h1 with
      | _ :: _, h1 =>
        obtain rfl := Option.some.inj h1
        rfl)
    clear J0
    refine wp_loop_ghost_k (fun kq aq wq => ∃ u4 u5 u16 u17 u18 u19 u20 u21 u22 u23 u24 u25 u26 u27 u28 u29 u30 u31 u32 u33 u34 u35 u36 u37 u38 u39 u41 u42 u43 u44 u45 u46 u47 u48 u49 u50 u51 u52 u53 ds, (∃ (i : Nat) (At : Option Addr) (ct : Nat) (outL toldL : List ByteArray) (vo' : Value), u4 = .int .i64 (i : Int) ∧ Aside0 (kq + i = MS.length + 1 ∧ outL.length = i ∧ i ≤ toldL.length ∧ Told MS toldL ∧ kinR MS most kq i toldL outL = kinL MS most ∧ KJ w0 sb ob mb (w.heap.size + 1) A0 (some ad) c0 c1 es MS most outL toldL vo' (.slice At toldL.length ct) wq ∧ Marks w.heap.size ds wq)) ∧ aq = { tmps := #[.func (.func 62) #[] #[.pointer (some ⟨ob, 0, none⟩), .pointer (some ⟨mb, 0, none⟩)], .pointer (some ⟨sb, 0, none⟩), undef, .pointer (some ⟨w.heap.size + 1, 0, none⟩), u4, u5, .pointer (some ⟨sb, 1, none⟩), .slice (some ad) MS.length c1, .int .i64 (MS.length : Int), .bool false, .pointer (some ⟨sb, 1, none⟩), .slice (some ad) MS.length c1, .pointer (some ad), .pointer (some ad), .string x.f0, .slice (some ⟨w.heap.size, 0, none⟩) 1 1, u16, u17, u18, u19, u20, u21, u22, u23, u24, u25, u26, u27, u28, u29, u30, u31, u32, u33, u34, u35, u36, u37, u38, u39, undef, u41, u42, u43, u44, u45, u46, u47, u48, u49, u50, u51, u52, u53], defers := ds }) (MS.length + 1) ?start ?round
    case start =>
      (repeat apply Exists.intro)
      exact ⟨⟨0, _, _, [], [x.f0], _, rfl, ⟨by omega, rfl, by simp, HT0.out, HS0.out, HJ0.out, show Marks _ [] _ from trivial⟩⟩, rfl⟩
    case round =>
      intro gk aq wr hinv
      obtain ⟨u4, u5, u16, u17, u18, u19, u20, u21, u22, u23, u24, u25, u26, u27, u28, u29, u30, u31, u32, u33, u34, u35, u36, u37, u38, u39, u41, u42, u43, u44, u45, u46, u47, u48, u49, u50, u51, u52, u53, ds, ⟨i, At, ct, outL, toldL, vo', rfl, HG⟩, rfl⟩ := hinv
      intro _ _ _ _
      obtain ⟨hg0, hol, hit, htd, hsp, hj, hmk⟩ := HG.out
      have HJ := Aside0.mk hj
      have HMK := Aside0.mk hmk
      have HTD := Aside0.mk htd
      have HSP := Aside0.mk hsp
      have HG0 := Aside0.mk hg0
      have HOL := Aside0.mk hol
      have ct0 := (blk_cell hj.tbx 0).trans rfl
      have hml := HL.out
      have HTL := Aside0.mk htd.le
      clear HJ0 HT0 HS0 H HG hg0 hol hsp hj hmk htd q0 z0 z1
      by_cases hi : i < toldL.length
      · have c1' : decide ((i : Int) < (toldL.length : Int)) = true := decide_eq_true (by omega)
        have p0 : (0 : Int) ≤ (i : Int) := by omega
        have hi2 : (i : Int) < (toldL.length : Int) := by omega
        obtain ⟨_, _, hCt⟩ := Kd.R_reads' HJ.out.tol
        obtain ⟨adt, ctc, hAt, _, hKt, hct⟩ := Kd.C_get hCt ByteArray.empty (i : Int) (by omega) (by omega)
        subst hAt
        obtain ⟨y, hy⟩ : ∃ y, toldL[i]? = some y := ⟨toldL[i], List.getElem?_eq_getElem hi⟩
        have hy2 : toldL.getD (i : Int).toNat ByteArray.empty = y := by rw [Int.toNat_natCast, List.getD_eq_getElem?_getD, hy]; rfl
        rw [hy2] at hKt
        have hKt : ctc = [.string y] := hKt
        subst hKt
        have ht1 : wr.cell? (adt.add i) = some (.string y) := by
          have := hct 0 _ rfl
          rwa [Int.toNat_natCast, show i * (Kd.string).sz + 0 = i from Nat.mul_one i] at this
        have HY := Aside0.mk hy
        have hw : IntKind.i64.wrap ((i : Int) + 1) = ((i + 1 : Nat) : Int) := by have := HTL.out; rw [IntKind.wrap_i64]; omega
        have HK1 := Aside0.mk (fun (W : World) (h : KJ w0 sb ob mb (w.heap.size + 1) A0 (some ad) c0 c1 es MS most outL toldL vo' (.slice (some adt) toldL.length ct) W) => kin1_c (w0 := w0) y h.hle h.bel h.obx h.obB h.mbx h.out (by have := HOL.out; have := HTL.out; omega))
        have HI := Aside0.mk hi
        replace hi := eq_true hi
        replace hi2 := eq_true hi2
        clear hy hy2 hCt hct hit
        by_cases hm : (((outL.length + 1 : Nat) : Int) != most) = true
        · go_wp2_with (first
            | (go_at_call 62; refine (HK1.out _ HJ.out).mono ?_; rintro e w2 hp2
               obtain ⟨vo2, rfl, j2, ko2⟩ := HJ.out.yield hp2
               rw [hm]
               have J2 := Aside0.mk j2
               have KO2 := Aside0.mk ko2
               clear j2 ko2 hp2))
          have hat := HTD.out.at_ y (List.mem_of_getElem? HY.out)
          obtain ⟨m, hm1, hm2, hm3⟩ := msgAt_some hat
          obtain ⟨j, hj⟩ : ∃ j : Nat, msgAt MS y = (j : Int) := ⟨_, (Int.toNat_of_nonneg hat).symm⟩
          rw [hj] at hm3
          rw [hj, Int.toNat_natCast] at hm1
          have hfa : fieldsAt MS y = m.f1 := by
            unfold fieldsAt
            rw [hj, Int.toNat_natCast, hm1]
            rfl
          obtain ⟨adm, s0', A1m, n1m, m1m, A2m, n2m, m2m, xm, hA1, hxm, r0, r1, r2, hkm⟩ := atK_Message J2.out.rdM j (by omega)
          rw [hm1] at hxm
          obtain rfl := Option.some.inj hxm
          injection hA1 with hA1
          subst hA1
          obtain ⟨B1m, d1m, B2m, d2m, he, _, hCf, _, _⟩ := k47_open hkm
          injection he with e0 he
          injection he with e1 he
          injection he with e2 he
          injection e0 with e0
          injection e1 with e1 e1b e1c
          injection e2 with e2 e2b e2c
          subst e0 e1 e1b e1c e2 e2b e2c
          have HM := Aside0.mk (fun (W : World) (hb : Below w2.heap.size w2 W) => show W.cell? ⟨sb, 0, none⟩ = some (.slice A0 es.length c0) ∧ W.cell? ⟨sb, 1, none⟩ = some (.slice (some ad) MS.length c1) ∧ W.cell? ⟨w.heap.size + 1, 0, none⟩ = some (.slice (some adt) toldL.length ct) ∧ W.cell? (adt.add i) = some (.string y) ∧ W.cell? (ad.add (j * 3)) = some (.string m.f0) ∧ W.cell? ⟨(ad.add (j * 3)).block, (ad.add (j * 3)).off + 1, none⟩ = some (.slice A1m m.f1.length m1m) ∧ W.cell? ⟨(ad.add (j * 3)).block, (ad.add (j * 3)).off + 2, none⟩ = some (.slice A2m m.f2.length m2m) from by
            have k2 := J2.out.below hb
            obtain ⟨_, _, hCt⟩ := Kd.R_reads' k2.tol
            obtain ⟨adt', ctc, hAt, _, hKt, hct⟩ := Kd.C_get hCt ByteArray.empty (i : Int) (by omega) (by have := HI.out; omega)
            injection hAt with hAt
            subst hAt
            have hy2 : toldL.getD (i : Int).toNat ByteArray.empty = y := by rw [Int.toNat_natCast, List.getD_eq_getElem?_getD, HY.out]; rfl
            rw [hy2] at hKt
            have hKt : ctc = [.string y] := hKt
            subst hKt
            have h0 := hct 0 _ rfl
            rw [Int.toNat_natCast, show i * (Kd.string).sz + 0 = i from Nat.mul_one i] at h0
            exact ⟨(blk_cell k2.sbx 0).trans rfl, (blk_cell k2.sbx 1).trans rfl, (blk_cell k2.tbx 0).trans rfl, h0, pw_cell_below k2.bel r0, pw_cell_below k2.bel r1, pw_cell_below k2.bel r2⟩)
          have HMsg := Aside0.mk (fun (W : World) (hb : Below w2.heap.size w2 W) => find_Message.calls A0 c0 es (some ad) c1 MS y (j : Int) W (Kd.C_below J2.out.rdE (J2.out.below hb).bel) J2.out.lcE (Kd.C_below J2.out.rdM (J2.out.below hb).bel) J2.out.lcM (by rw [← hj]; rfl))
          have pj1 : (0 : Int) ≤ (j : Int) := by omega
          have HFA := Aside0.mk hfa
          have HCF := Aside0.mk hCf
          have HJJ := Aside0.mk hj
          have hm0 := HM.out w2 (Below.refl _ _)
          obtain ⟨g0, g1, g2, g3, g4, g5, g6⟩ := HM.out w2 (Below.refl _ _)
          replace hm3 := eq_true hm3
          clear hat hm1 hfa hCf hj r0 r1 r2 hkm he ht1 ct0
          have hm0 := HM.out w2 (Below.refl _ _)
          go_region_held3 (fun W => W.cell? ⟨sb, 0, none⟩ = some (.slice A0 es.length c0) ∧ W.cell? ⟨sb, 1, none⟩ = some (.slice (some ad) MS.length c1) ∧ W.cell? ⟨w.heap.size + 1, 0, none⟩ = some (.slice (some adt) toldL.length ct) ∧ W.cell? (adt.add i) = some (.string y) ∧ W.cell? (ad.add (j * 3)) = some (.string m.f0) ∧ W.cell? ⟨(ad.add (j * 3)).block, (ad.add (j * 3)).off + 1, none⟩ = some (.slice A1m m.f1.length m1m) ∧ W.cell? ⟨(ad.add (j * 3)).block, (ad.add (j * 3)).off + 2, none⟩ = some (.slice A2m m.f2.length m2m)) (first | exact hm0 | exact CM4.out | exact CM3.out | go_keep) (first
            | (go_at_call 28; refine (HMsg.out _ (pw_below_drewN (Below.refl _ _) _)).mono ?_; rintro e w3 ⟨rfl, b3⟩
               have b3' : Below w2.heap.size w2 w3 := (pw_below_drewN (Below.refl w2.heap.size w2) _).trans b3
               have B3 := Aside0.mk b3'
               have CM3 := Aside0.mk (HM.out _ b3')
               clear b3 b3')
            | (go_at_call 75; refine (refs_c _ _ _ _ _ _ _ _).mono ?_; rintro e w4 ⟨rfl, b4, x4⟩
               have b5 : Below w3.heap.size w3 w4 := (by first | exact b4 | exact (pw_below_drewN (Below.refl w3.heap.size w3) _).trans b4)
               have b4' := B3.out.trans (b5.mono B3.out.size)
               have B4 := Aside0.mk b4'
               have X4 := Aside0.mk x4
               have CM4 := Aside0.mk (HM.out _ b4')
               clear b4 b4' b5 x4))
          subst hm2
          have K4 := Aside0.mk (show KeepsOthers wr w4 from KO2.out.trans (KO_below B4.out))
          have JR : KR w0 wr sb ob mb (w.heap.size + 1) A0 (some ad) c0 c1 es MS most (outL ++ [m.f0]) toldL vo2 w3.heap.size m.f0 A1m A2m m1m m.f2.length m2m m.f1 [] w4 := ⟨⟨_, _, J2.out.below B4.out⟩, X4.out, HCF.out, K4.out, by have h1 := J2.out.tbx; have h2 := blk_lt h1; have h3 := B3.out.size; omega⟩
          have HJR := Aside0.mk JR
          have L1 := Aside0.mk (show w0.heap.size ≤ w4.heap.size from (J2.out.below B4.out).hle)
          have L2 := Aside0.mk K4.out.size
          clear JR
          go_wp2
          refine (wpIn_wide (n := 9)).1 ?_
          refine range_on (gf := 99) (lb := #[.pointer (some ⟨w3.heap.size, 0, none⟩)]) rfl (enters_of Try.func99 (by kernel_rfl) rfl)
            (refs_on (J := KR w0 wr sb ob mb (w.heap.size + 1) A0 (some ad) c0 c1 es MS most (outL ++ [m.f0]) toldL vo2 w3.heap.size m.f0 A1m A2m m1m m.f2.length m2m m.f1) KR.keeps 8 (by omega)) (fun _ => rfl)
            (KR.firm _ L1.out L2.out) (KR.firm _ L1.out L2.out) (fun _ _ => KR.firm _ L1.out L2.out) (fun _ _ => KR.firm _ L1.out L2.out) HJR.out
            (fun r a₁ W => a₁ = { tmps := #[.func (.func 62) #[] #[.pointer (some ⟨ob, 0, none⟩), .pointer (some ⟨mb, 0, none⟩)], .pointer (some ⟨sb, 0, none⟩), undef, .pointer (some ⟨w.heap.size + 1, 0, none⟩), .int .i64 (i : Int), .string r, .pointer (some ⟨sb, 1, none⟩), .slice (some ad) MS.length c1, .int .i64 (MS.length : Int), .bool false, .pointer (some ⟨sb, 1, none⟩), .slice (some ad) MS.length c1, .pointer (some ad), .pointer (some ad), .string x.f0, .slice (some ⟨w.heap.size, 0, none⟩) 1 1, .int .i64 (i : Int), .slice (some adt) toldL.length ct, .int .i64 (toldL.length : Int), .bool true, u20, u21, .func (.func 62) #[] #[.pointer (some ⟨ob, 0, none⟩), .pointer (some ⟨mb, 0, none⟩)], .slice (some adt) toldL.length ct, .int .i64 (i : Int), .pointer (some (adt.add i)), .string m.f0, .bool true, .bool false, .pointer (some ⟨sb, 1, none⟩), .slice (some ad) MS.length c1, .agg #[.slice A0 es.length c0, .slice (some ad) MS.length c1], .slice (some adt) toldL.length ct, .int .i64 (i : Int), .pointer (some (adt.add i)), .string m.f0, .int .i64 (j : Int), .pointer (some (ad.add (j * 3))), .agg #[.string m.f0, .slice A1m m.f1.length m1m, .slice A2m m.f2.length m2m], .func (.func 99) #[] #[.pointer (some ⟨w3.heap.size, 0, none⟩)], .string r, u41, u42, u43, u44, u45, u46, u47, u48, u49, u50, u51, u52, u53], defers := [] })
            ?hAx ?assign ?body ?done
          case hAx => exact fun x a₁ => ⟨fun W l o o' h _ _ _ => h, fun W o h => h⟩
          case assign =>
            intro l s r W K hy hK
            gi_wp2
            exact hK _ _ (KeepsOthers.refl _) hy rfl
          case body =>
            rintro l s r a₁ W hy rfl
            obtain ⟨Ar, cr, hjr⟩ := hy.j
            have y0 := (blk_cell hjr.sbx 0).trans rfl
            have y1 := (blk_cell hjr.sbx 1).trans rfl
            have HY := Aside0.mk hy
            have HJr := Aside0.mk hjr
            have HTl := Aside0.mk (Told.ext (l := s) HTD.out)
            obtain ⟨q, hq⟩ : ∃ q, q = msgAt MS r := ⟨_, rfl⟩
            have HMs := Aside0.mk (find_Message.calls A0 c0 es (some ad) c1 MS r q W (Kd.C_below hjr.rdE hjr.bel) hjr.lcE (Kd.C_below hjr.rdM hjr.bel) hjr.lcM (by rw [hq]; rfl))
            have fe1 : Fence.wide.fn 28 := trivial
            have fe2 : Fence.wide.fn 92 := trivial
            have HQ := Aside0.mk hq
            clear hy hjr hq
            by_cases hneg : q < 0
            · have d1 : decide (q < 0) = true := decide_eq_true hneg
              have HE := Aside0.mk (show addR MS (extR MS toldL s) r = extR MS toldL s by unfold addR; rw [if_pos (by rw [← HQ.out, d1]; rfl)])
              clear hneg
              gi_wp2_with (first
                | (gi_at_call 28; refine (CallsIn.inRound l (callsIn_wide.2 HMs.out)).mono ?_; rintro e w5 ⟨rfl, b5⟩
                   have B5 := Aside0.mk b5
                   clear b5))
              all_goals exact ⟨KO_below B5.out, (HY.out.below B5.out (KO_below B5.out)).same HE.out⟩
            · have d1 : decide (q < 0) = false := decide_eq_false hneg
              have HH := Aside0.mk (fun (W' : World) (hb : Below W.heap.size W W') => has_c (w := W') r (Kd.R_reads' (HJr.out.below hb).tol).2.2 (Kd.R_reads' (HJr.out.below hb).tol).2.1 (by have := HTl.out.le; have := HL.out; omega))
              have HB5 := Aside0.mk (fun (W' : World) (hb : Below W.heap.size W W') => (blk_cell (HJr.out.below hb).tbx 0).trans rfl)
              clear hneg
              by_cases hh : has (extR MS toldL s) r = true
              · have HE := Aside0.mk (show addR MS (extR MS toldL s) r = extR MS toldL s by unfold addR; rw [if_pos (by rw [hh]; simp)])
                rw [hh] at HH
                gi_wp2_with (first
                  | (gi_at_call 28; refine (CallsIn.inRound l (callsIn_wide.2 HMs.out)).mono ?_; rintro e w5 ⟨rfl, b5⟩
                     have t5 := HB5.out _ b5
                     have B5 := Aside0.mk b5
                     clear b5)
                  | (gi_at_call 92; refine (CallsIn.inRound l (callsIn_wide.2 (HH.out _ B5.out))).mono ?_; rintro e w6 ⟨rfl, d6⟩
                     have B6 := Aside0.mk (B5.out.trans (d6.below.mono B5.out.size))
                     clear d6))
                all_goals exact ⟨KO_below B6.out, (HY.out.below B6.out (KO_below B6.out)).same HE.out⟩
              · have HE := Aside0.mk (show addR MS (extR MS toldL s) r = extR MS toldL s ++ [r] by unfold addR; rw [if_neg (by rw [← HQ.out, d1]; simpa using hh)])
                replace hh : has (extR MS toldL s) r = false := by simpa using hh
                rw [hh] at HH
                gi_wp2_with (first
                  | (gi_at_call 28; refine (CallsIn.inRound l (callsIn_wide.2 HMs.out)).mono ?_; rintro e w5 ⟨rfl, b5⟩
                     have t5 := HB5.out _ b5
                     have B5 := Aside0.mk b5
                     clear b5)
                  | (gi_at_call 92; refine (CallsIn.inRound l (callsIn_wide.2 (HH.out _ B5.out))).mono ?_; rintro e w6 ⟨rfl, d6⟩
                     have b6 := (B5.out.trans (d6.below.mono B5.out.size))
                     have t6 := HB5.out _ b6
                     have J6 := Aside0.mk (HJr.out.below b6)
                     have B6 := Aside0.mk b6
                     clear d6 b6)
                  | (gi_at_builtin
                     refine R_appendIn Kd.string (w0 := w0) w0.heap.size rfl (.tmp 50) (.tmp 52) 37 9 (.string ⟨#[]⟩) 16 rfl Try.underlying37 infoStr rfl (by decide) (by decide) (.slice Ar (extR MS toldL s).length cr) (extR MS toldL s) r [.string r] (fun k => some k ≠ vo2.ownBlock) (fun k => some k ≠ vo2.ownBlock ∧ some k ≠ (Value.slice Ar (extR MS toldL s).length cr).ownBlock) rfl rfl ?aM ?aK ?aF J6.out.tolA J6.out.bel J6.out.hle ?aL ?_
                     (case aM => exact rfl)
                     (case aK => exact fun k hk => hk)
                     (case aF => exact J6.out.voL)
                     (case aL => have := HTl.out.le; have := HL.out; omega)
                     intro vt' w7 ho7 hb7 hg7
                     obtain ⟨j7, k7, ⟨A7, c7, rfl⟩, x7⟩ := J6.out.told ho7 hb7 hg7
                     have t7 := (blk_cell x7 0).trans rfl
                     have f7 := blk_frozen x7 0
                     have G7 := Aside0.mk hg7
                     have J7 := Aside0.mk j7
                     have K7 := Aside0.mk k7
                     clear ho7 hb7 hg7 j7 k7 x7))
                have hbx := blk_below HY.out.box B6.out
                have hne : some w3.heap.size ≠ (Value.slice Ar (extR MS toldL s).length cr).ownBlock := fun e => by
                  obtain ⟨_, cs, hcs⟩ := R_typed' J6.out.tol e.symm
                  rw [hbx] at hcs
                  cases hcs
                have hbx7 := (Below.heap_setCell w7 ⟨w.heap.size + 1, 0, none⟩ (.slice A7 (extR MS toldL s ++ [r]).length c7) w3.heap.size HY.out.bge).trans ((G7.out.block _ (blk_lt hbx) hne).trans hbx)
                have e1 : (extR MS toldL s ++ [r]).length = (extR MS toldL s).length + 1 := by simp
                have j7 := J7.out
                have k7 := K7.out
                rw [e1] at j7 k7 hbx7
                exact ⟨(KO_below B6.out).trans k7, ⟨⟨A7, c7, by rw [extR_snoc, HE.out, e1]; exact j7⟩, hbx7, HY.out.rd, HY.out.ko.trans ((KO_below B6.out).trans k7), HY.out.bge⟩⟩
          case done =>
            rintro D W hD hfin hK
            obtain ⟨Af, cf, hjf⟩ := hfin.j
            have HF := Aside0.mk hjf
            have HK2 := Aside0.mk hK
            have M2 := Aside0.mk (HMK.out.cons (D := D) (W := W) hfin.ko (Nat.le_trans L2.out hD) (by have h1 := L1.out; have h2 := K4.out.size; have h3 := HJ.out.tbx; have h4 := blk_lt h3; omega) hK)
            have HR := Aside0.mk (kinR_go (ms := MS) (most := most) (f := gk - 1) (out := outL) HY.out hm)
            clear hfin hK hjf hD
            go_wp2
            go_roundg (gk - 1)
            case measure => have h1 := HG0.out; have h2 := HTL.out; have h3 := HI.out; omega
            case rel =>
              have h1 := HG0.out
              have h2 := HTL.out
              have h3 := HI.out
              refine ⟨i + 1, Af, cf, outL ++ [m.f0], extR MS toldL (refsL m.f1), vo2, rfl, ⟨by omega, by rw [List.length_append, HOL.out]; rfl, ?_, HTD.out.ext, ?_, HF.out, M2.out⟩⟩
              · have := (extR_pre MS (refsL m.f1) toldL).length_le
                omega
              · rw [← HFA.out, ← HR.out, Nat.sub_add_cancel (by omega)]
                exact HSP.out
        · replace hm : (((outL.length + 1 : Nat) : Int) != most) = false := by simpa using hm
          go_wp2_with (first
            | (go_at_call 62; refine (HK1.out _ HJ.out).mono ?_; rintro e w2 hp2
               obtain ⟨vo2, rfl, j2, ko2⟩ := HJ.out.yield hp2
               rw [hm]
               have J2 := Aside0.mk j2
               have KO2 := Aside0.mk ko2
               clear j2 ko2 hp2))
          have HR := kinR_stop (ms := MS) (most := most) (f := gk - 1) (out := outL) HY.out hm
          have h1 := HG0.out
          have h2 := HTL.out
          have h3 := HI.out
          rw [Nat.sub_add_cancel (by omega), HSP.out] at HR
          refine leavesM ds w2 (HMK.out.keep KO2.out) (fun W' hW' => ?_)
          exact ⟨_, results_none rfl _ _ _, ⟨_, rfl⟩, vo2, by rw [HR]; exact J2.out.toI HWL.out hW'⟩
      · have c1' : decide ((i : Int) < (toldL.length : Int)) = false := decide_eq_false (by omega)
        have c2' : decide (i < toldL.length) = false := decide_eq_false hi
        have HR := Aside0.mk (kinR_end (ms := MS) (most := most) (f := gk - 1) (out := outL) (List.getElem?_eq_none (by omega : toldL.length ≤ i)))
        have HI := Aside0.mk hit
        clear hi hit
        go_wp2
        have hR := HR.out
        have h1 := HG0.out
        have h2 := HTL.out
        have h3 := HI.out
        rw [Nat.sub_add_cancel (by omega), HSP.out] at hR
        refine leavesM ds wr HMK.out (fun W' hW' => ?_)
        exact ⟨_, results_none rfl _ _ _, ⟨_, rfl⟩, vo', by rw [hR]; exact HJ.out.toI HWL.out hW'⟩
end Go.Proofs.Ytbpnfpckoapdbaa.M

/- The law that what is told is closed: for every schema it tells true; no conditions but those of the row. (text 4 of 7; some of it the words and functions that the kit's print and this claim's programs wrote) -/
import Derived.Test.YtbpnfpckoapdbaaQFindCloses2
import Derived.Laws.Cover1
section
namespace Go.Proofs.Ytbpnfpckoapdbaa.PF16
open Go.RowKit Go.Proofs.Ytbpnfpckoapdbaa.M Go.Proofs.Ytbpnfpckoapdbaa.KD Go.Proofs.Ytbpnfpckoapdbaa Go.Proofs.YtbpnfpckoapdbaaW.PrintWords Go.Proofs.YtbpnfpckoapdbaaW.PrintLast Go.Proofs.YtbpnfpckoapdbaaW.PrintMore
attribute [local go_sem] max2_int min2_int max_two min_two max_three min_three max_four min_four   -- for this text's walks alone
set_option linter.unusedVariables false
set_option linter.unusedSimpArgs false
mutual
def ecdysisref15_twice.l0 : Nat → List ByteArray → Bool → Int → List (S86) → List (S47) → Option (Bool)
 | 0, _, _, _, _, _ => none
 | k + 1, x3, x4, x5, x274000, x274001 => if x5 < (x274000.length : Int) then (if 0 ≤ x5 then ((some (([(rd_T86 x274000 x5).f0] : List ByteArray) : List ByteArray)).bind fun y278 => (if x3.length + y278.length < 8796093022208 then (ecdysisref15_twice.l1 k (x3 ++ y278) x4 x5 (([] : List ByteArray)) 0 x274000 x274001) else (none))) else (none)) else (ecdysisref15_twice.l2 k x3 x4 0 x274000 x274001)
def ecdysisref15_twice.l1 : Nat → List ByteArray → Bool → Int → List ByteArray → Int → List (S86) → List (S47) → Option (Bool)
 | 0, _, _, _, _, _, _, _ => none
 | k + 1, x3, x4, x5, x6, x7, x274000, x274001 => if 0 ≤ x5 then (if x5 < (x274000.length : Int) then (if x7 < (((rd_T86 x274000 x5).f1).length : Int) then (if 0 ≤ x7 then ((some (([(rd_T88 ((rd_T86 x274000 x5).f1) x7).f0] : List ByteArray) : List ByteArray)).bind fun y290 => (if x6.length + y290.length < 8796093022208 then (ecdysisref15_twice.l1 k x3 x4 x5 (x6 ++ y290) (wrap64 (x7 + 1)) x274000 x274001) else (none))) else (none)) else (if x4 = true then (ecdysisref15_twice.l0 k x3 true (wrap64 (x5 + 1)) x274000 x274001) else ((ecdysisref09_Once.f k x6).bind fun t296 => (ecdysisref15_twice.l0 k x3 (!t296) (wrap64 (x5 + 1)) x274000 x274001)))) else (none)) else (none)
def ecdysisref15_twice.l2 : Nat → List ByteArray → Bool → Int → List (S86) → List (S47) → Option (Bool)
 | 0, _, _, _, _, _ => none
 | k + 1, x3, x4, x8, x274000, x274001 => if x8 < (x274001.length : Int) then (if 0 ≤ x8 then ((some (([(rd_T47 x274001 x8).f0] : List ByteArray) : List ByteArray)).bind fun y299 => (if x3.length + y299.length < 8796093022208 then (ecdysisref15_twice.l3 k (x3 ++ y299) x4 x8 ((rd_T47 x274001 x8).f1) (([] : List ByteArray)) 0 x274000 x274001) else (none))) else (none)) else (if x4 = true then (some true) else ((ecdysisref09_Once.f k x3).bind fun t297 => (some (!t297))))
def ecdysisref15_twice.l3 : Nat → List ByteArray → Bool → Int → List (S50) → List ByteArray → Int → List (S86) → List (S47) → Option (Bool)
 | 0, _, _, _, _, _, _, _, _ => none
 | k + 1, x3, x4, x8, x9, x10, x11, x274000, x274001 => if x11 < (x9.length : Int) then (if 0 ≤ x11 then ((some (([(rd_T50 x9 x11).f0] : List ByteArray) : List ByteArray)).bind fun y310 => (if x10.length + y310.length < 8796093022208 then (ecdysisref15_twice.l3 k x3 x4 x8 x9 (x10 ++ y310) (wrap64 (x11 + 1)) x274000 x274001) else (none))) else (none)) else (if x4 = true then (ecdysisref15_twice.j4 k x3 true x8 x9 x10 x274000 x274001) else ((ecdysisref09_Once.f k x10).bind fun t316 => (ecdysisref15_twice.j4 k x3 (!t316) x8 x9 x10 x274000 x274001)))
def ecdysisref15_twice.j4 : Nat → List ByteArray → Bool → Int → List (S50) → List ByteArray → List (S86) → List (S47) → Option (Bool)
 | 0, _, _, _, _, _, _, _ => none
 | k + 1, x3, x4, x8, x9, x10, x274000, x274001 => ecdysisref15_twice.l4 k x3 x4 x8 x9 x10 0 x274000 x274001
def ecdysisref15_twice.l4 : Nat → List ByteArray → Bool → Int → List (S50) → List ByteArray → Int → List (S86) → List (S47) → Option (Bool)
 | 0, _, _, _, _, _, _, _, _ => none
 | k + 1, x3, x4, x8, x9, x10, x12, x274000, x274001 => if x12 < (x9.length : Int) then (if x4 = true then (ecdysisref15_twice.l4 k x3 true x8 x9 x10 (wrap64 (x12 + 1)) x274000 x274001) else (if 0 ≤ x12 then (if ((rd_T50 x9 x12).f6).toList = ([] : List UInt8) then (ecdysisref15_twice.l4 k x3 false x8 x9 x10 (wrap64 (x12 + 1)) x274000 x274001) else ((some (([] : List ByteArray) : List ByteArray)).bind fun y318 => (if y318.length + x10.length < 8796093022208 then ((some (y318 ++ x10 : List ByteArray)).bind fun y321 => ((some (([(rd_T50 x9 x12).f6] : List ByteArray) : List ByteArray)).bind fun y325 => (if y321.length + y325.length < 8796093022208 then ((ecdysisref09_Once.f k (y321 ++ y325)).bind fun t331 => (ecdysisref15_twice.l4 k x3 (!t331) x8 x9 x10 (wrap64 (x12 + 1)) x274000 x274001)) else (none)))) else (none)))) else (none))) else (ecdysisref15_twice.l2 k x3 x4 (wrap64 (x8 + 1)) x274000 x274001)
end
def ecdysisref15_twice.f (k : Nat) (l0_0 : List (S86)) (l0_1 : List (S47)) : Option (Bool) := ecdysisref15_twice.l0 k (([] : List ByteArray)) false 0 l0_0 l0_1
def ecdysisref15_twice.T27 : Bool × List (List Nat × List Nat) := (true, [([], []), ([0], [0]), ([1], [1]), ([1], [1]), ([2, 3, 1], [1, 2, 3]), ([4, 1], [1, 4]), ([5, 1], [1, 5]), ([6, 1], [1, 6]), ([7, 1, 1], [1, 7]), ([8], [8]), ([8], [8]), ([9, 10, 8, 8], [8, 9, 10]), ([8], [8]), ([8], [8]), ([12, 13, 8], [8, 12, 13]), ([14, 8], [8, 14]), ([15, 8], [8, 15]), ([16, 8], [8, 16]), ([11, 17, 11, 8], [8, 11, 17]), ([18, 18, 8], [8, 18]), ([19, 8], [8, 19]), ([8, 20, 1], [1, 8, 20]), ([1, 21], [1, 21]), ([22, 19, 0, 1, 2, 3, 4, 5, 6, 7, 8, 9, 10, 11, 12, 13, 14, 15, 16, 17, 18, 19, 20, 21, 22], [0, 22])])
def ecdysisref15_twice.B27 : List Nat := [0, 1, 3, 3, 15, 31, 63, 127, 255, 511, 511, 2047, 511, 511, 12799, 29183, 61951, 127487, 262143, 524287, 1048575, 2097151, 4194303, 8388607]
theorem ecdysisref15_twice.tab27 : rtab .any (opsOf Try.f67 27) = ecdysisref15_twice.T27 := by kernel_rfl
theorem ecdysisref15_twice.bits27 : waitsOk ecdysisref15_twice.T27.2 ecdysisref15_twice.B27 = true := by kernel_rfl
set_option maxHeartbeats 8000000 in
set_option maxRecDepth 100000 in
theorem ecdysisref15_twice.calls (k : Nat) (A0_0 : Option Addr) (c0_0 : Nat) (l0_0 : List (S86)) (A0_1 : Option Addr) (c0_1 : Nat) (l0_1 : List (S47)) (r : Bool) (w : World) (hr0_0 : Kd.C k86 w A0_0 l0_0.length l0_0) (hc0_0 : l0_0.length ≤ c0_0) (hr0_1 : Kd.C k47 w A0_1 l0_1.length l0_1) (hc0_1 : l0_1.length ≤ c0_1) (h : ecdysisref15_twice.f k l0_0 l0_1 = some r) :
  Calls Try.prog 67 #[.agg #[.slice A0_0 l0_0.length c0_0, .slice A0_1 l0_1.length c0_1]] w fun e w' => e = .returned (.bool r) ∧ Below w.heap.size w w' := by
 have hu35 := Try.underlying35
 have HR0_0 := Aside0.mk hr0_0
 have HC0_0 := Aside0.mk hc0_0
 clear hr0_0 hc0_0
 have HR0_1 := Aside0.mk hr0_1
 have HC0_1 := Aside0.mk hc0_1
 clear hr0_1 hc0_1
 have HB := Aside0.mk (Below.refl w.heap.size w)
 have H : (ecdysisref15_twice.l0 k (([] : List ByteArray)) false 0 l0_0 l0_1) = some r := h
 clear h
 obtain ⟨y274, hy274⟩ : ∃ y_ : List ByteArray, y_ = (([] : List ByteArray)) := ⟨_, rfl⟩
 replace H : (ecdysisref15_twice.l0 k y274 false 0 l0_0 l0_1) = some r := by first | (rw [hy274]; with_reducible exact H) 
 have Ny274 := Aside0.mk hy274
 clear hy274
 have H' := Aside0.mk H
 clear H
 go_enter Try.func67, Try.ntmps67
 go_wp2_with (first | ((with_reducible refine gate_dst (N := 1) rfl ?_); (try (refine gate_guard (by rfl) ?_; dsimp only)); refine box_event ?hg (N := 1) ?hd (cs := #[.slice A0_0 l0_0.length c0_0, .slice A0_1 l0_1.length c0_1]) (t := 35) ?hr ?_; (case hd => rfl); (case hg => rfl); (case hr => first | (go_simp; done) | (go_simp; rfl)); intro gb273 hg w2 hbox hb; have n0_ := Aside0.mk (below_step HB.out hb); have n1_ := Aside0.mk (hbox); clear HB; have HB := n0_; have BK273 := n1_; clear n0_ n1_; clear hb hbox hg) | ((with_reducible refine gate_dst (N := 13) rfl ?_); (try (refine gate_guard (by rfl) ?_; dsimp only)); refine Kd.R_lit Kd.string _ 9 ?hg (N := 13) ?hd (xs := ([] : List ByteArray)) (inner := []) (ok := fun _ => True) (okp := fun _ => True) ?hr ?hp (fun _ hk => hk) trivial (Below.refl _ _) (Nat.le_refl _) (by simp) ?_; (case hd => rfl); (case hg => rfl); (case hr => first | (go_simp; done) | (go_simp; rfl)); (case hp => exact (Reps.none _ _)); intro v275 w3 ho4 hb hg_ hnew_; clear hg_ hnew_; (first | rw [← Ny274.out] at ho4 ); have n0_ := Aside0.mk (Kd.R_lower ho4 (below_size HB.out)); have n1_ := Aside0.mk (blk_below BK273.out hb); have n2_ := Aside0.mk (below_step HB.out hb); clear BK273; clear HB; have HO276 := n0_; have BK273 := n1_; have HB := n2_; clear n0_ n1_ n2_; clear hb ho4))
 go_loopg [3, 4, 5] k (fun kq v3 v4 v5 w' => ∃ (x3_1 : List ByteArray) (x4_1 : Bool) (x5_1 : Int), v4 = .bool x4_1 ∧ v5 = .int .i64 x5_1 ∧ Aside0 (ecdysisref15_twice.l0 kq x3_1 x4_1 x5_1 l0_0 l0_1 = some r) ∧ Aside0 (kq ≤ k) ∧ Aside0 (Kd.R Kd.string 9 w' w.heap.size (fun _ => True) v3 x3_1) ∧ Aside0 (w'.heap[gb273]? = some (.cells #[(.slice A0_0 l0_0.length c0_0), (.slice A0_1 l0_1.length c0_1)] 35 (0, 0))) ∧ Aside0 (Below w.heap.size w w'))
 case atStart => exact ⟨(y274), (false), (0), (by first | rfl ), (by first | rfl ), H', ⟨Nat.le_refl _⟩, ⟨by exact HO276.out⟩, ⟨by exact BK273.out⟩, ⟨by exact HB.out⟩⟩
 case round =>
  clear H'
  try clear p2
  obtain ⟨x3_1, x4_1, x5_1, rfl, rfl, HA, HK1, HO_3, BK273, HB⟩ := hrel
  cases gk with
  | zero => exact absurd HA.out (by simp [ecdysisref15_twice.l0])
  | succ k1 =>
   have H := HA.out
   clear HA
   simp only [ecdysisref15_twice.l0] at H
   by_cases c5 : x5_1 < (l0_0.length : Int)
   · rw [if_pos c5] at H
     have c5b0 : decide (x5_1 < (l0_0.length : Int)) = true := decide_eq_true c5
     clear c5
     by_cases c6 : 0 ≤ x5_1
     · rw [if_pos c6] at H
       have c6b0 : decide (0 ≤ x5_1) = true := decide_eq_true c6
       clear c6
       obtain ⟨y278, hy278⟩ : ∃ y_ : List ByteArray, y_ = (([(rd_T86 l0_0 x5_1).f0] : List ByteArray)) := ⟨_, rfl⟩
       replace H : (if x3_1.length + y278.length < 8796093022208 then (ecdysisref15_twice.l1 k1 (x3_1 ++ y278) x4_1 x5_1 (([] : List ByteArray)) 0 l0_0 l0_1) else (none)) = some r := by first | (have H2_ := (Option.bind_some _ _).symm.trans H; rw [hy278]; with_reducible exact H2_) 
       have Ny278 := Aside0.mk hy278
       clear hy278
       by_cases c7 : x3_1.length + y278.length < 8796093022208
       · rw [if_pos c7] at H
         have LMc7 := Aside0.mk c7
         clear c7
         obtain ⟨y281, hy281⟩ : ∃ y_ : List ByteArray, y_ = (x3_1 ++ y278) := ⟨_, rfl⟩
         replace H : (ecdysisref15_twice.l1 k1 y281 x4_1 x5_1 (([] : List ByteArray)) 0 l0_0 l0_1) = some r := by first | (rw [hy281]; with_reducible exact H) 
         have Ny281 := Aside0.mk hy281
         clear hy281
         obtain ⟨y284, hy284⟩ : ∃ y_ : List ByteArray, y_ = (([] : List ByteArray)) := ⟨_, rfl⟩
         replace H : (ecdysisref15_twice.l1 k1 y281 x4_1 x5_1 y284 0 l0_0 l0_1) = some r := by first | (rw [hy284]; with_reducible exact H) 
         have Ny284 := Aside0.mk hy284
         clear hy284
         have H' := Aside0.mk H
         clear H
         have hcz8_0 : wr.cell? ⟨gb273, 0, none⟩ = some (.slice A0_0 l0_0.length c0_0) := (blk_cell BK273.out 0).trans rfl
         have hcz8_1 : wr.cell? ⟨gb273, 1, none⟩ = some (.slice A0_1 l0_1.length c0_1) := (blk_cell BK273.out 1).trans rfl
         have hfz8_0 := blk_frozen BK273.out 0
         have hfz8_1 := blk_frozen BK273.out 1
         have p277 : 0 ≤ (x5_1 : Int) := of_decide_eq_true (by first | (with_reducible assumption) )
         have q277 : x5_1 < (l0_0.length : Int) := of_decide_eq_true (by first | (with_reducible assumption) )
         obtain ⟨ad277, A277_1, c277_1, e277, hx277_0, hx277_1, hl277_1, hi277_1⟩ := at_T86 HR0_0.out x5_1 p277 q277
         cases e277
         replace hx277_0 := (HB.out.cell (World.block_lt_of_cell? w _ hx277_0)).trans hx277_0
         replace hx277_1 := (HB.out.cell (World.block_lt_of_cell? w _ hx277_1)).trans hx277_1
         have HR277_1 := Aside0.mk hi277_1
         have HC277_1 := Aside0.mk hl277_1
         clear hi277_1 hl277_1
         replace p277 := eq_true p277
         replace q277 := eq_true q277
         go_wp2_with (first | ((with_reducible refine gate_dst (N := 28) rfl ?_); (try (refine gate_guard (by rfl) ?_; dsimp only)); refine Kd.R_lit Kd.string _ 9 ?hg (N := 28) ?hd (xs := ([(rd_T86 l0_0 x5_1).f0] : List ByteArray)) (inner := [.string ((rd_T86 l0_0 x5_1).f0)]) (ok := fun _ => True) (okp := fun _ => True) ?hr ?hp (fun _ hk => hk) trivial (Below.refl _ _) (Nat.le_refl _) (by simp) ?_; (case hd => rfl); (case hg => rfl); (case hr => first | (go_simp; done) | (go_simp; rfl)); (case hp => exact (Reps.one (show Kd.M Kd.string _ _ _ ((rd_T86 l0_0 x5_1).f0) [.string ((rd_T86 l0_0 x5_1).f0)] from rfl) (Reps.none _ _))); intro v279 w9 ho10 hb hg_ hnew_; clear hg_ hnew_; (first | rw [← Ny278.out] at ho10 ); have n0_ := Aside0.mk (Kd.R_elder' HO_3.out (Kd.R_base ho10) hb); have n1_ := Aside0.mk (Kd.R_lower (Kd.R_new' ho10 (Kd.R_lt HO_3.out)) (below_size HB.out)); have n2_ := Aside0.mk (blk_below BK273.out hb); have n3_ := Aside0.mk (below_step HB.out hb); clear HO_3; clear BK273; clear HB; have HO_3 := n0_; have HO280 := n1_; have BK273 := n2_; have HB := n3_; clear n0_ n1_ n2_ n3_; clear hb ho10; obtain ⟨Ao12, co12, eo12⟩ := Kd.R_slice HO280.out; subst eo12) | ((with_reducible refine gate_builtin (b := .append) (xs := #[.tmp 21, .tmp 28]) rfl ?_); (try (refine gate_guard (by rfl) ?_; dsimp only)); at_builtin; refine Kd.R_append_rows Kd.string (w0 := w) w.heap.size rfl (.tmp 21) (.tmp 28) 37 9 (.string ⟨#[]⟩) 16 rfl Try.underlying37 info9 rfl (by decide) (by omega) u3 x3_1 y278 _ _ _ (fun k_ => some k_ ≠ (.slice Ao12 y278.length co12 : Value).ownBlock) (fun _ => False) rfl rfl ?aO ?aR (fun _ _ h => h) (fun _ h => h.elim) ?aF ?aB ?aS ?aL ?_; (case aR => repeat (first | exact (Kd.R_reads' HO280.out).2.2 )); (case aB => exact HB.out); (case aF => exact (fun k_ hk => Kd.fresh' (Kd.R_lt HO280.out) k_ hk)); (case aO => exact (by exact Kd.R_mono HO_3.out (fun _ hk => hk.2))); (case aS => exact (below_size HB.out)); (case aL => have := LMc7.out; omega); intro v282 w11 ho hb hg hat; rw [← Ny281.out] at ho; have n0_ := Aside0.mk (blk_grown (g := gb273) (o := .cells #[.slice (some ad277) l0_0.length c0_0, .slice A0_1 l0_1.length c0_1] 35 (0, 0)) BK273.out hg (Kd.R_ne HO_3.out BK273.out (by decide))); have n1_ := Aside0.mk (Kd.R_after (ok := (fun _ => True)) HO280.out hg hat); have n2_ := Aside0.mk (hb); have n3_ := Aside0.mk (ho); clear BK273; clear HO280; clear HB; clear HO_3; have BK273 := n0_; have HO280 := n1_; have HB := n2_; have HO283 := n3_; clear n0_ n1_ n2_ n3_; clear ho hb hg hat) | ((with_reducible refine gate_dst (N := 30) rfl ?_); (try (refine gate_guard (by rfl) ?_; dsimp only)); refine Kd.R_lit Kd.string _ 9 ?hg (N := 30) ?hd (xs := ([] : List ByteArray)) (inner := []) (ok := fun _ => True) (okp := fun _ => True) ?hr ?hp (fun _ hk => hk) trivial (Below.refl _ _) (Nat.le_refl _) (by simp) ?_; (case hd => rfl); (case hg => rfl); (case hr => first | (go_simp; done) | (go_simp; rfl)); (case hp => exact (Reps.none _ _)); intro v285 w13 ho14 hb hg_ hnew_; clear hg_ hnew_; (first | rw [← Ny284.out] at ho14 ); have n0_ := Aside0.mk (Kd.R_elder' HO280.out (Kd.R_base ho14) hb); have n1_ := Aside0.mk (Kd.R_elder' HO283.out (Kd.R_base ho14) hb); have n2_ := Aside0.mk (Kd.R_lower (Kd.R_new' (Kd.R_new' ho14 (Kd.R_lt HO280.out)) (Kd.R_lt HO283.out)) (below_size HB.out)); have n3_ := Aside0.mk (blk_below BK273.out hb); have n4_ := Aside0.mk (below_step HB.out hb); clear HO280; clear HO283; clear BK273; clear HB; have HO280 := n0_; have HO283 := n1_; have HO286 := n2_; have BK273 := n3_; have HB := n4_; clear n0_ n1_ n2_ n3_ n4_; clear hb ho14))
         go_loopg [6, 7] k1 (fun kq v6 v7 w' => ∃ (x6_2 : List ByteArray) (x7_2 : Int), v7 = .int .i64 x7_2 ∧ Aside0 (ecdysisref15_twice.l1 kq y281 x4_1 x5_1 x6_2 x7_2 l0_0 l0_1 = some r) ∧ Aside0 (kq ≤ k1) ∧ Aside0 (Kd.R Kd.string 9 w' w.heap.size (fun k_ => some k_ ≠ (v6 : Value).ownBlock) v282 y281) ∧ Aside0 (Kd.R Kd.string 9 w' w.heap.size (fun k_ => some k_ ≠ (v282 : Value).ownBlock) v6 x6_2) ∧ Aside0 (w'.heap[gb273]? = some (.cells #[(.slice (some ad277) l0_0.length c0_0), (.slice A0_1 l0_1.length c0_1)] 35 (0, 0))) ∧ Aside0 (Below w.heap.size w w'))
         case atStart => exact ⟨(y284), (0), (by first | rfl ), H', ⟨Nat.le_refl _⟩, ⟨by exact Kd.R_mono HO283.out (fun _ hk => hk.2)⟩, ⟨by exact Kd.R_mono HO286.out (fun _ hk => hk.2)⟩, ⟨by exact BK273.out⟩, ⟨by exact HB.out⟩⟩
         case round =>
           clear H'
           try clear c2
           try clear p2
           try clear q2
           try clear hx2
           try clear c5
           try clear c5b0
           try clear c6
           try clear c6b0
           try clear c7
           try clear hcz8_0
           try clear hcz8_1
           try clear hfz8_0
           try clear hfz8_1
           try clear hx277_0
           try clear hx277_1
           try clear p2
           try clear p277
           try clear q277
           obtain ⟨x6_2, x7_2, rfl, HA, HK2, HO_3, HO_6, BK273, HB⟩ := hrel
           cases gk with
           | zero => exact absurd HA.out (by simp [ecdysisref15_twice.l1])
           | succ k2 =>
             have H := HA.out
             clear HA
             simp only [ecdysisref15_twice.l1] at H
             by_cases c15 : 0 ≤ x5_1
             · rw [if_pos c15] at H
               have c15b0 : decide (0 ≤ x5_1) = true := decide_eq_true c15
               clear c15
               by_cases c16 : x5_1 < (l0_0.length : Int)
               · rw [if_pos c16] at H
                 have c16b0 : decide (x5_1 < (l0_0.length : Int)) = true := decide_eq_true c16
                 clear c16
                 by_cases c17 : x7_2 < (((rd_T86 l0_0 x5_1).f1).length : Int)
                 · rw [if_pos c17] at H
                   have c17b0 : decide (x7_2 < (((rd_T86 l0_0 x5_1).f1).length : Int)) = true := decide_eq_true c17
                   clear c17
                   by_cases c18 : 0 ≤ x7_2
                   · rw [if_pos c18] at H
                     have c18b0 : decide (0 ≤ x7_2) = true := decide_eq_true c18
                     clear c18
                     obtain ⟨y290, hy290⟩ : ∃ y_ : List ByteArray, y_ = (([(rd_T88 ((rd_T86 l0_0 x5_1).f1) x7_2).f0] : List ByteArray)) := ⟨_, rfl⟩
                     replace H : (if x6_2.length + y290.length < 8796093022208 then (ecdysisref15_twice.l1 k2 y281 x4_1 x5_1 (x6_2 ++ y290) (wrap64 (x7_2 + 1)) l0_0 l0_1) else (none)) = some r := by first | (have H2_ := (Option.bind_some _ _).symm.trans H; rw [hy290]; with_reducible exact H2_) 
                     have Ny290 := Aside0.mk hy290
                     clear hy290
                     by_cases c19 : x6_2.length + y290.length < 8796093022208
                     · rw [if_pos c19] at H
                       have LMc19 := Aside0.mk c19
                       clear c19
                       obtain ⟨y293, hy293⟩ : ∃ y_ : List ByteArray, y_ = (x6_2 ++ y290) := ⟨_, rfl⟩
                       replace H : (ecdysisref15_twice.l1 k2 y281 x4_1 x5_1 y293 (wrap64 (x7_2 + 1)) l0_0 l0_1) = some r := by first | (rw [hy293]; with_reducible exact H) 
                       have Ny293 := Aside0.mk hy293
                       clear hy293
                       have H' := Aside0.mk H
                       clear H
                       have hcz20_0 : wr.cell? ⟨gb273, 0, none⟩ = some (.slice (some ad277) l0_0.length c0_0) := (blk_cell BK273.out 0).trans rfl
                       have hcz20_1 : wr.cell? ⟨gb273, 1, none⟩ = some (.slice A0_1 l0_1.length c0_1) := (blk_cell BK273.out 1).trans rfl
                       have hfz20_0 := blk_frozen BK273.out 0
                       have hfz20_1 := blk_frozen BK273.out 1
                       have p287 : 0 ≤ (x5_1 : Int) := of_decide_eq_true (by first | (with_reducible assumption) )
                       have q287 : x5_1 < (l0_0.length : Int) := of_decide_eq_true (by first | (with_reducible assumption) )
                       obtain ⟨ad287, A287_1, c287_1, e287, hx287_0, hx287_1, hl287_1, hi287_1⟩ := at_T86 HR0_0.out x5_1 p287 q287
                       obtain rfl : ad277 = ad287 := (by injection e287)
                       replace hx287_0 := (HB.out.cell (World.block_lt_of_cell? w _ hx287_0)).trans hx287_0
                       replace hx287_1 := (HB.out.cell (World.block_lt_of_cell? w _ hx287_1)).trans hx287_1
                       have HR287_1 := Aside0.mk hi287_1
                       have HC287_1 := Aside0.mk hl287_1
                       clear hi287_1 hl287_1
                       replace p287 := eq_true p287
                       replace q287 := eq_true q287
                       have p288 : 0 ≤ (x5_1 : Int) := of_decide_eq_true (by first | (with_reducible assumption) )
                       have q288 : x5_1 < (l0_0.length : Int) := of_decide_eq_true (by first | (with_reducible assumption) )
                       obtain ⟨ad288, A288_1, c288_1, e288, hx288_0, hx288_1, hl288_1, hi288_1⟩ := at_T86 HR0_0.out x5_1 p288 q288
                       obtain rfl : ad277 = ad288 := (by injection e288)
                       replace hx288_0 := (HB.out.cell (World.block_lt_of_cell? w _ hx288_0)).trans hx288_0
                       replace hx288_1 := (HB.out.cell (World.block_lt_of_cell? w _ hx288_1)).trans hx288_1
                       have HR288_1 := Aside0.mk hi288_1
                       have HC288_1 := Aside0.mk hl288_1
                       clear hi288_1 hl288_1
                       replace p288 := eq_true p288
                       replace q288 := eq_true q288
                       have ea_ := Option.some.inj (hx287_1.symm.trans hx288_1)
                       injection ea_ with ea_ en_ ec_
                       subst ea_
                       subst ec_
                       clear en_
                       have p289 : 0 ≤ (x7_2 : Int) := of_decide_eq_true (by first | (with_reducible assumption) )
                       have q289 : x7_2 < (((rd_T86 l0_0 x5_1).f1).length : Int) := of_decide_eq_true (by first | (with_reducible assumption) )
                       obtain ⟨ad289, e289, hx289_0, hx289_1⟩ := at_T88 HR288_1.out x7_2 p289 q289
                       cases e289
                       replace hx289_0 := (HB.out.cell (World.block_lt_of_cell? w _ hx289_0)).trans hx289_0
                       replace hx289_1 := (HB.out.cell (World.block_lt_of_cell? w _ hx289_1)).trans hx289_1
                       replace p289 := eq_true p289
                       replace q289 := eq_true q289
                       go_wp2_with (first | ((with_reducible refine gate_dst (N := 53) rfl ?_); (try (refine gate_guard (by rfl) ?_; dsimp only)); refine Kd.R_lit Kd.string _ 9 ?hg (N := 53) ?hd (xs := ([(rd_T88 ((rd_T86 l0_0 x5_1).f1) x7_2).f0] : List ByteArray)) (inner := [.string ((rd_T88 ((rd_T86 l0_0 x5_1).f1) x7_2).f0)]) (ok := fun _ => True) (okp := fun _ => True) ?hr ?hp (fun _ hk => hk) trivial (Below.refl _ _) (Nat.le_refl _) (by simp) ?_; (case hd => rfl); (case hg => rfl); (case hr => first | (go_simp; done) | (go_simp; rfl)); (case hp => exact (Reps.one (show Kd.M Kd.string _ _ _ ((rd_T88 ((rd_T86 l0_0 x5_1).f1) x7_2).f0) [.string ((rd_T88 ((rd_T86 l0_0 x5_1).f1) x7_2).f0)] from rfl) (Reps.none _ _))); intro v291 w21 ho22 hb hg_ hnew_; clear hg_ hnew_; (first | rw [← Ny290.out] at ho22 ); have n0_ := Aside0.mk (Kd.R_elder' HO_3.out (Kd.R_base ho22) hb); have n1_ := Aside0.mk (Kd.R_elder' HO_6.out (Kd.R_base ho22) hb); have n2_ := Aside0.mk (Kd.R_lower (Kd.R_new' (Kd.R_new' ho22 (Kd.R_lt HO_3.out)) (Kd.R_lt HO_6.out)) (below_size HB.out)); have n3_ := Aside0.mk (blk_below BK273.out hb); have n4_ := Aside0.mk (below_step HB.out hb); clear HO_3; clear HO_6; clear BK273; clear HB; have HO_3 := n0_; have HO_6 := n1_; have HO292 := n2_; have BK273 := n3_; have HB := n4_; clear n0_ n1_ n2_ n3_ n4_; clear hb ho22; obtain ⟨Ao24, co24, eo24⟩ := Kd.R_slice HO292.out; subst eo24) | ((with_reducible refine gate_builtin (b := .append) (xs := #[.tmp 42, .tmp 53]) rfl ?_); (try (refine gate_guard (by rfl) ?_; dsimp only)); at_builtin; refine Kd.R_append_rows Kd.string (w0 := w) w.heap.size rfl (.tmp 42) (.tmp 53) 37 9 (.string ⟨#[]⟩) 16 rfl Try.underlying37 info9 rfl (by decide) (by omega) u6 x6_2 y290 _ _ _ (fun k_ => some k_ ≠ (v282 : Value).ownBlock ∧ some k_ ≠ (.slice Ao24 y290.length co24 : Value).ownBlock) (fun _ => False) rfl rfl ?aO ?aR (fun _ _ h => h) (fun _ h => h.elim) ?aF ?aB ?aS ?aL ?_; (case aR => repeat (first | exact (Kd.R_reads' HO292.out).2.2 )); (case aB => exact HB.out); (case aF => exact (fun k_ hk => ⟨Kd.fresh' (Kd.R_lt HO_3.out) k_ hk, Kd.fresh' (Kd.R_lt HO292.out) k_ hk⟩)); (case aO => exact HO_6.out); (case aS => exact (below_size HB.out)); (case aL => have := LMc19.out; omega); intro v294 w23 ho hb hg hat; rw [← Ny293.out] at ho; have n0_ := Aside0.mk (Kd.R_after (ok := (fun k_ => some k_ ≠ (.slice Ao24 y290.length co24 : Value).ownBlock)) (by exact Kd.R_mono HO_3.out (fun _ hk => ⟨hk.2, hk.1⟩)) hg hat); have n1_ := Aside0.mk (blk_grown (g := gb273) (o := .cells #[.slice (some ad277) l0_0.length c0_0, .slice A0_1 l0_1.length c0_1] 35 (0, 0)) BK273.out hg (Kd.R_ne HO_6.out BK273.out (by decide))); have n2_ := Aside0.mk (Kd.R_after (ok := (fun k_ => some k_ ≠ (v282 : Value).ownBlock)) (by exact Kd.R_mono HO292.out (fun _ hk => ⟨hk.1.2, hk.2⟩)) hg hat); have n3_ := Aside0.mk (hb); have n4_ := Aside0.mk (ho); clear HO_3; clear BK273; clear HO292; clear HB; clear HO_6; have HO_3 := n0_; have BK273 := n1_; have HO292 := n2_; have HB := n3_; have HO295 := n4_; clear n0_ n1_ n2_ n3_ n4_; clear ho hb hg hat))
                       go_roundg k2
                       case measure => have := HK1.out; have := HK2.out; omega
                       case rel => exact ⟨(y293), (wrap64 (x7_2 + 1)), (by first | rfl ), H', ⟨by have := HK1.out; have := HK2.out; omega⟩, ⟨by exact Kd.R_mono HO_3.out (fun _ hk => hk.2)⟩, ⟨by exact Kd.R_mono HO295.out (fun _ hk => hk.1)⟩, ⟨by exact BK273.out⟩, ⟨by exact HB.out⟩⟩
                     · rw [if_neg c19] at H
                       exact absurd H (by simp)
                   · rw [if_neg c18] at H
                     exact absurd H (by simp)
                 · rw [if_neg c17] at H
                   have c17b0 : decide (x7_2 < (((rd_T86 l0_0 x5_1).f1).length : Int)) = false := decide_eq_false c17
                   clear c17
                   by_cases c25 : x4_1 = true
                   · subst c25
                     have H1 : (ecdysisref15_twice.l0 k2 y281 true (wrap64 (x5_1 + 1)) l0_0 l0_1) = some r := by rw [if_pos rfl] at H; exact H
                     clear H
                     have H := H1
                     clear H1
                     have H' := Aside0.mk H
                     clear H
                     have hcz26_0 : wr.cell? ⟨gb273, 0, none⟩ = some (.slice (some ad277) l0_0.length c0_0) := (blk_cell BK273.out 0).trans rfl
                     have hcz26_1 : wr.cell? ⟨gb273, 1, none⟩ = some (.slice A0_1 l0_1.length c0_1) := (blk_cell BK273.out 1).trans rfl
                     have hfz26_0 := blk_frozen BK273.out 0
                     have hfz26_1 := blk_frozen BK273.out 1
                     have p287 : 0 ≤ (x5_1 : Int) := of_decide_eq_true (by first | (with_reducible assumption) )
                     have q287 : x5_1 < (l0_0.length : Int) := of_decide_eq_true (by first | (with_reducible assumption) )
                     obtain ⟨ad287, A287_1, c287_1, e287, hx287_0, hx287_1, hl287_1, hi287_1⟩ := at_T86 HR0_0.out x5_1 p287 q287
                     obtain rfl : ad277 = ad287 := (by injection e287)
                     replace hx287_0 := (HB.out.cell (World.block_lt_of_cell? w _ hx287_0)).trans hx287_0
                     replace hx287_1 := (HB.out.cell (World.block_lt_of_cell? w _ hx287_1)).trans hx287_1
                     have HR287_1 := Aside0.mk hi287_1
                     have HC287_1 := Aside0.mk hl287_1
                     clear hi287_1 hl287_1
                     replace p287 := eq_true p287
                     replace q287 := eq_true q287
                     go_wp2
                     go_roundg k2
                     case measure => have := HK1.out; have := HK2.out; omega
                     case rel => exact ⟨(y281), (true), (wrap64 (x5_1 + 1)), (by first | rfl ), (by first | rfl ), H', ⟨by have := HK1.out; have := HK2.out; omega⟩, ⟨by exact Kd.R_mono HO_3.out (fun _ hk => trivial)⟩, ⟨by exact BK273.out⟩, ⟨by exact HB.out⟩⟩
                   · replace c25 := Bool.eq_false_iff.mpr c25
                     subst c25
                     have H1 : ((ecdysisref09_Once.f k2 x6_2).bind fun t296 => (ecdysisref15_twice.l0 k2 y281 (!t296) (wrap64 (x5_1 + 1)) l0_0 l0_1)) = some r := by rw [if_neg (show ¬ (false = true) by decide)] at H; exact H
                     clear H
                     have H := H1
                     clear H1
                     replace H := Option.bind_eq_some_iff.mp H
                     obtain ⟨t296, A270, H⟩ := H
                     replace H : (ecdysisref15_twice.l0 k2 y281 (!t296) (wrap64 (x5_1 + 1)) l0_0 l0_1) = some r := H
                     have A27 := Aside0.mk A270
                     clear A270
                     have H' := Aside0.mk H
                     clear H
                     have hcz28_0 : wr.cell? ⟨gb273, 0, none⟩ = some (.slice (some ad277) l0_0.length c0_0) := (blk_cell BK273.out 0).trans rfl
                     have hcz28_1 : wr.cell? ⟨gb273, 1, none⟩ = some (.slice A0_1 l0_1.length c0_1) := (blk_cell BK273.out 1).trans rfl
                     have hfz28_0 := blk_frozen BK273.out 0
                     have hfz28_1 := blk_frozen BK273.out 1
                     have p287 : 0 ≤ (x5_1 : Int) := of_decide_eq_true (by first | (with_reducible assumption) )
                     have q287 : x5_1 < (l0_0.length : Int) := of_decide_eq_true (by first | (with_reducible assumption) )
                     obtain ⟨ad287, A287_1, c287_1, e287, hx287_0, hx287_1, hl287_1, hi287_1⟩ := at_T86 HR0_0.out x5_1 p287 q287
                     obtain rfl : ad277 = ad287 := (by injection e287)
                     replace hx287_0 := (HB.out.cell (World.block_lt_of_cell? w _ hx287_0)).trans hx287_0
                     replace hx287_1 := (HB.out.cell (World.block_lt_of_cell? w _ hx287_1)).trans hx287_1
                     have HR287_1 := Aside0.mk hi287_1
                     have HC287_1 := Aside0.mk hl287_1
                     clear hi287_1 hl287_1
                     replace p287 := eq_true p287
                     replace q287 := eq_true q287
                     obtain ⟨Ao29, co29, eo29⟩ := Kd.R_slice HO_6.out
                     subst eo29
                     go_wp2_with (first | (go_at_call 95; (with_reducible refine (ecdysisref09_Once.calls k2 _ _ x6_2 t296 _ ?side1 ?side2 A27.out).mono ?_); (case side1 => repeat (first | exact (Kd.R_reads' HO_6.out).2.2 )); (case side2 => exact (Kd.R_reads' HO_6.out).2.1); rintro e w' ⟨rfl, ⟨nd, rfl⟩⟩))
                     go_roundg k2
                     case measure => have := HK1.out; have := HK2.out; omega
                     case rel => exact ⟨(y281), (!t296), (wrap64 (x5_1 + 1)), (by first | rfl ), (by first | rfl ), H', ⟨by have := HK1.out; have := HK2.out; omega⟩, ⟨by (with_reducible repeat (first | apply Kd.R_drewN )); exact Kd.R_mono HO_3.out (fun _ hk => trivial)⟩, ⟨by (with_reducible repeat (first | refine blk_drewN ?_ _ )); exact BK273.out⟩, ⟨by repeat (first | (with_reducible first | exact HB.out | apply pw_below_drewN ) )⟩⟩
               · rw [if_neg c16] at H
                 exact absurd H (by simp)
             · rw [if_neg c15] at H
               exact absurd H (by simp)
       · rw [if_neg c7] at H
         exact absurd H (by simp)
     · rw [if_neg c6] at H
       exact absurd H (by simp)
   · rw [if_neg c5] at H
     have c5b0 : decide (x5_1 < (l0_0.length : Int)) = false := decide_eq_false c5
     clear c5
     have H' := Aside0.mk H
     clear H
     have hcz30_0 : wr.cell? ⟨gb273, 0, none⟩ = some (.slice A0_0 l0_0.length c0_0) := (blk_cell BK273.out 0).trans rfl
     have hcz30_1 : wr.cell? ⟨gb273, 1, none⟩ = some (.slice A0_1 l0_1.length c0_1) := (blk_cell BK273.out 1).trans rfl
     have hfz30_0 := blk_frozen BK273.out 0
     have hfz30_1 := blk_frozen BK273.out 1
     go_wp2
     go_loopg [3, 4, 8] k1 (fun kq v3 v4 v8 w' => ∃ (x3_2 : List ByteArray) (x4_2 : Bool) (x8_2 : Int), v4 = .bool x4_2 ∧ v8 = .int .i64 x8_2 ∧ Aside0 (ecdysisref15_twice.l2 kq x3_2 x4_2 x8_2 l0_0 l0_1 = some r) ∧ Aside0 (kq ≤ k1) ∧ Aside0 (Kd.R Kd.string 9 w' w.heap.size (fun _ => True) v3 x3_2) ∧ Aside0 (w'.heap[gb273]? = some (.cells #[(.slice A0_0 l0_0.length c0_0), (.slice A0_1 l0_1.length c0_1)] 35 (0, 0))) ∧ Aside0 (Below w.heap.size w w'))
     case atStart => exact ⟨(x3_1), (x4_1), (0), (by first | rfl ), (by first | rfl ), H', ⟨Nat.le_refl _⟩, ⟨by exact HO_3.out⟩, ⟨by exact BK273.out⟩, ⟨by exact HB.out⟩⟩
     case round =>
       clear H'
       try clear c1
       try clear c2
       try clear p2
       try clear q2
       try clear hx2
       try clear c5
       try clear c5b0
       try clear c6
       try clear c6b0
       try clear p6
       try clear c7
       try clear c15
       try clear c15b0
       try clear c16
       try clear c16b0
       try clear c17
       try clear c17b0
       try clear c18
       try clear c18b0
       try clear c19
       try clear c25
       try clear c27
       try clear p27
       try clear q27
       try clear hx27
       try clear c28
       try clear p28
       try clear q28
       try clear hx28
       try clear hcz20_0
       try clear hcz20_1
       try clear hcz26_0
       try clear hcz26_1
       try clear hcz28_0
       try clear hcz28_1
       try clear hcz30_0
       try clear hcz30_1
       try clear hcz8_0
       try clear hcz8_1
       try clear hfz20_0
       try clear hfz20_1
       try clear hfz26_0
       try clear hfz26_1
       try clear hfz28_0
       try clear hfz28_1
       try clear hfz30_0
       try clear hfz30_1
       try clear hfz8_0
       try clear hfz8_1
       try clear hx277_0
       try clear hx277_1
       try clear hx287_0
       try clear hx287_1
       try clear hx288_0
       try clear hx288_1
       try clear hx289_0
       try clear hx289_1
       try clear p2
       try clear p277
       try clear p287
       try clear p288
       try clear p289
       try clear q2
       try clear q277
       try clear q287
       try clear q288
       try clear q289
       obtain ⟨x3_2, x4_2, x8_2, rfl, rfl, HA, HK2, HO_3, BK273, HB⟩ := hrel
       cases gk with
       | zero => exact absurd HA.out (by simp [ecdysisref15_twice.l2])
       | succ k2 =>
         have H := HA.out
         clear HA
         simp only [ecdysisref15_twice.l2] at H
         by_cases c31 : x8_2 < (l0_1.length : Int)
         · rw [if_pos c31] at H
           have c31b0 : decide (x8_2 < (l0_1.length : Int)) = true := decide_eq_true c31
           clear c31
           by_cases c32 : 0 ≤ x8_2
           · rw [if_pos c32] at H
             have c32b0 : decide (0 ≤ x8_2) = true := decide_eq_true c32
             clear c32
             obtain ⟨y299, hy299⟩ : ∃ y_ : List ByteArray, y_ = (([(rd_T47 l0_1 x8_2).f0] : List ByteArray)) := ⟨_, rfl⟩
             replace H : (if x3_2.length + y299.length < 8796093022208 then (ecdysisref15_twice.l3 k2 (x3_2 ++ y299) x4_2 x8_2 ((rd_T47 l0_1 x8_2).f1) (([] : List ByteArray)) 0 l0_0 l0_1) else (none)) = some r := by first | (have H2_ := (Option.bind_some _ _).symm.trans H; rw [hy299]; with_reducible exact H2_) 
             have Ny299 := Aside0.mk hy299
             clear hy299
             by_cases c33 : x3_2.length + y299.length < 8796093022208
             · rw [if_pos c33] at H
               have LMc33 := Aside0.mk c33
               clear c33
               obtain ⟨y302, hy302⟩ : ∃ y_ : List ByteArray, y_ = (x3_2 ++ y299) := ⟨_, rfl⟩
               replace H : (ecdysisref15_twice.l3 k2 y302 x4_2 x8_2 ((rd_T47 l0_1 x8_2).f1) (([] : List ByteArray)) 0 l0_0 l0_1) = some r := by first | (rw [hy302]; with_reducible exact H) 
               have Ny302 := Aside0.mk hy302
               clear hy302
               obtain ⟨y306, hy306⟩ : ∃ y_ : List ByteArray, y_ = (([] : List ByteArray)) := ⟨_, rfl⟩
               replace H : (ecdysisref15_twice.l3 k2 y302 x4_2 x8_2 ((rd_T47 l0_1 x8_2).f1) y306 0 l0_0 l0_1) = some r := by first | (rw [hy306]; with_reducible exact H) 
               have Ny306 := Aside0.mk hy306
               clear hy306
               have H' := Aside0.mk H
               clear H
               have hcz34_0 : wr.cell? ⟨gb273, 0, none⟩ = some (.slice A0_0 l0_0.length c0_0) := (blk_cell BK273.out 0).trans rfl
               have hcz34_1 : wr.cell? ⟨gb273, 1, none⟩ = some (.slice A0_1 l0_1.length c0_1) := (blk_cell BK273.out 1).trans rfl
               have hfz34_0 := blk_frozen BK273.out 0
               have hfz34_1 := blk_frozen BK273.out 1
               have p298 : 0 ≤ (x8_2 : Int) := of_decide_eq_true (by first | (with_reducible assumption) )
               have q298 : x8_2 < (l0_1.length : Int) := of_decide_eq_true (by first | (with_reducible assumption) )
               obtain ⟨ad298, A298_1, c298_1, A298_2, c298_2, e298, hx298_0, hx298_1, hx298_2, hl298_1, hi298_1, hl298_2, hi298_2⟩ := at_T47 HR0_1.out x8_2 p298 q298
               cases e298
               replace hx298_0 := (HB.out.cell (World.block_lt_of_cell? w _ hx298_0)).trans hx298_0
               replace hx298_1 := (HB.out.cell (World.block_lt_of_cell? w _ hx298_1)).trans hx298_1
               replace hx298_2 := (HB.out.cell (World.block_lt_of_cell? w _ hx298_2)).trans hx298_2
               have HR298_1 := Aside0.mk hi298_1
               have HC298_1 := Aside0.mk hl298_1
               clear hi298_1 hl298_1
               have HR298_2 := Aside0.mk hi298_2
               have HC298_2 := Aside0.mk hl298_2
               clear hi298_2 hl298_2
               replace p298 := eq_true p298
               replace q298 := eq_true q298
               go_wp2_with (first | ((with_reducible refine gate_dst (N := 75) rfl ?_); (try (refine gate_guard (by rfl) ?_; dsimp only)); refine Kd.R_lit Kd.string _ 9 ?hg (N := 75) ?hd (xs := ([(rd_T47 l0_1 x8_2).f0] : List ByteArray)) (inner := [.string ((rd_T47 l0_1 x8_2).f0)]) (ok := fun _ => True) (okp := fun _ => True) ?hr ?hp (fun _ hk => hk) trivial (Below.refl _ _) (Nat.le_refl _) (by simp) ?_; (case hd => rfl); (case hg => rfl); (case hr => first | (go_simp; done) | (go_simp; rfl)); (case hp => exact (Reps.one (show Kd.M Kd.string _ _ _ ((rd_T47 l0_1 x8_2).f0) [.string ((rd_T47 l0_1 x8_2).f0)] from rfl) (Reps.none _ _))); intro v300 w35 ho36 hb hg_ hnew_; clear hg_ hnew_; (first | rw [← Ny299.out] at ho36 ); have n0_ := Aside0.mk (Kd.R_elder' HO_3.out (Kd.R_base ho36) hb); have n1_ := Aside0.mk (Kd.R_lower (Kd.R_new' ho36 (Kd.R_lt HO_3.out)) (below_size HB.out)); have n2_ := Aside0.mk (blk_below BK273.out hb); have n3_ := Aside0.mk (below_step HB.out hb); clear HO_3; clear BK273; clear HB; have HO_3 := n0_; have HO301 := n1_; have BK273 := n2_; have HB := n3_; clear n0_ n1_ n2_ n3_; clear hb ho36; obtain ⟨Ao38, co38, eo38⟩ := Kd.R_slice HO301.out; subst eo38) | ((with_reducible refine gate_builtin (b := .append) (xs := #[.tmp 68, .tmp 75]) rfl ?_); (try (refine gate_guard (by rfl) ?_; dsimp only)); at_builtin; refine Kd.R_append_rows Kd.string (w0 := w) w.heap.size rfl (.tmp 68) (.tmp 75) 37 9 (.string ⟨#[]⟩) 16 rfl Try.underlying37 info9 rfl (by decide) (by omega) u3 x3_2 y299 _ _ _ (fun k_ => some k_ ≠ (.slice Ao38 y299.length co38 : Value).ownBlock) (fun _ => False) rfl rfl ?aO ?aR (fun _ _ h => h) (fun _ h => h.elim) ?aF ?aB ?aS ?aL ?_; (case aR => repeat (first | exact (Kd.R_reads' HO301.out).2.2 )); (case aB => exact HB.out); (case aF => exact (fun k_ hk => Kd.fresh' (Kd.R_lt HO301.out) k_ hk)); (case aO => exact (by exact Kd.R_mono HO_3.out (fun _ hk => hk.2))); (case aS => exact (below_size HB.out)); (case aL => have := LMc33.out; omega); intro v303 w37 ho hb hg hat; rw [← Ny302.out] at ho; have n0_ := Aside0.mk (blk_grown (g := gb273) (o := .cells #[.slice A0_0 l0_0.length c0_0, .slice (some ad298) l0_1.length c0_1] 35 (0, 0)) BK273.out hg (Kd.R_ne HO_3.out BK273.out (by decide))); have n1_ := Aside0.mk (Kd.R_after (ok := (fun _ => True)) HO301.out hg hat); have n2_ := Aside0.mk (hb); have n3_ := Aside0.mk (ho); clear BK273; clear HO301; clear HB; clear HO_3; have BK273 := n0_; have HO301 := n1_; have HB := n2_; have HO304 := n3_; clear n0_ n1_ n2_ n3_; clear ho hb hg hat; have hcz39_0 : w37.cell? ⟨gb273, 0, none⟩ = some (.slice A0_0 l0_0.length c0_0) := (blk_cell BK273.out 0).trans rfl; have hcz39_1 : w37.cell? ⟨gb273, 1, none⟩ = some (.slice (some ad298) l0_1.length c0_1) := (blk_cell BK273.out 1).trans rfl; have hfz39_0 := blk_frozen BK273.out 0; have hfz39_1 := blk_frozen BK273.out 1; have p305 : 0 ≤ (x8_2 : Int) := of_decide_eq_true (by first | (with_reducible assumption) ); have q305 : x8_2 < (l0_1.length : Int) := of_decide_eq_true (by first | (with_reducible assumption) ); obtain ⟨ad305, A305_1, c305_1, A305_2, c305_2, e305, hx305_0, hx305_1, hx305_2, hl305_1, hi305_1, hl305_2, hi305_2⟩ := at_T47 HR0_1.out x8_2 p305 q305; obtain rfl : ad298 = ad305 := (by injection e305); replace hx305_0 := (HB.out.cell (World.block_lt_of_cell? w _ hx305_0)).trans hx305_0; replace hx305_1 := (HB.out.cell (World.block_lt_of_cell? w _ hx305_1)).trans hx305_1; replace hx305_2 := (HB.out.cell (World.block_lt_of_cell? w _ hx305_2)).trans hx305_2; have HR305_1 := Aside0.mk hi305_1; have HC305_1 := Aside0.mk hl305_1; clear hi305_1 hl305_1; have HR305_2 := Aside0.mk hi305_2; have HC305_2 := Aside0.mk hl305_2; clear hi305_2 hl305_2; replace p305 := eq_true p305; replace q305 := eq_true q305) | ((with_reducible refine gate_dst (N := 83) rfl ?_); (try (refine gate_guard (by rfl) ?_; dsimp only)); refine Kd.R_lit Kd.string _ 9 ?hg (N := 83) ?hd (xs := ([] : List ByteArray)) (inner := []) (ok := fun _ => True) (okp := fun _ => True) ?hr ?hp (fun _ hk => hk) trivial (Below.refl _ _) (Nat.le_refl _) (by simp) ?_; (case hd => rfl); (case hg => rfl); (case hr => first | (go_simp; done) | (go_simp; rfl)); (case hp => exact (Reps.none _ _)); intro v307 w40 ho41 hb hg_ hnew_; clear hg_ hnew_; (first | rw [← Ny306.out] at ho41 ); have n0_ := Aside0.mk (Kd.R_elder' HO301.out (Kd.R_base ho41) hb); have n1_ := Aside0.mk (Kd.R_elder' HO304.out (Kd.R_base ho41) hb); have n2_ := Aside0.mk (Kd.R_lower (Kd.R_new' (Kd.R_new' ho41 (Kd.R_lt HO301.out)) (Kd.R_lt HO304.out)) (below_size HB.out)); have n3_ := Aside0.mk (blk_below BK273.out hb); have n4_ := Aside0.mk (below_step HB.out hb); clear HO301; clear HO304; clear BK273; clear HB; have HO301 := n0_; have HO304 := n1_; have HO308 := n2_; have BK273 := n3_; have HB := n4_; clear n0_ n1_ n2_ n3_ n4_; clear hb ho41))
               go_loopg [10, 11] k2 (fun kq v10 v11 w' => ∃ (x10_3 : List ByteArray) (x11_3 : Int), v11 = .int .i64 x11_3 ∧ Aside0 (ecdysisref15_twice.l3 kq y302 x4_2 x8_2 ((rd_T47 l0_1 x8_2).f1) x10_3 x11_3 l0_0 l0_1 = some r) ∧ Aside0 (kq ≤ k2) ∧ Aside0 (Kd.R Kd.string 9 w' w.heap.size (fun k_ => some k_ ≠ (v10 : Value).ownBlock) v303 y302) ∧ Aside0 (Kd.R Kd.string 9 w' w.heap.size (fun k_ => some k_ ≠ (v303 : Value).ownBlock) v10 x10_3) ∧ Aside0 (w'.heap[gb273]? = some (.cells #[(.slice A0_0 l0_0.length c0_0), (.slice (some ad298) l0_1.length c0_1)] 35 (0, 0))) ∧ Aside0 (Below w.heap.size w w'))
               case atStart => exact ⟨(y306), (0), (by first | rfl ), H', ⟨Nat.le_refl _⟩, ⟨by exact Kd.R_mono HO304.out (fun _ hk => hk.2)⟩, ⟨by exact Kd.R_mono HO308.out (fun _ hk => hk.2)⟩, ⟨by exact BK273.out⟩, ⟨by exact HB.out⟩⟩
               case round =>
                 clear H'
                 try clear c1
                 try clear c2
                 try clear p2
                 try clear q2
                 try clear hx2
                 try clear c3
                 try clear p3
                 try clear q3
                 try clear hx3
                 try clear c5
                 try clear c5b0
                 try clear c6
                 try clear c6b0
                 try clear p6
                 try clear c7
                 try clear c15
                 try clear c15b0
                 try clear c16
                 try clear c16b0
                 try clear c17
                 try clear c17b0
                 try clear c18
                 try clear c18b0
                 try clear c19
                 try clear c25
                 try clear c27
                 try clear p27
                 try clear q27
                 try clear hx27
                 try clear c28
                 try clear p28
                 try clear q28
                 try clear hx28
                 try clear c29
                 try clear p29
                 try clear q29
                 try clear hx29
                 try clear c30
                 try clear p30
                 try clear q30
                 try clear hx30
                 try clear c31
                 try clear c31b0
                 try clear c32
                 try clear c32b0
                 try clear c33
                 try clear hcz20_0
                 try clear hcz20_1
                 try clear hcz26_0
                 try clear hcz26_1
                 try clear hcz28_0
                 try clear hcz28_1
                 try clear hcz30_0
                 try clear hcz30_1
                 try clear hcz34_0
                 try clear hcz34_1
                 try clear hcz39_0
                 try clear hcz39_1
                 try clear hcz8_0
                 try clear hcz8_1
                 try clear hfz20_0
                 try clear hfz20_1
                 try clear hfz26_0
                 try clear hfz26_1
                 try clear hfz28_0
                 try clear hfz28_1
                 try clear hfz30_0
                 try clear hfz30_1
                 try clear hfz34_0
                 try clear hfz34_1
                 try clear hfz39_0
                 try clear hfz39_1
                 try clear hfz8_0
                 try clear hfz8_1
                 try clear hx277_0
                 try clear hx277_1
                 try clear hx287_0
                 try clear hx287_1
                 try clear hx288_0
                 try clear hx288_1
                 try clear hx289_0
                 try clear hx289_1
                 try clear hx298_0
                 try clear hx298_1
                 try clear hx298_2
                 try clear hx305_0
                 try clear hx305_1
                 try clear hx305_2
                 try clear p2
                 try clear p27
                 try clear p277
                 try clear p28
                 try clear p287
                 try clear p288
                 try clear p289
                 try clear p298
                 try clear p305
                 try clear p6
                 try clear q2
                 try clear q27
                 try clear q277
                 try clear q28
                 try clear q287
                 try clear q288
                 try clear q289
                 try clear q298
                 try clear q305
                 obtain ⟨x10_3, x11_3, rfl, HA, HK3, HO_3, HO_10, BK273, HB⟩ := hrel
                 cases gk with
                 | zero => exact absurd HA.out (by simp [ecdysisref15_twice.l3])
                 | succ k3 =>
                   have H := HA.out
                   clear HA
                   simp only [ecdysisref15_twice.l3] at H
                   by_cases c42 : x11_3 < (((rd_T47 l0_1 x8_2).f1).length : Int)
                   · rw [if_pos c42] at H
                     have c42b0 : decide (x11_3 < (((rd_T47 l0_1 x8_2).f1).length : Int)) = true := decide_eq_true c42
                     clear c42
                     by_cases c43 : 0 ≤ x11_3
                     · rw [if_pos c43] at H
                       have c43b0 : decide (0 ≤ x11_3) = true := decide_eq_true c43
                       clear c43
                       obtain ⟨y310, hy310⟩ : ∃ y_ : List ByteArray, y_ = (([(rd_T50 ((rd_T47 l0_1 x8_2).f1) x11_3).f0] : List ByteArray)) := ⟨_, rfl⟩
                       replace H : (if x10_3.length + y310.length < 8796093022208 then (ecdysisref15_twice.l3 k3 y302 x4_2 x8_2 ((rd_T47 l0_1 x8_2).f1) (x10_3 ++ y310) (wrap64 (x11_3 + 1)) l0_0 l0_1) else (none)) = some r := by first | (have H2_ := (Option.bind_some _ _).symm.trans H; rw [hy310]; with_reducible exact H2_) 
                       have Ny310 := Aside0.mk hy310
                       clear hy310
                       by_cases c44 : x10_3.length + y310.length < 8796093022208
                       · rw [if_pos c44] at H
                         have LMc44 := Aside0.mk c44
                         clear c44
                         obtain ⟨y313, hy313⟩ : ∃ y_ : List ByteArray, y_ = (x10_3 ++ y310) := ⟨_, rfl⟩
                         replace H : (ecdysisref15_twice.l3 k3 y302 x4_2 x8_2 ((rd_T47 l0_1 x8_2).f1) y313 (wrap64 (x11_3 + 1)) l0_0 l0_1) = some r := by first | (rw [hy313]; with_reducible exact H) 
                         have Ny313 := Aside0.mk hy313
                         clear hy313
                         have H' := Aside0.mk H
                         clear H
                         have p309 : 0 ≤ (x11_3 : Int) := of_decide_eq_true (by first | (with_reducible assumption) )
                         have q309 : x11_3 < (((rd_T47 l0_1 x8_2).f1).length : Int) := of_decide_eq_true (by first | (with_reducible assumption) )
                         obtain ⟨ad309, e309, hx309_0, hx309_1, hx309_2, hx309_3, hx309_4, hx309_5, hx309_6⟩ := at_T50 HR305_1.out x11_3 p309 q309
                         cases e309
                         replace hx309_0 := (HB.out.cell (World.block_lt_of_cell? w _ hx309_0)).trans hx309_0
                         replace hx309_1 := (HB.out.cell (World.block_lt_of_cell? w _ hx309_1)).trans hx309_1
                         replace hx309_2 := (HB.out.cell (World.block_lt_of_cell? w _ hx309_2)).trans hx309_2
                         replace hx309_3 := (HB.out.cell (World.block_lt_of_cell? w _ hx309_3)).trans hx309_3
                         replace hx309_4 := (HB.out.cell (World.block_lt_of_cell? w _ hx309_4)).trans hx309_4
                         replace hx309_5 := (HB.out.cell (World.block_lt_of_cell? w _ hx309_5)).trans hx309_5
                         replace hx309_6 := (HB.out.cell (World.block_lt_of_cell? w _ hx309_6)).trans hx309_6
                         replace p309 := eq_true p309
                         replace q309 := eq_true q309
                         go_wp2_with (first | ((with_reducible refine gate_dst (N := 96) rfl ?_); (try (refine gate_guard (by rfl) ?_; dsimp only)); refine Kd.R_lit Kd.string _ 9 ?hg (N := 96) ?hd (xs := ([(rd_T50 ((rd_T47 l0_1 x8_2).f1) x11_3).f0] : List ByteArray)) (inner := [.string ((rd_T50 ((rd_T47 l0_1 x8_2).f1) x11_3).f0)]) (ok := fun _ => True) (okp := fun _ => True) ?hr ?hp (fun _ hk => hk) trivial (Below.refl _ _) (Nat.le_refl _) (by simp) ?_; (case hd => rfl); (case hg => rfl); (case hr => first | (go_simp; done) | (go_simp; rfl)); (case hp => exact (Reps.one (show Kd.M Kd.string _ _ _ ((rd_T50 ((rd_T47 l0_1 x8_2).f1) x11_3).f0) [.string ((rd_T50 ((rd_T47 l0_1 x8_2).f1) x11_3).f0)] from rfl) (Reps.none _ _))); intro v311 w45 ho46 hb hg_ hnew_; clear hg_ hnew_; (first | rw [← Ny310.out] at ho46 ); have n0_ := Aside0.mk (Kd.R_elder' HO_3.out (Kd.R_base ho46) hb); have n1_ := Aside0.mk (Kd.R_elder' HO_10.out (Kd.R_base ho46) hb); have n2_ := Aside0.mk (Kd.R_lower (Kd.R_new' (Kd.R_new' ho46 (Kd.R_lt HO_3.out)) (Kd.R_lt HO_10.out)) (below_size HB.out)); have n3_ := Aside0.mk (blk_below BK273.out hb); have n4_ := Aside0.mk (below_step HB.out hb); clear HO_3; clear HO_10; clear BK273; clear HB; have HO_3 := n0_; have HO_10 := n1_; have HO312 := n2_; have BK273 := n3_; have HB := n4_; clear n0_ n1_ n2_ n3_ n4_; clear hb ho46; obtain ⟨Ao48, co48, eo48⟩ := Kd.R_slice HO312.out; subst eo48) | ((with_reducible refine gate_builtin (b := .append) (xs := #[.tmp 90, .tmp 96]) rfl ?_); (try (refine gate_guard (by rfl) ?_; dsimp only)); at_builtin; refine Kd.R_append_rows Kd.string (w0 := w) w.heap.size rfl (.tmp 90) (.tmp 96) 37 9 (.string ⟨#[]⟩) 16 rfl Try.underlying37 info9 rfl (by decide) (by omega) u10 x10_3 y310 _ _ _ (fun k_ => some k_ ≠ (v303 : Value).ownBlock ∧ some k_ ≠ (.slice Ao48 y310.length co48 : Value).ownBlock) (fun _ => False) rfl rfl ?aO ?aR (fun _ _ h => h) (fun _ h => h.elim) ?aF ?aB ?aS ?aL ?_; (case aR => repeat (first | exact (Kd.R_reads' HO312.out).2.2 )); (case aB => exact HB.out); (case aF => exact (fun k_ hk => ⟨Kd.fresh' (Kd.R_lt HO_3.out) k_ hk, Kd.fresh' (Kd.R_lt HO312.out) k_ hk⟩)); (case aO => exact HO_10.out); (case aS => exact (below_size HB.out)); (case aL => have := LMc44.out; omega); intro v314 w47 ho hb hg hat; rw [← Ny313.out] at ho; have n0_ := Aside0.mk (Kd.R_after (ok := (fun k_ => some k_ ≠ (.slice Ao48 y310.length co48 : Value).ownBlock)) (by exact Kd.R_mono HO_3.out (fun _ hk => ⟨hk.2, hk.1⟩)) hg hat); have n1_ := Aside0.mk (blk_grown (g := gb273) (o := .cells #[.slice A0_0 l0_0.length c0_0, .slice (some ad298) l0_1.length c0_1] 35 (0, 0)) BK273.out hg (Kd.R_ne HO_10.out BK273.out (by decide))); have n2_ := Aside0.mk (Kd.R_after (ok := (fun k_ => some k_ ≠ (v303 : Value).ownBlock)) (by exact Kd.R_mono HO312.out (fun _ hk => ⟨hk.1.2, hk.2⟩)) hg hat); have n3_ := Aside0.mk (hb); have n4_ := Aside0.mk (ho); clear HO_3; clear BK273; clear HO312; clear HB; clear HO_10; have HO_3 := n0_; have BK273 := n1_; have HO312 := n2_; have HB := n3_; have HO315 := n4_; clear n0_ n1_ n2_ n3_ n4_; clear ho hb hg hat))
                         go_roundg k3
                         case measure => have := HK1.out; have := HK2.out; have := HK3.out; omega
                         case rel => exact ⟨(y313), (wrap64 (x11_3 + 1)), (by first | rfl ), H', ⟨by have := HK1.out; have := HK2.out; have := HK3.out; omega⟩, ⟨by exact Kd.R_mono HO_3.out (fun _ hk => hk.2)⟩, ⟨by exact Kd.R_mono HO315.out (fun _ hk => hk.1)⟩, ⟨by exact BK273.out⟩, ⟨by exact HB.out⟩⟩
                       · rw [if_neg c44] at H
                         exact absurd H (by simp)
                     · rw [if_neg c43] at H
                       exact absurd H (by simp)
                   · rw [if_neg c42] at H
                     have c42b0 : decide (x11_3 < (((rd_T47 l0_1 x8_2).f1).length : Int)) = false := decide_eq_false c42
                     clear c42
                     have HC49 := Aside0.mk H
                     clear H
                     go_upto_region 23 with (fail)
                     go_cut [4] (fun v4 wc => ∃ (kq : Nat) (x4_48 : Bool), v4 = .bool x4_48 ∧ Aside0 (ecdysisref15_twice.j4 kq y302 x4_48 x8_2 ((rd_T47 l0_1 x8_2).f1) x10_3 l0_0 l0_1 = some r) ∧ Aside0 (kq ≤ k3) ∧ Aside0 (Kd.R Kd.string 9 wc w.heap.size (fun k_ => some k_ ≠ (u10 : Value).ownBlock) v303 y302) ∧ Aside0 (Kd.R Kd.string 9 wc w.heap.size (fun k_ => some k_ ≠ (v303 : Value).ownBlock) u10 x10_3) ∧ Aside0 (wc.heap[gb273]? = some (.cells #[(.slice A0_0 l0_0.length c0_0), (.slice (some ad298) l0_1.length c0_1)] 35 (0, 0))) ∧ Aside0 (Below w.heap.size w wc))
                     case first =>
                       have H := HC49.out
                       clear HC49
                       by_cases c50 : x4_2 = true
                       · subst c50
                         have H1 : (ecdysisref15_twice.j4 k3 y302 true x8_2 ((rd_T47 l0_1 x8_2).f1) x10_3 l0_0 l0_1) = some r := by rw [if_pos rfl] at H; exact H
                         clear H
                         have H := H1
                         clear H1
                         have H' := Aside0.mk H
                         clear H
                         go_wp2
                         go_meet
                         case rel => exact ⟨_, (true), (by first | rfl ), H', ⟨by have := HK1.out; have := HK2.out; have := HK3.out; first | omega | exact Nat.le_refl _⟩, ⟨by exact HO_3.out⟩, ⟨by exact HO_10.out⟩, ⟨by exact BK273.out⟩, ⟨by exact HB.out⟩⟩
                       · replace c50 := Bool.eq_false_iff.mpr c50
                         subst c50
                         have H1 : ((ecdysisref09_Once.f k3 x10_3).bind fun t316 => (ecdysisref15_twice.j4 k3 y302 (!t316) x8_2 ((rd_T47 l0_1 x8_2).f1) x10_3 l0_0 l0_1)) = some r := by rw [if_neg (show ¬ (false = true) by decide)] at H; exact H
                         clear H
                         have H := H1
                         clear H1
                         replace H := Option.bind_eq_some_iff.mp H
                         obtain ⟨t316, A510, H⟩ := H
                         replace H : (ecdysisref15_twice.j4 k3 y302 (!t316) x8_2 ((rd_T47 l0_1 x8_2).f1) x10_3 l0_0 l0_1) = some r := H
                         have A51 := Aside0.mk A510
                         clear A510
                         have H' := Aside0.mk H
                         clear H
                         obtain ⟨Ao52, co52, eo52⟩ := Kd.R_slice HO_10.out
                         subst eo52
                         go_wp2_with (first | (go_at_call 95; (with_reducible refine (ecdysisref09_Once.calls k3 _ _ x10_3 t316 _ ?side1 ?side2 A51.out).mono ?_); (case side1 => repeat (first | exact (Kd.R_reads' HO_10.out).2.2 )); (case side2 => exact (Kd.R_reads' HO_10.out).2.1); rintro e w' ⟨rfl, ⟨nd, rfl⟩⟩))
                         go_meet
                         case rel => exact ⟨_, (!t316), (by first | rfl ), H', ⟨by have := HK1.out; have := HK2.out; have := HK3.out; first | omega | exact Nat.le_refl _⟩, ⟨by (with_reducible repeat (first | apply Kd.R_drewN )); exact HO_3.out⟩, ⟨by (with_reducible repeat (first | apply Kd.R_drewN )); exact HO_10.out⟩, ⟨by (with_reducible repeat (first | refine blk_drewN ?_ _ )); exact BK273.out⟩, ⟨by repeat (first | (with_reducible first | exact HB.out | apply pw_below_drewN ) )⟩⟩
                     case rest =>
                       clear HC49
                       try clear c1
                       try clear c2
                       try clear p2
                       try clear q2
                       try clear hx2
                       try clear c3
                       try clear p3
                       try clear q3
                       try clear hx3
                       try clear c4
                       try clear c5
                       try clear c5b0
                       try clear c6
                       try clear c6b0
                       try clear p6
                       try clear c7
                       try clear c15
                       try clear c15b0
                       try clear c16
                       try clear c16b0
                       try clear c17
                       try clear c17b0
                       try clear c18
                       try clear c18b0
                       try clear c19
                       try clear c25
                       try clear c27
                       try clear p27
                       try clear q27
                       try clear hx27
                       try clear c28
                       try clear p28
                       try clear q28
                       try clear hx28
                       try clear c29
                       try clear p29
                       try clear q29
                       try clear hx29
                       try clear c30
                       try clear p30
                       try clear q30
                       try clear hx30
                       try clear c31
                       try clear c31b0
                       try clear c32
                       try clear c32b0
                       try clear c33
                       try clear c42
                       try clear c42b0
                       try clear c43
                       try clear c43b0
                       try clear c44
                       try clear c50
                       try clear hcz20_0
                       try clear hcz20_1
                       try clear hcz26_0
                       try clear hcz26_1
                       try clear hcz28_0
                       try clear hcz28_1
                       try clear hcz30_0
                       try clear hcz30_1
                       try clear hcz34_0
                       try clear hcz34_1
                       try clear hcz39_0
                       try clear hcz39_1
                       try clear hcz8_0
                       try clear hcz8_1
                       try clear hfz20_0
                       try clear hfz20_1
                       try clear hfz26_0
                       try clear hfz26_1
                       try clear hfz28_0
                       try clear hfz28_1
                       try clear hfz30_0
                       try clear hfz30_1
                       try clear hfz34_0
                       try clear hfz34_1
                       try clear hfz39_0
                       try clear hfz39_1
                       try clear hfz8_0
                       try clear hfz8_1
                       try clear hx277_0
                       try clear hx277_1
                       try clear hx287_0
                       try clear hx287_1
                       try clear hx288_0
                       try clear hx288_1
                       try clear hx289_0
                       try clear hx289_1
                       try clear hx298_0
                       try clear hx298_1
                       try clear hx298_2
                       try clear hx305_0
                       try clear hx305_1
                       try clear hx305_2
                       try clear hx309_0
                       try clear hx309_1
                       try clear hx309_2
                       try clear hx309_3
                       try clear hx309_4
                       try clear hx309_5
                       try clear hx309_6
                       try clear p2
                       try clear p27
                       try clear p277
                       try clear p28
                       try clear p287
                       try clear p288
                       try clear p289
                       try clear p29
                       try clear p298
                       try clear p3
                       try clear p30
                       try clear p305
                       try clear p309
                       try clear p6
                       try clear q2
                       try clear q27
                       try clear q277
                       try clear q28
                       try clear q287
                       try clear q288
                       try clear q289
                       try clear q29
                       try clear q298
                       try clear q3
                       try clear q30
                       try clear q305
                       try clear q309
                       obtain ⟨kq, x4_48, rfl, HA, HJ48, HO_3, HO_10, BK273, HB⟩ := hcut
                       cases kq with
                       | zero => exact absurd HA.out (by simp [ecdysisref15_twice.j4])
                       | succ kj48 =>
                         have H := HA.out
                         clear HA
                         simp only [ecdysisref15_twice.j4] at H
                         have H' := Aside0.mk H
                         clear H
                         go_wp2
                         go_loopg [4, 12] kj48 (fun kq v4 v12 w' => ∃ (x4_5 : Bool) (x12_5 : Int), v4 = .bool x4_5 ∧ v12 = .int .i64 x12_5 ∧ Aside0 (ecdysisref15_twice.l4 kq y302 x4_5 x8_2 ((rd_T47 l0_1 x8_2).f1) x10_3 x12_5 l0_0 l0_1 = some r) ∧ Aside0 (kq ≤ kj48) ∧ Aside0 (Kd.R Kd.string 9 w' w.heap.size (fun k_ => some k_ ≠ (u10 : Value).ownBlock) v303 y302) ∧ Aside0 (Kd.R Kd.string 9 w' w.heap.size (fun k_ => some k_ ≠ (v303 : Value).ownBlock) u10 x10_3) ∧ Aside0 (w'.heap[gb273]? = some (.cells #[(.slice A0_0 l0_0.length c0_0), (.slice (some ad298) l0_1.length c0_1)] 35 (0, 0))) ∧ Aside0 (Below w.heap.size w w'))
                         case atStart => exact ⟨(x4_48), (0), (by first | rfl ), (by first | rfl ), H', ⟨Nat.le_refl _⟩, ⟨by exact HO_3.out⟩, ⟨by exact HO_10.out⟩, ⟨by exact BK273.out⟩, ⟨by exact HB.out⟩⟩
                         case round =>
                          clear H'
                          try clear c1
                          try clear c2
                          try clear p2
                          try clear q2
                          try clear hx2
                          try clear c3
                          try clear p3
                          try clear q3
                          try clear hx3
                          try clear c4
                          try clear c5
                          try clear c5b0
                          try clear c6
                          try clear c6b0
                          try clear p6
                          try clear c7
                          try clear c15
                          try clear c15b0
                          try clear c16
                          try clear c16b0
                          try clear c17
                          try clear c17b0
                          try clear c18
                          try clear c18b0
                          try clear c19
                          try clear c25
                          try clear c27
                          try clear p27
                          try clear q27
                          try clear hx27
                          try clear c28
                          try clear p28
                          try clear q28
                          try clear hx28
                          try clear c29
                          try clear p29
                          try clear q29
                          try clear hx29
                          try clear c30
                          try clear p30
                          try clear q30
                          try clear hx30
                          try clear c31
                          try clear c31b0
                          try clear c32
                          try clear c32b0
                          try clear c33
                          try clear c42
                          try clear c42b0
                          try clear c43
                          try clear c43b0
                          try clear c44
                          try clear c50
                          try clear hcz20_0
                          try clear hcz20_1
                          try clear hcz26_0
                          try clear hcz26_1
                          try clear hcz28_0
                          try clear hcz28_1
                          try clear hcz30_0
                          try clear hcz30_1
                          try clear hcz34_0
                          try clear hcz34_1
                          try clear hcz39_0
                          try clear hcz39_1
                          try clear hcz8_0
                          try clear hcz8_1
                          try clear hfz20_0
                          try clear hfz20_1
                          try clear hfz26_0
                          try clear hfz26_1
                          try clear hfz28_0
                          try clear hfz28_1
                          try clear hfz30_0
                          try clear hfz30_1
                          try clear hfz34_0
                          try clear hfz34_1
                          try clear hfz39_0
                          try clear hfz39_1
                          try clear hfz8_0
                          try clear hfz8_1
                          try clear hx277_0
                          try clear hx277_1
                          try clear hx287_0
                          try clear hx287_1
                          try clear hx288_0
                          try clear hx288_1
                          try clear hx289_0
                          try clear hx289_1
                          try clear hx298_0
                          try clear hx298_1
                          try clear hx298_2
                          try clear hx305_0
                          try clear hx305_1
                          try clear hx305_2
                          try clear hx309_0
                          try clear hx309_1
                          try clear hx309_2
                          try clear hx309_3
                          try clear hx309_4
                          try clear hx309_5
                          try clear hx309_6
                          try clear p2
                          try clear p27
                          try clear p277
                          try clear p28
                          try clear p287
                          try clear p288
                          try clear p289
                          try clear p29
                          try clear p298
                          try clear p3
                          try clear p30
                          try clear p305
                          try clear p309
                          try clear p6
                          try clear q2
                          try clear q27
                          try clear q277
                          try clear q28
                          try clear q287
                          try clear q288
                          try clear q289
                          try clear q29
                          try clear q298
                          try clear q3
                          try clear q30
                          try clear q305
                          try clear q309
                          obtain ⟨x4_5, x12_5, rfl, rfl, HA, HK5, HO_3, HO_10, BK273, HB⟩ := hrel
                          cases gk with
                          | zero => exact absurd HA.out (by simp [ecdysisref15_twice.l4])
                          | succ k5 =>
                           have H := HA.out
                           clear HA
                           simp only [ecdysisref15_twice.l4] at H
                           by_cases c53 : x12_5 < (((rd_T47 l0_1 x8_2).f1).length : Int)
                           · rw [if_pos c53] at H
                             have c53b0 : decide (x12_5 < (((rd_T47 l0_1 x8_2).f1).length : Int)) = true := decide_eq_true c53
                             clear c53
                             by_cases c54 : x4_5 = true
                             · subst c54
                               have H1 : (ecdysisref15_twice.l4 k5 y302 true x8_2 ((rd_T47 l0_1 x8_2).f1) x10_3 (wrap64 (x12_5 + 1)) l0_0 l0_1) = some r := by rw [if_pos rfl] at H; exact H
                               clear H
                               have H := H1
                               clear H1
                               have H' := Aside0.mk H
                               clear H
                               try go_wp2
                               have n0_ := Aside0.mk (Kd.R_drew HO_3.out)
                               have n1_ := Aside0.mk (Kd.R_drew HO_10.out)
                               have n2_ := Aside0.mk (blk_drew BK273.out)
                               have n3_ := Aside0.mk (below_drew1 HB.out)
                               clear HO_3
                               clear HO_10
                               clear BK273
                               clear HB
                               have HO_3 := n0_
                               have HO_10 := n1_
                               have BK273 := n2_
                               have HB := n3_
                               clear n0_ n1_ n2_ n3_
                               refine start_ (n := 24) (S := fun w' => True) (ds := []) #[false, false, false, false, false, false, false, false, false, false, false, false, false, false, false, false, false, false, false, false, false, false, false, false] (by kernel_rfl) rfl rfl trivial (fun hHeld => ?_); refine with_tabW ecdysisref15_twice.tab27 ecdysisref15_twice.bits27 (fun HT_ HW_ => ?_)
                               generalize wr.drew = w55 at HO_3 HO_10 BK273 HB hHeld ⊢
                               refine zp 0 (zb 24 1) ?_ rfl rfl HT_ (by kernel_rfl) (fun _ _ _ h => h) rfl ?_ ?_ ?_ ?_; rotate_left; (intro w'; go_simp; with_reducible rfl); rotate_left; (simp only [zs]; rfl)
                               refine zp 1 (zb 24 3) ?_ rfl rfl HT_ (by kernel_rfl) (fun _ _ _ h => h) rfl ?_ ?_ ?_ ?_; rotate_left; (intro w'; go_simp; with_reducible rfl); rotate_left; (simp only [zs]; rfl)
                               refine zn 2 (zb 24 7) rfl rfl HT_ (by kernel_rfl) (fun _ _ _ h => h) rfl ?_ ?_ ?_; rotate_left; (simp only [zs]; rfl)
                               refine zn 3 (zb 24 15) rfl rfl HT_ (by kernel_rfl) (fun _ _ _ h => h) rfl ?_ ?_ ?_; rotate_left; (simp only [zs]; rfl)
                               refine zn 4 (zb 24 31) rfl rfl HT_ (by kernel_rfl) (fun _ _ _ h => h) rfl ?_ ?_ ?_; rotate_left; (simp only [zs]; rfl)
                               refine zn 5 (zb 24 63) rfl rfl HT_ (by kernel_rfl) (fun _ _ _ h => h) rfl ?_ ?_ ?_; rotate_left; (simp only [zs]; rfl)
                               refine zn 6 (zb 24 127) rfl rfl HT_ (by kernel_rfl) (fun _ _ _ h => h) rfl ?_ ?_ ?_; rotate_left; (simp only [zs]; rfl)
                               refine zn 7 (zb 24 255) rfl rfl HT_ (by kernel_rfl) (fun _ _ _ h => h) rfl ?_ ?_ ?_; rotate_left; (simp only [zs]; rfl)
                               refine zn 8 (zb 24 511) rfl rfl HT_ (by kernel_rfl) (fun _ _ _ h => h) rfl ?_ ?_ ?_; rotate_left; (simp only [zs]; rfl)
                               refine zn 9 (zb 24 1023) rfl rfl HT_ (by kernel_rfl) (fun _ _ _ h => h) rfl ?_ ?_ ?_; rotate_left; (simp only [zs]; rfl)
                               refine zn 10 (zb 24 2047) rfl rfl HT_ (by kernel_rfl) (fun _ _ _ h => h) rfl ?_ ?_ ?_; rotate_left; (simp only [zs]; rfl)
                               refine zn 11 (zb 24 4095) rfl rfl HT_ (by kernel_rfl) (fun _ _ _ h => h) rfl ?_ ?_ ?_; rotate_left; (simp only [zs]; rfl)
                               refine zn 12 (zb 24 8191) rfl rfl HT_ (by kernel_rfl) (fun _ _ _ h => h) rfl ?_ ?_ ?_; rotate_left; (simp only [zs]; rfl)
                               refine zn 13 (zb 24 16383) rfl rfl HT_ (by kernel_rfl) (fun _ _ _ h => h) rfl ?_ ?_ ?_; rotate_left; (simp only [zs]; rfl)
                               refine zn 14 (zb 24 32767) rfl rfl HT_ (by kernel_rfl) (fun _ _ _ h => h) rfl ?_ ?_ ?_; rotate_left; (simp only [zs]; rfl)
                               refine zn 15 (zb 24 65535) rfl rfl HT_ (by kernel_rfl) (fun _ _ _ h => h) rfl ?_ ?_ ?_; rotate_left; (simp only [zs]; rfl)
                               refine zn 16 (zb 24 131071) rfl rfl HT_ (by kernel_rfl) (fun _ _ _ h => h) rfl ?_ ?_ ?_; rotate_left; (simp only [zs]; rfl)
                               refine zn 17 (zb 24 262143) rfl rfl HT_ (by kernel_rfl) (fun _ _ _ h => h) rfl ?_ ?_ ?_; rotate_left; (simp only [zs]; rfl)
                               refine zn 18 (zb 24 524287) rfl rfl HT_ (by kernel_rfl) (fun _ _ _ h => h) rfl ?_ ?_ ?_; rotate_left; (simp only [zs]; rfl)
                               refine zn 19 (zb 24 1048575) rfl rfl HT_ (by kernel_rfl) (fun _ _ _ h => h) rfl ?_ ?_ ?_; rotate_left; (simp only [zs]; rfl)
                               refine zn 20 (zb 24 2097151) rfl rfl HT_ (by kernel_rfl) (fun _ _ _ h => h) rfl ?_ ?_ ?_; rotate_left; (simp only [zs]; rfl)
                               refine zn 21 (zb 24 4194303) rfl rfl HT_ (by kernel_rfl) (fun _ _ _ h => h) rfl ?_ ?_ ?_; rotate_left; (simp only [zs]; rfl)
                               refine zp 22 (zb 24 8388607) ?_ rfl rfl HT_ (by kernel_rfl) (fun _ _ _ h => h) rfl ?_ ?_ ?_ ?_; rotate_left; (intro w'; go_simp; with_reducible rfl); rotate_left; (simp only [zs]; rfl)
                               refine zp 23 (zb 24 16777215) ?_ rfl rfl HT_ (by kernel_rfl) (fun _ _ _ h => h) rfl ?_ ?_ ?_ ?_; rotate_left; (intro w'; go_simp; with_reducible rfl); rotate_left; (simp only [zs]; rfl)
                               refine done_ (done_of HT_.out (by kernel_rfl)) ?_
                               try go_wp2
                               go_roundg k5
                               case measure => have := HK1.out; have := HK2.out; have := HK3.out; have := HJ48.out; have := HK5.out; omega
                               case rel => exact ⟨(true), (wrap64 (x12_5 + 1)), (by first | rfl ), (by first | rfl ), H', ⟨by have := HK1.out; have := HK2.out; have := HK3.out; have := HJ48.out; have := HK5.out; omega⟩, ⟨by exact HO_3.out⟩, ⟨by exact HO_10.out⟩, ⟨by exact BK273.out⟩, ⟨by exact HB.out⟩⟩
                             · replace c54 := Bool.eq_false_iff.mpr c54
                               subst c54
                               have H1 : (if 0 ≤ x12_5 then (if ((rd_T50 ((rd_T47 l0_1 x8_2).f1) x12_5).f6).toList = ([] : List UInt8) then (ecdysisref15_twice.l4 k5 y302 false x8_2 ((rd_T47 l0_1 x8_2).f1) x10_3 (wrap64 (x12_5 + 1)) l0_0 l0_1) else ((some (([] : List ByteArray) : List ByteArray)).bind fun y318 => (if y318.length + x10_3.length < 8796093022208 then ((some (y318 ++ x10_3 : List ByteArray)).bind fun y321 => ((some (([(rd_T50 ((rd_T47 l0_1 x8_2).f1) x12_5).f6] : List ByteArray) : List ByteArray)).bind fun y325 => (if y321.length + y325.length < 8796093022208 then ((ecdysisref09_Once.f k5 (y321 ++ y325)).bind fun t331 => (ecdysisref15_twice.l4 k5 y302 (!t331) x8_2 ((rd_T47 l0_1 x8_2).f1) x10_3 (wrap64 (x12_5 + 1)) l0_0 l0_1)) else (none)))) else (none)))) else (none)) = some r := by rw [if_neg (show ¬ (false = true) by decide)] at H; exact H
                               clear H
                               have H := H1
                               clear H1
                               by_cases c56 : 0 ≤ x12_5
                               · rw [if_pos c56] at H
                                 have c56b0 : decide (0 ≤ x12_5) = true := decide_eq_true c56
                                 clear c56
                                 by_cases c57 : ((rd_T50 ((rd_T47 l0_1 x8_2).f1) x12_5).f6).toList = ([] : List UInt8)
                                 · rw [if_pos c57] at H
                                   have c57b0 : (((rd_T50 ((rd_T47 l0_1 x8_2).f1) x12_5).f6).toList == ([] : List UInt8)) = true := beq_iff_eq.mpr c57
                                   have c57b1 : (((rd_T50 ((rd_T47 l0_1 x8_2).f1) x12_5).f6).toList != ([] : List UInt8)) = false := bne_eq_false_iff_eq.mpr c57
                                   clear c57
                                   have H' := Aside0.mk H
                                   clear H
                                   try go_wp2
                                   have n0_ := Aside0.mk (Kd.R_drew HO_3.out)
                                   have n1_ := Aside0.mk (Kd.R_drew HO_10.out)
                                   have n2_ := Aside0.mk (blk_drew BK273.out)
                                   have n3_ := Aside0.mk (below_drew1 HB.out)
                                   clear HO_3
                                   clear HO_10
                                   clear BK273
                                   clear HB
                                   have HO_3 := n0_
                                   have HO_10 := n1_
                                   have BK273 := n2_
                                   have HB := n3_
                                   clear n0_ n1_ n2_ n3_
                                   have p317 : 0 ≤ (x12_5 : Int) := of_decide_eq_true (by first | (with_reducible assumption) )
                                   have q317 : x12_5 < (((rd_T47 l0_1 x8_2).f1).length : Int) := of_decide_eq_true (by first | (with_reducible assumption) )
                                   obtain ⟨ad317, e317, hx317_0, hx317_1, hx317_2, hx317_3, hx317_4, hx317_5, hx317_6⟩ := at_T50 HR305_1.out x12_5 p317 q317
                                   have hw317_6 := hx317_6
                                   have hw317_5 := hx317_5
                                   have hw317_4 := hx317_4
                                   have hw317_3 := hx317_3
                                   have hw317_2 := hx317_2
                                   have hw317_1 := hx317_1
                                   have hw317_0 := hx317_0
                                   cases e317
                                   replace hx317_0 := (HB.out.cell (World.block_lt_of_cell? w _ hx317_0)).trans hx317_0
                                   replace hx317_1 := (HB.out.cell (World.block_lt_of_cell? w _ hx317_1)).trans hx317_1
                                   replace hx317_2 := (HB.out.cell (World.block_lt_of_cell? w _ hx317_2)).trans hx317_2
                                   replace hx317_3 := (HB.out.cell (World.block_lt_of_cell? w _ hx317_3)).trans hx317_3
                                   replace hx317_4 := (HB.out.cell (World.block_lt_of_cell? w _ hx317_4)).trans hx317_4
                                   replace hx317_5 := (HB.out.cell (World.block_lt_of_cell? w _ hx317_5)).trans hx317_5
                                   replace hx317_6 := (HB.out.cell (World.block_lt_of_cell? w _ hx317_6)).trans hx317_6
                                   replace p317 := eq_true p317
                                   replace q317 := eq_true q317
                                   refine start_ (n := 24) (S := fun w' => w'.cell? (ad317.add ((x12_5).toNat * 7)) = some (.string ((rd_T50 ((rd_T47 l0_1 x8_2).f1) x12_5).f0)) ∧ w'.cell? ⟨(ad317.add ((x12_5).toNat * 7)).block, (ad317.add ((x12_5).toNat * 7)).off + 1, none⟩ = some (.int .i64 ((rd_T50 ((rd_T47 l0_1 x8_2).f1) x12_5).f1)) ∧ w'.cell? ⟨(ad317.add ((x12_5).toNat * 7)).block, (ad317.add ((x12_5).toNat * 7)).off + 2, none⟩ = some (.int .i64 ((rd_T50 ((rd_T47 l0_1 x8_2).f1) x12_5).f2)) ∧ w'.cell? ⟨(ad317.add ((x12_5).toNat * 7)).block, (ad317.add ((x12_5).toNat * 7)).off + 3, none⟩ = some (.string ((rd_T50 ((rd_T47 l0_1 x8_2).f1) x12_5).f3)) ∧ w'.cell? ⟨(ad317.add ((x12_5).toNat * 7)).block, (ad317.add ((x12_5).toNat * 7)).off + 4, none⟩ = some (.bool ((rd_T50 ((rd_T47 l0_1 x8_2).f1) x12_5).f4)) ∧ w'.cell? ⟨(ad317.add ((x12_5).toNat * 7)).block, (ad317.add ((x12_5).toNat * 7)).off + 5, none⟩ = some (.bool ((rd_T50 ((rd_T47 l0_1 x8_2).f1) x12_5).f5)) ∧ w'.cell? ⟨(ad317.add ((x12_5).toNat * 7)).block, (ad317.add ((x12_5).toNat * 7)).off + 6, none⟩ = some (.string ((rd_T50 ((rd_T47 l0_1 x8_2).f1) x12_5).f6))) (ds := []) #[false, false, false, false, false, false, false, false, false, false, false, false, false, false, false, false, false, false, false, false, false, false, false, false] (by kernel_rfl) rfl rfl ⟨((HB.out.cell (World.block_lt_of_cell? w _ hw317_0)).trans hw317_0), ((HB.out.cell (World.block_lt_of_cell? w _ hw317_1)).trans hw317_1), ((HB.out.cell (World.block_lt_of_cell? w _ hw317_2)).trans hw317_2), ((HB.out.cell (World.block_lt_of_cell? w _ hw317_3)).trans hw317_3), ((HB.out.cell (World.block_lt_of_cell? w _ hw317_4)).trans hw317_4), ((HB.out.cell (World.block_lt_of_cell? w _ hw317_5)).trans hw317_5), ((HB.out.cell (World.block_lt_of_cell? w _ hw317_6)).trans hw317_6)⟩ (fun hHeld => ?_); refine with_tabW ecdysisref15_twice.tab27 ecdysisref15_twice.bits27 (fun HT_ HW_ => ?_)
                                   generalize wr.drew = w58 at HO_3 HO_10 BK273 HB hx317_0 hx317_1 hx317_2 hx317_3 hx317_4 hx317_5 hx317_6 hHeld ⊢
                                   refine zp 0 (zb 24 1) ?_ rfl rfl HT_ (by kernel_rfl) (fun _ _ _ h => h) rfl ?_ ?_ ?_ ?_; rotate_left; (intro w'; go_simp; with_reducible rfl); rotate_left; (simp only [zs]; rfl)
                                   refine zp 1 (zb 24 3) ?_ rfl rfl HT_ (by kernel_rfl) (fun _ _ _ h => h) rfl ?_ ?_ ?_ ?_; rotate_left; (intro w'; go_simp; with_reducible rfl); rotate_left; (simp only [zs]; rfl)
                                   refine zp 2 (zb 24 7) ?_ rfl rfl HT_ (by kernel_rfl) (fun _ _ _ h => h) rfl ?_ ?_ ?_ ?_; rotate_left; (intro w'; go_simp; with_reducible rfl); rotate_left; (simp only [zs]; rfl)
                                   refine zp 3 (zb 24 15) ?_ rfl rfl HT_ (by kernel_rfl) (fun _ _ _ h => h) rfl ?_ ?_ ?_ ?_; rotate_left; (intro w'; go_simp; with_reducible rfl); rotate_left; (simp only [zs]; rfl)
                                   refine zp 4 (zb 24 31) ?_ rfl rfl HT_ (by kernel_rfl) (fun _ _ _ h => h) rfl ?_ ?_ ?_ ?_; rotate_left; (intro w'; go_simp; with_reducible rfl); rotate_left; (simp only [zs]; rfl)
                                   refine zp 5 (zb 24 63) ?_ rfl rfl HT_ (by kernel_rfl) (fun _ _ _ h => h) rfl ?_ ?_ ?_ ?_; rotate_left; (intro w'; go_simp; with_reducible rfl); rotate_left; (simp only [zs]; rfl)
                                   refine zt 6 (zb 24 127) ?_ rfl rfl HT_ HW_ (by kernel_rfl) (fun _ _ _ h => h) rfl ?_ hHeld ?_ ?_ ?_; rotate_left; (rintro w' ⟨s0, s1, s2, s3, s4, s5, s6⟩; go_simp; with_reducible rfl); rotate_left; (simp only [zs]; rfl)
                                   refine zp 7 (zb 24 255) ?_ rfl rfl HT_ (by kernel_rfl) (fun _ _ _ h => h) rfl ?_ ?_ ?_ ?_; rotate_left; (intro w'; go_simp; with_reducible rfl); rotate_left; (simp only [zs]; rfl)
                                   refine zp 8 (zb 24 511) ?_ rfl rfl HT_ (by kernel_rfl) (fun _ _ _ h => h) rfl ?_ ?_ ?_ ?_; rotate_left; (intro w'; go_simp; with_reducible rfl); rotate_left; (simp only [zs]; rfl)
                                   refine zn 9 (zb 24 1023) rfl rfl HT_ (by kernel_rfl) (fun _ _ _ h => h) rfl ?_ ?_ ?_; rotate_left; (simp only [zs]; rfl)
                                   refine zn 10 (zb 24 2047) rfl rfl HT_ (by kernel_rfl) (fun _ _ _ h => h) rfl ?_ ?_ ?_; rotate_left; (simp only [zs]; rfl)
                                   refine zn 11 (zb 24 4095) rfl rfl HT_ (by kernel_rfl) (fun _ _ _ h => h) rfl ?_ ?_ ?_; rotate_left; (simp only [zs]; rfl)
                                   refine zn 12 (zb 24 8191) rfl rfl HT_ (by kernel_rfl) (fun _ _ _ h => h) rfl ?_ ?_ ?_; rotate_left; (simp only [zs]; rfl)
                                   refine zn 13 (zb 24 16383) rfl rfl HT_ (by kernel_rfl) (fun _ _ _ h => h) rfl ?_ ?_ ?_; rotate_left; (simp only [zs]; rfl)
                                   refine zn 14 (zb 24 32767) rfl rfl HT_ (by kernel_rfl) (fun _ _ _ h => h) rfl ?_ ?_ ?_; rotate_left; (simp only [zs]; rfl)
                                   refine zn 15 (zb 24 65535) rfl rfl HT_ (by kernel_rfl) (fun _ _ _ h => h) rfl ?_ ?_ ?_; rotate_left; (simp only [zs]; rfl)
                                   refine zn 16 (zb 24 131071) rfl rfl HT_ (by kernel_rfl) (fun _ _ _ h => h) rfl ?_ ?_ ?_; rotate_left; (simp only [zs]; rfl)
                                   refine zn 17 (zb 24 262143) rfl rfl HT_ (by kernel_rfl) (fun _ _ _ h => h) rfl ?_ ?_ ?_; rotate_left; (simp only [zs]; rfl)
                                   refine zn 18 (zb 24 524287) rfl rfl HT_ (by kernel_rfl) (fun _ _ _ h => h) rfl ?_ ?_ ?_; rotate_left; (simp only [zs]; rfl)
                                   refine zn 19 (zb 24 1048575) rfl rfl HT_ (by kernel_rfl) (fun _ _ _ h => h) rfl ?_ ?_ ?_; rotate_left; (simp only [zs]; rfl)
                                   refine zn 20 (zb 24 2097151) rfl rfl HT_ (by kernel_rfl) (fun _ _ _ h => h) rfl ?_ ?_ ?_; rotate_left; (simp only [zs]; rfl)
                                   refine zp 21 (zb 24 4194303) ?_ rfl rfl HT_ (by kernel_rfl) (fun _ _ _ h => h) rfl ?_ ?_ ?_ ?_; rotate_left; (intro w'; go_simp; with_reducible rfl); rotate_left; (simp only [zs]; rfl)
                                   refine zp 22 (zb 24 8388607) ?_ rfl rfl HT_ (by kernel_rfl) (fun _ _ _ h => h) rfl ?_ ?_ ?_ ?_; rotate_left; (intro w'; go_simp; with_reducible rfl); rotate_left; (simp only [zs]; rfl)
                                   refine zp 23 (zb 24 16777215) ?_ rfl rfl HT_ (by kernel_rfl) (fun _ _ _ h => h) rfl ?_ ?_ ?_ ?_; rotate_left; (intro w'; go_simp; with_reducible rfl); rotate_left; (simp only [zs]; rfl)
                                   refine done_ (done_of HT_.out (by kernel_rfl)) ?_
                                   try go_wp2
                                   go_roundg k5
                                   case measure => have := HK1.out; have := HK2.out; have := HK3.out; have := HJ48.out; have := HK5.out; omega
                                   case rel => exact ⟨(false), (wrap64 (x12_5 + 1)), (by first | rfl ), (by first | rfl ), H', ⟨by have := HK1.out; have := HK2.out; have := HK3.out; have := HJ48.out; have := HK5.out; omega⟩, ⟨by exact HO_3.out⟩, ⟨by exact HO_10.out⟩, ⟨by exact BK273.out⟩, ⟨by exact HB.out⟩⟩
                                 · rw [if_neg c57] at H
                                   have c57b0 : (((rd_T50 ((rd_T47 l0_1 x8_2).f1) x12_5).f6).toList == ([] : List UInt8)) = false := beq_eq_false_iff_ne.mpr c57
                                   have c57b1 : (((rd_T50 ((rd_T47 l0_1 x8_2).f1) x12_5).f6).toList != ([] : List UInt8)) = true := bne_iff_ne.mpr c57
                                   obtain ⟨y318, hy318⟩ : ∃ y_ : List ByteArray, y_ = (([] : List ByteArray)) := ⟨_, rfl⟩
                                   replace H : (if y318.length + x10_3.length < 8796093022208 then ((some (y318 ++ x10_3 : List ByteArray)).bind fun y321 => ((some (([(rd_T50 ((rd_T47 l0_1 x8_2).f1) x12_5).f6] : List ByteArray) : List ByteArray)).bind fun y325 => (if y321.length + y325.length < 8796093022208 then ((ecdysisref09_Once.f k5 (y321 ++ y325)).bind fun t331 => (ecdysisref15_twice.l4 k5 y302 (!t331) x8_2 ((rd_T47 l0_1 x8_2).f1) x10_3 (wrap64 (x12_5 + 1)) l0_0 l0_1)) else (none)))) else (none)) = some r := by first | (have H2_ := (Option.bind_some _ _).symm.trans H; rw [hy318]; with_reducible exact H2_) 
                                   have Ny318 := Aside0.mk hy318
                                   clear hy318
                                   by_cases c59 : y318.length + x10_3.length < 8796093022208
                                   · rw [if_pos c59] at H
                                     have LMc59 := Aside0.mk c59
                                     clear c59
                                     obtain ⟨y321, hy321⟩ : ∃ y_ : List ByteArray, y_ = (y318 ++ x10_3) := ⟨_, rfl⟩
                                     replace H : ((some (([(rd_T50 ((rd_T47 l0_1 x8_2).f1) x12_5).f6] : List ByteArray) : List ByteArray)).bind fun y325 => (if y321.length + y325.length < 8796093022208 then ((ecdysisref09_Once.f k5 (y321 ++ y325)).bind fun t331 => (ecdysisref15_twice.l4 k5 y302 (!t331) x8_2 ((rd_T47 l0_1 x8_2).f1) x10_3 (wrap64 (x12_5 + 1)) l0_0 l0_1)) else (none))) = some r := by first | (have H2_ := (Option.bind_some _ _).symm.trans H; rw [hy321]; with_reducible exact H2_) 
                                     have Ny321 := Aside0.mk hy321
                                     clear hy321
                                     obtain ⟨y325, hy325⟩ : ∃ y_ : List ByteArray, y_ = (([(rd_T50 ((rd_T47 l0_1 x8_2).f1) x12_5).f6] : List ByteArray)) := ⟨_, rfl⟩
                                     replace H : (if y321.length + y325.length < 8796093022208 then ((ecdysisref09_Once.f k5 (y321 ++ y325)).bind fun t331 => (ecdysisref15_twice.l4 k5 y302 (!t331) x8_2 ((rd_T47 l0_1 x8_2).f1) x10_3 (wrap64 (x12_5 + 1)) l0_0 l0_1)) else (none)) = some r := by first | (have H2_ := (Option.bind_some _ _).symm.trans H; rw [hy325]; with_reducible exact H2_) 
                                     have Ny325 := Aside0.mk hy325
                                     clear hy325
                                     by_cases c60 : y321.length + y325.length < 8796093022208
                                     · rw [if_pos c60] at H
                                       have LMc60 := Aside0.mk c60
                                       clear c60
                                       obtain ⟨y328, hy328⟩ : ∃ y_ : List ByteArray, y_ = (y321 ++ y325) := ⟨_, rfl⟩
                                       replace H : ((ecdysisref09_Once.f k5 y328).bind fun t331 => (ecdysisref15_twice.l4 k5 y302 (!t331) x8_2 ((rd_T47 l0_1 x8_2).f1) x10_3 (wrap64 (x12_5 + 1)) l0_0 l0_1)) = some r := by first | (rw [hy328]; with_reducible exact H) 
                                       have Ny328 := Aside0.mk hy328
                                       clear hy328
                                       replace H := Option.bind_eq_some_iff.mp H
                                       obtain ⟨t331, A610, H⟩ := H
                                       replace H : (ecdysisref15_twice.l4 k5 y302 (!t331) x8_2 ((rd_T47 l0_1 x8_2).f1) x10_3 (wrap64 (x12_5 + 1)) l0_0 l0_1) = some r := H
                                       have A61 := Aside0.mk A610
                                       clear A610
                                       have H' := Aside0.mk H
                                       clear H
                                       obtain ⟨Ao62, co62, eo62⟩ := Kd.R_slice HO_10.out
                                       subst eo62
                                       try go_wp2
                                       have n0_ := Aside0.mk (Kd.R_drew HO_3.out)
                                       have n1_ := Aside0.mk (Kd.R_drew HO_10.out)
                                       have n2_ := Aside0.mk (blk_drew BK273.out)
                                       have n3_ := Aside0.mk (below_drew1 HB.out)
                                       clear HO_3
                                       clear HO_10
                                       clear BK273
                                       clear HB
                                       have HO_3 := n0_
                                       have HO_10 := n1_
                                       have BK273 := n2_
                                       have HB := n3_
                                       clear n0_ n1_ n2_ n3_
                                       have p317 : 0 ≤ (x12_5 : Int) := of_decide_eq_true (by first | (with_reducible assumption) )
                                       have q317 : x12_5 < (((rd_T47 l0_1 x8_2).f1).length : Int) := of_decide_eq_true (by first | (with_reducible assumption) )
                                       obtain ⟨ad317, e317, hx317_0, hx317_1, hx317_2, hx317_3, hx317_4, hx317_5, hx317_6⟩ := at_T50 HR305_1.out x12_5 p317 q317
                                       have hw317_6 := hx317_6
                                       have hw317_5 := hx317_5
                                       have hw317_4 := hx317_4
                                       have hw317_3 := hx317_3
                                       have hw317_2 := hx317_2
                                       have hw317_1 := hx317_1
                                       have hw317_0 := hx317_0
                                       cases e317
                                       replace hx317_0 := (HB.out.cell (World.block_lt_of_cell? w _ hx317_0)).trans hx317_0
                                       replace hx317_1 := (HB.out.cell (World.block_lt_of_cell? w _ hx317_1)).trans hx317_1
                                       replace hx317_2 := (HB.out.cell (World.block_lt_of_cell? w _ hx317_2)).trans hx317_2
                                       replace hx317_3 := (HB.out.cell (World.block_lt_of_cell? w _ hx317_3)).trans hx317_3
                                       replace hx317_4 := (HB.out.cell (World.block_lt_of_cell? w _ hx317_4)).trans hx317_4
                                       replace hx317_5 := (HB.out.cell (World.block_lt_of_cell? w _ hx317_5)).trans hx317_5
                                       replace hx317_6 := (HB.out.cell (World.block_lt_of_cell? w _ hx317_6)).trans hx317_6
                                       replace p317 := eq_true p317
                                       replace q317 := eq_true q317
                                       have p324 : 0 ≤ (x12_5 : Int) := of_decide_eq_true (by first | (with_reducible assumption) )
                                       have q324 : x12_5 < (((rd_T47 l0_1 x8_2).f1).length : Int) := of_decide_eq_true (by first | (with_reducible assumption) )
                                       obtain ⟨ad324, e324, hx324_0, hx324_1, hx324_2, hx324_3, hx324_4, hx324_5, hx324_6⟩ := at_T50 HR305_1.out x12_5 p324 q324
                                       have hw324_6 := hx324_6
                                       have hw324_5 := hx324_5
                                       have hw324_4 := hx324_4
                                       have hw324_3 := hx324_3
                                       have hw324_2 := hx324_2
                                       have hw324_1 := hx324_1
                                       have hw324_0 := hx324_0
                                       obtain rfl : ad317 = ad324 := (by injection e324)
                                       replace hx324_0 := (HB.out.cell (World.block_lt_of_cell? w _ hx324_0)).trans hx324_0
                                       replace hx324_1 := (HB.out.cell (World.block_lt_of_cell? w _ hx324_1)).trans hx324_1
                                       replace hx324_2 := (HB.out.cell (World.block_lt_of_cell? w _ hx324_2)).trans hx324_2
                                       replace hx324_3 := (HB.out.cell (World.block_lt_of_cell? w _ hx324_3)).trans hx324_3
                                       replace hx324_4 := (HB.out.cell (World.block_lt_of_cell? w _ hx324_4)).trans hx324_4
                                       replace hx324_5 := (HB.out.cell (World.block_lt_of_cell? w _ hx324_5)).trans hx324_5
                                       replace hx324_6 := (HB.out.cell (World.block_lt_of_cell? w _ hx324_6)).trans hx324_6
                                       replace p324 := eq_true p324
                                       replace q324 := eq_true q324
                                       refine start_ (n := 24) (S := fun w' => w'.cell? (ad317.add ((x12_5).toNat * 7)) = some (.string ((rd_T50 ((rd_T47 l0_1 x8_2).f1) x12_5).f0)) ∧ w'.cell? ⟨(ad317.add ((x12_5).toNat * 7)).block, (ad317.add ((x12_5).toNat * 7)).off + 1, none⟩ = some (.int .i64 ((rd_T50 ((rd_T47 l0_1 x8_2).f1) x12_5).f1)) ∧ w'.cell? ⟨(ad317.add ((x12_5).toNat * 7)).block, (ad317.add ((x12_5).toNat * 7)).off + 2, none⟩ = some (.int .i64 ((rd_T50 ((rd_T47 l0_1 x8_2).f1) x12_5).f2)) ∧ w'.cell? ⟨(ad317.add ((x12_5).toNat * 7)).block, (ad317.add ((x12_5).toNat * 7)).off + 3, none⟩ = some (.string ((rd_T50 ((rd_T47 l0_1 x8_2).f1) x12_5).f3)) ∧ w'.cell? ⟨(ad317.add ((x12_5).toNat * 7)).block, (ad317.add ((x12_5).toNat * 7)).off + 4, none⟩ = some (.bool ((rd_T50 ((rd_T47 l0_1 x8_2).f1) x12_5).f4)) ∧ w'.cell? ⟨(ad317.add ((x12_5).toNat * 7)).block, (ad317.add ((x12_5).toNat * 7)).off + 5, none⟩ = some (.bool ((rd_T50 ((rd_T47 l0_1 x8_2).f1) x12_5).f5)) ∧ w'.cell? ⟨(ad317.add ((x12_5).toNat * 7)).block, (ad317.add ((x12_5).toNat * 7)).off + 6, none⟩ = some (.string ((rd_T50 ((rd_T47 l0_1 x8_2).f1) x12_5).f6)) ∧ w'.cell? (ad317.add ((x12_5).toNat * 7)) = some (.string ((rd_T50 ((rd_T47 l0_1 x8_2).f1) x12_5).f0)) ∧ w'.cell? ⟨(ad317.add ((x12_5).toNat * 7)).block, (ad317.add ((x12_5).toNat * 7)).off + 1, none⟩ = some (.int .i64 ((rd_T50 ((rd_T47 l0_1 x8_2).f1) x12_5).f1)) ∧ w'.cell? ⟨(ad317.add ((x12_5).toNat * 7)).block, (ad317.add ((x12_5).toNat * 7)).off + 2, none⟩ = some (.int .i64 ((rd_T50 ((rd_T47 l0_1 x8_2).f1) x12_5).f2)) ∧ w'.cell? ⟨(ad317.add ((x12_5).toNat * 7)).block, (ad317.add ((x12_5).toNat * 7)).off + 3, none⟩ = some (.string ((rd_T50 ((rd_T47 l0_1 x8_2).f1) x12_5).f3)) ∧ w'.cell? ⟨(ad317.add ((x12_5).toNat * 7)).block, (ad317.add ((x12_5).toNat * 7)).off + 4, none⟩ = some (.bool ((rd_T50 ((rd_T47 l0_1 x8_2).f1) x12_5).f4)) ∧ w'.cell? ⟨(ad317.add ((x12_5).toNat * 7)).block, (ad317.add ((x12_5).toNat * 7)).off + 5, none⟩ = some (.bool ((rd_T50 ((rd_T47 l0_1 x8_2).f1) x12_5).f5)) ∧ w'.cell? ⟨(ad317.add ((x12_5).toNat * 7)).block, (ad317.add ((x12_5).toNat * 7)).off + 6, none⟩ = some (.string ((rd_T50 ((rd_T47 l0_1 x8_2).f1) x12_5).f6))) (ds := []) #[false, false, false, false, false, false, false, false, false, false, false, false, false, false, false, false, false, false, false, false, false, false, false, false] (by kernel_rfl) rfl rfl ⟨((HB.out.cell (World.block_lt_of_cell? w _ hw317_0)).trans hw317_0), ((HB.out.cell (World.block_lt_of_cell? w _ hw317_1)).trans hw317_1), ((HB.out.cell (World.block_lt_of_cell? w _ hw317_2)).trans hw317_2), ((HB.out.cell (World.block_lt_of_cell? w _ hw317_3)).trans hw317_3), ((HB.out.cell (World.block_lt_of_cell? w _ hw317_4)).trans hw317_4), ((HB.out.cell (World.block_lt_of_cell? w _ hw317_5)).trans hw317_5), ((HB.out.cell (World.block_lt_of_cell? w _ hw317_6)).trans hw317_6), ((HB.out.cell (World.block_lt_of_cell? w _ hw324_0)).trans hw324_0), ((HB.out.cell (World.block_lt_of_cell? w _ hw324_1)).trans hw324_1), ((HB.out.cell (World.block_lt_of_cell? w _ hw324_2)).trans hw324_2), ((HB.out.cell (World.block_lt_of_cell? w _ hw324_3)).trans hw324_3), ((HB.out.cell (World.block_lt_of_cell? w _ hw324_4)).trans hw324_4), ((HB.out.cell (World.block_lt_of_cell? w _ hw324_5)).trans hw324_5), ((HB.out.cell (World.block_lt_of_cell? w _ hw324_6)).trans hw324_6)⟩ (fun hHeld => ?_); refine with_tabW ecdysisref15_twice.tab27 ecdysisref15_twice.bits27 (fun HT_ HW_ => ?_)
                                       generalize wr.drew = w63 at HO_3 HO_10 BK273 HB hx317_0 hx317_1 hx317_2 hx317_3 hx317_4 hx317_5 hx317_6 hx324_0 hx324_1 hx324_2 hx324_3 hx324_4 hx324_5 hx324_6 hHeld ⊢
                                       refine zp 0 (zb 24 1) ?_ rfl rfl HT_ (by kernel_rfl) (fun _ _ _ h => h) rfl ?_ ?_ ?_ ?_; rotate_left; (intro w'; go_simp; with_reducible rfl); rotate_left; (simp only [zs]; rfl)
                                       refine zp 1 (zb 24 3) ?_ rfl rfl HT_ (by kernel_rfl) (fun _ _ _ h => h) rfl ?_ ?_ ?_ ?_; rotate_left; (intro w'; go_simp; with_reducible rfl); rotate_left; (simp only [zs]; rfl)
                                       refine zp 2 (zb 24 7) ?_ rfl rfl HT_ (by kernel_rfl) (fun _ _ _ h => h) rfl ?_ ?_ ?_ ?_; rotate_left; (intro w'; go_simp; with_reducible rfl); rotate_left; (simp only [zs]; rfl)
                                       refine zp 3 (zb 24 15) ?_ rfl rfl HT_ (by kernel_rfl) (fun _ _ _ h => h) rfl ?_ ?_ ?_ ?_; rotate_left; (intro w'; go_simp; with_reducible rfl); rotate_left; (simp only [zs]; rfl)
                                       refine zp 4 (zb 24 31) ?_ rfl rfl HT_ (by kernel_rfl) (fun _ _ _ h => h) rfl ?_ ?_ ?_ ?_; rotate_left; (intro w'; go_simp; with_reducible rfl); rotate_left; (simp only [zs]; rfl)
                                       refine zp 5 (zb 24 63) ?_ rfl rfl HT_ (by kernel_rfl) (fun _ _ _ h => h) rfl ?_ ?_ ?_ ?_; rotate_left; (intro w'; go_simp; with_reducible rfl); rotate_left; (simp only [zs]; rfl)
                                       refine zt 6 (zb 24 127) ?_ rfl rfl HT_ HW_ (by kernel_rfl) (fun _ _ _ h => h) rfl ?_ hHeld ?_ ?_ ?_; rotate_left; (rintro w' ⟨s0, s1, s2, s3, s4, s5, s6, s7, s8, s9, s10, s11, s12, s13⟩; go_simp; with_reducible rfl); rotate_left; (simp only [zs]; rfl)
                                       refine zp 7 (zb 24 255) ?_ rfl rfl HT_ (by kernel_rfl) (fun _ _ _ h => h) rfl ?_ ?_ ?_ ?_; rotate_left; (intro w'; go_simp; with_reducible rfl); rotate_left; (simp only [zs]; rfl)
                                       refine zp 8 (zb 24 511) ?_ rfl rfl HT_ (by kernel_rfl) (fun _ _ _ h => h) rfl ?_ ?_ ?_ ?_; rotate_left; (intro w'; go_simp; with_reducible rfl); rotate_left; (simp only [zs]; rfl)
                                       refine zp 10 (zb 24 1535) ?_ rfl rfl HT_ (by kernel_rfl) (fun _ _ _ h => h) rfl ?_ ?_ ?_ ?_; rotate_left; (intro w'; go_simp; with_reducible rfl); rotate_left; (simp only [zs]; rfl)
                                       refine zp 12 (zb 24 5631) ?_ rfl rfl HT_ (by kernel_rfl) (fun _ _ _ h => h) rfl ?_ ?_ ?_ ?_; rotate_left; (intro w'; go_simp; with_reducible rfl); rotate_left; (simp only [zs]; rfl)
                                       refine zp 13 (zb 24 13823) ?_ rfl rfl HT_ (by kernel_rfl) (fun _ _ _ h => h) rfl ?_ ?_ ?_ ?_; rotate_left; (intro w'; go_simp; with_reducible rfl); rotate_left; (simp only [zs]; rfl)
                                       refine zp 14 (zb 24 30207) ?_ rfl rfl HT_ (by kernel_rfl) (fun _ _ _ h => h) rfl ?_ ?_ ?_ ?_; rotate_left; (intro w'; go_simp; with_reducible rfl); rotate_left; (simp only [zs]; rfl)
                                       refine zp 15 (zb 24 62975) ?_ rfl rfl HT_ (by kernel_rfl) (fun _ _ _ h => h) rfl ?_ ?_ ?_ ?_; rotate_left; (intro w'; go_simp; with_reducible rfl); rotate_left; (simp only [zs]; rfl)
                                       refine zt 16 (zb 24 128511) ?_ rfl rfl HT_ HW_ (by kernel_rfl) (fun _ _ _ h => h) rfl ?_ hHeld ?_ ?_ ?_; rotate_left; (rintro w' ⟨s0, s1, s2, s3, s4, s5, s6, s7, s8, s9, s10, s11, s12, s13⟩; go_simp; with_reducible rfl); rotate_left; (simp only [zs]; rfl)
                                       refine join_ (σ := Value × Value × Value) 6 #[true, true, true, true, true, true, true, true, true, true, true, true, true, true, true, true, true, true, false, false, false, false, false, false] (fun s_ => [(119, s_.1), (121, s_.2.1), (127, s_.2.2)]) (fun s_ w' => (w'.cell? (ad317.add ((x12_5).toNat * 7)) = some (.string ((rd_T50 ((rd_T47 l0_1 x8_2).f1) x12_5).f0)) ∧ w'.cell? ⟨(ad317.add ((x12_5).toNat * 7)).block, (ad317.add ((x12_5).toNat * 7)).off + 1, none⟩ = some (.int .i64 ((rd_T50 ((rd_T47 l0_1 x8_2).f1) x12_5).f1)) ∧ w'.cell? ⟨(ad317.add ((x12_5).toNat * 7)).block, (ad317.add ((x12_5).toNat * 7)).off + 2, none⟩ = some (.int .i64 ((rd_T50 ((rd_T47 l0_1 x8_2).f1) x12_5).f2)) ∧ w'.cell? ⟨(ad317.add ((x12_5).toNat * 7)).block, (ad317.add ((x12_5).toNat * 7)).off + 3, none⟩ = some (.string ((rd_T50 ((rd_T47 l0_1 x8_2).f1) x12_5).f3)) ∧ w'.cell? ⟨(ad317.add ((x12_5).toNat * 7)).block, (ad317.add ((x12_5).toNat * 7)).off + 4, none⟩ = some (.bool ((rd_T50 ((rd_T47 l0_1 x8_2).f1) x12_5).f4)) ∧ w'.cell? ⟨(ad317.add ((x12_5).toNat * 7)).block, (ad317.add ((x12_5).toNat * 7)).off + 5, none⟩ = some (.bool ((rd_T50 ((rd_T47 l0_1 x8_2).f1) x12_5).f5)) ∧ w'.cell? ⟨(ad317.add ((x12_5).toNat * 7)).block, (ad317.add ((x12_5).toNat * 7)).off + 6, none⟩ = some (.string ((rd_T50 ((rd_T47 l0_1 x8_2).f1) x12_5).f6)) ∧ w'.cell? (ad317.add ((x12_5).toNat * 7)) = some (.string ((rd_T50 ((rd_T47 l0_1 x8_2).f1) x12_5).f0)) ∧ w'.cell? ⟨(ad317.add ((x12_5).toNat * 7)).block, (ad317.add ((x12_5).toNat * 7)).off + 1, none⟩ = some (.int .i64 ((rd_T50 ((rd_T47 l0_1 x8_2).f1) x12_5).f1)) ∧ w'.cell? ⟨(ad317.add ((x12_5).toNat * 7)).block, (ad317.add ((x12_5).toNat * 7)).off + 2, none⟩ = some (.int .i64 ((rd_T50 ((rd_T47 l0_1 x8_2).f1) x12_5).f2)) ∧ w'.cell? ⟨(ad317.add ((x12_5).toNat * 7)).block, (ad317.add ((x12_5).toNat * 7)).off + 3, none⟩ = some (.string ((rd_T50 ((rd_T47 l0_1 x8_2).f1) x12_5).f3)) ∧ w'.cell? ⟨(ad317.add ((x12_5).toNat * 7)).block, (ad317.add ((x12_5).toNat * 7)).off + 4, none⟩ = some (.bool ((rd_T50 ((rd_T47 l0_1 x8_2).f1) x12_5).f4)) ∧ w'.cell? ⟨(ad317.add ((x12_5).toNat * 7)).block, (ad317.add ((x12_5).toNat * 7)).off + 5, none⟩ = some (.bool ((rd_T50 ((rd_T47 l0_1 x8_2).f1) x12_5).f5)) ∧ w'.cell? ⟨(ad317.add ((x12_5).toNat * 7)).block, (ad317.add ((x12_5).toNat * 7)).off + 6, none⟩ = some (.string ((rd_T50 ((rd_T47 l0_1 x8_2).f1) x12_5).f6))) ∧ (Kd.R Kd.string 9 w' w.heap.size (fun k_ => some k_ ≠ (s_.2.2 : Value).ownBlock ∧ some k_ ≠ (.slice Ao62 x10_3.length co62 : Value).ownBlock ∧ some k_ ≠ (v303 : Value).ownBlock) s_.2.1 y321) ∧ (Kd.R Kd.string 9 w' w.heap.size (fun k_ => some k_ ≠ (s_.2.1 : Value).ownBlock ∧ some k_ ≠ (.slice Ao62 x10_3.length co62 : Value).ownBlock ∧ some k_ ≠ (v303 : Value).ownBlock) s_.2.2 y325) ∧ (Kd.R Kd.string 9 w' w.heap.size (fun k_ => some k_ ≠ (s_.2.1 : Value).ownBlock ∧ some k_ ≠ (s_.2.2 : Value).ownBlock ∧ some k_ ≠ (v303 : Value).ownBlock) (.slice Ao62 x10_3.length co62) x10_3) ∧ (Kd.R Kd.string 9 w' w.heap.size (fun k_ => some k_ ≠ (s_.2.1 : Value).ownBlock ∧ some k_ ≠ (s_.2.2 : Value).ownBlock ∧ some k_ ≠ (.slice Ao62 x10_3.length co62 : Value).ownBlock) v303 y302) ∧ (w'.heap[gb273]? = some (.cells #[.slice A0_0 l0_0.length c0_0, .slice (some ad298) l0_1.length c0_1] 35 (0, 0))) ∧ (Below w.heap.size w w')) ?_ ?_
                                       rotate_left
                                       · intro hCont
                                         refine two_ (i := 9) (j := 17) (Ni := some 119) (Nj := some 127) #[true, true, true, true, true, true, true, true, true, true, true, false, true, true, true, true, true, false, false, false, false, false, false, false] #[true, true, true, true, true, true, true, true, true, false, true, false, true, true, true, true, true, true, false, false, false, false, false, false] rfl rfl rfl rfl (two_of HT_.out (by kernel_rfl)) (by decide) (by decide) (fun K hK => ?_) (fun K hK => ?_)
                                         · skip
                                           refine Kd.R_lit_step Kd.string _ 9 ?hg (N := 119) ?hd (xs := ([] : List ByteArray)) (inner := []) (ok := fun _ => True) (okp := fun _ => True) ?hr ?hp (fun _ hk => hk) trivial (Below.refl _ _) (Nat.le_refl _) (by simp) ?_; (case hd => rfl); (case hg => rfl); (case hr => first | (go_simp; done) | (go_simp; rfl)); (case hp => exact (Reps.none _ _))
                                           intro v319 w64 ho65 hb hg_ hnew_
                                           clear hg_ hnew_
                                           (first | rw [← Ny318.out] at ho65 )
                                           have n0_ := Aside0.mk (Kd.R_elder' HO_3.out (Kd.R_base ho65) hb)
                                           have n1_ := Aside0.mk (Kd.R_elder' HO_10.out (Kd.R_base ho65) hb)
                                           have n2_ := Aside0.mk (Kd.R_lower (Kd.R_new' (Kd.R_new' ho65 (Kd.R_lt HO_3.out)) (Kd.R_lt HO_10.out)) (below_size HB.out))
                                           have n3_ := Aside0.mk (blk_below BK273.out hb)
                                           have n4_ := Aside0.mk (below_step HB.out hb)
                                           clear HO_3
                                           clear HO_10
                                           clear BK273
                                           clear HB
                                           have HO_3 := n0_
                                           have HO_10 := n1_
                                           have HO320 := n2_
                                           have BK273 := n3_
                                           have HB := n4_
                                           clear n0_ n1_ n2_ n3_ n4_
                                           clear hb ho65
                                           refine hK.out _ _ ⟨((HB.out.cell (World.block_lt_of_cell? w _ hw317_0)).trans hw317_0), ((HB.out.cell (World.block_lt_of_cell? w _ hw317_1)).trans hw317_1), ((HB.out.cell (World.block_lt_of_cell? w _ hw317_2)).trans hw317_2), ((HB.out.cell (World.block_lt_of_cell? w _ hw317_3)).trans hw317_3), ((HB.out.cell (World.block_lt_of_cell? w _ hw317_4)).trans hw317_4), ((HB.out.cell (World.block_lt_of_cell? w _ hw317_5)).trans hw317_5), ((HB.out.cell (World.block_lt_of_cell? w _ hw317_6)).trans hw317_6), ((HB.out.cell (World.block_lt_of_cell? w _ hw324_0)).trans hw324_0), ((HB.out.cell (World.block_lt_of_cell? w _ hw324_1)).trans hw324_1), ((HB.out.cell (World.block_lt_of_cell? w _ hw324_2)).trans hw324_2), ((HB.out.cell (World.block_lt_of_cell? w _ hw324_3)).trans hw324_3), ((HB.out.cell (World.block_lt_of_cell? w _ hw324_4)).trans hw324_4), ((HB.out.cell (World.block_lt_of_cell? w _ hw324_5)).trans hw324_5), ((HB.out.cell (World.block_lt_of_cell? w _ hw324_6)).trans hw324_6)⟩ (fun hHeld => ?_)
                                           clear hK K
                                           refine norm_ (a' := ?_) ?_ ?_
                                           rotate_left
                                           · show Act.put _ (some 119) _ = _
                                             simp only [zs]
                                             rfl
                                           refine two_ (i := 11) (j := 17) (Ni := some 121) (Nj := some 127) #[true, true, true, true, true, true, true, true, true, true, true, true, true, true, true, true, true, false, false, false, false, false, false, false] #[true, true, true, true, true, true, true, true, true, true, true, false, true, true, true, true, true, true, false, false, false, false, false, false] rfl rfl rfl rfl (two_of HT_.out (by kernel_rfl)) (by decide) (by decide) (fun K hK => ?_) (fun K hK => ?_)
                                           · skip
                                             refine Kd.R_append_rows_step Kd.string (w0 := w) w.heap.size (by rfl) (.tmp 119) (.tmp 120) 37 9 (.string ⟨#[]⟩) 16 rfl Try.underlying37 info9 rfl (by decide) (by omega) v319 y318 x10_3 _ _ _ (fun k_ => some k_ ≠ (v303 : Value).ownBlock ∧ some k_ ≠ (.slice Ao62 x10_3.length co62 : Value).ownBlock) (fun _ => False) rfl rfl ?aO ?aR (fun _ _ h => h) (fun _ h => h.elim) ?aF ?aB ?aS ?aL ?_
                                             (case aR => repeat (first | exact (Kd.R_reads' HO_10.out).2.2 ))
                                             (case aB => exact HB.out)
                                             (case aF => exact (fun k_ hk => ⟨Kd.fresh' (Kd.R_lt HO_3.out) k_ hk, Kd.fresh' (Kd.R_lt HO_10.out) k_ hk⟩))
                                             (case aO => exact (by exact Kd.R_mono HO320.out (fun _ hk => ⟨hk.1.2, hk.2⟩)))
                                             (case aS => exact (below_size HB.out))
                                             (case aL => have := LMc59.out; omega)
                                             intro v322 w66 ho hb hg hat
                                             rw [← Ny321.out] at ho
                                             have n0_ := Aside0.mk (Kd.R_after (ok := (fun k_ => some k_ ≠ (.slice Ao62 x10_3.length co62 : Value).ownBlock)) HO_3.out hg hat)
                                             have n1_ := Aside0.mk (Kd.R_after (ok := (fun k_ => some k_ ≠ (v303 : Value).ownBlock)) HO_10.out hg hat)
                                             have n2_ := Aside0.mk (blk_grown (g := gb273) (o := .cells #[.slice A0_0 l0_0.length c0_0, .slice (some ad298) l0_1.length c0_1] 35 (0, 0)) BK273.out hg (Kd.R_ne HO320.out BK273.out (by decide)))
                                             have n3_ := Aside0.mk (hb)
                                             have n4_ := Aside0.mk (ho)
                                             clear HO_3
                                             clear HO_10
                                             clear BK273
                                             clear HB
                                             clear HO320
                                             have HO_3 := n0_
                                             have HO_10 := n1_
                                             have BK273 := n2_
                                             have HB := n3_
                                             have HO323 := n4_
                                             clear n0_ n1_ n2_ n3_ n4_
                                             clear ho hb hg hat
                                             refine hK.out _ _ ⟨((HB.out.cell (World.block_lt_of_cell? w _ hw317_0)).trans hw317_0), ((HB.out.cell (World.block_lt_of_cell? w _ hw317_1)).trans hw317_1), ((HB.out.cell (World.block_lt_of_cell? w _ hw317_2)).trans hw317_2), ((HB.out.cell (World.block_lt_of_cell? w _ hw317_3)).trans hw317_3), ((HB.out.cell (World.block_lt_of_cell? w _ hw317_4)).trans hw317_4), ((HB.out.cell (World.block_lt_of_cell? w _ hw317_5)).trans hw317_5), ((HB.out.cell (World.block_lt_of_cell? w _ hw317_6)).trans hw317_6), ((HB.out.cell (World.block_lt_of_cell? w _ hw324_0)).trans hw324_0), ((HB.out.cell (World.block_lt_of_cell? w _ hw324_1)).trans hw324_1), ((HB.out.cell (World.block_lt_of_cell? w _ hw324_2)).trans hw324_2), ((HB.out.cell (World.block_lt_of_cell? w _ hw324_3)).trans hw324_3), ((HB.out.cell (World.block_lt_of_cell? w _ hw324_4)).trans hw324_4), ((HB.out.cell (World.block_lt_of_cell? w _ hw324_5)).trans hw324_5), ((HB.out.cell (World.block_lt_of_cell? w _ hw324_6)).trans hw324_6)⟩ (fun hHeld => ?_)
                                             clear hK K
                                             refine norm_ (a' := ?_) ?_ ?_
                                             rotate_left
                                             · show Act.put _ (some 121) _ = _
                                               simp only [zs]
                                               rfl
                                             refine one_ (i := 17) (N := some 127) #[true, true, true, true, true, true, true, true, true, true, true, true, true, true, true, true, true, true, false, false, false, false, false, false] rfl rfl (one_of HT_.out (by kernel_rfl)) (by decide) (fun K hK => ?_)
                                             refine Kd.R_lit_step Kd.string _ 9 ?hg (N := 127) ?hd (xs := ([(rd_T50 ((rd_T47 l0_1 x8_2).f1) x12_5).f6] : List ByteArray)) (inner := [.string ((rd_T50 ((rd_T47 l0_1 x8_2).f1) x12_5).f6)]) (ok := fun _ => True) (okp := fun _ => True) ?hr ?hp (fun _ hk => hk) trivial (Below.refl _ _) (Nat.le_refl _) (by simp) ?_; (case hd => rfl); (case hg => rfl); (case hr => first | (go_simp; done) | (go_simp; rfl)); (case hp => exact (Reps.one (show Kd.M Kd.string _ _ _ ((rd_T50 ((rd_T47 l0_1 x8_2).f1) x12_5).f6) [.string ((rd_T50 ((rd_T47 l0_1 x8_2).f1) x12_5).f6)] from rfl) (Reps.none _ _)))
                                             intro v326 w67 ho68 hb hg_ hnew_
                                             clear hg_ hnew_
                                             (first | rw [← Ny325.out] at ho68 )
                                             have n0_ := Aside0.mk (Kd.R_elder' HO_3.out (Kd.R_base ho68) hb)
                                             have n1_ := Aside0.mk (Kd.R_elder' HO_10.out (Kd.R_base ho68) hb)
                                             have n2_ := Aside0.mk (Kd.R_elder' HO323.out (Kd.R_base ho68) hb)
                                             have n3_ := Aside0.mk (Kd.R_lower (Kd.R_new' (Kd.R_new' (Kd.R_new' ho68 (Kd.R_lt HO_3.out)) (Kd.R_lt HO_10.out)) (Kd.R_lt HO323.out)) (below_size HB.out))
                                             have n4_ := Aside0.mk (blk_below BK273.out hb)
                                             have n5_ := Aside0.mk (below_step HB.out hb)
                                             clear HO_3
                                             clear HO_10
                                             clear HO323
                                             clear BK273
                                             clear HB
                                             have HO_3 := n0_
                                             have HO_10 := n1_
                                             have HO323 := n2_
                                             have HO327 := n3_
                                             have BK273 := n4_
                                             have HB := n5_
                                             clear n0_ n1_ n2_ n3_ n4_ n5_
                                             clear hb ho68
                                             refine hK.out _ _ ⟨((HB.out.cell (World.block_lt_of_cell? w _ hw317_0)).trans hw317_0), ((HB.out.cell (World.block_lt_of_cell? w _ hw317_1)).trans hw317_1), ((HB.out.cell (World.block_lt_of_cell? w _ hw317_2)).trans hw317_2), ((HB.out.cell (World.block_lt_of_cell? w _ hw317_3)).trans hw317_3), ((HB.out.cell (World.block_lt_of_cell? w _ hw317_4)).trans hw317_4), ((HB.out.cell (World.block_lt_of_cell? w _ hw317_5)).trans hw317_5), ((HB.out.cell (World.block_lt_of_cell? w _ hw317_6)).trans hw317_6), ((HB.out.cell (World.block_lt_of_cell? w _ hw324_0)).trans hw324_0), ((HB.out.cell (World.block_lt_of_cell? w _ hw324_1)).trans hw324_1), ((HB.out.cell (World.block_lt_of_cell? w _ hw324_2)).trans hw324_2), ((HB.out.cell (World.block_lt_of_cell? w _ hw324_3)).trans hw324_3), ((HB.out.cell (World.block_lt_of_cell? w _ hw324_4)).trans hw324_4), ((HB.out.cell (World.block_lt_of_cell? w _ hw324_5)).trans hw324_5), ((HB.out.cell (World.block_lt_of_cell? w _ hw324_6)).trans hw324_6)⟩ (fun hHeld => ?_)
                                             clear hK K
                                             refine norm_ (a' := ?_) ?_ ?_
                                             rotate_left
                                             · show Act.put _ (some 127) _ = _
                                               simp only [zs]
                                               rfl
                                             exact norm_ (by simp only [putAll, Act.put, List.setIfInBounds_toArray, List.set_cons_zero, List.set_cons_succ]) (hCont (v319, v322, v326) _ ⟨hHeld, (by exact Kd.R_mono HO323.out (fun _ hk => ⟨hk.2, ⟨hk.1.2, hk.1.1⟩⟩)), (by exact Kd.R_mono HO327.out (fun _ hk => ⟨hk.2, ⟨hk.1.2, hk.1.1.2⟩⟩)), (by exact Kd.R_mono HO_10.out (fun _ hk => ⟨hk.1.2, ⟨hk.2, hk.1.1⟩⟩)), (by exact Kd.R_mono HO_3.out (fun _ hk => ⟨hk.1.2, ⟨hk.2, hk.1.1⟩⟩)), BK273.out, HB.out⟩)
                                           · skip
                                             refine Kd.R_lit_step Kd.string _ 9 ?hg (N := 127) ?hd (xs := ([(rd_T50 ((rd_T47 l0_1 x8_2).f1) x12_5).f6] : List ByteArray)) (inner := [.string ((rd_T50 ((rd_T47 l0_1 x8_2).f1) x12_5).f6)]) (ok := fun _ => True) (okp := fun _ => True) ?hr ?hp (fun _ hk => hk) trivial (Below.refl _ _) (Nat.le_refl _) (by simp) ?_; (case hd => rfl); (case hg => rfl); (case hr => first | (go_simp; done) | (go_simp; rfl)); (case hp => exact (Reps.one (show Kd.M Kd.string _ _ _ ((rd_T50 ((rd_T47 l0_1 x8_2).f1) x12_5).f6) [.string ((rd_T50 ((rd_T47 l0_1 x8_2).f1) x12_5).f6)] from rfl) (Reps.none _ _)))
                                             intro v326 w66 ho67 hb hg_ hnew_
                                             clear hg_ hnew_
                                             (first | rw [← Ny325.out] at ho67 )
                                             have n0_ := Aside0.mk (Kd.R_elder' HO_3.out (Kd.R_base ho67) hb)
                                             have n1_ := Aside0.mk (Kd.R_elder' HO_10.out (Kd.R_base ho67) hb)
                                             have n2_ := Aside0.mk (Kd.R_elder' HO320.out (Kd.R_base ho67) hb)
                                             have n3_ := Aside0.mk (Kd.R_lower (Kd.R_new' (Kd.R_new' (Kd.R_new' ho67 (Kd.R_lt HO_3.out)) (Kd.R_lt HO_10.out)) (Kd.R_lt HO320.out)) (below_size HB.out))
                                             have n4_ := Aside0.mk (blk_below BK273.out hb)
                                             have n5_ := Aside0.mk (below_step HB.out hb)
                                             clear HO_3
                                             clear HO_10
                                             clear HO320
                                             clear BK273
                                             clear HB
                                             have HO_3 := n0_
                                             have HO_10 := n1_
                                             have HO320 := n2_
                                             have HO327 := n3_
                                             have BK273 := n4_
                                             have HB := n5_
                                             clear n0_ n1_ n2_ n3_ n4_ n5_
                                             clear hb ho67
                                             refine hK.out _ _ ⟨((HB.out.cell (World.block_lt_of_cell? w _ hw317_0)).trans hw317_0), ((HB.out.cell (World.block_lt_of_cell? w _ hw317_1)).trans hw317_1), ((HB.out.cell (World.block_lt_of_cell? w _ hw317_2)).trans hw317_2), ((HB.out.cell (World.block_lt_of_cell? w _ hw317_3)).trans hw317_3), ((HB.out.cell (World.block_lt_of_cell? w _ hw317_4)).trans hw317_4), ((HB.out.cell (World.block_lt_of_cell? w _ hw317_5)).trans hw317_5), ((HB.out.cell (World.block_lt_of_cell? w _ hw317_6)).trans hw317_6), ((HB.out.cell (World.block_lt_of_cell? w _ hw324_0)).trans hw324_0), ((HB.out.cell (World.block_lt_of_cell? w _ hw324_1)).trans hw324_1), ((HB.out.cell (World.block_lt_of_cell? w _ hw324_2)).trans hw324_2), ((HB.out.cell (World.block_lt_of_cell? w _ hw324_3)).trans hw324_3), ((HB.out.cell (World.block_lt_of_cell? w _ hw324_4)).trans hw324_4), ((HB.out.cell (World.block_lt_of_cell? w _ hw324_5)).trans hw324_5), ((HB.out.cell (World.block_lt_of_cell? w _ hw324_6)).trans hw324_6)⟩ (fun hHeld => ?_)
                                             clear hK K
                                             refine norm_ (a' := ?_) ?_ ?_
                                             rotate_left
                                             · show Act.put _ (some 127) _ = _
                                               simp only [zs]
                                               rfl
                                             refine one_ (i := 11) (N := some 121) #[true, true, true, true, true, true, true, true, true, true, true, true, true, true, true, true, true, true, false, false, false, false, false, false] rfl rfl (one_of HT_.out (by kernel_rfl)) (by decide) (fun K hK => ?_)
                                             refine Kd.R_append_rows_step Kd.string (w0 := w) w.heap.size (by rfl) (.tmp 119) (.tmp 120) 37 9 (.string ⟨#[]⟩) 16 rfl Try.underlying37 info9 rfl (by decide) (by omega) v319 y318 x10_3 _ _ _ (fun k_ => some k_ ≠ (v303 : Value).ownBlock ∧ some k_ ≠ (.slice Ao62 x10_3.length co62 : Value).ownBlock ∧ some k_ ≠ (v326 : Value).ownBlock) (fun _ => False) rfl rfl ?aO ?aR (fun _ _ h => h) (fun _ h => h.elim) ?aF ?aB ?aS ?aL ?_
                                             (case aR => repeat (first | exact (Kd.R_reads' HO_10.out).2.2 ))
                                             (case aB => exact HB.out)
                                             (case aF => exact (fun k_ hk => ⟨Kd.fresh' (Kd.R_lt HO_3.out) k_ hk, Kd.fresh' (Kd.R_lt HO_10.out) k_ hk, Kd.fresh' (Kd.R_lt HO327.out) k_ hk⟩))
                                             (case aO => exact (by exact Kd.R_mono HO320.out (fun _ hk => ⟨hk.1.1.2, ⟨hk.1.2, hk.2⟩⟩)))
                                             (case aS => exact (below_size HB.out))
                                             (case aL => have := LMc59.out; omega)
                                             intro v322 w68 ho hb hg hat
                                             rw [← Ny321.out] at ho
                                             have n0_ := Aside0.mk (Kd.R_after (ok := (fun k_ => some k_ ≠ (.slice Ao62 x10_3.length co62 : Value).ownBlock ∧ some k_ ≠ (v326 : Value).ownBlock)) (by exact Kd.R_mono HO_3.out (fun _ hk => ⟨⟨hk.1.1, hk.2⟩, hk.1.2⟩)) hg hat)
                                             have n1_ := Aside0.mk (Kd.R_after (ok := (fun k_ => some k_ ≠ (v303 : Value).ownBlock ∧ some k_ ≠ (v326 : Value).ownBlock)) (by exact Kd.R_mono HO_10.out (fun _ hk => ⟨⟨hk.1.1, hk.2⟩, hk.1.2⟩)) hg hat)
                                             have n2_ := Aside0.mk (blk_grown (g := gb273) (o := .cells #[.slice A0_0 l0_0.length c0_0, .slice (some ad298) l0_1.length c0_1] 35 (0, 0)) BK273.out hg (Kd.R_ne HO320.out BK273.out (by decide)))
                                             have n3_ := Aside0.mk (Kd.R_after (ok := (fun k_ => some k_ ≠ (v303 : Value).ownBlock ∧ some k_ ≠ (.slice Ao62 x10_3.length co62 : Value).ownBlock)) (by exact Kd.R_mono HO327.out (fun _ hk => ⟨⟨hk.1.1.2, hk.1.2⟩, hk.2⟩)) hg hat)
                                             have n4_ := Aside0.mk (hb)
                                             have n5_ := Aside0.mk (ho)
                                             clear HO_3
                                             clear HO_10
                                             clear BK273
                                             clear HO327
                                             clear HB
                                             clear HO320
                                             have HO_3 := n0_
                                             have HO_10 := n1_
                                             have BK273 := n2_
                                             have HO327 := n3_
                                             have HB := n4_
                                             have HO323 := n5_
                                             clear n0_ n1_ n2_ n3_ n4_ n5_
                                             clear ho hb hg hat
                                             refine hK.out _ _ ⟨((HB.out.cell (World.block_lt_of_cell? w _ hw317_0)).trans hw317_0), ((HB.out.cell (World.block_lt_of_cell? w _ hw317_1)).trans hw317_1), ((HB.out.cell (World.block_lt_of_cell? w _ hw317_2)).trans hw317_2), ((HB.out.cell (World.block_lt_of_cell? w _ hw317_3)).trans hw317_3), ((HB.out.cell (World.block_lt_of_cell? w _ hw317_4)).trans hw317_4), ((HB.out.cell (World.block_lt_of_cell? w _ hw317_5)).trans hw317_5), ((HB.out.cell (World.block_lt_of_cell? w _ hw317_6)).trans hw317_6), ((HB.out.cell (World.block_lt_of_cell? w _ hw324_0)).trans hw324_0), ((HB.out.cell (World.block_lt_of_cell? w _ hw324_1)).trans hw324_1), ((HB.out.cell (World.block_lt_of_cell? w _ hw324_2)).trans hw324_2), ((HB.out.cell (World.block_lt_of_cell? w _ hw324_3)).trans hw324_3), ((HB.out.cell (World.block_lt_of_cell? w _ hw324_4)).trans hw324_4), ((HB.out.cell (World.block_lt_of_cell? w _ hw324_5)).trans hw324_5), ((HB.out.cell (World.block_lt_of_cell? w _ hw324_6)).trans hw324_6)⟩ (fun hHeld => ?_)
                                             clear hK K
                                             refine norm_ (a' := ?_) ?_ ?_
                                             rotate_left
                                             · show Act.put _ (some 121) _ = _
                                               simp only [zs]
                                               rfl
                                             exact norm_ (by simp only [putAll, Act.put, List.setIfInBounds_toArray, List.set_cons_zero, List.set_cons_succ]) (hCont (v319, v322, v326) _ ⟨hHeld, (by exact Kd.R_mono HO323.out (fun _ hk => ⟨hk.2.2, ⟨hk.2.1, hk.1⟩⟩)), (by exact Kd.R_mono HO327.out (fun _ hk => ⟨hk.2, ⟨hk.1.2, hk.1.1⟩⟩)), (by exact Kd.R_mono HO_10.out (fun _ hk => ⟨hk.2, ⟨hk.1.2, hk.1.1⟩⟩)), (by exact Kd.R_mono HO_3.out (fun _ hk => ⟨hk.2, ⟨hk.1.2, hk.1.1⟩⟩)), BK273.out, HB.out⟩)
                                         · skip
                                           refine Kd.R_lit_step Kd.string _ 9 ?hg (N := 127) ?hd (xs := ([(rd_T50 ((rd_T47 l0_1 x8_2).f1) x12_5).f6] : List ByteArray)) (inner := [.string ((rd_T50 ((rd_T47 l0_1 x8_2).f1) x12_5).f6)]) (ok := fun _ => True) (okp := fun _ => True) ?hr ?hp (fun _ hk => hk) trivial (Below.refl _ _) (Nat.le_refl _) (by simp) ?_; (case hd => rfl); (case hg => rfl); (case hr => first | (go_simp; done) | (go_simp; rfl)); (case hp => exact (Reps.one (show Kd.M Kd.string _ _ _ ((rd_T50 ((rd_T47 l0_1 x8_2).f1) x12_5).f6) [.string ((rd_T50 ((rd_T47 l0_1 x8_2).f1) x12_5).f6)] from rfl) (Reps.none _ _)))
                                           intro v326 w64 ho65 hb hg_ hnew_
                                           clear hg_ hnew_
                                           (first | rw [← Ny325.out] at ho65 )
                                           have n0_ := Aside0.mk (Kd.R_elder' HO_3.out (Kd.R_base ho65) hb)
                                           have n1_ := Aside0.mk (Kd.R_elder' HO_10.out (Kd.R_base ho65) hb)
                                           have n2_ := Aside0.mk (Kd.R_lower (Kd.R_new' (Kd.R_new' ho65 (Kd.R_lt HO_3.out)) (Kd.R_lt HO_10.out)) (below_size HB.out))
                                           have n3_ := Aside0.mk (blk_below BK273.out hb)
                                           have n4_ := Aside0.mk (below_step HB.out hb)
                                           clear HO_3
                                           clear HO_10
                                           clear BK273
                                           clear HB
                                           have HO_3 := n0_
                                           have HO_10 := n1_
                                           have HO327 := n2_
                                           have BK273 := n3_
                                           have HB := n4_
                                           clear n0_ n1_ n2_ n3_ n4_
                                           clear hb ho65
                                           refine hK.out _ _ ⟨((HB.out.cell (World.block_lt_of_cell? w _ hw317_0)).trans hw317_0), ((HB.out.cell (World.block_lt_of_cell? w _ hw317_1)).trans hw317_1), ((HB.out.cell (World.block_lt_of_cell? w _ hw317_2)).trans hw317_2), ((HB.out.cell (World.block_lt_of_cell? w _ hw317_3)).trans hw317_3), ((HB.out.cell (World.block_lt_of_cell? w _ hw317_4)).trans hw317_4), ((HB.out.cell (World.block_lt_of_cell? w _ hw317_5)).trans hw317_5), ((HB.out.cell (World.block_lt_of_cell? w _ hw317_6)).trans hw317_6), ((HB.out.cell (World.block_lt_of_cell? w _ hw324_0)).trans hw324_0), ((HB.out.cell (World.block_lt_of_cell? w _ hw324_1)).trans hw324_1), ((HB.out.cell (World.block_lt_of_cell? w _ hw324_2)).trans hw324_2), ((HB.out.cell (World.block_lt_of_cell? w _ hw324_3)).trans hw324_3), ((HB.out.cell (World.block_lt_of_cell? w _ hw324_4)).trans hw324_4), ((HB.out.cell (World.block_lt_of_cell? w _ hw324_5)).trans hw324_5), ((HB.out.cell (World.block_lt_of_cell? w _ hw324_6)).trans hw324_6)⟩ (fun hHeld => ?_)
                                           clear hK K
                                           refine norm_ (a' := ?_) ?_ ?_
                                           rotate_left
                                           · show Act.put _ (some 127) _ = _
                                             simp only [zs]
                                             rfl
                                           refine one_ (i := 9) (N := some 119) #[true, true, true, true, true, true, true, true, true, true, true, false, true, true, true, true, true, true, false, false, false, false, false, false] rfl rfl (one_of HT_.out (by kernel_rfl)) (by decide) (fun K hK => ?_)
                                           refine Kd.R_lit_step Kd.string _ 9 ?hg (N := 119) ?hd (xs := ([] : List ByteArray)) (inner := []) (ok := fun _ => True) (okp := fun _ => True) ?hr ?hp (fun _ hk => hk) trivial (Below.refl _ _) (Nat.le_refl _) (by simp) ?_; (case hd => rfl); (case hg => rfl); (case hr => first | (go_simp; done) | (go_simp; rfl)); (case hp => exact (Reps.none _ _))
                                           intro v319 w66 ho67 hb hg_ hnew_
                                           clear hg_ hnew_
                                           (first | rw [← Ny318.out] at ho67 )
                                           have n0_ := Aside0.mk (Kd.R_elder' HO_3.out (Kd.R_base ho67) hb)
                                           have n1_ := Aside0.mk (Kd.R_elder' HO_10.out (Kd.R_base ho67) hb)
                                           have n2_ := Aside0.mk (Kd.R_elder' HO327.out (Kd.R_base ho67) hb)
                                           have n3_ := Aside0.mk (Kd.R_lower (Kd.R_new' (Kd.R_new' (Kd.R_new' ho67 (Kd.R_lt HO_3.out)) (Kd.R_lt HO_10.out)) (Kd.R_lt HO327.out)) (below_size HB.out))
                                           have n4_ := Aside0.mk (blk_below BK273.out hb)
                                           have n5_ := Aside0.mk (below_step HB.out hb)
                                           clear HO_3
                                           clear HO_10
                                           clear HO327
                                           clear BK273
                                           clear HB
                                           have HO_3 := n0_
                                           have HO_10 := n1_
                                           have HO327 := n2_
                                           have HO320 := n3_
                                           have BK273 := n4_
                                           have HB := n5_
                                           clear n0_ n1_ n2_ n3_ n4_ n5_
                                           clear hb ho67
                                           refine hK.out _ _ ⟨((HB.out.cell (World.block_lt_of_cell? w _ hw317_0)).trans hw317_0), ((HB.out.cell (World.block_lt_of_cell? w _ hw317_1)).trans hw317_1), ((HB.out.cell (World.block_lt_of_cell? w _ hw317_2)).trans hw317_2), ((HB.out.cell (World.block_lt_of_cell? w _ hw317_3)).trans hw317_3), ((HB.out.cell (World.block_lt_of_cell? w _ hw317_4)).trans hw317_4), ((HB.out.cell (World.block_lt_of_cell? w _ hw317_5)).trans hw317_5), ((HB.out.cell (World.block_lt_of_cell? w _ hw317_6)).trans hw317_6), ((HB.out.cell (World.block_lt_of_cell? w _ hw324_0)).trans hw324_0), ((HB.out.cell (World.block_lt_of_cell? w _ hw324_1)).trans hw324_1), ((HB.out.cell (World.block_lt_of_cell? w _ hw324_2)).trans hw324_2), ((HB.out.cell (World.block_lt_of_cell? w _ hw324_3)).trans hw324_3), ((HB.out.cell (World.block_lt_of_cell? w _ hw324_4)).trans hw324_4), ((HB.out.cell (World.block_lt_of_cell? w _ hw324_5)).trans hw324_5), ((HB.out.cell (World.block_lt_of_cell? w _ hw324_6)).trans hw324_6)⟩ (fun hHeld => ?_)
                                           clear hK K
                                           refine norm_ (a' := ?_) ?_ ?_
                                           rotate_left
                                           · show Act.put _ (some 119) _ = _
                                             simp only [zs]
                                             rfl
                                           refine one_ (i := 11) (N := some 121) #[true, true, true, true, true, true, true, true, true, true, true, true, true, true, true, true, true, true, false, false, false, false, false, false] rfl rfl (one_of HT_.out (by kernel_rfl)) (by decide) (fun K hK => ?_)
                                           refine Kd.R_append_rows_step Kd.string (w0 := w) w.heap.size (by rfl) (.tmp 119) (.tmp 120) 37 9 (.string ⟨#[]⟩) 16 rfl Try.underlying37 info9 rfl (by decide) (by omega) v319 y318 x10_3 _ _ _ (fun k_ => some k_ ≠ (v303 : Value).ownBlock ∧ some k_ ≠ (.slice Ao62 x10_3.length co62 : Value).ownBlock ∧ some k_ ≠ (v326 : Value).ownBlock) (fun _ => False) rfl rfl ?aO ?aR (fun _ _ h => h) (fun _ h => h.elim) ?aF ?aB ?aS ?aL ?_
                                           (case aR => repeat (first | exact (Kd.R_reads' HO_10.out).2.2 ))
                                           (case aB => exact HB.out)
                                           (case aF => exact (fun k_ hk => ⟨Kd.fresh' (Kd.R_lt HO_3.out) k_ hk, Kd.fresh' (Kd.R_lt HO_10.out) k_ hk, Kd.fresh' (Kd.R_lt HO327.out) k_ hk⟩))
                                           (case aO => exact (by exact Kd.R_mono HO320.out (fun _ hk => ⟨hk.1.1.2, ⟨hk.1.2, hk.2⟩⟩)))
                                           (case aS => exact (below_size HB.out))
                                           (case aL => have := LMc59.out; omega)
                                           intro v322 w68 ho hb hg hat
                                           rw [← Ny321.out] at ho
                                           have n0_ := Aside0.mk (Kd.R_after (ok := (fun k_ => some k_ ≠ (.slice Ao62 x10_3.length co62 : Value).ownBlock ∧ some k_ ≠ (v326 : Value).ownBlock)) HO_3.out hg hat)
                                           have n1_ := Aside0.mk (Kd.R_after (ok := (fun k_ => some k_ ≠ (v303 : Value).ownBlock ∧ some k_ ≠ (v326 : Value).ownBlock)) HO_10.out hg hat)
                                           have n2_ := Aside0.mk (blk_grown (g := gb273) (o := .cells #[.slice A0_0 l0_0.length c0_0, .slice (some ad298) l0_1.length c0_1] 35 (0, 0)) BK273.out hg (Kd.R_ne HO320.out BK273.out (by decide)))
                                           have n3_ := Aside0.mk (Kd.R_after (ok := (fun k_ => some k_ ≠ (v303 : Value).ownBlock ∧ some k_ ≠ (.slice Ao62 x10_3.length co62 : Value).ownBlock)) (by exact Kd.R_mono HO327.out (fun _ hk => ⟨⟨hk.1.1.2, hk.1.2⟩, hk.2⟩)) hg hat)
                                           have n4_ := Aside0.mk (hb)
                                           have n5_ := Aside0.mk (ho)
                                           clear HO_3
                                           clear HO_10
                                           clear BK273
                                           clear HO327
                                           clear HB
                                           clear HO320
                                           have HO_3 := n0_
                                           have HO_10 := n1_
                                           have BK273 := n2_
                                           have HO327 := n3_
                                           have HB := n4_
                                           have HO323 := n5_
                                           clear n0_ n1_ n2_ n3_ n4_ n5_
                                           clear ho hb hg hat
                                           refine hK.out _ _ ⟨((HB.out.cell (World.block_lt_of_cell? w _ hw317_0)).trans hw317_0), ((HB.out.cell (World.block_lt_of_cell? w _ hw317_1)).trans hw317_1), ((HB.out.cell (World.block_lt_of_cell? w _ hw317_2)).trans hw317_2), ((HB.out.cell (World.block_lt_of_cell? w _ hw317_3)).trans hw317_3), ((HB.out.cell (World.block_lt_of_cell? w _ hw317_4)).trans hw317_4), ((HB.out.cell (World.block_lt_of_cell? w _ hw317_5)).trans hw317_5), ((HB.out.cell (World.block_lt_of_cell? w _ hw317_6)).trans hw317_6), ((HB.out.cell (World.block_lt_of_cell? w _ hw324_0)).trans hw324_0), ((HB.out.cell (World.block_lt_of_cell? w _ hw324_1)).trans hw324_1), ((HB.out.cell (World.block_lt_of_cell? w _ hw324_2)).trans hw324_2), ((HB.out.cell (World.block_lt_of_cell? w _ hw324_3)).trans hw324_3), ((HB.out.cell (World.block_lt_of_cell? w _ hw324_4)).trans hw324_4), ((HB.out.cell (World.block_lt_of_cell? w _ hw324_5)).trans hw324_5), ((HB.out.cell (World.block_lt_of_cell? w _ hw324_6)).trans hw324_6)⟩ (fun hHeld => ?_)
                                           clear hK K
                                           refine norm_ (a' := ?_) ?_ ?_
                                           rotate_left
                                           · show Act.put _ (some 121) _ = _
                                             simp only [zs]
                                             rfl
                                           exact norm_ (by simp only [putAll, Act.put, List.setIfInBounds_toArray, List.set_cons_zero, List.set_cons_succ]) (hCont (v319, v322, v326) _ ⟨hHeld, (by exact Kd.R_mono HO323.out (fun _ hk => ⟨hk.2.2, ⟨hk.2.1, hk.1⟩⟩)), (by exact Kd.R_mono HO327.out (fun _ hk => ⟨hk.2, ⟨hk.1.2, hk.1.1⟩⟩)), (by exact Kd.R_mono HO_10.out (fun _ hk => ⟨hk.2, ⟨hk.1.2, hk.1.1⟩⟩)), (by exact Kd.R_mono HO_3.out (fun _ hk => ⟨hk.2, ⟨hk.1.2, hk.1.1⟩⟩)), BK273.out, HB.out⟩)
                                       rintro ⟨v319, v322, v326⟩ w69 ⟨hS_, h0_, h1_, h2_, h3_, h4_, h5_⟩
                                       have n0_ : Aside0 (Kd.R Kd.string 9 w69 w.heap.size (fun k_ => some k_ ≠ (v326 : Value).ownBlock ∧ some k_ ≠ (.slice Ao62 x10_3.length co62 : Value).ownBlock ∧ some k_ ≠ (v303 : Value).ownBlock) v322 y321) := ⟨h0_⟩
                                       have n1_ : Aside0 (Kd.R Kd.string 9 w69 w.heap.size (fun k_ => some k_ ≠ (v322 : Value).ownBlock ∧ some k_ ≠ (.slice Ao62 x10_3.length co62 : Value).ownBlock ∧ some k_ ≠ (v303 : Value).ownBlock) v326 y325) := ⟨h1_⟩
                                       have n2_ : Aside0 (Kd.R Kd.string 9 w69 w.heap.size (fun k_ => some k_ ≠ (v322 : Value).ownBlock ∧ some k_ ≠ (v326 : Value).ownBlock ∧ some k_ ≠ (v303 : Value).ownBlock) (.slice Ao62 x10_3.length co62) x10_3) := ⟨h2_⟩
                                       have n3_ : Aside0 (Kd.R Kd.string 9 w69 w.heap.size (fun k_ => some k_ ≠ (v322 : Value).ownBlock ∧ some k_ ≠ (v326 : Value).ownBlock ∧ some k_ ≠ (.slice Ao62 x10_3.length co62 : Value).ownBlock) v303 y302) := ⟨h3_⟩
                                       have n4_ : Aside0 (w69.heap[gb273]? = some (.cells #[.slice A0_0 l0_0.length c0_0, .slice (some ad298) l0_1.length c0_1] 35 (0, 0))) := ⟨h4_⟩
                                       have n5_ : Aside0 (Below w.heap.size w w69) := ⟨h5_⟩
                                       clear HO_3
                                       clear HO_10
                                       clear BK273
                                       clear HB
                                       clear h0_ h1_ h2_ h3_ h4_ h5_
                                       have HO323 := n0_
                                       have HO327 := n1_
                                       have HO_10 := n2_
                                       have HO_3 := n3_
                                       have BK273 := n4_
                                       have HB := n5_
                                       clear n0_ n1_ n2_ n3_ n4_ n5_
                                       have hHeld : w69.cell? (ad317.add ((x12_5).toNat * 7)) = some (.string ((rd_T50 ((rd_T47 l0_1 x8_2).f1) x12_5).f0)) ∧ w69.cell? ⟨(ad317.add ((x12_5).toNat * 7)).block, (ad317.add ((x12_5).toNat * 7)).off + 1, none⟩ = some (.int .i64 ((rd_T50 ((rd_T47 l0_1 x8_2).f1) x12_5).f1)) ∧ w69.cell? ⟨(ad317.add ((x12_5).toNat * 7)).block, (ad317.add ((x12_5).toNat * 7)).off + 2, none⟩ = some (.int .i64 ((rd_T50 ((rd_T47 l0_1 x8_2).f1) x12_5).f2)) ∧ w69.cell? ⟨(ad317.add ((x12_5).toNat * 7)).block, (ad317.add ((x12_5).toNat * 7)).off + 3, none⟩ = some (.string ((rd_T50 ((rd_T47 l0_1 x8_2).f1) x12_5).f3)) ∧ w69.cell? ⟨(ad317.add ((x12_5).toNat * 7)).block, (ad317.add ((x12_5).toNat * 7)).off + 4, none⟩ = some (.bool ((rd_T50 ((rd_T47 l0_1 x8_2).f1) x12_5).f4)) ∧ w69.cell? ⟨(ad317.add ((x12_5).toNat * 7)).block, (ad317.add ((x12_5).toNat * 7)).off + 5, none⟩ = some (.bool ((rd_T50 ((rd_T47 l0_1 x8_2).f1) x12_5).f5)) ∧ w69.cell? ⟨(ad317.add ((x12_5).toNat * 7)).block, (ad317.add ((x12_5).toNat * 7)).off + 6, none⟩ = some (.string ((rd_T50 ((rd_T47 l0_1 x8_2).f1) x12_5).f6)) ∧ w69.cell? (ad317.add ((x12_5).toNat * 7)) = some (.string ((rd_T50 ((rd_T47 l0_1 x8_2).f1) x12_5).f0)) ∧ w69.cell? ⟨(ad317.add ((x12_5).toNat * 7)).block, (ad317.add ((x12_5).toNat * 7)).off + 1, none⟩ = some (.int .i64 ((rd_T50 ((rd_T47 l0_1 x8_2).f1) x12_5).f1)) ∧ w69.cell? ⟨(ad317.add ((x12_5).toNat * 7)).block, (ad317.add ((x12_5).toNat * 7)).off + 2, none⟩ = some (.int .i64 ((rd_T50 ((rd_T47 l0_1 x8_2).f1) x12_5).f2)) ∧ w69.cell? ⟨(ad317.add ((x12_5).toNat * 7)).block, (ad317.add ((x12_5).toNat * 7)).off + 3, none⟩ = some (.string ((rd_T50 ((rd_T47 l0_1 x8_2).f1) x12_5).f3)) ∧ w69.cell? ⟨(ad317.add ((x12_5).toNat * 7)).block, (ad317.add ((x12_5).toNat * 7)).off + 4, none⟩ = some (.bool ((rd_T50 ((rd_T47 l0_1 x8_2).f1) x12_5).f4)) ∧ w69.cell? ⟨(ad317.add ((x12_5).toNat * 7)).block, (ad317.add ((x12_5).toNat * 7)).off + 5, none⟩ = some (.bool ((rd_T50 ((rd_T47 l0_1 x8_2).f1) x12_5).f5)) ∧ w69.cell? ⟨(ad317.add ((x12_5).toNat * 7)).block, (ad317.add ((x12_5).toNat * 7)).off + 6, none⟩ = some (.string ((rd_T50 ((rd_T47 l0_1 x8_2).f1) x12_5).f6)) := hS_
                                       obtain ⟨Ao71, co71, eo71⟩ := Kd.R_slice HO327.out
                                       (first | subst eo71 )
                                       refine norm_ (a' := ?_) ?_ ?_
                                       rotate_left
                                       · simp only [putAll, Act.put, List.setIfInBounds_toArray, List.set_cons_zero, List.set_cons_succ]
                                         rfl
                                       refine one_ (i := 18) (N := some 128) #[true, true, true, true, true, true, true, true, true, true, true, true, true, true, true, true, true, true, true, false, false, false, false, false] rfl rfl (one_of HT_.out (by kernel_rfl)) (by decide) (fun K hK => ?_)
                                       refine Kd.R_append_rows_step Kd.string (w0 := w) w.heap.size (by rfl) (.tmp 121) (.tmp 127) 37 9 (.string ⟨#[]⟩) 16 rfl Try.underlying37 info9 rfl (by decide) (by omega) v322 y321 y325 _ _ _ (fun k_ => some k_ ≠ (v303 : Value).ownBlock ∧ some k_ ≠ (.slice Ao62 x10_3.length co62 : Value).ownBlock ∧ some k_ ≠ (.slice Ao71 y325.length co71 : Value).ownBlock) (fun _ => False) rfl rfl ?aO ?aR (fun _ _ h => h) (fun _ h => h.elim) ?aF ?aB ?aS ?aL ?_
                                       (case aR => repeat (first | exact (Kd.R_reads' HO327.out).2.2 ))
                                       (case aB => exact HB.out)
                                       (case aF => exact (fun k_ hk => ⟨Kd.fresh' (Kd.R_lt HO_3.out) k_ hk, Kd.fresh' (Kd.R_lt HO_10.out) k_ hk, Kd.fresh' (Kd.R_lt HO327.out) k_ hk⟩))
                                       (case aO => exact (by exact Kd.R_mono HO323.out (fun _ hk => ⟨hk.2.2, ⟨hk.2.1, hk.1⟩⟩)))
                                       (case aS => exact (below_size HB.out))
                                       (case aL => have := LMc60.out; omega)
                                       intro v329 w70 ho hb hg hat
                                       rw [← Ny328.out] at ho
                                       have n0_ := Aside0.mk (Kd.R_after (ok := (fun k_ => some k_ ≠ (.slice Ao62 x10_3.length co62 : Value).ownBlock ∧ some k_ ≠ (.slice Ao71 y325.length co71 : Value).ownBlock)) (by exact Kd.R_mono HO_3.out (fun _ hk => ⟨⟨hk.2.2, hk.2.1⟩, hk.1⟩)) hg hat)
                                       have n1_ := Aside0.mk (Kd.R_after (ok := (fun k_ => some k_ ≠ (v303 : Value).ownBlock ∧ some k_ ≠ (.slice Ao71 y325.length co71 : Value).ownBlock)) (by exact Kd.R_mono HO_10.out (fun _ hk => ⟨⟨hk.2.2, hk.2.1⟩, hk.1⟩)) hg hat)
                                       have n2_ := Aside0.mk (blk_grown (g := gb273) (o := .cells #[.slice A0_0 l0_0.length c0_0, .slice (some ad298) l0_1.length c0_1] 35 (0, 0)) BK273.out hg (Kd.R_ne HO323.out BK273.out (by decide)))
                                       have n3_ := Aside0.mk (Kd.R_after (ok := (fun k_ => some k_ ≠ (v303 : Value).ownBlock ∧ some k_ ≠ (.slice Ao62 x10_3.length co62 : Value).ownBlock)) (by exact Kd.R_mono HO327.out (fun _ hk => ⟨⟨hk.2.2, hk.2.1⟩, hk.1⟩)) hg hat)
                                       have n4_ := Aside0.mk (hb)
                                       have n5_ := Aside0.mk (ho)
                                       clear HO_3
                                       clear HO_10
                                       clear BK273
                                       clear HO327
                                       clear HB
                                       clear HO323
                                       have HO_3 := n0_
                                       have HO_10 := n1_
                                       have BK273 := n2_
                                       have HO327 := n3_
                                       have HB := n4_
                                       have HO330 := n5_
                                       clear n0_ n1_ n2_ n3_ n4_ n5_
                                       clear ho hb hg hat
                                       obtain ⟨Ao72, co72, eo72⟩ := Kd.R_slice HO330.out
                                       (first | subst eo72 )
                                       refine hK.out _ _ ⟨((HB.out.cell (World.block_lt_of_cell? w _ hw317_0)).trans hw317_0), ((HB.out.cell (World.block_lt_of_cell? w _ hw317_1)).trans hw317_1), ((HB.out.cell (World.block_lt_of_cell? w _ hw317_2)).trans hw317_2), ((HB.out.cell (World.block_lt_of_cell? w _ hw317_3)).trans hw317_3), ((HB.out.cell (World.block_lt_of_cell? w _ hw317_4)).trans hw317_4), ((HB.out.cell (World.block_lt_of_cell? w _ hw317_5)).trans hw317_5), ((HB.out.cell (World.block_lt_of_cell? w _ hw317_6)).trans hw317_6), ((HB.out.cell (World.block_lt_of_cell? w _ hw324_0)).trans hw324_0), ((HB.out.cell (World.block_lt_of_cell? w _ hw324_1)).trans hw324_1), ((HB.out.cell (World.block_lt_of_cell? w _ hw324_2)).trans hw324_2), ((HB.out.cell (World.block_lt_of_cell? w _ hw324_3)).trans hw324_3), ((HB.out.cell (World.block_lt_of_cell? w _ hw324_4)).trans hw324_4), ((HB.out.cell (World.block_lt_of_cell? w _ hw324_5)).trans hw324_5), ((HB.out.cell (World.block_lt_of_cell? w _ hw324_6)).trans hw324_6)⟩ (fun hHeld => ?_)
                                       clear hK K
                                       refine norm_ (a' := ?_) ?_ ?_
                                       rotate_left
                                       · show Act.put _ (some 128) _ = _
                                         simp only [zs]
                                         rfl
                                       refine one_ (i := 19) (N := some 129) #[true, true, true, true, true, true, true, true, true, true, true, true, true, true, true, true, true, true, true, true, false, false, false, false] rfl rfl (one_of HT_.out (by kernel_rfl)) (by decide) (fun K hK => ?_)
                                       refine goes_ Try.func95 (by kernel_rfl) rfl #[.slice Ao72 y328.length co72] (by rfl) rfl rfl (by (try simp only [List.map_toArray, List.map_cons, List.map_nil]); first | done | rfl | (simp only [List.length_drop, List.length_take]; rfl)) ?_
                                       with_reducible refine (ecdysisref09_Once.calls k5 _ _ y328 t331 _ ?side1 ?side2 A61.out).mono ?_
                                       (case side1 => repeat (first | exact (Kd.R_reads' HO330.out).2.2 ))
                                       (case side2 => exact (Kd.R_reads' HO330.out).2.1)
                                       rintro e w' ⟨rfl, ⟨nd, rfl⟩⟩
                                       refine ⟨_, rfl, ?_⟩
                                       refine hK.out _ _ ⟨((HB.out.cell (World.block_lt_of_cell? w _ hw317_0)).trans hw317_0), ((HB.out.cell (World.block_lt_of_cell? w _ hw317_1)).trans hw317_1), ((HB.out.cell (World.block_lt_of_cell? w _ hw317_2)).trans hw317_2), ((HB.out.cell (World.block_lt_of_cell? w _ hw317_3)).trans hw317_3), ((HB.out.cell (World.block_lt_of_cell? w _ hw317_4)).trans hw317_4), ((HB.out.cell (World.block_lt_of_cell? w _ hw317_5)).trans hw317_5), ((HB.out.cell (World.block_lt_of_cell? w _ hw317_6)).trans hw317_6), ((HB.out.cell (World.block_lt_of_cell? w _ hw324_0)).trans hw324_0), ((HB.out.cell (World.block_lt_of_cell? w _ hw324_1)).trans hw324_1), ((HB.out.cell (World.block_lt_of_cell? w _ hw324_2)).trans hw324_2), ((HB.out.cell (World.block_lt_of_cell? w _ hw324_3)).trans hw324_3), ((HB.out.cell (World.block_lt_of_cell? w _ hw324_4)).trans hw324_4), ((HB.out.cell (World.block_lt_of_cell? w _ hw324_5)).trans hw324_5), ((HB.out.cell (World.block_lt_of_cell? w _ hw324_6)).trans hw324_6)⟩ (fun hHeld => ?_)
                                       clear hK K
                                       refine norm_ (a' := ?_) ?_ ?_
                                       rotate_left
                                       · show Act.put _ (some 129) _ = _
                                         simp only [zs]
                                         rfl
                                       refine zp 20 (zb 24 2097151) ?_ rfl rfl HT_ (by kernel_rfl) (fun _ _ _ h => h) rfl ?_ ?_ ?_ ?_; rotate_left; (intro w'; go_simp; with_reducible rfl); rotate_left; (simp only [zs]; rfl)
                                       refine zp 21 (zb 24 4194303) ?_ rfl rfl HT_ (by kernel_rfl) (fun _ _ _ h => h) rfl ?_ ?_ ?_ ?_; rotate_left; (intro w'; go_simp; with_reducible rfl); rotate_left; (simp only [zs]; rfl)
                                       refine zp 22 (zb 24 8388607) ?_ rfl rfl HT_ (by kernel_rfl) (fun _ _ _ h => h) rfl ?_ ?_ ?_ ?_; rotate_left; (intro w'; go_simp; with_reducible rfl); rotate_left; (simp only [zs]; rfl)
                                       refine zp 23 (zb 24 16777215) ?_ rfl rfl HT_ (by kernel_rfl) (fun _ _ _ h => h) rfl ?_ ?_ ?_ ?_; rotate_left; (intro w'; go_simp; with_reducible rfl); rotate_left; (simp only [zs]; rfl)
                                       refine done_ (done_of HT_.out (by kernel_rfl)) ?_
                                       try go_wp2
                                       go_roundg k5
                                       case measure => have := HK1.out; have := HK2.out; have := HK3.out; have := HJ48.out; have := HK5.out; omega
                                       case rel => exact ⟨(!t331), (wrap64 (x12_5 + 1)), (by first | rfl ), (by first | rfl ), H', ⟨by have := HK1.out; have := HK2.out; have := HK3.out; have := HJ48.out; have := HK5.out; omega⟩, ⟨by (with_reducible repeat (first | apply Kd.R_drewN )); exact Kd.R_mono HO_3.out (fun _ hk => hk.1.1)⟩, ⟨by (with_reducible repeat (first | apply Kd.R_drewN )); exact Kd.R_mono HO_10.out (fun _ hk => hk.1.1)⟩, ⟨by (with_reducible repeat (first | refine blk_drewN ?_ _ )); exact BK273.out⟩, ⟨by repeat (first | (with_reducible first | exact HB.out | apply pw_below_drewN ) )⟩⟩
                                     · rw [if_neg c60] at H
                                       exact absurd H (by simp)
                                   · rw [if_neg c59] at H
                                     exact absurd H (by simp)
                               · rw [if_neg c56] at H
                                 exact absurd H (by simp)
                           · rw [if_neg c53] at H
                             have c53b0 : decide (x12_5 < (((rd_T47 l0_1 x8_2).f1).length : Int)) = false := decide_eq_false c53
                             clear c53
                             have H' := Aside0.mk H
                             clear H
                             go_wp2
                             go_roundg k5
                             case measure => have := HK1.out; have := HK2.out; have := HK3.out; have := HJ48.out; have := HK5.out; omega
                             case rel => exact ⟨(y302), (x4_5), (wrap64 (x8_2 + 1)), (by first | rfl ), (by first | rfl ), H', ⟨by have := HK1.out; have := HK2.out; have := HK3.out; have := HJ48.out; have := HK5.out; omega⟩, ⟨by exact Kd.R_mono HO_3.out (fun _ hk => trivial)⟩, ⟨by exact BK273.out⟩, ⟨by exact HB.out⟩⟩
             · rw [if_neg c33] at H
               exact absurd H (by simp)
           · rw [if_neg c32] at H
             exact absurd H (by simp)
         · rw [if_neg c31] at H
           have c31b0 : decide (x8_2 < (l0_1.length : Int)) = false := decide_eq_false c31
           clear c31
           by_cases c73 : x4_2 = true
           · subst c73
             have H1 : (some true) = some r := by rw [if_pos rfl] at H; exact H
             clear H
             have H := H1
             clear H1
             obtain rfl := Option.some.inj H
             have hcz74_0 : wr.cell? ⟨gb273, 0, none⟩ = some (.slice A0_0 l0_0.length c0_0) := (blk_cell BK273.out 0).trans rfl
             have hcz74_1 : wr.cell? ⟨gb273, 1, none⟩ = some (.slice A0_1 l0_1.length c0_1) := (blk_cell BK273.out 1).trans rfl
             have hfz74_0 := blk_frozen BK273.out 0
             have hfz74_1 := blk_frozen BK273.out 1
             go_wp2
             go_ret
             exact ⟨by first | rfl , by exact HB.out⟩
           · replace c73 := Bool.eq_false_iff.mpr c73
             subst c73
             have H1 : ((ecdysisref09_Once.f k2 x3_2).bind fun t297 => (some (!t297))) = some r := by rw [if_neg (show ¬ (false = true) by decide)] at H; exact H
             clear H
             have H := H1
             clear H1
             replace H := Option.bind_eq_some_iff.mp H
             obtain ⟨t297, A750, H⟩ := H
             replace H : (some (!t297)) = some r := H
             have A75 := Aside0.mk A750
             clear A750
             obtain rfl := Option.some.inj H
             have hcz76_0 : wr.cell? ⟨gb273, 0, none⟩ = some (.slice A0_0 l0_0.length c0_0) := (blk_cell BK273.out 0).trans rfl
             have hcz76_1 : wr.cell? ⟨gb273, 1, none⟩ = some (.slice A0_1 l0_1.length c0_1) := (blk_cell BK273.out 1).trans rfl
             have hfz76_0 := blk_frozen BK273.out 0
             have hfz76_1 := blk_frozen BK273.out 1
             obtain ⟨Ao77, co77, eo77⟩ := Kd.R_slice HO_3.out
             subst eo77
             go_wp2_with (first | (go_at_call 95; (with_reducible refine (ecdysisref09_Once.calls k2 _ _ x3_2 t297 _ ?side1 ?side2 A75.out).mono ?_); (case side1 => repeat (first | exact (Kd.R_reads' HO_3.out).2.2 )); (case side2 => exact (Kd.R_reads' HO_3.out).2.1); rintro e w' ⟨rfl, ⟨nd, rfl⟩⟩))
             go_ret
             exact ⟨by first | rfl , by repeat (first | (with_reducible first | exact HB.out | apply pw_below_drewN ) )⟩
end Go.Proofs.Ytbpnfpckoapdbaa.PF16
end
section
namespace Go.Proofs.Ytbpnfpckoapdbaa.PF16
open Go.RowKit Go.Proofs.Ytbpnfpckoapdbaa.M Go.Proofs.Ytbpnfpckoapdbaa.KD Go.Proofs.Ytbpnfpckoapdbaa Go.Proofs.YtbpnfpckoapdbaaW.PrintWords Go.Proofs.YtbpnfpckoapdbaaW.PrintLast Go.Proofs.YtbpnfpckoapdbaaW.PrintMore
attribute [local go_sem] max2_int min2_int max_two min_two max_three min_three max_four min_four   -- for this text's walks alone
set_option linter.unusedVariables false
set_option linter.unusedSimpArgs false
def ecdysisref15_Rises.l0 : Nat → List Int → Int → Option (Bool)
 | 0, _, _ => none
 | k + 1, x0, x3 => if x3 < (x0.length : Int) then (if 0 ≤ (wrap64 (x3 - 1)) then (if (wrap64 (x3 - 1)) < (x0.length : Int) then (if 0 ≤ x3 then (if (rd x0 (wrap64 (x3 - 1))) ≥ (rd x0 x3) then (some false) else (ecdysisref15_Rises.l0 k x0 (wrap64 (x3 + 1)))) else (none)) else (none)) else (none)) else (some true)
def ecdysisref15_Rises.f (k : Nat) (l0 : List Int) : Option (Bool) := ecdysisref15_Rises.l0 k l0 1
set_option maxHeartbeats 8000000 in
set_option maxRecDepth 100000 in
theorem ecdysisref15_Rises.calls (k : Nat) (A0 : Option Addr) (c0 : Nat) (l0 : List Int) (r : Bool) (w : World) (hr0 : Kd.C (Kd.int .i64) w A0 l0.length l0) (hc0 : l0.length ≤ c0) (h : ecdysisref15_Rises.f k l0 = some r) :
  Calls Try.prog 96 #[.slice A0 l0.length c0] w fun e w' => e = .returned (.bool r) ∧ Drawn0 w w' := by
 have HR0 := Aside0.mk hr0
 have HC0 := Aside0.mk hc0
 clear hr0 hc0
 have H : (ecdysisref15_Rises.l0 k l0 1) = some r := h
 clear h
 have H' := Aside0.mk H
 clear H
 go_enter Try.func96, Try.ntmps96
 go_wp2
 repeat (go_quiet (fail); try go_wp2)
 go_loopg [3] k (fun kq v3 w' => ∃ (x3_1 : Int), v3 = .int .i64 x3_1 ∧ Aside0 (ecdysisref15_Rises.l0 kq l0 x3_1 = some r) ∧ Aside0 (kq ≤ k) ∧ Drawn0 w w')
 case atStart => exact ⟨(1), (by first | rfl ), H', ⟨Nat.le_refl _⟩, by repeat (first | exact Drawn0.refl _ )⟩
 case round =>
  clear H'
  obtain ⟨x3_1, rfl, HA, HK1, ⟨m1, rfl⟩⟩ := hrel
  cases gk with
  | zero => exact absurd HA.out (by simp [ecdysisref15_Rises.l0])
  | succ k1 =>
   have H := HA.out
   clear HA
   simp only [ecdysisref15_Rises.l0] at H
   by_cases c2 : x3_1 < (l0.length : Int)
   · rw [if_pos c2] at H
     have c2b0 : decide (x3_1 < (l0.length : Int)) = true := decide_eq_true c2
     clear c2
     obtain ⟨ji3, hji3⟩ : ∃ j_ : Int, (wrap64 (x3_1 - 1)) = j_ := ⟨_, rfl⟩
     replace H : (if 0 ≤ (ji3) then (if (ji3) < (l0.length : Int) then (if 0 ≤ x3_1 then (if (rd l0 (ji3)) ≥ (rd l0 x3_1) then (some false) else (ecdysisref15_Rises.l0 k1 l0 (wrap64 (x3_1 + 1)))) else (none)) else (none)) else (none)) = some r := by first | (rw [hji3] at H; exact H) 
     have hji3w : (IntKind.i64.wrap (x3_1 - 1)) = ji3 := (i64_w _).trans hji3
     by_cases c4 : 0 ≤ (ji3)
     · rw [if_pos c4] at H
       have c4b0 : decide (0 ≤ (ji3)) = true := decide_eq_true c4
       clear c4
       by_cases c5 : (ji3) < (l0.length : Int)
       · rw [if_pos c5] at H
         have c5b0 : decide ((ji3) < (l0.length : Int)) = true := decide_eq_true c5
         clear c5
         by_cases c6 : 0 ≤ x3_1
         · rw [if_pos c6] at H
           have c6b0 : decide (0 ≤ x3_1) = true := decide_eq_true c6
           clear c6
           by_cases c7 : (rd l0 (ji3)) ≥ (rd l0 x3_1)
           · rw [if_pos c7] at H
             have c7b0 : decide ((rd l0 x3_1) ≤ (rd l0 (ji3))) = true := decide_eq_true c7
             clear c7
             obtain rfl := Option.some.inj H
             have p332 : 0 ≤ ((ji3) : Int) := of_decide_eq_true (by first | (with_reducible assumption) )
             have q332 : (ji3) < (l0.length : Int) := of_decide_eq_true (by first | (with_reducible assumption) )
             obtain ⟨ad332, e332, hx332_0⟩ := Kd.at_int HR0.out (ji3) p332 q332
             cases e332
             replace p332 := eq_true p332
             replace q332 := eq_true q332
             have p333 : 0 ≤ (x3_1 : Int) := of_decide_eq_true (by first | (with_reducible assumption) )
             have q333 : x3_1 < (l0.length : Int) := of_decide_eq_true (by first | (with_reducible assumption) )
             obtain ⟨ad333, e333, hx333_0⟩ := Kd.at_int HR0.out x3_1 p333 q333
             obtain rfl : ad332 = ad333 := (by injection e333)
             replace p333 := eq_true p333
             replace q333 := eq_true q333
             go_wp2
             repeat (go_quiet (fail); try go_wp2)
             go_ret
             exact ⟨by first | rfl , by repeat (first | exact Drawn0.refl _ | apply Drawn0.step)⟩
           · rw [if_neg c7] at H
             have c7b0 : decide ((rd l0 x3_1) ≤ (rd l0 (ji3))) = false := decide_eq_false c7
             clear c7
             have H' := Aside0.mk H
             clear H
             have p332 : 0 ≤ ((ji3) : Int) := of_decide_eq_true (by first | (with_reducible assumption) )
             have q332 : (ji3) < (l0.length : Int) := of_decide_eq_true (by first | (with_reducible assumption) )
             obtain ⟨ad332, e332, hx332_0⟩ := Kd.at_int HR0.out (ji3) p332 q332
             cases e332
             replace p332 := eq_true p332
             replace q332 := eq_true q332
             have p333 : 0 ≤ (x3_1 : Int) := of_decide_eq_true (by first | (with_reducible assumption) )
             have q333 : x3_1 < (l0.length : Int) := of_decide_eq_true (by first | (with_reducible assumption) )
             obtain ⟨ad333, e333, hx333_0⟩ := Kd.at_int HR0.out x3_1 p333 q333
             obtain rfl : ad332 = ad333 := (by injection e333)
             replace p333 := eq_true p333
             replace q333 := eq_true q333
             go_wp2
             repeat (go_quiet (fail); try go_wp2)
             go_roundg k1
             case measure => have := HK1.out; omega
             case rel => exact ⟨(wrap64 (x3_1 + 1)), (by first | rfl ), H', ⟨by have := HK1.out; omega⟩, by repeat (first | exact Drawn0.refl _ | apply Drawn0.step)⟩
         · rw [if_neg c6] at H
           exact absurd H (by simp)
       · rw [if_neg c5] at H
         exact absurd H (by simp)
     · rw [if_neg c4] at H
       exact absurd H (by simp)
   · rw [if_neg c2] at H
     have c2b0 : decide (x3_1 < (l0.length : Int)) = false := decide_eq_false c2
     clear c2
     obtain rfl := Option.some.inj H
     go_wp2
     repeat (go_quiet (fail); try go_wp2)
     go_ret
     exact ⟨by first | rfl , by repeat (first | exact Drawn0.refl _ | apply Drawn0.step)⟩
def ecdysisref09_Rise.l0 : Nat → List ByteArray → Int → Option (Bool)
 | 0, _, _ => none
 | k + 1, x0, x3 => if x3 < (x0.length : Int) then (if 0 ≤ (wrap64 (x3 - 1)) then (if (wrap64 (x3 - 1)) < (x0.length : Int) then (if 0 ≤ x3 then (if ((Op.bytesLess ((rdOf ByteArray.empty x0 (wrap64 (x3 - 1))).toList) ((rdOf ByteArray.empty x0 x3).toList)) = true) then (ecdysisref09_Rise.l0 k x0 (wrap64 (x3 + 1))) else (some false)) else (none)) else (none)) else (none)) else (some true)
def ecdysisref09_Rise.f (k : Nat) (l0 : List ByteArray) : Option (Bool) := ecdysisref09_Rise.l0 k l0 1
set_option maxHeartbeats 8000000 in
set_option maxRecDepth 100000 in
theorem ecdysisref09_Rise.calls (k : Nat) (A0 : Option Addr) (c0 : Nat) (l0 : List ByteArray) (r : Bool) (w : World) (hr0 : Kd.C Kd.string w A0 l0.length l0) (hc0 : l0.length ≤ c0) (h : ecdysisref09_Rise.f k l0 = some r) :
  Calls Try.prog 97 #[.slice A0 l0.length c0] w fun e w' => e = .returned (.bool r) ∧ Drawn0 w w' := by
 have HR0 := Aside0.mk hr0
 have HC0 := Aside0.mk hc0
 clear hr0 hc0
 have H : (ecdysisref09_Rise.l0 k l0 1) = some r := h
 clear h
 have H' := Aside0.mk H
 clear H
 go_enter Try.func97, Try.ntmps97
 go_wp2
 repeat (go_quiet (fail); try go_wp2)
 go_loopg [3] k (fun kq v3 w' => ∃ (x3_1 : Int), v3 = .int .i64 x3_1 ∧ Aside0 (ecdysisref09_Rise.l0 kq l0 x3_1 = some r) ∧ Aside0 (kq ≤ k) ∧ Drawn0 w w')
 case atStart => exact ⟨(1), (by first | rfl ), H', ⟨Nat.le_refl _⟩, by repeat (first | exact Drawn0.refl _ )⟩
 case round =>
  clear H'
  obtain ⟨x3_1, rfl, HA, HK1, ⟨m1, rfl⟩⟩ := hrel
  cases gk with
  | zero => exact absurd HA.out (by simp [ecdysisref09_Rise.l0])
  | succ k1 =>
   have H := HA.out
   clear HA
   simp only [ecdysisref09_Rise.l0] at H
   by_cases c2 : x3_1 < (l0.length : Int)
   · rw [if_pos c2] at H
     have c2b0 : decide (x3_1 < (l0.length : Int)) = true := decide_eq_true c2
     clear c2
     obtain ⟨ji3, hji3⟩ : ∃ j_ : Int, (wrap64 (x3_1 - 1)) = j_ := ⟨_, rfl⟩
     replace H : (if 0 ≤ (ji3) then (if (ji3) < (l0.length : Int) then (if 0 ≤ x3_1 then (if ((Op.bytesLess ((rdOf ByteArray.empty l0 (ji3)).toList) ((rdOf ByteArray.empty l0 x3_1).toList)) = true) then (ecdysisref09_Rise.l0 k1 l0 (wrap64 (x3_1 + 1))) else (some false)) else (none)) else (none)) else (none)) = some r := by first | (rw [hji3] at H; exact H) 
     have hji3w : (IntKind.i64.wrap (x3_1 - 1)) = ji3 := (i64_w _).trans hji3
     by_cases c4 : 0 ≤ (ji3)
     · rw [if_pos c4] at H
       have c4b0 : decide (0 ≤ (ji3)) = true := decide_eq_true c4
       clear c4
       by_cases c5 : (ji3) < (l0.length : Int)
       · rw [if_pos c5] at H
         have c5b0 : decide ((ji3) < (l0.length : Int)) = true := decide_eq_true c5
         clear c5
         by_cases c6 : 0 ≤ x3_1
         · rw [if_pos c6] at H
           have c6b0 : decide (0 ≤ x3_1) = true := decide_eq_true c6
           clear c6
           by_cases c7 : ((Op.bytesLess ((rdOf ByteArray.empty l0 (ji3)).toList) ((rdOf ByteArray.empty l0 x3_1).toList)) = true)
           · rw [if_pos c7] at H
             have c7b0 : (Op.bytesLess ((rdOf ByteArray.empty l0 (ji3)).toList) ((rdOf ByteArray.empty l0 x3_1).toList)) = true := c7
             clear c7
             have H' := Aside0.mk H
             clear H
             have p334 : 0 ≤ ((ji3) : Int) := of_decide_eq_true (by first | (with_reducible assumption) )
             have q334 : (ji3) < (l0.length : Int) := of_decide_eq_true (by first | (with_reducible assumption) )
             obtain ⟨ad334, e334, hx334_0⟩ := Kd.at_string HR0.out (ji3) p334 q334
             cases e334
             replace p334 := eq_true p334
             replace q334 := eq_true q334
             have p335 : 0 ≤ (x3_1 : Int) := of_decide_eq_true (by first | (with_reducible assumption) )
             have q335 : x3_1 < (l0.length : Int) := of_decide_eq_true (by first | (with_reducible assumption) )
             obtain ⟨ad335, e335, hx335_0⟩ := Kd.at_string HR0.out x3_1 p335 q335
             obtain rfl : ad334 = ad335 := (by injection e335)
             replace p335 := eq_true p335
             replace q335 := eq_true q335
             go_wp2
             repeat (go_quiet (fail); try go_wp2)
             go_roundg k1
             case measure => have := HK1.out; omega
             case rel => exact ⟨(wrap64 (x3_1 + 1)), (by first | rfl ), H', ⟨by have := HK1.out; omega⟩, by repeat (first | exact Drawn0.refl _ | apply Drawn0.step)⟩
           · rw [if_neg c7] at H
             have c7b0 : (Op.bytesLess ((rdOf ByteArray.empty l0 (ji3)).toList) ((rdOf ByteArray.empty l0 x3_1).toList)) = false := by simpa using c7
             clear c7
             obtain rfl := Option.some.inj H
             have p334 : 0 ≤ ((ji3) : Int) := of_decide_eq_true (by first | (with_reducible assumption) )
             have q334 : (ji3) < (l0.length : Int) := of_decide_eq_true (by first | (with_reducible assumption) )
             obtain ⟨ad334, e334, hx334_0⟩ := Kd.at_string HR0.out (ji3) p334 q334
             cases e334
             replace p334 := eq_true p334
             replace q334 := eq_true q334
             have p335 : 0 ≤ (x3_1 : Int) := of_decide_eq_true (by first | (with_reducible assumption) )
             have q335 : x3_1 < (l0.length : Int) := of_decide_eq_true (by first | (with_reducible assumption) )
             obtain ⟨ad335, e335, hx335_0⟩ := Kd.at_string HR0.out x3_1 p335 q335
             obtain rfl : ad334 = ad335 := (by injection e335)
             replace p335 := eq_true p335
             replace q335 := eq_true q335
             go_wp2
             repeat (go_quiet (fail); try go_wp2)
             go_ret
             exact ⟨by first | rfl , by repeat (first | exact Drawn0.refl _ | apply Drawn0.step)⟩
         · rw [if_neg c6] at H
           exact absurd H (by simp)
       · rw [if_neg c5] at H
         exact absurd H (by simp)
     · rw [if_neg c4] at H
       exact absurd H (by simp)
   · rw [if_neg c2] at H
     have c2b0 : decide (x3_1 < (l0.length : Int)) = false := decide_eq_false c2
     clear c2
     obtain rfl := Option.some.inj H
     go_wp2
     repeat (go_quiet (fail); try go_wp2)
     go_ret
     exact ⟨by first | rfl , by repeat (first | exact Drawn0.refl _ | apply Drawn0.step)⟩
def ecdysisref15_Nums.l0 : Nat → List Int → Int → ByteArray → List (S50) → List Int → Option (List Int)
 | 0, _, _, _, _, _ => none
 | k + 1, x3, x4, x337000, x337001, x337002 => if x4 < (x337001.length : Int) then (if 0 ≤ x4 then (if x3.length < 17592186044416 then (ecdysisref15_Nums.l0 k (x3 ++ [(rd_T50 x337001 x4).f1]) (wrap64 (x4 + 1)) x337000 x337001 x337002) else (none)) else (none)) else (some x3)
def ecdysisref15_Nums.f (k : Nat) (a0_0 : ByteArray) (l0_1 : List (S50)) (l0_2 : List Int) : Option (List Int) := ecdysisref15_Nums.l0 k (([] : List Int)) 0 a0_0 l0_1 l0_2
set_option maxHeartbeats 8000000 in
set_option maxRecDepth 100000 in
theorem ecdysisref15_Nums.calls (k : Nat) (a0_0 : ByteArray) (A0_1 : Option Addr) (c0_1 : Nat) (l0_1 : List (S50)) (A0_2 : Option Addr) (c0_2 : Nat) (l0_2 : List Int) (r : List Int) (w : World) (hr0_1 : Kd.C k50 w A0_1 l0_1.length l0_1) (hc0_1 : l0_1.length ≤ c0_1) (hr0_2 : Kd.C (Kd.int .i64) w A0_2 l0_2.length l0_2) (hc0_2 : l0_2.length ≤ c0_2) (h : ecdysisref15_Nums.f k a0_0 l0_1 l0_2 = some r) :
  Calls Try.prog 98 #[.agg #[.string a0_0, .slice A0_1 l0_1.length c0_1, .slice A0_2 l0_2.length c0_2]] w fun e w' => ∃ v0_ : Value, e = .returned (v0_) ∧ Kd.R (Kd.int .i64) 3 w' w.heap.size (fun _ => True) v0_ r ∧ Below w.heap.size w w' := by
 have hu47 := Try.underlying47
 have HR0_1 := Aside0.mk hr0_1
 have HC0_1 := Aside0.mk hc0_1
 clear hr0_1 hc0_1
 have HR0_2 := Aside0.mk hr0_2
 have HC0_2 := Aside0.mk hc0_2
 clear hr0_2 hc0_2
 have HB := Aside0.mk (Below.refl w.heap.size w)
 have H : (ecdysisref15_Nums.l0 k (([] : List Int)) 0 a0_0 l0_1 l0_2) = some r := h
 clear h
 obtain ⟨y337, hy337⟩ : ∃ y_ : List Int, y_ = (([] : List Int)) := ⟨_, rfl⟩
 replace H : (ecdysisref15_Nums.l0 k y337 0 a0_0 l0_1 l0_2) = some r := by first | (rw [hy337]; with_reducible exact H) 
 have Ny337 := Aside0.mk hy337
 clear hy337
 have H' := Aside0.mk H
 clear H
 go_enter Try.func98, Try.ntmps98
 go_wp2_with (first | ((with_reducible refine gate_dst (N := 1) rfl ?_); refine box_event ?hg (N := 1) ?hd (cs := #[.string a0_0, .slice A0_1 l0_1.length c0_1, .slice A0_2 l0_2.length c0_2]) (t := 47) ?hr ?_; (case hd => rfl); (case hg => rfl); (case hr => first | (go_simp; done) | (go_simp; rfl)); intro gb336 hg w2 hbox hb; have n0_ := Aside0.mk (below_step HB.out hb); have n1_ := Aside0.mk (hbox); clear HB; have HB := n0_; have BK336 := n1_; clear n0_ n1_; clear hb hbox hg) | ((with_reducible refine gate_dst (N := 5) rfl ?_); refine Kd.R_lit (Kd.int .i64) _ 3 ?hg (N := 5) ?hd (xs := ([] : List Int)) (inner := []) (ok := fun _ => True) (okp := fun _ => True) ?hr ?hp (fun _ hk => hk) trivial (Below.refl _ _) (Nat.le_refl _) (by simp) ?_; (case hd => rfl); (case hg => rfl); (case hr => first | (go_simp; done) | (go_simp; rfl)); (case hp => exact (Reps.none _ _)); intro v338 w3 ho4 hb hg_ hnew_; clear hg_ hnew_; (first | rw [← Ny337.out] at ho4 ); have n0_ := Aside0.mk (Kd.R_lower ho4 (below_size HB.out)); have n1_ := Aside0.mk (blk_below BK336.out hb); have n2_ := Aside0.mk (below_step HB.out hb); clear BK336; clear HB; have HO339 := n0_; have BK336 := n1_; have HB := n2_; clear n0_ n1_ n2_; clear hb ho4))
 go_loopg [3, 4] k (fun kq v3 v4 w' => ∃ (x3_1 : List Int) (x4_1 : Int), v4 = .int .i64 x4_1 ∧ Aside0 (ecdysisref15_Nums.l0 kq x3_1 x4_1 a0_0 l0_1 l0_2 = some r) ∧ Aside0 (kq ≤ k) ∧ Aside0 (Kd.R (Kd.int .i64) 3 w' w.heap.size (fun _ => True) v3 x3_1) ∧ Aside0 (w'.heap[gb336]? = some (.cells #[.string a0_0, (.slice A0_1 l0_1.length c0_1), (.slice A0_2 l0_2.length c0_2)] 47 (0, 0))) ∧ Aside0 (Below w.heap.size w w'))
 case atStart => exact ⟨(y337), (0), (by first | rfl ), H', ⟨Nat.le_refl _⟩, ⟨by exact HO339.out⟩, ⟨by exact BK336.out⟩, ⟨by exact HB.out⟩⟩
 case round =>
  clear H'
  try clear p2
  obtain ⟨x3_1, x4_1, rfl, HA, HK1, HO_3, BK336, HB⟩ := hrel
  cases gk with
  | zero => exact absurd HA.out (by simp [ecdysisref15_Nums.l0])
  | succ k1 =>
   have H := HA.out
   clear HA
   simp only [ecdysisref15_Nums.l0] at H
   by_cases c5 : x4_1 < (l0_1.length : Int)
   · rw [if_pos c5] at H
     have c5b0 : decide (x4_1 < (l0_1.length : Int)) = true := decide_eq_true c5
     clear c5
     by_cases c6 : 0 ≤ x4_1
     · rw [if_pos c6] at H
       have c6b0 : decide (0 ≤ x4_1) = true := decide_eq_true c6
       clear c6
       by_cases c7 : x3_1.length < 17592186044416
       · rw [if_pos c7] at H
         have LMc7 := Aside0.mk c7
         clear c7
         obtain ⟨y341, hy341⟩ : ∃ y_ : List Int, y_ = (x3_1 ++ [(rd_T50 l0_1 x4_1).f1]) := ⟨_, rfl⟩
         replace H : (ecdysisref15_Nums.l0 k1 y341 (wrap64 (x4_1 + 1)) a0_0 l0_1 l0_2) = some r := by first | (rw [hy341]; with_reducible exact H) 
         have Ny341 := Aside0.mk hy341
         clear hy341
         have H' := Aside0.mk H
         clear H
         have hcz8_0 : wr.cell? ⟨gb336, 0, none⟩ = some (.string a0_0) := (blk_cell BK336.out 0).trans rfl
         have hcz8_1 : wr.cell? ⟨gb336, 1, none⟩ = some (.slice A0_1 l0_1.length c0_1) := (blk_cell BK336.out 1).trans rfl
         have hcz8_2 : wr.cell? ⟨gb336, 2, none⟩ = some (.slice A0_2 l0_2.length c0_2) := (blk_cell BK336.out 2).trans rfl
         have hfz8_0 := blk_frozen BK336.out 0
         have hfz8_1 := blk_frozen BK336.out 1
         have hfz8_2 := blk_frozen BK336.out 2
         have p340 : 0 ≤ (x4_1 : Int) := of_decide_eq_true (by first | (with_reducible assumption) )
         have q340 : x4_1 < (l0_1.length : Int) := of_decide_eq_true (by first | (with_reducible assumption) )
         obtain ⟨ad340, e340, hx340_0, hx340_1, hx340_2, hx340_3, hx340_4, hx340_5, hx340_6⟩ := at_T50 HR0_1.out x4_1 p340 q340
         cases e340
         replace hx340_0 := (HB.out.cell (World.block_lt_of_cell? w _ hx340_0)).trans hx340_0
         replace hx340_1 := (HB.out.cell (World.block_lt_of_cell? w _ hx340_1)).trans hx340_1
         replace hx340_2 := (HB.out.cell (World.block_lt_of_cell? w _ hx340_2)).trans hx340_2
         replace hx340_3 := (HB.out.cell (World.block_lt_of_cell? w _ hx340_3)).trans hx340_3
         replace hx340_4 := (HB.out.cell (World.block_lt_of_cell? w _ hx340_4)).trans hx340_4
         replace hx340_5 := (HB.out.cell (World.block_lt_of_cell? w _ hx340_5)).trans hx340_5
         replace hx340_6 := (HB.out.cell (World.block_lt_of_cell? w _ hx340_6)).trans hx340_6
         replace p340 := eq_true p340
         replace q340 := eq_true q340
         go_wp2_with (first | ((with_reducible refine gate_builtin (b := .append) (xs := #[.tmp 13, .tmp 20]) rfl ?_); at_builtin; refine Kd.R_append (Kd.int .i64) (w0 := w) w.heap.size rfl (.tmp 13) (.tmp 20) 45 3 (.int .i64 0) 8 rfl Try.underlying45 info3 rfl (by decide) (by omega) u3 x3_1 ((rd_T50 l0_1 x4_1).f1) [.int .i64 ((rd_T50 l0_1 x4_1).f1)] (fun _ => True) (fun _ => False) rfl rfl ?aP (fun _ hk => hk.elim) ?aF ?aO ?aB ?aS ?aL ?_; (case aP => exact rfl); (case aB => exact HB.out); (case aF => exact (fun _ _ => trivial)); (case aO => exact HO_3.out); (case aS => exact (below_size HB.out)); (case aL => have := LMc7.out; omega); intro v342 w9 ho hb hg hat; rw [← Ny341.out] at ho; have n0_ := Aside0.mk (blk_grown (g := gb336) (o := .cells #[.string a0_0, .slice (some ad340) l0_1.length c0_1, .slice A0_2 l0_2.length c0_2] 47 (0, 0)) BK336.out hg (Kd.R_ne HO_3.out BK336.out (by decide))); have n1_ := Aside0.mk (hb); have n2_ := Aside0.mk (ho); clear BK336; clear HB; clear HO_3; have BK336 := n0_; have HB := n1_; have HO343 := n2_; clear n0_ n1_ n2_; clear ho hb hg hat))
         go_roundg k1
         case measure => have := HK1.out; omega
         case rel => exact ⟨(y341), (wrap64 (x4_1 + 1)), (by first | rfl ), H', ⟨by have := HK1.out; omega⟩, ⟨by exact HO343.out⟩, ⟨by exact BK336.out⟩, ⟨by exact HB.out⟩⟩
       · rw [if_neg c7] at H
         exact absurd H (by simp)
     · rw [if_neg c6] at H
       exact absurd H (by simp)
   · rw [if_neg c5] at H
     have c5b0 : decide (x4_1 < (l0_1.length : Int)) = false := decide_eq_false c5
     clear c5
     obtain rfl := Option.some.inj H
     have hcz10_0 : wr.cell? ⟨gb336, 0, none⟩ = some (.string a0_0) := (blk_cell BK336.out 0).trans rfl
     have hcz10_1 : wr.cell? ⟨gb336, 1, none⟩ = some (.slice A0_1 l0_1.length c0_1) := (blk_cell BK336.out 1).trans rfl
     have hcz10_2 : wr.cell? ⟨gb336, 2, none⟩ = some (.slice A0_2 l0_2.length c0_2) := (blk_cell BK336.out 2).trans rfl
     have hfz10_0 := blk_frozen BK336.out 0
     have hfz10_1 := blk_frozen BK336.out 1
     have hfz10_2 := blk_frozen BK336.out 2
     go_wp2
     go_ret
     exact ⟨_, by first | rfl , by exact HO_3.out, by exact HB.out⟩
end Go.Proofs.Ytbpnfpckoapdbaa.PF16
end

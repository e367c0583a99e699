/- decode.Unpack and the document's Unpack tell the same of every field and text; the page's example is read as it says (text 3 of 5; some of it the words and functions that the kit's print and this claim's programs wrote) -/
import Derived.Test.YthgddlibfboehaaDoorQDecodeUnpacks1
import Derived.LoopN
import Derived.Laws.CopyOwn
import Derived.Laws.Rows
import Derived.Laws.BitsAllLaws
import Derived.WalkLawsBesides
import Derived.Deep.Slices
import Derived.ChangeArms
import Derived.ChangeSame
import Derived.ProofKit
import Derived.SizedLaws
import Derived.Test.YthgddlibfboehaaDoorProg
import Derived.KernelRfl
import Derived.WalkKit
import Derived.WalkSpells
import Derived.Deep.QuietTactic
import Derived.BigQuiet
import Derived.StillTailTactics
import Derived.Deep.RegionWith
import Derived.Deep.RegionHeld3
import Derived.Deep.DeepCutAuto
import Derived.Deep.CutBlock
import Derived.WalkMore
import Derived.Laws.IdiomCopy
import Derived.Laws.CopyRow
import Derived.Lib.AppendZerosOnto
section
namespace Go.Proofs.YthgddlibfboehaaDoor.M
open Go.RowKit Go.Proofs.YthgddlibfboehaaDoorW.PrintWords Go.Proofs.YthgddlibfboehaaDoorW.PrintLast
/-- The eight bytes of a number. -/
def b8 (a : Int) : List Int := [a % 256, a / 256 % 256, a / 65536 % 256, a / 16777216 % 256, a / 4294967296 % 256, a / 1099511627776 % 256, a / 281474976710656 % 256, a / 72057594037927936]
def b4 (a : Int) : List Int := [a % 256, a / 256 % 256, a / 65536 % 256, a / 16777216]
theorem orP (a y : Int) (i : Nat) (P : Int) (hP : P = ((2 ^ (8 * i) : Nat) : Int)) (hi : i ≤ 7) (a0 : 0 ≤ a) (a1 : a < P) (h0 : 0 ≤ y ∧ y ≤ 255) : Go.bits .or .u64 a (y * P) = a + y * P := by
 have hle : P ≤ 72057594037927936 := by
  rw [hP]
  have h1 : 2 ^ (8 * i) ≤ 2 ^ 56 := Nat.pow_le_pow_right (by omega) (by omega)
  have h2 : (2 ^ 56 : Nat) = 72057594037927936 := by decide
  omega
 have h3 : 0 ≤ y * P ∧ y * P ≤ 255 * P := ⟨Int.mul_nonneg h0.1 (by omega), Int.mul_le_mul_of_nonneg_right h0.2 (by omega)⟩
 rw [u64_or _ _ a0 (by omega) h3.1 (by omega), Nat.or_comm]
 have h4 : (y * P).toNat = y.toNat * 2 ^ (8 * i) := by
  obtain ⟨m, rfl⟩ := Int.eq_ofNat_of_zero_le h0.1
  rw [hP, ← Int.natCast_mul, Int.toNat_natCast, Int.toNat_natCast]
 rw [nat_join (8 * i) _ _ (by rw [h4]; exact Nat.mul_mod_left _ _) (by omega)]
 omega
theorem sum8 (c0 c1 c2 c3 c4 c5 c6 c7 : Int) (h0 : 0 ≤ c0 ∧ c0 ≤ 255) (h1 : 0 ≤ c1 ∧ c1 ≤ 255) (h2 : 0 ≤ c2 ∧ c2 ≤ 255) (h3 : 0 ≤ c3 ∧ c3 ≤ 255) (h4 : 0 ≤ c4 ∧ c4 ≤ 255) (h5 : 0 ≤ c5 ∧ c5 ≤ 255) (h6 : 0 ≤ c6 ∧ c6 ≤ 255) (h7 : 0 ≤ c7 ∧ c7 ≤ 255) : (Go.bits .or .u64 (Go.bits .or .u64 (Go.bits .or .u64 (Go.bits .or .u64 (Go.bits .or .u64 (Go.bits .or .u64 (Go.bits .or .u64 (Go.bits .or .u64 0 c0) (c1 * 256)) (c2 * 65536)) (c3 * 16777216)) (c4 * 4294967296)) (c5 * 1099511627776)) (c6 * 281474976710656)) (c7 * 72057594037927936)) = c0 + c1 * 256 + c2 * 65536 + c3 * 16777216 + c4 * 4294967296 + c5 * 1099511627776 + c6 * 281474976710656 + c7 * 72057594037927936 := by
 rw [show Go.bits .or .u64 0 c0 = c0 from by rw [u64_or _ _ (by omega) (by omega) (by omega) (by omega)]; simp; omega]
 rw [orP _ c1 1 256 (by decide) (by omega) (by omega) (by omega) h1]
 rw [orP _ c2 2 65536 (by decide) (by omega) (by omega) (by omega) h2]
 rw [orP _ c3 3 16777216 (by decide) (by omega) (by omega) (by omega) h3]
 rw [orP _ c4 4 4294967296 (by decide) (by omega) (by omega) (by omega) h4]
 rw [orP _ c5 5 1099511627776 (by decide) (by omega) (by omega) (by omega) h5]
 rw [orP _ c6 6 281474976710656 (by decide) (by omega) (by omega) (by omega) h6]
 rw [orP _ c7 7 72057594037927936 (by decide) (by omega) (by omega) (by omega) h7]
set_option maxHeartbeats 2000000 in
theorem number_calls (c0 c1 c2 c3 c4 c5 c6 c7 : Int) (w : World) (h0 : 0 ≤ c0 ∧ c0 ≤ 255) (h1 : 0 ≤ c1 ∧ c1 ≤ 255) (h2 : 0 ≤ c2 ∧ c2 ≤ 255) (h3 : 0 ≤ c3 ∧ c3 ≤ 255) (h4 : 0 ≤ c4 ∧ c4 ≤ 255) (h5 : 0 ≤ c5 ∧ c5 ≤ 255) (h6 : 0 ≤ c6 ∧ c6 ≤ 255) (h7 : 0 ≤ c7 ∧ c7 ≤ 255) :
  Calls Tryd.prog 85 #[.agg #[.int .u8 c0, .int .u8 c1, .int .u8 c2, .int .u8 c3, .int .u8 c4, .int .u8 c5, .int .u8 c6, .int .u8 c7]] w fun e w' => e = .returned (.int .u64 (c0 + c1 * 256 + c2 * 65536 + c3 * 16777216 + c4 * 4294967296 + c5 * 1099511627776 + c6 * 281474976710656 + c7 * 72057594037927936)) ∧ Below w.heap.size w w' := by
 have hs := sum8 c0 c1 c2 c3 c4 c5 c6 c7 h0 h1 h2 h3 h4 h5 h6 h7
 have HS := Aside0.mk hs
 clear hs
 obtain ⟨p0, q0⟩ := h0
 obtain ⟨p1, q1⟩ := h1
 obtain ⟨p2, q2⟩ := h2
 obtain ⟨p3, q3⟩ := h3
 obtain ⟨p4, q4⟩ := h4
 obtain ⟨p5, q5⟩ := h5
 obtain ⟨p6, q6⟩ := h6
 obtain ⟨p7, q7⟩ := h7
 have i0 : ∀ w, (Instr.index 128 (.agg #[.int .u8 c0, .int .u8 c1, .int .u8 c2, .int .u8 c3, .int .u8 c4, .int .u8 c5, .int .u8 c6, .int .u8 c7]) (.int .i64 0)).run Tryd.prog w = .ok (.int .u8 c0) w := fun _ => by kernel_rfl
 have i1 : ∀ w, (Instr.index 128 (.agg #[.int .u8 c0, .int .u8 c1, .int .u8 c2, .int .u8 c3, .int .u8 c4, .int .u8 c5, .int .u8 c6, .int .u8 c7]) (.int .i64 1)).run Tryd.prog w = .ok (.int .u8 c1) w := fun _ => by kernel_rfl
 have i2 : ∀ w, (Instr.index 128 (.agg #[.int .u8 c0, .int .u8 c1, .int .u8 c2, .int .u8 c3, .int .u8 c4, .int .u8 c5, .int .u8 c6, .int .u8 c7]) (.int .i64 2)).run Tryd.prog w = .ok (.int .u8 c2) w := fun _ => by kernel_rfl
 have i3 : ∀ w, (Instr.index 128 (.agg #[.int .u8 c0, .int .u8 c1, .int .u8 c2, .int .u8 c3, .int .u8 c4, .int .u8 c5, .int .u8 c6, .int .u8 c7]) (.int .i64 3)).run Tryd.prog w = .ok (.int .u8 c3) w := fun _ => by kernel_rfl
 have i4 : ∀ w, (Instr.index 128 (.agg #[.int .u8 c0, .int .u8 c1, .int .u8 c2, .int .u8 c3, .int .u8 c4, .int .u8 c5, .int .u8 c6, .int .u8 c7]) (.int .i64 4)).run Tryd.prog w = .ok (.int .u8 c4) w := fun _ => by kernel_rfl
 have i5 : ∀ w, (Instr.index 128 (.agg #[.int .u8 c0, .int .u8 c1, .int .u8 c2, .int .u8 c3, .int .u8 c4, .int .u8 c5, .int .u8 c6, .int .u8 c7]) (.int .i64 5)).run Tryd.prog w = .ok (.int .u8 c5) w := fun _ => by kernel_rfl
 have i6 : ∀ w, (Instr.index 128 (.agg #[.int .u8 c0, .int .u8 c1, .int .u8 c2, .int .u8 c3, .int .u8 c4, .int .u8 c5, .int .u8 c6, .int .u8 c7]) (.int .i64 6)).run Tryd.prog w = .ok (.int .u8 c6) w := fun _ => by kernel_rfl
 have i7 : ∀ w, (Instr.index 128 (.agg #[.int .u8 c0, .int .u8 c1, .int .u8 c2, .int .u8 c3, .int .u8 c4, .int .u8 c5, .int .u8 c6, .int .u8 c7]) (.int .i64 7)).run Tryd.prog w = .ok (.int .u8 c7) w := fun _ => by kernel_rfl
 go_enter Tryd.func85, Tryd.ntmps85
 go_wp2
 refine wp_loop_rounds 9 ?_
 iterate 9 (rw [rounds_succ]; go_wp2)
 go_ret
 exact ⟨congrArg (fun z => Ending.returned (.int .u64 z)) HS.out, below_alloc (Below.refl _ _) _⟩
/-- What bytes are as_ a number, the first one least. -/
def val8 (l : List Int) : Int := l.getD 0 0 + l.getD 1 0 * 256 + l.getD 2 0 * 65536 + l.getD 3 0 * 16777216 + l.getD 4 0 * 4294967296 + l.getD 5 0 * 1099511627776 + l.getD 6 0 * 281474976710656 + l.getD 7 0 * 72057594037927936
theorem elem8 : (Tryd.prog.info? 5).map (·.size) = some 1 := by kernel_rfl
theorem src_cells {w : World} {A : Option Addr} {l : List Int} (h : Kd.C (Kd.int .u8) w A l.length l) (m : Nat) (hm : m ≤ l.length) (h0 : 0 < m) :
   ∃ ad, A = some ad ∧ ∀ j v, ((l.take m).map (Value.int .u8))[j]? = some v → w.cell? (ad.add j) = some v := by
 have hr := Kd.reads_of_C (enc := Value.int .u8) (d := 0) h
 obtain ⟨ad, ha, hc⟩ := hr.2.2 (by omega)
 refine ⟨ad, ha, fun j v hv => ?_⟩
 rw [List.getElem?_map, List.getElem?_take] at hv
 split at hv
 · rename_i hj
   have hj2 : j < l.length := by omega
   rw [List.getElem?_eq_getElem hj2] at hv
   simp at hv
   rw [hc j hj2, ← hv]
   simp [List.getD_eq_getElem?_getD, List.getElem?_eq_getElem hj2]
 · simp at hv
theorem eight (l : List Int) (h : 8 ≤ l.length) : ∃ c0 c1 c2 c3 c4 c5 c6 c7 rest, l = c0 :: c1 :: c2 :: c3 :: c4 :: c5 :: c6 :: c7 :: rest := by
 iterate 8 (rcases l with _ | ⟨_, l⟩; · simp at h)
 exact ⟨_, _, _, _, _, _, _, _, _, rfl⟩
theorem four (l : List Int) (h : 4 ≤ l.length) : ∃ c0 c1 c2 c3 rest, l = c0 :: c1 :: c2 :: c3 :: rest := by
 iterate 4 (rcases l with _ | ⟨_, l⟩; · simp at h)
 exact ⟨_, _, _, _, _, rfl⟩
def val4 (l : List Int) : Int := l.getD 0 0 + l.getD 1 0 * 256 + l.getD 2 0 * 65536 + l.getD 3 0 * 16777216
def fix_Get8.f (l0 : List Int) : Option (Int × Bool) := if l0.length < 8 then some (0, false) else if ∀ x ∈ l0.take 8, 0 ≤ x ∧ x ≤ 255 then some (val8 l0, true) else none
set_option maxHeartbeats 2000000 in
theorem fix_Get8.calls (A0 : Option Addr) (c0 : Nat) (l0 : List Int) (r1 : Int) (r2 : Bool) (w : World) (hr0 : Kd.C (Kd.int .u8) w A0 l0.length l0) (_hc0 : l0.length ≤ c0) (h : fix_Get8.f l0 = some (r1, r2)) :
   Calls Tryd.prog 67 #[.slice A0 l0.length c0] w fun e w' => e = .returned (.tuple #[.int .u64 r1, .bool r2]) ∧ Below w.heap.size w w' := by
 unfold fix_Get8.f at h
 by_cases hl : l0.length < 8
 · rw [if_pos hl] at h
   simp only [Option.some.injEq, Prod.mk.injEq] at h
   obtain ⟨rfl, rfl⟩ := h
   go_enter Tryd.func67, Tryd.ntmps67
   go_wp2
   go_ret2
   exact ⟨rfl, Below.refl _ _⟩
 · rw [if_neg hl] at h
   by_cases hb : ∀ x ∈ l0.take 8, 0 ≤ x ∧ x ≤ 255
   · rw [if_pos hb] at h
     simp only [Option.some.injEq, Prod.mk.injEq] at h
     obtain ⟨rfl, rfl⟩ := h
     obtain ⟨ad, ha, hcell⟩ := src_cells hr0 8 (by omega) (by omega)
     obtain ⟨c0', c1, c2, c3, c4, c5, c6, c7, rest, rfl⟩ := eight l0 (by omega)
     have HA := Aside0.mk ha
     have HCL := Aside0.mk hcell
     have HN := Aside0.mk (fun W => number_calls c0' c1 c2 c3 c4 c5 c6 c7 W (hb _ (by simp)) (hb _ (by simp)) (hb _ (by simp)) (hb _ (by simp)) (hb _ (by simp)) (hb _ (by simp)) (hb _ (by simp)) (hb _ (by simp)))
     have hlen : ¬ (((c0' :: c1 :: c2 :: c3 :: c4 :: c5 :: c6 :: c7 :: rest).length : Int) < 8) := by simp; omega
     clear ha hcell hb hl hr0
     go_enter Tryd.func67, Tryd.ntmps67
     go_wp2_with (first | ((with_reducible refine wpList_copy_splice rfl (.tmp 8) (.tmp 9) _ _ rfl 5 Tryd.underlying45 elem8 _ _ _ _ _ _ rfl rfl w.heap.size 0 [.int .u8 0, .int .u8 0, .int .u8 0, .int .u8 0, .int .u8 0, .int .u8 0, .int .u8 0, .int .u8 0] 128 ?h1 [.int .u8 c0', .int .u8 c1, .int .u8 c2, .int .u8 c3, .int .u8 c4, .int .u8 c5, .int .u8 c6, .int .u8 c7] ?h2 ?h3 ?h4 ?h5 w.heap.size w ?h6 (Nat.le_refl _) ?_); (case h1 => exact blk_new w _); (case h2 => show 8 = Nat.min _ 8; exact (Nat.min_eq_right (by omega)).symm); (case h3 => exact fun _ => ⟨rfl, ad, HA.out, fun j v hv => pw_cell_below (below_alloc (Below.refl _ _) _) (HCL.out j v hv)⟩); (case h4 => simp); (case h5 => simp [Value.oneCell']); (case h6 => exact below_alloc (Below.refl _ _) _); intro w2 hh hb2; have hb3 := Aside0.mk hb2; clear hb2) | (refine wpList_load_row rfl 128 (.tmp 4) rfl w.heap.size rfl 128 #[.int .u8 c0', .int .u8 c1, .int .u8 c2, .int .u8 c3, .int .u8 c4, .int .u8 c5, .int .u8 c6, .int .u8 c7] (0, 0) _ hh Tryd.underlying128 rfl (by kernel_rfl) ?_))
     refine (HN.out _).mono ?_
     rintro e w3 ⟨rfl, hb4⟩
     have hb5 := Aside0.mk (hb3.out.trans (hb4.mono hb3.out.size))
     clear hb3 hb4 hh
     have hb3 := hb5
     go_wp2_with fail
     go_ret2
     exact ⟨rfl, hb3.out⟩
   · rw [if_neg hb] at h
     cases h
def fix_Get4.f (l0 : List Int) : Option (Int × Bool) := if l0.length < 4 then some (0, false) else if ∀ x ∈ l0.take 4, 0 ≤ x ∧ x ≤ 255 then some (val4 l0, true) else none
set_option maxHeartbeats 2000000 in
theorem fix_Get4.calls (A0 : Option Addr) (c0 : Nat) (l0 : List Int) (r1 : Int) (r2 : Bool) (w : World) (hr0 : Kd.C (Kd.int .u8) w A0 l0.length l0) (_hc0 : l0.length ≤ c0) (h : fix_Get4.f l0 = some (r1, r2)) :
   Calls Tryd.prog 65 #[.slice A0 l0.length c0] w fun e w' => e = .returned (.tuple #[.int .u32 r1, .bool r2]) ∧ Below w.heap.size w w' := by
 unfold fix_Get4.f at h
 by_cases hl : l0.length < 4
 · rw [if_pos hl] at h
   simp only [Option.some.injEq, Prod.mk.injEq] at h
   obtain ⟨rfl, rfl⟩ := h
   go_enter Tryd.func65, Tryd.ntmps65
   go_wp2
   go_ret2
   exact ⟨rfl, Below.refl _ _⟩
 · rw [if_neg hl] at h
   by_cases hb : ∀ x ∈ l0.take 4, 0 ≤ x ∧ x ≤ 255
   · rw [if_pos hb] at h
     simp only [Option.some.injEq, Prod.mk.injEq] at h
     obtain ⟨rfl, rfl⟩ := h
     obtain ⟨ad, ha, hcell⟩ := src_cells hr0 4 (by omega) (by omega)
     obtain ⟨c0', c1, c2, c3, rest, rfl⟩ := four l0 (by omega)
     have HA := Aside0.mk ha
     have HCL := Aside0.mk hcell
     have HN := Aside0.mk (fun W => number_calls c0' c1 c2 c3 0 0 0 0 W (hb _ (by simp)) (hb _ (by simp)) (hb _ (by simp)) (hb _ (by simp)) (by omega) (by omega) (by omega) (by omega))
     have HV := Aside0.mk (show (c0' + c1 * 256 + c2 * 65536 + c3 * 16777216) % 4294967296 = c0' + c1 * 256 + c2 * 65536 + c3 * 16777216 by have b0 := hb c0' (by simp); have b1 := hb c1 (by simp); have b2 := hb c2 (by simp); have b3 := hb c3 (by simp); omega)
     have hlen : ¬ (((c0' :: c1 :: c2 :: c3 :: rest).length : Int) < 4) := by simp; omega
     clear ha hcell hb hl hr0
     go_enter Tryd.func65, Tryd.ntmps65
     go_wp2_with (first | ((with_reducible refine wpList_copy_splice rfl (.tmp 8) (.tmp 9) _ _ rfl 5 Tryd.underlying45 elem8 _ _ _ _ _ _ rfl rfl w.heap.size 0 [.int .u8 0, .int .u8 0, .int .u8 0, .int .u8 0, .int .u8 0, .int .u8 0, .int .u8 0, .int .u8 0] 128 ?h1 [.int .u8 c0', .int .u8 c1, .int .u8 c2, .int .u8 c3] ?h2 ?h3 ?h4 ?h5 w.heap.size w ?h6 (Nat.le_refl _) ?_); (case h1 => exact blk_new w _); (case h2 => show 4 = Nat.min _ 4; exact (Nat.min_eq_right (by omega)).symm); (case h3 => exact fun _ => ⟨rfl, ad, HA.out, fun j v hv => pw_cell_below (below_alloc (Below.refl _ _) _) (HCL.out j v hv)⟩); (case h4 => simp); (case h5 => simp [Value.oneCell']); (case h6 => exact below_alloc (Below.refl _ _) _); intro w2 hh hb2; have hb3 := Aside0.mk hb2; clear hb2) | (refine wpList_load_row rfl 128 (.tmp 4) rfl w.heap.size rfl 128 #[.int .u8 c0', .int .u8 c1, .int .u8 c2, .int .u8 c3, .int .u8 0, .int .u8 0, .int .u8 0, .int .u8 0] (0, 0) _ hh Tryd.underlying128 rfl (by kernel_rfl) ?_))
     refine (HN.out _).mono ?_
     rintro e w3 ⟨rfl, hb4⟩
     have hb5 := Aside0.mk (hb3.out.trans (hb4.mono hb3.out.size))
     clear hb3 hb4 hh
     have hb3 := hb5
     go_wp2_with fail
     go_ret2
     exact ⟨congrArg (fun z => Ending.returned (.tuple #[.int .u32 z, .bool true])) HV.out, hb3.out⟩
   · rw [if_neg hb] at h
     cases h
end Go.Proofs.YthgddlibfboehaaDoor.M
end
section
namespace Go.Proofs.YthgddlibfboehaaDoor.VLib
open Go.RowKit Go.Proofs.YthgddlibfboehaaDoor.M Go.Proofs.YthgddlibfboehaaDoor.PLib Go.Proofs.YthgddlibfboehaaDoorW.PrintWords Go.Proofs.YthgddlibfboehaaDoorW.PrintLast Go.Proofs.YthgddlibfboehaaDoorW.PrintMore Go.Proofs.YthgddlibfboehaaDoor.Var
theorem getl : ∀ (d k i : Nat) (acc : Int) (l : List Int), (∀ x ∈ l, 0 ≤ x ∧ x ≤ 255) → l.length = i + d → 2 * d < k → 0 ≤ acc → acc < ((128 ^ i : Nat) : Int) → i ≤ 10 → l.length ≤ 140737488359000 →
  varint_Get.l0 k acc l (l.length : Int) (i : Int) = some (dec (l.drop i) i acc)
 | 0, k, i, acc, l, _, hl, hk, _, _, _, _ => by
  obtain ⟨k, rfl⟩ : ∃ m, k = m + 1 := ⟨k - 1, by omega⟩
  simp only [varint_Get.l0]
  rw [if_neg (by omega), List.drop_of_length_le (by omega)]
  rfl
 | d + 1, k, i, acc, l, hb, hl, hk, a0, a1, hi, hlen => by
  obtain ⟨k, rfl⟩ : ∃ m, k = m + 2 := ⟨k - 2, by omega⟩
  have hc := hb _ (rd_mem l i (by omega))
  have hr := rd_drop l i (by omega)
  have step : ¬ (i = 10 ∨ (i = 9 ∧ rd l (i : Int) > 1)) → varint_Get.j1 (k + 1) acc (i : Int) (rd l (i : Int)) l (l.length : Int) (i : Int) false = some (dec (l.drop i) i acc) := by
    intro hn
    have hw : wrap64 ((i : Int) + 1) = (i : Int) + 1 := by unfold wrap64; omega
    have hw7 : wrap64 (7 * (i : Int)) = 7 * (i : Int) := by unfold wrap64; omega
    have h7 : (0 : Int) ≤ wrap64 (7 * (i : Int)) := by rw [hw7]; omega
    have hu : IntKind.u64.wrap (rd l (i : Int) % 128) = rd l (i : Int) % 128 := by rw [IntKind.wrap_u64]; omega
    simp only [varint_Get.j1]
    rw [if_neg (by decide), if_pos h7, low7 _ hc.1 hc.2, hu, hw, shl7 _ i (by omega) (by omega) (by omega) (fun h => by omega), or_part acc _ i a0 a1 (by omega) (by omega) (by omega) (fun h => by omega), hr]
    simp only [dec]
    rw [if_neg hn]
    by_cases h1 : rd l (i : Int) < 128
    · rw [if_pos h1, if_pos h1]
    · rw [if_neg h1, if_neg h1]
      have hp := part_lt (rd l (i : Int) % 128) i (by omega) (by omega) (by omega) (fun h => by omega)
      have h8 := getl d k (i + 1) (acc + rd l (i : Int) % 128 * ((128 ^ i : Nat) : Int)) l hb (by omega) (by omega) (by omega) (by rw [p_succ]; omega) (by omega) hlen
      have hcast : ((i + 1 : Nat) : Int) = (i : Int) + 1 := by omega
      rw [hcast] at h8
      exact h8
  have stop : (i = 10 ∨ (i = 9 ∧ rd l (i : Int) > 1)) → varint_Get.j1 (k + 1) acc (i : Int) (rd l (i : Int)) l (l.length : Int) (i : Int) true = some (dec (l.drop i) i acc) := by
    intro hn
    simp only [varint_Get.j1]
    rw [if_pos trivial, hr]
    simp only [dec]
    rw [if_pos hn]
  rw [varint_Get.l0]
  rw [if_pos (by omega), if_pos (by omega), if_pos (by omega)]
  by_cases h10 : i = 10
  · rw [if_pos (by omega)]; exact stop (.inl h10)
  · rw [if_neg (by omega)]
    by_cases h9 : i = 9
    · rw [if_pos (by omega)]
      by_cases h1 : rd l (i : Int) > 1
      · rw [decide_eq_true h1]; exact stop (.inr ⟨h9, h1⟩)
      · rw [decide_eq_false h1]; exact step (by omega)
    · rw [if_neg (by omega)]; exact step (by omega)
theorem get_f (k : Nat) (l : List Int) (hb : ∀ x ∈ l, 0 ≤ x ∧ x ≤ 255) (hk : 2 * l.length < k) (hl : l.length ≤ 140737488359000) : varint_Get.f k l = some (dec l 0 0) := by
 unfold varint_Get.f
 exact getl l.length k 0 0 l hb (by omega) hk (by omega) (by decide) (by omega) hl
theorem refgetl : ∀ (d k i : Nat) (acc u : Int) (l : List Int), (∀ x ∈ l, 0 ≤ x ∧ x ≤ 255) → l.length = i + d → 3 * d + 2 ≤ k → 0 ≤ acc → acc < ((128 ^ i : Nat) : Int) → i ≤ 10 → (i ≤ 9 → u = ((128 ^ i : Nat) : Int)) → l.length ≤ 140737488359000 →
  ecdysisref01_Get.l0 k l acc u (i : Int) = some (dec (l.drop i) i acc)
 | 0, k, i, acc, u, l, _, hl, hk, _, _, _, _, _ => by
  obtain ⟨k, rfl⟩ : ∃ m, k = m + 2 := ⟨k - 2, by omega⟩
  rw [ecdysisref01_Get.l0]
  rw [if_neg (by omega), List.drop_of_length_le (by omega)]
  simp only [ecdysisref01_Get.j1]
  rfl
 | d + 1, k, i, acc, u, l, hb, hl, hk, a0, a1, hi, hu, hlen => by
  obtain ⟨k, rfl⟩ : ∃ m, k = m + 3 := ⟨k - 3, by omega⟩
  have hc := hb _ (rd_mem l i (by omega))
  have hr := rd_drop l i (by omega)
  rw [ecdysisref01_Get.l0]
  rw [if_pos (by omega), hr]
  simp only [dec]
  by_cases h10 : i = 10
  · rw [decide_eq_false (by omega), if_pos (.inl h10)]
    rw [ecdysisref01_Get.j1]
    rw [if_neg (by decide)]
  · rw [decide_eq_true (by omega), ecdysisref01_Get.j1, if_pos rfl]
    have hu' := hu (by omega)
    subst hu'
    have step : ¬ (i = 10 ∨ (i = 9 ∧ rd l (i : Int) > 1)) → ecdysisref01_Get.j2 (k + 1) l acc ((128 ^ i : Nat) : Int) (i : Int) false = some (if rd l (i : Int) < 128 then (acc + rd l (i : Int) % 128 * ((128 ^ i : Nat) : Int), (i : Int) + 1) else dec (l.drop (i + 1)) (i + 1) (acc + rd l (i : Int) % 128 * ((128 ^ i : Nat) : Int))) := by
      intro hn
      have hp := part_lt (rd l (i : Int) % 128) i (by omega) (by omega) (by omega) (fun h => by omega)
      have h2 := p_le (show i ≤ 9 by omega)
      rw [p9] at h2
      have hw : wrap64 ((i : Int) + 1) = (i : Int) + 1 := by unfold wrap64; omega
      have e1 : IntKind.u64.wrap (Int.tmod (rd l (i : Int)) 128) = rd l (i : Int) % 128 := by rw [IntKind.wrap_u64, Int.tmod_eq_emod_of_nonneg hc.1]; omega
      have e2 : IntKind.u64.wrap (rd l (i : Int) % 128 * ((128 ^ i : Nat) : Int)) = rd l (i : Int) % 128 * ((128 ^ i : Nat) : Int) := by rw [IntKind.wrap_u64]; omega
      have e3 : IntKind.u64.wrap (acc + rd l (i : Int) % 128 * ((128 ^ i : Nat) : Int)) = acc + rd l (i : Int) % 128 * ((128 ^ i : Nat) : Int) := by rw [IntKind.wrap_u64]; omega
      simp only [ecdysisref01_Get.j2]
      rw [if_neg (by decide), if_pos (by omega), if_pos (by omega), e1, e2, e3, hw]
      by_cases h1 : rd l (i : Int) < 128
      · rw [if_pos h1, if_pos h1]
      · rw [if_neg h1, if_neg h1]
        have h8 := refgetl d k (i + 1) (acc + rd l (i : Int) % 128 * ((128 ^ i : Nat) : Int)) (IntKind.u64.wrap (((128 ^ i : Nat) : Int) * 128)) l hb (by omega) (by omega) (by omega) (by rw [p_succ]; omega) (by omega)
         (fun h => by
          have h3 := p_le (show i ≤ 8 by omega)
          rw [p8] at h3
          have := p_pos i
          rw [IntKind.wrap_u64, p_succ]; omega) hlen
        have hcast : ((i + 1 : Nat) : Int) = (i : Int) + 1 := by omega
        rw [hcast] at h8
        exact h8
    by_cases h9 : i = 9
    · rw [if_pos (by omega), if_pos (by omega), if_pos (by omega)]
      by_cases h1 : rd l (i : Int) > 1
      · rw [decide_eq_true h1, if_pos (.inr ⟨h9, h1⟩), ecdysisref01_Get.j2, if_pos rfl]
      · rw [decide_eq_false h1, step (by omega), if_neg (show ¬ (i = 10 ∨ (i = 9 ∧ rd l (i : Int) > 1)) by omega)]
    · rw [if_neg (by omega), step (by omega), if_neg (show ¬ (i = 10 ∨ (i = 9 ∧ rd l (i : Int) > 1)) by omega)]
theorem refget_f (k : Nat) (l : List Int) (hb : ∀ x ∈ l, 0 ≤ x ∧ x ≤ 255) (hk : 3 * l.length + 2 ≤ k) (hl : l.length ≤ 140737488359000) : ecdysisref01_Get.f k l = some (dec l 0 0) := by
 unfold ecdysisref01_Get.f
 exact refgetl l.length k 0 0 1 l hb (by omega) hk (by omega) (by decide) (by omega) (fun _ => by decide) hl
theorem right_eq (k : Nat) (a b : Int) : tag_Right.f (k + 1) a b = some (decide (1 ≤ a ∧ a ≤ 536870911 ∧ (b = 0 ∨ b = 1 ∨ b = 2 ∨ b = 5))) := by
 unfold tag_Right.f
 simp only [tag_Right.j0, tag_number.f]
 by_cases h0 : b = 0
 · subst h0; by_cases ha : 1 ≤ a <;> simp [ha]
 · by_cases h1 : b = 1
   · subst h1; by_cases ha : 1 ≤ a <;> simp [ha]
   · by_cases h2 : b = 2
     · subst h2; by_cases ha : 1 ≤ a <;> simp [ha]
     · by_cases h5 : b = 5
       · subst h5; by_cases ha : 1 ≤ a <;> simp [ha]
       · simp [h0, h1, h2, h5]
theorem split_eq (k : Nat) (u : Int) (h0 : 0 ≤ u) (h1 : u ≤ 18446744073709551615) :
   tag_Split.f (k + 1) u = some (if u < 4294967296 ∧ 1 ≤ u / 8 ∧ (u % 8 = 0 ∨ u % 8 = 1 ∨ u % 8 = 2 ∨ u % 8 = 5) then (u / 8, u % 8, true) else (0, 0, false)) := by
 unfold tag_Split.f
 by_cases h : u ≥ 4294967296
 · rw [if_pos h, if_neg (by omega)]
 · have e1 : wrap64 (u / 8) = u / 8 := by unfold wrap64; omega
   have e2 : Int.tmod u 8 = u % 8 := Int.tmod_eq_emod_of_nonneg h0
   have e3 : wrap64 (u % 8) = u % 8 := by unfold wrap64; omega
   rw [if_neg h, e1, e2, e3, right_eq]
   simp only [Option.bind_some]
   by_cases hc : 1 ≤ u / 8 ∧ u / 8 ≤ 536870911 ∧ (u % 8 = 0 ∨ u % 8 = 1 ∨ u % 8 = 2 ∨ u % 8 = 5)
   · rw [decide_eq_true hc, if_pos rfl, if_pos (by omega)]
   · rw [decide_eq_false hc, if_neg (by simp), if_neg (by omega)]
def down (l : List Int) : Nat → Int → Int
 | 0, a => a
 | i + 1, a => down l i (a * 256 + rd l (i : Int))
theorem q_le {i j : Nat} (h : i ≤ j) : ((256 ^ i : Nat) : Int) ≤ ((256 ^ j : Nat) : Int) := Int.ofNat_le.2 (Nat.pow_le_pow_right (by omega) h)
theorem fixgetl (l : List Int) (hb : ∀ x ∈ l, 0 ≤ x ∧ x ≤ 255) : ∀ (i k : Nat) (a : Int), i ≤ l.length → i < k → i ≤ 8 → 0 ≤ a → a < ((256 ^ (8 - i) : Nat) : Int) → ecdysisref03_Get.l0 k l a ((i : Int) - 1) = some (down l i a, true)
 | 0, k, a, _, hk, _, _, _ => by
  obtain ⟨k, rfl⟩ : ∃ m, k = m + 1 := ⟨k - 1, by omega⟩
  simp only [ecdysisref03_Get.l0]
  rw [if_neg (by omega)]
  rfl
 | i + 1, k, a, hl, hk, h8, a0, a1 => by
  obtain ⟨k, rfl⟩ : ∃ m, k = m + 1 := ⟨k - 1, by omega⟩
  have hm : rd l (i : Int) ∈ l := by simp [rd, List.getD_eq_getElem?_getD, List.getElem?_eq_getElem (show i < l.length by omega)]
  have hc := hb _ hm
  have h7 := q_le (show 8 - (i + 1) ≤ 7 by omega)
  have e7 : ((256 ^ 7 : Nat) : Int) = 72057594037927936 := by decide
  rw [e7] at h7
  have hi : (((i + 1 : Nat) : Int) - 1) = (i : Int) := by omega
  have hw : wrap64 ((i : Int) - 1) = (i : Int) - 1 := by unfold wrap64; omega
  have es : IntKind.u64.wrap (IntKind.u64.wrap (a * 256) + IntKind.u64.wrap (rd l (i : Int))) = a * 256 + rd l (i : Int) := by simp only [IntKind.wrap_u64]; omega
  rw [hi]
  simp only [ecdysisref03_Get.l0]
  rw [if_pos (by omega), if_pos (by omega), if_pos (by omega), es, hw]
  have hp : 8 - i = (8 - (i + 1)) + 1 := by omega
  exact fixgetl l hb i k _ (by omega) (by omega) (by omega) (by omega) (by rw [hp, Nat.pow_succ]; omega)
def low : Nat → Int → List Int
 | 0, _ => []
 | d + 1, n => n % 256 :: low d (n / 256)
end Go.Proofs.YthgddlibfboehaaDoor.VLib
end
section
namespace Go.Proofs.YthgddlibfboehaaDoor.Ev
open Go.RowKit Go.Proofs.YthgddlibfboehaaDoorW.PrintWords
set_option linter.unusedVariables false
/-- With enough rounds it tells r. -/
def E {α : Type} (g : Nat → Option α) (r : α) : Prop := ∃ k0, ∀ k, k0 ≤ k → g k = some r
theorem E.const {α : Type} {r : α} : E (fun _ => some r) r := ⟨0, fun _ _ => rfl⟩
theorem E.of {α : Type} {g : Nat → Option α} {r : α} (h : ∀ k, g k = some r) : E g r := ⟨0, fun k _ => h k⟩
theorem E.congr {α : Type} {g h : Nat → Option α} {r : α} (hh : E h r) (e : ∀ k, g k = h k) : E g r := by
 obtain ⟨k0, hk⟩ := hh
 exact ⟨k0, fun k hk0 => by rw [e]; exact hk k hk0⟩
theorem E.succ {α : Type} {g h : Nat → Option α} {r : α} (hh : E h r) (e : ∀ k, g (k + 1) = h k) : E g r := by
 obtain ⟨k0, hk⟩ := hh
 refine ⟨k0 + 1, fun k hk0 => ?_⟩
 obtain ⟨m, rfl⟩ : ∃ m, k = m + 1 := ⟨k - 1, by omega⟩
 rw [e]
 exact hk m (by omega)
theorem E.step {α : Type} {g : Nat → Option α} {r : α} (h : E (fun k => g (k + 1)) r) : E g r := E.succ h fun _ => rfl
theorem E.bind {α β : Type} {f : Nat → Option α} {a : α} {g : Nat → α → Option β} {r : β} (hf : E f a) (hg : E (fun k => g k a) r) : E (fun k => (f k).bind (g k)) r := by
 obtain ⟨k0, h0⟩ := hf
 obtain ⟨k1, h1⟩ := hg
 refine ⟨max k0 k1, fun k hk => ?_⟩
 show (f k).bind (g k) = some r
 rw [h0 k (Nat.le_trans (Nat.le_max_left _ _) hk)]
 exact h1 k (Nat.le_trans (Nat.le_max_right _ _) hk)
theorem E.no {α : Type} {c : Prop} [Decidable c] {g h : Nat → Option α} {r : α} (hc : ¬ c) (hh : E h r) : E (fun k => if c then g k else h k) r := hh.congr fun k => if_neg hc
theorem E.get {α : Type} {g : Nat → Option α} {r : α} (h : E g r) : ∃ k, g k = some r := by
 obtain ⟨k, hk⟩ := h
 exact ⟨k, hk k (Nat.le_refl _)⟩
/-- From the end on, step by step. -/
theorem up {C : Nat → Prop} (n : Nat) (hend : ∀ i, n ≤ i → C i) (hstep : ∀ i, i < n → C (i + 1) → C i) (i : Nat) : C i := by
 obtain ⟨d, hd⟩ : ∃ d, d = n - i := ⟨_, rfl⟩
 induction d generalizing i with
 | zero => exact hend i (by omega)
 | succ d ih => exact hstep i (by omega) (ih (i + 1) (by omega))
theorem drop_getD {α : Type} {xs : List α} {i : Nat} (z : α) (h : i < xs.length) : xs.drop i = xs.getD i z :: xs.drop (i + 1) := by
 rw [List.drop_eq_getElem_cons h, List.getD_eq_getElem?_getD, List.getElem?_eq_getElem h]
 rfl
theorem w1 {i n : Nat} (h : i < n) (hn : n ≤ 9000000000000000000) : wrap64 ((i : Int) + 1) = ((i + 1 : Nat) : Int) := by unfold wrap64; omega
end Go.Proofs.YthgddlibfboehaaDoor.Ev
end
section
namespace Go.Proofs.YthgddlibfboehaaDoor.Open
open Go.RowKit Go.ChangeShapes Go.WideShapes Go.Deep Go.Proofs.YthgddlibfboehaaDoorW.PrintWords
set_option linter.unusedVariables false
/-- What can be read at type t is of kind d, and Ok. -/
def Opens {α : Type} (P : Program) (d : Kd α) (Ok : α → Prop) (t : TypeId) : Prop :=
 ∀ (H : Type) (enc : TypeId × Value → H) (w : World) (base : Nat) (spare : Nat → Bool) (held : Bool) (fuel : Nat) (cs : List Value) (x : DataW H × List MemPlace), DataW.trod enc P w base spare held fuel t cs = some x → ∃ y, d.K w y cs ∧ Ok y
theorem opens_int {P : Program} {t : TypeId} {k : IntKind} (hu : P.underlying t = some (.int k)) : Opens P (Kd.int k) (fun n => (Lit.int k n).wf = true) t := by
 intro H enc w base spare held fuel cs x h
 obtain ⟨n, rfl, _, hw⟩ := DataW.trod_int hu h
 exact ⟨n, rfl, hw⟩
theorem opens_bool {P : Program} {t : TypeId} (hu : P.underlying t = some .bool) : Opens P Kd.bool (fun _ => True) t := by
 intro H enc w base spare held fuel cs x h
 obtain ⟨b, rfl, _⟩ := DataW.trod_bool hu h
 exact ⟨b, rfl, trivial⟩
theorem list_of {α : Type} (p : Nat → α → Prop) : ∀ n, (∀ i, i < n → ∃ y, p i y) → ∃ l : List α, l.length = n ∧ ∀ i y, l[i]? = some y → p i y
 | 0, _ => ⟨[], rfl, fun i y h => by simp at h⟩
 | n + 1, h => by
  obtain ⟨l, hl, hp⟩ := list_of p n (fun i hi => h i (by omega))
  obtain ⟨y, hy⟩ := h n (by omega)
  refine ⟨l ++ [y], by rw [List.length_append, hl, List.length_singleton], fun i z hz => ?_⟩
  rcases Nat.lt_or_ge i l.length with hi | hi
  · rw [List.getElem?_append_left hi] at hz
    exact hp i z hz
  · rw [List.getElem?_append_right hi] at hz
    have hi2 : i = n := by
     have := (List.getElem?_eq_some_iff.1 hz).1
     rw [List.length_singleton] at this
     omega
    subst hi2
    rw [hl, Nat.sub_self] at hz
    have : y = z := by simpa using hz
    exact this ▸ hy
/-- Fields from a place on. -/
def Fields {β : Type} (P : Program) (d : Kd β) (Ok : β → Prop) (off : Nat) (fs : List Field) : Prop :=
 ∀ (H : Type) (enc : TypeId × Value → H) (w : World) (base : Nat) (spare : Nat → Bool) (held : Bool) (n : Nat) (cs : List Value), cs.length = off + d.sz →
  (∀ f ∈ fs, ∃ x, DataW.trod enc P w base spare held n f.type ((cs.drop f.offset).take (P.cellsOf f.type)) = some x) → ∃ y, d.K w y (cs.drop off) ∧ Ok y
end Go.Proofs.YthgddlibfboehaaDoor.Open
end
section
namespace Go.Proofs.YthgddlibfboehaaDoor.Open
open Go.RowKit Go.ChangeShapes Go.WideShapes Go.Deep Go.Proofs.YthgddlibfboehaaDoorW.PrintWords
set_option linter.unusedVariables false
def Light {H : Type} (P : Program) (t : TypeId) (x : DataW H) : Prop := ∀ n ∈ DataW.weights P t x, n ≤ reachBytes
def OpensW {α : Type} (fuel : Nat) (P : Program) (d : Kd α) (Ok : α → Prop) (t : TypeId) : Prop :=
 ∀ (H : Type) (enc : TypeId × Value → H) (w : World) (base : Nat) (spare : Nat → Bool) (held : Bool) (cs : List Value) (x : DataW H × List MemPlace), DataW.trod enc P w base spare held fuel t cs = some x → Light P t x.1 → ∃ y, d.K w y cs ∧ Ok y
theorem Opens.toW {α : Type} {P : Program} {d : Kd α} {Ok : α → Prop} {t : TypeId} (h : Opens P d Ok t) (fuel : Nat) : OpensW fuel P d Ok t := fun H enc w base spare held cs x hx _ => h H enc w base spare held fuel cs x hx
theorem opensW_string {P : Program} {t : TypeId} {fuel : Nat} (hu : P.underlying t = some .string) : OpensW fuel P Kd.string (fun s => s.size ≤ reachBytes) t := by
 intro H enc w base spare held cs x h hl
 obtain ⟨s, rfl, hx, hs⟩ := DataW.trod_string hu h
 refine ⟨s, rfl, ?_⟩
 have := hl s.size (by rw [hx]; simp [DataW.weights])
 exact this
/-- Fields from a place on. -/
def FieldsW {β : Type} (fuel : Nat) (P : Program) (d : Kd β) (Ok : β → Prop) (off : Nat) (fs : List Field) : Prop :=
 ∀ (H : Type) (enc : TypeId × Value → H) (w : World) (base : Nat) (spare : Nat → Bool) (held : Bool) (cs : List Value), cs.length = off + d.sz →
  (∀ f ∈ fs, ∃ x, DataW.trod enc P w base spare held fuel f.type ((cs.drop f.offset).take (P.cellsOf f.type)) = some x ∧ Light P f.type x.1) → ∃ y, d.K w y (cs.drop off) ∧ Ok y
theorem fieldsW_last {α : Type} {P : Program} {d : Kd α} {Ok : α → Prop} {off n : Nat} {f : Field} (ho : f.offset = off) (hc : P.cellsOf f.type = d.sz) (h : OpensW n P d Ok f.type) : FieldsW n P d Ok off [f] := by
 intro H enc w base spare held cs hl hf
 obtain ⟨x, hx, hg⟩ := hf f (by simp)
 obtain ⟨y, hy, hk⟩ := h H enc w base spare held _ x hx hg
 rw [ho, hc, List.take_of_length_le (by rw [List.length_drop]; omega)] at hy
 exact ⟨y, hy, hk⟩
theorem fieldsW_cons {α β : Type} {P : Program} {d : Kd α} {d' : Kd β} {Ok : α → Prop} {Ok' : β → Prop} {off off' n : Nat} {f : Field} {fs : List Field} (ho : f.offset = off) (hc : P.cellsOf f.type = d.sz) (h : OpensW n P d Ok f.type) (hoff : off + d.sz = off') (h' : FieldsW n P d' Ok' off' fs) : FieldsW n P (Kd.pair d d') (fun x => Ok x.1 ∧ Ok' x.2) off (f :: fs) := by
 intro H enc w base spare held cs hl hf
 obtain ⟨x, hx, hg⟩ := hf f (by simp)
 obtain ⟨y, hy, hk⟩ := h H enc w base spare held _ x hx hg
 rw [ho, hc] at hy
 have hl' : cs.length = off + (d.sz + d'.sz) := hl
 obtain ⟨y', hy', hk'⟩ := h' H enc w base spare held cs (by omega) (fun g hg => hf g (by simp [hg]))
 refine ⟨(y, y'), ⟨(cs.drop off).take d.sz, cs.drop off', ?_, hy, hy'⟩, hk, hk'⟩
 rw [← hoff, ← List.drop_drop, List.take_append_drop]
theorem opensW_struct {β γ : Type} {P : Program} {d : Kd β} {Ok : β → Prop} {t : TypeId} {fs : Array Field} {fuel : Nat} (mk : β → γ) (proj : γ → β) (hmk : ∀ y, proj (mk y) = y) (hu : P.underlying t = some (.struct fs)) (hc : P.cellsOf t = d.sz) (h : ∀ n, fuel = n + 1 → FieldsW n P d Ok 0 fs.toList) : OpensW fuel P (Kd.iso d proj) (fun x => Ok (proj x)) t := by
 intro H enc w base spare held cs x ht hw
 obtain ⟨xs, n, hn, hx, hl, hxs, hf⟩ := DataW.trod_struct hu ht
 obtain ⟨y, hy, hk⟩ := h n hn H enc w base spare held cs (by omega) (fun f hfm => by
  obtain ⟨i, hi⟩ := List.getElem?_of_mem hfm
  have hi' : fs[i]? = some f := by rw [← Array.getElem?_toList]; exact hi
  have h1 := hf i f hi'
  have hlt : i < xs.length := by rw [hxs]; exact (Array.getElem?_eq_some_iff.1 hi').1
  refine ⟨xs[i], by rw [h1, List.getElem?_eq_getElem hlt], fun k hk => hw k ?_⟩
  rw [hx]
  simp only [DataW.weights, hu]
  exact DataW.weights_mem_each (j := i) (by rw [List.getElem?_map, hi]; rfl) (by rw [List.getElem?_map, List.getElem?_eq_getElem hlt]; rfl) k hk)
 refine ⟨mk y, ?_, by show Ok (proj (mk y)); rw [hmk]; exact hk⟩
 show d.K w (proj (mk y)) cs
 rw [hmk]
 exact hy
end Go.Proofs.YthgddlibfboehaaDoor.Open
end
section
namespace Go.Proofs.YthgddlibfboehaaDoor.Ops
open Go.RowKit Go.Proofs.YthgddlibfboehaaDoorW.PrintWords Go.Proofs.YthgddlibfboehaaDoor.KD Go.Proofs.YthgddlibfboehaaDoor.Open
set_option linter.unusedVariables false
set_option maxHeartbeats 1000000
abbrev TR := S92
abbrev TV := S51
abbrev TS := S54
abbrev TT := S41
def okRaw (x : TR) : Prop := (Lit.int .i64 x.f0).wf = true ∧ (Lit.int .i64 x.f1).wf = true ∧ (Lit.int .u64 x.f2).wf = true ∧ x.f3.size ≤ reachBytes
def okVal (O : TT → Prop) (x : TV) : Prop := (Lit.int .u64 x.f0).wf = true ∧ x.f1.size ≤ reachBytes ∧ (x.f2.length * 48 ≤ reachBytes ∧ ∀ y ∈ x.f2, O y)
def okSlot (O : TT → Prop) (x : TS) : Prop := (Lit.int .i64 x.f0).wf = true ∧ (x.f1.length * 48 ≤ reachBytes ∧ ∀ y ∈ x.f1, okVal O y)
/-- A tree that is no deeper than so much, and no greater than a machine's. -/
def okTree (O : TT → Prop) (x : TT) : Prop := (x.f0.length * 32 ≤ reachBytes ∧ ∀ y ∈ x.f0, okSlot O y) ∧ (x.f1.length * 40 ≤ reachBytes ∧ ∀ y ∈ x.f1, okRaw y)
def okT : Nat → TT → Prop
 | 0 => fun _ => False
 | n + 1 => okTree (okT n)
section
variable {d : Kd TT} {ok : TT → Prop}
end
end Go.Proofs.YthgddlibfboehaaDoor.Ops
end
section
namespace Go.Proofs.YthgddlibfboehaaDoor.Ev
open Go.RowKit Go.Proofs.YthgddlibfboehaaDoorW.PrintWords Go.Proofs.YthgddlibfboehaaDoor.KD Go.Proofs.YthgddlibfboehaaDoor.Ops
set_option linter.unusedVariables false
/-- It tells something. -/
def T {α : Type} (g : Nat → Option α) : Prop := ∃ r, E g r
theorem T.const {α : Type} {r : α} : T (fun _ => some r) := ⟨r, E.const⟩
theorem T.step {α : Type} {g : Nat → Option α} (h : T (fun k => g (k + 1))) : T g := ⟨h.choose, E.step h.choose_spec⟩
theorem T.no {α : Type} {c : Prop} [Decidable c] {g h : Nat → Option α} (hc : ¬ c) (hh : T h) : T (fun k => if c then g k else h k) := ⟨hh.choose, E.no hc hh.choose_spec⟩
theorem T.bind {α β : Type} {f : Nat → Option α} {g : Nat → α → Option β} (hf : T f) (hg : ∀ a, E f a → T (fun k => g k a)) : T (fun k => (f k).bind (g k)) := by
 obtain ⟨a, ha⟩ := hf
 obtain ⟨r, hr⟩ := hg a ha
 exact ⟨r, E.bind ha hr⟩
end Go.Proofs.YthgddlibfboehaaDoor.Ev
end
section
namespace Go.Proofs.YthgddlibfboehaaDoor.Un
open Go.RowKit Go.Proofs.YthgddlibfboehaaDoorW.PrintWords Go.Proofs.YthgddlibfboehaaDoorW.PrintLast Go.Proofs.YthgddlibfboehaaDoorW.PrintMore Go.Proofs.YthgddlibfboehaaDoor.Var Go.Proofs.YthgddlibfboehaaDoor.M Go.Proofs.YthgddlibfboehaaDoor.PU Go.Proofs.YthgddlibfboehaaDoor.Ev
set_option linter.unusedVariables false
set_option linter.unusedSimpArgs false
theorem i64_xor_ones (a : Nat) (ha : a < 9223372036854775808) : Go.bits .xor .i64 (a : Int) (-1) = -1 - (a : Int) := by
 show IntKind.i64.wrap ((BitVec.ofInt 64 (a : Int) ^^^ BitVec.ofInt 64 (-1)).toNat : Int) = _
 have h1 : BitVec.ofInt 64 (-1) = BitVec.allOnes 64 := by decide
 rw [h1, BitVec.xor_allOnes, BitVec.toNat_not, ofInt_u64 a (by omega), IntKind.wrap_i64]
 omega
theorem i64_xor_zero (a : Nat) (ha : a < 9223372036854775808) : Go.bits .xor .i64 (a : Int) 0 = (a : Int) := by
 show IntKind.i64.wrap ((BitVec.ofInt 64 (a : Int) ^^^ BitVec.ofInt 64 0).toNat : Int) = _
 have h1 : BitVec.ofInt 64 0 = 0#64 := by decide
 rw [h1, BitVec.xor_zero, ofInt_u64 a (by omega), IntKind.wrap_i64]
 omega
theorem zag_eq (u : Int) (u0 : 0 ≤ u) (u1 : u ≤ 18446744073709551615) : zig_Zag.f u = some (if u % 2 = 0 then u / 2 else -(u / 2) - 1) := by
 unfold zig_Zag.f
 have e1 : wrap64 (u / 2) = ((u / 2).toNat : Int) := by unfold wrap64; omega
 have e2 : Go.bits .and .u64 u 1 = u % 2 := by
   rw [u64_and _ _ u0 (by omega) (by omega) (by omega)]
   have e3 : (1 : Int).toNat = 1 := by decide
   rw [e3, nat_mask1]; omega
 rw [e1, e2]
 by_cases h : u % 2 = 0
 · have e4 : wrap64 (-wrap64 (u % 2)) = 0 := by unfold wrap64; omega
   rw [e4, i64_xor_zero _ (by omega), if_pos h]; congr 1; omega
 · have e4 : wrap64 (-wrap64 (u % 2)) = -1 := by unfold wrap64; omega
   rw [e4, i64_xor_ones _ (by omega), if_neg h]; congr 1; omega
theorem wide_eq (u : Int) (h0 : 0 ≤ u) (h1 : u ≤ 18446744073709551615) : zig_Wide.f u = some (if u % 4294967296 ≥ 2147483648 then u % 4294967296 - 4294967296 else u % 4294967296) := by
 unfold zig_Wide.f
 congr 1
 unfold wrap64 wrap32
 split <;> omega
theorem refwide_eq (u : Int) (h0 : 0 ≤ u) (h1 : u ≤ 18446744073709551615) : ecdysisref02_Wide.f u = some (if u % 4294967296 ≥ 2147483648 then u % 4294967296 - 4294967296 else u % 4294967296) := by
 unfold ecdysisref02_Wide.f
 rw [Int.tmod_eq_emod_of_nonneg h0]
 have e : wrap64 (u % 4294967296) = u % 4294967296 := by unfold wrap64; omega
 rw [e]
 by_cases h : u % 4294967296 ≥ 2147483648
 · rw [if_pos h, if_pos h]; congr 1; unfold wrap64; omega
 · rw [if_neg h, if_neg h]
theorem refzag_eq (u : Int) (u0 : 0 ≤ u) (u1 : u ≤ 18446744073709551615) : ecdysisref02_Zag.f u = some (if u % 2 = 0 then u / 2 else -(u / 2) - 1) := by
 unfold ecdysisref02_Zag.f
 rw [Int.tmod_eq_emod_of_nonneg u0, Int.tdiv_eq_ediv_of_nonneg u0]
 by_cases h : u % 2 = 0
 · rw [if_pos h, if_pos h]; congr 1; simp only [IntKind.wrap_u64, wrap64]; omega
 · rw [if_neg h, if_neg h]; congr 1; simp only [IntKind.wrap_u64, wrap64]; omega
/-- Is a type a number? -/
def isNum (ty : Int) : Bool := decide (1 ≤ ty ∧ ty ≤ 11 ∨ ty = 14)
theorem number_eq (ty : Int) : scalar_Number.f ty = some (isNum ty) := by
 unfold scalar_Number.f scalar_kind.f
 rw [Option.bind_some]
 by_cases h : ty < 0 ∨ 16 ≤ ty
 · rw [if_pos h]
   have : isNum ty = false := decide_eq_false (by omega)
   rw [this]
   decide
 · rw [if_neg h]
   obtain ⟨n, hn⟩ : ∃ n : Nat, ty = n := ⟨ty.toNat, by omega⟩
   subst hn
   have hlt : n < 16 := by omega
   have h2 : ∀ m : Fin 16, some ((Go.bits .and .i64 (kindTab.getD ((m.val : Int)).toNat 0) 2) != 0) = some (isNum (m.val : Int)) := by decide
   exact h2 ⟨n, hlt⟩
theorem refnumber_eq (ty : Int) : ecdysisref11_Number.f ty = some (isNum ty) := by
 unfold ecdysisref11_Number.f ecdysisref11_Whole.f isNum
 by_cases h1 : ty ≥ 1
 · by_cases h6 : ty ≤ 6
   · rw [if_pos h1, if_pos h6, decide_eq_true (by omega)]; rfl
   · rw [if_pos h1, if_neg h6]
     by_cases h8 : ty ≥ 8
     · rw [if_pos h8]
       by_cases h11 : ty ≤ 11
       · rw [decide_eq_true h11, decide_eq_true (by omega)]; rfl
       · rw [decide_eq_false h11, Option.bind_some, if_neg (by simp), if_neg (by omega)]
         congr 1
         by_cases h14 : ty = 14
         · subst h14; rfl
         · rw [decide_eq_false (by omega)]; simpa using h14
     · rw [if_neg h8, Option.bind_some, if_neg (by simp), if_pos (by omega), decide_eq_true (by omega)]
 · rw [if_neg h1, if_neg (by omega), Option.bind_some, if_neg (by simp), if_neg (by omega), decide_eq_false (by omega)]
   congr 1
   simp
   omega
/-- The wire type. -/
def wireD (ty : Int) : Int := if ty = 8 ∨ ty = 10 then 5 else if ty = 9 ∨ ty = 11 then 1 else if ty = 12 ∨ ty = 13 ∨ ty = 15 then 2 else 0
/-- A number's value, of what stands on the wire. -/
def frm (ty u : Int) : Int :=
 if ty = 1 ∨ ty = 10 ∨ ty = 14 then IntKind.u64.wrap (if u % 4294967296 ≥ 2147483648 then u % 4294967296 - 4294967296 else u % 4294967296)
 else if ty = 3 ∨ ty = 8 then u % 4294967296
 else if ty = 5 then IntKind.u64.wrap (if u % 4294967296 % 2 = 0 then u % 4294967296 / 2 else -(u % 4294967296 / 2) - 1)
 else if ty = 6 then IntKind.u64.wrap (if u % 2 = 0 then u / 2 else -(u / 2) - 1)
 else if ty = 7 then (if u = 0 then 0 else 1)
 else if isNum ty = true then u else 0
theorem wire_eq (k : Nat) (ty : Int) : scalar_Wire.f (k + 2) ty = some (wireD ty) := by
 unfold scalar_Wire.f wireD
 simp only [scalar_Wire.j0, scalar_Wire.j1]
 by_cases h8 : ty = 8
 · simp [h8]
 · by_cases h10 : ty = 10
   · simp [h10]
   · by_cases h9 : ty = 9
     · simp [h9]
     · by_cases h11 : ty = 11
       · simp [h11]
       · by_cases h12 : ty = 12
         · simp [h12]
         · by_cases h13 : ty = 13
           · simp [h13]
           · by_cases h15 : ty = 15
             · simp [h15]
             · simp [h8, h10, h9, h11, h12, h13, h15]
theorem refwire_eq (k : Nat) (ty : Int) : ecdysisref11_Wire.f (k + 2) ty = some (wireD ty) := by
 unfold ecdysisref11_Wire.f wireD
 simp only [ecdysisref11_Wire.j0, ecdysisref11_Wire.j1]
 by_cases h8 : ty = 8
 · simp [h8]
 · by_cases h10 : ty = 10
   · simp [h10]
   · by_cases h9 : ty = 9
     · simp [h9]
     · by_cases h11 : ty = 11
       · simp [h11]
       · by_cases h12 : ty = 12
         · simp [h12]
         · by_cases h13 : ty = 13
           · simp [h13]
           · by_cases h15 : ty = 15
             · simp [h15]
             · simp [h8, h10, h9, h11, h12, h13, h15]
theorem low_eq (u : Int) (h0 : 0 ≤ u) (h1 : u ≤ 18446744073709551615) : num_low.f u = some (u % 4294967296) := by
 unfold num_low.f zig_Low.f
 rw [Option.bind_some]
 congr 1
 simp only [IntKind.wrap_u64, wrap64]
 omega
theorem from_eq (k : Nat) (ty u : Int) (h0 : 0 ≤ u) (h1 : u ≤ 18446744073709551615) : num_From.f (k + 3) ty u = some (frm ty u) := by
 have hw := wide_eq u h0 h1
 have hl := low_eq u h0 h1
 have hz := zag_eq u h0 h1
 have hzl := zag_eq (u % 4294967296) (by omega) (by omega)
 have hn := number_eq ty
 unfold num_From.f frm
 simp only [num_From.j0, num_From.j1, num_From.j2, hw, hl, hz, hzl, hn, Option.bind_some]
 clear hw hl hz hzl hn
 by_cases c1 : ty = 1
 · simp [c1]
 · by_cases c14 : ty = 14
   · simp [c14]
   · by_cases c10 : ty = 10
     · simp [c10]
     · by_cases c3 : ty = 3
       · simp [c3]
       · by_cases c8 : ty = 8
         · simp [c8]
         · by_cases c5 : ty = 5
           · simp [c5]
           · by_cases c6 : ty = 6
             · simp [c6]
             · by_cases c7 : ty = 7
               · simp [c7, mn]
                 split <;> (try split) <;> omega
               · simp only [c1, c14, c10, c3, c8, c5, c6, c7, if_false, or_self, beq_iff_eq]
                 split <;> rfl
theorem reffrom_eq (k : Nat) (ty u : Int) (h0 : 0 ≤ u) (h1 : u ≤ 18446744073709551615) : ecdysisref12_From.f (k + 3) ty u = some (frm ty u) := by
 have hw := refwide_eq u h0 h1
 have hz := refzag_eq u h0 h1
 have hzl := refzag_eq (u % 4294967296) (by omega) (by omega)
 have hn := refnumber_eq ty
 unfold ecdysisref12_From.f frm
 simp only [ecdysisref12_From.j0, ecdysisref12_From.j1, Int.tmod_eq_emod_of_nonneg h0, hw, hz, hzl, hn, Option.bind_some]
 clear hw hz hzl hn
 by_cases c1 : ty = 1
 · simp [c1]
 · by_cases c14 : ty = 14
   · simp [c14]
   · by_cases c10 : ty = 10
     · simp [c10]
     · by_cases c3 : ty = 3
       · simp [c3]
       · by_cases c8 : ty = 8
         · simp [c8]
         · by_cases c5 : ty = 5
           · simp [c5]
           · by_cases c6 : ty = 6
             · simp [c6]
             · by_cases c7 : ty = 7
               · simp [c7]
                 split <;> rfl
               · simp only [c1, c14, c10, c3, c8, c5, c6, c7, if_false, or_self, beq_iff_eq]
                 split <;> rfl
end Go.Proofs.YthgddlibfboehaaDoor.Un
end
section
namespace Go.Proofs.YthgddlibfboehaaDoor.Cur
open Go.RowKit Go.Proofs.YthgddlibfboehaaDoorW.PrintWords Go.Proofs.YthgddlibfboehaaDoorW.PrintLast Go.Proofs.YthgddlibfboehaaDoorW.PrintMore Go.Proofs.YthgddlibfboehaaDoor.Var
/-- The innermost frame's end. -/
def last (ends : List Int) : Int := rd ends ((ends.length : Int) - 1)
/-- What holds of a cursor's place and its frames. -/
def Inv (n : Nat) (p : Int) (ends : List Int) : Prop := 0 ≤ p ∧ (∀ x ∈ ends, p ≤ x ∧ x ≤ n) ∧ ends.Pairwise (fun a b => b ≤ a) ∧ (ends.length = 0 → p = 0)
theorem last_mem {ends : List Int} (h : 0 < ends.length) : last ends ∈ ends := by
 unfold last rd
 have h1 : ((ends.length : Int) - 1).toNat < ends.length := by omega
 rw [List.getD_eq_getElem?_getD, List.getElem?_eq_getElem h1]
 exact List.getElem_mem h1
theorem last_nil {ends : List Int} (h : ends.length = 0) : last ends = 0 := by
 have : ends = [] := List.length_eq_zero_iff.1 h
 subst this
 rfl
theorem last_snoc (l : List Int) (x : Int) : last (l ++ [x]) = x := by
 unfold last rd
 rw [List.length_append, List.length_singleton]
 have : ((((l.length + 1 : Nat) : Int)) - 1).toNat = l.length := by omega
 rw [this, List.getD_eq_getElem?_getD]
 simp
theorem last_le {ends : List Int} (hp : ends.Pairwise (fun a b => b ≤ a)) : ∀ x ∈ ends, last ends ≤ x := by
 intro x hx
 have h0 : 0 < ends.length := List.length_pos_of_mem hx
 obtain ⟨l, y, rfl⟩ : ∃ l y, ends = l ++ [y] := ⟨ends.dropLast, ends.getLast (List.ne_nil_of_length_pos h0), (List.dropLast_concat_getLast (List.ne_nil_of_length_pos h0)).symm⟩
 rw [last_snoc]
 rcases List.mem_append.1 hx with h | h
 · exact (List.pairwise_append.1 hp).2.2 x h y (by simp)
 · rw [List.mem_singleton.1 h]; omega
/-- What is left of the innermost frame. -/
def seg (b : List Int) (p : Int) (ends : List Int) : List Int := (b.take (last ends).toNat).drop p.toNat
/-- Where a cursor is behind s bytes; 0: it fails. -/
def nx (p : Int) (ends : List Int) (s : Int) : Int × List Int := if s = 0 then (0, []) else (p + s, ends)
section
variable {n : Nat} {b : List Int} {p : Int} {ends : List Int}
theorem inv_last (hi : Inv n p ends) : 0 ≤ p ∧ p ≤ last ends ∧ last ends ≤ n := by
 by_cases h : 0 < ends.length
 · have := hi.2.1 _ (last_mem h)
   exact ⟨hi.1, this.1, this.2⟩
 · have h1 : ends.length = 0 := by omega
   rw [last_nil h1, hi.2.2.2 h1]
   omega
theorem inv_nil : Inv n 0 [] := ⟨by omega, by simp, List.Pairwise.nil, fun _ => rfl⟩
theorem nx_inv (hi : Inv n p ends) {s : Int} (h0 : 0 ≤ s) (hs : s ≤ last ends - p) : Inv n (nx p ends s).1 (nx p ends s).2 := by
 unfold nx
 by_cases h : s = 0
 · rw [if_pos h]; exact inv_nil
 · rw [if_neg h]
   refine ⟨by have := hi.1; simp only; omega, fun x hx => ?_, hi.2.2.1, fun hl => ?_⟩
   · have h1 := last_le hi.2.2.1 x hx
     have h2 := hi.2.1 x hx
     simp only; omega
   · simp only at hl
     have h1 := last_nil hl
     have h2 := hi.2.2.2 hl
     omega
theorem seg_len (hi : Inv b.length p ends) : (seg b p ends).length = (last ends - p).toNat := by
 have := inv_last hi
 unfold seg
 rw [List.length_drop, List.length_take]
 omega
theorem seg_bytes (hb : ∀ x ∈ b, 0 ≤ x ∧ x ≤ 255) : ∀ x ∈ seg b p ends, 0 ≤ x ∧ x ≤ 255 := fun x hx => hb x (List.mem_of_mem_take (List.mem_of_mem_drop hx))
/-- A number of variable length. -/
def vD (b : List Int) (p : Int) (ends : List Int) : Int × Int := dec (seg b p ends) 0 0
theorem dec_facts (l : List Int) (hb : ∀ x ∈ l, 0 ≤ x ∧ x ≤ 255) : 0 ≤ (dec l 0 0).1 ∧ (dec l 0 0).1 ≤ 18446744073709551615 ∧ 0 ≤ (dec l 0 0).2 ∧ (dec l 0 0).2 ≤ l.length ∧ ((dec l 0 0).2 = 0 → (dec l 0 0).1 = 0) := by
 rcases dec_spec l 0 0 hb (by omega) (by decide) (by omega) with h | ⟨s, h1, h2, h3, h4, h5, h6, h7⟩
 · rw [h]; simp
 · rw [h1]; omega
theorem vD_facts (hi : Inv b.length p ends) (hb : ∀ x ∈ b, 0 ≤ x ∧ x ≤ 255) : 0 ≤ (vD b p ends).1 ∧ (vD b p ends).1 ≤ 18446744073709551615 ∧ 0 ≤ (vD b p ends).2 ∧ (vD b p ends).2 ≤ last ends - p ∧ ((vD b p ends).2 = 0 → (vD b p ends).1 = 0) := by
 have h := dec_facts (seg b p ends) (seg_bytes hb)
 have hl := seg_len hi
 have := inv_last hi
 refine ⟨h.1, h.2.1, h.2.2.1, ?_, h.2.2.2.2⟩
 have := h.2.2.2.1
 unfold vD
 omega
/-- A number of four, or of eight bytes. -/
def fixD (k : Nat) (l : List Int) : Int × Int := if l.length < k then (0, 0) else (if k = 4 then M.val4 l else M.val8 l, (k : Int))
def fD (k : Nat) (b : List Int) (p : Int) (ends : List Int) : Int × Int := fixD k (seg b p ends)
theorem fD_facts (hi : Inv b.length p ends) (k : Nat) (hk : 0 < k) : 0 ≤ (fD k b p ends).2 ∧ (fD k b p ends).2 ≤ last ends - p ∧ ((fD k b p ends).2 = 0 → (fD k b p ends).1 = 0) := by
 have hl := seg_len hi
 have := inv_last hi
 unfold fD fixD
 by_cases h : (seg b p ends).length < k
 · rw [if_pos h]; simp only; exact ⟨by omega, by omega, by simp⟩
 · rw [if_neg h]; simp only; exact ⟨by omega, by omega, fun h0 => by omega⟩
/-- A length: its number (-1: none), the place and the ends behind. -/
def lg (b : List Int) (p : Int) (ends : List Int) : Int × Int × List Int :=
 if (vD b p ends).2 = 0 then (-1, 0, []) else if (vD b p ends).1 > last ends - (p + (vD b p ends).2) then (-1, 0, []) else ((vD b p ends).1, p + (vD b p ends).2, ends)
theorem lg_facts (hi : Inv b.length p ends) (hb : ∀ x ∈ b, 0 ≤ x ∧ x ≤ 255) : (lg b p ends = (-1, 0, []) ∨ 0 < ends.length ∧ 0 ≤ (lg b p ends).1 ∧ p ≤ (lg b p ends).2.1 ∧ (lg b p ends).1 ≤ last ends - (lg b p ends).2.1 ∧ (lg b p ends).2.2 = ends) ∧ Inv b.length (lg b p ends).2.1 (lg b p ends).2.2 := by
 have hv := vD_facts hi hb
 have hx := nx_inv hi hv.2.2.1 hv.2.2.2.1
 have hl := inv_last hi
 unfold lg
 unfold nx at hx
 by_cases h : (vD b p ends).2 = 0
 · rw [if_pos h]; exact ⟨.inl rfl, inv_nil⟩
 · rw [if_neg h] at hx ⊢
   by_cases h1 : (vD b p ends).1 > last ends - (p + (vD b p ends).2)
   · rw [if_pos h1]; exact ⟨.inl rfl, inv_nil⟩
   · rw [if_neg h1]
     refine ⟨.inr ⟨?_, hv.1, by simp only; omega, by simp only; omega, rfl⟩, hx⟩
     rcases Nat.eq_zero_or_pos ends.length with h0 | h0
     · have := last_nil h0
       omega
     · exact h0
/-- A text: its bytes, the place and the ends behind. -/
def txt (b : List Int) (p : Int) (ends : List Int) : List Int × Int × List Int :=
 if (lg b p ends).1 < 0 then ([], 0, []) else ((b.take ((lg b p ends).2.1 + (lg b p ends).1).toNat).drop (lg b p ends).2.1.toNat, (lg b p ends).2.1 + (lg b p ends).1, ends)
/-- A field's number and wire type. -/
def spl (u : Int) : Int × Int × Bool := if u < 4294967296 ∧ 1 ≤ u / 8 ∧ (u % 8 = 0 ∨ u % 8 = 1 ∨ u % 8 = 2 ∨ u % 8 = 5) then (u / 8, u % 8, true) else (0, 0, false)
def tg (b : List Int) (p : Int) (ends : List Int) : (Int × Int) × Int × List Int :=
 if (vD b p ends).2 = 0 then ((0, 0), 0, []) else if (spl (vD b p ends).1).2.2 then (((spl (vD b p ends).1).1, (spl (vD b p ends).1).2.1), p + (vD b p ends).2, ends) else ((0, 0), 0, [])
/-- A frame is opened. -/
def op (b : List Int) (p : Int) (ends : List Int) : Bool × Int × List Int :=
 if (lg b p ends).1 < 0 then (false, 0, []) else (true, (lg b p ends).2.1, ends ++ [(lg b p ends).2.1 + (lg b p ends).1])
/-- A frame is left. -/
def cl (p : Int) (ends : List Int) : Bool × Int × List Int := if ends.length ≤ 1 ∨ p ≠ last ends then (false, p, ends) else (true, p, ends.dropLast)
/-- More. -/
def moreB (p : Int) (ends : List Int) : Bool := decide (0 < ends.length) && decide (p < last ends)
theorem txt_inv (hi : Inv b.length p ends) (hb : ∀ x ∈ b, 0 ≤ x ∧ x ≤ 255) : Inv b.length (txt b p ends).2.1 (txt b p ends).2.2 := by
 obtain ⟨h, hl⟩ := lg_facts hi hb
 unfold txt
 by_cases h0 : (lg b p ends).1 < 0
 · rw [if_pos h0]; exact inv_nil
 · rw [if_neg h0]
   rcases h with h | ⟨h1, h2, h3, h4, h5⟩
   · rw [h] at h0; simp at h0
   · have hl2 := hl
     rw [h5] at hl2
     have hm := inv_last hl2
     refine ⟨by simp only; omega, fun x hx => ?_, hi.2.2.1, fun h6 => ?_⟩
     · have h6 := last_le hi.2.2.1 x hx
       have h7 := hi.2.1 x hx
       simp only; omega
     · simp only at h6; omega
theorem op_inv (hi : Inv b.length p ends) (hb : ∀ x ∈ b, 0 ≤ x ∧ x ≤ 255) : Inv b.length (op b p ends).2.1 (op b p ends).2.2 := by
 obtain ⟨h, hl⟩ := lg_facts hi hb
 unfold op
 by_cases h0 : (lg b p ends).1 < 0
 · rw [if_pos h0]; exact inv_nil
 · rw [if_neg h0]
   rcases h with h | ⟨h1, h2, h3, h4, h5⟩
   · rw [h] at h0; simp at h0
   · rw [h5] at hl
     have hm := inv_last hl
     refine ⟨by simp only; omega, fun x hx => ?_, ?_, fun h6 => ?_⟩
     · simp only at hx ⊢
       rcases List.mem_append.1 hx with hx | hx
       · exact hl.2.1 x hx
       · rw [List.mem_singleton.1 hx]; omega
     · refine List.pairwise_append.2 ⟨hi.2.2.1, List.pairwise_singleton _ _, fun x hx y hy => ?_⟩
       have h6 := last_le hi.2.2.1 x hx
       rw [List.mem_singleton.1 hy]
       omega
     · simp at h6
end
end Go.Proofs.YthgddlibfboehaaDoor.Cur
end
section
namespace Go.Proofs.YthgddlibfboehaaDoor.Cur
open Go.RowKit Go.Proofs.YthgddlibfboehaaDoorW.PrintWords Go.Proofs.YthgddlibfboehaaDoorW.PrintLast Go.Proofs.YthgddlibfboehaaDoorW.PrintMore Go.Proofs.YthgddlibfboehaaDoor.Var
/-- A cursor at block g: its bytes b (read only), its place p, its frames' ends in a row of its own. -/
structure IsC (w : World) (B g : Nat) (A : Option Addr) (c : Nat) (b : List Int) (p : Int) (v : Value) (ends : List Int) : Prop where
 blk : w.heap[g]? = some (.cells #[.slice A b.length c, .int .i64 p, v] 75 (0, 0))
 row : Kd.R (Kd.int .i64) 3 w B (fun k => k ≠ g) v ends
 rd : Kd.C (Kd.int .u8) w A b.length b
 lc : b.length ≤ c
 ge : B ≤ g
 ap : ∀ ad, A = some ad → 0 < b.length → ad.block < B
section
variable {w w' : World} {B g : Nat} {A : Option Addr} {c : Nat} {b : List Int} {p : Int} {v : Value} {ends : List Int}
theorem IsC.below (h : IsC w B g A c b p v ends) (hb : Below w.heap.size w w') : IsC w' B g A c b p v ends :=
 ⟨blk_below h.blk hb, Kd.R_step h.row (fun k _ hlt => hb.block k hlt), Kd.C_below h.rd hb, h.lc, h.ge, h.ap⟩
theorem IsC.drewN (h : IsC w B g A c b p v ends) (n : Nat) : IsC (w.drewN n) B g A c b p v ends := h.below (pw_below_drewN (Below.refl _ _) n)
/-- Only block g is another, and what is new. -/
def Kept (w w' : World) (g : Nat) : Prop := KeepBut w w' g none ∧ w'.os = w.os ∧ w'.tape = w.tape ∧ w'.output = w.output
theorem Kept.refl (w : World) (g : Nat) : Kept w w g := ⟨KeepBut.refl w g none, rfl, rfl, rfl⟩
theorem Kept.of_below {g : Nat} (h : Below w.heap.size w w') : Kept w w' g := ⟨KeepBut.of_below h g none, h.os, h.tape, h.output⟩
theorem Kept.set_ {g : Nat} (h : Kept w w' g) (j : Nat) (u : Value) : Kept w (w'.setCell ⟨g, j, none⟩ u) g :=
 ⟨h.1.set_ j u, ((Below.refl 0 w').setCell (p := ⟨g, j, none⟩) (Nat.zero_le _) u).os.trans h.2.1, ((Below.refl 0 w').setCell (p := ⟨g, j, none⟩) (Nat.zero_le _) u).tape.trans h.2.2.1, ((Below.refl 0 w').setCell (p := ⟨g, j, none⟩) (Nat.zero_le _) u).output.trans h.2.2.2⟩
theorem Kept.trans {w2 : World} {g : Nat} (h : Kept w w' g) (k : Kept w' w2 g) : Kept w w2 g := ⟨h.1.trans k.1 (.inl rfl), k.2.1.trans h.2.1, k.2.2.1.trans h.2.2.1, k.2.2.2.trans h.2.2.2⟩
/-- What a cursor's call leaves: its block, its old row, and what is new. -/
def Fr (w w' : World) (g : Nat) (v v' : Value) : Prop := KeepBut w w' g v.ownBlock ∧ (w'.os = w.os ∧ w'.tape = w.tape ∧ w'.output = w.output) ∧ (v'.ownBlock = none ∨ v'.ownBlock = v.ownBlock ∨ ∃ k, v'.ownBlock = some k ∧ w.heap.size ≤ k)
theorem Keep_any {g : Nat} {r : Option Nat} (h : KeepBut w w' g none) : KeepBut w w' g r := ⟨h.1, fun i h1 h2 _ => h.2 i h1 h2 (by simp)⟩
theorem Fr.of_keep {v v' : Value} {g : Nat} (h : Kept w w' g) (hv : v' = v ∨ v' = .slice none 0 0) : Fr w w' g v v' := by
 refine ⟨Keep_any h.1, h.2, ?_⟩
 rcases hv with rfl | rfl
 · exact .inr (.inl rfl)
 · exact .inl rfl
theorem Fr.trans {w2 : World} {v v' v2 : Value} {g : Nat} (h : Fr w w' g v v') (k : Fr w' w2 g v' v2) : Fr w w2 g v v2 := by
 refine ⟨⟨Nat.le_trans h.1.1 k.1.1, fun i h1 h2 h3 => ?_⟩, ⟨k.2.1.1.trans h.2.1.1, k.2.1.2.1.trans h.2.1.2.1, k.2.1.2.2.trans h.2.1.2.2⟩, ?_⟩
 · rw [k.1.2 i (Nat.lt_of_lt_of_le h1 h.1.1) h2 ?_, h.1.2 i h1 h2 h3]
   rcases h.2.2 with e | e | ⟨b, e, hb⟩
   · rw [e]; simp
   · rw [e]; exact h3
   · rw [e]
     intro he
     injection he with he
     omega
 · rcases k.2.2 with e | e | ⟨b, e, hb⟩
   · exact .inl e
   · rcases h.2.2 with f | f | ⟨b, f, hb⟩
     · exact .inl (e.trans f)
     · exact .inr (.inl (e.trans f))
     · exact .inr (.inr ⟨b, e.trans f, hb⟩)
   · exact .inr (.inr ⟨b, e, Nat.le_trans h.1.1 hb⟩)
theorem Fr.below {B : Nat} {v v' : Value} {g : Nat} (h : Fr w w' g v v') (hB : B ≤ w.heap.size) (hg : B ≤ g) (hv : ∀ k, v.ownBlock = some k → B ≤ k) : Below B w w' := by
 refine ⟨h.2.1.1, h.2.1.2.1, h.2.1.2.2, h.1.1, fun i hi => h.1.2 i (Nat.lt_of_lt_of_le hi hB) (by omega) (fun he => ?_)⟩
 have := hv i he.symm
 omega
/-- What a reading method leaves. -/
def Moved (w : World) (B g : Nat) (A : Option Addr) (c : Nat) (b : List Int) (v : Value) (p' : Int) (ends' : List Int) (w' : World) : Prop :=
 ∃ v', IsC w' B g A c b p' v' ends' ∧ Fr w w' g v v'
theorem cell_last {W : World} (h : Kd.R (Kd.int .i64) 3 W B (fun k => k ≠ g) (.slice A ends.length c) ends) (hn : 0 < ends.length) : ∃ ad, A = some ad ∧ W.cell? (ad.add (ends.length - 1)) = some (.int .i64 (last ends)) := by
 obtain ⟨h1, _, h3⟩ := Kd.R_reads' h
 obtain ⟨ad, ha, hc⟩ := (Kd.reads_of_C (enc := Value.int .i64) (d := 0) h3).2.2 hn
 refine ⟨ad, ha, ?_⟩
 rw [hc (ends.length - 1) (by omega)]
 unfold last rd
 congr 3
 omega
end
set_option maxHeartbeats 400000
/-- Ok. -/
theorem ok_c {w : World} {B g : Nat} {A : Option Addr} {c : Nat} {b : List Int} {p : Int} {v : Value} {ends : List Int} (h : IsC w B g A c b p v ends) :
  Calls Tryd.prog 14 #[.pointer (some ⟨g, 0, none⟩)] w fun e w' => e = .returned (.bool (decide (0 < ends.length))) ∧ Drawn0 w w' := by
 obtain ⟨A2, c2, rfl⟩ := Kd.R_slice h.row
 have hc2 : w.cell? ⟨g, 2, none⟩ = some (.slice A2 ends.length c2) := (blk_cell h.blk 2).trans rfl
 clear h
 go_enter Tryd.func14, Tryd.ntmps14
 go_wp2
 go_ret
 exact ⟨rfl, Drawn0.refl _⟩
/-- end. -/
theorem end_c {w : World} {B g : Nat} {A : Option Addr} {c : Nat} {b : List Int} {p : Int} {v : Value} {ends : List Int} (h : IsC w B g A c b p v ends) (hn : 0 < ends.length) :
  Calls Tryd.prog 43 #[.pointer (some ⟨g, 0, none⟩)] w fun e w' => e = .returned (.int .i64 (last ends)) ∧ Drawn0 w w' := by
 obtain ⟨A2, c2, rfl⟩ := Kd.R_slice h.row
 have hc2 : w.cell? ⟨g, 2, none⟩ = some (.slice A2 ends.length c2) := (blk_cell h.blk 2).trans rfl
 have hrow := h.row
 obtain ⟨ad, rfl, hcell⟩ := cell_last hrow hn
 have hlen : ends.length ≤ 9223372036854775807 := Kd.C_max (Kd.R_reads' hrow).2.2
 obtain ⟨m, hm⟩ : ∃ m, ends.length = m + 1 := ⟨ends.length - 1, by omega⟩
 rw [hm] at hc2 hcell hlen
 have hw : IntKind.i64.wrap ((m : Int) + 1 - 1) = (m : Int) := by rw [IntKind.wrap_i64]; omega
 have hw2 : IntKind.i64.wrap (m : Int) = (m : Int) := by rw [IntKind.wrap_i64]; omega
 have hlt : (m : Int) < (m : Int) + 1 := by omega
 simp only [Nat.add_sub_cancel] at hcell
 clear h hrow hm hn
 obtain ⟨L, hL⟩ : ∃ L, L = last ends := ⟨_, rfl⟩
 rw [← hL] at hcell ⊢
 clear hL
 go_enter Tryd.func43, Tryd.ntmps43
 go_wp2
 go_quiet (fail)
 go_wp2
 go_ret
 exact ⟨rfl, Drawn0.step (Drawn0.refl _) _⟩
theorem quiet {P : Program} {f : FuncId} {args : Array Value} {w : World} {n : Nat} {v : Value} (h : Calls P f args (w.drewN n) fun e w' => e = .returned v ∧ Drawn0 (w.drewN n) w') :
 Calls P f args (w.drewN n) fun e w'' => e = .returned v ∧ ∃ m, w'' = w.drewN m := Calls.quiet_of (h.mono fun _ _ hh => ⟨hh.1, hh.2.out⟩)
theorem ok_yes {w : World} {B g : Nat} {A : Option Addr} {c : Nat} {b : List Int} {p : Int} {v : Value} {ends : List Int} (h : IsC w B g A c b p v ends) (hn : 0 < ends.length) :
  Calls Tryd.prog 14 #[.pointer (some ⟨g, 0, none⟩)] w fun e w' => e = .returned (.bool true) ∧ Drawn0 w w' :=
 (ok_c h).mono fun _ _ hh => ⟨by rw [hh.1, decide_eq_true hn], hh.2⟩
theorem ok_no {w : World} {B g : Nat} {A : Option Addr} {c : Nat} {b : List Int} {p : Int} {v : Value} {ends : List Int} (h : IsC w B g A c b p v ends) (hn : ends.length = 0) :
  Calls Tryd.prog 14 #[.pointer (some ⟨g, 0, none⟩)] w fun e w' => e = .returned (.bool false) ∧ Drawn0 w w' :=
 (ok_c h).mono fun _ _ hh => ⟨by rw [hh.1, decide_eq_false (by omega)], hh.2⟩
/-- More. -/
theorem more_c {w : World} {B g : Nat} {A : Option Addr} {c : Nat} {b : List Int} {p : Int} {v : Value} {ends : List Int} (h : IsC w B g A c b p v ends) :
   Calls Tryd.prog 27 #[.pointer (some ⟨g, 0, none⟩)] w fun e w' => e = .returned (.bool (moreB p ends)) ∧ Drawn0 w w' := by
 have hc1 : w.cell? ⟨g, 1, none⟩ = some (.int .i64 p) := (blk_cell h.blk 1).trans rfl
 by_cases hn : 0 < ends.length
 · have hb : moreB p ends = decide (p < last ends) := by unfold moreB; rw [decide_eq_true hn, Bool.true_and]
   have HE := Aside0.mk (fun n => end_c (h.drewN n) hn)
   have HO := Aside0.mk (fun n => ok_yes (h.drewN n) hn)
   rw [hb]
   obtain ⟨L, hL⟩ : ∃ L, L = last ends := ⟨_, rfl⟩
   rw [← hL] at HE ⊢
   clear h hn hb hL
   go_enter Tryd.func27, Tryd.ntmps27
   go_wp2_with fail
   go_quiet ((first | (go_at_call 14; exact quiet (HO.out _)) | (go_at_call 43; exact quiet (HE.out _))))
   go_wp2
   go_ret
   exact ⟨rfl, Drawn0.step (Drawn0.refl _) _⟩
 · have hb : moreB p ends = false := by unfold moreB; rw [decide_eq_false hn, Bool.false_and]
   have HO := Aside0.mk (fun n => ok_no (h.drewN n) (by omega))
   rw [hb]
   clear h hn hb
   go_enter Tryd.func27, Tryd.ntmps27
   go_wp2_with fail
   go_quiet ((first | (go_at_call 14; exact quiet (HO.out _))))
   go_wp2
   go_ret
   exact ⟨rfl, Drawn0.step (Drawn0.refl _) _⟩
/-- fail. -/
theorem fail_c {w : World} {B g : Nat} {A : Option Addr} {c : Nat} {b : List Int} {p : Int} {v : Value} {ends : List Int} (h : IsC w B g A c b p v ends) :
  Calls Tryd.prog 51 #[.pointer (some ⟨g, 0, none⟩)] w fun e w' => e = .returned (.tuple #[]) ∧ IsC w' B g A c b 0 (.slice none 0 0) [] ∧ Kept w w' g := by
 obtain ⟨A2, c2, rfl⟩ := Kd.R_slice h.row
 have hc1 : w.cell? ⟨g, 1, none⟩ = some (.int .i64 p) := (blk_cell h.blk 1).trans rfl
 have hc2 : w.cell? ⟨g, 2, none⟩ = some (.slice A2 ends.length c2) := (blk_cell h.blk 2).trans rfl
 have hf1 := blk_frozen h.blk 1
 have hf2 := blk_frozen h.blk 2
 have H := Aside0.mk h
 clear h
 go_enter Tryd.func51, Tryd.ntmps51
 go_wp2
 go_end0
 have hk : Kept w ((w.setCell ⟨g, 1, none⟩ (.int .i64 0)).setCell ⟨g, 2, none⟩ (.slice none 0 0)) g := ((Kept.refl w g).set_ 1 _).set_ 2 _
 exact ⟨rfl, ⟨blk_put (blk_put H.out.blk 1 _ rfl) 2 _ rfl, Kd.R_nil _ _ _ _ _, Kd.C_keep (d := 0) H.out.rd hk.1 (fun ad h1 h2 => by have h3 := H.out.ap ad h1 h2; have h4 := H.out.ge; omega), H.out.lc, H.out.ge, H.out.ap⟩, hk⟩
end Go.Proofs.YthgddlibfboehaaDoor.Cur
end
section
namespace Go.Proofs.YthgddlibfboehaaDoor.Cur
open Go.RowKit Go.Proofs.YthgddlibfboehaaDoorW.PrintWords Go.Proofs.YthgddlibfboehaaDoorW.PrintLast Go.Proofs.YthgddlibfboehaaDoorW.PrintMore Go.Proofs.YthgddlibfboehaaDoor.Var
set_option maxHeartbeats 1000000
set_option maxRecDepth 100000
/-- varint.Get of whatever bytes. -/
theorem get_c {W : World} {A : Option Addr} {c : Nat} {l : List Int} (hr : Kd.C (Kd.int .u8) W A l.length l) (hc : l.length ≤ c) (hb : ∀ x ∈ l, 0 ≤ x ∧ x ≤ 255) (hl : l.length ≤ 140737488359000) :
  Calls Tryd.prog 69 #[.slice A l.length c] W fun e w' => e = .returned (.tuple #[.int .u64 (dec l 0 0).1, .int .i64 (dec l 0 0).2]) ∧ Drawn0 W w' :=
 PLib.varint_Get.calls (2 * l.length + 1) A c l _ _ W hr hc (VLib.get_f _ l hb (by omega) hl)
theorem get4_f (l : List Int) (hb : ∀ x ∈ l, 0 ≤ x ∧ x ≤ 255) : M.fix_Get4.f l = some ((fixD 4 l).1, decide ((fixD 4 l).2 ≠ 0)) := by
 unfold M.fix_Get4.f fixD
 by_cases h : l.length < 4
 · rw [if_pos h, if_pos h]; simp
 · rw [if_neg h, if_neg h, if_pos (fun x hx => hb x (List.mem_of_mem_take hx))]; simp
theorem get8_f (l : List Int) (hb : ∀ x ∈ l, 0 ≤ x ∧ x ≤ 255) : M.fix_Get8.f l = some ((fixD 8 l).1, decide ((fixD 8 l).2 ≠ 0)) := by
 unfold M.fix_Get8.f fixD
 by_cases h : l.length < 8
 · rw [if_pos h, if_pos h]; simp
 · rw [if_neg h, if_neg h, if_pos (fun x hx => hb x (List.mem_of_mem_take hx))]; simp
theorem fixD_two (k : Nat) (l : List Int) : (fixD k l = (0, 0)) ∨ (fixD k l).2 = k := by
 unfold fixD
 by_cases h : l.length < k
 · rw [if_pos h]; exact .inl rfl
 · rw [if_neg h]; exact .inr rfl
/-- Varint's closure. -/
theorem clos_v {W : World} {A : Option Addr} {n c nb : Nat} {l : List Int} (hln : l.length = n) (hr : Kd.C (Kd.int .u8) W A l.length l) (hc : l.length ≤ c) (hb : ∀ x ∈ l, 0 ≤ x ∧ x ≤ 255) (hl : l.length ≤ 140737488359000)
  (hnb : W.heap[nb]? = some (.cells #[.int .u64 0] 48 (0, 0))) :
  Calls Tryd.prog 68 #[.slice A n c, .pointer (some ⟨nb, 0, none⟩)] W fun e w' => e = .returned (.int .i64 (dec l 0 0).2) ∧ w'.heap[nb]? = some (.cells #[.int .u64 (dec l 0 0).1] 48 (0, 0)) ∧ Kept W w' nb := by
 subst hln
 have HG := Aside0.mk (get_c hr hc hb hl)
 have HN := Aside0.mk hnb
 have hc0 : W.cell? ⟨nb, 0, none⟩ = some (.int .u64 0) := (blk_cell hnb 0).trans rfl
 have hf0 := blk_frozen hnb 0
 obtain ⟨D, hD⟩ : ∃ D, D = dec l 0 0 := ⟨_, rfl⟩
 rw [← hD] at HG ⊢
 clear hr hc hb hl hnb hD
 go_enter Tryd.func68, Tryd.ntmps68
 go_wp2_with (first | (go_at_call 69; refine HG.out.mono ?_; rintro e w1 ⟨rfl, ⟨n1, rfl⟩⟩))
 go_ret
 exact ⟨rfl, blk_put (blk_drewN HN.out n1) 0 _ rfl, (Kept.of_below (pw_below_drewN (Below.refl _ _) n1)).set_ 0 _⟩
/-- What take leaves: w2: behind the closure. -/
def TakeP (Q : World → Prop) (B g : Nat) (A : Option Addr) (c : Nat) (b : List Int) (p : Int) (v : Value) (ends : List Int) (s : Int) (e : Ending) (w' : World) : Prop :=
 e = .returned (.tuple #[]) ∧ ∃ w2 v', Q w2 ∧ Kept w2 w' g ∧ (v' = v ∨ v' = .slice none 0 0) ∧ IsC w' B g A c b (nx p ends s).1 v' (nx p ends s).2
theorem IsC.set1 {w : World} {B g : Nat} {A : Option Addr} {c : Nat} {b : List Int} {p : Int} {v : Value} {ends : List Int} (h : IsC w B g A c b p v ends) (q : Int) : IsC (w.setCell ⟨g, 1, none⟩ (.int .i64 q)) B g A c b q v ends :=
 ⟨blk_put h.blk 1 _ rfl, Kd.R_keep h.row ((KeepBut.refl w g none).set_ 1 _) (fun _ hk => hk), Kd.C_keep (d := 0) h.rd ((KeepBut.refl w g none).set_ 1 _) (fun ad h1 h2 => by have h3 := h.ap ad h1 h2; have h4 := h.ge; omega), h.lc, h.ge, h.ap⟩
theorem IsC.keep {w w' : World} {B g k : Nat} {A : Option Addr} {c : Nat} {b : List Int} {p : Int} {v : Value} {ends : List Int} (h : IsC w B g A c b p v ends) (hk : Kept w w' k) (hg : g ≠ k) (hv : v.ownBlock ≠ some k) (hB : B ≤ k) : IsC w' B g A c b p v ends := by
 refine ⟨hk.1.blk h.blk hg (by simp), ?_, Kd.C_keep (d := 0) h.rd hk.1 (fun ad h1 h2 => by have h3 := h.ap ad h1 h2; omega), h.lc, h.ge, h.ap⟩
 obtain ⟨h0, inner, ho, hr⟩ := h.row
 refine ⟨h0, inner, own_move ho (fun j hj => ?_), ?_⟩
 · exact hk.1.2 j (own_lt ho j hj) (fun he => hv (by rw [hj, he])) (by simp)
 · exact hr.imp_ (fun _ _ hp => hp)
section
variable {w : World} {B g : Nat} {A : Option Addr} {c : Nat} {b : List Int} {p : Int} {v : Value} {ends : List Int}
/-- What is left of the frame, read. -/
theorem seg_C (h : IsC w B g A c b p v ends) (hi : Inv b.length p ends) : Kd.C (Kd.int .u8) w (if (last ends).toNat = p.toNat then A else Option.map (fun x => x.add p.toNat) A) (seg b p ends).length (seg b p ends) := by
 have h0 := inv_last hi
 have h1 := Kd.C_take (m := (last ends).toNat) h.rd (by omega)
 have hl : (b.take (last ends).toNat).length = (last ends).toNat := by rw [List.length_take]; omega
 have h2 := Kd.C_drop (c := (last ends).toNat) (m := p.toNat) h1 (by omega) (by omega)
 have e1 : p.toNat * (Kd.int .u8).sz = p.toNat := Nat.mul_one _
 rw [e1] at h2
 exact h2
theorem seg_l (hi : Inv b.length p ends) : (seg b p ends).length = (last ends).toNat - p.toNat := by
 have h0 := inv_last hi
 rw [seg_len hi]
 omega
/-- take of a cursor that has failed. -/
theorem take_no (h : IsC w B g A c b p v ends) (hn : ends.length = 0) (fv : Value) :
  Calls Tryd.prog 63 #[.pointer (some ⟨g, 0, none⟩), fv] w fun e w' => e = .returned (.tuple #[]) ∧ Drawn0 w w' := by
 have HO := Aside0.mk (ok_no h hn)
 clear h
 go_enter Tryd.func63, Tryd.ntmps63
 go_wp2_with (first | (go_at_call 14; refine HO.out.mono ?_; rintro e w1 ⟨rfl, ⟨n1, rfl⟩⟩))
 refine bodyPost_ret (results_none rfl _ _ _) rfl ?_
 exact ⟨rfl, ⟨_, rfl⟩⟩
end
/-- take, with the closure of Varint. Q: what the closure leaves. -/
theorem take_v {w : World} {B g : Nat} {A : Option Addr} {c : Nat} {b : List Int} {p : Int} {v : Value} {ends : List Int} (h : IsC w B g A c b p v ends) (hn : 0 < ends.length) (hi : Inv b.length p ends) (nb : Nat)
   (s : Int) (hs0 : 0 ≤ s) (hs : s ≤ last ends - p) (hbl : b.length ≤ 140737488359000) (Q : World → Prop)
   (HC : ∀ n, Calls Tryd.prog 68 #[.slice (if (last ends).toNat = p.toNat then A else Option.map (fun x => x.add p.toNat) A) ((last ends).toNat - p.toNat) ((last ends).toNat - p.toNat), .pointer (some ⟨nb, 0, none⟩)] (w.drewN n)
    fun e w' => e = .returned (.int .i64 s) ∧ IsC w' B g A c b p v ends ∧ Q w') :
   Calls Tryd.prog 63 #[.pointer (some ⟨g, 0, none⟩), .func (.func 68) #[] #[.pointer (some ⟨nb, 0, none⟩)]] w
    (TakeP Q B g A c b p v ends s) := by
 have hc0 : w.cell? ⟨g, 0, none⟩ = some (.slice A b.length c) := (blk_cell h.blk 0).trans rfl
 have hc1 : w.cell? ⟨g, 1, none⟩ = some (.int .i64 p) := (blk_cell h.blk 1).trans rfl
 have HE := Aside0.mk (fun n => end_c (h.drewN n) hn)
 have HO := Aside0.mk (ok_yes h hn)
 have hl := hi.2.1 _ (last_mem hn)
 have p0 := hi.1
 obtain ⟨L, hL⟩ : ∃ L, L = last ends := ⟨_, rfl⟩
 rw [← hL] at HE hl HC hs
 obtain ⟨l1, l2⟩ := hl
 have lc := h.lc
 clear h hn hL hi
 obtain ⟨p, rfl⟩ := Int.eq_ofNat_of_zero_le p0
 obtain ⟨L, rfl⟩ := Int.eq_ofNat_of_zero_le (show 0 ≤ L by omega)
 simp only [Int.toNat_natCast] at HC
 obtain ⟨A', hA'⟩ : ∃ A', (if L = p then A else Option.map (fun x => x.add p) A) = A' := ⟨_, rfl⟩
 rw [hA'] at HC
 have HCC := Aside0.mk HC
 have hLc : L ≤ c := by omega
 have hpL : p ≤ L := by omega
 clear HC l1
 by_cases hz : s = 0
 · subst hz
   clear hs0 hs
   go_enter Tryd.func63, Tryd.ntmps63
   go_wp2_with (first | (go_at_call 14; refine HO.out.mono ?_; rintro e w1 ⟨rfl, ⟨n1, rfl⟩⟩))
   go_region_held3 (fun w' => w'.cell? ⟨g, 0, none⟩ = some (.slice A b.length c) ∧ w'.cell? ⟨g, 1, none⟩ = some (.int .i64 (p : Int))) (first | exact ⟨hc0, hc1⟩ | exact ⟨(blk_cell H3.out.blk 0).trans rfl, (blk_cell H3.out.blk 1).trans rfl⟩ | go_keep) (first
    | (go_at_call 43; refine (HE.out _).mono ?_; rintro e w2 ⟨rfl, ⟨n2, rfl⟩⟩)
    | (go_at_call 68; refine (HCC.out _).mono ?_; rintro e w3 ⟨rfl, hC3, hQ3⟩; have H3 := Aside0.mk hC3; have Q3 := Aside0.mk hQ3; clear hC3 hQ3))
   all_goals
    go_wp2_with (first | (go_at_call 51; refine (fail_c H3.out).mono ?_; rintro e w4 ⟨rfl, hC4, hk4⟩; have H4 := Aside0.mk hC4; have K4 := Aside0.mk hk4; clear hC4 hk4))
    first
    | go_end0
    | (refine bodyPost_ret (results_none rfl _ _ _) rfl ?_)
    exact ⟨rfl, _, _, Q3.out, K4.out, .inr rfl, H4.out⟩
 · have hz1 : (s == 0) = false := beq_eq_false_iff_ne.2 hz
   have HZ := Aside0.mk (show nx (p : Int) ends s = ((p : Int) + s, ends) from if_neg hz)
   clear hz
   have hsum : (p : Int) + s ≤ 9223372036854775807 := by omega
   go_enter Tryd.func63, Tryd.ntmps63
   go_wp2_with (first | (go_at_call 14; refine HO.out.mono ?_; rintro e w1 ⟨rfl, ⟨n1, rfl⟩⟩))
   go_region_held3 (fun w' => w'.cell? ⟨g, 0, none⟩ = some (.slice A b.length c) ∧ w'.cell? ⟨g, 1, none⟩ = some (.int .i64 (p : Int))) (first | exact ⟨hc0, hc1⟩ | exact ⟨(blk_cell H3.out.blk 0).trans rfl, (blk_cell H3.out.blk 1).trans rfl⟩ | go_keep) (first
    | (go_at_call 43; refine (HE.out _).mono ?_; rintro e w2 ⟨rfl, ⟨n2, rfl⟩⟩)
    | (go_at_call 68; refine (HCC.out _).mono ?_; rintro e w3 ⟨rfl, hC3, hQ3⟩; have H3 := Aside0.mk hC3; have Q3 := Aside0.mk hQ3; clear hC3 hQ3))
   all_goals
    have hd1 : w3.cell? ⟨g, 1, none⟩ = some (.int .i64 (p : Int)) := (blk_cell H3.out.blk 1).trans rfl
    have hg1 := blk_frozen H3.out.blk 1
    go_wp2_with fail
    first
    | go_end0
    | (refine bodyPost_ret (results_none rfl _ _ _) rfl ?_)
    unfold TakeP
    rw [HZ.out]
    exact ⟨rfl, _, _, Q3.out, (Kept.refl _ g).set_ 1 _, .inl rfl, H3.out.set1 _⟩
/-- Varint. -/
theorem Varint_c {w : World} {B g : Nat} {A : Option Addr} {c : Nat} {b : List Int} {p : Int} {v : Value} {ends : List Int} (h : IsC w B g A c b p v ends) (hi : Inv b.length p ends) (hB : B ≤ w.heap.size) (hb : ∀ x ∈ b, 0 ≤ x ∧ x ≤ 255) (hbl : b.length ≤ 140737488359000) :
  Calls Tryd.prog 47 #[.pointer (some ⟨g, 0, none⟩)] w fun e w' => e = .returned (.int .u64 (vD b p ends).1) ∧ Moved w B g A c b v (nx p ends (vD b p ends).2).1 (nx p ends (vD b p ends).2).2 w' := by
 have hf := vD_facts hi hb
 have hgl := blk_lt h.blk
 have hnw : (w.alloc (.cells #[.int .u64 0] 48 (0, 0))).heap[w.heap.size]? = some (.cells #[.int .u64 0] 48 (0, 0)) := blk_new w _
 have hkw : Kept w (w.alloc (.cells #[.int .u64 0] 48 (0, 0))) w.heap.size := Kept.of_below (below_alloc (Below.refl _ _) _)
 have hA : IsC (w.alloc (.cells #[.int .u64 0] 48 (0, 0))) B g A c b p v ends := h.below (below_alloc (Below.refl _ _) _)
 have hvo : v.ownBlock ≠ some w.heap.size := by
  obtain ⟨h0, inner, ho, hr⟩ := h.row
  intro he
  have := own_lt ho _ he
  omega
 have hT : Calls Tryd.prog 63 #[.pointer (some ⟨g, 0, none⟩), .func (.func 68) #[] #[.pointer (some ⟨w.heap.size, 0, none⟩)]] (w.alloc (.cells #[.int .u64 0] 48 (0, 0)))
    fun e w' => e = .returned (.tuple #[]) ∧ w'.heap[w.heap.size]? = some (.cells #[.int .u64 (vD b p ends).1] 48 (0, 0)) ∧ Moved w B g A c b v (nx p ends (vD b p ends).2).1 (nx p ends (vD b p ends).2).2 w' := by
  by_cases hn : ends.length = 0
  · refine (take_no hA hn _).mono ?_
    rintro e w' ⟨rfl, ⟨n, rfl⟩⟩
    have hs0 : (vD b p ends).2 = 0 := by
      have := hf.2.2.2.1
      have h1 := last_nil hn
      have h2 := inv_last hi
      have h3 := hf.2.2.1
      omega
    have hd0 := hf.2.2.2.2 hs0
    rw [hs0, hd0]
    have he : ends = [] := List.length_eq_zero_iff.1 hn
    subst he
    have hp : p = 0 := hi.2.2.2 rfl
    subst hp
    exact ⟨rfl, blk_drewN hnw n, v, (hA.drewN n), Fr.of_keep (Kept.of_below (pw_below_drewN (below_alloc (Below.refl _ _) _) n)) (.inl rfl)⟩
  · refine (take_v hA (by omega) hi w.heap.size (vD b p ends).2 hf.2.2.1 hf.2.2.2.1 hbl (fun w2 => w2.heap[w.heap.size]? = some (.cells #[.int .u64 (vD b p ends).1] 48 (0, 0)) ∧ Kept w w2 w.heap.size) (fun n => ?_)).mono ?_
    · have hAn := hA.drewN n
      refine (clos_v (l := seg b p ends) (seg_l hi) (seg_C hAn hi) (by rw [seg_l hi]; omega) (seg_bytes hb) (by have := seg_l hi; have := inv_last hi; omega) (blk_drewN hnw n)).mono ?_
      rintro e w2 ⟨rfl, h2, h3⟩
      exact ⟨rfl, hAn.keep h3 (by omega) hvo hB, h2, (Kept.of_below (pw_below_drewN (below_alloc (Below.refl _ _) _) n)).trans h3⟩
    · rintro e w' ⟨rfl, w2, v', ⟨h2, h3⟩, h4, h5, h6⟩
      refine ⟨rfl, h4.1.blk h2 (by omega) (by simp), v', h6, Fr.of_keep ⟨⟨Nat.le_trans h3.1.1 h4.1.1, fun i hi1 hi2 _ => ?_⟩, h4.2.1.trans h3.2.1, h4.2.2.1.trans h3.2.2.1, h4.2.2.2.trans h3.2.2.2⟩ h5⟩
      rw [h4.1.2 i (Nat.lt_of_lt_of_le hi1 h3.1.1) hi2 (by simp), h3.1.2 i hi1 (by omega) (by simp)]
 have HT := Aside0.mk hT
 obtain ⟨D, hD⟩ : ∃ D, D = vD b p ends := ⟨_, rfl⟩
 rw [← hD] at HT ⊢
 clear hT hf hnw hkw hA hvo h hD
 go_enter Tryd.func47, Tryd.ntmps47
 go_wp2_with (first | (go_at_call 63; refine HT.out.mono ?_; rintro e w1 ⟨rfl, h1, h2⟩; have hc1 := (blk_cell h1 0).trans rfl; have H2 := Aside0.mk h2; clear h1 h2))
 go_ret
 exact ⟨rfl, H2.out⟩
/-- Fixed4's closure. -/
theorem clos_4 {W : World} {A : Option Addr} {n c nb : Nat} {l : List Int} (hln : l.length = n) (hr : Kd.C (Kd.int .u8) W A l.length l) (hc : l.length ≤ c) (hb : ∀ x ∈ l, 0 ≤ x ∧ x ≤ 255) (_hl : l.length ≤ 140737488359000)
   (hnb : W.heap[nb]? = some (.cells #[.int .u32 0] 94 (0, 0))) :
   Calls Tryd.prog 64 #[.slice A n c, .pointer (some ⟨nb, 0, none⟩)] W fun e w' => e = .returned (.int .i64 (fixD 4 l).2) ∧ w'.heap[nb]? = some (.cells #[.int .u32 (fixD 4 l).1] 94 (0, 0)) ∧ Kept W w' nb := by
 subst hln
 have HG := Aside0.mk (M.fix_Get4.calls A c l _ _ W hr hc (get4_f l hb))
 have HN := Aside0.mk hnb
 have hc0 : W.cell? ⟨nb, 0, none⟩ = some (.int .u32 0) := (blk_cell hnb 0).trans rfl
 have hf0 := blk_frozen hnb 0
 have hlt := blk_lt hnb
 rcases fixD_two 4 l with hD | hD
 · rw [hD] at HG ⊢
   rw [decide_eq_false (by simp)] at HG
   clear hr hc hb hnb hD
   go_enter Tryd.func64, Tryd.ntmps64
   go_wp2_with (first | (go_at_call 65; refine HG.out.mono ?_; rintro e w1 ⟨rfl, hb1⟩; have HB1 := Aside0.mk hb1; clear hb1))
   go_ret
   exact ⟨rfl, blk_below HN.out HB1.out, Kept.of_below HB1.out⟩
 · rw [hD] at HG ⊢
   rw [decide_eq_true (by decide)] at HG
   obtain ⟨D, hDD⟩ : ∃ D, D = (fixD 4 l).1 := ⟨_, rfl⟩
   rw [← hDD] at HG ⊢
   clear hr hc hb hnb hD hDD
   go_enter Tryd.func64, Tryd.ntmps64
   go_wp2_with (first | (go_at_call 65; refine HG.out.mono ?_; rintro e w1 ⟨rfl, hb1⟩; have HB1 := Aside0.mk hb1; have hn1 := blk_below HN.out hb1; have hc1 := (blk_cell hn1 0).trans rfl; have hf1 := blk_frozen hn1 0; have HN1 := Aside0.mk hn1; clear hb1 hn1))
   go_ret
   exact ⟨rfl, blk_put HN1.out 0 _ rfl, (Kept.of_below HB1.out).set_ 0 _⟩
/-- take, with the closure of Fixed4. Q: what the closure leaves. -/
theorem take_4 {w : World} {B g : Nat} {A : Option Addr} {c : Nat} {b : List Int} {p : Int} {v : Value} {ends : List Int} (h : IsC w B g A c b p v ends) (hn : 0 < ends.length) (hi : Inv b.length p ends) (nb : Nat)
   (s : Int) (hs0 : 0 ≤ s) (hs : s ≤ last ends - p) (hbl : b.length ≤ 140737488359000) (Q : World → Prop)
   (HC : ∀ n, Calls Tryd.prog 64 #[.slice (if (last ends).toNat = p.toNat then A else Option.map (fun x => x.add p.toNat) A) ((last ends).toNat - p.toNat) ((last ends).toNat - p.toNat), .pointer (some ⟨nb, 0, none⟩)] (w.drewN n)
    fun e w' => e = .returned (.int .i64 s) ∧ IsC w' B g A c b p v ends ∧ Q w') :
   Calls Tryd.prog 63 #[.pointer (some ⟨g, 0, none⟩), .func (.func 64) #[] #[.pointer (some ⟨nb, 0, none⟩)]] w
    (TakeP Q B g A c b p v ends s) := by
 have hc0 : w.cell? ⟨g, 0, none⟩ = some (.slice A b.length c) := (blk_cell h.blk 0).trans rfl
 have hc1 : w.cell? ⟨g, 1, none⟩ = some (.int .i64 p) := (blk_cell h.blk 1).trans rfl
 have HE := Aside0.mk (fun n => end_c (h.drewN n) hn)
 have HO := Aside0.mk (ok_yes h hn)
 have hl := hi.2.1 _ (last_mem hn)
 have p0 := hi.1
 obtain ⟨L, hL⟩ : ∃ L, L = last ends := ⟨_, rfl⟩
 rw [← hL] at HE hl HC hs
 obtain ⟨l1, l2⟩ := hl
 have lc := h.lc
 clear h hn hL hi
 obtain ⟨p, rfl⟩ := Int.eq_ofNat_of_zero_le p0
 obtain ⟨L, rfl⟩ := Int.eq_ofNat_of_zero_le (show 0 ≤ L by omega)
 simp only [Int.toNat_natCast] at HC
 obtain ⟨A', hA'⟩ : ∃ A', (if L = p then A else Option.map (fun x => x.add p) A) = A' := ⟨_, rfl⟩
 rw [hA'] at HC
 have HCC := Aside0.mk HC
 have hLc : L ≤ c := by omega
 have hpL : p ≤ L := by omega
 clear HC l1
 by_cases hz : s = 0
 · subst hz
   clear hs0 hs
   go_enter Tryd.func63, Tryd.ntmps63
   go_wp2_with (first | (go_at_call 14; refine HO.out.mono ?_; rintro e w1 ⟨rfl, ⟨n1, rfl⟩⟩))
   go_region_held3 (fun w' => w'.cell? ⟨g, 0, none⟩ = some (.slice A b.length c) ∧ w'.cell? ⟨g, 1, none⟩ = some (.int .i64 (p : Int))) (first | exact ⟨hc0, hc1⟩ | exact ⟨(blk_cell H3.out.blk 0).trans rfl, (blk_cell H3.out.blk 1).trans rfl⟩ | go_keep) (first
    | (go_at_call 43; refine (HE.out _).mono ?_; rintro e w2 ⟨rfl, ⟨n2, rfl⟩⟩)
    | (go_at_call 64; refine (HCC.out _).mono ?_; rintro e w3 ⟨rfl, hC3, hQ3⟩; have H3 := Aside0.mk hC3; have Q3 := Aside0.mk hQ3; clear hC3 hQ3))
   all_goals
    go_wp2_with (first | (go_at_call 51; refine (fail_c H3.out).mono ?_; rintro e w4 ⟨rfl, hC4, hk4⟩; have H4 := Aside0.mk hC4; have K4 := Aside0.mk hk4; clear hC4 hk4))
    first
    | go_end0
    | (refine bodyPost_ret (results_none rfl _ _ _) rfl ?_)
    exact ⟨rfl, _, _, Q3.out, K4.out, .inr rfl, H4.out⟩
 · have hz1 : (s == 0) = false := beq_eq_false_iff_ne.2 hz
   have HZ := Aside0.mk (show nx (p : Int) ends s = ((p : Int) + s, ends) from if_neg hz)
   clear hz
   have hsum : (p : Int) + s ≤ 9223372036854775807 := by omega
   go_enter Tryd.func63, Tryd.ntmps63
   go_wp2_with (first | (go_at_call 14; refine HO.out.mono ?_; rintro e w1 ⟨rfl, ⟨n1, rfl⟩⟩))
   go_region_held3 (fun w' => w'.cell? ⟨g, 0, none⟩ = some (.slice A b.length c) ∧ w'.cell? ⟨g, 1, none⟩ = some (.int .i64 (p : Int))) (first | exact ⟨hc0, hc1⟩ | exact ⟨(blk_cell H3.out.blk 0).trans rfl, (blk_cell H3.out.blk 1).trans rfl⟩ | go_keep) (first
    | (go_at_call 43; refine (HE.out _).mono ?_; rintro e w2 ⟨rfl, ⟨n2, rfl⟩⟩)
    | (go_at_call 64; refine (HCC.out _).mono ?_; rintro e w3 ⟨rfl, hC3, hQ3⟩; have H3 := Aside0.mk hC3; have Q3 := Aside0.mk hQ3; clear hC3 hQ3))
   all_goals
    have hd1 : w3.cell? ⟨g, 1, none⟩ = some (.int .i64 (p : Int)) := (blk_cell H3.out.blk 1).trans rfl
    have hg1 := blk_frozen H3.out.blk 1
    go_wp2_with fail
    first
    | go_end0
    | (refine bodyPost_ret (results_none rfl _ _ _) rfl ?_)
    unfold TakeP
    rw [HZ.out]
    exact ⟨rfl, _, _, Q3.out, (Kept.refl _ g).set_ 1 _, .inl rfl, H3.out.set1 _⟩
/-- Fixed4. -/
theorem Fixed4_c {w : World} {B g : Nat} {A : Option Addr} {c : Nat} {b : List Int} {p : Int} {v : Value} {ends : List Int} (h : IsC w B g A c b p v ends) (hi : Inv b.length p ends) (hB : B ≤ w.heap.size) (hb : ∀ x ∈ b, 0 ≤ x ∧ x ≤ 255) (hbl : b.length ≤ 140737488359000) :
  Calls Tryd.prog 45 #[.pointer (some ⟨g, 0, none⟩)] w fun e w' => e = .returned (.int .u32 (fD 4 b p ends).1) ∧ Moved w B g A c b v (nx p ends (fD 4 b p ends).2).1 (nx p ends (fD 4 b p ends).2).2 w' := by
 have hf := fD_facts hi 4 (by omega)
 have hgl := blk_lt h.blk
 have hnw : (w.alloc (.cells #[.int .u32 0] 94 (0, 0))).heap[w.heap.size]? = some (.cells #[.int .u32 0] 94 (0, 0)) := blk_new w _
 have hkw : Kept w (w.alloc (.cells #[.int .u32 0] 94 (0, 0))) w.heap.size := Kept.of_below (below_alloc (Below.refl _ _) _)
 have hA : IsC (w.alloc (.cells #[.int .u32 0] 94 (0, 0))) B g A c b p v ends := h.below (below_alloc (Below.refl _ _) _)
 have hvo : v.ownBlock ≠ some w.heap.size := by
  obtain ⟨h0, inner, ho, hr⟩ := h.row
  intro he
  have := own_lt ho _ he
  omega
 have hT : Calls Tryd.prog 63 #[.pointer (some ⟨g, 0, none⟩), .func (.func 64) #[] #[.pointer (some ⟨w.heap.size, 0, none⟩)]] (w.alloc (.cells #[.int .u32 0] 94 (0, 0)))
    fun e w' => e = .returned (.tuple #[]) ∧ w'.heap[w.heap.size]? = some (.cells #[.int .u32 (fD 4 b p ends).1] 94 (0, 0)) ∧ Moved w B g A c b v (nx p ends (fD 4 b p ends).2).1 (nx p ends (fD 4 b p ends).2).2 w' := by
  by_cases hn : ends.length = 0
  · refine (take_no hA hn _).mono ?_
    rintro e w' ⟨rfl, ⟨n, rfl⟩⟩
    have hs0 : (fD 4 b p ends).2 = 0 := by
      have := hf.2.1
      have h1 := last_nil hn
      have h2 := inv_last hi
      have h3 := hf.1
      omega
    have hd0 := hf.2.2 hs0
    rw [hs0, hd0]
    have he : ends = [] := List.length_eq_zero_iff.1 hn
    subst he
    have hp : p = 0 := hi.2.2.2 rfl
    subst hp
    exact ⟨rfl, blk_drewN hnw n, v, (hA.drewN n), Fr.of_keep (Kept.of_below (pw_below_drewN (below_alloc (Below.refl _ _) _) n)) (.inl rfl)⟩
  · refine (take_4 hA (by omega) hi w.heap.size (fD 4 b p ends).2 hf.1 hf.2.1 hbl (fun w2 => w2.heap[w.heap.size]? = some (.cells #[.int .u32 (fD 4 b p ends).1] 94 (0, 0)) ∧ Kept w w2 w.heap.size) (fun n => ?_)).mono ?_
    · have hAn := hA.drewN n
      refine (clos_4 (l := seg b p ends) (seg_l hi) (seg_C hAn hi) (by rw [seg_l hi]; omega) (seg_bytes hb) (by have := seg_l hi; have := inv_last hi; omega) (blk_drewN hnw n)).mono ?_
      rintro e w2 ⟨rfl, h2, h3⟩
      exact ⟨rfl, hAn.keep h3 (by omega) hvo hB, h2, (Kept.of_below (pw_below_drewN (below_alloc (Below.refl _ _) _) n)).trans h3⟩
    · rintro e w' ⟨rfl, w2, v', ⟨h2, h3⟩, h4, h5, h6⟩
      refine ⟨rfl, h4.1.blk h2 (by omega) (by simp), v', h6, Fr.of_keep ⟨⟨Nat.le_trans h3.1.1 h4.1.1, fun i hi1 hi2 _ => ?_⟩, h4.2.1.trans h3.2.1, h4.2.2.1.trans h3.2.2.1, h4.2.2.2.trans h3.2.2.2⟩ h5⟩
      rw [h4.1.2 i (Nat.lt_of_lt_of_le hi1 h3.1.1) hi2 (by simp), h3.1.2 i hi1 (by omega) (by simp)]
 have HT := Aside0.mk hT
 obtain ⟨D, hD⟩ : ∃ D, D = fD 4 b p ends := ⟨_, rfl⟩
 rw [← hD] at HT ⊢
 clear hT hf hnw hkw hA hvo h hD
 go_enter Tryd.func45, Tryd.ntmps45
 go_wp2_with (first | (go_at_call 63; refine HT.out.mono ?_; rintro e w1 ⟨rfl, h1, h2⟩; have hc1 := (blk_cell h1 0).trans rfl; have H2 := Aside0.mk h2; clear h1 h2))
 go_ret
 exact ⟨rfl, H2.out⟩
/-- Fixed8's closure. -/
theorem clos_8 {W : World} {A : Option Addr} {n c nb : Nat} {l : List Int} (hln : l.length = n) (hr : Kd.C (Kd.int .u8) W A l.length l) (hc : l.length ≤ c) (hb : ∀ x ∈ l, 0 ≤ x ∧ x ≤ 255) (_hl : l.length ≤ 140737488359000)
   (hnb : W.heap[nb]? = some (.cells #[.int .u64 0] 48 (0, 0))) :
   Calls Tryd.prog 66 #[.slice A n c, .pointer (some ⟨nb, 0, none⟩)] W fun e w' => e = .returned (.int .i64 (fixD 8 l).2) ∧ w'.heap[nb]? = some (.cells #[.int .u64 (fixD 8 l).1] 48 (0, 0)) ∧ Kept W w' nb := by
 subst hln
 have HG := Aside0.mk (M.fix_Get8.calls A c l _ _ W hr hc (get8_f l hb))
 have HN := Aside0.mk hnb
 have hc0 : W.cell? ⟨nb, 0, none⟩ = some (.int .u64 0) := (blk_cell hnb 0).trans rfl
 have hf0 := blk_frozen hnb 0
 have hlt := blk_lt hnb
 rcases fixD_two 8 l with hD | hD
 · rw [hD] at HG ⊢
   rw [decide_eq_false (by simp)] at HG
   clear hr hc hb hnb hD
   go_enter Tryd.func66, Tryd.ntmps66
   go_wp2_with (first | (go_at_call 67; refine HG.out.mono ?_; rintro e w1 ⟨rfl, hb1⟩; have HB1 := Aside0.mk hb1; clear hb1))
   go_ret
   exact ⟨rfl, blk_below HN.out HB1.out, Kept.of_below HB1.out⟩
 · rw [hD] at HG ⊢
   rw [decide_eq_true (by decide)] at HG
   obtain ⟨D, hDD⟩ : ∃ D, D = (fixD 8 l).1 := ⟨_, rfl⟩
   rw [← hDD] at HG ⊢
   clear hr hc hb hnb hD hDD
   go_enter Tryd.func66, Tryd.ntmps66
   go_wp2_with (first | (go_at_call 67; refine HG.out.mono ?_; rintro e w1 ⟨rfl, hb1⟩; have HB1 := Aside0.mk hb1; have hn1 := blk_below HN.out hb1; have hc1 := (blk_cell hn1 0).trans rfl; have hf1 := blk_frozen hn1 0; have HN1 := Aside0.mk hn1; clear hb1 hn1))
   go_ret
   exact ⟨rfl, blk_put HN1.out 0 _ rfl, (Kept.of_below HB1.out).set_ 0 _⟩
/-- take, with the closure of Fixed8. Q: what the closure leaves. -/
theorem take_8 {w : World} {B g : Nat} {A : Option Addr} {c : Nat} {b : List Int} {p : Int} {v : Value} {ends : List Int} (h : IsC w B g A c b p v ends) (hn : 0 < ends.length) (hi : Inv b.length p ends) (nb : Nat)
   (s : Int) (hs0 : 0 ≤ s) (hs : s ≤ last ends - p) (hbl : b.length ≤ 140737488359000) (Q : World → Prop)
   (HC : ∀ n, Calls Tryd.prog 66 #[.slice (if (last ends).toNat = p.toNat then A else Option.map (fun x => x.add p.toNat) A) ((last ends).toNat - p.toNat) ((last ends).toNat - p.toNat), .pointer (some ⟨nb, 0, none⟩)] (w.drewN n)
    fun e w' => e = .returned (.int .i64 s) ∧ IsC w' B g A c b p v ends ∧ Q w') :
   Calls Tryd.prog 63 #[.pointer (some ⟨g, 0, none⟩), .func (.func 66) #[] #[.pointer (some ⟨nb, 0, none⟩)]] w
    (TakeP Q B g A c b p v ends s) := by
 have hc0 : w.cell? ⟨g, 0, none⟩ = some (.slice A b.length c) := (blk_cell h.blk 0).trans rfl
 have hc1 : w.cell? ⟨g, 1, none⟩ = some (.int .i64 p) := (blk_cell h.blk 1).trans rfl
 have HE := Aside0.mk (fun n => end_c (h.drewN n) hn)
 have HO := Aside0.mk (ok_yes h hn)
 have hl := hi.2.1 _ (last_mem hn)
 have p0 := hi.1
 obtain ⟨L, hL⟩ : ∃ L, L = last ends := ⟨_, rfl⟩
 rw [← hL] at HE hl HC hs
 obtain ⟨l1, l2⟩ := hl
 have lc := h.lc
 clear h hn hL hi
 obtain ⟨p, rfl⟩ := Int.eq_ofNat_of_zero_le p0
 obtain ⟨L, rfl⟩ := Int.eq_ofNat_of_zero_le (show 0 ≤ L by omega)
 simp only [Int.toNat_natCast] at HC
 obtain ⟨A', hA'⟩ : ∃ A', (if L = p then A else Option.map (fun x => x.add p) A) = A' := ⟨_, rfl⟩
 rw [hA'] at HC
 have HCC := Aside0.mk HC
 have hLc : L ≤ c := by omega
 have hpL : p ≤ L := by omega
 clear HC l1
 by_cases hz : s = 0
 · subst hz
   clear hs0 hs
   go_enter Tryd.func63, Tryd.ntmps63
   go_wp2_with (first | (go_at_call 14; refine HO.out.mono ?_; rintro e w1 ⟨rfl, ⟨n1, rfl⟩⟩))
   go_region_held3 (fun w' => w'.cell? ⟨g, 0, none⟩ = some (.slice A b.length c) ∧ w'.cell? ⟨g, 1, none⟩ = some (.int .i64 (p : Int))) (first | exact ⟨hc0, hc1⟩ | exact ⟨(blk_cell H3.out.blk 0).trans rfl, (blk_cell H3.out.blk 1).trans rfl⟩ | go_keep) (first
    | (go_at_call 43; refine (HE.out _).mono ?_; rintro e w2 ⟨rfl, ⟨n2, rfl⟩⟩)
    | (go_at_call 66; refine (HCC.out _).mono ?_; rintro e w3 ⟨rfl, hC3, hQ3⟩; have H3 := Aside0.mk hC3; have Q3 := Aside0.mk hQ3; clear hC3 hQ3))
   all_goals
    go_wp2_with (first | (go_at_call 51; refine (fail_c H3.out).mono ?_; rintro e w4 ⟨rfl, hC4, hk4⟩; have H4 := Aside0.mk hC4; have K4 := Aside0.mk hk4; clear hC4 hk4))
    first
    | go_end0
    | (refine bodyPost_ret (results_none rfl _ _ _) rfl ?_)
    exact ⟨rfl, _, _, Q3.out, K4.out, .inr rfl, H4.out⟩
 · have hz1 : (s == 0) = false := beq_eq_false_iff_ne.2 hz
   have HZ := Aside0.mk (show nx (p : Int) ends s = ((p : Int) + s, ends) from if_neg hz)
   clear hz
   have hsum : (p : Int) + s ≤ 9223372036854775807 := by omega
   go_enter Tryd.func63, Tryd.ntmps63
   go_wp2_with (first | (go_at_call 14; refine HO.out.mono ?_; rintro e w1 ⟨rfl, ⟨n1, rfl⟩⟩))
   go_region_held3 (fun w' => w'.cell? ⟨g, 0, none⟩ = some (.slice A b.length c) ∧ w'.cell? ⟨g, 1, none⟩ = some (.int .i64 (p : Int))) (first | exact ⟨hc0, hc1⟩ | exact ⟨(blk_cell H3.out.blk 0).trans rfl, (blk_cell H3.out.blk 1).trans rfl⟩ | go_keep) (first
    | (go_at_call 43; refine (HE.out _).mono ?_; rintro e w2 ⟨rfl, ⟨n2, rfl⟩⟩)
    | (go_at_call 66; refine (HCC.out _).mono ?_; rintro e w3 ⟨rfl, hC3, hQ3⟩; have H3 := Aside0.mk hC3; have Q3 := Aside0.mk hQ3; clear hC3 hQ3))
   all_goals
    have hd1 : w3.cell? ⟨g, 1, none⟩ = some (.int .i64 (p : Int)) := (blk_cell H3.out.blk 1).trans rfl
    have hg1 := blk_frozen H3.out.blk 1
    go_wp2_with fail
    first
    | go_end0
    | (refine bodyPost_ret (results_none rfl _ _ _) rfl ?_)
    unfold TakeP
    rw [HZ.out]
    exact ⟨rfl, _, _, Q3.out, (Kept.refl _ g).set_ 1 _, .inl rfl, H3.out.set1 _⟩
/-- Fixed8. -/
theorem Fixed8_c {w : World} {B g : Nat} {A : Option Addr} {c : Nat} {b : List Int} {p : Int} {v : Value} {ends : List Int} (h : IsC w B g A c b p v ends) (hi : Inv b.length p ends) (hB : B ≤ w.heap.size) (hb : ∀ x ∈ b, 0 ≤ x ∧ x ≤ 255) (hbl : b.length ≤ 140737488359000) :
  Calls Tryd.prog 46 #[.pointer (some ⟨g, 0, none⟩)] w fun e w' => e = .returned (.int .u64 (fD 8 b p ends).1) ∧ Moved w B g A c b v (nx p ends (fD 8 b p ends).2).1 (nx p ends (fD 8 b p ends).2).2 w' := by
 have hf := fD_facts hi 8 (by omega)
 have hgl := blk_lt h.blk
 have hnw : (w.alloc (.cells #[.int .u64 0] 48 (0, 0))).heap[w.heap.size]? = some (.cells #[.int .u64 0] 48 (0, 0)) := blk_new w _
 have hkw : Kept w (w.alloc (.cells #[.int .u64 0] 48 (0, 0))) w.heap.size := Kept.of_below (below_alloc (Below.refl _ _) _)
 have hA : IsC (w.alloc (.cells #[.int .u64 0] 48 (0, 0))) B g A c b p v ends := h.below (below_alloc (Below.refl _ _) _)
 have hvo : v.ownBlock ≠ some w.heap.size := by
  obtain ⟨h0, inner, ho, hr⟩ := h.row
  intro he
  have := own_lt ho _ he
  omega
 have hT : Calls Tryd.prog 63 #[.pointer (some ⟨g, 0, none⟩), .func (.func 66) #[] #[.pointer (some ⟨w.heap.size, 0, none⟩)]] (w.alloc (.cells #[.int .u64 0] 48 (0, 0)))
    fun e w' => e = .returned (.tuple #[]) ∧ w'.heap[w.heap.size]? = some (.cells #[.int .u64 (fD 8 b p ends).1] 48 (0, 0)) ∧ Moved w B g A c b v (nx p ends (fD 8 b p ends).2).1 (nx p ends (fD 8 b p ends).2).2 w' := by
  by_cases hn : ends.length = 0
  · refine (take_no hA hn _).mono ?_
    rintro e w' ⟨rfl, ⟨n, rfl⟩⟩
    have hs0 : (fD 8 b p ends).2 = 0 := by
      have := hf.2.1
      have h1 := last_nil hn
      have h2 := inv_last hi
      have h3 := hf.1
      omega
    have hd0 := hf.2.2 hs0
    rw [hs0, hd0]
    have he : ends = [] := List.length_eq_zero_iff.1 hn
    subst he
    have hp : p = 0 := hi.2.2.2 rfl
    subst hp
    exact ⟨rfl, blk_drewN hnw n, v, (hA.drewN n), Fr.of_keep (Kept.of_below (pw_below_drewN (below_alloc (Below.refl _ _) _) n)) (.inl rfl)⟩
  · refine (take_8 hA (by omega) hi w.heap.size (fD 8 b p ends).2 hf.1 hf.2.1 hbl (fun w2 => w2.heap[w.heap.size]? = some (.cells #[.int .u64 (fD 8 b p ends).1] 48 (0, 0)) ∧ Kept w w2 w.heap.size) (fun n => ?_)).mono ?_
    · have hAn := hA.drewN n
      refine (clos_8 (l := seg b p ends) (seg_l hi) (seg_C hAn hi) (by rw [seg_l hi]; omega) (seg_bytes hb) (by have := seg_l hi; have := inv_last hi; omega) (blk_drewN hnw n)).mono ?_
      rintro e w2 ⟨rfl, h2, h3⟩
      exact ⟨rfl, hAn.keep h3 (by omega) hvo hB, h2, (Kept.of_below (pw_below_drewN (below_alloc (Below.refl _ _) _) n)).trans h3⟩
    · rintro e w' ⟨rfl, w2, v', ⟨h2, h3⟩, h4, h5, h6⟩
      refine ⟨rfl, h4.1.blk h2 (by omega) (by simp), v', h6, Fr.of_keep ⟨⟨Nat.le_trans h3.1.1 h4.1.1, fun i hi1 hi2 _ => ?_⟩, h4.2.1.trans h3.2.1, h4.2.2.1.trans h3.2.2.1, h4.2.2.2.trans h3.2.2.2⟩ h5⟩
      rw [h4.1.2 i (Nat.lt_of_lt_of_le hi1 h3.1.1) hi2 (by simp), h3.1.2 i hi1 (by omega) (by simp)]
 have HT := Aside0.mk hT
 obtain ⟨D, hD⟩ : ∃ D, D = fD 8 b p ends := ⟨_, rfl⟩
 rw [← hD] at HT ⊢
 clear hT hf hnw hkw hA hvo h hD
 go_enter Tryd.func46, Tryd.ntmps46
 go_wp2_with (first | (go_at_call 63; refine HT.out.mono ?_; rintro e w1 ⟨rfl, h1, h2⟩; have hc1 := (blk_cell h1 0).trans rfl; have H2 := Aside0.mk h2; clear h1 h2))
 go_ret
 exact ⟨rfl, H2.out⟩
end Go.Proofs.YthgddlibfboehaaDoor.Cur
end
section
namespace Go.Proofs.YthgddlibfboehaaDoor.Cur
open Go.RowKit Go.Proofs.YthgddlibfboehaaDoorW.PrintWords Go.Proofs.YthgddlibfboehaaDoorW.PrintLast Go.Proofs.YthgddlibfboehaaDoorW.PrintMore Go.Proofs.YthgddlibfboehaaDoor.Var
set_option maxHeartbeats 1000000
set_option maxRecDepth 100000
set_option linter.unusedSimpArgs false
section
variable {w : World} {B g : Nat} {A : Option Addr} {c : Nat} {b : List Int} {p : Int} {v : Value} {ends : List Int}
theorem vl_pos (hi : Inv b.length p ends) (hb : ∀ x ∈ b, 0 ≤ x ∧ x ≤ 255) (h : (vD b p ends).2 ≠ 0) : 0 < ends.length := by
 rcases Nat.eq_zero_or_pos ends.length with h0 | h0
 · have h1 := last_nil h0
   have h2 := inv_last hi
   have h3 := vD_facts hi hb
   omega
 · exact h0
theorem IsC.lmax (h : IsC w B g A c b p v ends) : b.length ≤ 9223372036854775807 := Kd.C_max h.rd
theorem Fr.drew {w' : World} {v' : Value} (h : Fr w w' g v v') (n : Nat) : Fr w (w'.drewN n) g v v' := h.trans (Fr.of_keep (Kept.of_below (pw_below_drewN (Below.refl _ _) n)) (.inl rfl))
theorem IsC.drawn {w' : World} (h : IsC w B g A c b p v ends) (hd : Drawn0 w w') : IsC w' B g A c b p v ends := by
 obtain ⟨n, rfl⟩ := hd
 exact h.drewN n
theorem Fr.drawn {w' w2 : World} {v' : Value} (h : Fr w w' g v v') (hd : Drawn0 w' w2) : Fr w w2 g v v' := by
 obtain ⟨n, rfl⟩ := hd
 exact h.drew n
theorem Moved.after {w1 w' : World} {v1 : Value} {p' : Int} {e' : List Int} (f : Fr w w1 g v v1) (h : Moved w1 B g A c b v1 p' e' w') : Moved w B g A c b v p' e' w' := by
 obtain ⟨v', h1, h2⟩ := h
 exact ⟨v', h1, f.trans h2⟩
theorem Fr.kept {w' w2 : World} {v' v2 : Value} (h : Fr w w' g v v') (k : Kept w' w2 g) (hv : v2 = v' ∨ v2 = .slice none 0 0) : Fr w w2 g v v2 := h.trans (Fr.of_keep k hv)
end
/-- long. -/
theorem long_c {w : World} {B g : Nat} {A : Option Addr} {c : Nat} {b : List Int} {p : Int} {v : Value} {ends : List Int} (h : IsC w B g A c b p v ends) (hi : Inv b.length p ends) (hB : B ≤ w.heap.size) (hb : ∀ x ∈ b, 0 ≤ x ∧ x ≤ 255) (hbl : b.length ≤ 140737488359000) :
   Calls Tryd.prog 74 #[.pointer (some ⟨g, 0, none⟩)] w fun e w' => e = .returned (.tuple #[.int .i64 (if (lg b p ends).1 < 0 then 0 else (lg b p ends).1), .bool (decide (0 ≤ (lg b p ends).1))]) ∧ Moved w B g A c b v (lg b p ends).2.1 (lg b p ends).2.2 w' := by
 have HV := Aside0.mk (Varint_c h hi hB hb hbl)
 have hv := vD_facts hi hb
 have hl := inv_last hi
 have hp := vl_pos hi hb
 unfold lg
 by_cases h0 : (vD b p ends).2 = 0
 · rw [if_pos h0]
   unfold nx at HV
   rw [if_pos h0] at HV
   clear hi hb hbl h hv hl hp hB h0
   go_enter Tryd.func74, Tryd.ntmps74
   go_wp2_with (first
     | (go_at_call 47; refine HV.out.mono ?_; rintro e w1 ⟨rfl, v1, h1, f1⟩; have H1 := Aside0.mk h1; have F1 := Aside0.mk f1; clear h1 f1)
     | (go_at_call 14; refine (ok_no H1.out rfl).mono ?_; rintro e w2 ⟨rfl, ⟨n2, rfl⟩⟩))
   go_ret2
   exact ⟨rfl, v1, H1.out.drewN _, F1.out.drew _⟩
 · rw [if_neg h0]
   unfold nx at HV
   rw [if_neg h0] at HV
   have hn := hp h0
   obtain ⟨D, hD⟩ : ∃ D, D = vD b p ends := ⟨_, rfl⟩
   rw [← hD] at HV hv ⊢
   obtain ⟨L, hL⟩ : ∃ L, L = last ends := ⟨_, rfl⟩
   rw [← hL] at hv hl ⊢
   obtain ⟨q, hq⟩ : ∃ q, q = p + D.2 := ⟨_, rfl⟩
   rw [← hq] at HV ⊢
   have hq0 : 0 ≤ L - q ∧ L - q ≤ 9223372036854775807 := by have := h.lmax; omega
   have HN := Aside0.mk hn
   have HL := Aside0.mk hL
   have hd0 := hv.1
   have hd1 := hv.2.1
   clear hi hb hbl h hv hl hp hB h0 hD hq hn hL
   have hw1 : IntKind.i64.wrap (L - q) = L - q := by rw [IntKind.wrap_i64]; omega
   have hw2 : IntKind.u64.wrap (L - q) = L - q := by rw [IntKind.wrap_u64]; omega
   obtain ⟨d, ds⟩ := D
   simp only at HV hd0 hd1 ⊢
   by_cases hgt : d > L - q
   · rw [if_pos hgt]
     go_enter Tryd.func74, Tryd.ntmps74
     go_wp2_with (first
      | (go_at_call 47; refine HV.out.mono ?_; rintro e w1 ⟨rfl, v1, h1, f1⟩; have H1 := Aside0.mk h1; have F1 := Aside0.mk f1; clear h1 f1)
      | (go_at_call 14; refine (ok_yes H1.out HN.out).mono ?_; rintro e w2 ⟨rfl, hd2⟩; have H2 := Aside0.mk (H1.out.drawn hd2); have F2 := Aside0.mk (F1.out.drawn hd2); have hc1 : w2.cell? ⟨g, 1, none⟩ = some (.int .i64 q) := (blk_cell H2.out.blk 1).trans rfl; clear hd2))
     have HE := Aside0.mk (fun n => end_c (H2.out.drewN n) HN.out)
     rw [← HL.out] at HE
     go_quiet ((first | (go_at_call 43; exact quiet (HE.out _))))
     go_wp2_with (first
      | (go_at_call 51; refine (fail_c (H2.out.drewN _)).mono ?_; rintro e w4 ⟨rfl, h4, k4⟩; have H4 := Aside0.mk h4; have K4 := Aside0.mk k4; clear h4 k4))
     go_ret2
     exact ⟨rfl, _, H4.out, (F2.out.drew _).kept K4.out (.inr rfl)⟩
   · rw [if_neg hgt]
     have hw3 : IntKind.i64.wrap d = d := by rw [IntKind.wrap_i64]; omega
     rw [if_neg (show ¬ d < 0 by omega), decide_eq_true hd0]
     go_enter Tryd.func74, Tryd.ntmps74
     go_wp2_with (first
      | (go_at_call 47; refine HV.out.mono ?_; rintro e w1 ⟨rfl, v1, h1, f1⟩; have H1 := Aside0.mk h1; have F1 := Aside0.mk f1; clear h1 f1)
      | (go_at_call 14; refine (ok_yes H1.out HN.out).mono ?_; rintro e w2 ⟨rfl, hd2⟩; have H2 := Aside0.mk (H1.out.drawn hd2); have F2 := Aside0.mk (F1.out.drawn hd2); have hc1 : w2.cell? ⟨g, 1, none⟩ = some (.int .i64 q) := (blk_cell H2.out.blk 1).trans rfl; clear hd2))
     have HE := Aside0.mk (fun n => end_c (H2.out.drewN n) HN.out)
     rw [← HL.out] at HE
     go_quiet ((first | (go_at_call 43; exact quiet (HE.out _))))
     go_wp2_with fail
     go_ret2
     exact ⟨rfl, _, H2.out.drewN _, F2.out.drew _⟩
/-- Text. -/
theorem Text_c {w : World} {B g : Nat} {A : Option Addr} {c : Nat} {b : List Int} {p : Int} {v : Value} {ends : List Int} (h : IsC w B g A c b p v ends) (hi : Inv b.length p ends) (hB : B ≤ w.heap.size) (hb : ∀ x ∈ b, 0 ≤ x ∧ x ≤ 255) (hbl : b.length ≤ 140737488359000) :
   Calls Tryd.prog 54 #[.pointer (some ⟨g, 0, none⟩)] w fun e w' => e = .returned (.string (strOfNums (txt b p ends).1)) ∧ Moved w B g A c b v (txt b p ends).2.1 (txt b p ends).2.2 w' := by
 have HL := Aside0.mk (long_c h hi hB hb hbl)
 obtain ⟨hlg, hil⟩ := lg_facts hi hb
 unfold txt
 by_cases h0 : (lg b p ends).1 < 0
 · rw [if_pos h0]
   rcases hlg with hlg | hlg
   · rw [hlg] at HL
     rw [if_pos (by decide), decide_eq_false (by decide)] at HL
     clear h hi hB hb hbl hil hlg h0
     go_enter Tryd.func54, Tryd.ntmps54
     go_wp2_with (first | (go_at_call 74; refine HL.out.mono ?_; rintro e w1 ⟨rfl, h1⟩; have H1 := Aside0.mk h1; clear h1))
     go_ret
     exact ⟨rfl, H1.out⟩
   · omega
 · rw [if_neg h0]
   rw [if_neg h0, decide_eq_true (by omega)] at HL
   rcases hlg with hlg | hlg
   · rw [hlg] at h0
     exact absurd (show ((-1 : Int) < 0) by decide) h0
   · obtain ⟨hn, hd0, hq0, hd1, he⟩ := hlg
     have hil2 := inv_last hil
     rw [he] at HL hil2
     have lc := h.lc
     have lm := h.lmax
     obtain ⟨D, hD⟩ : ∃ D, D = lg b p ends := ⟨_, rfl⟩
     rw [← hD] at HL hd0 hq0 hd1 hil2 ⊢
     obtain ⟨d, q, e⟩ := D
     simp only at HL hd0 hq0 hd1 hil2 ⊢
     have hsum : q + d ≤ b.length := by omega
     obtain ⟨i8, hi8, hs8⟩ := Option.map_eq_some_iff.1 M.elem8
     have hsl := cut_mid (P := Tryd.prog) 45 5 .i64 .i64 Tryd.underlying45 hi8 1 hs8 A b.length c q (q + d) (by omega) (by omega) hsum lc
     have hq1 : 0 ≤ q := by omega
     have hlen : ((b.take (q + d).toNat).drop q.toNat).length = (q + d).toNat - q.toNat := by rw [List.length_drop, List.length_take]; omega
     have hmid : ∀ (W : World) (v : Value) (p : Int), IsC W B g A c b p v ends → (convert 45 9 (.slice (if c = q.toNat then A else A.map (·.add (q.toNat * 1))) ((q + d).toNat - q.toNat) (c - q.toNat))).run Tryd.prog W = .ok (.string (strOfNums ((b.take (q + d).toNat).drop q.toNat))) W := fun W v p hW => by
      have h1 := Kd.C_mid (c := c) (lo := q.toNat) (hi := (q + d).toNat) hW.rd (by omega) (by omega) lc
      rw [hlen] at h1
      exact Kd.C_string Tryd.underlying45 Tryd.underlying5 Tryd.underlying9 h1
     obtain ⟨T, hT⟩ : ∃ T, T = strOfNums ((b.take (q + d).toNat).drop q.toNat) := ⟨_, rfl⟩
     simp only [← hT] at hmid ⊢
     obtain ⟨S2, hS2⟩ : ∃ S2 : Value, S2 = (.slice (if c = q.toNat then A else A.map (·.add (q.toNat * 1))) ((q + d).toNat - q.toNat) (c - q.toNat)) := ⟨_, rfl⟩
     simp only [← hS2] at hmid hsl
     have HM := Aside0.mk hmid
     have hw : IntKind.i64.wrap (q + d) = q + d := by rw [IntKind.wrap_i64]; omega
     clear hil hD he h0 hn hi hB hb hbl hT hS2 hlen hmid h lc lm hil2 hd0 hd1 hq0 hsum hi8 hs8 hq1
     go_enter Tryd.func54, Tryd.ntmps54
     go_wp2_with (first | (go_at_call 74; refine HL.out.mono ?_; rintro e w1 ⟨rfl, v1, h1, f1⟩; have H1 := Aside0.mk h1; have F1 := Aside0.mk f1; have hc1 : w1.cell? ⟨g, 1, none⟩ = some (.int .i64 q) := (blk_cell h1.blk 1).trans rfl; have hg1 := blk_frozen h1.blk 1; clear h1 f1))
     have h4 := H1.out.set1 (q + d)
     have k4 := (Kept.refl w1 g).set_ 1 (.int .i64 (q + d))
     obtain ⟨W4, hW4⟩ : ∃ W, W = w1.setCell ⟨g, 1, none⟩ (.int .i64 (q + d)) := ⟨_, rfl⟩
     rw [← hW4] at h4 k4 ⊢
     clear hW4 hc1 hg1
     have hd0 : W4.cell? ⟨g, 0, none⟩ = some (.slice A b.length c) := (blk_cell h4.blk 0).trans rfl
     have hd1 : W4.cell? ⟨g, 1, none⟩ = some (.int .i64 (q + d)) := (blk_cell h4.blk 1).trans rfl
     have hcv := fun n => HM.out _ _ _ (h4.drewN n)
     have H4 := Aside0.mk h4
     have K4 := Aside0.mk k4
     clear h4 k4
     go_quiet (fail)
     go_wp2_with fail
     go_ret
     exact ⟨rfl, _, H4.out.drewN _, (F1.out.kept K4.out (.inl rfl)).drew _⟩
theorem spl_no {u : Int} (h : ¬ (spl u).2.2 = true) : spl u = (0, 0, false) := by
 unfold spl at h ⊢
 split at h
 · exact absurd rfl h
 · rw [if_neg (by assumption)]
theorem split_c {w : World} (u : Int) (h0 : 0 ≤ u) (h1 : u ≤ 18446744073709551615) : Calls Tryd.prog 50 #[.int .u64 u] w fun e w' => e = .returned (.tuple #[.int .i64 (spl u).1, .int .i64 (spl u).2.1, .bool (spl u).2.2]) ∧ Drawn0 w w' :=
 PLib.tag_Split.calls 1 u _ _ _ w (VLib.split_eq 0 u h0 h1)
/-- Tag. -/
theorem Tag_c {w : World} {B g : Nat} {A : Option Addr} {c : Nat} {b : List Int} {p : Int} {v : Value} {ends : List Int} (h : IsC w B g A c b p v ends) (hi : Inv b.length p ends) (hB : B ≤ w.heap.size) (hb : ∀ x ∈ b, 0 ≤ x ∧ x ≤ 255) (hbl : b.length ≤ 140737488359000) :
   Calls Tryd.prog 39 #[.pointer (some ⟨g, 0, none⟩)] w fun e w' => e = .returned (.tuple #[.int .i64 (tg b p ends).1.1, .int .i64 (tg b p ends).1.2]) ∧ Moved w B g A c b v (tg b p ends).2.1 (tg b p ends).2.2 w' := by
 have HV := Aside0.mk (Varint_c h hi hB hb hbl)
 have hv := vD_facts hi hb
 have hp := vl_pos hi hb
 unfold tg
 by_cases h0 : (vD b p ends).2 = 0
 · rw [if_pos h0]
   unfold nx at HV
   rw [if_pos h0] at HV
   clear hi hb hbl h hv hp hB h0
   go_enter Tryd.func39, Tryd.ntmps39
   go_wp2_with (first
     | (go_at_call 47; refine HV.out.mono ?_; rintro e w1 ⟨rfl, v1, h1, f1⟩; have H1 := Aside0.mk h1; have F1 := Aside0.mk f1; clear h1 f1)
     | (go_at_call 14; refine (ok_no H1.out rfl).mono ?_; rintro e w2 ⟨rfl, ⟨n2, rfl⟩⟩))
   go_ret2
   exact ⟨rfl, v1, H1.out.drewN _, F1.out.drew _⟩
 · rw [if_neg h0]
   unfold nx at HV
   rw [if_neg h0] at HV
   have HN := Aside0.mk (hp h0)
   obtain ⟨q, hq⟩ : ∃ q, q = p + (vD b p ends).2 := ⟨_, rfl⟩
   rw [← hq] at HV ⊢
   obtain ⟨u, hu⟩ : ∃ u, u = (vD b p ends).1 := ⟨_, rfl⟩
   rw [← hu] at HV hv ⊢
   have HS := Aside0.mk (fun w => split_c (w := w) u hv.1 hv.2.1)
   by_cases hs : (spl u).2.2 = true
   · rw [if_pos hs]
     obtain ⟨S, hS⟩ : ∃ S, S = spl u := ⟨_, rfl⟩
     rw [← hS] at HS hs ⊢
     obtain ⟨s1, s2, s3⟩ := S
     simp only at HS hs ⊢
     subst hs
     clear hi hb hbl h hv hp hB h0 hq hu hS
     go_enter Tryd.func39, Tryd.ntmps39
     go_wp2_with (first
      | (go_at_call 47; refine HV.out.mono ?_; rintro e w1 ⟨rfl, v1, h1, f1⟩; have H1 := Aside0.mk h1; have F1 := Aside0.mk f1; clear h1 f1)
      | (go_at_call 14; refine (ok_yes H1.out HN.out).mono ?_; rintro e w2 ⟨rfl, hd2⟩; have H2 := Aside0.mk (H1.out.drawn hd2); have F2 := Aside0.mk (F1.out.drawn hd2); clear hd2)
      | (go_at_call 50; refine (HS.out _).mono ?_; rintro e w3 ⟨rfl, hd3⟩; have H3 := Aside0.mk (H2.out.drawn hd3); have F3 := Aside0.mk (F2.out.drawn hd3); clear hd3))
     go_ret2
     exact ⟨rfl, _, H3.out, F3.out⟩
   · rw [if_neg hs]
     rw [spl_no hs] at HS
     clear hi hb hbl h hv hp hB h0 hq hu hs
     go_enter Tryd.func39, Tryd.ntmps39
     go_wp2_with (first
      | (go_at_call 47; refine HV.out.mono ?_; rintro e w1 ⟨rfl, v1, h1, f1⟩; have H1 := Aside0.mk h1; have F1 := Aside0.mk f1; clear h1 f1)
      | (go_at_call 14; refine (ok_yes H1.out HN.out).mono ?_; rintro e w2 ⟨rfl, hd2⟩; have H2 := Aside0.mk (H1.out.drawn hd2); have F2 := Aside0.mk (F1.out.drawn hd2); clear hd2)
      | (go_at_call 50; refine (HS.out _).mono ?_; rintro e w3 ⟨rfl, hd3⟩; have H3 := Aside0.mk (H2.out.drawn hd3); have F3 := Aside0.mk (F2.out.drawn hd3); clear hd3)
      | (go_at_call 51; refine (fail_c H3.out).mono ?_; rintro e w4 ⟨rfl, h4, k4⟩; have H4 := Aside0.mk h4; have K4 := Aside0.mk k4; clear h4 k4))
     go_ret2
     exact ⟨rfl, _, H4.out, F3.out.kept K4.out (.inr rfl)⟩
theorem info3 : (Tryd.prog.info? 3).map (fun i => (i.zero, i.size, i.bytes)) = some (some (.int .i64 0), 1, 8) := by kernel_rfl
/-- Behind an append to the ends, ahead of the store. -/
structure AppP (w w5 : World) (B g : Nat) (A : Option Addr) (c : Nat) (b : List Int) (p : Int) (v v2 : Value) (ends2 : List Int) : Prop where
 blk : w5.heap[g]? = some (.cells #[.slice A b.length c, .int .i64 p, v] 75 (0, 0))
 row : Kd.R (Kd.int .i64) 3 w5 B (fun k => k ≠ g) v2 ends2
 rd : Kd.C (Kd.int .u8) w5 A b.length b
 fr : Fr w w5 g v v2
theorem C_move {w w' : World} {A : Option Addr} {n : Nat} {xs : List Int} (h : Kd.C (Kd.int .u8) w A n xs) (hm : ∀ ad, A = some ad → 0 < n → w'.heap[ad.block]? = w.heap[ad.block]?) : Kd.C (Kd.int .u8) w' A n xs := by
 refine ⟨h.1, h.2.1, fun hn => ?_⟩
 obtain ⟨ad, ha, hc⟩ := h.2.2 hn
 refine ⟨ad, ha, fun j p hj => ?_⟩
 obtain ⟨cs, h1, h2, h3⟩ := hc j p hj
 exact ⟨cs, h1, h2, fun i u hu => by
  have h4 := h3 i u hu
  rw [World.cell?_of_block (show w'.heap[(ad.add (j * (Kd.int .u8).sz + i)).block]? = w.heap[(ad.add (j * (Kd.int .u8).sz + i)).block]? by rw [show (ad.add (j * (Kd.int .u8).sz + i)).block = ad.block by unfold Addr.add; split <;> rfl]; exact hm ad ha hn)]
  exact h4⟩
section
variable {ops : Array Oper} {o : Oper} {a : Act} {Q : Exit → Act → World → Prop} {K : Act → World → Prop}
theorem app_step {w W : World} {B g : Nat} {A : Option Addr} {c : Nat} {b : List Int} {p x : Int} {v : Value} {ends : List Int} (H : IsC w B g A c b p v ends) (hbw : Below w.heap.size w W) (hB : B ≤ w.heap.size) (hl : ends.length + 1 ≤ 1000000000000)
   (hw : Region.wanted o (yielded ops a.tmps) = true) (s y : Operand) (ho : o.op = .call { callee := .builtin .append, args := #[s, y], argTypes := #[31, 31] })
   (hs : a.eval s = v) (hy : a.eval y = .slice (some ⟨W.heap.size, 0, none⟩) 1 1)
   {WW : World} (hWW : WW = W.alloc (.cells #[.int .i64 x] 3))
   (h : ∀ v2 w5, AppP w w5 B g A c b p v v2 (ends ++ [x]) → K (a.put o.dst v2) w5) :
   if Region.wanted o (yielded ops a.tmps) = true then Oper.wp Tryd.prog o a WW K Q else K (a.put o.dst undef) WW := by
 subst hWW
 have hg := blk_lt H.blk
 have hsz := hbw.size
 refine Kd.R_append_step (Kd.int .i64) (w0 := W) B hw s y 31 3 (.int .i64 0) 8 ho Tryd.underlying31 info3 rfl (by decide) (by omega) v ends x [.int .i64 x] (fun k => k ≠ g) (fun _ => False) hs hy rfl (fun _ hk => hk.elim) (fun k hk => by omega) (Kd.R_below H.row hbw) (Below.refl _ _) (by omega) (by omega) ?_
 intro v2 w5 hr hb hgw hat
 have hbw' : ∀ i, i < w.heap.size → some i ≠ v.ownBlock → w5.heap[i]? = w.heap[i]? := fun i hi hne => (hgw.block i (by omega) hne).trans (hbw.block i hi)
 have hgo : some g ≠ v.ownBlock := fun he => H.row.1 g he.symm rfl
 refine h v2 w5 ⟨(hbw' g hg hgo).trans H.blk, hr, C_move H.rd (fun ad h1 h2 => hbw' _ ?_ ?_), ⟨⟨Nat.le_trans hsz hgw.size, fun i h1 h2 h3 => hbw' i h1 h3⟩, ⟨hgw.os.trans hbw.os, hgw.tape.trans hbw.tape, hgw.output.trans hbw.output⟩, ?_⟩⟩
 · have := H.ap ad h1 h2; omega
 · intro he
   have h3 := H.ap ad h1 h2
   obtain ⟨_, inner, ho2, _⟩ := H.row
   have := own_base ho2 ad.block he.symm
   omega
 · rcases hat with e | ⟨k, e, hk⟩
   · exact .inr (.inl e)
   · exact .inr (.inr ⟨k, e, by omega⟩)
end
theorem set2 {w w5 : World} {B g : Nat} {A : Option Addr} {c : Nat} {b : List Int} {p : Int} {v v2 : Value} {ends2 : List Int} (P : AppP w w5 B g A c b p v v2 ends2) (lc : b.length ≤ c) (ge : B ≤ g) (ap : ∀ ad, A = some ad → 0 < b.length → ad.block < B) : Moved w B g A c b v p ends2 (w5.setCell ⟨g, 2, none⟩ v2) := by
 have hk : Kept w5 (w5.setCell ⟨g, 2, none⟩ v2) g := (Kept.refl w5 g).set_ 2 v2
 exact ⟨v2, ⟨blk_put P.blk 2 _ rfl, Kd.R_keep P.row hk.1 (fun _ hh => hh), Kd.C_keep (d := 0) P.rd hk.1 (fun ad h1 h2 => by have := ap ad h1 h2; omega), lc, ge, ap⟩, P.fr.kept hk (.inl rfl)⟩
/-- Open. -/
theorem Open_c {w : World} {B g : Nat} {A : Option Addr} {c : Nat} {b : List Int} {p : Int} {v : Value} {ends : List Int} (h : IsC w B g A c b p v ends) (hi : Inv b.length p ends) (hB : B ≤ w.heap.size) (hb : ∀ x ∈ b, 0 ≤ x ∧ x ≤ 255) (hbl : b.length ≤ 140737488359000) (hnl : ends.length + 1 ≤ 1000000000000) :
   Calls Tryd.prog 79 #[.pointer (some ⟨g, 0, none⟩)] w fun e w' => e = .returned (.bool (op b p ends).1) ∧ Moved w B g A c b v (op b p ends).2.1 (op b p ends).2.2 w' := by
 have HL := Aside0.mk (long_c h hi hB hb hbl)
 obtain ⟨hlg, hil⟩ := lg_facts hi hb
 unfold op
 by_cases h0 : (lg b p ends).1 < 0
 · rw [if_pos h0]
   rcases hlg with hlg | hlg
   · rw [hlg] at HL
     rw [if_pos (by decide), decide_eq_false (by decide)] at HL
     clear h hi hB hb hbl hil hlg h0
     go_enter Tryd.func79, Tryd.ntmps79
     go_wp2_with (first | (go_at_call 74; refine HL.out.mono ?_; rintro e w1 ⟨rfl, h1⟩; have H1 := Aside0.mk h1; clear h1))
     go_ret
     exact ⟨rfl, H1.out⟩
   · omega
 · rw [if_neg h0]
   rw [if_neg h0, decide_eq_true (by omega)] at HL
   rcases hlg with hlg | hlg
   · rw [hlg] at h0
     exact absurd (show ((-1 : Int) < 0) by decide) h0
   · obtain ⟨hn, hd0, hq0, hd1, he⟩ := hlg
     have hil2 := inv_last hil
     rw [he] at HL hil2
     have lm := h.lmax
     obtain ⟨D, hD⟩ : ∃ D, D = lg b p ends := ⟨_, rfl⟩
     rw [← hD] at HL hd0 hq0 hd1 hil2 ⊢
     obtain ⟨d, q, e⟩ := D
     simp only at HL hd0 hq0 hd1 hil2 ⊢
     have hw : IntKind.i64.wrap (q + d) = q + d := by rw [IntKind.wrap_i64]; omega
     have HB := Aside0.mk hB
     have HNL := Aside0.mk hnl
     clear hil hD he h0 hn hi hB hb hbl h lm hil2 hd0 hd1 hq0 hnl
     go_enter Tryd.func79, Tryd.ntmps79
     go_wp2_with (first | (go_at_call 74; refine HL.out.mono ?_; rintro e w1 ⟨rfl, v1, h1, f1⟩; have H1 := Aside0.mk h1; have F1 := Aside0.mk f1; have hc1 : w1.cell? ⟨g, 1, none⟩ = some (.int .i64 q) := (blk_cell h1.blk 1).trans rfl; have hc2 : w1.cell? ⟨g, 2, none⟩ = some v1 := (blk_cell h1.blk 2).trans rfl; clear h1 f1))
     have HB1 := Aside0.mk (Nat.le_trans HB.out F1.out.1.1)
     obtain ⟨A1, c1, rfl⟩ := Kd.R_slice H1.out.row
     refine start_ (n := 16) (S := fun w' => w'.cell? ⟨g, 1, none⟩ = some (.int .i64 q) ∧ w'.cell? ⟨g, 2, none⟩ = some (.slice A1 ends.length c1)) (ds := [15]) #[false, false, false, false, false, false, false, false, false, false, false, false, false, false, false, false] (by kernel_rfl) rfl rfl ⟨hc1, hc2⟩ (fun hHeld => ?_)
     refine pure_ (i := 0) (N := some 11) (v := ?_) (a' := ?_) #[true, false, false, false, false, false, false, false, false, false, false, false, false, false, false, false] rfl rfl (by kernel_rfl) (fun _ _ _ h => h) (Or.inl ⟨by rfl, ?_⟩) ?_ ?_
     rotate_left
     · intro w'
       go_simp
       with_reducible rfl
     rotate_left
     · simp only [zs]
       rfl
     refine pure_ (i := 1) (N := some 12) (v := ?_) (a' := ?_) #[true, true, false, false, false, false, false, false, false, false, false, false, false, false, false, false] rfl rfl (by kernel_rfl) (fun _ _ _ h => h) (Or.inl ⟨by rfl, ?_⟩) ?_ ?_
     rotate_left
     · intro w'
       go_simp
       with_reducible rfl
     rotate_left
     · simp only [zs]
       rfl
     refine pure_ (i := 2) (N := some 13) (v := ?_) (a' := ?_) #[true, true, true, false, false, false, false, false, false, false, false, false, false, false, false, false] rfl rfl (by kernel_rfl) (fun _ _ _ h => h) (Or.inl ⟨by rfl, ?_⟩) ?_ ?_
     rotate_left
     · intro w'
       go_simp
       with_reducible rfl
     rotate_left
     · simp only [zs]
       rfl
     refine pure_ (i := 3) (N := some 14) (v := ?_) (a' := ?_) #[true, true, true, true, false, false, false, false, false, false, false, false, false, false, false, false] rfl rfl (by kernel_rfl) (fun _ _ _ h => h) (Or.inl ⟨by rfl, ?_⟩) ?_ ?_
     rotate_left
     · intro w'
       go_simp
       with_reducible rfl
     rotate_left
     · simp only [zs]
       rfl
     refine pure_ (i := 5) (N := some 16) (v := ?_) (a' := ?_) #[true, true, true, true, false, true, false, false, false, false, false, false, false, false, false, false] rfl rfl (by kernel_rfl) (fun _ _ _ h => h) (Or.inl ⟨by rfl, ?_⟩) ?_ ?_
     rotate_left
     · intro w'
       go_simp
       with_reducible rfl
     rotate_left
     · simp only [zs]
       rfl
     refine pure_ (i := 6) (N := some 17) (v := ?_) (a' := ?_) #[true, true, true, true, false, true, true, false, false, false, false, false, false, false, false, false] rfl rfl (by kernel_rfl) (fun _ _ _ h => h) (Or.inl ⟨by rfl, ?_⟩) ?_ ?_
     rotate_left
     · intro w'
       go_simp
       with_reducible rfl
     rotate_left
     · simp only [zs]
       rfl
     refine pure_ (i := 7) (N := some 18) (v := ?_) (a' := ?_) #[true, true, true, true, false, true, true, true, false, false, false, false, false, false, false, false] rfl rfl (by kernel_rfl) (fun _ _ _ h => h) (Or.inl ⟨by rfl, ?_⟩) ?_ ?_
     rotate_left
     · intro w'
       go_simp
       with_reducible rfl
     rotate_left
     · simp only [zs]
       rfl
     refine pure_ (i := 9) (N := some 20) (v := ?_) (a' := ?_) #[true, true, true, true, false, true, true, true, false, true, false, false, false, false, false, false] rfl rfl (by kernel_rfl) (fun _ _ _ h => h) (Or.inl ⟨by rfl, ?_⟩) ?_ ?_
     rotate_left
     · intro w'
       go_simp
       with_reducible rfl
     rotate_left
     · simp only [zs]
       rfl
     refine take_ (i := 4) (N := some 15) (v := ?_) (a' := ?_) #[true, true, true, true, true, true, true, true, false, true, false, false, false, false, false, false] rfl rfl (by kernel_rfl) (fun _ _ _ h => h) (Or.inl ⟨by rfl, ?_⟩) hHeld ?_ ?_
     rotate_left
     · rintro w' ⟨s0, s1⟩
       go_simp
       with_reducible rfl
     rotate_left
     · simp only [zs]
       rfl
     refine take_ (i := 8) (N := some 19) (v := ?_) (a' := ?_) #[true, true, true, true, true, true, true, true, true, true, false, false, false, false, false, false] rfl rfl (by kernel_rfl) (fun _ _ _ h => h) (Or.inl ⟨by rfl, ?_⟩) hHeld ?_ ?_
     rotate_left
     · rintro w' ⟨s0, s1⟩
       go_simp
       with_reducible rfl
     rotate_left
     · simp only [zs]
       rfl
     refine pure_ (i := 10) (N := some 21) (v := ?_) (a' := ?_) #[true, true, true, true, true, true, true, true, true, true, true, false, false, false, false, false] rfl rfl (by kernel_rfl) (fun _ _ _ h => h) (Or.inl ⟨by rfl, ?_⟩) ?_ ?_
     rotate_left
     · intro w'
       go_simp
       with_reducible rfl
     rotate_left
     · simp only [zs]
       rfl
     refine one_ (i := 11) (N := some 22) #[true, true, true, true, true, true, true, true, true, true, true, true, false, false, false, false] rfl rfl (by kernel_rfl) (by decide) (fun K hK => ?_)
     refine value_ (w1 := ?_) (v := ?_) (by rfl) rfl ?_ ?_
     rotate_left 2
     · go_simp
       constructor
       · rfl
       · rfl
     refine hK.out _ _ ⟨(by go_keep), (by go_keep)⟩ (fun hHeld => ?_)
     clear hK K
     refine norm_ (a' := ?_) ?_ ?_
     rotate_left
     · show Act.put _ (some 22) _ = _
       simp only [zs]
       rfl
     refine one_ (i := 12) (N := some 23) #[true, true, true, true, true, true, true, true, true, true, true, true, true, false, false, false] rfl rfl (by kernel_rfl) (by decide) (fun K hK => ?_)
     refine app_step (x := q + d) (W := w1.drew) H1.out (below_drew (Below.refl _ _)) HB1.out HNL.out ?hw (.tmp 15) (.tmp 22) ?ho ?hs ?hy ?hWW ?hk
     · rfl
     · rfl
     · rfl
     · rfl
     · rfl
     intro v2 w5 hp5
     obtain ⟨A2, c2, rfl⟩ := Kd.R_slice hp5.row
     have P5 := Aside0.mk hp5
     have hg5 := blk_frozen hp5.blk 2
     have hd1 : w5.cell? ⟨g, 1, none⟩ = some (.int .i64 q) := (blk_cell hp5.blk 1).trans rfl
     have hd2 : w5.cell? ⟨g, 2, none⟩ = some (.slice A1 ends.length c1) := (blk_cell hp5.blk 2).trans rfl
     clear hp5
     refine hK.out _ _ ⟨hd1, hd2⟩ (fun hHeld => ?_)
     clear hK K
     refine norm_ (a' := ?_) ?_ ?_
     rotate_left
     · show Act.put _ (some 23) _ = _
       simp only [zs]
       rfl
     refine pure_ (i := 13) (N := some 24) (v := ?_) (a' := ?_) #[true, true, true, true, true, true, true, true, true, true, true, true, true, true, false, false] rfl rfl (by kernel_rfl) (fun _ _ _ h => h) (Or.inl ⟨by rfl, ?_⟩) ?_ ?_
     rotate_left
     · intro w'
       go_simp
       with_reducible rfl
     rotate_left
     · simp only [zs]
       rfl
     refine pure_ (i := 14) (N := some 25) (v := ?_) (a' := ?_) #[true, true, true, true, true, true, true, true, true, true, true, true, true, true, true, false] rfl rfl (by kernel_rfl) (fun _ _ _ h => h) (Or.inl ⟨by rfl, ?_⟩) ?_ ?_
     rotate_left
     · intro w'
       go_simp
       with_reducible rfl
     rotate_left
     · simp only [zs]
       rfl
     refine last_ (i := 15) (N := none) #[true, true, true, true, true, true, true, true, true, true, true, true, true, true, true, true] rfl rfl (by kernel_rfl) (by decide) (fun K hK => ?_)
     refine skip_ (w1 := ?_) (by rfl) rfl ?_ ?_
     rotate_left
     · go_simp
       rfl
     refine hK.out _ _ ?_
     clear hK K
     refine done_ (by kernel_rfl) ?_
     go_wp2_with fail
     go_ret
     have hm := set2 P5.out H1.out.lc H1.out.ge H1.out.ap
     rw [show (ends ++ [q + d]).length = ends.length + 1 by simp] at hm
     exact ⟨rfl, hm.after F1.out⟩
/-- Close. -/
theorem Close_c {w : World} {B g : Nat} {A : Option Addr} {c : Nat} {b : List Int} {p : Int} {v : Value} {ends : List Int} (h : IsC w B g A c b p v ends) :
   Calls Tryd.prog 80 #[.pointer (some ⟨g, 0, none⟩)] w fun e w' => e = .returned (.bool (cl p ends).1) ∧ Moved w B g A c b v (cl p ends).2.1 (cl p ends).2.2 w' := by
 obtain ⟨A2, c2, rfl⟩ := Kd.R_slice h.row
 have hc1 : w.cell? ⟨g, 1, none⟩ = some (.int .i64 p) := (blk_cell h.blk 1).trans rfl
 have hc2 : w.cell? ⟨g, 2, none⟩ = some (.slice A2 ends.length c2) := (blk_cell h.blk 2).trans rfl
 have hg2 := blk_frozen h.blk 2
 have H := Aside0.mk h
 have hlm : ends.length ≤ 9223372036854775807 := Kd.C_max (Kd.R_reads' h.row).2.2
 unfold cl
 by_cases hn : ends.length ≤ 1
 · rw [if_pos (.inl hn)]
   by_cases hn0 : ends.length = 0
   · have HO := Aside0.mk (fun n => ok_no (h.drewN n) hn0)
     clear h hn hlm hc1 hc2 hg2 hn0
     go_enter Tryd.func80, Tryd.ntmps80
     go_wp2_with fail
     go_quiet ((go_at_call 14; exact quiet (HO.out _)))
     go_wp2_with fail
     go_ret
     exact ⟨rfl, _, H.out.drewN _, (Fr.of_keep (Kept.refl _ _) (.inl rfl)).drew _⟩
   · have hn1 : ends.length = 1 := by omega
     have HO := Aside0.mk (fun n => ok_yes (h.drewN n) (by omega))
     rw [hn1] at hc2
     clear h hn hlm hc1 hg2 hn0
     go_enter Tryd.func80, Tryd.ntmps80
     go_wp2_with fail
     go_quiet ((go_at_call 14; exact quiet (HO.out _)))
     go_wp2_with fail
     go_ret
     exact ⟨rfl, _, H.out.drewN _, (Fr.of_keep (Kept.refl _ _) (.inl rfl)).drew _⟩
 · obtain ⟨m, hm⟩ : ∃ m, ends.length = m + 2 := ⟨ends.length - 2, by omega⟩
   have HO := Aside0.mk (fun n => ok_yes (h.drewN n) (by omega))
   have HE := Aside0.mk (fun n => end_c (h.drewN n) (by omega))
   rw [hm] at hc2 hlm
   have hne : ((m : Int) + 2 == 1) = false := by rw [beq_eq_false_iff_ne]; omega
   obtain ⟨L, hL⟩ : ∃ L, L = last ends := ⟨_, rfl⟩
   rw [← hL] at HE ⊢
   by_cases hp : p = L
   · rw [if_neg (by omega)]
     have hcap : m + 2 ≤ c2 := by
       obtain ⟨_, inner, ho, _⟩ := h.row
       rcases ho.2 with ⟨_, h0⟩ | ⟨g', cap, cur, he, _, _, h1, _⟩
       · omega
       · injection he with _ _ he
         omega
     have hrow := Kd.R_take (m := m + 1) h.row (by omega)
     rw [← show ends.dropLast = ends.take (m + 1) by rw [List.dropLast_eq_take, hm]; rfl] at hrow
     have HR := Aside0.mk hrow
     have hsl := cut_to (P := Tryd.prog) 31 3 .i64 Tryd.underlying31 (Option.map_eq_some_iff.1 info3).choose_spec.1 A2 (m + 2) c2 ((m : Int) + 1) (by omega) (by omega) hcap
     have ht : ((m : Int) + 1).toNat = m + 1 := by omega
     rw [ht] at hsl
     have hw : IntKind.i64.wrap ((m : Int) + 2 - 1) = (m : Int) + 1 := by rw [IntKind.wrap_i64]; omega
     have hpp : (L == L) = true := beq_self_eq_true L
     subst hp
     clear h hn hlm hL hrow ht hcap hc1
     have hc1 : w.cell? ⟨g, 1, none⟩ = some (.int .i64 p) := (blk_cell H.out.blk 1).trans rfl
     go_enter Tryd.func80, Tryd.ntmps80
     go_wp2_with fail
     go_quiet ((first | (go_at_call 14; exact quiet (HO.out _)) | (go_at_call 43; exact quiet (HE.out _))))
     go_wp2_with fail
     refine start_ (n := 15) (S := fun w' => w'.cell? ⟨g, 2, none⟩ = some (.slice A2 (m + 2) c2)) (ds := [14]) #[false, false, false, false, false, false, false, false, false, false, false, false, false, false, false] (by kernel_rfl) rfl rfl (hc2) (fun hHeld => ?_)
     refine pure_ (i := 0) (N := some 23) (v := ?_) (a' := ?_) #[true, false, false, false, false, false, false, false, false, false, false, false, false, false, false] rfl rfl (by kernel_rfl) (fun _ _ _ h => h) (Or.inl ⟨by rfl, ?_⟩) ?_ ?_
     rotate_left
     · intro w'
       go_simp
       with_reducible rfl
     rotate_left
     · simp only [zs]
       rfl
     refine pure_ (i := 1) (N := some 24) (v := ?_) (a' := ?_) #[true, true, false, false, false, false, false, false, false, false, false, false, false, false, false] rfl rfl (by kernel_rfl) (fun _ _ _ h => h) (Or.inl ⟨by rfl, ?_⟩) ?_ ?_
     rotate_left
     · intro w'
       go_simp
       with_reducible rfl
     rotate_left
     · simp only [zs]
       rfl
     refine pure_ (i := 2) (N := some 25) (v := ?_) (a' := ?_) #[true, true, true, false, false, false, false, false, false, false, false, false, false, false, false] rfl rfl (by kernel_rfl) (fun _ _ _ h => h) (Or.inl ⟨by rfl, ?_⟩) ?_ ?_
     rotate_left
     · intro w'
       go_simp
       with_reducible rfl
     rotate_left
     · simp only [zs]
       rfl
     refine pure_ (i := 3) (N := some 26) (v := ?_) (a' := ?_) #[true, true, true, true, false, false, false, false, false, false, false, false, false, false, false] rfl rfl (by kernel_rfl) (fun _ _ _ h => h) (Or.inl ⟨by rfl, ?_⟩) ?_ ?_
     rotate_left
     · intro w'
       go_simp
       with_reducible rfl
     rotate_left
     · simp only [zs]
       rfl
     refine pure_ (i := 5) (N := some 28) (v := ?_) (a' := ?_) #[true, true, true, true, false, true, false, false, false, false, false, false, false, false, false] rfl rfl (by kernel_rfl) (fun _ _ _ h => h) (Or.inl ⟨by rfl, ?_⟩) ?_ ?_
     rotate_left
     · intro w'
       go_simp
       with_reducible rfl
     rotate_left
     · simp only [zs]
       rfl
     refine pure_ (i := 6) (N := some 29) (v := ?_) (a' := ?_) #[true, true, true, true, false, true, true, false, false, false, false, false, false, false, false] rfl rfl (by kernel_rfl) (fun _ _ _ h => h) (Or.inl ⟨by rfl, ?_⟩) ?_ ?_
     rotate_left
     · intro w'
       go_simp
       with_reducible rfl
     rotate_left
     · simp only [zs]
       rfl
     refine pure_ (i := 7) (N := some 30) (v := ?_) (a' := ?_) #[true, true, true, true, false, true, true, true, false, false, false, false, false, false, false] rfl rfl (by kernel_rfl) (fun _ _ _ h => h) (Or.inl ⟨by rfl, ?_⟩) ?_ ?_
     rotate_left
     · intro w'
       go_simp
       with_reducible rfl
     rotate_left
     · simp only [zs]
       rfl
     refine take_ (i := 4) (N := some 27) (v := ?_) (a' := ?_) #[true, true, true, true, true, true, true, true, false, false, false, false, false, false, false] rfl rfl (by kernel_rfl) (fun _ _ _ h => h) (Or.inl ⟨by rfl, ?_⟩) hHeld ?_ ?_
     rotate_left
     · intro w' s0
       go_simp
       with_reducible rfl
     rotate_left
     · simp only [zs]
       rfl
     refine take_ (i := 8) (N := some 31) (v := ?_) (a' := ?_) #[true, true, true, true, true, true, true, true, true, false, false, false, false, false, false] rfl rfl (by kernel_rfl) (fun _ _ _ h => h) (Or.inl ⟨by rfl, ?_⟩) hHeld ?_ ?_
     rotate_left
     · intro w' s0
       go_simp
       with_reducible rfl
     rotate_left
     · simp only [zs]
       rfl
     refine pure_ (i := 9) (N := some 32) (v := ?_) (a' := ?_) #[true, true, true, true, true, true, true, true, true, true, false, false, false, false, false] rfl rfl (by kernel_rfl) (fun _ _ _ h => h) (Or.inl ⟨by rfl, ?_⟩) ?_ ?_
     rotate_left
     · intro w'
       go_simp
       with_reducible rfl
     rotate_left
     · simp only [zs]
       rfl
     refine pure_ (i := 10) (N := some 33) (v := ?_) (a' := ?_) #[true, true, true, true, true, true, true, true, true, true, true, false, false, false, false] rfl rfl (by kernel_rfl) (fun _ _ _ h => h) (Or.inl ⟨by rfl, ?_⟩) ?_ ?_
     rotate_left
     · intro w'
       go_simp
       with_reducible rfl
     rotate_left
     · simp only [zs]
       rfl
     refine pure_ (i := 11) (N := some 34) (v := ?_) (a' := ?_) #[true, true, true, true, true, true, true, true, true, true, true, true, false, false, false] rfl rfl (by kernel_rfl) (fun _ _ _ h => h) (Or.inl ⟨by rfl, ?_⟩) ?_ ?_
     rotate_left
     · intro w'
       go_simp
       with_reducible rfl
     rotate_left
     · simp only [zs]
       rfl
     refine pure_ (i := 12) (N := some 35) (v := ?_) (a' := ?_) #[true, true, true, true, true, true, true, true, true, true, true, true, true, false, false] rfl rfl (by kernel_rfl) (fun _ _ _ h => h) (Or.inl ⟨by rfl, ?_⟩) ?_ ?_
     rotate_left
     · intro w'
       go_simp
       with_reducible rfl
     rotate_left
     · simp only [zs]
       rfl
     refine pure_ (i := 13) (N := some 36) (v := ?_) (a' := ?_) #[true, true, true, true, true, true, true, true, true, true, true, true, true, true, false] rfl rfl (by kernel_rfl) (fun _ _ _ h => h) (Or.inl ⟨by rfl, ?_⟩) ?_ ?_
     rotate_left
     · intro w'
       go_simp
       with_reducible rfl
     rotate_left
     · simp only [zs]
       rfl
     refine last_ (i := 14) (N := none) #[true, true, true, true, true, true, true, true, true, true, true, true, true, true, true] rfl rfl (by kernel_rfl) (by decide) (fun K hK => ?_)
     refine skip_ (w1 := ?_) (by rfl) rfl ?_ ?_
     rotate_left
     · go_simp
       rfl
     refine hK.out _ _ ?_
     clear hK K
     refine done_ (by kernel_rfl) ?_
     go_wp2_with fail
     go_ret
     exact ⟨rfl, set2 (⟨blk_drewN H.out.blk _, Kd.R_drewN HR.out _, Kd.C_drewN H.out.rd _, ⟨Keep_any (Kept.of_below (pw_below_drewN (Below.refl _ _) _)).1, ⟨rfl, rfl, rfl⟩, .inr (.inl (by cases A2 <;> rfl))⟩⟩ : AppP w (w.drewN (nq + 1)) B g A c b p (.slice A2 ends.length c2) (.slice A2 (m + 1) c2) ends.dropLast) H.out.lc H.out.ge H.out.ap⟩
   · rw [if_pos (.inr hp)]
     have hpp : (p == L) = false := beq_eq_false_iff_ne.2 hp
     clear h hn hlm hL hp hg2 hm
     go_enter Tryd.func80, Tryd.ntmps80
     go_wp2_with fail
     go_quiet ((first | (go_at_call 14; exact quiet (HO.out _)) | (go_at_call 43; exact quiet (HE.out _))))
     go_wp2_with fail
     go_ret
     exact ⟨rfl, _, H.out.drewN _, (Fr.of_keep (Kept.refl _ _) (.inl rfl)).drew _⟩
/-- From. -/
theorem From_c {w : World} {A : Option Addr} {c : Nat} {b : List Int} (hr : Kd.C (Kd.int .u8) w A b.length b) (hc : b.length ≤ c) (hap : ∀ ad, A = some ad → 0 < b.length → ad.block < w.heap.size) :
  Calls Tryd.prog 12 #[.slice A b.length c] w fun e w' => e = .returned (.pointer (some ⟨w.heap.size + 1, 0, none⟩)) ∧ IsC w' w.heap.size (w.heap.size + 1) A c b 0 (.slice (some ⟨w.heap.size, 0, none⟩) 1 1) [(b.length : Int)] ∧ Below w.heap.size w w' := by
 have HR := Aside0.mk hr
 have hl := Kd.C_max hr
 have HL := Aside0.mk hl
 have HC := Aside0.mk hc
 have HAP := Aside0.mk hap
 clear hr hc hap hl
 go_enter Tryd.func12, Tryd.ntmps12
 go_wp2_with fail
 go_ret
 have hb1 : Below w.heap.size w ((w.alloc (.cells #[.int .i64 (b.length : Int)] 3)).alloc (.cells #[.slice A b.length c, .int .i64 0, .slice (some ⟨w.heap.size, 0, none⟩) 1 1] 75)) := below_alloc (below_alloc (Below.refl _ _) _) _
 have hs1 : (w.alloc (.cells #[.int .i64 (b.length : Int)] 3)).heap.size = w.heap.size + 1 := Array.size_push _
 have hg1 := blk_new (w.alloc (.cells #[.int .i64 (b.length : Int)] 3)) (.cells #[.slice A b.length c, .int .i64 0, .slice (some ⟨w.heap.size, 0, none⟩) 1 1] 75)
 rw [hs1] at hg1
 have hg0 : ((w.alloc (.cells #[.int .i64 (b.length : Int)] 3)).alloc (.cells #[.slice A b.length c, .int .i64 0, .slice (some ⟨w.heap.size, 0, none⟩) 1 1] 75)).heap[w.heap.size]? = some (.cells #[.int .i64 (b.length : Int)] 3 (0, 0)) := blk_below (blk_new w _) (below_alloc (Below.refl _ _) _)
 refine ⟨rfl, ⟨hg1, Kd.R_of_own ⟨rfl, .inr ⟨w.heap.size, 1, #[.int .i64 (b.length : Int)], rfl, Nat.le_refl _, hg0, Nat.le_refl _, by decide, rfl, rfl⟩⟩ (fun k hk => ?_), Kd.C_below HR.out hb1, HC.out, by omega, HAP.out⟩, hb1⟩
 have hk' : w.heap.size = k := by simpa [Value.ownBlock] using hk
 omega
end Go.Proofs.YthgddlibfboehaaDoor.Cur
end
section
namespace Go.Proofs.YthgddlibfboehaaDoor.Cur
open Go.RowKit Go.Proofs.YthgddlibfboehaaDoorW.PrintWords Go.Proofs.YthgddlibfboehaaDoorW.PrintLast Go.Proofs.YthgddlibfboehaaDoorW.PrintMore Go.Proofs.YthgddlibfboehaaDoor.Var
set_option maxHeartbeats 1000000
set_option maxRecDepth 100000
set_option linter.unusedSimpArgs false
/-- A reference's cursor at block g. -/
structure IsM (w : World) (B g : Nat) (A : Option Addr) (c : Nat) (b : List Int) (p : Int) (v : Value) (ends : List Int) : Prop where
 blk : w.heap[g]? = some (.cells #[.slice A b.length c, .int .i64 p, v, .bool (decide (ends.length = 0))] 65 (0, 0))
 row : Kd.R (Kd.int .i64) 3 w B (fun k => k ≠ g) v ends
 rd : Kd.C (Kd.int .u8) w A b.length b
 lc : b.length ≤ c
 ge : B ≤ g
 ap : ∀ ad, A = some ad → 0 < b.length → ad.block < B
/-- What a method leaves. -/
def MovedM (w : World) (B g : Nat) (A : Option Addr) (c : Nat) (b : List Int) (v : Value) (p' : Int) (ends' : List Int) (w' : World) : Prop :=
 ∃ v', IsM w' B g A c b p' v' ends' ∧ Fr w w' g v v'
section
variable {w w' : World} {B g : Nat} {A : Option Addr} {c : Nat} {b : List Int} {p : Int} {v : Value} {ends : List Int}
theorem IsM.below (h : IsM w B g A c b p v ends) (hb : Below w.heap.size w w') : IsM w' B g A c b p v ends :=
 ⟨blk_below h.blk hb, Kd.R_step h.row (fun k _ hlt => hb.block k hlt), Kd.C_below h.rd hb, h.lc, h.ge, h.ap⟩
theorem IsM.drewN (h : IsM w B g A c b p v ends) (n : Nat) : IsM (w.drewN n) B g A c b p v ends := h.below (pw_below_drewN (Below.refl _ _) n)
theorem IsM.drawn {w' : World} (h : IsM w B g A c b p v ends) (hd : Drawn0 w w') : IsM w' B g A c b p v ends := by
 obtain ⟨n, rfl⟩ := hd
 exact h.drewN n
theorem IsM.lmax (h : IsM w B g A c b p v ends) : b.length ≤ 9223372036854775807 := Kd.C_max h.rd
theorem MovedM.after {w1 w' : World} {v1 : Value} {p' : Int} {e' : List Int} (f : Fr w w1 g v v1) (h : MovedM w1 B g A c b v1 p' e' w') : MovedM w B g A c b v p' e' w' := by
 obtain ⟨v', h1, h2⟩ := h
 exact ⟨v', h1, f.trans h2⟩
theorem IsM.set1 (h : IsM w B g A c b p v ends) (q : Int) : IsM (w.setCell ⟨g, 1, none⟩ (.int .i64 q)) B g A c b q v ends :=
 ⟨blk_put h.blk 1 _ rfl, Kd.R_keep h.row ((KeepBut.refl w g none).set_ 1 _) (fun _ hk => hk), Kd.C_keep (d := 0) h.rd ((KeepBut.refl w g none).set_ 1 _) (fun ad h1 h2 => by have h3 := h.ap ad h1 h2; have h4 := h.ge; omega), h.lc, h.ge, h.ap⟩
theorem IsM.bad (h : IsM w B g A c b p v ends) (hn : ends.length = 0) : w.cell? ⟨g, 3, none⟩ = some (.bool true) := by
 have h1 : w.cell? ⟨g, 3, none⟩ = some (.bool (decide (ends.length = 0))) := (blk_cell h.blk 3).trans rfl
 rw [h1, decide_eq_true hn]
theorem IsM.good (h : IsM w B g A c b p v ends) (hn : 0 < ends.length) : w.cell? ⟨g, 3, none⟩ = some (.bool false) := by
 have h1 : w.cell? ⟨g, 3, none⟩ = some (.bool (decide (ends.length = 0))) := (blk_cell h.blk 3).trans rfl
 rw [h1, decide_eq_false (by omega)]
theorem Fr.none (w : World) (g n : Nat) (v : Value) : Fr w (w.drewN n) g v v := (Fr.of_keep (Kept.refl _ _) (.inl rfl)).drew n
theorem Fr.same (w : World) (g : Nat) (v : Value) : Fr w w g v v := Fr.of_keep (Kept.refl _ _) (.inl rfl)
/-- What is left of the frame, read; the capacity is the bytes'. -/
theorem seg_M (h : IsM w B g A c b p v ends) (hi : Inv b.length p ends) : Kd.C (Kd.int .u8) w (if c = p.toNat then A else Option.map (fun x => x.add p.toNat) A) (seg b p ends).length (seg b p ends) := by
 have h0 := inv_last hi
 have h2 := Kd.C_mid (c := c) (lo := p.toNat) (hi := (last ends).toNat) h.rd (by omega) (by omega) h.lc
 have e1 : p.toNat * (Kd.int .u8).sz = p.toNat := Nat.mul_one _
 rw [e1] at h2
 exact h2
end
/-- end. -/
theorem end_m {w : World} {B g : Nat} {A : Option Addr} {c : Nat} {b : List Int} {p : Int} {v : Value} {ends : List Int} (h : IsM w B g A c b p v ends) (hn : 0 < ends.length) :
  Calls Tryd.prog 30 #[.pointer (some ⟨g, 0, none⟩)] w fun e w' => e = .returned (.int .i64 (last ends)) ∧ Drawn0 w w' := by
 obtain ⟨A2, c2, rfl⟩ := Kd.R_slice h.row
 have hc2 : w.cell? ⟨g, 2, none⟩ = some (.slice A2 ends.length c2) := (blk_cell h.blk 2).trans rfl
 have hrow := h.row
 obtain ⟨ad, rfl, hcell⟩ := cell_last hrow hn
 have hlen : ends.length ≤ 9223372036854775807 := Kd.C_max (Kd.R_reads' hrow).2.2
 obtain ⟨m, hm⟩ : ∃ m, ends.length = m + 1 := ⟨ends.length - 1, by omega⟩
 rw [hm] at hc2 hcell hlen
 have hw : IntKind.i64.wrap ((m : Int) + 1 - 1) = (m : Int) := by rw [IntKind.wrap_i64]; omega
 have hw2 : IntKind.i64.wrap (m : Int) = (m : Int) := by rw [IntKind.wrap_i64]; omega
 have hlt : (m : Int) < (m : Int) + 1 := by omega
 simp only [Nat.add_sub_cancel] at hcell
 clear h hrow hm hn
 obtain ⟨L, hL⟩ : ∃ L, L = last ends := ⟨_, rfl⟩
 rw [← hL] at hcell ⊢
 clear hL
 go_enter Tryd.func30, Tryd.ntmps30
 go_wp2
 go_quiet (fail)
 go_wp2
 go_ret
 exact ⟨rfl, Drawn0.step (Drawn0.refl _) _⟩
/-- fail. -/
theorem fail_m {w : World} {B g : Nat} {A : Option Addr} {c : Nat} {b : List Int} {p : Int} {v : Value} {ends : List Int} (h : IsM w B g A c b p v ends) :
  Calls Tryd.prog 32 #[.pointer (some ⟨g, 0, none⟩)] w fun e w' => e = .returned (.tuple #[]) ∧ IsM w' B g A c b 0 (.slice none 0 0) [] ∧ Kept w w' g := by
 obtain ⟨A2, c2, rfl⟩ := Kd.R_slice h.row
 have hc1 : w.cell? ⟨g, 1, none⟩ = some (.int .i64 p) := (blk_cell h.blk 1).trans rfl
 have hc2 : w.cell? ⟨g, 2, none⟩ = some (.slice A2 ends.length c2) := (blk_cell h.blk 2).trans rfl
 have hc3 : w.cell? ⟨g, 3, none⟩ = some (.bool (decide (ends.length = 0))) := (blk_cell h.blk 3).trans rfl
 have hf1 := blk_frozen h.blk 1
 have hf2 := blk_frozen h.blk 2
 have hf3 := blk_frozen h.blk 3
 have H := Aside0.mk h
 clear h
 go_enter Tryd.func32, Tryd.ntmps32
 go_wp2
 go_end0
 have hk : Kept w (((w.setCell ⟨g, 3, none⟩ (.bool true)).setCell ⟨g, 1, none⟩ (.int .i64 0)).setCell ⟨g, 2, none⟩ (.slice none 0 0)) g := (((Kept.refl w g).set_ 3 _).set_ 1 _).set_ 2 _
 exact ⟨rfl, ⟨blk_put (blk_put (blk_put H.out.blk 3 _ rfl) 1 _ rfl) 2 _ rfl, Kd.R_nil _ _ _ _ _, Kd.C_keep (d := 0) H.out.rd hk.1 (fun ad h1 h2 => by have h3 := H.out.ap ad h1 h2; have h4 := H.out.ge; omega), H.out.lc, H.out.ge, H.out.ap⟩, hk⟩
theorem refget_c {W : World} {A : Option Addr} {n c : Nat} {l : List Int} (hln : l.length = n) (hr : Kd.C (Kd.int .u8) W A l.length l) (hc : l.length ≤ c) (hb : ∀ x ∈ l, 0 ≤ x ∧ x ≤ 255) (hl : l.length ≤ 140737488359000) :
  Calls Tryd.prog 33 #[.slice A n c] W fun e w' => e = .returned (.tuple #[.int .u64 (dec l 0 0).1, .int .i64 (dec l 0 0).2]) ∧ Drawn0 W w' := by
 subst hln
 exact PLib.ecdysisref01_Get.calls (3 * l.length + 2) A c l _ _ W hr hc (VLib.refget_f _ l hb (by omega) hl)
theorem fix3_f (k : Nat) (hk : k = 4 ∨ k = 8) (l : List Int) (hb : ∀ x ∈ l, 0 ≤ x ∧ x ≤ 255) (hl : l.length ≤ 140737488359000) : PLib.ecdysisref03_Get.f 20 l (k : Int) = some ((fixD k l).1, decide ((fixD k l).2 ≠ 0)) := by
 have hrd : ∀ i : Nat, rd l (i : Int) = l.getD i 0 := fun i => by simp [rd]
 unfold PLib.ecdysisref03_Get.f fixD
 rcases hk with rfl | rfl
 · by_cases h : l.length < 4
   · rw [if_pos (by omega), if_pos h]; simp
   · have hw : wrap64 (((4 : Nat) : Int) - 1) = ((4 : Nat) : Int) - 1 := by unfold wrap64; omega
     rw [if_neg (by omega), if_neg h, hw, VLib.fixgetl l hb 4 20 0 (by omega) (by omega) (by omega) (by omega) (by decide)]
     simp only [VLib.down, hrd, M.val4]
     congr 2
     · rw [if_pos trivial]; omega
 · by_cases h : l.length < 8
   · rw [if_pos (by omega), if_pos h]; simp
   · have hw : wrap64 (((8 : Nat) : Int) - 1) = ((8 : Nat) : Int) - 1 := by unfold wrap64; omega
     rw [if_neg (by omega), if_neg h, hw, VLib.fixgetl l hb 8 20 0 (by omega) (by omega) (by omega) (by omega) (by decide)]
     simp only [VLib.down, hrd, M.val8]
     congr 2
     · rw [if_neg (by decide)]; omega
theorem fix3_c {W : World} {A : Option Addr} {n c : Nat} {l : List Int} (k : Nat) (hk : k = 4 ∨ k = 8) (hln : l.length = n) (hr : Kd.C (Kd.int .u8) W A l.length l) (hc : l.length ≤ c) (hb : ∀ x ∈ l, 0 ≤ x ∧ x ≤ 255) (hl : l.length ≤ 140737488359000) :
  Calls Tryd.prog 31 #[.slice A n c, .int .i64 (k : Int)] W fun e w' => e = .returned (.tuple #[.int .u64 (fixD k l).1, .bool (decide ((fixD k l).2 ≠ 0))]) ∧ Drawn0 W w' := by
 subst hln
 exact PLib.ecdysisref03_Get.calls 20 A c l k _ _ W hr hc (fix3_f k hk l hb hl)
/-- Varint_m. -/
theorem Varint_m {w : World} {B g : Nat} {A : Option Addr} {c : Nat} {b : List Int} {p : Int} {v : Value} {ends : List Int} (h : IsM w B g A c b p v ends) (hi : Inv b.length p ends) (_hB : B ≤ w.heap.size) (hb : ∀ x ∈ b, 0 ≤ x ∧ x ≤ 255) (hbl : b.length ≤ 140737488359000) :
   Calls Tryd.prog 20 #[.pointer (some ⟨g, 0, none⟩)] w fun e w' => e = .returned (.int .u64 (vD b p ends).1) ∧ MovedM w B g A c b v (nx p ends (vD b p ends).2).1 (nx p ends (vD b p ends).2).2 w' := by
 have hf := (show 0 ≤ (vD b p ends).2 ∧ (vD b p ends).2 ≤ last ends - p ∧ ((vD b p ends).2 = 0 → (vD b p ends).1 = 0) from (vD_facts hi hb).2.2)
 by_cases hn : ends.length = 0
 · have hc3 := h.bad hn
   have hs0 : (vD b p ends).2 = 0 := by
     have := last_nil hn
     have h2 := inv_last hi
     omega
   have hd0 := hf.2.2 hs0
   rw [hs0, hd0]
   have he : ends = [] := List.length_eq_zero_iff.1 hn
   subst he
   have hp : p = 0 := hi.2.2.2 rfl
   subst hp
   have H := Aside0.mk h
   clear h hi hb hbl hf hn hs0 hd0
   go_enter Tryd.func20, Tryd.ntmps20
   go_wp2_with fail
   go_ret
   exact ⟨rfl, v, H.out, Fr.same _ _ _⟩
 · have hn1 : 0 < ends.length := by omega
   have hc3 := h.good hn1
   have hc0 : w.cell? ⟨g, 0, none⟩ = some (.slice A b.length c) := (blk_cell h.blk 0).trans rfl
   have hc1 : w.cell? ⟨g, 1, none⟩ = some (.int .i64 p) := (blk_cell h.blk 1).trans rfl
   have hf1 := blk_frozen h.blk 1
   have H := Aside0.mk h
   have HE := Aside0.mk (fun n => end_m (h.drewN n) hn1)
   have HG := fun n => refget_c (seg_l hi) (seg_M (h.drewN n) hi) (c := c - p.toNat) (by have := seg_l hi; have := inv_last hi; have := h.lc; omega) (seg_bytes hb) (by have := seg_l hi; have := inv_last hi; omega)
   skip
   have hl := inv_last hi
   have lc := h.lc
   have lm := h.lmax
   obtain ⟨D, hD⟩ : ∃ D, D = vD b p ends := ⟨_, rfl⟩
   simp only [show dec (seg b p ends) 0 0 = D from hD.symm] at HG
   rw [← hD] at hf ⊢
   skip
   obtain ⟨L, hL⟩ : ∃ L, L = last ends := ⟨_, rfl⟩
   rw [← hL] at HE hl HG hf
   clear hD hL h hn hi hb hbl
   obtain ⟨p, rfl⟩ := Int.eq_ofNat_of_zero_le hl.1
   obtain ⟨L, rfl⟩ := Int.eq_ofNat_of_zero_le (show 0 ≤ L by omega)
   obtain ⟨d, s⟩ := D
   simp only [Int.toNat_natCast] at HG hf ⊢
   obtain ⟨A', hA'⟩ : ∃ A', (if c = p then A else Option.map (fun x => x.add p) A) = A' := ⟨_, rfl⟩
   simp only [hA'] at HG
   have hLc : L ≤ b.length := by omega
   have hpL : p ≤ L := by omega
   have hLc2 : L ≤ c := by omega
   have hsum : (p : Int) + s ≤ 9223372036854775807 := by omega
   have hs0 := hf.1
   have hz2 := hf.2.2
   clear hf hl
   by_cases hz : s = 0
   · subst hz
     have hd0 := hz2 rfl
     subst hd0
     unfold nx
     rw [if_pos rfl]
     skip
     have HGG := Aside0.mk HG
     clear HG hz2
     go_enter Tryd.func20, Tryd.ntmps20
     go_wp2_with fail
     go_region_held3 (fun w' => w'.cell? ⟨g, 0, none⟩ = some (.slice A b.length c) ∧ w'.cell? ⟨g, 1, none⟩ = some (.int .i64 (p : Int))) (first | exact ⟨hc0, hc1⟩ | go_keep) (first
      | (go_at_call 30; refine (HE.out _).mono ?_; rintro e w2 ⟨rfl, ⟨n2, rfl⟩⟩)
      | (go_at_call 33; refine (HGG.out _).mono ?_; rintro e w3 ⟨rfl, ⟨n3, rfl⟩⟩))
     all_goals
      go_wp2_with (first | (go_at_call 32; refine (fail_m (H.out.drewN _)).mono ?_; rintro e w4 ⟨rfl, hC4, hk4⟩; have H4 := Aside0.mk hC4; have K4 := Aside0.mk hk4; clear hC4 hk4))
      go_ret
      exact ⟨rfl, _, H4.out, (Fr.none _ _ _ _).kept K4.out (.inr rfl)⟩
   · have hz1 : (s == 0) = false := beq_eq_false_iff_ne.2 hz
     unfold nx
     rw [if_neg hz]
     skip
     have HGG := Aside0.mk HG
     clear HG hz2 hz
     go_enter Tryd.func20, Tryd.ntmps20
     go_wp2_with fail
     go_region_held3 (fun w' => w'.cell? ⟨g, 0, none⟩ = some (.slice A b.length c) ∧ w'.cell? ⟨g, 1, none⟩ = some (.int .i64 (p : Int))) (first | exact ⟨hc0, hc1⟩ | go_keep) (first
      | (go_at_call 30; refine (HE.out _).mono ?_; rintro e w2 ⟨rfl, ⟨n2, rfl⟩⟩)
      | (go_at_call 33; refine (HGG.out _).mono ?_; rintro e w3 ⟨rfl, ⟨n3, rfl⟩⟩))
     all_goals
      go_wp2_with fail
      go_ret
      exact ⟨rfl, _, (H.out.drewN _).set1 _, (Fr.none _ _ _ _).kept ((Kept.refl _ _).set_ 1 _) (.inl rfl)⟩
/-- Fixed_m. -/
theorem Fixed_m {w : World} {B g : Nat} {A : Option Addr} {c : Nat} {b : List Int} {p : Int} {v : Value} {ends : List Int} (h : IsM w B g A c b p v ends) (hi : Inv b.length p ends) (_hB : B ≤ w.heap.size) (hb : ∀ x ∈ b, 0 ≤ x ∧ x ≤ 255) (hbl : b.length ≤ 140737488359000) (k : Nat) (hk : k = 4 ∨ k = 8) :
   Calls Tryd.prog 19 #[.pointer (some ⟨g, 0, none⟩), .int .i64 (k : Int)] w fun e w' => e = .returned (.int .u64 (fD k b p ends).1) ∧ MovedM w B g A c b v (nx p ends (fD k b p ends).2).1 (nx p ends (fD k b p ends).2).2 w' := by
 have hf := fD_facts hi k (by omega)
 by_cases hn : ends.length = 0
 · have hc3 := h.bad hn
   have hs0 : (fD k b p ends).2 = 0 := by
     have := last_nil hn
     have h2 := inv_last hi
     omega
   have hd0 := hf.2.2 hs0
   rw [hs0, hd0]
   have he : ends = [] := List.length_eq_zero_iff.1 hn
   subst he
   have hp : p = 0 := hi.2.2.2 rfl
   subst hp
   have H := Aside0.mk h
   clear h hi hb hbl hf hn hs0 hd0
   go_enter Tryd.func19, Tryd.ntmps19
   go_wp2_with fail
   go_ret
   exact ⟨rfl, v, H.out, Fr.same _ _ _⟩
 · have hn1 : 0 < ends.length := by omega
   have hc3 := h.good hn1
   have hc0 : w.cell? ⟨g, 0, none⟩ = some (.slice A b.length c) := (blk_cell h.blk 0).trans rfl
   have hc1 : w.cell? ⟨g, 1, none⟩ = some (.int .i64 p) := (blk_cell h.blk 1).trans rfl
   have hf1 := blk_frozen h.blk 1
   have H := Aside0.mk h
   have HE := Aside0.mk (fun n => end_m (h.drewN n) hn1)
   have HG := fun n => fix3_c k hk (seg_l hi) (seg_M (h.drewN n) hi) (c := c - p.toNat) (by have := seg_l hi; have := inv_last hi; have := h.lc; omega) (seg_bytes hb) (by have := seg_l hi; have := inv_last hi; omega)
   have hkk : (fD k b p ends).2 = 0 ∨ (fD k b p ends).2 = (k : Int) := by
     unfold fD
     rcases fixD_two k (seg b p ends) with h1 | h1
     · rw [h1]; exact .inl rfl
     · exact .inr h1
   have hl := inv_last hi
   have lc := h.lc
   have lm := h.lmax
   obtain ⟨D, hD⟩ : ∃ D, D = fD k b p ends := ⟨_, rfl⟩
   simp only [show fixD k (seg b p ends) = D from hD.symm] at HG
   rw [← hD] at hf ⊢
   rw [← hD] at hkk
   obtain ⟨L, hL⟩ : ∃ L, L = last ends := ⟨_, rfl⟩
   rw [← hL] at HE hl HG hf
   clear hD hL h hn hi hb hbl
   obtain ⟨p, rfl⟩ := Int.eq_ofNat_of_zero_le hl.1
   obtain ⟨L, rfl⟩ := Int.eq_ofNat_of_zero_le (show 0 ≤ L by omega)
   obtain ⟨d, s⟩ := D
   simp only [Int.toNat_natCast] at HG hf ⊢
   obtain ⟨A', hA'⟩ : ∃ A', (if c = p then A else Option.map (fun x => x.add p) A) = A' := ⟨_, rfl⟩
   simp only [hA'] at HG
   have hLc : L ≤ b.length := by omega
   have hpL : p ≤ L := by omega
   have hLc2 : L ≤ c := by omega
   have hsum : (p : Int) + s ≤ 9223372036854775807 := by omega
   have hs0 := hf.1
   have hz2 := hf.2.2
   clear hf hl
   by_cases hz : s = 0
   · subst hz
     have hd0 := hz2 rfl
     subst hd0
     unfold nx
     rw [if_pos rfl]
     simp only [decide_eq_false (show ¬ (0 : Int) ≠ 0 by decide)] at HG
     have HGG := Aside0.mk HG
     clear HG hz2
     go_enter Tryd.func19, Tryd.ntmps19
     go_wp2_with fail
     go_region_held3 (fun w' => w'.cell? ⟨g, 0, none⟩ = some (.slice A b.length c) ∧ w'.cell? ⟨g, 1, none⟩ = some (.int .i64 (p : Int))) (first | exact ⟨hc0, hc1⟩ | go_keep) (first
       | (go_at_call 30; refine (HE.out _).mono ?_; rintro e w2 ⟨rfl, ⟨n2, rfl⟩⟩)
       | (go_at_call 31; refine (HGG.out _).mono ?_; rintro e w3 ⟨rfl, ⟨n3, rfl⟩⟩))
     all_goals
       go_wp2_with (first | (go_at_call 32; refine (fail_m (H.out.drewN _)).mono ?_; rintro e w4 ⟨rfl, hC4, hk4⟩; have H4 := Aside0.mk hC4; have K4 := Aside0.mk hk4; clear hC4 hk4))
       go_ret
       exact ⟨rfl, _, H4.out, (Fr.none _ _ _ _).kept K4.out (.inr rfl)⟩
   · have hz1 : (s == 0) = false := beq_eq_false_iff_ne.2 hz
     unfold nx
     rw [if_neg hz]
     obtain rfl : s = (k : Int) := by
       rcases hkk with hkk | hkk
       · exact absurd hkk hz
       · exact hkk
     simp only [decide_eq_true (show (k : Int) ≠ 0 by omega)] at HG
     have HGG := Aside0.mk HG
     clear HG hz2 hz
     go_enter Tryd.func19, Tryd.ntmps19
     go_wp2_with fail
     go_region_held3 (fun w' => w'.cell? ⟨g, 0, none⟩ = some (.slice A b.length c) ∧ w'.cell? ⟨g, 1, none⟩ = some (.int .i64 (p : Int))) (first | exact ⟨hc0, hc1⟩ | go_keep) (first
       | (go_at_call 30; refine (HE.out _).mono ?_; rintro e w2 ⟨rfl, ⟨n2, rfl⟩⟩)
       | (go_at_call 31; refine (HGG.out _).mono ?_; rintro e w3 ⟨rfl, ⟨n3, rfl⟩⟩))
     all_goals
       go_wp2_with fail
       go_ret
       exact ⟨rfl, _, (H.out.drewN _).set1 _, (Fr.none _ _ _ _).kept ((Kept.refl _ _).set_ 1 _) (.inl rfl)⟩
/-- Behind an append to the ends, ahead of the store. -/
structure AppM (w w5 : World) (B g : Nat) (A : Option Addr) (c : Nat) (b : List Int) (p : Int) (v v2 : Value) (ends2 : List Int) : Prop where
 blk : w5.heap[g]? = some (.cells #[.slice A b.length c, .int .i64 p, v, .bool (decide (ends2.length = 0))] 65 (0, 0))
 row : Kd.R (Kd.int .i64) 3 w5 B (fun k => k ≠ g) v2 ends2
 rd : Kd.C (Kd.int .u8) w5 A b.length b
 fr : Fr w w5 g v v2
section
variable {ops : Array Oper} {o : Oper} {a : Act} {Q : Exit → Act → World → Prop} {K : Act → World → Prop}
end
/-- More. -/
theorem More_m {w : World} {B g : Nat} {A : Option Addr} {c : Nat} {b : List Int} {p : Int} {v : Value} {ends : List Int} (h : IsM w B g A c b p v ends) :
   Calls Tryd.prog 17 #[.pointer (some ⟨g, 0, none⟩)] w fun e w' => e = .returned (.bool (moreB p ends)) ∧ Drawn0 w w' := by
 have hc1 : w.cell? ⟨g, 1, none⟩ = some (.int .i64 p) := (blk_cell h.blk 1).trans rfl
 by_cases hn : 0 < ends.length
 · have hb : moreB p ends = decide (p < last ends) := by unfold moreB; rw [decide_eq_true hn, Bool.true_and]
   have HE := Aside0.mk (fun n => end_m (h.drewN n) hn)
   have hc3 := h.good hn
   rw [hb]
   obtain ⟨L, hL⟩ : ∃ L, L = last ends := ⟨_, rfl⟩
   rw [← hL] at HE ⊢
   clear h hn hb hL
   go_enter Tryd.func17, Tryd.ntmps17
   go_wp2_with fail
   go_quiet ((go_at_call 30; exact quiet (HE.out _)))
   go_wp2
   go_ret
   exact ⟨rfl, Drawn0.step (Drawn0.refl _) _⟩
 · have hb : moreB p ends = false := by unfold moreB; rw [decide_eq_false hn, Bool.false_and]
   have hc3 := h.bad (by omega)
   rw [hb]
   clear h hn hb
   go_enter Tryd.func17, Tryd.ntmps17
   go_wp2_with fail
   go_quiet (fail)
   go_wp2
   go_ret
   exact ⟨rfl, Drawn0.step (Drawn0.refl _) _⟩
/-- From. -/
theorem From_m {w : World} {A : Option Addr} {c : Nat} {b : List Int} (hr : Kd.C (Kd.int .u8) w A b.length b) (hc : b.length ≤ c) (hap : ∀ ad, A = some ad → 0 < b.length → ad.block < w.heap.size) :
  Calls Tryd.prog 16 #[.slice A b.length c] w fun e w' => e = .returned (.pointer (some ⟨w.heap.size + 1, 0, none⟩)) ∧ IsM w' w.heap.size (w.heap.size + 1) A c b 0 (.slice (some ⟨w.heap.size, 0, none⟩) 1 1) [(b.length : Int)] ∧ Below w.heap.size w w' := by
 have HR := Aside0.mk hr
 have hl := Kd.C_max hr
 have HL := Aside0.mk hl
 have HC := Aside0.mk hc
 have HAP := Aside0.mk hap
 clear hr hc hap hl
 go_enter Tryd.func16, Tryd.ntmps16
 go_wp2_with fail
 go_ret
 have hb1 : Below w.heap.size w ((w.alloc (.cells #[.int .i64 (b.length : Int)] 3)).alloc (.cells #[.slice A b.length c, .int .i64 0, .slice (some ⟨w.heap.size, 0, none⟩) 1 1, .bool false] 65)) := below_alloc (below_alloc (Below.refl _ _) _) _
 have hs1 : (w.alloc (.cells #[.int .i64 (b.length : Int)] 3)).heap.size = w.heap.size + 1 := Array.size_push _
 have hg1 := blk_new (w.alloc (.cells #[.int .i64 (b.length : Int)] 3)) (.cells #[.slice A b.length c, .int .i64 0, .slice (some ⟨w.heap.size, 0, none⟩) 1 1, .bool false] 65)
 rw [hs1] at hg1
 have hg0 : ((w.alloc (.cells #[.int .i64 (b.length : Int)] 3)).alloc (.cells #[.slice A b.length c, .int .i64 0, .slice (some ⟨w.heap.size, 0, none⟩) 1 1, .bool false] 65)).heap[w.heap.size]? = some (.cells #[.int .i64 (b.length : Int)] 3 (0, 0)) := blk_below (blk_new w _) (below_alloc (Below.refl _ _) _)
 refine ⟨rfl, ⟨hg1, Kd.R_of_own ⟨rfl, .inr ⟨w.heap.size, 1, #[.int .i64 (b.length : Int)], rfl, Nat.le_refl _, hg0, Nat.le_refl _, by decide, rfl, rfl⟩⟩ (fun k hk => ?_), Kd.C_below HR.out hb1, HC.out, by omega, HAP.out⟩, hb1⟩
 have hk' : w.heap.size = k := by simpa [Value.ownBlock] using hk
 omega
end Go.Proofs.YthgddlibfboehaaDoor.Cur
end
section
namespace Go.Proofs.YthgddlibfboehaaDoor.Un
open Go.RowKit Go.Proofs.YthgddlibfboehaaDoorW.PrintWords Go.Proofs.YthgddlibfboehaaDoorW.PrintLast Go.Proofs.YthgddlibfboehaaDoorW.PrintMore Go.Proofs.YthgddlibfboehaaDoor.Var Go.Proofs.YthgddlibfboehaaDoor.Cur Go.Proofs.YthgddlibfboehaaDoor.PU
set_option linter.unusedVariables false
set_option linter.unusedSimpArgs false
set_option maxHeartbeats 1000000
set_option maxRecDepth 100000
theorem val8_ok (l : List Int) (hb : ∀ x ∈ l, 0 ≤ x ∧ x ≤ 255) (h : ¬ l.length < 8) : 0 ≤ M.val8 l ∧ M.val8 l ≤ 18446744073709551615 := by
 obtain ⟨c0, c1, c2, c3, c4, c5, c6, c7, rest, rfl⟩ := M.eight l (by omega)
 have g0 := hb c0 (by simp)
 have g1 := hb c1 (by simp)
 have g2 := hb c2 (by simp)
 have g3 := hb c3 (by simp)
 have g4 := hb c4 (by simp)
 have g5 := hb c5 (by simp)
 have g6 := hb c6 (by simp)
 have g7 := hb c7 (by simp)
 simp only [M.val8, List.getD_cons_zero, List.getD_cons_succ]
 omega
theorem val4_ok (l : List Int) (hb : ∀ x ∈ l, 0 ≤ x ∧ x ≤ 255) (h : ¬ l.length < 4) : 0 ≤ M.val4 l ∧ M.val4 l ≤ 4294967295 := by
 obtain ⟨c0, c1, c2, c3, rest, rfl⟩ := M.four l (by omega)
 have g0 := hb c0 (by simp)
 have g1 := hb c1 (by simp)
 have g2 := hb c2 (by simp)
 have g3 := hb c3 (by simp)
 simp only [M.val4, List.getD_cons_zero, List.getD_cons_succ]
 omega
/-- A number of a wire type, as_ it stands there; how many bytes it has (0: it fails). -/
def wD (w : Int) (b : List Int) (p : Int) (ends : List Int) : Int × Int := if w = 5 then fD 4 b p ends else if w = 1 then fD 8 b p ends else vD b p ends
section
variable {w : World} {B g : Nat} {A : Option Addr} {c : Nat} {b : List Int} {p : Int} {v : Value} {ends : List Int}
theorem f4_bounds (hb : ∀ x ∈ b, 0 ≤ x ∧ x ≤ 255) : 0 ≤ (fD 4 b p ends).1 ∧ (fD 4 b p ends).1 ≤ 4294967295 := by
 unfold fD fixD
 by_cases h : (seg b p ends).length < 4
 · rw [if_pos h]; simp
 · rw [if_neg h, if_pos rfl]; exact val4_ok _ (seg_bytes hb) h
theorem f8_bounds (hb : ∀ x ∈ b, 0 ≤ x ∧ x ≤ 255) : 0 ≤ (fD 8 b p ends).1 ∧ (fD 8 b p ends).1 ≤ 18446744073709551615 := by
 unfold fD fixD
 by_cases h : (seg b p ends).length < 8
 · rw [if_pos h]; simp
 · rw [if_neg h, if_neg (by decide)]; exact val8_ok _ (seg_bytes hb) h
theorem wD_facts (hi : Inv b.length p ends) (hb : ∀ x ∈ b, 0 ≤ x ∧ x ≤ 255) (k : Int) : (0 ≤ (wD k b p ends).1 ∧ (wD k b p ends).1 ≤ 18446744073709551615) ∧ 0 ≤ (wD k b p ends).2 ∧ (wD k b p ends).2 ≤ last ends - p := by
 unfold wD
 split
 · have h1 := f4_bounds (b := b) (p := p) (ends := ends) hb
   have h2 := fD_facts hi 4 (by omega)
   exact ⟨⟨h1.1, by omega⟩, h2.1, h2.2.1⟩
 · split
   · have h1 := f8_bounds (b := b) (p := p) (ends := ends) hb
     have h2 := fD_facts hi 8 (by omega)
     exact ⟨h1, h2.1, h2.2.1⟩
   · have h2 := vD_facts hi hb
     exact ⟨⟨h2.1, h2.2.1⟩, h2.2.2.1, h2.2.2.2.1⟩
theorem number_c (h : IsC w B g A c b p v ends) (hi : Inv b.length p ends) (hB : B ≤ w.heap.size) (hb : ∀ x ∈ b, 0 ≤ x ∧ x ≤ 255) (hbl : b.length ≤ 140737488359000) (ty : Int) :
   Calls Tryd.prog 28 #[.pointer (some ⟨g, 0, none⟩), .int .i64 ty] w fun e w' => e = .returned (.int .u64 (frm ty (wD (wireD ty) b p ends).1)) ∧ Moved w B g A c b v (nx p ends (wD (wireD ty) b p ends).2).1 (nx p ends (wD (wireD ty) b p ends).2).2 w' := by
 have HW := Aside0.mk (fun W => scalar_Wire.calls 2 ty (wireD ty) W (wire_eq 0 ty))
 have HF := Aside0.mk (fun (W : World) (u : Int) (h0 : 0 ≤ u) (h1 : u ≤ 18446744073709551615) => num_From.calls 3 ty u (frm ty u) W (from_eq 0 ty u h0 h1))
 have HV := Aside0.mk (fun n => Varint_c (h.drewN n) hi hB hb hbl)
 have H4 := Aside0.mk (fun n => Fixed4_c (h.drewN n) hi hB hb hbl)
 have H8 := Aside0.mk (fun n => Fixed8_c (h.drewN n) hi hB hb hbl)
 have B4 := Aside0.mk (f4_bounds (b := b) (p := p) (ends := ends) hb)
 have B8 := Aside0.mk (f8_bounds (b := b) (p := p) (ends := ends) hb)
 have hv := vD_facts hi hb
 have BV := Aside0.mk (⟨hv.1, hv.2.1⟩ : 0 ≤ (vD b p ends).1 ∧ (vD b p ends).1 ≤ 18446744073709551615)
 unfold wD
 obtain ⟨k, hk⟩ : ∃ k, k = wireD ty := ⟨_, rfl⟩
 rw [← hk] at HW ⊢
 obtain ⟨V4, hV4⟩ : ∃ V, V = fD 4 b p ends := ⟨_, rfl⟩
 obtain ⟨V8, hV8⟩ : ∃ V, V = fD 8 b p ends := ⟨_, rfl⟩
 obtain ⟨VV, hVV⟩ : ∃ V, V = vD b p ends := ⟨_, rfl⟩
 rw [← hV4] at H4 B4 ⊢
 rw [← hV8] at H8 B8 ⊢
 rw [← hVV] at HV BV ⊢
 clear h hi hB hb hbl hv hk hV4 hV8 hVV
 by_cases k5 : k = 5
 · subst k5
   rw [if_pos rfl]
   have e4 : IntKind.u64.wrap V4.1 = V4.1 := by have := B4.out; simp only [IntKind.wrap_u64]; omega
   go_enter Tryd.func28, Tryd.ntmps28
   go_wp2_with (first
     | (go_at_call 44; refine (HW.out _).mono ?_; rintro e w1 ⟨rfl, ⟨n1, rfl⟩⟩)
     | (go_at_call 45; refine (H4.out n1).mono ?_; rintro e w2 ⟨rfl, hm⟩; have HM := Aside0.mk hm; clear hm)
     | (go_at_call 48; (try rw [e4]); refine (HF.out _ _ (by have := B4.out; omega) (by have := B4.out; omega)).mono ?_; rintro e w3 ⟨rfl, b3⟩; have B3 := Aside0.mk b3; clear b3))
   go_ret
   obtain ⟨v', h', f'⟩ := HM.out
   exact ⟨rfl, v', h'.below B3.out, ((Fr.none w g n1 v).trans f').trans (Fr.of_keep (Kept.of_below B3.out) (.inl rfl))⟩
 · rw [if_neg k5]
   have d5 : decide (k = 5) = false := decide_eq_false k5
   have e5 : (k = 5) = False := eq_false k5
   by_cases k1 : k = 1
   · subst k1
     rw [if_pos rfl]
     go_enter Tryd.func28, Tryd.ntmps28
     go_wp2_with (first
      | (go_at_call 44; refine (HW.out _).mono ?_; rintro e w1 ⟨rfl, ⟨n1, rfl⟩⟩)
      | (go_at_call 46; refine (H8.out n1).mono ?_; rintro e w2 ⟨rfl, hm⟩; have HM := Aside0.mk hm; clear hm)
      | (go_at_call 48; refine (HF.out _ _ (by have := B8.out; omega) (by have := B8.out; omega)).mono ?_; rintro e w3 ⟨rfl, b3⟩; have B3 := Aside0.mk b3; clear b3))
     go_ret
     obtain ⟨v', h', f'⟩ := HM.out
     exact ⟨rfl, v', h'.below B3.out, ((Fr.none w g n1 v).trans f').trans (Fr.of_keep (Kept.of_below B3.out) (.inl rfl))⟩
   · rw [if_neg k1]
     have d1 : decide (k = 1) = false := decide_eq_false k1
     have e1 : (k = 1) = False := eq_false k1
     go_enter Tryd.func28, Tryd.ntmps28
     go_wp2_with (first
      | (go_at_call 44; refine (HW.out _).mono ?_; rintro e w1 ⟨rfl, ⟨n1, rfl⟩⟩)
      | (go_at_call 47; refine (HV.out n1).mono ?_; rintro e w2 ⟨rfl, hm⟩; have HM := Aside0.mk hm; clear hm)
      | (go_at_call 48; refine (HF.out _ _ (by have := BV.out; omega) (by have := BV.out; omega)).mono ?_; rintro e w3 ⟨rfl, b3⟩; have B3 := Aside0.mk b3; clear b3))
     go_ret
     obtain ⟨v', h', f'⟩ := HM.out
     exact ⟨rfl, v', h'.below B3.out, ((Fr.none w g n1 v).trans f').trans (Fr.of_keep (Kept.of_below B3.out) (.inl rfl))⟩
end
end Go.Proofs.YthgddlibfboehaaDoor.Un
end
section
namespace Go.Proofs.YthgddlibfboehaaDoor.Un
open Go.RowKit Go.Proofs.YthgddlibfboehaaDoorW.PrintWords Go.Proofs.YthgddlibfboehaaDoorW.PrintLast Go.Proofs.YthgddlibfboehaaDoorW.PrintMore Go.Proofs.YthgddlibfboehaaDoor.Var Go.Proofs.YthgddlibfboehaaDoor.Cur
set_option linter.unusedVariables false
/-- The numbers up to the frame's end, and where the cursor is then; at a number that is none it fails, and 0 stands last. -/
def numsD (ty : Int) (b : List Int) : Nat → Int → List Int → List Int × Int × List Int
 | 0, p, ends => ([], p, ends)
 | k + 1, p, ends => if moreB p ends = true then
   (frm ty (wD (wireD ty) b p ends).1 :: (numsD ty b k (nx p ends (wD (wireD ty) b p ends).2).1 (nx p ends (wD (wireD ty) b p ends).2).2).1,
    (numsD ty b k (nx p ends (wD (wireD ty) b p ends).2).1 (nx p ends (wD (wireD ty) b p ends).2).2).2)
  else ([], p, ends)
/-- How many rounds are left, at most. -/
def leftN (p : Int) (ends : List Int) : Nat := (last ends - p).toNat
section
variable {b : List Int} {p : Int} {ends : List Int}
theorem nx_wD_inv (hi : Inv b.length p ends) (hb : ∀ x ∈ b, 0 ≤ x ∧ x ≤ 255) (k : Int) : Inv b.length (nx p ends (wD k b p ends).2).1 (nx p ends (wD k b p ends).2).2 :=
 nx_inv hi (wD_facts hi hb k).2.1 (wD_facts hi hb k).2.2
theorem left_less (hi : Inv b.length p ends) (hb : ∀ x ∈ b, 0 ≤ x ∧ x ≤ 255) (k : Int) (hm : moreB p ends = true) : leftN (nx p ends (wD k b p ends).2).1 (nx p ends (wD k b p ends).2).2 < leftN p ends := by
 unfold moreB at hm
 simp at hm
 have hf := wD_facts hi hb k
 unfold nx leftN
 split
 · rw [last_nil rfl]
   have := hm.2
   show (0 - 0 : Int).toNat < _
   omega
 · rename_i hs
   show (last ends - (p + (wD k b p ends).2)).toNat < _
   omega
end
end Go.Proofs.YthgddlibfboehaaDoor.Un
end
section
namespace Go.Proofs.YthgddlibfboehaaDoor.Un
open Go.RowKit Go.Proofs.YthgddlibfboehaaDoorW.PrintWords Go.Proofs.YthgddlibfboehaaDoorW.PrintLast Go.Proofs.YthgddlibfboehaaDoorW.PrintMore Go.Proofs.YthgddlibfboehaaDoor.Var Go.Proofs.YthgddlibfboehaaDoor.Cur Go.Proofs.YthgddlibfboehaaDoor.PU
set_option linter.unusedVariables false
set_option linter.unusedSimpArgs false
set_option maxHeartbeats 1000000
set_option maxRecDepth 100000
theorem typed_ne {w : World} {B g k t : Nat} {v : Value} {ends : List Int} {cells : Array Value} {ok : Nat → Prop} (hr : Kd.R (Kd.int .i64) 3 w B ok v ends) (hb : w.heap[g]? = some (.cells cells t (0, 0))) (ht : t ≠ 3) (hk : v.ownBlock = some k) : k ≠ g := by
 rintro rfl
 obtain ⟨_, inner, ho, _⟩ := hr
 obtain ⟨cs, hc⟩ := own_typed ho k hk
 rw [hb] at hc
 injection hc with hc
 injection hc with _ hc
 exact ht hc
theorem own_bounds {w : World} {B k : Nat} {v : Value} {ends : List Int} {ok : Nat → Prop} (hr : Kd.R (Kd.int .i64) 3 w B ok v ends) (hk : v.ownBlock = some k) : B ≤ k ∧ k < w.heap.size := by
 obtain ⟨_, inner, ho, _⟩ := hr
 exact ⟨own_base ho k hk, own_lt ho k hk⟩
theorem fr_blk {w w' : World} {g k : Nat} {v v' : Value} {o : Obj} (f : Fr w w' g v v') (h : w.heap[k]? = some o) (hk : k ≠ g) (hv : v.ownBlock ≠ some k) : w'.heap[k]? = some o :=
 f.1.blk h hk (fun e => hv e.symm)
theorem C_typed_ne {W : World} {B g k t : Nat} {A : Option Addr} {c : Nat} {b : List Int} {p : Int} {v : Value} {ends : List Int} {cells : Array Value} (h : IsC W B g A c b p v ends) (hb : W.heap[k]? = some (.cells cells t (0, 0))) (h1 : t ≠ 75) (h2 : t ≠ 3) : k ≠ g ∧ v.ownBlock ≠ some k := by
 refine ⟨fun e => ?_, fun e => ?_⟩
 · subst e; rw [h.blk] at hb; cases hb; exact h1 rfl
 · exact typed_ne h.row hb h2 e rfl
theorem isC_move {W W' : World} {B g : Nat} {A : Option Addr} {c : Nat} {b : List Int} {p : Int} {v : Value} {ends : List Int} (h : IsC W B g A c b p v ends) (h1 : W'.heap[g]? = W.heap[g]?) (h2 : ∀ k, v.ownBlock = some k → W'.heap[k]? = W.heap[k]?) (h3 : ∀ k, k < B → W'.heap[k]? = W.heap[k]?) : IsC W' B g A c b p v ends := by
 refine ⟨h1.trans h.blk, ?_, C_move h.rd (fun ad ha hn => h3 _ (h.ap ad ha hn)), h.lc, h.ge, h.ap⟩
 obtain ⟨h0, inner, ho, hr⟩ := h.row
 exact ⟨h0, inner, own_move ho h2, hr.imp_ (fun _ _ hp => hp)⟩
theorem Ru_move {W W' : World} {base : Nat} {ok : Nat → Prop} {v : Value} {xs : List Int} (h : Kd.R (Kd.int .u64) 48 W base ok v xs) (hm : ∀ k, v.ownBlock = some k → W'.heap[k]? = W.heap[k]?) : Kd.R (Kd.int .u64) 48 W' base ok v xs := by
 obtain ⟨h0, inner, ho, hr⟩ := h
 exact ⟨h0, inner, own_move ho hm, hr.imp_ (fun _ _ hp => hp)⟩
theorem Ru_typed {W : World} {base k : Nat} {ok : Nat → Prop} {v : Value} {xs : List Int} (h : Kd.R (Kd.int .u64) 48 W base ok v xs) (hk : v.ownBlock = some k) : base ≤ k ∧ k < W.heap.size ∧ ∃ cs, W.heap[k]? = some (.cells cs 48 (0, 0)) := by
 obtain ⟨_, inner, ho, _⟩ := h
 obtain ⟨cs, hc⟩ := own_typed ho k hk
 exact ⟨own_base ho k hk, own_lt ho k hk, cs, hc⟩
/-- On the way: a cursor, and a row of numbers that is new. -/
structure NJ (w0 W : World) (B g : Nat) (A : Option Addr) (c : Nat) (b : List Int) (acc : List Int) (p : Int) (v0 v vo : Value) (ends : List Int) : Prop where
 cur : IsC W B g A c b p v ends
 out : Kd.R (Kd.int .u64) 48 W B (fun _ => True) vo acc
 new : ∀ k, vo.ownBlock = some k → w0.heap.size ≤ k
 fr : Fr w0 W g v0 v
 bel : Below B w0 W
 sz : B ≤ W.heap.size
section
variable {w0 W W' W3 : World} {B g : Nat} {A : Option Addr} {c : Nat} {b acc acc' : List Int} {p p' : Int} {v0 v vo vo' : Value} {ends ends' : List Int}
theorem NJ.moved (h : NJ w0 W B g A c b acc p v0 v vo ends) (hm : Moved W B g A c b v p' ends' W') : ∃ v', NJ w0 W' B g A c b acc p' v0 v' vo ends' := by
 obtain ⟨v', h', f⟩ := hm
 refine ⟨v', h', Ru_move h.out (fun k hk => ?_), h.new, h.fr.trans f, h.bel.trans (f.below h.sz h.cur.ge (fun k hk => (own_bounds h.cur.row hk).1)), Nat.le_trans h.sz f.1.1⟩
 obtain ⟨_, _, cs, hcs⟩ := Ru_typed h.out hk
 have n3 := C_typed_ne h.cur hcs (by decide) (by decide)
 rw [hcs]
 exact fr_blk f hcs n3.1 n3.2
theorem NJ.drawn (h : NJ w0 W B g A c b acc p v0 v vo ends) (hd : Drawn0 W W') : NJ w0 W' B g A c b acc p v0 v vo ends := by
 obtain ⟨n, rfl⟩ := hd
 exact ⟨h.cur.drewN n, Ru_move h.out (fun _ _ => rfl), h.new, h.fr.drew n, pw_below_drewN h.bel n, h.sz⟩
theorem NJ.appended (h : NJ w0 W B g A c b acc p v0 v vo ends) (ho : Kd.R (Kd.int .u64) 48 W3 B (fun _ => True) vo' acc') (hb : Below B w0 W3) (hg : W.grownBy W3 vo.ownBlock) (hat : vo'.ownBlock = vo.ownBlock ∨ ∃ k, vo'.ownBlock = some k ∧ W.heap.size ≤ k) : NJ w0 W3 B g A c b acc' p v0 v vo' ends := by
 have hW : w0.heap.size ≤ W.heap.size := h.fr.1.1
 have ne : ∀ {k t : Nat} {cells : Array Value}, W.heap[k]? = some (.cells cells t (0, 0)) → t ≠ 48 → some k ≠ vo.ownBlock := by
   intro k t cells hk ht e
   obtain ⟨_, _, cs, hcs⟩ := Ru_typed h.out e.symm
   rw [hcs] at hk
   cases hk
   exact ht rfl
 refine ⟨isC_move h.cur (hg.block g (blk_lt h.cur.blk) (ne h.cur.blk (by decide))) (fun k hk => ?_) (fun k hk => hg.block k (Nat.lt_of_lt_of_le hk h.sz) (fun e => ?_)), ho, fun k hk => ?_, ⟨⟨Nat.le_trans h.fr.1.1 hg.size, fun i h1 h2 h3 => ?_⟩, ⟨hb.os, hb.tape, hb.output⟩, h.fr.2.2⟩, hb, Nat.le_trans h.sz hg.size⟩
 · obtain ⟨_, inner, hoo, _⟩ := h.cur.row
   obtain ⟨cs, hcs⟩ := own_typed hoo k hk
   exact hg.block k (own_lt hoo k hk) (ne hcs (by decide))
 · have := (Ru_typed h.out e.symm).1
   omega
 · rcases hat with e | ⟨j, e, hj⟩
   · rw [e] at hk; exact h.new k hk
   · rw [e] at hk; injection hk with hk; omega
 · refine (hg.block i (by omega) (fun e => ?_)).trans (h.fr.1.2 i h1 h2 h3)
   have := h.new i e.symm
   omega
end
theorem infoU : (Tryd.prog.info? 48).map (fun i => (i.zero, i.size, i.bytes)) = some (some (.int .u64 0), 1, 8) := by kernel_rfl
set_option maxHeartbeats 3000000 in
theorem numbers_c {w : World} {B g : Nat} {A : Option Addr} {c : Nat} {b : List Int} {p : Int} {v : Value} {ends : List Int} (h : IsC w B g A c b p v ends) (hi : Inv b.length p ends) (hB : B ≤ w.heap.size) (hb : ∀ x ∈ b, 0 ≤ x ∧ x ≤ 255) (hbl : b.length ≤ 1000000000) (ty : Int) :
  Calls Tryd.prog 13 #[.pointer (some ⟨g, 0, none⟩), .int .i64 ty] w fun e w' => ∃ vo v', e = .returned vo ∧ NJ w w' B g A c b (numsD ty b (leftN p ends) p ends).1 (numsD ty b (leftN p ends) p ends).2.1 v v' vo (numsD ty b (leftN p ends) p ends).2.2 := by
 have hil := inv_last hi
 have hln : leftN p ends ≤ b.length := by unfold leftN; omega
 have J0 : NJ w w B g A c b [] p v v (.slice none 0 0) ends := ⟨h, Kd.R_nil _ _ _ _ _, fun k hk => by simp [Value.ownBlock] at hk, Fr.same w g v, Below.refl _ _, hB⟩
 have HJ0 := Aside0.mk J0
 have HI := Aside0.mk hi
 have HB := Aside0.mk hB
 have HBY := Aside0.mk hb
 have HBL := Aside0.mk hbl
 have HLN := Aside0.mk hln
 obtain ⟨T, hT⟩ : ∃ T, T = numsD ty b (leftN p ends) p ends := ⟨_, rfl⟩
 rw [← hT]
 have HT := Aside0.mk hT
 clear h hi hB hb hbl hil hln J0 hT
 go_enter Tryd.func13, Tryd.ntmps13
 go_wp2_with fail
 go_loopg [5] (leftN p ends) (fun kq v5 wr => ∃ (acc : List Int) (p1 : Int) (v1 vo : Value) (e1 : List Int), vo = v5 ∧ Aside0 (leftN p1 e1 ≤ kq ∧ acc.length + leftN p1 e1 ≤ leftN p ends ∧ Inv b.length p1 e1 ∧ T = (acc ++ (numsD ty b kq p1 e1).1, (numsD ty b kq p1 e1).2) ∧ NJ w wr B g A c b acc p1 v v1 vo e1))
 case atStart => exact ⟨[], p, v, _, ends, rfl, ⟨Nat.le_refl _, by simp, HI.out, by rw [HT.out]; rfl, HJ0.out⟩⟩
 case round =>
  obtain ⟨acc, p1, v1, vo, e1, rfl, HG⟩ := hrel
  obtain ⟨hk, hlen, hinv, hTT, hj⟩ := HG.out
  have HJ := Aside0.mk hj
  have HM := Aside0.mk (fun (W : World) (h : NJ w W B g A c b acc p1 v v1 vo e1) => more_c h.cur)
  cases hm : moreB p1 e1 with
  | false =>
   have hN : numsD ty b gk p1 e1 = ([], p1, e1) := by
    cases gk with
    | zero => rfl
    | succ k => simp only [numsD, hm]; rfl
   rw [hN] at hTT
   have HTT := Aside0.mk hTT
   rw [hm] at HM
   clear hk hlen hinv hTT hj hm hN HG
   go_wp2_with (first
    | (go_at_call 27; refine (HM.out _ HJ.out).mono ?_; rintro e w3 ⟨rfl, hd3⟩
       have J3 := Aside0.mk (HJ.out.drawn hd3); clear hd3))
   go_ret
   exact ⟨vo, v1, rfl, by rw [HTT.out, List.append_nil]; exact J3.out⟩
  | true =>
   have hlt := left_less hinv HBY.out (wireD ty) hm
   cases gk with
   | zero => exact absurd hlt (by omega)
   | succ k1 =>
    have hN : numsD ty b (k1 + 1) p1 e1 = (frm ty (wD (wireD ty) b p1 e1).1 :: (numsD ty b k1 (nx p1 e1 (wD (wireD ty) b p1 e1).2).1 (nx p1 e1 (wD (wireD ty) b p1 e1).2).2).1, (numsD ty b k1 (nx p1 e1 (wD (wireD ty) b p1 e1).2).1 (nx p1 e1 (wD (wireD ty) b p1 e1).2).2).2) := by rw [numsD, if_pos hm]
    rw [hN] at hTT
    have HINV := Aside0.mk (nx_wD_inv hinv HBY.out (wireD ty))
    have HNU := Aside0.mk (fun (W : World) (h : NJ w W B g A c b acc p1 v v1 vo e1) => number_c h.cur hinv h.sz HBY.out (Nat.le_trans HBL.out (by decide)) ty)
    obtain ⟨V, hV⟩ : ∃ V, V = wD (wireD ty) b p1 e1 := ⟨_, rfl⟩
    rw [← hV] at HNU hTT hlt HINV
    obtain ⟨S, hS⟩ : ∃ S, S = nx p1 e1 V.2 := ⟨_, rfl⟩
    rw [← hS] at HNU hTT hlt HINV
    obtain ⟨x, hx⟩ : ∃ x, x = frm ty V.1 := ⟨_, rfl⟩
    rw [← hx] at HNU hTT
    have HTT := Aside0.mk hTT
    have HLEN := Aside0.mk (show acc.length + 1 + leftN S.1 S.2 ≤ leftN p ends ∧ leftN S.1 S.2 ≤ k1 by omega)
    rw [hm] at HM
    clear hk hlen hinv hTT hj hm hN hlt hV hS hx HG
    go_wp2_with (first
     | (go_at_call 27; refine (HM.out _ HJ.out).mono ?_; rintro e w3 ⟨rfl, hd3⟩
        have J3 := Aside0.mk (HJ.out.drawn hd3); clear hd3)
     | (go_at_call 28; refine (HNU.out _ J3.out).mono ?_; rintro e w4 ⟨rfl, hm4⟩
        obtain ⟨v4, j4⟩ := J3.out.moved hm4
        have J4 := Aside0.mk j4; clear j4 hm4)
     | ((with_reducible refine gate_builtin (b := .append) (xs := #[.tmp 8, .tmp 12]) rfl ?_); at_builtin
        refine Kd.R_append (Kd.int .u64) (w0 := w) B rfl (.tmp 8) (.tmp 12) 25 48 (.int .u64 0) 8 rfl Tryd.underlying25 infoU rfl (by decide) (by decide) vo acc x [.int .u64 x] (fun _ => True) (fun k => some k ≠ vo.ownBlock) rfl rfl ?aM ?aK ?aF J4.out.out J4.out.bel J4.out.sz ?aL ?_
        (case aM => exact rfl)
        (case aK => exact fun k hk => ⟨trivial, hk⟩)
        (case aF => exact fun k hk => trivial)
        (case aL => have := HLEN.out; have := HLN.out; have := HBL.out; omega)
        intro vo' w5 ho5 hb5 hg5 hat5
        have J5 := Aside0.mk (J4.out.appended ho5 hb5 hg5 hat5)
        clear ho5 hb5 hg5 hat5))
    go_roundg k1
    case measure => omega
    case rel => exact ⟨acc ++ [x], S.1, v4, _, S.2, rfl, ⟨HLEN.out.2, by rw [List.length_append]; exact HLEN.out.1, HINV.out, by rw [HTT.out]; simp, J5.out⟩⟩
end Go.Proofs.YthgddlibfboehaaDoor.Un
end
section
namespace Go.Proofs.YthgddlibfboehaaDoor.TK
open Go.RowKit Go.Proofs.YthgddlibfboehaaDoor.KD Go.Proofs.YthgddlibfboehaaDoor.M Go.Proofs.YthgddlibfboehaaDoorW.PrintWords Go.Proofs.YthgddlibfboehaaDoorW.PrintLast Go.Proofs.YthgddlibfboehaaDoorW.PrintMore Go.Proofs.YthgddlibfboehaaDoor.Open
set_option linter.unusedVariables false
set_option linter.unusedSimpArgs false
set_option maxHeartbeats 1000000
set_option maxRecDepth 100000
theorem boxes {w w2 : World} {cs cs' : Array Value} {t t' : TypeId} (h : Below ((w.alloc (.cells cs t)).alloc (.cells cs' t')).heap.size ((w.alloc (.cells cs t)).alloc (.cells cs' t')) w2) : w2.heap[w.heap.size]? = some (.cells cs t (0, 0)) ∧ w2.heap[w.heap.size + 1]? = some (.cells cs' t' (0, 0)) := by
 have h1 := blk_alloc (blk_new w (.cells cs t)) (.cells cs' t')
 have h2 := blk_new (w.alloc (.cells cs t)) (.cells cs' t')
 rw [World.size_alloc] at h2
 exact ⟨(h.block _ (blk_lt h1)).trans h1, (h.block _ (blk_lt h2)).trans h2⟩
theorem b2 (w : World) (o o' : Obj) : Below w.heap.size w ((w.alloc o).alloc o') := below_alloc (below_alloc (Below.refl _ _) _) _
/-- So many cells, as_ they are. -/
def kFlat (sz : Nat) : Kd (List Value) where
 sz := sz
 E := []
 K := fun _ x cs => cs = x ∧ cs.length = sz ∧ ∀ u ∈ cs, u.oneCell' = true
 M := fun _ _ _ x cs => cs = x ∧ cs.length = sz ∧ ∀ u ∈ cs, u.oneCell' = true
 K_len := fun h => h.2.1
 K_one := fun h => h.2.2
 K_below := fun _ h => h
 K_of_M := fun h => h
 M_mono := fun _ h => h
 M_bound := fun h => h
 M_move := fun _ h => h
 M_lower := fun _ h => h
theorem flat_C {α : Type} {d : Kd α} {w : World} {A : Option Addr} {n : Nat} {xs : List α} (h : d.C w A n xs) : ∃ l : List (List Value), l.length = n ∧ (kFlat d.sz).C w A n l ∧ ∀ (i : Nat) (x : α) (c : List Value), xs[i]? = some x → l[i]? = some c → d.K w x c := by
 obtain ⟨h1, h2, h3⟩ := h
 rcases Nat.eq_zero_or_pos n with hn | hn
 · subst hn
   exact ⟨[], rfl, ⟨rfl, h2, fun h => absurd h (Nat.lt_irrefl 0)⟩, fun i x c _ hc => by simp at hc⟩
 · obtain ⟨ad, rfl, hc⟩ := h3 hn
   obtain ⟨l, hl, hp⟩ := list_of (fun i c => ∃ x, xs[i]? = some x ∧ c.length = d.sz ∧ d.K w x c ∧ ∀ j u, c[j]? = some u → w.cell? (ad.add (i * d.sz + j)) = some u) n (fun i hi => by
     have hx : xs[i]? = some xs[i] := List.getElem?_eq_getElem (by omega)
     obtain ⟨c, hc1, hc2, hc3⟩ := hc i _ hx
     exact ⟨c, xs[i], hx, hc1, hc2, hc3⟩)
   refine ⟨l, hl, ⟨hl, h2, fun _ => ⟨ad, rfl, fun j p hj => ?_⟩⟩, fun i x c hx hc => ?_⟩
   · obtain ⟨x, _, h5, h6, h7⟩ := hp j p hj
     exact ⟨p, h5, ⟨rfl, h5, d.K_one h6⟩, h7⟩
   · obtain ⟨x', h4, _, h6, _⟩ := hp i c hc
     rw [hx] at h4
     injection h4 with h4
     exact h4 ▸ h6
theorem eq_some {t e : TypeId} (hu : Tryd.prog.underlying t = some (.slice e)) (w : World) (ad : Addr) (n c : Nat) : (binOp .eql t (.slice (some ad) n c) (.slice none 0 0)).run Tryd.prog w = .ok (.bool false) w := by
 have h : ∀ d : Nat, (Op.equalIn (d + 1) t (.slice (some ad) n c) (.slice none 0 0)).run Tryd.prog w = .ok false w := fun d => by
  simp [Op.equalIn, run_underlying hu]
 simp only [binOp]
 simp [Op.equal, Op.maxDepth, h 9999]
theorem eq_none {t e : TypeId} (hu : Tryd.prog.underlying t = some (.slice e)) (w : World) (n c : Nat) : (binOp .eql t (.slice none n c) (.slice none 0 0)).run Tryd.prog w = .ok (.bool true) w := by
 have h : ∀ d : Nat, (Op.equalIn (d + 1) t (.slice none n c) (.slice none 0 0)).run Tryd.prog w = .ok true w := fun d => by
  simp [Op.equalIn, run_underlying hu]
 simp only [binOp]
 simp [Op.equal, Op.maxDepth, h 9999]
theorem infoCloneR : (Tryd.prog.info? 92).map (fun i => (i.zero, i.size, i.bytes)) = some (some (.agg #[.int .i64 0, .int .i64 0, .int .u64 0, .string ⟨#[]⟩]), 4, 40) := by kernel_rfl
theorem CloneR_c {w : World} {A : Option Addr} {c : Nat} {xs : List (List Value)} (hC : (kFlat 4).C w A xs.length xs) (hb : xs.length * 40 ≤ 140737488355328) :
   Calls Tryd.prog 89 #[.slice A xs.length c] w fun r w' => ∃ v, r = .returned v ∧ (kFlat 4).R 92 w' w.heap.size (fun _ => True) v xs ∧ Below w.heap.size w w' := by
 rcases A with _ | ad
 · have h1 : xs.length = 0 := by
    rcases Nat.eq_zero_or_pos xs.length with h | h
    · exact h
    · obtain ⟨_, h2, _⟩ := hC.2.2 h
      cases h2
   obtain rfl : xs = [] := List.length_eq_zero_iff.1 h1
   clear hC hb h1
   have q1 := eq_some Tryd.underlying39
   have q2 := eq_none Tryd.underlying39
   go_enter Tryd.func89, Tryd.ntmps89
   go_wp2
   go_ret
   exact ⟨_, rfl, Kd.R_nil _ _ _ _ _, Below.refl _ _⟩
 · have HC := Aside0.mk hC
   have HB := Aside0.mk hb
   clear hC hb
   have q1 := eq_some Tryd.underlying39
   have q2 := eq_none Tryd.underlying39
   go_enter Tryd.func89, Tryd.ntmps89
   have HO : Aside0 ((kFlat 4).R 92 (w.alloc (.cells #[] 92)) w.heap.size (fun _ => True) (.slice (some ⟨w.heap.size, 0, none⟩) 0 0) []) := ⟨⟨fun _ _ => trivial, _, ⟨rfl, .inr ⟨w.heap.size, 0, #[], rfl, Nat.le_refl _, blk_new w _, Nat.le_refl _, by decide, rfl, rfl⟩⟩, Reps.none _ _⟩⟩
   have HR := Aside0.mk (Kd.C_below HC.out (below_alloc (Below.refl _ w) (.cells #[] 92)))
   go_wp2_with (first
    | ((with_reducible refine gate_builtin (b := .append) rfl ?_); refine Kd.R_append_rows (kFlat 4) (Rr := (kFlat 4).K (w.alloc (.cells #[] 92))) (w0 := w) w.heap.size rfl (.tmp 5) (.tmp 6) 39 92 _ 40 rfl Tryd.underlying39 infoCloneR rfl (by decide) (by decide) (.slice (some ⟨w.heap.size, 0, none⟩) 0 0) [] xs (some ad) xs.length c (fun _ => True) (fun _ => False) rfl rfl HO.out HR.out (fun _ _ h => h) (fun _ h => h.elim) (fun _ _ => trivial) (below_alloc (Below.refl _ _) _) (by rw [World.size_alloc]; omega) (by have := HB.out; simp only [List.length_nil, Nat.zero_add]; exact this) ?_; intro v1 w1 h1 b1 _ _; have H1 := Aside0.mk h1; have B1 := Aside0.mk b1; clear h1 b1))
   go_ret
   exact ⟨_, rfl, by rw [← List.nil_append xs]; exact H1.out, B1.out⟩
theorem infoCloneS : (Tryd.prog.info? 54).map (fun i => (i.zero, i.size, i.bytes)) = some (some (.agg #[.int .i64 0, .slice none 0 0]), 2, 32) := by kernel_rfl
theorem CloneS_c {w : World} {A : Option Addr} {c : Nat} {xs : List (List Value)} (hC : (kFlat 2).C w A xs.length xs) (hb : xs.length * 32 ≤ 140737488355328) :
   Calls Tryd.prog 90 #[.slice A xs.length c] w fun r w' => ∃ v, r = .returned v ∧ (kFlat 2).R 54 w' w.heap.size (fun _ => True) v xs ∧ Below w.heap.size w w' := by
 rcases A with _ | ad
 · have h1 : xs.length = 0 := by
    rcases Nat.eq_zero_or_pos xs.length with h | h
    · exact h
    · obtain ⟨_, h2, _⟩ := hC.2.2 h
      cases h2
   obtain rfl : xs = [] := List.length_eq_zero_iff.1 h1
   clear hC hb h1
   have q1 := eq_some Tryd.underlying38
   have q2 := eq_none Tryd.underlying38
   go_enter Tryd.func90, Tryd.ntmps90
   go_wp2
   go_ret
   exact ⟨_, rfl, Kd.R_nil _ _ _ _ _, Below.refl _ _⟩
 · have HC := Aside0.mk hC
   have HB := Aside0.mk hb
   clear hC hb
   have q1 := eq_some Tryd.underlying38
   have q2 := eq_none Tryd.underlying38
   go_enter Tryd.func90, Tryd.ntmps90
   have HO : Aside0 ((kFlat 2).R 54 (w.alloc (.cells #[] 54)) w.heap.size (fun _ => True) (.slice (some ⟨w.heap.size, 0, none⟩) 0 0) []) := ⟨⟨fun _ _ => trivial, _, ⟨rfl, .inr ⟨w.heap.size, 0, #[], rfl, Nat.le_refl _, blk_new w _, Nat.le_refl _, by decide, rfl, rfl⟩⟩, Reps.none _ _⟩⟩
   have HR := Aside0.mk (Kd.C_below HC.out (below_alloc (Below.refl _ w) (.cells #[] 54)))
   go_wp2_with (first
    | ((with_reducible refine gate_builtin (b := .append) rfl ?_); refine Kd.R_append_rows (kFlat 2) (Rr := (kFlat 2).K (w.alloc (.cells #[] 54))) (w0 := w) w.heap.size rfl (.tmp 5) (.tmp 6) 38 54 _ 32 rfl Tryd.underlying38 infoCloneS rfl (by decide) (by decide) (.slice (some ⟨w.heap.size, 0, none⟩) 0 0) [] xs (some ad) xs.length c (fun _ => True) (fun _ => False) rfl rfl HO.out HR.out (fun _ _ h => h) (fun _ h => h.elim) (fun _ _ => trivial) (below_alloc (Below.refl _ _) _) (by rw [World.size_alloc]; omega) (by have := HB.out; simp only [List.length_nil, Nat.zero_add]; exact this) ?_; intro v1 w1 h1 b1 _ _; have H1 := Aside0.mk h1; have B1 := Aside0.mk b1; clear h1 b1))
   go_ret
   exact ⟨_, rfl, by rw [← List.nil_append xs]; exact H1.out, B1.out⟩
theorem infoCloneV : (Tryd.prog.info? 51).map (fun i => (i.zero, i.size, i.bytes)) = some (some (.agg #[.int .u64 0, .string ⟨#[]⟩, .slice none 0 0]), 3, 48) := by kernel_rfl
theorem CloneV_c {w : World} {A : Option Addr} {c : Nat} {xs : List (List Value)} (hC : (kFlat 3).C w A xs.length xs) (hb : xs.length * 48 ≤ 140737488355328) :
   Calls Tryd.prog 91 #[.slice A xs.length c] w fun r w' => ∃ v, r = .returned v ∧ (kFlat 3).R 51 w' w.heap.size (fun _ => True) v xs ∧ Below w.heap.size w w' := by
 rcases A with _ | ad
 · have h1 : xs.length = 0 := by
    rcases Nat.eq_zero_or_pos xs.length with h | h
    · exact h
    · obtain ⟨_, h2, _⟩ := hC.2.2 h
      cases h2
   obtain rfl : xs = [] := List.length_eq_zero_iff.1 h1
   clear hC hb h1
   have q1 := eq_some Tryd.underlying52
   have q2 := eq_none Tryd.underlying52
   go_enter Tryd.func91, Tryd.ntmps91
   go_wp2
   go_ret
   exact ⟨_, rfl, Kd.R_nil _ _ _ _ _, Below.refl _ _⟩
 · have HC := Aside0.mk hC
   have HB := Aside0.mk hb
   clear hC hb
   have q1 := eq_some Tryd.underlying52
   have q2 := eq_none Tryd.underlying52
   go_enter Tryd.func91, Tryd.ntmps91
   have HO : Aside0 ((kFlat 3).R 51 (w.alloc (.cells #[] 51)) w.heap.size (fun _ => True) (.slice (some ⟨w.heap.size, 0, none⟩) 0 0) []) := ⟨⟨fun _ _ => trivial, _, ⟨rfl, .inr ⟨w.heap.size, 0, #[], rfl, Nat.le_refl _, blk_new w _, Nat.le_refl _, by decide, rfl, rfl⟩⟩, Reps.none _ _⟩⟩
   have HR := Aside0.mk (Kd.C_below HC.out (below_alloc (Below.refl _ w) (.cells #[] 51)))
   go_wp2_with (first
    | ((with_reducible refine gate_builtin (b := .append) rfl ?_); refine Kd.R_append_rows (kFlat 3) (Rr := (kFlat 3).K (w.alloc (.cells #[] 51))) (w0 := w) w.heap.size rfl (.tmp 5) (.tmp 6) 52 51 _ 48 rfl Tryd.underlying52 infoCloneV rfl (by decide) (by decide) (.slice (some ⟨w.heap.size, 0, none⟩) 0 0) [] xs (some ad) xs.length c (fun _ => True) (fun _ => False) rfl rfl HO.out HR.out (fun _ _ h => h) (fun _ h => h.elim) (fun _ _ => trivial) (below_alloc (Below.refl _ _) _) (by rw [World.size_alloc]; omega) (by have := HB.out; simp only [List.length_nil, Nat.zero_add]; exact this) ?_; intro v1 w1 h1 b1 _ _; have H1 := Aside0.mk h1; have B1 := Aside0.mk b1; clear h1 b1))
   go_ret
   exact ⟨_, rfl, by rw [← List.nil_append xs]; exact H1.out, B1.out⟩
theorem infoCloneT : (Tryd.prog.info? 41).map (fun i => (i.zero, i.size, i.bytes)) = some (some (.agg #[.slice none 0 0, .slice none 0 0]), 2, 48) := by kernel_rfl
theorem CloneT_c {w : World} {A : Option Addr} {c : Nat} {xs : List (List Value)} (hC : (kFlat 2).C w A xs.length xs) (hb : xs.length * 48 ≤ 140737488355328) :
   Calls Tryd.prog 96 #[.slice A xs.length c] w fun r w' => ∃ v, r = .returned v ∧ (kFlat 2).R 41 w' w.heap.size (fun _ => True) v xs ∧ Below w.heap.size w w' := by
 rcases A with _ | ad
 · have h1 : xs.length = 0 := by
    rcases Nat.eq_zero_or_pos xs.length with h | h
    · exact h
    · obtain ⟨_, h2, _⟩ := hC.2.2 h
      cases h2
   obtain rfl : xs = [] := List.length_eq_zero_iff.1 h1
   clear hC hb h1
   have q1 := eq_some Tryd.underlying49
   have q2 := eq_none Tryd.underlying49
   go_enter Tryd.func96, Tryd.ntmps96
   go_wp2
   go_ret
   exact ⟨_, rfl, Kd.R_nil _ _ _ _ _, Below.refl _ _⟩
 · have HC := Aside0.mk hC
   have HB := Aside0.mk hb
   clear hC hb
   have q1 := eq_some Tryd.underlying49
   have q2 := eq_none Tryd.underlying49
   go_enter Tryd.func96, Tryd.ntmps96
   have HO : Aside0 ((kFlat 2).R 41 (w.alloc (.cells #[] 41)) w.heap.size (fun _ => True) (.slice (some ⟨w.heap.size, 0, none⟩) 0 0) []) := ⟨⟨fun _ _ => trivial, _, ⟨rfl, .inr ⟨w.heap.size, 0, #[], rfl, Nat.le_refl _, blk_new w _, Nat.le_refl _, by decide, rfl, rfl⟩⟩, Reps.none _ _⟩⟩
   have HR := Aside0.mk (Kd.C_below HC.out (below_alloc (Below.refl _ w) (.cells #[] 41)))
   go_wp2_with (first
    | ((with_reducible refine gate_builtin (b := .append) rfl ?_); refine Kd.R_append_rows (kFlat 2) (Rr := (kFlat 2).K (w.alloc (.cells #[] 41))) (w0 := w) w.heap.size rfl (.tmp 5) (.tmp 6) 49 41 _ 48 rfl Tryd.underlying49 infoCloneT rfl (by decide) (by decide) (.slice (some ⟨w.heap.size, 0, none⟩) 0 0) [] xs (some ad) xs.length c (fun _ => True) (fun _ => False) rfl rfl HO.out HR.out (fun _ _ h => h) (fun _ h => h.elim) (fun _ _ => trivial) (below_alloc (Below.refl _ _) _) (by rw [World.size_alloc]; omega) (by have := HB.out; simp only [List.length_nil, Nat.zero_add]; exact this) ?_; intro v1 w1 h1 b1 _ _; have H1 := Aside0.mk h1; have B1 := Aside0.mk b1; clear h1 b1))
   go_ret
   exact ⟨_, rfl, by rw [← List.nil_append xs]; exact H1.out, B1.out⟩
end Go.Proofs.YthgddlibfboehaaDoor.TK
end
section
namespace Go.Proofs.YthgddlibfboehaaDoor.TK
open Go.RowKit Go.Proofs.YthgddlibfboehaaDoor.Ops Go.Proofs.YthgddlibfboehaaDoor.KD Go.Proofs.YthgddlibfboehaaDoor.M Go.Proofs.YthgddlibfboehaaDoorW.PrintWords Go.Proofs.YthgddlibfboehaaDoorW.PrintLast Go.Proofs.YthgddlibfboehaaDoorW.PrintMore Go.Proofs.YthgddlibfboehaaDoor.Open
set_option linter.unusedVariables false
set_option linter.unusedSimpArgs false
section
variable {d : Kd TT} {w : World}
theorem kV_open {x : TV} {cs : List Value} (h : (g51 d).K w x cs) : ∃ A c, cs = [.int .u64 x.f0, .string x.f1, .slice A x.f2.length c] ∧ x.f2.length ≤ c ∧ d.C w A x.f2.length x.f2 := by
 obtain ⟨_, _, rfl, rfl, ⟨_, _, rfl, rfl, ⟨A, c, rfl, l, g⟩⟩⟩ := h
 exact ⟨A, c, rfl, l, g⟩
theorem kS_open {x : TS} {cs : List Value} (h : (g54 d).K w x cs) : ∃ A c, cs = [.int .i64 x.f0, .slice A x.f1.length c] ∧ x.f1.length ≤ c ∧ (g51 d).C w A x.f1.length x.f1 := by
 obtain ⟨_, _, rfl, rfl, ⟨A, c, rfl, l, g⟩⟩ := h
 exact ⟨A, c, rfl, l, g⟩
theorem kT_open {x : TT} {cs : List Value} (h : (F41 d).K w x cs) : ∃ A c A' c', cs = [.slice A x.f0.length c, .slice A' x.f1.length c'] ∧ x.f0.length ≤ c ∧ (g54 d).C w A x.f0.length x.f0 ∧ x.f1.length ≤ c' ∧ k92.C w A' x.f1.length x.f1 := by
 obtain ⟨_, _, rfl, ⟨A, c, rfl, l, g⟩, ⟨A', c', rfl, l', g'⟩⟩ := h
 exact ⟨A, c, A', c', rfl, l, g, l', g'⟩
end
/-- Whatever stands for trees: two slices. -/
structure Two {β : Type} (d : Kd β) : Prop where
 sz : d.sz = 2
 two : ∀ {w : World} {x : β} {cs : List Value}, d.K w x cs → ∃ A n c A' n' c', cs = [.slice A n c, .slice A' n' c']
theorem F_two (d : Kd TT) : Two (F41 d) := ⟨rfl, fun h => by
 obtain ⟨A, c, A', c', rfl, _⟩ := kT_open h
 exact ⟨_, _, _, _, _, _, rfl⟩⟩
theorem upto_two (E_ : List Nat) : ∀ n, Two (Kd.upto F41 2 E_ n)
 | 0 => ⟨rfl, fun h => h.elim⟩
 | n + 1 => F_two _
/-- The first i elements are new (own rows, none of them this block), the others stand as_ they were. -/
structure Half (P : Nat → Prop) {α : Type} (d : Kd α) (e G base n cap i : Nat) (ys : List α) (olds : List (List Value)) (w : World) : Prop where
 is : ∃ (news sp : List Value) (cur : Array Value), w.heap[G]? = some (.cells cur e (0, 0)) ∧ cur.toList = news ++ ((olds.drop i).flatten ++ sp) ∧ cur.size = cap * d.sz ∧ Reps (d.M w base (fun k => P k ∧ k ≠ G)) d.sz ys news
 ln : ys.length = i
 lo : olds.length = n
 hn : i ≤ n
 hc : n ≤ cap
 hm : cap ≤ maxLen
 hb : base ≤ G
 hs : ∀ x ∈ olds, x.length = d.sz
 pg : P G
theorem reps_flat {R : List Value → List Value → Prop} {sz : Nat} (hR : ∀ x cs, R x cs → cs = x) : ∀ {olds : List (List Value)} {inner : List Value}, Reps R sz olds inner → inner = olds.flatten
 | [], inner, h => by
  have := h.1
  simp at this
  simp [this]
 | x :: r, inner, h => by
  have h0 := hR _ _ (h.2 0 x rfl)
  rw [Nat.zero_mul, List.drop_zero] at h0
  have h1 : Reps R sz r (inner.drop sz) := by
   refine ⟨by rw [List.length_drop, h.1, List.length_cons, Nat.add_mul, Nat.one_mul]; omega, fun j p hj => ?_⟩
   have := h.2 (j + 1) p (by simpa using hj)
   rw [List.drop_drop]
   rwa [show (j + 1) * sz = sz + j * sz by rw [Nat.add_mul, Nat.one_mul, Nat.add_comm]] at this
  rw [List.flatten_cons, ← reps_flat hR h1, ← h0, List.take_append_drop]
theorem reps_mem {R : List Value → List Value → Prop} {sz : Nat} {olds : List (List Value)} {inner : List Value} (h : Reps R sz olds inner) (hR : ∀ x cs, R x cs → x.length = sz) : ∀ x ∈ olds, x.length = sz := by
 intro x hx
 obtain ⟨i, hi⟩ := List.getElem?_of_mem hx
 exact hR _ _ (h.2 i x hi)
theorem Half.start {P : Nat → Prop} {α : Type} {d : Kd α} {e base : Nat} {w : World} {v : Value} {olds : List (List Value)} (h : (kFlat d.sz).R e w base P v olds) (h0 : 0 < olds.length) : ∃ G cap, v = .slice (some ⟨G, 0, none⟩) olds.length cap ∧ Half P d e G base olds.length cap 0 ([] : List α) olds w := by
 obtain ⟨h0', inner, ⟨h1, h2⟩, hr⟩ := h
 rcases h2 with ⟨_, h2⟩ | ⟨G, cap, cur, rfl, hb, hh, hn, hm, hs, ht⟩
 · omega
 · refine ⟨G, cap, rfl, ⟨[], cur.toList.drop (olds.length * d.sz), cur, hh, ?_, hs, Reps.none _ _⟩, rfl, rfl, Nat.zero_le _, hn, hm, hb, reps_mem hr (fun x cs hx => by rw [← hx.1]; exact hx.2.1), h0' G rfl⟩
   have := reps_flat (fun x cs hx => hx.1) hr
   rw [List.nil_append, List.drop_zero, ← this, ← ht]
   exact (List.take_append_drop _ _).symm
theorem Half.below {P : Nat → Prop} {α : Type} {d : Kd α} {e G base n cap i : Nat} {ys : List α} {olds : List (List Value)} {w w' : World} (h : Half P d e G base n cap i ys olds w) (hb : Below w.heap.size w w') : Half P d e G base n cap i ys olds w' := by
 obtain ⟨⟨news, sp, cur, h1, h2, h3, h4⟩, _, _, _, _, _, _, _, _⟩ := h
 exact ⟨⟨news, sp, cur, blk_below h1 hb, h2, h3, h4.imp_ (fun _ _ hp => Kd.M_below hp hb)⟩, ‹_›, ‹_›, ‹_›, ‹_›, ‹_›, ‹_›, ‹_›, ‹_›⟩
theorem Half.cell {P : Nat → Prop} {α : Type} {d : Kd α} {e G base n cap i : Nat} {ys : List α} {olds : List (List Value)} {w : World} (h : Half P d e G base n cap i ys olds w) {o : List Value} (ho : olds[i]? = some o) {j : Nat} {u : Value} (hj : o[j]? = some u) : w.cell? ⟨G, i * d.sz + j, none⟩ = some u ∧ w.frozen? ⟨G, i * d.sz + j, none⟩ = false := by
 obtain ⟨⟨news, sp, cur, h1, h2, h3, h4⟩, ln, lo, hn, hc, hm, hb, hs, pg⟩ := h
 obtain ⟨hi, rfl⟩ := List.getElem?_eq_some_iff.1 ho
 have hl : news.length = i * d.sz := by rw [h4.1, ln]
 refine ⟨?_, blk_frozen h1 _⟩
 rw [blk_cell h1, ← Array.getElem?_toList, h2, List.getElem?_append_right (by omega), hl, Nat.add_sub_cancel_left, List.drop_eq_getElem_cons hi, List.flatten_cons, List.append_assoc, List.getElem?_append_left (List.getElem?_eq_some_iff.1 hj).1]
 exact hj
/-- A store below the base touches neither the row nor what hangs on it. -/
theorem Half.low {P : Nat → Prop} {α : Type} {d : Kd α} {e G base n cap i : Nat} {ys : List α} {olds : List (List Value)} {w : World} (h : Half P d e G base n cap i ys olds w) {p : Addr} (hp : p.block < base) (u : Value) : Half P d e G base n cap i ys olds (w.setCell p u) := by
 obtain ⟨⟨news, sp, cur, h1, h2, h3, h4⟩, ln, lo, hn, hc, hm, hb, hs, pg⟩ := h
 refine ⟨⟨news, sp, cur, (Below.heap_setCell w p u G (by omega)).trans h1, h2, h3, h4.imp_ (fun _ _ hq => ?_)⟩, ln, lo, hn, hc, hm, hb, hs, pg⟩
 exact d.M_mono (fun k hk => hk.1) (d.M_move (fun k hk => Below.heap_setCell w p u k (by have := hk.2.1; omega)) (d.M_bound hq))
/-- All is new. -/
theorem Half.done {P : Nat → Prop} {α : Type} {d : Kd α} {e G base n cap : Nat} {ys : List α} {olds : List (List Value)} {w : World} (h : Half P d e G base n cap n ys olds w) : d.R e w base P (.slice (some ⟨G, 0, none⟩) n cap) ys := by
 obtain ⟨⟨news, sp, cur, h1, h2, h3, h4⟩, ln, lo, hn, hc, hm, hb, hs, pg⟩ := h
 have hl : news.length = n * d.sz := by rw [h4.1, ln]
 refine ⟨fun k hk => by injection hk with hk; exact hk ▸ pg, news, ⟨by rw [hl, ln], .inr ⟨G, cap, cur, by rw [ln], hb, h1, by omega, hm, h3, ?_⟩⟩, h4.imp_ (fun x cs hp => d.M_mono (fun k hk => ⟨hk.1, fun hh => hk.2 (by injection hh)⟩) hp)⟩
 rw [ln, h2, ← hl, List.take_left']
 rfl
theorem Half.step2 {P : Nat → Prop} {α : Type} {d : Kd α} {e G base n cap i : Nat} {ys : List α} {olds : List (List Value)} {w : World} (h : Half P d e G base n cap i ys olds w) (hi : i < n) (hd : d.sz = 2) {y : α} {u0 u1 : Value} (hy : d.M w base (fun k => P k ∧ k ≠ G) y [u0, u1]) :
  Half P d e G base n cap (i + 1) (ys ++ [y]) olds ((w.setCell ⟨G, i * 2, none⟩ u0).setCell ⟨G, i * 2 + 1, none⟩ u1) := by
 obtain ⟨⟨news, sp, cur, h1, h2, h3, h4⟩, ln, lo, hn, hc, hm, hb, hs, pg⟩ := h
 have hl : news.length = i * 2 := by rw [h4.1, ln, hd]
 have hio : i < olds.length := by omega
 have ho : (olds[i]).length = 2 := by rw [hs _ (List.getElem_mem _), hd]
 rw [List.drop_eq_getElem_cons hio, List.flatten_cons] at h2
 generalize olds[i] = o at h2 ho
 match o, ho with
 | [a0, a1], _ =>
  have b0 := blk_put h1 (i * 2) u0 rfl
  have b1 := blk_put b0 (i * 2 + 1) u1 rfl
  refine ⟨⟨news ++ [u0, u1], sp, _, b1, ?_, ?_, ?_⟩, by rw [List.length_append, ln]; rfl, lo, hi, hc, hm, hb, hs, pg⟩
  · simp only [Array.toList_setIfInBounds, h2]
    rw [← hl]
    simp [List.set_append]
  · simp only [Array.size_setIfInBounds]
    exact h3
  · refine Reps.snoc (h4.imp_ (fun _ _ hp => Kd.M_far (Kd.M_far (hp) (fun k hk => hk.2) _) (fun k hk => hk.2) _)) (Kd.M_far (Kd.M_far (hy) (fun k hk => hk.2) _) (fun k hk => hk.2) _) (by rw [hd]; rfl)
theorem Half.step3 {P : Nat → Prop} {α : Type} {d : Kd α} {e G base n cap i : Nat} {ys : List α} {olds : List (List Value)} {w : World} (h : Half P d e G base n cap i ys olds w) (hi : i < n) (hd : d.sz = 3) {y : α} {u0 u1 u2 : Value} (hy : d.M w base (fun k => P k ∧ k ≠ G) y [u0, u1, u2]) :
  Half P d e G base n cap (i + 1) (ys ++ [y]) olds (((w.setCell ⟨G, i * 3, none⟩ u0).setCell ⟨G, i * 3 + 1, none⟩ u1).setCell ⟨G, i * 3 + 2, none⟩ u2) := by
 obtain ⟨⟨news, sp, cur, h1, h2, h3, h4⟩, ln, lo, hn, hc, hm, hb, hs, pg⟩ := h
 have hl : news.length = i * 3 := by rw [h4.1, ln, hd]
 have hio : i < olds.length := by omega
 have ho : (olds[i]).length = 3 := by rw [hs _ (List.getElem_mem _), hd]
 rw [List.drop_eq_getElem_cons hio, List.flatten_cons] at h2
 generalize olds[i] = o at h2 ho
 match o, ho with
 | [a0, a1, a2], _ =>
  have b0 := blk_put h1 (i * 3) u0 rfl
  have b1 := blk_put b0 (i * 3 + 1) u1 rfl
  have b2 := blk_put b1 (i * 3 + 2) u2 rfl
  refine ⟨⟨news ++ [u0, u1, u2], sp, _, b2, ?_, ?_, ?_⟩, by rw [List.length_append, ln]; rfl, lo, hi, hc, hm, hb, hs, pg⟩
  · simp only [Array.toList_setIfInBounds, h2]
    rw [← hl]
    simp [List.set_append]
  · simp only [Array.size_setIfInBounds]
    exact h3
  · refine Reps.snoc (h4.imp_ (fun _ _ hp => Kd.M_far (Kd.M_far (Kd.M_far (hp) (fun k hk => hk.2) _) (fun k hk => hk.2) _) (fun k hk => hk.2) _)) (Kd.M_far (Kd.M_far (Kd.M_far (hy) (fun k hk => hk.2) _) (fun k hk => hk.2) _) (fun k hk => hk.2) _) (by rw [hd]; rfl)
/-- What stands there is an own one already. -/
theorem Half.take {P : Nat → Prop} {α : Type} {d : Kd α} {e G base n cap i : Nat} {ys : List α} {olds : List (List Value)} {w : World} (h : Half P d e G base n cap i ys olds w) {o : List Value} (ho : olds[i]? = some o) {y : α} (hy : d.M w base (fun k => P k ∧ k ≠ G) y o) (hi : i < n) : Half P d e G base n cap (i + 1) (ys ++ [y]) olds w := by
 obtain ⟨⟨news, sp, cur, h1, h2, h3, h4⟩, ln, lo, hn, hc, hm, hb, hs, pg⟩ := h
 obtain ⟨hio, rfl⟩ := List.getElem?_eq_some_iff.1 ho
 rw [List.drop_eq_getElem_cons hio, List.flatten_cons] at h2
 refine ⟨⟨news ++ olds[i], sp, cur, h1, by rw [h2, List.append_assoc, List.append_assoc], h3, Reps.snoc h4 hy (hs _ (List.getElem_mem _))⟩, by rw [List.length_append, ln]; rfl, lo, hi, hc, hm, hb, hs, pg⟩
/-- One cell of the next one is turned. -/
theorem Half.turn2 {P : Nat → Prop} {α : Type} {d : Kd α} {e G base n cap i : Nat} {ys : List α} {olds : List (List Value)} {w : World} (h : Half P d e G base n cap i ys olds w) (hd : d.sz = 2) {a0 a1 : Value} (ho : olds[i]? = some [a0, a1]) (u : Value) : Half P d e G base n cap i ys (olds.set i [a0, u]) (w.setCell ⟨G, i * 2 + 1, none⟩ u) := by
 obtain ⟨⟨news, sp, cur, h1, h2, h3, h4⟩, ln, lo, hn, hc, hm, hb, hs, pg⟩ := h
 have hl : news.length = i * 2 := by rw [h4.1, ln, hd]
 obtain ⟨hio, he⟩ := List.getElem?_eq_some_iff.1 ho
 rw [List.drop_eq_getElem_cons hio, List.flatten_cons, he] at h2
 have h5 : (olds.set i [a0, u]).drop i = [a0, u] :: olds.drop (i + 1) := by
   rw [List.drop_eq_getElem_cons (by rw [List.length_set]; exact hio), List.getElem_set_self, List.drop_set_of_lt (by omega)]
 have b1 := blk_put h1 (i * 2 + 1) u rfl
 refine ⟨⟨news, sp, _, b1, ?_, ?_, h4.imp_ (fun _ _ hp => Kd.M_far hp (fun k hk => hk.2) _)⟩, ln, by rw [List.length_set]; exact lo, hn, hc, hm, hb, fun x hx => ?_, pg⟩
 · rw [h5, List.flatten_cons]
   simp only [Array.toList_setIfInBounds, h2]
   rw [← hl]
   simp [List.set_append]
 · simp only [Array.size_setIfInBounds]
   exact h3
 · rcases List.mem_or_eq_of_mem_set hx with hx | rfl
   · exact hs x hx
   · rw [hd]; rfl
/-- A row half written, or none. -/
def HV (P : Nat → Prop) {α : Type} (d : Kd α) (e base n k : Nat) (v : Value) (ys : List α) (olds : List (List Value)) (w : World) : Prop :=
 (n = 0 ∧ k = 0 ∧ ys = [] ∧ d.R e w base P v []) ∨ (0 < n ∧ ∃ G c, v = .slice (some ⟨G, 0, none⟩) n c ∧ Half P d e G base n c k ys olds w)
theorem R_empty {P : Nat → Prop} {α : Type} {d : Kd α} {e base : Nat} {w : World} {v : Value} (h : (kFlat d.sz).R e w base P v []) : d.R e w base P v ([] : List α) := by
 obtain ⟨h0, inner, h1, hr⟩ := h
 have := hr.1
 simp at this
 subst this
 exact ⟨h0, [], h1, Reps.none _ _⟩
theorem HV.start {P : Nat → Prop} {α : Type} {d : Kd α} {e base : Nat} {w : World} {v : Value} {olds : List (List Value)} (h : (kFlat d.sz).R e w base P v olds) : HV P d e base olds.length 0 v ([] : List α) olds w := by
 rcases Nat.eq_zero_or_pos olds.length with hz | hp
 · obtain rfl := List.length_eq_zero_iff.1 hz
   exact .inl ⟨rfl, rfl, rfl, R_empty h⟩
 · obtain ⟨G, c, rfl, hh⟩ := Half.start (d := d) h hp
   exact .inr ⟨hp, G, c, rfl, hh⟩
theorem HV.below {P : Nat → Prop} {α : Type} {d : Kd α} {e base n k : Nat} {v : Value} {ys : List α} {olds : List (List Value)} {w w' : World} (h : HV P d e base n k v ys olds w) (hb : Below w.heap.size w w') : HV P d e base n k v ys olds w' := by
 rcases h with ⟨h1, h2, h3, h4⟩ | ⟨h1, G, c, h2, h3⟩
 · exact .inl ⟨h1, h2, h3, Kd.R_below h4 hb⟩
 · exact .inr ⟨h1, G, c, h2, h3.below hb⟩
theorem HV.done {P : Nat → Prop} {α : Type} {d : Kd α} {e base n : Nat} {v : Value} {ys : List α} {olds : List (List Value)} {w : World} (h : HV P d e base n n v ys olds w) : d.R e w base P v ys := by
 rcases h with ⟨h1, h2, h3, h4⟩ | ⟨h1, G, c, h2, h3⟩
 · rw [h3]; exact h4
 · rw [h2]; exact h3.done
theorem HV.low {P : Nat → Prop} {α : Type} {d : Kd α} {e base n k : Nat} {v : Value} {ys : List α} {olds : List (List Value)} {w : World} (h : HV P d e base n k v ys olds w) {p : Addr} (hp : p.block < base) (u : Value) : HV P d e base n k v ys olds (w.setCell p u) := by
 rcases h with ⟨h1, h2, h3, h4⟩ | ⟨h1, G, c, h2, h3⟩
 · exact .inl ⟨h1, h2, h3, Kd.R_mono (Kd.R_far (Kd.R_bound h4) (fun k hk => by have := hk.2.1; omega) _) (fun _ hk => hk.1)⟩
 · exact .inr ⟨h1, G, c, h2, h3.low hp u⟩
section
variable {d : Kd TT} {w : World} {base : Nat} {ok : Nat → Prop}
theorem kV_openM {x : TV} {cs : List Value} (h : (g51 d).M w base ok x cs) : ∃ v, cs = [.int .u64 x.f0, .string x.f1, v] ∧ d.R 41 w base ok v x.f2 := by
 obtain ⟨_, _, rfl, rfl, ⟨_, _, rfl, rfl, ⟨v, rfl, g⟩⟩⟩ := h
 exact ⟨v, rfl, g⟩
theorem kV_mkM {x : TV} {v : Value} (g : d.R 41 w base ok v x.f2) : (g51 d).M w base ok x [.int .u64 x.f0, .string x.f1, v] :=
 ⟨[.int .u64 x.f0], _, rfl, rfl, ⟨[.string x.f1], _, rfl, rfl, ⟨v, rfl, g⟩⟩⟩
theorem kS_mkM {x : TS} {v : Value} (g : (g51 d).R 51 w base ok v x.f1) : (g54 d).M w base ok x [.int .i64 x.f0, v] :=
 ⟨[.int .i64 x.f0], _, rfl, rfl, ⟨v, rfl, g⟩⟩
theorem kT_mkM {x : TT} {v v' : Value} (g : (g54 d).R 54 w base (fun k => ok k ∧ some k ≠ v'.ownBlock) v x.f0) (g' : k92.R 92 w base ok v' x.f1) : (F41 d).M w base ok x [v, v'] :=
 ⟨[v], [v'], rfl, ⟨v, rfl, Kd.R_mono g (fun k hk => ⟨hk.1, fun u hu => by rw [List.mem_singleton.1 hu]; exact hk.2⟩)⟩, ⟨v', rfl, g'⟩⟩
end
/-- A function makes an own one of what it is handed. -/
def Copies {α : Type} (d : Kd α) (ok : α → Prop) (F : FuncId) : Prop :=
 ∀ (w : World) (x : α) (cs : List Value), d.K w x cs → ok x → Calls Tryd.prog F #[.agg cs.toArray] w fun r w' => (∃ cs', r = .returned (.agg cs'.toArray) ∧ d.M w' w.heap.size (fun _ => True) x cs') ∧ Below w.heap.size w w'
end Go.Proofs.YthgddlibfboehaaDoor.TK
end
section
namespace Go.Proofs.YthgddlibfboehaaDoor.TK
open Go.RowKit Go.Proofs.YthgddlibfboehaaDoor.Ops Go.Proofs.YthgddlibfboehaaDoor.KD Go.Proofs.YthgddlibfboehaaDoor.M Go.Proofs.YthgddlibfboehaaDoorW.PrintWords Go.Proofs.YthgddlibfboehaaDoorW.PrintLast Go.Proofs.YthgddlibfboehaaDoorW.PrintMore Go.Proofs.YthgddlibfboehaaDoor.Open
set_option linter.unusedVariables false
set_option linter.unusedSimpArgs false
set_option maxHeartbeats 1000000
set_option maxRecDepth 100000
theorem copied_c {d : Kd TT} {ok : TT → Prop} (hd : Two d) (HD : Copies d ok 78) : Copies (g51 d) (okVal ok) 92 := by
  intro w v cs h hok
  obtain ⟨A, c, rfl, hl, hC⟩ := kV_open h
  obtain ⟨olds, ho1, ho2, ho3⟩ := flat_C hC
  obtain ⟨wz, hwz⟩ : ∃ wz, wz = (w.alloc (.cells #[.int .u64 v.f0, .string v.f1, .slice A v.f2.length c] 51)).alloc (.cells #[.int .u64 0, .string ⟨#[]⟩, .slice none 0 0] 51) := ⟨_, rfl⟩
  have HWZ := Aside0.mk hwz
  have bz : Below w.heap.size w wz := by rw [hwz]; exact b2 _ _ _
  have HBX : Aside0 (∀ w2, Below wz.heap.size wz w2 → w2.heap[w.heap.size]? = some (.cells #[.int .u64 v.f0, .string v.f1, .slice A v.f2.length c] 51 (0, 0)) ∧ w2.heap[w.heap.size + 1]? = some (.cells #[.int .u64 0, .string ⟨#[]⟩, .slice none 0 0] 51 (0, 0))) := ⟨fun w2 h2 => by rw [hwz] at h2; exact boxes h2⟩
  rw [hd.sz] at ho2
  rw [← ho1] at ho2
  have HCL := Aside0.mk (CloneT_c (c := c) (Kd.C_below ho2 bz) (by have := hok.2.2.1; rw [ho1]; exact Nat.le_trans this (by decide)))
  rw [ho1] at HCL
  have BZ := Aside0.mk bz
  have HQ := Aside0.mk HD
  have HO1 := Aside0.mk ho1
  have HO3 := Aside0.mk ho3
  have HOK := Aside0.mk hok
  have HM := Aside0.mk (Kd.C_max hC)
  have HC := Aside0.mk hC
  clear hwz bz ho1 ho2 ho3 hok hC hl h HD
  go_enter Tryd.func92, Tryd.ntmps92
  go_wp2_with (first
    | (go_at_call 96; rw [← HWZ.out]; refine HCL.out.mono ?_; rintro r w1 ⟨vv, rfl, hR, b1⟩
       obtain ⟨A', c', rfl⟩ := Kd.R_slice hR
       have HR := Aside0.mk hR
       have B1 := Aside0.mk b1
       have z0 := (blk_cell (HBX.out _ b1).1 2).trans rfl
       have f0 := blk_frozen (HBX.out _ b1).1 2
       clear hR b1))
  have HO1' := HO1.out
  have hgz : w.heap.size < wz.heap.size := by rw [HWZ.out]; simp only [World.size_alloc]; omega
  have bx1 := blk_put (HBX.out _ B1.out).1 2 (.slice A' olds.length c') rfl
  have bx2 := (Below.heap_setCell w1 ⟨w.heap.size, 2, none⟩ (.slice A' olds.length c') (w.heap.size + 1) (by simp)).trans (HBX.out _ B1.out).2
  by_cases hz : v.f2.length = 0
  · have ho : olds = [] := List.length_eq_zero_iff.1 (by omega)
    have c1 : decide ((0 : Int) < (olds.length : Int)) = false := decide_eq_false (by omega)
    have c2 : decide (0 < olds.length) = false := decide_eq_false (by omega)
    obtain ⟨W0, hW0⟩ : ∃ W0, W0 = w1.setCell ⟨w.heap.size, 2, none⟩ (.slice A' olds.length c') := ⟨_, rfl⟩
    rw [← hW0] at bx1 bx2
    rw [← hW0]
    have HR0 : Aside0 (d.R 41 w1 wz.heap.size (fun _ => True) (.slice A' olds.length c') v.f2) := ⟨by
      have h1 := HR.out
      rw [ho, ← hd.sz] at h1
      rw [ho, List.length_eq_zero_iff.1 hz]
      exact R_empty h1⟩
    have HW0 := Aside0.mk hW0
    have BX1 := Aside0.mk bx1
    have BX2 := Aside0.mk bx2
    clear hW0 bx1 bx2 z0 f0 ho hz HO1'
    go_loopg [12] 0 (fun kq v12 w' => v12 = .int .i64 0 ∧ Aside0 (w' = W0))
    case atStart => exact ⟨rfl, ⟨rfl⟩⟩
    case round =>
      obtain ⟨rfl, hw⟩ := hrel
      obtain rfl := hw.out
      have a0 := (blk_cell BX1.out 0).trans rfl
      have a1 := (blk_cell BX1.out 1).trans rfl
      have a2 := (blk_cell BX1.out 2).trans rfl
      have b0 := (blk_cell BX2.out 0).trans rfl
      have b1 := (blk_cell BX2.out 1).trans rfl
      have b2 := (blk_cell BX2.out 2).trans rfl
      have f0 := blk_frozen BX2.out 0
      have f1 := blk_frozen BX2.out 1
      have f2 := blk_frozen BX2.out 2
      go_wp2
      have hw2 : w.heap.size + 2 ≤ wz.heap.size := by rw [HWZ.out]; simp only [World.size_alloc]; omega
      have e1 := blk_put BX2.out 0 (.int .u64 v.f0) rfl
      have e2 := blk_put e1 1 (.string v.f1) rfl
      have e3 := blk_put e2 2 (.slice A' olds.length c') rfl
      refine bodyPost_ret (v := .agg #[.int .u64 v.f0, .string v.f1, .slice A' olds.length c']) (results_cell_row rfl _ _ (w.heap.size + 1) 51 _ _ _ rfl e3 Tryd.underlying51 rfl (by kernel_rfl)) rfl ⟨⟨[.int .u64 v.f0, .string v.f1, .slice A' olds.length c'], rfl, kV_mkM ?_⟩, ?_⟩
      · have h1 := Kd.R_bound HR0.out
        have hne : ∀ q : Nat, q ≤ w.heap.size + 1 → ∀ j, (True ∧ wz.heap.size ≤ j ∧ j < w1.heap.size ∧ ∃ q, q ∈ 41 :: d.E ∧ ∃ cells, w1.heap[j]? = some (.cells cells q (0, 0))) → j ≠ q := fun q hq j hj => by have := hj.2.1; omega
        rw [HW0.out]
        exact Kd.R_lower (Kd.R_mono (Kd.R_far (Kd.R_far (Kd.R_far (Kd.R_far h1 (hne w.heap.size (by omega)) _) (hne _ (Nat.le_refl _)) _) (hne _ (Nat.le_refl _)) _) (hne _ (Nat.le_refl _)) _) (fun _ _ => trivial)) (by omega)
      · rw [HW0.out]
        exact ((((BZ.out.trans (B1.out.mono BZ.out.size)).setCell (Nat.le_refl _) _).setCell (by show w.heap.size ≤ w.heap.size + 1; omega) _).setCell (by show w.heap.size ≤ w.heap.size + 1; omega) _).setCell (by show w.heap.size ≤ w.heap.size + 1; omega) _
  · obtain ⟨G, cap, hv, hh⟩ := Half.start (d := d) (by rw [hd.sz]; exact HR.out) (by omega)
    injection hv with hv1 hv2 hv3
    subst hv1
    subst hv3
    have HH := Aside0.mk (hh.low (p := ⟨w.heap.size, 2, none⟩) hgz (.slice (some ⟨G, 0, none⟩) olds.length c'))
    have BX1 := Aside0.mk bx1
    have BX2 := Aside0.mk bx2
    clear hh bx1 bx2 hv2 z0 f0
    rw [HO1'] at *
    go_loopg [12] v.f2.length (fun kq v12 w' => ∃ k : Nat, v12 = .int .i64 (k : Int) ∧ Aside0 (kq + k = v.f2.length) ∧ Aside0 (Half (fun _ => True) d 41 G wz.heap.size v.f2.length c' k (v.f2.take k) olds w') ∧ Aside0 (w'.heap[w.heap.size]? = some (.cells #[.int .u64 v.f0, .string v.f1, .slice (some ⟨G, 0, none⟩) v.f2.length c'] 51 (0, 0))) ∧ Aside0 (w'.heap[w.heap.size + 1]? = some (.cells #[.int .u64 0, .string ⟨#[]⟩, .slice none 0 0] 51 (0, 0))) ∧ Aside0 (Below w.heap.size w w'))
    case atStart => exact ⟨0, rfl, ⟨by omega⟩, HH, BX1, BX2, ⟨(BZ.out.trans (B1.out.mono BZ.out.size)).setCell (Nat.le_refl _) _⟩⟩
    case round =>
      obtain ⟨k, rfl, HK, HH, BX1, BX2, BW⟩ := hrel
      by_cases hk : (k : Int) < (v.f2.length : Int)
      · have c1 : decide ((k : Int) < (v.f2.length : Int)) = true := decide_eq_true hk
        have p0 : (0 : Int) ≤ (k : Int) := by omega
        have hw : IntKind.i64.wrap ((k : Int) + 1) = ((k + 1 : Nat) : Int) := by have := HM.out; rw [IntKind.wrap_i64]; omega
        obtain ⟨x, hx⟩ : ∃ x, v.f2[k]? = some x := ⟨v.f2[k], List.getElem?_eq_getElem (by omega)⟩
        obtain ⟨o, ho⟩ : ∃ o, olds[k]? = some o := ⟨olds[k]'(by have := HO1.out; omega), List.getElem?_eq_getElem (by have := HO1.out; omega)⟩
        have hkx := HO3.out k x o hx ho
        obtain ⟨A1, n1, c1', A2, n2, c2', rfl⟩ := hd.two hkx
        have r0 := HH.out.cell ho (j := 0) rfl
        have r1 := HH.out.cell ho (j := 1) rfl
        rw [hd.sz] at r0 r1
        rw [Nat.add_zero] at r0
        obtain ⟨r0, g0⟩ := r0
        obtain ⟨r1, g1⟩ := r1
        have HX := Aside0.mk hx
        have HOO := Aside0.mk ho
        have HKX := Aside0.mk hkx
        have HI := Aside0.mk (show k < v.f2.length by omega)
        replace hk := eq_true hk
        clear hx ho hkx
        go_wp2_with fail
        obtain ⟨wa, hwa⟩ : ∃ wa, wa = wr.alloc (.cells #[.slice A1 n1 c1', .slice A2 n2 c2'] 41) := ⟨_, rfl⟩
        rw [← hwa]
        have ba : Below wr.heap.size wr wa := by rw [hwa]; exact below_alloc (Below.refl _ _) _
        have HHA := Aside0.mk (HH.out.below ba)
        have BXA := Aside0.mk (blk_below BX1.out ba)
        have BXB := Aside0.mk (blk_below BX2.out ba)
        have h4 : wa.heap[wr.heap.size]? = some (.cells #[.slice A1 n1 c1', .slice A2 n2 c2'] 41 (0, 0)) := by rw [hwa]; exact blk_new _ _
        have BWA := Aside0.mk (BW.out.trans (ba.mono BW.out.size))
        have HM2 := Aside0.mk (fun w2 (hb : Below wa.heap.size wa w2) => show w2.cell? ⟨w.heap.size, 2, none⟩ = some (.slice (some ⟨G, 0, none⟩) v.f2.length c') ∧ w2.cell? ⟨wr.heap.size, 0, none⟩ = some (.slice A1 n1 c1') ∧ w2.cell? ⟨wr.heap.size, 1, none⟩ = some (.slice A2 n2 c2') from
          ⟨(blk_cell (blk_below BXA.out hb) 2).trans rfl, (blk_cell (blk_below h4 hb) 0).trans rfl, (blk_cell (blk_below h4 hb) 1).trans rfl⟩)
        have hm := HM2.out wa (Below.refl _ _)
        have HT := Aside0.mk (fun m => HQ.out (wa.drewN m) x _ (d.K_below (pw_below_drewN BWA.out m) HKX.out) (HOK.out.2.2.2 x (List.mem_of_getElem? HX.out)))
        clear hwa ba h4 r0 r1 g0 g1
        obtain ⟨s1, s2, s3⟩ := hm
        have hm := HM2.out wa (Below.refl _ _)
        have hG1 : w.heap.size ≠ G := by have := HH.out.hb; omega
        have hG2 : wr.heap.size ≠ G := by obtain ⟨_, _, _, hh, _⟩ := HH.out.is; have := blk_lt hh; omega
        go_region_held3 (fun w' => w'.cell? ⟨w.heap.size, 2, none⟩ = some (.slice (some ⟨G, 0, none⟩) v.f2.length c') ∧ w'.cell? ⟨wr.heap.size, 0, none⟩ = some (.slice A1 n1 c1') ∧ w'.cell? ⟨wr.heap.size, 1, none⟩ = some (.slice A2 n2 c2')) (first | exact hm | exact CM.out | exact CS.out _ _ | go_keep) (first
          | (go_at_call 78; refine (HT.out _).mono ?_; rintro r w2 ⟨⟨cs', rfl, hcm⟩, b2⟩
             obtain ⟨A3, n3, c3, A4, n4, c4, rfl⟩ := hd.two (d.K_of_M hcm)
             have b3 := (pw_below_drewN (Below.refl wa.heap.size wa) _).trans b2
             have CM := Aside0.mk (HM2.out _ b3)
             have HHB := Aside0.mk (HHA.out.below b3)
             have B3 := Aside0.mk b3
             have HCM := Aside0.mk hcm
             have t0 := HHB.out.cell HOO.out (j := 0) rfl
             have t1 := HHB.out.cell HOO.out (j := 1) rfl
             rw [hd.sz] at t0 t1
             rw [Nat.add_zero] at t0
             obtain ⟨t0, g0⟩ := t0
             obtain ⟨t1, g1⟩ := t1
             have CS : Aside0 (∀ u v' : Value, ((w2.setCell ⟨G, k * 2, none⟩ u).setCell ⟨G, k * 2 + 1, none⟩ v').cell? ⟨w.heap.size, 2, none⟩ = some (.slice (some ⟨G, 0, none⟩) v.f2.length c') ∧ ((w2.setCell ⟨G, k * 2, none⟩ u).setCell ⟨G, k * 2 + 1, none⟩ v').cell? ⟨wr.heap.size, 0, none⟩ = some (.slice A1 n1 c1') ∧ ((w2.setCell ⟨G, k * 2, none⟩ u).setCell ⟨G, k * 2 + 1, none⟩ v').cell? ⟨wr.heap.size, 1, none⟩ = some (.slice A2 n2 c2')) := ⟨fun u v' => by
               obtain ⟨k1, k2, k3⟩ := CM.out
               exact ⟨by rw [cell_far hG1, cell_far hG1]; exact k1, by rw [cell_far hG2, cell_far hG2]; exact k2, by rw [cell_far hG2, cell_far hG2]; exact k3⟩⟩
             clear b2 b3 hcm))
        go_wp2
        go_roundg (v.f2.length - (k + 1))
        case measure => have := HK.out; have := HI.out; omega
        case rel =>
          have hk0 := HI.out
          have hw2 : w.heap.size + 2 ≤ wz.heap.size := by rw [HWZ.out]; simp only [World.size_alloc]; omega
          have hgw : w.heap.size ≤ G := by have := HH.out.hb; omega
          have hGa : G < wa.heap.size := by obtain ⟨_, _, _, hh, _⟩ := HHA.out.is; exact blk_lt hh
          have hza : wz.heap.size ≤ wa.heap.size := by have := HH.out.hb; omega
          have hy : d.M w2 wz.heap.size (fun k => True ∧ k ≠ G) x [.slice A3 n3 c3, .slice A4 n4 c4] := d.M_lower hza (d.M_mono (fun j hj => ⟨trivial, by have h1 : wa.heap.size ≤ j := hj.2.1; omega⟩) (d.M_bound HCM.out))
          refine ⟨k + 1, rfl, ⟨by omega⟩, ⟨?_⟩, ⟨?_⟩, ⟨?_⟩, ⟨?_⟩⟩
          · have h1 := HHB.out.step2 hk0 hd.sz hy
            have h2 : v.f2.take k ++ [x] = v.f2.take (k + 1) := by
              obtain ⟨h3, rfl⟩ := List.getElem?_eq_some_iff.1 HX.out
              rw [List.take_succ_eq_append_getElem h3]
            rw [h2] at h1
            exact h1
          · rw [Below.heap_setCell _ _ _ _ hG1, Below.heap_setCell _ _ _ _ hG1]
            exact blk_below BXA.out B3.out
          · rw [Below.heap_setCell _ _ _ _ (by have h5 := HH.out.hb; show w.heap.size + 1 ≠ G; omega), Below.heap_setCell _ _ _ _ (by have h5 := HH.out.hb; show w.heap.size + 1 ≠ G; omega)]
            exact blk_below BXB.out B3.out
          · exact ((BWA.out.trans (B3.out.mono BWA.out.size)).setCell hgw _).setCell hgw _
      · have c1 : decide ((k : Int) < (v.f2.length : Int)) = false := decide_eq_false hk
        have c2 : decide (k < v.f2.length) = false := decide_eq_false (by omega)
        obtain rfl : k = v.f2.length := by have := HH.out.hn; omega
        have HR := Aside0.mk HH.out.done
        have a0 := (blk_cell BX1.out 0).trans rfl
        have a1 := (blk_cell BX1.out 1).trans rfl
        have a2 := (blk_cell BX1.out 2).trans rfl
        have b0 := (blk_cell BX2.out 0).trans rfl
        have b1 := (blk_cell BX2.out 1).trans rfl
        have b2 := (blk_cell BX2.out 2).trans rfl
        have f0 := blk_frozen BX2.out 0
        have f1 := blk_frozen BX2.out 1
        have f2 := blk_frozen BX2.out 2
        clear hk
        go_wp2
        have hw2 : w.heap.size + 2 ≤ wz.heap.size := by rw [HWZ.out]; simp only [World.size_alloc]; omega
        have e1 := blk_put BX2.out 0 (.int .u64 v.f0) rfl
        have e2 := blk_put e1 1 (.string v.f1) rfl
        have e3 := blk_put e2 2 (.slice (some ⟨G, 0, none⟩) v.f2.length c') rfl
        refine bodyPost_ret (v := .agg #[.int .u64 v.f0, .string v.f1, .slice (some ⟨G, 0, none⟩) v.f2.length c']) (results_cell_row rfl _ _ (w.heap.size + 1) 51 _ _ _ rfl e3 Tryd.underlying51 rfl (by kernel_rfl)) rfl ⟨⟨[.int .u64 v.f0, .string v.f1, .slice (some ⟨G, 0, none⟩) v.f2.length c'], rfl, kV_mkM ?_⟩, ?_⟩
        · have h1 := Kd.R_bound HR.out
          have hne : ∀ j, (True ∧ wz.heap.size ≤ j ∧ j < wr.heap.size ∧ ∃ q, q ∈ 41 :: d.E ∧ ∃ cells, wr.heap[j]? = some (.cells cells q (0, 0))) → j ≠ w.heap.size + 1 := fun j hj => by have := hj.2.1; omega
          rw [List.take_length] at h1
          exact Kd.R_lower (Kd.R_mono (Kd.R_far (Kd.R_far (Kd.R_far h1 hne _) hne _) hne _) (fun _ _ => trivial)) (by omega)
        · exact ((BW.out.setCell (by show w.heap.size ≤ w.heap.size + 1; omega) _).setCell (by show w.heap.size ≤ w.heap.size + 1; omega) _).setCell (by show w.heap.size ≤ w.heap.size + 1; omega) _
end Go.Proofs.YthgddlibfboehaaDoor.TK
end
section
namespace Go.Proofs.YthgddlibfboehaaDoor.TK
open Go.RowKit Go.Proofs.YthgddlibfboehaaDoor.Ops Go.Proofs.YthgddlibfboehaaDoor.KD Go.Proofs.YthgddlibfboehaaDoor.M Go.Proofs.YthgddlibfboehaaDoorW.PrintWords Go.Proofs.YthgddlibfboehaaDoorW.PrintLast Go.Proofs.YthgddlibfboehaaDoorW.PrintMore Go.Proofs.YthgddlibfboehaaDoor.Open
set_option linter.unusedVariables false
set_option linter.unusedSimpArgs false
set_option maxHeartbeats 1000000
set_option maxRecDepth 100000
theorem bcell {W w1 : World} (hb : Below W.heap.size W w1) : (∀ b o, b < W.heap.size → w1.cell? ⟨b, o, none⟩ = W.cell? ⟨b, o, none⟩) ∧ (∀ b o, b < W.heap.size → w1.frozen? ⟨b, o, none⟩ = W.frozen? ⟨b, o, none⟩) :=
 ⟨fun b o h => hb.cell (p := ⟨b, o, none⟩) h, fun b o h => hb.frozen (p := ⟨b, o, none⟩) h⟩
/-- Flat cells that are own ones. -/
theorem R_of_flat {α : Type} {d : Kd α} {e base : Nat} {w : World} {ok : Nat → Prop} {v : Value} {olds : List (List Value)} {xs : List α} (h : (kFlat d.sz).R e w base ok v olds) (hl : olds.length = xs.length) (hM : ∀ (i : Nat) (x : α) (o : List Value), xs[i]? = some x → olds[i]? = some o → ∀ ok' : Nat → Prop, d.M w base ok' x o) : d.R e w base ok v xs := by
 obtain ⟨h0, inner, h1, hr⟩ := h
 refine ⟨h0, inner, by rw [← hl]; exact h1, by show inner.length = _; rw [hr.1, hl]; rfl, fun j x hj => ?_⟩
 have hj2 : j < olds.length := by rw [hl]; exact (List.getElem?_eq_some_iff.1 hj).1
 have h2 : (inner.drop (j * d.sz)).take d.sz = olds[j] := (hr.2 j _ (List.getElem?_eq_getElem hj2)).1
 rw [h2]
 exact hM j x _ hj (List.getElem?_eq_getElem hj2) _
theorem rawM {w w' : World} {base : Nat} {ok : Nat → Prop} {x : TR} {cs : List Value} (h : k92.K w x cs) : k92.M w' base ok x cs := by
 obtain rfl := k92_open h
 exact k92_mkM w' base ok x
theorem Half.swap {P : Nat → Prop} {α : Type} {d : Kd α} {e G base n cap i : Nat} {ys : List α} {olds olds' : List (List Value)} {w : World} (h : Half P d e G base n cap i ys olds w) (hd : olds.drop i = olds'.drop i) (hl : olds'.length = n) (hs : ∀ x ∈ olds', x.length = d.sz) : Half P d e G base n cap i ys olds' w := by
 obtain ⟨⟨news, sp, cur, h1, h2, h3, h4⟩, ln, lo, hn, hc, hm, hb, _, pg⟩ := h
 exact ⟨⟨news, sp, cur, h1, by rw [← hd]; exact h2, h3, h4⟩, ln, hl, hn, hc, hm, hb, hs, pg⟩
/-- A store that comes behind is as_ one that came ahead. -/
theorem below_both {wa w2 : World} {G o : Nat} {u : Value} {cur : Array Value} {e : TypeId} (hb : Below wa.heap.size wa w2) (h : wa.heap[G]? = some (.cells cur e (0, 0))) : Below (wa.setCell ⟨G, o, none⟩ u).heap.size (wa.setCell ⟨G, o, none⟩ u) (w2.setCell ⟨G, o, none⟩ u) := by
 have a := (Below.refl G wa).setCell (p := ⟨G, o, none⟩) (Nat.le_refl _) u
 have b := (Below.refl G w2).setCell (p := ⟨G, o, none⟩) (Nat.le_refl _) u
 refine ⟨b.os.trans (hb.os.trans a.os.symm), b.tape.trans (hb.tape.trans a.tape.symm), b.output.trans (hb.output.trans a.output.symm), by simp [hb.size], fun k hk => ?_⟩
 by_cases hk2 : k = G
 · subst hk2
   exact (blk_put (blk_below h hb) o u rfl).trans (blk_put h o u rfl).symm
 · rw [Below.heap_setCell _ _ _ _ hk2, Below.heap_setCell _ _ _ _ hk2]
   exact hb.block k (by simpa using hk)
theorem at_gV {d : Kd TT} {w : World} {A : Option Addr} {n : Nat} {xs : List TV} (h : (g51 d).C w A n xs) (i : Nat) (h1 : i < n) :
  ∃ ad A2 c2 x, A = some ad ∧ xs[i]? = some x ∧ w.cell? (ad.add (i * 3)) = some (.int .u64 x.f0) ∧ w.cell? ⟨(ad.add (i * 3)).block, (ad.add (i * 3)).off + 1, none⟩ = some (.string x.f1) ∧
   w.cell? ⟨(ad.add (i * 3)).block, (ad.add (i * 3)).off + 2, none⟩ = some (.slice A2 x.f2.length c2) ∧ (g51 d).K w x [.int .u64 x.f0, .string x.f1, .slice A2 x.f2.length c2] := by
 have hl : i < xs.length := by have := h.1; omega
 obtain ⟨ad, c, e, _, hK, hc0⟩ := Kd.C_get h xs[i] i (by omega) (by omega)
 have hc : ∀ j u, c[j]? = some u → w.cell? (ad.add (i * 3 + j)) = some u := hc0
 have hx : xs.getD (i : Int).toNat xs[i] = xs[i] := by rw [Int.toNat_natCast, List.getD_eq_getElem?_getD, List.getElem?_eq_getElem hl]; rfl
 rw [hx] at hK
 obtain ⟨A2, c2, rfl, l2, g2⟩ := kV_open hK
 exact ⟨ad, A2, c2, xs[i], e, List.getElem?_eq_getElem hl, hc 0 _ rfl, by rw [← add_field _ _ 1 (by omega)]; exact hc 1 _ rfl, by rw [← add_field _ _ 2 (by omega)]; exact hc 2 _ rfl, hK⟩
theorem cut1 {wz w2 w3 wx : World} {gO b2 b3 : Nat} {P2 P3 : Nat → Prop} {v2 v3 : Value} {so ro : List (List Value)} (h2 : (kFlat 4).R 92 w2 b2 P2 v2 ro) (p2 : ∀ k, P2 k → k < w2.heap.size ∧ k ≠ gO) (hb2 : wz.heap.size ≤ b2) (h3 : (kFlat 2).R 54 w3 b3 P3 v3 so) (p3 : ∀ k, P3 k → w2.heap.size ≤ k ∧ k < w3.heap.size ∧ k ≠ gO) (hb3 : wz.heap.size ≤ b3) (hs : w2.heap.size ≤ w3.heap.size) (h23 : ∀ k, k < w2.heap.size → w3.heap[k]? = w2.heap[k]?) (hx : ∀ k, k < w3.heap.size → k ≠ gO → wx.heap[k]? = w3.heap[k]?) :
   (kFlat 2).R 54 wx wz.heap.size (fun k => k ≠ gO) v3 so ∧ (kFlat 4).R 92 wx wz.heap.size (fun k => k ≠ gO ∧ some k ≠ v3.ownBlock) v2 ro := by
 refine ⟨Kd.R_lower (Kd.R_mono (Kd.R_move h3 (fun k hk => hx k (p3 k hk).2.1 (p3 k hk).2.2)) (fun k hk => (p3 k hk).2.2)) hb3, Kd.R_lower (Kd.R_mono (Kd.R_move h2 (fun k hk => ?_)) (fun k hk => ⟨(p2 k hk).2, fun e => ?_⟩)) hb2⟩
 · have := p2 k hk
   exact (hx k (by omega) this.2).trans (h23 k this.1)
 · have := p2 k hk
   have h5 := p3 k (h3.1 k e.symm)
   omega
theorem Copy_c {d : Kd TT} {ok : TT → Prop} (hd : Two d) (HD : Copies d ok 78) : Copies (F41 d) (okTree ok) 78 := by
 intro w x cs h hok
 obtain ⟨A, c, A', ca, rfl, hl, hC, hl2, hR⟩ := kT_open h
 obtain ⟨so, so1, so2, so3⟩ := flat_C hC
 obtain ⟨ro, ro1, ro2, ro3⟩ := flat_C hR
 obtain ⟨wz, hwz⟩ : ∃ wz, wz = (w.alloc (.cells #[.slice A x.f0.length c, .slice A' x.f1.length ca] 41)).alloc (.cells #[.slice none 0 0, .slice none 0 0] 41) := ⟨_, rfl⟩
 have HWZ := Aside0.mk hwz
 have bz : Below w.heap.size w wz := by rw [hwz]; exact b2 _ _ _
 have HBX : Aside0 (∀ w2, Below wz.heap.size wz w2 → w2.heap[w.heap.size]? = some (.cells #[.slice A x.f0.length c, .slice A' x.f1.length ca] 41 (0, 0)) ∧ w2.heap[w.heap.size + 1]? = some (.cells #[.slice none 0 0, .slice none 0 0] 41 (0, 0))) := ⟨fun w2 h2 => by rw [hwz] at h2; exact boxes h2⟩
 have HM2 := Aside0.mk (fun w2 (hb : Below wz.heap.size wz w2) => show w2.cell? ⟨w.heap.size, 0, none⟩ = some (.slice A x.f0.length c) ∧ w2.cell? ⟨w.heap.size, 1, none⟩ = some (.slice A' x.f1.length ca) from ⟨(blk_cell (HBX.out _ hb).1 0).trans rfl, (blk_cell (HBX.out _ hb).1 1).trans rfl⟩)
 have HS := Aside0.mk (fun w2 (hb : Below wz.heap.size wz w2) => CloneS_c (c := c) (xs := so) (A := A) (w := w2) (by rw [so1]; exact Kd.C_below (Kd.C_below so2 bz) (hb.mono (Nat.le_refl _))) (by rw [so1]; exact Nat.le_trans hok.1.1 (by decide)))
 have HRC := Aside0.mk (fun w2 (hb : Below wz.heap.size wz w2) => CloneR_c (c := ca) (xs := ro) (A := A') (w := w2) (by rw [ro1]; exact Kd.C_below (Kd.C_below ro2 bz) (hb.mono (Nat.le_refl _))) (by rw [ro1]; exact Nat.le_trans hok.2.1 (by decide)))
 rw [so1] at HS
 rw [ro1] at HRC
 have BZ := Aside0.mk bz
 have BB := Aside0.mk (Below.refl wz.heap.size wz)
 have hm := HM2.out wz BB.out
 clear hwz bz
 go_enter Tryd.func78, Tryd.ntmps78
 go_upto_region 1 with fail
 rw [← HWZ.out]
 go_cut [3] (fun s3 wx => ∃ (gO c2 c3 : Nat) (A2 A3 : Option Addr), s3 = .pointer (some ⟨gO, 0, none⟩) ∧ Aside0 (wx.heap[gO]? = some (.cells #[.slice A3 x.f0.length c3, .slice A2 x.f1.length c2] 41 (0, 0))) ∧ Aside0 (wz.heap.size ≤ gO) ∧ Aside0 ((kFlat 2).R 54 wx wz.heap.size (fun k => k ≠ gO) (.slice A3 x.f0.length c3) so) ∧ Aside0 ((kFlat 4).R 92 wx wz.heap.size (fun k => k ≠ gO ∧ some k ≠ (Value.slice A3 x.f0.length c3).ownBlock) (.slice A2 x.f1.length c2) ro) ∧ Aside0 (Below wz.heap.size wz wx))
 case first =>
  obtain ⟨m1, m2⟩ := HM2.out wz BB.out
  clear h hl hl2 hC hR so2 ro2
  go_region_held3 (fun w' => w'.cell? ⟨w.heap.size, 0, none⟩ = some (.slice A x.f0.length c) ∧ w'.cell? ⟨w.heap.size, 1, none⟩ = some (.slice A' x.f1.length ca)) (first | exact hm | exact HM2.out _ (by repeat (first | (with_reducible first | exact BB.out | apply below_alloc | apply pw_below_drewN | apply below_drew | refine below_set ?_ (by first | exact E3.out | exact E2.out | exact Nat.le_refl _)) )) | go_keep) (first
    | (go_at_call 89; refine (HRC.out _ (by repeat (first | (with_reducible first | exact BB.out | apply below_alloc | apply pw_below_drewN | apply below_drew | refine below_set ?_ (by first | exact E3.out | exact E2.out | exact Nat.le_refl _)) ))).mono ?_; rintro r w2 ⟨v2, rfl, h2, b2⟩
       obtain ⟨A2, c2, rfl⟩ := Kd.R_slice h2
       have BX : Below wz.heap.size wz w2 := below_step (by repeat (first | (with_reducible first | exact BB.out | apply below_alloc | apply pw_below_drewN | apply below_drew | refine below_set ?_ (by first | exact E3.out | exact E2.out | exact Nat.le_refl _)) )) b2
       have R2 := Aside0.mk (Kd.R_bound h2)
       have Z2 := Aside0.mk b2.size
       have H12 := Aside0.mk b2
       obtain ⟨hc2, hf2⟩ := bcell b2
       have E2 := Aside0.mk BX.size
       try (have hz2 : wz.heap.size < w2.heap.size := by have hz2 := b2.size; simp at hz2; omega)
       clear b2 h2
       have BB := Aside0.mk BX
       have CM := Aside0.mk (HM2.out _ BX))
    | (go_at_call 90; refine (HS.out _ (by repeat (first | (with_reducible first | exact BB.out | apply below_alloc | apply pw_below_drewN | apply below_drew | refine below_set ?_ (by first | exact E3.out | exact E2.out | exact Nat.le_refl _)) ))).mono ?_; rintro r w3 ⟨v3, rfl, h3, b3⟩
       obtain ⟨A3, c3, rfl⟩ := Kd.R_slice h3
       have BX : Below wz.heap.size wz w3 := below_step (by repeat (first | (with_reducible first | exact BB.out | apply below_alloc | apply pw_below_drewN | apply below_drew | refine below_set ?_ (by first | exact E3.out | exact E2.out | exact Nat.le_refl _)) )) b3
       have R3 := Aside0.mk (Kd.R_bound h3)
       have Z3 := Aside0.mk b3.size
       have H23 := Aside0.mk b3
       obtain ⟨hc3, hf3⟩ := bcell b3
       have E3 := Aside0.mk BX.size
       try (have hz3 : w2.heap.size < w3.heap.size := by have hz3 := b3.size; simp at hz3; omega)
       try (have hz4 : wz.heap.size < w3.heap.size := by have hz4 := b3.size; simp at hz4; omega)
       clear b3 h3
       have BB := Aside0.mk BX
       have CM := Aside0.mk (HM2.out _ BX)))
  · go_wp2_with fail
    go_meet
    case rel =>
      have q := cut1 (wz := wz) (gO := w3.heap.size) (wx := w3.alloc (.cells #[.slice A3 x.f0.length c3, .slice A2 x.f1.length c2] 41)) R2.out (by rintro k ⟨_, _, h6, _⟩; have := Z3.out; omega) (Nat.le_refl _) R3.out (by rintro k ⟨_, h5, h6, _⟩; omega) E2.out Z3.out H23.out.block (fun k h1 h2 => Below.heap_alloc _ _ _ h1)
      rw [so1, ro1] at q
      exact ⟨w3.heap.size, c2, c3, A2, A3, rfl, ⟨blk_new _ _⟩, ⟨E3.out⟩, ⟨q.1⟩, ⟨q.2⟩, ⟨below_alloc BB.out _⟩⟩
  · go_wp2_with fail
    go_meet
    case rel =>
      have q0 : w3.heap[w2.heap.size]? = some (.cells #[.slice none 0 0, .slice none 0 0] 41 (0, 0)) := (H23.out.block _ (by rw [World.size_alloc]; omega)).trans (blk_new _ _)
      have q := cut1 (wz := wz) (gO := w2.heap.size) (wx := (w3.setCell ⟨w2.heap.size, 0, none⟩ (.slice A3 x.f0.length c3)).setCell ⟨w2.heap.size, 1, none⟩ (.slice A2 x.f1.length c2)) R2.out (by rintro k ⟨_, _, h6, _⟩; omega) (Nat.le_refl _) R3.out (by rintro k ⟨_, h5, h6, _⟩; rw [World.size_alloc] at h5; omega) (Nat.le_trans E2.out (by rw [World.size_alloc]; omega)) (Nat.le_of_lt hz3) (fun k hk => (H23.out.block k (by rw [World.size_alloc]; omega)).trans (Below.heap_alloc _ _ _ hk)) (fun k h1 h2 => by rw [Below.heap_setCell _ _ _ _ h2, Below.heap_setCell _ _ _ _ h2])
      rw [so1, ro1] at q
      exact ⟨w2.heap.size, c2, c3, A2, A3, rfl, ⟨blk_put (blk_put q0 0 _ rfl) 1 _ rfl⟩, ⟨E2.out⟩, ⟨q.1⟩, ⟨q.2⟩, ⟨(BB.out.setCell E2.out _).setCell E2.out _⟩⟩
  · go_wp2_with fail
    go_meet
    case rel =>
      have q0 : w3.heap[wz.heap.size]? = some (.cells #[.slice none 0 0, .slice none 0 0] 41 (0, 0)) := (H23.out.block _ hz2).trans ((H12.out.block _ (by simp)).trans (blk_new _ _))
      have q := cut1 (wz := wz) (gO := wz.heap.size) (wx := (w3.setCell ⟨wz.heap.size, 0, none⟩ (.slice A3 x.f0.length c3)).setCell ⟨wz.heap.size, 1, none⟩ (.slice A2 x.f1.length c2)) R2.out (by rintro k ⟨_, h5, h6, _⟩; simp at h5; omega) (by simp) R3.out (by rintro k ⟨_, h5, h6, _⟩; omega) E2.out Z3.out H23.out.block (fun k h1 h2 => by rw [Below.heap_setCell _ _ _ _ h2, Below.heap_setCell _ _ _ _ h2])
      rw [so1, ro1] at q
      exact ⟨wz.heap.size, c2, c3, A2, A3, rfl, ⟨blk_put (blk_put q0 0 _ rfl) 1 _ rfl⟩, ⟨Nat.le_refl _⟩, ⟨q.1⟩, ⟨q.2⟩, ⟨(BB.out.setCell (Nat.le_refl _) _).setCell (Nat.le_refl _) _⟩⟩
 case rest =>
  obtain ⟨gO, k2, k3, A2, A3, rfl, HO, HG, R3, R2, BX⟩ := hcut
  have HGO := Aside0.mk (Kd.R_away R3.out (fun k hk => hk))
  have HV0 := Aside0.mk (HV.start (P := fun k => some k ≠ (Value.slice A2 x.f1.length k2).ownBlock) (d := g54 d) (Kd.R_flat (fun h => h) R3.out (fun k hk _ e => (R2.out.1 k e.symm).2 hk.symm)))
  have HRR : Aside0 (k92.R 92 wc wz.heap.size (fun k => k ≠ gO ∧ some k ≠ (Value.slice A3 x.f0.length k3).ownBlock) (.slice A2 x.f1.length k2) x.f1) := ⟨R_of_flat (d := k92) R2.out ro1 (fun i y o hy ho _ => rawM (ro3 i y o hy ho))⟩
  have h0 := (blk_cell HO.out 0).trans rfl
  rw [so1] at HV0
  have HOK := Aside0.mk hok
  have HC := Aside0.mk hC
  have HQ := Aside0.mk (copied_c hd HD)
  have HSO := Aside0.mk so1
  have HS3 := Aside0.mk so3
  have HM := Aside0.mk (Kd.C_max hC)
  clear h hl hl2 hC hR so2 ro2 hok HD so3 ro3 R3 R2 hm
  go_wp2_with fail
  go_loopg [18] x.f0.length (fun kq v18 w' => ∃ i : Nat, v18 = .int .i64 (i : Int) ∧ Aside0 (kq + i = x.f0.length) ∧ Aside0 (HV (fun k => some k ≠ (Value.slice A2 x.f1.length k2).ownBlock) (g54 d) 54 wz.heap.size x.f0.length i (.slice A3 x.f0.length k3) (x.f0.take i) so w') ∧ Aside0 (k92.R 92 w' wz.heap.size (fun k => k ≠ gO ∧ some k ≠ (Value.slice A3 x.f0.length k3).ownBlock) (.slice A2 x.f1.length k2) x.f1) ∧ Aside0 (w'.heap[gO]? = some (.cells #[.slice A3 x.f0.length k3, .slice A2 x.f1.length k2] 41 (0, 0))) ∧ Aside0 (Below wz.heap.size wz w'))
  case atStart => exact ⟨0, rfl, ⟨by omega⟩, HV0, HRR, HO, BX⟩
  case round =>
    clear h0 HV0 HRR HO BX
    obtain ⟨i, rfl, HK, HH, HRR, HO, BW⟩ := hrel
    by_cases hi : (i : Int) < (x.f0.length : Int)
    · have c1 : decide ((i : Int) < (x.f0.length : Int)) = true := decide_eq_true hi
      have p0 : (0 : Int) ≤ (i : Int) := by omega
      have hw : IntKind.i64.wrap ((i : Int) + 1) = ((i + 1 : Nat) : Int) := by have := HM.out; rw [IntKind.wrap_i64]; omega
      have hin : i < x.f0.length := by omega
      obtain ⟨y, hy⟩ : ∃ y, x.f0[i]? = some y := ⟨x.f0[i], List.getElem?_eq_getElem hin⟩
      obtain ⟨o, ho⟩ : ∃ o, so[i]? = some o := ⟨so[i]'(by have := HSO.out; omega), List.getElem?_eq_getElem (by have := HSO.out; omega)⟩
      have hky := HS3.out i y o hy ho
      obtain ⟨Av, cv, rfl, hlv, hCv⟩ := kS_open hky
      rcases HH.out with ⟨hz, _⟩ | ⟨_, G, cG, hv, hh⟩
      · omega
      injection hv with hv1 hv2 hv3
      subst hv1
      subst hv3
      have r0 := hh.cell ho (j := 0) rfl
      have r1 := hh.cell ho (j := 1) rfl
      rw [show (g54 d).sz = 2 from rfl] at r0 r1
      rw [Nat.add_zero] at r0
      obtain ⟨r0, g0⟩ := r0
      obtain ⟨r1, g1⟩ := r1
      have HY := Aside0.mk hy
      have HOO := Aside0.mk ho
      have HI := Aside0.mk hin
      have HHH := Aside0.mk hh
      have HCV := Aside0.mk hCv
      have HKY := Aside0.mk hky
      have a0 := (blk_cell HO.out 0).trans rfl
      replace hi := eq_true hi
      clear hy ho hky hlv hCv hh hin hv2 HH g0 g1
      go_upto_region 5 with fail
      obtain ⟨wa, hwa⟩ : ∃ wa, wa = wr.alloc (.cells #[.int .i64 y.f0, .slice Av y.f1.length cv] 54) := ⟨_, rfl⟩
      rw [← hwa]
      have ba : Below wr.heap.size wr wa := by rw [hwa]; exact below_alloc (Below.refl _ _) _
      have BA := Aside0.mk (BW.out.trans (ba.mono BW.out.size))
      have HHA := Aside0.mk (HHH.out.below ba)
      have HOA := Aside0.mk (blk_below HO.out ba)
      have HRA := Aside0.mk (Kd.R_below HRR.out ba)
      have h5 : wa.heap[wr.heap.size]? = some (.cells #[.int .i64 y.f0, .slice Av y.f1.length cv] 54 (0, 0)) := by rw [hwa]; exact blk_new _ _
      have HM5 := Aside0.mk (fun w2 (hb : Below wa.heap.size wa w2) => show w2.cell? ⟨gO, 0, none⟩ = some (.slice (some ⟨G, 0, none⟩) x.f0.length k3) ∧ w2.cell? ⟨wr.heap.size, 1, none⟩ = some (.slice Av y.f1.length cv) from
        ⟨(blk_cell (blk_below HOA.out hb) 0).trans rfl, (blk_cell (blk_below h5 hb) 1).trans rfl⟩)
      have H5 := Aside0.mk h5
      have hm := HM5.out wa (Below.refl _ _)
      obtain ⟨lv, lv1, lv2, lv3⟩ := flat_C HCV.out
      have BWA := Aside0.mk (BZ.out.trans (BA.out.mono BZ.out.size))
      have HCL := Aside0.mk (fun W (hb : Below wa.heap.size wa W) => CloneV_c (c := cv) (xs := lv) (A := Av) (w := W) (by rw [lv1]; exact Kd.C_below (Kd.C_below lv2 BWA.out) (hb.mono (Nat.le_refl _))) (by rw [lv1]; have := (HOK.out.1.2 y (List.mem_of_getElem? HY.out)).2.1; exact Nat.le_trans this (by decide)))
      rw [lv1] at HCL
      have HAW := Aside0.mk hwa
      have LV1 := Aside0.mk lv1
      have LV3 := Aside0.mk lv3
      have hgO : gO ≠ G := fun e => HGO.out (by rw [e]; rfl)
      have hGlt : G < wa.heap.size := by obtain ⟨_, _, _, hh, _⟩ := HHA.out.is; exact blk_lt hh
      have hG5 : wr.heap.size ≠ G := by obtain ⟨_, _, _, hh, _⟩ := HHH.out.is; have := blk_lt hh; omega
      have GLT := Aside0.mk hGlt
      have GNE := Aside0.mk hgO
      have G5N := Aside0.mk hG5
      clear hwa ba h5 r0 r1 a0 lv2 hgO hGlt hG5 lv3
      obtain ⟨s1, s2⟩ := HM5.out wa (Below.refl _ _)
      go_region_held3 (fun w' => w'.cell? ⟨gO, 0, none⟩ = some (.slice (some ⟨G, 0, none⟩) x.f0.length k3) ∧ w'.cell? ⟨wr.heap.size, 1, none⟩ = some (.slice Av y.f1.length cv)) (first | exact hm | exact CM.out | exact CS.out _ | go_keep) (first
        | (go_at_call 91; refine (HCL.out _ (by repeat (first | (with_reducible first | exact Below.refl _ _ | apply below_alloc | apply pw_below_drewN | apply below_drew) ))).mono ?_; rintro r w2 ⟨v5, rfl, h5, b5⟩
           obtain ⟨A5, c5, rfl⟩ := Kd.R_slice h5
           have BX : Below wa.heap.size wa w2 := below_step (by repeat (first | (with_reducible first | exact Below.refl _ _ | apply below_alloc | apply pw_below_drewN | apply below_drew) )) b5
           have R5 : Aside0 ((kFlat 3).R 51 w2 wa.heap.size (fun _ => True) (.slice A5 lv.length c5) lv) := ⟨h5⟩
           have CM := Aside0.mk (HM5.out _ BX)
           have HHB := Aside0.mk (HHA.out.below BX)
           have B5 := Aside0.mk BX
           have t1 := HHB.out.cell HOO.out (j := 1) rfl
           rw [show (g54 d).sz = 2 from rfl] at t1
           obtain ⟨t1, g1⟩ := t1
           have CS : Aside0 (∀ u : Value, (w2.setCell ⟨G, i * 2 + 1, none⟩ u).cell? ⟨gO, 0, none⟩ = some (.slice (some ⟨G, 0, none⟩) x.f0.length k3) ∧ (w2.setCell ⟨G, i * 2 + 1, none⟩ u).cell? ⟨wr.heap.size, 1, none⟩ = some (.slice Av y.f1.length cv)) := ⟨fun u => by
             obtain ⟨k1, k2⟩ := CM.out
             exact ⟨by rw [cell_far GNE.out]; exact k1, by rw [cell_far G5N.out]; exact k2⟩⟩
           clear b5 BX h5))
      go_upto_block 2 with fail
      rw [LV1.out] at R5
      have BG := Aside0.mk HHA.out.hb
      obtain ⟨_, _, cur, hh, _⟩ := HHA.out.is
      obtain ⟨wv, hwv⟩ : ∃ wv, wv = wa.setCell ⟨G, i * 2 + 1, none⟩ (.slice A5 y.f1.length c5) := ⟨_, rfl⟩
      obtain ⟨w5, hw5⟩ : ∃ w5, w5 = w2.setCell ⟨G, i * 2 + 1, none⟩ (.slice A5 y.f1.length c5) := ⟨_, rfl⟩
      rw [← hw5]
      have BV := Aside0.mk (show Below wv.heap.size wv w5 by rw [hwv, hw5]; exact below_both B5.out hh)
      have SV := Aside0.mk (show wv.heap.size = wa.heap.size by rw [hwv]; simp)
      have HHV := Aside0.mk (show Half (fun k => some k ≠ (Value.slice A2 x.f1.length k2).ownBlock) (g54 d) 54 G wz.heap.size x.f0.length k3 i (x.f0.take i) (so.set i [.int .i64 y.f0, .slice A5 y.f1.length c5]) wv by rw [hwv]; exact HHA.out.turn2 rfl HOO.out _)
      have HOV := Aside0.mk (show wv.heap[gO]? = some (.cells #[.slice (some ⟨G, 0, none⟩) x.f0.length k3, .slice A2 x.f1.length k2] 41 (0, 0)) by rw [hwv]; exact (Below.heap_setCell _ _ _ _ GNE.out).trans HOA.out)
      have HRV := Aside0.mk (show k92.R 92 wv wz.heap.size (fun k => k ≠ gO ∧ some k ≠ (Value.slice (some ⟨G, 0, none⟩) x.f0.length k3).ownBlock) (.slice A2 x.f1.length k2) x.f1 by rw [hwv]; exact Kd.R_far HRA.out (fun k hk e => hk.2 (by rw [e]; rfl)) _)
      have BWV := Aside0.mk (show Below wz.heap.size wz wv by rw [hwv]; exact BA.out.setCell BG.out _)
      have HI0 := Aside0.mk (show HV (fun _ => True) (g51 d) 51 wa.heap.size y.f1.length 0 (.slice A5 y.f1.length c5) (y.f1.take 0) lv w5 by
        have q := HV.start (d := g51 d) R5.out
        rw [LV1.out] at q
        rw [hw5]
        exact q.low GLT.out _)
      have HMV := Aside0.mk (Kd.C_max HCV.out)
      have YB := Aside0.mk (HOK.out.1.2 y (List.mem_of_getElem? HY.out)).2.2
      clear hwv hw5 hh t1 g1 hm s1 s2 lv1 R5 CM CS HHB B5 HM5 HCL
      go_wp2_with fail
      go_loopg [34] y.f1.length (fun kq v34 w' => ∃ k : Nat, v34 = .int .i64 (k : Int) ∧ Aside0 (kq + k = y.f1.length) ∧ Aside0 (HV (fun _ => True) (g51 d) 51 wa.heap.size y.f1.length k (.slice A5 y.f1.length c5) (y.f1.take k) lv w') ∧ Aside0 (Below wv.heap.size wv w'))
      case atStart => exact ⟨0, rfl, ⟨by omega⟩, HI0, BV⟩
      case round =>
        clear HI0 BV
        obtain ⟨k, rfl, HK2, HH2, BV⟩ := hrel
        by_cases hk : (k : Int) < (y.f1.length : Int)
        · have d1 : decide ((k : Int) < (y.f1.length : Int)) = true := decide_eq_true hk
          have p1 : (0 : Int) ≤ (k : Int) := by omega
          have hw2 : IntKind.i64.wrap ((k : Int) + 1) = ((k + 1 : Nat) : Int) := by have := HMV.out; rw [IntKind.wrap_i64]; omega
          have hkn : k < y.f1.length := by omega
          rcases HH2.out with ⟨hz, _⟩ | ⟨_, G2, cG2, hv, hh2⟩
          · omega
          injection hv with hv1 hv2 hv3
          subst hv1
          subst hv3
          have BWW := Aside0.mk (BZ.out.trans ((BWV.out.trans (BV.out.mono BWV.out.size)).mono BZ.out.size))
          obtain ⟨ad, At, ct, z, rfl, hz, q0, q1, q2, hkz⟩ := at_gV (Kd.C_below HCV.out BWW.out) k hkn
          obtain ⟨o2, ho2⟩ : ∃ o2, lv[k]? = some o2 := ⟨lv[k]'(by have := LV1.out; omega), List.getElem?_eq_getElem (by have := LV1.out; omega)⟩
          obtain ⟨At', ct', rfl, _, _⟩ := kV_open (LV3.out k z o2 hz ho2)
          have HZ := Aside0.mk hz
          have HO2 := Aside0.mk ho2
          have HKZ := Aside0.mk hkz
          have HHI := Aside0.mk hh2
          have HKN := Aside0.mk hkn
          replace hk := eq_true hk
          clear hz ho2 hkz hh2 hkn hv2 HH2
          go_upto_region 9 with fail
          obtain ⟨wb, hwb⟩ : ∃ wb, wb = wr.alloc (.cells #[.int .u64 z.f0, .string z.f1, .slice At z.f2.length ct] 51) := ⟨_, rfl⟩
          rw [← hwb]
          have bb : Below wr.heap.size wr wb := by rw [hwb]; exact below_alloc (Below.refl _ _) _
          have h7 : wb.heap[wr.heap.size]? = some (.cells #[.int .u64 z.f0, .string z.f1, .slice At z.f2.length ct] 51 (0, 0)) := by rw [hwb]; exact blk_new _ _
          have BVB := Aside0.mk (BV.out.trans (bb.mono BV.out.size))
          have HOB := Aside0.mk (blk_below HOV.out BVB.out)
          have HHVB := Aside0.mk (HHV.out.below BVB.out)
          have HHIB := Aside0.mk (HHI.out.below bb)
          have HO3 : Aside0 ((so.set i [.int .i64 y.f0, .slice (some ⟨G2, 0, none⟩) y.f1.length c5])[i]? = some [.int .i64 y.f0, .slice (some ⟨G2, 0, none⟩) y.f1.length c5]) := ⟨by
            have := HSO.out
            have := HI.out
            rw [List.getElem?_set_self (by omega)]⟩
          have HM9 := Aside0.mk (fun w2 (hb : Below wb.heap.size wb w2) => show w2.cell? ⟨gO, 0, none⟩ = some (.slice (some ⟨G, 0, none⟩) x.f0.length k3) ∧ w2.cell? ⟨G, i * 2 + 1, none⟩ = some (.slice (some ⟨G2, 0, none⟩) y.f1.length c5) ∧ w2.cell? ⟨wr.heap.size, 0, none⟩ = some (.int .u64 z.f0) ∧ w2.cell? ⟨wr.heap.size, 1, none⟩ = some (.string z.f1) ∧ w2.cell? ⟨wr.heap.size, 2, none⟩ = some (.slice At z.f2.length ct) from
            ⟨(blk_cell (blk_below HOB.out hb) 0).trans rfl, ((HHVB.out.below hb).cell HO3.out (j := 1) rfl).1, (blk_cell (blk_below h7 hb) 0).trans rfl, (blk_cell (blk_below h7 hb) 1).trans rfl, (blk_cell (blk_below h7 hb) 2).trans rfl⟩)
          have hm := HM9.out wb (Below.refl _ _)
          have HCP := Aside0.mk (fun W (hb : Below wb.heap.size wb W) => HQ.out W z [.int .u64 z.f0, .string z.f1, .slice At z.f2.length ct] ((g51 d).K_below (bb.trans (hb.mono bb.size)) HKZ.out) (YB.out z (List.mem_of_getElem? HZ.out)))
          have G2L := Aside0.mk (show G2 < wr.heap.size by obtain ⟨_, _, _, hh, _⟩ := HHI.out.is; exact blk_lt hh)
          have G2B := Aside0.mk HHI.out.hb
          have BBZ := Aside0.mk bb.size
          clear hwb bb h7 q0 q1 q2
          have n1 : gO ≠ G2 := by
            have h1 : gO < wa.heap.size := blk_lt HOA.out
            have h2 := G2B.out
            omega
          have n2 : G ≠ G2 := by have h1 := GLT.out; have h2 := G2B.out; omega
          have n3 : wr.heap.size ≠ G2 := by have h1 := G2L.out; omega
          have N1 := Aside0.mk n1
          have N2 := Aside0.mk n2
          have N3 := Aside0.mk n3
          clear n1 n2 n3
          obtain ⟨s1, s2, s3, s4, s5⟩ := HM9.out wb (Below.refl _ _)
          go_region_held3 (fun w' => w'.cell? ⟨gO, 0, none⟩ = some (.slice (some ⟨G, 0, none⟩) x.f0.length k3) ∧ w'.cell? ⟨G, i * 2 + 1, none⟩ = some (.slice (some ⟨G2, 0, none⟩) y.f1.length c5) ∧ w'.cell? ⟨wr.heap.size, 0, none⟩ = some (.int .u64 z.f0) ∧ w'.cell? ⟨wr.heap.size, 1, none⟩ = some (.string z.f1) ∧ w'.cell? ⟨wr.heap.size, 2, none⟩ = some (.slice At z.f2.length ct)) (first | exact hm | exact CM.out | exact CS.out _ _ _ | go_keep) (first
            | (go_at_call 92; refine (HCP.out _ (by repeat (first | (with_reducible first | exact Below.refl _ _ | apply below_alloc | apply pw_below_drewN | apply below_drew) ))).mono ?_; rintro r w2 ⟨⟨cs', rfl, hcm⟩, b6⟩
               obtain ⟨v6, rfl, h6⟩ := kV_openM hcm
               obtain ⟨A6, c6, rfl⟩ := Kd.R_slice h6
               have BX : Below wb.heap.size wb w2 := below_step (by repeat (first | (with_reducible first | exact Below.refl _ _ | apply below_alloc | apply pw_below_drewN | apply below_drew) )) b6
               have HCM : Aside0 ((g51 d).M w2 wb.heap.size (fun _ => True) z [.int .u64 z.f0, .string z.f1, .slice A6 z.f2.length c6]) := ⟨hcm⟩
               have CM := Aside0.mk (HM9.out _ BX)
               have HH6 := Aside0.mk (HHIB.out.below BX)
               have B6 := Aside0.mk BX
               have t0 := HH6.out.cell HO2.out (j := 0) rfl
               have t1 := HH6.out.cell HO2.out (j := 1) rfl
               have t2 := HH6.out.cell HO2.out (j := 2) rfl
               rw [show (g51 d).sz = 3 from rfl] at t0 t1 t2
               rw [Nat.add_zero] at t0
               obtain ⟨t0, g0⟩ := t0
               obtain ⟨t1, g1⟩ := t1
               obtain ⟨t2, g2⟩ := t2
               have CS : Aside0 (∀ u v u' : Value, (((w2.setCell ⟨G2, k * 3, none⟩ u).setCell ⟨G2, k * 3 + 1, none⟩ v).setCell ⟨G2, k * 3 + 2, none⟩ u').cell? ⟨gO, 0, none⟩ = some (.slice (some ⟨G, 0, none⟩) x.f0.length k3) ∧ (((w2.setCell ⟨G2, k * 3, none⟩ u).setCell ⟨G2, k * 3 + 1, none⟩ v).setCell ⟨G2, k * 3 + 2, none⟩ u').cell? ⟨G, i * 2 + 1, none⟩ = some (.slice (some ⟨G2, 0, none⟩) y.f1.length c5) ∧ (((w2.setCell ⟨G2, k * 3, none⟩ u).setCell ⟨G2, k * 3 + 1, none⟩ v).setCell ⟨G2, k * 3 + 2, none⟩ u').cell? ⟨wr.heap.size, 0, none⟩ = some (.int .u64 z.f0) ∧ (((w2.setCell ⟨G2, k * 3, none⟩ u).setCell ⟨G2, k * 3 + 1, none⟩ v).setCell ⟨G2, k * 3 + 2, none⟩ u').cell? ⟨wr.heap.size, 1, none⟩ = some (.string z.f1) ∧ (((w2.setCell ⟨G2, k * 3, none⟩ u).setCell ⟨G2, k * 3 + 1, none⟩ v).setCell ⟨G2, k * 3 + 2, none⟩ u').cell? ⟨wr.heap.size, 2, none⟩ = some (.slice At z.f2.length ct)) := ⟨fun u v u' => by
                 obtain ⟨k1, k2, k4, k5, k6⟩ := CM.out
                 exact ⟨by rw [cell_far N1.out, cell_far N1.out, cell_far N1.out]; exact k1, by rw [cell_far N2.out, cell_far N2.out, cell_far N2.out]; exact k2, by rw [cell_far N3.out, cell_far N3.out, cell_far N3.out]; exact k4, by rw [cell_far N3.out, cell_far N3.out, cell_far N3.out]; exact k5, by rw [cell_far N3.out, cell_far N3.out, cell_far N3.out]; exact k6⟩⟩
               clear b6 BX h6 hcm))
          go_wp2
          go_roundg (y.f1.length - (k + 1))
          case measure => have := HK2.out; have := HKN.out; omega
          case rel =>
            have hk0 := HKN.out
            have g2l := G2L.out
            have bbz := BBZ.out
            have hM : (g51 d).M w2 wa.heap.size (fun k => k ≠ G2) z [.int .u64 z.f0, .string z.f1, .slice A6 z.f2.length c6] := (g51 d).M_lower (by have := SV.out; have := BVB.out.size; omega) ((g51 d).M_mono (fun j hj => by have h1 : wb.heap.size ≤ j := hj.2.1; omega) ((g51 d).M_bound HCM.out))
            have hb2 : wv.heap.size ≤ G2 := by have := SV.out; have := G2B.out; omega
            refine ⟨k + 1, rfl, ⟨by omega⟩, ⟨.inr ⟨by omega, G2, c5, rfl, ?_⟩⟩, ⟨?_⟩⟩
            · have h1 := HH6.out.step3 hk0 rfl ((g51 d).M_mono (fun k hk => ⟨trivial, hk⟩) hM)
              have h2 : y.f1.take k ++ [z] = y.f1.take (k + 1) := by
                obtain ⟨h3, rfl⟩ := List.getElem?_eq_some_iff.1 HZ.out
                rw [List.take_succ_eq_append_getElem h3]
              rw [h2] at h1
              exact h1
            · exact (((BVB.out.trans (B6.out.mono BVB.out.size)).setCell hb2 _).setCell hb2 _).setCell hb2 _
        · have d1 : decide ((k : Int) < (y.f1.length : Int)) = false := decide_eq_false hk
          have d2 : decide (k < y.f1.length) = false := decide_eq_false (by omega)
          obtain rfl : k = y.f1.length := by have := HK2.out; omega
          have HD5 := Aside0.mk HH2.out.done
          clear hk
          go_wp2
          go_roundg (x.f0.length - (i + 1))
          case measure => have := HK.out; have := HI.out; omega
          case rel =>
            have hi0 := HI.out
            have hso := HSO.out
            have glt := GLT.out
            have bg := BG.out
            have hA : wz.heap.size ≤ wa.heap.size := BA.out.size
            have h1 := HHV.out.below BV.out
            have hrl : ∀ k, (Value.slice A2 x.f1.length k2).ownBlock = some k → k < wa.heap.size := fun k hk => Kd.R_lt HRA.out k hk
            have h2 : (g54 d).M wr wz.heap.size (fun k => some k ≠ (Value.slice A2 x.f1.length k2).ownBlock ∧ k ≠ G) y [.int .i64 y.f0, .slice A5 y.f1.length c5] := kS_mkM (Kd.R_lower (Kd.R_mono (Kd.R_bound (by have q := HD5.out; rw [List.take_length] at q; exact q)) (fun k hk => ⟨fun e => by have := hrl k e.symm; have := hk.2.1; omega, by have := hk.2.1; omega⟩)) hA)
            have h3 := (h1.take (by rw [List.getElem?_set_self (by omega)]) h2 hi0).swap (olds' := so) (List.drop_set_of_lt (by omega)) HSO.out HHH.out.hs
            have h4 : x.f0.take i ++ [y] = x.f0.take (i + 1) := by
              obtain ⟨h5, rfl⟩ := List.getElem?_eq_some_iff.1 HY.out
              rw [List.take_succ_eq_append_getElem h5]
            rw [h4] at h3
            exact ⟨i + 1, rfl, ⟨by omega⟩, ⟨.inr ⟨by omega, G, k3, rfl, h3⟩⟩, ⟨Kd.R_below HRV.out BV.out⟩, ⟨blk_below HOV.out BV.out⟩, ⟨BWV.out.trans (BV.out.mono BWV.out.size)⟩⟩
    · have c1 : decide ((i : Int) < (x.f0.length : Int)) = false := decide_eq_false hi
      have c2 : decide (i < x.f0.length) = false := decide_eq_false (by omega)
      obtain rfl : i = x.f0.length := by have := HK.out; omega
      have HR := Aside0.mk HH.out.done
      have a0 := (blk_cell HO.out 0).trans rfl
      have a1 := (blk_cell HO.out 1).trans rfl
      have BX2 := Aside0.mk (HBX.out _ BW.out).2
      have b0 := (blk_cell BX2.out 0).trans rfl
      have b1 := (blk_cell BX2.out 1).trans rfl
      have f0 := blk_frozen BX2.out 0
      have f1 := blk_frozen BX2.out 1
      clear hi
      go_wp2
      have hw2 : w.heap.size + 2 ≤ wz.heap.size := by rw [HWZ.out]; simp only [World.size_alloc]; omega
      have e1 := blk_put BX2.out 0 (.slice A3 x.f0.length k3) rfl
      have e2 := blk_put e1 1 (.slice A2 x.f1.length k2) rfl
      refine bodyPost_ret (v := .agg #[.slice A3 x.f0.length k3, .slice A2 x.f1.length k2]) (results_cell_row rfl _ _ (w.heap.size + 1) 41 _ _ _ rfl e2 Tryd.underlying41 rfl (by kernel_rfl)) rfl ⟨⟨[.slice A3 x.f0.length k3, .slice A2 x.f1.length k2], rfl, kT_mkM ?_ ?_⟩, ?_⟩
      · have h1 := Kd.R_bound HR.out
        rw [List.take_length] at h1
        exact Kd.R_lower (Kd.R_mono (Kd.R_far (Kd.R_far h1 (p := ⟨w.heap.size + 1, 0, none⟩) (fun k hk => by have := hk.2.1; show k ≠ w.heap.size + 1; omega) _) (p := ⟨w.heap.size + 1, 1, none⟩) (fun k hk => by have := hk.2.1; show k ≠ w.heap.size + 1; omega) _) (fun k hk => ⟨trivial, hk.1⟩)) (by omega)
      · have h1 := Kd.R_bound HRR.out
        exact Kd.R_lower (Kd.R_mono (Kd.R_far (Kd.R_far h1 (p := ⟨w.heap.size + 1, 0, none⟩) (fun k hk => by have := hk.2.1; show k ≠ w.heap.size + 1; omega) _) (p := ⟨w.heap.size + 1, 1, none⟩) (fun k hk => by have := hk.2.1; show k ≠ w.heap.size + 1; omega) _) (fun _ _ => trivial)) (by omega)
      · exact ((BZ.out.trans (BW.out.mono BZ.out.size)).setCell (by show w.heap.size ≤ w.heap.size + 1; omega) _).setCell (by show w.heap.size ≤ w.heap.size + 1; omega) _
/-- A tree no greater than a machine's. -/
def okTr (t : TT) : Prop := ∃ n, okT n t
theorem okTr_sub {t : TT} (h : okTr t) : okTree okTr t := by
 obtain ⟨n, h⟩ := h
 cases n with
 | zero => exact h.elim
 | succ n => exact ⟨⟨h.1.1, fun y hy => ⟨(h.1.2 y hy).1, (h.1.2 y hy).2.1, fun v hv => ⟨((h.1.2 y hy).2.2 v hv).1, ((h.1.2 y hy).2.2 v hv).2.1, ((h.1.2 y hy).2.2 v hv).2.2.1, fun z hz => ⟨n, ((h.1.2 y hy).2.2 v hv).2.2.2 z hz⟩⟩⟩⟩, h.2⟩
theorem Copies.imp {α : Type} {d : Kd α} {ok ok' : α → Prop} {F : FuncId} (h : Copies d ok F) (hi : ∀ x, ok' x → ok x) : Copies d ok' F := fun w x cs hk ho => h w x cs hk (hi x ho)
theorem copy_upto (E_ : List Nat) : ∀ n, Copies (Kd.upto F41 2 E_ n) okTr 78
 | 0 => fun w x cs h => h.elim
 | n + 1 => (Copy_c (upto_two E_ n) (copy_upto E_ n)).imp fun x hx => okTr_sub hx
/-- tree.Copy makes an own one of every tree. -/
theorem tree_Copy : Copies k41 okTr 78 := fun w x cs h hok => by
 obtain ⟨n, h⟩ := h
 exact (copy_upto _ n w x cs h hok).mono fun e w' he => by
  obtain ⟨⟨cs', he, hm⟩, hb⟩ := he
  exact ⟨⟨cs', he, n, hm⟩, hb⟩
end Go.Proofs.YthgddlibfboehaaDoor.TK
end
section
namespace Go.Proofs.YthgddlibfboehaaDoor.TK
open Go.RowKit Go.Proofs.YthgddlibfboehaaDoor.Ops Go.Proofs.YthgddlibfboehaaDoor.KD Go.Proofs.YthgddlibfboehaaDoor.M Go.Proofs.YthgddlibfboehaaDoorW.PrintWords Go.Proofs.YthgddlibfboehaaDoorW.PrintLast Go.Proofs.YthgddlibfboehaaDoorW.PrintMore Go.Proofs.YthgddlibfboehaaDoor.Open
set_option linter.unusedVariables false
set_option linter.unusedSimpArgs false
abbrev TZ := TS × Value
/-- The cells of slots. -/
def fl : List TZ → List Value
 | [] => []
 | z :: r => .int .i64 z.1.f0 :: z.2 :: fl r
theorem fl_len : ∀ Z : List TZ, (fl Z).length = Z.length * 2
 | [] => rfl
 | z :: r => by rw [fl, List.length_cons, List.length_cons, fl_len r, List.length_cons]; omega
theorem fl_append : ∀ A B : List TZ, fl (A ++ B) = fl A ++ fl B
 | [], B => rfl
 | z :: r, B => by rw [List.cons_append, fl, fl, fl_append r B, List.cons_append, List.cons_append]
theorem fl_drop : ∀ (i : Nat) (Z : List TZ), (fl Z).drop (i * 2) = fl (Z.drop i)
 | 0, Z => rfl
 | i + 1, [] => by rw [List.drop_nil]; exact List.drop_nil
 | i + 1, z :: r => by
  rw [List.drop_succ_cons, ← fl_drop i r, show (i + 1) * 2 = i * 2 + 1 + 1 by omega, fl, List.drop_succ_cons, List.drop_succ_cons]
theorem fl_take : ∀ (i : Nat) (Z : List TZ), (fl Z).take (i * 2) = fl (Z.take i)
 | 0, Z => by rw [Nat.zero_mul, List.take_zero, List.take_zero]; rfl
 | i + 1, [] => by rw [List.take_nil]; exact List.take_nil
 | i + 1, z :: r => by
  have q := fl_take i r
  rw [List.take_succ_cons, show (i + 1) * 2 = i * 2 + 1 + 1 by omega, fl, List.take_succ_cons, List.take_succ_cons, q]
  rfl
theorem fl_get : ∀ (i : Nat) (Z : List TZ) (z : TZ), Z[i]? = some z → (fl Z)[i * 2]? = some (.int .i64 z.1.f0) ∧ (fl Z)[i * 2 + 1]? = some z.2
 | 0, [], z, h => by simp at h
 | i + 1, [], z, h => by simp at h
 | 0, y :: r, z, h => by
  simp only [List.getElem?_cons_zero, Option.some.injEq] at h
  subst h
  exact ⟨rfl, rfl⟩
 | i + 1, y :: r, z, h => by
  have q := fl_get i r z (by simpa using h)
  rw [show (i + 1) * 2 = i * 2 + 1 + 1 by omega, fl]
  exact q
theorem fl_set : ∀ (i : Nat) (Z : List TZ) (z : TZ) (sp : List Value), i < Z.length → ((fl Z ++ sp).set (i * 2) (.int .i64 z.1.f0)).set (i * 2 + 1) z.2 = fl (Z.set i z) ++ sp
 | 0, [], z, sp, h => absurd h (Nat.not_lt_zero _)
 | i + 1, [], z, sp, h => absurd h (Nat.not_lt_zero _)
 | 0, y :: r, z, sp, h => rfl
 | i + 1, y :: r, z, sp, h => by
  have q := fl_set i r z sp (Nat.lt_of_succ_lt_succ h)
  rw [show (i + 1) * 2 = i * 2 + 1 + 1 by omega, fl, List.set_cons_succ, fl, List.cons_append, List.cons_append, List.set_cons_succ, List.set_cons_succ, List.set_cons_succ, List.set_cons_succ, q]
  rfl
theorem fl_mem : ∀ (Z : List TZ) (u : Value), u ∈ fl Z → (∃ z ∈ Z, u = .int .i64 z.1.f0 ∨ u = z.2)
 | [], u, h => by simp [fl] at h
 | z :: r, u, h => by
  rw [fl, List.mem_cons, List.mem_cons] at h
  rcases h with h | h | h
  · exact ⟨z, by simp, .inl h⟩
  · exact ⟨z, by simp, .inr h⟩
  · obtain ⟨y, hy, h⟩ := fl_mem r u h
    exact ⟨y, by simp [hy], h⟩
/-- A row of one's own, at its block's head: its slots (and what their second cells hold). -/
structure ZR (w : World) (base G cap : Nat) (ok : Nat → Prop) (Z : List TZ) : Prop where
 is : ∃ (cur : Array Value) (sp : List Value), w.heap[G]? = some (.cells cur 54 (0, 0)) ∧ cur.toList = fl Z ++ sp ∧ cur.size = cap * 2
 hc : Z.length ≤ cap
 hm : cap ≤ maxLen
 hb : base ≤ G
 og : ok G
 el : ∀ z ∈ Z, k54.M w base (fun k => ok k ∧ k ≠ G) z.1 [.int .i64 z.1.f0, z.2]
theorem reps_fl {R : TS → List Value → Prop} (hR : ∀ x cs, R x cs → ∃ v, cs = [.int .i64 x.f0, v]) : ∀ {xs : List TS} {inner : List Value}, Reps R 2 xs inner → ∃ Z : List TZ, inner = fl Z ∧ Z.map Prod.fst = xs ∧ ∀ z ∈ Z, R z.1 [.int .i64 z.1.f0, z.2]
 | [], inner, h => by
  have := h.1
  simp at this
  exact ⟨[], by rw [this]; rfl, rfl, by simp⟩
 | x :: r, inner, h => by
  have h0 := h.2 0 x rfl
  rw [Nat.zero_mul, List.drop_zero] at h0
  obtain ⟨v, hv⟩ := hR _ _ h0
  have h1 : Reps R 2 r (inner.drop 2) := by
    refine ⟨by rw [List.length_drop, h.1, List.length_cons, Nat.add_mul, Nat.one_mul]; omega, fun j p hj => ?_⟩
    have := h.2 (j + 1) p (by simpa using hj)
    rw [List.drop_drop]
    rwa [show (j + 1) * 2 = 2 + j * 2 by rw [Nat.add_mul, Nat.one_mul, Nat.add_comm]] at this
  obtain ⟨Z, e1, e2, e3⟩ := reps_fl hR h1
  refine ⟨(x, v) :: Z, ?_, by rw [List.map_cons, e2], fun z hz => ?_⟩
  · rw [fl, ← e1, ← List.take_append_drop 2 inner, hv]
    simp
  · rcases List.mem_cons.1 hz with rfl | hz
    · rw [hv] at h0; exact h0
    · exact e3 z hz
theorem fl_reps {R : TS → List Value → Prop} : ∀ {Z : List TZ}, (∀ z ∈ Z, R z.1 [.int .i64 z.1.f0, z.2]) → Reps R 2 (Z.map Prod.fst) (fl Z) := by
 intro Z h
 refine ⟨by rw [fl_len, List.length_map], fun j p hj => ?_⟩
 rw [List.getElem?_map] at hj
 obtain ⟨z, hz, rfl⟩ := Option.map_eq_some_iff.1 hj
 obtain ⟨hl, rfl⟩ := List.getElem?_eq_some_iff.1 hz
 rw [fl_drop, List.drop_eq_getElem_cons hl]
 exact h _ (List.getElem_mem hl)
theorem ZR.of_R {w : World} {base G n cap : Nat} {ok : Nat → Prop} {xs : List TS} (h : k54.R 54 w base ok (.slice (some ⟨G, 0, none⟩) n cap) xs) : n = xs.length ∧ ∃ Z, ZR w base G cap ok Z ∧ Z.map Prod.fst = xs := by
 obtain ⟨h0, inner, ⟨h1, h2⟩, hr⟩ := h
 rcases h2 with ⟨h2, _⟩ | ⟨G', cap', cur, he, hb, hh, hn, hm, hs, ht⟩
 · cases h2
 · injection he with e1 e2 e3
   injection e1 with e1
   injection e1 with e1
   subst e1
   subst e3
   obtain ⟨Z, e4, e5, e6⟩ := reps_fl (fun x cs hx => by obtain ⟨v, rfl, _⟩ := k54_openM hx; exact ⟨v, rfl⟩) hr
   refine ⟨e2, Z, ⟨⟨cur, cur.toList.drop (xs.length * 2), hh, ?_, hs⟩, by rw [← e5, List.length_map] at hn; exact hn, hm, hb, h0 _ rfl, fun z hz => k54.M_mono (fun k hk => ⟨hk.1, fun e => hk.2 (by rw [e]; rfl)⟩) (e6 z hz)⟩, e5⟩
   rw [← e4, ← ht]
   exact (List.take_append_drop _ _).symm
theorem ZR.to_R {w : World} {base G cap : Nat} {ok : Nat → Prop} {Z : List TZ} (h : ZR w base G cap ok Z) : k54.R 54 w base ok (.slice (some ⟨G, 0, none⟩) Z.length cap) (Z.map Prod.fst) := by
 obtain ⟨⟨cur, sp, h1, h2, h3⟩, hc, hm, hb, og, el⟩ := h
 refine ⟨fun k hk => by injection hk with hk; exact hk ▸ og, fl Z, ⟨by rw [fl_len, List.length_map]; rfl, .inr ⟨G, cap, cur, by rw [List.length_map], hb, h1, by rw [List.length_map]; exact hc, hm, h3, ?_⟩⟩, fl_reps (fun z hz => k54.M_mono (fun k hk => ⟨hk.1, fun hh => hk.2 (by injection hh)⟩) (el z hz))⟩
 rw [List.length_map, h2]
 exact List.take_left' (fl_len Z)
/-- The block turns into another row: what hangs on it stays. -/
theorem ZR.turn {w w' : World} {base G cap : Nat} {ok : Nat → Prop} {Z Z' : List TZ} {cur : Array Value} {sp : List Value} (h : ZR w base G cap ok Z) (hg : w.grownBy w' (some G)) (hh : w'.heap[G]? = some (.cells cur 54 (0, 0))) (hcur : cur.toList = fl Z' ++ sp) (hs : cur.size = cap * 2) (hl : Z'.length ≤ cap) (hz : ∀ z ∈ Z', k54.M w base (fun k => ok k ∧ k ≠ G) z.1 [.int .i64 z.1.f0, z.2]) : ZR w' base G cap ok Z' :=
 ⟨⟨cur, sp, hh, hcur, hs⟩, hl, h.hm, h.hb, h.og, fun z hm => Kd.M_grown (hz z hm) hg (fun k hk e => hk.2 (by injection e))⟩
theorem ZR.below {w w' : World} {base G cap : Nat} {ok : Nat → Prop} {Z : List TZ} (h : ZR w base G cap ok Z) (hb : Below w.heap.size w w') : ZR w' base G cap ok Z := by
 obtain ⟨⟨cur, sp, h1, h2, h3⟩, hc, hm, hb2, og, el⟩ := h
 exact ⟨⟨cur, sp, blk_below h1 hb, h2, h3⟩, hc, hm, hb2, og, fun z hz => Kd.M_below (el z hz) hb⟩
theorem ZR.take {w : World} {base G cap : Nat} {ok : Nat → Prop} {Z : List TZ} (h : ZR w base G cap ok Z) (m : Nat) : ZR w base G cap ok (Z.take m) := by
 obtain ⟨⟨cur, sp, h1, h2, h3⟩, hc, hm, hb2, og, el⟩ := h
 refine ⟨⟨cur, fl (Z.drop m) ++ sp, h1, ?_, h3⟩, Nat.le_trans (List.length_take_le' _ _) hc, hm, hb2, og, fun z hz => el z (List.mem_of_mem_take hz)⟩
 rw [h2, ← List.append_assoc, ← fl_append, List.take_append_drop]
theorem ZR.cell {w : World} {base G cap : Nat} {ok : Nat → Prop} {Z : List TZ} (h : ZR w base G cap ok Z) {i : Nat} {z : TZ} (hz : Z[i]? = some z) : w.cell? ⟨G, i * 2, none⟩ = some (.int .i64 z.1.f0) ∧ w.cell? ⟨G, i * 2 + 1, none⟩ = some z.2 ∧ (∀ o, w.frozen? ⟨G, o, none⟩ = false) := by
 obtain ⟨⟨cur, sp, h1, h2, h3⟩, hc, hm, hb2, og, el⟩ := h
 obtain ⟨g1, g2⟩ := fl_get i Z z hz
 have hl := (List.getElem?_eq_some_iff.1 hz).1
 have hf := fl_len Z
 refine ⟨?_, ?_, fun o => blk_frozen h1 o⟩
 · rw [blk_cell h1, ← Array.getElem?_toList, h2, List.getElem?_append_left (by omega)]; exact g1
 · rw [blk_cell h1, ← Array.getElem?_toList, h2, List.getElem?_append_left (by omega)]; exact g2
theorem ZR.lt {w : World} {base G cap : Nat} {ok : Nat → Prop} {Z : List TZ} (h : ZR w base G cap ok Z) : G < w.heap.size := by
 obtain ⟨⟨cur, sp, h1, h2, h3⟩, _⟩ := h
 exact blk_lt h1
theorem grown_set2 (w : World) (G o o' : Nat) (u u' : Value) : w.grownBy ((w.setCell ⟨G, o, none⟩ u).setCell ⟨G, o', none⟩ u') (some G) :=
 ⟨rfl, rfl, rfl, by simp, fun k _ hne => by
  have hk : k ≠ G := fun e => hne (by rw [e])
  rw [Below.heap_setCell _ _ _ _ (by exact hk), Below.heap_setCell _ _ _ _ (by exact hk)]⟩
theorem ZR.set {w : World} {base G cap : Nat} {ok : Nat → Prop} {Z : List TZ} (h : ZR w base G cap ok Z) {i : Nat} {z : TZ} (hi : i < Z.length) (hz : k54.M w base (fun k => ok k ∧ k ≠ G) z.1 [.int .i64 z.1.f0, z.2]) : ZR ((w.setCell ⟨G, i * 2, none⟩ (.int .i64 z.1.f0)).setCell ⟨G, i * 2 + 1, none⟩ z.2) base G cap ok (Z.set i z) := by
 have h' := h
 obtain ⟨⟨cur, sp, h1, h2, h3⟩, hc, hm, hb2, og, el⟩ := h
 refine h'.turn (sp := sp) (grown_set2 _ _ _ _ _ _) (blk_put (blk_put h1 (i * 2) _ rfl) (i * 2 + 1) _ rfl) ?_ ?_ (by rw [List.length_set]; exact hc) (fun y hy => ?_)
 · rw [Array.toList_setIfInBounds, Array.toList_setIfInBounds, h2]
   exact fl_set i Z z sp hi
 · simp only [Array.size_setIfInBounds]; exact h3
 · rcases List.mem_or_eq_of_mem_set hy with hy | rfl
   · exact el y hy
   · exact hz
/-- What is written over a row's cells from slot i on. -/
theorem ZR.over {w : World} {base G cap : Nat} {ok : Nat → Prop} {Z : List TZ} (h : ZR w base G cap ok Z) {cur : Array Value} (hcur : w.heap[G]? = some (.cells cur 54 (0, 0))) {i : Nat} {Y : List TZ} (hi : i ≤ Z.length) (hl : i + Y.length ≤ cap) (hy : ∀ z ∈ Y, k54.M w base (fun k => ok k ∧ k ≠ G) z.1 [.int .i64 z.1.f0, z.2]) :
   ZR (w.setRow G (cur.toList.take (i * 2) ++ fl Y ++ cur.toList.drop (i * 2 + (fl Y).length)).toArray) base G cap ok (Z.take i ++ Y ++ Z.drop (i + Y.length)) ∧ w.grownBy (w.setRow G (cur.toList.take (i * 2) ++ fl Y ++ cur.toList.drop (i * 2 + (fl Y).length)).toArray) (some G) := by
 have h' := h
 obtain ⟨⟨cur', sp, h1, h2, h3⟩, hc, hm, hb2, og, el⟩ := h
 rw [h1] at hcur
 injection hcur with hcur
 injection hcur with hcur
 subst hcur
 have hg : w.grownBy (w.setRow G (cur'.toList.take (i * 2) ++ fl Y ++ cur'.toList.drop (i * 2 + (fl Y).length)).toArray) (some G) := ⟨rfl, rfl, rfl, by simp, fun k _ hne => setRow_other _ _ _ _ (fun e => hne (by rw [e]))⟩
 refine ⟨h'.turn (sp := if i + Y.length ≤ Z.length then sp else sp.drop ((i + Y.length - Z.length) * 2)) hg (setRow_heap _ _ _ _ _ _ h1) ?_ ?_ ?_ ?_, hg⟩
 · have e1 : cur'.toList.take (i * 2) = fl (Z.take i) := by
     rw [h2, List.take_append_of_le_length (by rw [fl_len]; omega), fl_take]
   rw [e1, fl_len, ← Nat.add_mul, h2]
   show _ = _
   rw [fl_append, fl_append]
   simp only [List.append_assoc]
   congr 2
   split
   · rename_i hle
     rw [List.drop_append_of_le_length (by rw [fl_len]; omega), fl_drop]
   · rename_i hle
     rw [List.drop_append, List.drop_eq_nil_of_le (by rw [fl_len]; omega), show Z.drop (i + Y.length) = [] from List.drop_eq_nil_of_le (by omega), fl_len, ← Nat.sub_mul]
     rfl
 · have := fl_len Y
   have hcs : cur'.toList.length = cap * 2 := by rw [Array.length_toList]; exact h3
   rw [List.size_toArray]
   simp only [List.length_append, List.length_take, List.length_drop, hcs, this]
   omega
 · simp only [List.length_append, List.length_take, List.length_drop]
   omega
 · intro z hz
   rw [List.append_assoc, List.mem_append, List.mem_append] at hz
   rcases hz with hz | hz | hz
   · exact el z (List.mem_of_mem_take hz)
   · exact hy z hz
   · exact el z (List.mem_of_mem_drop hz)
end Go.Proofs.YthgddlibfboehaaDoor.TK
end
section
namespace Go.Proofs.YthgddlibfboehaaDoor.M
open Go.RowKit Go.Proofs.YthgddlibfboehaaDoorW.PrintWords Go.Proofs.YthgddlibfboehaaDoorW.PrintLast Go.Proofs.YthgddlibfboehaaDoorW.PrintMore Go.Proofs.YthgddlibfboehaaDoor.KD
set_option linter.unusedVariables false
set_option linter.unusedSimpArgs false
set_option maxHeartbeats 1000000
set_option maxRecDepth 100000
/-- The first place of such an element, counted from i; -1, if there is none. -/
def ixF {α : Type} (p : α → Bool) : List α → Nat → Int
 | [], _ => -1
 | x :: xs, i => if p x then (i : Int) else ixF p xs (i + 1)
theorem ixF_at {α : Type} {p : α → Bool} {xs : List α} {i : Nat} {x : α} (h : xs[i]? = some x) (k : Nat) : ixF p (xs.drop i) k = if p x then (k : Int) else ixF p (xs.drop (i + 1)) (k + 1) := by
 obtain ⟨h1, rfl⟩ := List.getElem?_eq_some_iff.1 h
 rw [List.drop_eq_getElem_cons h1, ixF]
def TellsC {α : Type} (d : Kd α) (F : FuncId) (cap : Value) (w0 : World) (p : α → Bool) : Prop :=
 ∀ (w : World) (x : α) (cs : List Value), Below w0.heap.size w0 w → d.K w x cs → Calls Tryd.prog F #[.agg cs.toArray, cap] w fun r w' => r = .returned (.bool (p x)) ∧ Below w.heap.size w w'
end Go.Proofs.YthgddlibfboehaaDoor.M
end
section
namespace Go.Proofs.YthgddlibfboehaaDoor.M
open Go.RowKit Go.Proofs.YthgddlibfboehaaDoorW.PrintWords Go.Proofs.YthgddlibfboehaaDoorW.PrintLast Go.Proofs.YthgddlibfboehaaDoorW.PrintMore Go.Proofs.YthgddlibfboehaaDoor.KD
set_option linter.unusedVariables false
set_option linter.unusedSimpArgs false
set_option maxHeartbeats 1000000
set_option maxRecDepth 100000
theorem atK_Slot {w : World} {A : Option Addr} {n : Nat} {xs : List S54} (h : k54.C w A n xs) (i : Nat) (h1 : i < n) : ∃ ad i0 A1 n1 c1 x, A = some ad ∧ xs[i]? = some x ∧ w.cell? (ad.add (i * 2)) = some (.int .i64 i0) ∧ w.cell? ⟨(ad.add (i * 2)).block, (ad.add (i * 2)).off + 1, none⟩ = some (.slice A1 n1 c1) ∧ k54.K w x [.int .i64 i0, .slice A1 n1 c1] := by
 have hl : i < xs.length := by have := h.1; omega
 obtain ⟨ad, c, e, _, hK, hc0⟩ := Kd.C_get h xs[i] i (by omega) (by omega)
 have hr : xs.getD (i : Int).toNat xs[i] = xs[i] := by rw [Int.toNat_natCast, List.getD_eq_getElem?_getD, List.getElem?_eq_getElem hl]; rfl
 rw [hr] at hK
 have hc : ∀ j u, c[j]? = some u → w.cell? (ad.add (i * 2 + j)) = some u := hc0
 obtain ⟨A1, c1, rfl, _⟩ := k54_open hK
 exact ⟨ad, _, A1, _, c1, xs[i], e, List.getElem?_eq_getElem hl, hc 0 _ rfl, by rw [← add_field _ _ 1 (by omega)]; exact hc 1 _ rfl, hK⟩
theorem Idx_tree_of1 {w : World} {A : Option Addr} {c : Nat} {cap : Value} {p : S54 → Bool} {xs : List S54} (HE : TellsC k54 88 cap w p) (hA : k54.C w A xs.length xs) :
  Calls Tryd.prog 76 #[.slice A xs.length c, .func (.func 88) #[] #[cap]] w fun r w' => r = .returned (.int .i64 (ixF p xs 0)) ∧ Below w.heap.size w w' := by
 have HA := Aside0.mk hA
 have HQ := Aside0.mk HE
 have HM := Aside0.mk (Kd.C_max hA)
 clear hA HE
 go_enter Tryd.func76, Tryd.ntmps76
 go_wp2
 go_loopg [8] xs.length (fun kq v8 w' => ∃ i : Nat, v8 = .int .i64 (i : Int) ∧ Aside0 (kq + i = xs.length) ∧ Aside0 (ixF p xs 0 = ixF p (xs.drop i) i) ∧ Aside0 (Below w.heap.size w w'))
 case atStart => exact ⟨0, rfl, ⟨by omega⟩, ⟨rfl⟩, ⟨Below.refl _ _⟩⟩
 case round =>
  obtain ⟨i, rfl, HK, HE, BW⟩ := hrel
  by_cases hi : (i : Int) < (xs.length : Int)
  · have c1 : decide ((i : Int) < (xs.length : Int)) = true := decide_eq_true hi
    have p0 : (0 : Int) ≤ (i : Int) := by omega
    obtain ⟨ad, i0, A1, n1, c1, x, rfl, hx, q0, q1, hk⟩ := atK_Slot (Kd.C_below HA.out BW.out) i (by omega)
    have HX := Aside0.mk hx
    have K1 := Aside0.mk hk
    have hw : IntKind.i64.wrap ((i : Int) + 1) = ((i + 1 : Nat) : Int) := by have := HM.out; rw [IntKind.wrap_i64]; omega
    have HI := Aside0.mk (show i < xs.length by omega)
    replace hi := eq_true hi
    clear hx hk
    have HC := Aside0.mk (HQ.out _ _ _ BW.out K1.out)
    have HN := Aside0.mk (ixF_at (p := p) HX.out i)
    cases he : p x with
    | true =>
     rw [he] at HC HN
     have HF := Aside0.mk (show ixF p xs 0 = (i : Int) by rw [HE.out, HN.out]; rfl)
     go_wp2_with (first | (go_at_call 88; refine HC.out.mono ?_; rintro r w2 ⟨rfl, b2⟩; have B2 := Aside0.mk b2; clear b2))
     go_ret
     exact ⟨by rw [HF.out]; rfl, BW.out.trans (B2.out.mono BW.out.size)⟩
    | false =>
     rw [he] at HC HN
     go_wp2_with (first | (go_at_call 88; refine HC.out.mono ?_; rintro r w2 ⟨rfl, b2⟩; have B2 := Aside0.mk b2; clear b2))
     go_roundg (xs.length - (i + 1))
     case measure => have := HK.out; have := HI.out; omega
     case rel => exact ⟨i + 1, rfl, ⟨by have := HI.out; omega⟩, ⟨by rw [HE.out, HN.out]; rfl⟩, ⟨BW.out.trans (B2.out.mono BW.out.size)⟩⟩
  · have c1 : decide ((i : Int) < (xs.length : Int)) = false := decide_eq_false hi
    have c2 : decide (i < xs.length) = false := decide_eq_false (by omega)
    have HF := Aside0.mk (show ixF p xs 0 = -1 by rw [HE.out, List.drop_eq_nil_of_le (by omega)]; rfl)
    clear hi
    go_wp2
    go_ret
    exact ⟨by rw [HF.out]; rfl, BW.out⟩
theorem tree_of1_c {w : World} {a : Addr} {v : Int} (hv : w.cell? a = some (.int .i64 v)) : TellsC k54 88 (.pointer (some a)) w (fun x => x.f0 == v) := by
 intro w2 x cs hb hk
 obtain ⟨A1, c1, rfl, _⟩ := k54_open hk
 have hv2 := pw_cell_below hb hv
 have hv3 : ∀ o, (w2.alloc o).cell? a = some (.int .i64 v) := fun o => pw_cell_below (below_alloc (Below.refl _ _) o) hv2
 clear hk hb hv
 go_enter Tryd.func88, Tryd.ntmps88
 go_wp2
 go_ret
 exact ⟨rfl, below_alloc (Below.refl _ _) _⟩
theorem Idx_tree_With1 {w : World} {A : Option Addr} {c : Nat} {cap : Value} {p : S54 → Bool} {xs : List S54} (HE : TellsC k54 83 cap w p) (hA : k54.C w A xs.length xs) :
  Calls Tryd.prog 76 #[.slice A xs.length c, .func (.func 83) #[] #[cap]] w fun r w' => r = .returned (.int .i64 (ixF p xs 0)) ∧ Below w.heap.size w w' := by
 have HA := Aside0.mk hA
 have HQ := Aside0.mk HE
 have HM := Aside0.mk (Kd.C_max hA)
 clear hA HE
 go_enter Tryd.func76, Tryd.ntmps76
 go_wp2
 go_loopg [8] xs.length (fun kq v8 w' => ∃ i : Nat, v8 = .int .i64 (i : Int) ∧ Aside0 (kq + i = xs.length) ∧ Aside0 (ixF p xs 0 = ixF p (xs.drop i) i) ∧ Aside0 (Below w.heap.size w w'))
 case atStart => exact ⟨0, rfl, ⟨by omega⟩, ⟨rfl⟩, ⟨Below.refl _ _⟩⟩
 case round =>
  obtain ⟨i, rfl, HK, HE, BW⟩ := hrel
  by_cases hi : (i : Int) < (xs.length : Int)
  · have c1 : decide ((i : Int) < (xs.length : Int)) = true := decide_eq_true hi
    have p0 : (0 : Int) ≤ (i : Int) := by omega
    obtain ⟨ad, i0, A1, n1, c1, x, rfl, hx, q0, q1, hk⟩ := atK_Slot (Kd.C_below HA.out BW.out) i (by omega)
    have HX := Aside0.mk hx
    have K1 := Aside0.mk hk
    have hw : IntKind.i64.wrap ((i : Int) + 1) = ((i + 1 : Nat) : Int) := by have := HM.out; rw [IntKind.wrap_i64]; omega
    have HI := Aside0.mk (show i < xs.length by omega)
    replace hi := eq_true hi
    clear hx hk
    have HC := Aside0.mk (HQ.out _ _ _ BW.out K1.out)
    have HN := Aside0.mk (ixF_at (p := p) HX.out i)
    cases he : p x with
    | true =>
     rw [he] at HC HN
     have HF := Aside0.mk (show ixF p xs 0 = (i : Int) by rw [HE.out, HN.out]; rfl)
     go_wp2_with (first | (go_at_call 83; refine HC.out.mono ?_; rintro r w2 ⟨rfl, b2⟩; have B2 := Aside0.mk b2; clear b2))
     go_ret
     exact ⟨by rw [HF.out]; rfl, BW.out.trans (B2.out.mono BW.out.size)⟩
    | false =>
     rw [he] at HC HN
     go_wp2_with (first | (go_at_call 83; refine HC.out.mono ?_; rintro r w2 ⟨rfl, b2⟩; have B2 := Aside0.mk b2; clear b2))
     go_roundg (xs.length - (i + 1))
     case measure => have := HK.out; have := HI.out; omega
     case rel => exact ⟨i + 1, rfl, ⟨by have := HI.out; omega⟩, ⟨by rw [HE.out, HN.out]; rfl⟩, ⟨BW.out.trans (B2.out.mono BW.out.size)⟩⟩
  · have c1 : decide ((i : Int) < (xs.length : Int)) = false := decide_eq_false hi
    have c2 : decide (i < xs.length) = false := decide_eq_false (by omega)
    have HF := Aside0.mk (show ixF p xs 0 = -1 by rw [HE.out, List.drop_eq_nil_of_le (by omega)]; rfl)
    clear hi
    go_wp2
    go_ret
    exact ⟨by rw [HF.out]; rfl, BW.out⟩
theorem tree_With1_c {w : World} {a : Addr} {v : Int} (hv : w.cell? a = some (.int .i64 v)) : TellsC k54 83 (.pointer (some a)) w (fun x => decide (v < x.f0)) := by
 intro w2 x cs hb hk
 obtain ⟨A1, c1, rfl, _⟩ := k54_open hk
 have hv2 := pw_cell_below hb hv
 have hv3 : ∀ o, (w2.alloc o).cell? a = some (.int .i64 v) := fun o => pw_cell_below (below_alloc (Below.refl _ _) o) hv2
 clear hk hb hv
 go_enter Tryd.func83, Tryd.ntmps83
 go_wp2
 go_ret
 exact ⟨rfl, below_alloc (Below.refl _ _) _⟩
end Go.Proofs.YthgddlibfboehaaDoor.M
end

/- The law's kin: what Kin tells, at most so many; of schemas with so many messages at most. -/
import Derived.Test.YtbpnfpckoapdbaaFindG
namespace Go.Proofs.Ytbpnfpckoapdbaa.M
open Go.RowKit Go.Shelf Go.Proofs.Ytbpnfpckoapdbaa.Rng Go.Proofs.YtbpnfpckoapdbaaW.PrintWords Go.Proofs.YtbpnfpckoapdbaaW.PrintLast Go.Proofs.YtbpnfpckoapdbaaW.PrintMore Go.Proofs.Ytbpnfpckoapdbaa.KD
set_option linter.unusedVariables false
set_option linter.unusedSimpArgs false
set_option maxHeartbeats 4000000
set_option maxRecDepth 100000
theorem Kin_c (A0 A1 : Option Addr) (n0 c0 n1 c1 : Nat) (w : World) : Calls Try.prog 61 #[.agg #[.slice A0 n0 c0, .slice A1 n1 c1]] w fun e w' => e = .returned (.func (.func 91) #[] #[.pointer (some ⟨w.heap.size, 0, none⟩)]) ∧ Below w.heap.size w w' ∧ w'.heap[w.heap.size]? = some (.cells #[.slice A0 n0 c0, .slice A1 n1 c1] 35 (0, 0)) := by
  go_enter Try.func61, Try.ntmps61
  go_wp2
  go_ret
  exact ⟨rfl, below_alloc (Below.refl _ _) _, blk_new _ _⟩
theorem eq_seq (w : World) (f : Fn) (fi ca : Array Value) : (binOp .eql 90 (.func f fi ca) .nilFunc).run Try.prog w = .ok (.bool false) w := by
  have h : ∀ d : Nat, (Op.equalIn (d + 1) 90 (.func f fi ca) .nilFunc).run Try.prog w = .ok false w := fun d => by
    simp [Op.equalIn, run_underlying Try.underlying90]
  simp only [binOp]
  simp [Op.equal, Op.maxDepth, h 9999]
def ecdysislaw16_kin.f (l0_0 : List S86) (l0_1 : List S47) (a1 : Int) : Option (List ByteArray × Bool) := if l0_1.length ≤ 100000 then some (kinL l0_1 a1, true) else none
theorem ecdysislaw16_kin.calls (A0_0 : Option Addr) (c0_0 : Nat) (l0_0 : List S86) (A0_1 : Option Addr) (c0_1 : Nat) (l0_1 : List S47) (a1 : Int) (r1 : List ByteArray) (r2 : Bool) (w : World) (hr0_0 : Kd.C k86 w A0_0 l0_0.length l0_0) (hc0_0 : l0_0.length ≤ c0_0) (hr0_1 : Kd.C k47 w A0_1 l0_1.length l0_1) (hc0_1 : l0_1.length ≤ c0_1) (h : ecdysislaw16_kin.f l0_0 l0_1 a1 = some (r1, r2)) :
    Calls Try.prog 23 #[.agg #[.slice A0_0 l0_0.length c0_0, .slice A0_1 l0_1.length c0_1], .int .i64 a1] w fun e w' => ∃ v0_ : Value, e = .returned (.tuple #[v0_, .bool r2]) ∧ Kd.R Kd.string 9 w' w.heap.size (fun _ => True) v0_ r1 ∧ Below w.heap.size w w' := by
  unfold ecdysislaw16_kin.f at h
  by_cases hl : l0_1.length ≤ 100000
  · rw [if_pos hl] at h
    simp only [Option.some.injEq, Prod.mk.injEq] at h
    obtain ⟨rfl, rfl⟩ := h
    obtain ⟨wz, hwz⟩ : ∃ wz, wz = (((w.alloc (.cells #[.slice A0_0 l0_0.length c0_0, .slice A0_1 l0_1.length c0_1] 35)).alloc (.cells #[.int .i64 a1] 3)).alloc (.cells #[] 9)).alloc (.cells #[.slice (some ⟨w.heap.size + 1 + 1, 0, none⟩) 0 0] 37) := ⟨_, rfl⟩
    have hb : Below w.heap.size w wz := by rw [hwz]; exact ((((Below.refl _ _).alloc (Nat.le_refl _) _).alloc (by simp) _).alloc (by simp; omega) _).alloc (by simp; omega) _
    have h1 : wz.heap[w.heap.size + 1]? = some (.cells #[.int .i64 a1] 3 (0, 0)) := by
      have h := blk_new (w.alloc (.cells #[.slice A0_0 l0_0.length c0_0, .slice A0_1 l0_1.length c0_1] 35)) (.cells #[.int .i64 a1] 3)
      rw [World.size_alloc] at h
      rw [hwz]
      exact blk_alloc (blk_alloc h _) _
    have h2 : wz.heap[w.heap.size + 1 + 1]? = some (.cells #[] 9 (0, 0)) := by
      have h := blk_new ((w.alloc (.cells #[.slice A0_0 l0_0.length c0_0, .slice A0_1 l0_1.length c0_1] 35)).alloc (.cells #[.int .i64 a1] 3)) (.cells #[] 9)
      rw [World.size_alloc, World.size_alloc] at h
      rw [hwz]
      exact blk_alloc h _
    have h3 : wz.heap[w.heap.size + 1 + 1 + 1]? = some (.cells #[.slice (some ⟨w.heap.size + 1 + 1, 0, none⟩) 0 0] 37 (0, 0)) := by
      have h := blk_new (((w.alloc (.cells #[.slice A0_0 l0_0.length c0_0, .slice A0_1 l0_1.length c0_1] 35)).alloc (.cells #[.int .i64 a1] 3)).alloc (.cells #[] 9)) (.cells #[.slice (some ⟨w.heap.size + 1 + 1, 0, none⟩) 0 0] 37)
      rw [World.size_alloc, World.size_alloc, World.size_alloc] at h
      rw [hwz]
      exact h
    have HZ := Aside0.mk hwz
    have HB := Aside0.mk hb
    have HI := Aside0.mk (fun (w2 : World) (k : Nat) (hb2 : Below wz.heap.size wz w2) (hx : w2.heap[wz.heap.size]? = some (.cells #[.slice A0_0 l0_0.length c0_0, .slice A0_1 l0_1.length c0_1] 35 (0, 0))) => show KI w wz.heap.size (w.heap.size + 1 + 1 + 1) (w.heap.size + 1) A0_0 A0_1 c0_0 c0_1 l0_0 l0_1 a1 [] (.slice (some ⟨w.heap.size + 1 + 1, 0, none⟩) 0 0) w2 from
      ⟨hb.trans (hb2.mono hb.size), Nat.le_trans hb.size hb2.size, hx, blk_below h3 hb2, blk_below h1 hb2, ⟨fun _ _ => trivial, [], ⟨rfl, .inr ⟨_, 0, #[], rfl, by omega, blk_below h2 hb2, Nat.le_refl _, by decide, rfl, rfl⟩⟩, Reps.none _ _⟩, by omega, hr0_0, hc0_0, hr0_1, hc0_1⟩)
    have HL := Aside0.mk hl
    have q1 := eq_seq
    clear hr0_0 hc0_0 hr0_1 hc0_1 hwz hb h1 h2 h3 hl
    go_enter Try.func23, Try.ntmps23
    go_wp2_with (first
      | (go_at_call 61; rw [← HZ.out]; refine (Kin_c _ _ _ _ _ _ _).mono ?_; rintro e w2 ⟨rfl, b2, x2⟩
         have J2 := Aside0.mk (HI.out w2 0 b2 x2)
         clear b2 x2)
      | (go_at_call 91; refine (Kin1_c J2.out HL.out).mono ?_; rintro e w3 ⟨⟨v3, rfl⟩, vo3, j3⟩
         have z3 := (blk_cell j3.obx 0).trans rfl
         have J3 := Aside0.mk j3
         clear j3))
    go_ret2
    exact ⟨_, rfl, J3.out.out, J3.out.bel⟩
  · rw [if_neg hl] at h
    cases h
end Go.Proofs.Ytbpnfpckoapdbaa.M

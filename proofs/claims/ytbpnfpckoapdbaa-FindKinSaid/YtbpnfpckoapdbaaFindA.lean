/- find.Message, Enum, Field, Number: the first place, or -1; no conditions but that what comes in reads as lists. -/
import Derived.Test.YtbpnfpckoapdbaaIdxMessage
import Derived.Test.YtbpnfpckoapdbaaIdxEnum
import Derived.Test.YtbpnfpckoapdbaaIdxField
namespace Go.Proofs.Ytbpnfpckoapdbaa.M
open Go.RowKit Go.Proofs.YtbpnfpckoapdbaaW.PrintWords Go.Proofs.YtbpnfpckoapdbaaW.PrintLast Go.Proofs.YtbpnfpckoapdbaaW.PrintMore Go.Proofs.Ytbpnfpckoapdbaa.KD
set_option linter.unusedVariables false
set_option linter.unusedSimpArgs false
set_option maxHeartbeats 1000000
set_option maxRecDepth 100000
theorem boxes2 (w : World) (o o' : Obj) : ∀ w2, Below ((w.alloc o).alloc o').heap.size ((w.alloc o).alloc o') w2 → w2.heap[w.heap.size]? = some o ∧ w2.heap[w.heap.size + 1]? = some o' := by
  intro w2 h
  have h1 : ((w.alloc o).alloc o').heap[w.heap.size]? = some o := (Below.heap_alloc _ _ _ (by simp)).trans (heap_alloc_new w o)
  have h2 : ((w.alloc o).alloc o').heap[w.heap.size + 1]? = some o' := by
    have := heap_alloc_new (w.alloc o) o'
    rwa [World.size_alloc] at this
  have hs : ((w.alloc o).alloc o').heap.size = w.heap.size + 2 := by simp
  exact ⟨(h.block _ (by omega)).trans h1, (h.block _ (by omega)).trans h2⟩
theorem bel2 (w : World) (o o' : Obj) : Below w.heap.size w ((w.alloc o).alloc o') := below_alloc (below_alloc (Below.refl _ _) _) _
def find_Message.f (l0_0 : List S86) (l0_1 : List S47) (a1 : ByteArray) : Option Int := some (ixF (fun x => x.f0.toList == a1.toList) l0_1 0)
theorem find_Message.calls (A0_0 : Option Addr) (c0_0 : Nat) (l0_0 : List S86) (A0_1 : Option Addr) (c0_1 : Nat) (l0_1 : List S47) (a1 : ByteArray) (r : Int) (w : World) (hr0_0 : Kd.C k86 w A0_0 l0_0.length l0_0) (hc0_0 : l0_0.length ≤ c0_0) (hr0_1 : Kd.C k47 w A0_1 l0_1.length l0_1) (hc0_1 : l0_1.length ≤ c0_1) (h : find_Message.f l0_0 l0_1 a1 = some r) :
    Calls Try.prog 28 #[.agg #[.slice A0_0 l0_0.length c0_0, .slice A0_1 l0_1.length c0_1], .string a1] w fun e w' => e = .returned (.int .i64 r) ∧ Below w.heap.size w w' := by
  obtain rfl := Option.some.inj h
  obtain ⟨wz, hwz⟩ : ∃ wz, wz = (w.alloc (.cells #[.slice A0_0 l0_0.length c0_0, .slice A0_1 l0_1.length c0_1] 35)).alloc (.cells #[.string a1] 9) := ⟨_, rfl⟩
  have HC := Aside0.mk (Idx_find_Message1 (c := c0_1) (find_Message1_c (w := wz) (a := ⟨w.heap.size + 1, 0, none⟩) (v := a1) ((blk_cell (boxes2 w _ _ wz (by rw [hwz]; exact Below.refl _ _)).2 0).trans rfl)) (Kd.C_below hr0_1 (by rw [hwz]; exact bel2 _ _ _)))
  have HB := Aside0.mk (show Below w.heap.size w wz by rw [hwz]; exact bel2 _ _ _)
  have HZ := Aside0.mk hwz
  clear hr0_0 hr0_1 hc0_0 hc0_1 h hwz
  go_enter Try.func28, Try.ntmps28
  go_wp2_with (first | (go_at_call 71; rw [← HZ.out]; refine HC.out.mono ?_; rintro r w2 ⟨rfl, b2⟩; have B2 := Aside0.mk b2; clear b2))
  go_ret
  exact ⟨rfl, HB.out.trans (B2.out.mono HB.out.size)⟩
def find_Enum.f (l0_0 : List S86) (l0_1 : List S47) (a1 : ByteArray) : Option Int := some (ixF (fun x => x.f0.toList == a1.toList) l0_0 0)
theorem find_Enum.calls (A0_0 : Option Addr) (c0_0 : Nat) (l0_0 : List S86) (A0_1 : Option Addr) (c0_1 : Nat) (l0_1 : List S47) (a1 : ByteArray) (r : Int) (w : World) (hr0_0 : Kd.C k86 w A0_0 l0_0.length l0_0) (hc0_0 : l0_0.length ≤ c0_0) (hr0_1 : Kd.C k47 w A0_1 l0_1.length l0_1) (hc0_1 : l0_1.length ≤ c0_1) (h : find_Enum.f l0_0 l0_1 a1 = some r) :
    Calls Try.prog 29 #[.agg #[.slice A0_0 l0_0.length c0_0, .slice A0_1 l0_1.length c0_1], .string a1] w fun e w' => e = .returned (.int .i64 r) ∧ Below w.heap.size w w' := by
  obtain rfl := Option.some.inj h
  obtain ⟨wz, hwz⟩ : ∃ wz, wz = (w.alloc (.cells #[.slice A0_0 l0_0.length c0_0, .slice A0_1 l0_1.length c0_1] 35)).alloc (.cells #[.string a1] 9) := ⟨_, rfl⟩
  have HC := Aside0.mk (Idx_find_Enum1 (c := c0_0) (find_Enum1_c (w := wz) (a := ⟨w.heap.size + 1, 0, none⟩) (v := a1) ((blk_cell (boxes2 w _ _ wz (by rw [hwz]; exact Below.refl _ _)).2 0).trans rfl)) (Kd.C_below hr0_0 (by rw [hwz]; exact bel2 _ _ _)))
  have HB := Aside0.mk (show Below w.heap.size w wz by rw [hwz]; exact bel2 _ _ _)
  have HZ := Aside0.mk hwz
  clear hr0_0 hr0_1 hc0_0 hc0_1 h hwz
  go_enter Try.func29, Try.ntmps29
  go_wp2_with (first | (go_at_call 73; rw [← HZ.out]; refine HC.out.mono ?_; rintro r w2 ⟨rfl, b2⟩; have B2 := Aside0.mk b2; clear b2))
  go_ret
  exact ⟨rfl, HB.out.trans (B2.out.mono HB.out.size)⟩
def find_Field.f (a0_0 : ByteArray) (l0_1 : List S50) (l0_2 : List Int) (a1 : ByteArray) : Option Int := some (ixF (fun x => x.f0.toList == a1.toList) l0_1 0)
theorem find_Field.calls (a0_0 : ByteArray) (A0_1 : Option Addr) (c0_1 : Nat) (l0_1 : List S50) (A0_2 : Option Addr) (c0_2 : Nat) (l0_2 : List Int) (a1 : ByteArray) (r : Int) (w : World) (hr0_1 : Kd.C k50 w A0_1 l0_1.length l0_1) (hc0_1 : l0_1.length ≤ c0_1) (hr0_2 : Kd.C (Kd.int .i64) w A0_2 l0_2.length l0_2) (hc0_2 : l0_2.length ≤ c0_2) (h : find_Field.f a0_0 l0_1 l0_2 a1 = some r) :
    Calls Try.prog 33 #[.agg #[.string a0_0, .slice A0_1 l0_1.length c0_1, .slice A0_2 l0_2.length c0_2], .string a1] w fun e w' => e = .returned (.int .i64 r) ∧ Below w.heap.size w w' := by
  obtain rfl := Option.some.inj h
  obtain ⟨wz, hwz⟩ : ∃ wz, wz = (w.alloc (.cells #[.string a0_0, .slice A0_1 l0_1.length c0_1, .slice A0_2 l0_2.length c0_2] 47)).alloc (.cells #[.string a1] 9) := ⟨_, rfl⟩
  have HC := Aside0.mk (Idx_find_Field1 (c := c0_1) (find_Field1_c (w := wz) (a := ⟨w.heap.size + 1, 0, none⟩) (v := a1) ((blk_cell (boxes2 w _ _ wz (by rw [hwz]; exact Below.refl _ _)).2 0).trans rfl)) (Kd.C_below hr0_1 (by rw [hwz]; exact bel2 _ _ _)))
  have HB := Aside0.mk (show Below w.heap.size w wz by rw [hwz]; exact bel2 _ _ _)
  have HZ := Aside0.mk hwz
  clear hr0_1 hr0_2 hc0_1 hc0_2 h hwz
  go_enter Try.func33, Try.ntmps33
  go_wp2_with (first | (go_at_call 76; rw [← HZ.out]; refine HC.out.mono ?_; rintro r w2 ⟨rfl, b2⟩; have B2 := Aside0.mk b2; clear b2))
  go_ret
  exact ⟨rfl, HB.out.trans (B2.out.mono HB.out.size)⟩
def find_Number.f (a0_0 : ByteArray) (l0_1 : List S50) (l0_2 : List Int) (a1 : Int) : Option Int := some (ixF (fun x => x.f1 == a1) l0_1 0)
theorem find_Number.calls (a0_0 : ByteArray) (A0_1 : Option Addr) (c0_1 : Nat) (l0_1 : List S50) (A0_2 : Option Addr) (c0_2 : Nat) (l0_2 : List Int) (a1 : Int) (r : Int) (w : World) (hr0_1 : Kd.C k50 w A0_1 l0_1.length l0_1) (hc0_1 : l0_1.length ≤ c0_1) (hr0_2 : Kd.C (Kd.int .i64) w A0_2 l0_2.length l0_2) (hc0_2 : l0_2.length ≤ c0_2) (h : find_Number.f a0_0 l0_1 l0_2 a1 = some r) :
    Calls Try.prog 35 #[.agg #[.string a0_0, .slice A0_1 l0_1.length c0_1, .slice A0_2 l0_2.length c0_2], .int .i64 a1] w fun e w' => e = .returned (.int .i64 r) ∧ Below w.heap.size w w' := by
  obtain rfl := Option.some.inj h
  obtain ⟨wz, hwz⟩ : ∃ wz, wz = (w.alloc (.cells #[.string a0_0, .slice A0_1 l0_1.length c0_1, .slice A0_2 l0_2.length c0_2] 47)).alloc (.cells #[.int .i64 a1] 3) := ⟨_, rfl⟩
  have HC := Aside0.mk (Idx_find_Number1 (c := c0_1) (find_Number1_c (w := wz) (a := ⟨w.heap.size + 1, 0, none⟩) (v := a1) ((blk_cell (boxes2 w _ _ wz (by rw [hwz]; exact Below.refl _ _)).2 0).trans rfl)) (Kd.C_below hr0_1 (by rw [hwz]; exact bel2 _ _ _)))
  have HB := Aside0.mk (show Below w.heap.size w wz by rw [hwz]; exact bel2 _ _ _)
  have HZ := Aside0.mk hwz
  clear hr0_1 hr0_2 hc0_1 hc0_2 h hwz
  go_enter Try.func35, Try.ntmps35
  go_wp2_with (first | (go_at_call 76; rw [← HZ.out]; refine HC.out.mono ?_; rintro r w2 ⟨rfl, b2⟩; have B2 := Aside0.mk b2; clear b2))
  go_ret
  exact ⟨rfl, HB.out.trans (B2.out.mono HB.out.size)⟩
end Go.Proofs.Ytbpnfpckoapdbaa.M

/- Words of this claim's session: an empty slice made with a capacity is a row of the call's own. No conditions. -/
import Derived.Test.YtbpnfpckoapdbaaProg
import Derived.Test.YtbpnfpckoapdbaaWWords
import Derived.Test.YtbpnfpckoapdbaaWApart
import Derived.Test.YtbpnfpckoapdbaaWMore
import Derived.Laws.MakeOwn
import Derived.WalkKit
namespace Go.Proofs.Ytbpnfpckoapdbaa.M
end Go.Proofs.Ytbpnfpckoapdbaa.M
namespace Go.Proofs.Ytbpnfpckoapdbaa.Mk
open Go.RowKit Go.Proofs.YtbpnfpckoapdbaaW.PrintWords
open Go.Proofs.YtbpnfpckoapdbaaW.PrintWords.Kd
section
variable {P : Program} {ops : Array Oper} {rest : List Oper} {o : Oper} {a : Act} {Q : Exit → Act → World → Prop} {α : Type}
theorem made_row {W : World} (cur : Array Value) (base e cap size : Nat) (hb : base ≤ W.heap.size) (hm : cap ≤ maxLen) (hs : cur.size = cap * size) :
    (W.alloc (.cells cur e)).ownsRow base e size (.slice (some ⟨W.heap.size, 0, none⟩) 0 cap) 0 [] := World.ownsRow_made W cur cap hb hm hs
theorem R_cap (d : Kd α) {w0 W : World} (base e : Nat) (hgd : o.guard = none) {N : Tmp} (_hd : o.dst = some N) (t : TypeId) (x y : Operand) (ho : o.op = .makeSlice t x y) (c : Nat)
    (hx : a.eval x = .int .i64 0) (hy : a.eval y = .int .i64 (c : Int)) (ht : P.underlying t = some (.slice e)) (z : Value) (bytes : Nat)
    (hinfo : (P.info? e).map (fun i => (i.zero, i.size, i.bytes)) = some (some z, d.sz, bytes))
    {ok okp : Nat → Prop} (_hok : ∀ k, okp k → ok k) (hfresh : ok W.heap.size) (hl : c * bytes ≤ 281474976710656 ∧ c ≤ 281474976710656) (HB : Below base w0 W) (hbase : base ≤ W.heap.size)
    (h : ∀ v1 w1, d.R e w1 base ok v1 [] → Below base w0 w1 → W.grownBy w1 none → (∃ b, v1.ownBlock = some b ∧ W.heap.size ≤ b) → wpList P ops Q rest (a.put o.dst v1) w1) : wpList P ops Q (o :: rest) a W := by
  obtain ⟨i0, hi, hzz⟩ := Option.map_eq_some_iff.1 hinfo
  simp only [Prod.mk.injEq] at hzz
  obtain ⟨hz0, hz1, hz2⟩ := hzz
  have hr := run_make (P := P) W t e i0 z ht hi hz0 .i64 .i64 (0 : Int) (c : Int) (by omega) (by omega)
    (by
      have h3 : ((i0.bytes * c : Nat) : Int) ≤ 281474976710656 := by rw [hz2, Nat.mul_comm]; omega
      rwa [Int.natCast_mul] at h3) (by omega)
  simp only [Int.toNat_natCast, Int.toNat_zero] at hr
  refine event_run hgd (v := .slice (some ⟨W.heap.size, 0, none⟩) 0 c) (w1 := W.alloc (.cells (madeCells z.cells (c * i0.size)) e)) (by simp [execOp, ho, hx, hy, hr])
    (h _ _ ⟨fun k hk => ?_, [], ?_, ⟨by simp, fun j p hp => by simp at hp⟩⟩ (HB.alloc hbase _) (World.grownBy_alloc W _ none) ⟨W.heap.size, by simp [Value.ownBlock], Nat.le_refl _⟩)
  · have : W.heap.size = k := by simpa [Value.ownBlock] using hk
    subst this
    exact hfresh
  · exact made_row _ base e c d.sz hbase (by unfold maxLen; omega) (by rw [hz1]; simp [madeCells])
end
end Go.Proofs.Ytbpnfpckoapdbaa.Mk

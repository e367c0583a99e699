/- slices.IndexFunc over whatever; conditions stand at each. -/
import Derived.Test.YtbpnfpckoapdbaaKD
import Derived.Test.YtbpnfpckoapdbaaMk
namespace Go.Proofs.Ytbpnfpckoapdbaa.M
open Go.RowKit Go.Proofs.YtbpnfpckoapdbaaW.PrintWords Go.Proofs.YtbpnfpckoapdbaaW.PrintLast Go.Proofs.YtbpnfpckoapdbaaW.PrintMore Go.Proofs.Ytbpnfpckoapdbaa.KD
set_option linter.unusedVariables false
set_option linter.unusedSimpArgs false
set_option maxHeartbeats 1000000
set_option maxRecDepth 100000
/-- The first place of such an element, counted from i; -1, if there is none. -/
def ixF {α : Type} (p : α → Bool) : List α → Nat → Int
  | [], _ => -1
  | x :: xs, i => if p x then (i : Int) else ixF p xs (i + 1)
theorem ixF_at {α : Type} {p : α → Bool} {xs : List α} {i : Nat} {x : α} (h : xs[i]? = some x) (k : Nat) : ixF p (xs.drop i) k = if p x then (k : Int) else ixF p (xs.drop (i + 1)) (k + 1) := by
  obtain ⟨h1, rfl⟩ := List.getElem?_eq_some_iff.1 h
  rw [List.drop_eq_getElem_cons h1, ixF]
def TellsC {α : Type} (d : Kd α) (F : FuncId) (cap : Value) (w0 : World) (p : α → Bool) : Prop :=
  ∀ (w : World) (x : α) (cs : List Value), Below w0.heap.size w0 w → d.K w x cs → Calls Try.prog F #[.agg cs.toArray, cap] w fun r w' => r = .returned (.bool (p x)) ∧ Below w.heap.size w w'
end Go.Proofs.Ytbpnfpckoapdbaa.M

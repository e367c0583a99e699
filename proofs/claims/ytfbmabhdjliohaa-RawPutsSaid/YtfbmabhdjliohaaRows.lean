/-
  No cell of these rows narrows 'for every input' (looked for: loops, veiled, ifaces, maps, wideKeys, modest, calm, conditions, laid).
  DERIVED. THE GIVEN ROWS OF THIS SEAT. 6 by the template 'for every input the law returns true; each argument reads behind the call as it read before'; 0 by the template 'total and deterministic' (their statements: YtfbmabhdjliohaaTotals.lean).
  GIVEN WITH THE SEED: the statements are not yours to turn. If you find one false, say at which input.
  Laid BY PROGRAM, IN A SANDBOX (cutbox-rows.mjs): the forced cells as the released guide's own fill.sh prints them over the translation aef4829486d84fc7… (all of the seat's roots in one cut). By AI agents, Wed Nov 11 2026. No macro, syntax, notation, axiom, sorry.
-/
import Derived.Test.YtfbmabhdjliohaaChecked
import GoSem.Claim
import GoSem.ClaimJoined
import GoSem.ClaimMapViews
import Derived.JoinedTies
import Derived.KernelRfl
namespace Go.Proofs.Ytfbmabhdjliohaa
/- THE CELL 'sum', in the pinned program and in every row, IS THE sha256 OF THE DUMP (.gsa) THAT YtfbmabhdjliohaaProg.lean LOADS. Nothing in Lean hashes anything: it is a label: what it is worth is what the hold of that sum in a sandbox is worth. -/
noncomputable def Try.pinned : Pinned := { name := "ytfbmabhdjliohaa", sum := "aef4829486d84fc7d54d3d8ed436bebb43c80c7f8ad062dcbe113872e41376b7", checked := Try.checked }
namespace Rows
def none {H : Type} : Left H := { results := [], args := [] }

/-- 'ecdysislaw05.CursorTexts': WHATEVER THE INPUT: true; the input reads as it did. -/
def cursorTextsSpec : ChangeSpec := { name := "cursorTexts", fn := fun _ => fun
  | [d1, d2] => { results := [.lit (.bool true)], args := [d1, d2] }
  | _ => none }
def cursorTextsRow : OpenClaim := { program := "ytfbmabhdjliohaa", sum := "aef4829486d84fc7d54d3d8ed436bebb43c80c7f8ad062dcbe113872e41376b7", func := "ecdysis/ecdysislaw05.CursorTexts", spec := "cursorTexts", unfollowed := true, recurses := true, apart := false }
def CursorTextsSaid : Prop := cursorTextsRow.holds Try.pinned (OpenSpec.ofChange cursorTextsSpec)

/-- ITS FALSE NEIGHBOUR: 'it returns false'. Refute it at one input. -/
def cursorTextsWrong : ChangeSpec := { name := "cursorTexts", fn := fun _ => fun
  | [d1, d2] => { results := [.lit (.bool false)], args := [d1, d2] }
  | _ => none }
def CursorTextsWrongFalsely : Prop := cursorTextsRow.holds Try.pinned (OpenSpec.ofChange cursorTextsWrong)

/-- 'ecdysislaw05.CursorReads': WHATEVER THE INPUT: true; the input reads as it did. -/
def cursorReadsSpec : ChangeSpec := { name := "cursorReads", fn := fun _ => fun
  | [d1, d2] => { results := [.lit (.bool true)], args := [d1, d2] }
  | _ => none }
def cursorReadsRow : OpenClaim := { program := "ytfbmabhdjliohaa", sum := "aef4829486d84fc7d54d3d8ed436bebb43c80c7f8ad062dcbe113872e41376b7", func := "ecdysis/ecdysislaw05.CursorReads", spec := "cursorReads", unfollowed := true, recurses := true, apart := false }
def CursorReadsSaid : Prop := cursorReadsRow.holds Try.pinned (OpenSpec.ofChange cursorReadsSpec)

/-- ITS FALSE NEIGHBOUR: 'it returns false'. Refute it at one input. -/
def cursorReadsWrong : ChangeSpec := { name := "cursorReads", fn := fun _ => fun
  | [d1, d2] => { results := [.lit (.bool false)], args := [d1, d2] }
  | _ => none }
def CursorReadsWrongFalsely : Prop := cursorReadsRow.holds Try.pinned (OpenSpec.ofChange cursorReadsWrong)

/-- 'ecdysislaw05.CursorGoes': WHATEVER THE INPUT: true; the input reads as it did. -/
def cursorGoesSpec : ChangeSpec := { name := "cursorGoes", fn := fun _ => fun
  | [d1, d2] => { results := [.lit (.bool true)], args := [d1, d2] }
  | _ => none }
def cursorGoesRow : OpenClaim := { program := "ytfbmabhdjliohaa", sum := "aef4829486d84fc7d54d3d8ed436bebb43c80c7f8ad062dcbe113872e41376b7", func := "ecdysis/ecdysislaw05.CursorGoes", spec := "cursorGoes", unfollowed := true, recurses := true, apart := false }
def CursorGoesSaid : Prop := cursorGoesRow.holds Try.pinned (OpenSpec.ofChange cursorGoesSpec)

/-- ITS FALSE NEIGHBOUR: 'it returns false'. Refute it at one input. -/
def cursorGoesWrong : ChangeSpec := { name := "cursorGoes", fn := fun _ => fun
  | [d1, d2] => { results := [.lit (.bool false)], args := [d1, d2] }
  | _ => none }
def CursorGoesWrongFalsely : Prop := cursorGoesRow.holds Try.pinned (OpenSpec.ofChange cursorGoesWrong)

/-- 'ecdysislaw07.RawEach': WHATEVER THE INPUT: true; the input reads as it did. -/
def rawEachSpec : ChangeSpec := { name := "rawEach", fn := fun _ => fun
  | [d1, d2] => { results := [.lit (.bool true)], args := [d1, d2] }
  | _ => none }
def rawEachRow : OpenClaim := { program := "ytfbmabhdjliohaa", sum := "aef4829486d84fc7d54d3d8ed436bebb43c80c7f8ad062dcbe113872e41376b7", func := "ecdysis/ecdysislaw07.RawEach", spec := "rawEach", unfollowed := true, recurses := true, apart := false }
def RawEachSaid : Prop := rawEachRow.holds Try.pinned (OpenSpec.ofChange rawEachSpec)

/-- ITS FALSE NEIGHBOUR: 'it returns false'. Refute it at one input. -/
def rawEachWrong : ChangeSpec := { name := "rawEach", fn := fun _ => fun
  | [d1, d2] => { results := [.lit (.bool false)], args := [d1, d2] }
  | _ => none }
def RawEachWrongFalsely : Prop := rawEachRow.holds Try.pinned (OpenSpec.ofChange rawEachWrong)

/-- 'ecdysislaw07.RawGets': WHATEVER THE INPUT: true; the input reads as it did. -/
def rawGetsSpec : ChangeSpec := { name := "rawGets", fn := fun _ => fun
  | [d] => { results := [.lit (.bool true)], args := [d] }
  | _ => none }
def rawGetsRow : OpenClaim := { program := "ytfbmabhdjliohaa", sum := "aef4829486d84fc7d54d3d8ed436bebb43c80c7f8ad062dcbe113872e41376b7", func := "ecdysis/ecdysislaw07.RawGets", spec := "rawGets", unfollowed := true, recurses := true, apart := false }
def RawGetsSaid : Prop := rawGetsRow.holds Try.pinned (OpenSpec.ofChange rawGetsSpec)

/-- ITS FALSE NEIGHBOUR: 'it returns false'. Refute it at one input. -/
def rawGetsWrong : ChangeSpec := { name := "rawGets", fn := fun _ => fun
  | [d] => { results := [.lit (.bool false)], args := [d] }
  | _ => none }
def RawGetsWrongFalsely : Prop := rawGetsRow.holds Try.pinned (OpenSpec.ofChange rawGetsWrong)

/-- 'ecdysislaw07.RawPuts': WHATEVER THE INPUT: true; the input reads as it did. -/
def rawPutsSpec : ChangeSpec := { name := "rawPuts", fn := fun _ => fun
  | [d1, d2] => { results := [.lit (.bool true)], args := [d1, d2] }
  | _ => none }
def rawPutsRow : OpenClaim := { program := "ytfbmabhdjliohaa", sum := "aef4829486d84fc7d54d3d8ed436bebb43c80c7f8ad062dcbe113872e41376b7", func := "ecdysis/ecdysislaw07.RawPuts", spec := "rawPuts", unfollowed := true, recurses := true, apart := false }
def RawPutsSaid : Prop := rawPutsRow.holds Try.pinned (OpenSpec.ofChange rawPutsSpec)

/-- ITS FALSE NEIGHBOUR: 'it returns false'. Refute it at one input. -/
def rawPutsWrong : ChangeSpec := { name := "rawPuts", fn := fun _ => fun
  | [d1, d2] => { results := [.lit (.bool false)], args := [d1, d2] }
  | _ => none }
def RawPutsWrongFalsely : Prop := rawPutsRow.holds Try.pinned (OpenSpec.ofChange rawPutsWrong)

/- THE SECOND FORM. 'bulk': how many values and letters a reading holds, each counted each time it is reached (what is shared counts as often as it is met; a slice's spare places count too). A statement '..UptoSaid' is the law's where the arguments, and the package variables that the reading takes, are together of bulk at most 1048576: NARROWER than '..Said'. Prove '..Said' where nothing that the law and all that it calls make is longer than what came in: it says more and counts as full. Else prove '..UptoSaid'. A law counts once. -/
mutual
def uptoBulk {H : Type} : DataW H → Nat
  | .lit (.string bytes) => bytes.length + 1
  | .lit _ => 1
  | .nil => 1
  | .ptr d => uptoBulk d + 1
  | .slice elems spare => uptoBulkAll elems + uptoBulkAll spare + 1
  | .agg parts => uptoBulkAll parts + 1
  | .iface _ d => uptoBulk d + 1
  | .map entries => uptoBulkEntries entries + 1
  | .held _ => 1
def uptoBulkAll {H : Type} : List (DataW H) → Nat
  | [] => 0
  | d :: r => uptoBulk d + uptoBulkAll r
def uptoBulkEntries {H : Type} : List (Lit × DataW H) → Nat
  | [] => 0
  | x :: r => uptoBulkEntry x + uptoBulkEntries r
def uptoBulkEntry {H : Type} : Lit × DataW H → Nat
  | (.string bytes, d) => bytes.length + uptoBulk d + 1
  | (_, d) => uptoBulk d + 1
 end
def uptoSmall : (H : Type) → List (DataW H) → Bool := fun _ ds => decide (uptoBulkAll ds ≤ 1048576)
def OpenSpec.upto (s : _root_.Go.ChangeSpec) : _root_.Go.OpenSpec := { _root_.Go.OpenSpec.ofChange s with cond := some uptoSmall }

/-- 'ecdysislaw05.CursorTexts', WHERE WHAT IT READS IS OF BULK AT MOST 1048576: true; the input reads as it did. -/
def cursorTextsUptoRow : OpenClaim := { program := "ytfbmabhdjliohaa", sum := "aef4829486d84fc7d54d3d8ed436bebb43c80c7f8ad062dcbe113872e41376b7", func := "ecdysis/ecdysislaw05.CursorTexts", spec := "cursorTexts", unfollowed := true, recurses := true, apart := false, narrowed := true }
def CursorTextsUptoSaid : Prop := cursorTextsUptoRow.holds Try.pinned (OpenSpec.upto cursorTextsSpec)

/-- 'ecdysislaw05.CursorReads', WHERE WHAT IT READS IS OF BULK AT MOST 1048576: true; the input reads as it did. -/
def cursorReadsUptoRow : OpenClaim := { program := "ytfbmabhdjliohaa", sum := "aef4829486d84fc7d54d3d8ed436bebb43c80c7f8ad062dcbe113872e41376b7", func := "ecdysis/ecdysislaw05.CursorReads", spec := "cursorReads", unfollowed := true, recurses := true, apart := false, narrowed := true }
def CursorReadsUptoSaid : Prop := cursorReadsUptoRow.holds Try.pinned (OpenSpec.upto cursorReadsSpec)

/-- 'ecdysislaw05.CursorGoes', WHERE WHAT IT READS IS OF BULK AT MOST 1048576: true; the input reads as it did. -/
def cursorGoesUptoRow : OpenClaim := { program := "ytfbmabhdjliohaa", sum := "aef4829486d84fc7d54d3d8ed436bebb43c80c7f8ad062dcbe113872e41376b7", func := "ecdysis/ecdysislaw05.CursorGoes", spec := "cursorGoes", unfollowed := true, recurses := true, apart := false, narrowed := true }
def CursorGoesUptoSaid : Prop := cursorGoesUptoRow.holds Try.pinned (OpenSpec.upto cursorGoesSpec)

/-- 'ecdysislaw07.RawEach', WHERE WHAT IT READS IS OF BULK AT MOST 1048576: true; the input reads as it did. -/
def rawEachUptoRow : OpenClaim := { program := "ytfbmabhdjliohaa", sum := "aef4829486d84fc7d54d3d8ed436bebb43c80c7f8ad062dcbe113872e41376b7", func := "ecdysis/ecdysislaw07.RawEach", spec := "rawEach", unfollowed := true, recurses := true, apart := false, narrowed := true }
def RawEachUptoSaid : Prop := rawEachUptoRow.holds Try.pinned (OpenSpec.upto rawEachSpec)

/-- 'ecdysislaw07.RawGets', WHERE WHAT IT READS IS OF BULK AT MOST 1048576: true; the input reads as it did. -/
def rawGetsUptoRow : OpenClaim := { program := "ytfbmabhdjliohaa", sum := "aef4829486d84fc7d54d3d8ed436bebb43c80c7f8ad062dcbe113872e41376b7", func := "ecdysis/ecdysislaw07.RawGets", spec := "rawGets", unfollowed := true, recurses := true, apart := false, narrowed := true }
def RawGetsUptoSaid : Prop := rawGetsUptoRow.holds Try.pinned (OpenSpec.upto rawGetsSpec)

/-- 'ecdysislaw07.RawPuts', WHERE WHAT IT READS IS OF BULK AT MOST 1048576: true; the input reads as it did. -/
def rawPutsUptoRow : OpenClaim := { program := "ytfbmabhdjliohaa", sum := "aef4829486d84fc7d54d3d8ed436bebb43c80c7f8ad062dcbe113872e41376b7", func := "ecdysis/ecdysislaw07.RawPuts", spec := "rawPuts", unfollowed := true, recurses := true, apart := false, narrowed := true }
def RawPutsUptoSaid : Prop := rawPutsUptoRow.holds Try.pinned (OpenSpec.upto rawPutsSpec)

end Rows
end Go.Proofs.Ytfbmabhdjliohaa

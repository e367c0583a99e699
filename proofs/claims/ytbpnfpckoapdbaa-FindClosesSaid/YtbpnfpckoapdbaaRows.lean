/-
  NARROWER THAN 'FOR EVERY INPUT', by the rows' own cells (each row's printed sentence says how): TreeCopies: loops · TreeSame: loops · TreeWith: loops · TreeLaid: loops.
  DERIVED. THE GIVEN ROWS OF THIS SEAT. 7 by the template 'for every input the law returns true; each argument reads behind the call as it read before'; 0 by the template 'total and deterministic' (their statements: YtbpnfpckoapdbaaTotals.lean).
  GIVEN WITH THE SEED: the statements are not yours to turn. If you find one false, say at which input.
  Laid BY PROGRAM, IN A SANDBOX (cutbox-rows.mjs): the forced cells as the released guide's own fill.sh prints them over the translation 8e305c93981759c0… (all of the seat's roots in one cut). By AI agents, Wed Nov 11 2026. No macro, syntax, notation, axiom, sorry.
-/
import Derived.Test.YtbpnfpckoapdbaaChecked
import GoSem.Claim
import GoSem.ClaimJoined
import GoSem.ClaimMapViews
import Derived.JoinedTies
import Derived.KernelRfl
namespace Go.Proofs.Ytbpnfpckoapdbaa
/- THE CELL 'sum', in the pinned program and in every row, IS THE sha256 OF THE DUMP (.gsa) THAT YtbpnfpckoapdbaaProg.lean LOADS. Nothing in Lean hashes anything: it is a label: what it is worth is what the hold of that sum in a sandbox is worth. -/
noncomputable def Try.pinned : Pinned := { name := "ytbpnfpckoapdbaa", sum := "8e305c93981759c0c186c686bc2c2917ad5ce32769fcd9cf71d3bf8532a2c271", checked := Try.checked }
namespace Rows
def none {H : Type} : Left H := { results := [], args := [] }

/-- 'ecdysislaw19.TreeCopies': WHATEVER THE INPUT: true; the input reads as it did. -/
def treeCopiesSpec : ChangeSpec := { name := "treeCopies", fn := fun _ => fun
  | [d] => { results := [.lit (.bool true)], args := [d] }
  | _ => none }
def treeCopiesRow : OpenClaim := { program := "ytbpnfpckoapdbaa", sum := "8e305c93981759c0c186c686bc2c2917ad5ce32769fcd9cf71d3bf8532a2c271", func := "ecdysis/ecdysislaw19.TreeCopies", spec := "treeCopies", unfollowed := true, recurses := true, loops := true, apart := false }
def TreeCopiesSaid : Prop := treeCopiesRow.holds Try.pinned (OpenSpec.ofChange treeCopiesSpec)

/-- ITS FALSE NEIGHBOUR: 'it returns false'. Refute it at one input. -/
def treeCopiesWrong : ChangeSpec := { name := "treeCopies", fn := fun _ => fun
  | [d] => { results := [.lit (.bool false)], args := [d] }
  | _ => none }
def TreeCopiesWrongFalsely : Prop := treeCopiesRow.holds Try.pinned (OpenSpec.ofChange treeCopiesWrong)

/-- 'ecdysislaw19.TreeSame': WHATEVER THE INPUT: true; the input reads as it did. -/
def treeSameSpec : ChangeSpec := { name := "treeSame", fn := fun _ => fun
  | [d1, d2] => { results := [.lit (.bool true)], args := [d1, d2] }
  | _ => none }
def treeSameRow : OpenClaim := { program := "ytbpnfpckoapdbaa", sum := "8e305c93981759c0c186c686bc2c2917ad5ce32769fcd9cf71d3bf8532a2c271", func := "ecdysis/ecdysislaw19.TreeSame", spec := "treeSame", unfollowed := true, recurses := true, loops := true, apart := false }
def TreeSameSaid : Prop := treeSameRow.holds Try.pinned (OpenSpec.ofChange treeSameSpec)

/-- ITS FALSE NEIGHBOUR: 'it returns false'. Refute it at one input. -/
def treeSameWrong : ChangeSpec := { name := "treeSame", fn := fun _ => fun
  | [d1, d2] => { results := [.lit (.bool false)], args := [d1, d2] }
  | _ => none }
def TreeSameWrongFalsely : Prop := treeSameRow.holds Try.pinned (OpenSpec.ofChange treeSameWrong)

/-- 'ecdysislaw16.FindKin': WHATEVER THE INPUT: true; the input reads as it did. -/
def findKinSpec : ChangeSpec := { name := "findKin", fn := fun _ => fun
  | [d1, d2] => { results := [.lit (.bool true)], args := [d1, d2] }
  | _ => none }
def findKinRow : OpenClaim := { program := "ytbpnfpckoapdbaa", sum := "8e305c93981759c0c186c686bc2c2917ad5ce32769fcd9cf71d3bf8532a2c271", func := "ecdysis/ecdysislaw16.FindKin", spec := "findKin", unfollowed := true, recurses := true, apart := false }
def FindKinSaid : Prop := findKinRow.holds Try.pinned (OpenSpec.ofChange findKinSpec)

/-- ITS FALSE NEIGHBOUR: 'it returns false'. Refute it at one input. -/
def findKinWrong : ChangeSpec := { name := "findKin", fn := fun _ => fun
  | [d1, d2] => { results := [.lit (.bool false)], args := [d1, d2] }
  | _ => none }
def FindKinWrongFalsely : Prop := findKinRow.holds Try.pinned (OpenSpec.ofChange findKinWrong)

/-- 'ecdysislaw16.FindCloses': WHATEVER THE INPUT: true; the input reads as it did. -/
def findClosesSpec : ChangeSpec := { name := "findCloses", fn := fun _ => fun
  | [d] => { results := [.lit (.bool true)], args := [d] }
  | _ => none }
def findClosesRow : OpenClaim := { program := "ytbpnfpckoapdbaa", sum := "8e305c93981759c0c186c686bc2c2917ad5ce32769fcd9cf71d3bf8532a2c271", func := "ecdysis/ecdysislaw16.FindCloses", spec := "findCloses", unfollowed := true, recurses := true, apart := false }
def FindClosesSaid : Prop := findClosesRow.holds Try.pinned (OpenSpec.ofChange findClosesSpec)

/-- ITS FALSE NEIGHBOUR: 'it returns false'. Refute it at one input. -/
def findClosesWrong : ChangeSpec := { name := "findCloses", fn := fun _ => fun
  | [d] => { results := [.lit (.bool false)], args := [d] }
  | _ => none }
def FindClosesWrongFalsely : Prop := findClosesRow.holds Try.pinned (OpenSpec.ofChange findClosesWrong)

/-- 'ecdysislaw16.FindPlaces': WHATEVER THE INPUT: true; the input reads as it did. -/
def findPlacesSpec : ChangeSpec := { name := "findPlaces", fn := fun _ => fun
  | [d1, d2, d3] => { results := [.lit (.bool true)], args := [d1, d2, d3] }
  | _ => none }
def findPlacesRow : OpenClaim := { program := "ytbpnfpckoapdbaa", sum := "8e305c93981759c0c186c686bc2c2917ad5ce32769fcd9cf71d3bf8532a2c271", func := "ecdysis/ecdysislaw16.FindPlaces", spec := "findPlaces", unfollowed := true, recurses := true, apart := false }
def FindPlacesSaid : Prop := findPlacesRow.holds Try.pinned (OpenSpec.ofChange findPlacesSpec)

/-- ITS FALSE NEIGHBOUR: 'it returns false'. Refute it at one input. -/
def findPlacesWrong : ChangeSpec := { name := "findPlaces", fn := fun _ => fun
  | [d1, d2, d3] => { results := [.lit (.bool false)], args := [d1, d2, d3] }
  | _ => none }
def FindPlacesWrongFalsely : Prop := findPlacesRow.holds Try.pinned (OpenSpec.ofChange findPlacesWrong)

/-- 'ecdysislaw19.TreeWith': WHATEVER THE INPUT: true; the input reads as it did. -/
def treeWithSpec : ChangeSpec := { name := "treeWith", fn := fun _ => fun
  | [d1, d2, d3] => { results := [.lit (.bool true)], args := [d1, d2, d3] }
  | _ => none }
def treeWithRow : OpenClaim := { program := "ytbpnfpckoapdbaa", sum := "8e305c93981759c0c186c686bc2c2917ad5ce32769fcd9cf71d3bf8532a2c271", func := "ecdysis/ecdysislaw19.TreeWith", spec := "treeWith", inPlace := ["slices.overlaps[ecdysis/api.Slot]"], unfollowed := true, recurses := true, loops := true, apart := false }
def TreeWithSaid : Prop := treeWithRow.holds Try.pinned (OpenSpec.ofChange treeWithSpec)

/-- ITS FALSE NEIGHBOUR: 'it returns false'. Refute it at one input. -/
def treeWithWrong : ChangeSpec := { name := "treeWith", fn := fun _ => fun
  | [d1, d2, d3] => { results := [.lit (.bool false)], args := [d1, d2, d3] }
  | _ => none }
def TreeWithWrongFalsely : Prop := treeWithRow.holds Try.pinned (OpenSpec.ofChange treeWithWrong)

/-- 'ecdysislaw19.TreeLaid': WHATEVER THE INPUT: true; the input reads as it did. -/
def treeLaidSpec : ChangeSpec := { name := "treeLaid", fn := fun _ => fun
  | [d1, d2, d3] => { results := [.lit (.bool true)], args := [d1, d2, d3] }
  | _ => none }
def treeLaidRow : OpenClaim := { program := "ytbpnfpckoapdbaa", sum := "8e305c93981759c0c186c686bc2c2917ad5ce32769fcd9cf71d3bf8532a2c271", func := "ecdysis/ecdysislaw19.TreeLaid", spec := "treeLaid", inPlace := ["slices.overlaps[ecdysis/api.Slot]"], unfollowed := true, recurses := true, loops := true, apart := false }
def TreeLaidSaid : Prop := treeLaidRow.holds Try.pinned (OpenSpec.ofChange treeLaidSpec)

/-- ITS FALSE NEIGHBOUR: 'it returns false'. Refute it at one input. -/
def treeLaidWrong : ChangeSpec := { name := "treeLaid", fn := fun _ => fun
  | [d1, d2, d3] => { results := [.lit (.bool false)], args := [d1, d2, d3] }
  | _ => none }
def TreeLaidWrongFalsely : Prop := treeLaidRow.holds Try.pinned (OpenSpec.ofChange treeLaidWrong)

/- THE SECOND FORM. 'bulk': how many values and letters a reading holds, each counted each time it is reached (what is shared counts as often as it is met; a slice's spare places count too). A statement '..UptoSaid' is the law's where the arguments, and the package variables that the reading takes, are together of bulk at most 1048576: NARROWER than '..Said'. Prove '..Said' where nothing that the law and all that it calls make is longer than what came in: it says more and counts as full. Else prove '..UptoSaid'. A law counts once. -/
mutual
def uptoBulk {H : Type} : DataW H → Nat
  | .lit (.string bytes) => bytes.length + 1
  | .lit _ => 1
  | .nil => 1
  | .ptr d => uptoBulk d + 1
  | .slice elems spare => uptoBulkAll elems + uptoBulkAll spare + 1
  | .agg parts => uptoBulkAll parts + 1
  | .iface _ d => uptoBulk d + 1
  | .map entries => uptoBulkEntries entries + 1
  | .held _ => 1
def uptoBulkAll {H : Type} : List (DataW H) → Nat
  | [] => 0
  | d :: r => uptoBulk d + uptoBulkAll r
def uptoBulkEntries {H : Type} : List (Lit × DataW H) → Nat
  | [] => 0
  | x :: r => uptoBulkEntry x + uptoBulkEntries r
def uptoBulkEntry {H : Type} : Lit × DataW H → Nat
  | (.string bytes, d) => bytes.length + uptoBulk d + 1
  | (_, d) => uptoBulk d + 1
 end
def uptoSmall : (H : Type) → List (DataW H) → Bool := fun _ ds => decide (uptoBulkAll ds ≤ 1048576)
def OpenSpec.upto (s : _root_.Go.ChangeSpec) : _root_.Go.OpenSpec := { _root_.Go.OpenSpec.ofChange s with cond := some uptoSmall }

/-- 'ecdysislaw19.TreeCopies', WHERE WHAT IT READS IS OF BULK AT MOST 1048576: true; the input reads as it did. -/
def treeCopiesUptoRow : OpenClaim := { program := "ytbpnfpckoapdbaa", sum := "8e305c93981759c0c186c686bc2c2917ad5ce32769fcd9cf71d3bf8532a2c271", func := "ecdysis/ecdysislaw19.TreeCopies", spec := "treeCopies", unfollowed := true, recurses := true, loops := true, apart := false, narrowed := true }
def TreeCopiesUptoSaid : Prop := treeCopiesUptoRow.holds Try.pinned (OpenSpec.upto treeCopiesSpec)

/-- 'ecdysislaw19.TreeSame', WHERE WHAT IT READS IS OF BULK AT MOST 1048576: true; the input reads as it did. -/
def treeSameUptoRow : OpenClaim := { program := "ytbpnfpckoapdbaa", sum := "8e305c93981759c0c186c686bc2c2917ad5ce32769fcd9cf71d3bf8532a2c271", func := "ecdysis/ecdysislaw19.TreeSame", spec := "treeSame", unfollowed := true, recurses := true, loops := true, apart := false, narrowed := true }
def TreeSameUptoSaid : Prop := treeSameUptoRow.holds Try.pinned (OpenSpec.upto treeSameSpec)

/-- 'ecdysislaw16.FindKin', WHERE WHAT IT READS IS OF BULK AT MOST 1048576: true; the input reads as it did. -/
def findKinUptoRow : OpenClaim := { program := "ytbpnfpckoapdbaa", sum := "8e305c93981759c0c186c686bc2c2917ad5ce32769fcd9cf71d3bf8532a2c271", func := "ecdysis/ecdysislaw16.FindKin", spec := "findKin", unfollowed := true, recurses := true, apart := false, narrowed := true }
def FindKinUptoSaid : Prop := findKinUptoRow.holds Try.pinned (OpenSpec.upto findKinSpec)

/-- 'ecdysislaw16.FindCloses', WHERE WHAT IT READS IS OF BULK AT MOST 1048576: true; the input reads as it did. -/
def findClosesUptoRow : OpenClaim := { program := "ytbpnfpckoapdbaa", sum := "8e305c93981759c0c186c686bc2c2917ad5ce32769fcd9cf71d3bf8532a2c271", func := "ecdysis/ecdysislaw16.FindCloses", spec := "findCloses", unfollowed := true, recurses := true, apart := false, narrowed := true }
def FindClosesUptoSaid : Prop := findClosesUptoRow.holds Try.pinned (OpenSpec.upto findClosesSpec)

/-- 'ecdysislaw16.FindPlaces', WHERE WHAT IT READS IS OF BULK AT MOST 1048576: true; the input reads as it did. -/
def findPlacesUptoRow : OpenClaim := { program := "ytbpnfpckoapdbaa", sum := "8e305c93981759c0c186c686bc2c2917ad5ce32769fcd9cf71d3bf8532a2c271", func := "ecdysis/ecdysislaw16.FindPlaces", spec := "findPlaces", unfollowed := true, recurses := true, apart := false, narrowed := true }
def FindPlacesUptoSaid : Prop := findPlacesUptoRow.holds Try.pinned (OpenSpec.upto findPlacesSpec)

/-- 'ecdysislaw19.TreeWith', WHERE WHAT IT READS IS OF BULK AT MOST 1048576: true; the input reads as it did. -/
def treeWithUptoRow : OpenClaim := { program := "ytbpnfpckoapdbaa", sum := "8e305c93981759c0c186c686bc2c2917ad5ce32769fcd9cf71d3bf8532a2c271", func := "ecdysis/ecdysislaw19.TreeWith", spec := "treeWith", inPlace := ["slices.overlaps[ecdysis/api.Slot]"], unfollowed := true, recurses := true, loops := true, apart := false, narrowed := true }
def TreeWithUptoSaid : Prop := treeWithUptoRow.holds Try.pinned (OpenSpec.upto treeWithSpec)

/-- 'ecdysislaw19.TreeLaid', WHERE WHAT IT READS IS OF BULK AT MOST 1048576: true; the input reads as it did. -/
def treeLaidUptoRow : OpenClaim := { program := "ytbpnfpckoapdbaa", sum := "8e305c93981759c0c186c686bc2c2917ad5ce32769fcd9cf71d3bf8532a2c271", func := "ecdysis/ecdysislaw19.TreeLaid", spec := "treeLaid", inPlace := ["slices.overlaps[ecdysis/api.Slot]"], unfollowed := true, recurses := true, loops := true, apart := false, narrowed := true }
def TreeLaidUptoSaid : Prop := treeLaidUptoRow.holds Try.pinned (OpenSpec.upto treeLaidSpec)

end Rows
end Go.Proofs.Ytbpnfpckoapdbaa

/-
  No cell of these rows narrows 'for every input' (looked for: loops, veiled, ifaces, maps, wideKeys, modest, calm, conditions, laid).
  DERIVED. THE GIVEN ROWS OF THIS SEAT. 13 by the template 'for every input the law returns true; each argument reads behind the call as it read before'; 0 by the template 'total and deterministic' (their statements: YtggalbhjkkmcaaaTotals.lean).
  GIVEN WITH THE SEED: the statements are not yours to turn. If you find one false, say at which input.
  Laid BY PROGRAM, IN A SANDBOX (cutbox-rows.mjs): the forced cells as the released guide's own fill.sh prints them over the translation fa0a081f2d7d34d4… (all of the seat's roots in one cut). By AI agents, Wed Nov 11 2026. No macro, syntax, notation, axiom, sorry.
-/
import Derived.Test.YtggalbhjkkmcaaaChecked
import GoSem.Claim
import GoSem.ClaimJoined
import GoSem.ClaimMapViews
import Derived.JoinedTies
import Derived.KernelRfl
namespace Go.Proofs.Ytggalbhjkkmcaaa
/- THE CELL 'sum', in the pinned program and in every row, IS THE sha256 OF THE DUMP (.gsa) THAT YtggalbhjkkmcaaaProg.lean LOADS. Nothing in Lean hashes anything: it is a label: what it is worth is what the hold of that sum in a sandbox is worth. -/
noncomputable def Try.pinned : Pinned := { name := "ytggalbhjkkmcaaa", sum := "fa0a081f2d7d34d49c564f0b90240bba1731f2596d608377645d6136249cd098", checked := Try.checked }
namespace Rows
def none {H : Type} : Left H := { results := [], args := [] }

/-- 'ecdysislaw02.ZigNears': WHATEVER THE INPUT: true; the input reads as it did. -/
def zigNearsSpec : ChangeSpec := { name := "zigNears", fn := fun _ => fun
  | [d1, d2] => { results := [.lit (.bool true)], args := [d1, d2] }
  | _ => none }
def zigNearsRow : OpenClaim := { program := "ytggalbhjkkmcaaa", sum := "fa0a081f2d7d34d49c564f0b90240bba1731f2596d608377645d6136249cd098", func := "ecdysis/ecdysislaw02.ZigNears", spec := "zigNears", unfollowed := true, recurses := true, apart := false }
def ZigNearsSaid : Prop := zigNearsRow.holds Try.pinned (OpenSpec.ofChange zigNearsSpec)

/-- ITS FALSE NEIGHBOUR: 'it returns false'. Refute it at one input. -/
def zigNearsWrong : ChangeSpec := { name := "zigNears", fn := fun _ => fun
  | [d1, d2] => { results := [.lit (.bool false)], args := [d1, d2] }
  | _ => none }
def ZigNearsWrongFalsely : Prop := zigNearsRow.holds Try.pinned (OpenSpec.ofChange zigNearsWrong)

/-- 'ecdysislaw02.ZigZags': WHATEVER THE INPUT: true; the input reads as it did. -/
def zigZagsSpec : ChangeSpec := { name := "zigZags", fn := fun _ => fun
  | [d1, d2] => { results := [.lit (.bool true)], args := [d1, d2] }
  | _ => none }
def zigZagsRow : OpenClaim := { program := "ytggalbhjkkmcaaa", sum := "fa0a081f2d7d34d49c564f0b90240bba1731f2596d608377645d6136249cd098", func := "ecdysis/ecdysislaw02.ZigZags", spec := "zigZags", unfollowed := true, recurses := true, apart := false }
def ZigZagsSaid : Prop := zigZagsRow.holds Try.pinned (OpenSpec.ofChange zigZagsSpec)

/-- ITS FALSE NEIGHBOUR: 'it returns false'. Refute it at one input. -/
def zigZagsWrong : ChangeSpec := { name := "zigZags", fn := fun _ => fun
  | [d1, d2] => { results := [.lit (.bool false)], args := [d1, d2] }
  | _ => none }
def ZigZagsWrongFalsely : Prop := zigZagsRow.holds Try.pinned (OpenSpec.ofChange zigZagsWrong)

/-- 'ecdysislaw02.ZigLows': WHATEVER THE INPUT: true; the input reads as it did. -/
def zigLowsSpec : ChangeSpec := { name := "zigLows", fn := fun _ => fun
  | [d1, d2] => { results := [.lit (.bool true)], args := [d1, d2] }
  | _ => none }
def zigLowsRow : OpenClaim := { program := "ytggalbhjkkmcaaa", sum := "fa0a081f2d7d34d49c564f0b90240bba1731f2596d608377645d6136249cd098", func := "ecdysis/ecdysislaw02.ZigLows", spec := "zigLows", unfollowed := true, recurses := true, apart := false }
def ZigLowsSaid : Prop := zigLowsRow.holds Try.pinned (OpenSpec.ofChange zigLowsSpec)

/-- ITS FALSE NEIGHBOUR: 'it returns false'. Refute it at one input. -/
def zigLowsWrong : ChangeSpec := { name := "zigLows", fn := fun _ => fun
  | [d1, d2] => { results := [.lit (.bool false)], args := [d1, d2] }
  | _ => none }
def ZigLowsWrongFalsely : Prop := zigLowsRow.holds Try.pinned (OpenSpec.ofChange zigLowsWrong)

/-- 'ecdysislaw03.FixHalves': WHATEVER THE INPUT: true; the input reads as it did. -/
def fixHalvesSpec : ChangeSpec := { name := "fixHalves", fn := fun _ => fun
  | [d1, d2] => { results := [.lit (.bool true)], args := [d1, d2] }
  | _ => none }
def fixHalvesRow : OpenClaim := { program := "ytggalbhjkkmcaaa", sum := "fa0a081f2d7d34d49c564f0b90240bba1731f2596d608377645d6136249cd098", func := "ecdysis/ecdysislaw03.FixHalves", spec := "fixHalves", apart := false }
def FixHalvesSaid : Prop := fixHalvesRow.holds Try.pinned (OpenSpec.ofChange fixHalvesSpec)

/-- ITS FALSE NEIGHBOUR: 'it returns false'. Refute it at one input. -/
def fixHalvesWrong : ChangeSpec := { name := "fixHalves", fn := fun _ => fun
  | [d1, d2] => { results := [.lit (.bool false)], args := [d1, d2] }
  | _ => none }
def FixHalvesWrongFalsely : Prop := fixHalvesRow.holds Try.pinned (OpenSpec.ofChange fixHalvesWrong)

/-- 'ecdysislaw04.TagOf': WHATEVER THE INPUT: true; the input reads as it did. -/
def tagOfSpec : ChangeSpec := { name := "tagOf", fn := fun _ => fun
  | [d1, d2] => { results := [.lit (.bool true)], args := [d1, d2] }
  | _ => none }
def tagOfRow : OpenClaim := { program := "ytggalbhjkkmcaaa", sum := "fa0a081f2d7d34d49c564f0b90240bba1731f2596d608377645d6136249cd098", func := "ecdysis/ecdysislaw04.TagOf", spec := "tagOf", apart := false }
def TagOfSaid : Prop := tagOfRow.holds Try.pinned (OpenSpec.ofChange tagOfSpec)

/-- ITS FALSE NEIGHBOUR: 'it returns false'. Refute it at one input. -/
def tagOfWrong : ChangeSpec := { name := "tagOf", fn := fun _ => fun
  | [d1, d2] => { results := [.lit (.bool false)], args := [d1, d2] }
  | _ => none }
def TagOfWrongFalsely : Prop := tagOfRow.holds Try.pinned (OpenSpec.ofChange tagOfWrong)

/-- 'ecdysislaw04.TagSplits': WHATEVER THE INPUT: true; the input reads as it did. -/
def tagSplitsSpec : ChangeSpec := { name := "tagSplits", fn := fun _ => fun
  | [d] => { results := [.lit (.bool true)], args := [d] }
  | _ => none }
def tagSplitsRow : OpenClaim := { program := "ytggalbhjkkmcaaa", sum := "fa0a081f2d7d34d49c564f0b90240bba1731f2596d608377645d6136249cd098", func := "ecdysis/ecdysislaw04.TagSplits", spec := "tagSplits", apart := false }
def TagSplitsSaid : Prop := tagSplitsRow.holds Try.pinned (OpenSpec.ofChange tagSplitsSpec)

/-- ITS FALSE NEIGHBOUR: 'it returns false'. Refute it at one input. -/
def tagSplitsWrong : ChangeSpec := { name := "tagSplits", fn := fun _ => fun
  | [d] => { results := [.lit (.bool false)], args := [d] }
  | _ => none }
def TagSplitsWrongFalsely : Prop := tagSplitsRow.holds Try.pinned (OpenSpec.ofChange tagSplitsWrong)

/-- 'ecdysislaw04.TagBack': WHATEVER THE INPUT: true; the input reads as it did. -/
def tagBackSpec : ChangeSpec := { name := "tagBack", fn := fun _ => fun
  | [d1, d2] => { results := [.lit (.bool true)], args := [d1, d2] }
  | _ => none }
def tagBackRow : OpenClaim := { program := "ytggalbhjkkmcaaa", sum := "fa0a081f2d7d34d49c564f0b90240bba1731f2596d608377645d6136249cd098", func := "ecdysis/ecdysislaw04.TagBack", spec := "tagBack", apart := false }
def TagBackSaid : Prop := tagBackRow.holds Try.pinned (OpenSpec.ofChange tagBackSpec)

/-- ITS FALSE NEIGHBOUR: 'it returns false'. Refute it at one input. -/
def tagBackWrong : ChangeSpec := { name := "tagBack", fn := fun _ => fun
  | [d1, d2] => { results := [.lit (.bool false)], args := [d1, d2] }
  | _ => none }
def TagBackWrongFalsely : Prop := tagBackRow.holds Try.pinned (OpenSpec.ofChange tagBackWrong)

/-- 'ecdysislaw03.FixGets': WHATEVER THE INPUT: true; the input reads as it did. -/
def fixGetsSpec : ChangeSpec := { name := "fixGets", fn := fun _ => fun
  | [d] => { results := [.lit (.bool true)], args := [d] }
  | _ => none }
def fixGetsRow : OpenClaim := { program := "ytggalbhjkkmcaaa", sum := "fa0a081f2d7d34d49c564f0b90240bba1731f2596d608377645d6136249cd098", func := "ecdysis/ecdysislaw03.FixGets", spec := "fixGets", apart := false }
def FixGetsSaid : Prop := fixGetsRow.holds Try.pinned (OpenSpec.ofChange fixGetsSpec)

/-- ITS FALSE NEIGHBOUR: 'it returns false'. Refute it at one input. -/
def fixGetsWrong : ChangeSpec := { name := "fixGets", fn := fun _ => fun
  | [d] => { results := [.lit (.bool false)], args := [d] }
  | _ => none }
def FixGetsWrongFalsely : Prop := fixGetsRow.holds Try.pinned (OpenSpec.ofChange fixGetsWrong)

/-- 'ecdysislaw01.VarintPuts': WHATEVER THE INPUT: true; the input reads as it did. -/
def varintPutsSpec : ChangeSpec := { name := "varintPuts", fn := fun _ => fun
  | [d1, d2] => { results := [.lit (.bool true)], args := [d1, d2] }
  | _ => none }
def varintPutsRow : OpenClaim := { program := "ytggalbhjkkmcaaa", sum := "fa0a081f2d7d34d49c564f0b90240bba1731f2596d608377645d6136249cd098", func := "ecdysis/ecdysislaw01.VarintPuts", spec := "varintPuts", apart := false }
def VarintPutsSaid : Prop := varintPutsRow.holds Try.pinned (OpenSpec.ofChange varintPutsSpec)

/-- ITS FALSE NEIGHBOUR: 'it returns false'. Refute it at one input. -/
def varintPutsWrong : ChangeSpec := { name := "varintPuts", fn := fun _ => fun
  | [d1, d2] => { results := [.lit (.bool false)], args := [d1, d2] }
  | _ => none }
def VarintPutsWrongFalsely : Prop := varintPutsRow.holds Try.pinned (OpenSpec.ofChange varintPutsWrong)

/-- 'ecdysislaw01.VarintGets': WHATEVER THE INPUT: true; the input reads as it did. -/
def varintGetsSpec : ChangeSpec := { name := "varintGets", fn := fun _ => fun
  | [d] => { results := [.lit (.bool true)], args := [d] }
  | _ => none }
def varintGetsRow : OpenClaim := { program := "ytggalbhjkkmcaaa", sum := "fa0a081f2d7d34d49c564f0b90240bba1731f2596d608377645d6136249cd098", func := "ecdysis/ecdysislaw01.VarintGets", spec := "varintGets", apart := false }
def VarintGetsSaid : Prop := varintGetsRow.holds Try.pinned (OpenSpec.ofChange varintGetsSpec)

/-- ITS FALSE NEIGHBOUR: 'it returns false'. Refute it at one input. -/
def varintGetsWrong : ChangeSpec := { name := "varintGets", fn := fun _ => fun
  | [d] => { results := [.lit (.bool false)], args := [d] }
  | _ => none }
def VarintGetsWrongFalsely : Prop := varintGetsRow.holds Try.pinned (OpenSpec.ofChange varintGetsWrong)

/-- 'ecdysislaw03.FixPuts': WHATEVER THE INPUT: true; the input reads as it did. -/
def fixPutsSpec : ChangeSpec := { name := "fixPuts", fn := fun _ => fun
  | [d1, d2] => { results := [.lit (.bool true)], args := [d1, d2] }
  | _ => none }
def fixPutsRow : OpenClaim := { program := "ytggalbhjkkmcaaa", sum := "fa0a081f2d7d34d49c564f0b90240bba1731f2596d608377645d6136249cd098", func := "ecdysis/ecdysislaw03.FixPuts", spec := "fixPuts", apart := false }
def FixPutsSaid : Prop := fixPutsRow.holds Try.pinned (OpenSpec.ofChange fixPutsSpec)

/-- ITS FALSE NEIGHBOUR: 'it returns false'. Refute it at one input. -/
def fixPutsWrong : ChangeSpec := { name := "fixPuts", fn := fun _ => fun
  | [d1, d2] => { results := [.lit (.bool false)], args := [d1, d2] }
  | _ => none }
def FixPutsWrongFalsely : Prop := fixPutsRow.holds Try.pinned (OpenSpec.ofChange fixPutsWrong)

/-- 'ecdysislaw01.VarintAll': WHATEVER THE INPUT: true; the input reads as it did. -/
def varintAllSpec : ChangeSpec := { name := "varintAll", fn := fun _ => fun
  | [d] => { results := [.lit (.bool true)], args := [d] }
  | _ => none }
def varintAllRow : OpenClaim := { program := "ytggalbhjkkmcaaa", sum := "fa0a081f2d7d34d49c564f0b90240bba1731f2596d608377645d6136249cd098", func := "ecdysis/ecdysislaw01.VarintAll", spec := "varintAll", apart := false }
def VarintAllSaid : Prop := varintAllRow.holds Try.pinned (OpenSpec.ofChange varintAllSpec)

/-- ITS FALSE NEIGHBOUR: 'it returns false'. Refute it at one input. -/
def varintAllWrong : ChangeSpec := { name := "varintAll", fn := fun _ => fun
  | [d] => { results := [.lit (.bool false)], args := [d] }
  | _ => none }
def VarintAllWrongFalsely : Prop := varintAllRow.holds Try.pinned (OpenSpec.ofChange varintAllWrong)

/-- 'ecdysislaw01.VarintJoins': WHATEVER THE INPUT: true; the input reads as it did. -/
def varintJoinsSpec : ChangeSpec := { name := "varintJoins", fn := fun _ => fun
  | [d] => { results := [.lit (.bool true)], args := [d] }
  | _ => none }
def varintJoinsRow : OpenClaim := { program := "ytggalbhjkkmcaaa", sum := "fa0a081f2d7d34d49c564f0b90240bba1731f2596d608377645d6136249cd098", func := "ecdysis/ecdysislaw01.VarintJoins", spec := "varintJoins", apart := false }
def VarintJoinsSaid : Prop := varintJoinsRow.holds Try.pinned (OpenSpec.ofChange varintJoinsSpec)

/-- ITS FALSE NEIGHBOUR: 'it returns false'. Refute it at one input. -/
def varintJoinsWrong : ChangeSpec := { name := "varintJoins", fn := fun _ => fun
  | [d] => { results := [.lit (.bool false)], args := [d] }
  | _ => none }
def VarintJoinsWrongFalsely : Prop := varintJoinsRow.holds Try.pinned (OpenSpec.ofChange varintJoinsWrong)

/- THE SECOND FORM. 'bulk': how many values and letters a reading holds, each counted each time it is reached (what is shared counts as often as it is met; a slice's spare places count too). A statement '..UptoSaid' is the law's where the arguments, and the package variables that the reading takes, are together of bulk at most 1048576: NARROWER than '..Said'. Prove '..Said' where nothing that the law and all that it calls make is longer than what came in: it says more and counts as full. Else prove '..UptoSaid'. A law counts once. -/
mutual
def uptoBulk {H : Type} : DataW H → Nat
  | .lit (.string bytes) => bytes.length + 1
  | .lit _ => 1
  | .nil => 1
  | .ptr d => uptoBulk d + 1
  | .slice elems spare => uptoBulkAll elems + uptoBulkAll spare + 1
  | .agg parts => uptoBulkAll parts + 1
  | .iface _ d => uptoBulk d + 1
  | .map entries => uptoBulkEntries entries + 1
  | .held _ => 1
def uptoBulkAll {H : Type} : List (DataW H) → Nat
  | [] => 0
  | d :: r => uptoBulk d + uptoBulkAll r
def uptoBulkEntries {H : Type} : List (Lit × DataW H) → Nat
  | [] => 0
  | x :: r => uptoBulkEntry x + uptoBulkEntries r
def uptoBulkEntry {H : Type} : Lit × DataW H → Nat
  | (.string bytes, d) => bytes.length + uptoBulk d + 1
  | (_, d) => uptoBulk d + 1
 end
def uptoSmall : (H : Type) → List (DataW H) → Bool := fun _ ds => decide (uptoBulkAll ds ≤ 1048576)
def OpenSpec.upto (s : _root_.Go.ChangeSpec) : _root_.Go.OpenSpec := { _root_.Go.OpenSpec.ofChange s with cond := some uptoSmall }

/-- 'ecdysislaw02.ZigNears', WHERE WHAT IT READS IS OF BULK AT MOST 1048576: true; the input reads as it did. -/
def zigNearsUptoRow : OpenClaim := { program := "ytggalbhjkkmcaaa", sum := "fa0a081f2d7d34d49c564f0b90240bba1731f2596d608377645d6136249cd098", func := "ecdysis/ecdysislaw02.ZigNears", spec := "zigNears", unfollowed := true, recurses := true, apart := false, narrowed := true }
def ZigNearsUptoSaid : Prop := zigNearsUptoRow.holds Try.pinned (OpenSpec.upto zigNearsSpec)

/-- 'ecdysislaw02.ZigZags', WHERE WHAT IT READS IS OF BULK AT MOST 1048576: true; the input reads as it did. -/
def zigZagsUptoRow : OpenClaim := { program := "ytggalbhjkkmcaaa", sum := "fa0a081f2d7d34d49c564f0b90240bba1731f2596d608377645d6136249cd098", func := "ecdysis/ecdysislaw02.ZigZags", spec := "zigZags", unfollowed := true, recurses := true, apart := false, narrowed := true }
def ZigZagsUptoSaid : Prop := zigZagsUptoRow.holds Try.pinned (OpenSpec.upto zigZagsSpec)

/-- 'ecdysislaw02.ZigLows', WHERE WHAT IT READS IS OF BULK AT MOST 1048576: true; the input reads as it did. -/
def zigLowsUptoRow : OpenClaim := { program := "ytggalbhjkkmcaaa", sum := "fa0a081f2d7d34d49c564f0b90240bba1731f2596d608377645d6136249cd098", func := "ecdysis/ecdysislaw02.ZigLows", spec := "zigLows", unfollowed := true, recurses := true, apart := false, narrowed := true }
def ZigLowsUptoSaid : Prop := zigLowsUptoRow.holds Try.pinned (OpenSpec.upto zigLowsSpec)

/-- 'ecdysislaw03.FixHalves', WHERE WHAT IT READS IS OF BULK AT MOST 1048576: true; the input reads as it did. -/
def fixHalvesUptoRow : OpenClaim := { program := "ytggalbhjkkmcaaa", sum := "fa0a081f2d7d34d49c564f0b90240bba1731f2596d608377645d6136249cd098", func := "ecdysis/ecdysislaw03.FixHalves", spec := "fixHalves", apart := false, narrowed := true }
def FixHalvesUptoSaid : Prop := fixHalvesUptoRow.holds Try.pinned (OpenSpec.upto fixHalvesSpec)

/-- 'ecdysislaw04.TagOf', WHERE WHAT IT READS IS OF BULK AT MOST 1048576: true; the input reads as it did. -/
def tagOfUptoRow : OpenClaim := { program := "ytggalbhjkkmcaaa", sum := "fa0a081f2d7d34d49c564f0b90240bba1731f2596d608377645d6136249cd098", func := "ecdysis/ecdysislaw04.TagOf", spec := "tagOf", apart := false, narrowed := true }
def TagOfUptoSaid : Prop := tagOfUptoRow.holds Try.pinned (OpenSpec.upto tagOfSpec)

/-- 'ecdysislaw04.TagSplits', WHERE WHAT IT READS IS OF BULK AT MOST 1048576: true; the input reads as it did. -/
def tagSplitsUptoRow : OpenClaim := { program := "ytggalbhjkkmcaaa", sum := "fa0a081f2d7d34d49c564f0b90240bba1731f2596d608377645d6136249cd098", func := "ecdysis/ecdysislaw04.TagSplits", spec := "tagSplits", apart := false, narrowed := true }
def TagSplitsUptoSaid : Prop := tagSplitsUptoRow.holds Try.pinned (OpenSpec.upto tagSplitsSpec)

/-- 'ecdysislaw04.TagBack', WHERE WHAT IT READS IS OF BULK AT MOST 1048576: true; the input reads as it did. -/
def tagBackUptoRow : OpenClaim := { program := "ytggalbhjkkmcaaa", sum := "fa0a081f2d7d34d49c564f0b90240bba1731f2596d608377645d6136249cd098", func := "ecdysis/ecdysislaw04.TagBack", spec := "tagBack", apart := false, narrowed := true }
def TagBackUptoSaid : Prop := tagBackUptoRow.holds Try.pinned (OpenSpec.upto tagBackSpec)

/-- 'ecdysislaw03.FixGets', WHERE WHAT IT READS IS OF BULK AT MOST 1048576: true; the input reads as it did. -/
def fixGetsUptoRow : OpenClaim := { program := "ytggalbhjkkmcaaa", sum := "fa0a081f2d7d34d49c564f0b90240bba1731f2596d608377645d6136249cd098", func := "ecdysis/ecdysislaw03.FixGets", spec := "fixGets", apart := false, narrowed := true }
def FixGetsUptoSaid : Prop := fixGetsUptoRow.holds Try.pinned (OpenSpec.upto fixGetsSpec)

/-- 'ecdysislaw01.VarintPuts', WHERE WHAT IT READS IS OF BULK AT MOST 1048576: true; the input reads as it did. -/
def varintPutsUptoRow : OpenClaim := { program := "ytggalbhjkkmcaaa", sum := "fa0a081f2d7d34d49c564f0b90240bba1731f2596d608377645d6136249cd098", func := "ecdysis/ecdysislaw01.VarintPuts", spec := "varintPuts", apart := false, narrowed := true }
def VarintPutsUptoSaid : Prop := varintPutsUptoRow.holds Try.pinned (OpenSpec.upto varintPutsSpec)

/-- 'ecdysislaw01.VarintGets', WHERE WHAT IT READS IS OF BULK AT MOST 1048576: true; the input reads as it did. -/
def varintGetsUptoRow : OpenClaim := { program := "ytggalbhjkkmcaaa", sum := "fa0a081f2d7d34d49c564f0b90240bba1731f2596d608377645d6136249cd098", func := "ecdysis/ecdysislaw01.VarintGets", spec := "varintGets", apart := false, narrowed := true }
def VarintGetsUptoSaid : Prop := varintGetsUptoRow.holds Try.pinned (OpenSpec.upto varintGetsSpec)

/-- 'ecdysislaw03.FixPuts', WHERE WHAT IT READS IS OF BULK AT MOST 1048576: true; the input reads as it did. -/
def fixPutsUptoRow : OpenClaim := { program := "ytggalbhjkkmcaaa", sum := "fa0a081f2d7d34d49c564f0b90240bba1731f2596d608377645d6136249cd098", func := "ecdysis/ecdysislaw03.FixPuts", spec := "fixPuts", apart := false, narrowed := true }
def FixPutsUptoSaid : Prop := fixPutsUptoRow.holds Try.pinned (OpenSpec.upto fixPutsSpec)

/-- 'ecdysislaw01.VarintAll', WHERE WHAT IT READS IS OF BULK AT MOST 1048576: true; the input reads as it did. -/
def varintAllUptoRow : OpenClaim := { program := "ytggalbhjkkmcaaa", sum := "fa0a081f2d7d34d49c564f0b90240bba1731f2596d608377645d6136249cd098", func := "ecdysis/ecdysislaw01.VarintAll", spec := "varintAll", apart := false, narrowed := true }
def VarintAllUptoSaid : Prop := varintAllUptoRow.holds Try.pinned (OpenSpec.upto varintAllSpec)

/-- 'ecdysislaw01.VarintJoins', WHERE WHAT IT READS IS OF BULK AT MOST 1048576: true; the input reads as it did. -/
def varintJoinsUptoRow : OpenClaim := { program := "ytggalbhjkkmcaaa", sum := "fa0a081f2d7d34d49c564f0b90240bba1731f2596d608377645d6136249cd098", func := "ecdysis/ecdysislaw01.VarintJoins", spec := "varintJoins", apart := false, narrowed := true }
def VarintJoinsUptoSaid : Prop := varintJoinsUptoRow.holds Try.pinned (OpenSpec.upto varintJoinsSpec)

end Rows
end Go.Proofs.Ytggalbhjkkmcaaa

-- WRITTEN BY wip/given.py OF THIS CLAIM'S SESSION, out of the translation (the kit's print with small changes). Lean checks it.
import Derived.Test.YtggalbhjkkmcaaaProg
import Derived.Below
import Derived.Deep.Draws
import Derived.Deep.AppendLies
import Derived.Maps.AppendAt
import Derived.OwnWalk
import Derived.Laws.BytesArg
import Derived.Laws.MakeOwn
import Derived.Laws.OwnMore
import Derived.Deep.OwnRows
import Derived.Tactics
import Derived.Lib.ConvBytes
import Derived.Laws.Slices
import Derived.WalkKit
import Derived.KernelRfl
import Derived.RowKit3
import Derived.Deep.LoopGhost
import Derived.Deep.QuietTactic
import Derived.BigQuiet
import Derived.WideLaws
import Derived.Deep.DeepCutAuto
import Derived.Deep.CutBlock
import Derived.Deep.RegionHeld3
import Derived.Laws.Rows
import Derived.Lib.AppendStr
import Derived.ArgAppend
import Derived.Laws.IdiomCopy
import Derived.OrdersHeld
import Derived.Laws.BitsLemmas
import Derived.RowKit
import Derived.Test.YtggalbhjkkmcaaaMFix
import Derived.Test.YtggalbhjkkmcaaaMk
import Derived.WalkMore
import Derived.Test.YtggalbhjkkmcaaaWWords
import Derived.Test.YtggalbhjkkmcaaaWLast
import Derived.Test.YtggalbhjkkmcaaaWTab
import Derived.Test.YtggalbhjkkmcaaaWFour
import Derived.Test.YtggalbhjkkmcaaaWQPut
import Derived.Test.YtggalbhjkkmcaaaWApart
import Derived.Test.YtggalbhjkkmcaaaWArr
import Derived.Test.YtggalbhjkkmcaaaWZeros
import Derived.Test.YtggalbhjkkmcaaaWFoot
import Derived.Test.YtggalbhjkkmcaaaWKept
import Derived.Test.YtggalbhjkkmcaaaWShare
import Derived.Test.YtggalbhjkkmcaaaWN
import Derived.Test.YtggalbhjkkmcaaaWFootNe
import Derived.Test.YtggalbhjkkmcaaaWAt
import Derived.Test.YtggalbhjkkmcaaaWEqStruct
import Derived.Test.YtggalbhjkkmcaaaWRepsOne
import Derived.Test.YtggalbhjkkmcaaaWInv
import Derived.Test.YtggalbhjkkmcaaaWInvWords
import Derived.Test.YtggalbhjkkmcaaaWGuard
import Derived.Test.YtggalbhjkkmcaaaWNEv
import Derived.Test.YtggalbhjkkmcaaaWMore
namespace Go.Proofs.Ytggalbhjkkmcaaa.PFixPuts
open Go.RowKit Go.Proofs.Ytggalbhjkkmcaaa.M Go.Proofs.YtggalbhjkkmcaaaW.PrintWords Go.Proofs.YtggalbhjkkmcaaaW.PrintLast Go.Proofs.YtggalbhjkkmcaaaW.PrintMore
attribute [local go_sem] max2_int min2_int max_two min_two max_three min_three max_four min_four   -- for this text's walks alone
set_option linter.unusedVariables false
set_option linter.unusedSimpArgs false



def errW : Option Int → Value
  | none => .nilIface
  | some c => .iface 0 (.int .i64 c)
theorem errW_none : errW none = .nilIface := rfl
theorem errW_some (c : Int) : errW (some c) = .iface 0 (.int .i64 c) := rfl

theorem info5 : (Try.prog.info? 5).map (fun i => (i.zero, i.size, i.bytes)) = some (some (.int .u8 0), 1, 1) := by kernel_rfl
-- the values' own types

end Go.Proofs.Ytggalbhjkkmcaaa.PFixPuts

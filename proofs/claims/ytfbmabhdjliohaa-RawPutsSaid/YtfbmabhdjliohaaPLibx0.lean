-- WRITTEN BY wip/given.py OF THIS CLAIM'S SESSION, out of the translation (the kit's print with small changes). Lean checks it.
import Derived.Test.YtfbmabhdjliohaaProg
import Derived.ArgAppend
import Derived.Below
import Derived.BigQuiet
import Derived.Deep.AppendLies
import Derived.Deep.CutBlock
import Derived.Deep.DeepCutAuto
import Derived.Deep.Draws
import Derived.Deep.LoopGhost
import Derived.Deep.OwnRows
import Derived.Deep.QuietTactic
import Derived.Deep.RegionHeld3
import Derived.KernelRfl
import Derived.Laws.BitsLemmas
import Derived.Laws.BytesArg
import Derived.Laws.IdiomCopy
import Derived.Laws.MakeOwn
import Derived.Laws.OwnMore
import Derived.Laws.Rows
import Derived.Laws.Slices
import Derived.Lib.AppendStr
import Derived.Lib.ConvBytes
import Derived.Maps.AppendAt
import Derived.OrdersHeld
import Derived.OwnWalk
import Derived.RowKit
import Derived.RowKit3
import Derived.Tactics
import Derived.Test.YtfbmabhdjliohaaMBits
import Derived.Test.YtfbmabhdjliohaaMk
import Derived.WalkKit
import Derived.WalkMore
import Derived.WideLaws
import Derived.Test.YtfbmabhdjliohaaWWords
import Derived.Test.YtfbmabhdjliohaaWLast
import Derived.Test.YtfbmabhdjliohaaWTab
import Derived.Test.YtfbmabhdjliohaaWFour
import Derived.Test.YtfbmabhdjliohaaWQPut
import Derived.Test.YtfbmabhdjliohaaWApart
import Derived.Test.YtfbmabhdjliohaaWArr
import Derived.Test.YtfbmabhdjliohaaWZeros
import Derived.Test.YtfbmabhdjliohaaWFoot
import Derived.Test.YtfbmabhdjliohaaWKept
import Derived.Test.YtfbmabhdjliohaaWShare
import Derived.Test.YtfbmabhdjliohaaWN
import Derived.Test.YtfbmabhdjliohaaWFootNe
import Derived.Test.YtfbmabhdjliohaaWAt
import Derived.Test.YtfbmabhdjliohaaWEqStruct
import Derived.Test.YtfbmabhdjliohaaWRepsOne
import Derived.Test.YtfbmabhdjliohaaWInv
import Derived.Test.YtfbmabhdjliohaaWInvWords
import Derived.Test.YtfbmabhdjliohaaWGuard
import Derived.Test.YtfbmabhdjliohaaWNEv
import Derived.Test.YtfbmabhdjliohaaWMore
namespace Go.Proofs.Ytfbmabhdjliohaa.PLib
open Go.RowKit Go.Proofs.Ytfbmabhdjliohaa.M Go.Proofs.YtfbmabhdjliohaaW.PrintWords Go.Proofs.YtfbmabhdjliohaaW.PrintLast Go.Proofs.YtfbmabhdjliohaaW.PrintMore
attribute [local go_sem] max2_int min2_int max_two min_two max_three min_three max_four min_four   -- for this text's walks alone
set_option linter.unusedVariables false
set_option linter.unusedSimpArgs false



def errW : Option Int → Value
  | none => .nilIface
  | some c => .iface 0 (.int .i64 c)
theorem errW_none : errW none = .nilIface := rfl
theorem errW_some (c : Int) : errW (some c) = .iface 0 (.int .i64 c) := rfl

theorem info5 : (Try.prog.info? 5).map (fun i => (i.zero, i.size, i.bytes)) = some (some (.int .u8 0), 1, 1) := by kernel_rfl
-- the values' own types

end Go.Proofs.Ytfbmabhdjliohaa.PLib

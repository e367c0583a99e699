-- WRITTEN BY wip/given.py OF THIS CLAIM'S SESSION, out of the translation (the kit's print with small changes). Lean checks it.
import Derived.Test.YtbpnfpckoapdbaaProg
import Derived.ArgAppend
import Derived.Below
import Derived.BigQuiet
import Derived.Deep.AppendLies
import Derived.Deep.CutBlock
import Derived.Deep.DeepCutAuto
import Derived.Deep.Draws
import Derived.Deep.LoopGhost
import Derived.Deep.OwnRows
import Derived.Deep.QuietTactic
import Derived.Deep.RegionHeld3
import Derived.KernelRfl
import Derived.Laws.BitsLemmas
import Derived.Laws.BytesArg
import Derived.Laws.IdiomCopy
import Derived.Laws.MakeOwn
import Derived.Laws.OwnMore
import Derived.Laws.Rows
import Derived.Laws.Slices
import Derived.Lib.AppendStr
import Derived.Lib.ConvBytes
import Derived.Maps.AppendAt
import Derived.OrdersHeld
import Derived.OwnWalk
import Derived.RowKit
import Derived.RowKit3
import Derived.Tactics
import Derived.Test.YtbpnfpckoapdbaaKD
import Derived.Test.YtbpnfpckoapdbaaMk
import Derived.WalkKit
import Derived.WalkMore
import Derived.WideLaws
import Derived.Test.YtbpnfpckoapdbaaWWords
import Derived.Test.YtbpnfpckoapdbaaWLast
import Derived.Test.YtbpnfpckoapdbaaWTab
import Derived.Test.YtbpnfpckoapdbaaWFour
import Derived.Test.YtbpnfpckoapdbaaWQPut
import Derived.Test.YtbpnfpckoapdbaaWApart
import Derived.Test.YtbpnfpckoapdbaaWArr
import Derived.Test.YtbpnfpckoapdbaaWZeros
import Derived.Test.YtbpnfpckoapdbaaWFoot
import Derived.Test.YtbpnfpckoapdbaaWKept
import Derived.Test.YtbpnfpckoapdbaaWShare
import Derived.Test.YtbpnfpckoapdbaaWN
import Derived.Test.YtbpnfpckoapdbaaWFootNe
import Derived.Test.YtbpnfpckoapdbaaWAt
import Derived.Test.YtbpnfpckoapdbaaWEqStruct
import Derived.Test.YtbpnfpckoapdbaaWRepsOne
import Derived.Test.YtbpnfpckoapdbaaWInv
import Derived.Test.YtbpnfpckoapdbaaWInvWords
import Derived.Test.YtbpnfpckoapdbaaWGuard
import Derived.Test.YtbpnfpckoapdbaaWNEv
import Derived.Test.YtbpnfpckoapdbaaWMore
namespace Go.Proofs.Ytbpnfpckoapdbaa.PFk
open Go.RowKit Go.Proofs.Ytbpnfpckoapdbaa.M Go.Proofs.Ytbpnfpckoapdbaa.KD Go.Proofs.Ytbpnfpckoapdbaa Go.Proofs.YtbpnfpckoapdbaaW.PrintWords Go.Proofs.YtbpnfpckoapdbaaW.PrintLast Go.Proofs.YtbpnfpckoapdbaaW.PrintMore
attribute [local go_sem] max2_int min2_int max_two min_two max_three min_three max_four min_four   -- for this text's walks alone
set_option linter.unusedVariables false
set_option linter.unusedSimpArgs false



def errW : Option Int → Value
  | none => .nilIface
  | some c => .iface 0 (.int .i64 c)
theorem errW_none : errW none = .nilIface := rfl
theorem errW_some (c : Int) : errW (some c) = .iface 0 (.int .i64 c) := rfl

-- the values' own types

end Go.Proofs.Ytbpnfpckoapdbaa.PFk

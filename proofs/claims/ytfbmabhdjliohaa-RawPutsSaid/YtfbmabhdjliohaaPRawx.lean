-- WRITTEN BY wip/given.py OF THIS CLAIM'S SESSION, out of the translation (the kit's print with small changes). Lean checks it.
import Derived.Test.YtfbmabhdjliohaaPRawx0
import Derived.Test.YtfbmabhdjliohaaPRawx1
import Derived.Test.YtfbmabhdjliohaaPRawx2
import Derived.Test.YtfbmabhdjliohaaPRawx3
namespace Go.Proofs.Ytfbmabhdjliohaa.PRaw
open Go.RowKit Go.Proofs.Ytfbmabhdjliohaa.M Go.Proofs.YtfbmabhdjliohaaW.PrintWords Go.Proofs.YtfbmabhdjliohaaW.PrintLast Go.Proofs.YtfbmabhdjliohaaW.PrintMore
attribute [local go_sem] max2_int min2_int max_two min_two max_three min_three max_four min_four   -- for this text's walks alone
set_option linter.unusedVariables false
set_option linter.unusedSimpArgs false

end Go.Proofs.Ytfbmabhdjliohaa.PRaw

-- WRITTEN BY wip/given.py OF THIS CLAIM'S SESSION, out of the translation (the kit's print with small changes). Lean checks it.
import Derived.Test.YtbpnfpckoapdbaaPFkx0
import Derived.Test.YtbpnfpckoapdbaaPFkx1
namespace Go.Proofs.Ytbpnfpckoapdbaa.PFk
open Go.RowKit Go.Proofs.Ytbpnfpckoapdbaa.M Go.Proofs.Ytbpnfpckoapdbaa.KD Go.Proofs.Ytbpnfpckoapdbaa Go.Proofs.YtbpnfpckoapdbaaW.PrintWords Go.Proofs.YtbpnfpckoapdbaaW.PrintLast Go.Proofs.YtbpnfpckoapdbaaW.PrintMore
attribute [local go_sem] max2_int min2_int max_two min_two max_three min_three max_four min_four   -- for this text's walks alone
set_option linter.unusedVariables false
set_option linter.unusedSimpArgs false

end Go.Proofs.Ytbpnfpckoapdbaa.PFk

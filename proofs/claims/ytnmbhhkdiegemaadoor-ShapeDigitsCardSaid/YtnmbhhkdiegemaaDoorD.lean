-- PRINTED by print.py (a twelfth state) out of the translation. Not trusted: Lean checks it.
import Derived.Test.YtnmbhhkdiegemaaDoorD0
import Derived.Test.YtnmbhhkdiegemaaDoorD1
import Derived.Test.YtnmbhhkdiegemaaDoorD2
namespace Go.Proofs.YtnmbhhkdiegemaaDoor.D
open Go.RowKit Go.Proofs.YtnmbhhkdiegemaaDoorW.PrintWords Go.Proofs.YtnmbhhkdiegemaaDoorW.PrintLast Go.Proofs.YtnmbhhkdiegemaaDoorW.PrintMore
attribute [local go_sem] max2_int min2_int max_two min_two max_three min_three max_four min_four   -- for this text's walks alone
set_option linter.unusedVariables false
set_option linter.unusedSimpArgs false

end Go.Proofs.YtnmbhhkdiegemaaDoor.D

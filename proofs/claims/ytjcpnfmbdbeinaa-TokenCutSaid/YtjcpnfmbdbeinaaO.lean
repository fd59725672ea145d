-- PRINTED by print.py (a twelfth state) out of the translation. Not trusted: Lean checks it.
import Derived.Test.YtjcpnfmbdbeinaaO0
import Derived.Test.YtjcpnfmbdbeinaaO1
import Derived.Test.YtjcpnfmbdbeinaaO2
import Derived.Test.YtjcpnfmbdbeinaaO3
import Derived.Test.YtjcpnfmbdbeinaaO4
import Derived.Test.YtjcpnfmbdbeinaaO5
import Derived.Test.YtjcpnfmbdbeinaaO6
import Derived.Test.YtjcpnfmbdbeinaaO7
import Derived.Test.YtjcpnfmbdbeinaaO8
namespace Go.Proofs.Ytjcpnfmbdbeinaa.O
open Go.RowKit Go.Proofs.YtjcpnfmbdbeinaaW.PrintWords Go.Proofs.YtjcpnfmbdbeinaaW.PrintLast Go.Proofs.YtjcpnfmbdbeinaaW.PrintMore
attribute [local go_sem] max2_int min2_int max_two min_two max_three min_three max_four min_four   -- for this text's walks alone
set_option linter.unusedVariables false
set_option linter.unusedSimpArgs false

end Go.Proofs.Ytjcpnfmbdbeinaa.O

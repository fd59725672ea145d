-- PRINTED by print.py (a twelfth state) out of the translation. Not trusted: Lean checks it.
import Derived.Test.YtjcpnfmbdbeinaaP0
import Derived.Test.YtjcpnfmbdbeinaaP1
import Derived.Test.YtjcpnfmbdbeinaaP2
import Derived.Test.YtjcpnfmbdbeinaaP3
import Derived.Test.YtjcpnfmbdbeinaaP4
import Derived.Test.YtjcpnfmbdbeinaaP5
import Derived.Test.YtjcpnfmbdbeinaaP6
import Derived.Test.YtjcpnfmbdbeinaaP7
import Derived.Test.YtjcpnfmbdbeinaaP8
import Derived.Test.YtjcpnfmbdbeinaaP9
import Derived.Test.YtjcpnfmbdbeinaaP10
import Derived.Test.YtjcpnfmbdbeinaaP11
namespace Go.Proofs.Ytjcpnfmbdbeinaa.P
open Go.RowKit Go.Proofs.YtjcpnfmbdbeinaaW.PrintWords Go.Proofs.YtjcpnfmbdbeinaaW.PrintLast Go.Proofs.YtjcpnfmbdbeinaaW.PrintMore
attribute [local go_sem] max2_int min2_int max_two min_two max_three min_three max_four min_four   -- for this text's walks alone
set_option linter.unusedVariables false
set_option linter.unusedSimpArgs false

end Go.Proofs.Ytjcpnfmbdbeinaa.P

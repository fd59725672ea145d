-- PRINTED by print.py (a twelfth state) out of the translation. Not trusted: Lean checks it.
import Derived.Test.YtjcpnfmbdbeinaaR0
import Derived.Test.YtjcpnfmbdbeinaaR1
import Derived.Test.YtjcpnfmbdbeinaaRTokSameW
import Derived.Test.YtjcpnfmbdbeinaaR3
import Derived.Test.YtjcpnfmbdbeinaaR4
import Derived.Test.YtjcpnfmbdbeinaaR5
import Derived.Test.YtjcpnfmbdbeinaaR6
import Derived.Test.YtjcpnfmbdbeinaaR7
import Derived.Test.YtjcpnfmbdbeinaaR8
import Derived.Test.YtjcpnfmbdbeinaaR9
import Derived.Test.YtjcpnfmbdbeinaaR10
import Derived.Test.YtjcpnfmbdbeinaaR11
namespace Go.Proofs.Ytjcpnfmbdbeinaa.R
open Go.RowKit Go.Proofs.YtjcpnfmbdbeinaaW.PrintWords Go.Proofs.YtjcpnfmbdbeinaaW.PrintLast Go.Proofs.YtjcpnfmbdbeinaaW.PrintMore
attribute [local go_sem] max2_int min2_int max_two min_two max_three min_three max_four min_four   -- for this text's walks alone
set_option linter.unusedVariables false
set_option linter.unusedSimpArgs false

end Go.Proofs.Ytjcpnfmbdbeinaa.R

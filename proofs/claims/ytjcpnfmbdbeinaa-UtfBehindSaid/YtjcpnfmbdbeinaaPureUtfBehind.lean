/- The plain law of UtfBehind, as it is stated over the printed functions. Conditions: those that it names. -/
import Derived.Test.YtjcpnfmbdbeinaaPureUtf
namespace Go.Proofs.Ytjcpnfmbdbeinaa.Pure
open Go.Proofs.Ytjcpnfmbdbeinaa.B
theorem UtfBehind : cardexlaw02_UtfBehind.Pure := Go.Proofs.Ytjcpnfmbdbeinaa.Plain.UtfBehind
end Go.Proofs.Ytjcpnfmbdbeinaa.Pure

/- The plain law of UtfCuts, as it is stated over the printed functions. Conditions: those that it names. -/
import Derived.Test.YtjcpnfmbdbeinaaPureUtf
namespace Go.Proofs.Ytjcpnfmbdbeinaa.Pure
open Go.Proofs.Ytjcpnfmbdbeinaa.B
theorem UtfCuts : cardexlaw02_UtfCuts.Pure := Go.Proofs.Ytjcpnfmbdbeinaa.Plain.UtfCuts
end Go.Proofs.Ytjcpnfmbdbeinaa.Pure

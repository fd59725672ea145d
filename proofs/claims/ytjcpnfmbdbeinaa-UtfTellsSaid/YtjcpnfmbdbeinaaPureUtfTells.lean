/- The plain law of UtfTells, as it is stated over the printed functions. Conditions: those that it names. -/
import Derived.Test.YtjcpnfmbdbeinaaPureUtf
namespace Go.Proofs.Ytjcpnfmbdbeinaa.Pure
open Go.Proofs.Ytjcpnfmbdbeinaa.B
theorem UtfTells : cardexlaw02_UtfTells.Pure := Go.Proofs.Ytjcpnfmbdbeinaa.Plain.UtfTells
end Go.Proofs.Ytjcpnfmbdbeinaa.Pure

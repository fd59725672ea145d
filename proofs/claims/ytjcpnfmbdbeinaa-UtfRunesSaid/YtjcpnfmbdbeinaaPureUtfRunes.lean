/- The plain law of UtfRunes, as it is stated over the printed functions. Conditions: those that it names. -/
import Derived.Test.YtjcpnfmbdbeinaaPureUtf
namespace Go.Proofs.Ytjcpnfmbdbeinaa.Pure
open Go.Proofs.Ytjcpnfmbdbeinaa.B
theorem UtfRunes : cardexlaw02_UtfRunes.Pure := Go.Proofs.Ytjcpnfmbdbeinaa.Plain.UtfRunes
end Go.Proofs.Ytjcpnfmbdbeinaa.Pure

/- The plain law of TokenOne, as it is stated over the printed functions. Conditions: those that it names. -/
import Derived.Test.YtjcpnfmbdbeinaaOTokPut
namespace Go.Proofs.Ytjcpnfmbdbeinaa.Pure
open Go.Proofs.Ytjcpnfmbdbeinaa.O
theorem TokenOne : cardexlaw11_TokenOne.Pure := Go.Proofs.Ytjcpnfmbdbeinaa.OPlain.TokenOne
end Go.Proofs.Ytjcpnfmbdbeinaa.Pure

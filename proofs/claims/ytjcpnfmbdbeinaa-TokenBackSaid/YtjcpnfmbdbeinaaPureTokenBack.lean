/- The plain law of TokenBack, as it is stated over the printed functions. Conditions: those that it names. -/
import Derived.Test.YtjcpnfmbdbeinaaOTokLaws
namespace Go.Proofs.Ytjcpnfmbdbeinaa.Pure
open Go.Proofs.Ytjcpnfmbdbeinaa.O
theorem TokenBack : ∀ (l0 : List S38) (_ : l0.length ≤ 140737488351232) (_ : ∀ t ∈ l0, OArg.Wf t), ∃ k, cardexlaw11_TokenBack.f k l0 = some true := Go.Proofs.Ytjcpnfmbdbeinaa.OPlain.TokenBack
end Go.Proofs.Ytjcpnfmbdbeinaa.Pure

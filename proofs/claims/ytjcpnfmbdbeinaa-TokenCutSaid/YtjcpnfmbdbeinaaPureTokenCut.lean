/- The plain law of TokenCut, as it is stated over the printed functions. Conditions: those that it names. -/
import Derived.Test.YtjcpnfmbdbeinaaOTokLaws
namespace Go.Proofs.Ytjcpnfmbdbeinaa.Pure
open Go.Proofs.Ytjcpnfmbdbeinaa.O
theorem TokenCut : ∀ (l0 : List S38) (a1 : Int) (_ : l0.length ≤ 140737488351232) (_ : ∀ t ∈ l0, OArg.Wf t) (_ : (Lit.int .i64 a1).wf = true), ∃ k, cardexlaw11_TokenCut.f k l0 a1 = some true := Go.Proofs.Ytjcpnfmbdbeinaa.OPlain.TokenCut
end Go.Proofs.Ytjcpnfmbdbeinaa.Pure

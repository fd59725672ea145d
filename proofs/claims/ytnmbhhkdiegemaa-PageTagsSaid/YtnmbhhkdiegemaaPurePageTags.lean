/- The plain law of PageTags, as it is stated over the printed functions. Conditions: those that it names. -/
import Derived.Test.YtnmbhhkdiegemaaPagePlain
namespace Go.Proofs.Ytnmbhhkdiegemaa.Pure
open Go.Proofs.Ytnmbhhkdiegemaa.G
theorem PageTags : cardexlaw10_PageTags.Pure := fun a0 _ => ⟨150, Go.Proofs.Ytnmbhhkdiegemaa.GPlain.PageTags a0⟩
end Go.Proofs.Ytnmbhhkdiegemaa.Pure

/- The facts of the form of the claim narcissustop.TopComposed, in a text of their own: the kernel wants much memory for them. -/
import Derived.Test.YtdjbcmfjlfkcjaaRowG
namespace Go.Proofs.Ytdjbcmfjlfkcjaa.rTopComposed
set_option maxRecDepth 100000 in
theorem closed : joinedFacts Try.pinned.checked.prog 4 Try.f4 Rows.topComposedSpec Rows.topComposedRow = true := by kernel_rfl
end Go.Proofs.Ytdjbcmfjlfkcjaa.rTopComposed


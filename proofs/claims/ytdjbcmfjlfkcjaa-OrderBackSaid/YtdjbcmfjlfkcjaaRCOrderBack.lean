/- The facts of the form of the claim narcissuslaw10.OrderBack, in a text of their own: the kernel wants much memory for them. -/
import Derived.Test.YtdjbcmfjlfkcjaaRowG
namespace Go.Proofs.Ytdjbcmfjlfkcjaa.rOrderBack
set_option maxRecDepth 100000 in
theorem closed : joinedFacts Try.pinned.checked.prog 8 Try.f8 Rows.orderBackSpec Rows.orderBackRow = true := by kernel_rfl
end Go.Proofs.Ytdjbcmfjlfkcjaa.rOrderBack


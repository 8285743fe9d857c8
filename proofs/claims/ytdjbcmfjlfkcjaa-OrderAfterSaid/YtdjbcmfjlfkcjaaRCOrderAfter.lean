/- The facts of the form of the claim narcissuslaw10.OrderAfter, in a text of their own: the kernel wants much memory for them. -/
import Derived.Test.YtdjbcmfjlfkcjaaRowG
namespace Go.Proofs.Ytdjbcmfjlfkcjaa.rOrderAfter
set_option maxRecDepth 100000 in
theorem closed : joinedFacts Try.pinned.checked.prog 9 Try.f9 Rows.orderAfterSpec Rows.orderAfterRow = true := by kernel_rfl
end Go.Proofs.Ytdjbcmfjlfkcjaa.rOrderAfter


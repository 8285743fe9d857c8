/- The facts of the form of the claim narcissuslaw10.OrderCounts, in a text of their own: the kernel wants much memory for them. -/
import Derived.Test.YtdjbcmfjlfkcjaaRowG
namespace Go.Proofs.Ytdjbcmfjlfkcjaa.rOrderCounts
set_option maxRecDepth 100000 in
theorem closed : joinedFacts Try.pinned.checked.prog 11 Try.f11 Rows.orderCountsSpec Rows.orderCountsRow = true := by kernel_rfl
end Go.Proofs.Ytdjbcmfjlfkcjaa.rOrderCounts


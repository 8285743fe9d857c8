/- The facts of the form of the claim narcissuslaw10.OrderSums, in a text of their own: the kernel wants much memory for them. -/
import Derived.Test.YtdjbcmfjlfkcjaaRowG
namespace Go.Proofs.Ytdjbcmfjlfkcjaa.rOrderSums
set_option maxRecDepth 100000 in
theorem closed : joinedFacts Try.pinned.checked.prog 12 Try.f12 Rows.orderSumsSpec Rows.orderSumsRow = true := by kernel_rfl
end Go.Proofs.Ytdjbcmfjlfkcjaa.rOrderSums


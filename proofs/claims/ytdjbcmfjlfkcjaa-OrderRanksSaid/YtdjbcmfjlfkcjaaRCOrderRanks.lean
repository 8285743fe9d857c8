/- The facts of the form of the claim narcissuslaw10.OrderRanks, in a text of their own: the kernel wants much memory for them. -/
import Derived.Test.YtdjbcmfjlfkcjaaRowG
namespace Go.Proofs.Ytdjbcmfjlfkcjaa.rOrderRanks
set_option maxRecDepth 100000 in
theorem closed : joinedFacts Try.pinned.checked.prog 5 Try.f5 Rows.orderRanksSpec Rows.orderRanksRow = true := by kernel_rfl
end Go.Proofs.Ytdjbcmfjlfkcjaa.rOrderRanks


/- The facts of the form of the claim narcissustop.TopKnow, in a text of their own: the kernel wants much memory for them. -/
import Derived.Test.YtdjbcmfjlfkcjaaRowG
namespace Go.Proofs.Ytdjbcmfjlfkcjaa.rTopKnow
set_option maxRecDepth 100000 in
theorem closed : joinedFacts Try.pinned.checked.prog 17 Try.f17 Rows.topKnowSpec Rows.topKnowRow = true := by kernel_rfl
end Go.Proofs.Ytdjbcmfjlfkcjaa.rTopKnow


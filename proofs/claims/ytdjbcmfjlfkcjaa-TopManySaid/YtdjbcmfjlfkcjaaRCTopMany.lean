/- The facts of the form of the claim narcissustop.TopMany, in a text of their own: the kernel wants much memory for them. -/
import Derived.Test.YtdjbcmfjlfkcjaaRowG
namespace Go.Proofs.Ytdjbcmfjlfkcjaa.rTopMany
set_option maxRecDepth 100000 in
theorem closed : joinedFacts Try.pinned.checked.prog 16 Try.f16 Rows.topManySpec Rows.topManyRow = true := by kernel_rfl
end Go.Proofs.Ytdjbcmfjlfkcjaa.rTopMany


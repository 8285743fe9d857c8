/- The facts of the form of the claim narcissustop.TopLooped, in a text of their own: the kernel wants much memory for them. -/
import Derived.Test.YtdjbcmfjlfkcjaaRowG
namespace Go.Proofs.Ytdjbcmfjlfkcjaa.rTopLooped
set_option maxRecDepth 100000 in
theorem closed : joinedFacts Try.pinned.checked.prog 3 Try.f3 Rows.topLoopedSpec Rows.topLoopedRow = true := by kernel_rfl
end Go.Proofs.Ytdjbcmfjlfkcjaa.rTopLooped


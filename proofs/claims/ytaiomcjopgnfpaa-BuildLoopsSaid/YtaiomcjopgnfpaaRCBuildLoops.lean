/- The facts of the form of the claim narcissuslaw04.BuildLoops, in a text of their own: the kernel wants much memory for them. -/
import Derived.Test.YtaiomcjopgnfpaaRowG
namespace Go.Proofs.Ytaiomcjopgnfpaa.rBuildLoops
set_option maxRecDepth 100000 in
theorem closed : joinedFacts Try.pinned.checked.prog 4 Try.f4 Rows.buildLoopsSpec Rows.buildLoopsRow = true := by kernel_rfl
end Go.Proofs.Ytaiomcjopgnfpaa.rBuildLoops

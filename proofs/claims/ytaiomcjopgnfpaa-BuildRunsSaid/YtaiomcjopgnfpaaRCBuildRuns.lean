/- The facts of the form of the claim narcissuslaw04.BuildRuns, in a text of their own: the kernel wants much memory for them. -/
import Derived.Test.YtaiomcjopgnfpaaRowG
namespace Go.Proofs.Ytaiomcjopgnfpaa.rBuildRuns
set_option maxRecDepth 100000 in
theorem closed : joinedFacts Try.pinned.checked.prog 6 Try.f6 Rows.buildRunsSpec Rows.buildRunsRow = true := by kernel_rfl
end Go.Proofs.Ytaiomcjopgnfpaa.rBuildRuns


/- The facts of the form of the claim narcissuslaw09.DefeatRuns, in a text of their own: the kernel wants much memory for them. -/
import Derived.Test.YtaiomcjopgnfpaaRowG
namespace Go.Proofs.Ytaiomcjopgnfpaa.rDefeatRuns
set_option maxRecDepth 100000 in
theorem closed : joinedFacts Try.pinned.checked.prog 15 Try.f15 Rows.defeatRunsSpec Rows.defeatRunsRow = true := by kernel_rfl
end Go.Proofs.Ytaiomcjopgnfpaa.rDefeatRuns


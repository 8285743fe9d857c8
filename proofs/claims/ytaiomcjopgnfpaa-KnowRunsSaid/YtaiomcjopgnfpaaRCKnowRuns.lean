/- The facts of the form of the claim narcissuslaw07.KnowRuns, in a text of their own: the kernel wants much memory for them. -/
import Derived.Test.YtaiomcjopgnfpaaRowG
namespace Go.Proofs.Ytaiomcjopgnfpaa.rKnowRuns
set_option maxRecDepth 100000 in
theorem closed : joinedFacts Try.pinned.checked.prog 9 Try.f9 Rows.knowRunsSpec Rows.knowRunsRow = true := by kernel_rfl
end Go.Proofs.Ytaiomcjopgnfpaa.rKnowRuns


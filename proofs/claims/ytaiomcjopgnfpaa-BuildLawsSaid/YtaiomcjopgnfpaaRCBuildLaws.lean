/- The facts of the form of the claim narcissuslaw04.BuildLaws, in a text of their own: the kernel wants much memory for them. -/
import Derived.Test.YtaiomcjopgnfpaaRowG
namespace Go.Proofs.Ytaiomcjopgnfpaa.rBuildLaws
set_option maxRecDepth 100000 in
theorem closed : joinedFacts Try.pinned.checked.prog 5 Try.f5 Rows.buildLawsSpec Rows.buildLawsRow = true := by kernel_rfl
end Go.Proofs.Ytaiomcjopgnfpaa.rBuildLaws


/- The facts of the form of the claim narcissuslaw04.BuildMakes, in a text of their own: the kernel wants much memory for them. -/
import Derived.Test.YtaiomcjopgnfpaaRowG
namespace Go.Proofs.Ytaiomcjopgnfpaa.rBuildMakes
set_option maxRecDepth 100000 in
theorem closed : joinedFacts Try.pinned.checked.prog 7 Try.f7 Rows.buildMakesSpec Rows.buildMakesRow = true := by kernel_rfl
end Go.Proofs.Ytaiomcjopgnfpaa.rBuildMakes

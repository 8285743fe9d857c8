/- The facts of the form of the claim narcissuslaw09.DefeatMakes, in a text of their own: the kernel wants much memory for them. -/
import Derived.Test.YtaiomcjopgnfpaaRowG
namespace Go.Proofs.Ytaiomcjopgnfpaa.rDefeatMakes
set_option maxRecDepth 100000 in
theorem closed : joinedFacts Try.pinned.checked.prog 13 Try.f13 Rows.defeatMakesSpec Rows.defeatMakesRow = true := by kernel_rfl
end Go.Proofs.Ytaiomcjopgnfpaa.rDefeatMakes


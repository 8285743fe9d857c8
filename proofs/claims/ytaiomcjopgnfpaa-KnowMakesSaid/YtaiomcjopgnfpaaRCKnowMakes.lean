/- The facts of the form of the claim narcissuslaw07.KnowMakes, in a text of their own: the kernel wants much memory for them. -/
import Derived.Test.YtaiomcjopgnfpaaRowG
namespace Go.Proofs.Ytaiomcjopgnfpaa.rKnowMakes
set_option maxRecDepth 100000 in
theorem closed : joinedFacts Try.pinned.checked.prog 8 Try.f8 Rows.knowMakesSpec Rows.knowMakesRow = true := by kernel_rfl
end Go.Proofs.Ytaiomcjopgnfpaa.rKnowMakes


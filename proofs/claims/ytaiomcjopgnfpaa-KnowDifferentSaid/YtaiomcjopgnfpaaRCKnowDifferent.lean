/- The facts of the form of the claim narcissuslaw07.KnowDifferent, in a text of their own: the kernel wants much memory for them. -/
import Derived.Test.YtaiomcjopgnfpaaRowG
namespace Go.Proofs.Ytaiomcjopgnfpaa.rKnowDifferent
set_option maxRecDepth 100000 in
theorem closed : joinedFacts Try.pinned.checked.prog 10 Try.f10 Rows.knowDifferentSpec Rows.knowDifferentRow = true := by kernel_rfl
end Go.Proofs.Ytaiomcjopgnfpaa.rKnowDifferent


/- The facts of the form of the claim narcissuslaw07.KnowItself, in a text of their own: the kernel wants much memory for them. -/
import Derived.Test.YtaiomcjopgnfpaaRowG
namespace Go.Proofs.Ytaiomcjopgnfpaa.rKnowItself
set_option maxRecDepth 100000 in
theorem closed : joinedFacts Try.pinned.checked.prog 12 Try.f12 Rows.knowItselfSpec Rows.knowItselfRow = true := by kernel_rfl
end Go.Proofs.Ytaiomcjopgnfpaa.rKnowItself


/- The facts of the form of the claim narcissuslaw07.KnowSelf, in a text of their own: the kernel wants much memory for them. -/
import Derived.Test.YtaiomcjopgnfpaaRowG
namespace Go.Proofs.Ytaiomcjopgnfpaa.rKnowSelf
set_option maxRecDepth 100000 in
theorem closed : joinedFacts Try.pinned.checked.prog 11 Try.f11 Rows.knowSelfSpec Rows.knowSelfRow = true := by kernel_rfl
end Go.Proofs.Ytaiomcjopgnfpaa.rKnowSelf


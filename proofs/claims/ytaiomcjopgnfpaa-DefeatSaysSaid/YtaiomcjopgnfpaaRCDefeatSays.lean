/- The facts of the form of the claim narcissuslaw09.DefeatSays, in a text of their own: the kernel wants much memory for them. -/
import Derived.Test.YtaiomcjopgnfpaaRowG
namespace Go.Proofs.Ytaiomcjopgnfpaa.rDefeatSays
set_option maxRecDepth 100000 in
theorem closed : joinedFacts Try.pinned.checked.prog 17 Try.f17 Rows.defeatSaysSpec Rows.defeatSaysRow = true := by kernel_rfl
end Go.Proofs.Ytaiomcjopgnfpaa.rDefeatSays


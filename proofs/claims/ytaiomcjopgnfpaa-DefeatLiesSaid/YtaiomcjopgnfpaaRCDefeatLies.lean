/- The facts of the form of the claim narcissuslaw09.DefeatLies, in a text of their own: the kernel wants much memory for them. -/
import Derived.Test.YtaiomcjopgnfpaaRowG
namespace Go.Proofs.Ytaiomcjopgnfpaa.rDefeatLies
set_option maxRecDepth 100000 in
theorem closed : joinedFacts Try.pinned.checked.prog 16 Try.f16 Rows.defeatLiesSpec Rows.defeatLiesRow = true := by kernel_rfl
end Go.Proofs.Ytaiomcjopgnfpaa.rDefeatLies


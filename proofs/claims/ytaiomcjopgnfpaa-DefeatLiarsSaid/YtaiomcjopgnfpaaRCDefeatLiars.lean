/- The facts of the form of the claim narcissuslaw09.DefeatLiars, in a text of their own: the kernel wants much memory for them. -/
import Derived.Test.YtaiomcjopgnfpaaRowG
namespace Go.Proofs.Ytaiomcjopgnfpaa.rDefeatLiars
set_option maxRecDepth 100000 in
theorem closed : joinedFacts Try.pinned.checked.prog 14 Try.f14 Rows.defeatLiarsSpec Rows.defeatLiarsRow = true := by kernel_rfl
end Go.Proofs.Ytaiomcjopgnfpaa.rDefeatLiars


/- The facts of the form of the claim narcissuslaw09.DefeatWrong, in a text of their own: the kernel wants much memory for them. -/
import Derived.Test.YtaiomcjopgnfpaaRowG
namespace Go.Proofs.Ytaiomcjopgnfpaa.rDefeatWrong
set_option maxRecDepth 100000 in
theorem closed : joinedFacts Try.pinned.checked.prog 18 Try.f18 Rows.defeatWrongSpec Rows.defeatWrongRow = true := by kernel_rfl
end Go.Proofs.Ytaiomcjopgnfpaa.rDefeatWrong


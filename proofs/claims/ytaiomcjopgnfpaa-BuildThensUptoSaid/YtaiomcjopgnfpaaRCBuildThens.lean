/- The facts of the form of the claim narcissuslaw04.BuildThens, in a text of their own: the kernel wants much memory for them. -/
import Derived.Test.YtaiomcjopgnfpaaRowG
namespace Go.Proofs.Ytaiomcjopgnfpaa.rBuildThens
set_option maxRecDepth 100000 in
theorem closed : joinedFacts Try.pinned.checked.prog 3 Try.f3 (Rows.OpenSpec.upto Rows.buildThensSpec).bare Rows.buildThensUptoRow = true := by kernel_rfl
end Go.Proofs.Ytaiomcjopgnfpaa.rBuildThens

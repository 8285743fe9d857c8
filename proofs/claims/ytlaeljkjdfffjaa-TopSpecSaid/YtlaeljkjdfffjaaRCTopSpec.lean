/- The facts of the form of the claim narcissustop.TopSpec, in a text of their own: the kernel wants much memory for them. -/
import Derived.Test.YtlaeljkjdfffjaaRowG
namespace Go.Proofs.Ytlaeljkjdfffjaa.rTopSpec
set_option maxRecDepth 100000 in
theorem closed : joinedFacts Try.pinned.checked.prog 12 Try.f12 Rows.topSpecSpec Rows.topSpecRow = true := by kernel_rfl
end Go.Proofs.Ytlaeljkjdfffjaa.rTopSpec


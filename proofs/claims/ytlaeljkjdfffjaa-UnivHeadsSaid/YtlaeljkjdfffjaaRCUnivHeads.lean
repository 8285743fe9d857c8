/- The facts of the form of the claim narcissuslaw06.UnivHeads, in a text of their own: the kernel wants much memory for them. -/
import Derived.Test.YtlaeljkjdfffjaaRowG
namespace Go.Proofs.Ytlaeljkjdfffjaa.rUnivHeads
set_option maxRecDepth 100000 in
theorem closed : joinedFacts Try.pinned.checked.prog 8 Try.f8 Rows.univHeadsSpec Rows.univHeadsRow = true := by kernel_rfl
end Go.Proofs.Ytlaeljkjdfffjaa.rUnivHeads


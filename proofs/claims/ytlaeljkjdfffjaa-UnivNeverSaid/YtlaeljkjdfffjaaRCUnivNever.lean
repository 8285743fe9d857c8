/- The facts of the form of the claim narcissuslaw06.UnivNever, in a text of their own: the kernel wants much memory for them. -/
import Derived.Test.YtlaeljkjdfffjaaRowG
namespace Go.Proofs.Ytlaeljkjdfffjaa.rUnivNever
set_option maxRecDepth 100000 in
theorem closed : joinedFacts Try.pinned.checked.prog 6 Try.f6 Rows.univNeverSpec Rows.univNeverRow = true := by kernel_rfl
end Go.Proofs.Ytlaeljkjdfffjaa.rUnivNever


/- The facts of the form of the claim narcissuslaw06.UnivItself, in a text of their own: the kernel wants much memory for them. -/
import Derived.Test.YtlaeljkjdfffjaaRowG
namespace Go.Proofs.Ytlaeljkjdfffjaa.rUnivItself
set_option maxRecDepth 100000 in
theorem closed : joinedFacts Try.pinned.checked.prog 7 Try.f7 Rows.univItselfSpec Rows.univItselfRow = true := by kernel_rfl
end Go.Proofs.Ytlaeljkjdfffjaa.rUnivItself


/- The facts of the form of the claim narcissuslaw06.UnivForms, in a text of their own: the kernel wants much memory for them. -/
import Derived.Test.YtlaeljkjdfffjaaRowG
namespace Go.Proofs.Ytlaeljkjdfffjaa.rUnivForms
set_option maxRecDepth 100000 in
theorem closed : joinedFacts Try.pinned.checked.prog 4 Try.f4 Rows.univFormsSpec Rows.univFormsRow = true := by kernel_rfl
end Go.Proofs.Ytlaeljkjdfffjaa.rUnivForms


/- The facts of the form of the claim narcissuslaw05.SpecAgain, in a text of their own: the kernel wants much memory for them. -/
import Derived.Test.YtlaeljkjdfffjaaRowG
namespace Go.Proofs.Ytlaeljkjdfffjaa.rSpecAgain
set_option maxRecDepth 100000 in
theorem closed : joinedFacts Try.pinned.checked.prog 10 Try.f10 Rows.specAgainSpec Rows.specAgainRow = true := by kernel_rfl
end Go.Proofs.Ytlaeljkjdfffjaa.rSpecAgain


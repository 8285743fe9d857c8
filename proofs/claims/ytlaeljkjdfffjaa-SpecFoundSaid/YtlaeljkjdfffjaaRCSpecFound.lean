/- The facts of the form of the claim narcissuslaw05.SpecFound, in a text of their own: the kernel wants much memory for them. -/
import Derived.Test.YtlaeljkjdfffjaaRowG
namespace Go.Proofs.Ytlaeljkjdfffjaa.rSpecFound
set_option maxRecDepth 100000 in
theorem closed : joinedFacts Try.pinned.checked.prog 11 Try.f11 Rows.specFoundSpec Rows.specFoundRow = true := by kernel_rfl
end Go.Proofs.Ytlaeljkjdfffjaa.rSpecFound


/- The facts of the form of the claim narcissuslaw05.SpecMeta, in a text of their own: the kernel wants much memory for them. -/
import Derived.Test.YtlaeljkjdfffjaaRowG
namespace Go.Proofs.Ytlaeljkjdfffjaa.rSpecMeta
set_option maxRecDepth 100000 in
theorem closed : joinedFacts Try.pinned.checked.prog 9 Try.f9 Rows.specMetaSpec Rows.specMetaRow = true := by kernel_rfl
end Go.Proofs.Ytlaeljkjdfffjaa.rSpecMeta


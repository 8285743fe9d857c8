/- The facts of the form of the claim narcissuslaw06.UnivRuns, in a text of their own: the kernel wants much memory for them. -/
import Derived.Test.YtlaeljkjdfffjaaRowG
namespace Go.Proofs.Ytlaeljkjdfffjaa.rUnivRuns
set_option maxRecDepth 100000 in
theorem closed : joinedFacts Try.pinned.checked.prog 5 Try.f5 Rows.univRunsSpec Rows.univRunsRow = true := by kernel_rfl
end Go.Proofs.Ytlaeljkjdfffjaa.rUnivRuns


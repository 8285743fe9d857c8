/- The facts of the form of the claim narcissustop.TopLiar, in a text of their own: the kernel wants much memory for them. -/
import Derived.Test.YtdjbcmfjlfkcjaaRowG
namespace Go.Proofs.Ytdjbcmfjlfkcjaa.rTopLiar
set_option maxRecDepth 100000 in
theorem closed : joinedFacts Try.pinned.checked.prog 18 Try.f18 Rows.topLiarSpec Rows.topLiarRow = true := by kernel_rfl
end Go.Proofs.Ytdjbcmfjlfkcjaa.rTopLiar


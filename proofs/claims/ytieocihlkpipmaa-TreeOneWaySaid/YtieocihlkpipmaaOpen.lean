/- The arguments of the laws, opened: what lies in memory. -/
import Derived.Test.YtieocihlkpipmaaRowG
import Derived.Test.YtieocihlkpipmaaListP
namespace Go.Proofs.Ytieocihlkpipmaa
open Go.ChangeShapes Go.WideShapes Go.ChangeAt Go.RowKit Go.WideMaps Go.WideElems

theorem bd_int {a : Int} (h : (Lit.int .i64 a).wf = true) : -9223372036854775808 ≤ a ∧ a ≤ 9223372036854775807 := by
  simpa [Lit.wf, IntKind.min, IntKind.max, IntKind.signed, IntKind.bits] using h

end Go.Proofs.Ytieocihlkpipmaa

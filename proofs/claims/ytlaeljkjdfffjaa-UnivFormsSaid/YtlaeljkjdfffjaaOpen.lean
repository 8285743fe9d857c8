/- The arguments of the laws, opened: what lies in memory. -/
import Derived.Test.YtlaeljkjdfffjaaRowG
import Derived.Test.YtlaeljkjdfffjaaMB0
import Derived.SliceStrings
namespace Go.Proofs.Ytlaeljkjdfffjaa
open Go.ChangeShapes Go.WideShapes Go.ChangeAt Go.RowKit Go.WideMaps Go.WideElems

theorem bd_int {a : Int} (h : (Lit.int .i64 a).wf = true) : -9223372036854775808 ≤ a ∧ a ≤ 9223372036854775807 := by
  simpa [Lit.wf, IntKind.min, IntKind.max, IntKind.signed, IntKind.bits] using h

section
variable {H : Type} {enc : TypeId × Value → H} {W : World} {base : Nat}
end

end Go.Proofs.Ytlaeljkjdfffjaa


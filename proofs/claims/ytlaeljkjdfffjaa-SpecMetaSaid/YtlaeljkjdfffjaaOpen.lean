/- The arguments of the laws, opened: what lies in memory. -/
import Derived.Test.YtlaeljkjdfffjaaRowG
import Derived.Test.YtlaeljkjdfffjaaMB0
import Derived.SliceStrings
namespace Go.Proofs.Ytlaeljkjdfffjaa
open Go.ChangeShapes Go.WideShapes Go.ChangeAt Go.RowKit Go.WideMaps Go.WideElems

section
variable {H : Type} {enc : TypeId × Value → H} {W : World} {base : Nat}
end

end Go.Proofs.Ytlaeljkjdfffjaa


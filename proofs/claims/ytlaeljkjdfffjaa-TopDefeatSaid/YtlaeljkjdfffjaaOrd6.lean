/- narcissuslaw10: before, awake. -/
import Derived.Test.YtlaeljkjdfffjaaOrd5
import Derived.Test.YtlaeljkjdfffjaaOrd4
import Derived.Test.YtlaeljkjdfffjaaMB2
namespace Go.Proofs.Ytlaeljkjdfffjaa
open Go.RowKit

end Go.Proofs.Ytlaeljkjdfffjaa


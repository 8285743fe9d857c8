/- order.Unrank. -/
import Derived.Test.YtlaeljkjdfffjaaOrdT
import Derived.Test.YtlaeljkjdfffjaaOrd2
import Derived.Test.YtlaeljkjdfffjaaMB0
namespace Go.Proofs.Ytlaeljkjdfffjaa
open Go.RowKit

end Go.Proofs.Ytlaeljkjdfffjaa


/- order.Count, Rank. -/
import Derived.Test.YtlaeljkjdfffjaaOrd1
import Derived.Test.YtlaeljkjdfffjaaOrdW
import Derived.Test.YtlaeljkjdfffjaaMB0
namespace Go.Proofs.Ytlaeljkjdfffjaa
open Go.RowKit

end Go.Proofs.Ytlaeljkjdfffjaa


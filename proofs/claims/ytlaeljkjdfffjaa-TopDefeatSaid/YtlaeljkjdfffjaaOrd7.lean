/- law10: OrderSums, OrderNumbers. -/
import Derived.Test.YtlaeljkjdfffjaaOrd6
import Derived.Test.YtlaeljkjdfffjaaMB0
import Derived.Test.YtlaeljkjdfffjaaLaw01b
namespace Go.Proofs.Ytlaeljkjdfffjaa
open Go.RowKit

end Go.Proofs.Ytlaeljkjdfffjaa


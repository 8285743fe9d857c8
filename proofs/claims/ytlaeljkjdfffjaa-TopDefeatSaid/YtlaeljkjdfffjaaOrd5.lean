/- order.Programs. -/
import Derived.Test.YtlaeljkjdfffjaaDec5
import Derived.Test.YtlaeljkjdfffjaaOrdT
import Derived.Test.YtlaeljkjdfffjaaOrd3
import Derived.Test.YtlaeljkjdfffjaaMB3
namespace Go.Proofs.Ytlaeljkjdfffjaa
open Go.RowKit

end Go.Proofs.Ytlaeljkjdfffjaa


/- law07's Coded and Follows. -/
import Derived.Test.YtlaeljkjdfffjaaMB4
import Derived.Test.YtlaeljkjdfffjaaMB1
import Derived.Test.YtlaeljkjdfffjaaEqual
namespace Go.Proofs.Ytlaeljkjdfffjaa
open Go.RowKit

end Go.Proofs.Ytlaeljkjdfffjaa


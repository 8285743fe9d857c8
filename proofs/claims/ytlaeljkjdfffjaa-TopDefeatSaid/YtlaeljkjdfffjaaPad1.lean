/- copy of instructions; order.Pad, narcissusref10.Pad. -/
import Derived.Laws.CopyRow
import Derived.Test.YtlaeljkjdfffjaaMB2
import Derived.Test.YtlaeljkjdfffjaaMB3
import Derived.Test.YtlaeljkjdfffjaaMB1
namespace Go.Proofs.Ytlaeljkjdfffjaa
open Go.RowKit

end Go.Proofs.Ytlaeljkjdfffjaa


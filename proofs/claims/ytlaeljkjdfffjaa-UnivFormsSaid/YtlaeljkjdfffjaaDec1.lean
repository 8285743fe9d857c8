/- code.value, code.pair: on a tree, or on no tree. -/
import Derived.Test.YtlaeljkjdfffjaaDecP
import Derived.Test.YtlaeljkjdfffjaaMB0
import Derived.Test.YtlaeljkjdfffjaaMB2
namespace Go.Proofs.Ytlaeljkjdfffjaa
open Go.RowKit

end Go.Proofs.Ytlaeljkjdfffjaa


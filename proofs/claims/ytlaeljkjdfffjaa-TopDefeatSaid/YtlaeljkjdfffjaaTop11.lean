/- narcissustop: pads, TopMany. -/
import Derived.Test.YtlaeljkjdfffjaaTop8
import Derived.Test.YtlaeljkjdfffjaaPadF
import Derived.Test.YtlaeljkjdfffjaaOrd8
import Derived.Test.YtlaeljkjdfffjaaOrd4
import Derived.Test.YtlaeljkjdfffjaaOrd3
import Derived.Test.YtlaeljkjdfffjaaOrd5
namespace Go.Proofs.Ytlaeljkjdfffjaa
open Go.RowKit

end Go.Proofs.Ytlaeljkjdfffjaa


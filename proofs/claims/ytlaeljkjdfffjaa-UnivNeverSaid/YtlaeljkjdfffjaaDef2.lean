/- defeat: Defeat, Liar. -/
import Derived.Test.YtlaeljkjdfffjaaDef1
import Derived.Test.YtlaeljkjdfffjaaMB4
namespace Go.Proofs.Ytlaeljkjdfffjaa
open Go.RowKit

end Go.Proofs.Ytlaeljkjdfffjaa


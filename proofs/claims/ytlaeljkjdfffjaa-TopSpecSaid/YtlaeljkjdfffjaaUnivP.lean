/- Plain: the universal program as a list; its straight parts and its counting loops. -/
import Derived.Test.YtlaeljkjdfffjaaMB4
namespace Go.Proofs.Ytlaeljkjdfffjaa
open Go.RowKit

end Go.Proofs.Ytlaeljkjdfffjaa


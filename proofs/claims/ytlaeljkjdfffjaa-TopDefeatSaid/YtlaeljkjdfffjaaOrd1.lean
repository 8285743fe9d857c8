/- order.counted. -/
import Derived.Test.YtlaeljkjdfffjaaOrdP
namespace Go.Proofs.Ytlaeljkjdfffjaa
open Go.RowKit

end Go.Proofs.Ytlaeljkjdfffjaa


/- order.least, Next. -/
import Derived.Test.YtlaeljkjdfffjaaOrdW
namespace Go.Proofs.Ytlaeljkjdfffjaa
open Go.RowKit

end Go.Proofs.Ytlaeljkjdfffjaa


/- law10: OrderNumbers, OrderAfter. -/
import Derived.Test.YtlaeljkjdfffjaaOrd7
namespace Go.Proofs.Ytlaeljkjdfffjaa
open Go.RowKit

end Go.Proofs.Ytlaeljkjdfffjaa


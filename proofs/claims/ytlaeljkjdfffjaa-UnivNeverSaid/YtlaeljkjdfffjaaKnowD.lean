/- law07: KnowDifferent. -/
import Derived.Test.YtlaeljkjdfffjaaMB4
namespace Go.Proofs.Ytlaeljkjdfffjaa
open Go.RowKit

end Go.Proofs.Ytlaeljkjdfffjaa


/- The walk of run.Step. -/
import Derived.Test.YtlaeljkjdfffjaaMB2
import Derived.Test.YtlaeljkjdfffjaaMB0
namespace Go.Proofs.Ytlaeljkjdfffjaa
open Go.RowKit

end Go.Proofs.Ytlaeljkjdfffjaa


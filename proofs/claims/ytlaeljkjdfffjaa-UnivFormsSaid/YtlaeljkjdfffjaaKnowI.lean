/- law07: KnowItself, KnowRuns. -/
import Derived.Test.YtlaeljkjdfffjaaFollow7
import Derived.Test.YtlaeljkjdfffjaaKnowD
namespace Go.Proofs.Ytlaeljkjdfffjaa
open Go.RowKit

end Go.Proofs.Ytlaeljkjdfffjaa


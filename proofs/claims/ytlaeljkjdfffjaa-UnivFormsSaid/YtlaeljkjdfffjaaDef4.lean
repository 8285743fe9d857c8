/- law09: set, awake, little. -/
import Derived.Test.YtlaeljkjdfffjaaDef3
import Derived.Test.YtlaeljkjdfffjaaKnowI
namespace Go.Proofs.Ytlaeljkjdfffjaa
open Go.RowKit

end Go.Proofs.Ytlaeljkjdfffjaa


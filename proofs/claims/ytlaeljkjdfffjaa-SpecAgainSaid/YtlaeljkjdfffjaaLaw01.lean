/- The walks of narcissuslaw01: awake and TreeConses. -/
import Derived.Test.YtlaeljkjdfffjaaItems
import Derived.Test.YtlaeljkjdfffjaaMB0
namespace Go.Proofs.Ytlaeljkjdfffjaa
open Go.RowKit

end Go.Proofs.Ytlaeljkjdfffjaa


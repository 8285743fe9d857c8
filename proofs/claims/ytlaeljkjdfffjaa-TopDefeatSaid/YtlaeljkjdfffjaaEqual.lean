/- ref01.Equal of two trees that are equal. -/
import Derived.Test.YtlaeljkjdfffjaaMB0
import Derived.LaidEqlPtr
namespace Go.Proofs.Ytlaeljkjdfffjaa
open Go.RowKit

end Go.Proofs.Ytlaeljkjdfffjaa


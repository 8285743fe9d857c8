/- code.fields: its readers; the instruction that they read. -/
import Derived.Test.YtlaeljkjdfffjaaDec3
import Derived.Test.YtlaeljkjdfffjaaMB2
namespace Go.Proofs.Ytlaeljkjdfffjaa
open Go.RowKit

end Go.Proofs.Ytlaeljkjdfffjaa


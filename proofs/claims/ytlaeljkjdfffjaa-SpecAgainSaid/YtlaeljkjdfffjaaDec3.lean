/- code.fields: how the fields of a jump are read. -/
import Derived.Test.YtlaeljkjdfffjaaDec2
namespace Go.Proofs.Ytlaeljkjdfffjaa
open Go.RowKit

end Go.Proofs.Ytlaeljkjdfffjaa


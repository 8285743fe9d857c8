/- Plain: the loops and paths of the universal program, however large. -/
import Derived.Test.YtlaeljkjdfffjaaRunsX
namespace Go.Proofs.Ytlaeljkjdfffjaa
open Go.RowKit

end Go.Proofs.Ytlaeljkjdfffjaa


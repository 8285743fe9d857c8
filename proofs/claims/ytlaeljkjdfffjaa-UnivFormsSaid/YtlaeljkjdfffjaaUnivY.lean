/- Plain: the universal program runs a program, however large. -/
import Derived.Test.YtlaeljkjdfffjaaUnivX
namespace Go.Proofs.Ytlaeljkjdfffjaa
open Go.RowKit

end Go.Proofs.Ytlaeljkjdfffjaa


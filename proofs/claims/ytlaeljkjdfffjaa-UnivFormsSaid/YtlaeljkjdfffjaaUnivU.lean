/- Plain: the universal program runs a program, where nothing is too large. -/
import Derived.Test.YtlaeljkjdfffjaaUnivT
namespace Go.Proofs.Ytlaeljkjdfffjaa
open Go.RowKit

end Go.Proofs.Ytlaeljkjdfffjaa


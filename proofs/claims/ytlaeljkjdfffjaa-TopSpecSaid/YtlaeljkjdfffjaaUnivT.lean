/- Plain: one step of a program, done by the universal program. -/
import Derived.Test.YtlaeljkjdfffjaaUnivS
namespace Go.Proofs.Ytlaeljkjdfffjaa
open Go.RowKit

end Go.Proofs.Ytlaeljkjdfffjaa


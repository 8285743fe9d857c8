/- Plain: the program that makes the code of Spec. -/
import Derived.Test.YtlaeljkjdfffjaaRunsX
namespace Go.Proofs.Ytlaeljkjdfffjaa
open Go.RowKit

end Go.Proofs.Ytlaeljkjdfffjaa


/- Plain: the loops of the universal program that make pairs; its straight parts, one path for each operation. -/
import Derived.Test.YtlaeljkjdfffjaaUnivP
namespace Go.Proofs.Ytlaeljkjdfffjaa
open Go.RowKit

end Go.Proofs.Ytlaeljkjdfffjaa


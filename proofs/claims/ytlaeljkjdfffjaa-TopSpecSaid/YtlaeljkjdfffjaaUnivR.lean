/- Plain: the paths of the universal program through one step. -/
import Derived.Test.YtlaeljkjdfffjaaUnivQ
namespace Go.Proofs.Ytlaeljkjdfffjaa
open Go.RowKit

end Go.Proofs.Ytlaeljkjdfffjaa


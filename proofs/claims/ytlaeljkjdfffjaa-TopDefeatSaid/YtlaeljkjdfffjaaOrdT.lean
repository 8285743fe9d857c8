/- Trees by their rank, and the programs among them, in plain words. -/
import Derived.Test.YtlaeljkjdfffjaaOrdW
import Derived.Test.YtlaeljkjdfffjaaDecP
import Derived.Test.YtlaeljkjdfffjaaOrd2
namespace Go.Proofs.Ytlaeljkjdfffjaa
open Go.RowKit

end Go.Proofs.Ytlaeljkjdfffjaa


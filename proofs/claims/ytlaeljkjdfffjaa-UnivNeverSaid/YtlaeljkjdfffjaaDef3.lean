/- ref09: Defeat, Liar. -/
import Derived.Test.YtlaeljkjdfffjaaDef2
namespace Go.Proofs.Ytlaeljkjdfffjaa
open Go.RowKit

end Go.Proofs.Ytlaeljkjdfffjaa


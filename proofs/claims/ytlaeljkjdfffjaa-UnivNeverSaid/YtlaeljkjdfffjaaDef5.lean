/- law09: DefeatMakes, DefeatLiars. -/
import Derived.Test.YtlaeljkjdfffjaaDef4
namespace Go.Proofs.Ytlaeljkjdfffjaa
open Go.RowKit

end Go.Proofs.Ytlaeljkjdfffjaa


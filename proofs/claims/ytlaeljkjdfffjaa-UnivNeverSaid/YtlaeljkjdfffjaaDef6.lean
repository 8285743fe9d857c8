/- law09: little; defeat.Says. -/
import Derived.Test.YtlaeljkjdfffjaaDef4
namespace Go.Proofs.Ytlaeljkjdfffjaa
open Go.RowKit

end Go.Proofs.Ytlaeljkjdfffjaa


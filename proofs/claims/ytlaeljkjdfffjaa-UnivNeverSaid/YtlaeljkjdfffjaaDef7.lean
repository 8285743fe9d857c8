/- law09: DefeatRuns, DefeatLies. -/
import Derived.Test.YtlaeljkjdfffjaaDef5
import Derived.Test.YtlaeljkjdfffjaaDef6
namespace Go.Proofs.Ytlaeljkjdfffjaa
open Go.RowKit

end Go.Proofs.Ytlaeljkjdfffjaa


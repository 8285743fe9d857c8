/- law09: DefeatWrong. -/
import Derived.Test.YtlaeljkjdfffjaaDef9
namespace Go.Proofs.Ytlaeljkjdfffjaa
open Go.RowKit

end Go.Proofs.Ytlaeljkjdfffjaa


/- law09: DefeatSays, DefeatWrong. -/
import Derived.Test.YtlaeljkjdfffjaaDef7
namespace Go.Proofs.Ytlaeljkjdfffjaa
open Go.RowKit

end Go.Proofs.Ytlaeljkjdfffjaa


/- ref05: List. -/
import Derived.Test.YtlaeljkjdfffjaaMeta2
import Derived.Test.YtlaeljkjdfffjaaMB3
import Derived.Test.YtlaeljkjdfffjaaMB4
namespace Go.Proofs.Ytlaeljkjdfffjaa
open Go.RowKit

end Go.Proofs.Ytlaeljkjdfffjaa


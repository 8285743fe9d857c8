/- law05: meta, and ref05.List. -/
import Derived.Test.YtlaeljkjdfffjaaMeta1
import Derived.Test.YtlaeljkjdfffjaaFollow7
import Derived.Test.YtlaeljkjdfffjaaDef10
import Derived.Test.YtlaeljkjdfffjaaKnowI
namespace Go.Proofs.Ytlaeljkjdfffjaa
open Go.RowKit

end Go.Proofs.Ytlaeljkjdfffjaa


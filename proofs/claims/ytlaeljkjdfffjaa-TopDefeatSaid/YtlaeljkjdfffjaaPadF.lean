/- Plain: what a padded program does. -/
import Derived.Test.YtlaeljkjdfffjaaPad1
import Derived.Test.YtlaeljkjdfffjaaMB4
namespace Go.Proofs.Ytlaeljkjdfffjaa
open Go.RowKit

end Go.Proofs.Ytlaeljkjdfffjaa


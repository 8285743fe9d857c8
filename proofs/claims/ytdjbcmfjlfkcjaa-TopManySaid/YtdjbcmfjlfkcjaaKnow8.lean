/- law07: spoil. -/
import Derived.Test.YtdjbcmfjlfkcjaaKnow7
namespace Go.Proofs.Ytdjbcmfjlfkcjaa
open Go.RowKit

end Go.Proofs.Ytdjbcmfjlfkcjaa


/- ref07: Behind. -/
import Derived.Test.YtdjbcmfjlfkcjaaRCode2
namespace Go.Proofs.Ytdjbcmfjlfkcjaa
open Go.RowKit

end Go.Proofs.Ytdjbcmfjlfkcjaa


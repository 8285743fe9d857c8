/- law04: BuildMakes, where the string is no tree; the law. -/
import Derived.Test.YtdjbcmfjlfkcjaaLaw04b
namespace Go.Proofs.Ytdjbcmfjlfkcjaa
open Go.RowKit

end Go.Proofs.Ytdjbcmfjlfkcjaa


/- ref02's Text, at small numbers. -/
import Derived.Test.YtdjbcmfjlfkcjaaTextO4
namespace Go.Proofs.Ytdjbcmfjlfkcjaa
open Go.RowKit


def txL : List (List UInt8) := [[109, 111, 118, 101, 32, 49, 32, 48], [109, 111, 118, 101, 32, 50, 32, 48], [109, 111, 118, 101, 32, 48, 32, 49], [99, 111, 110, 115, 32, 48, 32, 50, 32, 48]]
end Go.Proofs.Ytdjbcmfjlfkcjaa


/- The walks of narcissusref03.Text and Read. -/
import Derived.Test.YtaiomcjopgnfpaaRef3L
import Derived.Test.YtaiomcjopgnfpaaRunU
namespace Go.Proofs.Ytaiomcjopgnfpaa
open Go.RowKit

end Go.Proofs.Ytaiomcjopgnfpaa

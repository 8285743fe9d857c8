/- The walk of narcissusref03.Fits. -/
import Derived.Test.YtaiomcjopgnfpaaRef3E
namespace Go.Proofs.Ytaiomcjopgnfpaa
open Go.RowKit

/-- A state that is one of a program of some length. -/
def fitsB (n : Int) (len : Nat) (l : List ByteArray) : Bool := decide (0 ≤ n) && decide (n ≤ len) && decide (l.length = 32) && l.all isTree

end Go.Proofs.Ytaiomcjopgnfpaa

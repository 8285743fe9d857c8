/- The walks of the laws of narcissuslaw01. -/
import Derived.Test.YtlaeljkjdfffjaaLaw01
namespace Go.Proofs.Ytlaeljkjdfffjaa
open Go.RowKit

end Go.Proofs.Ytlaeljkjdfffjaa


/- The walk of narcissuslaw03.copied. And append of another slice's elements, as a step of a region that draws. -/
import Derived.Test.YtlaeljkjdfffjaaMB2
namespace Go.Proofs.Ytlaeljkjdfffjaa
open Go.RowKit

end Go.Proofs.Ytlaeljkjdfffjaa


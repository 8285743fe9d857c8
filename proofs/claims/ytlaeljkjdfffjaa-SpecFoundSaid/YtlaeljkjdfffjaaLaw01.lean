/- The walks of narcissuslaw01: awake and TreeConses. -/
import Derived.Test.YtlaeljkjdfffjaaItems
import Derived.Test.YtlaeljkjdfffjaaMB0
namespace Go.Proofs.Ytlaeljkjdfffjaa
open Go.RowKit

def t3 : Tr := .pair (.pair .nil .nil) (.pair .nil .nil)
end Go.Proofs.Ytlaeljkjdfffjaa


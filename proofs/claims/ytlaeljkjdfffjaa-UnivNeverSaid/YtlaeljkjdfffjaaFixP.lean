/- Plain: the program that agrees with what a program makes of its code. -/
import Derived.Test.YtlaeljkjdfffjaaMB4
import Derived.Test.YtlaeljkjdfffjaaUnivP
import Derived.Test.YtlaeljkjdfffjaaKnowFit
namespace Go.Proofs.Ytlaeljkjdfffjaa
open Go.RowKit

theorem univ_valid : validB univL = true := by decide +kernel
end Go.Proofs.Ytlaeljkjdfffjaa


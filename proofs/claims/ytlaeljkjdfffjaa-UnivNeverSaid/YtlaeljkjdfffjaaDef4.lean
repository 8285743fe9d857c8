/- law09: set, awake, little. -/
import Derived.Test.YtlaeljkjdfffjaaDef3
import Derived.Test.YtlaeljkjdfffjaaKnowI
namespace Go.Proofs.Ytlaeljkjdfffjaa
open Go.RowKit

def z1 : ByteArray := ⟨#[48]⟩
def z2 : ByteArray := ⟨#[49, 48, 48]⟩
end Go.Proofs.Ytlaeljkjdfffjaa


/- Plain: the program that makes the code of Spec. -/
import Derived.Test.YtlaeljkjdfffjaaRunsX
namespace Go.Proofs.Ytlaeljkjdfffjaa
open Go.RowKit

def hd3 (a b : Nat) : Ins := ⟨3, a, b, 0, ⟨#[]⟩⟩
def tl4 (a b : Nat) : Ins := ⟨4, a, b, 0, ⟨#[]⟩⟩
def clearC : ByteArray := ⟨#[49, 49, 48, 49, 49, 48, 48, 48, 48]⟩
def putC : ByteArray := ⟨#[49, 49, 49, 48, 49, 48, 48, 49, 48, 49, 49, 48, 48, 48, 48]⟩
def metaL : List Ins := [tl4 1 0, hd3 2 0, setI 3 clearC, hd3 3 3, consI 2 3 2, setI 3 putC, hd3 3 3, consI 2 3 2, setI 3 ⟨#[49, 48, 48]⟩, consI 1 3 1, setI 3 ⟨#[48]⟩, consI 1 3 1, consI 0 1 2]
theorem meta_valid : validB metaL = true := by decide +kernel
end Go.Proofs.Ytlaeljkjdfffjaa


/- law09: set, awake, little. -/
import Derived.Test.YtlaeljkjdfffjaaDef3
import Derived.Test.YtlaeljkjdfffjaaKnowI
namespace Go.Proofs.Ytlaeljkjdfffjaa
open Go.RowKit

def z2 : ByteArray := ⟨#[49, 48, 48]⟩
theorem node_nil {T : Nat} {w : World} {q : Option Addr} (h : NodeP T w .nil (.pointer q)) : q = none := by
  have h1 : Value.pointer q = .pointer none := h
  injection h1
end Go.Proofs.Ytlaeljkjdfffjaa


/- code.value, code.pair: on a tree, or on no tree. -/
import Derived.Test.YtlaeljkjdfffjaaDecP
import Derived.Test.YtlaeljkjdfffjaaMB0
import Derived.Test.YtlaeljkjdfffjaaMB2
namespace Go.Proofs.Ytlaeljkjdfffjaa
open Go.RowKit

def pH : Option Tr → Option Tr | some (.pair a _) => some a | _ => none
def pT : Option Tr → Option Tr | some (.pair _ b) => some b | _ => none
def SmallO (o : Option Tr) : Prop := ∀ t, o = some t → t.size ≤ 2000000
theorem SmallO.hd {o : Option Tr} (h : SmallO o) : SmallO (pH o) := by
  intro t ht
  match o, ht with
  | some (.pair a b), ht =>
    injection ht with ht
    subst ht
    have := h _ rfl
    simp only [Tr.size] at this
    omega
theorem SmallO.tl {o : Option Tr} (h : SmallO o) : SmallO (pT o) := by
  intro t ht
  match o, ht with
  | some (.pair a b), ht =>
    injection ht with ht
    subst ht
    have := h _ rfl
    simp only [Tr.size] at this
    omega
end Go.Proofs.Ytlaeljkjdfffjaa


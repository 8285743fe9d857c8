/- What a tree is the code of, in plain words. -/
import Derived.Test.YtlaeljkjdfffjaaMB3
namespace Go.Proofs.Ytlaeljkjdfffjaa
open Go.RowKit

/-- The instruction of an operation, a register and the rest. -/
def decB (n q : Nat) (r : Tr) : Option Ins :=
  match n with
  | 0 => some ⟨0, q, 0, 0, TS r⟩
  | 1 => if r.isNum then some ⟨1, q, r.pairs, 0, ⟨#[]⟩⟩ else none
  | 2 => match r with
    | .pair b c => if b.isNum && c.isNum then some ⟨2, q, b.pairs, c.pairs, ⟨#[]⟩⟩ else none
    | .nil => none
  | 3 => if r.isNum then some ⟨3, q, r.pairs, 0, ⟨#[]⟩⟩ else none
  | 4 => if r.isNum then some ⟨4, q, r.pairs, 0, ⟨#[]⟩⟩ else none
  | 5 => match r with
    | .pair .nil b => if b.isNum then some ⟨5, q, b.pairs, 0, ⟨#[]⟩⟩ else none
    | .pair (.pair .nil .nil) b => if b.isNum && decide (0 < b.pairs) then some ⟨5, q, -(b.pairs : Int), 0, ⟨#[]⟩⟩ else none
    | _ => none
  | _ => none
/-- The instruction that a tree is the code of. -/
def decI : Tr → Option Ins
  | .pair o (.pair a r) => if o.isNum && a.isNum then decB o.pairs a.pairs r else none
  | _ => none
/-- The instructions of a list of codes. -/
def decL : Tr → Option (List Ins)
  | .nil => some []
  | .pair u t => match decI u, decL t with
    | some x, some l => some (x :: l)
    | _, _ => none
/-- The valid program with a code. -/
def decT (t : Tr) : Option (List Ins) := match decL t with
  | some l => if validB l then some l else none
  | none => none
end Go.Proofs.Ytlaeljkjdfffjaa


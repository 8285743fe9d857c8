/- code.fields: how the fields of an instruction are read. -/
import Derived.Test.YtlaeljkjdfffjaaDec1
import Derived.Test.YtlaeljkjdfffjaaMB2
import Derived.Test.YtlaeljkjdfffjaaLaw03f
namespace Go.Proofs.Ytlaeljkjdfffjaa
open Go.RowKit

/-- The box of an instruction holds these cells; all else is kept. -/
structure Boxed (A B : World) (g : Nat) (cs : Array Value) : Prop where
  box : B.heap[g]? = some (.cells cs 41 (0, 0))
  size : A.heap.size ≤ B.heap.size
  rest : ∀ k, k < A.heap.size → k ≠ g → B.heap[k]? = A.heap[k]?
  os : B.os = A.os
  tape : B.tape = A.tape
  output : B.output = A.output
theorem Boxed.of {A B : World} {g : Nat} {cs : Array Value} (hb : Below A.heap.size A B) (h : A.heap[g]? = some (.cells cs 41 (0, 0))) : Boxed A B g cs :=
  ⟨blk_lift hb h, hb.size, fun k hk _ => hb.block k hk, hb.os, hb.tape, hb.output⟩
theorem Boxed.set {A B : World} {g : Nat} {cs : Array Value} (h : Boxed A B g cs) (i : Nat) (v : Value) : Boxed A (B.setCell ⟨g, i, none⟩ v) g (cs.setIfInBounds i v) := by
  refine ⟨heap_setCell_same _ _ _ _ _ _ h.box, ?_, fun k hk hne => ?_, h.os, h.tape, h.output⟩
  · simp [World.setCell]; exact h.size
  · rw [Below.heap_setCell _ _ _ _ hne]; exact h.rest k hk hne
theorem Boxed.drew {A B : World} {g : Nat} {cs : Array Value} (h : Boxed A B g cs) : Boxed A B.drew g cs := ⟨h.box, h.size, h.rest, h.os, h.tape, h.output⟩

end Go.Proofs.Ytlaeljkjdfffjaa


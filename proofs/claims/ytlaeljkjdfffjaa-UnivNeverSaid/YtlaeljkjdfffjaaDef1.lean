/- law09: Small of several programs; a closure that appends; spoil. -/
import Derived.Test.YtlaeljkjdfffjaaMB4
namespace Go.Proofs.Ytlaeljkjdfffjaa
open Go.RowKit

/-- A program in a variable that a closure captures. -/
def BoxQ (w : World) (b : Nat) (l : List Ins) : Prop := ∃ v, w.heap[b]? = some (.cells #[v] 23 (0, 0)) ∧ OwnI w (b + 1) v l
theorem BoxQ.lt {w : World} {b : Nat} {l : List Ins} (h : BoxQ w b l) : b < w.heap.size := by obtain ⟨v, h1, _⟩ := h; exact lt_of_block h1
theorem BoxQ.below {w w' : World} {b : Nat} {l : List Ins} (h : BoxQ w b l) (hb : Below w.heap.size w w') : BoxQ w' b l := by
  have hl := h.lt
  obtain ⟨v, h1, h2⟩ := h
  exact ⟨v, (hb.block b hl).trans h1, h2.below hb⟩
theorem BoxQ.new (w : World) : BoxQ (w.alloc (.cells #[.slice none 0 0] 23)) w.heap.size [] := ⟨_, heap_alloc_new _ _, OwnI.nil _ _⟩
end Go.Proofs.Ytlaeljkjdfffjaa


/- law07: KnowItself, KnowRuns. -/
import Derived.Test.YtlaeljkjdfffjaaFollow7
import Derived.Test.YtlaeljkjdfffjaaKnowD
namespace Go.Proofs.Ytlaeljkjdfffjaa
open Go.RowKit

theorem str_tree (x : ByteArray) (h : isTree x = true) : TS (toTr x) = x ∧ (toTr x).size ≤ 2000000 := by obtain ⟨t, rfl, ht⟩ := isTree_get h; rw [toTr_TS t ht]; exact ⟨rfl, ht⟩
theorem read_str (x : ByteArray) (h : isTree x = true) (w : World) :
    Calls Try.prog 33 #[.string x] w fun e w' => ∃ p, e = .returned (.pointer p) ∧ NodeP 58 w' (toTr x) (.pointer p) ∧ Below w.heap.size w w' := by
  have h1 := str_tree x h
  have := read_ok (toTr x) h1.2 w
  rw [h1.1] at this
  exact this
end Go.Proofs.Ytlaeljkjdfffjaa


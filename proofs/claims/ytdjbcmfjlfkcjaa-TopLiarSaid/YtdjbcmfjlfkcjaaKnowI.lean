/- law07: KnowItself, KnowRuns. -/
import Derived.Test.YtdjbcmfjlfkcjaaFollow7
import Derived.Test.YtdjbcmfjlfkcjaaKnowD
namespace Go.Proofs.Ytdjbcmfjlfkcjaa
open Go.RowKit

theorem str_tree (x : ByteArray) (h : isTree x = true) : TS (toTr x) = x ∧ (toTr x).size ≤ 2000000 := by obtain ⟨t, rfl, ht⟩ := isTree_get h; rw [toTr_TS t ht]; exact ⟨rfl, ht⟩
theorem read_str (x : ByteArray) (h : isTree x = true) (w : World) :
    Calls Try.prog 59 #[.string x] w fun e w' => ∃ p, e = .returned (.pointer p) ∧ NodeP 163 w' (toTr x) (.pointer p) ∧ Below w.heap.size w w' := by
  have h1 := str_tree x h
  have := read_ok (toTr x) h1.2 w
  rw [h1.1] at this
  exact this
theorem selfN : codeN (knowL [headI]) ≤ 10000 := by decide +kernel
end Go.Proofs.Ytdjbcmfjlfkcjaa


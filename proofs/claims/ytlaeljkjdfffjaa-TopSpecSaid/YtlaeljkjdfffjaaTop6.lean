/- narcissustop: limits of programs that are put together; composes. -/
import Derived.Test.YtlaeljkjdfffjaaMB4
namespace Go.Proofs.Ytlaeljkjdfffjaa
open Go.RowKit

theorem tgrow_yes {s : ByteArray} {most : Nat} (hs : s.size ≤ 140737488355328) (hm : most ≤ 2000000) (h : growB s most = true) (w : World) : Calls Try.prog 16 #[.string s, .int .i64 most] w fun e w' => ∃ p, e = .returned (.tuple #[.pointer p, .bool true]) ∧ NodeP 102 w' (toTr s) (.pointer p) ∧ Below w.heap.size w w' := by
  refine (tgrow_any s hs most hm w).mono ?_
  rintro e w' ⟨p, h1, h2, h3, h4⟩
  rw [h] at h1
  exact ⟨p, h1, h2 h, h4⟩
theorem growB_tree {s : ByteArray} {most : Nat} (h : growB s most = true) : isTree s = true ∧ s.size ≤ most := by unfold growB at h; simpa using h
theorem growB_size {s : ByteArray} {most : Nat} (h : growB s most = true) : (toTr s).size = s.size := by
  obtain ⟨t, rfl, ht⟩ := isTree_get (growB_tree h).1
  rw [toTr_TS t ht, TS_size]
end Go.Proofs.Ytlaeljkjdfffjaa


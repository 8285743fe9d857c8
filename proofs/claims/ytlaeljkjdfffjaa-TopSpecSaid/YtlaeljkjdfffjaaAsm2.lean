/- asm: Here, Jump, New. -/
import Derived.Test.YtlaeljkjdfffjaaAsm1
namespace Go.Proofs.Ytlaeljkjdfffjaa
open Go.RowKit Go.Maps

theorem anew_any (w : World) : Calls Try.prog 62 #[] w fun e w' => ∃ ba b1 b2, e = .returned (.pointer (some ⟨ba, 0, none⟩)) ∧ AsmW w' w.heap.size ba b1 b2 AsmG.new ∧ Below w.heap.size w w' := by
  have hmm := @run_makeMap Try.prog
  go_enter Try.func62, Try.ntmps62
  go_wp2
  go_ret
  have e1 : (w.alloc (.map #[] 0)).heap.size = w.heap.size + 1 := by simp
  have e2 : ((w.alloc (.map #[] 0)).alloc (.map #[] 0)).heap.size = w.heap.size + 1 + 1 := by simp
  refine ⟨w.heap.size + 1 + 1, w.heap.size, w.heap.size + 1, rfl, ⟨⟨_, ?_, OwnI.nil _ _⟩, ?_, ?_, by omega⟩, ?_⟩
  · have h := heap_alloc_new ((w.alloc (.map #[] 0)).alloc (.map #[] 0)) (.cells #[.map (some w.heap.size), .map (some (w.heap.size + 1)), .slice none 0 0] 158)
    rw [e2] at h
    exact h
  · exact ((World.ownsMap_made w Try.prog 9 _).alloc _).alloc _
  · have h := (World.ownsMap_made (H := Unit) (w.alloc (.map #[] 0)) Try.prog 3 (plainElem Try.prog 9)).alloc (.cells #[.map (some w.heap.size), .map (some (w.heap.size + 1)), .slice none 0 0] 158)
    rw [e1] at h
    exact h
  · exact (((Below.refl _ _).alloc (Nat.le_refl _) _).alloc (by omega) _).alloc (by omega) _

end Go.Proofs.Ytlaeljkjdfffjaa


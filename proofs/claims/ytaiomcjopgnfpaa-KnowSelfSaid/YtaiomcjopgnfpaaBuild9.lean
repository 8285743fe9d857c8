/- law04's tail. -/
import Derived.Test.YtaiomcjopgnfpaaBuild8
namespace Go.Proofs.Ytaiomcjopgnfpaa
open Go.RowKit

def tailI : Ins := ⟨4, 0, 0, 0, ⟨#[]⟩⟩
theorem tailI_wf : tailI.wf := wf_lit _ _ _ _ _ (by unfold i64; decide) (by unfold i64; decide) (by unfold i64; decide) (by unfold i64; decide) (by decide)
theorem tail4_any (w : World) : Calls Try.prog 75 #[] w fun e w' => ∃ a c, e = .returned (.slice a 1 c) ∧ InsRow w' w'.heap.size (.slice a 1 c) [tailI] ∧ Below w.heap.size w w' := by
  have hrow := (OwnI.lit w [tailI] (by simp; exact tailI_wf) (by simp)).row (by simp)
  go_enter Try.func75, Try.ntmps75
  go_wp2
  go_ret
  exact ⟨_, _, rfl, hrow, (Below.refl _ _).alloc (Nat.le_refl _) _⟩

end Go.Proofs.Ytaiomcjopgnfpaa


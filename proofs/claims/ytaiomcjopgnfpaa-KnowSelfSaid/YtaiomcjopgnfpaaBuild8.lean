/- The reference's Fits of layer 4. -/
import Derived.Test.YtaiomcjopgnfpaaBuild7
import Derived.Test.YtaiomcjopgnfpaaBuild6
import Derived.Test.YtaiomcjopgnfpaaSegP
namespace Go.Proofs.Ytaiomcjopgnfpaa
open Go.RowKit

theorem fits4_ok (v : Value) (l : List Ins) (w : World) (hl : InsRow w w.heap.size v l) :
    Calls Try.prog 74 #[v] w fun e w' => e = .returned (.bool (fitsP l)) ∧ Below w.heap.size w w' := by
  have kt := trees_any v l w _ hl
  obtain ⟨a, c, rfl⟩ := hl.len
  obtain ⟨n, hn⟩ : ∃ n, l.length = n := ⟨_, rfl⟩
  obtain ⟨t, ht⟩ : ∃ t, trees l = t := ⟨_, rfl⟩
  unfold fitsP
  rw [hn, ht]
  rw [hn, ht] at kt
  clear hn ht hl
  by_cases h1 : n ≤ 4000
  · have h1I : (n : Int) ≤ 4000 := by omega
    have kt := kt h1
    by_cases h2 : t ≤ 2000000
    · have h2I : (t : Int) ≤ 2000000 := by omega
      go_enter Try.func74, Try.ntmps74
      go_wp2_with fail
      refine kt.mono ?_
      rintro e w1 ⟨rfl, rfl⟩
      go_wp2
      go_ret
      exact ⟨by simp [h1, h2], Below.refl _ _⟩
    · have h2I : ¬ (t : Int) ≤ 2000000 := by omega
      go_enter Try.func74, Try.ntmps74
      go_wp2_with fail
      refine kt.mono ?_
      rintro e w1 ⟨rfl, rfl⟩
      go_wp2
      go_ret
      exact ⟨by simp [h1]; omega, Below.refl _ _⟩
  · have h1I : ¬ (n : Int) ≤ 4000 := by omega
    go_enter Try.func74, Try.ntmps74
    go_wp2
    go_ret
    exact ⟨by simp, Below.refl _ _⟩

end Go.Proofs.Ytaiomcjopgnfpaa


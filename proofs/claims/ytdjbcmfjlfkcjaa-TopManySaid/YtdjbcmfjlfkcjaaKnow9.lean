/- law07: Know, Made, Self as they are used by the laws. -/
import Derived.Test.YtdjbcmfjlfkcjaaKnow8
namespace Go.Proofs.Ytdjbcmfjlfkcjaa
open Go.RowKit

/-- What Know hands back: the program, or nothing. -/
def knowD (q : List Ins) : List Ins := if knowE q = 0 then knowL q else []
theorem knowD_len (q : List Ins) : (knowD q).length ≤ 4000 := by
  unfold knowD
  split
  · rename_i h
    exact validB_len (knowE_zero h).2.2.2.1
  · simp
theorem know_due (en : Int) (v : Value) (q : List Ins) (w : World) (hq : InsRow w w.heap.size v q) (he : knowE q = en) :
    Calls Try.prog 67 #[v] w fun e w' => ∃ v', e = .returned (.tuple #[v', .int .i64 en]) ∧ OwnI w' w.heap.size v' (knowD q) ∧ Below w.heap.size w w' := by
  unfold knowD
  by_cases h : knowE q = 0
  · refine (know_own v q w hq h).mono ?_
    rintro e w' ⟨v', h1, h2, h3⟩
    rw [if_pos h]
    exact ⟨v', by rw [h1, ← he, h], h2, h3⟩
  · refine (know_any v q w hq).mono ?_
    rintro e w' ⟨v', h1, h2, h3⟩
    rw [if_neg h]
    obtain rfl := h2.2 h
    exact ⟨_, by rw [h1, he], OwnI.nil _ _, h3⟩
theorem knowE_ne {q : List Ins} (hv : validB q = true) (h : ¬ knowE q = 0) : knowE q = 3 := by
  unfold knowE at h ⊢
  rw [if_neg (by rw [hv]; simp)] at h ⊢
  split at h
  · exact absurd rfl h
  · rename_i hc
    rw [if_neg hc]
/-- head 0 0 -/
def headI : Ins := ⟨3, 0, 0, 0, ⟨#[]⟩⟩
theorem headI_wf : headI.wf := wf_lit _ _ _ _ _ (by unfold i64; decide) (by unfold i64; decide) (by unfold i64; decide) (by unfold i64; decide) (by decide)
theorem knowE_head : knowE [headI] = 0 := by decide +kernel
theorem knowD_head : knowD [headI] = knowL [headI] := if_pos knowE_head
theorem self7_any (w : World) : Calls Try.prog 101 #[] w fun e w' => ∃ v, e = .returned v ∧ OwnI w' w.heap.size v (knowD [headI]) ∧ Below w.heap.size w w' := by
  have ch := Lib.hid (Below.refl w.heap.size w)
  go_enter Try.func101, Try.ntmps101
  go_wp2_with fail
  obtain ⟨w1, hW⟩ : ∃ B, w.alloc (.cells #[.int .i64 3, .int .i64 0, .int .i64 0, .int .i64 0, .string ⟨#[]⟩] 75) = B := ⟨_, rfl⟩
  rw [hW]
  have hq : Below w.heap.size w w1 := by rw [← hW]; exact (Below.refl _ _).alloc (Nat.le_refl _) _
  have hQ := Lib.hid (show InsRow w1 w1.heap.size (.slice (some ⟨w.heap.size, 0, none⟩) 1 1) [headI] by rw [← hW]; exact (OwnI.lit w [headI] (by simp; exact headI_wf) (by simp)).row (by simp))
  clear hW
  have ch := Lib.hid (ch.out.trans (hq.mono ch.out.size))
  clear hq
  have hs0 := Lib.hid ch.out.size
  go_wp2_with fail
  refine (know_due 0 _ [headI] _ hQ.out knowE_head).mono ?_
  rintro e w2 ⟨v, rfl, hO, hq⟩
  have hQ := Lib.hid ((hQ.out.below hq).mono hq.size)
  have ch := Lib.hid (ch.out.trans (hq.mono ch.out.size))
  clear hq
  have hO := Lib.hid (OwnI.lower (B' := w.heap.size) hO hs0.out)
  go_wp2
  go_ret
  exact ⟨_, rfl, hO.out, ch.out⟩
end Go.Proofs.Ytdjbcmfjlfkcjaa


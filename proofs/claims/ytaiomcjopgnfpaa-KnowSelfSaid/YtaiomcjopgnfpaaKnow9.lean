/- law07: Know, Made, Self as they are used by the laws. -/
import Derived.Test.YtaiomcjopgnfpaaKnow8
namespace Go.Proofs.Ytaiomcjopgnfpaa
open Go.RowKit

/-- What Know hands back: the program, or nothing. -/
def knowD (q : List Ins) : List Ins := if knowE q = 0 then knowL q else []
theorem knowD_len (q : List Ins) : (knowD q).length ≤ 4000 := by
  unfold knowD
  split
  · rename_i h
    exact validB_len (knowE_zero h).2.2.2.1
  · simp
theorem know_due (en : Int) (v : Value) (q : List Ins) (w : World) (hq : InsRow w w.heap.size v q) (he : knowE q = en) :
    Calls Try.prog 47 #[v] w fun e w' => ∃ v', e = .returned (.tuple #[v', .int .i64 en]) ∧ OwnI w' w.heap.size v' (knowD q) ∧ Below w.heap.size w w' := by
  unfold knowD
  by_cases h : knowE q = 0
  · refine (know_own v q w hq h).mono ?_
    rintro e w' ⟨v', h1, h2, h3⟩
    rw [if_pos h]
    exact ⟨v', by rw [h1, ← he, h], h2, h3⟩
  · refine (know_any v q w hq).mono ?_
    rintro e w' ⟨v', h1, h2, h3⟩
    rw [if_neg h]
    obtain rfl := h2.2 h
    exact ⟨_, by rw [h1, he], OwnI.nil _ _, h3⟩
theorem told7_any (v : Value) (b : Bool) (w : World) :
    Calls Try.prog 91 #[v, .bool b] w fun e w' => e = .returned (.tuple #[if b then v else .slice none 0 0, .int .i64 (if b then 0 else 3)]) ∧ w' = w := by
  cases b with
  | true =>
    go_enter Try.func91, Try.ntmps91
    go_wp2
    refine bodyPost_ret (v := .tuple #[v, .int .i64 0]) (by simp [results, Try.results91, go_sem]) rfl ?_
    exact ⟨rfl, rfl⟩
  | false =>
    go_enter Try.func91, Try.ntmps91
    go_wp2
    refine bodyPost_ret (v := .tuple #[.slice none 0 0, .int .i64 3]) (by simp [results, Try.results91, go_sem]) rfl ?_
    exact ⟨rfl, rfl⟩
theorem knowE_ne {q : List Ins} (hv : validB q = true) (h : ¬ knowE q = 0) : knowE q = 3 := by
  unfold knowE at h ⊢
  rw [if_neg (by rw [hv]; simp)] at h ⊢
  split at h
  · exact absurd rfl h
  · rename_i hc
    rw [if_neg hc]
/-- The reference's Know: the list is knowD. -/
theorem rknow_due (v : Value) (q : List Ins) (w : World) (hq : InsRow w w.heap.size v q) (hv : validB q = true) (b : Bool) (hb : b = decide (knowE q = 0)) :
    Calls Try.prog 90 #[v] w fun e w' => ∃ v', e = .returned (.tuple #[v', .bool b]) ∧ InsRow w' w'.heap.size v' (knowD q) ∧ Below w.heap.size w w' := by
  refine (rknow_any v q w hq hv).mono ?_
  rintro e w' ⟨v', b', h1, hb', h2, h3⟩
  have hbb : b = b' := by
    cases b' with
    | true => rw [hb, decide_eq_true (hb'.1 rfl)]
    | false => rw [hb]; exact decide_eq_false fun h => by have := hb'.2 h; cases this
  subst hbb
  refine ⟨v', h1, ?_, h3⟩
  unfold knowD
  by_cases h : knowE q = 0
  · rw [if_pos h]; exact h2.1 h
  · rw [if_neg h, h2.2 h]; exact row_nil _ _
theorem made7_any (v : Value) (q : List Ins) (w : World) (hq : InsRow w w.heap.size v q) (hv : validB q = true) (en : Int) (he : knowE q = en) :
    Calls Try.prog 46 #[v] w fun e w' => ∃ v', e = .returned (.tuple #[v', .int .i64 en]) ∧ InsRow w' w'.heap.size v' (knowD q) ∧ Below w.heap.size w w' := by
  obtain ⟨qa, qc, rfl⟩ := hq.len
  obtain ⟨qn, hqn⟩ : ∃ n, q.length = n := ⟨_, rfl⟩
  rw [hqn] at hq ⊢
  have hQ := Lib.hid hq
  have hf := Lib.hid (show fitsP q = true by rw [← validB_fits (validB_all hv)]; exact hv)
  have HV := Lib.hid hv
  have HE := Lib.hid he
  clear hq hqn hv he
  have ch := Lib.hid (Below.refl w.heap.size w)
  go_enter Try.func46, Try.ntmps46
  go_wp2_with fail
  refine (fits4_at true hf.out hQ.out).mono ?_
  rintro e w1 ⟨rfl, hq⟩
  have hQ := Lib.hid ((hQ.out.below hq).mono hq.size)
  have ch := Lib.hid (ch.out.trans (hq.mono ch.out.size))
  clear hq
  obtain ⟨b, hb⟩ : ∃ b, b = decide (knowE q = 0) := ⟨_, rfl⟩
  have HB := Lib.hid hb
  clear hb
  go_wp2_with fail
  refine (rknow_due _ q _ hQ.out HV.out b HB.out).mono ?_
  rintro e w2 ⟨v, rfl, hM, hq⟩
  have hQ := Lib.hid ((hQ.out.below hq).mono hq.size)
  have ch := Lib.hid (ch.out.trans (hq.mono ch.out.size))
  clear hq
  have hM := Lib.hid hM
  go_wp2_with fail
  refine (told7_any _ _ _).mono ?_
  rintro e w3 ⟨rfl, rfl⟩
  cases b with
  | true =>
    have h0 : en = 0 := by rw [← HE.out]; exact of_decide_eq_true HB.out.symm
    subst h0
    go_wp2
    refine bodyPost_ret (v := .tuple #[v, .int .i64 0]) (by simp [results, Try.results46, go_sem]) rfl ?_
    exact ⟨_, rfl, hM.out, ch.out⟩
  | false =>
    have hn : ¬ knowE q = 0 := of_decide_eq_false HB.out.symm
    have h3 : en = 3 := by rw [← HE.out]; exact knowE_ne HV.out hn
    subst h3
    go_wp2
    refine bodyPost_ret (v := .tuple #[.slice none 0 0, .int .i64 3]) (by simp [results, Try.results46, go_sem]) rfl ?_
    exact ⟨_, rfl, by unfold knowD; rw [if_neg hn]; exact row_nil _ _, ch.out⟩
/-- head 0 0 -/
def headI : Ins := ⟨3, 0, 0, 0, ⟨#[]⟩⟩
theorem headI_wf : headI.wf := wf_lit _ _ _ _ _ (by unfold i64; decide) (by unfold i64; decide) (by unfold i64; decide) (by unfold i64; decide) (by decide)
theorem knowE_head : knowE [headI] = 0 := by decide +kernel
theorem knowD_head : knowD [headI] = knowL [headI] := if_pos knowE_head
theorem self7_any (w : World) : Calls Try.prog 53 #[] w fun e w' => ∃ v, e = .returned v ∧ OwnI w' w.heap.size v (knowD [headI]) ∧ Below w.heap.size w w' := by
  have ch := Lib.hid (Below.refl w.heap.size w)
  go_enter Try.func53, Try.ntmps53
  go_wp2_with fail
  obtain ⟨w1, hW⟩ : ∃ B, w.alloc (.cells #[.int .i64 3, .int .i64 0, .int .i64 0, .int .i64 0, .string ⟨#[]⟩] 52) = B := ⟨_, rfl⟩
  rw [hW]
  have hq : Below w.heap.size w w1 := by rw [← hW]; exact (Below.refl _ _).alloc (Nat.le_refl _) _
  have hQ := Lib.hid (show InsRow w1 w1.heap.size (.slice (some ⟨w.heap.size, 0, none⟩) 1 1) [headI] by rw [← hW]; exact (OwnI.lit w [headI] (by simp; exact headI_wf) (by simp)).row (by simp))
  clear hW
  have ch := Lib.hid (ch.out.trans (hq.mono ch.out.size))
  clear hq
  have hs0 := Lib.hid ch.out.size
  go_wp2_with fail
  refine (know_due 0 _ [headI] _ hQ.out knowE_head).mono ?_
  rintro e w2 ⟨v, rfl, hO, hq⟩
  have hQ := Lib.hid ((hQ.out.below hq).mono hq.size)
  have ch := Lib.hid (ch.out.trans (hq.mono ch.out.size))
  clear hq
  have hO := Lib.hid (OwnI.lower (B' := w.heap.size) hO hs0.out)
  go_wp2
  go_ret
  exact ⟨_, rfl, hO.out, ch.out⟩
theorem rself7_any (w : World) : Calls Try.prog 54 #[] w fun e w' => ∃ v, e = .returned v ∧ InsRow w' w'.heap.size v (knowD [headI]) ∧ Below w.heap.size w w' := by
  have ch := Lib.hid (Below.refl w.heap.size w)
  go_enter Try.func54, Try.ntmps54
  go_wp2_with fail
  refine (r7head_any _ _ _).mono ?_
  rintro e w1 ⟨rfl, hq⟩
  have ch := Lib.hid (ch.out.trans (hq.mono ch.out.size))
  clear hq
  go_wp2_with fail
  obtain ⟨w2, hW⟩ : ∃ B, w1.alloc (.cells #[.int .i64 3, .int .i64 0, .int .i64 0, .int .i64 0, .string ⟨#[]⟩] 52) = B := ⟨_, rfl⟩
  rw [hW]
  have hq : Below w1.heap.size w1 w2 := by rw [← hW]; exact (Below.refl _ _).alloc (Nat.le_refl _) _
  have hQ := Lib.hid (show InsRow w2 w2.heap.size (.slice (some ⟨w1.heap.size, 0, none⟩) 1 1) [headI] by rw [← hW]; exact (OwnI.lit w1 [headI] (by simp; exact headI_wf) (by simp)).row (by simp))
  clear hW
  have ch := Lib.hid (ch.out.trans (hq.mono ch.out.size))
  clear hq
  go_wp2_with fail
  refine (rknow_due _ [headI] _ hQ.out (by decide +kernel) true (by rw [knowE_head]; rfl)).mono ?_
  rintro e w3 ⟨v, rfl, hO, hq⟩
  have hQ := Lib.hid ((hQ.out.below hq).mono hq.size)
  have ch := Lib.hid (ch.out.trans (hq.mono ch.out.size))
  clear hq
  have hO := Lib.hid hO
  go_wp2
  go_ret
  exact ⟨_, rfl, hO.out, ch.out⟩
end Go.Proofs.Ytaiomcjopgnfpaa


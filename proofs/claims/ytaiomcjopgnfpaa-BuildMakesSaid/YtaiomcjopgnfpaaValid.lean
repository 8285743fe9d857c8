/- The walks of narcissusref01.Valid and tree.Valid. -/
import Derived.Test.YtaiomcjopgnfpaaEnd
namespace Go.Proofs.Ytaiomcjopgnfpaa
open Go.RowKit

/-- A string is a valid tree. -/
def isTree (s : ByteArray) : Bool := decide (s.size ≤ 2000000) && decide (endI s 0 1 = s.size)

theorem endI_spec (s : ByteArray) : endI s 0 1 = -1 ∨ ∃ t : Tr, ∃ r, s.data.toList = t.enc ++ r ∧ endI s 0 1 = t.size := by
  unfold endI
  cases h : endF (s.data.toList.drop 0) 1 with
  | none => exact .inl rfl
  | some k =>
    obtain ⟨t, h1, h2⟩ := endF_one h
    refine .inr ⟨t, s.data.toList.drop k, ?_, by simp [h2]⟩
    rw [← h1]; simp

/-- A valid tree is the characters of a tree. -/
theorem isTree_iff (s : ByteArray) : isTree s = true ↔ ∃ t : Tr, s = ⟨t.enc.toArray⟩ ∧ t.size ≤ 2000000 := by
  unfold isTree
  simp only [Bool.and_eq_true, decide_eq_true_eq]
  constructor
  · rintro ⟨h1, h2⟩
    rcases endI_spec s with h | ⟨t, r, h3, h4⟩
    · omega
    · have h5 : s.data.toList.length = t.size + r.length := by rw [h3]; simp [Tr.enc_length]
      have h6 : s.data.toList.length = s.size := by simp
      have h7 : r = [] := List.length_eq_zero_iff.1 (by omega)
      subst h7
      have h8 : s.size = t.size := by simp at h5; omega
      exact ⟨t, by cases s; simp at h3; simp [← h3], by omega⟩
  · rintro ⟨t, rfl, h⟩
    have hsz : (⟨t.enc.toArray⟩ : ByteArray).size = t.size := by show t.enc.toArray.size = _; simp [Tr.enc_length]
    refine ⟨by omega, ?_⟩
    have := endF_enc t [] 0
    simp [endF] at this
    simp [endI, this, hsz]

theorem refEnd_0 (s : ByteArray) (hs : s.size ≤ 281474976710656) (w : World) :
    Calls Try.prog 78 #[.string s, .int .i64 0] w fun e w' => e = .returned (.int .i64 (endI s 0 1)) ∧ w = w' := refEnd_any s 0 (Nat.zero_le _) hs w

set_option maxHeartbeats 400000 in
theorem refValid_any (s : ByteArray) (hs : s.size ≤ 281474976710656) (w : World) :
    Calls Try.prog 27 #[.string s] w fun e w' => e = .returned (.bool (isTree s)) ∧ w = w' := by
  by_cases h : s.size ≤ 2000000
  · have hv : isTree s = (endI s 0 1 == (s.size : Int)) := by unfold isTree; rw [decide_eq_true h]; simp [BEq.beq]
    rw [hv]; clear hv
    go_enter Try.func27, Try.ntmps27
    go_wp2_with (go_at_call 78; refine (refEnd_0 s hs _).mono ?_; rintro e w' ⟨rfl, rfl⟩)
    go_ret
    exact ⟨rfl, rfl⟩
  · have hv : isTree s = false := by unfold isTree; rw [decide_eq_false h]; rfl
    rw [hv]; clear hv
    go_enter Try.func27, Try.ntmps27
    go_wp2
    go_ret
    exact ⟨rfl, rfl⟩

theorem treeEnd_0 (s : ByteArray) (hs : s.size ≤ 281474976710656) (w : World) :
    Calls Try.prog 118 #[.string s, .int .i64 0] w fun e w' => e = .returned (.tuple #[.int .i64 (tEndI s 0), .bool (tEndB s 0)]) ∧ Below w.heap.size w w' := treeEnd_any s 0 (Nat.zero_le _) hs w

set_option maxHeartbeats 400000 in
theorem treeValid_any (s : ByteArray) (hs : s.size ≤ 281474976710656) (w : World) :
    Calls Try.prog 86 #[.string s] w fun e w' => e = .returned (.bool (isTree s)) ∧ Below w.heap.size w w' := by
  by_cases h : s.size ≤ 2000000
  · have hex : s.extract 0 s.size = s := by simp
    have hv : isTree s = (tEndB s 0 && (tEndI s 0 == (s.size : Int))) := by
      unfold isTree tEndB tEndI; rw [hex, decide_eq_true h]
      by_cases e : endI s 0 1 = -1
      · simp [e]
      · simp [e, BEq.beq]
    rw [hv]; clear hv hex
    have HH := Lib.hid h; clear h
    cases hb : tEndB s 0 with
    | false =>
      have hl : ¬ (2000000 : Int) < s.size := by have := HH.out; omega
      go_enter Try.func86, Try.ntmps86
      go_wp2_with (go_at_call 118; refine (treeEnd_0 s hs _).mono ?_; rintro e w' ⟨rfl, hb1⟩)
      go_ret
      exact ⟨rfl, hb1⟩
    | true =>
      have hl : ¬ (2000000 : Int) < s.size := by have := HH.out; omega
      go_enter Try.func86, Try.ntmps86
      go_wp2_with (go_at_call 118; refine (treeEnd_0 s hs _).mono ?_; rintro e w' ⟨rfl, hb1⟩)
      go_ret
      exact ⟨rfl, hb1⟩
  · have hv : isTree s = false := by unfold isTree; rw [decide_eq_false h]; rfl
    rw [hv]; clear hv
    have hl : (2000000 : Int) < s.size := by omega
    go_enter Try.func86, Try.ntmps86
    go_wp2
    go_ret
    exact ⟨rfl, Below.refl _ _⟩

end Go.Proofs.Ytaiomcjopgnfpaa

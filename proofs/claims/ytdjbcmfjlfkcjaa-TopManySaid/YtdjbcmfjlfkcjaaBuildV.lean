/- Plain: programs out of valid programs hold valid instructions. -/
import Derived.Test.YtdjbcmfjlfkcjaaMB3
namespace Go.Proofs.Ytdjbcmfjlfkcjaa
open Go.RowKit

/-- Instructions that are right at a place of a program of some length. -/
def RA (k n : Nat) (l : List Ins) : Prop := ∀ (i : Nat) x, l[i]? = some x → rightB x ((k + i : Nat) : Int) n = true
theorem RA.nil (k n : Nat) : RA k n [] := fun i x h => by simp at h
theorem RA.append {k n : Nat} {a b : List Ins} (ha : RA k n a) (hb : RA (k + a.length) n b) : RA k n (a ++ b) := by
  intro i x hx
  by_cases h : i < a.length
  · rw [List.getElem?_append_left h] at hx; exact ha i x hx
  · rw [List.getElem?_append_right (by omega)] at hx
    have := hb (i - a.length) x hx
    rwa [show k + a.length + (i - a.length) = k + i by omega] at this
theorem RA.cons {k n : Nat} {x : Ins} {l : List Ins} (hx : rightB x k n = true) (hl : RA (k + 1) n l) : RA k n (x :: l) := by
  intro i y hy
  cases i with
  | zero => simp only [List.getElem?_cons_zero, Option.some.injEq] at hy; subst hy; exact hx
  | succ i =>
    rw [List.getElem?_cons_succ] at hy
    have := hl i y hy
    rwa [show k + 1 + i = k + (i + 1) by omega] at this
theorem RA.of {k n : Nat} {l : List Ins} (h : rightAll l = true) (hn : k + l.length ≤ n) : RA k n l := fun _ _ hx => rightAll_at h hx hn
theorem RA.all {l : List Ins} (h : RA 0 l.length l) : rightAll l = true := rightAll_iff.2 fun i x hx => by have := h i x hx; rwa [Nat.zero_add] at this
theorem ra_move (a b k n : Nat) (ha : a < 32) (hb : b < 32) : rightB (moveI a b) k n = true := by
  unfold rightB moveI regB; simp; omega
theorem ra_cons (a b c k n : Nat) (ha : a < 32) (hb : b < 32) (hc : c < 32) : rightB (consI a b c) k n = true := by
  unfold rightB consI regB; simp; omega
theorem ra_jump (a : Nat) (b : Int) (k n : Nat) (ha : a < 32) (h1 : -(k : Int) ≤ b) (h2 : b ≤ (n : Int) - k) : rightB (jumpI a b) k n = true := by
  unfold rightB jumpI regB; simp; omega
theorem ra_set (a : Nat) (t : ByteArray) (k n : Nat) (ha : a < 32) (ht : isTree t = true) : rightB (setI a t) k n = true := by
  unfold rightB setI regB; simp [ht]; omega
theorem ra_cleanK (m k n : Nat) (hm : m < 32) : RA k n (cleanK m) := by
  intro i x hx
  have h1 := List.mem_of_getElem? hx
  simp only [cleanK, List.mem_map, List.mem_range] at h1
  obtain ⟨j, hj, rfl⟩ := h1
  exact ra_set _ _ _ _ (by omega) (by decide)
theorem mostN_lt32 {l : List Ins} (hv : rightAll l = true) : mostN l < 32 := by have := mostN_lt hv l.length (Nat.le_refl _); rwa [mostN_all] at this
theorem ra_cleanP {l : List Ins} (hv : rightAll l = true) {k n : Nat} (hn : k + (cleanP l).length ≤ n) : RA k n (cleanP l) := by
  rw [cleanP_length] at hn
  unfold cleanP cleanH
  exact (ra_cleanK _ _ _ (mostN_lt32 hv)).append (RA.of hv (by rw [cleanK_length]; omega))
theorem ra_cleans : ∀ (ls : List (List Ins)) (k n : Nat), allV ls = true → k + ((ls.map cleanP).flatten).length ≤ n → RA k n (ls.map cleanP).flatten
  | [], k, n, _, _ => RA.nil _ _
  | l :: ls, k, n, hv, hn => by
    have hv' : validB l = true ∧ allV ls = true := by unfold allV at hv ⊢; simpa using hv
    rw [List.map_cons, List.flatten_cons] at hn ⊢
    rw [List.length_append] at hn
    exact (ra_cleanP (validB_all hv'.1) (by omega)).append (ra_cleans ls _ n hv'.2 (by omega))
theorem thenL_right {ls : List (List Ins)} (hv : allV ls = true) : rightAll (thenL ls) = true := by
  cases ls with
  | nil => rfl
  | cons l ls =>
    have hv' : validB l = true ∧ allV ls = true := by unfold allV at hv ⊢; simpa using hv
    refine RA.all ?_
    unfold thenL
    exact (RA.of (validB_all hv'.1) (by simp)).append (ra_cleans ls _ _ hv'.2 (by simp))
theorem allV_two {p q : List Ins} (h : allV [p, q] = true) : validB p = true ∧ validB q = true := by unfold allV at h; simpa using h
theorem allV_three {c p q : List Ins} (h : allV [c, p, q] = true) : validB c = true ∧ validB p = true ∧ validB q = true := by unfold allV at h; simpa using h
theorem mostR_two (p q : List Ins) : mostR [p, q] = max (regN p) (regN q) := by
  have : 1 ≤ regN q := by unfold regN; omega
  simp [mostR]; omega
theorem mostR_three (c p q : List Ins) : mostR [c, p, q] = max (regN c) (max (regN p) (regN q)) := by
  have : 1 ≤ regN q := by unfold regN; omega
  simp [mostR]; omega
theorem pairL_right {p q : List Ins} (hv : allV [p, q] = true) (hm : mostR [p, q] ≤ 28) : rightAll (pairL p q) = true := by
  obtain ⟨h1, h2⟩ := allV_two hv
  rw [mostR_two] at hm
  have hl : (pairL p q).length = p.length + (cleanP q).length + 4 := by unfold pairL; simp; omega
  refine RA.all ?_
  rw [hl]
  unfold pairL
  obtain ⟨n, hn⟩ : ∃ n, max (regN p) (regN q) = n := ⟨_, rfl⟩
  simp only [hn]
  rw [hn] at hm
  refine RA.append (RA.append (RA.append (RA.cons (ra_move _ _ _ _ (by omega) (by omega)) (RA.of (validB_all h1) (by omega))) (RA.cons (ra_move _ _ _ _ (by omega) (by omega)) (RA.cons (ra_move _ _ _ _ (by omega) (by omega)) (RA.nil _ _)))) (ra_cleanP (validB_all h2) ?_)) (RA.cons (ra_cons _ _ _ _ _ (by omega) (by omega) (by omega)) (RA.nil _ _))
  simp; omega
theorem ifL_right {c p q : List Ins} (hv : allV [c, p, q] = true) (hm : mostR [c, p, q] ≤ 28) : rightAll (ifL c p q) = true := by
  obtain ⟨h0, h1, h2⟩ := allV_three hv
  rw [mostR_three] at hm
  have hl : (ifL c p q).length = c.length + (cleanP p).length + (cleanP q).length + 6 := by unfold ifL; simp; omega
  refine RA.all ?_
  rw [hl]
  unfold ifL
  obtain ⟨n, hn⟩ : ∃ n, max (regN c) (max (regN p) (regN q)) = n := ⟨_, rfl⟩
  simp only [hn]
  rw [hn] at hm
  refine RA.append (RA.append (RA.append (RA.append (RA.cons (ra_move _ _ _ _ (by omega) (by omega)) (RA.of (validB_all h0) (by omega))) (RA.cons (ra_jump _ _ _ _ (by omega) ?_ ?_) (RA.cons (ra_move _ _ _ _ (by omega) (by omega)) (RA.nil _ _)))) (ra_cleanP (validB_all h2) ?_)) (RA.cons (ra_set _ _ _ _ (by omega) (by decide)) (RA.cons (ra_jump _ _ _ _ (by omega) ?_ ?_) (RA.cons (ra_move _ _ _ _ (by omega) (by omega)) (RA.nil _ _))))) (ra_cleanP (validB_all h1) ?_)
  all_goals (simp; omega)
theorem whileL_right {c p : List Ins} (hv : allV [c, p] = true) (hm : mostR [c, p] ≤ 28) : rightAll (whileL c p) = true := by
  obtain ⟨h0, h1⟩ := allV_two hv
  rw [mostR_two] at hm
  have hl0 : (whileH c p).length = (cleanP c).length + (cleanP p).length + 7 := by unfold whileH; simp; omega
  have hl : (whileL c p).length = (cleanP c).length + (cleanP p).length + 8 := by unfold whileL; simp [hl0]
  refine RA.all ?_
  rw [hl]
  unfold whileL
  rw [hl0]
  obtain ⟨n, hn⟩ : ∃ n, max (regN c) (regN p) = n := ⟨_, rfl⟩
  rw [hn] at hm ⊢
  refine RA.append ?_ (RA.cons (ra_jump _ _ _ _ (by omega) ?_ ?_) (RA.nil _ _))
  · unfold whileH
    simp only [hn]
    refine RA.append (RA.append (RA.append (RA.cons (ra_move _ _ _ _ (by omega) (by omega)) (ra_cleanP (validB_all h0) (by omega))) (RA.cons (ra_jump _ _ _ _ (by omega) ?_ ?_) (RA.cons (ra_move _ _ _ _ (by omega) (by omega)) (RA.cons (ra_set _ _ _ _ (by omega) (by decide)) (RA.cons (ra_jump _ _ _ _ (by omega) ?_ ?_) (RA.cons (ra_move _ _ _ _ (by omega) (by omega)) (RA.nil _ _))))))) (ra_cleanP (validB_all h1) ?_)) (RA.cons (ra_set _ _ _ _ (by omega) (by decide)) (RA.nil _ _))
    all_goals (simp; omega)
  · rw [hl0]; omega
  · rw [hl0]; omega

/-- The due error, as it is said with the limits alone. -/
def dueF (ls : List (List Ins)) (m : List Ins) : Int := if allV ls = false then 1 else if 28 < mostR ls then 8 else if fitsP m = true then 0 else 3
theorem dueF_eq {ls : List (List Ins)} {m : List Ins} (h : allV ls = true → mostR ls ≤ 28 → rightAll m = true) : dueF ls m = dueN ls m := by
  unfold dueF dueN
  by_cases h1 : allV ls = false
  · rw [if_pos h1, if_pos h1]
  · rw [if_neg h1, if_neg h1]
    by_cases h2 : 28 < mostR ls
    · rw [if_pos h2, if_pos h2]
    · rw [if_neg h2, if_neg h2, validB_fits (h (by simpa using h1) (by omega))]
theorem dueF_then (ls : List (List Ins)) : dueF ls (thenL ls) = dueN ls (thenL ls) := dueF_eq fun h _ => thenL_right h
theorem dueF_pair (p q : List Ins) : dueF [p, q] (pairL p q) = dueN [p, q] (pairL p q) := dueF_eq pairL_right
theorem dueF_if (c p q : List Ins) : dueF [c, p, q] (ifL c p q) = dueN [c, p, q] (ifL c p q) := dueF_eq ifL_right
theorem dueF_while (c p : List Ins) : dueF [c, p] (whileL c p) = dueN [c, p] (whileL c p) := dueF_eq whileL_right

end Go.Proofs.Ytdjbcmfjlfkcjaa


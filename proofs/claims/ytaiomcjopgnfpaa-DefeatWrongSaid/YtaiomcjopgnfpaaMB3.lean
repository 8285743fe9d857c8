/- Plain: a program that stands within another one; which programs are valid. The reference's Fits of layer 4. Plain: programs out of valid programs hold valid instructions. law04's tail. law04's copied and alike: copies of a list of programs. law04's due and told. ref02's Decimal, TextOf, Text, at small numbers. ref02's Text, at small numbers. law04's awake: the examples of the chapter. code.number and how the fields of an instruction are written. code.fields. code.Code. The walk of code.Code. know: Clear, before, join. know.join; the code of a program is a tree. Plain: programs that are supplied with a tree. And the walks of spec.Spec, narcissusref05.Spec and narcissusref04.Fits. know.Know. ref02.CodeOf: an instruction as a tree. ref02.Code. -/
import Derived.Test.YtaiomcjopgnfpaaMB1
import Derived.Test.YtaiomcjopgnfpaaMB2
import Derived.Test.YtaiomcjopgnfpaaMB0
import Derived.Laws.EntriesVeiled
import Derived.Shelf.Strings.BuilderK
namespace Go.Proofs.Ytaiomcjopgnfpaa
open Go.RowKit

theorem rightB_mono {x : Ins} {i n i' n' : Int} (h : rightB x i n = true) (h1 : i ≤ i') (h2 : n - i ≤ n' - i') : rightB x i' n' = true := by
  unfold rightB at h ⊢
  simp only [Bool.and_eq_true] at h ⊢
  refine ⟨h.1, ?_⟩
  have h3 := h.2
  split at h3
  · rename_i e; rw [if_pos e]; exact h3
  · rename_i e
    rw [if_neg e]
    split at h3
    · rename_i e; rw [if_pos e]; exact h3
    · rename_i e
      rw [if_neg e]
      split at h3
      · rename_i e; rw [if_pos e]; exact h3
      · rename_i e
        rw [if_neg e]
        split at h3
        · rename_i e
          rw [if_pos e]
          simp only [Bool.and_eq_true, decide_eq_true_eq] at h3 ⊢
          omega
        · cases h3
theorem rightAll_iff {l : List Ins} : rightAll l = true ↔ ∀ (i : Nat) x, l[i]? = some x → rightB x i l.length = true := by
  constructor
  · intro h i x hx; exact rightAll_get h hx
  · intro h
    unfold rightAll
    rw [List.all_eq_true]
    intro i hi
    cases hx : l[i]? with
    | none => rfl
    | some x => exact h i x hx
/-- A valid program, at another place. -/
theorem rightAll_at {l : List Ins} (h : rightAll l = true) {i : Nat} {x : Ins} (hx : l[i]? = some x) {k n : Nat} (hn : k + l.length ≤ n) : rightB x ((k + i : Nat) : Int) n = true :=
  rightB_mono (rightAll_get h hx) (by omega) (by omega)
theorem rightAll_append {a b : List Ins} (ha : ∀ (i : Nat) x, a[i]? = some x → rightB x i (a ++ b).length = true) (hb : ∀ (i : Nat) x, b[i]? = some x → rightB x ((a.length + i : Nat) : Int) (a ++ b).length = true) : rightAll (a ++ b) = true := by
  rw [rightAll_iff]
  intro i x hx
  by_cases h : i < a.length
  · rw [List.getElem?_append_left h] at hx; exact ha i x hx
  · rw [List.getElem?_append_right (by omega)] at hx
    have := hb (i - a.length) x hx
    rwa [show a.length + (i - a.length) = i by omega] at this
/-- Within the limits. -/
def fitsP (l : List Ins) : Bool := decide (l.length ≤ 4000) && decide (trees l ≤ 2000000)
theorem validB_fits {l : List Ins} (h : rightAll l = true) : validB l = fitsP l := by unfold validB fitsP; rw [h, Bool.and_true]
theorem trees_append (a b : List Ins) : trees (a ++ b) = trees a + trees b := by simp [trees]

/-- A program stands within another one. -/
def Seg (P : List Ins) (k : Nat) (l : List Ins) : Prop := ∀ (i : Nat) x, l[i]? = some x → P[k + i]? = some x
theorem Seg.len {P l : List Ins} {k : Nat} (h : Seg P k l) (hl : 0 < l.length) : k + l.length ≤ P.length := by
  have := h (l.length - 1) l[l.length - 1] (List.getElem?_eq_getElem (by omega))
  have := (List.getElem?_eq_some_iff.1 this).1
  omega
theorem Seg.mid (a l b : List Ins) : Seg (a ++ l ++ b) a.length l := by
  intro i x hx
  have hi := (List.getElem?_eq_some_iff.1 hx).1
  rw [List.getElem?_append_left (by simp; omega), List.getElem?_append_right (by omega), show a.length + i - a.length = i by omega, hx]
theorem Seg.right (a l : List Ins) : Seg (a ++ l) a.length l := by have := Seg.mid a l []; rwa [List.append_nil] at this

/-- A step within. -/
theorem Seg.step {P l : List Ins} {k : Nat} (h : Seg P k l) (hv : rightAll l = true) {s : St} (hp : s.pos < l.length) :
    stepP P ⟨k + s.pos, s.regs⟩ = (stepP l s).map fun s' => ⟨k + s'.pos, s'.regs⟩ := by
  obtain ⟨x, hx⟩ : ∃ x, l[s.pos]? = some x := ⟨_, List.getElem?_eq_getElem hp⟩
  have hr := rightAll_get hv hx
  unfold stepP
  rw [hx]
  simp only [h _ _ hx]
  unfold rightB at hr
  simp only [Bool.and_eq_true] at hr
  have h3 := hr.2
  unfold stepX
  split
  · simp [Nat.add_assoc]
  · split
    · simp [Nat.add_assoc]
    · split
      · split <;> simp [Nat.add_assoc]
      · split
        · simp [Nat.add_assoc]
        · split
          · simp [Nat.add_assoc]
          · rename_i h0 h1 h2 h4 h5
            rw [if_neg h0, if_neg (by omega), if_neg h2] at h3
            split
            · simp [Nat.add_assoc]
            · split at h3
              · simp only [Bool.and_eq_true, decide_eq_true_eq] at h3
                simp only [Option.map_some, Option.some.injEq, St.mk.injEq, and_true]
                omega
              · simp at h3
/-- How a run within another one goes. -/
theorem Seg.run {P l : List Ins} {k : Nat} (h : Seg P k l) (hv : rightAll l = true) (hkl : k + l.length ≤ P.length) : ∀ (f n : Nat) (s : St), Good l.length s →
    (∀ s' m, goF l f n s = .done s' m → n ≤ m ∧ m ≤ n + f ∧ goF P f n ⟨k + s.pos, s.regs⟩ = goF P (f - (m - n)) m ⟨k + l.length, s'.regs⟩) ∧
    (∀ s' m, goF l f n s = .fuel s' m → goF P f n ⟨k + s.pos, s.regs⟩ = .fuel ⟨k + s'.pos, s'.regs⟩ m) ∧
    (goF l f n s = .big → goF P f n ⟨k + s.pos, s.regs⟩ = .big) := by
  intro f
  induction f with
  | zero =>
    intro n s hg
    by_cases hp : s.pos = l.length
    · rw [goF_done hp]
      refine ⟨?_, ?_, ?_⟩
      · intro s' m e; cases e; exact ⟨Nat.le_refl _, by omega, by rw [hp, Nat.sub_self]⟩
      · intro s' m e; cases e
      · intro e; cases e
    · rw [goF_zero hp]
      have hP : k + s.pos ≠ P.length := by have := hg.1; omega
      refine ⟨?_, ?_, ?_⟩
      · intro s' m e; cases e
      · intro s' m e; cases e; exact goF_zero hP
      · intro e; cases e
  | succ f ih =>
    intro n s hg
    by_cases hp : s.pos = l.length
    · rw [goF_done hp]
      refine ⟨?_, ?_, ?_⟩
      · intro s' m e; cases e; exact ⟨Nat.le_refl _, by omega, by rw [hp, Nat.sub_self]; rfl⟩
      · intro s' m e; cases e
      · intro e; cases e
    · have hpl : s.pos < l.length := by have := hg.1; omega
      have hP : k + s.pos ≠ P.length := by omega
      have hst := h.step hv hpl
      cases hs : stepP l s with
      | none =>
        rw [goF_big hp hs]
        rw [hs] at hst
        refine ⟨?_, ?_, ?_⟩
        · intro s' m e; cases e
        · intro s' m e; cases e
        · intro _; exact goF_big hP hst
      | some s1 =>
        rw [hs] at hst
        rw [goF_step hp hs, goF_step hP hst]
        obtain ⟨i1, i2, i3⟩ := ih (n + 1) s1 (hg.step hv hs)
        refine ⟨?_, i2, i3⟩
        intro s' m e
        obtain ⟨j1, j2, j3⟩ := i1 s' m e
        exact ⟨by omega, by omega, by rw [j3, show f - (m - (n + 1)) = f + 1 - (m - n) by omega]⟩

end Go.Proofs.Ytaiomcjopgnfpaa

namespace Go.Proofs.Ytaiomcjopgnfpaa
open Go.RowKit

theorem fits4_ok (v : Value) (l : List Ins) (w : World) (hl : InsRow w w.heap.size v l) :
    Calls Try.prog 74 #[v] w fun e w' => e = .returned (.bool (fitsP l)) ∧ Below w.heap.size w w' := by
  have kt := trees_any v l w _ hl
  obtain ⟨a, c, rfl⟩ := hl.len
  obtain ⟨n, hn⟩ : ∃ n, l.length = n := ⟨_, rfl⟩
  obtain ⟨t, ht⟩ : ∃ t, trees l = t := ⟨_, rfl⟩
  unfold fitsP
  rw [hn, ht]
  rw [hn, ht] at kt
  clear hn ht hl
  by_cases h1 : n ≤ 4000
  · have h1I : (n : Int) ≤ 4000 := by omega
    have kt := kt h1
    by_cases h2 : t ≤ 2000000
    · have h2I : (t : Int) ≤ 2000000 := by omega
      go_enter Try.func74, Try.ntmps74
      go_wp2_with fail
      refine kt.mono ?_
      rintro e w1 ⟨rfl, rfl⟩
      go_wp2
      go_ret
      exact ⟨by simp [h1, h2], Below.refl _ _⟩
    · have h2I : ¬ (t : Int) ≤ 2000000 := by omega
      go_enter Try.func74, Try.ntmps74
      go_wp2_with fail
      refine kt.mono ?_
      rintro e w1 ⟨rfl, rfl⟩
      go_wp2
      go_ret
      exact ⟨by simp [h1]; omega, Below.refl _ _⟩
  · have h1I : ¬ (n : Int) ≤ 4000 := by omega
    go_enter Try.func74, Try.ntmps74
    go_wp2
    go_ret
    exact ⟨by simp, Below.refl _ _⟩

end Go.Proofs.Ytaiomcjopgnfpaa

namespace Go.Proofs.Ytaiomcjopgnfpaa
open Go.RowKit

/-- Instructions that are right at a place of a program of some length. -/
def RA (k n : Nat) (l : List Ins) : Prop := ∀ (i : Nat) x, l[i]? = some x → rightB x ((k + i : Nat) : Int) n = true
theorem RA.nil (k n : Nat) : RA k n [] := fun i x h => by simp at h
theorem RA.append {k n : Nat} {a b : List Ins} (ha : RA k n a) (hb : RA (k + a.length) n b) : RA k n (a ++ b) := by
  intro i x hx
  by_cases h : i < a.length
  · rw [List.getElem?_append_left h] at hx; exact ha i x hx
  · rw [List.getElem?_append_right (by omega)] at hx
    have := hb (i - a.length) x hx
    rwa [show k + a.length + (i - a.length) = k + i by omega] at this
theorem RA.cons {k n : Nat} {x : Ins} {l : List Ins} (hx : rightB x k n = true) (hl : RA (k + 1) n l) : RA k n (x :: l) := by
  intro i y hy
  cases i with
  | zero => simp only [List.getElem?_cons_zero, Option.some.injEq] at hy; subst hy; exact hx
  | succ i =>
    rw [List.getElem?_cons_succ] at hy
    have := hl i y hy
    rwa [show k + 1 + i = k + (i + 1) by omega] at this
theorem RA.of {k n : Nat} {l : List Ins} (h : rightAll l = true) (hn : k + l.length ≤ n) : RA k n l := fun _ _ hx => rightAll_at h hx hn
theorem RA.all {l : List Ins} (h : RA 0 l.length l) : rightAll l = true := rightAll_iff.2 fun i x hx => by have := h i x hx; rwa [Nat.zero_add] at this
theorem ra_move (a b k n : Nat) (ha : a < 32) (hb : b < 32) : rightB (moveI a b) k n = true := by
  unfold rightB moveI regB; simp; omega
theorem ra_cons (a b c k n : Nat) (ha : a < 32) (hb : b < 32) (hc : c < 32) : rightB (consI a b c) k n = true := by
  unfold rightB consI regB; simp; omega
theorem ra_jump (a : Nat) (b : Int) (k n : Nat) (ha : a < 32) (h1 : -(k : Int) ≤ b) (h2 : b ≤ (n : Int) - k) : rightB (jumpI a b) k n = true := by
  unfold rightB jumpI regB; simp; omega
theorem ra_set (a : Nat) (t : ByteArray) (k n : Nat) (ha : a < 32) (ht : isTree t = true) : rightB (setI a t) k n = true := by
  unfold rightB setI regB; simp [ht]; omega
theorem ra_cleanK (m k n : Nat) (hm : m < 32) : RA k n (cleanK m) := by
  intro i x hx
  have h1 := List.mem_of_getElem? hx
  simp only [cleanK, List.mem_map, List.mem_range] at h1
  obtain ⟨j, hj, rfl⟩ := h1
  exact ra_set _ _ _ _ (by omega) (by decide)
theorem mostN_lt32 {l : List Ins} (hv : rightAll l = true) : mostN l < 32 := by have := mostN_lt hv l.length (Nat.le_refl _); rwa [mostN_all] at this
theorem ra_cleanP {l : List Ins} (hv : rightAll l = true) {k n : Nat} (hn : k + (cleanP l).length ≤ n) : RA k n (cleanP l) := by
  rw [cleanP_length] at hn
  unfold cleanP cleanH
  exact (ra_cleanK _ _ _ (mostN_lt32 hv)).append (RA.of hv (by rw [cleanK_length]; omega))
theorem ra_cleans : ∀ (ls : List (List Ins)) (k n : Nat), allV ls = true → k + ((ls.map cleanP).flatten).length ≤ n → RA k n (ls.map cleanP).flatten
  | [], k, n, _, _ => RA.nil _ _
  | l :: ls, k, n, hv, hn => by
    have hv' : validB l = true ∧ allV ls = true := by unfold allV at hv ⊢; simpa using hv
    rw [List.map_cons, List.flatten_cons] at hn ⊢
    rw [List.length_append] at hn
    exact (ra_cleanP (validB_all hv'.1) (by omega)).append (ra_cleans ls _ n hv'.2 (by omega))
theorem thenL_right {ls : List (List Ins)} (hv : allV ls = true) : rightAll (thenL ls) = true := by
  cases ls with
  | nil => rfl
  | cons l ls =>
    have hv' : validB l = true ∧ allV ls = true := by unfold allV at hv ⊢; simpa using hv
    refine RA.all ?_
    unfold thenL
    exact (RA.of (validB_all hv'.1) (by simp)).append (ra_cleans ls _ _ hv'.2 (by simp))
theorem allV_two {p q : List Ins} (h : allV [p, q] = true) : validB p = true ∧ validB q = true := by unfold allV at h; simpa using h
theorem allV_three {c p q : List Ins} (h : allV [c, p, q] = true) : validB c = true ∧ validB p = true ∧ validB q = true := by unfold allV at h; simpa using h
theorem mostR_two (p q : List Ins) : mostR [p, q] = max (regN p) (regN q) := by
  have : 1 ≤ regN q := by unfold regN; omega
  simp [mostR]; omega
theorem mostR_three (c p q : List Ins) : mostR [c, p, q] = max (regN c) (max (regN p) (regN q)) := by
  have : 1 ≤ regN q := by unfold regN; omega
  simp [mostR]; omega
theorem pairL_right {p q : List Ins} (hv : allV [p, q] = true) (hm : mostR [p, q] ≤ 28) : rightAll (pairL p q) = true := by
  obtain ⟨h1, h2⟩ := allV_two hv
  rw [mostR_two] at hm
  have hl : (pairL p q).length = p.length + (cleanP q).length + 4 := by unfold pairL; simp; omega
  refine RA.all ?_
  rw [hl]
  unfold pairL
  obtain ⟨n, hn⟩ : ∃ n, max (regN p) (regN q) = n := ⟨_, rfl⟩
  simp only [hn]
  rw [hn] at hm
  refine RA.append (RA.append (RA.append (RA.cons (ra_move _ _ _ _ (by omega) (by omega)) (RA.of (validB_all h1) (by omega))) (RA.cons (ra_move _ _ _ _ (by omega) (by omega)) (RA.cons (ra_move _ _ _ _ (by omega) (by omega)) (RA.nil _ _)))) (ra_cleanP (validB_all h2) ?_)) (RA.cons (ra_cons _ _ _ _ _ (by omega) (by omega) (by omega)) (RA.nil _ _))
  simp; omega
theorem ifL_right {c p q : List Ins} (hv : allV [c, p, q] = true) (hm : mostR [c, p, q] ≤ 28) : rightAll (ifL c p q) = true := by
  obtain ⟨h0, h1, h2⟩ := allV_three hv
  rw [mostR_three] at hm
  have hl : (ifL c p q).length = c.length + (cleanP p).length + (cleanP q).length + 6 := by unfold ifL; simp; omega
  refine RA.all ?_
  rw [hl]
  unfold ifL
  obtain ⟨n, hn⟩ : ∃ n, max (regN c) (max (regN p) (regN q)) = n := ⟨_, rfl⟩
  simp only [hn]
  rw [hn] at hm
  refine RA.append (RA.append (RA.append (RA.append (RA.cons (ra_move _ _ _ _ (by omega) (by omega)) (RA.of (validB_all h0) (by omega))) (RA.cons (ra_jump _ _ _ _ (by omega) ?_ ?_) (RA.cons (ra_move _ _ _ _ (by omega) (by omega)) (RA.nil _ _)))) (ra_cleanP (validB_all h2) ?_)) (RA.cons (ra_set _ _ _ _ (by omega) (by decide)) (RA.cons (ra_jump _ _ _ _ (by omega) ?_ ?_) (RA.cons (ra_move _ _ _ _ (by omega) (by omega)) (RA.nil _ _))))) (ra_cleanP (validB_all h1) ?_)
  all_goals (simp; omega)
theorem whileL_right {c p : List Ins} (hv : allV [c, p] = true) (hm : mostR [c, p] ≤ 28) : rightAll (whileL c p) = true := by
  obtain ⟨h0, h1⟩ := allV_two hv
  rw [mostR_two] at hm
  have hl0 : (whileH c p).length = (cleanP c).length + (cleanP p).length + 7 := by unfold whileH; simp; omega
  have hl : (whileL c p).length = (cleanP c).length + (cleanP p).length + 8 := by unfold whileL; simp [hl0]
  refine RA.all ?_
  rw [hl]
  unfold whileL
  rw [hl0]
  obtain ⟨n, hn⟩ : ∃ n, max (regN c) (regN p) = n := ⟨_, rfl⟩
  rw [hn] at hm ⊢
  refine RA.append ?_ (RA.cons (ra_jump _ _ _ _ (by omega) ?_ ?_) (RA.nil _ _))
  · unfold whileH
    simp only [hn]
    refine RA.append (RA.append (RA.append (RA.cons (ra_move _ _ _ _ (by omega) (by omega)) (ra_cleanP (validB_all h0) (by omega))) (RA.cons (ra_jump _ _ _ _ (by omega) ?_ ?_) (RA.cons (ra_move _ _ _ _ (by omega) (by omega)) (RA.cons (ra_set _ _ _ _ (by omega) (by decide)) (RA.cons (ra_jump _ _ _ _ (by omega) ?_ ?_) (RA.cons (ra_move _ _ _ _ (by omega) (by omega)) (RA.nil _ _))))))) (ra_cleanP (validB_all h1) ?_)) (RA.cons (ra_set _ _ _ _ (by omega) (by decide)) (RA.nil _ _))
    all_goals (simp; omega)
  · rw [hl0]; omega
  · rw [hl0]; omega

/-- The due error, as it is said with the limits alone. -/
def dueF (ls : List (List Ins)) (m : List Ins) : Int := if allV ls = false then 1 else if 28 < mostR ls then 8 else if fitsP m = true then 0 else 3
theorem dueF_eq {ls : List (List Ins)} {m : List Ins} (h : allV ls = true → mostR ls ≤ 28 → rightAll m = true) : dueF ls m = dueN ls m := by
  unfold dueF dueN
  by_cases h1 : allV ls = false
  · rw [if_pos h1, if_pos h1]
  · rw [if_neg h1, if_neg h1]
    by_cases h2 : 28 < mostR ls
    · rw [if_pos h2, if_pos h2]
    · rw [if_neg h2, if_neg h2, validB_fits (h (by simpa using h1) (by omega))]
theorem dueF_then (ls : List (List Ins)) : dueF ls (thenL ls) = dueN ls (thenL ls) := dueF_eq fun h _ => thenL_right h
theorem dueF_pair (p q : List Ins) : dueF [p, q] (pairL p q) = dueN [p, q] (pairL p q) := dueF_eq pairL_right
theorem dueF_if (c p q : List Ins) : dueF [c, p, q] (ifL c p q) = dueN [c, p, q] (ifL c p q) := dueF_eq ifL_right
theorem dueF_while (c p : List Ins) : dueF [c, p] (whileL c p) = dueN [c, p] (whileL c p) := dueF_eq whileL_right

end Go.Proofs.Ytaiomcjopgnfpaa

namespace Go.Proofs.Ytaiomcjopgnfpaa
open Go.RowKit

def tailI : Ins := ⟨4, 0, 0, 0, ⟨#[]⟩⟩
theorem tailI_wf : tailI.wf := wf_lit _ _ _ _ _ (by unfold i64; decide) (by unfold i64; decide) (by unfold i64; decide) (by unfold i64; decide) (by decide)
theorem tail4_any (w : World) : Calls Try.prog 75 #[] w fun e w' => ∃ a c, e = .returned (.slice a 1 c) ∧ InsRow w' w'.heap.size (.slice a 1 c) [tailI] ∧ Below w.heap.size w w' := by
  have hrow := (OwnI.lit w [tailI] (by simp; exact tailI_wf) (by simp)).row (by simp)
  go_enter Try.func75, Try.ntmps75
  go_wp2
  go_ret
  exact ⟨_, _, rfl, hrow, (Below.refl _ _).alloc (Nat.le_refl _) _⟩

end Go.Proofs.Ytaiomcjopgnfpaa

namespace Go.Proofs.Ytaiomcjopgnfpaa
open Go.RowKit

theorem el_progs : ElemT Try.prog 22 25 (.slice none 0 0) 1 24 := ⟨Try.underlying22, by kernel_rfl, rfl, by decide⟩

set_option maxHeartbeats 1000000 in
theorem twin_own (v : Value) (l : List Ins) (w : World) (hl : InsRow w w.heap.size v l) :
    Calls Try.prog 33 #[v] w fun e w' => ∃ a c, e = .returned (.slice a l.length c) ∧ OwnI w' w.heap.size (.slice a l.length c) l ∧ Below w.heap.size w w' := by
  have hn := hl.2.1
  have hwf := hl.1
  have hs := hl.src
  obtain ⟨n, hn'⟩ : ∃ n, l.length = n := ⟨_, rfl⟩
  rw [hn'] at hn hs
  have HN := Lib.hid hn'; clear hn'
  have HW := Lib.hid hwf; clear hwf
  obtain ⟨ao, cap, rfl⟩ := hl.len
  rw [HN.out] at hl hs ⊢
  have hown : (w.alloc (.cells #[] 52)).ownsRow w.heap.size 52 5 (.slice (some ⟨w.heap.size, 0, none⟩) 0 0) 0 [] := World.ownsRow_lit w #[] 0 (Nat.le_refl _) (by decide) rfl
  have hs2 : Src (w.alloc (.cells #[] 52)) (.slice ao n cap) n 5 (inscells l) := by
    have := (hl.below ((Below.refl _ w).alloc (Nat.le_refl _) (.cells #[] 52))).src
    rwa [HN.out] at this
  have hb : Below w.heap.size w (w.alloc (.cells #[] 52)) := (Below.refl _ _).alloc (Nat.le_refl _) _
  go_enter Try.func33, Try.ntmps33
  go_wp2_with (at_builtin; refine app_src el_ins (vx := .slice ao n cap) rfl _ _ rfl rfl hown rfl hs2 (inscells_one l) ?c2 ?c3 (by simp) hb (Nat.le_refl _) ?_)
  case c2 => omega
  case c3 => unfold maxLen; omega
  intro v' w' hown' hb' hg
  have hown2 : OwnI w' w.heap.size v' l := ⟨by rw [HN.out]; simpa using hown', HW.out⟩
  obtain ⟨a2, c2, rfl⟩ := own_len hown'
  clear hown hs hs2 hb hown' hg
  go_wp2
  refine bodyPost_ret (v := .slice a2 n c2) (by simp [results, Try.results33, go_sem]) rfl ?_
  exact ⟨_, _, rfl, hown2, hb'⟩

/-- A row of one's own of programs, each in a block besides. -/
def OwnP (w : World) (B : Nat) (v : Value) (ls : List (List Ins)) : Prop :=
  ∃ us, w.ownsRow B 25 1 v ls.length us ∧ ∀ (j : Nat) (u : Value) (l : List Ins), us[j]? = some u → ls[j]? = some l → InsRow w w.heap.size u l ∧ ∀ g, u.ownBlock = some g → g < w.heap.size ∧ v.ownBlock ≠ some g
theorem OwnP.nil (w : World) (B : Nat) : OwnP w B (.slice none 0 0) [] := ⟨[], World.ownsRow_nil _ _ _ _, fun j u l h => by simp at h⟩
theorem OwnP.lt {w : World} {B : Nat} {v : Value} {ls : List (List Ins)} (h : OwnP w B v ls) {g : Nat} (hg : v.ownBlock = some g) : B ≤ g ∧ g < w.heap.size := by
  obtain ⟨us, h1, _⟩ := h
  rcases h1.2 with ⟨rfl, _⟩ | ⟨k, cap, cur, rfl, hb, hc, _⟩
  · simp [Value.ownBlock] at hg
  · simp only [Value.ownBlock, Option.some.injEq] at hg; subst hg; exact ⟨hb, (Array.getElem?_eq_some_iff.1 hc).1⟩
theorem OwnP.below {w w' : World} {B : Nat} {v : Value} {ls : List (List Ins)} (h : OwnP w B v ls) (hb : Below w.heap.size w w') : OwnP w' B v ls := by
  obtain ⟨us, h1, h2⟩ := h
  refine ⟨us, own_below h1 hb, fun j u l hu hl => ?_⟩
  obtain ⟨h3, h4⟩ := h2 j u l hu hl
  exact ⟨(h3.below hb).mono hb.size, fun g hg => ⟨Nat.lt_of_lt_of_le (h4 g hg).1 hb.size, (h4 g hg).2⟩⟩
theorem OwnP.len {w : World} {B : Nat} {v : Value} {ls : List (List Ins)} (h : OwnP w B v ls) : ∃ a c, v = .slice a ls.length c := by
  obtain ⟨us, h1, _⟩ := h; exact own_len h1
theorem OwnP.row {w : World} {B : Nat} {v : Value} {ls : List (List Ins)} (h : OwnP w B v ls) (hn : ls.length ≤ 5864062014805) : ProgsRow w w.heap.size v ls := by
  obtain ⟨us, h1, h2⟩ := h
  have hlen : us.length = ls.length := by have := h1.1; omega
  refine ⟨hn, ?_⟩
  rcases h1.2 with ⟨rfl, h0⟩ | ⟨g, cap, cur, rfl, hb, hg, hnc, hcm, hcs, htake⟩
  · exact .inl ⟨List.length_eq_zero_iff.1 h0, .inl rfl⟩
  · refine .inr ⟨g, 0, cap, rfl, (Array.getElem?_eq_some_iff.1 hg).1, fun j l hl => ?_⟩
    have hlt := (List.getElem?_eq_some_iff.1 hl).1
    obtain ⟨u, hu⟩ : ∃ u, us[j]? = some u := ⟨_, List.getElem?_eq_getElem (by omega)⟩
    refine ⟨u, ?_, (h2 j u l hu hl).1⟩
    rw [Nat.zero_add, World.ownsRow.cellAt h1 j (by omega), hu]
theorem OwnI.block {w : World} {B : Nat} {v : Value} {l : List Ins} (h : OwnI w B v l) {g : Nat} (hg : v.ownBlock = some g) : B ≤ g ∧ g < w.heap.size := by
  rcases h.own.2 with ⟨rfl, _⟩ | ⟨k, cap, cur, rfl, hb, hc, _⟩
  · simp [Value.ownBlock] at hg
  · simp only [Value.ownBlock, Option.some.injEq] at hg; subst hg; exact ⟨hb, (Array.getElem?_eq_some_iff.1 hc).1⟩
theorem InsRow.far {w w' : World} {vx : Value} {l : List Ins} (h : InsRow w w.heap.size vx l) (hs : w.heap.size ≤ w'.heap.size) (hold : ∀ g, vx.ownBlock = some g → g < w.heap.size → w'.heap[g]? = w.heap[g]?) : InsRow w' w'.heap.size vx l := by
  refine ⟨h.1, h.2.1, ?_⟩
  rcases h.2.2 with h3 | ⟨g, off, cap, rfl, hgl, hc⟩
  · exact .inl h3
  · exact .inr ⟨g, off, cap, rfl, by omega, fun j x hj k u hk => (World.cell?_of_block (hold g rfl hgl)).trans (hc j x hj k u hk)⟩

/-- append of a program to such a row. -/
theorem app_prog {ops : Array Oper} {rest : List Oper} {o : Oper} {a : Act} {Q : Exit → Act → World → Prop} (hgd : o.guard = none) (s x : Operand)
    (ho : o.op = .call { callee := .builtin .append, args := #[s, x], argTypes := #[22, 22] }) {w w0 : World} {v u : Value} {ls : List (List Ins)} {l : List Ins}
    (hs : a.eval s = v) (hown : OwnP w w0.heap.size v ls) (hx : a.eval x = .slice (some ⟨w.heap.size, 0, none⟩) 1 1) (hu : InsRow w w.heap.size u l) (hu1 : u.oneCell' = true) (hue : ∀ g, u.ownBlock = some g → g < w.heap.size ∧ v.ownBlock ≠ some g) (hlen : ls.length + 1 ≤ 5864062014805) (hb : Below w0.heap.size w0 w)
    (h : ∀ a' k c' w', Hid (k = ls.length + 1) → Hid (OwnP w' w0.heap.size (.slice a' k c') (ls ++ [l])) → Hid (Below w0.heap.size w0 w') → wpList Try.prog ops Q rest (a.put o.dst (.slice a' k c')) w') :
    wpList Try.prog ops Q (o :: rest) a (w.alloc (.cells #[u] 25)) := by
  have hlt := fun (g : Nat) (hg : v.ownBlock = some g) => hown.lt hg
  obtain ⟨us, h1, h2⟩ := hown
  have hus : us.length = ls.length := by have := h1.1; omega
  obtain ⟨i, hi, hz, hsize, hbytes⟩ := info_parts el_progs.hi
  refine wpList_append_lies _ hgd s x _ ho w0.heap.size _ i _ 1 24 el_progs.ht hi hz hsize hbytes el_progs.hzs el_progs.hsz v ls.length us hs (h1.alloc _) ⟨w.heap.size, 0, none⟩ 1 1 [u] hx rfl ?_ ?_ (by decide) (by unfold maxLen; omega) (by omega) (by have := hb.size; simp; omega) (w.heap.size + 1) (by simp) ?_
  · intro j y hy
    rw [Addr.add_lit]
    unfold World.cell?
    rw [heap_alloc_new w _]
    simpa using hy
  · intro y hy; rw [List.mem_singleton.1 hy]; exact hu1
  · intro g cap w' ho' hg hblk hgl
    have hsz : w.heap.size < w'.heap.size := (grownBy_alloc_trans hg).1
    have hold := (grownBy_alloc_trans hg).2
    refine h _ _ _ w' (Lib.hid rfl) (Lib.hid ⟨us ++ [u], by rw [List.length_append]; exact ho', ?_⟩) (Lib.hid ((hb.alloc hb.size _).grown hg (by have := hb.size; simp; omega) (fun k hk => (hlt _ hk).1)))
    have hnew : ∀ (y : Value) (m : List Ins), InsRow w w.heap.size y m → (∀ g', y.ownBlock = some g' → g' < w.heap.size ∧ v.ownBlock ≠ some g') → InsRow w' w'.heap.size y m ∧ ∀ g', y.ownBlock = some g' → g' < w'.heap.size ∧ Value.ownBlock (.slice (some ⟨g, 0, none⟩) (ls.length + 1) cap) ≠ some g' := by
      intro y m hy hye
      refine ⟨hy.far (by omega) fun g' hg' hgl' => hold g' hgl' (fun e => (hye g' hg').2 e.symm), fun g' hg' => ⟨by have := (hye g' hg').1; omega, fun e => ?_⟩⟩
      simp only [Value.ownBlock, Option.some.injEq] at e
      subst e
      rcases hblk with h3 | h3
      · exact (hye g hg').2 h3
      · have := (hye g hg').1; omega
    intro j y m hy hm
    rw [List.getElem?_append] at hy hm
    by_cases hj : j < ls.length
    · rw [if_pos (by omega)] at hy
      rw [if_pos hj] at hm
      exact hnew y m (h2 j y m hy hm).1 (h2 j y m hy hm).2
    · rw [if_neg (by omega)] at hy
      rw [if_neg hj] at hm
      have hy1 := List.mem_singleton.1 (List.mem_of_getElem? hy)
      have hm1 := List.mem_singleton.1 (List.mem_of_getElem? hm)
      subst hy1; subst hm1
      exact hnew y m hu hue

set_option maxRecDepth 20000 in
set_option maxHeartbeats 4000000 in
theorem copied_any (v : Value) (ls : List (List Ins)) (w : World) (hl : ProgsRow w w.heap.size v ls) :
    Calls Try.prog 19 #[v] w fun e w' => ∃ v', e = .returned v' ∧ ProgsRow w' w'.heap.size v' ls ∧ Below w.heap.size w w' := by
  obtain ⟨ao, cap, rfl⟩ := hl.len
  have hn5 := hl.1
  obtain ⟨n, hn'⟩ : ∃ n, ls.length = n := ⟨_, rfl⟩
  rw [hn'] at hl hn5 ⊢
  have HN := Lib.hid hn'; clear hn'
  have HL := Lib.hid hl; clear hl
  go_enter Try.func19, Try.ntmps19
  go_wp2
  go_loopg [3, 4] n (fun gg o i wr => ∃ k : Nat, k ≤ n ∧ gg = n - k ∧ i = .int .i64 k ∧ Hid (OwnP wr w.heap.size o (ls.take k) ∧ Below w.heap.size w wr))
  case atStart => exact ⟨0, by omega, rfl, rfl, OwnP.nil _ _, Below.refl _ _⟩
  case round =>
    obtain ⟨k, hk, hg, rfl, hP⟩ := hrel
    have HG := Lib.hid hg; clear hg
    by_cases hlt : k < n
    · obtain ⟨l, hx⟩ : ∃ s, ls[k]? = some s := ⟨_, List.getElem?_eq_getElem (by rw [HN.out]; exact hlt)⟩
      have hl2 := HL.out.step hP.out.2
      obtain ⟨g, off, u, rfl, hg, c0, hu⟩ := hl2.get hx
      have hi0 : (0 : Int) ≤ (k : Int) := Int.natCast_nonneg _
      have hi1 : (k : Int) < (n : Int) := by omega
      have HX := Lib.hid hx
      have kr := twin_own u l wr hu
      obtain ⟨r, hr⟩ : ∃ r, l.length = r := ⟨_, rfl⟩
      rw [hr] at kr
      have HR := Lib.hid hr
      clear hx hl2 hr
      go_wp2_with fail
      refine kr.mono ?_
      rintro e w1 ⟨a1, c1, rfl, ho1, hb1⟩
      have hP1 := hP.out.1.below hb1
      have hb2 := hP.out.2.trans (hb1.mono hP.out.2.size)
      have hue : ∀ g, (Value.slice a1 r c1).ownBlock = some g → g < w1.heap.size ∧ _ ≠ some g := fun g hg => ⟨(ho1.block hg).2, fun e => by have h1 := (hP.out.1.lt e).2; have h2 := (ho1.block hg).1; omega⟩
      have hrow := ho1.row hu.2.1
      clear hb1 kr ho1 hu c0 hg hP
      go_wp2_with (at_builtin; refine app_prog rfl _ _ rfl rfl hP1 rfl hrow rfl ?c1 ?c2 hb2 ?_)
      case c1 => exact hue
      case c2 => rw [List.length_take]; omega
      intro a' k' c' w' hk' hown' hb'
      have hkk : k' = k + 1 := by rw [hk'.out, HN.out]; omega
      subst hkk
      have hnew : Hid (OwnP w' w.heap.size (.slice a' (k + 1) c') (ls.take (k + 1)) ∧ Below w.heap.size w w') := Lib.hid ⟨by rw [take_snoc' _ _ _ HX.out]; exact hown'.out, hb'.out⟩
      clear hown' hb' hP1 hb2 hrow hue hk'
      go_wp2
      go_roundg (n - (k + 1))
      case measure => rw [HG.out]; omega
      case rel => exact ⟨k + 1, by omega, rfl, by go_num, hnew⟩
    · have hkn : k = n := by omega
      subst hkn
      have hP := Lib.hid (show OwnP wr w.heap.size _ ls ∧ Below w.heap.size w wr from ⟨by have h2 := hP.out.1; rwa [List.take_of_length_le (by rw [HN.out]; omega)] at h2, hP.out.2⟩)
      obtain ⟨a2, c2, rfl⟩ := hP.out.1.len
      go_wp2
      refine bodyPost_ret (v := .slice a2 ls.length c2) (by simp [results, Try.results19, go_sem]) rfl ?_
      exact ⟨_, rfl, hP.out.1.row (by rw [HN.out]; exact hn5), hP.out.2⟩

set_option maxHeartbeats 4000000 in
theorem alike_self (v v' : Value) (ls : List (List Ins)) (w : World) (hl : ProgsRow w w.heap.size v ls) (hl' : ProgsRow w w.heap.size v' ls) :
    Calls Try.prog 21 #[v, v'] w fun e w' => e = .returned (.bool true) ∧ Below w.heap.size w w' := by
  obtain ⟨ao, cap, rfl⟩ := hl.len
  obtain ⟨ao', cap', rfl⟩ := hl'.len
  have hn5 := hl.1
  obtain ⟨n, hn'⟩ : ∃ n, ls.length = n := ⟨_, rfl⟩
  rw [hn'] at hl hl' hn5 ⊢
  have HN := Lib.hid hn'; clear hn'
  have HL := Lib.hid hl; clear hl
  have HL' := Lib.hid hl'; clear hl'
  go_enter Try.func21, Try.ntmps21
  go_wp2
  go_loopg [5] n (fun gg i wr => ∃ k : Nat, k ≤ n ∧ gg = n - k ∧ i = .int .i64 k ∧ Below w.heap.size w wr)
  case atStart => exact ⟨0, by omega, rfl, rfl, Below.refl _ _⟩
  case round =>
    obtain ⟨k, hk, hg, rfl, hb⟩ := hrel
    have HG := Lib.hid hg; clear hg
    by_cases hlt : k < n
    · obtain ⟨l, hx⟩ : ∃ s, ls[k]? = some s := ⟨_, List.getElem?_eq_getElem (by rw [HN.out]; exact hlt)⟩
      have hl2 := HL.out.step hb
      have hl2' := HL'.out.step hb
      obtain ⟨g, off, u, rfl, hg, c0, hu⟩ := hl2.get hx
      obtain ⟨g', off', u', rfl, hg', c0', hu'⟩ := hl2'.get hx
      have hi0 : (0 : Int) ≤ (k : Int) := Int.natCast_nonneg _
      have hi1 : (k : Int) < (n : Int) := by omega
      have KS : Hid (∀ w', Below wr.heap.size wr w' → Calls Try.prog 35 #[u, u'] w' fun e w'' => e = .returned (.bool true) ∧ Below wr.heap.size wr w'') := Lib.hid fun w' hb' => (same_self ((hu.below hb').mono hb'.size) ((hu'.below hb').mono hb'.size)).mono fun e w'' h => ⟨h.1, hb'.trans (h.2.mono hb'.size)⟩
      have KK : Hid (∀ w', Below wr.heap.size wr w' → w'.cell? ⟨g, off + k, none⟩ = some u ∧ w'.cell? ⟨g', off' + k, none⟩ = some u') := Lib.hid fun w' hb' => ⟨(hb'.cell (p := ⟨g, off + k, none⟩) hg).trans c0, (hb'.cell (p := ⟨g', off' + k, none⟩) hg').trans c0'⟩
      have HBW := Lib.hid hb
      clear hx hl2 hl2' hb hu hu' hg hg'
      go_wp2
      go_region_held3 (fun w' => w'.cell? ⟨g, off + k, none⟩ = some u ∧ w'.cell? ⟨g', off' + k, none⟩ = some u')
        (with_reducible (first | exact KK.out _ hbS | exact KK.out _ (Below.refl _ _) | exact KK.out _ (Below.refl _ _).drew | fail "keep"))
        ((first | ((with_reducible refine (KS.out _ (by first | exact Below.refl _ _ | exact (Below.refl _ _).drew)).mono ?_); rintro e wS ⟨rfl, hbS⟩) | (fail "arm")))
      all_goals (
      have hb2 := HBW.out.trans (hbS.mono HBW.out.size)
      clear c0 c0' hbS
      go_wp2
      go_roundg (n - (k + 1)))
      case measure => rw [HG.out]; omega
      case rel => exact ⟨k + 1, by omega, rfl, by go_num, hb2⟩
    · have hkn : k = n := by omega
      subst hkn
      go_wp2
      go_ret
      exact ⟨rfl, hb⟩

end Go.Proofs.Ytaiomcjopgnfpaa

namespace Go.Proofs.Ytaiomcjopgnfpaa
open Go.RowKit

theorem mostR_ge {ls : List (List Ins)} {k : Nat} {l : List Ins} (hl : ls[k]? = some l) : regN l ≤ mostR ls := by
  unfold mostR
  have hm : regN l ∈ ls.map regN := List.mem_map.2 ⟨l, List.mem_of_getElem? hl, rfl⟩
  revert hm
  generalize ls.map regN = m
  intro hm
  induction m with
  | nil => cases hm
  | cons a m ih =>
    simp only [List.foldr_cons]
    rcases List.mem_cons.1 hm with h | h
    · omega
    · have := ih h; omega

set_option maxHeartbeats 4000000 in
theorem due_any (v mv : Value) (ls : List (List Ins)) (ml : List Ins) (w : World) (hl : ProgsRow w w.heap.size v ls) (hm : InsRow w w.heap.size mv ml) :
    Calls Try.prog 25 #[v, mv] w fun e w' => e = .returned (.int .i64 (dueF ls ml)) ∧ Below w.heap.size w w' := by
  obtain ⟨ao, cap, rfl⟩ := hl.len
  have hn5 := hl.1
  obtain ⟨n, hn'⟩ : ∃ n, ls.length = n := ⟨_, rfl⟩
  rw [hn'] at hl hn5 ⊢
  have HN := Lib.hid hn'; clear hn'
  have HL := Lib.hid hl; clear hl
  have HM := Lib.hid hm; clear hm
  obtain ⟨R, hR⟩ : ∃ R, dueF ls ml = R := ⟨_, rfl⟩
  rw [hR]
  have HR := Lib.hid hR; clear hR
  go_enter Try.func25, Try.ntmps25
  go_wp2
  go_loopg [5] n (fun gg i wr => ∃ k : Nat, k ≤ n ∧ gg = n - k ∧ i = .int .i64 k ∧ Aside (allV (ls.take k) = true) ∧ Below w.heap.size w wr)
  case atStart => exact ⟨0, by omega, rfl, rfl, rfl, Below.refl _ _⟩
  case round =>
    obtain ⟨k, hk, hg, rfl, hva, hbw⟩ := hrel
    have HG := Lib.hid hg; clear hg
    have hva := Lib.hid hva.out
    by_cases hlt : k < n
    · obtain ⟨l, hx⟩ : ∃ s, ls[k]? = some s := ⟨_, List.getElem?_eq_getElem (by rw [HN.out]; exact hlt)⟩
      have hl2 := HL.out.step hbw
      obtain ⟨g, off, u, rfl, hg, c0, hu⟩ := hl2.get hx
      have hi0 : (0 : Int) ≤ (k : Int) := Int.natCast_nonneg _
      have hi1 : (k : Int) < (n : Int) := by omega
      have HX := Lib.hid hx
      clear hx hl2
      cases hv : validB l with
      | true =>
        have kr := cvalid_at true hv hu
        have HVV := Lib.hid hv
        clear hv hu
        go_wp2_with fail
        refine kr.mono ?_
        rintro e w1 ⟨rfl, hb1⟩
        have hb2 := hbw.trans (hb1.mono hbw.size)
        clear hb1 kr hbw c0
        go_wp2
        go_roundg (n - (k + 1))
        case measure => rw [HG.out]; omega
        case rel => exact ⟨k + 1, by omega, rfl, by go_num, by show _ = _; rw [allV_succ ls k HX.out, hva.out, HVV.out]; rfl, hb2⟩
      | false =>
        have kr := cvalid_at false hv hu
        have hf : Hid (R = 1) := Lib.hid (by rw [← HR.out]; unfold dueF; rw [if_pos (allV_false HX.out hv)])
        clear hv hu
        go_wp2_with fail
        refine kr.mono ?_
        rintro e w1 ⟨rfl, hb1⟩
        have hb2 := hbw.trans (hb1.mono hbw.size)
        clear hb1 kr hbw c0
        go_wp2
        refine bodyPost_ret (v := .int .i64 1) (by simp [results, Try.results25, go_sem]) rfl ?_
        exact ⟨by rw [hf.out], hb2⟩
    · have hkn : k = n := by omega
      subst hkn
      have hav : Hid (allV ls = true) := Lib.hid (allV_of_take hva.out (by rw [HN.out]; omega))
      clear hva hlt hk
      have HBW := Lib.hid hbw
      clear hbw
      go_wp2
      go_loopg [6] k (fun gg i wr' => ∃ j : Nat, j ≤ k ∧ gg = k - j ∧ i = .int .i64 j ∧ Aside (mostR (ls.take j) ≤ 28) ∧ Below w.heap.size w wr')
      case atStart => exact ⟨0, by omega, rfl, rfl, by show (1 : Nat) ≤ 28; decide, HBW.out⟩
      case round =>
        clear HBW
        obtain ⟨j, hk, hg, rfl, hvb, hbw⟩ := hrel
        have HG := Lib.hid hg; clear hg
        have hvb := Lib.hid hvb.out
        by_cases hlt : j < k
        · obtain ⟨l, hx⟩ : ∃ s, ls[j]? = some s := ⟨_, List.getElem?_eq_getElem (by rw [HN.out]; exact hlt)⟩
          have hl2 := HL.out.step hbw
          obtain ⟨g, off, u, rfl, hg, c0, hu⟩ := hl2.get hx
          have hi0 : (0 : Int) ≤ (j : Int) := Int.natCast_nonneg _
          have hi1 : (j : Int) < (k : Int) := by omega
          have HX := Lib.hid hx
          have kr := refRegs_ok u l _ hu (allV_get hav.out hx)
          have hge := mostR_ge hx
          obtain ⟨r, hr⟩ : ∃ r, regN l = r := ⟨_, rfl⟩
          rw [hr] at kr hge
          have HRR := Lib.hid hr
          have HGE := Lib.hid hge
          clear hx hl2 hr hge hu
          by_cases hbig : 28 < r
          · have hf : Hid (R = 8) := Lib.hid (by rw [← HR.out]; unfold dueF; rw [if_neg (by rw [hav.out]; simp), if_pos (by have := HGE.out; omega)])
            have hbI : (28 : Int) < (r : Int) := by omega
            go_wp2_with fail
            refine kr.mono ?_
            rintro e w1 ⟨rfl, hb1⟩
            have hb2 := hbw.trans (hb1.mono hbw.size)
            clear hb1 kr hbw c0
            go_wp2
            refine bodyPost_ret (v := .int .i64 8) (by simp [results, Try.results25, go_sem]) rfl ?_
            exact ⟨by rw [hf.out], hb2⟩
          · have hbI : ¬ (28 : Int) < (r : Int) := by omega
            go_wp2_with fail
            refine kr.mono ?_
            rintro e w1 ⟨rfl, hb1⟩
            have hb2 := hbw.trans (hb1.mono hbw.size)
            clear hb1 kr hbw c0
            go_wp2
            go_roundg (k - (j + 1))
            case measure => rw [HG.out]; omega
            case rel => exact ⟨j + 1, by omega, rfl, by go_num, by show _ ≤ _; rw [mostR_succ ls j HX.out, HRR.out]; have := hvb.out; omega, hb2⟩
        · have hkn : j = k := by omega
          subst hkn
          have hqm : Hid (mostR ls ≤ 28) := Lib.hid (by have h2 := hvb.out; rwa [List.take_of_length_le (by rw [HN.out]; omega)] at h2)
          clear hvb hlt hk
          have kf := fits4_ok mv ml _ ((HM.out.below hbw).mono hbw.size)
          cases hf : fitsP ml with
          | true =>
            have hf' : Hid (R = 0) := Lib.hid (by rw [← HR.out]; unfold dueF; rw [if_neg (by rw [hav.out]; simp), if_neg (by have := hqm.out; omega), if_pos hf])
            rw [hf] at kf
            clear hf
            go_wp2_with fail
            refine kf.mono ?_
            rintro e w1 ⟨rfl, hb1⟩
            have hb2 := hbw.trans (hb1.mono hbw.size)
            clear hb1 kf hbw
            go_wp2
            refine bodyPost_ret (v := .int .i64 0) (by simp [results, Try.results25, go_sem]) rfl ?_
            exact ⟨by rw [hf'.out], hb2⟩
          | false =>
            have hf' : Hid (R = 3) := Lib.hid (by rw [← HR.out]; unfold dueF; rw [if_neg (by rw [hav.out]; simp), if_neg (by have := hqm.out; omega), if_neg (by rw [hf]; simp)])
            rw [hf] at kf
            clear hf
            go_wp2_with fail
            refine kf.mono ?_
            rintro e w1 ⟨rfl, hb1⟩
            have hb2 := hbw.trans (hb1.mono hbw.size)
            clear hb1 kf hbw
            go_wp2
            refine bodyPost_ret (v := .int .i64 3) (by simp [results, Try.results25, go_sem]) rfl ?_
            exact ⟨by rw [hf'.out], hb2⟩

theorem told_bad (d : Int) (hd : d ≠ 0) (mv : Value) (w : World) :
    Calls Try.prog 24 #[.slice none 0 0, .int .i64 d, .int .i64 d, mv] w fun e w' => e = .returned (.bool true) ∧ Below w.heap.size w w' := by
  go_enter Try.func24, Try.ntmps24
  go_wp2
  go_ret
  exact ⟨rfl, Below.refl _ _⟩
theorem told_ok (v mv : Value) (ml : List Ins) (w : World) (h1 : InsRow w w.heap.size v ml) (h2 : InsRow w w.heap.size mv ml) :
    Calls Try.prog 24 #[v, .int .i64 0, .int .i64 0, mv] w fun e w' => e = .returned (.bool true) ∧ Below w.heap.size w w' := by
  have ks := same_self h1 h2
  go_enter Try.func24, Try.ntmps24
  go_wp2_with fail
  refine ks.mono ?_
  rintro e w1 ⟨rfl, hb1⟩
  go_wp2
  go_ret
  exact ⟨rfl, hb1⟩

end Go.Proofs.Ytaiomcjopgnfpaa

namespace Go.Proofs.Ytaiomcjopgnfpaa
open Go.RowKit

theorem app_str {P : Program} {tS tE tu : Nat} (E : ElemT P tS tE (.int .u8 0) 1 1) (hu : P.underlying tu = some .string) {ops : Array Oper} {rest : List Oper} {o : Oper} {a : Act} {Q : Exit → Act → World → Prop}
    (hgd : o.guard = none) (sl x : Operand) (ho : o.op = .call { callee := .builtin .append, args := #[sl, x], argTypes := #[tS, tu] }) {w : World} {base : Nat} {v : Value} {n : Nat} {xs : List Value}
    (hs : a.eval sl = v) (hown : w.ownsRow base tE 1 v n xs) (s : ByteArray) (hx : a.eval x = .string s) (hby : n + s.size ≤ 140737488355328) (hbase : base ≤ w.heap.size) {B : Nat} {w0 : World} (hb : Below B w0 w) (hB : B ≤ base)
    (h : ∀ v' w', w'.ownsRow base tE 1 v' (n + s.size) (xs ++ Lib.strCells s) → Below B w0 w' → wpList P ops Q rest (a.put o.dst v') w') :
    wpList P ops Q (o :: rest) a w := by
  obtain ⟨i, hi, hz, hsize, hbytes⟩ := info_parts E.hi
  have hlt := hown.lt
  obtain ⟨v', w', hr, h2, h3, _⟩ := Lib.run_append_own_string (P := P) w base tS tu o.type tE i E.ht hu hi hz hsize hbytes v n xs hown s (by unfold maxLen; omega) hby hbase
  refine wpList_plain hgd fun K hK' => ?_
  unfold Oper.wp execOp
  simp only [ho, resolve, invoke, builtin, Sem.run_bind, Sem.run_pure, Result.andThen_ok, List.map_toArray, List.map_cons, List.map_nil, hs, hx, hr]
  exact hK' _ _ (h v' w' h2 (hb.grown h3 (by omega) (fun k hk => by have := (hlt k hk).1; omega)))

/-- Strings, with a semicolon and a blank between. -/
def jn : List (List UInt8) → List UInt8
  | [] => []
  | t :: ts => t ++ (ts.map fun t => [59, 32] ++ t).flatten
theorem jn_succ (T : List (List UInt8)) (k : Nat) {t : List UInt8} (ht : T[k]? = some t) : jn (T.take (k + 1)) = jn (T.take k) ++ (if k = 0 then [] else [59, 32]) ++ t := by
  rw [take_snoc' _ _ _ ht]
  cases k with
  | zero => simp [jn]
  | succ k =>
    cases T with
    | nil => simp at ht
    | cons a T => simp [jn]
theorem jn_mono (T : List (List UInt8)) (k : Nat) : (jn (T.take k)).length ≤ (jn T).length := by
  cases T with
  | nil => simp
  | cons a T =>
    cases k with
    | zero => simp [jn]
    | succ k =>
      have h : ((T.map fun t => [59, 32] ++ t).flatten : List UInt8) = ((T.take k).map fun t => [59, 32] ++ t).flatten ++ ((T.drop k).map fun t => [59, 32] ++ t).flatten := by
        rw [← List.flatten_append, ← List.map_append, List.take_append_drop]
      simp only [jn, List.take_succ_cons, List.length_append]
      rw [h, List.length_append]; omega

theorem dec0_any (w : World) : Calls Try.prog 133 #[.int .i64 0] w fun e w' => e = .returned (.string ⟨#[48]⟩) ∧ Below w.heap.size w w' := by
  have hb0 := (Below.refl w.heap.size w).alloc (Nat.le_refl _) (.cells #[.int .u8 48] 5)
  have hown : (w.alloc (.cells #[.int .u8 48] 5)).ownsRow w.heap.size 5 1 (.slice (some ⟨w.heap.size, 0, none⟩) 1 1) 1 (Lib.byteCells [48]) := World.ownsRow_lit w #[.int .u8 48] 1 (Nat.le_refl _) (by decide) rfl
  have hcv := own_bytes (P := Try.prog) [48] hown 126 Try.underlying126 Try.underlying5 9 Try.underlying9
  go_enter Try.func133, Try.ntmps133
  go_wp2
  go_ret
  exact ⟨rfl, hb0⟩
theorem dec1_any (w : World) : Calls Try.prog 133 #[.int .i64 1] w fun e w' => e = .returned (.string ⟨#[49]⟩) ∧ Below w.heap.size w w' := by
  have hb0 := (Below.refl w.heap.size w).alloc (Nat.le_refl _) (.cells #[.int .u8 49] 5)
  have hown : (w.alloc (.cells #[.int .u8 49] 5)).ownsRow w.heap.size 5 1 (.slice (some ⟨w.heap.size, 0, none⟩) 1 1) 1 (Lib.byteCells [49]) := World.ownsRow_lit w #[.int .u8 49] 1 (Nat.le_refl _) (by decide) rfl
  have hcv := own_bytes (P := Try.prog) [49] hown 126 Try.underlying126 Try.underlying5 9 Try.underlying9
  go_enter Try.func133, Try.ntmps133
  go_wp2
  go_ret
  exact ⟨rfl, hb0⟩
theorem dec2_any (w : World) : Calls Try.prog 133 #[.int .i64 2] w fun e w' => e = .returned (.string ⟨#[50]⟩) ∧ Below w.heap.size w w' := by
  have hb0 := (Below.refl w.heap.size w).alloc (Nat.le_refl _) (.cells #[.int .u8 50] 5)
  have hown : (w.alloc (.cells #[.int .u8 50] 5)).ownsRow w.heap.size 5 1 (.slice (some ⟨w.heap.size, 0, none⟩) 1 1) 1 (Lib.byteCells [50]) := World.ownsRow_lit w #[.int .u8 50] 1 (Nat.le_refl _) (by decide) rfl
  have hcv := own_bytes (P := Try.prog) [50] hown 126 Try.underlying126 Try.underlying5 9 Try.underlying9
  go_enter Try.func133, Try.ntmps133
  go_wp2
  go_ret
  exact ⟨rfl, hb0⟩

def nameL : List ByteArray := [⟨#[115, 101, 116]⟩, ⟨#[109, 111, 118, 101]⟩, ⟨#[99, 111, 110, 115]⟩, ⟨#[104, 101, 97, 100]⟩, ⟨#[116, 97, 105, 108]⟩, ⟨#[106, 117, 109, 112]⟩]
theorem names2_any (w : World) : Calls Try.prog 132 #[] w fun e w' => e = .returned (.slice (some ⟨w.heap.size, 0, none⟩) 6 6) ∧ w'.cell? ⟨w.heap.size, 1, none⟩ = some (.string ⟨#[109, 111, 118, 101]⟩) ∧ w'.cell? ⟨w.heap.size, 2, none⟩ = some (.string ⟨#[99, 111, 110, 115]⟩) ∧ w.heap.size < w'.heap.size ∧ Below w.heap.size w w' := by
  go_enter Try.func132, Try.ntmps132
  go_wp2
  go_ret
  exact ⟨rfl, by simp, by simp, by simp, (Below.refl _ _).alloc (Nat.le_refl _) _⟩

set_option maxHeartbeats 4000000 in
theorem textM10 (w : World) : Calls Try.prog 111 #[.agg #[.int .i64 1, .int .i64 1, .int .i64 0, .int .i64 0, .string ⟨#[]⟩]] w fun e w' => e = .returned (.string ⟨#[109, 111, 118, 101, 32, 49, 32, 48]⟩) ∧ Below w.heap.size w w' := by
  have hb0 := (Below.refl w.heap.size w).alloc (Nat.le_refl _) (.cells #[.int .i64 1, .int .i64 1, .int .i64 0, .int .i64 0, .string ⟨#[]⟩] 52)
  have hblk := heap_alloc_new w (.cells #[.int .i64 1, .int .i64 1, .int .i64 0, .int .i64 0, .string ⟨#[]⟩] 52)
  obtain ⟨w1, hW⟩ : ∃ B, w.alloc (.cells #[.int .i64 1, .int .i64 1, .int .i64 0, .int .i64 0, .string ⟨#[]⟩] 52) = B := ⟨_, rfl⟩
  have hsz : w1.heap.size = w.heap.size + 1 := by rw [← hW]; simp
  rw [hW] at hb0 hblk
  have cc := (block_cells hblk).1
  have cl := fun (w' : World) (hb : Below w1.heap.size w1 w') (j : Nat) => (hb.cell (p := ⟨w.heap.size, j, none⟩) (by show w.heap.size < w1.heap.size; omega)).trans (cc j)
  have c0 := fun w' hb => (cl w' hb 0)
  have c1 := fun w' hb => (cl w' hb 1)
  have c2 := fun w' hb => (cl w' hb 2)
  have c3 := fun w' hb => (cl w' hb 3)
  simp only [List.getElem?_toArray, List.getElem?_cons_zero, List.getElem?_cons_succ] at c0 c1 c2 c3
  have d0 := c0 w1 (Below.refl _ _)
  have d1 := c1 w1 (Below.refl _ _)
  clear hblk cc cl hsz
  have kN := fun (w' : World) (hb : Below w1.heap.size w1 w') => (names2_any w').mono fun e w'' h => (show e = .returned (.slice (some ⟨w'.heap.size, 0, none⟩) 6 6) ∧ w''.cell? ⟨w'.heap.size, 1, none⟩ = some (.string ⟨#[109, 111, 118, 101]⟩) ∧ w'.heap.size < w''.heap.size ∧ Hid (Below w'.heap.size w' w'') ∧ Below w1.heap.size w1 w'' from ⟨h.1, h.2.1, h.2.2.2.1, Lib.hid h.2.2.2.2, hb.trans (h.2.2.2.2.mono hb.size)⟩)
  have kD0 := fun (w' : World) (hb : Below w1.heap.size w1 w') => (dec0_any w').mono fun e w'' h => (show e = .returned (.string ⟨#[48]⟩) ∧ Hid (Below w'.heap.size w' w'') ∧ Below w1.heap.size w1 w'' from ⟨h.1, Lib.hid h.2, hb.trans (h.2.mono hb.size)⟩)
  have kD1 := fun (w' : World) (hb : Below w1.heap.size w1 w') => (dec1_any w').mono fun e w'' h => (show e = .returned (.string ⟨#[49]⟩) ∧ Hid (Below w'.heap.size w' w'') ∧ Below w1.heap.size w1 w'' from ⟨h.1, Lib.hid h.2, hb.trans (h.2.mono hb.size)⟩)
  go_enter Try.func111, Try.ntmps111
  go_wp2
  go_region_law ((first
    | (go_simp; (with_reducible refine (kN _ (by first | exact hb2 | exact hb1 | exact Below.refl _ _ | exact hb1.drew | exact (Below.refl _ _).drew)).mono ?_); rintro e w4 ⟨rfl, hcN, hltN, hbN, hb4⟩; (first | have hcN : w4.cell? ⟨w2.heap.size, 1, none⟩ = some (.string ⟨#[109, 111, 118, 101]⟩) := hcN | have hcN : w4.cell? ⟨w1.heap.size, 1, none⟩ = some (.string ⟨#[109, 111, 118, 101]⟩) := hcN); have e0 := c0 _ hb4; have e1 := c1 _ hb4)
    | (go_simp; (with_reducible refine (kD1 _ (by first | exact hb4 | exact Below.refl _ _ | exact hb4.drew | exact (Below.refl _ _).drew)).mono ?_); rintro e w2 ⟨rfl, hbD, hb2⟩; have e0 := c0 _ hb2; have e1 := c1 _ hb2; try have hcN := (hbD.out.cell hltN).trans hcN)))
  all_goals (
  have x2 := c2 _ hb2
  have y2 := c2 _ hb4
  go_wp2_with fail
  refine (kD0 _ (by first | exact hb6 | exact hb5 | exact hb2 | exact hb4 | exact hb6.drew | exact hb5.drew | exact hb2.drew | exact hb4.drew)).mono ?_
  rintro e w5 ⟨rfl, hbD5, hb5⟩
  go_wp2
  go_ret
  exact ⟨rfl, hb0.trans (hb5.mono hb0.size)⟩)

set_option maxHeartbeats 4000000 in
theorem textM20 (w : World) : Calls Try.prog 111 #[.agg #[.int .i64 1, .int .i64 2, .int .i64 0, .int .i64 0, .string ⟨#[]⟩]] w fun e w' => e = .returned (.string ⟨#[109, 111, 118, 101, 32, 50, 32, 48]⟩) ∧ Below w.heap.size w w' := by
  have hb0 := (Below.refl w.heap.size w).alloc (Nat.le_refl _) (.cells #[.int .i64 1, .int .i64 2, .int .i64 0, .int .i64 0, .string ⟨#[]⟩] 52)
  have hblk := heap_alloc_new w (.cells #[.int .i64 1, .int .i64 2, .int .i64 0, .int .i64 0, .string ⟨#[]⟩] 52)
  obtain ⟨w1, hW⟩ : ∃ B, w.alloc (.cells #[.int .i64 1, .int .i64 2, .int .i64 0, .int .i64 0, .string ⟨#[]⟩] 52) = B := ⟨_, rfl⟩
  have hsz : w1.heap.size = w.heap.size + 1 := by rw [← hW]; simp
  rw [hW] at hb0 hblk
  have cc := (block_cells hblk).1
  have cl := fun (w' : World) (hb : Below w1.heap.size w1 w') (j : Nat) => (hb.cell (p := ⟨w.heap.size, j, none⟩) (by show w.heap.size < w1.heap.size; omega)).trans (cc j)
  have c0 := fun w' hb => (cl w' hb 0)
  have c1 := fun w' hb => (cl w' hb 1)
  have c2 := fun w' hb => (cl w' hb 2)
  have c3 := fun w' hb => (cl w' hb 3)
  simp only [List.getElem?_toArray, List.getElem?_cons_zero, List.getElem?_cons_succ] at c0 c1 c2 c3
  have d0 := c0 w1 (Below.refl _ _)
  have d1 := c1 w1 (Below.refl _ _)
  clear hblk cc cl hsz
  have kN := fun (w' : World) (hb : Below w1.heap.size w1 w') => (names2_any w').mono fun e w'' h => (show e = .returned (.slice (some ⟨w'.heap.size, 0, none⟩) 6 6) ∧ w''.cell? ⟨w'.heap.size, 1, none⟩ = some (.string ⟨#[109, 111, 118, 101]⟩) ∧ w'.heap.size < w''.heap.size ∧ Hid (Below w'.heap.size w' w'') ∧ Below w1.heap.size w1 w'' from ⟨h.1, h.2.1, h.2.2.2.1, Lib.hid h.2.2.2.2, hb.trans (h.2.2.2.2.mono hb.size)⟩)
  have kD0 := fun (w' : World) (hb : Below w1.heap.size w1 w') => (dec0_any w').mono fun e w'' h => (show e = .returned (.string ⟨#[48]⟩) ∧ Hid (Below w'.heap.size w' w'') ∧ Below w1.heap.size w1 w'' from ⟨h.1, Lib.hid h.2, hb.trans (h.2.mono hb.size)⟩)
  have kD2 := fun (w' : World) (hb : Below w1.heap.size w1 w') => (dec2_any w').mono fun e w'' h => (show e = .returned (.string ⟨#[50]⟩) ∧ Hid (Below w'.heap.size w' w'') ∧ Below w1.heap.size w1 w'' from ⟨h.1, Lib.hid h.2, hb.trans (h.2.mono hb.size)⟩)
  go_enter Try.func111, Try.ntmps111
  go_wp2
  go_region_law ((first
    | (go_simp; (with_reducible refine (kN _ (by first | exact hb2 | exact hb1 | exact Below.refl _ _ | exact hb1.drew | exact (Below.refl _ _).drew)).mono ?_); rintro e w4 ⟨rfl, hcN, hltN, hbN, hb4⟩; (first | have hcN : w4.cell? ⟨w2.heap.size, 1, none⟩ = some (.string ⟨#[109, 111, 118, 101]⟩) := hcN | have hcN : w4.cell? ⟨w1.heap.size, 1, none⟩ = some (.string ⟨#[109, 111, 118, 101]⟩) := hcN); have e0 := c0 _ hb4; have e1 := c1 _ hb4)
    | (go_simp; (with_reducible refine (kD2 _ (by first | exact hb4 | exact Below.refl _ _ | exact hb4.drew | exact (Below.refl _ _).drew)).mono ?_); rintro e w2 ⟨rfl, hbD, hb2⟩; have e0 := c0 _ hb2; have e1 := c1 _ hb2; try have hcN := (hbD.out.cell hltN).trans hcN)))
  all_goals (
  have x2 := c2 _ hb2
  have y2 := c2 _ hb4
  go_wp2_with fail
  refine (kD0 _ (by first | exact hb6 | exact hb5 | exact hb2 | exact hb4 | exact hb6.drew | exact hb5.drew | exact hb2.drew | exact hb4.drew)).mono ?_
  rintro e w5 ⟨rfl, hbD5, hb5⟩
  go_wp2
  go_ret
  exact ⟨rfl, hb0.trans (hb5.mono hb0.size)⟩)

set_option maxHeartbeats 4000000 in
theorem textM01 (w : World) : Calls Try.prog 111 #[.agg #[.int .i64 1, .int .i64 0, .int .i64 1, .int .i64 0, .string ⟨#[]⟩]] w fun e w' => e = .returned (.string ⟨#[109, 111, 118, 101, 32, 48, 32, 49]⟩) ∧ Below w.heap.size w w' := by
  have hb0 := (Below.refl w.heap.size w).alloc (Nat.le_refl _) (.cells #[.int .i64 1, .int .i64 0, .int .i64 1, .int .i64 0, .string ⟨#[]⟩] 52)
  have hblk := heap_alloc_new w (.cells #[.int .i64 1, .int .i64 0, .int .i64 1, .int .i64 0, .string ⟨#[]⟩] 52)
  obtain ⟨w1, hW⟩ : ∃ B, w.alloc (.cells #[.int .i64 1, .int .i64 0, .int .i64 1, .int .i64 0, .string ⟨#[]⟩] 52) = B := ⟨_, rfl⟩
  have hsz : w1.heap.size = w.heap.size + 1 := by rw [← hW]; simp
  rw [hW] at hb0 hblk
  have cc := (block_cells hblk).1
  have cl := fun (w' : World) (hb : Below w1.heap.size w1 w') (j : Nat) => (hb.cell (p := ⟨w.heap.size, j, none⟩) (by show w.heap.size < w1.heap.size; omega)).trans (cc j)
  have c0 := fun w' hb => (cl w' hb 0)
  have c1 := fun w' hb => (cl w' hb 1)
  have c2 := fun w' hb => (cl w' hb 2)
  have c3 := fun w' hb => (cl w' hb 3)
  simp only [List.getElem?_toArray, List.getElem?_cons_zero, List.getElem?_cons_succ] at c0 c1 c2 c3
  have d0 := c0 w1 (Below.refl _ _)
  have d1 := c1 w1 (Below.refl _ _)
  clear hblk cc cl hsz
  have kN := fun (w' : World) (hb : Below w1.heap.size w1 w') => (names2_any w').mono fun e w'' h => (show e = .returned (.slice (some ⟨w'.heap.size, 0, none⟩) 6 6) ∧ w''.cell? ⟨w'.heap.size, 1, none⟩ = some (.string ⟨#[109, 111, 118, 101]⟩) ∧ w'.heap.size < w''.heap.size ∧ Hid (Below w'.heap.size w' w'') ∧ Below w1.heap.size w1 w'' from ⟨h.1, h.2.1, h.2.2.2.1, Lib.hid h.2.2.2.2, hb.trans (h.2.2.2.2.mono hb.size)⟩)
  have kD0 := fun (w' : World) (hb : Below w1.heap.size w1 w') => (dec0_any w').mono fun e w'' h => (show e = .returned (.string ⟨#[48]⟩) ∧ Hid (Below w'.heap.size w' w'') ∧ Below w1.heap.size w1 w'' from ⟨h.1, Lib.hid h.2, hb.trans (h.2.mono hb.size)⟩)
  have kD1 := fun (w' : World) (hb : Below w1.heap.size w1 w') => (dec1_any w').mono fun e w'' h => (show e = .returned (.string ⟨#[49]⟩) ∧ Hid (Below w'.heap.size w' w'') ∧ Below w1.heap.size w1 w'' from ⟨h.1, Lib.hid h.2, hb.trans (h.2.mono hb.size)⟩)
  go_enter Try.func111, Try.ntmps111
  go_wp2
  go_region_law ((first
    | (go_simp; (with_reducible refine (kN _ (by first | exact hb2 | exact hb1 | exact Below.refl _ _ | exact hb1.drew | exact (Below.refl _ _).drew)).mono ?_); rintro e w4 ⟨rfl, hcN, hltN, hbN, hb4⟩; (first | have hcN : w4.cell? ⟨w2.heap.size, 1, none⟩ = some (.string ⟨#[109, 111, 118, 101]⟩) := hcN | have hcN : w4.cell? ⟨w1.heap.size, 1, none⟩ = some (.string ⟨#[109, 111, 118, 101]⟩) := hcN); have e0 := c0 _ hb4; have e1 := c1 _ hb4)
    | (go_simp; (with_reducible refine (kD0 _ (by first | exact hb4 | exact Below.refl _ _ | exact hb4.drew | exact (Below.refl _ _).drew)).mono ?_); rintro e w2 ⟨rfl, hbD, hb2⟩; have e0 := c0 _ hb2; have e1 := c1 _ hb2; try have hcN := (hbD.out.cell hltN).trans hcN)))
  all_goals (
  have x2 := c2 _ hb2
  have y2 := c2 _ hb4
  go_wp2_with fail
  refine (kD1 _ (by first | exact hb6 | exact hb5 | exact hb2 | exact hb4 | exact hb6.drew | exact hb5.drew | exact hb2.drew | exact hb4.drew)).mono ?_
  rintro e w5 ⟨rfl, hbD5, hb5⟩
  go_wp2
  go_ret
  exact ⟨rfl, hb0.trans (hb5.mono hb0.size)⟩)

set_option maxHeartbeats 4000000 in
theorem textC (w : World) : Calls Try.prog 111 #[.agg #[.int .i64 2, .int .i64 0, .int .i64 2, .int .i64 0, .string ⟨#[]⟩]] w fun e w' => e = .returned (.string ⟨#[99, 111, 110, 115, 32, 48, 32, 50, 32, 48]⟩) ∧ Below w.heap.size w w' := by
  have hb0 := (Below.refl w.heap.size w).alloc (Nat.le_refl _) (.cells #[.int .i64 2, .int .i64 0, .int .i64 2, .int .i64 0, .string ⟨#[]⟩] 52)
  have hblk := heap_alloc_new w (.cells #[.int .i64 2, .int .i64 0, .int .i64 2, .int .i64 0, .string ⟨#[]⟩] 52)
  obtain ⟨w1, hW⟩ : ∃ B, w.alloc (.cells #[.int .i64 2, .int .i64 0, .int .i64 2, .int .i64 0, .string ⟨#[]⟩] 52) = B := ⟨_, rfl⟩
  have hsz : w1.heap.size = w.heap.size + 1 := by rw [← hW]; simp
  rw [hW] at hb0 hblk
  have cc := (block_cells hblk).1
  have cl := fun (w' : World) (hb : Below w1.heap.size w1 w') (j : Nat) => (hb.cell (p := ⟨w.heap.size, j, none⟩) (by show w.heap.size < w1.heap.size; omega)).trans (cc j)
  have c0 := fun w' hb => (cl w' hb 0)
  have c1 := fun w' hb => (cl w' hb 1)
  have c2 := fun w' hb => (cl w' hb 2)
  have c3 := fun w' hb => (cl w' hb 3)
  simp only [List.getElem?_toArray, List.getElem?_cons_zero, List.getElem?_cons_succ] at c0 c1 c2 c3
  have d0 := c0 w1 (Below.refl _ _)
  have d1 := c1 w1 (Below.refl _ _)
  clear hblk cc cl hsz
  have kN := fun (w' : World) (hb : Below w1.heap.size w1 w') => (names2_any w').mono fun e w'' h => (show e = .returned (.slice (some ⟨w'.heap.size, 0, none⟩) 6 6) ∧ w''.cell? ⟨w'.heap.size, 2, none⟩ = some (.string ⟨#[99, 111, 110, 115]⟩) ∧ w'.heap.size < w''.heap.size ∧ Hid (Below w'.heap.size w' w'') ∧ Below w1.heap.size w1 w'' from ⟨h.1, h.2.2.1, h.2.2.2.1, Lib.hid h.2.2.2.2, hb.trans (h.2.2.2.2.mono hb.size)⟩)
  have kD0 := fun (w' : World) (hb : Below w1.heap.size w1 w') => (dec0_any w').mono fun e w'' h => (show e = .returned (.string ⟨#[48]⟩) ∧ Hid (Below w'.heap.size w' w'') ∧ Below w1.heap.size w1 w'' from ⟨h.1, Lib.hid h.2, hb.trans (h.2.mono hb.size)⟩)
  have kD2 := fun (w' : World) (hb : Below w1.heap.size w1 w') => (dec2_any w').mono fun e w'' h => (show e = .returned (.string ⟨#[50]⟩) ∧ Hid (Below w'.heap.size w' w'') ∧ Below w1.heap.size w1 w'' from ⟨h.1, Lib.hid h.2, hb.trans (h.2.mono hb.size)⟩)
  go_enter Try.func111, Try.ntmps111
  go_wp2
  go_region_law ((first
    | (go_simp; (with_reducible refine (kN _ (by first | exact hb2 | exact hb1 | exact Below.refl _ _ | exact hb1.drew | exact (Below.refl _ _).drew)).mono ?_); rintro e w4 ⟨rfl, hcN, hltN, hbN, hb4⟩; (first | have hcN : w4.cell? ⟨w2.heap.size, 2, none⟩ = some (.string ⟨#[99, 111, 110, 115]⟩) := hcN | have hcN : w4.cell? ⟨w1.heap.size, 2, none⟩ = some (.string ⟨#[99, 111, 110, 115]⟩) := hcN); have e0 := c0 _ hb4; have e1 := c1 _ hb4)
    | (go_simp; (with_reducible refine (kD0 _ (by first | exact hb4 | exact Below.refl _ _ | exact hb4.drew | exact (Below.refl _ _).drew)).mono ?_); rintro e w2 ⟨rfl, hbD, hb2⟩; have e0 := c0 _ hb2; have e1 := c1 _ hb2; try have hcN := (hbD.out.cell hltN).trans hcN)))
  all_goals (
  have x2 := c2 _ hb2
  have y2 := c2 _ hb4
  have x3 := c3 _ hb2
  have y3 := c3 _ hb4
  go_wp2
  go_region_law ((first
    | (go_simp; (with_reducible refine (kD2 _ (by first | exact hb6 | exact hb5 | exact hb2 | exact hb4 | exact hb6.drew | exact hb5.drew | exact hb2.drew | exact hb4.drew)).mono ?_); rintro e w5 ⟨rfl, hbD5, hb5⟩; have z2 := c2 _ hb5; have z3 := c3 _ hb5)
    | (go_simp; (with_reducible refine (kD0 _ (by first | exact hb6 | exact hb5 | exact hb2 | exact hb4 | exact hb6.drew | exact hb5.drew | exact hb2.drew | exact hb4.drew)).mono ?_); rintro e w6 ⟨rfl, hbD6, hb6⟩; have u2 := c2 _ hb6; have u3 := c3 _ hb6)))
  all_goals (
  go_wp2
  go_ret
  exact ⟨rfl, by first | exact hb0.trans (hb5.mono hb0.size) | exact hb0.trans (hb6.mono hb0.size)⟩))

end Go.Proofs.Ytaiomcjopgnfpaa

namespace Go.Proofs.Ytaiomcjopgnfpaa
open Go.RowKit


def txL : List (List UInt8) := [[109, 111, 118, 101, 32, 49, 32, 48], [109, 111, 118, 101, 32, 50, 32, 48], [109, 111, 118, 101, 32, 48, 32, 49], [99, 111, 110, 115, 32, 48, 32, 50, 32, 48]]
theorem textOf_all (k : Nat) (x : Ins) (t : List UInt8) (hx : (pairL [] [])[k]? = some x) (ht : txL[k]? = some t) (w : World) :
    Calls Try.prog 111 #[.agg #[.int .i64 x.op, .int .i64 x.a, .int .i64 x.b, .int .i64 x.c, .string x.tree]] w fun e w' => e = .returned (.string ⟨t.toArray⟩) ∧ Below w.heap.size w w' := by
  have hp : pairL [] [] = [moveI 1 0, moveI 2 0, moveI 0 1, consI 0 2 0] := by decide
  rw [hp] at hx
  match k, hx, ht with
  | 0, hx, ht => cases hx; cases ht; exact textM10 w
  | 1, hx, ht => cases hx; cases ht; exact textM20 w
  | 2, hx, ht => cases hx; cases ht; exact textM01 w
  | 3, hx, ht => cases hx; cases ht; exact textC w

set_option maxHeartbeats 4000000 in
theorem text_any (v : Value) (l : List Ins) (T : List (List UInt8)) (hlen : l.length = T.length) (htot : (jn T).length ≤ 1000000000)
    (hk : ∀ (k : Nat) (x : Ins) (t : List UInt8), l[k]? = some x → T[k]? = some t → ∀ w : World, Calls Try.prog 111 #[.agg #[.int .i64 x.op, .int .i64 x.a, .int .i64 x.b, .int .i64 x.c, .string x.tree]] w fun e w' => e = .returned (.string ⟨t.toArray⟩) ∧ Below w.heap.size w w')
    (w : World) (hl : InsRow w w.heap.size v l) :
    Calls Try.prog 77 #[v] w fun e w' => e = .returned (.string ⟨(jn T).toArray⟩) ∧ Below w.heap.size w w' := by
  obtain ⟨ao, cap, rfl⟩ := hl.len
  have hb0 := hl.2.1
  obtain ⟨n, hn'⟩ : ∃ n, l.length = n := ⟨_, rfl⟩
  rw [hn'] at hlen hl hb0 ⊢
  have HN := Lib.hid hn'
  have HLT := Lib.hid hlen
  have HL := Lib.hid hl
  have HK := Lib.hid hk
  have HT := Lib.hid htot
  obtain ⟨R, hR⟩ : ∃ r, (⟨(jn T).toArray⟩ : ByteArray) = r := ⟨_, rfl⟩
  rw [hR]
  have HR := Lib.hid hR
  clear hn' hlen hl hk htot hR
  go_enter Try.func77, Try.ntmps77
  go_wp2
  go_loopg [3, 4] n (fun g v i wr => ∃ k m : Nat, k ≤ n ∧ g = n - k ∧ i = .int .i64 k ∧ Aside (m = (jn (T.take k)).length) ∧ Hid (wr.ownsRow w.heap.size 5 1 v m (Lib.byteCells (jn (T.take k))) ∧ Below w.heap.size w wr))
  case atStart => exact ⟨0, 0, Nat.zero_le _, rfl, rfl, rfl, World.ownsRow_nil _ _ _ _, Below.refl _ _⟩
  case round =>
    obtain ⟨k, m, hk, hg, rfl, hm, hP⟩ := hrel
    have HG := Lib.hid hg; clear hg
    have HM := Lib.hid hm.out
    clear hm
    have hmb : m ≤ 1000000000 := by rw [HM.out]; exact Nat.le_trans (jn_mono T k) HT.out
    by_cases hlt : k < n
    · obtain ⟨x, hx⟩ : ∃ s, l[k]? = some s := ⟨_, List.getElem?_eq_getElem (by rw [HN.out]; exact hlt)⟩
      obtain ⟨t, ht⟩ : ∃ s, T[k]? = some s := ⟨_, List.getElem?_eq_getElem (by rw [← HLT.out]; exact hlt)⟩
      have hl2 := HL.out.below hP.out.2
      obtain ⟨g, off, rfl, hg, c0, c1, c2, c3, c4⟩ := hl2.get hx
      have HS := Lib.hid (jn_succ T k ht)
      have hm2 : m + (if k = 0 then 0 else 2) + t.length ≤ 1000000000 := by
        have h1 := Nat.le_trans (jn_mono T (k + 1)) HT.out
        rw [HS.out, List.length_append, List.length_append, ← HM.out] at h1
        split <;> rename_i h <;> simp [h] at h1 <;> omega
      have kt := HK.out k x t hx ht
      have HTX := Lib.hid ht
      have HX := Lib.hid hx
      clear hx hl2 ht
      have hi0 : (0 : Int) ≤ (k : Int) := Int.natCast_nonneg _
      have hi1 : (k : Int) < (n : Int) := by omega
      by_cases h0 : k = 0
      · rw [if_pos h0] at hm2
        rw [if_pos h0] at HS
        have H0 := Lib.hid h0
        have hi2 : ¬ (0 : Int) < (k : Int) := by omega
        clear h0
        go_wp2_with fail
        refine (kt _).mono ?_
        rintro e w1 ⟨rfl, hb1⟩
        have hown := own_below hP.out.1 hb1
        have hb2 := hP.out.2.trans (hb1.mono hP.out.2.size)
        have hsz := hb2.size
        clear hb1 kt c0 c1 c2 c3 c4 hP
        go_wp2_with (at_builtin; refine app_str el_u8 Try.underlying9 rfl _ _ rfl rfl hown ⟨t.toArray⟩ rfl ?c2 hsz hb2 (Nat.le_refl _) ?_)
        case c2 => have : (⟨t.toArray⟩ : ByteArray).size = t.length := by simp [ByteArray.size]
                   omega
        intro v' w' hown' hb'
        have hnew : Hid (w'.ownsRow w.heap.size 5 1 v' (m + t.length) (Lib.byteCells (jn (T.take (k + 1)))) ∧ Below w.heap.size w w') := Lib.hid ⟨by rw [HS.out]; simpa [Lib.byteCells, Lib.strCells, ByteArray.size] using hown', hb'⟩
        have hlen : Hid (m + t.length = (jn (T.take (k + 1))).length) := Lib.hid (by rw [HS.out, HM.out]; simp)
        clear hown hown' hb' hb2 hsz
        go_wp2
        go_roundg (n - (k + 1))
        case measure => rw [HG.out]; omega
        case rel => exact ⟨k + 1, m + t.length, by omega, rfl, by go_num, hlen.out, hnew⟩
      · rw [if_neg h0] at hm2
        have hi2 : (0 : Int) < (k : Int) := by omega
        have H0 := Lib.hid h0
        clear h0
        have hown := hP.out.1
        have hb := hP.out.2
        have hsz := hb.size
        go_wp2_with (at_builtin; refine app_str el_u8 Try.underlying9 rfl _ _ rfl rfl hown ⟨#[59, 32]⟩ rfl ?c2 hsz hb (Nat.le_refl _) ?_)
        case c2 => show m + 2 ≤ _; omega
        intro v1 w1 hown1 hb1
        have hr := HL.out.below hb1
        have HO1 := Lib.hid hown1
        have HB1 := Lib.hid hb1
        clear hown hb hsz hown1 hP c0 c1 c2 c3 c4
        obtain ⟨g2, off2, he, hg2, c0, c1, c2, c3, c4⟩ := hr.get HX.out
        cases he
        clear hr hb1
        go_wp2_with fail
        refine (kt _).mono ?_
        rintro e w2 ⟨rfl, hb2⟩
        have hown := own_below HO1.out hb2
        have hb3 := HB1.out.trans (hb2.mono HB1.out.size)
        have hsz := hb3.size
        clear hb2 kt c0 c1 c2 c3 c4 HO1 HB1
        go_wp2_with (at_builtin; refine app_str el_u8 Try.underlying9 rfl _ _ rfl rfl hown ⟨t.toArray⟩ rfl ?c2 hsz hb3 (Nat.le_refl _) ?_)
        case c2 => have h1 : (⟨t.toArray⟩ : ByteArray).size = t.length := by simp [ByteArray.size]
                   have h2 : (⟨#[59, 32]⟩ : ByteArray).size = 2 := rfl
                   omega
        intro v' w' hown' hb'
        have hnew : Hid (w'.ownsRow w.heap.size 5 1 v' (m + 2 + t.length) (Lib.byteCells (jn (T.take (k + 1)))) ∧ Below w.heap.size w w') := Lib.hid ⟨by rw [HS.out, if_neg H0.out]; simpa [Lib.byteCells, Lib.strCells, ByteArray.size] using hown', hb'⟩
        have hlen : Hid (m + 2 + t.length = (jn (T.take (k + 1))).length) := Lib.hid (by rw [HS.out, HM.out, if_neg H0.out]; simp; omega)
        clear hown hown' hb' hb3 hsz
        go_wp2
        go_roundg (n - (k + 1))
        case measure => rw [HG.out]; omega
        case rel => exact ⟨k + 1, m + 2 + t.length, by omega, rfl, by go_num, hlen.out, hnew⟩
    · have hta : T.take k = T := List.take_of_length_le (by rw [← HLT.out]; omega)
      have hown := hP.out.1
      rw [hta] at hown
      have hcv := own_bytes (P := Try.prog) (jn T) hown 126 Try.underlying126 Try.underlying5 9 Try.underlying9
      have hb := hP.out.2
      clear hown hta hP
      go_wp2
      refine bodyPost_ret (v := .string ⟨(jn T).toArray⟩) (by simp [results, Try.results77, go_sem]) rfl ?_
      exact ⟨by rw [← HR.out], hb⟩
theorem textPair_any (v : Value) (w : World) (hl : InsRow w w.heap.size v (pairL [] [])) : Calls Try.prog 77 #[v] w fun e w' => e = .returned (.string ⟨#[109, 111, 118, 101, 32, 49, 32, 48, 59, 32, 109, 111, 118, 101, 32, 50, 32, 48, 59, 32, 109, 111, 118, 101, 32, 48, 32, 49, 59, 32, 99, 111, 110, 115, 32, 48, 32, 50, 32, 48]⟩) ∧ Below w.heap.size w w' := by
  have h := text_any v (pairL [] []) txL (by decide) (by decide) textOf_all w hl
  rwa [show (⟨(jn txL).toArray⟩ : ByteArray) = ⟨#[109, 111, 118, 101, 32, 49, 32, 48, 59, 32, 109, 111, 118, 101, 32, 50, 32, 48, 59, 32, 109, 111, 118, 101, 32, 48, 32, 49, 59, 32, 99, 111, 110, 115, 32, 48, 32, 50, 32, 48]⟩ by decide] at h

end Go.Proofs.Ytaiomcjopgnfpaa

namespace Go.Proofs.Ytaiomcjopgnfpaa
open Go.RowKit

/-- A program that was made, where an error may be due. -/
def TB (w : World) (B : Nat) (d : Int) (m : List Ins) (v : Value) : Prop := (d = 0 → InsRow w B v m) ∧ (d ≠ 0 → v = .slice none 0 0)
theorem TB.below {w w' : World} {B : Nat} {d : Int} {m : List Ins} {v : Value} (h : TB w B d m v) (hb : Below B w w') : TB w' B d m v := ⟨fun e => (h.1 e).below hb, h.2⟩
theorem TB.mono {w : World} {B B' : Nat} {d : Int} {m : List Ins} {v : Value} (h : TB w B d m v) (hB : B ≤ B') : TB w B' d m v := ⟨fun e => (h.1 e).mono hB, h.2⟩
theorem made_tb {f : Nat} {args : Array Value} {w : World} {d : Int} {m : List Ins} (h : Calls Try.prog f args w (MadeOut w d m)) : Calls Try.prog f args w fun e w' => ∃ v, e = .returned (.tuple #[v, .int .i64 d]) ∧ TB w' w'.heap.size d m v ∧ Below w.heap.size w w' := by
  refine h.mono ?_
  rintro e w' ⟨h1, h2⟩
  by_cases hd : d = 0
  · rw [if_pos hd] at h1
    obtain ⟨v, rfl, h3⟩ := h1
    exact ⟨v, by rw [hd], ⟨fun _ => h3, fun e => absurd hd e⟩, h2⟩
  · rw [if_neg hd] at h1
    exact ⟨_, h1, ⟨fun e => absurd e hd, fun _ => rfl⟩, h2⟩
theorem made_ok {f : Nat} {args : Array Value} {w : World} {ls : List (List Ins)} {m : List Ins} (hd : dueN ls m = 0) (h : Calls Try.prog f args w (MadeOut w (dueN ls m) m)) : Calls Try.prog f args w fun e w' => ∃ v, e = .returned (.tuple #[v, .int .i64 0]) ∧ InsRow w' w'.heap.size v m ∧ Below w.heap.size w w' := by
  rw [hd] at h
  refine (made_tb h).mono ?_
  rintro e w' ⟨v, rfl, h1, h2⟩
  exact ⟨v, rfl, h1.1 rfl, h2⟩
theorem told_any (d : Int) (v mv : Value) (ml : List Ins) (w : World) (h1 : TB w w.heap.size d ml v) (h2 : d = 0 → InsRow w w.heap.size mv ml) :
    Calls Try.prog 24 #[v, .int .i64 d, .int .i64 d, mv] w fun e w' => e = .returned (.bool true) ∧ Below w.heap.size w w' := by
  by_cases hd : d = 0
  · have h3 := h1.1 hd
    have h4 := h2 hd
    subst hd
    exact told_ok v mv ml w h3 h4
  · rw [h1.2 hd]; exact told_bad d hd mv w
theorem row_nil (w : World) (B : Nat) : InsRow w B (.slice none 0 0) [] := ⟨by simp, by simp, .inl ⟨rfl, .inl rfl⟩⟩
theorem returns_ok {l : List Ins} {t : Tr} {x y : ByteArray} (k : Nat) (hr : (goF l 2000 0 (startS t)).run = (y, k, 0)) (hv : validB l = true) (ht : t.size ≤ 2000000) (hS : TS t = x) (v : Value) (w : World) (hl : InsRow w w.heap.size v l) :
    Calls Try.prog 76 #[v, .string x, .string y] w fun e w' => e = .returned (.bool true) ∧ Below w.heap.size w w' := by
  have kr := runOk_at 2000 2000 y k 0 hr hv ht hS rfl (by decide) hl
  go_enter Try.func76, Try.ntmps76
  go_wp2_with fail
  refine kr.mono ?_
  rintro e w1 ⟨rfl, hb1⟩
  go_wp2
  go_ret
  exact ⟨rfl, hb1⟩

theorem thenDue : dueN [[tailI], [tailI]] (thenL [[tailI], [tailI]]) = 0 := by decide +kernel
theorem pairDue : dueN [[], []] (pairL [] []) = 0 := by decide +kernel
theorem whileDue : dueN [[], [tailI]] (whileL [] [tailI]) = 0 := by decide +kernel
def trL (n : Nat) : Tr := match n with | 0 => .nil | n + 1 => .pair .nil (trL n)
theorem runThen : (goF (thenL [[tailI], [tailI]]) 2000 0 (startS (trL 2))).run = (⟨#[48]⟩, 2, 0) := by decide +kernel
theorem runPair : (goF (pairL [] []) 2000 0 (startS (trL 0))).run = (⟨#[49, 48, 48]⟩, 4, 0) := by decide +kernel
theorem runWhile : (goF (whileL [] [tailI]) 2000 0 (startS (trL 3))).run = (⟨#[48]⟩, 23, 0) := by decide +kernel

set_option maxHeartbeats 4000000 in
theorem awake_any (w : World) : Calls Try.prog 26 #[] w fun e w' => e = .returned (.bool true) ∧ Below w.heap.size w w' := by
  have ch := Lib.hid (Below.refl w.heap.size w)
  go_enter Try.func26, Try.ntmps26
  go_wp2_with fail
  refine (tail4_any _).mono ?_
  rintro e w1 ⟨ta, tc, rfl, h1, hq⟩
  have ch := Lib.hid (ch.out.trans (hq.mono ch.out.size))
  clear hq
  have h1 := Lib.hid h1
  go_wp2_with fail
  refine (tail4_any _).mono ?_
  rintro e w2 ⟨ua, uc, rfl, h2, hq⟩
  have h1 := Lib.hid ((h1.out.below hq).mono hq.size)
  have ch := Lib.hid (ch.out.trans (hq.mono ch.out.size))
  clear hq
  have h2 := Lib.hid h2
  go_wp2_with fail
  have hL0 := ProgsRow.lit (w := w2) [.slice ta 1 tc, .slice ua 1 uc] [[tailI], [tailI]] rfl (by simp) (fun j u l hu hl => match j, u, l, hu, hl with | 0, _, _, hu, hl => by cases hu; cases hl; exact h1.out | 1, _, _, hu, hl => by cases hu; cases hl; exact h2.out)
  obtain ⟨w3, hW⟩ : ∃ B, w2.alloc (.cells #[.slice ta 1 tc, .slice ua 1 uc] 25) = B := ⟨_, rfl⟩
  rw [hW]
  have hq : Below w2.heap.size w2 w3 := by rw [← hW]; exact (Below.refl _ _).alloc (Nat.le_refl _) _
  have hL := Lib.hid (show ProgsRow w3 w3.heap.size (.slice (some ⟨w2.heap.size, 0, none⟩) 2 2) [[tailI], [tailI]] by rw [← hW]; exact hL0)
  clear hW hL0
  have h1 := Lib.hid ((h1.out.below hq).mono hq.size)
  have h2 := Lib.hid ((h2.out.below hq).mono hq.size)
  have ch := Lib.hid (ch.out.trans (hq.mono ch.out.size))
  clear hq
  refine (made_ok thenDue (bThen_any _ _ _ _ _ hL.out)).mono ?_
  rintro e w4 ⟨vt, rfl, hT, hq⟩
  have ch := Lib.hid (ch.out.trans (hq.mono ch.out.size))
  clear hq
  have hT := Lib.hid hT
  clear h1 h2 hL
  go_wp2_with fail
  refine (made_ok pairDue (bPair_any _ _ _ _ _ _ [] [] _ (row_nil _ _) (row_nil _ _))).mono ?_
  rintro e w5 ⟨vp, rfl, hP, hq⟩
  have hT := Lib.hid ((hT.out.below hq).mono hq.size)
  have ch := Lib.hid (ch.out.trans (hq.mono ch.out.size))
  clear hq
  have hP := Lib.hid hP
  go_wp2_with fail
  refine (tail4_any _).mono ?_
  rintro e w6 ⟨xa, xc, rfl, h3, hq⟩
  have hT := Lib.hid ((hT.out.below hq).mono hq.size)
  have hP := Lib.hid ((hP.out.below hq).mono hq.size)
  have ch := Lib.hid (ch.out.trans (hq.mono ch.out.size))
  clear hq
  have h3 := Lib.hid h3
  go_wp2_with fail
  refine (made_ok whileDue (bWhile_any _ _ _ _ _ _ [] [tailI] _ (row_nil _ _) h3.out)).mono ?_
  rintro e w7 ⟨vw, rfl, hW, hq⟩
  have hT := Lib.hid ((hT.out.below hq).mono hq.size)
  have hP := Lib.hid ((hP.out.below hq).mono hq.size)
  have h3 := Lib.hid ((h3.out.below hq).mono hq.size)
  have ch := Lib.hid (ch.out.trans (hq.mono ch.out.size))
  clear hq
  have hW := Lib.hid hW
  clear h3
  go_wp2_with fail
  refine (returns_ok 2 runThen (by decide +kernel) (by decide) (by decide) _ _ hT.out).mono ?_
  rintro e w8 ⟨rfl, hq⟩
  have hT := Lib.hid ((hT.out.below hq).mono hq.size)
  have hP := Lib.hid ((hP.out.below hq).mono hq.size)
  have hW := Lib.hid ((hW.out.below hq).mono hq.size)
  have ch := Lib.hid (ch.out.trans (hq.mono ch.out.size))
  clear hq
  go_wp2_with fail
  refine (returns_ok 4 runPair (by decide +kernel) (by decide) (by decide) _ _ hP.out).mono ?_
  rintro e w9 ⟨rfl, hq⟩
  have hT := Lib.hid ((hT.out.below hq).mono hq.size)
  have hP := Lib.hid ((hP.out.below hq).mono hq.size)
  have hW := Lib.hid ((hW.out.below hq).mono hq.size)
  have ch := Lib.hid (ch.out.trans (hq.mono ch.out.size))
  clear hq
  go_wp2_with fail
  refine (textPair_any _ _ hP.out).mono ?_
  rintro e w10 ⟨rfl, hq⟩
  have hT := Lib.hid ((hT.out.below hq).mono hq.size)
  have hP := Lib.hid ((hP.out.below hq).mono hq.size)
  have hW := Lib.hid ((hW.out.below hq).mono hq.size)
  have ch := Lib.hid (ch.out.trans (hq.mono ch.out.size))
  clear hq
  go_wp2_with fail
  refine (returns_ok 23 runWhile (by decide +kernel) (by decide) (by decide) _ _ hW.out).mono ?_
  rintro e w11 ⟨rfl, hq⟩
  have hT := Lib.hid ((hT.out.below hq).mono hq.size)
  have hP := Lib.hid ((hP.out.below hq).mono hq.size)
  have hW := Lib.hid ((hW.out.below hq).mono hq.size)
  have ch := Lib.hid (ch.out.trans (hq.mono ch.out.size))
  clear hq
  go_wp2
  go_ret
  exact ⟨rfl, ch.out⟩

end Go.Proofs.Ytaiomcjopgnfpaa

namespace Go.Proofs.Ytaiomcjopgnfpaa
open Go.RowKit

/-- The fields of an instruction as a tree. -/
def bodyB (x : Ins) : ByteArray :=
  if x.op = 0 then ⟨#[49]⟩ ++ TS (.num x.a.toNat) ++ x.tree
  else if x.op = 2 then ⟨#[49]⟩ ++ TS (.num x.a.toNat) ++ ⟨#[49]⟩ ++ TS (.num x.b.toNat) ++ TS (.num x.c.toNat)
  else if x.op = 5 then (if x.b < 0 then ⟨#[49]⟩ ++ TS (.num x.a.toNat) ++ ⟨#[49, 49, 48, 48]⟩ ++ TS (.num (-x.b).toNat) else ⟨#[49]⟩ ++ TS (.num x.a.toNat) ++ ⟨#[49, 48]⟩ ++ TS (.num x.b.toNat))
  else ⟨#[49]⟩ ++ TS (.num x.a.toNat) ++ TS (.num x.b.toNat)
theorem num_size (n : Nat) : (TS (.num n)).size = 2 * n + 1 := by rw [TS_size, size_num]
theorem cnum_any (n : Nat) (h : n ≤ 100000) (w : World) : Calls Try.prog 123 #[.int .i64 n] w fun e w' => e = .returned (.string (TS (.num n))) ∧ Below w.heap.size w w' := by
  have k1 := fun w => rep_add0 n (by omega) w
  have hc := fun w => repeat10 n (by omega) w
  clear h
  generalize TS (.num n) = r at k1 ⊢
  generalize rep10 n = q at k1 hc
  go_enter Try.func123, Try.ntmps123
  go_wp2_with fail
  refine (hc _).mono ?_
  rintro e w1 ⟨rfl, hb⟩
  go_wp2
  go_ret
  exact ⟨rfl, hb⟩
/-- The same, where the number is given as an integer. -/
theorem cnum_at (i : Int) (n : Nat) (hi : i = n) (h : n ≤ 100000) (r : ByteArray) (hr : TS (.num n) = r) (w0 w : World) (hb : Below w0.heap.size w0 w) : Calls Try.prog 123 #[.int .i64 i] w fun e w' => e = .returned (.string r) ∧ Below w0.heap.size w0 w' := by
  subst hi; subst hr
  exact (cnum_any n h w).mono fun e w' h => ⟨h.1, hb.trans (h.2.mono hb.size)⟩

set_option maxHeartbeats 4000000 in
theorem put_set (op : Int) (b : Int) (c : Int) (t : ByteArray) (ht : t.size ≤ 2000000) (i : Nat) (zi : i ≤ 100000)  (w : World) : Calls Try.prog 144 #[.agg #[.int .i64 op, .int .i64 ((i : Int)), .int .i64 (b), .int .i64 (c), .string t]] w fun e w' => e = .returned (.string (⟨#[49]⟩ ++ TS (.num i) ++ t)) ∧ Below w.heap.size w w' := by
  obtain ⟨ri, hri⟩ : ∃ r, TS (.num i) = r := ⟨_, rfl⟩
  have si : ri.size ≤ 300000 := by rw [← hri, num_size]; omega
  rw [hri]
  obtain ⟨q0, hq0⟩ : ∃ q, (⟨#[49]⟩ ++ ri : ByteArray) = q := ⟨_, rfl⟩
  have sq0 : q0.size ≤ 2000020 := by rw [← hq0, ByteArray.size_append]; have h1 : (⟨#[49]⟩ : ByteArray).size ≤ 10 := (by decide); have h2 : (ri : ByteArray).size ≤ 2000000 := (by omega); omega
  have A0 := fun w => run_string_add_sum (P := Try.prog) (w := w) (⟨#[49]⟩) (ri) (by have h1 : (⟨#[49]⟩ : ByteArray).size ≤ 10 := (by decide); have h2 : (ri : ByteArray).size ≤ 2000000 := (by omega); omega)
  rw [hq0] at A0
  obtain ⟨q1, hq1⟩ : ∃ q, (q0 ++ t : ByteArray) = q := ⟨_, rfl⟩
  have sq1 : q1.size ≤ 4000030 := by rw [← hq1, ByteArray.size_append]; have h1 : (q0 : ByteArray).size ≤ 2000020 := sq0; have h2 : (t : ByteArray).size ≤ 2000000 := (by omega); omega
  have A1 := fun w => run_string_add_sum (P := Try.prog) (w := w) (q0) (t) (by have h1 : (q0 : ByteArray).size ≤ 2000020 := sq0; have h2 : (t : ByteArray).size ≤ 2000000 := (by omega); omega)
  rw [hq1] at A1
  rw [hq0, hq1]
  clear hq0 sq0 hq1 sq1
  have hb0 := (Below.refl w.heap.size w).alloc (Nat.le_refl _) (.cells #[.int .i64 op, .int .i64 ((i : Int)), .int .i64 (b), .int .i64 (c), .string t] 52)
  have hblk := heap_alloc_new w (.cells #[.int .i64 op, .int .i64 ((i : Int)), .int .i64 (b), .int .i64 (c), .string t] 52)
  obtain ⟨w1, hW⟩ : ∃ B, w.alloc (.cells #[.int .i64 op, .int .i64 ((i : Int)), .int .i64 (b), .int .i64 (c), .string t] 52) = B := ⟨_, rfl⟩
  have hsz : w1.heap.size = w.heap.size + 1 := by rw [← hW]; simp
  rw [hW] at hb0 hblk
  have cc := (block_cells hblk).1
  have KK := Lib.hid (fun (w' : World) (hb : Below w1.heap.size w1 w') => (show w'.cell? ⟨w.heap.size, 1, none⟩ = some (.int .i64 ((i : Int))) ∧ w'.cell? ⟨w.heap.size, 2, none⟩ = some (.int .i64 (b)) ∧ w'.cell? ⟨w.heap.size, 3, none⟩ = some (.int .i64 (c)) ∧ w'.cell? ⟨w.heap.size, 4, none⟩ = some (.string t) from
    ⟨(hb.cell (p := ⟨w.heap.size, 1, none⟩) (by show w.heap.size < w1.heap.size; omega)).trans (cc 1), (hb.cell (p := ⟨w.heap.size, 2, none⟩) (by show w.heap.size < w1.heap.size; omega)).trans (cc 2), (hb.cell (p := ⟨w.heap.size, 3, none⟩) (by show w.heap.size < w1.heap.size; omega)).trans (cc 3), (hb.cell (p := ⟨w.heap.size, 4, none⟩) (by show w.heap.size < w1.heap.size; omega)).trans (cc 4)⟩))
  obtain ⟨c1, c2, c3, c4⟩ := KK.out w1 (Below.refl _ _)
  have Ki := Lib.hid (cnum_at ((i : Int)) i rfl zi ri hri w1)
  have HB0 := Lib.hid hb0
  clear hblk cc hsz hb0 hri
  go_enter Try.func144, Try.ntmps144
  go_wp2
  go_region_held3 (fun w' => w'.cell? ⟨w.heap.size, 1, none⟩ = some (.int .i64 ((i : Int))) ∧ w'.cell? ⟨w.heap.size, 2, none⟩ = some (.int .i64 (b)) ∧ w'.cell? ⟨w.heap.size, 3, none⟩ = some (.int .i64 (c)) ∧ w'.cell? ⟨w.heap.size, 4, none⟩ = some (.string t))
    (with_reducible (first | exact KK.out _ hb1 | exact KK.out _ (Below.refl _ _) | exact KK.out _ (Below.refl _ _).drew | fail "keep"))
    ((first | ((with_reducible refine (Ki.out _ (by first | exact hb3 | exact hb2 | exact hb1 | exact Below.refl _ _ | exact hb3.drew | exact hb2.drew | exact hb1.drew | exact (Below.refl _ _).drew)).mono ?_); rintro e v1 ⟨rfl, hb1⟩) | (fail "arm")))
  all_goals (
  go_wp2
  go_ret
  exact ⟨rfl, by first | exact HB0.out.trans (hb1.mono HB0.out.size)⟩)

set_option maxHeartbeats 4000000 in
theorem put_regs (op : Int) (c : Int) (t : ByteArray) (_ht : t.size ≤ 2000000) (i : Nat) (zi : i ≤ 100000) (j : Nat) (zj : j ≤ 100000)  (w : World) : Calls Try.prog 164 #[.agg #[.int .i64 op, .int .i64 ((i : Int)), .int .i64 ((j : Int)), .int .i64 (c), .string t]] w fun e w' => e = .returned (.string (⟨#[49]⟩ ++ TS (.num i) ++ TS (.num j))) ∧ Below w.heap.size w w' := by
  obtain ⟨ri, hri⟩ : ∃ r, TS (.num i) = r := ⟨_, rfl⟩
  have si : ri.size ≤ 300000 := by rw [← hri, num_size]; omega
  obtain ⟨rj, hrj⟩ : ∃ r, TS (.num j) = r := ⟨_, rfl⟩
  have sj : rj.size ≤ 300000 := by rw [← hrj, num_size]; omega
  rw [hri, hrj]
  obtain ⟨q0, hq0⟩ : ∃ q, (⟨#[49]⟩ ++ ri : ByteArray) = q := ⟨_, rfl⟩
  have sq0 : q0.size ≤ 2000020 := by rw [← hq0, ByteArray.size_append]; have h1 : (⟨#[49]⟩ : ByteArray).size ≤ 10 := (by decide); have h2 : (ri : ByteArray).size ≤ 2000000 := (by omega); omega
  have A0 := fun w => run_string_add_sum (P := Try.prog) (w := w) (⟨#[49]⟩) (ri) (by have h1 : (⟨#[49]⟩ : ByteArray).size ≤ 10 := (by decide); have h2 : (ri : ByteArray).size ≤ 2000000 := (by omega); omega)
  rw [hq0] at A0
  obtain ⟨q1, hq1⟩ : ∃ q, (q0 ++ rj : ByteArray) = q := ⟨_, rfl⟩
  have sq1 : q1.size ≤ 4000030 := by rw [← hq1, ByteArray.size_append]; have h1 : (q0 : ByteArray).size ≤ 2000020 := sq0; have h2 : (rj : ByteArray).size ≤ 2000000 := (by omega); omega
  have A1 := fun w => run_string_add_sum (P := Try.prog) (w := w) (q0) (rj) (by have h1 : (q0 : ByteArray).size ≤ 2000020 := sq0; have h2 : (rj : ByteArray).size ≤ 2000000 := (by omega); omega)
  rw [hq1] at A1
  rw [hq0, hq1]
  clear hq0 sq0 hq1 sq1
  have hb0 := (Below.refl w.heap.size w).alloc (Nat.le_refl _) (.cells #[.int .i64 op, .int .i64 ((i : Int)), .int .i64 ((j : Int)), .int .i64 (c), .string t] 52)
  have hblk := heap_alloc_new w (.cells #[.int .i64 op, .int .i64 ((i : Int)), .int .i64 ((j : Int)), .int .i64 (c), .string t] 52)
  obtain ⟨w1, hW⟩ : ∃ B, w.alloc (.cells #[.int .i64 op, .int .i64 ((i : Int)), .int .i64 ((j : Int)), .int .i64 (c), .string t] 52) = B := ⟨_, rfl⟩
  have hsz : w1.heap.size = w.heap.size + 1 := by rw [← hW]; simp
  rw [hW] at hb0 hblk
  have cc := (block_cells hblk).1
  have KK := Lib.hid (fun (w' : World) (hb : Below w1.heap.size w1 w') => (show w'.cell? ⟨w.heap.size, 1, none⟩ = some (.int .i64 ((i : Int))) ∧ w'.cell? ⟨w.heap.size, 2, none⟩ = some (.int .i64 ((j : Int))) ∧ w'.cell? ⟨w.heap.size, 3, none⟩ = some (.int .i64 (c)) ∧ w'.cell? ⟨w.heap.size, 4, none⟩ = some (.string t) from
    ⟨(hb.cell (p := ⟨w.heap.size, 1, none⟩) (by show w.heap.size < w1.heap.size; omega)).trans (cc 1), (hb.cell (p := ⟨w.heap.size, 2, none⟩) (by show w.heap.size < w1.heap.size; omega)).trans (cc 2), (hb.cell (p := ⟨w.heap.size, 3, none⟩) (by show w.heap.size < w1.heap.size; omega)).trans (cc 3), (hb.cell (p := ⟨w.heap.size, 4, none⟩) (by show w.heap.size < w1.heap.size; omega)).trans (cc 4)⟩))
  obtain ⟨c1, c2, c3, c4⟩ := KK.out w1 (Below.refl _ _)
  have Ki := Lib.hid (cnum_at ((i : Int)) i rfl zi ri hri w1)
  have Kj := Lib.hid (cnum_at ((j : Int)) j rfl zj rj hrj w1)
  have HB0 := Lib.hid hb0
  clear hblk cc hsz hb0 hri hrj
  go_enter Try.func164, Try.ntmps164
  go_wp2
  go_region_held3 (fun w' => w'.cell? ⟨w.heap.size, 1, none⟩ = some (.int .i64 ((i : Int))) ∧ w'.cell? ⟨w.heap.size, 2, none⟩ = some (.int .i64 ((j : Int))) ∧ w'.cell? ⟨w.heap.size, 3, none⟩ = some (.int .i64 (c)) ∧ w'.cell? ⟨w.heap.size, 4, none⟩ = some (.string t))
    (with_reducible (first | exact KK.out _ hb2 | exact KK.out _ hb1 | exact KK.out _ (Below.refl _ _) | exact KK.out _ (Below.refl _ _).drew | fail "keep"))
    ((first | ((with_reducible refine (Ki.out _ (by first | exact hb3 | exact hb2 | exact hb1 | exact Below.refl _ _ | exact hb3.drew | exact hb2.drew | exact hb1.drew | exact (Below.refl _ _).drew)).mono ?_); rintro e v1 ⟨rfl, hb1⟩) | ((with_reducible refine (Kj.out _ (by first | exact hb3 | exact hb2 | exact hb1 | exact Below.refl _ _ | exact hb3.drew | exact hb2.drew | exact hb1.drew | exact (Below.refl _ _).drew)).mono ?_); rintro e v2 ⟨rfl, hb2⟩) | (fail "arm")))
  all_goals (
  go_wp2
  go_ret
  exact ⟨rfl, by first | exact HB0.out.trans (hb2.mono HB0.out.size) | exact HB0.out.trans (hb1.mono HB0.out.size)⟩)

set_option maxHeartbeats 4000000 in
theorem put_cons (op : Int) (t : ByteArray) (_ht : t.size ≤ 2000000) (i : Nat) (zi : i ≤ 100000) (j : Nat) (zj : j ≤ 100000) (k : Nat) (zk : k ≤ 100000)  (w : World) : Calls Try.prog 148 #[.agg #[.int .i64 op, .int .i64 ((i : Int)), .int .i64 ((j : Int)), .int .i64 ((k : Int)), .string t]] w fun e w' => e = .returned (.string (⟨#[49]⟩ ++ TS (.num i) ++ ⟨#[49]⟩ ++ TS (.num j) ++ TS (.num k))) ∧ Below w.heap.size w w' := by
  obtain ⟨ri, hri⟩ : ∃ r, TS (.num i) = r := ⟨_, rfl⟩
  have si : ri.size ≤ 300000 := by rw [← hri, num_size]; omega
  obtain ⟨rj, hrj⟩ : ∃ r, TS (.num j) = r := ⟨_, rfl⟩
  have sj : rj.size ≤ 300000 := by rw [← hrj, num_size]; omega
  obtain ⟨rk, hrk⟩ : ∃ r, TS (.num k) = r := ⟨_, rfl⟩
  have sk : rk.size ≤ 300000 := by rw [← hrk, num_size]; omega
  rw [hri, hrj, hrk]
  obtain ⟨q0, hq0⟩ : ∃ q, (⟨#[49]⟩ ++ ri : ByteArray) = q := ⟨_, rfl⟩
  have sq0 : q0.size ≤ 2000020 := by rw [← hq0, ByteArray.size_append]; have h1 : (⟨#[49]⟩ : ByteArray).size ≤ 10 := (by decide); have h2 : (ri : ByteArray).size ≤ 2000000 := (by omega); omega
  have A0 := fun w => run_string_add_sum (P := Try.prog) (w := w) (⟨#[49]⟩) (ri) (by have h1 : (⟨#[49]⟩ : ByteArray).size ≤ 10 := (by decide); have h2 : (ri : ByteArray).size ≤ 2000000 := (by omega); omega)
  rw [hq0] at A0
  obtain ⟨q1, hq1⟩ : ∃ q, (q0 ++ ⟨#[49]⟩ : ByteArray) = q := ⟨_, rfl⟩
  have sq1 : q1.size ≤ 4000030 := by rw [← hq1, ByteArray.size_append]; have h1 : (q0 : ByteArray).size ≤ 2000020 := sq0; have h2 : (⟨#[49]⟩ : ByteArray).size ≤ 2000000 := (by decide); omega
  have A1 := fun w => run_string_add_sum (P := Try.prog) (w := w) (q0) (⟨#[49]⟩) (by have h1 : (q0 : ByteArray).size ≤ 2000020 := sq0; have h2 : (⟨#[49]⟩ : ByteArray).size ≤ 2000000 := (by decide); omega)
  rw [hq1] at A1
  obtain ⟨q2, hq2⟩ : ∃ q, (q1 ++ rj : ByteArray) = q := ⟨_, rfl⟩
  have sq2 : q2.size ≤ 6000040 := by rw [← hq2, ByteArray.size_append]; have h1 : (q1 : ByteArray).size ≤ 4000030 := sq1; have h2 : (rj : ByteArray).size ≤ 2000000 := (by omega); omega
  have A2 := fun w => run_string_add_sum (P := Try.prog) (w := w) (q1) (rj) (by have h1 : (q1 : ByteArray).size ≤ 4000030 := sq1; have h2 : (rj : ByteArray).size ≤ 2000000 := (by omega); omega)
  rw [hq2] at A2
  obtain ⟨q3, hq3⟩ : ∃ q, (q2 ++ rk : ByteArray) = q := ⟨_, rfl⟩
  have sq3 : q3.size ≤ 8000050 := by rw [← hq3, ByteArray.size_append]; have h1 : (q2 : ByteArray).size ≤ 6000040 := sq2; have h2 : (rk : ByteArray).size ≤ 2000000 := (by omega); omega
  have A3 := fun w => run_string_add_sum (P := Try.prog) (w := w) (q2) (rk) (by have h1 : (q2 : ByteArray).size ≤ 6000040 := sq2; have h2 : (rk : ByteArray).size ≤ 2000000 := (by omega); omega)
  rw [hq3] at A3
  rw [hq0, hq1, hq2, hq3]
  clear hq0 sq0 hq1 sq1 hq2 sq2 hq3 sq3
  have hb0 := (Below.refl w.heap.size w).alloc (Nat.le_refl _) (.cells #[.int .i64 op, .int .i64 ((i : Int)), .int .i64 ((j : Int)), .int .i64 ((k : Int)), .string t] 52)
  have hblk := heap_alloc_new w (.cells #[.int .i64 op, .int .i64 ((i : Int)), .int .i64 ((j : Int)), .int .i64 ((k : Int)), .string t] 52)
  obtain ⟨w1, hW⟩ : ∃ B, w.alloc (.cells #[.int .i64 op, .int .i64 ((i : Int)), .int .i64 ((j : Int)), .int .i64 ((k : Int)), .string t] 52) = B := ⟨_, rfl⟩
  have hsz : w1.heap.size = w.heap.size + 1 := by rw [← hW]; simp
  rw [hW] at hb0 hblk
  have cc := (block_cells hblk).1
  have KK := Lib.hid (fun (w' : World) (hb : Below w1.heap.size w1 w') => (show w'.cell? ⟨w.heap.size, 1, none⟩ = some (.int .i64 ((i : Int))) ∧ w'.cell? ⟨w.heap.size, 2, none⟩ = some (.int .i64 ((j : Int))) ∧ w'.cell? ⟨w.heap.size, 3, none⟩ = some (.int .i64 ((k : Int))) ∧ w'.cell? ⟨w.heap.size, 4, none⟩ = some (.string t) from
    ⟨(hb.cell (p := ⟨w.heap.size, 1, none⟩) (by show w.heap.size < w1.heap.size; omega)).trans (cc 1), (hb.cell (p := ⟨w.heap.size, 2, none⟩) (by show w.heap.size < w1.heap.size; omega)).trans (cc 2), (hb.cell (p := ⟨w.heap.size, 3, none⟩) (by show w.heap.size < w1.heap.size; omega)).trans (cc 3), (hb.cell (p := ⟨w.heap.size, 4, none⟩) (by show w.heap.size < w1.heap.size; omega)).trans (cc 4)⟩))
  obtain ⟨c1, c2, c3, c4⟩ := KK.out w1 (Below.refl _ _)
  have Ki := Lib.hid (cnum_at ((i : Int)) i rfl zi ri hri w1)
  have Kj := Lib.hid (cnum_at ((j : Int)) j rfl zj rj hrj w1)
  have Kk := Lib.hid (cnum_at ((k : Int)) k rfl zk rk hrk w1)
  have HB0 := Lib.hid hb0
  clear hblk cc hsz hb0 hri hrj hrk
  go_enter Try.func148, Try.ntmps148
  go_wp2
  go_region_held3 (fun w' => w'.cell? ⟨w.heap.size, 1, none⟩ = some (.int .i64 ((i : Int))) ∧ w'.cell? ⟨w.heap.size, 2, none⟩ = some (.int .i64 ((j : Int))) ∧ w'.cell? ⟨w.heap.size, 3, none⟩ = some (.int .i64 ((k : Int))) ∧ w'.cell? ⟨w.heap.size, 4, none⟩ = some (.string t))
    (with_reducible (first | exact KK.out _ hb3 | exact KK.out _ hb2 | exact KK.out _ hb1 | exact KK.out _ (Below.refl _ _) | exact KK.out _ (Below.refl _ _).drew | fail "keep"))
    ((first | ((with_reducible refine (Ki.out _ (by first | exact hb3 | exact hb2 | exact hb1 | exact Below.refl _ _ | exact hb3.drew | exact hb2.drew | exact hb1.drew | exact (Below.refl _ _).drew)).mono ?_); rintro e v1 ⟨rfl, hb1⟩) | ((with_reducible refine (Kj.out _ (by first | exact hb3 | exact hb2 | exact hb1 | exact Below.refl _ _ | exact hb3.drew | exact hb2.drew | exact hb1.drew | exact (Below.refl _ _).drew)).mono ?_); rintro e v2 ⟨rfl, hb2⟩) | ((with_reducible refine (Kk.out _ (by first | exact hb3 | exact hb2 | exact hb1 | exact Below.refl _ _ | exact hb3.drew | exact hb2.drew | exact hb1.drew | exact (Below.refl _ _).drew)).mono ?_); rintro e v3 ⟨rfl, hb3⟩) | (fail "arm")))
  all_goals (
  go_wp2
  go_ret
  exact ⟨rfl, by first | exact HB0.out.trans (hb3.mono HB0.out.size) | exact HB0.out.trans (hb2.mono HB0.out.size) | exact HB0.out.trans (hb1.mono HB0.out.size)⟩)

set_option maxHeartbeats 4000000 in
theorem put_back (op : Int) (c : Int) (t : ByteArray) (_ht : t.size ≤ 2000000) (i : Nat) (zi : i ≤ 100000) (j : Nat) (zj : j ≤ 100000) (hneg : 0 < j) (w : World) : Calls Try.prog 150 #[.agg #[.int .i64 op, .int .i64 ((i : Int)), .int .i64 (-(j : Int)), .int .i64 (c), .string t]] w fun e w' => e = .returned (.string (⟨#[49]⟩ ++ TS (.num i) ++ ⟨#[49, 49, 48, 48]⟩ ++ TS (.num j))) ∧ Below w.heap.size w w' := by
  obtain ⟨ri, hri⟩ : ∃ r, TS (.num i) = r := ⟨_, rfl⟩
  have si : ri.size ≤ 300000 := by rw [← hri, num_size]; omega
  obtain ⟨rj, hrj⟩ : ∃ r, TS (.num j) = r := ⟨_, rfl⟩
  have sj : rj.size ≤ 300000 := by rw [← hrj, num_size]; omega
  rw [hri, hrj]
  obtain ⟨q0, hq0⟩ : ∃ q, (⟨#[49]⟩ ++ ri : ByteArray) = q := ⟨_, rfl⟩
  have sq0 : q0.size ≤ 2000020 := by rw [← hq0, ByteArray.size_append]; have h1 : (⟨#[49]⟩ : ByteArray).size ≤ 10 := (by decide); have h2 : (ri : ByteArray).size ≤ 2000000 := (by omega); omega
  have A0 := fun w => run_string_add_sum (P := Try.prog) (w := w) (⟨#[49]⟩) (ri) (by have h1 : (⟨#[49]⟩ : ByteArray).size ≤ 10 := (by decide); have h2 : (ri : ByteArray).size ≤ 2000000 := (by omega); omega)
  rw [hq0] at A0
  obtain ⟨q1, hq1⟩ : ∃ q, (q0 ++ ⟨#[49, 49, 48, 48]⟩ : ByteArray) = q := ⟨_, rfl⟩
  have sq1 : q1.size ≤ 4000030 := by rw [← hq1, ByteArray.size_append]; have h1 : (q0 : ByteArray).size ≤ 2000020 := sq0; have h2 : (⟨#[49, 49, 48, 48]⟩ : ByteArray).size ≤ 2000000 := (by decide); omega
  have A1 := fun w => run_string_add_sum (P := Try.prog) (w := w) (q0) (⟨#[49, 49, 48, 48]⟩) (by have h1 : (q0 : ByteArray).size ≤ 2000020 := sq0; have h2 : (⟨#[49, 49, 48, 48]⟩ : ByteArray).size ≤ 2000000 := (by decide); omega)
  rw [hq1] at A1
  obtain ⟨q2, hq2⟩ : ∃ q, (q1 ++ rj : ByteArray) = q := ⟨_, rfl⟩
  have sq2 : q2.size ≤ 6000040 := by rw [← hq2, ByteArray.size_append]; have h1 : (q1 : ByteArray).size ≤ 4000030 := sq1; have h2 : (rj : ByteArray).size ≤ 2000000 := (by omega); omega
  have A2 := fun w => run_string_add_sum (P := Try.prog) (w := w) (q1) (rj) (by have h1 : (q1 : ByteArray).size ≤ 4000030 := sq1; have h2 : (rj : ByteArray).size ≤ 2000000 := (by omega); omega)
  rw [hq2] at A2
  rw [hq0, hq1, hq2]
  clear hq0 sq0 hq1 sq1 hq2 sq2
  have hb0 := (Below.refl w.heap.size w).alloc (Nat.le_refl _) (.cells #[.int .i64 op, .int .i64 ((i : Int)), .int .i64 (-(j : Int)), .int .i64 (c), .string t] 52)
  have hblk := heap_alloc_new w (.cells #[.int .i64 op, .int .i64 ((i : Int)), .int .i64 (-(j : Int)), .int .i64 (c), .string t] 52)
  obtain ⟨w1, hW⟩ : ∃ B, w.alloc (.cells #[.int .i64 op, .int .i64 ((i : Int)), .int .i64 (-(j : Int)), .int .i64 (c), .string t] 52) = B := ⟨_, rfl⟩
  have hsz : w1.heap.size = w.heap.size + 1 := by rw [← hW]; simp
  rw [hW] at hb0 hblk
  have cc := (block_cells hblk).1
  have KK := Lib.hid (fun (w' : World) (hb : Below w1.heap.size w1 w') => (show w'.cell? ⟨w.heap.size, 1, none⟩ = some (.int .i64 ((i : Int))) ∧ w'.cell? ⟨w.heap.size, 2, none⟩ = some (.int .i64 (-(j : Int))) ∧ w'.cell? ⟨w.heap.size, 3, none⟩ = some (.int .i64 (c)) ∧ w'.cell? ⟨w.heap.size, 4, none⟩ = some (.string t) from
    ⟨(hb.cell (p := ⟨w.heap.size, 1, none⟩) (by show w.heap.size < w1.heap.size; omega)).trans (cc 1), (hb.cell (p := ⟨w.heap.size, 2, none⟩) (by show w.heap.size < w1.heap.size; omega)).trans (cc 2), (hb.cell (p := ⟨w.heap.size, 3, none⟩) (by show w.heap.size < w1.heap.size; omega)).trans (cc 3), (hb.cell (p := ⟨w.heap.size, 4, none⟩) (by show w.heap.size < w1.heap.size; omega)).trans (cc 4)⟩))
  obtain ⟨c1, c2, c3, c4⟩ := KK.out w1 (Below.refl _ _)
  have Ki := Lib.hid (cnum_at ((i : Int)) i rfl zi ri hri w1)
  have Kj := Lib.hid (cnum_at ((j : Int)) j rfl zj rj hrj w1)
  have Kn := Lib.hid (cnum_at (IntKind.i64.wrap (j : Int)) j (IntWalk.i64_in _ (by omega)) zj rj hrj w1)
  have HB0 := Lib.hid hb0
  clear hblk cc hsz hb0 hri hrj
  have hnegI : -(j : Int) < 0 := by omega
  go_enter Try.func150, Try.ntmps150
  go_wp2
  go_region_held3 (fun w' => w'.cell? ⟨w.heap.size, 1, none⟩ = some (.int .i64 ((i : Int))) ∧ w'.cell? ⟨w.heap.size, 2, none⟩ = some (.int .i64 (-(j : Int))) ∧ w'.cell? ⟨w.heap.size, 3, none⟩ = some (.int .i64 (c)) ∧ w'.cell? ⟨w.heap.size, 4, none⟩ = some (.string t))
    (with_reducible (first | exact KK.out _ hb2 | exact KK.out _ hb1 | exact KK.out _ (Below.refl _ _) | exact KK.out _ (Below.refl _ _).drew | fail "keep"))
    ((first | ((with_reducible refine (Ki.out _ (by first | exact hb3 | exact hb2 | exact hb1 | exact Below.refl _ _ | exact hb3.drew | exact hb2.drew | exact hb1.drew | exact (Below.refl _ _).drew)).mono ?_); rintro e v1 ⟨rfl, hb1⟩) | ((with_reducible refine (Kj.out _ (by first | exact hb3 | exact hb2 | exact hb1 | exact Below.refl _ _ | exact hb3.drew | exact hb2.drew | exact hb1.drew | exact (Below.refl _ _).drew)).mono ?_); rintro e v2 ⟨rfl, hb2⟩) | ((with_reducible refine (Kn.out _ (by first | exact hb3 | exact hb2 | exact hb1 | exact Below.refl _ _ | exact hb3.drew | exact hb2.drew | exact hb1.drew | exact (Below.refl _ _).drew)).mono ?_); rintro e v2 ⟨rfl, hb2⟩) | (fail "arm")))
  all_goals (
  go_wp2
  go_ret
  exact ⟨rfl, by first | exact HB0.out.trans (hb2.mono HB0.out.size) | exact HB0.out.trans (hb1.mono HB0.out.size)⟩)

set_option maxHeartbeats 4000000 in
theorem put_on (op : Int) (c : Int) (t : ByteArray) (_ht : t.size ≤ 2000000) (i : Nat) (zi : i ≤ 100000) (j : Nat) (zj : j ≤ 100000)  (w : World) : Calls Try.prog 150 #[.agg #[.int .i64 op, .int .i64 ((i : Int)), .int .i64 ((j : Int)), .int .i64 (c), .string t]] w fun e w' => e = .returned (.string (⟨#[49]⟩ ++ TS (.num i) ++ ⟨#[49, 48]⟩ ++ TS (.num j))) ∧ Below w.heap.size w w' := by
  obtain ⟨ri, hri⟩ : ∃ r, TS (.num i) = r := ⟨_, rfl⟩
  have si : ri.size ≤ 300000 := by rw [← hri, num_size]; omega
  obtain ⟨rj, hrj⟩ : ∃ r, TS (.num j) = r := ⟨_, rfl⟩
  have sj : rj.size ≤ 300000 := by rw [← hrj, num_size]; omega
  rw [hri, hrj]
  obtain ⟨q0, hq0⟩ : ∃ q, (⟨#[49]⟩ ++ ri : ByteArray) = q := ⟨_, rfl⟩
  have sq0 : q0.size ≤ 2000020 := by rw [← hq0, ByteArray.size_append]; have h1 : (⟨#[49]⟩ : ByteArray).size ≤ 10 := (by decide); have h2 : (ri : ByteArray).size ≤ 2000000 := (by omega); omega
  have A0 := fun w => run_string_add_sum (P := Try.prog) (w := w) (⟨#[49]⟩) (ri) (by have h1 : (⟨#[49]⟩ : ByteArray).size ≤ 10 := (by decide); have h2 : (ri : ByteArray).size ≤ 2000000 := (by omega); omega)
  rw [hq0] at A0
  obtain ⟨q1, hq1⟩ : ∃ q, (q0 ++ ⟨#[49, 48]⟩ : ByteArray) = q := ⟨_, rfl⟩
  have sq1 : q1.size ≤ 4000030 := by rw [← hq1, ByteArray.size_append]; have h1 : (q0 : ByteArray).size ≤ 2000020 := sq0; have h2 : (⟨#[49, 48]⟩ : ByteArray).size ≤ 2000000 := (by decide); omega
  have A1 := fun w => run_string_add_sum (P := Try.prog) (w := w) (q0) (⟨#[49, 48]⟩) (by have h1 : (q0 : ByteArray).size ≤ 2000020 := sq0; have h2 : (⟨#[49, 48]⟩ : ByteArray).size ≤ 2000000 := (by decide); omega)
  rw [hq1] at A1
  obtain ⟨q2, hq2⟩ : ∃ q, (q1 ++ rj : ByteArray) = q := ⟨_, rfl⟩
  have sq2 : q2.size ≤ 6000040 := by rw [← hq2, ByteArray.size_append]; have h1 : (q1 : ByteArray).size ≤ 4000030 := sq1; have h2 : (rj : ByteArray).size ≤ 2000000 := (by omega); omega
  have A2 := fun w => run_string_add_sum (P := Try.prog) (w := w) (q1) (rj) (by have h1 : (q1 : ByteArray).size ≤ 4000030 := sq1; have h2 : (rj : ByteArray).size ≤ 2000000 := (by omega); omega)
  rw [hq2] at A2
  rw [hq0, hq1, hq2]
  clear hq0 sq0 hq1 sq1 hq2 sq2
  have hb0 := (Below.refl w.heap.size w).alloc (Nat.le_refl _) (.cells #[.int .i64 op, .int .i64 ((i : Int)), .int .i64 ((j : Int)), .int .i64 (c), .string t] 52)
  have hblk := heap_alloc_new w (.cells #[.int .i64 op, .int .i64 ((i : Int)), .int .i64 ((j : Int)), .int .i64 (c), .string t] 52)
  obtain ⟨w1, hW⟩ : ∃ B, w.alloc (.cells #[.int .i64 op, .int .i64 ((i : Int)), .int .i64 ((j : Int)), .int .i64 (c), .string t] 52) = B := ⟨_, rfl⟩
  have hsz : w1.heap.size = w.heap.size + 1 := by rw [← hW]; simp
  rw [hW] at hb0 hblk
  have cc := (block_cells hblk).1
  have KK := Lib.hid (fun (w' : World) (hb : Below w1.heap.size w1 w') => (show w'.cell? ⟨w.heap.size, 1, none⟩ = some (.int .i64 ((i : Int))) ∧ w'.cell? ⟨w.heap.size, 2, none⟩ = some (.int .i64 ((j : Int))) ∧ w'.cell? ⟨w.heap.size, 3, none⟩ = some (.int .i64 (c)) ∧ w'.cell? ⟨w.heap.size, 4, none⟩ = some (.string t) from
    ⟨(hb.cell (p := ⟨w.heap.size, 1, none⟩) (by show w.heap.size < w1.heap.size; omega)).trans (cc 1), (hb.cell (p := ⟨w.heap.size, 2, none⟩) (by show w.heap.size < w1.heap.size; omega)).trans (cc 2), (hb.cell (p := ⟨w.heap.size, 3, none⟩) (by show w.heap.size < w1.heap.size; omega)).trans (cc 3), (hb.cell (p := ⟨w.heap.size, 4, none⟩) (by show w.heap.size < w1.heap.size; omega)).trans (cc 4)⟩))
  obtain ⟨c1, c2, c3, c4⟩ := KK.out w1 (Below.refl _ _)
  have Ki := Lib.hid (cnum_at ((i : Int)) i rfl zi ri hri w1)
  have Kj := Lib.hid (cnum_at ((j : Int)) j rfl zj rj hrj w1)
  have HB0 := Lib.hid hb0
  clear hblk cc hsz hb0 hri hrj
  have hnegI : ¬ (j : Int) < 0 := by omega
  go_enter Try.func150, Try.ntmps150
  go_wp2
  go_region_held3 (fun w' => w'.cell? ⟨w.heap.size, 1, none⟩ = some (.int .i64 ((i : Int))) ∧ w'.cell? ⟨w.heap.size, 2, none⟩ = some (.int .i64 ((j : Int))) ∧ w'.cell? ⟨w.heap.size, 3, none⟩ = some (.int .i64 (c)) ∧ w'.cell? ⟨w.heap.size, 4, none⟩ = some (.string t))
    (with_reducible (first | exact KK.out _ hb2 | exact KK.out _ hb1 | exact KK.out _ (Below.refl _ _) | exact KK.out _ (Below.refl _ _).drew | fail "keep"))
    ((first | ((with_reducible refine (Ki.out _ (by first | exact hb3 | exact hb2 | exact hb1 | exact Below.refl _ _ | exact hb3.drew | exact hb2.drew | exact hb1.drew | exact (Below.refl _ _).drew)).mono ?_); rintro e v1 ⟨rfl, hb1⟩) | ((with_reducible refine (Kj.out _ (by first | exact hb3 | exact hb2 | exact hb1 | exact Below.refl _ _ | exact hb3.drew | exact hb2.drew | exact hb1.drew | exact (Below.refl _ _).drew)).mono ?_); rintro e v2 ⟨rfl, hb2⟩) | (fail "arm")))
  all_goals (
  go_wp2
  go_ret
  exact ⟨rfl, by first | exact HB0.out.trans (hb2.mono HB0.out.size) | exact HB0.out.trans (hb1.mono HB0.out.size)⟩)

end Go.Proofs.Ytaiomcjopgnfpaa

namespace Go.Proofs.Ytaiomcjopgnfpaa
open Go.RowKit

theorem regs_any (w : World) : Calls Try.prog 152 #[] w fun e w' => e = .returned (.agg #[.func (.func 164) #[] #[], .func (.func 165) #[] #[]]) ∧ Below w.heap.size w w' := by
  have hb0 := (Below.refl w.heap.size w).alloc (Nat.le_refl _) (.cells #[.func (.func 164) #[] #[], .func (.func 165) #[] #[]] 149)
  go_enter Try.func152, Try.ntmps152
  go_wp2
  refine bodyPost_ret (v := .agg #[.func (.func 164) #[] #[], .func (.func 165) #[] #[]]) (by simp [results, Try.results152, go_sem]) rfl ?_
  exact ⟨rfl, hb0⟩

set_option maxRecDepth 20000 in
theorem fields_set (w : World) : Calls Try.prog 124 #[.int .i64 0] w fun e w' => ∃ g, e = .returned (.agg #[.func (.func 144) #[] #[], g]) ∧ Below w.heap.size w w' := by
  have hb0 := (Below.refl w.heap.size w).alloc (Nat.le_refl _) (.cells #[.func (.func 144) #[] #[], .func (.func 145) #[] #[]] 149)
  go_enter Try.func124, Try.ntmps124
  go_wp2
  refine bodyPost_ret (v := .agg #[.func (.func 144) #[] #[], .func (.func 145) #[] #[]]) (by simp [results, Try.results124, go_sem]) rfl ?_
  exact ⟨_, rfl, hb0⟩

set_option maxRecDepth 20000 in
theorem fields_cons (w : World) : Calls Try.prog 124 #[.int .i64 2] w fun e w' => ∃ g, e = .returned (.agg #[.func (.func 148) #[] #[], g]) ∧ Below w.heap.size w w' := by
  have hb0 := (Below.refl w.heap.size w).alloc (Nat.le_refl _) (.cells #[.func (.func 148) #[] #[], .func (.func 149) #[] #[]] 149)
  go_enter Try.func124, Try.ntmps124
  go_wp2
  refine bodyPost_ret (v := .agg #[.func (.func 148) #[] #[], .func (.func 149) #[] #[]]) (by simp [results, Try.results124, go_sem]) rfl ?_
  exact ⟨_, rfl, hb0⟩

set_option maxRecDepth 20000 in
theorem fields_jump (w : World) : Calls Try.prog 124 #[.int .i64 5] w fun e w' => ∃ g, e = .returned (.agg #[.func (.func 150) #[] #[], g]) ∧ Below w.heap.size w w' := by
  have hb0 := (Below.refl w.heap.size w).alloc (Nat.le_refl _) (.cells #[.func (.func 150) #[] #[], .func (.func 151) #[] #[]] 149)
  go_enter Try.func124, Try.ntmps124
  go_wp2
  refine bodyPost_ret (v := .agg #[.func (.func 150) #[] #[], .func (.func 151) #[] #[]]) (by simp [results, Try.results124, go_sem]) rfl ?_
  exact ⟨_, rfl, hb0⟩

set_option maxRecDepth 20000 in
theorem fields_r1 (w : World) : Calls Try.prog 124 #[.int .i64 1] w fun e w' => ∃ g, e = .returned (.agg #[.func (.func 164) #[] #[], g]) ∧ Below w.heap.size w w' := by
  have hb0 := (Below.refl w.heap.size w).alloc (Nat.le_refl _) (.cells #[.nilFunc, .nilFunc] 149)
  have hblk := heap_alloc_new w (.cells #[.nilFunc, .nilFunc] 149)
  have kr := Lib.hid (fun w => regs_any w)
  have HW := Lib.hid hblk
  have HB := Lib.hid hb0
  clear hblk hb0
  go_enter Try.func124, Try.ntmps124
  go_wp2_with fail
  refine (kr.out _).mono ?_
  rintro e w1 ⟨rfl, hb1⟩
  have h2 := (hb1.block w.heap.size (by simp)).trans HW.out
  have cc := (block_cells h2).1
  have c0 := cc 0
  have c1 := cc 1
  have f0 := (block_cells h2).2 0
  have f1 := (block_cells h2).2 1
  simp only [List.getElem?_toArray, List.getElem?_cons_zero, List.getElem?_cons_succ] at c0 c1
  have hb0 := ((HB.out.trans (hb1.mono HB.out.size)).setCell (p := ⟨w.heap.size, 0, none⟩) (Nat.le_refl _) (.func (.func 164) #[] #[])).setCell (p := ⟨w.heap.size, 1, none⟩) (Nat.le_refl _) (.func (.func 165) #[] #[])
  have hs1 := set_blk (set_blk h2 0 (.func (.func 164) #[] #[])) 1 (.func (.func 165) #[] #[])
  have q0 := (block_cells hs1).1 0
  have q1 := (block_cells hs1).1 1
  simp only [List.setIfInBounds_toArray, List.set_cons_zero, List.set_cons_succ, List.getElem?_toArray, List.getElem?_cons_zero, List.getElem?_cons_succ] at q0 q1
  clear cc
  go_wp2
  refine bodyPost_ret (v := .agg #[.func (.func 164) #[] #[], .func (.func 165) #[] #[]]) (by simp [results, Try.results124, go_sem, q0, q1]) rfl ?_
  exact ⟨_, rfl, hb0⟩

set_option maxRecDepth 20000 in
theorem fields_r3 (w : World) : Calls Try.prog 124 #[.int .i64 3] w fun e w' => ∃ g, e = .returned (.agg #[.func (.func 164) #[] #[], g]) ∧ Below w.heap.size w w' := by
  have hb0 := (Below.refl w.heap.size w).alloc (Nat.le_refl _) (.cells #[.nilFunc, .nilFunc] 149)
  have hblk := heap_alloc_new w (.cells #[.nilFunc, .nilFunc] 149)
  have kr := Lib.hid (fun w => regs_any w)
  have HW := Lib.hid hblk
  have HB := Lib.hid hb0
  clear hblk hb0
  go_enter Try.func124, Try.ntmps124
  go_wp2_with fail
  refine (kr.out _).mono ?_
  rintro e w1 ⟨rfl, hb1⟩
  have h2 := (hb1.block w.heap.size (by simp)).trans HW.out
  have cc := (block_cells h2).1
  have c0 := cc 0
  have c1 := cc 1
  have f0 := (block_cells h2).2 0
  have f1 := (block_cells h2).2 1
  simp only [List.getElem?_toArray, List.getElem?_cons_zero, List.getElem?_cons_succ] at c0 c1
  have hb0 := ((HB.out.trans (hb1.mono HB.out.size)).setCell (p := ⟨w.heap.size, 0, none⟩) (Nat.le_refl _) (.func (.func 164) #[] #[])).setCell (p := ⟨w.heap.size, 1, none⟩) (Nat.le_refl _) (.func (.func 165) #[] #[])
  have hs1 := set_blk (set_blk h2 0 (.func (.func 164) #[] #[])) 1 (.func (.func 165) #[] #[])
  have q0 := (block_cells hs1).1 0
  have q1 := (block_cells hs1).1 1
  simp only [List.setIfInBounds_toArray, List.set_cons_zero, List.set_cons_succ, List.getElem?_toArray, List.getElem?_cons_zero, List.getElem?_cons_succ] at q0 q1
  clear cc
  go_wp2
  refine bodyPost_ret (v := .agg #[.func (.func 164) #[] #[], .func (.func 165) #[] #[]]) (by simp [results, Try.results124, go_sem, q0, q1]) rfl ?_
  exact ⟨_, rfl, hb0⟩

set_option maxRecDepth 20000 in
theorem fields_r4 (w : World) : Calls Try.prog 124 #[.int .i64 4] w fun e w' => ∃ g, e = .returned (.agg #[.func (.func 164) #[] #[], g]) ∧ Below w.heap.size w w' := by
  have hb0 := (Below.refl w.heap.size w).alloc (Nat.le_refl _) (.cells #[.nilFunc, .nilFunc] 149)
  have hblk := heap_alloc_new w (.cells #[.nilFunc, .nilFunc] 149)
  have kr := Lib.hid (fun w => regs_any w)
  have HW := Lib.hid hblk
  have HB := Lib.hid hb0
  clear hblk hb0
  go_enter Try.func124, Try.ntmps124
  go_wp2_with fail
  refine (kr.out _).mono ?_
  rintro e w1 ⟨rfl, hb1⟩
  have h2 := (hb1.block w.heap.size (by simp)).trans HW.out
  have cc := (block_cells h2).1
  have c0 := cc 0
  have c1 := cc 1
  have f0 := (block_cells h2).2 0
  have f1 := (block_cells h2).2 1
  simp only [List.getElem?_toArray, List.getElem?_cons_zero, List.getElem?_cons_succ] at c0 c1
  have hb0 := ((HB.out.trans (hb1.mono HB.out.size)).setCell (p := ⟨w.heap.size, 0, none⟩) (Nat.le_refl _) (.func (.func 164) #[] #[])).setCell (p := ⟨w.heap.size, 1, none⟩) (Nat.le_refl _) (.func (.func 165) #[] #[])
  have hs1 := set_blk (set_blk h2 0 (.func (.func 164) #[] #[])) 1 (.func (.func 165) #[] #[])
  have q0 := (block_cells hs1).1 0
  have q1 := (block_cells hs1).1 1
  simp only [List.setIfInBounds_toArray, List.set_cons_zero, List.set_cons_succ, List.getElem?_toArray, List.getElem?_cons_zero, List.getElem?_cons_succ] at q0 q1
  clear cc
  go_wp2
  refine bodyPost_ret (v := .agg #[.func (.func 164) #[] #[], .func (.func 165) #[] #[]]) (by simp [results, Try.results124, go_sem, q0, q1]) rfl ?_
  exact ⟨_, rfl, hb0⟩

end Go.Proofs.Ytaiomcjopgnfpaa

namespace Go.Proofs.Ytaiomcjopgnfpaa
open Go.RowKit

theorem isB_below {T e : TypeId} {B b : Nat} {bs : List Value} {w w' : World} (h : Lib.IsBuilder T e B b bs w) (hb : Below w.heap.size w w') : Lib.IsBuilder T e B b bs w' := by
  rcases h with ⟨h1, v, h2, h3, h4⟩ | ⟨h1, v, h2, h3, h4⟩
  · exact .inl ⟨h1, v, (hb.block b (Array.getElem?_eq_some_iff.1 h2).1).trans h2, own_below h3 hb, h4⟩
  · exact .inr ⟨h1, v, (hb.block b (Array.getElem?_eq_some_iff.1 h2).1).trans h2, own_below h3 hb, h4⟩
theorem isB_lt {T e : TypeId} {B b : Nat} {bs : List Value} {w : World} (h : Lib.IsBuilder T e B b bs w) : b < w.heap.size := by
  rcases h with ⟨_, v, h2, _⟩ | ⟨_, v, h2, _⟩ <;> exact (Array.getElem?_eq_some_iff.1 h2).1
/-- The code of a program, without its end. -/
def ciL (x : Ins) : List UInt8 := (⟨#[49, 49]⟩ ++ TS (.num x.op.toNat)).data.toList ++ (bodyB x).data.toList
def codeLs (l : List Ins) : List UInt8 := (l.map ciL).flatten
def codeOf (l : List Ins) : ByteArray := ⟨(codeLs l ++ [48]).toArray⟩
theorem codeLs_succ (l : List Ins) (k : Nat) {x : Ins} (hx : l[k]? = some x) : codeLs (l.take (k + 1)) = codeLs (l.take k) ++ ciL x := by rw [take_snoc' _ _ _ hx]; unfold codeLs; simp
theorem codeLs_take (l : List Ins) (k : Nat) : (codeLs (l.take k)).length ≤ (codeLs l).length := by
  have h : codeLs l = codeLs (l.take k) ++ codeLs (l.drop k) := by
    conv => lhs; rw [← List.take_append_drop k l]
    unfold codeLs; rw [List.map_append, List.flatten_append]
  rw [h]; simp
theorem right_op {x : Ins} {i n : Int} (h : rightB x i n = true) : x.op = 0 ∨ x.op = 1 ∨ x.op = 2 ∨ x.op = 3 ∨ x.op = 4 ∨ x.op = 5 := by
  unfold rightB at h
  simp only [Bool.and_eq_true] at h
  have h3 := h.2
  by_cases h0 : x.op = 0
  · exact .inl h0
  · rw [if_neg h0] at h3
    by_cases h1 : x.op = 1 ∨ x.op = 3 ∨ x.op = 4
    · rcases h1 with h | h | h <;> simp [h]
    · rw [if_neg h1] at h3
      by_cases h2 : x.op = 2
      · simp [h2]
      · rw [if_neg h2] at h3
        by_cases h5 : x.op = 5
        · simp [h5]
        · rw [if_neg h5] at h3; cases h3
theorem right_tree {x : Ins} {i n : Int} (h : rightB x i n = true) : x.tree.size ≤ 2000000 := by
  unfold rightB at h
  simp only [Bool.and_eq_true] at h
  by_cases h0 : x.op = 0
  · have h3 := h.2
    rw [if_pos h0, Bool.and_eq_true] at h3
    obtain ⟨t, ht, hs⟩ := isTree_get h3.2
    rw [ht, TS_size]; exact hs
  · have h4 := h.1.1.2
    have : x.tree.toList.isEmpty = true := by
      rw [Bool.or_eq_true] at h4
      exact h4.resolve_left (fun e => h0 (by simpa using e))
    have hz : x.tree.toList = [] := by simpa using this
    have h5 : x.tree.size = x.tree.toList.length := by rw [Lib.toList_data]; simp
    rw [h5, hz]; simp
theorem right_jump {x : Ins} {i n : Int} (h : rightB x i n = true) (h5 : x.op = 5) : -i ≤ x.b ∧ x.b ≤ n - i := by
  unfold rightB at h
  simp only [Bool.and_eq_true] at h
  have h3 := h.2
  rw [if_neg (by omega), if_neg (by omega), if_neg (by omega), if_pos h5] at h3
  simpa using h3
/-- The writer of an instruction's fields, and what it writes. -/
theorem fields_put {x : Ins} {i n : Int} (hr : rightB x i n = true) (hi : 0 ≤ i ∧ i ≤ 4000 ∧ n ≤ 4000) : ∃ PF : Nat,
    (∀ w : World, Calls Try.prog 124 #[.int .i64 x.op] w fun e w' => ∃ g, e = .returned (.agg #[.func (.func PF) #[] #[], g]) ∧ Below w.heap.size w w') ∧
    (∀ w : World, Calls Try.prog PF #[.agg #[.int .i64 x.op, .int .i64 x.a, .int .i64 x.b, .int .i64 x.c, .string x.tree]] w fun e w' => e = .returned (.string (bodyB x)) ∧ Below w.heap.size w w') ∧ (∀ args w, (callFunc PF args).run Try.prog w = .ok (.enter PF args) w) ∧ (bodyB x).size ≤ 4000000 ∧ ∃ m : Nat, x.op = m ∧ m ≤ 5 := by
  have ht := right_tree hr
  obtain ⟨a, ha, ha2, hbc⟩ := right_nats hr
  have hop := right_op hr
  have hsz : ∀ n : Nat, (TS (.num n)).size = 2 * n + 1 := num_size
  obtain ⟨op, xa, b, c, t⟩ := x
  simp only at ha hop hbc ht
  subst ha
  rcases hop with rfl | rfl | rfl | rfl | rfl | rfl
  · refine ⟨_, fields_set, fun w => put_set 0 b c t ht a (by omega) w, enters_of Try.func144 (by kernel_rfl) rfl, ?_, 0, rfl, by omega⟩
    simp [bodyB, ByteArray.size_append, hsz]
    show 1 + (2 * a + 1) + t.size ≤ _
    omega
  · obtain ⟨b', c', rfl, rfl, h1, h2⟩ := hbc (by decide)
    refine ⟨_, fields_r1, fun w => put_regs 1 c' t ht a (by omega) b' (by omega) w, enters_of Try.func164 (by kernel_rfl) rfl, ?_, 1, rfl, by omega⟩
    simp [bodyB, ByteArray.size_append, hsz]
    show 1 + (2 * a + 1) + (2 * b' + 1) ≤ _
    omega
  · obtain ⟨b', c', rfl, rfl, h1, h2⟩ := hbc (by decide)
    refine ⟨_, fields_cons, fun w => put_cons 2 t ht a (by omega) b' (by omega) c' (by omega) w, enters_of Try.func148 (by kernel_rfl) rfl, ?_, 2, rfl, by omega⟩
    simp [bodyB, ByteArray.size_append, hsz]
    show 1 + (2 * a + 1) + 1 + (2 * b' + 1) + (2 * c' + 1) ≤ _
    omega
  · obtain ⟨b', c', rfl, rfl, h1, h2⟩ := hbc (by decide)
    refine ⟨_, fields_r3, fun w => put_regs 3 c' t ht a (by omega) b' (by omega) w, enters_of Try.func164 (by kernel_rfl) rfl, ?_, 3, rfl, by omega⟩
    simp [bodyB, ByteArray.size_append, hsz]
    show 1 + (2 * a + 1) + (2 * b' + 1) ≤ _
    omega
  · obtain ⟨b', c', rfl, rfl, h1, h2⟩ := hbc (by decide)
    refine ⟨_, fields_r4, fun w => put_regs 4 c' t ht a (by omega) b' (by omega) w, enters_of Try.func164 (by kernel_rfl) rfl, ?_, 4, rfl, by omega⟩
    simp [bodyB, ByteArray.size_append, hsz]
    show 1 + (2 * a + 1) + (2 * b' + 1) ≤ _
    omega
  · have hj := right_jump hr rfl
    simp only at hj
    by_cases hneg : b < 0
    · obtain ⟨j, rfl⟩ : ∃ j : Nat, b = -(j : Int) := ⟨(-b).toNat, by omega⟩
      refine ⟨_, fields_jump, fun w => ?_, enters_of Try.func150 (by kernel_rfl) rfl, ?_, 5, rfl, by omega⟩
      · have := put_back 5 c t ht a (by omega) j (by omega) (by omega) w
        unfold bodyB
        simp only [show ¬ (5 : Int) = 0 by decide, show ¬ (5 : Int) = 2 by decide, if_false, if_true, if_pos hneg]
        rw [show (-(-(j : Int))).toNat = j by omega, Int.toNat_natCast]
        exact this
      · unfold bodyB
        simp only [show ¬ (5 : Int) = 0 by decide, show ¬ (5 : Int) = 2 by decide, if_false, if_true, if_pos hneg]
        rw [show (-(-(j : Int))).toNat = j by omega, Int.toNat_natCast]
        simp [ByteArray.size_append, hsz]
        show 1 + (2 * a + 1) + 4 + (2 * j + 1) ≤ _
        omega
    · obtain ⟨j, rfl⟩ : ∃ j : Nat, b = (j : Int) := ⟨b.toNat, by omega⟩
      refine ⟨_, fields_jump, fun w => ?_, enters_of Try.func150 (by kernel_rfl) rfl, ?_, 5, rfl, by omega⟩
      · have := put_on 5 c t ht a (by omega) j (by omega) w
        unfold bodyB
        simp only [show ¬ (5 : Int) = 0 by decide, show ¬ (5 : Int) = 2 by decide, if_false, if_true, if_neg hneg]
        rw [Int.toNat_natCast, Int.toNat_natCast]
        exact this
      · unfold bodyB
        simp only [show ¬ (5 : Int) = 0 by decide, show ¬ (5 : Int) = 2 by decide, if_false, if_true, if_neg hneg]
        rw [Int.toNat_natCast, Int.toNat_natCast]
        simp [ByteArray.size_append, hsz]
        show 1 + (2 * a + 1) + 2 + (2 * j + 1) ≤ _
        omega

end Go.Proofs.Ytaiomcjopgnfpaa

namespace Go.Proofs.Ytaiomcjopgnfpaa
open Go.RowKit

theorem isF_below {T e : TypeId} {B b : Nat} {bs : List Value} {w w' : World} (h : Lib.IsBuilderF T e B b bs w) (hb : Below w.heap.size w w') : Lib.IsBuilderF T e B b bs w' := by
  have own : ∀ {v : Value} {n : Nat} {xs : List Value}, w.ownsRowF B e 1 v n xs → w'.ownsRowF B e 1 v n xs := fun h => by
    refine ⟨h.1, ?_⟩
    rcases h.2 with hn | ⟨g, cap, cur, fz, hv, hbg, hg, rest⟩
    · exact .inl hn
    · exact .inr ⟨g, cap, cur, fz, hv, hbg, (hb.block g (Array.getElem?_eq_some_iff.1 hg).1).trans hg, rest⟩
  rcases h with ⟨h1, v, h2, h3, h4⟩ | ⟨h1, v, h2, h3, h4⟩
  · exact .inl ⟨h1, v, (hb.block b (Array.getElem?_eq_some_iff.1 h2).1).trans h2, own h3, h4⟩
  · exact .inr ⟨h1, v, (hb.block b (Array.getElem?_eq_some_iff.1 h2).1).trans h2, own h3, h4⟩
theorem isF_lt {T e : TypeId} {B b : Nat} {bs : List Value} {w : World} (h : Lib.IsBuilderF T e B b bs w) : b < w.heap.size := by
  rcases h with ⟨_, v, h2, _⟩ | ⟨_, v, h2, _⟩ <;> exact (Array.getElem?_eq_some_iff.1 h2).1
theorem field0 (f g : Value) (w : World) : (Instr.field 149 (.agg #[f, g]) 0).run Try.prog w = .ok f w := by
  simp [Instr.field, go_sem, part, asAgg]
theorem wstr_k (b : Nat) (bs : List Value) (s : ByteArray) (w : World) (h : Lib.IsBuilderF 141 5 b b bs w) (hlen : bs.length + s.size ≤ 140737488355328) :
    Calls Try.prog 122 #[.pointer (some ⟨b, 0, none⟩), .string s] w fun e w' => e = .returned (.tuple #[.int .i64 s.size, .nilIface]) ∧ Lib.IsBuilderF 141 5 b b (bs ++ Lib.strCells s) w' ∧ Below b w w' ∧ Lib.OthersKept 5 (some b) w w' :=
  (Any.Builder_WriteString_k Try.lays166 Try.Builder_Extra_166 b b bs s w h hlen (Nat.le_of_lt (isF_lt h))).mono fun _e _w' h => ⟨h.1, .inr h.2.1, h.2.2⟩
theorem wbyte_k (b : Nat) (bs : List Value) (c : Int) (w : World) (h : Lib.IsBuilderF 141 5 b b bs w) (hlen : bs.length + 1 ≤ 140737488355328) :
    Calls Try.prog 125 #[.pointer (some ⟨b, 0, none⟩), .int .u8 c] w fun e w' => e = .returned .nilIface ∧ Lib.IsBuilderF 141 5 b b (bs ++ [.int .u8 c]) w' ∧ Below b w w' ∧ Lib.OthersKept 5 (some b) w w' :=
  (Any.Builder_WriteByte_k Try.lays167 Try.Builder_Extra_167 b b bs c w h hlen (Nat.le_of_lt (isF_lt h))).mono fun _e _w' h => ⟨h.1, .inr h.2.1, h.2.2⟩
/-- What code.Code hands back. -/
def CodeOut (l : List Ins) : Value := if validB l = false then .tuple #[.string ⟨#[]⟩, .int .i64 1] else if 2000000 < (codeLs l).length + 1 then .tuple #[.string ⟨#[]⟩, .int .i64 3] else .tuple #[.string (codeOf l), .int .i64 0]
theorem ciL_size {x : Ins} (m : Nat) (hm : x.op = m) (hm5 : m ≤ 5) (hb : (bodyB x).size ≤ 4000000) : (ciL x).length ≤ 4000020 := by
  unfold ciL
  have h1 : (⟨#[49, 49]⟩ ++ TS (.num x.op.toNat) : ByteArray).size = 2 + (2 * m + 1) := by rw [ByteArray.size_append, num_size, hm]; rfl
  have h2 : ∀ s : ByteArray, s.data.toList.length = s.size := fun s => by simp
  rw [List.length_append, h2, h2, h1]; omega
theorem codeLs_bound (l : List Ins) (hv : validB l = true) : (codeLs l).length ≤ 4000020 * 4000 := by
  have hl := validB_len hv
  have hx : ∀ x ∈ l, (ciL x).length ≤ 4000020 := by
    intro x hx
    obtain ⟨k, hk, rfl⟩ := List.getElem_of_mem hx
    obtain ⟨PF, _, _, _, h3, m, h4, h5⟩ := fields_put (rightAll_get (validB_all hv) (List.getElem?_eq_getElem hk)) ⟨Int.natCast_nonneg _, by omega, by omega⟩
    exact ciL_size m h4 h5 h3
  have : ∀ k : List Ins, (∀ x ∈ k, (ciL x).length ≤ 4000020) → (codeLs k).length ≤ 4000020 * k.length := by
    intro k
    induction k with
    | nil => intro _; simp [codeLs]
    | cons x k ih =>
      intro h
      have h1 := ih fun y hy => h y (List.mem_cons_of_mem _ hy)
      have h2 := h x (List.mem_cons_self)
      have h3 : codeLs (x :: k) = ciL x ++ codeLs k := by simp [codeLs]
      rw [h3, List.length_append, List.length_cons]; omega
  exact Nat.le_trans (this l hx) (Nat.mul_le_mul_left _ hl)

set_option maxRecDepth 20000 in
theorem code_bad (v : Value) (l : List Ins) (w : World) (hl : InsRow w w.heap.size v l) (hv : validB l = false) :
    Calls Try.prog 95 #[v] w fun e w' => e = .returned (.tuple #[.string ⟨#[]⟩, .int .i64 1]) ∧ Below w.heap.size w w' := by
  have kv := codeValidP_at _ l w hl _ hv
  go_enter Try.func95, Try.ntmps95
  go_wp2_with fail
  refine kv.mono ?_
  rintro e w1 ⟨rfl, hb1⟩
  go_wp2
  go_ret2
  exact ⟨rfl, hb1⟩

set_option maxRecDepth 20000 in
set_option maxHeartbeats 8000000 in
theorem code_ok (v : Value) (l : List Ins) (w : World) (hl : InsRow w w.heap.size v l) (hv : validB l = true) :
    Calls Try.prog 95 #[v] w fun e w' => e = .returned (if 2000000 < (codeLs l).length + 1 then .tuple #[.string ⟨#[]⟩, .int .i64 3] else .tuple #[.string (codeOf l), .int .i64 0]) ∧ Below w.heap.size w w' := by
  have kv := codeValidP_at _ l w hl _ hv
  have hbd := codeLs_bound l hv
  have hl4 := validB_len hv
  obtain ⟨R, hR⟩ : ∃ R, (if 2000000 < (codeLs l).length + 1 then .tuple #[.string ⟨#[]⟩, .int .i64 3] else .tuple #[.string (codeOf l), .int .i64 0] : Value) = R := ⟨_, rfl⟩
  rw [hR]
  have HR := Lib.hid hR
  obtain ⟨ao, cap, rfl⟩ := hl.len
  have hn5 := hl.2.1
  obtain ⟨n, hn'⟩ : ∃ n, l.length = n := ⟨_, rfl⟩
  rw [hn'] at hl hn5 kv hl4 ⊢
  have HN := Lib.hid hn'
  have HL := Lib.hid hl
  have HV := Lib.hid hv
  have HBD := Lib.hid hbd
  clear hn' hl hv hR hbd
  go_enter Try.func95, Try.ntmps95
  go_wp2_with fail
  refine kv.mono ?_
  rintro e w1 ⟨rfl, hb1⟩
  have HB1 := Lib.hid hb1
  clear kv hb1
  have hB0 := Lib.hid (Lib.IsBuilderF.of (Lib.fresh_isBuilder 141 5 w1))
  have hb0 := Lib.hid (HB1.out.alloc HB1.out.size (.cells #[.pointer none, .slice none 0 0] 141))
  go_wp2
  obtain ⟨w2, hW⟩ : ∃ B, w1.alloc (.cells #[.pointer none, .slice none 0 0] 141) = B := ⟨_, rfl⟩
  rw [hW] at hB0 hb0
  try rw [hW]
  have hsz2 := Lib.hid HB1.out.size
  clear hW
  obtain ⟨b, hb⟩ : ∃ b, w1.heap.size = b := ⟨_, rfl⟩
  rw [hb] at hB0 hsz2 ⊢
  clear hb
  go_loopg [12] n (fun gg i wr => ∃ k : Nat, k ≤ n ∧ gg = n - k ∧ i = .int .i64 k ∧ Hid (Lib.IsBuilderF 141 5 b b (Lib.byteCells (codeLs (l.take k))) wr) ∧ Hid (Below w.heap.size w wr))
  case atStart => exact ⟨0, Nat.zero_le _, rfl, rfl, hB0, hb0⟩
  case round =>
    clear hB0 hb0
    obtain ⟨k, hk, hg, rfl, hB, hb⟩ := hrel
    have HG := Lib.hid hg; clear hg
    have hkb := Lib.hid (Nat.le_trans (codeLs_take l k) HBD.out)
    by_cases hlt : k < n
    · obtain ⟨x, hx⟩ : ∃ s, l[k]? = some s := ⟨_, List.getElem?_eq_getElem (by rw [HN.out]; exact hlt)⟩
      have hr := rightAll_get (validB_all HV.out) hx
      obtain ⟨PF, kF, kP, hent, hbs, m, hop, hm5⟩ := fields_put hr ⟨Int.natCast_nonneg _, by omega, by rw [HN.out]; omega⟩
      have hstep := Lib.hid (codeLs_succ l k hx)
      have hci : Hid (ciL x = (⟨#[49, 49]⟩ ++ TS (.num m)).data.toList ++ (bodyB x).data.toList) := Lib.hid (by unfold ciL; rw [hop]; rfl)
      obtain ⟨g, off, rfl, hg, c0, c1, c2, c3, c4⟩ := (HL.out.below hb.out).get hx
      obtain ⟨y, hy⟩ : ∃ y, bodyB x = y := ⟨_, rfl⟩
      obtain ⟨op, xa, xb, xc, xt⟩ := x
      simp only at hop kF kP c0 c1 c2 c3 c4
      subst hop
      rw [hy] at kP hbs hci
      have HK := Lib.hid hlt
      have hi0 : (0 : Int) ≤ (k : Int) := Int.natCast_nonneg _
      have hi1 : (k : Int) < (n : Int) := by omega
      have KF := Lib.hid kF
      have KP := Lib.hid kP
      have HYS := Lib.hid hbs
      have Kn := Lib.hid (fun w => cnum_any m (by omega) w)
      have hzm : (TS (.num m)).size ≤ 11 := by rw [num_size]; omega
      obtain ⟨nm, hnm⟩ : ∃ z, TS (.num m) = z := ⟨_, rfl⟩
      rw [hnm] at Kn hci hzm
      clear hx hr kF kP hbs hy hlt hnm hm5
      go_wp2_with fail
      obtain ⟨w3, hW⟩ : ∃ B, wr.alloc (.cells #[.int .i64 m, .int .i64 xa, .int .i64 xb, .int .i64 xc, .string xt] 52) = B := ⟨_, rfl⟩
      have hq3 : Below wr.heap.size wr w3 := by rw [← hW]; exact (Below.refl _ _).alloc (Nat.le_refl _) _
      have hx3 : w3.heap[wr.heap.size]? = some (.cells #[.int .i64 m, .int .i64 xa, .int .i64 xb, .int .i64 xc, .string xt] 52 (0, 0)) := by rw [← hW]; exact heap_alloc_new _ _
      rw [hW]
      clear hW c0 c1 c2 c3 c4
      have hbx : wr.heap.size ≠ b := by have := isF_lt hB.out; omega
      obtain ⟨bx, hbxe⟩ : ∃ z, wr.heap.size = z := ⟨_, rfl⟩
      have hB := Lib.hid (isF_below hB.out hq3)
      have hbA := Lib.hid (hb.out.trans (hq3.mono hb.out.size))
      rw [hbxe] at hx3 hbx ⊢
      have hx3 := Lib.hid hx3
      have hbx := Lib.hid hbx
      clear hq3 hbxe hb
      refine (Kn.out _).mono ?_
      rintro e w4 ⟨rfl, hq⟩
      have hB := Lib.hid (isF_below hB.out hq)
      have hbA := Lib.hid (hbA.out.trans (hq.mono hbA.out.size))
      have hx4 := Lib.hid ((hq.block bx (Array.getElem?_eq_some_iff.1 hx3.out).1).trans hx3.out)
      clear hq hx3
      go_wp2_with fail
      have hl1 : (Lib.byteCells (codeLs (l.take k))).length + (⟨#[49, 49]⟩ ++ nm : ByteArray).size ≤ 140737488355328 := by
        rw [Lib.byteCells_length, ByteArray.size_append]
        have h1 : (⟨#[49, 49]⟩ : ByteArray).size = 2 := rfl
        have := hkb.out
        omega
      have kw := wstr_k b (Lib.byteCells (codeLs (l.take k))) (⟨#[49, 49]⟩ ++ nm) w4 hB.out hl1
      clear hl1
      refine kw.mono ?_
      clear kw
      rintro e w5 ⟨rfl, hB5, hq5, hk5⟩
      have hsz1 : Hid ((Lib.byteCells (codeLs (l.take k)) ++ Lib.strCells (⟨#[49, 49]⟩ ++ nm)).length ≤ 4000020 * 4000 + 13) := Lib.hid (by rw [List.length_append, Lib.byteCells_length, Lib.strCells_length, ByteArray.size_append]; have h1 : (⟨#[49, 49]⟩ : ByteArray).size = 2 := rfl; have := hkb.out; omega)
      have hx5 : w5.heap[bx]? = _ := hk5 bx _ hx4.out (by simpa using hbx.out) (by intro c fz e; cases e)
      have hB := Lib.hid hB5
      have hbA := Lib.hid (hbA.out.trans (hq5.mono hsz2.out))
      have cc := (block_cells hx5).1
      have KK := Lib.hid (fun (w' : World) (hb : Below w5.heap.size w5 w') => (show w'.cell? ⟨bx, 0, none⟩ = some (.int .i64 m) ∧ w'.cell? ⟨bx, 1, none⟩ = some (.int .i64 xa) ∧ w'.cell? ⟨bx, 2, none⟩ = some (.int .i64 xb) ∧ w'.cell? ⟨bx, 3, none⟩ = some (.int .i64 xc) ∧ w'.cell? ⟨bx, 4, none⟩ = some (.string xt) from
        have hl := (Array.getElem?_eq_some_iff.1 hx5).1
        ⟨(hb.cell (p := ⟨bx, 0, none⟩) hl).trans (cc 0), (hb.cell (p := ⟨bx, 1, none⟩) hl).trans (cc 1), (hb.cell (p := ⟨bx, 2, none⟩) hl).trans (cc 2), (hb.cell (p := ⟨bx, 3, none⟩) hl).trans (cc 3), (hb.cell (p := ⟨bx, 4, none⟩) hl).trans (cc 4)⟩))
      obtain ⟨d0, d1, d2, d3, d4⟩ := KK.out w5 (Below.refl _ _)
      have KF := Lib.hid (fun (w' : World) (hb : Below w5.heap.size w5 w') => (KF.out w').mono fun e w'' h => (show ∃ g, e = .returned (.agg #[.func (.func PF) #[] #[], g]) ∧ Below w5.heap.size w5 w'' from by obtain ⟨g, h1, h2⟩ := h; exact ⟨g, h1, hb.trans (h2.mono hb.size)⟩))
      have KP := Lib.hid (fun (w' : World) (hb : Below w5.heap.size w5 w') => (KP.out w').mono fun e w'' h => (show e = .returned (.string y) ∧ Below w5.heap.size w5 w'' from ⟨h.1, hb.trans (h.2.mono hb.size)⟩))
      have KW := Lib.hid (fun (w' : World) (hb : Below w5.heap.size w5 w') => (wstr_k b _ y w' (isF_below hB.out hb) (by have := hsz1.out; have := HYS.out; omega)).mono fun e w'' h => (show e = .returned (.tuple #[.int .i64 y.size, .nilIface]) ∧ Hid (Lib.IsBuilderF 141 5 b b ((Lib.byteCells (codeLs (l.take k)) ++ Lib.strCells (⟨#[49, 49]⟩ ++ nm)) ++ Lib.strCells y) w'') ∧ Hid (Below w.heap.size w w'') from ⟨h.1, Lib.hid h.2.1, Lib.hid ((hbA.out.trans (hb.mono hbA.out.size)).trans (h.2.2.1.mono hsz2.out))⟩))
      clear hB5 hq5 hk5 hx5 cc hx4
      have hfld := fun g w => field0 (.func (.func PF) #[] #[]) g w
      go_wp2
      go_region_law ((first
        | (go_simp; (with_reducible refine (KF.out _ (by first | exact Below.refl _ _ | exact (Below.refl _ _).drew)).mono ?_); rintro e v1 ⟨g1, rfl, hb1⟩; obtain ⟨e0, e1, e2, e3, e4⟩ := KK.out _ hb1)
        | (go_simp; (with_reducible refine (KP.out _ (by first | exact hb1 | exact hb1.drew)).mono ?_); rintro e v2 ⟨rfl, hb2⟩)
        | (go_simp; (with_reducible refine (KW.out _ (by first | exact hb2 | exact hb2.drew)).mono ?_); rintro e v3 ⟨rfl, hB3, hb3⟩)))
      all_goals (
      have hnew : Hid (Lib.IsBuilderF 141 5 b b (Lib.byteCells (codeLs (l.take (k + 1)))) v3) := Lib.hid (by
        rw [hstep.out, hci.out]
        have h3 := hB3.out
        simpa [Lib.byteCells, Lib.strCells] using h3)
      clear hB3 hb1 hb2 d0 d1 d2 d3 d4 e0 e1 e2 e3 e4
      go_wp2
      go_roundg (n - (k + 1))
      case measure => rw [HG.out]; have := HK.out; omega
      case rel => exact ⟨k + 1, HK.out, rfl, by go_num, hnew, hb3⟩)
    · have hkn : k = n := by omega
      subst hkn
      rw [List.take_of_length_le (by rw [HN.out]; omega)] at hB
      go_wp2_with fail
      refine (wbyte_k b _ 48 _ hB.out (by rw [Lib.byteCells_length]; have := HBD.out; omega)).mono ?_
      rintro e w3 ⟨rfl, hB3, hq3, _⟩
      have hB3' := Lib.hid (show Lib.IsBuilderF 141 5 b b (Lib.byteCells (codeLs l ++ [48])) w3 from by simpa [Lib.byteCells] using hB3)
      have hb3 := Lib.hid (hb.out.trans (hq3.mono hsz2.out))
      have kl := Lib.hid (Any.Builder_Len_f Try.lays170 b b _ w3 hB3'.out)
      have hlen : Hid ((Lib.byteCells (codeLs l ++ [48])).length = (codeLs l).length + 1) := Lib.hid (by rw [Lib.byteCells_length]; simp)
      rw [hlen.out] at kl
      obtain ⟨N, hN⟩ : ∃ N, (codeLs l).length + 1 = N := ⟨_, rfl⟩
      rw [hN] at kl HR
      clear hB3 hq3 hN hlen
      by_cases hbig : (2000000 : Int) < (N : Int)
      · have hRe := Lib.hid (show R = .tuple #[.string ⟨#[]⟩, .int .i64 3] by rw [← HR.out, if_pos (by omega)])
        go_wp2_with fail
        refine kl.out.mono ?_
        rintro e w4 ⟨rfl, rfl⟩
        go_wp2
        refine bodyPost_ret (v := .tuple #[.string ⟨#[]⟩, .int .i64 3]) (by simp [results, Try.results95, go_sem]) rfl ?_
        exact ⟨by rw [hRe.out], hb3.out⟩
      · have hRe := Lib.hid (show R = .tuple #[.string (codeOf l), .int .i64 0] by rw [← HR.out, if_neg (by omega)])
        have ks := Lib.hid (Any.Builder_String_any_f Try.lays169 Try.Builder_Extra_169 b b _ w3 hB3'.out (Nat.le_of_lt (isF_lt hB3'.out)))
        go_wp2_with fail
        refine kl.out.mono ?_
        rintro e w4 ⟨rfl, rfl⟩
        go_wp2_with fail
        refine ks.out.mono ?_
        rintro e w5 ⟨rfl, _, hq5⟩
        go_wp2
        refine bodyPost_ret (v := .tuple #[.string (codeOf l), .int .i64 0]) (by simp [results, Try.results95, go_sem, codeOf]) rfl ?_
        exact ⟨by rw [hRe.out], hb3.out.trans (hq5.mono hsz2.out)⟩

end Go.Proofs.Ytaiomcjopgnfpaa

namespace Go.Proofs.Ytaiomcjopgnfpaa
open Go.RowKit

def clearL (f m : Nat) : List Ins := (List.range m).map fun j => setI (f + j) ⟨#[48]⟩
theorem clearL_succ (f m : Nat) : clearL f (m + 1) = clearL f m ++ [setI (f + m) ⟨#[48]⟩] := by unfold clearL; rw [List.range_succ, List.map_append]; rfl
theorem clearL_length (f m : Nat) : (clearL f m).length = m := by simp [clearL]
set_option maxHeartbeats 4000000 in
theorem kclear_any (f m : Nat) (hf : f ≤ 1000) (hm : m ≤ 1000) (w : World) (ti : Int) (hti : ti = (f : Int) + m - 1) :
    Calls Try.prog 107 #[.int .i64 f, .int .i64 ti] w fun e w' => ∃ a c, e = .returned (.slice a m c) ∧ OwnI w' w.heap.size (.slice a m c) (clearL f m) ∧ Below w.heap.size w w' := by
  have HT := Lib.hid hti
  clear hti
  go_enter Try.func107, Try.ntmps107
  go_wp2
  go_loopg [5, 6] m (fun gg o i wr => ∃ k : Nat, k ≤ m ∧ gg = m - k ∧ i = .int .i64 ((f : Int) + k) ∧ Hid (OwnI wr w.heap.size o (clearL f k) ∧ Below w.heap.size w wr))
  case atStart => exact ⟨0, by omega, rfl, by simp, OwnI.nil _ _, Below.refl _ _⟩
  case round =>
    obtain ⟨k, hk, hg, rfl, hP⟩ := hrel
    have HG := Lib.hid hg; clear hg
    by_cases hlt : k < m
    · have hi : (f : Int) + (k : Int) ≤ ti := by rw [HT.out]; omega
      have hown := hP.out.1.own
      rw [clearL_length] at hown
      have hb := hP.out.2
      have hsz := hb.size
      go_wp2_with (at_builtin; refine app_new el_ins rfl _ _ rfl rfl hown (inscells [setI (f + k) ⟨#[48]⟩]) 1 rfl rfl ?c1 ?c2 ?c3 hsz hb (Nat.le_refl _) ?_)
      case c1 => exact inscells_one _
      case c2 => omega
      case c3 => unfold maxLen; omega
      intro v' w' hown' hb' hgr
      have hnew : Hid (OwnI w' w.heap.size v' (clearL f (k + 1)) ∧ Below w.heap.size w w') := Lib.hid ⟨by rw [clearL_succ]; exact OwnI.snoc (by rw [clearL_length]; exact hown') hP.out.1.wf (setI_wf _ _ (by omega) (by decide)), hb'⟩
      clear hown hown' hb hb' hgr hP
      go_wp2
      go_roundg (m - (k + 1))
      case measure => rw [HG.out]; omega
      case rel => exact ⟨k + 1, by omega, rfl, by first | rfl | (congr 1; omega), hnew⟩
    · have hkm : k = m := by omega
      subst hkm
      have hi : ¬ (f : Int) + (k : Int) ≤ ti := by rw [HT.out]; omega
      have hsl := hP.out.1.slice
      rw [clearL_length] at hsl
      obtain ⟨a2, c2, rfl⟩ := hsl
      have hP1 := Lib.hid hP.out.1
      have hP2 := Lib.hid hP.out.2
      go_wp2
      refine bodyPost_ret (v := .slice a2 k c2) (by simp [results, Try.results107, go_sem]) rfl ?_
      exact ⟨_, _, rfl, hP1.out, hP2.out⟩
def beforeL : List Ins := [⟨3, 2, 0, 0, ⟨#[]⟩⟩, ⟨4, 3, 0, 0, ⟨#[]⟩⟩, setI 4 ⟨#[49, 48, 48]⟩, consI 4 4 2, consI 4 1 4, setI 5 ⟨#[49, 48, 49, 49, 48, 48, 48]⟩, consI 5 5 2, setI 6 ⟨#[49, 49, 48, 49, 48, 48, 49, 48, 49, 49, 48, 48, 48]⟩, consI 5 6 5, consI 5 4 5, consI 0 5 3]
def behindL : List Ins := beforeL ++ clearL 2 5
theorem beforeL_wf : ∀ x ∈ beforeL, x.wf := by
  intro x hx
  simp only [beforeL, List.mem_cons, List.not_mem_nil, or_false] at hx
  rcases hx with rfl | rfl | rfl | rfl | rfl | rfl | rfl | rfl | rfl | rfl | rfl
  all_goals exact wf_lit _ _ _ _ _ (by unfold i64; decide) (by unfold i64; decide) (by unfold i64; decide) (by unfold i64; decide) (by decide)
theorem kclear_row (f m : Nat) (hf : f ≤ 1000) (hm : m ≤ 1000) (w : World) (ti : Int) (hti : ti = (f : Int) + m - 1) :
    Calls Try.prog 107 #[.int .i64 f, .int .i64 ti] w fun e w' => ∃ a c, e = .returned (.slice a m c) ∧ InsRow w' w'.heap.size (.slice a m c) (clearL f m) ∧ Below w.heap.size w w' :=
  (kclear_any f m hf hm w ti hti).mono fun e w' ⟨a, c, h1, h2, h3⟩ => ⟨a, c, h1, h2.row (by rw [clearL_length]; omega), h3⟩
theorem put_code : codeOf [consI 0 1 0] = ⟨#[49, 49, 49, 48, 49, 48, 48, 49, 48, 49, 49, 48, 48, 48, 48]⟩ := by decide +kernel
theorem clear_code : codeOf [setI 1 ⟨#[48]⟩] = ⟨#[49, 49, 48, 49, 49, 48, 48, 48, 48]⟩ := by decide +kernel

theorem code_at (v : Value) (l : List Ins) (s : ByteArray) (w : World) (hl : InsRow w w.heap.size v l) (hv : validB l = true) (hs : codeOf l = s) (hz : (codeLs l).length + 1 ≤ 2000000) :
    Calls Try.prog 95 #[v] w fun e w' => e = .returned (.tuple #[.string s, .int .i64 0]) ∧ Below w.heap.size w w' := by
  have h := code_ok v l w hl hv
  rw [if_neg (by omega), hs] at h
  exact h
set_option maxRecDepth 20000 in
set_option maxHeartbeats 4000000 in
theorem before_any (w : World) : Calls Try.prog 94 #[] w fun e w' => ∃ a c, e = .returned (.slice a 16 c) ∧ InsRow w' w'.heap.size (.slice a 16 c) behindL ∧ Below w.heap.size w w' := by
  have ch := Lib.hid (Below.refl w.heap.size w)
  go_enter Try.func94, Try.ntmps94
  go_wp2_with fail
  obtain ⟨w1, hW⟩ : ∃ B, w.alloc (.cells #[.int .i64 2, .int .i64 0, .int .i64 1, .int .i64 0, .string ⟨#[]⟩] 52) = B := ⟨_, rfl⟩
  rw [hW]
  have hq : Below w.heap.size w w1 := by rw [← hW]; exact (Below.refl _ _).alloc (Nat.le_refl _) _
  have h1 := Lib.hid (show InsRow w1 w1.heap.size (.slice (some ⟨w.heap.size, 0, none⟩) 1 1) [consI 0 1 0] by rw [← hW]; exact (OwnI.lit w [consI 0 1 0] (by simp; exact consI_wf _ _ _ (by omega) (by omega) (by omega)) (by simp)).row (by simp))
  clear hW
  have ch := Lib.hid (ch.out.trans (hq.mono ch.out.size))
  clear hq
  refine (code_at _ [consI 0 1 0] _ _ h1.out (by decide +kernel) put_code (by decide +kernel)).mono ?_
  rintro e w2 ⟨rfl, hq⟩
  have h1 := Lib.hid ((h1.out.below hq).mono hq.size)
  have ch := Lib.hid (ch.out.trans (hq.mono ch.out.size))
  clear hq
  clear h1
  go_wp2_with fail
  obtain ⟨w3, hW⟩ : ∃ B, w2.alloc (.cells #[.int .i64 0, .int .i64 1, .int .i64 0, .int .i64 0, .string ⟨#[48]⟩] 52) = B := ⟨_, rfl⟩
  rw [hW]
  have hq : Below w2.heap.size w2 w3 := by rw [← hW]; exact (Below.refl _ _).alloc (Nat.le_refl _) _
  have h2 := Lib.hid (show InsRow w3 w3.heap.size (.slice (some ⟨w2.heap.size, 0, none⟩) 1 1) [setI 1 ⟨#[48]⟩] by rw [← hW]; exact (OwnI.lit w2 [setI 1 ⟨#[48]⟩] (by simp; exact setI_wf _ _ (by omega) (by decide)) (by simp)).row (by simp))
  clear hW
  have ch := Lib.hid (ch.out.trans (hq.mono ch.out.size))
  clear hq
  refine (code_at _ [setI 1 ⟨#[48]⟩] _ _ h2.out (by decide +kernel) clear_code (by decide +kernel)).mono ?_
  rintro e w4 ⟨rfl, hq⟩
  have h2 := Lib.hid ((h2.out.below hq).mono hq.size)
  have ch := Lib.hid (ch.out.trans (hq.mono ch.out.size))
  clear hq
  clear h2
  go_wp2_with fail
  rw [show (⟨#[49, 49, 48, 49, 49, 48, 48, 48, 48]⟩ : ByteArray).extract 1 8 = ⟨#[49, 48, 49, 49, 48, 48, 48]⟩ by decide +kernel, show (⟨#[49, 49, 49, 48, 49, 48, 48, 49, 48, 49, 49, 48, 48, 48, 48]⟩ : ByteArray).extract 1 14 = ⟨#[49, 49, 48, 49, 48, 48, 49, 48, 49, 49, 48, 48, 48]⟩ by decide +kernel]
  have rl := Lib.hid (Below.refl w4.heap.size w4)
  obtain ⟨w5, hW⟩ : ∃ B, w4.alloc (.cells #[.int .i64 3, .int .i64 2, .int .i64 0, .int .i64 0, .string ⟨#[]⟩, .int .i64 4, .int .i64 3, .int .i64 0, .int .i64 0, .string ⟨#[]⟩, .int .i64 0, .int .i64 4, .int .i64 0, .int .i64 0, .string ⟨#[49, 48, 48]⟩, .int .i64 2, .int .i64 4, .int .i64 4, .int .i64 2, .string ⟨#[]⟩, .int .i64 2, .int .i64 4, .int .i64 1, .int .i64 4, .string ⟨#[]⟩, .int .i64 0, .int .i64 5, .int .i64 0, .int .i64 0, .string ⟨#[49, 48, 49, 49, 48, 48, 48]⟩, .int .i64 2, .int .i64 5, .int .i64 5, .int .i64 2, .string ⟨#[]⟩, .int .i64 0, .int .i64 6, .int .i64 0, .int .i64 0, .string ⟨#[49, 49, 48, 49, 48, 48, 49, 48, 49, 49, 48, 48, 48]⟩, .int .i64 2, .int .i64 5, .int .i64 6, .int .i64 5, .string ⟨#[]⟩, .int .i64 2, .int .i64 5, .int .i64 4, .int .i64 5, .string ⟨#[]⟩, .int .i64 2, .int .i64 0, .int .i64 5, .int .i64 3, .string ⟨#[]⟩] 52) = B := ⟨_, rfl⟩
  rw [hW]
  have hq : Below w4.heap.size w4 w5 := by rw [← hW]; exact (Below.refl _ _).alloc (Nat.le_refl _) _
  have ho := Lib.hid (show OwnI w5 w4.heap.size (.slice (some ⟨w4.heap.size, 0, none⟩) 11 11) beforeL by rw [← hW]; exact OwnI.lit w4 beforeL (by exact beforeL_wf) (by first | simp | decide))
  clear hW
  have rl := Lib.hid (rl.out.trans (hq.mono rl.out.size))
  clear hq
  have hch := Lib.hid ch.out
  refine (kclear_row 2 5 (by decide) (by decide) _ 6 (by decide)).mono ?_
  rintro e w6 ⟨ca, cc, rfl, hcl, hq⟩
  have ho := Lib.hid (ho.out.below hq)
  have rl := Lib.hid (rl.out.trans (hq.mono rl.out.size))
  clear hq
  have hcl := Lib.hid hcl
  have ho0 := ho.out
  have hb0 := rl.out
  have hs0 := hcl.out
  go_wp2_with (at_builtin; refine app_row rfl _ _ rfl (v := .slice (some ⟨w4.heap.size, 0, none⟩) 11 11) (vx := .slice ca 5 cc) rfl ho0 rfl hs0 ?c2 hb0 ?_)
  case c2 => simp [beforeL, clearL_length]
  clear ho0 hb0 hs0 ho
  intro a7 k7 s7 w7 hk7 ho hb
  have rl := hb
  clear hb
  clear hcl
  have ch := Lib.hid (ch.out.trans (rl.out.mono ch.out.size))
  go_wp2
  have hk16 : k7 = 16 := by have := hk7.out; simpa [beforeL, clearL_length] using this
  subst hk16
  refine bodyPost_ret (v := .slice a7 16 s7) (by simp [results, Try.results94, go_sem]) rfl ?_
  exact ⟨_, _, rfl, ho.out.row (by simp [beforeL, clearL_length]), ch.out⟩
end Go.Proofs.Ytaiomcjopgnfpaa

namespace Go.Proofs.Ytaiomcjopgnfpaa
open Go.RowKit

theorem flat_len_take (ls : List (List Ins)) (k : Nat) : ((ls.take k).flatten).length ≤ lenS ls := by rw [lenS_flatten]; exact lenS_take ls k
set_option maxHeartbeats 4000000 in
theorem join_any (v : Value) (ls : List (List Ins)) (w : World) (hl : ProgsRow w w.heap.size v ls) (hT : lenS ls ≤ 1000000000) :
    Calls Try.prog 93 #[v] w fun e w' => ∃ a c, e = .returned (.tuple #[.slice a (lenS ls) c, .bool (validB ls.flatten)]) ∧ InsRow w' w'.heap.size (.slice a (lenS ls) c) ls.flatten ∧ Below w.heap.size w w' := by
  obtain ⟨ao, cap, rfl⟩ := hl.len
  have hn5 := hl.1
  obtain ⟨n, hn'⟩ : ∃ n, ls.length = n := ⟨_, rfl⟩
  rw [hn'] at hl hn5 ⊢
  have HN := Lib.hid hn'; clear hn'
  have HL := Lib.hid hl; clear hl
  have HT := Lib.hid hT; clear hT
  obtain ⟨N, hN⟩ : ∃ N, lenS ls = N := ⟨_, rfl⟩
  obtain ⟨bv, hbv⟩ : ∃ b, validB ls.flatten = b := ⟨_, rfl⟩
  rw [hN, hbv]
  have HNN := Lib.hid hN
  have HBV := Lib.hid hbv
  clear hN hbv
  go_enter Try.func93, Try.ntmps93
  go_wp2
  go_loopg [4, 9] n (fun gg o i wr => ∃ k : Nat, k ≤ n ∧ gg = n - k ∧ i = .int .i64 k ∧ Hid (OwnI wr w.heap.size o (ls.take k).flatten ∧ Below w.heap.size w wr))
  case atStart => exact ⟨0, by omega, rfl, rfl, OwnI.nil _ _, Below.refl _ _⟩
  case round =>
    obtain ⟨k, hk, hg, rfl, hP⟩ := hrel
    have HG := Lib.hid hg; clear hg
    by_cases hlt : k < n
    · obtain ⟨l, hx⟩ : ∃ s, ls[k]? = some s := ⟨_, List.getElem?_eq_getElem (by rw [HN.out]; exact hlt)⟩
      have hl2 := HL.out.step hP.out.2
      obtain ⟨g, off, u, rfl, hg, c0, hu⟩ := hl2.get hx
      have hi0 : (0 : Int) ≤ (k : Int) := Int.natCast_nonneg _
      have hi1 : (k : Int) < (n : Int) := by omega
      have hb1 := flat_len_take ls (k + 1)
      rw [take_snoc' _ _ _ hx, List.flatten_append, List.length_append] at hb1
      simp only [List.flatten_cons, List.flatten_nil, List.append_nil] at hb1
      have HB := Lib.hid (Nat.le_trans hb1 HT.out)
      have HX := Lib.hid hx
      clear hx hl2 hb1
      have ho0 := hP.out.1
      have hb0 := hP.out.2
      go_wp2_with (at_builtin; refine app_row rfl _ _ rfl (vx := u) rfl ho0 rfl hu ?c2 hb0 ?_)
      case c2 => exact HB.out
      intro a1 k1 s1 w1 hk1 ho hbb
      have hnew : Hid (OwnI w1 w.heap.size (.slice a1 k1 s1) (ls.take (k + 1)).flatten ∧ Below w.heap.size w w1) := Lib.hid ⟨by rw [take_snoc' _ _ _ HX.out, List.flatten_append]; simpa using ho.out, hbb.out⟩
      clear ho0 hb0 hu c0 ho hbb hP hk1
      go_wp2
      go_roundg (n - (k + 1))
      case measure => rw [HG.out]; omega
      case rel => exact ⟨k + 1, by omega, rfl, by go_num, hnew⟩
    · have hkn : k = n := by omega
      subst hkn
      rw [List.take_of_length_le (by rw [HN.out]; omega)] at hP
      have hsl := hP.out.1.slice
      rw [lenS_flatten, HNN.out] at hsl
      obtain ⟨a2, c2, rfl⟩ := hsl
      have hrow := Lib.hid (hP.out.1.row (by rw [lenS_flatten]; have := HT.out; omega))
      have hb0 := Lib.hid hP.out.2
      have kv := codeValidP_at _ ls.flatten _ hrow.out _ HBV.out
      clear hP
      go_wp2_with fail
      refine kv.mono ?_
      rintro e w2 ⟨rfl, hb2⟩
      have hrow := Lib.hid ((hrow.out.below hb2).mono hb2.size)
      have hb0 := Lib.hid (hb0.out.trans (hb2.mono hb0.out.size))
      clear hb2 kv
      go_wp2
      refine bodyPost_ret (v := .tuple #[.slice a2 N c2, .bool bv]) (by simp [results, Try.results93, go_sem]) rfl ?_
      exact ⟨_, _, rfl, hrow.out, hb0.out⟩

/-- The code as a tree. -/
def bodyT (x : Ins) : Tr :=
  if x.op = 0 then .pair (.num x.a.toNat) (toTr x.tree)
  else if x.op = 2 then .pair (.num x.a.toNat) (.pair (.num x.b.toNat) (.num x.c.toNat))
  else if x.op = 5 then (if x.b < 0 then .pair (.num x.a.toNat) (.pair (.pair .nil .nil) (.num (-x.b).toNat)) else .pair (.num x.a.toNat) (.pair .nil (.num x.b.toNat)))
  else .pair (.num x.a.toNat) (.num x.b.toNat)
def insT (x : Ins) : Tr := .pair (.num x.op.toNat) (bodyT x)
def codeT : List Ins → Tr
  | [] => .nil
  | x :: l => .pair (insT x) (codeT l)
theorem bodyT_enc {x : Ins} {i n : Int} (h : rightB x i n = true) : (bodyT x).enc = (bodyB x).data.toList := by
  have hl : ∀ t : Tr, t.enc = (TS t).data.toList := fun t => (TS_list t).symm
  unfold bodyT bodyB
  by_cases h0 : x.op = 0
  · rw [if_pos h0, if_pos h0]
    have ht : isTree x.tree = true := by
      unfold rightB at h
      simp only [Bool.and_eq_true] at h
      have h3 := h.2
      rw [if_pos h0, Bool.and_eq_true] at h3
      exact h3.2
    have h4 : (toTr x.tree).enc = x.tree.data.toList := by rw [hl, TS_toTr ht]
    simp [Tr.enc, h4, hl]
  · rw [if_neg h0, if_neg h0]
    by_cases h2 : x.op = 2
    · rw [if_pos h2, if_pos h2]; simp [Tr.enc, hl]
    · rw [if_neg h2, if_neg h2]
      by_cases h5 : x.op = 5
      · rw [if_pos h5, if_pos h5]
        by_cases hb : x.b < 0
        · rw [if_pos hb, if_pos hb]; simp [Tr.enc, hl]
        · rw [if_neg hb, if_neg hb]; simp [Tr.enc, hl]
      · rw [if_neg h5, if_neg h5]; simp [Tr.enc, hl]
theorem codeT_enc : ∀ (l : List Ins), (∀ x ∈ l, ∃ i n, rightB x i n = true) → (codeT l).enc = codeLs l ++ [48]
  | [], _ => rfl
  | x :: l, h => by
    obtain ⟨i, n, hr⟩ := h x (List.mem_cons_self)
    have h1 := codeT_enc l (fun y hy => h y (List.mem_cons_of_mem _ hy))
    have hl : ∀ t : Tr, t.enc = (TS t).data.toList := fun t => (TS_list t).symm
    show 49 :: ((49 :: ((Tr.num x.op.toNat).enc ++ (bodyT x).enc)) ++ (codeT l).enc) = _
    rw [h1, bodyT_enc hr]
    have h3 : codeLs (x :: l) = ciL x ++ codeLs l := by simp [codeLs]
    rw [h3]
    unfold ciL
    simp [hl]
theorem valid_rights {l : List Ins} (hv : rightAll l = true) : ∀ x ∈ l, ∃ i n, rightB x i n = true := by
  intro x hx
  obtain ⟨k, hk, rfl⟩ := List.getElem_of_mem hx
  exact ⟨_, _, rightAll_get hv (List.getElem?_eq_getElem hk)⟩
theorem codeOf_TS {l : List Ins} (hv : rightAll l = true) : codeOf l = TS (codeT l) := by
  unfold codeOf TS
  rw [codeT_enc l (valid_rights hv)]
theorem codeOf_size (l : List Ins) : (codeOf l).size = (codeLs l).length + 1 := by unfold codeOf; simp [ByteArray.size]
theorem codeOf_tree {l : List Ins} (hv : rightAll l = true) (hs : (codeLs l).length + 1 ≤ 2000000) : isTree (codeOf l) = true := by
  rw [codeOf_TS hv]
  refine isTree_TS _ ?_
  rw [← TS_size, ← codeOf_TS hv, codeOf_size]; exact hs

end Go.Proofs.Ytaiomcjopgnfpaa

namespace Go.Proofs.Ytaiomcjopgnfpaa
open Go.RowKit

def specH (d : ByteArray) : List Ins := [⟨0, 1, 0, 0, d⟩, ⟨2, 0, 1, 0, ⟨#[]⟩⟩, ⟨0, 1, 0, 0, ⟨#[48]⟩⟩]
def specL (d : ByteArray) (l : List Ins) : List Ins := specH d ++ l
theorem specL_trees (d : ByteArray) (l : List Ins) : trees (specL d l) = d.size + 1 + trees l := by
  unfold specL; rw [trees_append]; simp [specH, trees]; rfl
theorem specL_length (d : ByteArray) (l : List Ins) : (specL d l).length = l.length + 3 := by simp [specL, specH]
theorem isTree_48 : isTree ⟨#[48]⟩ = true := by decide +kernel
theorem specL_right (d : ByteArray) (l : List Ins) (hd : isTree d = true) (hl : rightAll l = true) : rightAll (specL d l) = true := by
  refine rightAll_append ?_ (fun i x hx => rightAll_at hl hx (by simp [specH]; omega))
  intro i x hx
  match i, hx with
  | 0, hx => simp [specH] at hx; subst hx; unfold rightB; simp [regB, hd]
  | 1, hx => simp [specH] at hx; subst hx; unfold rightB; simp [regB]
  | 2, hx => simp [specH] at hx; subst hx; unfold rightB; simp [regB, isTree_48]
  | i + 3, hx => simp [specH] at hx
theorem specL_valid (d : ByteArray) (l : List Ins) (hd : isTree d = true) (hl : validB l = true) : validB (specL d l) = fitsP (specL d l) := validB_fits (specL_right d l hd (validB_all hl))

theorem goF_shift (l : List Ins) (c : Nat) : ∀ (f n : Nat) (s : St), goF l f (n + c) s = match goF l f n s with
    | .done s' m => .done s' (m + c)
    | .fuel s' m => .fuel s' (m + c)
    | .big => .big := by
  intro f
  induction f with
  | zero =>
    intro n s
    by_cases hp : s.pos = l.length
    · rw [goF_done hp, goF_done hp]
    · rw [goF_zero hp, goF_zero hp]
  | succ f ih =>
    intro n s
    by_cases hp : s.pos = l.length
    · rw [goF_done hp, goF_done hp]
    · cases hs : stepP l s with
      | none => rw [goF_big hp hs, goF_big hp hs]
      | some s1 => rw [goF_step hp hs, goF_step hp hs, show n + c + 1 = n + 1 + c by omega]; exact ih _ _
theorem stepX_set {x : Ins} {s : St} (h : x.op = 0) : stepX x s = some ⟨s.pos + 1, setR s.regs x.a (toTr x.tree)⟩ := by unfold stepX; rw [if_pos h]
theorem toTr_48 : toTr ⟨#[48]⟩ = .nil := toTr_TS .nil (by decide)
theorem spec_1 (d x : Tr) (hd : d.size ≤ 2000000) (l : List Ins) : stepP (specL (TS d) l) (startS x) = some ⟨1, x :: d :: List.replicate 30 .nil⟩ := by
  have h := stepX_set (x := ⟨0, 1, 0, 0, TS d⟩) (s := startS x) rfl
  rw [toTr_TS d hd] at h
  exact h
theorem spec_2 (d x : Tr) (l : List Ins) (h : (Tr.pair d x).size ≤ 2000000) : stepP (specL (TS d) l) ⟨1, x :: d :: List.replicate 30 .nil⟩ = some ⟨2, .pair d x :: d :: List.replicate 30 .nil⟩ :=
  stepX_cons (x := ⟨2, 0, 1, 0, ⟨#[]⟩⟩) (s := ⟨1, x :: d :: List.replicate 30 .nil⟩) rfl h
theorem spec_2big (d x : Tr) (l : List Ins) (h : 2000000 < (Tr.pair d x).size) : stepP (specL (TS d) l) ⟨1, x :: d :: List.replicate 30 .nil⟩ = none :=
  stepX_big (x := ⟨2, 0, 1, 0, ⟨#[]⟩⟩) (s := ⟨1, x :: d :: List.replicate 30 .nil⟩) rfl h
theorem spec_3 (d y : Tr) (l : List Ins) : stepP (specL (TS d) l) ⟨2, y :: d :: List.replicate 30 .nil⟩ = some ⟨3, (startS y).regs⟩ := by
  have h := stepX_set (x := ⟨0, 1, 0, 0, ⟨#[48]⟩⟩) (s := ⟨2, y :: d :: List.replicate 30 .nil⟩) rfl
  rw [toTr_48] at h
  exact h
theorem spec_big (d x : Tr) (hd : d.size ≤ 2000000) (l : List Ins) (h : 2000000 < (Tr.pair d x).size) (f : Nat) : goF (specL (TS d) l) (f + 3) 0 (startS x) = .big := by
  have hn : (specL (TS d) l).length = l.length + 3 := specL_length _ _
  rw [show f + 3 = (f + 2) + 1 by omega, goF_step (by show 0 ≠ _; omega) (spec_1 d x hd l), show f + 2 = (f + 1) + 1 by omega, goF_big (by show 1 ≠ _; omega) (spec_2big d x l h)]
theorem spec_run (d x : Tr) (hd : d.size ≤ 2000000) (l : List Ins) (hl : rightAll l = true) (h : (Tr.pair d x).size ≤ 2000000) (f : Nat) :
    (goF (specL (TS d) l) (f + 3) 0 (startS x)).run = match goF l f 0 (startS (.pair d x)) with
      | .done s m => (TS (getR s.regs 0), m + 3, 0)
      | .fuel _ _ => (⟨#[]⟩, 0, 7)
      | .big => (⟨#[]⟩, 0, 3) := by
  have hn : (specL (TS d) l).length = l.length + 3 := specL_length _ _
  rw [show f + 3 = (f + 2) + 1 by omega, goF_step (by show 0 ≠ _; omega) (spec_1 d x hd l), show f + 2 = (f + 1) + 1 by omega, goF_step (by show 1 ≠ _; omega) (spec_2 d x l h), goF_step (by show 2 ≠ _; omega) (spec_3 d _ l)]
  have hs : Seg (specL (TS d) l) 3 l := Seg.right (specH (TS d)) l
  obtain ⟨r1, r2, r3⟩ := hs.run hl (by omega) f 3 (startS (.pair d x)) (Good.start _ _ h)
  have hsh := goF_shift l 3 f 0 (startS (.pair d x))
  cases hR : goF l f 0 (startS (.pair d x)) with
  | done s m =>
    rw [hR] at hsh
    obtain ⟨_, _, e⟩ := r1 s (m + 3) hsh
    have : (goF (specL (TS d) l) f 3 ⟨3, (startS (.pair d x)).regs⟩) = .done ⟨3 + l.length, s.regs⟩ (m + 3) := by
      refine e.trans (goF_done ?_)
      show 3 + l.length = _
      omega
    show (goF (specL (TS d) l) f 3 ⟨3, (startS (.pair d x)).regs⟩).run = _
    rw [this]; rfl
  | fuel s m =>
    rw [hR] at hsh
    show (goF (specL (TS d) l) f 3 ⟨3, (startS (.pair d x)).regs⟩).run = _
    have := r2 s (m + 3) hsh
    exact (congrArg Res.run this).trans rfl
  | big =>
    rw [hR] at hsh
    exact (congrArg Res.run (r3 hsh)).trans rfl

/-! ### Walks -/
theorem specH_wf (d : ByteArray) (hd : d.size ≤ 140737488355328) : ∀ x ∈ specH d, x.wf := by
  intro x hx
  simp [specH] at hx
  rcases hx with rfl | rfl | rfl
  · exact wf_lit _ _ _ _ _ (by unfold i64; decide) (by unfold i64; decide) (by unfold i64; decide) (by unfold i64; decide) hd
  · exact wf_lit _ _ _ _ _ (by unfold i64; decide) (by unfold i64; decide) (by unfold i64; decide) (by unfold i64; decide) (by decide)
  · exact wf_lit _ _ _ _ _ (by unfold i64; decide) (by unfold i64; decide) (by unfold i64; decide) (by unfold i64; decide) (by decide)
theorem specH_own (w : World) (d : ByteArray) : (w.alloc (.cells #[.int .i64 0, .int .i64 1, .int .i64 0, .int .i64 0, .string d, .int .i64 2, .int .i64 0, .int .i64 1, .int .i64 0, .string ⟨#[]⟩, .int .i64 0, .int .i64 1, .int .i64 0, .int .i64 0, .string ⟨#[48]⟩] 52)).ownsRow w.heap.size 52 5 (.slice (some ⟨w.heap.size, 0, none⟩) 3 3) 3 (inscells (specH d)) :=
  World.ownsRow_lit w (inscells (specH d)).toArray 3 (Nat.le_refl _) (by decide) rfl

/-- What Spec hands back where it may. -/
def SpecOk (w : World) (d : ByteArray) (l : List Ins) (e : Ending) (w' : World) : Prop := ∃ v', e = .returned (.tuple #[v', .int .i64 0]) ∧ InsRow w' w'.heap.size v' (specL d l) ∧ Below w.heap.size w w'
def SpecBad (w : World) (er : Int) (e : Ending) (w' : World) : Prop := e = .returned (.tuple #[.slice none 0 0, .int .i64 er]) ∧ Below w.heap.size w w'

set_option maxHeartbeats 2000000 in
theorem spec_any (v : Value) (l : List Ins) (d : ByteArray) (hds : d.size ≤ 140737488355328) (w : World) (hl : InsRow w w.heap.size v l) (hv : validB l = true) (hd : isTree d = true) :
    Calls Try.prog 96 #[v, .string d] w (fun e w' => if validB (specL d l) = true then SpecOk w d l e w' else SpecBad w 3 e w') := by
  have kv := codeValidP_at v l w hl _ hv
  have kt := treeValid_at d hds _ hd
  have hwf : ∀ x ∈ specL d l, x.wf := fun x hx => by rcases List.mem_append.1 hx with h | h; exact specH_wf d hds x h; exact hl.1 x h
  have hn4 := validB_len hv
  have hcells : inscells (specL d l) = inscells (specH d) ++ inscells l := by simp [specL, inscells]
  have hlen := specL_length d l
  have HC := Lib.hid hcells
  have HWF := Lib.hid hwf
  have HLEN := Lib.hid hlen
  have hl0 := hl
  obtain ⟨n, hn'⟩ : ∃ n, l.length = n := ⟨_, rfl⟩
  obtain ⟨ao, cap, rfl⟩ := hl.len
  rw [hn'] at hl0 kv hn4 ⊢
  have HN := Lib.hid hn'
  have hone := inscells_one l
  have HONE := Lib.hid hone
  clear hv hd hwf hcells hlen hl hn' hone
  obtain ⟨bb, hbb⟩ : ∃ b, validB (specL d l) = b := ⟨_, rfl⟩
  rw [hbb]
  have HBB := Lib.hid hbb
  clear hbb
  go_enter Try.func96, Try.ntmps96
  go_wp2_with fail
  refine kv.mono ?_
  rintro e w1 ⟨rfl, k1⟩
  go_wp2_with fail
  refine (kt _).mono ?_
  rintro e w2 ⟨rfl, k2⟩
  have hb2 := k1.trans (k2.mono k1.size)
  have hl2 := (hl0.below hb2).mono hb2.size
  have hown := specH_own w2 d
  have hb3 := hb2.alloc hb2.size (.cells #[.int .i64 0, .int .i64 1, .int .i64 0, .int .i64 0, .string d, .int .i64 2, .int .i64 0, .int .i64 1, .int .i64 0, .string ⟨#[]⟩, .int .i64 0, .int .i64 1, .int .i64 0, .int .i64 0, .string ⟨#[48]⟩] 52)
  have hs2 : Src (w2.alloc (.cells #[.int .i64 0, .int .i64 1, .int .i64 0, .int .i64 0, .string d, .int .i64 2, .int .i64 0, .int .i64 1, .int .i64 0, .string ⟨#[]⟩, .int .i64 0, .int .i64 1, .int .i64 0, .int .i64 0, .string ⟨#[48]⟩] 52)) (.slice ao n cap) n 5 (inscells l) := by
    have := (hl0.below hb3).src
    rwa [HN.out] at this
  have hsz := hb2.size
  clear kv kt k1 k2 hb2 hl2 hl0
  go_wp2_with (at_builtin; refine app_src el_ins (vx := .slice ao n cap) rfl _ _ rfl rfl hown rfl hs2 HONE.out ?c2 ?c3 (by simp) hb3 hsz ?_)
  case c2 => omega
  case c3 => unfold maxLen; omega
  intro v' w3 hown3 hb4 hg
  have hrow : InsRow w3 w3.heap.size v' (specL d l) := InsRow.of_own (n := 3 + n) (by rw [HC.out]; exact hown3) HWF.out (by rw [HLEN.out, HN.out]; omega)
  have kv2 := codeValidP_at v' _ w3 hrow _ HBB.out
  have HROW := Lib.hid hrow
  obtain ⟨a2, c2, rfl⟩ := own_len hown3
  clear hown hs2 hb3 hown3 hg hrow
  cases bb with
  | true =>
    go_wp2_with fail
    refine kv2.mono ?_
    rintro e w4 ⟨rfl, k4⟩
    clear kv2
    go_wp2
    go_ret2
    exact ⟨_, rfl, (HROW.out.below k4).mono k4.size, hb4.trans (k4.mono hb4.size)⟩
  | false =>
    go_wp2_with fail
    refine kv2.mono ?_
    rintro e w4 ⟨rfl, k4⟩
    clear kv2
    go_wp2
    go_ret2
    exact ⟨rfl, hb4.trans (k4.mono hb4.size)⟩

end Go.Proofs.Ytaiomcjopgnfpaa

namespace Go.Proofs.Ytaiomcjopgnfpaa
open Go.RowKit

def knowR (q : List Ins) : List Ins := behindL ++ q
def codeN (l : List Ins) : Nat := (codeLs l).length + 1
def knowL (q : List Ins) : List Ins := specL (codeOf (knowR q)) (knowR q)
/-- The error of Know. -/
def knowE (q : List Ins) : Int := if validB q = false then 1 else if validB (knowR q) = true ∧ codeN (knowR q) ≤ 2000000 ∧ validB (knowL q) = true ∧ codeN (knowL q) ≤ 2000000 then 0 else 3
theorem code_fine (v : Value) (l : List Ins) (w : World) (hl : InsRow w w.heap.size v l) (hv : validB l = true) (hz : codeN l ≤ 2000000) :
    Calls Try.prog 95 #[v] w fun e w' => e = .returned (.tuple #[.string (codeOf l), .int .i64 0]) ∧ Below w.heap.size w w' := code_at v l _ w hl hv rfl hz
theorem code_large (v : Value) (l : List Ins) (w : World) (hl : InsRow w w.heap.size v l) (hv : validB l = true) (hz : ¬ codeN l ≤ 2000000) :
    Calls Try.prog 95 #[v] w fun e w' => e = .returned (.tuple #[.string ⟨#[]⟩, .int .i64 3]) ∧ Below w.heap.size w w' := by
  have h := code_ok v l w hl hv
  rw [if_pos (by unfold codeN at hz; omega)] at h
  exact h
theorem spec_fine (v : Value) (l : List Ins) (d : ByteArray) (w : World) (hl : InsRow w w.heap.size v l) (hv : validB l = true) (hd : isTree d = true) (h : validB (specL d l) = true) :
    Calls Try.prog 96 #[v, .string d] w fun e w' => ∃ v', e = .returned (.tuple #[v', .int .i64 0]) ∧ InsRow w' w'.heap.size v' (specL d l) ∧ Below w.heap.size w w' := by
  obtain ⟨t, ht, hs⟩ := isTree_get hd
  have hds : d.size ≤ 140737488355328 := by rw [ht, TS_size]; omega
  refine (spec_any v l d hds w hl hv hd).mono ?_
  intro e w' hh
  rw [if_pos h] at hh
  exact hh
theorem spec_large (v : Value) (l : List Ins) (d : ByteArray) (w : World) (hl : InsRow w w.heap.size v l) (hv : validB l = true) (hd : isTree d = true) (h : ¬ validB (specL d l) = true) :
    Calls Try.prog 96 #[v, .string d] w fun e w' => e = .returned (.tuple #[.slice none 0 0, .int .i64 3]) ∧ Below w.heap.size w w' := by
  obtain ⟨t, ht, hs⟩ := isTree_get hd
  have hds : d.size ≤ 140737488355328 := by rw [ht, TS_size]; omega
  refine (spec_any v l d hds w hl hv hd).mono ?_
  intro e w' hh
  rw [if_neg h] at hh
  exact hh
theorem knowE_bad {q : List Ins} (hv : validB q = true) (h : ¬ (validB (knowR q) = true ∧ codeN (knowR q) ≤ 2000000 ∧ validB (knowL q) = true ∧ codeN (knowL q) ≤ 2000000)) : knowE q = 3 := by
  unfold knowE; rw [if_neg (by rw [hv]; simp), if_neg h]
theorem tb_bad (w : World) (B : Nat) (d : Int) (hd : d ≠ 0) (m : List Ins) : TB w B d m (.slice none 0 0) := ⟨fun e => absurd e hd, fun _ => rfl⟩
def KnowOut (w : World) (q : List Ins) (e : Ending) (w' : World) : Prop := ∃ v, e = .returned (.tuple #[v, .int .i64 (knowE q)]) ∧ TB w' w'.heap.size (knowE q) (knowL q) v ∧ Below w.heap.size w w'
theorem KnowOut.bad {w w' : World} {q : List Ins} {e : Ending} (d : Int) (hd : d ≠ 0) (hk : knowE q = d) (he : e = .returned (.tuple #[.slice none 0 0, .int .i64 d])) (hb : Below w.heap.size w w') : KnowOut w q e w' := ⟨_, by rw [hk]; exact he, by rw [hk]; exact tb_bad _ _ _ hd _, hb⟩
theorem KnowOut.ok {w w' : World} {q : List Ins} {e : Ending} {v : Value} (hk : knowE q = 0) (he : e = .returned (.tuple #[v, .int .i64 0])) (hr : InsRow w' w'.heap.size v (knowL q)) (hb : Below w.heap.size w w') : KnowOut w q e w' := ⟨v, by rw [hk]; exact he, by rw [hk]; exact ⟨fun _ => hr, fun e => absurd rfl e⟩, hb⟩

set_option maxRecDepth 20000 in
set_option maxHeartbeats 4000000 in
theorem know_form (qa : Option Addr) (qn qc : Nat) (q : List Ins) (w : World) (hhQ : InsRow w w.heap.size (.slice qa qn qc) q) (HV : Hid (validB q = false)) :
    Calls Try.prog 47 #[.slice qa qn qc] w (KnowOut w q) := by
  have hQ := Lib.hid hhQ
  clear hhQ
  have ch := Lib.hid (Below.refl w.heap.size w)
  have kv := codeValidP_at _ q w hQ.out _ HV.out
  go_enter Try.func47, Try.ntmps47
  go_wp2_with fail
  refine (kv).mono ?_
  rintro e w1 ⟨rfl, hq⟩
  have hQ := Lib.hid ((hQ.out.below hq).mono hq.size)
  have ch := Lib.hid (ch.out.trans (hq.mono ch.out.size))
  clear hq
  clear kv
  go_wp2
  refine bodyPost_ret (v := .tuple #[.slice none 0 0, .int .i64 1]) (by simp [results, Try.results47, go_sem]) rfl ?_
  exact KnowOut.bad 1 (by decide) (by unfold knowE; rw [if_pos HV.out]) rfl ch.out

set_option maxRecDepth 20000 in
set_option maxHeartbeats 4000000 in
theorem know_join (qa : Option Addr) (qn qc : Nat) (q : List Ins) (w : World) (hhQ : InsRow w w.heap.size (.slice qa qn qc) q) (HV : Hid (validB q = true)) (HR : Hid (validB (knowR q) = false)) :
    Calls Try.prog 47 #[.slice qa qn qc] w (KnowOut w q) := by
  have hQ := Lib.hid hhQ
  clear hhQ
  have ch := Lib.hid (Below.refl w.heap.size w)
  have kv := codeValidP_at _ q w hQ.out _ HV.out
  go_enter Try.func47, Try.ntmps47
  go_wp2_with fail
  refine (kv).mono ?_
  rintro e w1 ⟨rfl, hq⟩
  have hQ := Lib.hid ((hQ.out.below hq).mono hq.size)
  have ch := Lib.hid (ch.out.trans (hq.mono ch.out.size))
  clear hq
  clear kv
  go_wp2_with fail
  refine (before_any _).mono ?_
  rintro e w2 ⟨ba, bc, rfl, hB, hq⟩
  have hQ := Lib.hid ((hQ.out.below hq).mono hq.size)
  have ch := Lib.hid (ch.out.trans (hq.mono ch.out.size))
  clear hq
  have hB := Lib.hid hB
  go_wp2_with fail
  have hL0 := ProgsRow.lit (w := w2) [.slice ba 16 bc, .slice qa qn qc] [behindL, q] rfl (by simp) (fun j u l hu hl => match j, u, l, hu, hl with | 0, _, _, hu, hl => by cases hu; cases hl; exact hB.out | 1, _, _, hu, hl => by cases hu; cases hl; exact hQ.out)
  obtain ⟨w3, hW⟩ : ∃ B, w2.alloc (.cells #[.slice ba 16 bc, .slice qa qn qc] 25) = B := ⟨_, rfl⟩
  rw [hW]
  have hq : Below w2.heap.size w2 w3 := by rw [← hW]; exact (Below.refl _ _).alloc (Nat.le_refl _) _
  have hL := Lib.hid (show ProgsRow w3 w3.heap.size (.slice (some ⟨w2.heap.size, 0, none⟩) 2 2) [behindL, q] by rw [← hW]; exact hL0)
  clear hW hL0
  have hQ := Lib.hid ((hQ.out.below hq).mono hq.size)
  have hB := Lib.hid ((hB.out.below hq).mono hq.size)
  have ch := Lib.hid (ch.out.trans (hq.mono ch.out.size))
  clear hq
  have hq4 := validB_len HV.out
  have kj := join_any _ [behindL, q] _ hL.out (by simp [lenS, behindL, beforeL, clearL_length]; omega)
  rw [show ([behindL, q] : List (List Ins)).flatten = knowR q by simp [knowR], HR.out] at kj
  obtain ⟨N, hN⟩ : ∃ N, lenS [behindL, q] = N := ⟨_, rfl⟩
  rw [hN] at kj
  clear hN hq4
  refine (kj).mono ?_
  rintro e w4 ⟨ja, jc, rfl, hJ, hq⟩
  have hQ := Lib.hid ((hQ.out.below hq).mono hq.size)
  have hB := Lib.hid ((hB.out.below hq).mono hq.size)
  have hL := Lib.hid ((hL.out.below hq).mono hq.size)
  have ch := Lib.hid (ch.out.trans (hq.mono ch.out.size))
  clear hq
  have hJ := Lib.hid hJ
  clear kj hL hB
  go_wp2
  refine bodyPost_ret (v := .tuple #[.slice none 0 0, .int .i64 3]) (by simp [results, Try.results47, go_sem]) rfl ?_
  exact KnowOut.bad 3 (by decide) (knowE_bad HV.out (fun h => by rw [HR.out] at h; cases h.1)) rfl ch.out

set_option maxRecDepth 20000 in
set_option maxHeartbeats 4000000 in
theorem know_code (qa : Option Addr) (qn qc : Nat) (q : List Ins) (w : World) (hhQ : InsRow w w.heap.size (.slice qa qn qc) q) (HV : Hid (validB q = true)) (HR : Hid (validB (knowR q) = true)) (HC : Hid (¬ codeN (knowR q) ≤ 2000000)) :
    Calls Try.prog 47 #[.slice qa qn qc] w (KnowOut w q) := by
  have hQ := Lib.hid hhQ
  clear hhQ
  have ch := Lib.hid (Below.refl w.heap.size w)
  have kv := codeValidP_at _ q w hQ.out _ HV.out
  go_enter Try.func47, Try.ntmps47
  go_wp2_with fail
  refine (kv).mono ?_
  rintro e w1 ⟨rfl, hq⟩
  have hQ := Lib.hid ((hQ.out.below hq).mono hq.size)
  have ch := Lib.hid (ch.out.trans (hq.mono ch.out.size))
  clear hq
  clear kv
  go_wp2_with fail
  refine (before_any _).mono ?_
  rintro e w2 ⟨ba, bc, rfl, hB, hq⟩
  have hQ := Lib.hid ((hQ.out.below hq).mono hq.size)
  have ch := Lib.hid (ch.out.trans (hq.mono ch.out.size))
  clear hq
  have hB := Lib.hid hB
  go_wp2_with fail
  have hL0 := ProgsRow.lit (w := w2) [.slice ba 16 bc, .slice qa qn qc] [behindL, q] rfl (by simp) (fun j u l hu hl => match j, u, l, hu, hl with | 0, _, _, hu, hl => by cases hu; cases hl; exact hB.out | 1, _, _, hu, hl => by cases hu; cases hl; exact hQ.out)
  obtain ⟨w3, hW⟩ : ∃ B, w2.alloc (.cells #[.slice ba 16 bc, .slice qa qn qc] 25) = B := ⟨_, rfl⟩
  rw [hW]
  have hq : Below w2.heap.size w2 w3 := by rw [← hW]; exact (Below.refl _ _).alloc (Nat.le_refl _) _
  have hL := Lib.hid (show ProgsRow w3 w3.heap.size (.slice (some ⟨w2.heap.size, 0, none⟩) 2 2) [behindL, q] by rw [← hW]; exact hL0)
  clear hW hL0
  have hQ := Lib.hid ((hQ.out.below hq).mono hq.size)
  have hB := Lib.hid ((hB.out.below hq).mono hq.size)
  have ch := Lib.hid (ch.out.trans (hq.mono ch.out.size))
  clear hq
  have hq4 := validB_len HV.out
  have kj := join_any _ [behindL, q] _ hL.out (by simp [lenS, behindL, beforeL, clearL_length]; omega)
  rw [show ([behindL, q] : List (List Ins)).flatten = knowR q by simp [knowR], HR.out] at kj
  obtain ⟨N, hN⟩ : ∃ N, lenS [behindL, q] = N := ⟨_, rfl⟩
  rw [hN] at kj
  clear hN hq4
  refine (kj).mono ?_
  rintro e w4 ⟨ja, jc, rfl, hJ, hq⟩
  have hQ := Lib.hid ((hQ.out.below hq).mono hq.size)
  have hB := Lib.hid ((hB.out.below hq).mono hq.size)
  have hL := Lib.hid ((hL.out.below hq).mono hq.size)
  have ch := Lib.hid (ch.out.trans (hq.mono ch.out.size))
  clear hq
  have hJ := Lib.hid hJ
  clear kj hL hB
  go_wp2_with fail
  refine (code_large _ (knowR q) _ hJ.out HR.out HC.out).mono ?_
  rintro e w5 ⟨rfl, hq⟩
  have hQ := Lib.hid ((hQ.out.below hq).mono hq.size)
  have hJ := Lib.hid ((hJ.out.below hq).mono hq.size)
  have ch := Lib.hid (ch.out.trans (hq.mono ch.out.size))
  clear hq
  go_wp2
  refine bodyPost_ret (v := .tuple #[.slice none 0 0, .int .i64 3]) (by simp [results, Try.results47, go_sem]) rfl ?_
  exact KnowOut.bad 3 (by decide) (knowE_bad HV.out (fun h => HC.out h.2.1)) rfl ch.out

set_option maxRecDepth 20000 in
set_option maxHeartbeats 4000000 in
theorem know_spec (qa : Option Addr) (qn qc : Nat) (q : List Ins) (w : World) (hhQ : InsRow w w.heap.size (.slice qa qn qc) q) (HV : Hid (validB q = true)) (HR : Hid (validB (knowR q) = true)) (HC : Hid (codeN (knowR q) ≤ 2000000)) (HS : Hid (¬ validB (specL (codeOf (knowR q)) (knowR q)) = true)) :
    Calls Try.prog 47 #[.slice qa qn qc] w (KnowOut w q) := by
  have hQ := Lib.hid hhQ
  clear hhQ
  have ch := Lib.hid (Below.refl w.heap.size w)
  have kv := codeValidP_at _ q w hQ.out _ HV.out
  go_enter Try.func47, Try.ntmps47
  go_wp2_with fail
  refine (kv).mono ?_
  rintro e w1 ⟨rfl, hq⟩
  have hQ := Lib.hid ((hQ.out.below hq).mono hq.size)
  have ch := Lib.hid (ch.out.trans (hq.mono ch.out.size))
  clear hq
  clear kv
  go_wp2_with fail
  refine (before_any _).mono ?_
  rintro e w2 ⟨ba, bc, rfl, hB, hq⟩
  have hQ := Lib.hid ((hQ.out.below hq).mono hq.size)
  have ch := Lib.hid (ch.out.trans (hq.mono ch.out.size))
  clear hq
  have hB := Lib.hid hB
  go_wp2_with fail
  have hL0 := ProgsRow.lit (w := w2) [.slice ba 16 bc, .slice qa qn qc] [behindL, q] rfl (by simp) (fun j u l hu hl => match j, u, l, hu, hl with | 0, _, _, hu, hl => by cases hu; cases hl; exact hB.out | 1, _, _, hu, hl => by cases hu; cases hl; exact hQ.out)
  obtain ⟨w3, hW⟩ : ∃ B, w2.alloc (.cells #[.slice ba 16 bc, .slice qa qn qc] 25) = B := ⟨_, rfl⟩
  rw [hW]
  have hq : Below w2.heap.size w2 w3 := by rw [← hW]; exact (Below.refl _ _).alloc (Nat.le_refl _) _
  have hL := Lib.hid (show ProgsRow w3 w3.heap.size (.slice (some ⟨w2.heap.size, 0, none⟩) 2 2) [behindL, q] by rw [← hW]; exact hL0)
  clear hW hL0
  have hQ := Lib.hid ((hQ.out.below hq).mono hq.size)
  have hB := Lib.hid ((hB.out.below hq).mono hq.size)
  have ch := Lib.hid (ch.out.trans (hq.mono ch.out.size))
  clear hq
  have hq4 := validB_len HV.out
  have kj := join_any _ [behindL, q] _ hL.out (by simp [lenS, behindL, beforeL, clearL_length]; omega)
  rw [show ([behindL, q] : List (List Ins)).flatten = knowR q by simp [knowR], HR.out] at kj
  obtain ⟨N, hN⟩ : ∃ N, lenS [behindL, q] = N := ⟨_, rfl⟩
  rw [hN] at kj
  clear hN hq4
  refine (kj).mono ?_
  rintro e w4 ⟨ja, jc, rfl, hJ, hq⟩
  have hQ := Lib.hid ((hQ.out.below hq).mono hq.size)
  have hB := Lib.hid ((hB.out.below hq).mono hq.size)
  have hL := Lib.hid ((hL.out.below hq).mono hq.size)
  have ch := Lib.hid (ch.out.trans (hq.mono ch.out.size))
  clear hq
  have hJ := Lib.hid hJ
  clear kj hL hB
  go_wp2_with fail
  refine (code_fine _ (knowR q) _ hJ.out HR.out HC.out).mono ?_
  rintro e w5 ⟨rfl, hq⟩
  have hQ := Lib.hid ((hQ.out.below hq).mono hq.size)
  have hJ := Lib.hid ((hJ.out.below hq).mono hq.size)
  have ch := Lib.hid (ch.out.trans (hq.mono ch.out.size))
  clear hq
  have htree := codeOf_tree (validB_all HR.out) HC.out
  go_wp2_with fail
  refine (spec_large _ (knowR q) (codeOf (knowR q)) _ hJ.out HR.out htree HS.out).mono ?_
  rintro e w6 ⟨rfl, hq⟩
  have hQ := Lib.hid ((hQ.out.below hq).mono hq.size)
  have hJ := Lib.hid ((hJ.out.below hq).mono hq.size)
  have ch := Lib.hid (ch.out.trans (hq.mono ch.out.size))
  clear hq
  go_wp2
  refine bodyPost_ret (v := .tuple #[.slice none 0 0, .int .i64 3]) (by simp [results, Try.results47, go_sem]) rfl ?_
  exact KnowOut.bad 3 (by decide) (knowE_bad HV.out (fun h => HS.out h.2.2.1)) rfl ch.out

set_option maxRecDepth 20000 in
set_option maxHeartbeats 4000000 in
theorem know_last (qa : Option Addr) (qn qc : Nat) (q : List Ins) (w : World) (hhQ : InsRow w w.heap.size (.slice qa qn qc) q) (HV : Hid (validB q = true)) (HR : Hid (validB (knowR q) = true)) (HC : Hid (codeN (knowR q) ≤ 2000000)) (HS : Hid (validB (specL (codeOf (knowR q)) (knowR q)) = true)) (HD : Hid (¬ codeN (knowL q) ≤ 2000000)) :
    Calls Try.prog 47 #[.slice qa qn qc] w (KnowOut w q) := by
  have hQ := Lib.hid hhQ
  clear hhQ
  have ch := Lib.hid (Below.refl w.heap.size w)
  have kv := codeValidP_at _ q w hQ.out _ HV.out
  go_enter Try.func47, Try.ntmps47
  go_wp2_with fail
  refine (kv).mono ?_
  rintro e w1 ⟨rfl, hq⟩
  have hQ := Lib.hid ((hQ.out.below hq).mono hq.size)
  have ch := Lib.hid (ch.out.trans (hq.mono ch.out.size))
  clear hq
  clear kv
  go_wp2_with fail
  refine (before_any _).mono ?_
  rintro e w2 ⟨ba, bc, rfl, hB, hq⟩
  have hQ := Lib.hid ((hQ.out.below hq).mono hq.size)
  have ch := Lib.hid (ch.out.trans (hq.mono ch.out.size))
  clear hq
  have hB := Lib.hid hB
  go_wp2_with fail
  have hL0 := ProgsRow.lit (w := w2) [.slice ba 16 bc, .slice qa qn qc] [behindL, q] rfl (by simp) (fun j u l hu hl => match j, u, l, hu, hl with | 0, _, _, hu, hl => by cases hu; cases hl; exact hB.out | 1, _, _, hu, hl => by cases hu; cases hl; exact hQ.out)
  obtain ⟨w3, hW⟩ : ∃ B, w2.alloc (.cells #[.slice ba 16 bc, .slice qa qn qc] 25) = B := ⟨_, rfl⟩
  rw [hW]
  have hq : Below w2.heap.size w2 w3 := by rw [← hW]; exact (Below.refl _ _).alloc (Nat.le_refl _) _
  have hL := Lib.hid (show ProgsRow w3 w3.heap.size (.slice (some ⟨w2.heap.size, 0, none⟩) 2 2) [behindL, q] by rw [← hW]; exact hL0)
  clear hW hL0
  have hQ := Lib.hid ((hQ.out.below hq).mono hq.size)
  have hB := Lib.hid ((hB.out.below hq).mono hq.size)
  have ch := Lib.hid (ch.out.trans (hq.mono ch.out.size))
  clear hq
  have hq4 := validB_len HV.out
  have kj := join_any _ [behindL, q] _ hL.out (by simp [lenS, behindL, beforeL, clearL_length]; omega)
  rw [show ([behindL, q] : List (List Ins)).flatten = knowR q by simp [knowR], HR.out] at kj
  obtain ⟨N, hN⟩ : ∃ N, lenS [behindL, q] = N := ⟨_, rfl⟩
  rw [hN] at kj
  clear hN hq4
  refine (kj).mono ?_
  rintro e w4 ⟨ja, jc, rfl, hJ, hq⟩
  have hQ := Lib.hid ((hQ.out.below hq).mono hq.size)
  have hB := Lib.hid ((hB.out.below hq).mono hq.size)
  have hL := Lib.hid ((hL.out.below hq).mono hq.size)
  have ch := Lib.hid (ch.out.trans (hq.mono ch.out.size))
  clear hq
  have hJ := Lib.hid hJ
  clear kj hL hB
  go_wp2_with fail
  refine (code_fine _ (knowR q) _ hJ.out HR.out HC.out).mono ?_
  rintro e w5 ⟨rfl, hq⟩
  have hQ := Lib.hid ((hQ.out.below hq).mono hq.size)
  have hJ := Lib.hid ((hJ.out.below hq).mono hq.size)
  have ch := Lib.hid (ch.out.trans (hq.mono ch.out.size))
  clear hq
  have htree := codeOf_tree (validB_all HR.out) HC.out
  go_wp2_with fail
  refine (spec_fine _ (knowR q) (codeOf (knowR q)) _ hJ.out HR.out htree HS.out).mono ?_
  rintro e w6 ⟨vs, rfl, hS, hq⟩
  have hQ := Lib.hid ((hQ.out.below hq).mono hq.size)
  have hJ := Lib.hid ((hJ.out.below hq).mono hq.size)
  have ch := Lib.hid (ch.out.trans (hq.mono ch.out.size))
  clear hq
  have hS := Lib.hid hS
  go_wp2_with fail
  refine (code_large _ (knowL q) _ hS.out HS.out HD.out).mono ?_
  rintro e w7 ⟨rfl, hq⟩
  have hQ := Lib.hid ((hQ.out.below hq).mono hq.size)
  have hJ := Lib.hid ((hJ.out.below hq).mono hq.size)
  have hS := Lib.hid ((hS.out.below hq).mono hq.size)
  have ch := Lib.hid (ch.out.trans (hq.mono ch.out.size))
  clear hq
  go_wp2
  refine bodyPost_ret (v := .tuple #[.slice none 0 0, .int .i64 3]) (by simp [results, Try.results47, go_sem]) rfl ?_
  exact KnowOut.bad 3 (by decide) (knowE_bad HV.out (fun h => HD.out h.2.2.2)) rfl ch.out

set_option maxRecDepth 20000 in
set_option maxHeartbeats 4000000 in
theorem know_ok (qa : Option Addr) (qn qc : Nat) (q : List Ins) (w : World) (hhQ : InsRow w w.heap.size (.slice qa qn qc) q) (HV : Hid (validB q = true)) (HR : Hid (validB (knowR q) = true)) (HC : Hid (codeN (knowR q) ≤ 2000000)) (HS : Hid (validB (specL (codeOf (knowR q)) (knowR q)) = true)) (HD : Hid (codeN (knowL q) ≤ 2000000)) :
    Calls Try.prog 47 #[.slice qa qn qc] w (KnowOut w q) := by
  have hQ := Lib.hid hhQ
  clear hhQ
  have ch := Lib.hid (Below.refl w.heap.size w)
  have kv := codeValidP_at _ q w hQ.out _ HV.out
  go_enter Try.func47, Try.ntmps47
  go_wp2_with fail
  refine (kv).mono ?_
  rintro e w1 ⟨rfl, hq⟩
  have hQ := Lib.hid ((hQ.out.below hq).mono hq.size)
  have ch := Lib.hid (ch.out.trans (hq.mono ch.out.size))
  clear hq
  clear kv
  go_wp2_with fail
  refine (before_any _).mono ?_
  rintro e w2 ⟨ba, bc, rfl, hB, hq⟩
  have hQ := Lib.hid ((hQ.out.below hq).mono hq.size)
  have ch := Lib.hid (ch.out.trans (hq.mono ch.out.size))
  clear hq
  have hB := Lib.hid hB
  go_wp2_with fail
  have hL0 := ProgsRow.lit (w := w2) [.slice ba 16 bc, .slice qa qn qc] [behindL, q] rfl (by simp) (fun j u l hu hl => match j, u, l, hu, hl with | 0, _, _, hu, hl => by cases hu; cases hl; exact hB.out | 1, _, _, hu, hl => by cases hu; cases hl; exact hQ.out)
  obtain ⟨w3, hW⟩ : ∃ B, w2.alloc (.cells #[.slice ba 16 bc, .slice qa qn qc] 25) = B := ⟨_, rfl⟩
  rw [hW]
  have hq : Below w2.heap.size w2 w3 := by rw [← hW]; exact (Below.refl _ _).alloc (Nat.le_refl _) _
  have hL := Lib.hid (show ProgsRow w3 w3.heap.size (.slice (some ⟨w2.heap.size, 0, none⟩) 2 2) [behindL, q] by rw [← hW]; exact hL0)
  clear hW hL0
  have hQ := Lib.hid ((hQ.out.below hq).mono hq.size)
  have hB := Lib.hid ((hB.out.below hq).mono hq.size)
  have ch := Lib.hid (ch.out.trans (hq.mono ch.out.size))
  clear hq
  have hq4 := validB_len HV.out
  have kj := join_any _ [behindL, q] _ hL.out (by simp [lenS, behindL, beforeL, clearL_length]; omega)
  rw [show ([behindL, q] : List (List Ins)).flatten = knowR q by simp [knowR], HR.out] at kj
  obtain ⟨N, hN⟩ : ∃ N, lenS [behindL, q] = N := ⟨_, rfl⟩
  rw [hN] at kj
  clear hN hq4
  refine (kj).mono ?_
  rintro e w4 ⟨ja, jc, rfl, hJ, hq⟩
  have hQ := Lib.hid ((hQ.out.below hq).mono hq.size)
  have hB := Lib.hid ((hB.out.below hq).mono hq.size)
  have hL := Lib.hid ((hL.out.below hq).mono hq.size)
  have ch := Lib.hid (ch.out.trans (hq.mono ch.out.size))
  clear hq
  have hJ := Lib.hid hJ
  clear kj hL hB
  go_wp2_with fail
  refine (code_fine _ (knowR q) _ hJ.out HR.out HC.out).mono ?_
  rintro e w5 ⟨rfl, hq⟩
  have hQ := Lib.hid ((hQ.out.below hq).mono hq.size)
  have hJ := Lib.hid ((hJ.out.below hq).mono hq.size)
  have ch := Lib.hid (ch.out.trans (hq.mono ch.out.size))
  clear hq
  have htree := codeOf_tree (validB_all HR.out) HC.out
  go_wp2_with fail
  refine (spec_fine _ (knowR q) (codeOf (knowR q)) _ hJ.out HR.out htree HS.out).mono ?_
  rintro e w6 ⟨vs, rfl, hS, hq⟩
  have hQ := Lib.hid ((hQ.out.below hq).mono hq.size)
  have hJ := Lib.hid ((hJ.out.below hq).mono hq.size)
  have ch := Lib.hid (ch.out.trans (hq.mono ch.out.size))
  clear hq
  have hS := Lib.hid hS
  go_wp2_with fail
  refine (code_fine _ (knowL q) _ hS.out HS.out HD.out).mono ?_
  rintro e w7 ⟨rfl, hq⟩
  have hQ := Lib.hid ((hQ.out.below hq).mono hq.size)
  have hJ := Lib.hid ((hJ.out.below hq).mono hq.size)
  have hS := Lib.hid ((hS.out.below hq).mono hq.size)
  have ch := Lib.hid (ch.out.trans (hq.mono ch.out.size))
  clear hq
  go_wp2
  refine bodyPost_ret (v := .tuple #[vs, .int .i64 0]) (by simp [results, Try.results47, go_sem]) rfl ?_
  exact KnowOut.ok (by unfold knowE; rw [if_neg (by rw [HV.out]; simp), if_pos ⟨HR.out, HC.out, HS.out, HD.out⟩]) rfl hS.out ch.out

theorem know_any (v : Value) (q : List Ins) (w : World) (hq : InsRow w w.heap.size v q) : Calls Try.prog 47 #[v] w (KnowOut w q) := by
  obtain ⟨qa, qc, rfl⟩ := hq.len
  cases h1 : validB q with
  | false => exact know_form _ _ _ q w hq (Lib.hid h1)
  | true =>
    cases h2 : validB (knowR q) with
    | false => exact know_join _ _ _ q w hq (Lib.hid h1) (Lib.hid h2)
    | true =>
      by_cases h3 : codeN (knowR q) ≤ 2000000
      · by_cases h4 : validB (specL (codeOf (knowR q)) (knowR q)) = true
        · by_cases h5 : codeN (knowL q) ≤ 2000000
          · exact know_ok _ _ _ q w hq (Lib.hid h1) (Lib.hid h2) (Lib.hid h3) (Lib.hid h4) (Lib.hid h5)
          · exact know_last _ _ _ q w hq (Lib.hid h1) (Lib.hid h2) (Lib.hid h3) (Lib.hid h4) (Lib.hid h5)
        · exact know_spec _ _ _ q w hq (Lib.hid h1) (Lib.hid h2) (Lib.hid h3) (Lib.hid h4)
      · exact know_code _ _ _ q w hq (Lib.hid h1) (Lib.hid h2) (Lib.hid h3)

end Go.Proofs.Ytaiomcjopgnfpaa

namespace Go.Proofs.Ytaiomcjopgnfpaa
open Go.RowKit

theorem rnum_at (i : Int) (n : Nat) (hi : i = n) (h : n ≤ 100000) (w0 w : World) (hb : Below w0.heap.size w0 w) : Calls Try.prog 155 #[.int .i64 i] w fun e w' => e = .returned (.string (TS (.num n))) ∧ Below w0.heap.size w0 w' := by
  subst hi
  exact (refNumber_ok n (by omega) w).mono fun e w' h => ⟨h.1, hb.trans (h.2.mono hb.size)⟩
theorem rpair_any (t u : Tr) (hs : t.size + u.size ≤ 100000000) (a b : ByteArray) (ha : TS t = a) (hb : TS u = b) (w : World) : Calls Try.prog 156 #[.string a, .string b] w fun e w' => e = .returned (.string (TS (.pair t u))) ∧ w = w' := by
  have hp : TS (.pair t u) = ⟨#[49]⟩ ++ a ++ b := by rw [← ha, ← hb]; apply ByteArray.ext; simp [TS, Tr.enc]
  have h1 : a.size = t.size := by rw [← ha, TS_size]
  have h2 : b.size = u.size := by rw [← hb, TS_size]
  have h3 : a.size + b.size ≤ 100000000 := by omega
  rw [hp]
  clear hp ha hb h1 h2 hs
  have A0 := fun w => run_string_add_sum (P := Try.prog) (w := w) (⟨#[49]⟩) a (by have : (⟨#[49]⟩ : ByteArray).size = 1 := rfl; omega)
  have A1 := fun w => run_string_add_sum (P := Try.prog) (w := w) (⟨#[49]⟩ ++ a) b (by rw [ByteArray.size_append]; have : (⟨#[49]⟩ : ByteArray).size = 1 := rfl; omega)
  go_enter Try.func156, Try.ntmps156
  go_wp2
  go_ret
  exact ⟨rfl, rfl⟩
theorem rpair_at (t u : Tr) (hs : t.size + u.size ≤ 100000000) (a b : ByteArray) (ha : TS t = a) (hb : TS u = b) (w0 w : World) (hw : Below w0.heap.size w0 w) : Calls Try.prog 156 #[.string a, .string b] w fun e w' => e = .returned (.string (TS (.pair t u))) ∧ Below w0.heap.size w0 w' :=
  (rpair_any t u hs a b ha hb w).mono fun e w' h => ⟨h.1, by rw [← h.2]; exact hw⟩
theorem nsz (n : Nat) : (Tr.num n).size = 2 * n + 1 := size_num n

set_option maxRecDepth 20000 in
set_option maxHeartbeats 4000000 in
theorem cof_set (b : Int) (c : Int) (t : ByteArray) (i : Nat) (zi : i ≤ 50000) (u : Tr) (hu : TS u = t) (hus : u.size ≤ 2000000) (w : World) : Calls Try.prog 130 #[.agg #[.int .i64 0, .int .i64 ((i : Int)), .int .i64 (b), .int .i64 (c), .string t]] w fun e w' => e = .returned (.string (TS (.pair (.num 0) (.pair (.num i) u)))) ∧ Below w.heap.size w w' := by
  have hb0 := Lib.hid ((Below.refl w.heap.size w).alloc (Nat.le_refl _) (.cells #[.int .i64 0, .int .i64 ((i : Int)), .int .i64 (b), .int .i64 (c), .string t] 52))
  have hblk := heap_alloc_new w (.cells #[.int .i64 0, .int .i64 ((i : Int)), .int .i64 (b), .int .i64 (c), .string t] 52)
  obtain ⟨w1, hW⟩ : ∃ B, w.alloc (.cells #[.int .i64 0, .int .i64 ((i : Int)), .int .i64 (b), .int .i64 (c), .string t] 52) = B := ⟨_, rfl⟩
  have hsz : w1.heap.size = w.heap.size + 1 := by rw [← hW]; simp
  rw [hW] at hb0 hblk
  have cc := (block_cells hblk).1
  have KK := Lib.hid (fun (w' : World) (hb : Below w1.heap.size w1 w') => (show w'.cell? ⟨w.heap.size, 0, none⟩ = some (.int .i64 0) ∧ w'.cell? ⟨w.heap.size, 1, none⟩ = some (.int .i64 ((i : Int))) ∧ w'.cell? ⟨w.heap.size, 2, none⟩ = some (.int .i64 (b)) ∧ w'.cell? ⟨w.heap.size, 3, none⟩ = some (.int .i64 (c)) ∧ w'.cell? ⟨w.heap.size, 4, none⟩ = some (.string t) from
    have hl : w.heap.size < w1.heap.size := by omega
    ⟨(hb.cell (p := ⟨w.heap.size, 0, none⟩) hl).trans (cc 0), (hb.cell (p := ⟨w.heap.size, 1, none⟩) hl).trans (cc 1), (hb.cell (p := ⟨w.heap.size, 2, none⟩) hl).trans (cc 2), (hb.cell (p := ⟨w.heap.size, 3, none⟩) hl).trans (cc 3), (hb.cell (p := ⟨w.heap.size, 4, none⟩) hl).trans (cc 4)⟩))
  have hq := Lib.hid (Below.refl w1.heap.size w1)
  obtain ⟨c0, c1, c2, c3, c4⟩ := KK.out w1 (Below.refl _ _)
  clear hblk cc hsz
  go_enter Try.func130, Try.ntmps130
  go_wp2_with fail
  refine (rnum_at ((i : Int)) i (by first | rfl | omega | exact IntWalk.i64_in _ (by omega)) (by omega) w1 _ hq.out).mono ?_
  rintro e w2 ⟨rfl, hb2⟩
  have hq := Lib.hid hb2
  obtain ⟨c0, c1, c2, c3, c4⟩ := KK.out w2 hb2
  clear hb2
  go_wp2_with fail
  refine (rpair_at (.num i) (u) (by simp [nsz]; omega) _ _ (rfl) (hu) w1 _ hq.out).mono ?_
  rintro e w3 ⟨rfl, hb3⟩
  have hq := Lib.hid hb3
  obtain ⟨c0, c1, c2, c3, c4⟩ := KK.out w3 hb3
  clear hb3
  go_wp2_with fail
  refine (rnum_at (0) 0 (by first | rfl | omega | exact IntWalk.i64_in _ (by omega)) (by omega) w1 _ hq.out).mono ?_
  rintro e w4 ⟨rfl, hb4⟩
  have hq := Lib.hid hb4
  obtain ⟨c0, c1, c2, c3, c4⟩ := KK.out w4 hb4
  clear hb4
  go_wp2_with fail
  refine (rpair_at (.num 0) (.pair (.num i) u) (by simp [nsz, Tr.size]; omega) _ _ (rfl) (rfl) w1 _ hq.out).mono ?_
  rintro e w5 ⟨rfl, hb5⟩
  have hq := Lib.hid hb5
  obtain ⟨c0, c1, c2, c3, c4⟩ := KK.out w5 hb5
  clear hb5
  go_wp2
  go_ret
  exact ⟨rfl, hb0.out.trans (hq.out.mono hb0.out.size)⟩

set_option maxRecDepth 20000 in
set_option maxHeartbeats 4000000 in
theorem cof_r1 (c : Int) (t : ByteArray) (i : Nat) (zi : i ≤ 50000) (j : Nat) (zj : j ≤ 50000)  (w : World) : Calls Try.prog 130 #[.agg #[.int .i64 1, .int .i64 ((i : Int)), .int .i64 ((j : Int)), .int .i64 (c), .string t]] w fun e w' => e = .returned (.string (TS (.pair (.num 1) (.pair (.num i) (.num j))))) ∧ Below w.heap.size w w' := by
  have hb0 := Lib.hid ((Below.refl w.heap.size w).alloc (Nat.le_refl _) (.cells #[.int .i64 1, .int .i64 ((i : Int)), .int .i64 ((j : Int)), .int .i64 (c), .string t] 52))
  have hblk := heap_alloc_new w (.cells #[.int .i64 1, .int .i64 ((i : Int)), .int .i64 ((j : Int)), .int .i64 (c), .string t] 52)
  obtain ⟨w1, hW⟩ : ∃ B, w.alloc (.cells #[.int .i64 1, .int .i64 ((i : Int)), .int .i64 ((j : Int)), .int .i64 (c), .string t] 52) = B := ⟨_, rfl⟩
  have hsz : w1.heap.size = w.heap.size + 1 := by rw [← hW]; simp
  rw [hW] at hb0 hblk
  have cc := (block_cells hblk).1
  have KK := Lib.hid (fun (w' : World) (hb : Below w1.heap.size w1 w') => (show w'.cell? ⟨w.heap.size, 0, none⟩ = some (.int .i64 1) ∧ w'.cell? ⟨w.heap.size, 1, none⟩ = some (.int .i64 ((i : Int))) ∧ w'.cell? ⟨w.heap.size, 2, none⟩ = some (.int .i64 ((j : Int))) ∧ w'.cell? ⟨w.heap.size, 3, none⟩ = some (.int .i64 (c)) ∧ w'.cell? ⟨w.heap.size, 4, none⟩ = some (.string t) from
    have hl : w.heap.size < w1.heap.size := by omega
    ⟨(hb.cell (p := ⟨w.heap.size, 0, none⟩) hl).trans (cc 0), (hb.cell (p := ⟨w.heap.size, 1, none⟩) hl).trans (cc 1), (hb.cell (p := ⟨w.heap.size, 2, none⟩) hl).trans (cc 2), (hb.cell (p := ⟨w.heap.size, 3, none⟩) hl).trans (cc 3), (hb.cell (p := ⟨w.heap.size, 4, none⟩) hl).trans (cc 4)⟩))
  have hq := Lib.hid (Below.refl w1.heap.size w1)
  obtain ⟨c0, c1, c2, c3, c4⟩ := KK.out w1 (Below.refl _ _)
  clear hblk cc hsz
  go_enter Try.func130, Try.ntmps130
  go_wp2_with fail
  refine (rnum_at ((i : Int)) i (by first | rfl | omega | exact IntWalk.i64_in _ (by omega)) (by omega) w1 _ hq.out).mono ?_
  rintro e w2 ⟨rfl, hb2⟩
  have hq := Lib.hid hb2
  obtain ⟨c0, c1, c2, c3, c4⟩ := KK.out w2 hb2
  clear hb2
  go_wp2_with fail
  refine (rnum_at ((j : Int)) j (by first | rfl | omega | exact IntWalk.i64_in _ (by omega)) (by omega) w1 _ hq.out).mono ?_
  rintro e w3 ⟨rfl, hb3⟩
  have hq := Lib.hid hb3
  obtain ⟨c0, c1, c2, c3, c4⟩ := KK.out w3 hb3
  clear hb3
  go_wp2_with fail
  refine (rpair_at (.num i) (.num j) (by simp [nsz]; omega) _ _ (rfl) (rfl) w1 _ hq.out).mono ?_
  rintro e w4 ⟨rfl, hb4⟩
  have hq := Lib.hid hb4
  obtain ⟨c0, c1, c2, c3, c4⟩ := KK.out w4 hb4
  clear hb4
  go_wp2_with fail
  refine (rnum_at (1) 1 (by first | rfl | omega | exact IntWalk.i64_in _ (by omega)) (by omega) w1 _ hq.out).mono ?_
  rintro e w5 ⟨rfl, hb5⟩
  have hq := Lib.hid hb5
  obtain ⟨c0, c1, c2, c3, c4⟩ := KK.out w5 hb5
  clear hb5
  go_wp2_with fail
  refine (rpair_at (.num 1) (.pair (.num i) (.num j)) (by simp [nsz, Tr.size]; omega) _ _ (rfl) (rfl) w1 _ hq.out).mono ?_
  rintro e w6 ⟨rfl, hb6⟩
  have hq := Lib.hid hb6
  obtain ⟨c0, c1, c2, c3, c4⟩ := KK.out w6 hb6
  clear hb6
  go_wp2
  go_ret
  exact ⟨rfl, hb0.out.trans (hq.out.mono hb0.out.size)⟩

set_option maxRecDepth 20000 in
set_option maxHeartbeats 4000000 in
theorem cof_r3 (c : Int) (t : ByteArray) (i : Nat) (zi : i ≤ 50000) (j : Nat) (zj : j ≤ 50000)  (w : World) : Calls Try.prog 130 #[.agg #[.int .i64 3, .int .i64 ((i : Int)), .int .i64 ((j : Int)), .int .i64 (c), .string t]] w fun e w' => e = .returned (.string (TS (.pair (.num 3) (.pair (.num i) (.num j))))) ∧ Below w.heap.size w w' := by
  have hb0 := Lib.hid ((Below.refl w.heap.size w).alloc (Nat.le_refl _) (.cells #[.int .i64 3, .int .i64 ((i : Int)), .int .i64 ((j : Int)), .int .i64 (c), .string t] 52))
  have hblk := heap_alloc_new w (.cells #[.int .i64 3, .int .i64 ((i : Int)), .int .i64 ((j : Int)), .int .i64 (c), .string t] 52)
  obtain ⟨w1, hW⟩ : ∃ B, w.alloc (.cells #[.int .i64 3, .int .i64 ((i : Int)), .int .i64 ((j : Int)), .int .i64 (c), .string t] 52) = B := ⟨_, rfl⟩
  have hsz : w1.heap.size = w.heap.size + 1 := by rw [← hW]; simp
  rw [hW] at hb0 hblk
  have cc := (block_cells hblk).1
  have KK := Lib.hid (fun (w' : World) (hb : Below w1.heap.size w1 w') => (show w'.cell? ⟨w.heap.size, 0, none⟩ = some (.int .i64 3) ∧ w'.cell? ⟨w.heap.size, 1, none⟩ = some (.int .i64 ((i : Int))) ∧ w'.cell? ⟨w.heap.size, 2, none⟩ = some (.int .i64 ((j : Int))) ∧ w'.cell? ⟨w.heap.size, 3, none⟩ = some (.int .i64 (c)) ∧ w'.cell? ⟨w.heap.size, 4, none⟩ = some (.string t) from
    have hl : w.heap.size < w1.heap.size := by omega
    ⟨(hb.cell (p := ⟨w.heap.size, 0, none⟩) hl).trans (cc 0), (hb.cell (p := ⟨w.heap.size, 1, none⟩) hl).trans (cc 1), (hb.cell (p := ⟨w.heap.size, 2, none⟩) hl).trans (cc 2), (hb.cell (p := ⟨w.heap.size, 3, none⟩) hl).trans (cc 3), (hb.cell (p := ⟨w.heap.size, 4, none⟩) hl).trans (cc 4)⟩))
  have hq := Lib.hid (Below.refl w1.heap.size w1)
  obtain ⟨c0, c1, c2, c3, c4⟩ := KK.out w1 (Below.refl _ _)
  clear hblk cc hsz
  go_enter Try.func130, Try.ntmps130
  go_wp2_with fail
  refine (rnum_at ((i : Int)) i (by first | rfl | omega | exact IntWalk.i64_in _ (by omega)) (by omega) w1 _ hq.out).mono ?_
  rintro e w2 ⟨rfl, hb2⟩
  have hq := Lib.hid hb2
  obtain ⟨c0, c1, c2, c3, c4⟩ := KK.out w2 hb2
  clear hb2
  go_wp2_with fail
  refine (rnum_at ((j : Int)) j (by first | rfl | omega | exact IntWalk.i64_in _ (by omega)) (by omega) w1 _ hq.out).mono ?_
  rintro e w3 ⟨rfl, hb3⟩
  have hq := Lib.hid hb3
  obtain ⟨c0, c1, c2, c3, c4⟩ := KK.out w3 hb3
  clear hb3
  go_wp2_with fail
  refine (rpair_at (.num i) (.num j) (by simp [nsz]; omega) _ _ (rfl) (rfl) w1 _ hq.out).mono ?_
  rintro e w4 ⟨rfl, hb4⟩
  have hq := Lib.hid hb4
  obtain ⟨c0, c1, c2, c3, c4⟩ := KK.out w4 hb4
  clear hb4
  go_wp2_with fail
  refine (rnum_at (3) 3 (by first | rfl | omega | exact IntWalk.i64_in _ (by omega)) (by omega) w1 _ hq.out).mono ?_
  rintro e w5 ⟨rfl, hb5⟩
  have hq := Lib.hid hb5
  obtain ⟨c0, c1, c2, c3, c4⟩ := KK.out w5 hb5
  clear hb5
  go_wp2_with fail
  refine (rpair_at (.num 3) (.pair (.num i) (.num j)) (by simp [nsz, Tr.size]; omega) _ _ (rfl) (rfl) w1 _ hq.out).mono ?_
  rintro e w6 ⟨rfl, hb6⟩
  have hq := Lib.hid hb6
  obtain ⟨c0, c1, c2, c3, c4⟩ := KK.out w6 hb6
  clear hb6
  go_wp2
  go_ret
  exact ⟨rfl, hb0.out.trans (hq.out.mono hb0.out.size)⟩

set_option maxRecDepth 20000 in
set_option maxHeartbeats 4000000 in
theorem cof_r4 (c : Int) (t : ByteArray) (i : Nat) (zi : i ≤ 50000) (j : Nat) (zj : j ≤ 50000)  (w : World) : Calls Try.prog 130 #[.agg #[.int .i64 4, .int .i64 ((i : Int)), .int .i64 ((j : Int)), .int .i64 (c), .string t]] w fun e w' => e = .returned (.string (TS (.pair (.num 4) (.pair (.num i) (.num j))))) ∧ Below w.heap.size w w' := by
  have hb0 := Lib.hid ((Below.refl w.heap.size w).alloc (Nat.le_refl _) (.cells #[.int .i64 4, .int .i64 ((i : Int)), .int .i64 ((j : Int)), .int .i64 (c), .string t] 52))
  have hblk := heap_alloc_new w (.cells #[.int .i64 4, .int .i64 ((i : Int)), .int .i64 ((j : Int)), .int .i64 (c), .string t] 52)
  obtain ⟨w1, hW⟩ : ∃ B, w.alloc (.cells #[.int .i64 4, .int .i64 ((i : Int)), .int .i64 ((j : Int)), .int .i64 (c), .string t] 52) = B := ⟨_, rfl⟩
  have hsz : w1.heap.size = w.heap.size + 1 := by rw [← hW]; simp
  rw [hW] at hb0 hblk
  have cc := (block_cells hblk).1
  have KK := Lib.hid (fun (w' : World) (hb : Below w1.heap.size w1 w') => (show w'.cell? ⟨w.heap.size, 0, none⟩ = some (.int .i64 4) ∧ w'.cell? ⟨w.heap.size, 1, none⟩ = some (.int .i64 ((i : Int))) ∧ w'.cell? ⟨w.heap.size, 2, none⟩ = some (.int .i64 ((j : Int))) ∧ w'.cell? ⟨w.heap.size, 3, none⟩ = some (.int .i64 (c)) ∧ w'.cell? ⟨w.heap.size, 4, none⟩ = some (.string t) from
    have hl : w.heap.size < w1.heap.size := by omega
    ⟨(hb.cell (p := ⟨w.heap.size, 0, none⟩) hl).trans (cc 0), (hb.cell (p := ⟨w.heap.size, 1, none⟩) hl).trans (cc 1), (hb.cell (p := ⟨w.heap.size, 2, none⟩) hl).trans (cc 2), (hb.cell (p := ⟨w.heap.size, 3, none⟩) hl).trans (cc 3), (hb.cell (p := ⟨w.heap.size, 4, none⟩) hl).trans (cc 4)⟩))
  have hq := Lib.hid (Below.refl w1.heap.size w1)
  obtain ⟨c0, c1, c2, c3, c4⟩ := KK.out w1 (Below.refl _ _)
  clear hblk cc hsz
  go_enter Try.func130, Try.ntmps130
  go_wp2_with fail
  refine (rnum_at ((i : Int)) i (by first | rfl | omega | exact IntWalk.i64_in _ (by omega)) (by omega) w1 _ hq.out).mono ?_
  rintro e w2 ⟨rfl, hb2⟩
  have hq := Lib.hid hb2
  obtain ⟨c0, c1, c2, c3, c4⟩ := KK.out w2 hb2
  clear hb2
  go_wp2_with fail
  refine (rnum_at ((j : Int)) j (by first | rfl | omega | exact IntWalk.i64_in _ (by omega)) (by omega) w1 _ hq.out).mono ?_
  rintro e w3 ⟨rfl, hb3⟩
  have hq := Lib.hid hb3
  obtain ⟨c0, c1, c2, c3, c4⟩ := KK.out w3 hb3
  clear hb3
  go_wp2_with fail
  refine (rpair_at (.num i) (.num j) (by simp [nsz]; omega) _ _ (rfl) (rfl) w1 _ hq.out).mono ?_
  rintro e w4 ⟨rfl, hb4⟩
  have hq := Lib.hid hb4
  obtain ⟨c0, c1, c2, c3, c4⟩ := KK.out w4 hb4
  clear hb4
  go_wp2_with fail
  refine (rnum_at (4) 4 (by first | rfl | omega | exact IntWalk.i64_in _ (by omega)) (by omega) w1 _ hq.out).mono ?_
  rintro e w5 ⟨rfl, hb5⟩
  have hq := Lib.hid hb5
  obtain ⟨c0, c1, c2, c3, c4⟩ := KK.out w5 hb5
  clear hb5
  go_wp2_with fail
  refine (rpair_at (.num 4) (.pair (.num i) (.num j)) (by simp [nsz, Tr.size]; omega) _ _ (rfl) (rfl) w1 _ hq.out).mono ?_
  rintro e w6 ⟨rfl, hb6⟩
  have hq := Lib.hid hb6
  obtain ⟨c0, c1, c2, c3, c4⟩ := KK.out w6 hb6
  clear hb6
  go_wp2
  go_ret
  exact ⟨rfl, hb0.out.trans (hq.out.mono hb0.out.size)⟩

set_option maxRecDepth 20000 in
set_option maxHeartbeats 4000000 in
theorem cof_cons (t : ByteArray) (i : Nat) (zi : i ≤ 50000) (j : Nat) (zj : j ≤ 50000) (k : Nat) (zk : k ≤ 50000)  (w : World) : Calls Try.prog 130 #[.agg #[.int .i64 2, .int .i64 ((i : Int)), .int .i64 ((j : Int)), .int .i64 ((k : Int)), .string t]] w fun e w' => e = .returned (.string (TS (.pair (.num 2) (.pair (.num i) (.pair (.num j) (.num k)))))) ∧ Below w.heap.size w w' := by
  have hb0 := Lib.hid ((Below.refl w.heap.size w).alloc (Nat.le_refl _) (.cells #[.int .i64 2, .int .i64 ((i : Int)), .int .i64 ((j : Int)), .int .i64 ((k : Int)), .string t] 52))
  have hblk := heap_alloc_new w (.cells #[.int .i64 2, .int .i64 ((i : Int)), .int .i64 ((j : Int)), .int .i64 ((k : Int)), .string t] 52)
  obtain ⟨w1, hW⟩ : ∃ B, w.alloc (.cells #[.int .i64 2, .int .i64 ((i : Int)), .int .i64 ((j : Int)), .int .i64 ((k : Int)), .string t] 52) = B := ⟨_, rfl⟩
  have hsz : w1.heap.size = w.heap.size + 1 := by rw [← hW]; simp
  rw [hW] at hb0 hblk
  have cc := (block_cells hblk).1
  have KK := Lib.hid (fun (w' : World) (hb : Below w1.heap.size w1 w') => (show w'.cell? ⟨w.heap.size, 0, none⟩ = some (.int .i64 2) ∧ w'.cell? ⟨w.heap.size, 1, none⟩ = some (.int .i64 ((i : Int))) ∧ w'.cell? ⟨w.heap.size, 2, none⟩ = some (.int .i64 ((j : Int))) ∧ w'.cell? ⟨w.heap.size, 3, none⟩ = some (.int .i64 ((k : Int))) ∧ w'.cell? ⟨w.heap.size, 4, none⟩ = some (.string t) from
    have hl : w.heap.size < w1.heap.size := by omega
    ⟨(hb.cell (p := ⟨w.heap.size, 0, none⟩) hl).trans (cc 0), (hb.cell (p := ⟨w.heap.size, 1, none⟩) hl).trans (cc 1), (hb.cell (p := ⟨w.heap.size, 2, none⟩) hl).trans (cc 2), (hb.cell (p := ⟨w.heap.size, 3, none⟩) hl).trans (cc 3), (hb.cell (p := ⟨w.heap.size, 4, none⟩) hl).trans (cc 4)⟩))
  have hq := Lib.hid (Below.refl w1.heap.size w1)
  obtain ⟨c0, c1, c2, c3, c4⟩ := KK.out w1 (Below.refl _ _)
  clear hblk cc hsz
  go_enter Try.func130, Try.ntmps130
  go_wp2_with fail
  refine (rnum_at ((i : Int)) i (by first | rfl | omega | exact IntWalk.i64_in _ (by omega)) (by omega) w1 _ hq.out).mono ?_
  rintro e w2 ⟨rfl, hb2⟩
  have hq := Lib.hid hb2
  obtain ⟨c0, c1, c2, c3, c4⟩ := KK.out w2 hb2
  clear hb2
  have hq0 := hq
  have Kj := Lib.hid (fun (w' : World) (hb : Below w2.heap.size w2 w') => rnum_at (j : Int) j rfl (by omega) w2 w' hb)
  have Kk := Lib.hid (fun (w' : World) (hb : Below w2.heap.size w2 w') => rnum_at (k : Int) k rfl (by omega) w2 w' hb)
  have Kp := Lib.hid (fun (w' : World) (hb : Below w2.heap.size w2 w') => rpair_at (.num j) (.num k) (by simp [nsz]; omega) _ _ rfl rfl w2 w' hb)
  have Kq := Lib.hid (fun (w' : World) (hb : Below w2.heap.size w2 w') => rpair_at (.num i) (.pair (.num j) (.num k)) (by simp [nsz, Tr.size]; omega) _ _ rfl rfl w2 w' hb)
  have KZ := Lib.hid (fun (w' : World) (hb : Below w2.heap.size w2 w') => KK.out w' (hq0.out.trans (hb.mono hq0.out.size)))
  go_wp2
  go_region_held3 (fun w' => w'.cell? ⟨w.heap.size, 0, none⟩ = some (.int .i64 2) ∧ w'.cell? ⟨w.heap.size, 1, none⟩ = some (.int .i64 (i : Int)) ∧ w'.cell? ⟨w.heap.size, 2, none⟩ = some (.int .i64 (j : Int)) ∧ w'.cell? ⟨w.heap.size, 3, none⟩ = some (.int .i64 (k : Int)) ∧ w'.cell? ⟨w.heap.size, 4, none⟩ = some (.string t))
    (with_reducible (first | exact KZ.out _ hb5 | exact KZ.out _ hb4 | exact KZ.out _ hb3 | exact KZ.out _ hb2 | exact KZ.out _ (Below.refl _ _) | exact KZ.out _ (Below.refl _ _).drew | fail "keep"))
    ((first | ((with_reducible refine (Kj.out _ (by first | exact Below.refl _ _ | exact hb5 | exact hb4 | exact hb3 | exact hb2 | exact (Below.refl _ _).drew | exact hb5.drew | exact hb4.drew | exact hb3.drew | exact hb2.drew)).mono ?_); rintro e v2 ⟨rfl, hb2⟩) | ((with_reducible refine (Kk.out _ (by first | exact Below.refl _ _ | exact hb5 | exact hb4 | exact hb3 | exact hb2 | exact (Below.refl _ _).drew | exact hb5.drew | exact hb4.drew | exact hb3.drew | exact hb2.drew)).mono ?_); rintro e v3 ⟨rfl, hb3⟩) | ((with_reducible refine (Kp.out _ (by first | exact Below.refl _ _ | exact hb5 | exact hb4 | exact hb3 | exact hb2 | exact (Below.refl _ _).drew | exact hb5.drew | exact hb4.drew | exact hb3.drew | exact hb2.drew)).mono ?_); rintro e v4 ⟨rfl, hb4⟩) | ((with_reducible refine (Kq.out _ (by first | exact Below.refl _ _ | exact hb5 | exact hb4 | exact hb3 | exact hb2 | exact (Below.refl _ _).drew | exact hb5.drew | exact hb4.drew | exact hb3.drew | exact hb2.drew)).mono ?_); rintro e v5 ⟨rfl, hb5⟩) | (fail "arm")))
  all_goals (
  have hq := Lib.hid (hq0.out.trans (hb5.mono hq0.out.size))
  obtain ⟨c0, c1, c2, c3, c4⟩ := KK.out _ hq.out
  go_wp2_with fail
  refine (rnum_at (2) 2 (by first | rfl | omega | exact IntWalk.i64_in _ (by omega)) (by omega) w1 _ hq.out).mono ?_
  rintro e w3 ⟨rfl, hb3⟩
  have hq := Lib.hid hb3
  obtain ⟨c0, c1, c2, c3, c4⟩ := KK.out w3 hb3
  clear hb3
  go_wp2_with fail
  refine (rpair_at (.num 2) (.pair (.num i) (.pair (.num j) (.num k))) (by simp [nsz, Tr.size]; omega) _ _ (rfl) (rfl) w1 _ hq.out).mono ?_
  rintro e w4 ⟨rfl, hb4⟩
  have hq := Lib.hid hb4
  obtain ⟨c0, c1, c2, c3, c4⟩ := KK.out w4 hb4
  clear hb4
  go_wp2
  go_ret
  exact ⟨rfl, hb0.out.trans (hq.out.mono hb0.out.size)⟩)

set_option maxRecDepth 20000 in
set_option maxHeartbeats 4000000 in
theorem cof_on (c : Int) (t : ByteArray) (i : Nat) (zi : i ≤ 50000) (j : Nat) (zj : j ≤ 50000)  (w : World) : Calls Try.prog 130 #[.agg #[.int .i64 5, .int .i64 ((i : Int)), .int .i64 ((j : Int)), .int .i64 (c), .string t]] w fun e w' => e = .returned (.string (TS (.pair (.num 5) (.pair (.num i) (.pair .nil (.num j)))))) ∧ Below w.heap.size w w' := by
  have hb0 := Lib.hid ((Below.refl w.heap.size w).alloc (Nat.le_refl _) (.cells #[.int .i64 5, .int .i64 ((i : Int)), .int .i64 ((j : Int)), .int .i64 (c), .string t] 52))
  have hblk := heap_alloc_new w (.cells #[.int .i64 5, .int .i64 ((i : Int)), .int .i64 ((j : Int)), .int .i64 (c), .string t] 52)
  obtain ⟨w1, hW⟩ : ∃ B, w.alloc (.cells #[.int .i64 5, .int .i64 ((i : Int)), .int .i64 ((j : Int)), .int .i64 (c), .string t] 52) = B := ⟨_, rfl⟩
  have hsz : w1.heap.size = w.heap.size + 1 := by rw [← hW]; simp
  rw [hW] at hb0 hblk
  have cc := (block_cells hblk).1
  have KK := Lib.hid (fun (w' : World) (hb : Below w1.heap.size w1 w') => (show w'.cell? ⟨w.heap.size, 0, none⟩ = some (.int .i64 5) ∧ w'.cell? ⟨w.heap.size, 1, none⟩ = some (.int .i64 ((i : Int))) ∧ w'.cell? ⟨w.heap.size, 2, none⟩ = some (.int .i64 ((j : Int))) ∧ w'.cell? ⟨w.heap.size, 3, none⟩ = some (.int .i64 (c)) ∧ w'.cell? ⟨w.heap.size, 4, none⟩ = some (.string t) from
    have hl : w.heap.size < w1.heap.size := by omega
    ⟨(hb.cell (p := ⟨w.heap.size, 0, none⟩) hl).trans (cc 0), (hb.cell (p := ⟨w.heap.size, 1, none⟩) hl).trans (cc 1), (hb.cell (p := ⟨w.heap.size, 2, none⟩) hl).trans (cc 2), (hb.cell (p := ⟨w.heap.size, 3, none⟩) hl).trans (cc 3), (hb.cell (p := ⟨w.heap.size, 4, none⟩) hl).trans (cc 4)⟩))
  have hq := Lib.hid (Below.refl w1.heap.size w1)
  obtain ⟨c0, c1, c2, c3, c4⟩ := KK.out w1 (Below.refl _ _)
  clear hblk cc hsz
  have hmx : max (j : Int) 0 = (j : Int) := by omega
  have hnn : ¬ (j : Int) < 0 := by omega
  go_enter Try.func130, Try.ntmps130
  go_wp2_with fail
  refine (rnum_at ((i : Int)) i (by first | rfl | omega | exact IntWalk.i64_in _ (by omega)) (by omega) w1 _ hq.out).mono ?_
  rintro e w2 ⟨rfl, hb2⟩
  have hq := Lib.hid hb2
  obtain ⟨c0, c1, c2, c3, c4⟩ := KK.out w2 hb2
  clear hb2
  go_wp2_with fail
  refine (rnum_at ((j : Int)) j (by first | rfl | omega | exact IntWalk.i64_in _ (by omega)) (by omega) w1 _ hq.out).mono ?_
  rintro e w3 ⟨rfl, hb3⟩
  have hq := Lib.hid hb3
  obtain ⟨c0, c1, c2, c3, c4⟩ := KK.out w3 hb3
  clear hb3
  go_wp2_with fail
  refine (rpair_at (.nil) (.num j) (by simp [nsz, Tr.size]; omega) _ _ (rfl) (rfl) w1 _ hq.out).mono ?_
  rintro e w4 ⟨rfl, hb4⟩
  have hq := Lib.hid hb4
  obtain ⟨c0, c1, c2, c3, c4⟩ := KK.out w4 hb4
  clear hb4
  go_wp2_with fail
  refine (rpair_at (.num i) (.pair .nil (.num j)) (by simp [nsz, Tr.size]; omega) _ _ (rfl) (rfl) w1 _ hq.out).mono ?_
  rintro e w5 ⟨rfl, hb5⟩
  have hq := Lib.hid hb5
  obtain ⟨c0, c1, c2, c3, c4⟩ := KK.out w5 hb5
  clear hb5
  go_wp2_with fail
  refine (rnum_at (5) 5 (by first | rfl | omega | exact IntWalk.i64_in _ (by omega)) (by omega) w1 _ hq.out).mono ?_
  rintro e w6 ⟨rfl, hb6⟩
  have hq := Lib.hid hb6
  obtain ⟨c0, c1, c2, c3, c4⟩ := KK.out w6 hb6
  clear hb6
  go_wp2_with fail
  refine (rpair_at (.num 5) (.pair (.num i) (.pair .nil (.num j))) (by simp [nsz, Tr.size]; omega) _ _ (rfl) (rfl) w1 _ hq.out).mono ?_
  rintro e w7 ⟨rfl, hb7⟩
  have hq := Lib.hid hb7
  obtain ⟨c0, c1, c2, c3, c4⟩ := KK.out w7 hb7
  clear hb7
  go_wp2
  go_ret
  exact ⟨rfl, hb0.out.trans (hq.out.mono hb0.out.size)⟩

set_option maxRecDepth 20000 in
set_option maxHeartbeats 4000000 in
theorem cof_back (c : Int) (t : ByteArray) (i : Nat) (zi : i ≤ 50000) (j : Nat) (zj : j ≤ 50000) (hj : 0 < j) (w : World) : Calls Try.prog 130 #[.agg #[.int .i64 5, .int .i64 ((i : Int)), .int .i64 (-(j : Int)), .int .i64 (c), .string t]] w fun e w' => e = .returned (.string (TS (.pair (.num 5) (.pair (.num i) (.pair (.pair .nil .nil) (.num j)))))) ∧ Below w.heap.size w w' := by
  have hb0 := Lib.hid ((Below.refl w.heap.size w).alloc (Nat.le_refl _) (.cells #[.int .i64 5, .int .i64 ((i : Int)), .int .i64 (-(j : Int)), .int .i64 (c), .string t] 52))
  have hblk := heap_alloc_new w (.cells #[.int .i64 5, .int .i64 ((i : Int)), .int .i64 (-(j : Int)), .int .i64 (c), .string t] 52)
  obtain ⟨w1, hW⟩ : ∃ B, w.alloc (.cells #[.int .i64 5, .int .i64 ((i : Int)), .int .i64 (-(j : Int)), .int .i64 (c), .string t] 52) = B := ⟨_, rfl⟩
  have hsz : w1.heap.size = w.heap.size + 1 := by rw [← hW]; simp
  rw [hW] at hb0 hblk
  have cc := (block_cells hblk).1
  have KK := Lib.hid (fun (w' : World) (hb : Below w1.heap.size w1 w') => (show w'.cell? ⟨w.heap.size, 0, none⟩ = some (.int .i64 5) ∧ w'.cell? ⟨w.heap.size, 1, none⟩ = some (.int .i64 ((i : Int))) ∧ w'.cell? ⟨w.heap.size, 2, none⟩ = some (.int .i64 (-(j : Int))) ∧ w'.cell? ⟨w.heap.size, 3, none⟩ = some (.int .i64 (c)) ∧ w'.cell? ⟨w.heap.size, 4, none⟩ = some (.string t) from
    have hl : w.heap.size < w1.heap.size := by omega
    ⟨(hb.cell (p := ⟨w.heap.size, 0, none⟩) hl).trans (cc 0), (hb.cell (p := ⟨w.heap.size, 1, none⟩) hl).trans (cc 1), (hb.cell (p := ⟨w.heap.size, 2, none⟩) hl).trans (cc 2), (hb.cell (p := ⟨w.heap.size, 3, none⟩) hl).trans (cc 3), (hb.cell (p := ⟨w.heap.size, 4, none⟩) hl).trans (cc 4)⟩))
  have hq := Lib.hid (Below.refl w1.heap.size w1)
  obtain ⟨c0, c1, c2, c3, c4⟩ := KK.out w1 (Below.refl _ _)
  clear hblk cc hsz
  have hmx : max (-(j : Int)) 0 = 0 := by omega
  have hnn : -(j : Int) < 0 := by omega
  go_enter Try.func130, Try.ntmps130
  go_wp2_with fail
  refine (rnum_at ((i : Int)) i (by first | rfl | omega | exact IntWalk.i64_in _ (by omega)) (by omega) w1 _ hq.out).mono ?_
  rintro e w2 ⟨rfl, hb2⟩
  have hq := Lib.hid hb2
  obtain ⟨c0, c1, c2, c3, c4⟩ := KK.out w2 hb2
  clear hb2
  go_wp2_with fail
  refine (rnum_at (0) 0 (by first | rfl | omega | exact IntWalk.i64_in _ (by omega)) (by omega) w1 _ hq.out).mono ?_
  rintro e w3 ⟨rfl, hb3⟩
  have hq := Lib.hid hb3
  obtain ⟨c0, c1, c2, c3, c4⟩ := KK.out w3 hb3
  clear hb3
  go_wp2_with fail
  refine (rpair_at (.nil) (.num 0) (by simp [nsz, Tr.size]) _ _ (rfl) (rfl) w1 _ hq.out).mono ?_
  rintro e w4 ⟨rfl, hb4⟩
  have hq := Lib.hid hb4
  obtain ⟨c0, c1, c2, c3, c4⟩ := KK.out w4 hb4
  clear hb4
  go_wp2_with fail
  refine (rpair_at (.num i) (.pair .nil (.num 0)) (by simp [nsz, Tr.size]; omega) _ _ (rfl) (rfl) w1 _ hq.out).mono ?_
  rintro e w5 ⟨rfl, hb5⟩
  have hq := Lib.hid hb5
  obtain ⟨c0, c1, c2, c3, c4⟩ := KK.out w5 hb5
  clear hb5
  go_wp2_with fail
  refine (rnum_at (_) j (by first | rfl | omega | exact IntWalk.i64_in _ (by omega)) (by omega) w1 _ hq.out).mono ?_
  rintro e w6 ⟨rfl, hb6⟩
  have hq := Lib.hid hb6
  obtain ⟨c0, c1, c2, c3, c4⟩ := KK.out w6 hb6
  clear hb6
  go_wp2_with fail
  refine (rpair_at (.pair .nil .nil) (.num j) (by simp [nsz, Tr.size]; omega) _ _ (rfl) (rfl) w1 _ hq.out).mono ?_
  rintro e w7 ⟨rfl, hb7⟩
  have hq := Lib.hid hb7
  obtain ⟨c0, c1, c2, c3, c4⟩ := KK.out w7 hb7
  clear hb7
  go_wp2_with fail
  refine (rpair_at (.num i) (.pair (.pair .nil .nil) (.num j)) (by simp [nsz, Tr.size]; omega) _ _ (rfl) (rfl) w1 _ hq.out).mono ?_
  rintro e w8 ⟨rfl, hb8⟩
  have hq := Lib.hid hb8
  obtain ⟨c0, c1, c2, c3, c4⟩ := KK.out w8 hb8
  clear hb8
  go_wp2_with fail
  refine (rnum_at (5) 5 (by first | rfl | omega | exact IntWalk.i64_in _ (by omega)) (by omega) w1 _ hq.out).mono ?_
  rintro e w9 ⟨rfl, hb9⟩
  have hq := Lib.hid hb9
  obtain ⟨c0, c1, c2, c3, c4⟩ := KK.out w9 hb9
  clear hb9
  go_wp2_with fail
  refine (rpair_at (.num 5) (.pair (.num i) (.pair (.pair .nil .nil) (.num j))) (by simp [nsz, Tr.size]; omega) _ _ (rfl) (rfl) w1 _ hq.out).mono ?_
  rintro e w10 ⟨rfl, hb10⟩
  have hq := Lib.hid hb10
  obtain ⟨c0, c1, c2, c3, c4⟩ := KK.out w10 hb10
  clear hb10
  go_wp2
  go_ret
  exact ⟨rfl, hb0.out.trans (hq.out.mono hb0.out.size)⟩

end Go.Proofs.Ytaiomcjopgnfpaa

namespace Go.Proofs.Ytaiomcjopgnfpaa
open Go.RowKit

theorem cof_any {x : Ins} {i n : Int} (hr : rightB x i n = true) (hi : 0 ≤ i ∧ i ≤ 4000 ∧ n ≤ 4000) (w : World) :
    Calls Try.prog 130 #[.agg #[.int .i64 x.op, .int .i64 x.a, .int .i64 x.b, .int .i64 x.c, .string x.tree]] w fun e w' => e = .returned (.string (TS (insT x))) ∧ Below w.heap.size w w' := by
  obtain ⟨a, ha, ha2, hbc⟩ := right_nats hr
  have hop := right_op hr
  have htr := hr
  obtain ⟨op, xa, b, c, t⟩ := x
  simp only at ha hop hbc
  subst ha
  rcases hop with rfl | rfl | rfl | rfl | rfl | rfl
  · have ht : isTree t = true := by
      unfold rightB at htr
      simp only [Bool.and_eq_true] at htr
      have h3 := htr.2
      simp at h3
      exact h3.2
    have := cof_set b c t a (by omega) (toTr t) (TS_toTr ht) (toTr_size t) w
    simpa [insT, bodyT] using this
  · obtain ⟨b', c', rfl, rfl, h1, h2⟩ := hbc (by decide)
    have := cof_r1 c' t a (by omega) b' (by omega) w
    simpa [insT, bodyT] using this
  · obtain ⟨b', c', rfl, rfl, h1, h2⟩ := hbc (by decide)
    have := cof_cons t a (by omega) b' (by omega) c' (by omega) w
    simpa [insT, bodyT] using this
  · obtain ⟨b', c', rfl, rfl, h1, h2⟩ := hbc (by decide)
    have := cof_r3 c' t a (by omega) b' (by omega) w
    simpa [insT, bodyT] using this
  · obtain ⟨b', c', rfl, rfl, h1, h2⟩ := hbc (by decide)
    have := cof_r4 c' t a (by omega) b' (by omega) w
    simpa [insT, bodyT] using this
  · have hj := right_jump hr rfl
    simp only at hj
    by_cases hneg : b < 0
    · obtain ⟨j, rfl⟩ : ∃ j : Nat, b = -(j : Int) := ⟨(-b).toNat, by omega⟩
      have := cof_back c t a (by omega) j (by omega) (by omega) w
      have h0 : 0 < j := by omega
      simpa [insT, bodyT, h0] using this
    · obtain ⟨j, rfl⟩ : ∃ j : Nat, b = (j : Int) := ⟨b.toNat, by omega⟩
      have := cof_on c t a (by omega) j (by omega) w
      have hn : ¬ ((j : Nat) : Int) < 0 := by omega
      simpa [insT, bodyT, hn] using this
theorem insT_size {x : Ins} {i n : Int} (hr : rightB x i n = true) (hi : 0 ≤ i ∧ i ≤ 4000 ∧ n ≤ 4000) : (TS (insT x)).size ≤ 4000020 := by
  obtain ⟨PF, _, _, _, h3, m, h4, h5⟩ := fields_put hr hi
  have h := ciL_size m h4 h5 h3
  have h1 : ciL x = 49 :: (insT x).enc := by
    unfold ciL insT
    show _ = 49 :: (49 :: ((Tr.num x.op.toNat).enc ++ (bodyT x).enc))
    rw [bodyT_enc hr, show (Tr.num x.op.toNat).enc = (TS (.num x.op.toNat)).data.toList from (TS_list _).symm]
    simp
  have h2 : (TS (insT x)).size = (insT x).enc.length := by rw [TS_size, Tr.enc_length]
  rw [h1, List.length_cons] at h
  omega
def codesL (l : List Ins) : List ByteArray := l.map fun x => TS (insT x)
theorem lwr_codes {l : List Ins} (h : ∀ x ∈ l, ∃ i n, rightB x i n = true) : lwr (codesL l) = codeLs l := by
  unfold lwr codesL codeLs
  rw [List.map_map]
  congr 1
  refine List.map_congr_left fun x hx => ?_
  obtain ⟨i, n, hr⟩ := h x hx
  show 49 :: (TS (insT x)).data.toList = ciL x
  unfold ciL insT
  rw [TS_list]
  show 49 :: (49 :: ((Tr.num x.op.toNat).enc ++ (bodyT x).enc)) = _
  rw [bodyT_enc hr, show (Tr.num x.op.toNat).enc = (TS (.num x.op.toNat)).data.toList from (TS_list _).symm]
  simp

theorem bodyB_size {x : Ins} {i n : Int} (hr : rightB x i n = true) (hi : 0 ≤ i ∧ i ≤ 4000 ∧ n ≤ 4000) : (bodyB x).size ≤ 8500 + x.tree.size := by
  obtain ⟨a, ha, ha2, hbc⟩ := right_nats hr
  have hs : ∀ a b : ByteArray, (a ++ b).size = a.size + b.size := fun a b => ByteArray.size_append
  have h1 : (⟨#[49]⟩ : ByteArray).size = 1 := rfl
  have h2 : (⟨#[49, 48]⟩ : ByteArray).size = 2 := rfl
  have h4 : (⟨#[49, 49, 48, 48]⟩ : ByteArray).size = 4 := rfl
  have hop := right_op hr
  unfold bodyB
  by_cases h0 : x.op = 0
  · rw [if_pos h0, hs, hs, num_size, h1]; omega
  · rw [if_neg h0]
    by_cases hc : x.op = 2
    · obtain ⟨b', c', hb', hc', _, _⟩ := hbc (by omega)
      rw [if_pos hc, hs, hs, hs, hs, num_size, num_size, num_size, h1]; omega
    · rw [if_neg hc]
      by_cases h5 : x.op = 5
      · have hj := right_jump hr h5
        rw [if_pos h5]
        split
        · rw [hs, hs, hs, num_size, num_size, h1, h4]; omega
        · rw [hs, hs, hs, num_size, num_size, h1, h2]; omega
      · obtain ⟨b', c', hb', hc', _, _⟩ := hbc h5
        rw [if_neg h5, hs, hs, num_size, num_size, h1]; omega
theorem codeLs_small (l : List Ins) (hv : validB l = true) : (codeLs l).length ≤ 40000000 := by
  have hl := validB_len hv
  have hx : ∀ x ∈ l, (ciL x).length ≤ 8600 + x.tree.size := by
    intro x hx
    obtain ⟨k, hk, rfl⟩ := List.getElem_of_mem hx
    have hr := rightAll_get (validB_all hv) (List.getElem?_eq_getElem hk)
    have h1 := bodyB_size hr ⟨Int.natCast_nonneg _, by omega, by omega⟩
    have hop := right_op hr
    unfold ciL
    have h2 : (⟨#[49, 49]⟩ ++ TS (.num l[k].op.toNat) : ByteArray).size = 2 + (2 * l[k].op.toNat + 1) := by rw [ByteArray.size_append, num_size]; rfl
    have h3 : ∀ s : ByteArray, s.data.toList.length = s.size := fun s => by simp
    rw [List.length_append, h3, h3, h2]; omega
  have : ∀ k : List Ins, (∀ x ∈ k, (ciL x).length ≤ 8600 + x.tree.size) → (codeLs k).length ≤ 8600 * k.length + trees k := by
    intro k
    induction k with
    | nil => intro _; simp [codeLs]
    | cons x k ih =>
      intro h
      have h1 := ih fun y hy => h y (List.mem_cons_of_mem _ hy)
      have h2 := h x (List.mem_cons_self)
      have h3 : codeLs (x :: k) = ciL x ++ codeLs k := by simp [codeLs]
      have h4 : trees (x :: k) = x.tree.size + trees k := by simp [trees]
      rw [h3, List.length_append, List.length_cons, h4]; omega
  have h5 := this l hx
  have h6 : trees l ≤ 2000000 := by
    unfold validB at hv
    simp only [Bool.and_eq_true, decide_eq_true_eq] at hv
    exact hv.1.2
  omega

set_option maxHeartbeats 4000000 in
theorem rcode_any (v : Value) (l : List Ins) (w : World) (hl : InsRow w w.heap.size v l) (hv : validB l = true) :
    Calls Try.prog 108 #[v] w fun e w' => e = .returned (.string (codeOf l)) ∧ Below w.heap.size w w' := by
  have hl4 := validB_len hv
  have hbd := codeLs_bound l hv
  obtain ⟨R, hR⟩ : ∃ R, codeOf l = R := ⟨_, rfl⟩
  rw [hR]
  have HR := Lib.hid hR
  obtain ⟨ao, cap, rfl⟩ := hl.len
  have hn5 := hl.2.1
  obtain ⟨n, hn'⟩ : ∃ n, l.length = n := ⟨_, rfl⟩
  rw [hn'] at hl hn5 hl4 ⊢
  have HN := Lib.hid hn'
  have HL := Lib.hid hl
  have HV := Lib.hid hv
  have HBD := Lib.hid hbd
  clear hn' hl hv hR hbd
  go_enter Try.func108, Try.ntmps108
  go_wp2
  go_loopg [3, 4] n (fun gg o i wr => ∃ k : Nat, k ≤ n ∧ gg = n - k ∧ i = .int .i64 k ∧ Hid (wr.ownsRow w.heap.size 9 1 o k ((codesL (l.take k)).map Value.string)) ∧ Hid (Below w.heap.size w wr))
  case atStart => exact ⟨0, Nat.zero_le _, rfl, rfl, World.ownsRow_nil _ _ _ _, Below.refl _ _⟩
  case round =>
    obtain ⟨k, hk, hg, rfl, hP, hb⟩ := hrel
    have HG := Lib.hid hg; clear hg
    by_cases hlt : k < n
    · obtain ⟨x, hx⟩ : ∃ s, l[k]? = some s := ⟨_, List.getElem?_eq_getElem (by rw [HN.out]; exact hlt)⟩
      have hr := rightAll_get (validB_all HV.out) hx
      obtain ⟨g, off, rfl, hg, c0, c1, c2, c3, c4⟩ := (HL.out.below hb.out).get hx
      have kc := fun w => cof_any hr ⟨Int.natCast_nonneg _, by omega, by rw [HN.out]; omega⟩ w
      have hstep := Lib.hid (show codesL (l.take (k + 1)) = codesL (l.take k) ++ [TS (insT x)] by rw [take_snoc' _ _ _ hx]; unfold codesL; simp)
      obtain ⟨S, hS⟩ : ∃ S, TS (insT x) = S := ⟨_, rfl⟩
      rw [hS] at kc hstep
      have hi0 : (0 : Int) ≤ (k : Int) := Int.natCast_nonneg _
      have hi1 : (k : Int) < (n : Int) := by omega
      clear hx hr hS
      go_wp2_with fail
      refine (kc _).mono ?_
      rintro e w1 ⟨rfl, hq⟩
      have hown := own_below hP.out hq
      have hb2 := hb.out.trans (hq.mono hb.out.size)
      have hsz := hb2.size
      clear kc hq c0 c1 c2 c3 c4 hP hb
      go_wp2_with (at_builtin; refine app_new el_str rfl _ _ rfl rfl hown [.string S] 1 rfl rfl ?c1 ?c2 ?c3 hsz hb2 (Nat.le_refl _) ?_)
      case c1 => intro u hu; simp at hu; subst hu; rfl
      case c2 => omega
      case c3 => unfold maxLen; omega
      intro v' w' hown' hb' _
      have hnew : Hid (w'.ownsRow w.heap.size 9 1 v' (k + 1) ((codesL (l.take (k + 1))).map Value.string)) := Lib.hid (by rw [hstep.out, List.map_append]; exact hown')
      have hb' := Lib.hid hb'
      clear hown hown' hb2 hsz
      go_wp2
      go_roundg (n - (k + 1))
      case measure => rw [HG.out]; omega
      case rel => exact ⟨k + 1, by omega, rfl, by go_num, hnew, hb'⟩
    · have hkn : k = n := by omega
      subst hkn
      rw [List.take_of_length_le (by rw [HN.out]; omega)] at hP
      obtain ⟨a2, c2, rfl⟩ := own_len hP.out
      have hall : ∀ y ∈ codesL l, y.size ≤ 4000020 := by
        intro y hy
        obtain ⟨x, hx, rfl⟩ := List.mem_map.1 hy
        obtain ⟨j, hj, rfl⟩ := List.getElem_of_mem hx
        exact insT_size (rightAll_get (validB_all HV.out) (List.getElem?_eq_getElem hj)) ⟨Int.natCast_nonneg _, by rw [HN.out] at hj; omega, by rw [HN.out]; omega⟩
      have hlen : (codesL l).length = k := by unfold codesL; rw [List.length_map, HN.out]
      have hrow : StrRow wr wr.heap.size (.slice a2 k c2) (codesL l) := StrRow.of_own (n := k) (e := 9) (base := w.heap.size) hP.out (fun y hy => by have := hall y hy; omega) (by rw [hlen]; omega)
      have kl := refList_any _ (codesL l) _ hrow (by rw [hlen]; omega) (by rw [lwr_codes (valid_rights (validB_all HV.out))]; have := codeLs_small l HV.out; omega)
      rw [lwr_codes (valid_rights (validB_all HV.out))] at kl
      have kl := Lib.hid kl
      clear hall hlen hrow hP
      go_wp2_with fail
      refine kl.out.mono ?_
      rintro e w1 ⟨rfl, hq⟩
      go_wp2
      go_ret
      exact ⟨by rw [← HR.out]; rfl, hb.out.trans (hq.mono hb.out.size)⟩

end Go.Proofs.Ytaiomcjopgnfpaa


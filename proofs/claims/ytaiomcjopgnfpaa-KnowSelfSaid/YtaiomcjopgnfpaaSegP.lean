/- Plain: a program that stands within another one; which programs are valid. -/
import Derived.Test.YtaiomcjopgnfpaaMB3
namespace Go.Proofs.Ytaiomcjopgnfpaa
open Go.RowKit

theorem rightB_mono {x : Ins} {i n i' n' : Int} (h : rightB x i n = true) (h1 : i ≤ i') (h2 : n - i ≤ n' - i') : rightB x i' n' = true := by
  unfold rightB at h ⊢
  simp only [Bool.and_eq_true] at h ⊢
  refine ⟨h.1, ?_⟩
  have h3 := h.2
  split at h3
  · rename_i e; rw [if_pos e]; exact h3
  · rename_i e
    rw [if_neg e]
    split at h3
    · rename_i e; rw [if_pos e]; exact h3
    · rename_i e
      rw [if_neg e]
      split at h3
      · rename_i e; rw [if_pos e]; exact h3
      · rename_i e
        rw [if_neg e]
        split at h3
        · rename_i e
          rw [if_pos e]
          simp only [Bool.and_eq_true, decide_eq_true_eq] at h3 ⊢
          omega
        · cases h3
theorem rightAll_iff {l : List Ins} : rightAll l = true ↔ ∀ (i : Nat) x, l[i]? = some x → rightB x i l.length = true := by
  constructor
  · intro h i x hx; exact rightAll_get h hx
  · intro h
    unfold rightAll
    rw [List.all_eq_true]
    intro i hi
    cases hx : l[i]? with
    | none => rfl
    | some x => exact h i x hx
/-- A valid program, at another place. -/
theorem rightAll_at {l : List Ins} (h : rightAll l = true) {i : Nat} {x : Ins} (hx : l[i]? = some x) {k n : Nat} (hn : k + l.length ≤ n) : rightB x ((k + i : Nat) : Int) n = true :=
  rightB_mono (rightAll_get h hx) (by omega) (by omega)
theorem rightAll_append {a b : List Ins} (ha : ∀ (i : Nat) x, a[i]? = some x → rightB x i (a ++ b).length = true) (hb : ∀ (i : Nat) x, b[i]? = some x → rightB x ((a.length + i : Nat) : Int) (a ++ b).length = true) : rightAll (a ++ b) = true := by
  rw [rightAll_iff]
  intro i x hx
  by_cases h : i < a.length
  · rw [List.getElem?_append_left h] at hx; exact ha i x hx
  · rw [List.getElem?_append_right (by omega)] at hx
    have := hb (i - a.length) x hx
    rwa [show a.length + (i - a.length) = i by omega] at this
/-- Within the limits. -/
def fitsP (l : List Ins) : Bool := decide (l.length ≤ 4000) && decide (trees l ≤ 2000000)
theorem validB_fits {l : List Ins} (h : rightAll l = true) : validB l = fitsP l := by unfold validB fitsP; rw [h, Bool.and_true]
theorem trees_append (a b : List Ins) : trees (a ++ b) = trees a + trees b := by simp [trees]

/-- A program stands within another one. -/
def Seg (P : List Ins) (k : Nat) (l : List Ins) : Prop := ∀ (i : Nat) x, l[i]? = some x → P[k + i]? = some x
theorem Seg.len {P l : List Ins} {k : Nat} (h : Seg P k l) (hl : 0 < l.length) : k + l.length ≤ P.length := by
  have := h (l.length - 1) l[l.length - 1] (List.getElem?_eq_getElem (by omega))
  have := (List.getElem?_eq_some_iff.1 this).1
  omega
theorem Seg.mid (a l b : List Ins) : Seg (a ++ l ++ b) a.length l := by
  intro i x hx
  have hi := (List.getElem?_eq_some_iff.1 hx).1
  rw [List.getElem?_append_left (by simp; omega), List.getElem?_append_right (by omega), show a.length + i - a.length = i by omega, hx]
theorem Seg.right (a l : List Ins) : Seg (a ++ l) a.length l := by have := Seg.mid a l []; rwa [List.append_nil] at this

/-- A step within. -/
theorem Seg.step {P l : List Ins} {k : Nat} (h : Seg P k l) (hv : rightAll l = true) {s : St} (hp : s.pos < l.length) :
    stepP P ⟨k + s.pos, s.regs⟩ = (stepP l s).map fun s' => ⟨k + s'.pos, s'.regs⟩ := by
  obtain ⟨x, hx⟩ : ∃ x, l[s.pos]? = some x := ⟨_, List.getElem?_eq_getElem hp⟩
  have hr := rightAll_get hv hx
  unfold stepP
  rw [hx]
  simp only [h _ _ hx]
  unfold rightB at hr
  simp only [Bool.and_eq_true] at hr
  have h3 := hr.2
  unfold stepX
  split
  · simp [Nat.add_assoc]
  · split
    · simp [Nat.add_assoc]
    · split
      · split <;> simp [Nat.add_assoc]
      · split
        · simp [Nat.add_assoc]
        · split
          · simp [Nat.add_assoc]
          · rename_i h0 h1 h2 h4 h5
            rw [if_neg h0, if_neg (by omega), if_neg h2] at h3
            split
            · simp [Nat.add_assoc]
            · split at h3
              · simp only [Bool.and_eq_true, decide_eq_true_eq] at h3
                simp only [Option.map_some, Option.some.injEq, St.mk.injEq, and_true]
                omega
              · simp at h3
/-- How a run within another one goes. -/
theorem Seg.run {P l : List Ins} {k : Nat} (h : Seg P k l) (hv : rightAll l = true) (hkl : k + l.length ≤ P.length) : ∀ (f n : Nat) (s : St), Good l.length s →
    (∀ s' m, goF l f n s = .done s' m → n ≤ m ∧ m ≤ n + f ∧ goF P f n ⟨k + s.pos, s.regs⟩ = goF P (f - (m - n)) m ⟨k + l.length, s'.regs⟩) ∧
    (∀ s' m, goF l f n s = .fuel s' m → goF P f n ⟨k + s.pos, s.regs⟩ = .fuel ⟨k + s'.pos, s'.regs⟩ m) ∧
    (goF l f n s = .big → goF P f n ⟨k + s.pos, s.regs⟩ = .big) := by
  intro f
  induction f with
  | zero =>
    intro n s hg
    by_cases hp : s.pos = l.length
    · rw [goF_done hp]
      refine ⟨?_, ?_, ?_⟩
      · intro s' m e; cases e; exact ⟨Nat.le_refl _, by omega, by rw [hp, Nat.sub_self]⟩
      · intro s' m e; cases e
      · intro e; cases e
    · rw [goF_zero hp]
      have hP : k + s.pos ≠ P.length := by have := hg.1; omega
      refine ⟨?_, ?_, ?_⟩
      · intro s' m e; cases e
      · intro s' m e; cases e; exact goF_zero hP
      · intro e; cases e
  | succ f ih =>
    intro n s hg
    by_cases hp : s.pos = l.length
    · rw [goF_done hp]
      refine ⟨?_, ?_, ?_⟩
      · intro s' m e; cases e; exact ⟨Nat.le_refl _, by omega, by rw [hp, Nat.sub_self]; rfl⟩
      · intro s' m e; cases e
      · intro e; cases e
    · have hpl : s.pos < l.length := by have := hg.1; omega
      have hP : k + s.pos ≠ P.length := by omega
      have hst := h.step hv hpl
      cases hs : stepP l s with
      | none =>
        rw [goF_big hp hs]
        rw [hs] at hst
        refine ⟨?_, ?_, ?_⟩
        · intro s' m e; cases e
        · intro s' m e; cases e
        · intro _; exact goF_big hP hst
      | some s1 =>
        rw [hs] at hst
        rw [goF_step hp hs, goF_step hP hst]
        obtain ⟨i1, i2, i3⟩ := ih (n + 1) s1 (hg.step hv hs)
        refine ⟨?_, i2, i3⟩
        intro s' m e
        obtain ⟨j1, j2, j3⟩ := i1 s' m e
        exact ⟨by omega, by omega, by rw [j3, show f - (m - (n + 1)) = f + 1 - (m - n) by omega]⟩

end Go.Proofs.Ytaiomcjopgnfpaa


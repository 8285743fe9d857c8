/- Plain: steps that nothing is too large for; what they say of the steps that are. -/
import Derived.Test.YtlaeljkjdfffjaaUnivU
namespace Go.Proofs.Ytlaeljkjdfffjaa
open Go.RowKit

/-- A step, however large. -/
def stepY (x : Ins) (s : St) : St := if x.op = 2 then ⟨s.pos + 1, setR s.regs x.a (.pair (getR s.regs x.b) (getR s.regs x.c))⟩ else (stepX x s).getD s
theorem stepY_eq {x : Ins} {s t : St} (h : stepX x s = some t) : stepY x s = t := by
  unfold stepY
  by_cases h2 : x.op = 2
  · rw [if_pos h2]
    unfold stepX at h
    rw [if_neg (by omega), if_neg (by omega), if_pos h2] at h
    split at h
    · injection h
    · cases h
  · rw [if_neg h2, h]
    rfl
/-- Some steps, however large. -/
inductive RunsX (P : List Ins) : Nat → St → St → Prop
  | refl (s : St) : RunsX P 0 s s
  | step {m : Nat} {s t : St} {x : Ins} : P[s.pos]? = some x → RunsX P m (stepY x s) t → RunsX P (m + 1) s t
theorem RunsX.trans {P : List Ins} {a b : Nat} {s t u : St} (h : RunsX P a s t) (g : RunsX P b t u) : RunsX P (a + b) s u := by
  induction h with
  | refl => rwa [Nat.zero_add]
  | @step m s t x hx _ ih =>
    rw [show m + 1 + b = m + b + 1 by omega]
    exact .step hx (ih g)
theorem RunsX.one {P : List Ins} {s t : St} {x : Ins} (hx : P[s.pos]? = some x) (hs : stepY x s = t) : RunsX P 1 s t := by
  subst hs
  exact .step hx (.refl _)
/-- The steps that are: these, or one is too large. -/
theorem RunsX.goF {P : List Ins} {m : Nat} {s t : St} (h : RunsX P m s t) : ∀ (F n : Nat), m ≤ F → goF P F n s = goF P (F - m) (n + m) t ∨ goF P F n s = .big := by
  induction h with
  | refl s => exact fun F n _ => .inl rfl
  | @step m s t x hx _ ih =>
    intro F n hF
    obtain ⟨f, rfl⟩ : ∃ f, F = f + 1 := ⟨F - 1, by omega⟩
    have hp : s.pos ≠ P.length := by have := (List.getElem?_eq_some_iff.1 hx).1; omega
    cases hs : stepX x s with
    | none =>
      refine .inr (goF_big hp ?_)
      unfold stepP
      rw [hx]
      exact hs
    | some s' =>
      have h1 : stepP P s = some s' := by
        unfold stepP
        rw [hx]
        exact hs
      rw [goF_step hp h1]
      rw [stepY_eq hs] at ih
      rcases ih f (n + 1) (by omega) with h2 | h2
      · left
        rw [h2, show f + 1 - (m + 1) = f - m by omega, show n + 1 + m = n + (m + 1) by omega]
      · exact .inr h2
theorem RunsX.done {P : List Ins} {m : Nat} {s t : St} (h : RunsX P m s t) (ht : t.pos = P.length) (F : Nat) (hF : m ≤ F) : Go.Proofs.Ytlaeljkjdfffjaa.goF P F 0 s = .done t m ∨ Go.Proofs.Ytlaeljkjdfffjaa.goF P F 0 s = .big := by
  rcases h.goF F 0 hF with h1 | h1
  · left
    rw [h1, goF_done ht, Nat.zero_add]
  · exact .inr h1
theorem RunsX.fuel {P : List Ins} {m : Nat} {s t : St} (h : RunsX P m s t) (ht : t.pos ≠ P.length) (F : Nat) (hF : F ≤ m) : (∃ s', Go.Proofs.Ytlaeljkjdfffjaa.goF P F 0 s = .fuel s' F) ∨ Go.Proofs.Ytlaeljkjdfffjaa.goF P F 0 s = .big := by
  rcases goF_how P F 0 s with ⟨u, k, h1, h2, h3, h4⟩ | ⟨u, h1, _, _⟩ | ⟨u, k, h1, _⟩
  · exfalso
    have h5 : ∀ {a b : Nat} {x y z : St}, RunsX P a x y → Runs P b x z → b ≤ a → z.pos = P.length → y.pos ≠ P.length → False := by
      intro a
      induction a with
      | zero =>
        intro b x y z hx hr hb hz hy
        obtain rfl : b = 0 := by omega
        cases hx
        rcases hr.uncons with ⟨_, rfl⟩ | ⟨j, s', h1, _⟩
        · exact hy hz
        · omega
      | succ a ih =>
        intro b x y z hx hr hb hz hy
        cases hx with
        | step hx1 hx2 =>
          rcases hr.uncons with ⟨_, rfl⟩ | ⟨j, s', h1, h2, h3, h4⟩
          · have := (List.getElem?_eq_some_iff.1 hx1).1
            omega
          · unfold stepP at h3
            rw [hx1] at h3
            rw [stepY_eq h3] at hx2
            exact ih hx2 h4 (by omega) hz hy
    exact h5 h h3 (by omega) h4 ht
  · exact .inl ⟨u, by rw [h1, Nat.zero_add]⟩
  · exact .inr h1
end Go.Proofs.Ytlaeljkjdfffjaa


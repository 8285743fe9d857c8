/- narcissustop: knows, TopKnow. -/
import Derived.Test.YtlaeljkjdfffjaaTop5
import Derived.Test.YtlaeljkjdfffjaaTop6
namespace Go.Proofs.Ytlaeljkjdfffjaa
open Go.RowKit

theorem goodB_parts {l : List Ins} {most chars : Nat} (h : goodB l most chars = true) : l.length ≤ most ∧ trees l ≤ chars ∧ rightAll l = true := by
  unfold goodB at h
  simp only [Bool.and_eq_true, decide_eq_true_eq] at h
  exact ⟨h.1.1, h.1.2, h.2⟩
/-- A run that ends after m steps ends with just so much fuel. -/
theorem goF_exact {l : List Ins} {K m : Nat} {s0 s : St} (h : goF l K 0 s0 = .done s m) : goF l m 0 s0 = .done s m := by
  rcases goF_how l K 0 s0 with ⟨s', m', h1, h2, h3, h4⟩ | ⟨s', h1, _⟩ | ⟨s', m', h1, _⟩
  · rw [h, Nat.zero_add] at h1
    injection h1 with e1 e2
    subst e1; subst e2
    exact h3.done h4 m (Nat.le_refl _)
  · rw [h] at h1; cases h1
  · rw [h] at h1; cases h1
end Go.Proofs.Ytlaeljkjdfffjaa


/- Plain: the universal program runs a program, where nothing is too large. -/
import Derived.Test.YtlaeljkjdfffjaaUnivT
namespace Go.Proofs.Ytlaeljkjdfffjaa
open Go.RowKit

theorem Runs.uncons {P : List Ins} {m : Nat} {s t : St} (h : Runs P m s t) : m = 0 ∧ s = t ∨ ∃ j s', m = j + 1 ∧ s.pos ≠ P.length ∧ stepP P s = some s' ∧ Runs P j s' t := by
  cases h with
  | refl => exact .inl ⟨rfl, rfl⟩
  | step h1 h2 h3 => exact .inr ⟨_, _, rfl, h1, h2, h3⟩
end Go.Proofs.Ytlaeljkjdfffjaa


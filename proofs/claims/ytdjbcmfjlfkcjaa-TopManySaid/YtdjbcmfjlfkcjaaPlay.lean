/- law04's play: a run of a program that is composed, by the runs of its parts. -/
import Derived.Test.YtdjbcmfjlfkcjaaAwake4
import Derived.Test.YtdjbcmfjlfkcjaaRunsP
namespace Go.Proofs.Ytdjbcmfjlfkcjaa
open Go.RowKit

def otherS (n S : Nat) (E : Int) : Nat := if E = 0 then S + n else S
def partF (l : List Ins) (S : Nat) (E : Int) (x : ByteArray) : ByteArray × Nat × Int :=
  if E = 0 then ((partR l 2000 (toTr x)).run.1, S + (partR l 2000 (toTr x)).run.2.1 + (if (partR l 2000 (toTr x)).run.2.2 = 0 then 0 else 2000), (partR l 2000 (toTr x)).run.2.2) else (⟨#[]⟩, S, E)

theorem res_run_cases (r : Res) : (r.run.2.2 = 0) ∨ (r.run = (⟨#[]⟩, 0, 7)) ∨ (r.run = (⟨#[]⟩, 0, 3)) := by cases r <;> simp [Res.run]
theorem goF_steps_le (l : List Ins) (F : Nat) (s : St) : (goF l F 0 s).run.2.1 ≤ F := by
  rcases goF_how l F 0 s with ⟨t, m, h1, h2, _⟩ | ⟨t, h1, _⟩ | ⟨t, m, h1, _⟩
  · rw [h1]; show 0 + m ≤ F; omega
  · rw [h1]; exact Nat.zero_le _
  · rw [h1]; exact Nat.zero_le _

def cleanF (l : List Ins) (S : Nat) (E : Int) (x : ByteArray) : ByteArray × Nat × Int := partF l (otherS (mostN l) S E) E x
/-- What the play says at its end. -/
def Ended (P : List Ins) (s0 : St) (S : Nat) (E : Int) (X : ByteArray) : Prop := (E = 0 → (goF P S 0 s0).run = (X, S, 0)) ∧ (E ≠ 0 → (goF P S 0 s0).run = (⟨#[]⟩, 0, E))
end Go.Proofs.Ytdjbcmfjlfkcjaa


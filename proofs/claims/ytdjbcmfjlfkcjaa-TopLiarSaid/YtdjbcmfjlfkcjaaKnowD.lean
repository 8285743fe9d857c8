/- law07: KnowDifferent. -/
import Derived.Test.YtdjbcmfjlfkcjaaMB4
namespace Go.Proofs.Ytdjbcmfjlfkcjaa
open Go.RowKit

theorem know_e (en : Int) (v : Value) (q : List Ins) (w : World) (hq : InsRow w w.heap.size v q) (he : knowE q = en) : Calls Try.prog 67 #[v] w fun e w' => ∃ v', e = .returned (.tuple #[v', .int .i64 en]) ∧ TB w' w'.heap.size en (knowL q) v' ∧ Below w.heap.size w w' := by
  refine (know_any v q w hq).mono ?_
  rintro e w' ⟨v', h1, h2, h3⟩
  rw [he] at h1 h2
  exact ⟨v', h1, h2, h3⟩
theorem knowL_inj {p q : List Ins} (h : knowL p = knowL q) : p = q := by
  have h1 := congrArg (List.drop 19) h
  have hd : ∀ q : List Ins, (knowL q).drop 19 = q := fun q => by
    unfold knowL specL knowR
    rw [← List.append_assoc]
    rw [List.drop_append_of_le_length (by simp [specH, behindL, beforeL, clearL_length])]
    rw [List.drop_of_length_le (by simp [specH, behindL, beforeL, clearL_length])]
    rfl
  rwa [hd, hd] at h1
theorem same_know (p q : List Ins) : sameP (knowL p) (knowL q) = sameP p q := by
  unfold sameP
  by_cases h : p = q
  · subst h; simp
  · rw [decide_eq_false h, decide_eq_false (fun e => h (knowL_inj e))]

end Go.Proofs.Ytdjbcmfjlfkcjaa


/- law09: DefeatSays, DefeatWrong. -/
import Derived.Test.YtlaeljkjdfffjaaDef7
namespace Go.Proofs.Ytlaeljkjdfffjaa
open Go.RowKit

theorem goF_done_more {l : List Ins} {K F m : Nat} {s0 s : St} (h : goF l K 0 s0 = .done s m) (hF : K ≤ F) : goF l F 0 s0 = .done s m := by
  rcases goF_how l K 0 s0 with ⟨s', m', h1, h2, h3, h4⟩ | ⟨s', h1, _⟩ | ⟨s', m', h1, _⟩
  · rw [h, Nat.zero_add] at h1
    injection h1 with e1 e2
    subst e1; subst e2
    exact h3.done h4 F (by omega)
  · rw [h] at h1; cases h1
  · rw [h] at h1; cases h1
theorem follow_done {P Q : List Ins} {t u : Tr} {c F0 m : Nat} {s : St} (hf : FollowP P t Q u c) (hq : goF Q F0 0 (startS u) = .done s m) (F : Nat) (hF : F0 ≤ F) : ∃ s', goF P (F + c) 0 (startS t) = .done s' (m + c) ∧ getR s'.regs 0 = getR s.regs 0 := by
  have hq2 := goF_done_more hq hF
  rcases hf F with ⟨s1, s', m1, e1, e2, e3, e4⟩ | ⟨s1, e1, _⟩ | ⟨e1, _⟩
  · rw [hq2] at e1
    injection e1 with e5 e6
    subst e5; subst e6
    exact ⟨s', e3, e4⟩
  · rw [hq2] at e1; cases e1
  · rw [hq2] at e1; cases e1
end Go.Proofs.Ytlaeljkjdfffjaa


/- narcissustop: knows, TopKnow. -/
import Derived.Test.YtlaeljkjdfffjaaTop5
import Derived.Test.YtlaeljkjdfffjaaTop6
namespace Go.Proofs.Ytlaeljkjdfffjaa
open Go.RowKit

/-- A run that ends after m steps ends with just so much fuel. -/
theorem goF_exact {l : List Ins} {K m : Nat} {s0 s : St} (h : goF l K 0 s0 = .done s m) : goF l m 0 s0 = .done s m := by
  rcases goF_how l K 0 s0 with ⟨s', m', h1, h2, h3, h4⟩ | ⟨s', h1, _⟩ | ⟨s', m', h1, _⟩
  · rw [h, Nat.zero_add] at h1
    injection h1 with e1 e2
    subst e1; subst e2
    exact h3.done h4 m (Nat.le_refl _)
  · rw [h] at h1; cases h1
  · rw [h] at h1; cases h1
theorem tknow_code {q : List Ins} (hq : rightAll q = true) (hl : q.length ≤ 300) (ht : trees q ≤ 20000) : codeN (knowL q) ≤ 1900000 := by
  have r1 := behindL_right hq
  have l1 := knowR_len q
  have t1 := knowR_trees q
  have c1 := codeN_small (knowR q) r1 (by omega)
  have hz : (codeOf (knowR q)).size = codeN (knowR q) := by have := codeOf_len (knowR q); omega
  have hct : isTree (codeOf (knowR q)) = true := codeOf_tree r1 (by have h : codeN (knowR q) = (codeLs (knowR q)).length + 1 := rfl; omega)
  have r2 : rightAll (knowL q) = true := specL_right _ _ hct r1
  have l2 : (knowL q).length = (knowR q).length + 3 := specL_length _ _
  have t2 : trees (knowL q) = (codeOf (knowR q)).size + 1 + trees (knowR q) := specL_trees _ _
  have c2 := codeN_small (knowL q) r2 (by omega)
  omega
end Go.Proofs.Ytlaeljkjdfffjaa


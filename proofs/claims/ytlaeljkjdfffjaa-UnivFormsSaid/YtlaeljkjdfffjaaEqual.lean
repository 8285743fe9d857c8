/- ref01.Equal of two trees that are equal. -/
import Derived.Test.YtlaeljkjdfffjaaMB0
import Derived.LaidEqlPtr
namespace Go.Proofs.Ytlaeljkjdfffjaa
open Go.RowKit

def Eqs (t u : Tr) (l : List (Tr × Tr)) : Prop := t = u ↔ ∀ p ∈ l, p.1 = p.2
theorem Eqs.push {t u a b c d : Tr} {l : List (Tr × Tr)} (h : Eqs t u ((.pair a b, .pair c d) :: l)) : Eqs t u ((d, b) :: (c, a) :: l) := by
  unfold Eqs at *
  rw [h]
  simp only [List.forall_mem_cons, Tr.pair.injEq]
  exact ⟨fun ⟨⟨h1, h2⟩, h3⟩ => ⟨h2.symm, h1.symm, h3⟩, fun ⟨h2, h1, h3⟩ => ⟨⟨h1.symm, h2.symm⟩, h3⟩⟩
end Go.Proofs.Ytlaeljkjdfffjaa


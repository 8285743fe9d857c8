/- ref01.Equal of two trees that are equal. -/
import Derived.Test.YtlaeljkjdfffjaaMB0
import Derived.LaidEqlPtr
namespace Go.Proofs.Ytlaeljkjdfffjaa
open Go.RowKit

def Eqs (t u : Tr) (l : List (Tr × Tr)) : Prop := t = u ↔ ∀ p ∈ l, p.1 = p.2
theorem Eqs.skip {t u a : Tr} {l : List (Tr × Tr)} (h : Eqs t u ((a, a) :: l)) : Eqs t u l := by
  unfold Eqs at *; rw [h]; simp
theorem Eqs.bad {t u a b : Tr} {l : List (Tr × Tr)} (h : Eqs t u ((a, b) :: l)) (hn : a.size ≠ b.size) : t ≠ u := by
  intro e
  have := h.1 e (a, b) (List.mem_cons_self)
  exact hn (by rw [show a = b from this])
theorem Eqs.push {t u a b c d : Tr} {l : List (Tr × Tr)} (h : Eqs t u ((.pair a b, .pair c d) :: l)) : Eqs t u ((d, b) :: (c, a) :: l) := by
  unfold Eqs at *
  rw [h]
  simp only [List.forall_mem_cons, Tr.pair.injEq]
  exact ⟨fun ⟨⟨h1, h2⟩, h3⟩ => ⟨h2.symm, h1.symm, h3⟩, fun ⟨h2, h1, h3⟩ => ⟨⟨h1.symm, h2.symm⟩, h3⟩⟩
end Go.Proofs.Ytlaeljkjdfffjaa


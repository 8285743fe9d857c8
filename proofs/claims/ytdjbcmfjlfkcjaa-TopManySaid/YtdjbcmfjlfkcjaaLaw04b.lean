/- law04: BuildMakes. -/
import Derived.Test.YtdjbcmfjlfkcjaaLaw04
namespace Go.Proofs.Ytdjbcmfjlfkcjaa
open Go.RowKit

theorem ProgsRow.left {w : World} {B g : Nat} {c p q : List Ins} (h : ProgsRow w B (.slice (some ⟨g, 0, none⟩) 3 3) [c, p, q]) : ProgsRow w B (.slice (some ⟨g, 0, none⟩) 2 3) [c, p] := by
  refine ⟨by simp, .inr ⟨g, 0, 3, rfl, ?_, fun j l hj => ?_⟩⟩
  · obtain ⟨g', o', u, e, hg, _⟩ := h.get (k := 0) rfl
    simp only [Option.some.injEq, Addr.mk.injEq] at e; omega
  · have hj2 : [c, p, q][j]? = some l := by
      match j, hj with
      | 0, hj => exact hj
      | 1, hj => exact hj
    obtain ⟨g', o', u, e, hg, h1, h2⟩ := h.get hj2
    simp only [Option.some.injEq, Addr.mk.injEq, and_true] at e
    obtain ⟨rfl, rfl⟩ := e
    exact ⟨u, h1, h2⟩
theorem ProgsRow.right {w : World} {B g : Nat} {c p q : List Ins} (h : ProgsRow w B (.slice (some ⟨g, 0, none⟩) 3 3) [c, p, q]) : ProgsRow w B (.slice (some ⟨g, 1, none⟩) 2 2) [p, q] := by
  refine ⟨by simp, .inr ⟨g, 1, 2, rfl, ?_, fun j l hj => ?_⟩⟩
  · obtain ⟨g', o', u, e, hg, _⟩ := h.get (k := 0) rfl
    simp only [Option.some.injEq, Addr.mk.injEq] at e; omega
  · have hj2 : [c, p, q][j + 1]? = some l := by simpa using hj
    obtain ⟨g', o', u, e, hg, h1, h2⟩ := h.get hj2
    simp only [Option.some.injEq, Addr.mk.injEq, and_true] at e
    obtain ⟨rfl, rfl⟩ := e
    exact ⟨u, by rw [Nat.add_comm 1 j]; simpa using h1, h2⟩
theorem allV2 (p q : List Ins) : allV [p, q] = (validB p && validB q) := by simp [allV]
theorem allV3 (c p q : List Ins) : allV [c, p, q] = (validB c && validB p && validB q) := by simp [allV, Bool.and_assoc]

end Go.Proofs.Ytdjbcmfjlfkcjaa


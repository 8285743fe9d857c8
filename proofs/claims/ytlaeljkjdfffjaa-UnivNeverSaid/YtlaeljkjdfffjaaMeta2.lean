/- law05: meta, and ref05.List. -/
import Derived.Test.YtlaeljkjdfffjaaMeta1
import Derived.Test.YtlaeljkjdfffjaaFollow7
import Derived.Test.YtlaeljkjdfffjaaDef10
import Derived.Test.YtlaeljkjdfffjaaKnowI
namespace Go.Proofs.Ytlaeljkjdfffjaa
open Go.RowKit

theorem node_count {w : World} {a b : Tr} {g : Nat} (h : NodeP 58 w (.pair a b) (.pointer (some ⟨g, 0, none⟩))) (N : Nat) (hN : (Tr.pair a b).size = N) : w.cell? ⟨g, 2, none⟩ = some (.int .i64 (N : Nat)) := by
  obtain ⟨g', x, y, e, h1, h2, h3, h4, h5⟩ := h.cells
  cases e
  rw [← hN]
  exact h4
theorem rcons_at {w : World} {a b : Tr} {x y : Value} (ha : NodeP 58 w a x) (hb : NodeP 58 w b y) (h1 : a.size ≤ 4000001) (h2 : b.size ≤ 4000001) :
    Calls Try.prog 93 #[x, y] w fun e w' => ∃ g, e = .returned (.pointer (some ⟨g, 0, none⟩)) ∧ NodeP 58 w' (.pair a b) (.pointer (some ⟨g, 0, none⟩)) ∧ Below w.heap.size w w' := by
  refine (rnodeCons_ok a b x y w ha hb h1 h2).mono ?_
  rintro e w' ⟨p, rfl, hn, hq⟩
  obtain ⟨g, _, _, e, -⟩ := hn.cells
  cases e
  exact ⟨g, rfl, hn, hq⟩

end Go.Proofs.Ytlaeljkjdfffjaa


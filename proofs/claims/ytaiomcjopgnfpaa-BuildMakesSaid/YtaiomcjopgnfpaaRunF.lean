/- The walk of run.First. -/
import Derived.Test.YtaiomcjopgnfpaaRunB
namespace Go.Proofs.Ytaiomcjopgnfpaa
open Go.RowKit

/-- What First and Step hand back where it went well, and where not. -/
def StateOk (w : World) (s : St) (e : Ending) (w' : World) : Prop := ∃ v, e = .returned (.tuple #[.agg #[.int .i64 s.pos, v], .int .i64 0]) ∧ StrRow w' w'.heap.size v (s.regs.map TS) ∧ Below w.heap.size w w'
def StateBad (w : World) (er : Int) (e : Ending) (w' : World) : Prop := e = .returned (.tuple #[.agg #[.int .i64 0, .slice none 0 0], .int .i64 er]) ∧ Below w.heap.size w w'

theorem StrRow.set {w : World} {B b T : Nat} {cs : Array Value} {v : Value} {l : List ByteArray} (h : StrRow w B v l) (hb : w.heap[b]? = some (.cells cs T (0, 0))) (hns : ∀ (j : Nat) (s : ByteArray), cs[j]? ≠ some (.string s)) (j : Nat) (u : Value) : StrRow (w.setCell ⟨b, j, none⟩ u) B v l := by
  obtain ⟨h1, h2, h3⟩ := h
  refine ⟨h1, h2, ?_⟩
  rcases h3 with h3 | ⟨g, off, cap, hv, hg, hc⟩
  · exact .inl h3
  · refine .inr ⟨g, off, cap, hv, hg, fun i s hi => ?_⟩
    have h4 := hc i s hi
    by_cases e : g = b
    · subst e
      rw [(block_cells hb).1] at h4
      exact absurd h4 (hns _ _)
    · exact (World.cell?_of_block (Below.heap_setCell _ _ _ _ (by show g ≠ b; exact e))).trans h4
end Go.Proofs.Ytaiomcjopgnfpaa

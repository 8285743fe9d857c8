/- The walk of run.After. -/
import Derived.Test.YtaiomcjopgnfpaaRunR
namespace Go.Proofs.Ytaiomcjopgnfpaa
open Go.RowKit Go.Shelf
attribute [local go_sem] Oper.semAt_some

/-- What After hands back. -/
def Res.after : Res → Int × List ByteArray × Nat × Int
  | .done s n => (s.pos, s.regs.map TS, n, 0)
  | .fuel s n => (s.pos, s.regs.map TS, n, 0)
  | .big => (0, [], 0, 3)
def AftOut (w : World) (n : Int) (L : List ByteArray) (k : Nat) (er : Int) (e : Ending) (w' : World) : Prop := ∃ v, e = .returned (.tuple #[.agg #[.int .i64 n, v], .int .i64 k, .int .i64 er]) ∧ StrRow w' w'.heap.size v L ∧ Below w.heap.size w w'

theorem StrRow.grown {W W' : World} {row : Option Nat} {v : Value} {L : List ByteArray} (h : StrRow W W.heap.size v L) (hg : W.grownBy W' row) (hr : ∀ r, row = some r → ∃ o : Obj, W.heap[r]? = some o ∧ o.isCells = false) : StrRow W' W'.heap.size v L := by
  obtain ⟨h1, h2, h3⟩ := h
  refine ⟨h1, h2, ?_⟩
  rcases h3 with h3 | ⟨g, off, cap, hv, hlt, hc⟩
  · exact .inl h3
  · exact .inr ⟨g, off, cap, hv, by have := hg.size; omega, fun j s hj => cell_kept (hc j s hj) hg hr⟩
end Go.Proofs.Ytaiomcjopgnfpaa

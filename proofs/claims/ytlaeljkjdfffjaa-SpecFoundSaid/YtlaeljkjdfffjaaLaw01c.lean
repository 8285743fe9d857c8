/- The walk of TreeReads. -/
import Derived.Test.YtlaeljkjdfffjaaLaw01b
namespace Go.Proofs.Ytlaeljkjdfffjaa
open Go.RowKit

/-- An owned slice of strings, as a row. -/
theorem StrsOut.row {B : Nat} {w0 w' : World} {er : Int} {l : List ByteArray} {e : Ending} (h : StrsOut B w0 er l e w') (hl : ∀ s ∈ l, s.size ≤ 281474976710656) (hn : l.length ≤ 281474976710656) :
    ∃ v, e = .returned (.tuple #[v, .int .i64 er]) ∧ StrRow w' w'.heap.size v l ∧ Below w0.heap.size w0 w' := by
  obtain ⟨v, n, he, ho, hb⟩ := h
  exact ⟨v, he, StrRow.of_own ho hl hn, hb⟩
theorem items_row (t : Tr) (ht : t.size ≤ 2000000) (w : World) : Calls Try.prog 110 #[.string (TS t)] w fun e w' => ∃ v, e = .returned (.tuple #[v, .int .i64 0]) ∧ StrRow w' w'.heap.size v (t.items.map TS) ∧ Below w.heap.size w w' :=
  (items_ok t ht w).mono fun e w' h => h.row (by intro s hs; obtain ⟨u, hu, rfl⟩ := List.mem_map.1 hs; have := items_size_le t u hu; rw [TS_size]; omega) (by have := items_length_le t; simp; omega)
end Go.Proofs.Ytlaeljkjdfffjaa


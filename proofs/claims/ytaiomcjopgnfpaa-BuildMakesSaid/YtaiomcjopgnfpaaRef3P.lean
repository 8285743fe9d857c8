/- The reference's machine and states in memory. -/
import Derived.Test.YtaiomcjopgnfpaaRunP
import Derived.Test.YtaiomcjopgnfpaaRNode
namespace Go.Proofs.Ytaiomcjopgnfpaa
open Go.RowKit

/-- The reference's machine at block g; all of it lies below block T. -/
structure RMachP (w : World) (T g : Nat) (l : List Ins) (pv tv : Value) : Prop where
  blk : w.heap[g]? = some (.cells #[pv, tv] 115 (0, 0))
  lt : g < T
  prog : InsRow w T pv l
  sets : ∃ xs base, Nodes 69 w (l.map fun x => toTr x.tree) xs ∧ w.ownsRow base 63 1 tv l.length xs ∧ ∀ k, tv.ownBlock = some k → k < T
/-- A state of the reference at block g, from block T on. -/
structure RStP (w : World) (T g : Nat) (s : St) (rv : Value) (ps : List Value) : Prop where
  blk : w.heap[g]? = some (.cells #[.int .i64 s.pos, rv] 121 (0, 0))
  le : T ≤ g
  regs : Nodes 69 w s.regs ps
  own : w.ownsRow T 63 1 rv s.regs.length ps
theorem RMachP.kept {w w' : World} {T g : Nat} {l : List Ins} {pv tv : Value} (h : RMachP w T g l pv tv) (hb : Below T w w') (hk : Kept 69 w w') : RMachP w' T g l pv tv := by
  obtain ⟨xs, base, h1, h2, h3⟩ := h.sets
  refine ⟨(hb.block g h.lt).trans h.blk, h.lt, h.prog.below hb, xs, base, h1.kept hk, ⟨h2.1, ?_⟩, h3⟩
  rcases h2.2 with h4 | ⟨g', cap, cur, hv, hbb, hgg, r⟩
  · exact .inl h4
  · exact .inr ⟨g', cap, cur, hv, hbb, (hb.block g' (h3 g' (by rw [hv]; rfl))).trans hgg, r⟩
theorem RStP.kept {w w' : World} {T g : Nat} {s : St} {rv : Value} {ps : List Value} (h : RStP w T g s rv ps) (hb : Below w.heap.size w w') : RStP w' T g s rv ps :=
  ⟨(hb.block g (Array.getElem?_eq_some_iff.1 h.blk).1).trans h.blk, h.le, h.regs.kept (Kept.below hb), own_below h.own hb⟩

/-- An element of an owned row, written. -/
theorem own_set {w : World} {base e : Nat} {g n cap : Nat} {xs : List Value} (h : w.ownsRow base e 1 (.slice (some ⟨g, 0, none⟩) n cap) n xs) (j : Nat) (v : Value) : (w.setCell ⟨g, j, none⟩ v).ownsRow base e 1 (.slice (some ⟨g, 0, none⟩) n cap) n (xs.set j v) := by
  refine ⟨by rw [List.length_set]; exact h.1, ?_⟩
  rcases h.2 with ⟨h0, _⟩ | ⟨g', cap', cur, hv, hb, hg, hnc, hcm, hcs, htake⟩
  · cases h0
  · simp only [Value.slice.injEq, Option.some.injEq, Addr.mk.injEq] at hv
    obtain ⟨⟨rfl, -, -⟩, -, rfl⟩ := hv
    refine .inr ⟨g, cap, cur.setIfInBounds j v, rfl, hb, set_blk hg j v, hnc, hcm, by simpa using hcs, ?_⟩
    rw [Array.toList_setIfInBounds, List.take_set, htake]

end Go.Proofs.Ytaiomcjopgnfpaa

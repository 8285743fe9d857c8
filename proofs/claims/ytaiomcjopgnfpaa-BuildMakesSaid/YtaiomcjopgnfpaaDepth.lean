/- The walks of narcissusref01.Depth and tree.Depth. -/
import Derived.Test.YtaiomcjopgnfpaaRefT
import Derived.StillTailTactics
namespace Go.Proofs.Ytaiomcjopgnfpaa
open Go.RowKit

/-- The stack of depths. -/
def dstack (ts : List Tr) : List Value := (ts.map fun t => Value.int .i64 t.depth).reverse
theorem dstack_length (ts : List Tr) : (dstack ts).length = ts.length := by simp [dstack]
theorem dstack_cons (t : Tr) (ts : List Tr) : dstack (t :: ts) = dstack ts ++ [.int .i64 t.depth] := by simp [dstack]

theorem pf_at (t : Tr) (q : Nat) (h : q < (TS t).size) : ∃ us ts, pf (t.enc.drop (q + 1)) = some us ∧ pf (t.enc.drop q) = some ts ∧
    ((((TS t)[q].toNat : Int) = 48 ∧ ts = .nil :: us) ∨ (((TS t)[q].toNat : Int) = 49 ∧ ∃ a b r, us = a :: b :: r ∧ ts = .pair a b :: r)) := by
  obtain ⟨us, hu⟩ := pf_drop _ _ (pf_one t) (q + 1)
  obtain ⟨ts, ht⟩ := pf_drop _ _ (pf_one t) q
  have hl : q < t.enc.length := by rw [TS_size, ← Tr.enc_length] at h; exact h
  have e : t.enc.drop q = t.enc[q] :: t.enc.drop (q + 1) := List.drop_eq_getElem_cons hl
  refine ⟨us, ts, hu, ht, ?_⟩
  rw [TS_get]
  rw [e] at ht
  by_cases h8 : t.enc[q] = 48
  · rw [h8, pf_48 hu] at ht
    rw [h8]; exact .inl ⟨rfl, by simpa using ht.symm⟩
  · by_cases h9 : t.enc[q] = 49
    · rw [h9] at ht ⊢
      match us, hu with
      | a :: b :: r, hu => rw [pf_49 hu] at ht; exact .inr ⟨rfl, a, b, r, rfl, by simpa using ht.symm⟩
      | [], hu => rw [pf_49_few hu (by simp)] at ht; cases ht
      | [a], hu => rw [pf_49_few hu (by simp)] at ht; cases ht
    · rw [pf_else h8 h9] at ht; cases ht

end Go.Proofs.Ytaiomcjopgnfpaa

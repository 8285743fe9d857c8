/- Plain: the universal program does one step of a program. -/
import Derived.Test.YtlaeljkjdfffjaaUnivR
namespace Go.Proofs.Ytlaeljkjdfffjaa
open Go.RowKit

/-- The first elements, nil where there are none. -/
def padH : Nat → List Tr → List Tr | 0, _ => [] | n + 1, l => l.head?.getD .nil :: padH n l.tail
theorem padH_len : ∀ (n : Nat) (l : List Tr), (padH n l).length = n
  | 0, _ => rfl
  | n + 1, l => by simp [padH, padH_len n]
theorem padH_get : ∀ (n : Nat) (l : List Tr) (i : Nat), i < n → (padH n l)[i]? = some (l[i]?.getD .nil)
  | n + 1, l, 0, _ => by cases l <;> simp [padH]
  | n + 1, l, i + 1, h => by
    have := padH_get n l.tail i (by omega)
    cases l <;> simpa [padH] using this
/-- A list that says the contents of the registers. -/
structure RepL (l rs : List Tr) : Prop where
  len : rs.length = 32
  short : l.length ≤ 32
  get : ∀ i, i < 32 → rs[i]? = some (l[i]?.getD .nil)
/-- The list behind a store. -/
def putL (a : Nat) (v : Tr) (l : List Tr) : List Tr := padH a l ++ v :: l.drop (a + 1)
theorem RepL.put {l rs : List Tr} (h : RepL l rs) {a : Nat} (ha : a < 32) (v : Tr) : RepL (putL a v l) (setR rs (a : Int) v) := by
  have hlen := padH_len a l
  refine ⟨?_, ?_, fun i hi => ?_⟩
  · unfold setR
    rw [List.length_set]
    exact h.len
  · have := h.short
    simp [putL, hlen]
    omega
  · unfold setR putL
    rw [Int.toNat_natCast, List.getElem?_set]
    by_cases h1 : a = i
    · subst h1
      rw [if_pos rfl, if_pos (by rw [h.len]; exact ha), List.getElem?_append_right (by omega), hlen, Nat.sub_self]
      rfl
    · rw [if_neg h1, h.get i hi]
      by_cases h2 : i < a
      · rw [List.getElem?_append_left (by omega), padH_get a l i h2]
        rfl
      · rw [List.getElem?_append_right (by omega), hlen]
        obtain ⟨j, rfl⟩ : ∃ j, i = a + 1 + j := ⟨i - (a + 1), by omega⟩
        rw [show a + 1 + j - a = j + 1 by omega, List.getElem?_cons_succ, List.getElem?_drop]
end Go.Proofs.Ytlaeljkjdfffjaa


/- order, the plain part: in how many ways words go on; the table. -/
import Derived.Test.YtlaeljkjdfffjaaMB0
namespace Go.Proofs.Ytlaeljkjdfffjaa
open Go.RowKit

/-- In how many ways words go on: k pairs are left, n trees have not ended. -/
def wy : Nat → Nat → Nat
  | 0, _ => 1
  | _ + 1, 0 => 0
  | k + 1, n + 1 => wy (k + 1) n + wy k (n + 2)
termination_by k n => (k, n)
theorem wy_zero (n : Nat) : wy 0 n = 1 := by rw [wy]
theorem wy_step (k n : Nat) : wy (k + 1) (n + 1) = wy (k + 1) n + wy k (n + 2) := by rw [wy]
/-- The table, filled in up to (p, o). -/
def TabIn (p o : Nat) (C : Array Value) : Prop :=
  C.size = 992 ∧ (∀ k, k ≤ 30 → C[k * 32]? = some (.int .i64 (wy k 0))) ∧ ∀ k n, k ≤ 30 → n + k ≤ 31 → (k < p ∨ k = p ∧ n < o) → C[k * 32 + n]? = some (.int .i64 (wy k n))
theorem TabIn.get {p o : Nat} {C : Array Value} (h : TabIn p o C) {k n : Nat} (hk : k ≤ 30) (hn : n + k ≤ 31) (hd : n = 0 ∨ k < p ∨ k = p ∧ n < o) : C[k * 32 + n]? = some (.int .i64 (wy k n)) := by
  rcases hd with rfl | hd
  · exact h.2.1 k hk
  · exact h.2.2 k n hk hn hd
theorem TabIn.put {p o : Nat} {C : Array Value} (h : TabIn p o C) (ho : 1 ≤ o) (hp : p ≤ 30) (hpo : o + p ≤ 31) : TabIn p (o + 1) (C.setIfInBounds (p * 32 + o) (.int .i64 (wy p o))) := by
  obtain ⟨h0, h1, h2⟩ := h
  refine ⟨by simpa using h0, fun k hk => ?_, fun k n hk hn hd => ?_⟩
  · rw [Array.getElem?_setIfInBounds, if_neg (by omega)]; exact h1 k hk
  · rw [Array.getElem?_setIfInBounds]
    by_cases he : p * 32 + o = k * 32 + n
    · have hkp : k = p := by omega
      subst hkp
      have hno : n = o := by omega
      subst hno
      rw [if_pos rfl, if_pos (by omega)]
    · rw [if_neg he]
      refine h2 k n hk hn ?_
      rcases hd with hd | ⟨rfl, hd⟩
      · exact .inl hd
      · exact .inr ⟨rfl, by omega⟩
end Go.Proofs.Ytlaeljkjdfffjaa


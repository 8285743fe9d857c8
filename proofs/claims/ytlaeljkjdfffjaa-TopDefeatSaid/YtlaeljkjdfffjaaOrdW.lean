/- order, the plain part: words (the trees that have not ended, and the pairs that are left), their ranks, the next one. -/
import Derived.Test.YtlaeljkjdfffjaaOrdP
import Derived.Test.YtlaeljkjdfffjaaMB0
namespace Go.Proofs.Ytlaeljkjdfffjaa
open Go.RowKit

/-- n trees with k pairs together. -/
inductive Wd : Nat → Nat → List UInt8 → Prop
  | nil : Wd 0 0 []
  | zero {k n : Nat} {l : List UInt8} : Wd k n l → Wd k (n + 1) (48 :: l)
  | one {k n : Nat} {l : List UInt8} : Wd k (n + 2) l → Wd (k + 1) (n + 1) (49 :: l)
theorem Wd.tree (t : Tr) : ∀ {k n : Nat} {l : List UInt8}, Wd k n l → Wd (k + t.pairs) (n + 1) (t.enc ++ l) := by
  induction t with
  | nil => intro k n l h; exact .zero h
  | pair a b iha ihb =>
    intro k n l h
    have h1 := iha (ihb h)
    simp only [Tr.enc, Tr.pairs, List.cons_append, List.append_assoc]
    rw [show k + (1 + a.pairs + b.pairs) = k + b.pairs + a.pairs + 1 by omega]
    exact .one h1
theorem Wd.enc (t : Tr) : Wd t.pairs 1 t.enc := by
  have := Wd.tree t .nil
  simpa using this
theorem Wd.pf {k n : Nat} {l : List UInt8} (h : Wd k n l) : ∃ ts, pf l = some ts ∧ ts.length = n ∧ (ts.map Tr.pairs).sum = k := by
  induction h with
  | nil => exact ⟨[], rfl, rfl, rfl⟩
  | zero _ ih =>
    obtain ⟨ts, h1, h2, h3⟩ := ih
    exact ⟨.nil :: ts, pf_48 h1, by simp [h2], by simp [Tr.pairs, h3]⟩
  | one _ ih =>
    obtain ⟨ts, h1, h2, h3⟩ := ih
    match ts, h2 with
    | a :: b :: ts, h2 =>
      refine ⟨.pair a b :: ts, pf_49 h1, by simp at h2 ⊢; omega, ?_⟩
      simp [Tr.pairs] at h3 ⊢
      omega
theorem Wd.get {k : Nat} {l : List UInt8} (h : Wd k 1 l) : ∃ t : Tr, l = t.enc ∧ t.pairs = k := by
  obtain ⟨ts, h1, h2, h3⟩ := h.pf
  match ts, h2 with
  | [t], _ =>
    refine ⟨t, ?_, by simpa using h3⟩
    have := pf_flat l [t] h1
    simpa using this
theorem Wd.len {k n : Nat} {l : List UInt8} (h : Wd k n l) : l.length = 2 * k + n := by
  induction h with
  | nil => rfl
  | zero _ ih => simp [ih]; omega
  | one _ ih => simp [ih]; omega
/-- The number of words before a word, of those that go on alike. -/
def wrk : Nat → Nat → List UInt8 → Nat
  | _, _, [] => 0
  | k, n, c :: l => if c = 48 then wrk k (n - 1) l else wy k (n - 1) + wrk (k - 1) (n + 1) l
theorem wrk_48 (k n : Nat) (l : List UInt8) : wrk k (n + 1) (48 :: l) = wrk k n l := by simp [wrk]
theorem wrk_49 (k n : Nat) (l : List UInt8) : wrk (k + 1) (n + 1) (49 :: l) = wy (k + 1) n + wrk k (n + 2) l := by simp [wrk]
theorem Wd.rank_lt {k n : Nat} {l : List UInt8} (h : Wd k n l) : wrk k n l < wy k n := by
  induction h with
  | nil => rw [wy_zero]; exact Nat.one_pos
  | @zero k n l _ ih =>
    rw [wrk_48]
    cases k with
    | zero => rw [wy_zero] at *; exact ih
    | succ k => rw [wy_step]; omega
  | @one k n l _ ih => rw [wrk_49, wy_step]; omega
theorem Wd.end {n : Nat} {l : List UInt8} {k : Nat} (h : Wd k n l) : k = 0 → wrk k n l = 0 := by
  intro hk
  have := h.rank_lt
  subst hk
  rw [wy_zero] at this
  omega
end Go.Proofs.Ytlaeljkjdfffjaa


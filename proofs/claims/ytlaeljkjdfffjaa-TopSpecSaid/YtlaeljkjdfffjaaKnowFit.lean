/- Plain: Know of small programs fits. -/
import Derived.Test.YtlaeljkjdfffjaaMB4
namespace Go.Proofs.Ytlaeljkjdfffjaa
open Go.RowKit

theorem bodyB_small {x : Ins} {i n : Int} (hr : rightB x i n = true) (hi : 0 ≤ i ∧ i ≤ 400 ∧ n ≤ 400) : (bodyB x).size ≤ 1000 + x.tree.size := by
  obtain ⟨a, ha, ha2, hbc⟩ := right_nats hr
  have hs : ∀ a b : ByteArray, (a ++ b).size = a.size + b.size := fun a b => ByteArray.size_append
  have h1 : (⟨#[49]⟩ : ByteArray).size = 1 := rfl
  have h2 : (⟨#[49, 48]⟩ : ByteArray).size = 2 := rfl
  have h4 : (⟨#[49, 49, 48, 48]⟩ : ByteArray).size = 4 := rfl
  have hop := right_op hr
  unfold bodyB
  by_cases h0 : x.op = 0
  · rw [if_pos h0, hs, hs, num_size, h1]; omega
  · rw [if_neg h0]
    by_cases hc : x.op = 2
    · obtain ⟨b', c', hb', hc', _, _⟩ := hbc (by omega)
      rw [if_pos hc, hs, hs, hs, hs, num_size, num_size, num_size, h1]; omega
    · rw [if_neg hc]
      by_cases h5 : x.op = 5
      · have hj := right_jump hr h5
        rw [if_pos h5]
        split
        · rw [hs, hs, hs, num_size, num_size, h1, h4]; omega
        · rw [hs, hs, hs, num_size, num_size, h1, h2]; omega
      · obtain ⟨b', c', hb', hc', _, _⟩ := hbc h5
        rw [if_neg h5, hs, hs, num_size, num_size, h1]; omega
theorem codeN_small (l : List Ins) (hv : rightAll l = true) (hl : l.length ≤ 400) : codeN l ≤ 1100 * l.length + trees l + 1 := by
  have hx : ∀ x ∈ l, (ciL x).length ≤ 1100 + x.tree.size := by
    intro x hx
    obtain ⟨k, hk, rfl⟩ := List.getElem_of_mem hx
    have hr := rightAll_get hv (List.getElem?_eq_getElem hk)
    have h1 := bodyB_small hr ⟨Int.natCast_nonneg _, by omega, by omega⟩
    have hop := right_op hr
    unfold ciL
    have h2 : (⟨#[49, 49]⟩ ++ TS (.num l[k].op.toNat) : ByteArray).size = 2 + (2 * l[k].op.toNat + 1) := by rw [ByteArray.size_append, num_size]; rfl
    have h3 : ∀ s : ByteArray, s.data.toList.length = s.size := fun s => by simp
    rw [List.length_append, h3, h3, h2]; omega
  have : ∀ k : List Ins, (∀ x ∈ k, (ciL x).length ≤ 1100 + x.tree.size) → (codeLs k).length ≤ 1100 * k.length + trees k := by
    intro k
    induction k with
    | nil => intro _; simp [codeLs]
    | cons x k ih =>
      intro h
      have h1 := ih fun y hy => h y (List.mem_cons_of_mem _ hy)
      have h2 := h x (List.mem_cons_self)
      have h3 : codeLs (x :: k) = ciL x ++ codeLs k := by simp [codeLs]
      have h4 : trees (x :: k) = x.tree.size + trees k := by simp [trees]
      rw [h3, List.length_append, List.length_cons, h4]; omega
  have h5 := this l hx
  unfold codeN
  omega
theorem fits_valid {l : List Ins} (h : rightAll l = true) (h1 : l.length ≤ 4000) (h2 : trees l ≤ 2000000) : validB l = true := by
  rw [validB_fits h]; unfold fitsP; simp [h1, h2]
end Go.Proofs.Ytlaeljkjdfffjaa


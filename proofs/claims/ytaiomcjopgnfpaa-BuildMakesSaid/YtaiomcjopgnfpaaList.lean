/- The walk of tree.List. -/
import Derived.Test.YtaiomcjopgnfpaaListP
import Derived.Test.YtaiomcjopgnfpaaRefT
namespace Go.Proofs.Ytaiomcjopgnfpaa
open Go.RowKit

theorem ret_se2 {a b : ByteArray} {c d : Int} (h : a = b) (h' : c = d) : Ending.returned (.tuple #[.string a, .int .i64 c]) = .returned (.tuple #[.string b, .int .i64 d]) := by rw [h, h']

theorem take_snoc' {α : Type} (l : List α) (k : Nat) (s : α) (h : l[k]? = some s) : l.take (k + 1) = l.take k ++ [s] := by
  rw [List.take_add_one, h]; rfl
theorem allTree_bad {l : List ByteArray} {k : Nat} {s : ByteArray} (h : l[k]? = some s) (hb : isTree s = false) : listE l = 1 ∧ listS l = ⟨#[]⟩ := by
  have : allTree l = false := by
    rw [Bool.eq_false_iff]; intro ha
    have := List.all_eq_true.1 ha s (List.mem_of_getElem? h)
    rw [hb] at this; cases this
  exact ⟨by unfold listE; rw [this]; rfl, by unfold listS; rw [this]; rfl⟩
/-- The bytes that are written for some strings. -/
def lwr (l : List ByteArray) : List UInt8 := (l.map fun s : ByteArray => (49 : UInt8) :: s.data.toList).flatten
theorem lwr_snoc (l : List ByteArray) (s : ByteArray) : lwr (l ++ [s]) = lwr l ++ (49 :: s.data.toList) := by simp [lwr]
theorem lwr_length (l : List ByteArray) (h : allTree l = true) : (lwr l).length + 1 = lcount l := by
  obtain ⟨ts, rfl, hts⟩ := allTree_get h
  rw [lcount_TS ts hts, size_ofList, ← lenc_length]
  simp [lwr, lenc, Function.comp_def, TS_list]; omega
theorem lcount_take (l : List ByteArray) (k : Nat) : lcount (l.take k) ≤ lcount l := by
  conv => rhs; rw [← List.take_append_drop k l]
  simp only [lcount, List.map_append, List.sum_append]; omega
theorem allTree_take {l : List ByteArray} (h : allTree l = true) (k : Nat) : allTree (l.take k) = true := by
  unfold allTree at *; rw [List.all_eq_true] at *; exact fun x hx => h x (List.mem_of_mem_take hx)

end Go.Proofs.Ytaiomcjopgnfpaa

/- code.Code. -/
import Derived.Test.YtaiomcjopgnfpaaCodeF
namespace Go.Proofs.Ytaiomcjopgnfpaa
open Go.RowKit

theorem isB_below {T e : TypeId} {B b : Nat} {bs : List Value} {w w' : World} (h : Lib.IsBuilder T e B b bs w) (hb : Below w.heap.size w w') : Lib.IsBuilder T e B b bs w' := by
  rcases h with ⟨h1, v, h2, h3, h4⟩ | ⟨h1, v, h2, h3, h4⟩
  · exact .inl ⟨h1, v, (hb.block b (Array.getElem?_eq_some_iff.1 h2).1).trans h2, own_below h3 hb, h4⟩
  · exact .inr ⟨h1, v, (hb.block b (Array.getElem?_eq_some_iff.1 h2).1).trans h2, own_below h3 hb, h4⟩
theorem isB_lt {T e : TypeId} {B b : Nat} {bs : List Value} {w : World} (h : Lib.IsBuilder T e B b bs w) : b < w.heap.size := by
  rcases h with ⟨_, v, h2, _⟩ | ⟨_, v, h2, _⟩ <;> exact (Array.getElem?_eq_some_iff.1 h2).1
/-- The code of a program, without its end. -/
def ciL (x : Ins) : List UInt8 := (⟨#[49, 49]⟩ ++ TS (.num x.op.toNat)).data.toList ++ (bodyB x).data.toList
def codeLs (l : List Ins) : List UInt8 := (l.map ciL).flatten
def codeOf (l : List Ins) : ByteArray := ⟨(codeLs l ++ [48]).toArray⟩
theorem codeLs_succ (l : List Ins) (k : Nat) {x : Ins} (hx : l[k]? = some x) : codeLs (l.take (k + 1)) = codeLs (l.take k) ++ ciL x := by rw [take_snoc' _ _ _ hx]; unfold codeLs; simp
theorem codeLs_take (l : List Ins) (k : Nat) : (codeLs (l.take k)).length ≤ (codeLs l).length := by
  have h : codeLs l = codeLs (l.take k) ++ codeLs (l.drop k) := by
    conv => lhs; rw [← List.take_append_drop k l]
    unfold codeLs; rw [List.map_append, List.flatten_append]
  rw [h]; simp
theorem right_op {x : Ins} {i n : Int} (h : rightB x i n = true) : x.op = 0 ∨ x.op = 1 ∨ x.op = 2 ∨ x.op = 3 ∨ x.op = 4 ∨ x.op = 5 := by
  unfold rightB at h
  simp only [Bool.and_eq_true] at h
  have h3 := h.2
  by_cases h0 : x.op = 0
  · exact .inl h0
  · rw [if_neg h0] at h3
    by_cases h1 : x.op = 1 ∨ x.op = 3 ∨ x.op = 4
    · rcases h1 with h | h | h <;> simp [h]
    · rw [if_neg h1] at h3
      by_cases h2 : x.op = 2
      · simp [h2]
      · rw [if_neg h2] at h3
        by_cases h5 : x.op = 5
        · simp [h5]
        · rw [if_neg h5] at h3; cases h3
theorem right_tree {x : Ins} {i n : Int} (h : rightB x i n = true) : x.tree.size ≤ 2000000 := by
  unfold rightB at h
  simp only [Bool.and_eq_true] at h
  by_cases h0 : x.op = 0
  · have h3 := h.2
    rw [if_pos h0, Bool.and_eq_true] at h3
    obtain ⟨t, ht, hs⟩ := isTree_get h3.2
    rw [ht, TS_size]; exact hs
  · have h4 := h.1.1.2
    have : x.tree.toList.isEmpty = true := by
      rw [Bool.or_eq_true] at h4
      exact h4.resolve_left (fun e => h0 (by simpa using e))
    have hz : x.tree.toList = [] := by simpa using this
    have h5 : x.tree.size = x.tree.toList.length := by rw [Lib.toList_data]; simp
    rw [h5, hz]; simp
theorem right_jump {x : Ins} {i n : Int} (h : rightB x i n = true) (h5 : x.op = 5) : -i ≤ x.b ∧ x.b ≤ n - i := by
  unfold rightB at h
  simp only [Bool.and_eq_true] at h
  have h3 := h.2
  rw [if_neg (by omega), if_neg (by omega), if_neg (by omega), if_pos h5] at h3
  simpa using h3
/-- The writer of an instruction's fields, and what it writes. -/
theorem fields_put {x : Ins} {i n : Int} (hr : rightB x i n = true) (hi : 0 ≤ i ∧ i ≤ 4000 ∧ n ≤ 4000) : ∃ PF : Nat,
    (∀ w : World, Calls Try.prog 124 #[.int .i64 x.op] w fun e w' => ∃ g, e = .returned (.agg #[.func (.func PF) #[] #[], g]) ∧ Below w.heap.size w w') ∧
    (∀ w : World, Calls Try.prog PF #[.agg #[.int .i64 x.op, .int .i64 x.a, .int .i64 x.b, .int .i64 x.c, .string x.tree]] w fun e w' => e = .returned (.string (bodyB x)) ∧ Below w.heap.size w w') ∧ (∀ args w, (callFunc PF args).run Try.prog w = .ok (.enter PF args) w) ∧ (bodyB x).size ≤ 4000000 ∧ ∃ m : Nat, x.op = m ∧ m ≤ 5 := by
  have ht := right_tree hr
  obtain ⟨a, ha, ha2, hbc⟩ := right_nats hr
  have hop := right_op hr
  have hsz : ∀ n : Nat, (TS (.num n)).size = 2 * n + 1 := num_size
  obtain ⟨op, xa, b, c, t⟩ := x
  simp only at ha hop hbc ht
  subst ha
  rcases hop with rfl | rfl | rfl | rfl | rfl | rfl
  · refine ⟨_, fields_set, fun w => put_set 0 b c t ht a (by omega) w, enters_of Try.func144 (by kernel_rfl) rfl, ?_, 0, rfl, by omega⟩
    simp [bodyB, ByteArray.size_append, hsz]
    show 1 + (2 * a + 1) + t.size ≤ _
    omega
  · obtain ⟨b', c', rfl, rfl, h1, h2⟩ := hbc (by decide)
    refine ⟨_, fields_r1, fun w => put_regs 1 c' t ht a (by omega) b' (by omega) w, enters_of Try.func164 (by kernel_rfl) rfl, ?_, 1, rfl, by omega⟩
    simp [bodyB, ByteArray.size_append, hsz]
    show 1 + (2 * a + 1) + (2 * b' + 1) ≤ _
    omega
  · obtain ⟨b', c', rfl, rfl, h1, h2⟩ := hbc (by decide)
    refine ⟨_, fields_cons, fun w => put_cons 2 t ht a (by omega) b' (by omega) c' (by omega) w, enters_of Try.func148 (by kernel_rfl) rfl, ?_, 2, rfl, by omega⟩
    simp [bodyB, ByteArray.size_append, hsz]
    show 1 + (2 * a + 1) + 1 + (2 * b' + 1) + (2 * c' + 1) ≤ _
    omega
  · obtain ⟨b', c', rfl, rfl, h1, h2⟩ := hbc (by decide)
    refine ⟨_, fields_r3, fun w => put_regs 3 c' t ht a (by omega) b' (by omega) w, enters_of Try.func164 (by kernel_rfl) rfl, ?_, 3, rfl, by omega⟩
    simp [bodyB, ByteArray.size_append, hsz]
    show 1 + (2 * a + 1) + (2 * b' + 1) ≤ _
    omega
  · obtain ⟨b', c', rfl, rfl, h1, h2⟩ := hbc (by decide)
    refine ⟨_, fields_r4, fun w => put_regs 4 c' t ht a (by omega) b' (by omega) w, enters_of Try.func164 (by kernel_rfl) rfl, ?_, 4, rfl, by omega⟩
    simp [bodyB, ByteArray.size_append, hsz]
    show 1 + (2 * a + 1) + (2 * b' + 1) ≤ _
    omega
  · have hj := right_jump hr rfl
    simp only at hj
    by_cases hneg : b < 0
    · obtain ⟨j, rfl⟩ : ∃ j : Nat, b = -(j : Int) := ⟨(-b).toNat, by omega⟩
      refine ⟨_, fields_jump, fun w => ?_, enters_of Try.func150 (by kernel_rfl) rfl, ?_, 5, rfl, by omega⟩
      · have := put_back 5 c t ht a (by omega) j (by omega) (by omega) w
        unfold bodyB
        simp only [show ¬ (5 : Int) = 0 by decide, show ¬ (5 : Int) = 2 by decide, if_false, if_true, if_pos hneg]
        rw [show (-(-(j : Int))).toNat = j by omega, Int.toNat_natCast]
        exact this
      · unfold bodyB
        simp only [show ¬ (5 : Int) = 0 by decide, show ¬ (5 : Int) = 2 by decide, if_false, if_true, if_pos hneg]
        rw [show (-(-(j : Int))).toNat = j by omega, Int.toNat_natCast]
        simp [ByteArray.size_append, hsz]
        show 1 + (2 * a + 1) + 4 + (2 * j + 1) ≤ _
        omega
    · obtain ⟨j, rfl⟩ : ∃ j : Nat, b = (j : Int) := ⟨b.toNat, by omega⟩
      refine ⟨_, fields_jump, fun w => ?_, enters_of Try.func150 (by kernel_rfl) rfl, ?_, 5, rfl, by omega⟩
      · have := put_on 5 c t ht a (by omega) j (by omega) w
        unfold bodyB
        simp only [show ¬ (5 : Int) = 0 by decide, show ¬ (5 : Int) = 2 by decide, if_false, if_true, if_neg hneg]
        rw [Int.toNat_natCast, Int.toNat_natCast]
        exact this
      · unfold bodyB
        simp only [show ¬ (5 : Int) = 0 by decide, show ¬ (5 : Int) = 2 by decide, if_false, if_true, if_neg hneg]
        rw [Int.toNat_natCast, Int.toNat_natCast]
        simp [ByteArray.size_append, hsz]
        show 1 + (2 * a + 1) + 2 + (2 * j + 1) ≤ _
        omega

end Go.Proofs.Ytaiomcjopgnfpaa


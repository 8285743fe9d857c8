/- The walk of code.right. -/
import Derived.Test.YtaiomcjopgnfpaaReg
namespace Go.Proofs.Ytaiomcjopgnfpaa
open Go.RowKit

theorem codeValid_at (s : ByteArray) (b : Bool) (hs : s.size ≤ 140737488355328) (h : isTree s = b) (w : World) :
    Calls Try.prog 86 #[.string s] w fun e w' => e = .returned (.bool b) ∧ Below w.heap.size w w' := by
  rw [← h]; exact treeValid_any s (by omega) w

theorem creg_of (xs : List Int) (n : Nat) (hn : xs.length = n) (hn4 : n ≤ 4) (b : Bool) (hb : xs.all regB = b) (W : World) (G : Nat) (hG : W.heap.size = G) :
    Calls Try.prog 141 #[.slice (some ⟨G, 0, none⟩) n n] (W.alloc (.cells (xs.map (Value.int .i64)).toArray 3)) fun e w' => e = .returned (.bool b) ∧ (W.alloc (.cells (xs.map (Value.int .i64)).toArray 3)) = w' := by
  subst hG
  rw [← hb]
  have hown : (W.alloc (.cells (xs.map (Value.int .i64)).toArray 3)).ownsRow W.heap.size 3 1 (.slice (some ⟨W.heap.size, 0, none⟩) n n) n (xs.map (Value.int .i64)) := World.ownsRow_lit W (xs.map (Value.int .i64)).toArray n (Nat.le_refl _) (by unfold maxLen; omega) (by simp [hn])
  refine codeReg_any _ n xs hn hn4 _ fun j a hj => ?_
  have hlt : j < n * 1 := by have := (List.getElem?_eq_some_iff.1 hj).1; omega
  rw [World.ownsRow.cellAt hown j hlt, List.getElem?_map, hj]; rfl
theorem creg1 (a : Int) (b : Bool) (hb : regB a = b) (W : World) (G : Nat) (hG : W.heap.size = G) :
    Calls Try.prog 141 #[.slice (some ⟨G, 0, none⟩) 1 1] (W.alloc (.cells #[.int .i64 a] 3)) fun e w' => e = .returned (.bool b) ∧ (W.alloc (.cells #[.int .i64 a] 3)) = w' :=
  creg_of [a] 1 rfl (by decide) b (by simp [hb]) W G hG
theorem creg2 (a1 a2 : Int) (b : Bool) (hb : (regB a1 && regB a2) = b) (W : World) (G : Nat) (hG : W.heap.size = G) :
    Calls Try.prog 141 #[.slice (some ⟨G, 0, none⟩) 2 2] (W.alloc (.cells #[.int .i64 a1, .int .i64 a2] 3)) fun e w' => e = .returned (.bool b) ∧ (W.alloc (.cells #[.int .i64 a1, .int .i64 a2] 3)) = w' :=
  creg_of [a1, a2] 2 rfl (by decide) b (by simp [← hb]) W G hG
theorem creg3 (a1 a2 a3 : Int) (b : Bool) (hb : (regB a1 && regB a2 && regB a3) = b) (W : World) (G : Nat) (hG : W.heap.size = G) :
    Calls Try.prog 141 #[.slice (some ⟨G, 0, none⟩) 3 3] (W.alloc (.cells #[.int .i64 a1, .int .i64 a2, .int .i64 a3] 3)) fun e w' => e = .returned (.bool b) ∧ (W.alloc (.cells #[.int .i64 a1, .int .i64 a2, .int .i64 a3] 3)) = w' :=
  creg_of [a1, a2, a3] 3 rfl (by decide) b (by simp [← hb, Bool.and_assoc]) W G hG

set_option maxHeartbeats 4000000 in
theorem cright_any (op a b c : Int) (tree : ByteArray) (hx : (⟨op, a, b, c, tree⟩ : Ins).wf) (i n : Nat) (hi : i < n) (hn : n ≤ 4000) (w : World) :
    Calls Try.prog 121 #[.agg #[.int .i64 op, .int .i64 a, .int .i64 b, .int .i64 c, .string tree], .int .i64 i, .int .i64 n] w fun e w' => e = .returned (.bool (rightB ⟨op, a, b, c, tree⟩ i n)) ∧ Below w.heap.size w w' := by
  obtain ⟨w1, w2, w3, w4, w5⟩ := hx
  simp only at w1 w2 w3 w4 w5
  obtain ⟨r, hr⟩ : ∃ r, rightB ⟨op, a, b, c, tree⟩ i n = r := ⟨_, rfl⟩
  rw [hr]
  unfold i64 at w1 w2 w3 w4
  unfold rightB at hr
  simp only at hr
  have hb0 := (Below.refl w.heap.size w).alloc (Nat.le_refl _) (.cells #[.int .i64 op, .int .i64 a, .int .i64 b, .int .i64 c, .string tree] 52)
  by_cases o0 : op = 0
  · subst o0
    have kv := codeValid_at tree _ w5 rfl
    simp only [show ((0 : Int) == 0) = true from rfl, show ((0 : Int) == 2) = false from rfl, Bool.true_or, Bool.and_true, Bool.true_and, Bool.false_or, if_pos] at hr
    cases hc : (c == 0) with
    | false =>
      have hc' : (c != 0) = true := by show (!(c == 0)) = true; rw [hc]; rfl
      rw [hc] at hr
      simp only [Bool.and_false, Bool.false_and] at hr
      subst hr
      go_enter Try.func121, Try.ntmps121
      go_wp2_with fail
      go_ret
      exact ⟨rfl, hb0⟩
    | true =>
      have hc' : (c != 0) = false := by show (!(c == 0)) = false; rw [hc]; rfl
      rw [hc] at hr
      simp only [Bool.and_true] at hr
      have hb1 := hb0.alloc hb0.size (.cells #[.int .i64 a] 3)
      cases hra : regB a <;> cases hb : (b == 0) <;> rw [hra, hb] at hr <;> simp only [Bool.false_and, Bool.true_and] at hr <;> subst hr
      all_goals
        have ka := creg1 a _ hra
        go_enter Try.func121, Try.ntmps121
        go_wp2_with fail
        refine (ka _ _ (by first | rfl | simp)).mono ?_
        rintro e w' ⟨rfl, rfl⟩
        go_wp2_with fail
        first
        | (refine (kv _).mono ?_
           rintro e w2 ⟨rfl, k2⟩
           have c2 := hb1.trans (k2.mono hb1.size)
           go_wp2_with fail
           go_ret
           exact ⟨rfl, c2⟩)
        | (go_ret
           exact ⟨rfl, hb1⟩)
  · have o0' : (op == 0) = false := by simpa using o0
    have o0n : (op != 0) = true := by simpa using o0
    rw [o0', if_neg o0] at hr
    simp only [Bool.false_or] at hr
    cases he : tree.toList.isEmpty with
    | false =>
      rw [he] at hr
      simp only [Bool.false_and, Bool.and_false] at hr
      subst hr
      have hen : (!tree.toList.isEmpty) = true := by rw [he]; rfl
      go_enter Try.func121, Try.ntmps121
      go_wp2_with fail
      go_ret
      exact ⟨rfl, hb0⟩
    | true =>
      have hen : (!tree.toList.isEmpty) = false := by rw [he]; rfl
      rw [he] at hr
      simp only [Bool.and_true] at hr
      by_cases o2 : op = 2
      · subst o2
        rw [if_neg (by decide), if_pos rfl] at hr
        simp only [show ((2 : Int) == 2) = true from rfl, Bool.true_or, Bool.and_true] at hr
        have ka := creg3 a b c r (by rw [← hr, Bool.and_assoc])
        have hb1 := hb0.alloc hb0.size (.cells #[.int .i64 a, .int .i64 b, .int .i64 c] 3)
        clear hr
        go_enter Try.func121, Try.ntmps121
        go_wp2_with fail
        refine (ka _ _ (by first | rfl | simp)).mono ?_
        rintro e w' ⟨rfl, rfl⟩
        go_wp2_with fail
        go_ret
        exact ⟨rfl, hb1⟩
      · have o2' : (op == 2) = false := by simpa using o2
        have o2n : (op != 2) = true := by simpa using o2
        rw [o2'] at hr
        simp only [Bool.false_or] at hr
        cases hc : (c == 0) with
        | false =>
          have hc' : (c != 0) = true := by show (!(c == 0)) = true; rw [hc]; rfl
          rw [hc] at hr
          simp only [Bool.false_and, Bool.and_false] at hr
          subst hr
          go_enter Try.func121, Try.ntmps121
          go_wp2_with fail
          go_ret
          exact ⟨rfl, hb0⟩
        | true =>
          have hc' : (c != 0) = false := by show (!(c == 0)) = false; rw [hc]; rfl
          rw [hc] at hr
          simp only [Bool.and_true] at hr
          by_cases o134 : op = 1 ∨ op = 3 ∨ op = 4
          · rw [if_pos o134] at hr
            have ka := creg2 a b _ hr
            have hb1 := hb0.alloc hb0.size (.cells #[.int .i64 a, .int .i64 b] 3)
            rcases o134 with rfl | rfl | rfl
            all_goals
              go_enter Try.func121, Try.ntmps121
              go_wp2_with fail
              refine (ka _ _ (by first | rfl | simp)).mono ?_
              rintro e w' ⟨rfl, rfl⟩
              go_wp2_with fail
              go_ret
              exact ⟨rfl, hb1⟩
          · rw [if_neg o134, if_neg o2] at hr
            have hb1 := hb0.alloc hb0.size (.cells #[.int .i64 a] 3)
            by_cases o5 : op = 5
            · subst o5
              rw [if_pos rfl] at hr
              have hiI : (i : Int) < n := by omega
              have hnI : (n : Int) ≤ 4000 := by omega
              have hi0 : (0 : Int) ≤ (i : Int) := Int.natCast_nonneg _
              cases hra : regB a <;> cases d1 : decide (-(i : Int) ≤ b) <;> cases d2 : decide (b ≤ (n : Int) - i) <;> rw [hra, d1, d2] at hr
              all_goals
                simp only [Bool.and_self, Bool.and_false, Bool.false_and, Bool.and_true] at hr
                subst hr
                have ka := creg1 a _ hra
                clear w5 hi hn
                go_enter Try.func121, Try.ntmps121
                go_wp2_with fail
                refine (ka _ _ (by first | rfl | simp)).mono ?_
                rintro e w' ⟨rfl, rfl⟩
                go_wp2_with fail
                go_ret
                exact ⟨rfl, hb1⟩
            · rw [if_neg o5] at hr
              have o1' : (op == 1) = false := by simp; omega
              have o3' : (op == 3) = false := by simp; omega
              have o4' : (op == 4) = false := by simp; omega
              have o5' : (op == 5) = false := by simp; omega
              simp only [Bool.and_false] at hr
              subst hr
              go_enter Try.func121, Try.ntmps121
              go_wp2_with fail
              go_ret
              exact ⟨rfl, hb0⟩

end Go.Proofs.Ytaiomcjopgnfpaa

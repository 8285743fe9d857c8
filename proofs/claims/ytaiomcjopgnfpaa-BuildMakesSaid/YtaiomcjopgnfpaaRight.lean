/- The walks of narcissusref02.Right and Valid. -/
import Derived.Test.YtaiomcjopgnfpaaCode
namespace Go.Proofs.Ytaiomcjopgnfpaa
open Go.RowKit

theorem register_at (n : Int) (b : Bool) (h : regB n = b) (w : World) :
    Calls Try.prog 109 #[.int .i64 n] w fun e w' => e = .returned (.bool b) ∧ w = w' := by
  rw [← h]; exact register_any n w
theorem refValid_at' (s : ByteArray) (b : Bool) (hs : s.size ≤ 140737488355328) (h : isTree s = b) (w : World) :
    Calls Try.prog 27 #[.string s] w fun e w' => e = .returned (.bool b) ∧ w = w' := by
  rw [← h]; exact refValid_any s (by omega) w

set_option maxHeartbeats 4000000 in
theorem rright_any (op a b c : Int) (tree : ByteArray) (hx : (⟨op, a, b, c, tree⟩ : Ins).wf) (i n : Nat) (hi : i < n) (hn : n ≤ 4000) (w : World) :
    Calls Try.prog 72 #[.agg #[.int .i64 op, .int .i64 a, .int .i64 b, .int .i64 c, .string tree], .int .i64 i, .int .i64 n] w fun e w' => e = .returned (.bool (rightB ⟨op, a, b, c, tree⟩ i n)) ∧ Below w.heap.size w w' := by
  obtain ⟨w1, w2, w3, w4, w5⟩ := hx
  simp only at w1 w2 w3 w4 w5
  obtain ⟨r, hr⟩ : ∃ r, rightB ⟨op, a, b, c, tree⟩ i n = r := ⟨_, rfl⟩
  rw [hr]
  unfold i64 at w1 w2 w3 w4
  unfold rightB at hr
  simp only at hr
  have hb0 := (Below.refl w.heap.size w).alloc (Nat.le_refl _) (.cells #[.int .i64 op, .int .i64 a, .int .i64 b, .int .i64 c, .string tree] 52)
  cases hra : regB a with
  | false =>
    have ka := register_at a _ hra
    rw [hra] at hr
    simp only [Bool.false_and] at hr
    subst hr
    go_enter Try.func72, Try.ntmps72
    go_wp2_with fail
    refine (ka _).mono ?_
    rintro e w' ⟨rfl, rfl⟩
    go_wp2
    go_ret
    exact ⟨rfl, hb0⟩
  | true =>
    have ka := register_at a _ hra
    rw [hra] at hr
    simp only [Bool.true_and] at hr
    by_cases o0 : op = 0
    · subst o0
      have kv := refValid_at' tree _ w5 rfl
      simp only [show ((0 : Int) == 0) = true from rfl, show ((0 : Int) == 2) = false from rfl, Bool.true_or, Bool.true_and, Bool.false_or, if_pos] at hr
      cases hc : (c == 0) <;> cases hb : (b == 0) <;> rw [hc] at hr <;> rw [hb] at hr <;> simp only [Bool.false_and, Bool.true_and] at hr <;> subst hr
      all_goals
        have hc' : (c != 0) = !(c == 0) := rfl
        rw [hc] at hc'
        go_enter Try.func72, Try.ntmps72
        go_wp2_with fail
        refine (ka _).mono ?_
        rintro e w' ⟨rfl, rfl⟩
        go_wp2_with fail
        try (refine (kv _).mono ?_; rintro e w' ⟨rfl, rfl⟩; go_wp2_with fail)
        go_ret
        exact ⟨rfl, hb0⟩
    · have o0' : (op == 0) = false := by simpa using o0
      have o0n : (op != 0) = true := by simpa using o0
      rw [o0', if_neg o0] at hr
      simp only [Bool.false_or] at hr
      cases he : tree.toList.isEmpty with
      | false =>
        rw [he] at hr
        simp only [Bool.false_and] at hr
        subst hr
        have hen : (!tree.toList.isEmpty) = true := by rw [he]; rfl
        go_enter Try.func72, Try.ntmps72
        go_wp2_with fail
        refine (ka _).mono ?_
        rintro e w' ⟨rfl, rfl⟩
        go_wp2_with fail
        go_ret
        exact ⟨rfl, hb0⟩
      | true =>
        have hen : (!tree.toList.isEmpty) = false := by rw [he]; rfl
        rw [he] at hr
        simp only [Bool.true_and] at hr
        by_cases o2 : op = 2
        · subst o2
          rw [if_neg (by decide), if_pos rfl] at hr
          simp only [show ((2 : Int) == 2) = true from rfl, Bool.true_or, Bool.true_and] at hr
          have kb := register_at b _ rfl
          have kc := register_at c _ rfl
          cases hb : regB b <;> rw [hb] at hr kb <;> simp only [Bool.false_and, Bool.true_and] at hr <;> subst hr
          all_goals
            go_enter Try.func72, Try.ntmps72
            go_wp2_with fail
            refine (ka _).mono ?_
            rintro e w' ⟨rfl, rfl⟩
            go_wp2_with fail
            refine (kb _).mono ?_
            rintro e w' ⟨rfl, rfl⟩
            go_wp2_with fail
            try (refine (kc _).mono ?_; rintro e w' ⟨rfl, rfl⟩; go_wp2_with fail)
            go_ret
            exact ⟨rfl, hb0⟩
        · have o2' : (op == 2) = false := by simpa using o2
          have o2n : (op != 2) = true := by simpa using o2
          rw [o2'] at hr
          simp only [Bool.false_or] at hr
          cases hc : (c == 0) with
          | false =>
            have hc' : (c != 0) = true := by show (!(c == 0)) = true; rw [hc]; rfl
            rw [hc] at hr
            simp only [Bool.false_and] at hr
            subst hr
            go_enter Try.func72, Try.ntmps72
            go_wp2_with fail
            refine (ka _).mono ?_
            rintro e w' ⟨rfl, rfl⟩
            go_wp2_with fail
            go_ret
            exact ⟨rfl, hb0⟩
          | true =>
            have hc' : (c != 0) = false := by show (!(c == 0)) = false; rw [hc]; rfl
            rw [hc] at hr
            simp only [Bool.true_and] at hr
            by_cases o134 : op = 1 ∨ op = 3 ∨ op = 4
            · rw [if_pos o134] at hr
              have kb := register_at b _ hr
              rcases o134 with rfl | rfl | rfl
              all_goals
                go_enter Try.func72, Try.ntmps72
                go_wp2_with fail
                refine (ka _).mono ?_
                rintro e w' ⟨rfl, rfl⟩
                go_wp2_with fail
                refine (kb _).mono ?_
                rintro e w' ⟨rfl, rfl⟩
                go_wp2_with fail
                go_ret
                exact ⟨rfl, hb0⟩
            · rw [if_neg o134, if_neg o2] at hr
              by_cases o5 : op = 5
              · subst o5
                rw [if_pos rfl] at hr
                have hiI : (i : Int) < n := by omega
                have hnI : (n : Int) ≤ 4000 := by omega
                have hi0 : (0 : Int) ≤ (i : Int) := Int.natCast_nonneg _
                cases d1 : decide (-(i : Int) ≤ b) <;> cases d2 : decide (b ≤ (n : Int) - i) <;> rw [d1, d2] at hr
                all_goals
                  simp only [Bool.and_self, Bool.and_false, Bool.false_and, Bool.and_true] at hr
                  subst hr
                  clear w5 hi hn
                  go_enter Try.func72, Try.ntmps72
                  go_wp2_with fail
                  refine (ka _).mono ?_
                  rintro e w' ⟨rfl, rfl⟩
                  go_wp2_with fail
                  go_ret
                  exact ⟨rfl, hb0⟩
              · rw [if_neg o5] at hr
                have o1' : (op == 1) = false := by simp; omega
                have o3' : (op == 3) = false := by simp; omega
                have o4' : (op == 4) = false := by simp; omega
                have o5' : (op == 5) = false := by simp; omega
                subst hr
                go_enter Try.func72, Try.ntmps72
                go_wp2_with fail
                refine (ka _).mono ?_
                rintro e w' ⟨rfl, rfl⟩
                go_wp2_with fail
                go_ret
                exact ⟨rfl, hb0⟩

end Go.Proofs.Ytaiomcjopgnfpaa

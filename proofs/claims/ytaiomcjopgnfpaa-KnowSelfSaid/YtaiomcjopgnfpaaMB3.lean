/- The walks of narcissusref02.Right and Valid. The walks of narcissusref02.Valid, code.reg, code.right and code.Valid. The walks of code.reg and code.right. The walk of code.right. The walk of code.Valid. The walk of (*machine).state. The walks of run.begin and run.First. The walks of narcissusref03.First and Load. The walks of narcissusref03.Text and Read. Plain: runs of programs, to their end or as far as the fuel goes. -/
import Derived.Test.YtaiomcjopgnfpaaMB2
import Derived.Deep.MidRow
import Derived.Laws.MakeOwn
import Derived.Test.YtaiomcjopgnfpaaMB1
namespace Go.Proofs.Ytaiomcjopgnfpaa
open Go.RowKit

theorem register_at (n : Int) (b : Bool) (h : regB n = b) (w : World) :
    Calls Try.prog 109 #[.int .i64 n] w fun e w' => e = .returned (.bool b) ∧ w = w' := by
  rw [← h]; exact register_any n w
theorem refValid_at' (s : ByteArray) (b : Bool) (hs : s.size ≤ 140737488355328) (h : isTree s = b) (w : World) :
    Calls Try.prog 27 #[.string s] w fun e w' => e = .returned (.bool b) ∧ w = w' := by
  rw [← h]; exact refValid_any s (by omega) w

set_option maxHeartbeats 4000000 in
theorem rright_any (op a b c : Int) (tree : ByteArray) (hx : (⟨op, a, b, c, tree⟩ : Ins).wf) (i n : Nat) (hi : i < n) (hn : n ≤ 4000) (w : World) :
    Calls Try.prog 72 #[.agg #[.int .i64 op, .int .i64 a, .int .i64 b, .int .i64 c, .string tree], .int .i64 i, .int .i64 n] w fun e w' => e = .returned (.bool (rightB ⟨op, a, b, c, tree⟩ i n)) ∧ Below w.heap.size w w' := by
  obtain ⟨w1, w2, w3, w4, w5⟩ := hx
  simp only at w1 w2 w3 w4 w5
  obtain ⟨r, hr⟩ : ∃ r, rightB ⟨op, a, b, c, tree⟩ i n = r := ⟨_, rfl⟩
  rw [hr]
  unfold i64 at w1 w2 w3 w4
  unfold rightB at hr
  simp only at hr
  have hb0 := (Below.refl w.heap.size w).alloc (Nat.le_refl _) (.cells #[.int .i64 op, .int .i64 a, .int .i64 b, .int .i64 c, .string tree] 52)
  cases hra : regB a with
  | false =>
    have ka := register_at a _ hra
    rw [hra] at hr
    simp only [Bool.false_and] at hr
    subst hr
    go_enter Try.func72, Try.ntmps72
    go_wp2_with fail
    refine (ka _).mono ?_
    rintro e w' ⟨rfl, rfl⟩
    go_wp2
    go_ret
    exact ⟨rfl, hb0⟩
  | true =>
    have ka := register_at a _ hra
    rw [hra] at hr
    simp only [Bool.true_and] at hr
    by_cases o0 : op = 0
    · subst o0
      have kv := refValid_at' tree _ w5 rfl
      simp only [show ((0 : Int) == 0) = true from rfl, show ((0 : Int) == 2) = false from rfl, Bool.true_or, Bool.true_and, Bool.false_or, if_pos] at hr
      cases hc : (c == 0) <;> cases hb : (b == 0) <;> rw [hc] at hr <;> rw [hb] at hr <;> simp only [Bool.false_and, Bool.true_and] at hr <;> subst hr
      all_goals
        have hc' : (c != 0) = !(c == 0) := rfl
        rw [hc] at hc'
        go_enter Try.func72, Try.ntmps72
        go_wp2_with fail
        refine (ka _).mono ?_
        rintro e w' ⟨rfl, rfl⟩
        go_wp2_with fail
        try (refine (kv _).mono ?_; rintro e w' ⟨rfl, rfl⟩; go_wp2_with fail)
        go_ret
        exact ⟨rfl, hb0⟩
    · have o0' : (op == 0) = false := by simpa using o0
      have o0n : (op != 0) = true := by simpa using o0
      rw [o0', if_neg o0] at hr
      simp only [Bool.false_or] at hr
      cases he : tree.toList.isEmpty with
      | false =>
        rw [he] at hr
        simp only [Bool.false_and] at hr
        subst hr
        have hen : (!tree.toList.isEmpty) = true := by rw [he]; rfl
        go_enter Try.func72, Try.ntmps72
        go_wp2_with fail
        refine (ka _).mono ?_
        rintro e w' ⟨rfl, rfl⟩
        go_wp2_with fail
        go_ret
        exact ⟨rfl, hb0⟩
      | true =>
        have hen : (!tree.toList.isEmpty) = false := by rw [he]; rfl
        rw [he] at hr
        simp only [Bool.true_and] at hr
        by_cases o2 : op = 2
        · subst o2
          rw [if_neg (by decide), if_pos rfl] at hr
          simp only [show ((2 : Int) == 2) = true from rfl, Bool.true_or, Bool.true_and] at hr
          have kb := register_at b _ rfl
          have kc := register_at c _ rfl
          cases hb : regB b <;> rw [hb] at hr kb <;> simp only [Bool.false_and, Bool.true_and] at hr <;> subst hr
          all_goals
            go_enter Try.func72, Try.ntmps72
            go_wp2_with fail
            refine (ka _).mono ?_
            rintro e w' ⟨rfl, rfl⟩
            go_wp2_with fail
            refine (kb _).mono ?_
            rintro e w' ⟨rfl, rfl⟩
            go_wp2_with fail
            try (refine (kc _).mono ?_; rintro e w' ⟨rfl, rfl⟩; go_wp2_with fail)
            go_ret
            exact ⟨rfl, hb0⟩
        · have o2' : (op == 2) = false := by simpa using o2
          have o2n : (op != 2) = true := by simpa using o2
          rw [o2'] at hr
          simp only [Bool.false_or] at hr
          cases hc : (c == 0) with
          | false =>
            have hc' : (c != 0) = true := by show (!(c == 0)) = true; rw [hc]; rfl
            rw [hc] at hr
            simp only [Bool.false_and] at hr
            subst hr
            go_enter Try.func72, Try.ntmps72
            go_wp2_with fail
            refine (ka _).mono ?_
            rintro e w' ⟨rfl, rfl⟩
            go_wp2_with fail
            go_ret
            exact ⟨rfl, hb0⟩
          | true =>
            have hc' : (c != 0) = false := by show (!(c == 0)) = false; rw [hc]; rfl
            rw [hc] at hr
            simp only [Bool.true_and] at hr
            by_cases o134 : op = 1 ∨ op = 3 ∨ op = 4
            · rw [if_pos o134] at hr
              have kb := register_at b _ hr
              rcases o134 with rfl | rfl | rfl
              all_goals
                go_enter Try.func72, Try.ntmps72
                go_wp2_with fail
                refine (ka _).mono ?_
                rintro e w' ⟨rfl, rfl⟩
                go_wp2_with fail
                refine (kb _).mono ?_
                rintro e w' ⟨rfl, rfl⟩
                go_wp2_with fail
                go_ret
                exact ⟨rfl, hb0⟩
            · rw [if_neg o134, if_neg o2] at hr
              by_cases o5 : op = 5
              · subst o5
                rw [if_pos rfl] at hr
                have hiI : (i : Int) < n := by omega
                have hnI : (n : Int) ≤ 4000 := by omega
                have hi0 : (0 : Int) ≤ (i : Int) := Int.natCast_nonneg _
                cases d1 : decide (-(i : Int) ≤ b) <;> cases d2 : decide (b ≤ (n : Int) - i) <;> rw [d1, d2] at hr
                all_goals
                  simp only [Bool.and_self, Bool.and_false, Bool.and_true] at hr
                  subst hr
                  clear w5 hi hn
                  go_enter Try.func72, Try.ntmps72
                  go_wp2_with fail
                  refine (ka _).mono ?_
                  rintro e w' ⟨rfl, rfl⟩
                  go_wp2_with fail
                  go_ret
                  exact ⟨rfl, hb0⟩
              · rw [if_neg o5] at hr
                have o1' : (op == 1) = false := by simp; omega
                have o3' : (op == 3) = false := by simp; omega
                have o4' : (op == 4) = false := by simp; omega
                have o5' : (op == 5) = false := by simp; omega
                subst hr
                go_enter Try.func72, Try.ntmps72
                go_wp2_with fail
                refine (ka _).mono ?_
                rintro e w' ⟨rfl, rfl⟩
                go_wp2_with fail
                go_ret
                exact ⟨rfl, hb0⟩

end Go.Proofs.Ytaiomcjopgnfpaa

namespace Go.Proofs.Ytaiomcjopgnfpaa
open Go.RowKit

/-- The first instructions are right where they stand. -/
def rightTo (l : List Ins) (k : Nat) : Prop := ∀ j x, j < k → l[j]? = some x → rightB x j l.length = true
theorem rightTo_all {l : List Ins} {k : Nat} (h : rightTo l k) (hk : l.length ≤ k) : rightAll l = true := by
  refine List.all_eq_true.2 fun i hi => ?_
  have hi := List.mem_range.1 hi
  rw [List.getElem?_eq_getElem hi]
  exact h i _ (by omega) (List.getElem?_eq_getElem hi)
theorem rightTo_snoc {l : List Ins} {k : Nat} {x : Ins} (h : rightTo l k) (hx : l[k]? = some x) (hr : rightB x k l.length = true) : rightTo l (k + 1) := by
  intro j y hj hy
  by_cases h1 : j = k
  · subst h1; rw [hx] at hy; cases hy; exact hr
  · exact h j y (by omega) hy
theorem validB_eq (l : List Ins) (h : l.length ≤ 4000) (h2 : trees l ≤ 2000000) : validB l = rightAll l := by
  unfold validB; rw [decide_eq_true h, decide_eq_true h2]; rfl
theorem validB_long (l : List Ins) (h : 4000 < l.length) : validB l = false := by
  unfold validB; rw [decide_eq_false (by omega)]; rfl
theorem validB_large (l : List Ins) (h : 2000000 < trees l) : validB l = false := by
  unfold validB; rw [decide_eq_false (by omega : ¬ trees l ≤ 2000000)]; simp

set_option maxHeartbeats 2000000 in
theorem refValidP_any (v : Value) (l : List Ins) (w : World) (hl : InsRow w w.heap.size v l) :
    Calls Try.prog 22 #[v] w fun e w' => e = .returned (.bool (validB l)) ∧ Below w.heap.size w w' := by
  obtain ⟨r, hr⟩ : ∃ r, validB l = r := ⟨_, rfl⟩
  rw [hr]
  have hb0 := hl.2.1
  by_cases h4 : 4000 < l.length
  · rw [validB_long l h4] at hr
    subst hr
    obtain ⟨ao, cap, rfl⟩ := hl.len
    obtain ⟨n, hn'⟩ : ∃ n, l.length = n := ⟨_, rfl⟩
    rw [hn'] at h4 hb0 ⊢
    clear hl hn'
    go_enter Try.func22, Try.ntmps22
    go_wp2
    go_ret
    exact ⟨rfl, Below.refl _ _⟩
  · have kt := fun w' (h : InsRow w' w.heap.size v l) => trees_any v l w' w.heap.size h (by omega)
    have htr := trees_le l (fun x hx => (hl.1 x hx).2.2.2.2)
    have htr2 : (trees l : Int) ≤ 4000 * 140737488355328 := by
      have : l.length * 140737488355328 ≤ 4000 * 140737488355328 := Nat.mul_le_mul_right _ (by omega)
      omega
    clear htr
    have hlarge := Lib.hid (validB_large l)
    have heq := Lib.hid (validB_eq l (by omega))
    obtain ⟨ao, cap, rfl⟩ := hl.len
    obtain ⟨n, hn'⟩ : ∃ n, l.length = n := ⟨_, rfl⟩
    rw [hn'] at h4 hb0 kt hl ⊢
    have HN := Lib.hid hn'; clear hn'
    have HR := Lib.hid hr; clear hr
    obtain ⟨m, hm⟩ : ∃ m, trees l = m := ⟨_, rfl⟩
    rw [hm] at kt htr2 hlarge heq
    clear hm
    by_cases hm : 2000000 < m
    · have hf : Hid (r = false) := HR.out.symm.trans (hlarge.out hm)
      have hmI : ¬ (m : Int) ≤ 2000000 := by omega
      go_enter Try.func22, Try.ntmps22
      go_wp2_with fail
      refine (kt _ hl).mono ?_
      rintro e w' ⟨rfl, rfl⟩
      go_wp2
      go_ret
      exact ⟨by rw [hf.out]; rfl, Below.refl _ _⟩
    · have heq := Lib.hid (heq.out (by omega))
      have hmI : (m : Int) ≤ 2000000 := by omega
      have h4I : (n : Int) ≤ 4000 := by omega
      go_enter Try.func22, Try.ntmps22
      go_wp2_with fail
      refine (kt _ hl).mono ?_
      rintro e w' ⟨rfl, rfl⟩
      clear kt
      go_wp2
      go_loopg [3] n (fun g i wr => ∃ k : Nat, k ≤ n ∧ g = n - k ∧ i = .int .i64 k ∧ Aside (rightTo l k) ∧ Below w.heap.size w wr)
      case atStart => exact ⟨0, Nat.zero_le _, rfl, rfl, (fun j x hj => absurd hj (Nat.not_lt_zero _)), Below.refl _ _⟩
      case round =>
        obtain ⟨k, hk, hg, rfl, hv, hbw⟩ := hrel
        have HG := Lib.hid hg; clear hg
        by_cases hlt : k < n
        · obtain ⟨x, hx⟩ : ∃ s, l[k]? = some s := ⟨_, List.getElem?_eq_getElem (by rw [HN.out]; exact hlt)⟩
          have hl2 := hl.below hbw
          obtain ⟨g, off, rfl, hg, c0, c1, c2, c3, c4⟩ := hl2.get hx
          have hwf := hl.wf hx
          have HX := Lib.hid hx; clear hx
          have kr := fun w => rright_any x.op x.a x.b x.c x.tree hwf k n hlt (by omega) w
          obtain ⟨q, hq⟩ : ∃ q, rightB x k n = q := ⟨_, rfl⟩
          rw [show rightB ⟨x.op, x.a, x.b, x.c, x.tree⟩ k n = q from hq] at kr
          have HQ := Lib.hid hq
          clear hq hwf hl2
          have hi0 : (0 : Int) ≤ (k : Int) := Int.natCast_nonneg _
          have hi1 : (k : Int) < (n : Int) := by omega
          cases q with
          | true =>
            go_wp2_with fail
            refine (kr _).mono ?_
            rintro e w' ⟨rfl, k2⟩
            have c2 := hbw.trans (k2.mono hbw.size)
            clear k2
            go_wp2
            go_roundg (n - (k + 1))
            case measure => rw [HG.out]; omega
            case rel => exact ⟨k + 1, by omega, rfl, by go_num, rightTo_snoc hv.out HX.out (by rw [HN.out]; exact HQ.out), c2⟩
          | false =>
            go_wp2_with fail
            refine (kr _).mono ?_
            rintro e w' ⟨rfl, k2⟩
            have c2 := hbw.trans (k2.mono hbw.size)
            clear k2
            have hf : Hid (r = false) := HR.out.symm.trans (heq.out.trans (rightAll_false HX.out (by rw [HN.out]; exact HQ.out)))
            go_wp2
            go_ret
            exact ⟨by rw [hf.out]; rfl, c2⟩
        · have hf : Hid (r = true) := HR.out.symm.trans (heq.out.trans (rightTo_all hv.out (by rw [HN.out]; omega)))
          go_wp2
          go_ret
          exact ⟨by rw [hf.out]; rfl, hbw⟩

end Go.Proofs.Ytaiomcjopgnfpaa

namespace Go.Proofs.Ytaiomcjopgnfpaa
open Go.RowKit

set_option maxHeartbeats 1000000 in
theorem codeReg_any (g n : Nat) (xs : List Int) (hn' : xs.length = n) (hn4 : n ≤ 4) (w : World) (hc : ∀ (j : Nat) (a : Int), xs[j]? = some a → w.cell? ⟨g, j, none⟩ = some (.int .i64 a)) :
    Calls Try.prog 141 #[.slice (some ⟨g, 0, none⟩) n n] w fun e w' => e = .returned (.bool (xs.all regB)) ∧ w = w' := by
  obtain ⟨r, hr⟩ : ∃ r, xs.all regB = r := ⟨_, rfl⟩
  rw [hr]
  have HR := Lib.hid hr; clear hr
  have HN := Lib.hid hn'; clear hn'
  go_enter Try.func141, Try.ntmps141
  go_wp2
  go_loopg [7] n (fun gg i wr => ∃ k : Nat, k ≤ n ∧ gg = n - k ∧ i = .int .i64 k ∧ Aside (∀ x ∈ xs.take k, regB x = true) ∧ w = wr)
  case atStart => exact ⟨0, Nat.zero_le _, rfl, rfl, (fun x hx => by simp at hx), rfl⟩
  case round =>
    obtain ⟨k, hk, hg, rfl, hv, rfl⟩ := hrel
    have HG := Lib.hid hg; clear hg
    by_cases hlt : k < n
    · obtain ⟨x, hx⟩ : ∃ s, xs[k]? = some s := ⟨_, List.getElem?_eq_getElem (by rw [HN.out]; exact hlt)⟩
      have hcell := hc k x hx
      have HX := Lib.hid hx; clear hx
      have hi0 : (0 : Int) ≤ (k : Int) := Int.natCast_nonneg _
      have hi1 : (k : Int) < (n : Int) := by omega
      by_cases h0 : x < 0
      · have hf : Hid (r = false) := HR.out.symm.trans (by
          rw [Bool.eq_false_iff]; intro h
          have := List.all_eq_true.1 h x (List.mem_of_getElem? HX.out)
          unfold regB at this; simp at this; omega)
        go_wp2
        go_ret
        exact ⟨by rw [hf.out]; rfl, rfl⟩
      · by_cases h32 : x < 32
        · go_wp2
          go_roundg (n - (k + 1))
          case measure => rw [HG.out]; omega
          case rel => exact ⟨k + 1, by omega, rfl, by go_num, (by intro y hy; rw [take_snoc' _ _ _ HX.out] at hy; rcases List.mem_append.1 hy with h | h; exact hv.out y h; simp at h; subst h; unfold regB; simp; omega), rfl⟩
        · have hf : Hid (r = false) := HR.out.symm.trans (by
            rw [Bool.eq_false_iff]; intro h
            have := List.all_eq_true.1 h x (List.mem_of_getElem? HX.out)
            unfold regB at this; simp at this; omega)
          go_wp2
          go_ret
          exact ⟨by rw [hf.out]; rfl, rfl⟩
    · have hf : Hid (r = true) := HR.out.symm.trans (List.all_eq_true.2 (by have := hv.out; rwa [List.take_of_length_le (by rw [HN.out]; omega)] at this))
      go_wp2
      go_ret
      exact ⟨by rw [hf.out]; rfl, rfl⟩

end Go.Proofs.Ytaiomcjopgnfpaa

namespace Go.Proofs.Ytaiomcjopgnfpaa
open Go.RowKit

theorem codeValid_at (s : ByteArray) (b : Bool) (hs : s.size ≤ 140737488355328) (h : isTree s = b) (w : World) :
    Calls Try.prog 86 #[.string s] w fun e w' => e = .returned (.bool b) ∧ Below w.heap.size w w' := by
  rw [← h]; exact treeValid_any s (by omega) w

theorem creg_of (xs : List Int) (n : Nat) (hn : xs.length = n) (hn4 : n ≤ 4) (b : Bool) (hb : xs.all regB = b) (W : World) (G : Nat) (hG : W.heap.size = G) :
    Calls Try.prog 141 #[.slice (some ⟨G, 0, none⟩) n n] (W.alloc (.cells (xs.map (Value.int .i64)).toArray 3)) fun e w' => e = .returned (.bool b) ∧ (W.alloc (.cells (xs.map (Value.int .i64)).toArray 3)) = w' := by
  subst hG
  rw [← hb]
  have hown : (W.alloc (.cells (xs.map (Value.int .i64)).toArray 3)).ownsRow W.heap.size 3 1 (.slice (some ⟨W.heap.size, 0, none⟩) n n) n (xs.map (Value.int .i64)) := World.ownsRow_lit W (xs.map (Value.int .i64)).toArray n (Nat.le_refl _) (by unfold maxLen; omega) (by simp [hn])
  refine codeReg_any _ n xs hn hn4 _ fun j a hj => ?_
  have hlt : j < n * 1 := by have := (List.getElem?_eq_some_iff.1 hj).1; omega
  rw [World.ownsRow.cellAt hown j hlt, List.getElem?_map, hj]; rfl
theorem creg1 (a : Int) (b : Bool) (hb : regB a = b) (W : World) (G : Nat) (hG : W.heap.size = G) :
    Calls Try.prog 141 #[.slice (some ⟨G, 0, none⟩) 1 1] (W.alloc (.cells #[.int .i64 a] 3)) fun e w' => e = .returned (.bool b) ∧ (W.alloc (.cells #[.int .i64 a] 3)) = w' :=
  creg_of [a] 1 rfl (by decide) b (by simp [hb]) W G hG
theorem creg2 (a1 a2 : Int) (b : Bool) (hb : (regB a1 && regB a2) = b) (W : World) (G : Nat) (hG : W.heap.size = G) :
    Calls Try.prog 141 #[.slice (some ⟨G, 0, none⟩) 2 2] (W.alloc (.cells #[.int .i64 a1, .int .i64 a2] 3)) fun e w' => e = .returned (.bool b) ∧ (W.alloc (.cells #[.int .i64 a1, .int .i64 a2] 3)) = w' :=
  creg_of [a1, a2] 2 rfl (by decide) b (by simp [← hb]) W G hG
theorem creg3 (a1 a2 a3 : Int) (b : Bool) (hb : (regB a1 && regB a2 && regB a3) = b) (W : World) (G : Nat) (hG : W.heap.size = G) :
    Calls Try.prog 141 #[.slice (some ⟨G, 0, none⟩) 3 3] (W.alloc (.cells #[.int .i64 a1, .int .i64 a2, .int .i64 a3] 3)) fun e w' => e = .returned (.bool b) ∧ (W.alloc (.cells #[.int .i64 a1, .int .i64 a2, .int .i64 a3] 3)) = w' :=
  creg_of [a1, a2, a3] 3 rfl (by decide) b (by simp [← hb, Bool.and_assoc]) W G hG

set_option maxHeartbeats 4000000 in
theorem cright_any (op a b c : Int) (tree : ByteArray) (hx : (⟨op, a, b, c, tree⟩ : Ins).wf) (i n : Nat) (hi : i < n) (hn : n ≤ 4000) (w : World) :
    Calls Try.prog 121 #[.agg #[.int .i64 op, .int .i64 a, .int .i64 b, .int .i64 c, .string tree], .int .i64 i, .int .i64 n] w fun e w' => e = .returned (.bool (rightB ⟨op, a, b, c, tree⟩ i n)) ∧ Below w.heap.size w w' := by
  obtain ⟨w1, w2, w3, w4, w5⟩ := hx
  simp only at w1 w2 w3 w4 w5
  obtain ⟨r, hr⟩ : ∃ r, rightB ⟨op, a, b, c, tree⟩ i n = r := ⟨_, rfl⟩
  rw [hr]
  unfold i64 at w1 w2 w3 w4
  unfold rightB at hr
  simp only at hr
  have hb0 := (Below.refl w.heap.size w).alloc (Nat.le_refl _) (.cells #[.int .i64 op, .int .i64 a, .int .i64 b, .int .i64 c, .string tree] 52)
  by_cases o0 : op = 0
  · subst o0
    have kv := codeValid_at tree _ w5 rfl
    simp only [show ((0 : Int) == 0) = true from rfl, show ((0 : Int) == 2) = false from rfl, Bool.true_or, Bool.and_true, Bool.false_or, if_pos] at hr
    cases hc : (c == 0) with
    | false =>
      have hc' : (c != 0) = true := by show (!(c == 0)) = true; rw [hc]; rfl
      rw [hc] at hr
      simp only [Bool.and_false, Bool.false_and] at hr
      subst hr
      go_enter Try.func121, Try.ntmps121
      go_wp2_with fail
      go_ret
      exact ⟨rfl, hb0⟩
    | true =>
      have hc' : (c != 0) = false := by show (!(c == 0)) = false; rw [hc]; rfl
      rw [hc] at hr
      simp only [Bool.and_true] at hr
      have hb1 := hb0.alloc hb0.size (.cells #[.int .i64 a] 3)
      cases hra : regB a <;> cases hb : (b == 0) <;> rw [hra, hb] at hr <;> simp only [Bool.false_and, Bool.true_and] at hr <;> subst hr
      all_goals
        have ka := creg1 a _ hra
        go_enter Try.func121, Try.ntmps121
        go_wp2_with fail
        refine (ka _ _ (by first | rfl | simp)).mono ?_
        rintro e w' ⟨rfl, rfl⟩
        go_wp2_with fail
        first
        | (refine (kv _).mono ?_
           rintro e w2 ⟨rfl, k2⟩
           have c2 := hb1.trans (k2.mono hb1.size)
           go_wp2_with fail
           go_ret
           exact ⟨rfl, c2⟩)
        | (go_ret
           exact ⟨rfl, hb1⟩)
  · have o0' : (op == 0) = false := by simpa using o0
    have o0n : (op != 0) = true := by simpa using o0
    rw [o0', if_neg o0] at hr
    simp only [Bool.false_or] at hr
    cases he : tree.toList.isEmpty with
    | false =>
      rw [he] at hr
      simp only [Bool.false_and, Bool.and_false] at hr
      subst hr
      have hen : (!tree.toList.isEmpty) = true := by rw [he]; rfl
      go_enter Try.func121, Try.ntmps121
      go_wp2_with fail
      go_ret
      exact ⟨rfl, hb0⟩
    | true =>
      have hen : (!tree.toList.isEmpty) = false := by rw [he]; rfl
      rw [he] at hr
      simp only [Bool.and_true] at hr
      by_cases o2 : op = 2
      · subst o2
        rw [if_neg (by decide), if_pos rfl] at hr
        simp only [show ((2 : Int) == 2) = true from rfl, Bool.true_or, Bool.and_true] at hr
        have ka := creg3 a b c r (by rw [← hr, Bool.and_assoc])
        have hb1 := hb0.alloc hb0.size (.cells #[.int .i64 a, .int .i64 b, .int .i64 c] 3)
        clear hr
        go_enter Try.func121, Try.ntmps121
        go_wp2_with fail
        refine (ka _ _ (by first | rfl | simp)).mono ?_
        rintro e w' ⟨rfl, rfl⟩
        go_wp2_with fail
        go_ret
        exact ⟨rfl, hb1⟩
      · have o2' : (op == 2) = false := by simpa using o2
        have o2n : (op != 2) = true := by simpa using o2
        rw [o2'] at hr
        simp only [Bool.false_or] at hr
        cases hc : (c == 0) with
        | false =>
          have hc' : (c != 0) = true := by show (!(c == 0)) = true; rw [hc]; rfl
          rw [hc] at hr
          simp only [Bool.false_and, Bool.and_false] at hr
          subst hr
          go_enter Try.func121, Try.ntmps121
          go_wp2_with fail
          go_ret
          exact ⟨rfl, hb0⟩
        | true =>
          have hc' : (c != 0) = false := by show (!(c == 0)) = false; rw [hc]; rfl
          rw [hc] at hr
          simp only [Bool.and_true] at hr
          by_cases o134 : op = 1 ∨ op = 3 ∨ op = 4
          · rw [if_pos o134] at hr
            have ka := creg2 a b _ hr
            have hb1 := hb0.alloc hb0.size (.cells #[.int .i64 a, .int .i64 b] 3)
            rcases o134 with rfl | rfl | rfl
            all_goals
              go_enter Try.func121, Try.ntmps121
              go_wp2_with fail
              refine (ka _ _ (by first | rfl | simp)).mono ?_
              rintro e w' ⟨rfl, rfl⟩
              go_wp2_with fail
              go_ret
              exact ⟨rfl, hb1⟩
          · rw [if_neg o134, if_neg o2] at hr
            have hb1 := hb0.alloc hb0.size (.cells #[.int .i64 a] 3)
            by_cases o5 : op = 5
            · subst o5
              rw [if_pos rfl] at hr
              have hiI : (i : Int) < n := by omega
              have hnI : (n : Int) ≤ 4000 := by omega
              have hi0 : (0 : Int) ≤ (i : Int) := Int.natCast_nonneg _
              cases hra : regB a <;> cases d1 : decide (-(i : Int) ≤ b) <;> cases d2 : decide (b ≤ (n : Int) - i) <;> rw [hra, d1, d2] at hr
              all_goals
                simp only [Bool.and_self, Bool.and_false, Bool.and_true] at hr
                subst hr
                have ka := creg1 a _ hra
                clear w5 hi hn
                go_enter Try.func121, Try.ntmps121
                go_wp2_with fail
                refine (ka _ _ (by first | rfl | simp)).mono ?_
                rintro e w' ⟨rfl, rfl⟩
                go_wp2_with fail
                go_ret
                exact ⟨rfl, hb1⟩
            · rw [if_neg o5] at hr
              have o1' : (op == 1) = false := by simp; omega
              have o3' : (op == 3) = false := by simp; omega
              have o4' : (op == 4) = false := by simp; omega
              have o5' : (op == 5) = false := by simp; omega
              simp only [Bool.and_false] at hr
              subst hr
              go_enter Try.func121, Try.ntmps121
              go_wp2_with fail
              go_ret
              exact ⟨rfl, hb0⟩

end Go.Proofs.Ytaiomcjopgnfpaa

namespace Go.Proofs.Ytaiomcjopgnfpaa
open Go.RowKit

set_option maxHeartbeats 2000000 in
theorem codeValidP_any (v : Value) (l : List Ins) (w : World) (hl : InsRow w w.heap.size v l) :
    Calls Try.prog 92 #[v] w fun e w' => e = .returned (.bool (validB l)) ∧ Below w.heap.size w w' := by
  obtain ⟨r, hr⟩ : ∃ r, validB l = r := ⟨_, rfl⟩
  rw [hr]
  have hb0 := hl.2.1
  by_cases h4 : 4000 < l.length
  · rw [validB_long l h4] at hr
    subst hr
    obtain ⟨ao, cap, rfl⟩ := hl.len
    obtain ⟨n, hn'⟩ : ∃ n, l.length = n := ⟨_, rfl⟩
    rw [hn'] at h4 hb0 ⊢
    clear hl hn'
    go_enter Try.func92, Try.ntmps92
    go_wp2
    go_ret
    exact ⟨rfl, Below.refl _ _⟩
  · have hlarge := Lib.hid (validB_large l)
    have heq := Lib.hid (validB_eq l (by omega))
    have htake := Lib.hid (trees_take l)
    have hrf : Hid (∀ (i : Nat) (x : Ins), l[i]? = some x → rightB x i l.length = false → validB l = false) := fun i x hx hb => by
      unfold validB; rw [rightAll_false hx hb]; simp
    obtain ⟨ao, cap, rfl⟩ := hl.len
    obtain ⟨n, hn'⟩ : ∃ n, l.length = n := ⟨_, rfl⟩
    rw [hn'] at h4 hb0 hl hrf ⊢
    have HN := Lib.hid hn'; clear hn'
    have HR := Lib.hid hr; clear hr
    have h4I : (n : Int) ≤ 4000 := by omega
    go_enter Try.func92, Try.ntmps92
    go_wp2
    go_loopg [3, 11] n (fun g s i wr => ∃ k m : Nat, k ≤ n ∧ g = n - k ∧ i = .int .i64 k ∧ s = .int .i64 m ∧ m ≤ 2000000 ∧ Aside (m = trees (l.take k)) ∧ Aside (rightTo l k) ∧ Below w.heap.size w wr)
    case atStart => exact ⟨0, 0, Nat.zero_le _, rfl, rfl, rfl, by omega, rfl, (fun j x hj => absurd hj (Nat.not_lt_zero _)), Below.refl _ _⟩
    case round =>
      obtain ⟨k, m, hk, hg, rfl, rfl, hm, hs, hv, hbw⟩ := hrel
      have HG := Lib.hid hg; clear hg
      by_cases hlt : k < n
      · obtain ⟨x, hx⟩ : ∃ s, l[k]? = some s := ⟨_, List.getElem?_eq_getElem (by rw [HN.out]; exact hlt)⟩
        have hl2 := hl.below hbw
        obtain ⟨g, off, rfl, hg, c0, c1, c2, c3, c4⟩ := hl2.get hx
        have hwf := hl.wf hx
        have HX := Lib.hid hx; clear hx
        have kr := fun w => cright_any x.op x.a x.b x.c x.tree hwf k n hlt (by omega) w
        obtain ⟨q, hq⟩ : ∃ q, rightB x k n = q := ⟨_, rfl⟩
        rw [show rightB ⟨x.op, x.a, x.b, x.c, x.tree⟩ k n = q from hq] at kr
        have HQ := Lib.hid hq
        have hz := hwf.2.2.2.2
        clear hq hwf hl2
        have hi0 : (0 : Int) ≤ (k : Int) := Int.natCast_nonneg _
        have hi1 : (k : Int) < (n : Int) := by omega
        have hsn : Hid (trees (l.take (k + 1)) = m + x.tree.size) := by show _ = _; rw [take_snoc' _ _ _ HX.out, trees_snoc, ← hs.out]
        have hmI : (m : Int) ≤ 2000000 := by omega
        have hb1 := hbw.alloc hbw.size (.cells #[.int .i64 x.op, .int .i64 x.a, .int .i64 x.b, .int .i64 x.c, .string x.tree] 52)
        by_cases hz1 : x.tree.size ≤ 2000001
        · have hzI : (x.tree.size : Int) ≤ 2000001 := by omega
          by_cases hz2 : m + x.tree.size ≤ 2000000
          · have hz2I : (m : Int) + x.tree.size ≤ 2000000 := by omega
            cases q with
            | true =>
              go_wp2_with fail
              refine (kr _).mono ?_
              rintro e w' ⟨rfl, k2⟩
              have c2 := hb1.trans (k2.mono hb1.size)
              clear k2
              go_wp2
              go_roundg (n - (k + 1))
              case measure => rw [HG.out]; omega
              case rel => exact ⟨k + 1, m + x.tree.size, by omega, rfl, by go_num, by go_num, hz2, hsn.out.symm, rightTo_snoc hv.out HX.out (by rw [HN.out]; exact HQ.out), c2⟩
            | false =>
              go_wp2_with fail
              refine (kr _).mono ?_
              rintro e w' ⟨rfl, k2⟩
              have c2 := hb1.trans (k2.mono hb1.size)
              clear k2
              have hf : Hid (r = false) := HR.out.symm.trans (hrf.out _ _ HX.out HQ.out)
              go_wp2
              go_ret
              exact ⟨by rw [hf.out]; rfl, c2⟩
          · have hz2I : ¬ (m : Int) + x.tree.size ≤ 2000000 := by omega
            have hf : Hid (r = false) := HR.out.symm.trans (hlarge.out (by have := htake.out (k + 1); rw [hsn.out] at this; omega))
            clear kr
            go_wp2
            go_ret
            exact ⟨by rw [hf.out]; rfl, hb1⟩
        · have hzI : ¬ (x.tree.size : Int) ≤ 2000001 := by omega
          have hf : Hid (r = false) := HR.out.symm.trans (hlarge.out (by have := htake.out (k + 1); rw [hsn.out] at this; omega))
          clear kr
          go_wp2
          go_ret
          exact ⟨by rw [hf.out]; rfl, hb1⟩
      · have hf : Hid (r = true) := HR.out.symm.trans ((heq.out (by have := hs.out; rw [List.take_of_length_le (by rw [HN.out]; omega)] at this; omega)).trans (rightTo_all hv.out (by rw [HN.out]; omega)))
        go_wp2
        go_ret
        exact ⟨by rw [hf.out]; rfl, hbw⟩

end Go.Proofs.Ytaiomcjopgnfpaa

namespace Go.Proofs.Ytaiomcjopgnfpaa
open Go.RowKit

theorem MachP.range {w : World} {B g : Nat} {l : List Ins} {s : St} {pv sv : Value} {ps : List Value} (h : MachP w B g l s pv sv ps) : w.rangeAt g 2 ps := by
  intro j v hj
  rw [(block_cells h.blk).1]
  unfold mcells
  rw [List.getElem?_toArray, show 2 + j = j + 1 + 1 by omega]
  simp only [List.getElem?_cons_succ]
  rw [List.getElem?_append_left (List.getElem?_eq_some_iff.1 hj).1, hj]

theorem run_index_ptr (w : World) (ps : List Value) (k : Nat) (hk : k < 32) (v : Value) (hv : ps[k]? = some v) :
    (Instr.index 101 (.agg ps.toArray) (.int .i64 (k : Nat))).run Try.prog w = .ok v w := by
  have hu : Try.prog.underlying 101 = some (.array 32 99) := Try.underlying101
  have hs : (Try.prog.info? 99).map (·.size) = some 1 := by kernel_rfl
  have hu2 : ∃ e, Try.prog.underlying 99 = some (.pointer e) := ⟨_, Try.underlying99⟩
  obtain ⟨e, hu2⟩ := hu2
  cases hq : Try.prog.info? 99 with
  | none => simp [hq] at hs
  | some i =>
    have hi : i.size = 1 := by simpa [hq] using hs
    have hag : ∀ w, (isAgg 99).run Try.prog w = .ok false w := fun w => by
      unfold isAgg; rw [Sem.run_bind, run_underlying hu2 w]; rfl
    have hk2 : (0 : Int) ≤ (k : Int) ∧ (k : Int) < 32 := by omega
    simp [Instr.index, asIntOf, Sem.run_bind, run_underlying hu, sizeOf, typeInfo, hq, hi, part, hag, hk2, hv, hk]

end Go.Proofs.Ytaiomcjopgnfpaa

namespace Go.Proofs.Ytaiomcjopgnfpaa
open Go.RowKit

theorem codeValidP_at (v : Value) (l : List Ins) (w : World) (hl : InsRow w w.heap.size v l) (b : Bool) (hb : validB l = b) :
    Calls Try.prog 92 #[v] w fun e w' => e = .returned (.bool b) ∧ Below w.heap.size w w' := by
  rw [← hb]; exact codeValidP_any v l w hl
theorem treeValid_at (s : ByteArray) (hs : s.size ≤ 140737488355328) (b : Bool) (hb : isTree s = b) (w : World) :
    Calls Try.prog 86 #[.string s] w fun e w' => e = .returned (.bool b) ∧ Below w.heap.size w w' := by
  rw [← hb]; exact treeValid_any s (by omega) w
theorem validB_len {l : List Ins} (h : validB l = true) : l.length ≤ 4000 := by
  unfold validB at h; simp only [Bool.and_eq_true, decide_eq_true_eq] at h; exact h.1.1
theorem validB_all {l : List Ins} (h : validB l = true) : rightAll l = true := by
  unfold validB at h; simp only [Bool.and_eq_true] at h; exact h.2

set_option maxHeartbeats 1000000 in
theorem begin_form (v : Value) (l : List Ins) (s : ByteArray) (k : Int) (w : World) (hl : InsRow w w.heap.size v l) (hs : s.size ≤ 140737488355328) (h : validB l = false ∨ isTree s = false) :
    Calls Try.prog 82 #[v, .string s, .int .i64 k] w fun e w' => e = .returned (.tuple #[.pointer none, .int .i64 1]) ∧ Below w.heap.size w w' := by
  cases hv : validB l with
  | false =>
    have kv := codeValidP_at v l w hl _ hv
    clear h hv
    obtain ⟨ao, cap, rfl⟩ := hl.len
    go_enter Try.func82, Try.ntmps82
    go_wp2_with fail
    refine kv.mono ?_
    rintro e w1 ⟨rfl, k1⟩
    go_wp2
    go_ret2
    exact ⟨rfl, k1⟩
  | true =>
    have ht : isTree s = false := by rcases h with h | h; rw [hv] at h; cases h; exact h
    have kv := codeValidP_at v l w hl _ hv
    have kt := treeValid_at s hs _ ht
    clear h hv
    obtain ⟨ao, cap, rfl⟩ := hl.len
    go_enter Try.func82, Try.ntmps82
    go_wp2_with fail
    refine kv.mono ?_
    rintro e w1 ⟨rfl, k1⟩
    go_wp2_with fail
    refine (kt _).mono ?_
    rintro e w2 ⟨rfl, k2⟩
    go_wp2
    go_ret2
    exact ⟨rfl, k1.trans (k2.mono k1.size)⟩

set_option maxHeartbeats 1000000 in
theorem begin_arg (v : Value) (l : List Ins) (s : ByteArray) (k : Int) (w : World) (hl : InsRow w w.heap.size v l) (hs : s.size ≤ 140737488355328) (hv : validB l = true) (ht : isTree s = true) (hk : k < 0 ∨ 10000000 < k) :
    Calls Try.prog 82 #[v, .string s, .int .i64 k] w fun e w' => e = .returned (.tuple #[.pointer none, .int .i64 2]) ∧ Below w.heap.size w w' := by
  have kv := codeValidP_at v l w hl _ hv
  have kt := treeValid_at s hs _ ht
  clear hv ht
  obtain ⟨ao, cap, rfl⟩ := hl.len
  rcases hk with hk | hk
  all_goals
    go_enter Try.func82, Try.ntmps82
    go_wp2_with fail
    refine kv.mono ?_
    rintro e w1 ⟨rfl, k1⟩
    go_wp2_with fail
    refine (kt _).mono ?_
    rintro e w2 ⟨rfl, k2⟩
    go_wp2
    go_ret2
    exact ⟨rfl, k1.trans (k2.mono k1.size)⟩

set_option maxHeartbeats 1000000 in
theorem begin_ok (v : Value) (l : List Ins) (t : Tr) (ht : t.size ≤ 2000000) (k : Int) (w : World) (hl : InsRow w w.heap.size v l) (hv : validB l = true) (hk0 : 0 ≤ k) (hk1 : k ≤ 10000000) :
    Calls Try.prog 82 #[v, .string (TS t), .int .i64 k] w fun e w' => ∃ B g sv ps, e = .returned (.tuple #[.pointer (some ⟨g, 0, none⟩), .int .i64 0]) ∧ MachP w' B g l (startS t) v sv ps ∧ w.heap.size ≤ B ∧ Below w.heap.size w w' := by
  have kv := codeValidP_at v l w hl _ hv
  have kt := treeValid_at (TS t) (by rw [TS_size]; omega) _ (isTree_TS t ht)
  have kp := fun w => parse_tr (TS t) (by rw [TS_size]; omega) w
  rw [toTr_TS t ht, isTree_TS t ht] at kp
  have h4 := validB_len hv
  have kn := fun x w' (h : InsRow w' w'.heap.size v l) (hx : NodeP 135 w' t x) => newMachine_any v l t x w' h h4 hx
  have hl0 := hl
  obtain ⟨ao, cap, rfl⟩ := hl.len
  clear hv ht h4
  generalize TS t = S at *
  go_enter Try.func82, Try.ntmps82
  go_wp2_with fail
  refine kv.mono ?_
  rintro e w1 ⟨rfl, k1⟩
  go_wp2_with fail
  refine (kt _).mono ?_
  rintro e w2 ⟨rfl, k2⟩
  have c2 := k1.trans (k2.mono k1.size)
  clear k1 k2
  go_wp2_with fail
  refine (kp _).mono ?_
  rintro e w3 ⟨p, rfl, k3, hn⟩
  have c3 := c2.trans (k3.mono c2.size)
  have hl3 := (hl0.below c3).mono c3.size
  clear c2 k3
  go_wp2_with fail
  refine (kn _ _ hl3 hn).mono ?_
  rintro e w4 ⟨g, sv, ps, rfl, hm, k4⟩
  have c4 := c3.trans (k4.mono c3.size)
  go_wp2
  go_ret2
  exact ⟨_, _, _, _, rfl, hm, c3.size, c4⟩

end Go.Proofs.Ytaiomcjopgnfpaa

namespace Go.Proofs.Ytaiomcjopgnfpaa
open Go.RowKit

/-- A row of nil pointers. -/
def nilsA (n : Nat) : Array Value := (List.replicate n (.pointer none)).toArray
theorem madeCells_nils (n : Nat) : madeCells (Value.pointer none).cells n = nilsA n := by
  apply Array.ext
  · simp [nilsA, size_madeCells]
  · intro i h1 h2
    simp [madeCells, nilsA, Value.cells, Nat.mod_one]
theorem own_nils {w : World} {e base n : Nat} (hn : n ≤ maxLen) (hb : base ≤ w.heap.size) : (w.alloc (.cells (nilsA n) e)).ownsRow base e 1 (.slice (some ⟨w.heap.size, 0, none⟩) n n) n (List.replicate n (.pointer none)) := by
  refine ⟨by simp, .inr ⟨w.heap.size, n, nilsA n, rfl, hb, heap_alloc_new w _, Nat.le_refl _, hn, by simp [nilsA], ?_⟩⟩
  simp [nilsA]
theorem make_rnodes (n : Nat) (hn : n ≤ 4000) (w : World) : (Instr.makeSlice 113 (.int .i64 (n : Nat)) (.int .i64 (n : Nat))).run Try.prog w = .ok (.slice (some ⟨w.heap.size, 0, none⟩) n n) (w.alloc (.cells (nilsA n) 63)) := by
  obtain ⟨i, hi, hz, hsize, hbytes⟩ := info_parts el_rnode.hi
  have h := run_make (P := Try.prog) w 113 63 i (.pointer none) el_rnode.ht hi hz .i64 .i64 n n (by omega) (by omega) (by rw [hbytes]; omega) (by omega)
  rw [h, hsize]
  simp only [Int.toNat_natCast, Nat.mul_one, madeCells_nils]

set_option maxHeartbeats 1000000 in
theorem rfirst_any (t : Tr) (x : Value) (w : World) (hx : NodeP 69 w t x) :
    Calls Try.prog 128 #[x] w fun e w' => ∃ gs ps, e = .returned (.pointer (some ⟨gs, 0, none⟩)) ∧ RStP w' w.heap.size gs (startS t) (.slice (some ⟨w.heap.size, 0, none⟩) 32 32) ps ∧ Below w.heap.size w w' := by
  obtain ⟨q, rfl⟩ := hx.ptr
  have hmk : ∀ w : World, (Instr.makeSlice 113 (.int .i64 32) (.int .i64 32)).run Try.prog w = .ok (.slice (some ⟨w.heap.size, 0, none⟩) 32 32) (w.alloc (.cells (nilsA 32) 63)) := fun w => make_rnodes 32 (by omega) w
  have hnew : RStP (((w.alloc (.cells (nilsA 32) 63)).alloc (.cells #[.int .i64 0, .slice (some ⟨w.heap.size, 0, none⟩) 32 32] 121)).setCell ⟨w.heap.size, 0, none⟩ (.pointer q)) w.heap.size (w.heap.size + 1) (startS t) (.slice (some ⟨w.heap.size, 0, none⟩) 32 32) (.pointer q :: List.replicate 31 (.pointer none)) ∧ Below w.heap.size w (((w.alloc (.cells (nilsA 32) 63)).alloc (.cells #[.int .i64 0, .slice (some ⟨w.heap.size, 0, none⟩) 32 32] 121)).setCell ⟨w.heap.size, 0, none⟩ (.pointer q)) := by
    have hb0 : Below w.heap.size w ((w.alloc (.cells (nilsA 32) 63)).alloc (.cells #[.int .i64 0, .slice (some ⟨w.heap.size, 0, none⟩) 32 32] 121)) := ((Below.refl _ w).alloc (Nat.le_refl _) _).alloc (by simp) _
    have h1 := heap_alloc_new (w.alloc (.cells (nilsA 32) 63)) (.cells #[.int .i64 0, .slice (some ⟨w.heap.size, 0, none⟩) 32 32] 121)
    rw [World.size_alloc] at h1
    have h2 : ((w.alloc (.cells (nilsA 32) 63)).alloc (.cells #[.int .i64 0, .slice (some ⟨w.heap.size, 0, none⟩) 32 32] 121)).heap[w.heap.size]? = some (.cells (nilsA 32) 63 (0, 0)) := (Below.heap_alloc _ _ _ (by simp)).trans (heap_alloc_new w _)
    have ho := own_below (own_nils (w := w) (e := 63) (base := w.heap.size) (n := 32) (by unfold maxLen; omega) (Nat.le_refl _)) ((Below.refl _ (w.alloc (.cells (nilsA 32) 63))).alloc (Nat.le_refl _) (.cells #[.int .i64 0, .slice (some ⟨w.heap.size, 0, none⟩) 32 32] 121))
    have hK := (Kept.refl 69 ((w.alloc (.cells (nilsA 32) 63)).alloc (.cells #[.int .i64 0, .slice (some ⟨w.heap.size, 0, none⟩) 32 32] 121))).setCell h2 (by decide) (.pointer q) (a := ⟨w.heap.size, 0, none⟩)
    refine ⟨⟨(Below.heap_setCell _ _ _ _ (by show w.heap.size + 1 ≠ w.heap.size; omega)).trans h1, by omega, ⟨(hx.kept (Kept.below hb0)).kept hK, Nodes.nils 31⟩, own_set ho 0 _⟩, hb0.setCell (p := ⟨w.heap.size, 0, none⟩) (Nat.le_refl _) _⟩
  have HNEW := Lib.hid hnew
  have c0 : ((w.alloc (.cells (nilsA 32) 63)).alloc (.cells #[.int .i64 0, .slice (some ⟨w.heap.size, 0, none⟩) 32 32] 121)).cell? ⟨w.heap.size, 0, none⟩ = some (.pointer none) := by
    have h2 : ((w.alloc (.cells (nilsA 32) 63)).alloc (.cells #[.int .i64 0, .slice (some ⟨w.heap.size, 0, none⟩) 32 32] 121)).heap[w.heap.size]? = some (.cells (nilsA 32) 63 (0, 0)) := (Below.heap_alloc _ _ _ (by simp)).trans (heap_alloc_new w _)
    rw [(block_cells h2).1]; rfl
  have f0 : ((w.alloc (.cells (nilsA 32) 63)).alloc (.cells #[.int .i64 0, .slice (some ⟨w.heap.size, 0, none⟩) 32 32] 121)).frozen? ⟨w.heap.size, 0, none⟩ = false := by
    have h2 : ((w.alloc (.cells (nilsA 32) 63)).alloc (.cells #[.int .i64 0, .slice (some ⟨w.heap.size, 0, none⟩) 32 32] 121)).heap[w.heap.size]? = some (.cells (nilsA 32) 63 (0, 0)) := (Below.heap_alloc _ _ _ (by simp)).trans (heap_alloc_new w _)
    exact (block_cells h2).2 0
  clear hnew hx
  go_enter Try.func128, Try.ntmps128
  go_wp2
  go_ret
  have hn := HNEW.out
  rw [World.setCell_alloc_past _ _ _ _ (by simp), World.setCell_alloc_at _ _ _ _ _ rfl] at hn
  exact ⟨_, _, rfl, hn⟩

theorem Els.drew {g : Nat} {w w' : World} (h : Els g w w') : Els g w w'.drew := h.trans (Els.of_below (Below.refl _ _).drew)
/-- The trees of the first k instructions are read. -/
def setsK (l : List Ins) (k : Nat) : List Tr := ((l.take k).map fun x => toTr x.tree) ++ List.replicate (l.length - k) .nil
theorem setsK_succ (l : List Ins) (k : Nat) {x : Ins} (hx : l[k]? = some x) : (setsK l k).set k (toTr x.tree) = setsK l (k + 1) := by
  unfold setsK
  have hkl : k < l.length := (List.getElem?_eq_some_iff.1 hx).1
  have h1 : ((l.take k).map fun x => toTr x.tree).length = k := by simp; omega
  rw [take_snoc' _ _ _ hx, List.map_append, List.set_append_right _ _ (by omega), h1, Nat.sub_self, show l.length - k = (l.length - (k + 1)) + 1 by omega, List.replicate_succ, List.set_cons_zero, List.append_assoc]
  rfl
theorem setsK_none (l : List Ins) (k : Nat) {x : Ins} (hx : l[k]? = some x) (h0 : toTr x.tree = .nil) : setsK l k = setsK l (k + 1) := by
  unfold setsK
  have hkl : k < l.length := (List.getElem?_eq_some_iff.1 hx).1
  rw [take_snoc' _ _ _ hx, List.map_append, show l.length - k = (l.length - (k + 1)) + 1 by omega, List.replicate_succ, List.append_assoc]
  simp only [List.map_cons, List.map_nil, h0]
  rfl
theorem setsK_all (l : List Ins) : setsK l l.length = l.map fun x => toTr x.tree := by unfold setsK; rw [List.take_of_length_le (Nat.le_refl _)]; simp
theorem setsK_length (l : List Ins) (k : Nat) (hk : k ≤ l.length) : (setsK l k).length = l.length := by unfold setsK; simp; omega

/-- A machine of the reference that is being made. -/
structure LoadP (w : World) (l : List Ins) (pv : Value) (n k : Nat) (wr : World) : Prop where
  blk : wr.heap[w.heap.size + 1]? = some (.cells #[pv, .slice (some ⟨w.heap.size, 0, none⟩) n n] 115 (0, 0))
  row : ∃ xs, Nodes 69 wr (setsK l k) xs ∧ wr.ownsRow w.heap.size 63 1 (.slice (some ⟨w.heap.size, 0, none⟩) n n) n xs
  b : Below w.heap.size w wr
theorem LoadP.below {w : World} {l : List Ins} {pv : Value} {n k : Nat} {A B : World} (h : LoadP w l pv n k A) (hb : Below A.heap.size A B) : LoadP w l pv n k B := by
  obtain ⟨xs, h1, h2⟩ := h.row
  exact ⟨(hb.block _ (Array.getElem?_eq_some_iff.1 h.blk).1).trans h.blk, ⟨xs, h1.kept (Kept.below hb), own_below h2 hb⟩, h.b.trans (hb.mono h.b.size)⟩
theorem LoadP.rowblk {w : World} {l : List Ins} {pv : Value} {n k : Nat} {A : World} (h : LoadP w l pv n k A) : ∃ cur, A.heap[w.heap.size]? = some (.cells cur 63 (0, 0)) := by
  obtain ⟨xs, h1, h2⟩ := h.row
  rcases h2.2 with ⟨h0, _⟩ | ⟨g', cap', cur, hv, _, hg, _⟩
  · cases h0
  · simp only [Value.slice.injEq, Option.some.injEq, Addr.mk.injEq] at hv
    obtain ⟨⟨rfl, -, -⟩, -, -⟩ := hv
    exact ⟨cur, hg⟩
theorem LoadP.cellK {w : World} {l : List Ins} {pv : Value} {n k : Nat} {A : World} (h : LoadP w l pv n k A) (j : Nat) (hj : j < n) : (∃ q, A.cell? ⟨w.heap.size, j, none⟩ = some (.pointer q)) ∧ A.frozen? ⟨w.heap.size, j, none⟩ = false := by
  obtain ⟨xs, h1, h2⟩ := h.row
  have hl : xs.length = n := by have := h2.1; simpa using this
  have hx : xs[j]? = some xs[j] := List.getElem?_eq_getElem (by omega)
  have hn : j < (setsK l k).length := by rw [← h1.length]; omega
  obtain ⟨v, hv, hnv⟩ := h1.get (List.getElem?_eq_getElem hn)
  obtain ⟨q, rfl⟩ := hnv.ptr
  exact ⟨⟨q, by rw [World.ownsRow.cellAt h2 j (by omega), hv]⟩, World.ownsRow.frozenAt h2 j⟩
theorem LoadP.set {w : World} {l : List Ins} {pv : Value} {n k : Nat} {A : World} (h : LoadP w l pv n k A) {x : Ins} (hx : l[k]? = some x) {q : Option Addr} (hq : NodeP 69 A (toTr x.tree) (.pointer q)) : LoadP w l pv n (k + 1) (A.setCell ⟨w.heap.size, k, none⟩ (.pointer q)) := by
  obtain ⟨cur, hcur⟩ := h.rowblk
  obtain ⟨xs, h1, h2⟩ := h.row
  have hK := (Kept.refl 69 A).setCell hcur (by decide) (.pointer q) (a := ⟨w.heap.size, k, none⟩)
  refine ⟨(Below.heap_setCell _ _ _ _ (by show w.heap.size + 1 ≠ w.heap.size; omega)).trans h.blk, ⟨_, ?_, own_set h2 k _⟩, h.b.setCell (p := ⟨w.heap.size, k, none⟩) (Nat.le_refl _) _⟩
  rw [← setsK_succ l k hx]
  exact (h1.set k hq).kept hK
theorem LoadP.skip {w : World} {l : List Ins} {pv : Value} {n k : Nat} {A : World} (h : LoadP w l pv n k A) {x : Ins} (hx : l[k]? = some x) (h0 : toTr x.tree = .nil) : LoadP w l pv n (k + 1) A :=
  ⟨h.blk, by rw [← setsK_none l k hx h0]; exact h.row, h.b⟩

set_option maxRecDepth 20000 in
set_option maxHeartbeats 4000000 in
theorem load_any (v : Value) (l : List Ins) (w : World) (hl : InsRow w w.heap.size v l) (hv : validB l = true) :
    Calls Try.prog 55 #[v] w fun e w' => ∃ gm tv, e = .returned (.pointer (some ⟨gm, 0, none⟩)) ∧ RMachP w' w'.heap.size gm l v tv ∧ Below w.heap.size w w' := by
  have hn4 := validB_len hv
  have HV := Lib.hid (validB_all hv)
  obtain ⟨ao, cap, rfl⟩ := hl.len
  obtain ⟨n, hn'⟩ : ∃ n, l.length = n := ⟨_, rfl⟩
  rw [hn'] at hl hn4 ⊢
  have HN := Lib.hid hn'; clear hn' hv
  have hmk := fun w => make_rnodes n hn4 w
  have hs0 : LoadP w l (.slice ao n cap) n 0 ((w.alloc (.cells (nilsA n) 63)).alloc (.cells #[.slice ao n cap, .slice (some ⟨w.heap.size, 0, none⟩) n n] 115)) := by
    have h1 := heap_alloc_new (w.alloc (.cells (nilsA n) 63)) (.cells #[.slice ao n cap, .slice (some ⟨w.heap.size, 0, none⟩) n n] 115)
    rw [World.size_alloc] at h1
    refine ⟨h1, ⟨List.replicate n (.pointer none), ?_, ?_⟩, ((Below.refl _ w).alloc (Nat.le_refl _) _).alloc (by simp) _⟩
    · have : setsK l 0 = List.replicate n .nil := by unfold setsK; simp [HN.out]
      rw [this]; exact Nodes.nils n
    · exact own_below (own_nils (by unfold maxLen; omega) (Nat.le_refl _)) ((Below.refl _ _).alloc (Nat.le_refl _) _)
  have HS := Lib.hid hs0
  clear hs0
  go_enter Try.func55, Try.ntmps55
  go_wp2
  clear hmk
  go_loopg [4] n (fun gg i wr => ∃ k : Nat, k ≤ n ∧ gg = n - k ∧ i = .int .i64 k ∧ Hid (LoadP w l (.slice ao n cap) n k wr))
  case atStart => exact ⟨0, by omega, rfl, rfl, HS.out⟩
  case round =>
    obtain ⟨k, hk, hgg, rfl, hlp⟩ := hrel
    have HGG := Lib.hid hgg
    clear hgg HS
    have hbw := hlp.out.b
    have HBW := Lib.hid hbw
    have hgl : w.heap.size + 1 < wr.heap.size := (Array.getElem?_eq_some_iff.1 hlp.out.blk).1
    by_cases hlt : k < n
    · obtain ⟨y, hy⟩ : ∃ s, l[k]? = some s := ⟨_, List.getElem?_eq_getElem (by rw [HN.out]; exact hlt)⟩
      have hl2 := hl.below hbw
      obtain ⟨pg, off, rfl, hpg, p0, p1, p2, p3, p4⟩ := hl2.get hy
      have hr := rightAll_get HV.out hy
      have HY := Lib.hid hy
      have hi0 : (0 : Int) ≤ (k : Int) := Int.natCast_nonneg _
      have hi1 : (k : Int) < (n : Int) := by omega
      clear hy hl2 hbw p1 p2 p3
      by_cases ho : y.op = 0
      · have hop : (y.op == 0) = true := by rw [ho]; rfl
        have ht : isTree y.tree = true := by
          unfold rightB at hr
          rw [if_pos ho] at hr
          simp only [Bool.and_eq_true] at hr
          exact hr.2.2
        have kr : ∀ w', Calls Try.prog 50 #[.string y.tree] w' fun e w'' => ∃ p, e = .returned (.pointer p) ∧ Hid (NodeP 69 w'' (toTr y.tree) (.pointer p)) ∧ Below w'.heap.size w' w'' := fun w' => by
          have := read_ok (toTr y.tree) (toTr_size _) w'
          rwa [TS_toTr ht] at this
        have c1 := (block_cells hlp.out.blk).1 1
        simp only [List.getElem?_toArray, List.getElem?_cons_zero, List.getElem?_cons_succ] at c1
        have keep : ∀ w', Els w.heap.size wr w' → w'.cell? ⟨w.heap.size + 1, 1, none⟩ = some (.slice (some ⟨w.heap.size, 0, none⟩) n n) ∧ w'.cell? ⟨pg, off + k * 5 + 4, none⟩ = some (.string y.tree) := fun w' hE =>
          ⟨(World.cell?_of_block (hE.block (w.heap.size + 1) hgl (by omega))).trans c1, (World.cell?_of_block (hE.block pg (by omega) (by omega))).trans p4⟩
        clear hr ht ho
        go_wp2
        go_region_held3 (fun w' => w'.cell? ⟨w.heap.size + 1, 1, none⟩ = some (.slice (some ⟨w.heap.size, 0, none⟩) n n) ∧ w'.cell? ⟨pg, off + k * 5 + 4, none⟩ = some (.string y.tree))
          (with_reducible (first | exact keep _ hels | exact keep _ (hels.set _ _) | exact keep _ (hels.set _ _).drew | exact keep _ (Els.refl _ _) | exact keep _ (Els.refl _ _).drew))
          (((with_reducible refine (kr _).mono ?_); rintro e w2 ⟨p, rfl, hnp, hb2⟩; have hb2' : Below wr.heap.size wr w2 := (below_of_drew hb2); have hels : Els w.heap.size wr w2 := Els.of_below hb2'; obtain ⟨⟨qk, ck⟩, fk⟩ := (hlp.out.below hb2').cellK k hlt))
        all_goals
          have hnew : Hid (LoadP w l (.slice (some ⟨pg, off, none⟩) n cap) n (k + 1) (w2.setCell ⟨w.heap.size, k, none⟩ (.pointer p))) := (hlp.out.below hb2').set HY.out hnp.out
          clear keep kr hnp hb2 hb2' hels ck fk c1 p4
          go_wp2
          go_roundg (n - (k + 1))
          case measure => rw [HGG.out]; omega
          case rel => exact ⟨k + 1, by omega, rfl, by go_num, (by first | exact hnew | exact hnew.out.below (Below.refl _ _).drew)⟩
      · have hop : (y.op == 0) = false := by rw [beq_eq_false_iff_ne]; exact ho
        have h0 : toTr y.tree = .nil := by
          unfold rightB at hr
          simp only [Bool.and_eq_true, Bool.or_eq_true, beq_iff_eq] at hr
          rcases hr.1.1.2 with h | h
          · exact absurd h ho
          · exact toTr_empty h
        have hnew : Hid (LoadP w l (.slice (some ⟨pg, off, none⟩) n cap) n (k + 1) wr) := hlp.out.skip HY.out h0
        clear hr ho h0
        go_wp2
        go_roundg (n - (k + 1))
        case measure => rw [HGG.out]; omega
        case rel => exact ⟨k + 1, by omega, rfl, by go_num, hnew⟩
    · have hkn : k = n := by omega
      subst hkn
      have hfin : Hid (RMachP wr wr.heap.size (w.heap.size + 1) l (.slice ao k cap) (.slice (some ⟨w.heap.size, 0, none⟩) k k)) := by
        obtain ⟨xs, h1, h2⟩ := hlp.out.row
        rw [show setsK l k = l.map fun x => toTr x.tree from by rw [← HN.out]; exact setsK_all l] at h1
        refine ⟨hlp.out.blk, hgl, (hl.below hbw).mono hbw.size, xs, w.heap.size, h1, by rw [HN.out]; exact h2, fun k' hk' => ?_⟩
        simp only [Value.ownBlock, Option.some.injEq] at hk'
        omega
      clear hbw
      go_wp2
      go_ret
      exact ⟨_, _, rfl, hfin.out, HBW.out⟩

end Go.Proofs.Ytaiomcjopgnfpaa

namespace Go.Proofs.Ytaiomcjopgnfpaa
open Go.RowKit

end Go.Proofs.Ytaiomcjopgnfpaa

namespace Go.Proofs.Ytaiomcjopgnfpaa
open Go.RowKit

/-- How a run goes: it ends, the fuel is used up, a step is too large. -/
inductive Res where
  | done (s : St) (n : Nat)
  | fuel (s : St) (n : Nat)
  | big
def goF (l : List Ins) : Nat → Nat → St → Res
  | f, n, s => if s.pos = l.length then .done s n else match f with
    | 0 => .fuel s n
    | f + 1 => match stepP l s with
      | none => .big
      | some s' => goF l f (n + 1) s'
theorem goF_done {l : List Ins} {f n : Nat} {s : St} (h : s.pos = l.length) : goF l f n s = .done s n := by unfold goF; rw [if_pos h]
theorem goF_zero {l : List Ins} {n : Nat} {s : St} (h : s.pos ≠ l.length) : goF l 0 n s = .fuel s n := by unfold goF; rw [if_neg h]
theorem goF_big {l : List Ins} {f n : Nat} {s : St} (h : s.pos ≠ l.length) (hs : stepP l s = none) : goF l (f + 1) n s = .big := by unfold goF; rw [if_neg h]; simp only [hs]
theorem goF_step {l : List Ins} {f n : Nat} {s s' : St} (h : s.pos ≠ l.length) (hs : stepP l s = some s') : goF l (f + 1) n s = goF l f (n + 1) s' := by
  conv => lhs; unfold goF
  rw [if_neg h]
  simp only [hs]
/-- The k-th state. -/
def stN (l : List Ins) (s : St) : Nat → St
  | 0 => s
  | k + 1 => (stepP l (stN l s k)).getD (stN l s k)
/-- k steps are done. -/
def Reach (l : List Ins) (s : St) (k : Nat) : Prop := ∀ j, j < k → (stN l s j).pos ≠ l.length ∧ stepP l (stN l s j) = some (stN l s (j + 1))
theorem Reach.zero (l : List Ins) (s : St) : Reach l s 0 := fun j h => by omega
theorem stN_succ {l : List Ins} {s s' : St} {k : Nat} (h : stepP l (stN l s k) = some s') : stN l s (k + 1) = s' := by simp [stN, h]
theorem Reach.succ {l : List Ins} {s s' : St} {k : Nat} (h : Reach l s k) (hp : (stN l s k).pos ≠ l.length) (hs : stepP l (stN l s k) = some s') : Reach l s (k + 1) := fun j hj => by
  by_cases e : j < k
  · exact h j e
  · obtain rfl : j = k := by omega
    exact ⟨hp, by rw [stN_succ hs]; exact hs⟩
theorem Reach.goF {l : List Ins} {s : St} : ∀ {k : Nat}, Reach l s k → ∀ f, k ≤ f → goF l f 0 s = Go.Proofs.Ytaiomcjopgnfpaa.goF l (f - k) k (stN l s k) := by
  intro k
  induction k with
  | zero => intro _ f _; rfl
  | succ k ih =>
    intro h f hf
    obtain ⟨h1, h2⟩ := h k (by omega)
    rw [ih (fun j hj => h j (by omega)) f (by omega), show f - k = (f - (k + 1)) + 1 by omega, goF_step h1 h2]
theorem Reach.good {l : List Ins} {s : St} (hv : rightAll l = true) (hg : Good l.length s) : ∀ {k : Nat}, Reach l s k → Good l.length (stN l s k) := by
  intro k
  induction k with
  | zero => intro _; exact hg
  | succ k ih => intro h; exact (ih (fun j hj => h j (by omega))).step hv (h k (by omega)).2
/-- What Run hands back. -/
def Res.run : Res → ByteArray × Nat × Int
  | .done s n => (TS (getR s.regs 0), n, 0)
  | .fuel _ _ => (⟨#[]⟩, 0, 7)
  | .big => (⟨#[]⟩, 0, 3)

end Go.Proofs.Ytaiomcjopgnfpaa


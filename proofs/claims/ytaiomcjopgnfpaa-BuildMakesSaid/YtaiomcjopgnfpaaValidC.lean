/- The walks of narcissusref02.Valid, code.reg, code.right and code.Valid. -/
import Derived.Test.YtaiomcjopgnfpaaRight
namespace Go.Proofs.Ytaiomcjopgnfpaa
open Go.RowKit

/-- The first instructions are right where they stand. -/
def rightTo (l : List Ins) (k : Nat) : Prop := ∀ j x, j < k → l[j]? = some x → rightB x j l.length = true
theorem rightTo_all {l : List Ins} {k : Nat} (h : rightTo l k) (hk : l.length ≤ k) : rightAll l = true := by
  refine List.all_eq_true.2 fun i hi => ?_
  have hi := List.mem_range.1 hi
  rw [List.getElem?_eq_getElem hi]
  exact h i _ (by omega) (List.getElem?_eq_getElem hi)
theorem rightTo_snoc {l : List Ins} {k : Nat} {x : Ins} (h : rightTo l k) (hx : l[k]? = some x) (hr : rightB x k l.length = true) : rightTo l (k + 1) := by
  intro j y hj hy
  by_cases h1 : j = k
  · subst h1; rw [hx] at hy; cases hy; exact hr
  · exact h j y (by omega) hy
theorem validB_eq (l : List Ins) (h : l.length ≤ 4000) (h2 : trees l ≤ 2000000) : validB l = rightAll l := by
  unfold validB; rw [decide_eq_true h, decide_eq_true h2]; rfl
theorem validB_long (l : List Ins) (h : 4000 < l.length) : validB l = false := by
  unfold validB; rw [decide_eq_false (by omega)]; rfl
theorem validB_large (l : List Ins) (h : 2000000 < trees l) : validB l = false := by
  unfold validB; rw [decide_eq_false (by omega : ¬ trees l ≤ 2000000)]; simp

set_option maxHeartbeats 2000000 in
theorem refValidP_any (v : Value) (l : List Ins) (w : World) (hl : InsRow w w.heap.size v l) :
    Calls Try.prog 22 #[v] w fun e w' => e = .returned (.bool (validB l)) ∧ Below w.heap.size w w' := by
  obtain ⟨r, hr⟩ : ∃ r, validB l = r := ⟨_, rfl⟩
  rw [hr]
  have hb0 := hl.2.1
  by_cases h4 : 4000 < l.length
  · rw [validB_long l h4] at hr
    subst hr
    obtain ⟨ao, cap, rfl⟩ := hl.len
    obtain ⟨n, hn'⟩ : ∃ n, l.length = n := ⟨_, rfl⟩
    rw [hn'] at h4 hb0 ⊢
    clear hl hn'
    go_enter Try.func22, Try.ntmps22
    go_wp2
    go_ret
    exact ⟨rfl, Below.refl _ _⟩
  · have kt := fun w' (h : InsRow w' w.heap.size v l) => trees_any v l w' w.heap.size h (by omega)
    have htr := trees_le l (fun x hx => (hl.1 x hx).2.2.2.2)
    have htr2 : (trees l : Int) ≤ 4000 * 140737488355328 := by
      have : l.length * 140737488355328 ≤ 4000 * 140737488355328 := Nat.mul_le_mul_right _ (by omega)
      omega
    clear htr
    have hlarge := Lib.hid (validB_large l)
    have heq := Lib.hid (validB_eq l (by omega))
    obtain ⟨ao, cap, rfl⟩ := hl.len
    obtain ⟨n, hn'⟩ : ∃ n, l.length = n := ⟨_, rfl⟩
    rw [hn'] at h4 hb0 kt hl ⊢
    have HN := Lib.hid hn'; clear hn'
    have HR := Lib.hid hr; clear hr
    obtain ⟨m, hm⟩ : ∃ m, trees l = m := ⟨_, rfl⟩
    rw [hm] at kt htr2 hlarge heq
    clear hm
    by_cases hm : 2000000 < m
    · have hf : Hid (r = false) := HR.out.symm.trans (hlarge.out hm)
      have hmI : ¬ (m : Int) ≤ 2000000 := by omega
      go_enter Try.func22, Try.ntmps22
      go_wp2_with fail
      refine (kt _ hl).mono ?_
      rintro e w' ⟨rfl, rfl⟩
      go_wp2
      go_ret
      exact ⟨by rw [hf.out]; rfl, Below.refl _ _⟩
    · have heq := Lib.hid (heq.out (by omega))
      have hmI : (m : Int) ≤ 2000000 := by omega
      have h4I : (n : Int) ≤ 4000 := by omega
      go_enter Try.func22, Try.ntmps22
      go_wp2_with fail
      refine (kt _ hl).mono ?_
      rintro e w' ⟨rfl, rfl⟩
      clear kt
      go_wp2
      go_loopg [3] n (fun g i wr => ∃ k : Nat, k ≤ n ∧ g = n - k ∧ i = .int .i64 k ∧ Aside (rightTo l k) ∧ Below w.heap.size w wr)
      case atStart => exact ⟨0, Nat.zero_le _, rfl, rfl, (fun j x hj => absurd hj (Nat.not_lt_zero _)), Below.refl _ _⟩
      case round =>
        obtain ⟨k, hk, hg, rfl, hv, hbw⟩ := hrel
        have HG := Lib.hid hg; clear hg
        by_cases hlt : k < n
        · obtain ⟨x, hx⟩ : ∃ s, l[k]? = some s := ⟨_, List.getElem?_eq_getElem (by rw [HN.out]; exact hlt)⟩
          have hl2 := hl.below hbw
          obtain ⟨g, off, rfl, hg, c0, c1, c2, c3, c4⟩ := hl2.get hx
          have hwf := hl.wf hx
          have HX := Lib.hid hx; clear hx
          have kr := fun w => rright_any x.op x.a x.b x.c x.tree hwf k n hlt (by omega) w
          obtain ⟨q, hq⟩ : ∃ q, rightB x k n = q := ⟨_, rfl⟩
          rw [show rightB ⟨x.op, x.a, x.b, x.c, x.tree⟩ k n = q from hq] at kr
          have HQ := Lib.hid hq
          clear hq hwf hl2
          have hi0 : (0 : Int) ≤ (k : Int) := Int.natCast_nonneg _
          have hi1 : (k : Int) < (n : Int) := by omega
          cases q with
          | true =>
            go_wp2_with fail
            refine (kr _).mono ?_
            rintro e w' ⟨rfl, k2⟩
            have c2 := hbw.trans (k2.mono hbw.size)
            clear k2
            go_wp2
            go_roundg (n - (k + 1))
            case measure => rw [HG.out]; omega
            case rel => exact ⟨k + 1, by omega, rfl, by go_num, rightTo_snoc hv.out HX.out (by rw [HN.out]; exact HQ.out), c2⟩
          | false =>
            go_wp2_with fail
            refine (kr _).mono ?_
            rintro e w' ⟨rfl, k2⟩
            have c2 := hbw.trans (k2.mono hbw.size)
            clear k2
            have hf : Hid (r = false) := HR.out.symm.trans (heq.out.trans (rightAll_false HX.out (by rw [HN.out]; exact HQ.out)))
            go_wp2
            go_ret
            exact ⟨by rw [hf.out]; rfl, c2⟩
        · have hf : Hid (r = true) := HR.out.symm.trans (heq.out.trans (rightTo_all hv.out (by rw [HN.out]; omega)))
          go_wp2
          go_ret
          exact ⟨by rw [hf.out]; rfl, hbw⟩

end Go.Proofs.Ytaiomcjopgnfpaa

/- The walk of code.Valid. -/
import Derived.Test.YtaiomcjopgnfpaaCRight
namespace Go.Proofs.Ytaiomcjopgnfpaa
open Go.RowKit

set_option maxHeartbeats 2000000 in
theorem codeValidP_any (v : Value) (l : List Ins) (w : World) (hl : InsRow w w.heap.size v l) :
    Calls Try.prog 92 #[v] w fun e w' => e = .returned (.bool (validB l)) ∧ Below w.heap.size w w' := by
  obtain ⟨r, hr⟩ : ∃ r, validB l = r := ⟨_, rfl⟩
  rw [hr]
  have hb0 := hl.2.1
  by_cases h4 : 4000 < l.length
  · rw [validB_long l h4] at hr
    subst hr
    obtain ⟨ao, cap, rfl⟩ := hl.len
    obtain ⟨n, hn'⟩ : ∃ n, l.length = n := ⟨_, rfl⟩
    rw [hn'] at h4 hb0 ⊢
    clear hl hn'
    go_enter Try.func92, Try.ntmps92
    go_wp2
    go_ret
    exact ⟨rfl, Below.refl _ _⟩
  · have hlarge := Lib.hid (validB_large l)
    have heq := Lib.hid (validB_eq l (by omega))
    have htake := Lib.hid (trees_take l)
    have hrf : Hid (∀ (i : Nat) (x : Ins), l[i]? = some x → rightB x i l.length = false → validB l = false) := fun i x hx hb => by
      unfold validB; rw [rightAll_false hx hb]; simp
    obtain ⟨ao, cap, rfl⟩ := hl.len
    obtain ⟨n, hn'⟩ : ∃ n, l.length = n := ⟨_, rfl⟩
    rw [hn'] at h4 hb0 hl hrf ⊢
    have HN := Lib.hid hn'; clear hn'
    have HR := Lib.hid hr; clear hr
    have h4I : (n : Int) ≤ 4000 := by omega
    go_enter Try.func92, Try.ntmps92
    go_wp2
    go_loopg [3, 11] n (fun g s i wr => ∃ k m : Nat, k ≤ n ∧ g = n - k ∧ i = .int .i64 k ∧ s = .int .i64 m ∧ m ≤ 2000000 ∧ Aside (m = trees (l.take k)) ∧ Aside (rightTo l k) ∧ Below w.heap.size w wr)
    case atStart => exact ⟨0, 0, Nat.zero_le _, rfl, rfl, rfl, by omega, rfl, (fun j x hj => absurd hj (Nat.not_lt_zero _)), Below.refl _ _⟩
    case round =>
      obtain ⟨k, m, hk, hg, rfl, rfl, hm, hs, hv, hbw⟩ := hrel
      have HG := Lib.hid hg; clear hg
      by_cases hlt : k < n
      · obtain ⟨x, hx⟩ : ∃ s, l[k]? = some s := ⟨_, List.getElem?_eq_getElem (by rw [HN.out]; exact hlt)⟩
        have hl2 := hl.below hbw
        obtain ⟨g, off, rfl, hg, c0, c1, c2, c3, c4⟩ := hl2.get hx
        have hwf := hl.wf hx
        have HX := Lib.hid hx; clear hx
        have kr := fun w => cright_any x.op x.a x.b x.c x.tree hwf k n hlt (by omega) w
        obtain ⟨q, hq⟩ : ∃ q, rightB x k n = q := ⟨_, rfl⟩
        rw [show rightB ⟨x.op, x.a, x.b, x.c, x.tree⟩ k n = q from hq] at kr
        have HQ := Lib.hid hq
        have hz := hwf.2.2.2.2
        clear hq hwf hl2
        have hi0 : (0 : Int) ≤ (k : Int) := Int.natCast_nonneg _
        have hi1 : (k : Int) < (n : Int) := by omega
        have hsn : Hid (trees (l.take (k + 1)) = m + x.tree.size) := by show _ = _; rw [take_snoc' _ _ _ HX.out, trees_snoc, ← hs.out]
        have hmI : (m : Int) ≤ 2000000 := by omega
        have hb1 := hbw.alloc hbw.size (.cells #[.int .i64 x.op, .int .i64 x.a, .int .i64 x.b, .int .i64 x.c, .string x.tree] 52)
        by_cases hz1 : x.tree.size ≤ 2000001
        · have hzI : (x.tree.size : Int) ≤ 2000001 := by omega
          by_cases hz2 : m + x.tree.size ≤ 2000000
          · have hz2I : (m : Int) + x.tree.size ≤ 2000000 := by omega
            cases q with
            | true =>
              go_wp2_with fail
              refine (kr _).mono ?_
              rintro e w' ⟨rfl, k2⟩
              have c2 := hb1.trans (k2.mono hb1.size)
              clear k2
              go_wp2
              go_roundg (n - (k + 1))
              case measure => rw [HG.out]; omega
              case rel => exact ⟨k + 1, m + x.tree.size, by omega, rfl, by go_num, by go_num, hz2, hsn.out.symm, rightTo_snoc hv.out HX.out (by rw [HN.out]; exact HQ.out), c2⟩
            | false =>
              go_wp2_with fail
              refine (kr _).mono ?_
              rintro e w' ⟨rfl, k2⟩
              have c2 := hb1.trans (k2.mono hb1.size)
              clear k2
              have hf : Hid (r = false) := HR.out.symm.trans (hrf.out _ _ HX.out HQ.out)
              go_wp2
              go_ret
              exact ⟨by rw [hf.out]; rfl, c2⟩
          · have hz2I : ¬ (m : Int) + x.tree.size ≤ 2000000 := by omega
            have hf : Hid (r = false) := HR.out.symm.trans (hlarge.out (by have := htake.out (k + 1); rw [hsn.out] at this; omega))
            clear kr
            go_wp2
            go_ret
            exact ⟨by rw [hf.out]; rfl, hb1⟩
        · have hzI : ¬ (x.tree.size : Int) ≤ 2000001 := by omega
          have hf : Hid (r = false) := HR.out.symm.trans (hlarge.out (by have := htake.out (k + 1); rw [hsn.out] at this; omega))
          clear kr
          go_wp2
          go_ret
          exact ⟨by rw [hf.out]; rfl, hb1⟩
      · have hf : Hid (r = true) := HR.out.symm.trans ((heq.out (by have := hs.out; rw [List.take_of_length_le (by rw [HN.out]; omega)] at this; omega)).trans (rightTo_all hv.out (by rw [HN.out]; omega)))
        go_wp2
        go_ret
        exact ⟨by rw [hf.out]; rfl, hbw⟩

end Go.Proofs.Ytaiomcjopgnfpaa

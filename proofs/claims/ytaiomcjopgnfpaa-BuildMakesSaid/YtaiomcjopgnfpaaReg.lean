/- The walks of code.reg and code.right. -/
import Derived.Test.YtaiomcjopgnfpaaValidC
namespace Go.Proofs.Ytaiomcjopgnfpaa
open Go.RowKit

set_option maxHeartbeats 1000000 in
theorem codeReg_any (g n : Nat) (xs : List Int) (hn' : xs.length = n) (hn4 : n ≤ 4) (w : World) (hc : ∀ (j : Nat) (a : Int), xs[j]? = some a → w.cell? ⟨g, j, none⟩ = some (.int .i64 a)) :
    Calls Try.prog 141 #[.slice (some ⟨g, 0, none⟩) n n] w fun e w' => e = .returned (.bool (xs.all regB)) ∧ w = w' := by
  obtain ⟨r, hr⟩ : ∃ r, xs.all regB = r := ⟨_, rfl⟩
  rw [hr]
  have HR := Lib.hid hr; clear hr
  have HN := Lib.hid hn'; clear hn'
  go_enter Try.func141, Try.ntmps141
  go_wp2
  go_loopg [7] n (fun gg i wr => ∃ k : Nat, k ≤ n ∧ gg = n - k ∧ i = .int .i64 k ∧ Aside (∀ x ∈ xs.take k, regB x = true) ∧ w = wr)
  case atStart => exact ⟨0, Nat.zero_le _, rfl, rfl, (fun x hx => by simp at hx), rfl⟩
  case round =>
    obtain ⟨k, hk, hg, rfl, hv, rfl⟩ := hrel
    have HG := Lib.hid hg; clear hg
    by_cases hlt : k < n
    · obtain ⟨x, hx⟩ : ∃ s, xs[k]? = some s := ⟨_, List.getElem?_eq_getElem (by rw [HN.out]; exact hlt)⟩
      have hcell := hc k x hx
      have HX := Lib.hid hx; clear hx
      have hi0 : (0 : Int) ≤ (k : Int) := Int.natCast_nonneg _
      have hi1 : (k : Int) < (n : Int) := by omega
      by_cases h0 : x < 0
      · have hf : Hid (r = false) := HR.out.symm.trans (by
          rw [Bool.eq_false_iff]; intro h
          have := List.all_eq_true.1 h x (List.mem_of_getElem? HX.out)
          unfold regB at this; simp at this; omega)
        go_wp2
        go_ret
        exact ⟨by rw [hf.out]; rfl, rfl⟩
      · by_cases h32 : x < 32
        · go_wp2
          go_roundg (n - (k + 1))
          case measure => rw [HG.out]; omega
          case rel => exact ⟨k + 1, by omega, rfl, by go_num, (by intro y hy; rw [take_snoc' _ _ _ HX.out] at hy; rcases List.mem_append.1 hy with h | h; exact hv.out y h; simp at h; subst h; unfold regB; simp; omega), rfl⟩
        · have hf : Hid (r = false) := HR.out.symm.trans (by
            rw [Bool.eq_false_iff]; intro h
            have := List.all_eq_true.1 h x (List.mem_of_getElem? HX.out)
            unfold regB at this; simp at this; omega)
          go_wp2
          go_ret
          exact ⟨by rw [hf.out]; rfl, rfl⟩
    · have hf : Hid (r = true) := HR.out.symm.trans (List.all_eq_true.2 (by have := hv.out; rwa [List.take_of_length_le (by rw [HN.out]; omega)] at this))
      go_wp2
      go_ret
      exact ⟨by rw [hf.out]; rfl, rfl⟩

end Go.Proofs.Ytaiomcjopgnfpaa

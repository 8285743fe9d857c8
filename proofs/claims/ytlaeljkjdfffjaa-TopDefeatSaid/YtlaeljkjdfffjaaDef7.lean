/- law09: DefeatRuns, DefeatLies. -/
import Derived.Test.YtlaeljkjdfffjaaDef5
import Derived.Test.YtlaeljkjdfffjaaDef6
namespace Go.Proofs.Ytlaeljkjdfffjaa
open Go.RowKit

theorem defE_zero {d y n : List Ins} (h : defE d y n = 0) : (∀ l ∈ [d, y, n], validB l = true) ∧ defW d y n ≤ 30 ∧ knowE (defQ d y n (defW d y n)) = 0 ∧ defD d y n = knowL (defQ d y n (defW d y n)) := by
  have h0 := h
  unfold defE at h
  split at h
  · rename_i hv
    split at h
    · cases h
    · rename_i hw
      split at h
      · refine ⟨fun l hl => ?_, by omega, h, by unfold defD; rw [if_pos h0]⟩
        rcases List.mem_cons.1 hl with rfl | hl
        · exact hv.1
        · rcases List.mem_cons.1 hl with rfl | hl
          · exact hv.2.1
          · rcases List.mem_cons.1 hl with rfl | hl
            · exact hv.2.2
            · cases hl
      · cases h
  · cases h
theorem defeat_all {d y n : List Ins} (h0 : defE d y n = 0) (t : Tr) (hs : (Tr.pair (codeT (defD d y n)) t).size ≤ 2000000) (F : Nat) :
    (∀ s k, goF d F 0 (startS (codeT (defD d y n))) = .done s k → (getR s.regs 0 ≠ .nil → FollowP (defD d y n) t n t (k + defW d y n + 23)) ∧ (getR s.regs 0 = .nil → FollowP (defD d y n) t y t (k + defW d y n + 25))) ∧
    ((∀ s k, goF d F 0 (startS (codeT (defD d y n))) ≠ .done s k) → (∃ s, goF (defD d y n) F 0 (startS t) = .fuel s F) ∨ goF (defD d y n) F 0 (startS t) = .big) := by
  obtain ⟨hall, hw, hk, hD⟩ := defE_zero h0
  have hp := defW_pos d y n
  obtain ⟨m, hm⟩ : ∃ m, defW d y n = m + 1 := ⟨defW d y n - 1, by omega⟩
  have hW : max (max (mostN d + 1) (mostN y + 1)) (mostN n + 1) = m + 1 := hm
  have hS := segsD d y n m
  rw [← hm, ← hD] at hS
  have hst := known_start hk t (by rw [← hD]; exact hs)
  rw [← hD] at hst
  have hsz : (codeT (defD d y n)).size + t.size ≤ 2000000 := by simp only [Tr.size] at hs; omega
  have vd := validB_all (hall d (by simp))
  have vy := validB_all (hall y (by simp))
  have vn := validB_all (hall n (by simp))
  refine ⟨fun s k hg => ?_, fun hg => defeat_none hS (by omega) vd (by omega) _ t hst (by omega) F hg⟩
  have h := defeat_follow hS (by omega) vd vy vn (by omega) (by omega) (by omega) _ t hst (by omega) (by omega) F s k hg
  rw [hm]
  exact ⟨fun hb => by have := h.1 hb; rwa [show k + m + 24 = k + (m + 1) + 23 by omega] at this, fun hb => by have := h.2 hb; rwa [show k + m + 26 = k + (m + 1) + 25 by omega] at this⟩
end Go.Proofs.Ytlaeljkjdfffjaa


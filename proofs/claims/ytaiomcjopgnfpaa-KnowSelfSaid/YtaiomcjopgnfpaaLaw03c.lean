/- The walks of the laws of narcissuslaw03: RunMore. -/
import Derived.Test.YtaiomcjopgnfpaaLaw03b
namespace Go.Proofs.Ytaiomcjopgnfpaa
open Go.RowKit

theorem goF_more_done {l : List Ins} : ∀ {f n : Nat} {s s' : St} {k : Nat}, goF l f n s = .done s' k → ∀ m, goF l (f + m) n s = .done s' k := by
  intro f
  induction f with
  | zero =>
    intro n s s' k h m
    by_cases hp : s.pos = l.length
    · rw [goF_done hp] at h ⊢; exact h
    · rw [goF_zero hp] at h; cases h
  | succ f ih =>
    intro n s s' k h m
    by_cases hp : s.pos = l.length
    · rw [goF_done hp] at h ⊢; exact h
    · rw [show f + 1 + m = (f + m) + 1 by omega]
      cases hs : stepP l s with
      | none => rw [goF_big hp hs] at h; cases h
      | some s1 => rw [goF_step hp hs] at h ⊢; exact ih h m
theorem goF_more_big {l : List Ins} : ∀ {f n : Nat} {s : St}, goF l f n s = .big → ∀ m, goF l (f + m) n s = .big := by
  intro f
  induction f with
  | zero =>
    intro n s h m
    by_cases hp : s.pos = l.length
    · rw [goF_done hp] at h; cases h
    · rw [goF_zero hp] at h; cases h
  | succ f ih =>
    intro n s h m
    by_cases hp : s.pos = l.length
    · rw [goF_done hp] at h; cases h
    · rw [show f + 1 + m = (f + m) + 1 by omega]
      cases hs : stepP l s with
      | none => rw [goF_big hp hs]
      | some s1 => rw [goF_step hp hs] at h ⊢; exact ih h m
theorem goF_count {l : List Ins} : ∀ {f n : Nat} {s s' : St} {k : Nat}, goF l f n s = .done s' k → n ≤ k ∧ k ≤ n + f ∧ goF l (k - n) n s = .done s' k ∧ ∀ j, j < k - n → ∃ s2 m, goF l j n s = .fuel s2 m := by
  intro f
  induction f with
  | zero =>
    intro n s s' k h
    by_cases hp : s.pos = l.length
    · rw [goF_done hp] at h; cases h; exact ⟨Nat.le_refl _, by omega, goF_done hp, fun j hj => by omega⟩
    · rw [goF_zero hp] at h; cases h
  | succ f ih =>
    intro n s s' k h
    by_cases hp : s.pos = l.length
    · rw [goF_done hp] at h; cases h; exact ⟨Nat.le_refl _, by omega, goF_done hp, fun j hj => by omega⟩
    · cases hs : stepP l s with
      | none => rw [goF_big hp hs] at h; cases h
      | some s1 =>
        rw [goF_step hp hs] at h
        obtain ⟨h1, h2, h3, h4⟩ := ih h
        refine ⟨by omega, by omega, ?_, fun j hj => ?_⟩
        · rw [show k - n = (k - (n + 1)) + 1 by omega, goF_step hp hs]; exact h3
        · cases j with
          | zero => exact ⟨_, _, goF_zero hp⟩
          | succ j => rw [goF_step hp hs]; exact h4 j (by omega)
theorem twin_ct {w : World} {v : Value} {l : List Ins} (hl : InsRow w w.heap.size v l) : ∀ w', Below w.heap.size w w' → Calls Try.prog 33 #[v] w' fun e w'' => ∃ v', e = .returned v' ∧ Hid (InsRow w'' w''.heap.size v' l) ∧ Below w.heap.size w w'' := fun w' hb =>
  (twin_any v l w' ((hl.below hb).mono hb.size)).mono fun _e _w'' ⟨v', h1, h2, h3⟩ => ⟨v', h1, h2, hb.trans (h3.mono hb.size)⟩
/-- Run at any place. -/
theorem run_at {w : World} {l : List Ins} (hv : validB l = true) {t : Tr} (ht : t.size ≤ 2000000) {S : ByteArray} (hS : TS t = S) : ∀ (K : Nat) (Ki : Int), Ki = K → K ≤ 10000000 → ∀ y k er, (goF l K 0 (startS t)).run = (y, k, er) → ∀ w' v', InsRow w' w'.heap.size v' l → Below w.heap.size w w' →
    Calls Try.prog 32 #[v', .string S, .int .i64 Ki] w' fun e w'' => e = .returned (.tuple #[.string y, .int .i64 k, .int .i64 er]) ∧ Below w.heap.size w w'' := by
  rintro K _ rfl hK y k er hr w' v' hl hb
  rw [← hS]
  exact (run_ct hl hv t ht K hK y k er hr w' (Below.refl _ _)).mono fun e w'' h => ⟨h.1, hb.trans (h.2.mono hb.size)⟩

end Go.Proofs.Ytaiomcjopgnfpaa


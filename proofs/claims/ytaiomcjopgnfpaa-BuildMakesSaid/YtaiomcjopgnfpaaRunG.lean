/- Plain: runs of programs, to their end or as far as the fuel goes. -/
import Derived.Test.YtaiomcjopgnfpaaRunP
namespace Go.Proofs.Ytaiomcjopgnfpaa
open Go.RowKit

/-- How a run goes: it ends, the fuel is used up, a step is too large. -/
inductive Res where
  | done (s : St) (n : Nat)
  | fuel (s : St) (n : Nat)
  | big
def goF (l : List Ins) : Nat → Nat → St → Res
  | f, n, s => if s.pos = l.length then .done s n else match f with
    | 0 => .fuel s n
    | f + 1 => match stepP l s with
      | none => .big
      | some s' => goF l f (n + 1) s'
theorem goF_done {l : List Ins} {f n : Nat} {s : St} (h : s.pos = l.length) : goF l f n s = .done s n := by unfold goF; rw [if_pos h]
theorem goF_zero {l : List Ins} {n : Nat} {s : St} (h : s.pos ≠ l.length) : goF l 0 n s = .fuel s n := by unfold goF; rw [if_neg h]
theorem goF_big {l : List Ins} {f n : Nat} {s : St} (h : s.pos ≠ l.length) (hs : stepP l s = none) : goF l (f + 1) n s = .big := by unfold goF; rw [if_neg h]; simp only [hs]
theorem goF_step {l : List Ins} {f n : Nat} {s s' : St} (h : s.pos ≠ l.length) (hs : stepP l s = some s') : goF l (f + 1) n s = goF l f (n + 1) s' := by
  conv => lhs; unfold goF
  rw [if_neg h]
  simp only [hs]
/-- The k-th state. -/
def stN (l : List Ins) (s : St) : Nat → St
  | 0 => s
  | k + 1 => (stepP l (stN l s k)).getD (stN l s k)
/-- k steps are done. -/
def Reach (l : List Ins) (s : St) (k : Nat) : Prop := ∀ j, j < k → (stN l s j).pos ≠ l.length ∧ stepP l (stN l s j) = some (stN l s (j + 1))
theorem Reach.zero (l : List Ins) (s : St) : Reach l s 0 := fun j h => by omega
theorem stN_succ {l : List Ins} {s s' : St} {k : Nat} (h : stepP l (stN l s k) = some s') : stN l s (k + 1) = s' := by simp [stN, h]
theorem Reach.succ {l : List Ins} {s s' : St} {k : Nat} (h : Reach l s k) (hp : (stN l s k).pos ≠ l.length) (hs : stepP l (stN l s k) = some s') : Reach l s (k + 1) := fun j hj => by
  by_cases e : j < k
  · exact h j e
  · obtain rfl : j = k := by omega
    exact ⟨hp, by rw [stN_succ hs]; exact hs⟩
theorem Reach.goF {l : List Ins} {s : St} : ∀ {k : Nat}, Reach l s k → ∀ f, k ≤ f → goF l f 0 s = Go.Proofs.Ytaiomcjopgnfpaa.goF l (f - k) k (stN l s k) := by
  intro k
  induction k with
  | zero => intro _ f _; rfl
  | succ k ih =>
    intro h f hf
    obtain ⟨h1, h2⟩ := h k (by omega)
    rw [ih (fun j hj => h j (by omega)) f (by omega), show f - k = (f - (k + 1)) + 1 by omega, goF_step h1 h2]
theorem Reach.good {l : List Ins} {s : St} (hv : rightAll l = true) (hg : Good l.length s) : ∀ {k : Nat}, Reach l s k → Good l.length (stN l s k) := by
  intro k
  induction k with
  | zero => intro _; exact hg
  | succ k ih => intro h; exact (ih (fun j hj => h j (by omega))).step hv (h k (by omega)).2
/-- What Run hands back. -/
def Res.run : Res → ByteArray × Nat × Int
  | .done s n => (TS (getR s.regs 0), n, 0)
  | .fuel _ _ => (⟨#[]⟩, 0, 7)
  | .big => (⟨#[]⟩, 0, 3)

end Go.Proofs.Ytaiomcjopgnfpaa

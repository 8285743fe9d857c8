/- Plain: the universal program runs a program, where nothing is too large. -/
import Derived.Test.YtlaeljkjdfffjaaUnivT
namespace Go.Proofs.Ytlaeljkjdfffjaa
open Go.RowKit

/-- The registers hold few characters together in each of the first states. -/
def SmallRun (p : List Ins) (s0 : St) (k : Nat) : Prop := ∀ j s, j ≤ k → Runs p j s0 s → sumS s.regs ≤ 1000000
theorem SmallRun.less {p : List Ins} {s0 : St} {k j : Nat} (h : SmallRun p s0 k) (hj : j ≤ k) : SmallRun p s0 j := fun i s hi hr => h i s (by omega) hr
theorem Runs.uncons {P : List Ins} {m : Nat} {s t : St} (h : Runs P m s t) : m = 0 ∧ s = t ∨ ∃ j s', m = j + 1 ∧ s.pos ≠ P.length ∧ stepP P s = some s' ∧ Runs P j s' t := by
  cases h with
  | refl => exact .inl ⟨rfl, rfl⟩
  | step h1 h2 h3 => exact .inr ⟨_, _, rfl, h1, h2, h3⟩
/-- The last step apart. -/
theorem Runs.snoc {P : List Ins} : ∀ {m : Nat} {s t : St}, Runs P (m + 1) s t → ∃ s', Runs P m s s' ∧ s'.pos ≠ P.length ∧ stepP P s' = some t
  | 0, s, t, h => by
    rcases h.uncons with ⟨h1, _⟩ | ⟨j, s', h1, h2, h3, h4⟩
    · omega
    · obtain rfl : j = 0 := by omega
      rcases h4.uncons with ⟨_, rfl⟩ | ⟨j, s2, h5, _⟩
      · exact ⟨s, .refl _, h2, h3⟩
      · omega
  | m + 1, s, t, h => by
    rcases h.uncons with ⟨h1, _⟩ | ⟨j, s', h1, h2, h3, h4⟩
    · omega
    · obtain rfl : j = m + 1 := by omega
      obtain ⟨s2, h5, h6, h7⟩ := h4.snoc
      exact ⟨s2, .step h2 h3 h5, h6, h7⟩
theorem repL_start (t : Tr) : RepL [t] (startS t).regs := by
  refine ⟨rfl, by simp, fun i hi => ?_⟩
  cases i with
  | zero => rfl
  | succ i =>
    show (List.replicate 31 Tr.nil)[i]? = _
    rw [List.getElem?_replicate, if_pos (by omega)]
    simp
theorem univ_start (c t : Tr) (ht : t.size ≤ 1000000) : ∃ u, Runs univL 5 (startS (.pair c t)) u ∧ AtH c c (.num 0) (Tr.ofList [t]) u := by
  have h0 : Runs univL 1 (startS (.pair c t)) ⟨1, .pair c t :: c :: List.replicate 30 .nil⟩ := head_run 1 0 _ _ _ rfl rfl rfl
  have h1 : Runs univL 1 ⟨1, .pair c t :: c :: List.replicate 30 .nil⟩ ⟨2, [.pair c t, c, .nil, .nil, .nil, .nil, .nil, .nil, t] ++ List.replicate 23 .nil⟩ := tail_run 8 0 _ _ _ rfl rfl rfl
  have h2 : Runs univL 1 ⟨2, [.pair c t, c, .nil, .nil, .nil, .nil, .nil, .nil, t] ++ List.replicate 23 .nil⟩ ⟨3, [.pair c t, c, c, .nil, .nil, .nil, .nil, .nil, t] ++ List.replicate 23 .nil⟩ := move_run 2 1 _ _ _ rfl rfl rfl
  have h3 : Runs univL 1 ⟨3, [.pair c t, c, c, .nil, .nil, .nil, .nil, .nil, t] ++ List.replicate 23 .nil⟩ ⟨4, [.pair c t, c, c, .nil, .pair t .nil, .nil, .nil, .nil, t] ++ List.replicate 23 .nil⟩ := cons_run 4 8 4 t .nil _ _ rfl rfl rfl (by simp only [Tr.size]; omega) rfl
  have h4 : Runs univL 1 ⟨4, [.pair c t, c, c, .nil, .pair t .nil, .nil, .nil, .nil, t] ++ List.replicate 23 .nil⟩ ⟨5, UF (.pair c t) c c .nil (.pair t .nil) .nil .nil .nil t .nil .nil .nil .nil .nil⟩ := set_run 14 ⟨#[49, 48, 48]⟩ (.pair .nil .nil) _ _ rfl tr_100 rfl
  exact ⟨_, (((h0.trans h1).trans h2).trans h3).trans h4, .nil, t, _, _, _, _, _, _, _, _, rfl⟩
/-- So many steps of the program. -/
theorem univ_many {p : List Ins} (hv : rightAll p = true) (hp4 : p.length ≤ 800000) {t : Tr} (ht : t.size ≤ 1000000) : ∀ (k : Nat) {s : St}, Runs p k (startS t) s → SmallRun p (startS t) k →
    ∃ m l u, Runs univL m (startS (.pair (codeT p) t)) u ∧ k ≤ m ∧ m ≤ 5 + 100 * (p.length + 40) * k ∧ RepL l s.regs ∧ AtH (codeT p) (codeT (p.drop s.pos)) (.num s.pos) (Tr.ofList l) u
  | 0, s, h, _ => by
    rcases h.uncons with ⟨_, rfl⟩ | ⟨j, s', h1, _⟩
    · obtain ⟨u, h1, h2⟩ := univ_start (codeT p) t ht
      exact ⟨5, [t], u, h1, by omega, by omega, repL_start t, h2⟩
    · omega
  | k + 1, s, h, hs => by
    obtain ⟨s1, h1, h2, h3⟩ := h.snoc
    obtain ⟨m, l, u, g1, g2, g3, g4, g5⟩ := univ_many hv hp4 ht k h1 (hs.less (by omega))
    have hsum := hs (k + 1) s (Nat.le_refl _) h
    unfold stepP at h3
    split at h3
    · next x hx =>
      obtain ⟨n, l', u', f1, f2, f3, f4, f5⟩ := univ_step hv hp4 hx h3 g4 hsum g5
      have e : 100 * (p.length + 40) * (k + 1) = 100 * (p.length + 40) * k + 100 * (p.length + 40) := Nat.mul_succ _ _
      exact ⟨m + n, l', u', g1.trans f1, by omega, by omega, f4, f5⟩
    · cases h3
/-- A program that goes on makes the universal one go on. -/
theorem univ_on {p : List Ins} (hv : rightAll p = true) (hp4 : p.length ≤ 800000) {t : Tr} (ht : t.size ≤ 1000000) {k : Nat} {s : St} (h : Runs p k (startS t) s) (hs : SmallRun p (startS t) k) : ∃ s', goF univL k 0 (startS (.pair (codeT p) t)) = .fuel s' k := by
  obtain ⟨m, l, u, g1, g2, g3, g4, g5⟩ := univ_many hv hp4 ht k h hs
  obtain ⟨fi, va, o, op, ar, ot, le, li, tu, pa, rfl⟩ := g5
  exact g1.fuel_le (by rw [univ_len]; show 5 ≠ 129; omega) k g2
end Go.Proofs.Ytlaeljkjdfffjaa


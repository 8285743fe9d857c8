/- Plain: what a padded program does. -/
import Derived.Test.YtdjbcmfjlfkcjaaPad1
import Derived.Test.YtdjbcmfjlfkcjaaKnowR
namespace Go.Proofs.Ytdjbcmfjlfkcjaa
open Go.RowKit

theorem padL_seg (p : List Ins) (n : Nat) : Seg (padL p n) 0 p := by
  intro i x hx
  unfold padL
  rw [Nat.zero_add, List.getElem?_append_left (List.getElem?_eq_some_iff.1 hx).1]
  exact hx
theorem padL_right {p : List Ins} (hv : rightAll p = true) (n : Nat) : rightAll (padL p n) = true := by
  refine rightAll_append (fun i x hx => ?_) (fun i x hx => ?_)
  · have h1 := rightAll_get hv hx
    refine rightB_mono h1 (Int.le_refl _) ?_
    rw [List.length_append]
    omega
  · have h1 := List.eq_of_mem_replicate (List.mem_of_getElem? hx)
    subst h1
    simp [rightB, mv0, regB]
theorem padL_trees (p : List Ins) (n : Nat) : trees (padL p n) = trees p := by
  unfold padL
  rw [trees_append]
  have : trees (List.replicate n mv0) = 0 := by
    induction n with
    | zero => rfl
    | succ n ih =>
      have h1 : trees (mv0 :: List.replicate n mv0) = mv0.tree.size + trees (List.replicate n mv0) := by simp [trees]
      rw [List.replicate_succ, h1, ih]
      rfl
  omega
theorem padL_valid {p : List Ins} (hv : validB p = true) (n : Nat) (hn : p.length + n ≤ 4000) : validB (padL p n) = true := by
  have h1 := validB_all hv
  rw [validB_fits (padL_right h1 n)]
  rw [validB_fits h1] at hv
  unfold fitsP at hv ⊢
  rw [padL_len, padL_trees]
  simp only [Bool.and_eq_true, decide_eq_true_eq] at hv ⊢
  exact ⟨hn, hv.2⟩
theorem setR_self {rs : List Tr} (h : rs.length = 32) : setR rs 0 (getR rs 0) = rs := by
  match rs, h with
  | t :: rs, _ => rfl
theorem pad_moves {p : List Ins} {n : Nat} {rs : List Tr} (h : rs.length = 32) : ∀ j : Nat, j ≤ n → Runs (padL p n) j ⟨p.length, rs⟩ ⟨p.length + j, rs⟩
  | 0, _ => .refl _
  | j + 1, hj => by
    refine (pad_moves h j (by omega)).trans (Runs.one (x := mv0) ?_ ?_)
    · show (padL p n)[p.length + j]? = _
      unfold padL
      rw [List.getElem?_append_right (by omega), Nat.add_sub_cancel_left, List.getElem?_replicate, if_pos (by omega)]
    · have h1 : stepX mv0 ⟨p.length + j, rs⟩ = some ⟨p.length + j + 1, setR rs 0 (getR rs 0)⟩ := rfl
      rw [h1, setR_self h]
      rfl
theorem follow_pad {q : List Ins} (n : Nat) {t : Tr} (hv : rightAll q = true) (ht : t.size ≤ 2000000) : FollowP (padL q n) t q t n := by
  intro F
  have hseg := padL_seg q n
  have hlen := padL_len q n
  have hgood : ∀ {m : Nat} {s : St}, Runs q m (startS t) s → Good q.length s := fun hq => hq.good hv (Good.start _ t ht)
  have hin : ∀ {m : Nat} {s : St}, Runs q m (startS t) s → Runs (padL q n) m (startS t) s := fun hq => by
    have := hseg.runs hv (by omega) hq
    simpa using this
  have hbig : ∀ {m : Nat} {s : St}, Runs q m (startS t) s → s.pos ≠ q.length → stepP q s = none → m < F + n → goF (padL q n) (F + n) 0 (startS t) = .big := fun {m s} h3 h4 h5 hm => by
    have hb := (hgood h3).1
    refine (hin h3).big (by omega) ?_ _ hm
    have := hseg.step hv (s := s) (by omega)
    rw [h5] at this
    simpa using this
  rcases goF_how q F 0 (startS t) with ⟨s, m, h1, h2, h3, h4⟩ | ⟨s, h1, h3, h4⟩ | ⟨s, m, h1, h2, h3, h4, h5⟩
  · refine .inl ⟨s, ⟨q.length + n, s.regs⟩, m, by rw [h1, Nat.zero_add], h2, ?_, rfl⟩
    have hg := hgood h3
    have h6 : (⟨q.length, s.regs⟩ : St) = s := by rw [← h4]
    have h7 := pad_moves (p := q) (n := n) hg.2.1 n (Nat.le_refl _)
    rw [h6] at h7
    exact ((hin h3).trans h7).done hlen.symm _ (by omega)
  · refine .inr (.inl ⟨s, by rw [h1, Nat.zero_add], ?_⟩)
    rcases goF_how q (F + n) 0 (startS t) with ⟨s2, m2, g1, g2, g3, g4⟩ | ⟨s2, g1, g3, g4⟩ | ⟨s2, m2, g1, g2, g3, g4, g5⟩
    · have hm : F < m2 := by
        rcases Nat.lt_or_ge F m2 with h | h
        · exact h
        · rw [g3.done g4 F h] at h1
          cases h1
      have hg := hgood g3
      have h6 : (⟨q.length, s2.regs⟩ : St) = s2 := by rw [← g4]
      have h7 := pad_moves (p := q) (n := n) hg.2.1 (F + n - m2) (by omega)
      rw [h6] at h7
      have h8 := (hin g3).trans h7
      rw [show m2 + (F + n - m2) = F + n by omega] at h8
      exact .inl ⟨_, h8.fuel (by show q.length + (F + n - m2) ≠ _; omega)⟩
    · have hb := (hgood g3).1
      exact .inl ⟨s2, (hin g3).fuel (by omega)⟩
    · exact .inr (hbig g3 g4 g5 g2)
  · exact .inr (.inr ⟨h1, hbig h3 h4 h5 (by omega)⟩)
theorem padL_inj {p : List Ins} {n m : Nat} (h : padL p n = padL p m) : n = m := by
  have h1 := congrArg List.length h
  rw [padL_len, padL_len] at h1
  omega
theorem padE_cases {p : List Ins} (hv : validB p = true) (n : Int) : (∃ m : Nat, n = m ∧ m ≤ 1000 ∧ p.length + m ≤ 4000 ∧ padE p n = 0 ∧ padR p n = padL p m) ∨ (padE p n ≠ 0 ∧ padR p n = []) := by
  have hv' : ¬ validB p = false := by rw [hv]; decide
  by_cases h0 : n < 0 ∨ 1000 < n
  · have e1 : padE p n = 2 := by unfold padE; rw [if_neg hv', if_pos h0]
    exact .inr ⟨by rw [e1]; decide, by unfold padR; rw [e1]; rfl⟩
  · obtain ⟨m, rfl⟩ : ∃ m : Nat, n = m := ⟨n.toNat, by omega⟩
    by_cases h4 : 4000 < (p.length : Int) + m
    · have e1 : padE p m = 3 := by unfold padE; rw [if_neg hv', if_neg h0, if_pos h4]
      exact .inr ⟨by rw [e1]; decide, by unfold padR; rw [e1]; rfl⟩
    · have e1 : padE p m = 0 := by unfold padE; rw [if_neg hv', if_neg h0, if_neg h4]
      exact .inl ⟨m, rfl, by omega, by omega, e1, by unfold padR; rw [if_pos e1]; rfl⟩
end Go.Proofs.Ytdjbcmfjlfkcjaa


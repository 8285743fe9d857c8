/- Plain: how programs that defeat deciders run. -/
import Derived.Test.YtdjbcmfjlfkcjaaDefP
namespace Go.Proofs.Ytdjbcmfjlfkcjaa
open Go.RowKit

theorem def_start {P d y n : List Ins} {m : Nat} (S : SegsD P d y n m) (_hm : m ≤ 29) (C t : Tr) (hR : Runs P 19 (startS t) ⟨19, (startS (.pair C t)).regs⟩) : Runs P 21 (startS t) ⟨21, C :: (List.replicate 31 .nil).set m t⟩ := by
  have h1 : Runs P 1 ⟨19, (startS (.pair C t)).regs⟩ ⟨20, .pair C t :: (List.replicate 31 .nil).set m t⟩ := tail_run (m + 1) 0 t _ _ S.tail rfl (setR_rest _ _ _ _)
  have h2 : Runs P 1 ⟨20, .pair C t :: (List.replicate 31 .nil).set m t⟩ ⟨21, C :: (List.replicate 31 .nil).set m t⟩ := head_run 0 0 C _ _ S.head rfl rfl
  exact (hR.trans h1).trans h2
theorem cleaned_le {a m : Nat} (h : a ≤ m) (rest : List Tr) : Cleaned a (List.replicate m .nil ++ rest) := by
  unfold Cleaned
  rw [List.take_append_of_le_length (by simp; exact h), List.take_replicate, Nat.min_eq_left h]
theorem cleaned_put {a m : Nat} (h : a ≤ m) (hm : m < 31) (t : Tr) : Cleaned a ((List.replicate 31 .nil).set m t) := by
  unfold Cleaned
  rw [List.take_set_of_le h, List.take_replicate, Nat.min_eq_left (by omega)]
/-- From the decider's end to the jump. -/
theorem def_mid {P d y n : List Ins} {m : Nat} (S : SegsD P d y n m) (hm : m ≤ 29) (b t : Tr) (rest : List Tr) (hr : rest.length = 31) (ht : rest[m]? = some t) :
    ∃ R2 : List Tr, R2.length = 31 ∧ R2[m]? = some t ∧ R2[m + 1]? = some b ∧ (∀ a, a ≤ m → Cleaned a R2) ∧ Runs P (m + 2) ⟨21 + d.length, b :: rest⟩ ⟨23 + d.length + m, t :: R2⟩ := by
  have h1 : Runs P 1 ⟨21 + d.length, b :: rest⟩ ⟨21 + d.length + 1, b :: rest.set (m + 1) b⟩ := move_run (m + 2) 0 b _ _ S.mv rfl (setR_rest _ _ _ _)
  have hr1 : (rest.set (m + 1) b).length = 31 := by rw [List.length_set]; exact hr
  have h2 := cleanRuns S.cl b (rest.set (m + 1) b) hr1 (by omega)
  have hm2 : (rest.set (m + 1) b)[m]? = some t := by rw [List.getElem?_set_ne (by omega)]; exact ht
  have hm3 : (rest.set (m + 1) b)[m + 1]? = some b := by rw [List.getElem?_set_self (by omega)]
  have k1 : (List.replicate m Tr.nil ++ (rest.set (m + 1) b).drop m)[m]? = some t := by rw [cleaned_keep hr1 (Nat.le_refl _) (by omega)]; exact hm2
  have k2 : (List.replicate m Tr.nil ++ (rest.set (m + 1) b).drop m)[m + 1]? = some b := by rw [cleaned_keep hr1 (by omega) (by omega)]; exact hm3
  have h3 : Runs P 1 ⟨22 + d.length + m, b :: (List.replicate m Tr.nil ++ (rest.set (m + 1) b).drop m)⟩ ⟨22 + d.length + m + 1, t :: (List.replicate m Tr.nil ++ (rest.set (m + 1) b).drop m)⟩ :=
    move_run 0 (m + 1) t _ _ S.bk (by rw [getR_rest, k1]; rfl) rfl
  refine ⟨_, ?_, k1, k2, fun a ha => cleaned_le ha _, ?_⟩
  · simp; omega
  · rw [show 21 + d.length + 1 = 22 + d.length by omega] at h1
    rw [show 22 + d.length + m + 1 = 23 + d.length + m by omega] at h3
    have := (h1.trans h2).trans h3
    rwa [show 1 + m + 1 = m + 2 by omega] at this
/-- What the decider returns decides. -/
theorem defeat_follow {P d y n : List Ins} {m : Nat} (S : SegsD P d y n m) (hm : m ≤ 29) (hd : rightAll d = true) (hy : rightAll y = true) (hn : rightAll n = true) (md : mostN d ≤ m) (my : mostN y ≤ m) (mn : mostN n ≤ m) (C t : Tr) (hR : Runs P 19 (startS t) ⟨19, (startS (.pair C t)).regs⟩) (hC : C.size ≤ 2000000) (ht : t.size ≤ 2000000)
    (F : Nat) (s : St) (k : Nat) (hg : goF d F 0 (startS C) = .done s k) :
    (getR s.regs 0 ≠ .nil → FollowP P t n t (k + m + 24)) ∧ (getR s.regs 0 = .nil → FollowP P t y t (k + m + 26)) := by
  have hlen := S.len
  have h21 := def_start S hm C t hR
  have hr0 : ((List.replicate 31 Tr.nil).set m t).length = 31 := by simp
  have hc0 : Cleaned (mostN d) ((List.replicate 31 Tr.nil).set m t) := cleaned_put md (by omega) t
  rcases part_run S.sd hd (by omega) F C hC with ⟨k', s', b, h1, h2, h3, h4, -, h5⟩ | ⟨s', h1, h2, -⟩ | ⟨k', s', h0, h1, h2, h3, -⟩
  · have e := h1.done h2 F h4
    rw [hg] at e
    injection e with e1 e2
    subst e1; subst e2
    obtain ⟨rest', r1, r2, r3⟩ := h5 _ hr0 hc0
    have hm1 : rest'[m]? = some t := by rw [r2 m md, List.getElem?_set_self (by simp; omega)]
    obtain ⟨R2, q1, q2, q3, q4, q5⟩ := def_mid S hm b t rest' r1 hm1
    have hR2 := (h21.trans r3).trans q5
    rw [h3]
    refine ⟨fun hb => ?_, fun hb => ?_⟩
    · have h6 := hR2.trans (jump_run (m + 2) _ (t :: R2) (26 + d.length + m + y.length) S.jp (by rw [getR_rest, q3]; exact hb) (by omega))
      have := follow_part (c1 := 0) h6 q1 (q4 _ mn) S.sn hn (by omega) ht (fun b' rest'' _ _ => ⟨_, .refl _, by show 26 + d.length + m + y.length + n.length = _; omega, rfl⟩)
      rwa [show 21 + k + (m + 2) + 1 + 0 = k + m + 24 by omega] at this
    · have h6 := hR2.trans (stay_run (m + 2) _ (t :: R2) S.jp (by rw [getR_rest, q3]; exact hb))
      rw [show 23 + d.length + m + 1 = 24 + d.length + m by omega] at h6
      have := follow_part (c1 := 2) h6 q1 (q4 _ my) S.sy hy (by omega) ht (fun b' rest'' l1 _ => by
        have g1 : Runs P 1 ⟨24 + d.length + m + y.length, b' :: rest''⟩ ⟨24 + d.length + m + y.length + 1, b' :: rest''.set (m + 1) (.pair .nil .nil)⟩ := set_run (m + 2) _ _ _ _ S.st tr_100 (setR_rest _ _ _ _)
        have g2 : Runs P 1 ⟨24 + d.length + m + y.length + 1, b' :: rest''.set (m + 1) (.pair .nil .nil)⟩ ⟨26 + d.length + m + y.length + n.length, b' :: rest''.set (m + 1) (.pair .nil .nil)⟩ :=
          jump_run (m + 2) _ _ _ (by rw [show 24 + d.length + m + y.length + 1 = 25 + d.length + m + y.length by omega]; exact S.je) (by rw [getR_rest, List.getElem?_set_self (by omega)]; intro e; cases e) (by omega)
        exact ⟨_, g1.trans g2, by show 26 + d.length + m + y.length + n.length = _; omega, rfl⟩)
      rwa [show 21 + k + (m + 2) + 1 + 2 = k + m + 26 by omega] at this
  · obtain ⟨q, hq⟩ := h1.fuel_le h2 F (Nat.le_refl _); rw [hg] at hq; cases hq
  · have hq := h1.big h2 h3 F h0; rw [hg] at hq; cases hq
/-- Where the decider returns nothing. -/
theorem defeat_none {P d y n : List Ins} {m : Nat} (S : SegsD P d y n m) (hm : m ≤ 29) (hd : rightAll d = true) (md : mostN d ≤ m) (C t : Tr) (hR : Runs P 19 (startS t) ⟨19, (startS (.pair C t)).regs⟩) (hC : C.size ≤ 2000000)
    (F : Nat) (hg : ∀ s k, goF d F 0 (startS C) ≠ .done s k) : (∃ s, goF P F 0 (startS t) = .fuel s F) ∨ goF P F 0 (startS t) = .big := by
  have hlen := S.len
  have h21 := def_start S hm C t hR
  have hr0 : ((List.replicate 31 Tr.nil).set m t).length = 31 := by simp
  have hc0 : Cleaned (mostN d) ((List.replicate 31 Tr.nil).set m t) := cleaned_put md (by omega) t
  rcases part_run S.sd hd (by omega) F C hC with ⟨k', s', b, h1, h2, h3, h4, -, h5⟩ | ⟨s', h1, h2, h5⟩ | ⟨k', s', h0, h1, h2, h3, h5⟩
  · exact absurd (h1.done h2 F h4) (hg _ _)
  · obtain ⟨t', g1, g2⟩ := h5 _ hr0 hc0
    exact .inl ((h21.trans g1).fuel_le g2 F (by omega))
  · obtain ⟨t', g1, g2, g3⟩ := h5 _ hr0 hc0
    by_cases hk : 21 + k' < F
    · exact .inr ((h21.trans g1).big g2 g3 F hk)
    · exact .inl ((h21.trans g1).fuel_le g2 F (by omega))

/-- The program of a liar. -/
def liarQ (h : List Ins) : List Ins := h ++ [jumpI 0 0]
theorem liarQ_right {h : List Ins} (hv : rightAll h = true) : rightAll (liarQ h) = true := by
  refine RA.all ?_
  unfold liarQ
  exact RA.append (RA.of hv (by simp)) (RA.cons (ra_jump _ _ _ _ (by omega) (by omega) (by simp; omega)) (RA.nil _ _))
def liarE (h : List Ins) : Int := if validB h = true then (if validB (liarQ h) = true then knowE (liarQ h) else 3) else 1
theorem liar_part {h : List Ins} (hv : rightAll h = true) (t u : Tr) (hR : Runs (knowL (liarQ h)) 19 (startS t) ⟨19, (startS u).regs⟩) (hu : u.size ≤ 2000000) (F : Nat) :
    (∃ s k b, goF h F 0 (startS u) = .done s k ∧ getR s.regs 0 = b ∧ k ≤ F ∧ (b = .nil → ∀ F', k + 20 ≤ F' → ∃ s', goF (knowL (liarQ h)) F' 0 (startS t) = .done s' (k + 20) ∧ getR s'.regs 0 = .nil) ∧ (b ≠ .nil → ∀ F', ∃ s', goF (knowL (liarQ h)) F' 0 (startS t) = .fuel s' F')) ∨
    (∃ s, goF h F 0 (startS u) = .fuel s F ∧ ∀ F' s' n, goF (knowL (liarQ h)) F' 0 (startS t) = .done s' n → F < n) ∨
    (goF h F 0 (startS u) = .big ∧ ∀ F', F + 19 ≤ F' → goF (knowL (liarQ h)) F' 0 (startS t) = .big) := by
  have hlen : (knowL (liarQ h)).length = 20 + h.length := by rw [knowL_heads]; simp [knowH, liarQ]; omega
  have hs0 : Seg (knowL (liarQ h)) 19 (h ++ [jumpI 0 0]) := by rw [knowL_heads]; exact Seg.right (knowH _) _
  generalize knowL (liarQ h) = P at hR hlen hs0
  have hj : P[19 + h.length]? = some (jumpI 0 0) := hs0.snd.head
  have hc0 : Cleaned (mostN h) (List.replicate 31 Tr.nil) := by unfold Cleaned; rw [List.take_replicate, Nat.min_eq_left (by have := mostN_lt32 hv; omega)]
  rcases part_run hs0.fst hv (by omega) F u hu with ⟨k, s, b, h1, h2, h3, h4, -, h5⟩ | ⟨s, h1, h2, h5⟩ | ⟨k, s, h0, h1, h2, h3, h5⟩
  · obtain ⟨rest', r1, r2, r3⟩ := h5 _ (by simp) hc0
    have hP := hR.trans r3
    refine .inl ⟨s, k, b, h1.done h2 F h4, h3, h4, fun hb F' hF => ?_, fun hb F' => ?_⟩
    · have g := hP.trans (stay_run 0 _ _ hj (by rw [hb]; rfl))
      have := g.done (by show 19 + h.length + 1 = _; omega) F' (by omega)
      rw [show 19 + k + 1 = k + 20 by omega] at this
      exact ⟨_, this, by rw [hb]; rfl⟩
    · have hloop : ∀ j, Runs P j ⟨19 + h.length, b :: rest'⟩ ⟨19 + h.length, b :: rest'⟩ := by
        intro j
        induction j with
        | zero => exact .refl _
        | succ j ih => exact ih.trans (jump_run 0 0 _ _ hj (by exact hb) (by omega))
      exact (hP.trans (hloop F')).fuel_le (by show 19 + h.length ≠ _; omega) F' (by omega)
  · obtain ⟨t', g1, g2⟩ := h5 _ (by simp) hc0
    obtain ⟨q, hq⟩ := h1.fuel_le h2 F (Nat.le_refl _)
    refine .inr (.inl ⟨q, hq, fun F' s' n hd => ?_⟩)
    rcases goF_how P F' 0 (startS t) with ⟨s2, n2, e1, e2, e3, e4⟩ | ⟨s2, e1, _⟩ | ⟨s2, n2, e1, _⟩
    · rw [hd, Nat.zero_add] at e1
      injection e1 with _ e1
      subst e1
      refine Nat.lt_of_not_le fun hle => ?_
      obtain ⟨q', hq'⟩ := (hR.trans g1).fuel_le g2 n (by omega)
      rw [e3.done e4 n (Nat.le_refl _)] at hq'
      cases hq'
    · rw [hd] at e1; cases e1
    · rw [hd] at e1; cases e1
  · obtain ⟨t', g1, g2, g3⟩ := h5 _ (by simp) hc0
    exact .inr (.inr ⟨h1.big h2 h3 F h0, fun F' hF => (hR.trans g1).big g2 g3 F' (by omega)⟩)
end Go.Proofs.Ytdjbcmfjlfkcjaa


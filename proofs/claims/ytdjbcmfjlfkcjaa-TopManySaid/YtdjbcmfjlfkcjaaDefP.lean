/- Plain: programs that defeat deciders: what they are, and how they run. -/
import Derived.Test.YtdjbcmfjlfkcjaaKnowR
namespace Go.Proofs.Ytdjbcmfjlfkcjaa
open Go.RowKit

theorem Runs.short {P : List Ins} {m : Nat} {s t : St} (h : Runs P m s t) : ∀ f n, f < m → ∃ s', goF P f n s = .fuel s' (n + f) := by
  induction h with
  | refl => intro f n hf; omega
  | @step m s t u hp hs _ ih =>
    intro f n hf
    cases f with
    | zero => exact ⟨s, goF_zero hp⟩
    | succ f =>
      obtain ⟨s', h1⟩ := ih f (n + 1) (by omega)
      exact ⟨s', by rw [goF_step hp hs, h1, show n + 1 + f = n + (f + 1) by omega]⟩
/-- A run that has not ended after so many steps. -/
theorem Runs.fuel_le {P : List Ins} {m : Nat} {s t : St} (h : Runs P m s t) (ht : t.pos ≠ P.length) (f : Nat) (hf : f ≤ m) : ∃ s', goF P f 0 s = .fuel s' f := by
  by_cases e : f = m
  · exact ⟨t, by rw [e]; exact h.fuel ht⟩
  · obtain ⟨s', h1⟩ := h.short f 0 (by omega)
    exact ⟨s', by rw [h1, Nat.zero_add]⟩
theorem part_run {P l : List Ins} {k : Nat} (h : Seg P k l) (hv : rightAll l = true) (hkl : k + l.length ≤ P.length) (F : Nat) (y : Tr) (hy : y.size ≤ 2000000) :
    (∃ m s b, Runs l m (startS y) s ∧ s.pos = l.length ∧ getR s.regs 0 = b ∧ m ≤ F ∧ b.size ≤ 2000000 ∧ ∀ rest : List Tr, rest.length = 31 → Cleaned (mostN l) rest → ∃ rest' : List Tr, rest'.length = 31 ∧ (∀ r, mostN l ≤ r → rest'[r]? = rest[r]?) ∧ Runs P m ⟨k, y :: rest⟩ ⟨k + l.length, b :: rest'⟩) ∨
    (∃ s, Runs l F (startS y) s ∧ s.pos ≠ l.length ∧ ∀ rest : List Tr, rest.length = 31 → Cleaned (mostN l) rest → ∃ t, Runs P F ⟨k, y :: rest⟩ t ∧ t.pos ≠ P.length) ∨
    (∃ m s, m < F ∧ Runs l m (startS y) s ∧ s.pos ≠ l.length ∧ stepP l s = none ∧ ∀ rest : List Tr, rest.length = 31 → Cleaned (mostN l) rest → ∃ t, Runs P m ⟨k, y :: rest⟩ t ∧ t.pos ≠ P.length ∧ stepP P t = none) := by
  have hm := mostN_lt32 hv
  have hA : mostN l < (y :: List.replicate (mostN l) Tr.nil).length := by simp
  have hsp : (startS y).regs = (y :: List.replicate (mostN l) .nil) ++ List.replicate (31 - mostN l) .nil := by
    show y :: List.replicate 31 Tr.nil = _
    rw [List.cons_append, ← List.replicate_append_replicate.symm, show mostN l + (31 - mostN l) = 31 by omega] <;> rfl
  have hrest : ∀ rest : List Tr, rest.length = 31 → Cleaned (mostN l) rest → y :: rest = (y :: List.replicate (mostN l) .nil) ++ rest.drop (mostN l) := by
    intro rest hr hc
    unfold Cleaned at hc
    rw [List.cons_append, ← hc, List.take_append_drop]
  have hbound : ∀ {m : Nat} {t : St}, Runs l m (startS y) t → t.pos ≤ l.length := fun hR => (hR.good hv (Good.start _ y hy)).1
  rcases goF_how l F 0 (startS y) with ⟨t, m, h1, h2, h3, h4⟩ | ⟨t, h1, h3, h4⟩ | ⟨t, m, h1, h2, h3, h4, h5⟩
  · obtain ⟨A', a1, a2, a3⟩ := h3.frame hA hsp
    obtain ⟨b, A'', rfl⟩ : ∃ b A'', A' = b :: A'' := by
      cases A' with
      | nil => simp at a1
      | cons b A'' => exact ⟨b, A'', rfl⟩
    refine .inl ⟨m, t, b, h3, h4, by rw [a2]; rfl, h2, (h3.good hv (Good.start _ y hy)).2.2 b (by rw [a2]; simp), fun rest hr hc => ⟨A'' ++ rest.drop (mostN l), ?_, ?_, ?_⟩⟩
    · simp only [List.length_cons, List.length_replicate] at a1
      simp; omega
    · intro r hle
      simp only [List.length_cons, List.length_replicate] at a1
      rw [List.getElem?_append_right (by omega), List.getElem?_drop, show mostN l + (r - A''.length) = r by omega]
    · have := h.runs hv hkl (a3 (rest.drop (mostN l)))
      rw [hrest rest hr hc]
      rw [h4] at this
      exact this
  · obtain ⟨A', a1, a2, a3⟩ := h3.frame hA hsp
    refine .inr (.inl ⟨t, h3, h4, fun rest hr hc => ⟨⟨k + t.pos, A' ++ rest.drop (mostN l)⟩, ?_, ?_⟩⟩)
    · rw [hrest rest hr hc]; exact h.runs hv hkl (a3 (rest.drop (mostN l)))
    · have := hbound h3
      show k + t.pos ≠ P.length; omega
  · obtain ⟨A', a1, a2, a3⟩ := h3.frame hA hsp
    have hb := hbound h3
    have hA' : mostN l < A'.length := by rw [a1]; exact hA
    have hn : stepP l ⟨t.pos, A'⟩ = none := by
      have ht : t = ⟨t.pos, A' ++ List.replicate (31 - mostN l) .nil⟩ := by rw [← a2]
      rw [ht, stepP_app hA'] at h5
      simpa using h5
    refine .inr (.inr ⟨m, t, h2, h3, h4, h5, fun rest hr hc => ⟨⟨k + t.pos, A' ++ rest.drop (mostN l)⟩, ?_, ?_, ?_⟩⟩)
    · rw [hrest rest hr hc]; exact h.runs hv hkl (a3 (rest.drop (mostN l)))
    · show k + t.pos ≠ P.length; omega
    · have hlt : t.pos < l.length := by omega
      have h6 : stepP l ⟨t.pos, A' ++ rest.drop (mostN l)⟩ = none := by rw [stepP_app hA', hn]; rfl
      have h7 := h.step hv (s := ⟨t.pos, A' ++ rest.drop (mostN l)⟩) hlt
      rw [h6] at h7
      exact h7
/-- A program that comes to a part, and to its end so many steps behind it. -/
theorem follow_part {P Q : List Ins} {t u : Tr} {rest : List Tr} {c0 c1 k : Nat} (hR : Runs P c0 (startS t) ⟨k, u :: rest⟩) (hr : rest.length = 31) (hc : Cleaned (mostN Q) rest) (hseg : Seg P k Q) (hv : rightAll Q = true) (hkl : k + Q.length ≤ P.length) (hu : u.size ≤ 2000000)
    (hend : ∀ (b : Tr) (rest' : List Tr), rest'.length = 31 → (∀ r, mostN Q ≤ r → rest'[r]? = rest[r]?) → ∃ s', Runs P c1 ⟨k + Q.length, b :: rest'⟩ s' ∧ s'.pos = P.length ∧ getR s'.regs 0 = b) : FollowP P t Q u (c0 + c1) := by
  intro F
  rcases part_run hseg hv hkl (F + c1) u hu with ⟨m, s, b, h1, h2, h3, h4, -, h5⟩ | ⟨s, h1, h2, h5⟩ | ⟨m, s, h0, h1, h2, h3, h5⟩
  · obtain ⟨rest', r1, r2, r3⟩ := h5 rest hr hc
    obtain ⟨s', e1, e2, e3⟩ := hend b rest' r1 r2
    have hP := (hR.trans r3).trans e1
    by_cases hm : m ≤ F
    · refine .inl ⟨s, s', m, h1.done h2 F hm, hm, ?_, by rw [e3, h3]⟩
      rw [show m + (c0 + c1) = c0 + m + c1 by omega]
      exact hP.done e2 _ (by omega)
    · obtain ⟨q, g1⟩ := h1.short F 0 (by omega)
      obtain ⟨q', g2⟩ := hP.short (F + (c0 + c1)) 0 (by omega)
      exact .inr (.inl ⟨q, by rw [g1, Nat.zero_add], .inl ⟨q', by rw [g2, Nat.zero_add]⟩⟩)
  · obtain ⟨t', g1, g2⟩ := h5 rest hr hc
    have hP := (hR.trans g1).fuel g2
    obtain ⟨q, hq⟩ := h1.fuel_le h2 F (by omega)
    rw [show c0 + (F + c1) = F + (c0 + c1) by omega] at hP
    exact .inr (.inl ⟨q, hq, .inl ⟨t', hP⟩⟩)
  · obtain ⟨t', g1, g2, g3⟩ := h5 rest hr hc
    have hP := (hR.trans g1).big g2 g3 (F + (c0 + c1)) (by omega)
    by_cases hm : m < F
    · exact .inr (.inr ⟨h1.big h2 h3 F hm, hP⟩)
    · obtain ⟨q, hq⟩ := h1.fuel_le h2 F (by omega)
      exact .inr (.inl ⟨q, hq, .inr hP⟩)

/-- The instructions that defeat, for what uses w registers. -/
def defQ (d y n : List Ins) (w : Nat) : List Ins := ((((((([⟨4, w, 0, 0, ⟨#[]⟩⟩, ⟨3, 0, 0, 0, ⟨#[]⟩⟩] ++ d) ++ [moveI (w + 1) 0]) ++ cleanK (w - 1)) ++ [moveI 0 w, jumpI (w + 1) ((y.length : Int) + 3)]) ++ y) ++ [setI (w + 1) ⟨#[49, 48, 48]⟩, jumpI (w + 1) ((n.length : Int) + 1)]) ++ n)
def defW (d y n : List Ins) : Nat := max (max (regN d) (regN y)) (regN n)
theorem cleanK_len (m : Nat) : (cleanK m).length = m := by simp [cleanK]
theorem defQ_length (d y n : List Ins) (w : Nat) (hw : 1 ≤ w) : (defQ d y n w).length = 6 + d.length + w + y.length + n.length := by
  unfold defQ; simp [cleanK_len]; omega
theorem ra_head (a b k n : Nat) (ha : a < 32) (hb : b < 32) : rightB ⟨3, a, b, 0, ⟨#[]⟩⟩ k n = true := by unfold rightB regB; simp; omega
theorem ra_tail (a b k n : Nat) (ha : a < 32) (hb : b < 32) : rightB ⟨4, a, b, 0, ⟨#[]⟩⟩ k n = true := by unfold rightB regB; simp; omega
theorem defQ_right {d y n : List Ins} {w : Nat} (hd : rightAll d = true) (hy : rightAll y = true) (hn : rightAll n = true) (h1 : 1 ≤ w) (hw : w ≤ 30) : rightAll (defQ d y n w) = true := by
  refine RA.all ?_
  have hl := defQ_length d y n w h1
  rw [hl]
  unfold defQ
  refine RA.append (RA.append (RA.append (RA.append (RA.append (RA.append (RA.append ?_ ?_) ?_) ?_) ?_) ?_) ?_) ?_
  · exact RA.cons (ra_tail w 0 _ _ (by omega) (by omega)) (RA.cons (ra_head 0 0 _ _ (by omega) (by omega)) (RA.nil _ _))
  · exact RA.of hd (by simp; omega)
  · exact RA.cons (ra_move _ _ _ _ (by omega) (by omega)) (RA.nil _ _)
  · exact ra_cleanK _ _ _ (by omega)
  · exact RA.cons (ra_move _ _ _ _ (by omega) (by omega)) (RA.cons (ra_jump _ _ _ _ (by omega) (by simp; omega) (by simp [cleanK_len]; omega)) (RA.nil _ _))
  · exact RA.of hy (by simp [cleanK_len]; omega)
  · exact RA.cons (ra_set _ _ _ _ (by omega) (by decide)) (RA.cons (ra_jump _ _ _ _ (by omega) (by simp; omega) (by simp [cleanK_len]; omega)) (RA.nil _ _))
  · exact RA.of hn (by simp [cleanK_len]; omega)
/-- The error of Defeat. -/
def defE (d y n : List Ins) : Int := if validB d = true ∧ validB y = true ∧ validB n = true then (if 30 < defW d y n then 8 else if validB (defQ d y n (defW d y n)) = true then knowE (defQ d y n (defW d y n)) else 3) else 1

theorem Seg.fst {P a b : List Ins} {k : Nat} (h : Seg P k (a ++ b)) : Seg P k a := fun i x hx => h i x (by rw [List.getElem?_append_left (List.getElem?_eq_some_iff.1 hx).1]; exact hx)
theorem Seg.snd {P a b : List Ins} {k : Nat} (h : Seg P k (a ++ b)) : Seg P (k + a.length) b := fun i x hx => by
  have := h (a.length + i) x (by rw [List.getElem?_append_right (by omega), show a.length + i - a.length = i by omega]; exact hx)
  rwa [← Nat.add_assoc] at this
theorem Seg.head {P : List Ins} {x : Ins} {l : List Ins} {k : Nat} (h : Seg P k (x :: l)) : P[k]? = some x := h 0 x rfl
theorem Seg.next {P : List Ins} {x : Ins} {l : List Ins} {k : Nat} (h : Seg P k (x :: l)) : Seg P (k + 1) l := fun i y hy => by
  have := h (i + 1) y hy
  rwa [show k + (i + 1) = k + 1 + i by omega] at this

theorem getR_rest (a : Tr) (rest : List Tr) (r : Nat) : getR (a :: rest) ((r + 1 : Nat) : Int) = rest[r]?.getD .nil := by
  unfold getR; rw [show ((r + 1 : Nat) : Int).toNat = r + 1 by omega, List.getElem?_cons_succ]
theorem setR_rest (a t : Tr) (rest : List Tr) (r : Nat) : setR (a :: rest) ((r + 1 : Nat) : Int) t = a :: rest.set r t := by
  unfold setR; rw [show ((r + 1 : Nat) : Int).toNat = r + 1 by omega, List.set_cons_succ]
theorem getR_zero (a : Tr) (rest : List Tr) : getR (a :: rest) 0 = a := rfl
theorem setR_zero (a t : Tr) (rest : List Tr) : setR (a :: rest) 0 t = t :: rest := rfl
theorem move_run {P : List Ins} {p : Nat} (a b : Nat) (v : Tr) (rs rs' : List Tr) (hx : P[p]? = some (moveI a b)) (hv : getR rs (b : Int) = v) (hr : setR rs (a : Int) v = rs') : Runs P 1 ⟨p, rs⟩ ⟨p + 1, rs'⟩ := by
  refine Runs.one hx ?_
  subst hv; subst hr
  rfl
theorem stay_run {P : List Ins} {p : Nat} (a : Nat) (b : Int) (rs : List Tr) (hx : P[p]? = some (jumpI a b)) (hv : getR rs (a : Int) = .nil) : Runs P 1 ⟨p, rs⟩ ⟨p + 1, rs⟩ := by
  refine Runs.one hx ?_
  unfold stepX jumpI
  simp [hv]
theorem jump_run {P : List Ins} {p : Nat} (a : Nat) (b : Int) (rs : List Tr) (p' : Nat) (hx : P[p]? = some (jumpI a b)) (hv : getR rs (a : Int) ≠ .nil) (hp : (p : Int) + b = p') : Runs P 1 ⟨p, rs⟩ ⟨p', rs⟩ := by
  refine Runs.one hx ?_
  unfold stepX jumpI
  simp [hv]
  omega
/-- Where the parts stand. -/
structure SegsD (P d y n : List Ins) (m : Nat) : Prop where
  len : P.length = 26 + d.length + m + y.length + n.length
  tail : P[19]? = some ⟨4, (m + 1 : Nat), 0, 0, ⟨#[]⟩⟩
  head : P[20]? = some ⟨3, 0, 0, 0, ⟨#[]⟩⟩
  sd : Seg P 21 d
  mv : P[21 + d.length]? = some (moveI (m + 2) 0)
  cl : Seg P (22 + d.length) (cleanK m)
  bk : P[22 + d.length + m]? = some (moveI 0 (m + 1))
  jp : P[23 + d.length + m]? = some (jumpI (m + 2) ((y.length : Int) + 3))
  sy : Seg P (24 + d.length + m) y
  st : P[24 + d.length + m + y.length]? = some (setI (m + 2) ⟨#[49, 48, 48]⟩)
  je : P[25 + d.length + m + y.length]? = some (jumpI (m + 2) ((n.length : Int) + 1))
  sn : Seg P (26 + d.length + m + y.length) n
theorem segsD (d y n : List Ins) (m : Nat) : SegsD (knowL (defQ d y n (m + 1))) d y n m := by
  have h0 : Seg (knowL (defQ d y n (m + 1))) 19 (defQ d y n (m + 1)) := by rw [knowL_heads]; exact Seg.right (knowH _) _
  have hlen : (knowL (defQ d y n (m + 1))).length = 26 + d.length + m + y.length + n.length := by
    rw [knowL_heads, List.length_append, defQ_length _ _ _ _ (by omega)]
    simp [knowH]; omega
  generalize knowL (defQ d y n (m + 1)) = P at h0 hlen
  unfold defQ at h0
  have a8 := h0.snd
  have a7 := h0.fst.snd
  have a6 := h0.fst.fst.snd
  have a5 := h0.fst.fst.fst.snd
  have a4 := h0.fst.fst.fst.fst.snd
  have a3 := h0.fst.fst.fst.fst.fst.snd
  have a2 := h0.fst.fst.fst.fst.fst.fst.snd
  have a1 := h0.fst.fst.fst.fst.fst.fst.fst
  have hm : m + 1 - 1 = m := by omega
  simp only [List.length_append, List.length_cons, List.length_nil, cleanK_len, hm] at a2 a3 a4 a5 a6 a7 a8
  exact ⟨hlen, a1.head, a1.next.head, a2, (congrArg (P[·]?) (by omega)).trans a3.head, by rw [show 22 + d.length = 19 + (0 + 1 + 1 + d.length + (0 + 1)) by omega]; exact a4,
    (congrArg (P[·]?) (by omega)).trans a5.head, (congrArg (P[·]?) (by omega)).trans a5.next.head,
    by rw [show 24 + d.length + m = 19 + (0 + 1 + 1 + d.length + (0 + 1) + m + (0 + 1 + 1)) by omega]; exact a6,
    (congrArg (P[·]?) (by omega)).trans a7.head, (congrArg (P[·]?) (by omega)).trans a7.next.head,
    by rw [show 26 + d.length + m + y.length = 19 + (0 + 1 + 1 + d.length + (0 + 1) + m + (0 + 1 + 1) + y.length + (0 + 1 + 1)) by omega]; exact a8⟩
end Go.Proofs.Ytdjbcmfjlfkcjaa


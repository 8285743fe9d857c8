/- Plain: runs step by step; a run looks at no register that the program does not name; programs within others. -/
import Derived.Test.YtdjbcmfjlfkcjaaBuildV
namespace Go.Proofs.Ytdjbcmfjlfkcjaa
open Go.RowKit

inductive Runs (P : List Ins) : Nat → St → St → Prop
  | refl (s : St) : Runs P 0 s s
  | step {m : Nat} {s t u : St} (h : s.pos ≠ P.length) (hs : stepP P s = some t) (r : Runs P m t u) : Runs P (m + 1) s u
theorem Runs.trans {P : List Ins} {a b : Nat} {s t u : St} (h : Runs P a s t) (g : Runs P b t u) : Runs P (a + b) s u := by
  induction h with
  | refl => rwa [Nat.zero_add]
  | step h hs _ ih => rw [Nat.add_right_comm]; exact .step h hs (ih g)
theorem Runs.one {P : List Ins} {s t : St} {x : Ins} (hx : P[s.pos]? = some x) (hs : stepX x s = some t) : Runs P 1 s t := by
  have hl := (List.getElem?_eq_some_iff.1 hx).1
  exact .step (by omega) (by unfold stepP; rw [hx]; exact hs) (.refl _)
theorem Runs.eq {P : List Ins} {m : Nat} {s t : St} (h : Runs P m s t) : ∀ f n, m ≤ f → goF P f n s = goF P (f - m) (n + m) t := by
  induction h with
  | refl => intro f n _; rfl
  | @step m s t u h hs _ ih =>
    intro f n hf
    obtain ⟨g, rfl⟩ : ∃ g, f = g + 1 := ⟨f - 1, by omega⟩
    rw [goF_step h hs, ih g (n + 1) (by omega), show g + 1 - (m + 1) = g - m by omega, show n + (m + 1) = n + 1 + m by omega]
theorem Runs.done {P : List Ins} {m : Nat} {s t : St} (h : Runs P m s t) (ht : t.pos = P.length) (f : Nat) (hf : m ≤ f) : goF P f 0 s = .done t m := by
  rw [h.eq f 0 hf, goF_done ht, Nat.zero_add]
theorem Runs.fuel {P : List Ins} {m : Nat} {s t : St} (h : Runs P m s t) (ht : t.pos ≠ P.length) : goF P m 0 s = .fuel t m := by
  rw [h.eq m 0 (Nat.le_refl _), Nat.sub_self, goF_zero ht, Nat.zero_add]
theorem Runs.big {P : List Ins} {m : Nat} {s t : St} (h : Runs P m s t) (ht : t.pos ≠ P.length) (hn : stepP P t = none) (f : Nat) (hf : m < f) : goF P f 0 s = .big := by
  obtain ⟨g, hg⟩ : ∃ g, f - m = g + 1 := ⟨f - m - 1, by omega⟩
  rw [h.eq f 0 (by omega), hg, goF_big ht hn]
/-- How a run goes. -/
theorem goF_how (l : List Ins) : ∀ (f n : Nat) (s : St),
    (∃ t m, goF l f n s = .done t (n + m) ∧ m ≤ f ∧ Runs l m s t ∧ t.pos = l.length) ∨
    (∃ t, goF l f n s = .fuel t (n + f) ∧ Runs l f s t ∧ t.pos ≠ l.length) ∨
    (∃ t m, goF l f n s = .big ∧ m < f ∧ Runs l m s t ∧ t.pos ≠ l.length ∧ stepP l t = none) := by
  intro f
  induction f with
  | zero =>
    intro n s
    by_cases hp : s.pos = l.length
    · exact .inl ⟨s, 0, goF_done hp, Nat.le_refl _, .refl _, hp⟩
    · exact .inr (.inl ⟨s, goF_zero hp, .refl _, hp⟩)
  | succ f ih =>
    intro n s
    by_cases hp : s.pos = l.length
    · exact .inl ⟨s, 0, goF_done hp, by omega, .refl _, hp⟩
    · cases hs : stepP l s with
      | none => exact .inr (.inr ⟨s, 0, goF_big hp hs, by omega, .refl _, hp, hs⟩)
      | some s1 =>
        rw [goF_step hp hs]
        rcases ih (n + 1) s1 with ⟨t, m, h1, h2, h3, h4⟩ | ⟨t, h1, h3, h4⟩ | ⟨t, m, h1, h2, h3, h4, h5⟩
        · exact .inl ⟨t, m + 1, by rw [h1, show n + 1 + m = n + (m + 1) by omega], by omega, .step hp hs h3, h4⟩
        · exact .inr (.inl ⟨t, by rw [h1, show n + 1 + f = n + (f + 1) by omega], .step hp hs h3, h4⟩)
        · exact .inr (.inr ⟨t, m + 1, h1, by omega, .step hp hs h3, h4, h5⟩)
theorem Runs.good {l : List Ins} (hv : rightAll l = true) {m : Nat} {s t : St} (h : Runs l m s t) (hg : Good l.length s) : Good l.length t := by
  induction h with
  | refl => exact hg
  | step h hs _ ih => exact ih (hg.step hv hs)

/-- The same, within another program. -/
theorem Seg.runs {P l : List Ins} {k : Nat} (h : Seg P k l) (hv : rightAll l = true) (hkl : k + l.length ≤ P.length) {m : Nat} {s t : St} (hR : Runs l m s t) : Runs P m ⟨k + s.pos, s.regs⟩ ⟨k + t.pos, t.regs⟩ := by
  induction hR with
  | refl => exact .refl _
  | @step m s t u hp hs _ ih =>
    have hlt : s.pos < l.length := by
      unfold stepP at hs
      cases hx : l[s.pos]? with
      | none => rw [hx] at hs; cases hs
      | some x => exact (List.getElem?_eq_some_iff.1 hx).1
    exact .step (by show k + s.pos ≠ P.length; omega) (by rw [h.step hv hlt, hs]; rfl) ih

/-- Registers that an instruction does not name. -/
theorem getR_app {A B : List Tr} {a : Int} (h : a.toNat < A.length) : getR (A ++ B) a = getR A a := by unfold getR; rw [List.getElem?_append_left h]
theorem setR_app {A B : List Tr} {a : Int} {t : Tr} (h : a.toNat < A.length) : setR (A ++ B) a t = setR A a t ++ B := by unfold setR; rw [List.set_append_left _ _ h]
theorem stepX_app {x : Ins} {A : List Tr} (hx : rX x < A.length) (p : Nat) (B : List Tr) : stepX x ⟨p, A ++ B⟩ = (stepX x ⟨p, A⟩).map fun s => ⟨s.pos, s.regs ++ B⟩ := by
  unfold rX at hx
  unfold stepX
  simp only
  by_cases h5 : x.op = 5
  · rw [if_pos h5] at hx
    rw [getR_app hx]
    simp only [h5]
    simp only [show ¬ (5 : Int) = 0 by decide, show ¬ (5 : Int) = 1 by decide, show ¬ (5 : Int) = 2 by decide, show ¬ (5 : Int) = 3 by decide, show ¬ (5 : Int) = 4 by decide, if_false]
    split <;> rfl
  · rw [if_neg h5] at hx
    have ha : x.a.toNat < A.length := by omega
    have hb : x.b.toNat < A.length := by omega
    have hc : x.c.toNat < A.length := by omega
    rw [getR_app ha, getR_app hb, getR_app hc, setR_app ha, setR_app ha, setR_app ha, setR_app ha, setR_app ha]
    split
    · rfl
    · split
      · rfl
      · split
        · split <;> rfl
        · split
          · rfl
          · split
            · rfl
            · split <;> rfl
theorem stepX_len {x : Ins} {s t : St} (h : stepX x s = some t) : t.regs.length = s.regs.length := by
  unfold stepX at h
  split at h
  · cases h; simp [setR]
  · split at h
    · cases h; simp [setR]
    · split at h
      · split at h
        · cases h; simp [setR]
        · cases h
      · split at h
        · cases h; simp [setR]
        · split at h
          · cases h; simp [setR]
          · split at h <;> cases h <;> rfl
theorem rX_le_most {l : List Ins} {x : Ins} (h : x ∈ l) : rX x ≤ mostN l := by
  unfold mostN
  have hm : rX x ∈ l.map rX := List.mem_map.2 ⟨x, h, rfl⟩
  revert hm
  generalize l.map rX = m
  intro hm
  induction m with
  | nil => cases hm
  | cons a m ih =>
    simp only [List.foldr_cons]
    rcases List.mem_cons.1 hm with h | h
    · omega
    · have := ih h; omega
theorem stepP_app {l : List Ins} {A : List Tr} (hA : mostN l < A.length) (p : Nat) (B : List Tr) : stepP l ⟨p, A ++ B⟩ = (stepP l ⟨p, A⟩).map fun s => ⟨s.pos, s.regs ++ B⟩ := by
  unfold stepP
  simp only
  cases hx : l[p]? with
  | none => rfl
  | some x => exact stepX_app (Nat.lt_of_le_of_lt (rX_le_most (List.mem_of_getElem? hx)) hA) p B
theorem stepP_len {l : List Ins} {s t : St} (h : stepP l s = some t) : t.regs.length = s.regs.length := by
  unfold stepP at h
  split at h
  · exact stepX_len h
  · cases h
/-- A run, whatever stands in the other registers. -/
theorem Runs.frame {l : List Ins} {m : Nat} {B : List Tr} : ∀ {s t : St}, Runs l m s t → ∀ {A : List Tr}, mostN l < A.length → s.regs = A ++ B →
    ∃ A', A'.length = A.length ∧ t.regs = A' ++ B ∧ ∀ C, Runs l m ⟨s.pos, A ++ C⟩ ⟨t.pos, A' ++ C⟩ := by
  intro s t h
  induction h with
  | refl s => intro A hA hs; exact ⟨A, rfl, hs, fun C => .refl _⟩
  | @step m s t u hp hs _ ih =>
    intro A hA hr
    have hs' : s = ⟨s.pos, A ++ B⟩ := by rw [← hr]
    rw [hs', stepP_app hA] at hs
    cases h1 : stepP l ⟨s.pos, A⟩ with
    | none => rw [h1] at hs; cases hs
    | some s1 =>
      rw [h1] at hs
      simp only [Option.map_some, Option.some.injEq] at hs
      have hl1 := stepP_len h1
      obtain ⟨A', h2, h3, h4⟩ := ih (A := s1.regs) (by rw [hl1]; exact hA) (by rw [← hs])
      refine ⟨A', by rw [h2, hl1], h3, fun C => .step hp (t := ⟨s1.pos, s1.regs ++ C⟩) ?_ ?_⟩
      · rw [stepP_app hA, h1]; rfl
      · have h5 := h4 C
        rwa [← hs] at h5

/-- Cleaned registers. -/
def Cleaned (m : Nat) (rest : List Tr) : Prop := rest.take m = List.replicate m .nil
theorem cleanRuns {P : List Ins} {k m : Nat} (h : Seg P k (cleanK m)) (a : Tr) (rest : List Tr) (hr : rest.length = 31) (hm : m < 32) : Runs P m ⟨k, a :: rest⟩ ⟨k + m, a :: (List.replicate m .nil ++ rest.drop m)⟩ := by
  have hmain : ∀ j, j ≤ m → Runs P j ⟨k, a :: rest⟩ ⟨k + j, a :: (List.replicate j .nil ++ rest.drop j)⟩ := by
    intro j
    induction j with
    | zero => intro _; exact .refl _
    | succ j ih =>
      intro hj
      refine (ih (by omega)).trans (Runs.one (x := setI (j + 1) ⟨#[48]⟩) (h j _ (by unfold cleanK; rw [List.getElem?_map, List.getElem?_range (by omega)]; rfl)) ?_)
      unfold stepX setI
      simp only [if_true]
      have ht : toTr ⟨#[48]⟩ = .nil := by decide
      have hset : setR (a :: (List.replicate j .nil ++ rest.drop j)) ((j + 1 : Nat) : Int) .nil = a :: (List.replicate (j + 1) .nil ++ rest.drop (j + 1)) := by
        unfold setR
        rw [show ((j + 1 : Nat) : Int).toNat = j + 1 by omega, List.set_cons_succ, List.set_append_right _ _ (by simp), List.length_replicate, Nat.sub_self]
        have hd : rest.drop j = rest[j] :: rest.drop (j + 1) := List.drop_eq_getElem_cons (by omega)
        rw [hd, List.set_cons_zero, List.replicate_succ', List.append_assoc]
        rfl
      rw [ht, hset]
      rfl
  exact hmain m (Nat.le_refl _)
theorem cleaned_self (m : Nat) (rest : List Tr) : Cleaned m (List.replicate m .nil ++ rest.drop m) := by unfold Cleaned; rw [List.take_append_of_le_length (by simp)]; simp
theorem cleaned_keep {m r : Nat} {rest : List Tr} (_hr : rest.length = 31) (hm : m ≤ r) (_hm2 : m ≤ 31) : (List.replicate m .nil ++ rest.drop m)[r]? = rest[r]? := by
  rw [List.getElem?_append_right (by simpa using hm), List.getElem?_drop, List.length_replicate, show m + (r - m) = r by omega]

/-- A part, run on a tree. -/
def partR (l : List Ins) (F : Nat) (y : Tr) : Res := goF l F 0 (startS y)
/-- How a part goes within another program. -/
theorem part_how {P l : List Ins} {k : Nat} (h : Seg P k l) (hv : rightAll l = true) (hkl : k + l.length ≤ P.length) (F : Nat) (y : Tr) (hy : y.size ≤ 2000000) :
    (∃ m b, (partR l F y).run = (TS b, m, 0) ∧ m ≤ F ∧ b.size ≤ 2000000 ∧ ∀ rest : List Tr, rest.length = 31 → Cleaned (mostN l) rest → ∃ rest' : List Tr, rest'.length = 31 ∧ (∀ r, mostN l ≤ r → rest'[r]? = rest[r]?) ∧ Runs P m ⟨k, y :: rest⟩ ⟨k + l.length, b :: rest'⟩) ∨
    ((partR l F y).run = (⟨#[]⟩, 0, 7) ∧ ∀ rest : List Tr, rest.length = 31 → Cleaned (mostN l) rest → ∃ t, Runs P F ⟨k, y :: rest⟩ t ∧ t.pos ≠ P.length) ∨
    ((partR l F y).run = (⟨#[]⟩, 0, 3) ∧ ∀ rest : List Tr, rest.length = 31 → Cleaned (mostN l) rest → ∃ m t, m < F ∧ Runs P m ⟨k, y :: rest⟩ t ∧ t.pos ≠ P.length ∧ stepP P t = none) := by
  have hm := mostN_lt32 hv
  -- the registers that the program names
  have hA : mostN l < (y :: List.replicate (mostN l) Tr.nil).length := by simp
  have hsp : (startS y).regs = (y :: List.replicate (mostN l) .nil) ++ List.replicate (31 - mostN l) .nil := by
    show y :: List.replicate 31 Tr.nil = _
    rw [List.cons_append, ← List.replicate_append_replicate.symm, show mostN l + (31 - mostN l) = 31 by omega] <;> rfl
  have hrest : ∀ rest : List Tr, rest.length = 31 → Cleaned (mostN l) rest → y :: rest = (y :: List.replicate (mostN l) .nil) ++ rest.drop (mostN l) := by
    intro rest hr hc
    unfold Cleaned at hc
    rw [List.cons_append, ← hc, List.take_append_drop]
  have hbound : ∀ {m : Nat} {t : St}, Runs l m (startS y) t → t.pos ≤ l.length := fun hR => (hR.good hv (Good.start _ y hy)).1
  rcases goF_how l F 0 (startS y) with ⟨t, m, h1, h2, h3, h4⟩ | ⟨t, h1, h3, h4⟩ | ⟨t, m, h1, h2, h3, h4, h5⟩
  · obtain ⟨A', a1, a2, a3⟩ := h3.frame hA hsp
    obtain ⟨b, A'', rfl⟩ : ∃ b A'', A' = b :: A'' := by
      cases A' with
      | nil => simp at a1
      | cons b A'' => exact ⟨b, A'', rfl⟩
    refine .inl ⟨m, b, ?_, h2, (h3.good hv (Good.start _ y hy)).2.2 b (by rw [a2]; simp), fun rest hr hc => ⟨A'' ++ rest.drop (mostN l), ?_, ?_, ?_⟩⟩
    · unfold partR
      rw [h1, Nat.zero_add]
      show (TS (getR t.regs 0), m, 0) = _
      rw [a2]; rfl
    · simp only [List.length_cons, List.length_replicate] at a1
      simp; omega
    · intro r hle
      simp only [List.length_cons, List.length_replicate] at a1
      rw [List.getElem?_append_right (by omega), List.getElem?_drop, show mostN l + (r - A''.length) = r by omega]
    · have := h.runs hv hkl (a3 (rest.drop (mostN l)))
      rw [hrest rest hr hc]
      rw [h4] at this
      exact this
  · obtain ⟨A', a1, a2, a3⟩ := h3.frame hA hsp
    refine .inr (.inl ⟨by unfold partR; rw [h1]; rfl, fun rest hr hc => ⟨⟨k + t.pos, A' ++ rest.drop (mostN l)⟩, ?_, ?_⟩⟩)
    · rw [hrest rest hr hc]; exact h.runs hv hkl (a3 (rest.drop (mostN l)))
    · have := hbound h3
      show k + t.pos ≠ P.length; omega
  · obtain ⟨A', a1, a2, a3⟩ := h3.frame hA hsp
    have hb := hbound h3
    have hA' : mostN l < A'.length := by rw [a1]; exact hA
    have hn : stepP l ⟨t.pos, A'⟩ = none := by
      have ht : t = ⟨t.pos, A' ++ List.replicate (31 - mostN l) .nil⟩ := by rw [← a2]
      rw [ht, stepP_app hA'] at h5
      simpa using h5
    refine .inr (.inr ⟨by unfold partR; rw [h1]; rfl, fun rest hr hc => ⟨m, ⟨k + t.pos, A' ++ rest.drop (mostN l)⟩, h2, ?_, ?_, ?_⟩⟩)
    · rw [hrest rest hr hc]; exact h.runs hv hkl (a3 (rest.drop (mostN l)))
    · show k + t.pos ≠ P.length; omega
    · have hlt : t.pos < l.length := by omega
      have h6 : stepP l ⟨t.pos, A' ++ rest.drop (mostN l)⟩ = none := by rw [stepP_app hA', hn]; rfl
      have h7 := h.step hv (s := ⟨t.pos, A' ++ rest.drop (mostN l)⟩) hlt
      rw [h6] at h7
      exact h7

end Go.Proofs.Ytdjbcmfjlfkcjaa


/- A run of a program that is composed, followed along its parts. -/
import Derived.Test.YtdjbcmfjlfkcjaaPlay
namespace Go.Proofs.Ytdjbcmfjlfkcjaa
open Go.RowKit

/-- So far the program has done so many steps, and is in such a state; or it ends with an error. -/
def Pg (P : List Ins) (s0 : St) (S : Nat) (E : Int) (K : St → Prop) : Prop := (E = 0 → ∃ s, Runs P S s0 s ∧ K s) ∧ (E ≠ 0 → (goF P S 0 s0).run = (⟨#[]⟩, 0, E))
/-- At a place, with a tree in register 0, and what is said of the other registers. -/
def AtX (k : Nat) (x : ByteArray) (R : List Tr → Prop) (s : St) : Prop := ∃ y rest, TS y = x ∧ y.size ≤ 2000000 ∧ s = ⟨k, y :: rest⟩ ∧ rest.length = 31 ∧ R rest
theorem Pg.start (P : List Ins) (s0 : St) : Pg P s0 0 0 (fun s => s = s0) := ⟨fun _ => ⟨s0, .refl _, rfl⟩, fun e => absurd rfl e⟩
theorem Pg.weaken {P : List Ins} {s0 : St} {S : Nat} {E : Int} {K K' : St → Prop} (h : Pg P s0 S E K) (hK : ∀ s, K s → K' s) : Pg P s0 S E K' := ⟨fun e => by obtain ⟨s, h1, h2⟩ := h.1 e; exact ⟨s, h1, hK s h2⟩, h.2⟩
theorem Pg.other {P : List Ins} {s0 : St} {S : Nat} {E : Int} {K K' : St → Prop} (h : Pg P s0 S E K) (n : Nat) (hK : ∀ s, K s → ∃ s', Runs P n s s' ∧ K' s') : Pg P s0 (otherS n S E) E K' := by
  refine ⟨fun e => ?_, fun e => ?_⟩
  · obtain ⟨s, h1, h2⟩ := h.1 e
    obtain ⟨s', h3, h4⟩ := hK s h2
    unfold otherS; rw [if_pos e]
    exact ⟨s', h1.trans h3, h4⟩
  · unfold otherS; rw [if_neg e]; exact h.2 e
theorem Pg.tree {P : List Ins} {s0 : St} {S : Nat} {E : Int} {k : Nat} {x : ByteArray} {R : List Tr → Prop} (h : Pg P s0 S E (AtX k x R)) : E = 0 → isTree x = true := fun e => by
  obtain ⟨s, _, y, rest, h1, h2, _⟩ := h.1 e
  rw [← h1]; exact isTree_TS y h2
theorem Pg.ended {P : List Ins} {s0 : St} {S : Nat} {E : Int} {X : ByteArray} {R : List Tr → Prop} (h : Pg P s0 S E (AtX P.length X R)) : Ended P s0 S E X := by
  refine ⟨fun e => ?_, h.2⟩
  obtain ⟨s, h1, y, rest, h2, h3, rfl, _⟩ := h.1 e
  rw [h1.done rfl S (Nat.le_refl _)]
  show (TS (getR (y :: rest) 0), S, (0 : Int)) = _
  rw [← h2]; rfl
theorem Pg.part {P l : List Ins} {s0 : St} {S : Nat} {E : Int} {k : Nat} {x : ByteArray} {R R' : List Tr → Prop} (h : Pg P s0 S E (AtX k x R)) (hseg : Seg P k l) (hv : rightAll l = true) (hkl : k + l.length ≤ P.length)
    (hR : ∀ rest, rest.length = 31 → R rest → Cleaned (mostN l) rest) (hR' : ∀ rest rest' : List Tr, rest.length = 31 → rest'.length = 31 → R rest → (∀ r, mostN l ≤ r → rest'[r]? = rest[r]?) → R' rest') :
    Pg P s0 (partF l S E x).2.1 (partF l S E x).2.2 (AtX (k + l.length) (partF l S E x).1 R') := by
  by_cases e : E = 0
  · obtain ⟨s, h1, y, rest, rfl, hy, rfl, hr, hr2⟩ := h.1 e
    have hp : partF l S E (TS y) = ((partR l 2000 y).run.1, S + (partR l 2000 y).run.2.1 + (if (partR l 2000 y).run.2.2 = 0 then 0 else 2000), (partR l 2000 y).run.2.2) := by
      unfold partF; rw [if_pos e, toTr_TS y hy]
    rw [hp]
    rcases part_how hseg hv hkl 2000 y hy with ⟨m, b, a1, a2, a2', a3⟩ | ⟨a1, a3⟩ | ⟨a1, a3⟩
    · rw [a1]
      obtain ⟨rest', b1, b2, b3⟩ := a3 rest hr (hR rest hr hr2)
      refine ⟨fun _ => ⟨_, h1.trans b3, b, rest', rfl, a2', rfl, b1, hR' rest rest' hr b1 hr2 b2⟩, fun e => absurd rfl e⟩
    · rw [a1]
      obtain ⟨t, b1, b2⟩ := a3 rest hr (hR rest hr hr2)
      refine ⟨fun e => absurd (show (7 : Int) = 0 from e) (by decide), fun _ => ?_⟩
      show (goF P (S + 0 + (if (7 : Int) = 0 then 0 else 2000)) 0 s0).run = _
      rw [show S + 0 + (if (7 : Int) = 0 then 0 else 2000) = S + 2000 from rfl, (h1.trans b1).fuel b2]; rfl
    · rw [a1]
      obtain ⟨m, t, b0, b1, b2, b3⟩ := a3 rest hr (hR rest hr hr2)
      refine ⟨fun e => absurd (show (3 : Int) = 0 from e) (by decide), fun _ => ?_⟩
      show (goF P (S + 0 + (if (3 : Int) = 0 then 0 else 2000)) 0 s0).run = _
      rw [show S + 0 + (if (3 : Int) = 0 then 0 else 2000) = S + 2000 from rfl, (h1.trans b1).big b2 b3 _ (by omega)]; rfl
  · have hp : partF l S E x = (⟨#[]⟩, S, E) := by unfold partF; rw [if_neg e]
    rw [hp]
    exact ⟨fun e2 => absurd e2 e, h.2⟩
/-- Some registers hold something. -/
def Holds (hs : List (Nat × Tr)) (rest : List Tr) : Prop := ∀ p ∈ hs, rest[p.1]? = some p.2
theorem Holds.nil (rest : List Tr) : Holds [] rest := fun p h => by cases h
theorem Pg.cleaned {P l : List Ins} {s0 : St} {S : Nat} {E : Int} {k : Nat} {x : ByteArray} {hs : List (Nat × Tr)} (h : Pg P s0 S E (AtX k x (Holds hs))) (hseg : Seg P k (cleanP l)) (hv : rightAll l = true) (hkl : k + (cleanP l).length ≤ P.length) (hh : ∀ p ∈ hs, mostN l ≤ p.1) :
    Pg P s0 (cleanF l S E x).2.1 (cleanF l S E x).2.2 (AtX (k + (cleanP l).length) (cleanF l S E x).1 (Holds hs)) := by
  have hm := mostN_lt32 hv
  have hs1 : Seg P k (cleanK (mostN l)) := fun i y hy => hseg i y (by unfold cleanP cleanH; rw [List.getElem?_append_left (List.getElem?_eq_some_iff.1 hy).1]; exact hy)
  have hs2 : Seg P (k + mostN l) l := fun i y hy => by
    have := hseg (mostN l + i) y (by unfold cleanP cleanH; rw [List.getElem?_append_right (by rw [cleanK_length]; omega), cleanK_length, Nat.add_sub_cancel_left]; exact hy)
    rwa [show k + (mostN l + i) = k + mostN l + i by omega] at this
  have h1 : Pg P s0 (otherS (mostN l) S E) E (AtX (k + mostN l) x fun rest => Holds hs rest ∧ Cleaned (mostN l) rest) := by
    refine h.other _ fun s hk => ?_
    obtain ⟨y, rest, a1, a2, rfl, a3, a4⟩ := hk
    refine ⟨_, cleanRuns hs1 y rest a3 hm, y, _, a1, a2, rfl, by simp; omega, fun p hp => ?_, cleaned_self _ _⟩
    rw [cleaned_keep a3 (hh p hp) (by omega)]; exact a4 p hp
  have hkl : k + mostN l + l.length ≤ P.length := by rw [cleanP_length] at hkl; omega
  have h2 := h1.part (R' := Holds hs) hs2 hv hkl (fun rest _ hr => hr.2) (fun rest rest' _ _ hr he p hp => by rw [he p.1 (hh p hp)]; exact hr.1 p hp)
  have h3 : k + mostN l + l.length = k + (cleanP l).length := by rw [cleanP_length]; omega
  rw [h3] at h2
  exact h2

/-- Single steps. -/
theorem at_save {P : List Ins} {k n : Nat} {x : ByteArray} {hs : List (Nat × Tr)} (hn : n ≤ 30) (hP : P[k]? = some (moveI (n + 1) 0)) (hh : ∀ p ∈ hs, p.1 ≠ n) {s : St} (h : AtX k x (Holds hs) s) : ∃ s', Runs P 1 s s' ∧ AtX (k + 1) x (Holds ((n, toTr x) :: hs)) s' := by
  obtain ⟨y, rest, rfl, a2, rfl, a3, a4⟩ := h
  refine ⟨_, Runs.one hP (t := ⟨k + 1, y :: rest.set n y⟩) (by unfold stepX moveI; simp only [show ¬ (1 : Int) = 0 by decide, if_false, if_true]; rfl), y, _, rfl, a2, rfl, by simpa using a3, fun p hp => ?_⟩
  rw [toTr_TS y a2] at hp
  rcases List.mem_cons.1 hp with rfl | hp
  · rw [List.getElem?_set_self (by omega)]
  · rw [List.getElem?_set_ne (fun e => hh p hp e.symm)]; exact a4 p hp
theorem at_load {P : List Ins} {k n : Nat} {x : ByteArray} {hs : List (Nat × Tr)} {t : Tr} (hP : P[k]? = some (moveI 0 (n + 1))) (ht : t.size ≤ 2000000) (hh : (n, t) ∈ hs) {s : St} (h : AtX k x (Holds hs) s) : ∃ s', Runs P 1 s s' ∧ AtX (k + 1) (TS t) (Holds hs) s' := by
  obtain ⟨y, rest, rfl, a2, rfl, a3, a4⟩ := h
  refine ⟨_, Runs.one hP (t := ⟨k + 1, t :: rest⟩) ?_, t, _, rfl, ht, rfl, a3, a4⟩
  have h1 := a4 _ hh
  unfold stepX moveI
  simp only [show ¬ (1 : Int) = 0 by decide, if_false, if_true]
  have : getR (y :: rest) ((n + 1 : Nat) : Int) = t := by unfold getR; rw [show ((n + 1 : Nat) : Int).toNat = n + 1 by omega, List.getElem?_cons_succ, h1]; rfl
  rw [this]; rfl
theorem at_set {P : List Ins} {k n : Nat} {x : ByteArray} {hs : List (Nat × Tr)} {b : ByteArray} (hn : n ≤ 30) (hP : P[k]? = some (setI (n + 1) b)) (hh : ∀ p ∈ hs, p.1 ≠ n) {s : St} (h : AtX k x (Holds hs) s) : ∃ s', Runs P 1 s s' ∧ AtX (k + 1) x (Holds ((n, toTr b) :: hs)) s' := by
  obtain ⟨y, rest, rfl, a2, rfl, a3, a4⟩ := h
  refine ⟨_, Runs.one hP (t := ⟨k + 1, y :: rest.set n (toTr b)⟩) (by unfold stepX setI; simp only [if_true]; rfl), y, _, rfl, a2, rfl, by simpa using a3, fun p hp => ?_⟩
  rcases List.mem_cons.1 hp with rfl | hp
  · rw [List.getElem?_set_self (by omega)]
  · rw [List.getElem?_set_ne (fun e => hh p hp e.symm)]; exact a4 p hp
/-- A jump by register 0. -/
theorem at_jump0 {P : List Ins} {k : Nat} {x : ByteArray} {R : List Tr → Prop} {d : Int} (hP : P[k]? = some (jumpI 0 d)) {s : St} (h : AtX k x R s) : ∃ s', Runs P 1 s s' ∧ AtX (if x = ⟨#[48]⟩ then k + 1 else ((k : Int) + d).toNat) x R s' := by
  obtain ⟨y, rest, rfl, a2, rfl, a3, a4⟩ := h
  have hy : (TS y = ⟨#[48]⟩) ↔ y = .nil := by
    constructor
    · intro e
      cases y with
      | nil => rfl
      | pair a b => exact absurd (congrArg (fun z : ByteArray => z.data.toList.head?) e) (by simp [TS, Tr.enc])
    · rintro rfl; rfl
  refine ⟨⟨if TS y = ⟨#[48]⟩ then k + 1 else ((k : Int) + d).toNat, y :: rest⟩, Runs.one hP ?_, y, rest, rfl, a2, rfl, a3, a4⟩
  unfold stepX jumpI
  simp only [show ¬ (5 : Int) = 0 by decide, show ¬ (5 : Int) = 1 by decide, show ¬ (5 : Int) = 2 by decide, show ¬ (5 : Int) = 3 by decide, show ¬ (5 : Int) = 4 by decide, if_false]
  have hg : getR (y :: rest) ((0 : Nat) : Int) = y := rfl
  rw [hg]
  by_cases h0 : y = .nil
  · rw [if_pos h0, if_pos (hy.2 h0)]
  · rw [if_neg h0, if_neg (fun e => h0 (hy.1 e))]
/-- A jump by a register that holds no nil. -/
theorem at_jump {P : List Ins} {k n : Nat} {x : ByteArray} {hs : List (Nat × Tr)} {t : Tr} {d : Int} (hP : P[k]? = some (jumpI (n + 1) d)) (hh : (n, t) ∈ hs) (ht : t ≠ .nil) (k' : Nat) (hk : (k : Int) + d = k') {s : St} (h : AtX k x (Holds hs) s) : ∃ s', Runs P 1 s s' ∧ AtX k' x (Holds hs) s' := by
  obtain ⟨y, rest, rfl, a2, rfl, a3, a4⟩ := h
  refine ⟨⟨k', y :: rest⟩, Runs.one hP ?_, y, rest, rfl, a2, rfl, a3, a4⟩
  unfold stepX jumpI
  simp only [show ¬ (5 : Int) = 0 by decide, show ¬ (5 : Int) = 1 by decide, show ¬ (5 : Int) = 2 by decide, show ¬ (5 : Int) = 3 by decide, show ¬ (5 : Int) = 4 by decide, if_false]
  have hg : getR (y :: rest) ((n + 1 : Nat) : Int) = t := by unfold getR; rw [show ((n + 1 : Nat) : Int).toNat = n + 1 by omega, List.getElem?_cons_succ, a4 _ hh]; rfl
  rw [hg, if_neg ht, hk]; rfl
/-- A pair, of another register and of register 0; or it is too large. -/
theorem at_cons {P : List Ins} {k n : Nat} {x : ByteArray} {hs : List (Nat × Tr)} {t : Tr} (hP : P[k]? = some (consI 0 (n + 1) 0)) (hh : (n, t) ∈ hs) {s : St} (h : AtX k x (Holds hs) s) :
    (1 + t.size + x.size ≤ 2000000 → ∃ s', Runs P 1 s s' ∧ AtX (k + 1) (⟨#[49]⟩ ++ TS t ++ x) (Holds hs) s') ∧ (¬ 1 + t.size + x.size ≤ 2000000 → s.pos ≠ P.length ∧ stepP P s = none) := by
  obtain ⟨y, rest, rfl, a2, rfl, a3, a4⟩ := h
  have hg : getR (y :: rest) ((n + 1 : Nat) : Int) = t := by unfold getR; rw [show ((n + 1 : Nat) : Int).toNat = n + 1 by omega, List.getElem?_cons_succ, a4 _ hh]; rfl
  have hg0 : getR (y :: rest) ((0 : Nat) : Int) = y := rfl
  have hsz : (Tr.pair t y).size = 1 + t.size + y.size := by simp [Tr.size]
  rw [TS_size]
  refine ⟨fun hle => ⟨⟨k + 1, .pair t y :: rest⟩, Runs.one hP ?_, .pair t y, rest, ?_, by rw [hsz]; exact hle, rfl, a3, a4⟩, fun hle => ⟨?_, ?_⟩⟩
  · unfold stepX consI
    simp only [show ¬ (2 : Int) = 0 by decide, show ¬ (2 : Int) = 1 by decide, if_false, if_true]
    rw [hg, hg0, if_pos (by rw [hsz]; exact hle)]; rfl
  · apply ByteArray.ext; simp [TS, Tr.enc]
  · have := (List.getElem?_eq_some_iff.1 hP).1
    show k ≠ P.length; omega
  · unfold stepP
    simp only [hP]
    unfold stepX consI
    simp only [show ¬ (2 : Int) = 0 by decide, show ¬ (2 : Int) = 1 by decide, if_false, if_true]
    rw [hg, hg0, if_neg (by rw [hsz]; exact hle)]

end Go.Proofs.Ytdjbcmfjlfkcjaa


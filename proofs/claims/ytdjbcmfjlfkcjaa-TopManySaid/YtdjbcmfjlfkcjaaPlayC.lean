/- law04's play, said of the program that it follows. -/
import Derived.Test.YtdjbcmfjlfkcjaaPlayP
namespace Go.Proofs.Ytdjbcmfjlfkcjaa
open Go.RowKit

theorem partF_le (l : List Ins) (S : Nat) (E : Int) (x : ByteArray) : (partF l S E x).2.1 ≤ S + 2000 := by
  unfold partF
  by_cases e : E = 0
  · rw [if_pos e]
    have h1 := goF_steps_le l 2000 (startS (toTr x))
    rcases res_run_cases (partR l 2000 (toTr x)) with h | h | h
    · show S + (partR l 2000 (toTr x)).run.2.1 + (if (partR l 2000 (toTr x)).run.2.2 = 0 then 0 else 2000) ≤ _
      rw [if_pos h]
      have h2 : (partR l 2000 (toTr x)).run.2.1 ≤ 2000 := h1
      omega
    · rw [h]; simp
    · rw [h]; simp
  · rw [if_neg e]; show S ≤ _; omega
theorem partF_err (l : List Ins) (S : Nat) (E : Int) (x : ByteArray) : (partF l S E x).2.2 = 0 → E = 0 := by
  unfold partF
  by_cases e : E = 0
  · exact fun _ => e
  · rw [if_neg e]; exact id
theorem partF_size (l : List Ins) (hv : rightAll l = true) (S : Nat) (E : Int) (x : ByteArray) : (partF l S E x).1.size ≤ 2000000 := by
  unfold partF
  by_cases e : E = 0
  · rw [if_pos e]
    show (partR l 2000 (toTr x)).run.1.size ≤ _
    unfold partR
    rcases goF_how l 2000 0 (startS (toTr x)) with ⟨t, m, h1, h2, h3, h4⟩ | ⟨t, h1, h3, h4⟩ | ⟨t, m, h1, h2, h3, h4, h5⟩
    · rw [h1]
      show (TS (getR t.regs 0)).size ≤ _
      rw [TS_size]
      exact getR_size (h3.good hv (Good.start _ _ (toTr_size x))).2.2 0
    · rw [h1]; exact Nat.zero_le _
    · rw [h1]; exact Nat.zero_le _
  · rw [if_neg e]; exact Nat.zero_le _
theorem otherS_le (n S : Nat) (E : Int) : otherS n S E ≤ S + n := by unfold otherS; split <;> omega
/-- Two steps one behind the other. -/
theorem two_steps {P : List Ins} {K K1 K2 : St → Prop} (h1 : ∀ s, K s → ∃ s', Runs P 1 s s' ∧ K1 s') (h2 : ∀ s, K1 s → ∃ s', Runs P 1 s s' ∧ K2 s') : ∀ s, K s → ∃ s', Runs P 2 s s' ∧ K2 s' := fun s hs => by
  obtain ⟨t, a, b⟩ := h1 s hs
  obtain ⟨u, c, d⟩ := h2 t b
  exact ⟨u, a.trans c, d⟩
/-- The last step of a pair. -/
theorem Pg.cons {P : List Ins} {s0 : St} {S : Nat} {E : Int} {k n : Nat} {y z : ByteArray} {hs : List (Nat × Tr)} (h : Pg P s0 S E (AtX k z (Holds hs))) (hP : P[k]? = some (consI 0 (n + 1) 0)) (hh : (n, toTr y) ∈ hs) (hy : E = 0 → isTree y = true) :
    (E ≠ 0 ∨ 1 + y.size + z.size ≤ 2000000 → Pg P s0 (otherS 1 S E) E (AtX (k + 1) (⟨#[49]⟩ ++ y ++ z) (Holds hs))) ∧ (E = 0 → ¬ 1 + y.size + z.size ≤ 2000000 → Pg P s0 (otherS 1 S E) 3 (AtX (k + 1) (⟨#[49]⟩ ++ y ++ z) (Holds hs))) := by
  refine ⟨fun hor => ?_, fun e hbig => ?_⟩
  · by_cases e : E = 0
    · refine h.other 1 fun s hk => ?_
      have h1 := (at_cons hP hh hk).1
      rw [← TS_size, TS_toTr (hy e)] at h1
      exact h1 (hor.resolve_left (fun f => f e))
    · exact ⟨fun f => absurd f e, fun _ => by unfold otherS; rw [if_neg e]; exact h.2 e⟩
  · refine ⟨fun f => absurd f (by decide), fun _ => ?_⟩
    obtain ⟨s, h1, h2⟩ := h.1 e
    have h3 := (at_cons hP hh h2).2
    rw [← TS_size, TS_toTr (hy e)] at h3
    obtain ⟨h4, h5⟩ := h3 hbig
    unfold otherS; rw [if_pos e, h1.big h4 h5 (S + 1) (by omega)]; rfl
/-- At the beginning. -/
theorem Pg.begin (P : List Ins) (x : ByteArray) (hx : isTree x = true) : Pg P (startS (toTr x)) 0 0 (AtX 0 x fun rest => rest = List.replicate 31 .nil) :=
  (Pg.start P _).weaken fun s hs => ⟨toTr x, _, TS_toTr hx, toTr_size x, hs, by simp, rfl⟩
theorem Pg.begin1 (P : List Ins) (x : ByteArray) (hx : isTree x = true) (n : Nat) (_hn : n ≤ 30) (hP : P[0]? = some (moveI (n + 1) 0)) : Pg P (startS (toTr x)) 1 0 (AtX 1 x fun rest => rest = (List.replicate 31 .nil).set n (toTr x)) := by
  refine ((Pg.start P _).other 1 (K' := AtX 1 x fun rest => rest = (List.replicate 31 .nil).set n (toTr x)) fun s hs => ?_)
  subst hs
  exact ⟨⟨1, toTr x :: (List.replicate 31 .nil).set n (toTr x)⟩, Runs.one hP (by unfold stepX moveI; simp only [show ¬ (1 : Int) = 0 by decide, if_false, if_true]; rfl), toTr x, _, TS_toTr hx, toTr_size x, rfl, by simp, rfl⟩
theorem cleaned_nils {m : Nat} (hm : m ≤ 31) : Cleaned m (List.replicate 31 .nil) := by unfold Cleaned; rw [List.take_replicate, Nat.min_eq_left hm]
theorem cleaned_set {m n : Nat} {t : Tr} (hm : m ≤ n) (hn : n ≤ 30) : Cleaned m ((List.replicate 31 .nil).set n t) := by unfold Cleaned; rw [List.take_set_of_le hm, List.take_replicate, Nat.min_eq_left (by omega)]
theorem holds_set {n m : Nat} {t : Tr} (hm : m ≤ n) (hn : n ≤ 30) (rest rest' : List Tr) (h : rest = (List.replicate 31 .nil).set n t) (he : ∀ r, m ≤ r → rest'[r]? = rest[r]?) : Holds [(n, t)] rest' := by
  intro p hp
  simp only [List.mem_singleton] at hp
  subst hp
  rw [he n hm, h, List.getElem?_set_self (by simp; omega)]

theorem at_loadx {P : List Ins} {k n : Nat} {x x' : ByteArray} {hs : List (Nat × Tr)} {t : Tr} (hP : P[k]? = some (moveI 0 (n + 1))) (ht : t.size ≤ 2000000) (hx : TS t = x') (hh : (n, t) ∈ hs) {s : St} (h : AtX k x (Holds hs) s) : ∃ s', Runs P 1 s s' ∧ AtX (k + 1) x' (Holds hs) s' := by
  subst hx; exact at_load hP ht hh h
theorem AtX.weak {k : Nat} {x : ByteArray} {R R' : List Tr → Prop} {s : St} (h : AtX k x R s) (hR : ∀ rest, R rest → R' rest) : AtX k x R' s := by
  obtain ⟨y, rest, a1, a2, a3, a4, a5⟩ := h
  exact ⟨y, rest, a1, a2, a3, a4, hR rest a5⟩
theorem at_jump0_nil {P : List Ins} {k : Nat} {x : ByteArray} {R : List Tr → Prop} {d : Int} (hP : P[k]? = some (jumpI 0 d)) (hx : x = ⟨#[48]⟩) {s : St} (h : AtX k x R s) : ∃ s', Runs P 1 s s' ∧ AtX (k + 1) x R s' := by
  have h1 := at_jump0 hP h
  rwa [if_pos hx] at h1
theorem at_jump0_far {P : List Ins} {k : Nat} {x : ByteArray} {R : List Tr → Prop} {d : Int} (hP : P[k]? = some (jumpI 0 d)) (hx : ¬ x = ⟨#[48]⟩) (k' : Nat) (hk : (k : Int) + d = k') {s : St} (h : AtX k x R s) : ∃ s', Runs P 1 s s' ∧ AtX k' x R s' := by
  have h1 := at_jump0 hP h
  rw [if_neg hx, hk] at h1
  exact h1

theorem Pg.otherE {P : List Ins} {s0 : St} {S : Nat} {E : Int} {K K' : St → Prop} (h : Pg P s0 S E K) (n : Nat) (hK : E = 0 → ∀ s, K s → ∃ s', Runs P n s s' ∧ K' s') : Pg P s0 (otherS n S E) E K' := by
  refine ⟨fun e => ?_, fun e => ?_⟩
  · obtain ⟨s, h1, h2⟩ := h.1 e
    obtain ⟨s', h3, h4⟩ := hK e s h2
    unfold otherS; rw [if_pos e]
    exact ⟨s', h1.trans h3, h4⟩
  · unfold otherS; rw [if_neg e]; exact h.2 e
theorem Pg.bad {P : List Ins} {s0 : St} {S : Nat} {E : Int} {K : St → Prop} (h : Pg P s0 S E K) (hE : E ≠ 0) (K' : St → Prop) : Pg P s0 S E K' := ⟨fun e => absurd e hE, h.2⟩
/-- The rounds are used up. -/
theorem Pg.rounds {P : List Ins} {s0 : St} {S k : Nat} {X : ByteArray} {R : List Tr → Prop} (h : Pg P s0 S 0 (AtX k X R)) (hk : k ≠ P.length) : Ended P s0 S 7 X := by
  refine ⟨fun e => absurd e (by decide), fun _ => ?_⟩
  obtain ⟨s, h1, y, rest, _, _, rfl, _⟩ := h.1 rfl
  rw [h1.fuel hk]; rfl
theorem Pg.endedE {P : List Ins} {s0 : St} {S : Nat} {E : Int} {X : ByteArray} {K : St → Prop} (h : Pg P s0 S E K) (hE : E ≠ 0) : Ended P s0 S E X := ⟨fun e => absurd e hE, h.2⟩

end Go.Proofs.Ytdjbcmfjlfkcjaa


/- Plain: how programs that are put together run (said of trees). -/
import Derived.Test.YtdjbcmfjlfkcjaaSegs4
import Derived.Test.YtdjbcmfjlfkcjaaDefR
namespace Go.Proofs.Ytdjbcmfjlfkcjaa
open Go.RowKit

theorem goF_done_le {l : List Ins} {K F m : Nat} {s0 s : St} (h : goF l K 0 s0 = .done s m) (hF : K ≤ F) : goF l F 0 s0 = .done s m := by
  rcases goF_how l K 0 s0 with ⟨s', m', h1, h2, h3, h4⟩ | ⟨s', h1, _⟩ | ⟨s', m', h1, _⟩
  · rw [h, Nat.zero_add] at h1
    injection h1 with e1 e2
    subst e1; subst e2
    exact h3.done h4 F (by omega)
  · rw [h] at h1; cases h1
  · rw [h] at h1; cases h1
/-- Not ended after so many steps. -/
def NotD (P : List Ins) (s0 : St) (F : Nat) : Prop := ∀ s k, goF P F 0 s0 ≠ .done s k
theorem NotD.le {P : List Ins} {s0 : St} {F F' : Nat} (h : NotD P s0 F) (hF : F' ≤ F) : NotD P s0 F' := fun s k e => h s k (goF_done_le e hF)
theorem NotD.of {P : List Ins} {m : Nat} {s0 t : St} (h : Runs P m s0 t) (ht : t.pos ≠ P.length) : NotD P s0 m := fun s k e => by rw [h.fuel ht] at e; cases e
theorem NotD.big {P : List Ins} {m : Nat} {s0 t : St} (h : Runs P m s0 t) (ht : t.pos ≠ P.length) (hn : stepP P t = none) (F : Nat) : NotD P s0 F := fun s k e => by
  have h1 := h.big ht hn (max F (m + 1)) (by omega)
  rw [goF_done_le e (Nat.le_max_left _ _)] at h1
  cases h1
/-- A place in a run: what register 0 holds, and what the others do. -/
def AtR (P : List Ins) (s0 : St) (S k : Nat) (x : Tr) (R : List Tr → Prop) : Prop := ∃ rest, Runs P S s0 ⟨k, x :: rest⟩ ∧ rest.length = 31 ∧ R rest
theorem AtR.mono {P : List Ins} {s0 : St} {S k : Nat} {x : Tr} {R R' : List Tr → Prop} (h : AtR P s0 S k x R) (hR : ∀ rest, rest.length = 31 → R rest → R' rest) : AtR P s0 S k x R' := by
  obtain ⟨rest, h1, h2, h3⟩ := h
  exact ⟨rest, h1, h2, hR rest h2 h3⟩
theorem AtR.start (P : List Ins) (x : Tr) : AtR P (startS x) 0 0 x (fun rest => rest = List.replicate 31 .nil) := ⟨_, .refl _, by simp, rfl⟩
theorem AtR.done {P : List Ins} {s0 : St} {S : Nat} {x : Tr} {R : List Tr → Prop} (h : AtR P s0 S P.length x R) (F : Nat) (hF : S ≤ F) : ∃ s, goF P F 0 s0 = .done s S ∧ getR s.regs 0 = x := by
  obtain ⟨rest, h1, _, _⟩ := h
  exact ⟨_, h1.done rfl F hF, rfl⟩
theorem AtR.notD {P : List Ins} {s0 : St} {S k : Nat} {x : Tr} {R : List Tr → Prop} (h : AtR P s0 S k x R) (hk : k ≠ P.length) : NotD P s0 S := by
  obtain ⟨rest, h1, _, _⟩ := h
  exact NotD.of h1 hk
theorem AtR.step {P : List Ins} {s0 : St} {S k k' : Nat} {x x' : Tr} {R R' : List Tr → Prop} (h : AtR P s0 S k x R) (hs : ∀ rest, rest.length = 31 → R rest → ∃ rest', Runs P 1 ⟨k, x :: rest⟩ ⟨k', x' :: rest'⟩ ∧ rest'.length = 31 ∧ R' rest') : AtR P s0 (S + 1) k' x' R' := by
  obtain ⟨rest, h1, h2, h3⟩ := h
  obtain ⟨rest', g1, g2, g3⟩ := hs rest h2 h3
  exact ⟨rest', h1.trans g1, g2, g3⟩
/-- A part of the program, run where its registers are clean. -/
theorem AtR.part {P l : List Ins} {s0 : St} {S k : Nat} {x : Tr} {R R' : List Tr → Prop} (h : AtR P s0 S k x R) (hseg : Seg P k l) (hv : rightAll l = true) (hkl : k + l.length ≤ P.length) (hx : x.size ≤ 2000000) (hcl : ∀ rest, rest.length = 31 → R rest → Cleaned (mostN l) rest)
    (hkeep : ∀ rest rest' : List Tr, rest'.length = 31 → (∀ r, mostN l ≤ r → rest'[r]? = rest[r]?) → R rest → R' rest') (F : Nat) :
    (∀ s m, goF l F 0 (startS x) = .done s m → AtR P s0 (S + m) (k + l.length) (getR s.regs 0) R') ∧ (NotD l (startS x) F → NotD P s0 (S + F)) := by
  obtain ⟨rest, g1, g2, g3⟩ := h
  rcases part_run hseg hv hkl F x hx with ⟨m', s', b, h1, h2, h3, h4, -, h5⟩ | ⟨s', h1, h2, h5⟩ | ⟨m', s', h0, h1, h2, h3, h5⟩
  · refine ⟨fun s m e => ?_, fun hn => absurd (h1.done h2 F h4) (hn _ _)⟩
    rw [h1.done h2 F h4] at e
    injection e with e1 e2
    subst e1; subst e2
    obtain ⟨rest', r1, r2, r3⟩ := h5 rest g2 (hcl rest g2 g3)
    exact ⟨rest', by rw [h3]; exact g1.trans r3, r1, hkeep rest rest' r1 r2 g3⟩
  · refine ⟨fun s m e => (by rw [h1.fuel h2] at e; cases e), fun _ => ?_⟩
    obtain ⟨t', q1, q2⟩ := h5 rest g2 (hcl rest g2 g3)
    exact NotD.of (g1.trans q1) q2
  · refine ⟨fun s m e => (by rw [h1.big h2 h3 F h0] at e; cases e), fun _ => ?_⟩
    obtain ⟨t', q1, q2, q3⟩ := h5 rest g2 (hcl rest g2 g3)
    exact NotD.big (g1.trans q1) q2 q3 _
/-- A part behind instructions that clean. -/
theorem AtR.cleaned {P l : List Ins} {s0 : St} {S k : Nat} {x : Tr} {hs : List (Nat × Tr)} (h : AtR P s0 S k x (Holds hs)) (hseg : Seg P k (cleanP l)) (hv : rightAll l = true) (hkl : k + (cleanP l).length ≤ P.length) (hx : x.size ≤ 2000000) (hh : ∀ p ∈ hs, mostN l ≤ p.1) (F : Nat) :
    (∀ s m, goF l F 0 (startS x) = .done s m → AtR P s0 (S + mostN l + m) (k + (cleanP l).length) (getR s.regs 0) (Holds hs)) ∧ (NotD l (startS x) F → NotD P s0 (S + mostN l + F)) := by
  have hm := mostN_lt32 hv
  have hs1 : Seg P k (cleanK (mostN l)) := fun i y hy => hseg i y (by unfold cleanP cleanH; rw [List.getElem?_append_left (List.getElem?_eq_some_iff.1 hy).1]; exact hy)
  have hs2 : Seg P (k + mostN l) l := fun i y hy => by
    have := hseg (mostN l + i) y (by unfold cleanP cleanH; rw [List.getElem?_append_right (by rw [cleanK_length]; omega), cleanK_length, Nat.add_sub_cancel_left]; exact hy)
    rwa [show k + (mostN l + i) = k + mostN l + i by omega] at this
  have h1 : AtR P s0 (S + mostN l) (k + mostN l) x (fun rest => Holds hs rest ∧ Cleaned (mostN l) rest) := by
    obtain ⟨rest, a1, a3, a4⟩ := h
    refine ⟨_, a1.trans (cleanRuns hs1 x rest a3 hm), by simp; omega, fun p hp => ?_, cleaned_self _ _⟩
    rw [cleaned_keep a3 (hh p hp) (by have := (List.getElem?_eq_some_iff.1 (a4 p hp)).1; omega)]; exact a4 p hp
  have hkl2 : k + mostN l + l.length ≤ P.length := by rw [cleanP_length] at hkl; omega
  have h2 := h1.part (R' := Holds hs) hs2 hv hkl2 hx (fun rest _ hr => hr.2) (fun rest rest' _ he hr p hp => by rw [he p.1 (hh p hp)]; exact hr.1 p hp) F
  have h3 : k + mostN l + l.length = k + (cleanP l).length := by rw [cleanP_length]; omega
  rw [h3] at h2
  exact h2
theorem AtR.save {P : List Ins} {s0 : St} {S k n : Nat} {x : Tr} {hs : List (Nat × Tr)} (h : AtR P s0 S k x (Holds hs)) (hn : n ≤ 30) (hP : P[k]? = some (moveI (n + 1) 0)) (hh : ∀ p ∈ hs, p.1 ≠ n) : AtR P s0 (S + 1) (k + 1) x (Holds ((n, x) :: hs)) :=
  h.step fun rest hr hR => ⟨_, move_run (n + 1) 0 x _ _ hP rfl (setR_rest _ _ _ _), by simpa using hr, fun p hp => by
    rcases List.mem_cons.1 hp with rfl | hp
    · rw [List.getElem?_set_self (by omega)]
    · rw [List.getElem?_set_ne (fun e => hh p hp e.symm)]; exact hR p hp⟩
theorem AtR.load {P : List Ins} {s0 : St} {S k n : Nat} {x t : Tr} {hs : List (Nat × Tr)} (h : AtR P s0 S k x (Holds hs)) (hP : P[k]? = some (moveI 0 (n + 1))) (hh : (n, t) ∈ hs) : AtR P s0 (S + 1) (k + 1) t (Holds hs) :=
  h.step fun rest hr hR => ⟨rest, move_run 0 (n + 1) t _ _ hP (by rw [getR_rest, hR _ hh]; rfl) rfl, hr, hR⟩
theorem AtR.set {P : List Ins} {s0 : St} {S k n : Nat} {x v : Tr} {b : ByteArray} {hs : List (Nat × Tr)} (h : AtR P s0 S k x (Holds hs)) (hn : n ≤ 30) (hP : P[k]? = some (setI (n + 1) b)) (hv : toTr b = v) (hh : ∀ p ∈ hs, p.1 ≠ n) : AtR P s0 (S + 1) (k + 1) x (Holds ((n, v) :: hs)) :=
  h.step fun rest hr hR => ⟨_, set_run (n + 1) b v _ _ hP hv (setR_rest _ _ _ _), by simpa using hr, fun p hp => by
    rcases List.mem_cons.1 hp with rfl | hp
    · rw [List.getElem?_set_self (by omega)]
    · rw [List.getElem?_set_ne (fun e => hh p hp e.symm)]; exact hR p hp⟩
theorem AtR.stay0 {P : List Ins} {s0 : St} {S k : Nat} {x : Tr} {R : List Tr → Prop} {d : Int} (h : AtR P s0 S k x R) (hP : P[k]? = some (jumpI 0 d)) (hx : x = .nil) : AtR P s0 (S + 1) (k + 1) x R :=
  h.step fun rest hr hR => ⟨rest, stay_run 0 d _ hP (by subst hx; rfl), hr, hR⟩
theorem AtR.jump0 {P : List Ins} {s0 : St} {S k : Nat} {x : Tr} {R : List Tr → Prop} {d : Int} (h : AtR P s0 S k x R) (hP : P[k]? = some (jumpI 0 d)) (hx : x ≠ .nil) (k' : Nat) (hk : (k : Int) + d = k') : AtR P s0 (S + 1) k' x R :=
  h.step fun rest hr hR => ⟨rest, jump_run 0 d _ k' hP hx hk, hr, hR⟩
theorem AtR.jump {P : List Ins} {s0 : St} {S k n : Nat} {x t : Tr} {hs : List (Nat × Tr)} {d : Int} (h : AtR P s0 S k x (Holds hs)) (hP : P[k]? = some (jumpI (n + 1) d)) (hh : (n, t) ∈ hs) (ht : t ≠ .nil) (k' : Nat) (hk : (k : Int) + d = k') : AtR P s0 (S + 1) k' x (Holds hs) :=
  h.step fun rest hr hR => ⟨rest, jump_run (n + 1) d _ k' hP (by rw [getR_rest, hR _ hh]; exact ht) hk, hr, hR⟩
theorem AtR.cons {P : List Ins} {s0 : St} {S k n : Nat} {x t : Tr} {hs : List (Nat × Tr)} (h : AtR P s0 S k x (Holds hs)) (hP : P[k]? = some (consI 0 (n + 1) 0)) (hh : (n, t) ∈ hs) (hz : (Tr.pair t x).size ≤ 2000000) : AtR P s0 (S + 1) (k + 1) (.pair t x) (Holds hs) :=
  h.step fun rest hr hR => ⟨rest, cons_run 0 (n + 1) 0 t x _ _ hP (by rw [getR_rest, hR _ hh]; rfl) rfl hz rfl, hr, hR⟩
theorem cleaned_rep (a : Nat) (ha : a < 32) : Cleaned a (List.replicate 31 Tr.nil) := by unfold Cleaned; rw [List.take_replicate, Nat.min_eq_left (by omega)]
/-- The first part. -/
theorem first_part {P l : List Ins} (x : Tr) (hx : x.size ≤ 2000000) (hseg : Seg P 0 l) (hv : rightAll l = true) (hkl : l.length ≤ P.length) (F : Nat) :
    (∀ s m, goF l F 0 (startS x) = .done s m → AtR P (startS x) m l.length (getR s.regs 0) (Holds [])) ∧ (NotD l (startS x) F → NotD P (startS x) F) := by
  have h := (AtR.start P x).part (R' := Holds []) (k := 0) hseg hv (by omega) hx (fun rest _ hR => by subst hR; exact cleaned_rep _ (mostN_lt32 hv)) (fun _ _ _ _ _ => Holds.nil _) F
  simpa using h
/-- The first part, with the input kept. -/
theorem kept_part {P l : List Ins} {n : Nat} (x : Tr) (hx : x.size ≤ 2000000) (hm : P[0]? = some (moveI (n + 1) 0)) (hn : n ≤ 30) (hln : mostN l ≤ n) (hseg : Seg P 1 l) (hv : rightAll l = true) (hkl : 1 + l.length ≤ P.length) (F : Nat) :
    (∀ s m, goF l F 0 (startS x) = .done s m → AtR P (startS x) (1 + m) (1 + l.length) (getR s.regs 0) (Holds [(n, x)])) ∧ (NotD l (startS x) F → NotD P (startS x) (1 + F)) := by
  have h0 : AtR P (startS x) (0 + 1) 1 x (fun rest => rest = (List.replicate 31 .nil).set n x) := (AtR.start P x).step fun rest hr hR => ⟨_, move_run (n + 1) 0 x _ _ hm rfl (setR_rest _ _ _ _), by simpa using hr, by rw [hR]⟩
  have h := h0.part (R' := Holds [(n, x)]) hseg hv hkl hx (fun rest _ hR => by subst hR; exact cleaned_put hln (by omega) x) (fun rest rest' _ he hR p hp => by
    rw [List.mem_singleton] at hp
    subst hp
    show rest'[n]? = some x
    rw [he n hln, hR, List.getElem?_set_self (by simp; omega)]) F
  simpa using h

/-- One after the other. -/
theorem then_two (p q : List Ins) : thenL [p, q] = p ++ cleanP q := by simp [thenL]
theorem then_runs {p q : List Ins} (hp : rightAll p = true) (hq : rightAll q = true) (x : Tr) (hx : x.size ≤ 2000000) (F : Nat) :
    (∀ s k, goF p F 0 (startS x) = .done s k → (getR s.regs 0).size ≤ 2000000 → ∀ G, (∀ s' n, goF q G 0 (startS (getR s.regs 0)) = .done s' n → ∃ s2, goF (thenL [p, q]) (k + n + mostN q) 0 (startS x) = .done s2 (k + n + mostN q) ∧ getR s2.regs 0 = getR s'.regs 0) ∧ (NotD q (startS (getR s.regs 0)) G → NotD (thenL [p, q]) (startS x) (k + mostN q + G))) ∧
    (NotD p (startS x) F → NotD (thenL [p, q]) (startS x) F) := by
  have hP := then_two p q
  have s0 : Seg (thenL [p, q]) 0 p := seg_at (a := []) (b := cleanP q) (by simp [hP]) rfl
  have s1 : Seg (thenL [p, q]) p.length (cleanP q) := seg_at (a := p) (b := []) (by simp [hP]) rfl
  have hl : (thenL [p, q]).length = p.length + (cleanP q).length := by rw [hP]; simp
  have h := first_part x hx s0 hp (by omega) F
  refine ⟨fun s k e hb G => ?_, h.2⟩
  have h1 := (h.1 s k e).cleaned s1 hq (by omega) hb (fun p hp => by cases hp) G
  refine ⟨fun s' n e' => ?_, h1.2⟩
  have h2 := h1.1 s' n e'
  rw [← hl] at h2
  have := h2.done (k + n + mostN q) (by omega)
  rwa [show k + mostN q + n = k + n + mostN q by omega] at this
/-- A pair of both. -/
theorem pair_runs {p q : List Ins} (hp : rightAll p = true) (hq : rightAll q = true) (hm : max (regN p) (regN q) ≤ 28) (x : Tr) (hx : x.size ≤ 2000000) (F : Nat) :
    (∀ s k, goF p F 0 (startS x) = .done s k → ∀ G s' n, goF q G 0 (startS x) = .done s' n → (Tr.pair (getR s.regs 0) (getR s'.regs 0)).size ≤ 2000000 → ∃ s2, goF (pairL p q) (k + n + mostN q + 4) 0 (startS x) = .done s2 (k + n + mostN q + 4) ∧ getR s2.regs 0 = .pair (getR s.regs 0) (getR s'.regs 0)) ∧
    (NotD p (startS x) F → NotD (pairL p q) (startS x) F) := by
  obtain ⟨n0, hn0⟩ : ∃ n0, max (regN p) (regN q) = n0 + 1 := ⟨max (regN p) (regN q) - 1, by unfold regN; omega⟩
  have S := pair_segs p q n0 hn0
  have hmp : mostN p ≤ n0 := by unfold regN at hn0; omega
  have hmq : mostN q ≤ n0 := by unfold regN at hn0; omega
  have hlen := S.len
  have h := kept_part x hx S.m0 (by omega) hmp S.s0 hp (by omega) F
  refine ⟨fun s k e G s' n e' hz => ?_, fun hn => (h.2 hn).le (by omega)⟩
  have h1 := (h.1 s k e).save (n := n0 + 1) (by omega) S.m1 (fun p hp => by rw [List.mem_singleton.1 hp]; show n0 ≠ n0 + 1; omega)
  have h2 := h1.load (n := n0) (t := x) S.m2 (by simp)
  have h3 := (h2.cleaned (l := q) S.s1 hq (by omega) hx (fun p hp => by rcases List.mem_cons.1 hp with rfl | hp; exact Nat.le_succ_of_le hmq; rw [List.mem_singleton.1 hp]; exact hmq) G).1 s' n e'
  have h4 := h3.cons (n := n0 + 1) (t := getR s.regs 0) S.m3 (by simp) hz
  rw [← hlen] at h4
  have := h4.done (k + n + mostN q + 4) (by omega)
  rwa [show 1 + k + 1 + 1 + mostN q + n + 1 = k + n + mostN q + 4 by omega] at this
/-- By a condition. -/
theorem if_runs {c p q : List Ins} (hc : rightAll c = true) (hp : rightAll p = true) (hq : rightAll q = true) (hm : max (regN c) (max (regN p) (regN q)) ≤ 28) (x : Tr) (hx : x.size ≤ 2000000) (F : Nat) :
    (∀ s n, goF c F 0 (startS x) = .done s n → ∀ G,
      (getR s.regs 0 ≠ .nil → (∀ s' k, goF p G 0 (startS x) = .done s' k → ∃ s2, goF (ifL c p q) (n + regN p + 2 + k) 0 (startS x) = .done s2 (n + regN p + 2 + k) ∧ getR s2.regs 0 = getR s'.regs 0) ∧ (NotD p (startS x) G → NotD (ifL c p q) (startS x) G)) ∧
      (getR s.regs 0 = .nil → (∀ s' k, goF q G 0 (startS x) = .done s' k → ∃ s2, goF (ifL c p q) (n + regN q + 4 + k) 0 (startS x) = .done s2 (n + regN q + 4 + k) ∧ getR s2.regs 0 = getR s'.regs 0) ∧ (NotD q (startS x) G → NotD (ifL c p q) (startS x) G))) ∧
    (NotD c (startS x) F → NotD (ifL c p q) (startS x) F) := by
  obtain ⟨n0, hn0⟩ : ∃ n0, max (regN c) (max (regN p) (regN q)) = n0 + 1 := ⟨max (regN c) (max (regN p) (regN q)) - 1, by unfold regN; omega⟩
  have S := if_segs c p q n0 hn0
  have hmc : mostN c ≤ n0 := by unfold regN at hn0; omega
  have hmp : mostN p ≤ n0 := by unfold regN at hn0; omega
  have hmq : mostN q ≤ n0 := by unfold regN at hn0; omega
  have hlen := S.len
  have h := kept_part x hx S.m0 (by omega) hmc S.s0 hc (by omega) F
  refine ⟨fun s n e G => ⟨fun hb => ?_, fun hb => ?_⟩, fun hn => (h.2 hn).le (by omega)⟩
  · have h1 := (h.1 s n e).jump0 S.m1 hb (1 + c.length + 1 + 1 + (cleanP q).length + 2) (by omega)
    have h2 := h1.load (n := n0) (t := x) S.m5 (by simp)
    have h3 := h2.cleaned (l := p) S.s2 hp (by omega) hx (fun p hp => by rw [List.mem_singleton.1 hp]; exact hmp) G
    refine ⟨fun s' k e' => ?_, fun hn => (h3.2 hn).le (by omega)⟩
    have h4 := h3.1 s' k e'
    rw [← hlen] at h4
    have := h4.done (n + regN p + 2 + k) (by unfold regN; omega)
    rwa [show 1 + n + 1 + 1 + mostN p + k = n + regN p + 2 + k by unfold regN; omega] at this
  · have h1 := (h.1 s n e).stay0 S.m1 hb
    have h2 := h1.load (n := n0) (t := x) S.m2 (by simp)
    have h3 := h2.cleaned (l := q) S.s1 hq (by omega) hx (fun p hp => by rw [List.mem_singleton.1 hp]; exact hmq) G
    refine ⟨fun s' k e' => ?_, fun hn => (h3.2 hn).le (by omega)⟩
    have h4 := h3.1 s' k e'
    obtain ⟨rest, a1, a2, -⟩ := h4
    have h4' : AtR (ifL c p q) (startS x) (1 + n + 1 + 1 + mostN q + k) (1 + c.length + 1 + 1 + (cleanP q).length) (getR s'.regs 0) (Holds []) := ⟨rest, a1, a2, Holds.nil _⟩
    have h5 := h4'.set (n := n0) (by omega) S.m3 tr_100 (fun p hp => by cases hp)
    have h6 := h5.jump (n := n0) (t := .pair .nil .nil) S.m4 (by simp) (by intro h; cases h) (ifL c p q).length (by rw [hlen]; omega)
    have := h6.done (n + regN q + 4 + k) (by unfold regN; omega)
    rwa [show 1 + n + 1 + 1 + mostN q + k + 1 + 1 = n + regN q + 4 + k by unfold regN; omega] at this
/-- As long as: a round's begin. -/
def RoundAt (c p : List Ins) (x : Tr) (S : Nat) (y : Tr) : Prop := AtR (whileL c p) (startS x) S 0 y (Holds [])
theorem RoundAt.start (c p : List Ins) (x : Tr) : RoundAt c p x 0 x := (AtR.start _ x).mono fun _ _ _ => Holds.nil _
theorem while_runs {c p : List Ins} (hc : rightAll c = true) (hp : rightAll p = true) (hm : max (regN c) (regN p) ≤ 28) {x y : Tr} {S : Nat} (h : RoundAt c p x S y) (hy : y.size ≤ 2000000) (F : Nat) :
    (∀ s n, goF c F 0 (startS y) = .done s n →
      (getR s.regs 0 = .nil → ∃ s2, goF (whileL c p) (S + n + regN c + 4) 0 (startS x) = .done s2 (S + n + regN c + 4) ∧ getR s2.regs 0 = y) ∧
      (getR s.regs 0 ≠ .nil → ∀ G, (∀ s' k, goF p G 0 (startS y) = .done s' k → RoundAt c p x (S + (n + regN c + 1) + (k + regN p + 2)) (getR s'.regs 0)) ∧ (NotD p (startS y) G → NotD (whileL c p) (startS x) (S + G)))) ∧
    (NotD c (startS y) F → NotD (whileL c p) (startS x) (S + F)) := by
  obtain ⟨n0, hn0⟩ : ∃ n0, max (regN c) (regN p) = n0 + 1 := ⟨max (regN c) (regN p) - 1, by unfold regN; omega⟩
  have W := while_segs c p n0 hn0
  have hmc : mostN c ≤ n0 := by unfold regN at hn0; omega
  have hmp : mostN p ≤ n0 := by unfold regN at hn0; omega
  have hlen := W.len
  have h0 : AtR (whileL c p) (startS x) (S + 1) 1 y (Holds [(n0, y)]) := h.save (n := n0) (by omega) W.m0 (fun p hp => by cases hp)
  have h1 := h0.cleaned (l := c) W.s0 hc (by omega) hy (fun p hp => by rw [List.mem_singleton.1 hp]; exact hmc) F
  refine ⟨fun s n e => ⟨fun hz => ?_, fun hz G => ?_⟩, fun hn => (h1.2 hn).le (by omega)⟩
  · have h2 := (h1.1 s n e).stay0 W.m1 hz
    have h3 := h2.load (n := n0) (t := y) W.m2 (by simp)
    have h4 : AtR (whileL c p) (startS x) (S + 1 + mostN c + n + 1 + 1) (1 + (cleanP c).length + 2) y (Holds []) := by
      obtain ⟨rest, a1, a2, -⟩ := h3
      exact ⟨rest, a1, a2, Holds.nil _⟩
    have h5 := h4.set (n := n0) (by omega) W.m3 tr_100 (fun p hp => by cases hp)
    have h6 := h5.jump (n := n0) (t := .pair .nil .nil) (k' := (whileL c p).length) W.m4 (by simp) (by intro h; cases h) (by rw [hlen]; omega)
    have := h6.done (S + n + regN c + 4) (by unfold regN; omega)
    rwa [show S + 1 + mostN c + n + 1 + 1 + 1 + 1 = S + n + regN c + 4 by unfold regN; omega] at this
  · have h2 := (h1.1 s n e).jump0 W.m1 hz (1 + (cleanP c).length + 4) (by omega)
    have h3 := h2.load (n := n0) (t := y) W.m5 (by simp)
    have h4 := h3.cleaned (l := p) W.s1 hp (by omega) hy (fun p hp => by rw [List.mem_singleton.1 hp]; exact hmp) G
    refine ⟨fun s' k e' => ?_, fun hn => (h4.2 hn).le (by omega)⟩
    have h5 : AtR (whileL c p) (startS x) (S + 1 + mostN c + n + 1 + 1 + mostN p + k) (1 + (cleanP c).length + 5 + (cleanP p).length) (getR s'.regs 0) (Holds []) := by
      obtain ⟨rest, a1, a2, -⟩ := h4.1 s' k e'
      exact ⟨rest, a1, a2, Holds.nil _⟩
    have h6 := h5.set (n := n0) (by omega) W.m6 tr_100 (fun p hp => by cases hp)
    have h7 := h6.jump (n := n0) (t := .pair .nil .nil) (k' := 0) W.m7 (by simp) (by intro h; cases h) (by omega)
    have h8 : RoundAt c p x (S + 1 + mostN c + n + 1 + 1 + mostN p + k + 1 + 1) (getR s'.regs 0) := h7.mono fun _ _ _ => Holds.nil _
    rwa [show S + 1 + mostN c + n + 1 + 1 + mostN p + k + 1 + 1 = S + (n + regN c + 1) + (k + regN p + 2) by unfold regN; omega] at h8
end Go.Proofs.Ytdjbcmfjlfkcjaa


/- Plain: what the laws of Then and Pair say of runs. -/
import Derived.Test.YtaiomcjopgnfpaaSegs4
namespace Go.Proofs.Ytaiomcjopgnfpaa
open Go.RowKit

theorem Cleaned.less {j m : Nat} {rest : List Tr} (h : Cleaned j rest) (hm : m ≤ j) : Cleaned m rest := by
  unfold Cleaned at h ⊢
  have h2 := congrArg (List.take m) h
  rwa [List.take_take, Nat.min_eq_left hm, List.take_replicate, Nat.min_eq_left hm] at h2
/-- A part that ends. -/
theorem part_ok {P l : List Ins} {k F m : Nat} {y : Tr} {v : ByteArray} (h : Seg P k l) (hv : rightAll l = true) (hkl : k + l.length ≤ P.length) (hy : y.size ≤ 2000000) (hr : (partR l F y).run = (v, m, 0)) :
    ∃ c, TS c = v ∧ c.size ≤ 2000000 ∧ ∀ rest : List Tr, rest.length = 31 → Cleaned (mostN l) rest → ∃ rest' : List Tr, rest'.length = 31 ∧ (∀ r, mostN l ≤ r → rest'[r]? = rest[r]?) ∧ Runs P m ⟨k, y :: rest⟩ ⟨k + l.length, c :: rest'⟩ := by
  rcases part_how h hv hkl F y hy with ⟨m', b, h1, h2, h3, h4⟩ | ⟨h1, _⟩ | ⟨h1, _⟩
  · rw [h1] at hr
    simp only [Prod.mk.injEq, and_true] at hr
    obtain ⟨rfl, rfl⟩ := hr
    exact ⟨b, rfl, h3, h4⟩
  · rw [h1] at hr; simp only [Prod.mk.injEq] at hr; exact absurd hr.2.2 (by decide)
  · rw [h1] at hr; simp only [Prod.mk.injEq] at hr; exact absurd hr.2.2 (by decide)
/-- The same, behind a cleaning. -/
theorem cleaned_ok {P l : List Ins} {k j F m : Nat} {y : Tr} {v : ByteArray} (h0 : Seg P k (cleanK j)) (h : Seg P (k + j) l) (hj : mostN l ≤ j) (hj2 : j < 32) (hv : rightAll l = true) (hkl : k + j + l.length ≤ P.length) (hy : y.size ≤ 2000000) (hr : (partR l F y).run = (v, m, 0)) :
    ∃ c, TS c = v ∧ c.size ≤ 2000000 ∧ ∀ rest : List Tr, rest.length = 31 → ∃ rest' : List Tr, rest'.length = 31 ∧ (∀ r, j ≤ r → rest'[r]? = rest[r]?) ∧ Runs P (j + m) ⟨k, y :: rest⟩ ⟨k + j + l.length, c :: rest'⟩ := by
  obtain ⟨c, h1, h2, h3⟩ := part_ok h hv hkl hy hr
  refine ⟨c, h1, h2, fun rest hl => ?_⟩
  obtain ⟨rest', a1, a2, a3⟩ := h3 (List.replicate j .nil ++ rest.drop j) (by simp; omega) ((cleaned_self j rest).less hj)
  exact ⟨rest', a1, fun r hr => by rw [a2 r (by omega), cleaned_keep hl hr (by omega)], (cleanRuns h0 y rest hl hj2).trans a3⟩
theorem run_of_runs {P : List Ins} {m f : Nat} {s0 : St} {c : Tr} {rest : List Tr} {k : Nat} (h : Runs P m s0 ⟨k, c :: rest⟩) (hk : k = P.length) (hf : m ≤ f) : (goF P f 0 s0).run = (TS c, m, 0) := by
  rw [h.done hk f hf]; rfl
theorem done_of_run {P : List Ins} {f : Nat} {s0 : St} {v : ByteArray} {k : Nat} (h : (goF P f 0 s0).run = (v, k, 0)) : ∃ t, goF P f 0 s0 = .done t k ∧ k ≤ f ∧ Runs P k s0 t ∧ t.pos = P.length ∧ TS (getR t.regs 0) = v := by
  rcases goF_how P f 0 s0 with ⟨t, m, h1, h2, h3, h4⟩ | ⟨t, h1, h3, h4⟩ | ⟨t, m, h1, h2, h3, h4, h5⟩
  · rw [h1] at h
    rw [Nat.zero_add] at h1 h
    have e : (TS (getR t.regs 0), m, (0 : Int)) = (v, k, 0) := h
    simp only [Prod.mk.injEq, and_true] at e
    obtain ⟨e1, rfl⟩ := e
    exact ⟨t, h1, h2, h3, h4, e1⟩
  · rw [h1] at h; exact absurd (congrArg (fun z : ByteArray × Nat × Int => z.2.2) h) (by simp [Res.run])
  · rw [h1] at h; exact absurd (congrArg (fun z : ByteArray × Nat × Int => z.2.2) h) (by simp [Res.run])
/-- Where the whole ends, a part ends. -/
theorem done_of {P l : List Ins} {k m0 K : Nat} {s0 t : St} {y : Tr} {rest : List Tr} (hK : Runs P K s0 t) (ht : t.pos = P.length) (h0 : Runs P m0 s0 ⟨k, y :: rest⟩) (h : Seg P k l) (hv : rightAll l = true) (hkl : k + l.length ≤ P.length) (hy : y.size ≤ 2000000) (hl : rest.length = 31) (hc : Cleaned (mostN l) rest) :
    ∃ b m, (partR l K y).run = (b, m, 0) := by
  rcases part_how h hv hkl K y hy with ⟨m', b, h1, _⟩ | ⟨h1, h2⟩ | ⟨h1, h2⟩
  · exact ⟨_, _, h1⟩
  · obtain ⟨u, a1, a2⟩ := h2 rest hl hc
    have e1 := (h0.trans a1).fuel a2
    have e2 := hK.done ht (m0 + K) (by omega)
    rw [e1] at e2; cases e2
  · obtain ⟨m, u, a0, a1, a2, a3⟩ := h2 rest hl hc
    have e1 := (h0.trans a1).big a2 a3 (m0 + m + 1 + K) (by omega)
    have e2 := hK.done ht (m0 + m + 1 + K) (by omega)
    rw [e1] at e2; cases e2
theorem seg_clean {P l : List Ins} {k : Nat} (h : Seg P k (cleanP l)) : Seg P k (cleanK (mostN l)) ∧ Seg P (k + mostN l) l := by
  refine ⟨fun i y hy => h i y (by unfold cleanP cleanH; rw [List.getElem?_append_left (List.getElem?_eq_some_iff.1 hy).1]; exact hy), fun i y hy => ?_⟩
  have := h (mostN l + i) y (by unfold cleanP cleanH; rw [List.getElem?_append_right (by rw [cleanK_length]; omega), cleanK_length, Nat.add_sub_cancel_left]; exact hy)
  rwa [show k + (mostN l + i) = k + mostN l + i by omega] at this
theorem nils31 : (List.replicate 31 Tr.nil).length = 31 := by simp
theorem cleaned_len {m : Nat} {rest : List Tr} (hl : rest.length = 31) (hm : m < 32) : (List.replicate m Tr.nil ++ rest.drop m).length = 31 := by simp; omega

/-- Then is associative. -/
theorem then_assoc (p q r : List Ins) (hp : rightAll p = true) (hq : rightAll q = true) (hr : rightAll r = true) (hqr : mostN (thenL [q, r]) < 32) (y : Tr) (hy : y.size ≤ 2000000) (F : Nat) (v : ByteArray) (k : Nat)
    (h : (goF (thenL [thenL [p, q], r]) F 0 (startS y)).run = (v, k, 0)) : ∃ k', (goF (thenL [p, thenL [q, r]]) (k + 100) 0 (startS y)).run = (v, k', 0) := by
  obtain ⟨t, _, _, hK, ht, hv⟩ := done_of_run h
  have hA : thenL [thenL [p, q], r] = p ++ cleanP q ++ cleanP r := by simp [thenL]
  have hB : thenL [p, thenL [q, r]] = p ++ cleanK (mostN (thenL [q, r])) ++ q ++ cleanP r := by simp [thenL, cleanP, cleanH]
  have hmq := mostN_lt32 hq
  have hmr := mostN_lt32 hr
  have hle : mostN q ≤ mostN (thenL [q, r]) := by
    rw [show thenL [q, r] = q ++ cleanP r by simp [thenL], mostN_append]; omega
  generalize mostN (thenL [q, r]) = M at hB hqr hle
  generalize thenL [thenL [p, q], r] = A at *
  generalize thenL [p, thenL [q, r]] = B at *
  -- A
  have a0 : Seg A 0 p := seg_at (a := []) (b := cleanP q ++ cleanP r) (by simp [hA]) rfl
  have a1 : Seg A (0 + p.length) (cleanP q) := seg_at (a := p) (b := cleanP r) (by simp [hA]) (by simp)
  have a2 : Seg A (0 + p.length + (cleanP q).length) (cleanP r) := seg_at (a := p ++ cleanP q) (b := []) (by simp [hA]) (by simp)
  have al : A.length = 0 + p.length + (cleanP q).length + (cleanP r).length := by rw [hA]; simp; omega
  rw [cleanP_length] at a2 al
  rw [cleanP_length] at al
  obtain ⟨b1, m1, r1⟩ := done_of hK ht (.refl _) a0 hp (by omega) hy nils31 (cleaned_nils (by have := mostN_lt32 hp; omega))
  obtain ⟨c1, e1, z1, g1⟩ := part_ok a0 hp (by omega) hy r1
  obtain ⟨rest1, l1, _, R1⟩ := g1 _ nils31 (cleaned_nils (by have := mostN_lt32 hp; omega))
  have R1c := R1.trans (cleanRuns (seg_clean a1).1 c1 rest1 l1 hmq)
  obtain ⟨b2, m2, r2⟩ := done_of hK ht R1c (seg_clean a1).2 hq (by omega) z1 (cleaned_len l1 hmq) (cleaned_self _ _)
  obtain ⟨c2, e2, z2, g2⟩ := cleaned_ok (seg_clean a1).1 (seg_clean a1).2 (Nat.le_refl _) hmq hq (by omega) z1 r2
  obtain ⟨rest2, l2, _, R2⟩ := g2 rest1 l1
  rw [show 0 + p.length + mostN q + q.length = 0 + p.length + (mostN q + q.length) by omega] at R2
  have R2c := (R1.trans R2).trans (cleanRuns (seg_clean a2).1 c2 rest2 l2 hmr)
  obtain ⟨b3, m3, r3⟩ := done_of hK ht R2c (seg_clean a2).2 hr (by omega) z2 (cleaned_len l2 hmr) (cleaned_self _ _)
  obtain ⟨c3, e3, z3, g3⟩ := cleaned_ok (seg_clean a2).1 (seg_clean a2).2 (Nat.le_refl _) hmr hr (by omega) z2 r3
  obtain ⟨rest3, l3, _, R3⟩ := g3 rest2 l2
  have RT := (R1.trans R2).trans R3
  have d1 : goF A (k + (m1 + (mostN q + m2) + (mostN r + m3))) 0 (startS y) = _ := RT.done (by show 0 + p.length + (mostN q + q.length) + mostN r + r.length = A.length; omega) (k + (m1 + (mostN q + m2) + (mostN r + m3))) (by omega)
  have d2 := hK.done ht (k + (m1 + (mostN q + m2) + (mostN r + m3))) (by omega)
  rw [d1] at d2
  simp only [Res.done.injEq] at d2
  obtain ⟨rfl, hk⟩ := d2
  -- B
  have b0 : Seg B 0 p := seg_at (a := []) (b := cleanK M ++ q ++ cleanP r) (by simp [hB]) rfl
  have b1' : Seg B (0 + p.length) (cleanK M) := seg_at (a := p) (b := q ++ cleanP r) (by simp [hB]) (by simp)
  have b2' : Seg B (0 + p.length + M) q := seg_at (a := p ++ cleanK M) (b := cleanP r) (by simp [hB]) (by simp [cleanK_length] <;> omega)
  have b3' : Seg B (0 + p.length + M + q.length) (cleanP r) := seg_at (a := p ++ cleanK M ++ q) (b := []) (by simp [hB]) (by simp [cleanK_length] <;> omega)
  have bl : B.length = 0 + p.length + M + q.length + (mostN r + r.length) := by rw [hB]; simp [cleanK_length, cleanP_length]; omega
  obtain ⟨f1, x1, w1, j1⟩ := part_ok b0 hp (by omega) hy r1
  obtain ⟨rst1, n1, _, S1⟩ := j1 _ nils31 (cleaned_nils (by have := mostN_lt32 hp; omega))
  obtain rfl : f1 = c1 := by rw [← toTr_TS f1 w1, x1, ← e1, toTr_TS c1 z1]
  obtain ⟨f2, x2, w2, j2⟩ := cleaned_ok b1' b2' hle hqr hq (by omega) z1 r2
  obtain ⟨rst2, n2, _, S2⟩ := j2 rst1 n1
  obtain rfl : f2 = c2 := by rw [← toTr_TS f2 w2, x2, ← e2, toTr_TS c2 z2]
  obtain ⟨f3, x3, w3, j3⟩ := cleaned_ok (seg_clean b3').1 (seg_clean b3').2 (Nat.le_refl _) hmr hr (by omega) z2 r3
  obtain ⟨rst3, n3, _, S3⟩ := j3 rst2 n2
  refine ⟨m1 + (M + m2) + (mostN r + m3), ?_⟩
  have e9 : (goF B (k + 100) 0 (startS y)).run = (TS f3, m1 + (M + m2) + (mostN r + m3), 0) := run_of_runs ((S1.trans S2).trans S3) (by omega) (by omega)
  rw [e9, x3, ← e3, ← hv]; rfl
/-- The empty program is neutral. -/
theorem then_nil (p : List Ins) : thenL [p, []] = p := by simp [thenL, cleanP, cleanH, mostN, cleanK]
theorem nil_then (p : List Ins) : thenL [[], p] = cleanP p := by simp [thenL]
theorem clean_run (p : List Ins) (hp : rightAll p = true) (y : Tr) (hy : y.size ≤ 2000000) (v : ByteArray) (n : Nat) (h : (goF p 2000 0 (startS y)).run = (v, n, 0)) : ∃ k', (goF (thenL [[], p]) (n + 100) 0 (startS y)).run = (v, k', 0) := by
  rw [nil_then]
  have hm := mostN_lt32 hp
  have hs : Seg (cleanP p) 0 (cleanP p) := fun i x hx => by rwa [Nat.zero_add]
  have hl := cleanP_length p
  obtain ⟨c, e, z, g⟩ := cleaned_ok (seg_clean hs).1 (seg_clean hs).2 (Nat.le_refl _) hm hp (by omega) hy h
  obtain ⟨rest, l1, _, R⟩ := g _ nils31
  exact ⟨mostN p + n, by rw [← e]; exact run_of_runs R (by omega) (by omega)⟩
/-- Const behind anything. -/
theorem const_run (p : List Ins) (hp : rightAll p = true) (d : ByteArray) (hd : isTree d = true) (y : Tr) (hy : y.size ≤ 2000000) (v : ByteArray) (n : Nat) (h : (goF p 2000 0 (startS y)).run = (v, n, 0)) : ∃ k', (goF (thenL [p, [setI 0 d]]) (n + 100) 0 (startS y)).run = (d, k', 0) := by
  have hP : thenL [p, [setI 0 d]] = p ++ [setI 0 d] := by simp [thenL, cleanP, cleanH, mostN, cleanK, rX, setI]
  rw [hP]
  have s0 : Seg (p ++ [setI 0 d]) 0 p := seg_at (a := []) (b := [setI 0 d]) (by simp) rfl
  have s1 : Seg (p ++ [setI 0 d]) (0 + p.length) [setI 0 d] := seg_at (a := p) (b := []) (by simp) (by simp)
  have hl : (p ++ [setI 0 d]).length = p.length + 1 := by simp
  obtain ⟨c, e, z, g⟩ := part_ok s0 hp (by omega) hy h
  obtain ⟨rest, l1, _, R⟩ := g _ nils31 (cleaned_nils (by have := mostN_lt32 hp; omega))
  have R2 := R.trans (Runs.one (seg_one s1) (t := ⟨0 + p.length + 1, toTr d :: rest⟩) (by unfold stepX setI; simp only [if_true]; rfl))
  have e9 : (goF (p ++ [setI 0 d]) (n + 100) 0 (startS y)).run = (TS (toTr d), n + 1, 0) := run_of_runs R2 (by omega) (by omega)
  rw [TS_toTr hd] at e9
  exact ⟨n + 1, e9⟩
def headI : Ins := ⟨3, 0, 0, 0, ⟨#[]⟩⟩
/-- The head of a pair. -/
theorem head_run (p q : List Ins) (hp : rightAll p = true) (hq : rightAll q = true) (n0 : Nat) (hn : max (regN p) (regN q) = n0 + 1) (hn2 : n0 ≤ 27) (y : Tr) (hy : y.size ≤ 2000000) (v z : ByteArray) (n m : Nat) (h : (goF p 2000 0 (startS y)).run = (v, n, 0)) (h2 : (goF q 2000 0 (startS y)).run = (z, m, 0)) (hsz : v.size + z.size < 2000000) :
    ∃ k', (goF (thenL [pairL p q, [headI]]) (n + m + 200) 0 (startS y)).run = (v, k', 0) := by
  have sg := pair_segs p q n0 hn
  have hP : thenL [pairL p q, [headI]] = pairL p q ++ [headI] := by simp [thenL, cleanP, cleanH, mostN, cleanK, rX, headI]
  rw [hP]
  have hlp := sg.len
  generalize pairL p q = Q at *
  have up : ∀ {k : Nat} {l : List Ins}, Seg Q k l → Seg (Q ++ [headI]) k l := fun hs i x hx => by
    have h1 := hs i x hx
    rw [List.getElem?_append_left (List.getElem?_eq_some_iff.1 h1).1]; exact h1
  have up1 : ∀ {k : Nat} {x : Ins}, Q[k]? = some x → (Q ++ [headI])[k]? = some x := fun h1 => by rw [List.getElem?_append_left (List.getElem?_eq_some_iff.1 h1).1]; exact h1
  have hl : (Q ++ [headI]).length = Q.length + 1 := by simp
  have hmp : mostN p ≤ n0 := by have : regN p = mostN p + 1 := rfl; omega
  have hmq : mostN q ≤ n0 := by have : regN q = mostN q + 1 := rfl; omega
  have hcl := cleanP_length q
  -- move
  have R0 : Runs (Q ++ [headI]) 1 (startS y) ⟨1, y :: (List.replicate 31 .nil).set n0 y⟩ := Runs.one (up1 sg.m0) (by unfold stepX moveI; simp only [show ¬ (1 : Int) = 0 by decide, if_false, if_true]; rfl)
  obtain ⟨c, e, zc, g⟩ := part_ok (up sg.s0) hp (by omega) hy h
  obtain ⟨rest, l1, k1, R1⟩ := g _ (by simp) (cleaned_set hmp (by omega))
  have A1 : AtX (1 + p.length) v (Holds [(n0, y)]) ⟨1 + p.length, c :: rest⟩ := ⟨c, rest, e, zc, rfl, l1, holds_set hmp (by omega) _ rest rfl k1⟩
  obtain ⟨s2, R2, A2⟩ := at_save (n := n0 + 1) (by omega) (up1 sg.m1) (by intro p hp; simp at hp; subst hp; simp) A1
  obtain ⟨s3, R3, A3⟩ := at_load (up1 sg.m2) hy (by simp) A2
  obtain ⟨y3, rest3, e3, z3, rfl, l3, H3⟩ := A3
  obtain rfl : y3 = y := by rw [← toTr_TS y3 z3, e3, toTr_TS y hy]
  obtain ⟨d, e4, z4, g4⟩ := cleaned_ok (seg_clean (up sg.s1)).1 (seg_clean (up sg.s1)).2 (Nat.le_refl _) (mostN_lt32 hq) hq (by omega) hy h2
  obtain ⟨rest4, l4, k4, R4⟩ := g4 rest3 l3
  have hvt : toTr v = c := by rw [← e, toTr_TS c zc]
  have H4 : Holds [(n0 + 1, toTr v), (n0, y3)] rest4 := by
    intro p hp
    have hge : mostN q ≤ p.1 := by simp at hp; rcases hp with rfl | rfl <;> simp <;> omega
    rw [k4 p.1 hge]; exact H3 p hp
  have A4 : AtX (1 + p.length + 1 + 1 + (cleanP q).length) z (Holds [(n0 + 1, toTr v), (n0, y3)]) ⟨1 + p.length + 1 + 1 + mostN q + q.length, d :: rest4⟩ := ⟨d, rest4, e4, z4, by rw [hcl, Nat.add_assoc _ (mostN q)], l4, H4⟩
  obtain ⟨s5, R5, A5⟩ := (at_cons (t := toTr v) (up1 sg.m3) (by simp) A4).1 (by rw [hvt, ← TS_size, e]; omega)
  obtain ⟨y5, rest5, e5, z5, rfl, l5, _⟩ := A5
  have hy5 : y5 = .pair c d := by
    have hps : (Tr.pair c d).size ≤ 2000000 := by
      have e1 := TS_size c
      have e2 := TS_size d
      rw [e] at e1
      rw [e4] at e2
      have : (Tr.pair c d).size = 1 + c.size + d.size := by simp [Tr.size]
      omega
    rw [← toTr_TS y5 z5, e5, hvt, ← e4]
    have : (⟨#[49]⟩ ++ TS c ++ TS d : ByteArray) = TS (.pair c d) := by apply ByteArray.ext; simp [TS, Tr.enc]
    rw [this, toTr_TS _ hps]
  subst hy5
  have sH : (Q ++ [headI])[1 + p.length + 1 + 1 + (cleanP q).length + 1]? = some headI := by rw [List.getElem?_append_right (by omega), show 1 + p.length + 1 + 1 + (cleanP q).length + 1 - Q.length = 0 by omega]; rfl
  have R6 : Runs (Q ++ [headI]) 1 ⟨1 + p.length + 1 + 1 + (cleanP q).length + 1, Tr.pair c d :: rest5⟩ ⟨1 + p.length + 1 + 1 + (cleanP q).length + 1 + 1, c :: rest5⟩ := Runs.one sH (by unfold stepX headI; simp only [show ¬ (3 : Int) = 0 by decide, show ¬ (3 : Int) = 1 by decide, show ¬ (3 : Int) = 2 by decide, if_false, if_true]; rfl)
  have RT := (((((R0.trans R1).trans R2).trans R3).trans R4).trans R5).trans R6
  have hm32 := mostN_lt32 hq
  exact ⟨_, by rw [← e]; exact run_of_runs RT (by omega) (by omega)⟩

end Go.Proofs.Ytaiomcjopgnfpaa


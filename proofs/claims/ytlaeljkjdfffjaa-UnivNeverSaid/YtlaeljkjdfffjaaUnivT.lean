/- Plain: one step of a program, done by the universal program. -/
import Derived.Test.YtlaeljkjdfffjaaUnivS
namespace Go.Proofs.Ytlaeljkjdfffjaa
open Go.RowKit

theorem dropC_at {p : List Ins} {k : Nat} {x : Ins} (hx : p[k]? = some x) : codeT (p.drop k) = .pair (insT x) (codeT (p.drop (k + 1))) := by
  obtain ⟨hk, rfl⟩ := List.getElem?_eq_some_iff.1 hx
  rw [List.drop_eq_getElem_cons hk]
  rfl
/-- What comes of one step. -/
def StepU (p : List Ins) (s' : St) (u : St) : Prop := ∃ m l' u', Runs univL m u u' ∧ 1 ≤ m ∧ m ≤ 100 * (p.length + 40) ∧ RepL l' s'.regs ∧ AtH (codeT p) (codeT (p.drop s'.pos)) (.num s'.pos) (Tr.ofList l') u'
/-- A step that stores. -/
theorem step_store {p : List Ins} {k a n : Nat} {l rs : List Tr} (hl : RepL l rs) (ha : a < 32) (v : Tr) (hk : k ≤ 900000) (hs : sumS (setR rs (a : Int) v) ≤ 1000000) {T : Tr} {u u1 : St} (hn : 1 ≤ n ∧ n ≤ 1000) (hr : Runs univL n u u1)
    (h : AtU 85 (codeT p) (.pair T (codeT (p.drop (k + 1)))) (.num k) (Tr.ofList l) (.num a) v u1) : StepU p ⟨k + 1, setR rs (a : Int) v⟩ u := by
  have hp := hl.put ha v
  obtain ⟨s', h1, h2⟩ := ust_store rfl hl ha (Nat.le_trans hp.sum hs) hk h
  exact ⟨_, _, s', hr.trans h1, by omega, by omega, hp, h2⟩
theorem univ_step {p : List Ins} (hv : rightAll p = true) (hp4 : p.length ≤ 800000) {s s' : St} {x : Ins} (hx : p[s.pos]? = some x) (hst : stepX x s = some s') {l : List Tr} (hl : RepL l s.regs) (hsum : sumS s'.regs ≤ 1000000) {u : St}
    (hu : AtH (codeT p) (codeT (p.drop s.pos)) (.num s.pos) (Tr.ofList l) u) : StepU p s' u := by
  obtain ⟨fi, va, o, op, ar, ot, le, li, tu, pa, rfl⟩ := hu
  have hr := rightAll_get hv hx
  have hk : s.pos < p.length := (List.getElem?_eq_some_iff.1 hx).1
  obtain ⟨a, ha, ha2, hbc⟩ := right_nats hr
  have hop := right_op hr
  have hjb := right_jump hr
  rw [dropC_at hx]
  obtain ⟨k, rs⟩ := s
  obtain ⟨xo, xa, xb, xc, xt⟩ := x
  simp only at ha hop hbc hk hl hst hjb ⊢
  subst ha
  rcases hop with rfl | rfl | rfl | rfl | rfl | rfl
  · have e : insT ⟨0, (a : Int), xb, xc, xt⟩ = .pair (.num 0) (.pair (.num a) (toTr xt)) := by simp [insT, bodyT]
    simp [stepX] at hst
    subst hst
    rw [e]
    exact step_store (T := .pair (.num 0) (.pair (.num a) (toTr xt))) hl ha2 _ (by omega) hsum (by omega) (up_0 o (codeT p) (.num k) (Tr.ofList l) op ar fi va ot le li tu pa (.num a) (codeT (p.drop (k + 1))) (toTr xt)) ⟨_, _, _, _, _, _, _, _, rfl⟩
  · obtain ⟨b, c, rfl, rfl, hb, hc⟩ := hbc (by decide)
    have e : insT ⟨1, (a : Int), (b : Int), (c : Int), xt⟩ = .pair (.num 1) (.pair (.num a) (.num b)) := by simp [insT, bodyT]
    simp [stepX] at hst
    subst hst
    rw [e]
    have h1 := up_1 o (codeT p) (.num k) (Tr.ofList l) op ar fi va ot le li tu pa (.num a) (codeT (p.drop (k + 1))) b
    rw [tlN_get, hl.reg hb] at h1
    exact step_store (T := .pair (.num 1) (.pair (.num a) (.num b))) hl ha2 _ (by omega) hsum (by omega) h1 ⟨_, _, _, _, _, _, _, _, rfl⟩
  · obtain ⟨b, c, rfl, rfl, hb, hc⟩ := hbc (by decide)
    have e : insT ⟨2, (a : Int), (b : Int), (c : Int), xt⟩ = .pair (.num 2) (.pair (.num a) (.pair (.num b) (.num c))) := by simp [insT, bodyT]
    by_cases hz : (Tr.pair (getR rs (b : Int)) (getR rs (c : Int))).size ≤ 2000000
    · have hst : (if (Tr.pair (getR rs (b : Int)) (getR rs (c : Int))).size ≤ 2000000 then some (⟨k + 1, setR rs (a : Int) (.pair (getR rs (b : Int)) (getR rs (c : Int)))⟩ : St) else none) = some s' := hst
      rw [if_pos hz] at hst
      injection hst with hst
      subst hst
      rw [e]
      have h1 := up_2 o (codeT p) (.num k) (Tr.ofList l) op ar fi va ot le li tu pa (.num a) (codeT (p.drop (k + 1))) b c (by rw [tlN_get, tlN_get, hl.reg hb, hl.reg hc]; exact hz)
      rw [tlN_get, tlN_get, hl.reg hb, hl.reg hc] at h1
      exact step_store (T := .pair (.num 2) (.pair (.num a) (.pair (.num b) (.num c)))) hl ha2 _ (by omega) hsum (by omega) h1 ⟨_, _, _, _, _, _, _, _, rfl⟩
    · have hst : (if (Tr.pair (getR rs (b : Int)) (getR rs (c : Int))).size ≤ 2000000 then some (⟨k + 1, setR rs (a : Int) (.pair (getR rs (b : Int)) (getR rs (c : Int)))⟩ : St) else none) = some s' := hst
      rw [if_neg hz] at hst
      cases hst
  · obtain ⟨b, c, rfl, rfl, hb, hc⟩ := hbc (by decide)
    have e : insT ⟨3, (a : Int), (b : Int), (c : Int), xt⟩ = .pair (.num 3) (.pair (.num a) (.num b)) := by simp [insT, bodyT]
    simp [stepX] at hst
    subst hst
    rw [e]
    have h1 := up_3 o (codeT p) (.num k) (Tr.ofList l) op ar fi va ot le li tu pa (.num a) (codeT (p.drop (k + 1))) b
    rw [tlN_get, hl.reg hb] at h1
    exact step_store (T := .pair (.num 3) (.pair (.num a) (.num b))) hl ha2 _ (by omega) hsum (by omega) h1 ⟨_, _, _, _, _, _, _, _, rfl⟩
  · obtain ⟨b, c, rfl, rfl, hb, hc⟩ := hbc (by decide)
    have e : insT ⟨4, (a : Int), (b : Int), (c : Int), xt⟩ = .pair (.num 4) (.pair (.num a) (.num b)) := by simp [insT, bodyT]
    simp [stepX] at hst
    subst hst
    rw [e]
    have h1 := up_4 o (codeT p) (.num k) (Tr.ofList l) op ar fi va ot le li tu pa (.num a) (codeT (p.drop (k + 1))) b
    rw [tlN_get, hl.reg hb] at h1
    exact step_store (T := .pair (.num 4) (.pair (.num a) (.num b))) hl ha2 _ (by omega) hsum (by omega) h1 ⟨_, _, _, _, _, _, _, _, rfl⟩
  · have hj := hjb rfl
    obtain ⟨ar2, e, har⟩ : ∃ ar2, insT ⟨5, (a : Int), xb, xc, xt⟩ = .pair (.num 5) (.pair (.num a) ar2) ∧ ((∃ b : Nat, xb = b ∧ ar2 = .pair .nil (.num b)) ∨ ∃ b : Nat, 0 < b ∧ xb = -(b : Int) ∧ ar2 = .pair (.pair .nil .nil) (.num b)) := by
      by_cases hb : xb < 0
      · obtain ⟨b, rfl⟩ : ∃ b : Nat, xb = -(b : Int) := ⟨xb.natAbs, by omega⟩
        exact ⟨.pair (.pair .nil .nil) (.num b), by simp [insT, bodyT]; omega, .inr ⟨b, by omega, rfl, rfl⟩⟩
      · obtain ⟨b, rfl⟩ : ∃ b : Nat, xb = (b : Int) := ⟨xb.natAbs, by omega⟩
        exact ⟨.pair .nil (.num b), by simp [insT, bodyT], .inl ⟨b, rfl, rfl⟩⟩
    rw [e]
    have h1 := up_5 o (codeT p) (.num k) (Tr.ofList l) op ar fi va ot le li tu pa ar2 (codeT (p.drop (k + 1))) a
    rw [tlN_get, hl.reg ha2] at h1
    have hcode : Tr.pair (.pair (.num 5) (.pair (.num a) ar2)) (codeT (p.drop (k + 1))) = codeT (p.drop k) := by rw [dropC_at hx, e]
    by_cases hz : getR rs (a : Int) = .nil
    · have e2 : s' = ⟨k + 1, rs⟩ := by
        simp [stepX, hz] at hst
        exact hst.symm
      subst e2
      rw [hz] at h1
      have h2 := h1.trans (show Runs univL 1 ⟨80, _⟩ ⟨81, _⟩ from stay_run 8 25 _ rfl rfl)
      have h3 := h2.trans (up_next _ _ _ _ _ _ _ _ _ _ _ _ _ _ (by simp only [Tr.size, size_num]; omega))
      exact ⟨_, l, _, h3, by omega, by omega, hl, _, _, _, _, _, _, _, _, _, _, rfl⟩
    · have e2 : s' = ⟨((k : Int) + xb).toNat, rs⟩ := by
        simp [stepX, hz] at hst
        exact hst.symm
      subst e2
      have h2 := h1.trans (show Runs univL 1 ⟨80, _⟩ ⟨105, _⟩ from jump_run 8 25 _ 105 rfl hz (by decide))
      rw [hcode] at h2 ⊢
      rcases har with ⟨b, rfl, rfl⟩ | ⟨b, hb, rfl, rfl⟩
      · have h3 := h2.trans (up_on _ _ _ _ _ _ _ _ _ _ _ _ _ b)
        obtain ⟨pa', h4⟩ := us_108 _ _ _ _ _ _ _ _ _ _ b (codeT (p.drop k)) (.num k) .nil (by rw [addN_num, size_num]; omega)
        have h5 := (h3.trans h4).trans (up_115 _ _ _ _ _ _ _ _ _ _ _ _ _ _)
        rw [addN_num, tlN_code, List.drop_drop] at h5
        have hpos : ((k : Int) + b).toNat = k + b := by omega
        refine ⟨_, l, _, h5, by omega, by omega, hl, ?_⟩
        show AtH _ (codeT (p.drop ((k : Int) + b).toNat)) (.num ((k : Int) + b).toNat) _ _
        rw [hpos]
        exact ⟨_, _, _, _, _, _, _, _, _, _, rfl⟩
      · obtain ⟨j, rfl⟩ : ∃ j, k = j + b := ⟨k - b, by omega⟩
        have h3 := h2.trans (up_back _ _ _ _ _ _ _ _ _ _ _ _ _ .nil .nil b 0)
        rw [tlN_num] at h3
        have h4 := h3.trans (up_121 _ _ _ _ _ _ _ _ _ _ _ _ _ j)
        rw [tlN_code] at h4
        have hpos : (((j + b : Nat) : Int) + -(b : Int)).toNat = j := by omega
        refine ⟨_, l, _, h4, by omega, by omega, hl, ?_⟩
        show AtH _ (codeT (p.drop (((j + b : Nat) : Int) + -(b : Int)).toNat)) (.num (((j + b : Nat) : Int) + -(b : Int)).toNat) _ _
        rw [hpos]
        exact ⟨_, _, _, _, _, _, _, _, _, _, rfl⟩
end Go.Proofs.Ytlaeljkjdfffjaa


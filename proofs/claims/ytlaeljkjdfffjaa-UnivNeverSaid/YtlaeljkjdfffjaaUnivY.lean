/- Plain: the universal program runs a program, however large. -/
import Derived.Test.YtlaeljkjdfffjaaUnivX
namespace Go.Proofs.Ytlaeljkjdfffjaa
open Go.RowKit

theorem ustX_store {c r g va : Tr} {a n : Nat} {l rs : List Tr} (hg : g = Tr.ofList l) (_hl : RepL l rs) (_ha : a < 32) {s : St} (h : AtU 85 c r (.num n) g (.num a) va s) :
    ∃ s', RunsX univL (11 * a + 15) s s' ∧ AtH c r.tl (.num (n + 1)) (Tr.ofList (putL a va l)) s' := by
  obtain ⟨o, op, ar, ot, le, li, tu, pa, rfl⟩ := h
  subst hg
  have h1 := upX_85 o c r (.num n) (Tr.ofList l) op ar va ot le li tu pa a
  obtain ⟨pa1, h2⟩ := usX_88 o c r (.num n) (Tr.ofList l) op ar (.num a) va ot a (Tr.ofList l) .nil pa
  have h3 := upX_95 o c r (.num n) (Tr.ofList l) op ar (.num a) va ot .nil (tlN a (Tr.ofList l)) (pushN a (Tr.ofList l) .nil) pa1
  obtain ⟨pa2, h4⟩ := usX_97 o c r (.num n) (Tr.ofList l) op ar (.num a) va ot .nil (pushN a (Tr.ofList l) .nil) (.pair va (tlN a (Tr.ofList l)).tl) pa1
  rw [un_all, lenT_push] at h4
  have h5 := upX_103 o c r (.num n) (Tr.ofList l) op ar (.num a) va ot .nil (Tr.ofList (putL a va l)) .nil pa2
  have h6 := upX_next o c r (.num n) (Tr.ofList (putL a va l)) op ar (.num a) va ot .nil (Tr.ofList (putL a va l)) .nil pa2
  have h7 := ((((h1.trans h2).trans h3).trans h4).trans h5).trans h6
  refine ⟨_, ?_, .num a, va, o, op, ar, ot, .nil, .ofList (putL a va l), .nil, .nil, rfl⟩
  have e : 1 + 1 + 1 + (6 * a + 2) + (1 + 1) + (5 * (a + lenT .nil) + 2) + (1 + 1) + (1 + 1 + 1 + 1) = 11 * a + 15 := by simp only [lenT]; omega
  rw [e] at h7
  exact h7
/-- What comes of one step. -/
def StepX10 (p : List Ins) (s' : St) (u : St) : Prop := ∃ m l' u', RunsX univL m u u' ∧ 1 ≤ m ∧ m ≤ 100 * (p.length + 40) ∧ RepL l' s'.regs ∧ AtH (codeT p) (codeT (p.drop s'.pos)) (.num s'.pos) (Tr.ofList l') u'
/-- A step that stores. -/
theorem stepX_store {p : List Ins} {k a n : Nat} {l rs : List Tr} (hl : RepL l rs) (ha : a < 32) (v : Tr) {T : Tr} {u u1 : St} (hn : 1 ≤ n ∧ n ≤ 1000) (hr : RunsX univL n u u1)
    (h : AtU 85 (codeT p) (.pair T (codeT (p.drop (k + 1)))) (.num k) (Tr.ofList l) (.num a) v u1) : StepX10 p ⟨k + 1, setR rs (a : Int) v⟩ u := by
  have hp := hl.put ha v
  obtain ⟨s', h1, h2⟩ := ustX_store rfl hl ha h
  exact ⟨_, _, s', hr.trans h1, by omega, by omega, hp, h2⟩
theorem univX_step {p : List Ins} (hv : rightAll p = true) {s s' : St} {x : Ins} (hx : p[s.pos]? = some x) (hst : stepX x s = some s') {l : List Tr} (hl : RepL l s.regs) {u : St}
    (hu : AtH (codeT p) (codeT (p.drop s.pos)) (.num s.pos) (Tr.ofList l) u) : StepX10 p s' u := by
  obtain ⟨fi, va, o, op, ar, ot, le, li, tu, pa, rfl⟩ := hu
  have hr := rightAll_get hv hx
  have hk : s.pos < p.length := (List.getElem?_eq_some_iff.1 hx).1
  obtain ⟨a, ha, ha2, hbc⟩ := right_nats hr
  have hop := right_op hr
  have hjb := right_jump hr
  rw [dropC_at hx]
  obtain ⟨k, rs⟩ := s
  obtain ⟨xo, xa, xb, xc, xt⟩ := x
  simp only at ha hop hbc hk hl hst hjb ⊢
  subst ha
  rcases hop with rfl | rfl | rfl | rfl | rfl | rfl
  · have e : insT ⟨0, (a : Int), xb, xc, xt⟩ = .pair (.num 0) (.pair (.num a) (toTr xt)) := by simp [insT, bodyT]
    simp [stepX] at hst
    subst hst
    rw [e]
    exact stepX_store (T := .pair (.num 0) (.pair (.num a) (toTr xt))) hl ha2 _ (by omega) (upX_0 o (codeT p) (.num k) (Tr.ofList l) op ar fi va ot le li tu pa (.num a) (codeT (p.drop (k + 1))) (toTr xt)) ⟨_, _, _, _, _, _, _, _, rfl⟩
  · obtain ⟨b, c, rfl, rfl, hb, hc⟩ := hbc (by decide)
    have e : insT ⟨1, (a : Int), (b : Int), (c : Int), xt⟩ = .pair (.num 1) (.pair (.num a) (.num b)) := by simp [insT, bodyT]
    simp [stepX] at hst
    subst hst
    rw [e]
    have h1 := upX_1 o (codeT p) (.num k) (Tr.ofList l) op ar fi va ot le li tu pa (.num a) (codeT (p.drop (k + 1))) b
    rw [tlN_get, hl.reg hb] at h1
    exact stepX_store (T := .pair (.num 1) (.pair (.num a) (.num b))) hl ha2 _ (by omega) h1 ⟨_, _, _, _, _, _, _, _, rfl⟩
  · obtain ⟨b, c, rfl, rfl, hb, hc⟩ := hbc (by decide)
    have e : insT ⟨2, (a : Int), (b : Int), (c : Int), xt⟩ = .pair (.num 2) (.pair (.num a) (.pair (.num b) (.num c))) := by simp [insT, bodyT]
    by_cases hz : (Tr.pair (getR rs (b : Int)) (getR rs (c : Int))).size ≤ 2000000
    · have hst : (if (Tr.pair (getR rs (b : Int)) (getR rs (c : Int))).size ≤ 2000000 then some (⟨k + 1, setR rs (a : Int) (.pair (getR rs (b : Int)) (getR rs (c : Int)))⟩ : St) else none) = some s' := hst
      rw [if_pos hz] at hst
      injection hst with hst
      subst hst
      rw [e]
      have h1 := upX_2 o (codeT p) (.num k) (Tr.ofList l) op ar fi va ot le li tu pa (.num a) (codeT (p.drop (k + 1))) b c
      rw [tlN_get, tlN_get, hl.reg hb, hl.reg hc] at h1
      exact stepX_store (T := .pair (.num 2) (.pair (.num a) (.pair (.num b) (.num c)))) hl ha2 _ (by omega) h1 ⟨_, _, _, _, _, _, _, _, rfl⟩
    · have hst : (if (Tr.pair (getR rs (b : Int)) (getR rs (c : Int))).size ≤ 2000000 then some (⟨k + 1, setR rs (a : Int) (.pair (getR rs (b : Int)) (getR rs (c : Int)))⟩ : St) else none) = some s' := hst
      rw [if_neg hz] at hst
      cases hst
  · obtain ⟨b, c, rfl, rfl, hb, hc⟩ := hbc (by decide)
    have e : insT ⟨3, (a : Int), (b : Int), (c : Int), xt⟩ = .pair (.num 3) (.pair (.num a) (.num b)) := by simp [insT, bodyT]
    simp [stepX] at hst
    subst hst
    rw [e]
    have h1 := upX_3 o (codeT p) (.num k) (Tr.ofList l) op ar fi va ot le li tu pa (.num a) (codeT (p.drop (k + 1))) b
    rw [tlN_get, hl.reg hb] at h1
    exact stepX_store (T := .pair (.num 3) (.pair (.num a) (.num b))) hl ha2 _ (by omega) h1 ⟨_, _, _, _, _, _, _, _, rfl⟩
  · obtain ⟨b, c, rfl, rfl, hb, hc⟩ := hbc (by decide)
    have e : insT ⟨4, (a : Int), (b : Int), (c : Int), xt⟩ = .pair (.num 4) (.pair (.num a) (.num b)) := by simp [insT, bodyT]
    simp [stepX] at hst
    subst hst
    rw [e]
    have h1 := upX_4 o (codeT p) (.num k) (Tr.ofList l) op ar fi va ot le li tu pa (.num a) (codeT (p.drop (k + 1))) b
    rw [tlN_get, hl.reg hb] at h1
    exact stepX_store (T := .pair (.num 4) (.pair (.num a) (.num b))) hl ha2 _ (by omega) h1 ⟨_, _, _, _, _, _, _, _, rfl⟩
  · have hj := hjb rfl
    obtain ⟨ar2, e, har⟩ : ∃ ar2, insT ⟨5, (a : Int), xb, xc, xt⟩ = .pair (.num 5) (.pair (.num a) ar2) ∧ ((∃ b : Nat, xb = b ∧ ar2 = .pair .nil (.num b)) ∨ ∃ b : Nat, 0 < b ∧ xb = -(b : Int) ∧ ar2 = .pair (.pair .nil .nil) (.num b)) := by
      by_cases hb : xb < 0
      · obtain ⟨b, rfl⟩ : ∃ b : Nat, xb = -(b : Int) := ⟨xb.natAbs, by omega⟩
        exact ⟨.pair (.pair .nil .nil) (.num b), by simp [insT, bodyT]; omega, .inr ⟨b, by omega, rfl, rfl⟩⟩
      · obtain ⟨b, rfl⟩ : ∃ b : Nat, xb = (b : Int) := ⟨xb.natAbs, by omega⟩
        exact ⟨.pair .nil (.num b), by simp [insT, bodyT], .inl ⟨b, rfl, rfl⟩⟩
    rw [e]
    have h1 := upX_5 o (codeT p) (.num k) (Tr.ofList l) op ar fi va ot le li tu pa ar2 (codeT (p.drop (k + 1))) a
    rw [tlN_get, hl.reg ha2] at h1
    have hcode : Tr.pair (.pair (.num 5) (.pair (.num a) ar2)) (codeT (p.drop (k + 1))) = codeT (p.drop k) := by rw [dropC_at hx, e]
    by_cases hz : getR rs (a : Int) = .nil
    · have e2 : s' = ⟨k + 1, rs⟩ := by
        simp [stepX, hz] at hst
        exact hst.symm
      subst e2
      rw [hz] at h1
      have h2 := h1.trans (show RunsX univL 1 ⟨80, _⟩ ⟨81, _⟩ from stay_runX 8 25 _ rfl rfl)
      have h3 := h2.trans (upX_next _ _ _ _ _ _ _ _ _ _ _ _ _ _)
      exact ⟨_, l, _, h3, by omega, by omega, hl, _, _, _, _, _, _, _, _, _, _, rfl⟩
    · have e2 : s' = ⟨((k : Int) + xb).toNat, rs⟩ := by
        simp [stepX, hz] at hst
        exact hst.symm
      subst e2
      have h2 := h1.trans (show RunsX univL 1 ⟨80, _⟩ ⟨105, _⟩ from jump_runX 8 25 _ 105 rfl hz (by decide))
      rw [hcode] at h2 ⊢
      rcases har with ⟨b, rfl, rfl⟩ | ⟨b, hb, rfl, rfl⟩
      · have h3 := h2.trans (upX_on _ _ _ _ _ _ _ _ _ _ _ _ _ b)
        obtain ⟨pa', h4⟩ := usX_108 _ _ _ _ _ _ _ _ _ _ b (codeT (p.drop k)) (.num k) .nil
        have h5 := (h3.trans h4).trans (upX_115 _ _ _ _ _ _ _ _ _ _ _ _ _ _)
        rw [addN_num, tlN_code, List.drop_drop] at h5
        have hpos : ((k : Int) + b).toNat = k + b := by omega
        refine ⟨_, l, _, h5, by omega, by omega, hl, ?_⟩
        show AtH _ (codeT (p.drop ((k : Int) + b).toNat)) (.num ((k : Int) + b).toNat) _ _
        rw [hpos]
        exact ⟨_, _, _, _, _, _, _, _, _, _, rfl⟩
      · obtain ⟨j, rfl⟩ : ∃ j, k = j + b := ⟨k - b, by omega⟩
        have h3 := h2.trans (upX_back _ _ _ _ _ _ _ _ _ _ _ _ _ .nil .nil b 0)
        rw [tlN_num] at h3
        have h4 := h3.trans (upX_121 _ _ _ _ _ _ _ _ _ _ _ _ _ j)
        rw [tlN_code] at h4
        have hpos : (((j + b : Nat) : Int) + -(b : Int)).toNat = j := by omega
        refine ⟨_, l, _, h4, by omega, by omega, hl, ?_⟩
        show AtH _ (codeT (p.drop (((j + b : Nat) : Int) + -(b : Int)).toNat)) (.num (((j + b : Nat) : Int) + -(b : Int)).toNat) _ _
        rw [hpos]
        exact ⟨_, _, _, _, _, _, _, _, _, _, rfl⟩
theorem univX_start (c t : Tr) : ∃ u, RunsX univL 5 (startS (.pair c t)) u ∧ AtH c c (.num 0) (Tr.ofList [t]) u := by
  have h0 : RunsX univL 1 (startS (.pair c t)) ⟨1, .pair c t :: c :: List.replicate 30 .nil⟩ := head_runX 1 0 _ _ _ rfl rfl rfl
  have h1 : RunsX univL 1 ⟨1, .pair c t :: c :: List.replicate 30 .nil⟩ ⟨2, [.pair c t, c, .nil, .nil, .nil, .nil, .nil, .nil, t] ++ List.replicate 23 .nil⟩ := tail_runX 8 0 _ _ _ rfl rfl rfl
  have h2 : RunsX univL 1 ⟨2, [.pair c t, c, .nil, .nil, .nil, .nil, .nil, .nil, t] ++ List.replicate 23 .nil⟩ ⟨3, [.pair c t, c, c, .nil, .nil, .nil, .nil, .nil, t] ++ List.replicate 23 .nil⟩ := move_runX 2 1 _ _ _ rfl rfl rfl
  have h3 : RunsX univL 1 ⟨3, [.pair c t, c, c, .nil, .nil, .nil, .nil, .nil, t] ++ List.replicate 23 .nil⟩ ⟨4, [.pair c t, c, c, .nil, .pair t .nil, .nil, .nil, .nil, t] ++ List.replicate 23 .nil⟩ := cons_runX 4 8 4 t .nil _ _ rfl rfl rfl rfl
  have h4 : RunsX univL 1 ⟨4, [.pair c t, c, c, .nil, .pair t .nil, .nil, .nil, .nil, t] ++ List.replicate 23 .nil⟩ ⟨5, UF (.pair c t) c c .nil (.pair t .nil) .nil .nil .nil t .nil .nil .nil .nil .nil⟩ := set_runX 14 ⟨#[49, 48, 48]⟩ (.pair .nil .nil) _ _ rfl tr_100 rfl
  exact ⟨_, (((h0.trans h1).trans h2).trans h3).trans h4, .nil, t, _, _, _, _, _, _, _, _, rfl⟩
/-- So many steps of the program. -/
theorem univX_many {p : List Ins} (hv : rightAll p = true) {t : Tr} : ∀ (k : Nat) {s : St}, Runs p k (startS t) s →
    ∃ m l u, RunsX univL m (startS (.pair (codeT p) t)) u ∧ k ≤ m ∧ m ≤ 5 + 100 * (p.length + 40) * k ∧ RepL l s.regs ∧ AtH (codeT p) (codeT (p.drop s.pos)) (.num s.pos) (Tr.ofList l) u
  | 0, s, h => by
    rcases h.uncons with ⟨_, rfl⟩ | ⟨j, s', h1, _⟩
    · obtain ⟨u, h1, h2⟩ := univX_start (codeT p) t
      exact ⟨5, [t], u, h1, by omega, by omega, repL_start t, h2⟩
    · omega
  | k + 1, s, h => by
    obtain ⟨s1, h1, h2, h3⟩ := h.snoc
    obtain ⟨m, l, u, g1, g2, g3, g4, g5⟩ := univX_many hv k h1
    unfold stepP at h3
    split at h3
    · next x hx =>
      obtain ⟨n, l', u', f1, f2, f3, f4, f5⟩ := univX_step hv hx h3 g4 g5
      have e : 100 * (p.length + 40) * (k + 1) = 100 * (p.length + 40) * k + 100 * (p.length + 40) := Nat.mul_succ _ _
      exact ⟨m + n, l', u', g1.trans f1, by omega, by omega, f4, f5⟩
    · cases h3
/-- A program that goes on makes the universal one go on, or it is too large for it. -/
theorem univX_on {p : List Ins} (hv : rightAll p = true) {t : Tr} {k : Nat} {s : St} (h : Runs p k (startS t) s) : (∃ s', goF univL k 0 (startS (.pair (codeT p) t)) = .fuel s' k) ∨ goF univL k 0 (startS (.pair (codeT p) t)) = .big := by
  obtain ⟨m, l, u, g1, g2, g3, g4, g5⟩ := univX_many hv k h
  obtain ⟨fi, va, o, op, ar, ot, le, li, tu, pa, rfl⟩ := g5
  exact g1.fuel (by rw [univ_len]; show 5 ≠ 129; omega) k g2
end Go.Proofs.Ytlaeljkjdfffjaa


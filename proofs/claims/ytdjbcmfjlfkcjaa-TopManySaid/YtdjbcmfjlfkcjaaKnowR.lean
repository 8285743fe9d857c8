/- Plain: how a program that knows its own code runs. -/
import Derived.Test.YtdjbcmfjlfkcjaaKnow9
import Derived.Test.YtdjbcmfjlfkcjaaRunsP
namespace Go.Proofs.Ytdjbcmfjlfkcjaa
open Go.RowKit

theorem tr_100 : toTr ⟨#[49, 48, 48]⟩ = .pair .nil .nil := by decide +kernel
theorem tr_clr : toTr ⟨#[49, 48, 49, 49, 48, 48, 48]⟩ = .pair .nil (.pair (.pair .nil .nil) .nil) := by decide +kernel
theorem tr_put : toTr ⟨#[49, 49, 48, 49, 48, 48, 49, 48, 49, 49, 48, 48, 48]⟩ = .pair (.num 2) (.pair .nil (.pair (.pair .nil .nil) .nil)) := by decide +kernel
theorem tr_nil : toTr ⟨#[48]⟩ = .nil := by decide +kernel
/-- What the code of the whole is, as a tree. -/
theorem knowL_code (q : List Ins) : codeT (knowL q) = .pair (insT (setI 1 (codeOf (knowR q)))) (.pair (insT (consI 0 1 0)) (.pair (insT (setI 1 ⟨#[48]⟩)) (codeT (knowR q)))) := rfl
theorem insT_set (d : ByteArray) : insT (setI 1 d) = .pair .nil (.pair (.pair .nil .nil) (toTr d)) := rfl
theorem insT_cons : insT (consI 0 1 0) = .pair (.num 2) (.pair .nil (.pair (.pair .nil .nil) .nil)) := rfl
theorem set_run {P : List Ins} {p : Nat} (a : Nat) (d : ByteArray) (v : Tr) (rs rs' : List Tr) (hx : P[p]? = some (setI a d)) (hv : toTr d = v) (hr : setR rs (a : Int) v = rs') : Runs P 1 ⟨p, rs⟩ ⟨p + 1, rs'⟩ := by
  refine Runs.one hx ?_
  subst hv; subst hr
  rfl
theorem cons_run {P : List Ins} {p : Nat} (a b c : Nat) (u v : Tr) (rs rs' : List Tr) (hx : P[p]? = some (consI a b c)) (hu : getR rs (b : Int) = u) (hv : getR rs (c : Int) = v) (hs : (Tr.pair u v).size ≤ 2000000) (hr : setR rs (a : Int) (.pair u v) = rs') : Runs P 1 ⟨p, rs⟩ ⟨p + 1, rs'⟩ := by
  refine Runs.one hx ?_
  subst hu; subst hv; subst hr
  unfold stepX consI
  simp [hs]
theorem head_run {P : List Ins} {p : Nat} (a b : Nat) (v : Tr) (rs rs' : List Tr) (hx : P[p]? = some ⟨3, a, b, 0, ⟨#[]⟩⟩) (hv : (getR rs (b : Int)).hd = v) (hr : setR rs (a : Int) v = rs') : Runs P 1 ⟨p, rs⟩ ⟨p + 1, rs'⟩ := by
  refine Runs.one hx ?_
  subst hv; subst hr
  rfl
theorem tail_run {P : List Ins} {p : Nat} (a b : Nat) (v : Tr) (rs rs' : List Tr) (hx : P[p]? = some ⟨4, a, b, 0, ⟨#[]⟩⟩) (hv : (getR rs (b : Int)).tl = v) (hr : setR rs (a : Int) v = rs') : Runs P 1 ⟨p, rs⟩ ⟨p + 1, rs'⟩ := by
  refine Runs.one hx ?_
  subst hv; subst hr
  rfl
def knowH (q : List Ins) : List Ins := [setI 1 (codeOf (knowR q)), consI 0 1 0, setI 1 ⟨#[48]⟩, ⟨3, 2, 0, 0, ⟨#[]⟩⟩, ⟨4, 3, 0, 0, ⟨#[]⟩⟩, setI 4 ⟨#[49, 48, 48]⟩, consI 4 4 2, consI 4 1 4, setI 5 ⟨#[49, 48, 49, 49, 48, 48, 48]⟩, consI 5 5 2, setI 6 ⟨#[49, 49, 48, 49, 48, 48, 49, 48, 49, 49, 48, 48, 48]⟩, consI 5 6 5, consI 5 4 5, consI 0 5 3, setI 2 ⟨#[48]⟩, setI 3 ⟨#[48]⟩, setI 4 ⟨#[48]⟩, setI 5 ⟨#[48]⟩, setI 6 ⟨#[48]⟩]
theorem knowL_heads (q : List Ins) : knowL q = knowH q ++ q := rfl
theorem know_at (q : List Ins) (k : Nat) (x : Ins) (h : (knowH q)[k]? = some x) : (knowL q)[k]? = some x := by
  rw [knowL_heads, List.getElem?_append_left (List.getElem?_eq_some_iff.1 h).1]; exact h
theorem known_head (q : List Ins) (t Y C : Tr) (hY : toTr (codeOf (knowR q)) = Y) (hC : C = .pair (.pair .nil (.pair (.pair .nil .nil) Y)) (.pair (.pair (.num 2) (.pair .nil (.pair (.pair .nil .nil) .nil))) (.pair (.pair .nil (.pair (.pair .nil .nil) .nil)) Y))) (hs : (Tr.pair C t).size ≤ 2000000) (R : List Tr) :
    Runs (knowL q) 19 ⟨0, [t, .nil, .nil, .nil, .nil, .nil, .nil] ++ R⟩ ⟨19, [.pair C t, .nil, .nil, .nil, .nil, .nil, .nil] ++ R⟩ := by
  have hn2 : (Tr.num 2).size = 5 := rfl
  have hs1 : 30 + 2 * Y.size + t.size ≤ (Tr.pair C t).size := by rw [hC]; simp [Tr.size, hn2]; omega
  have r0 : Runs (knowL q) 1 ⟨0, [(t), (.nil), (.nil), (.nil), (.nil), (.nil), (.nil)] ++ R⟩ ⟨1, [(t), (Y), (.nil), (.nil), (.nil), (.nil), (.nil)] ++ R⟩ := set_run 1 (codeOf (knowR q)) (Y) _ _ (know_at q 0 _ rfl) hY rfl
  have r1 : Runs (knowL q) 1 ⟨1, [(t), (Y), (.nil), (.nil), (.nil), (.nil), (.nil)] ++ R⟩ ⟨2, [(.pair (Y) (t)), (Y), (.nil), (.nil), (.nil), (.nil), (.nil)] ++ R⟩ := cons_run 0 1 0 (Y) (t) _ _ (know_at q 1 _ rfl) rfl rfl (by simp only [Tr.size]; omega) rfl
  have r2 : Runs (knowL q) 1 ⟨2, [(.pair (Y) (t)), (Y), (.nil), (.nil), (.nil), (.nil), (.nil)] ++ R⟩ ⟨3, [(.pair (Y) (t)), (.nil), (.nil), (.nil), (.nil), (.nil), (.nil)] ++ R⟩ := set_run 1 ⟨#[48]⟩ (.nil) _ _ (know_at q 2 _ rfl) tr_nil rfl
  have r3 : Runs (knowL q) 1 ⟨3, [(.pair (Y) (t)), (.nil), (.nil), (.nil), (.nil), (.nil), (.nil)] ++ R⟩ ⟨4, [(.pair (Y) (t)), (.nil), (Y), (.nil), (.nil), (.nil), (.nil)] ++ R⟩ := head_run 2 0 _ _ _ (know_at q 3 _ rfl) rfl rfl
  have r4 : Runs (knowL q) 1 ⟨4, [(.pair (Y) (t)), (.nil), (Y), (.nil), (.nil), (.nil), (.nil)] ++ R⟩ ⟨5, [(.pair (Y) (t)), (.nil), (Y), (t), (.nil), (.nil), (.nil)] ++ R⟩ := tail_run 3 0 _ _ _ (know_at q 4 _ rfl) rfl rfl
  have r5 : Runs (knowL q) 1 ⟨5, [(.pair (Y) (t)), (.nil), (Y), (t), (.nil), (.nil), (.nil)] ++ R⟩ ⟨6, [(.pair (Y) (t)), (.nil), (Y), (t), (.pair .nil .nil), (.nil), (.nil)] ++ R⟩ := set_run 4 ⟨#[49, 48, 48]⟩ (.pair .nil .nil) _ _ (know_at q 5 _ rfl) tr_100 rfl
  have r6 : Runs (knowL q) 1 ⟨6, [(.pair (Y) (t)), (.nil), (Y), (t), (.pair .nil .nil), (.nil), (.nil)] ++ R⟩ ⟨7, [(.pair (Y) (t)), (.nil), (Y), (t), (.pair (.pair .nil .nil) (Y)), (.nil), (.nil)] ++ R⟩ := cons_run 4 4 2 (.pair .nil .nil) (Y) _ _ (know_at q 6 _ rfl) rfl rfl (by simp only [Tr.size]; omega) rfl
  have r7 : Runs (knowL q) 1 ⟨7, [(.pair (Y) (t)), (.nil), (Y), (t), (.pair (.pair .nil .nil) (Y)), (.nil), (.nil)] ++ R⟩ ⟨8, [(.pair (Y) (t)), (.nil), (Y), (t), (.pair (.nil) (.pair (.pair .nil .nil) (Y))), (.nil), (.nil)] ++ R⟩ := cons_run 4 1 4 (.nil) (.pair (.pair .nil .nil) (Y)) _ _ (know_at q 7 _ rfl) rfl rfl (by simp only [Tr.size]; omega) rfl
  have r8 : Runs (knowL q) 1 ⟨8, [(.pair (Y) (t)), (.nil), (Y), (t), (.pair (.nil) (.pair (.pair .nil .nil) (Y))), (.nil), (.nil)] ++ R⟩ ⟨9, [(.pair (Y) (t)), (.nil), (Y), (t), (.pair (.nil) (.pair (.pair .nil .nil) (Y))), (.pair .nil (.pair (.pair .nil .nil) .nil)), (.nil)] ++ R⟩ := set_run 5 ⟨#[49, 48, 49, 49, 48, 48, 48]⟩ (.pair .nil (.pair (.pair .nil .nil) .nil)) _ _ (know_at q 8 _ rfl) tr_clr rfl
  have r9 : Runs (knowL q) 1 ⟨9, [(.pair (Y) (t)), (.nil), (Y), (t), (.pair (.nil) (.pair (.pair .nil .nil) (Y))), (.pair .nil (.pair (.pair .nil .nil) .nil)), (.nil)] ++ R⟩ ⟨10, [(.pair (Y) (t)), (.nil), (Y), (t), (.pair (.nil) (.pair (.pair .nil .nil) (Y))), (.pair (.pair .nil (.pair (.pair .nil .nil) .nil)) (Y)), (.nil)] ++ R⟩ := cons_run 5 5 2 (.pair .nil (.pair (.pair .nil .nil) .nil)) (Y) _ _ (know_at q 9 _ rfl) rfl rfl (by simp only [Tr.size]; omega) rfl
  have r10 : Runs (knowL q) 1 ⟨10, [(.pair (Y) (t)), (.nil), (Y), (t), (.pair (.nil) (.pair (.pair .nil .nil) (Y))), (.pair (.pair .nil (.pair (.pair .nil .nil) .nil)) (Y)), (.nil)] ++ R⟩ ⟨11, [(.pair (Y) (t)), (.nil), (Y), (t), (.pair (.nil) (.pair (.pair .nil .nil) (Y))), (.pair (.pair .nil (.pair (.pair .nil .nil) .nil)) (Y)), (.pair (.num 2) (.pair .nil (.pair (.pair .nil .nil) .nil)))] ++ R⟩ := set_run 6 ⟨#[49, 49, 48, 49, 48, 48, 49, 48, 49, 49, 48, 48, 48]⟩ (.pair (.num 2) (.pair .nil (.pair (.pair .nil .nil) .nil))) _ _ (know_at q 10 _ rfl) tr_put rfl
  have r11 : Runs (knowL q) 1 ⟨11, [(.pair (Y) (t)), (.nil), (Y), (t), (.pair (.nil) (.pair (.pair .nil .nil) (Y))), (.pair (.pair .nil (.pair (.pair .nil .nil) .nil)) (Y)), (.pair (.num 2) (.pair .nil (.pair (.pair .nil .nil) .nil)))] ++ R⟩ ⟨12, [(.pair (Y) (t)), (.nil), (Y), (t), (.pair (.nil) (.pair (.pair .nil .nil) (Y))), (.pair (.pair (.num 2) (.pair .nil (.pair (.pair .nil .nil) .nil))) (.pair (.pair .nil (.pair (.pair .nil .nil) .nil)) (Y))), (.pair (.num 2) (.pair .nil (.pair (.pair .nil .nil) .nil)))] ++ R⟩ := cons_run 5 6 5 (.pair (.num 2) (.pair .nil (.pair (.pair .nil .nil) .nil))) (.pair (.pair .nil (.pair (.pair .nil .nil) .nil)) (Y)) _ _ (know_at q 11 _ rfl) rfl rfl (by simp only [Tr.size, hn2]; omega) rfl
  have r12 : Runs (knowL q) 1 ⟨12, [(.pair (Y) (t)), (.nil), (Y), (t), (.pair (.nil) (.pair (.pair .nil .nil) (Y))), (.pair (.pair (.num 2) (.pair .nil (.pair (.pair .nil .nil) .nil))) (.pair (.pair .nil (.pair (.pair .nil .nil) .nil)) (Y))), (.pair (.num 2) (.pair .nil (.pair (.pair .nil .nil) .nil)))] ++ R⟩ ⟨13, [(.pair (Y) (t)), (.nil), (Y), (t), (.pair (.nil) (.pair (.pair .nil .nil) (Y))), (.pair (.pair (.nil) (.pair (.pair .nil .nil) (Y))) (.pair (.pair (.num 2) (.pair .nil (.pair (.pair .nil .nil) .nil))) (.pair (.pair .nil (.pair (.pair .nil .nil) .nil)) (Y)))), (.pair (.num 2) (.pair .nil (.pair (.pair .nil .nil) .nil)))] ++ R⟩ := cons_run 5 4 5 (.pair (.nil) (.pair (.pair .nil .nil) (Y))) (.pair (.pair (.num 2) (.pair .nil (.pair (.pair .nil .nil) .nil))) (.pair (.pair .nil (.pair (.pair .nil .nil) .nil)) (Y))) _ _ (know_at q 12 _ rfl) rfl rfl (by simp only [Tr.size, hn2]; omega) rfl
  have r13 : Runs (knowL q) 1 ⟨13, [(.pair (Y) (t)), (.nil), (Y), (t), (.pair (.nil) (.pair (.pair .nil .nil) (Y))), (.pair (.pair (.nil) (.pair (.pair .nil .nil) (Y))) (.pair (.pair (.num 2) (.pair .nil (.pair (.pair .nil .nil) .nil))) (.pair (.pair .nil (.pair (.pair .nil .nil) .nil)) (Y)))), (.pair (.num 2) (.pair .nil (.pair (.pair .nil .nil) .nil)))] ++ R⟩ ⟨14, [(.pair (.pair (.pair (.nil) (.pair (.pair .nil .nil) (Y))) (.pair (.pair (.num 2) (.pair .nil (.pair (.pair .nil .nil) .nil))) (.pair (.pair .nil (.pair (.pair .nil .nil) .nil)) (Y)))) (t)), (.nil), (Y), (t), (.pair (.nil) (.pair (.pair .nil .nil) (Y))), (.pair (.pair (.nil) (.pair (.pair .nil .nil) (Y))) (.pair (.pair (.num 2) (.pair .nil (.pair (.pair .nil .nil) .nil))) (.pair (.pair .nil (.pair (.pair .nil .nil) .nil)) (Y)))), (.pair (.num 2) (.pair .nil (.pair (.pair .nil .nil) .nil)))] ++ R⟩ := cons_run 0 5 3 (.pair (.pair (.nil) (.pair (.pair .nil .nil) (Y))) (.pair (.pair (.num 2) (.pair .nil (.pair (.pair .nil .nil) .nil))) (.pair (.pair .nil (.pair (.pair .nil .nil) .nil)) (Y)))) (t) _ _ (know_at q 13 _ rfl) rfl rfl (by rw [hC] at hs; exact hs) rfl
  have r14 : Runs (knowL q) 1 ⟨14, [(.pair (.pair (.pair (.nil) (.pair (.pair .nil .nil) (Y))) (.pair (.pair (.num 2) (.pair .nil (.pair (.pair .nil .nil) .nil))) (.pair (.pair .nil (.pair (.pair .nil .nil) .nil)) (Y)))) (t)), (.nil), (Y), (t), (.pair (.nil) (.pair (.pair .nil .nil) (Y))), (.pair (.pair (.nil) (.pair (.pair .nil .nil) (Y))) (.pair (.pair (.num 2) (.pair .nil (.pair (.pair .nil .nil) .nil))) (.pair (.pair .nil (.pair (.pair .nil .nil) .nil)) (Y)))), (.pair (.num 2) (.pair .nil (.pair (.pair .nil .nil) .nil)))] ++ R⟩ ⟨15, [(.pair (.pair (.pair (.nil) (.pair (.pair .nil .nil) (Y))) (.pair (.pair (.num 2) (.pair .nil (.pair (.pair .nil .nil) .nil))) (.pair (.pair .nil (.pair (.pair .nil .nil) .nil)) (Y)))) (t)), (.nil), (.nil), (t), (.pair (.nil) (.pair (.pair .nil .nil) (Y))), (.pair (.pair (.nil) (.pair (.pair .nil .nil) (Y))) (.pair (.pair (.num 2) (.pair .nil (.pair (.pair .nil .nil) .nil))) (.pair (.pair .nil (.pair (.pair .nil .nil) .nil)) (Y)))), (.pair (.num 2) (.pair .nil (.pair (.pair .nil .nil) .nil)))] ++ R⟩ := set_run 2 ⟨#[48]⟩ (.nil) _ _ (know_at q 14 _ rfl) tr_nil rfl
  have r15 : Runs (knowL q) 1 ⟨15, [(.pair (.pair (.pair (.nil) (.pair (.pair .nil .nil) (Y))) (.pair (.pair (.num 2) (.pair .nil (.pair (.pair .nil .nil) .nil))) (.pair (.pair .nil (.pair (.pair .nil .nil) .nil)) (Y)))) (t)), (.nil), (.nil), (t), (.pair (.nil) (.pair (.pair .nil .nil) (Y))), (.pair (.pair (.nil) (.pair (.pair .nil .nil) (Y))) (.pair (.pair (.num 2) (.pair .nil (.pair (.pair .nil .nil) .nil))) (.pair (.pair .nil (.pair (.pair .nil .nil) .nil)) (Y)))), (.pair (.num 2) (.pair .nil (.pair (.pair .nil .nil) .nil)))] ++ R⟩ ⟨16, [(.pair (.pair (.pair (.nil) (.pair (.pair .nil .nil) (Y))) (.pair (.pair (.num 2) (.pair .nil (.pair (.pair .nil .nil) .nil))) (.pair (.pair .nil (.pair (.pair .nil .nil) .nil)) (Y)))) (t)), (.nil), (.nil), (.nil), (.pair (.nil) (.pair (.pair .nil .nil) (Y))), (.pair (.pair (.nil) (.pair (.pair .nil .nil) (Y))) (.pair (.pair (.num 2) (.pair .nil (.pair (.pair .nil .nil) .nil))) (.pair (.pair .nil (.pair (.pair .nil .nil) .nil)) (Y)))), (.pair (.num 2) (.pair .nil (.pair (.pair .nil .nil) .nil)))] ++ R⟩ := set_run 3 ⟨#[48]⟩ (.nil) _ _ (know_at q 15 _ rfl) tr_nil rfl
  have r16 : Runs (knowL q) 1 ⟨16, [(.pair (.pair (.pair (.nil) (.pair (.pair .nil .nil) (Y))) (.pair (.pair (.num 2) (.pair .nil (.pair (.pair .nil .nil) .nil))) (.pair (.pair .nil (.pair (.pair .nil .nil) .nil)) (Y)))) (t)), (.nil), (.nil), (.nil), (.pair (.nil) (.pair (.pair .nil .nil) (Y))), (.pair (.pair (.nil) (.pair (.pair .nil .nil) (Y))) (.pair (.pair (.num 2) (.pair .nil (.pair (.pair .nil .nil) .nil))) (.pair (.pair .nil (.pair (.pair .nil .nil) .nil)) (Y)))), (.pair (.num 2) (.pair .nil (.pair (.pair .nil .nil) .nil)))] ++ R⟩ ⟨17, [(.pair (.pair (.pair (.nil) (.pair (.pair .nil .nil) (Y))) (.pair (.pair (.num 2) (.pair .nil (.pair (.pair .nil .nil) .nil))) (.pair (.pair .nil (.pair (.pair .nil .nil) .nil)) (Y)))) (t)), (.nil), (.nil), (.nil), (.nil), (.pair (.pair (.nil) (.pair (.pair .nil .nil) (Y))) (.pair (.pair (.num 2) (.pair .nil (.pair (.pair .nil .nil) .nil))) (.pair (.pair .nil (.pair (.pair .nil .nil) .nil)) (Y)))), (.pair (.num 2) (.pair .nil (.pair (.pair .nil .nil) .nil)))] ++ R⟩ := set_run 4 ⟨#[48]⟩ (.nil) _ _ (know_at q 16 _ rfl) tr_nil rfl
  have r17 : Runs (knowL q) 1 ⟨17, [(.pair (.pair (.pair (.nil) (.pair (.pair .nil .nil) (Y))) (.pair (.pair (.num 2) (.pair .nil (.pair (.pair .nil .nil) .nil))) (.pair (.pair .nil (.pair (.pair .nil .nil) .nil)) (Y)))) (t)), (.nil), (.nil), (.nil), (.nil), (.pair (.pair (.nil) (.pair (.pair .nil .nil) (Y))) (.pair (.pair (.num 2) (.pair .nil (.pair (.pair .nil .nil) .nil))) (.pair (.pair .nil (.pair (.pair .nil .nil) .nil)) (Y)))), (.pair (.num 2) (.pair .nil (.pair (.pair .nil .nil) .nil)))] ++ R⟩ ⟨18, [(.pair (.pair (.pair (.nil) (.pair (.pair .nil .nil) (Y))) (.pair (.pair (.num 2) (.pair .nil (.pair (.pair .nil .nil) .nil))) (.pair (.pair .nil (.pair (.pair .nil .nil) .nil)) (Y)))) (t)), (.nil), (.nil), (.nil), (.nil), (.nil), (.pair (.num 2) (.pair .nil (.pair (.pair .nil .nil) .nil)))] ++ R⟩ := set_run 5 ⟨#[48]⟩ (.nil) _ _ (know_at q 17 _ rfl) tr_nil rfl
  have r18 : Runs (knowL q) 1 ⟨18, [(.pair (.pair (.pair (.nil) (.pair (.pair .nil .nil) (Y))) (.pair (.pair (.num 2) (.pair .nil (.pair (.pair .nil .nil) .nil))) (.pair (.pair .nil (.pair (.pair .nil .nil) .nil)) (Y)))) (t)), (.nil), (.nil), (.nil), (.nil), (.nil), (.pair (.num 2) (.pair .nil (.pair (.pair .nil .nil) .nil)))] ++ R⟩ ⟨19, [(.pair (.pair (.pair (.nil) (.pair (.pair .nil .nil) (Y))) (.pair (.pair (.num 2) (.pair .nil (.pair (.pair .nil .nil) .nil))) (.pair (.pair .nil (.pair (.pair .nil .nil) .nil)) (Y)))) (t)), (.nil), (.nil), (.nil), (.nil), (.nil), (.nil)] ++ R⟩ := set_run 6 ⟨#[48]⟩ (.nil) _ _ (know_at q 18 _ rfl) tr_nil rfl
  have h := ((((((((((((((((((r0).trans r1).trans r2).trans r3).trans r4).trans r5).trans r6).trans r7).trans r8).trans r9).trans r10).trans r11).trans r12).trans r13).trans r14).trans r15).trans r16).trans r17).trans r18
  rw [hC]
  exact h
theorem knowE_facts {q : List Ins} (h : knowE q = 0) : validB q = true ∧ validB (knowR q) = true ∧ validB (knowL q) = true ∧ codeN (knowL q) ≤ 2000000 := ⟨(knowE_zero h).1, (knowE_zero h).2.1, (knowE_zero h).2.2.2.1, (knowE_zero h).2.2.2.2⟩
theorem codeT_size {l : List Ins} (hv : validB l = true) : (codeT l).size = codeN l := by rw [← TS_size, ← codeOf_TS (validB_all hv), codeOf_size]; rfl
theorem knowR_tr {q : List Ins} (h : knowE q = 0) : toTr (codeOf (knowR q)) = codeT (knowR q) := by
  obtain ⟨h1, h2, h3, h4, h5⟩ := knowE_zero h
  rw [codeOf_TS (validB_all h2), toTr_TS _ (by rw [codeT_size h2]; exact h3)]
/-- The first 19 steps. -/
theorem known_start {q : List Ins} (h : knowE q = 0) (t : Tr) (hs : (Tr.pair (codeT (knowL q)) t).size ≤ 2000000) : Runs (knowL q) 19 (startS t) ⟨19, (startS (.pair (codeT (knowL q)) t)).regs⟩ := by
  have hY := knowR_tr h
  have := known_head q t (codeT (knowR q)) (codeT (knowL q)) hY (by rw [knowL_code, insT_set, insT_cons, insT_set, tr_nil, hY]) hs (List.replicate 25 .nil)
  exact this
/-- A program that does on one input what another one does on another input, after so many steps more. -/
def FollowP (P : List Ins) (t : Tr) (Q : List Ins) (u : Tr) (c : Nat) : Prop := ∀ F,
  (∃ s s' m, goF Q F 0 (startS u) = .done s m ∧ m ≤ F ∧ goF P (F + c) 0 (startS t) = .done s' (m + c) ∧ getR s'.regs 0 = getR s.regs 0) ∨
  (∃ s : St, goF Q F 0 (startS u) = .fuel s F ∧ ((∃ s', goF P (F + c) 0 (startS t) = .fuel s' (F + c)) ∨ goF P (F + c) 0 (startS t) = .big)) ∨
  (goF Q F 0 (startS u) = .big ∧ goF P (F + c) 0 (startS t) = .big)
theorem follow_of {P Q : List Ins} {t u : Tr} {c k : Nat} (hR : Runs P c (startS t) ⟨k, (startS u).regs⟩) (hseg : Seg P k Q) (hv : rightAll Q = true) (hend : P.length = k + Q.length) (hu : u.size ≤ 2000000) : FollowP P t Q u c := by
  intro F
  have hbound : ∀ {m : Nat} {s : St}, Runs Q m (startS u) s → s.pos ≤ Q.length := fun hq => (hq.good hv (Good.start _ u hu)).1
  have hin : ∀ {m : Nat} {s : St}, Runs Q m (startS u) s → Runs P (c + m) (startS t) ⟨k + s.pos, s.regs⟩ := fun hq => by
    have := hseg.runs hv (by omega) hq
    exact hR.trans this
  rcases goF_how Q F 0 (startS u) with ⟨s, m, h1, h2, h3, h4⟩ | ⟨s, h1, h3, h4⟩ | ⟨s, m, h1, h2, h3, h4, h5⟩
  · refine .inl ⟨s, ⟨k + s.pos, s.regs⟩, m, by rw [h1, Nat.zero_add], h2, ?_, rfl⟩
    rw [Nat.add_comm m c]
    exact (hin h3).done (by show k + s.pos = _; rw [h4, hend]) _ (by omega)
  · refine .inr (.inl ⟨s, by rw [h1, Nat.zero_add], .inl ⟨⟨k + s.pos, s.regs⟩, ?_⟩⟩)
    have hb := hbound h3
    rw [Nat.add_comm F c]
    exact (hin h3).fuel (by show k + s.pos ≠ _; omega)
  · refine .inr (.inr ⟨h1, ?_⟩)
    have hb := hbound h3
    refine (hin h3).big (by show k + s.pos ≠ _; omega) ?_ _ (by omega)
    have := hseg.step hv (s := s) (by omega)
    rw [h5] at this
    exact this
/-- P7.1. -/
theorem know_follow {q : List Ins} (h : knowE q = 0) (t : Tr) (hs : (Tr.pair (codeT (knowL q)) t).size ≤ 2000000) : FollowP (knowL q) t q (.pair (codeT (knowL q)) t) 19 := by
  have hq := (knowE_facts h).1
  refine follow_of (k := 19) (known_start h t hs) (Seg.right (knowH q) q) (validB_all hq) ?_ hs
  rw [knowL_heads]; simp [knowH]; omega
/-- P7.3. -/
theorem self_run (t : Tr) (hs : (Tr.pair (codeT (knowL [headI])) t).size ≤ 2000000) : ∃ s, goF (knowL [headI]) 100 0 (startS t) = .done s 20 ∧ getR s.regs 0 = codeT (knowL [headI]) := by
  have h1 := known_start knowE_head t hs
  have h2 : Runs (knowL [headI]) 1 ⟨19, (startS (.pair (codeT (knowL [headI])) t)).regs⟩ ⟨20, codeT (knowL [headI]) :: List.replicate 31 .nil⟩ := head_run 0 0 (codeT (knowL [headI])) _ _ rfl rfl rfl
  have h3 := (h1.trans h2).done (by rw [knowL_heads]; rfl) 100 (by omega)
  exact ⟨_, h3, rfl⟩
end Go.Proofs.Ytdjbcmfjlfkcjaa


/- Programs out of programs: a program behind its cleaning. -/
import Derived.Test.YtaiomcjopgnfpaaBuild1
namespace Go.Proofs.Ytaiomcjopgnfpaa
open Go.RowKit

theorem OwnI.snoc {w : World} {B : Nat} {v : Value} {l : List Ins} {x : Ins} (h : w.ownsRow B 52 5 v (l.length + 1) (inscells l ++ inscells [x])) (hw : ∀ y ∈ l, y.wf) (hx : x.wf) : OwnI w B v (l ++ [x]) :=
  ⟨by rw [inscells_append, List.length_append]; exact h, wf_append hw (by simpa using hx)⟩
theorem OwnI.app {w : World} {B n : Nat} {v : Value} {l m : List Ins} (h : w.ownsRow B 52 5 v n (inscells l ++ inscells m)) (hn : n = l.length + m.length) (hw : ∀ y ∈ l, y.wf) (hx : ∀ y ∈ m, y.wf) : OwnI w B v (l ++ m) :=
  ⟨by rw [inscells_append, List.length_append, ← hn]; exact h, wf_append hw hx⟩
theorem InsRow.slice_src {w : World} {B : Nat} {v : Value} {l : List Ins} (h : InsRow w B v l) : Src w v l.length 5 (inscells l) := h.src

set_option maxHeartbeats 4000000 in
theorem fresh_ok (v : Value) (l : List Ins) (w : World) (hl : InsRow w w.heap.size v l) (hv : validB l = true) :
    Calls Try.prog 69 #[v] w fun e w' => ∃ v', e = .returned v' ∧ InsRow w' w'.heap.size v' (cleanP l) ∧ Below w.heap.size w w' := by
  have kv := codeRegs_ok v l w hl hv
  have hn4 := validB_len hv
  have hm := mostN_lt (validB_all hv) l.length (Nat.le_refl _)
  rw [mostN_all] at hm
  obtain ⟨M, hM⟩ : ∃ M, mostN l = M := ⟨_, rfl⟩
  have hR : ((regN l : Nat) : Int) = (M : Int) + 1 := by unfold regN; omega
  rw [hR] at kv
  rw [hM] at hm
  have HM := Lib.hid hM
  clear hR hM hv
  have HL0 := Lib.hid hl
  go_enter Try.func69, Try.ntmps69
  go_wp2_with fail
  refine kv.mono ?_
  rintro e w1 ⟨rfl, hb1⟩
  have hl1 := Lib.hid ((HL0.out.below hb1).mono hb1.size)
  have HB1 := Lib.hid hb1
  clear kv hl hb1
  go_wp2
  go_loopg [5, 6] M (fun gg o i wr => ∃ k : Nat, k ≤ M ∧ gg = M - k ∧ i = .int .i64 ((k : Int) + 1) ∧ Hid (OwnI wr w1.heap.size o (cleanK k) ∧ Below w1.heap.size w1 wr))
  case atStart => exact ⟨0, by omega, rfl, rfl, OwnI.nil _ _, Below.refl _ _⟩
  case round =>
    obtain ⟨k, hk, hg, rfl, hP⟩ := hrel
    have HG := Lib.hid hg; clear hg
    have hsz := hP.out.2.size
    by_cases hlt : k < M
    · have hlt1 : (k : Int) + 1 < (M : Int) + 1 := by omega
      have hown := hP.out.1.own
      rw [cleanK_length] at hown
      have hb := hP.out.2
      go_wp2_with (at_builtin; refine app_new el_ins rfl _ _ rfl rfl hown (inscells [setI (k + 1) ⟨#[48]⟩]) 1 rfl rfl ?c1 ?c2 ?c3 hsz hb (Nat.le_refl _) ?_)
      case c1 => exact inscells_one _
      case c2 => omega
      case c3 => unfold maxLen; omega
      intro v' w' hown' hb' hgr
      have hnew : Hid (OwnI w' w1.heap.size v' (cleanK (k + 1)) ∧ Below w1.heap.size w1 w') := Lib.hid ⟨by rw [cleanK_succ]; exact OwnI.snoc (by rw [cleanK_length]; exact hown') (cleanK_wf k (by omega)) (setI_wf _ _ (by omega) (by decide)), hb'⟩
      clear hown hown' hb hb' hgr hP
      go_wp2
      go_roundg (M - (k + 1))
      case measure => rw [HG.out]; omega
      case rel => exact ⟨k + 1, by omega, rfl, by go_num, hnew⟩
    · have hkM : k = M := by omega
      subst hkM
      have hown := hP.out.1.own
      rw [cleanK_length] at hown
      have hb := hP.out.2
      have hs2 := (hl1.out.below hb).src
      have hnl : l.length ≤ 4000 := hn4
      go_wp2_with (at_builtin; refine app_src el_ins (vx := v) rfl _ _ rfl rfl hown rfl hs2 (inscells_one l) ?c2 ?c3 hsz hb (Nat.le_refl _) ?_)
      case c2 => omega
      case c3 => unfold maxLen; omega
      intro v' w' hown' hb' hgr
      have hnew : Hid (OwnI w' w1.heap.size v' (cleanP l)) := Lib.hid (by unfold cleanP cleanH; rw [HM.out]; exact OwnI.app hown' (by rw [cleanK_length]) (cleanK_wf k (by omega)) HL0.out.1)
      have hrow : Hid (InsRow w' w'.heap.size v' (cleanP l)) := Lib.hid (hnew.out.row (by unfold cleanP cleanH; rw [List.length_append, cleanK_length, HM.out]; omega))
      have HB2 := Lib.hid (HB1.out.trans (hb'.mono HB1.out.size))
      clear hown hown' hb hb' hgr hP hs2
      go_wp2
      go_ret
      exact ⟨_, rfl, hrow.out, HB2.out⟩

set_option maxHeartbeats 4000000 in
theorem refClean_ok (v : Value) (l : List Ins) (w : World) (hl : InsRow w w.heap.size v l) (hv : validB l = true) :
    Calls Try.prog 110 #[v] w fun e w' => ∃ v', e = .returned v' ∧ OwnI w' w.heap.size v' (cleanH l) ∧ Below w.heap.size w w' := by
  have hm := mostN_lt (validB_all hv) l.length (Nat.le_refl _)
  rw [mostN_all] at hm
  obtain ⟨M, hM⟩ : ∃ M, mostN l = M := ⟨_, rfl⟩
  have kv : Hid (∀ w', Below w.heap.size w w' → Calls Try.prog 34 #[v] w' fun e w'' => e = .returned (.int .i64 ((M : Int) + 1)) ∧ Below w'.heap.size w' w'') := Lib.hid fun w' hb => by
    have := refRegs_ok v l w' ((hl.below hb).mono hb.size) hv
    have hR : ((regN l : Nat) : Int) = (M : Int) + 1 := by unfold regN; omega
    rwa [hR] at this
  rw [hM] at hm
  have HM := Lib.hid hM
  clear hM hv hl
  go_enter Try.func110, Try.ntmps110
  go_wp2
  go_loopg [3, 4] M (fun gg o i wr => ∃ k : Nat, k ≤ M ∧ gg = M - k ∧ i = .int .i64 ((k : Int) + 1) ∧ Hid (OwnI wr w.heap.size o (cleanK k) ∧ Below w.heap.size w wr))
  case atStart => exact ⟨0, by omega, rfl, rfl, OwnI.nil _ _, Below.refl _ _⟩
  case round =>
    obtain ⟨k, hk, hg, rfl, hP⟩ := hrel
    have HG := Lib.hid hg; clear hg
    go_wp2_with fail
    refine (kv.out _ hP.out.2).mono ?_
    rintro e w1 ⟨rfl, hb1⟩
    have hP := Lib.hid (show OwnI w1 w.heap.size _ (cleanK k) ∧ Below w.heap.size w w1 from ⟨hP.out.1.below hb1, hP.out.2.trans (hb1.mono hP.out.2.size)⟩)
    clear hb1
    by_cases hlt : k < M
    · have hlt1 : (k : Int) + 1 < (M : Int) + 1 := by omega
      go_wp2_with fail
      refine (rset_any _ _ _).mono ?_
      rintro e w2 ⟨rfl, hb2⟩
      have hP := Lib.hid (show OwnI w2 w.heap.size _ (cleanK k) ∧ Below w.heap.size w w2 from ⟨hP.out.1.below hb2, hP.out.2.trans (hb2.mono hP.out.2.size)⟩)
      clear hb2
      have hown := hP.out.1.own
      rw [cleanK_length] at hown
      have hb := hP.out.2
      have hsz := hb.size
      go_wp2_with (at_builtin; refine app_new el_ins rfl _ _ rfl rfl hown (inscells [setI (k + 1) ⟨#[48]⟩]) 1 rfl rfl ?c1 ?c2 ?c3 hsz hb (Nat.le_refl _) ?_)
      case c1 => exact inscells_one _
      case c2 => omega
      case c3 => unfold maxLen; omega
      intro v' w' hown' hb' hgr
      have hnew : Hid (OwnI w' w.heap.size v' (cleanK (k + 1)) ∧ Below w.heap.size w w') := Lib.hid ⟨by rw [cleanK_succ]; exact OwnI.snoc (by rw [cleanK_length]; exact hown') (cleanK_wf k (by omega)) (setI_wf _ _ (by omega) (by decide)), hb'⟩
      clear hown hown' hb hb' hgr hP
      go_wp2
      go_roundg (M - (k + 1))
      case measure => rw [HG.out]; omega
      case rel => exact ⟨k + 1, by omega, rfl, by go_num, hnew⟩
    · have hkM : k = M := by omega
      subst hkM
      go_wp2
      go_ret
      exact ⟨_, rfl, by unfold cleanH; rw [HM.out]; exact hP.out.1, hP.out.2⟩

set_option maxHeartbeats 4000000 in
theorem refclean_ok (v : Value) (l : List Ins) (w : World) (hl : InsRow w w.heap.size v l) (hv : validB l = true) :
    Calls Try.prog 73 #[v] w fun e w' => ∃ v', e = .returned v' ∧ OwnI w' w.heap.size v' (cleanP l) ∧ Below w.heap.size w w' := by
  have kv := refClean_ok v l w hl hv
  have hn4 := validB_len hv
  have hm := mostN_lt (validB_all hv) l.length (Nat.le_refl _)
  rw [mostN_all] at hm
  have HL0 := Lib.hid hl
  clear hl
  go_enter Try.func73, Try.ntmps73
  go_wp2_with fail
  refine kv.mono ?_
  rintro e w1 ⟨v1, rfl, ho, hb⟩
  have hs2 := (HL0.out.below hb).src
  have hsz := hb.size
  have hown := ho.own
  have hlen : (cleanH l).length = mostN l := cleanK_length _
  rw [hlen] at hown
  have HO := Lib.hid ho
  clear kv ho
  go_wp2_with (at_builtin; refine app_src el_ins (vx := v) rfl _ _ rfl rfl hown rfl hs2 (inscells_one l) ?c2 ?c3 hsz hb (Nat.le_refl _) ?_)
  case c2 => omega
  case c3 => unfold maxLen; omega
  intro v' w' hown' hb' hgr
  have hnew : Hid (OwnI w' w.heap.size v' (cleanP l)) := Lib.hid (by unfold cleanP; exact OwnI.app hown' (by rw [hlen]) HO.out.wf HL0.out.1)
  have HB2 := Lib.hid hb'
  clear hown hown' hb hb' hgr hs2
  go_wp2
  go_ret
  exact ⟨_, rfl, hnew.out, HB2.out⟩

end Go.Proofs.Ytaiomcjopgnfpaa


/- narcissusref03.Step, put together. -/
import Derived.Test.YtaiomcjopgnfpaaRef3S
import Derived.Test.YtaiomcjopgnfpaaRunT
namespace Go.Proofs.Ytaiomcjopgnfpaa
open Go.RowKit

/-- What a step of the reference leaves. -/
def RStepOut (w : World) (T gs : Nat) (l : List Ins) (s : St) (rv : Value) (e : Ending) (w' : World) : Prop :=
  match stepP l s with
  | some s' => RStepOk w T gs s' rv e w'
  | none => e = .returned (.bool false) ∧ (∃ ps', RStP w' T gs s rv ps') ∧ Below T w w' ∧ Kept 69 w w'

theorem refstep_any (w : World) (T gm gs gr cp : Nat) (l : List Ins) (s : St) (pv tv : Value) (ps : List Value) (hm : RMachP w T gm l pv tv) (hs : RStP w T gs s (.slice (some ⟨gr, 0, none⟩) s.regs.length cp) ps) (hgr : T ≤ gr) (hg : Good l.length s) (hn4 : l.length ≤ 4000) (hv : rightAll l = true) (hp : s.pos < l.length) :
    Calls Try.prog 129 #[.pointer (some ⟨gm, 0, none⟩), .pointer (some ⟨gs, 0, none⟩)] w (RStepOut w T gs l s (.slice (some ⟨gr, 0, none⟩) s.regs.length cp)) := by
  obtain ⟨x, hx⟩ : ∃ x, l[s.pos]? = some x := ⟨_, List.getElem?_eq_getElem hp⟩
  have hr := rightAll_get hv hx
  unfold RStepOut stepP
  rw [hx]
  dsimp only
  obtain ⟨op, a, b, c, tree⟩ := x
  unfold rightB at hr
  simp only [Bool.and_eq_true] at hr
  obtain ⟨⟨⟨ha, h1⟩, h2⟩, h3⟩ := hr
  obtain ⟨ra, rfl, hra⟩ := regB_nat ha
  have gt : ∀ r : Nat, r < 32 → ∃ t, s.regs[r]? = some t := fun r h => ⟨_, List.getElem?_eq_getElem (by rw [hg.2.1]; exact h)⟩
  obtain ⟨ta, hta⟩ := gt ra hra
  unfold stepX
  dsimp only
  by_cases o0 : op = 0
  · subst o0
    simp only [if_true, setR, Int.toNat_natCast]
    exact rstep_set w T gm gs gr cp l s pv tv ps hm hs hgr hg hn4 ra hra b c tree hx
  · rw [if_neg o0] at h3 ⊢
    by_cases o1 : op = 1
    · subst o1
      rw [if_pos (.inl rfl)] at h3
      obtain ⟨rb, rfl, hrb⟩ := regB_nat h3
      obtain ⟨t, ht⟩ := gt rb hrb
      simp only [if_true, setR, Int.toNat_natCast, getR_nat ht]
      exact rstep_move w T gm gs gr cp l s pv tv ps hm hs hgr hg hn4 ra hra rb hrb t ht c tree hx
    · rw [if_neg o1]
      by_cases o2 : op = 2
      · subst o2
        rw [if_neg (by omega), if_pos rfl] at h3
        simp only [Bool.and_eq_true] at h3
        obtain ⟨rb, rfl, hrb⟩ := regB_nat h3.1
        obtain ⟨rc, rfl, hrc⟩ := regB_nat h3.2
        obtain ⟨t, ht⟩ := gt rb hrb
        obtain ⟨u, hu⟩ := gt rc hrc
        simp only [if_true, setR, Int.toNat_natCast, getR_nat ht, getR_nat hu]
        by_cases hsz : (Tr.pair t u).size ≤ 2000000
        · rw [if_pos hsz]
          exact rstep_cons_ok w T gm gs gr cp l s pv tv ps hm hs hgr hg hn4 ra hra rb hrb rc hrc t ht u hu tree hsz hx
        · rw [if_neg hsz]
          exact rstep_cons_big w T gm gs gr cp l s pv tv ps hm hs hgr hg hn4 ra hra rb hrb rc hrc t ht u hu tree (by omega) hx
      · rw [if_neg o2]
        by_cases o3 : op = 3
        · subst o3
          rw [if_pos (.inr (.inl rfl))] at h3
          obtain ⟨rb, rfl, hrb⟩ := regB_nat h3
          obtain ⟨t, ht⟩ := gt rb hrb
          simp only [if_true, setR, Int.toNat_natCast, getR_nat ht]
          exact rstep_head w T gm gs gr cp l s pv tv ps hm hs hgr hg hn4 ra hra rb hrb t ht c tree hx
        · rw [if_neg o3]
          by_cases o4 : op = 4
          · subst o4
            rw [if_pos (.inr (.inr rfl))] at h3
            obtain ⟨rb, rfl, hrb⟩ := regB_nat h3
            obtain ⟨t, ht⟩ := gt rb hrb
            simp only [if_true, setR, Int.toNat_natCast, getR_nat ht]
            exact rstep_tail w T gm gs gr cp l s pv tv ps hm hs hgr hg hn4 ra hra rb hrb t ht c tree hx
          · rw [if_neg o4]
            rw [if_neg (by omega), if_neg o2] at h3
            by_cases o5 : op = 5
            · subst o5
              rw [if_pos rfl] at h3
              simp only [Bool.and_eq_true, decide_eq_true_eq] at h3
              rw [getR_nat hta]
              by_cases hn : ta = .nil
              · rw [if_pos hn]
                exact rstep_jump_no w T gm gs gr cp l s pv tv ps hm hs hgr hg hn4 ra hra ta hta hn b c tree h3.1 h3.2 hx
              · rw [if_neg hn]
                exact rstep_jump_go w T gm gs gr cp l s pv tv ps hm hs hgr hg hn4 ra hra ta hta hn b c tree h3.1 h3.2 hx
            · rw [if_neg o5] at h3; cases h3

end Go.Proofs.Ytaiomcjopgnfpaa

/- law09: set, awake, little. -/
import Derived.Test.YtdjbcmfjlfkcjaaDef3
import Derived.Test.YtdjbcmfjlfkcjaaKnowI
namespace Go.Proofs.Ytdjbcmfjlfkcjaa
open Go.RowKit

/-- set 0 t -/
def set0 (t : ByteArray) : Ins := setI 0 t
def z1 : ByteArray := ⟨#[48]⟩
def z2 : ByteArray := ⟨#[49, 48, 48]⟩
def awD : List Ins := knowL (defQ [set0 z1] [set0 z2] [set0 z1] 1)
def awL : List Ins := knowL (liarQ [set0 z1])
theorem awDE : defE [set0 z1] [set0 z2] [set0 z1] = 0 := by decide +kernel
theorem awLE : liarE [set0 z1] = 0 := by decide +kernel
theorem awDK : knowE (defQ [set0 z1] [set0 z2] [set0 z1] 1) = 0 := by decide +kernel
theorem awLK : knowE (liarQ [set0 z1]) = 0 := by decide +kernel
theorem awDD : defD [set0 z1] [set0 z2] [set0 z1] = awD := by unfold defD; rw [awDE]; rfl
theorem awLD : liarD [set0 z1] = awL := by unfold liarD; rw [awLE]; rfl
theorem awDV : validB awD = true := (knowE_facts awDK).2.2.1
theorem awLV : validB awL = true := (knowE_facts awLK).2.2.1
theorem awDN : codeN awD ≤ 100000 := by decide +kernel
theorem awLN : codeN awL ≤ 100000 := by decide +kernel
theorem set0_run (b : ByteArray) (u v : Tr) (hv : toTr b = v) (F : Nat) (hF : 1 ≤ F) : ∃ s, goF [set0 b] F 0 (startS u) = .done s 1 ∧ getR s.regs 0 = v := by
  have h : Runs [set0 b] 1 (startS u) ⟨1, v :: List.replicate 31 .nil⟩ := set_run 0 b v _ _ rfl hv rfl
  exact ⟨_, h.done rfl F hF, rfl⟩
theorem awD_run : ∃ s, goF awD 100 0 (startS .nil) = .done s 28 ∧ getR s.regs 0 = .pair .nil .nil := by
  have hsz : (codeT awD).size ≤ 100000 := by rw [codeT_size awDV]; exact awDN
  have hr : (Tr.pair (codeT awD) .nil).size ≤ 2000000 := by simp only [Tr.size]; omega
  obtain ⟨s1, g1, g2⟩ := set0_run z1 (codeT awD) .nil tr_nil 50 (by omega)
  have hS := segsD [set0 z1] [set0 z2] [set0 z1] 0
  have hst := known_start awDK .nil hr
  have hf := (defeat_follow hS (by omega) (by decide) (by decide) (by decide) (by decide) (by decide) (by decide) (codeT awD) .nil hst (by omega) (by decide) 50 s1 1 g1).2 g2
  obtain ⟨s2, g3, g4⟩ := set0_run z2 .nil (.pair .nil .nil) tr_100 73 (by omega)
  rcases hf 73 with ⟨s, s', m, e1, e2, e3, e4⟩ | ⟨s, e1, _⟩ | ⟨e1, _⟩
  · rw [g3] at e1
    injection e1 with e5 e6
    subst e5; subst e6
    exact ⟨s', e3, by rw [e4, g4]⟩
  · rw [g3] at e1; cases e1
  · rw [g3] at e1; cases e1
theorem awL_run : ∃ s, goF awL 100 0 (startS (.pair .nil .nil)) = .done s 21 ∧ getR s.regs 0 = .nil := by
  have hsz : (codeT awL).size ≤ 100000 := by rw [codeT_size awLV]; exact awLN
  have h3 : (Tr.pair .nil .nil).size = 3 := rfl
  have hr : (Tr.pair (codeT awL) (.pair .nil .nil)).size ≤ 2000000 := by simp only [Tr.size]; omega
  obtain ⟨s1, g1, g2⟩ := set0_run z1 (.pair (codeT (knowL (liarQ [set0 z1]))) (.pair .nil .nil)) .nil tr_nil 50 (by omega)
  have hst := known_start awLK (.pair .nil .nil) hr
  rcases liar_part (by decide) _ _ hst hr 50 with ⟨s, k, b, e1, e2, e3, e4, e5⟩ | ⟨s, e1, _⟩ | ⟨e1, _⟩
  · rw [g1] at e1
    injection e1 with e6 e7
    subst e6; subst e7
    exact e4 (by rw [← e2, g2]) 100 (by omega)
  · rw [g1] at e1; cases e1
  · rw [g1] at e1; cases e1
theorem text_100 : TS (.pair .nil .nil) = ⟨#[49, 48, 48]⟩ := by decide
theorem node_nil {T : Nat} {w : World} {q : Option Addr} (h : NodeP T w .nil (.pointer q)) : q = none := by
  have h1 : Value.pointer q = .pointer none := h
  injection h1
end Go.Proofs.Ytdjbcmfjlfkcjaa


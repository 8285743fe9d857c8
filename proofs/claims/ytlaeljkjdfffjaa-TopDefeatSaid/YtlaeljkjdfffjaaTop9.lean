/- narcissustop: defeats, TopLiar. -/
import Derived.Test.YtlaeljkjdfffjaaTop8
import Derived.Test.YtlaeljkjdfffjaaDef2
import Derived.Test.YtlaeljkjdfffjaaDef6
namespace Go.Proofs.Ytlaeljkjdfffjaa
open Go.RowKit

def y1 : ByteArray := ⟨#[48]⟩
def y2 : ByteArray := ⟨#[49, 48, 48]⟩
def y3 : ByteArray := ⟨#[49, 48, 49, 48, 48]⟩
def dfP : List Ins := knowL (defQ [setI 0 y1] [setI 0 y2] [setI 0 y3] 1)
theorem dfE : defE [setI 0 y1] [setI 0 y2] [setI 0 y3] = 0 := by decide +kernel
theorem dfK : knowE (defQ [setI 0 y1] [setI 0 y2] [setI 0 y3] 1) = 0 := by decide +kernel
theorem dfD : defD [setI 0 y1] [setI 0 y2] [setI 0 y3] = dfP := by unfold defD; rw [dfE]; rfl
theorem dfV : validB dfP = true := (knowE_facts dfK).2.2.1
theorem dfN : codeN dfP ≤ 100000 := by decide +kernel
theorem setY_run (b : ByteArray) (u v : Tr) (hv : toTr b = v) (F : Nat) (hF : 1 ≤ F) : ∃ s, goF [setI 0 b] F 0 (startS u) = .done s 1 ∧ getR s.regs 0 = v := by
  have h : Runs [setI 0 b] 1 (startS u) ⟨1, v :: List.replicate 31 .nil⟩ := set_run 0 b v _ _ rfl hv rfl
  exact ⟨_, h.done rfl F hF, rfl⟩
theorem dfP_run : ∃ s, goF dfP 1000 0 (startS .nil) = .done s 28 ∧ getR s.regs 0 = .pair .nil .nil := by
  have hsz : (codeT dfP).size ≤ 100000 := by rw [codeT_size dfV]; exact dfN
  have hr : (Tr.pair (codeT dfP) .nil).size ≤ 2000000 := by simp only [Tr.size]; omega
  obtain ⟨s1, g1, g2⟩ := setY_run y1 (codeT dfP) .nil tr_nil 50 (by omega)
  have hS := segsD [setI 0 y1] [setI 0 y2] [setI 0 y3] 0
  have hst := known_start dfK .nil hr
  have hf := (defeat_follow hS (by omega) (by decide) (by decide) (by decide) (by decide) (by decide) (by decide) (codeT dfP) .nil hst (by omega) (by decide) 50 s1 1 g1).2 g2
  obtain ⟨s2, g3, g4⟩ := setY_run y2 .nil (.pair .nil .nil) tr_100 973 (by omega)
  rcases hf 973 with ⟨s, s', m, e1, e2, e3, e4⟩ | ⟨s, e1, _⟩ | ⟨e1, _⟩
  · rw [g3] at e1
    injection e1 with e5 e6
    subst e5; subst e6
    exact ⟨s', e3, by rw [e4, g4]⟩
  · rw [g3] at e1; cases e1
  · rw [g3] at e1; cases e1
theorem grow100 : growB y2 10 = true := by decide +kernel
theorem tr100 : toTr y2 = .pair .nil .nil := tr_100
set_option maxRecDepth 20000 in
set_option maxHeartbeats 4000000 in
theorem defeats_any (w : World) : Calls Try.prog 54 #[] w fun e w' => e = .returned (.bool true) ∧ Below w.heap.size w w' := by
  obtain ⟨s1, hs1, hs2⟩ := dfP_run
  have HS1 := Lib.hid hs1
  have HS2 := Lib.hid hs2
  clear hs1 hs2
  have ch := Lib.hid (Below.refl w.heap.size w)
  go_enter Try.func54, Try.ntmps54
  go_wp2_with fail
  refine (tset_any y1 (by decide) _).mono ?_
  rintro e w1 ⟨v1, rfl, h1, hq⟩
  have ch := Lib.hid (ch.out.trans (hq.mono ch.out.size))
  clear hq
  have h1 := Lib.hid h1
  go_wp2_with fail
  refine (tset_any y2 (by decide) _).mono ?_
  rintro e w2 ⟨v2, rfl, h2, hq⟩
  have h1 := Lib.hid ((h1.out.below hq).mono hq.size)
  have ch := Lib.hid (ch.out.trans (hq.mono ch.out.size))
  clear hq
  have h2 := Lib.hid h2
  go_wp2_with fail
  refine (tset_any y3 (by decide) _).mono ?_
  rintro e w3 ⟨v3, rfl, h3, hq⟩
  have h1 := Lib.hid ((h1.out.below hq).mono hq.size)
  have h2 := Lib.hid ((h2.out.below hq).mono hq.size)
  have ch := Lib.hid (ch.out.trans (hq.mono ch.out.size))
  clear hq
  have h3 := Lib.hid h3
  go_wp2_with fail
  refine (defeat_due 0 _ _ _ _ _ _ _ h1.out h2.out h3.out dfE).mono ?_
  rintro e w4 ⟨vD, rfl, hD, hq⟩
  have h1 := Lib.hid ((h1.out.below hq).mono hq.size)
  have h2 := Lib.hid ((h2.out.below hq).mono hq.size)
  have h3 := Lib.hid ((h3.out.below hq).mono hq.size)
  have ch := Lib.hid (ch.out.trans (hq.mono ch.out.size))
  clear hq
  have hD := Lib.hid (show InsRow _ _ _ dfP from by have h := hD.row (by rw [dfD]; have := validB_len dfV; omega); rw [dfD] at h; exact h)
  clear h1 h2 h3
  go_wp2_with fail
  refine (twhole_any _ _ true dfV _ hD.out).mono ?_
  rintro e w5 ⟨rfl, hq⟩
  have hD := Lib.hid ((hD.out.below hq).mono hq.size)
  have ch := Lib.hid (ch.out.trans (hq.mono ch.out.size))
  clear hq
  go_wp2_with fail
  refine (tplay_done (t := .nil) 1000 _ (by omega) (by omega) HS1.out hD.out dfV rfl (by decide)).mono ?_
  rintro e w6 ⟨yq, rfl, hY, hq⟩
  have hD := Lib.hid ((hD.out.below hq).mono hq.size)
  have ch := Lib.hid (ch.out.trans (hq.mono ch.out.size))
  clear hq
  have hY := Lib.hid hY
  go_wp2_with fail
  refine (tgrow_yes (s := y2) (most := 10) (by decide) (by omega) grow100 _).mono ?_
  rintro e w7 ⟨zq, rfl, hZ, hq⟩
  have hY := Lib.hid (hY.out.kept (Kept.below hq))
  have hD := Lib.hid ((hD.out.below hq).mono hq.size)
  have ch := Lib.hid (ch.out.trans (hq.mono ch.out.size))
  clear hq
  have hZ := Lib.hid hZ
  rw [HS2.out] at hY
  rw [tr100] at hZ
  have ke := Lib.hid (tequal_any (.pair .nil .nil) (.pair .nil .nil) _ _ _ hY.out hZ.out (by decide) (by decide))
  rw [decide_eq_true rfl] at ke
  go_wp2_with fail
  refine (ke.out).mono ?_
  rintro e w8 ⟨rfl, hq⟩
  have hY := Lib.hid (hY.out.kept (Kept.below hq))
  have hZ := Lib.hid (hZ.out.kept (Kept.below hq))
  have hD := Lib.hid ((hD.out.below hq).mono hq.size)
  have ch := Lib.hid (ch.out.trans (hq.mono ch.out.size))
  clear hq
  go_wp2
  go_ret
  exact ⟨rfl, ch.out⟩
end Go.Proofs.Ytlaeljkjdfffjaa


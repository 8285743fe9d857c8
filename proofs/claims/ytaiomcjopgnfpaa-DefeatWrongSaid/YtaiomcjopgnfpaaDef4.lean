/- law09: set, awake, little. -/
import Derived.Test.YtaiomcjopgnfpaaDef3
import Derived.Test.YtaiomcjopgnfpaaKnowI
namespace Go.Proofs.Ytaiomcjopgnfpaa
open Go.RowKit

/-- set 0 t -/
def set0 (t : ByteArray) : Ins := setI 0 t
theorem set9_any (t : ByteArray) (ht : t.size ≤ 100) (w : World) : Calls Try.prog 100 #[.string t] w fun e w' => ∃ v, e = .returned v ∧ InsRow w' w'.heap.size v [set0 t] ∧ Below w.heap.size w w' := by
  have hT := Lib.hid ht
  clear ht
  go_enter Try.func100, Try.ntmps100
  go_wp2
  go_ret
  exact ⟨_, rfl, (OwnI.lit w [set0 t] (by simp only [List.forall_mem_cons, List.not_mem_nil, false_imp_iff, implies_true, and_true]; exact setI_wf _ _ (by omega) (by have := hT.out; omega)) (by simp)).row (by simp), (Below.refl _ _).alloc (Nat.le_refl _) _⟩
def z1 : ByteArray := ⟨#[48]⟩
def z2 : ByteArray := ⟨#[49, 48, 48]⟩
def awD : List Ins := knowL (defQ [set0 z1] [set0 z2] [set0 z1] 1)
def awL : List Ins := knowL (liarQ [set0 z1])
theorem awDE : defE [set0 z1] [set0 z2] [set0 z1] = 0 := by decide +kernel
theorem awLE : liarE [set0 z1] = 0 := by decide +kernel
theorem awDK : knowE (defQ [set0 z1] [set0 z2] [set0 z1] 1) = 0 := by decide +kernel
theorem awLK : knowE (liarQ [set0 z1]) = 0 := by decide +kernel
theorem awDD : defD [set0 z1] [set0 z2] [set0 z1] = awD := by unfold defD; rw [awDE]; rfl
theorem awLD : liarD [set0 z1] = awL := by unfold liarD; rw [awLE]; rfl
theorem awDV : validB awD = true := (knowE_facts awDK).2.2.1
theorem awLV : validB awL = true := (knowE_facts awLK).2.2.1
theorem awDN : codeN awD ≤ 100000 := by decide +kernel
theorem awLN : codeN awL ≤ 100000 := by decide +kernel
theorem set0_run (b : ByteArray) (u v : Tr) (hv : toTr b = v) (F : Nat) (hF : 1 ≤ F) : ∃ s, goF [set0 b] F 0 (startS u) = .done s 1 ∧ getR s.regs 0 = v := by
  have h : Runs [set0 b] 1 (startS u) ⟨1, v :: List.replicate 31 .nil⟩ := set_run 0 b v _ _ rfl hv rfl
  exact ⟨_, h.done rfl F hF, rfl⟩
theorem awD_run : ∃ s, goF awD 100 0 (startS .nil) = .done s 28 ∧ getR s.regs 0 = .pair .nil .nil := by
  have hsz : (codeT awD).size ≤ 100000 := by rw [codeT_size awDV]; exact awDN
  have hr : (Tr.pair (codeT awD) .nil).size ≤ 2000000 := by simp only [Tr.size]; omega
  obtain ⟨s1, g1, g2⟩ := set0_run z1 (codeT awD) .nil tr_nil 50 (by omega)
  have hS := segsD [set0 z1] [set0 z2] [set0 z1] 0
  have hst := known_start awDK .nil hr
  have hf := (defeat_follow hS (by omega) (by decide) (by decide) (by decide) (by decide) (by decide) (by decide) (codeT awD) .nil hst (by omega) (by decide) 50 s1 1 g1).2 g2
  obtain ⟨s2, g3, g4⟩ := set0_run z2 .nil (.pair .nil .nil) tr_100 73 (by omega)
  rcases hf 73 with ⟨s, s', m, e1, e2, e3, e4⟩ | ⟨s, e1, _⟩ | ⟨e1, _⟩
  · rw [g3] at e1
    injection e1 with e5 e6
    subst e5; subst e6
    exact ⟨s', e3, by rw [e4, g4]⟩
  · rw [g3] at e1; cases e1
  · rw [g3] at e1; cases e1
theorem awL_run : ∃ s, goF awL 100 0 (startS (.pair .nil .nil)) = .done s 21 ∧ getR s.regs 0 = .nil := by
  have hsz : (codeT awL).size ≤ 100000 := by rw [codeT_size awLV]; exact awLN
  have h3 : (Tr.pair .nil .nil).size = 3 := rfl
  have hr : (Tr.pair (codeT awL) (.pair .nil .nil)).size ≤ 2000000 := by simp only [Tr.size]; omega
  obtain ⟨s1, g1, g2⟩ := set0_run z1 (.pair (codeT (knowL (liarQ [set0 z1]))) (.pair .nil .nil)) .nil tr_nil 50 (by omega)
  have hst := known_start awLK (.pair .nil .nil) hr
  rcases liar_part (by decide) _ _ hst hr 50 with ⟨s, k, b, e1, e2, e3, e4, e5⟩ | ⟨s, e1, _⟩ | ⟨e1, _⟩
  · rw [g1] at e1
    injection e1 with e6 e7
    subst e6; subst e7
    exact e4 (by rw [← e2, g2]) 100 (by omega)
  · rw [g1] at e1; cases e1
  · rw [g1] at e1; cases e1
theorem text_100 : TS (.pair .nil .nil) = ⟨#[49, 48, 48]⟩ := by decide
theorem node_nil {T : Nat} {w : World} {q : Option Addr} (h : NodeP T w .nil (.pointer q)) : q = none := by
  have h1 : Value.pointer q = .pointer none := h
  injection h1
set_option maxRecDepth 20000 in
set_option maxHeartbeats 4000000 in
theorem awake9_any (w : World) : Calls Try.prog 58 #[] w fun e w' => e = .returned (.bool true) ∧ Below w.heap.size w w' := by
  obtain ⟨s1, hs1, hs2⟩ := awD_run
  obtain ⟨s2, hl1, hl2⟩ := awL_run
  have HS1 := Lib.hid hs1
  have HS2 := Lib.hid hs2
  have HL1 := Lib.hid hl1
  have HL2 := Lib.hid hl2
  clear hs1 hs2 hl1 hl2
  have ch := Lib.hid (Below.refl w.heap.size w)
  go_enter Try.func58, Try.ntmps58
  go_wp2_with fail
  refine (set9_any z1 (by decide) _).mono ?_
  rintro e w1 ⟨v1, rfl, h1, hq⟩
  have ch := Lib.hid (ch.out.trans (hq.mono ch.out.size))
  clear hq
  have h1 := Lib.hid h1
  go_wp2_with fail
  refine (set9_any z2 (by decide) _).mono ?_
  rintro e w2 ⟨v2, rfl, h2, hq⟩
  have h1 := Lib.hid ((h1.out.below hq).mono hq.size)
  have ch := Lib.hid (ch.out.trans (hq.mono ch.out.size))
  clear hq
  have h2 := Lib.hid h2
  go_wp2_with fail
  refine (set9_any z1 (by decide) _).mono ?_
  rintro e w3 ⟨v3, rfl, h3, hq⟩
  have h1 := Lib.hid ((h1.out.below hq).mono hq.size)
  have h2 := Lib.hid ((h2.out.below hq).mono hq.size)
  have ch := Lib.hid (ch.out.trans (hq.mono ch.out.size))
  clear hq
  have h3 := Lib.hid h3
  go_wp2_with fail
  refine (defeat_due 0 _ _ _ _ _ _ _ h1.out h2.out h3.out awDE).mono ?_
  rintro e w4 ⟨vD, rfl, hD, hq⟩
  have h1 := Lib.hid ((h1.out.below hq).mono hq.size)
  have h2 := Lib.hid ((h2.out.below hq).mono hq.size)
  have h3 := Lib.hid ((h3.out.below hq).mono hq.size)
  have ch := Lib.hid (ch.out.trans (hq.mono ch.out.size))
  clear hq
  have hD := Lib.hid (show InsRow _ _ _ awD from by have h := hD.row (by rw [awDD]; have := validB_len awDV; omega); rw [awDD] at h; exact h)
  clear h1 h2 h3
  go_wp2_with fail
  refine (set9_any z1 (by decide) _).mono ?_
  rintro e w5 ⟨v4, rfl, h4, hq⟩
  have hD := Lib.hid ((hD.out.below hq).mono hq.size)
  have ch := Lib.hid (ch.out.trans (hq.mono ch.out.size))
  clear hq
  have h4 := Lib.hid h4
  go_wp2_with fail
  refine (liar_due 0 _ _ _ h4.out awLE).mono ?_
  rintro e w6 ⟨vL, rfl, hL, hq⟩
  have hD := Lib.hid ((hD.out.below hq).mono hq.size)
  have h4 := Lib.hid ((h4.out.below hq).mono hq.size)
  have ch := Lib.hid (ch.out.trans (hq.mono ch.out.size))
  clear hq
  have hL := Lib.hid (show InsRow _ _ _ awL from by have h := hL.row (by rw [awLD]; have := validB_len awLV; omega); rw [awLD] at h; exact h)
  clear h4
  go_wp2_with fail
  refine (cvalid_at true awDV hD.out).mono ?_
  rintro e w7 ⟨rfl, hq⟩
  have hD := Lib.hid ((hD.out.below hq).mono hq.size)
  have hL := Lib.hid ((hL.out.below hq).mono hq.size)
  have ch := Lib.hid (ch.out.trans (hq.mono ch.out.size))
  clear hq
  go_wp2_with fail
  refine (cvalid_at true awLV hL.out).mono ?_
  rintro e w8 ⟨rfl, hq⟩
  have hD := Lib.hid ((hD.out.below hq).mono hq.size)
  have hL := Lib.hid ((hL.out.below hq).mono hq.size)
  have ch := Lib.hid (ch.out.trans (hq.mono ch.out.size))
  clear hq
  go_wp2_with fail
  refine (load_any _ _ _ hD.out awDV).mono ?_
  rintro e w9 ⟨gd, td, rfl, hMd, hq⟩
  have hD := Lib.hid ((hD.out.below hq).mono hq.size)
  have hL := Lib.hid ((hL.out.below hq).mono hq.size)
  have ch := Lib.hid (ch.out.trans (hq.mono ch.out.size))
  clear hq
  have hMd := Lib.hid hMd
  go_wp2_with fail
  refine (rrun_done (t := .nil) 100 _ (by omega) (by omega) HS1.out hMd.out rfl (by decide) awDV).mono ?_
  rintro e w10 ⟨rx, rfl, hX, hq⟩
  have hMd := Lib.hid (mach_lift hMd.out hq)
  have hD := Lib.hid ((hD.out.below hq).mono hq.size)
  have hL := Lib.hid ((hL.out.below hq).mono hq.size)
  have ch := Lib.hid (ch.out.trans (hq.mono ch.out.size))
  clear hq
  clear hMd
  have hX := Lib.hid hX
  go_wp2_with fail
  refine (load_any _ _ _ hL.out awLV).mono ?_
  rintro e w11 ⟨gl, tl, rfl, hMl, hq⟩
  have hX := Lib.hid (hX.out.kept (Kept.below hq))
  have hD := Lib.hid ((hD.out.below hq).mono hq.size)
  have hL := Lib.hid ((hL.out.below hq).mono hq.size)
  have ch := Lib.hid (ch.out.trans (hq.mono ch.out.size))
  clear hq
  have hMl := Lib.hid hMl
  go_wp2_with fail
  rw [← text_100]
  refine (read_ok (.pair .nil .nil) (by decide) _).mono ?_
  rintro e w12 ⟨xq, rfl, hN, hq⟩
  have hX := Lib.hid (hX.out.kept (Kept.below hq))
  have hMl := Lib.hid (mach_lift hMl.out hq)
  have hD := Lib.hid ((hD.out.below hq).mono hq.size)
  have hL := Lib.hid ((hL.out.below hq).mono hq.size)
  have ch := Lib.hid (ch.out.trans (hq.mono ch.out.size))
  clear hq
  have hN := Lib.hid hN
  go_wp2_with fail
  refine (rrun_done 100 _ (by omega) (by omega) HL1.out hMl.out hN.out (by decide) awLV).mono ?_
  rintro e w13 ⟨ry, rfl, hY, hq⟩
  have hX := Lib.hid (hX.out.kept (Kept.below hq))
  have hN := Lib.hid (hN.out.kept (Kept.below hq))
  have hMl := Lib.hid (mach_lift hMl.out hq)
  have hD := Lib.hid ((hD.out.below hq).mono hq.size)
  have hL := Lib.hid ((hL.out.below hq).mono hq.size)
  have ch := Lib.hid (ch.out.trans (hq.mono ch.out.size))
  clear hq
  clear hMl hN
  have hX := Lib.hid (show NodeP 69 _ (.pair .nil .nil) (.pointer rx) from by have h := hX.out; rw [HS2.out] at h; exact h)
  rw [HL2.out] at hY
  obtain rfl := node_nil hY
  go_wp2_with fail
  refine (rnodeText_any _ _ _ hX.out (by decide)).mono ?_
  rintro e w14 ⟨rfl, hq⟩
  have hX := Lib.hid (hX.out.kept (Kept.below hq))
  have hD := Lib.hid ((hD.out.below hq).mono hq.size)
  have hL := Lib.hid ((hL.out.below hq).mono hq.size)
  have ch := Lib.hid (ch.out.trans (hq.mono ch.out.size))
  clear hq
  rw [text_100]
  go_wp2
  go_ret
  exact ⟨rfl, ch.out⟩
end Go.Proofs.Ytaiomcjopgnfpaa


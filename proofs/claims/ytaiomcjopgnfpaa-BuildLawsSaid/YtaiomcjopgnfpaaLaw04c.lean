/- law04: BuildMakes, where the string is no tree; the law. -/
import Derived.Test.YtaiomcjopgnfpaaLaw04b
namespace Go.Proofs.Ytaiomcjopgnfpaa
open Go.RowKit

set_option maxHeartbeats 8000000 in
theorem makes_f_ffx {w : World} (d : ByteArray) (hs : d.size ≤ 140737488355328) (ca : Option Addr) (cn cc : Nat) (pa : Option Addr) (pn pc : Nat) (qa : Option Addr) (qn qc : Nat) (c p q : List Ins) (hhC : InsRow w w.heap.size (.slice ca cn cc) c) (hhP : InsRow w w.heap.size (.slice pa pn pc) p) (hhQ : InsRow w w.heap.size (.slice qa qn qc) q) (HD : Hid (isTree d = false)) (HVp : Hid (validB p = false)) (HVc : Hid (validB c = false)) :
    Calls Try.prog 7 #[.string d, .slice ca cn cc, .slice pa pn pc, .slice qa qn qc] w fun e w' => e = .returned (.bool true) ∧ Below w.heap.size w w' := by
  have hC := Lib.hid hhC
  have hP := Lib.hid hhP
  have hQ := Lib.hid hhQ
  clear hhC hhP hhQ
  have kT := fun w => tvalid_at d hs false HD.out w
  have ch := Lib.hid (Below.refl w.heap.size w)
  go_enter Try.func7, Try.ntmps7
  go_wp2_with fail
  have hL0 := ProgsRow.lit (w := w) [.slice ca cn cc, .slice pa pn pc, .slice qa qn qc] [c, p, q] rfl (by simp) (fun j u l hu hl => match j, u, l, hu, hl with | 0, _, _, hu, hl => by cases hu; cases hl; exact hC.out | 1, _, _, hu, hl => by cases hu; cases hl; exact hP.out | 2, _, _, hu, hl => by cases hu; cases hl; exact hQ.out)
  obtain ⟨w1, hW⟩ : ∃ B, w.alloc (.cells #[.slice ca cn cc, .slice pa pn pc, .slice qa qn qc] 25) = B := ⟨_, rfl⟩
  rw [hW]
  have hq : Below w.heap.size w w1 := by rw [← hW]; exact (Below.refl _ _).alloc (Nat.le_refl _) _
  have hL := Lib.hid (show ProgsRow w1 w1.heap.size (.slice (some ⟨w.heap.size, 0, none⟩) 3 3) [c, p, q] by rw [← hW]; exact hL0)
  clear hW hL0
  have hC := Lib.hid ((hC.out.below hq).mono hq.size)
  have hP := Lib.hid ((hP.out.below hq).mono hq.size)
  have hQ := Lib.hid ((hQ.out.below hq).mono hq.size)
  have ch := Lib.hid (ch.out.trans (hq.mono ch.out.size))
  clear hq
  refine (copied_any _ [c, p, q] _ hL.out).mono ?_
  rintro e w2 ⟨vl, rfl, hWas, hq⟩
  have hC := Lib.hid ((hC.out.below hq).mono hq.size)
  have hP := Lib.hid ((hP.out.below hq).mono hq.size)
  have hQ := Lib.hid ((hQ.out.below hq).mono hq.size)
  have hL := Lib.hid ((hL.out.below hq).mono hq.size)
  have ch := Lib.hid (ch.out.trans (hq.mono ch.out.size))
  clear hq
  have hWas := Lib.hid hWas
  go_wp2_with fail
  refine (bConst_bad d hs HD.out _).mono ?_
  rintro e w3 ⟨rfl, hq⟩
  have hC := Lib.hid ((hC.out.below hq).mono hq.size)
  have hP := Lib.hid ((hP.out.below hq).mono hq.size)
  have hQ := Lib.hid ((hQ.out.below hq).mono hq.size)
  have hL := Lib.hid ((hL.out.below hq).mono hq.size)
  have hWas := Lib.hid ((hWas.out.below hq).mono hq.size)
  have ch := Lib.hid (ch.out.trans (hq.mono ch.out.size))
  clear hq
  go_wp2_with fail
  refine (made_tb (bPair_any _ _ _ _ _ _ p q _ hP.out hQ.out)).mono ?_
  rintro e w4 ⟨vb, rfl, hB, hq⟩
  have hC := Lib.hid ((hC.out.below hq).mono hq.size)
  have hP := Lib.hid ((hP.out.below hq).mono hq.size)
  have hQ := Lib.hid ((hQ.out.below hq).mono hq.size)
  have hL := Lib.hid ((hL.out.below hq).mono hq.size)
  have hWas := Lib.hid ((hWas.out.below hq).mono hq.size)
  have ch := Lib.hid (ch.out.trans (hq.mono ch.out.size))
  clear hq
  have hB := Lib.hid hB
  go_wp2_with fail
  refine (made_tb (bIf_any _ _ _ _ _ _ _ _ _ c p q _ hC.out hP.out hQ.out)).mono ?_
  rintro e w5 ⟨vx, rfl, hX, hq⟩
  have hC := Lib.hid ((hC.out.below hq).mono hq.size)
  have hP := Lib.hid ((hP.out.below hq).mono hq.size)
  have hQ := Lib.hid ((hQ.out.below hq).mono hq.size)
  have hL := Lib.hid ((hL.out.below hq).mono hq.size)
  have hWas := Lib.hid ((hWas.out.below hq).mono hq.size)
  have hB := Lib.hid ((hB.out.below hq).mono hq.size)
  have ch := Lib.hid (ch.out.trans (hq.mono ch.out.size))
  clear hq
  have hX := Lib.hid hX
  go_wp2_with fail
  refine (made_tb (bWhile_any _ _ _ _ _ _ c p _ hC.out hP.out)).mono ?_
  rintro e w6 ⟨vy, rfl, hW, hq⟩
  have hC := Lib.hid ((hC.out.below hq).mono hq.size)
  have hP := Lib.hid ((hP.out.below hq).mono hq.size)
  have hQ := Lib.hid ((hQ.out.below hq).mono hq.size)
  have hL := Lib.hid ((hL.out.below hq).mono hq.size)
  have hWas := Lib.hid ((hWas.out.below hq).mono hq.size)
  have hB := Lib.hid ((hB.out.below hq).mono hq.size)
  have hX := Lib.hid ((hX.out.below hq).mono hq.size)
  have ch := Lib.hid (ch.out.trans (hq.mono ch.out.size))
  clear hq
  have hW := Lib.hid hW
  go_wp2_with fail
  refine (alike_self _ _ [c, p, q] _ hL.out hWas.out).mono ?_
  rintro e w7 ⟨rfl, hq⟩
  have hC := Lib.hid ((hC.out.below hq).mono hq.size)
  have hP := Lib.hid ((hP.out.below hq).mono hq.size)
  have hQ := Lib.hid ((hQ.out.below hq).mono hq.size)
  have hL := Lib.hid ((hL.out.below hq).mono hq.size)
  have hWas := Lib.hid ((hWas.out.below hq).mono hq.size)
  have hB := Lib.hid ((hB.out.below hq).mono hq.size)
  have hX := Lib.hid ((hX.out.below hq).mono hq.size)
  have hW := Lib.hid ((hW.out.below hq).mono hq.size)
  have ch := Lib.hid (ch.out.trans (hq.mono ch.out.size))
  clear hq
  clear hWas
  go_wp2_with fail
  refine (kT _).mono ?_
  rintro e w8 ⟨rfl, hq⟩
  have hC := Lib.hid ((hC.out.below hq).mono hq.size)
  have hP := Lib.hid ((hP.out.below hq).mono hq.size)
  have hQ := Lib.hid ((hQ.out.below hq).mono hq.size)
  have hL := Lib.hid ((hL.out.below hq).mono hq.size)
  have hB := Lib.hid ((hB.out.below hq).mono hq.size)
  have hX := Lib.hid ((hX.out.below hq).mono hq.size)
  have hW := Lib.hid ((hW.out.below hq).mono hq.size)
  have ch := Lib.hid (ch.out.trans (hq.mono ch.out.size))
  clear hq
  go_wp2_with fail
  refine (cvalid_at _ HVp.out hP.out).mono ?_
  rintro e w9 ⟨rfl, hq⟩
  have hC := Lib.hid ((hC.out.below hq).mono hq.size)
  have hP := Lib.hid ((hP.out.below hq).mono hq.size)
  have hQ := Lib.hid ((hQ.out.below hq).mono hq.size)
  have hL := Lib.hid ((hL.out.below hq).mono hq.size)
  have hB := Lib.hid ((hB.out.below hq).mono hq.size)
  have hX := Lib.hid ((hX.out.below hq).mono hq.size)
  have hW := Lib.hid ((hW.out.below hq).mono hq.size)
  have ch := Lib.hid (ch.out.trans (hq.mono ch.out.size))
  clear hq
  go_wp2_with fail
  refine (cvalid_at _ HVc.out hC.out).mono ?_
  rintro e w10 ⟨rfl, hq⟩
  have hC := Lib.hid ((hC.out.below hq).mono hq.size)
  have hP := Lib.hid ((hP.out.below hq).mono hq.size)
  have hQ := Lib.hid ((hQ.out.below hq).mono hq.size)
  have hL := Lib.hid ((hL.out.below hq).mono hq.size)
  have hB := Lib.hid ((hB.out.below hq).mono hq.size)
  have hX := Lib.hid ((hX.out.below hq).mono hq.size)
  have hW := Lib.hid ((hW.out.below hq).mono hq.size)
  have ch := Lib.hid (ch.out.trans (hq.mono ch.out.size))
  clear hq
  have m_two := Lib.hid (show allV [p, q] = true → [] = pairL p q from fun e => by simp [allV2, HVp.out] at e)
  go_wp2_with fail
  refine (due_at _ _ [p, q] (pairL p q) [] _ (dueF_pair p q) m_two.out (hL.out.right) (row_nil _ _)).mono ?_
  rintro e w11 ⟨rfl, hq⟩
  have hC := Lib.hid ((hC.out.below hq).mono hq.size)
  have hP := Lib.hid ((hP.out.below hq).mono hq.size)
  have hQ := Lib.hid ((hQ.out.below hq).mono hq.size)
  have hL := Lib.hid ((hL.out.below hq).mono hq.size)
  have hB := Lib.hid ((hB.out.below hq).mono hq.size)
  have hX := Lib.hid ((hX.out.below hq).mono hq.size)
  have hW := Lib.hid ((hW.out.below hq).mono hq.size)
  have ch := Lib.hid (ch.out.trans (hq.mono ch.out.size))
  clear hq
  go_wp2_with fail
  refine (told_at _ _ [p, q] (pairL p q) [] _ m_two.out hB.out (row_nil _ _)).mono ?_
  rintro e w12 ⟨rfl, hq⟩
  have hC := Lib.hid ((hC.out.below hq).mono hq.size)
  have hP := Lib.hid ((hP.out.below hq).mono hq.size)
  have hQ := Lib.hid ((hQ.out.below hq).mono hq.size)
  have hL := Lib.hid ((hL.out.below hq).mono hq.size)
  have hB := Lib.hid ((hB.out.below hq).mono hq.size)
  have hX := Lib.hid ((hX.out.below hq).mono hq.size)
  have hW := Lib.hid ((hW.out.below hq).mono hq.size)
  have ch := Lib.hid (ch.out.trans (hq.mono ch.out.size))
  clear hq
  clear hB m_two
  have m_three := Lib.hid (show allV [c, p, q] = true → [] = ifL c p q from fun e => by simp [allV3, HVp.out, HVc.out] at e)
  go_wp2_with fail
  refine (due_at _ _ [c, p, q] (ifL c p q) [] _ (dueF_if c p q) m_three.out (hL.out) (row_nil _ _)).mono ?_
  rintro e w13 ⟨rfl, hq⟩
  have hC := Lib.hid ((hC.out.below hq).mono hq.size)
  have hP := Lib.hid ((hP.out.below hq).mono hq.size)
  have hQ := Lib.hid ((hQ.out.below hq).mono hq.size)
  have hL := Lib.hid ((hL.out.below hq).mono hq.size)
  have hX := Lib.hid ((hX.out.below hq).mono hq.size)
  have hW := Lib.hid ((hW.out.below hq).mono hq.size)
  have ch := Lib.hid (ch.out.trans (hq.mono ch.out.size))
  clear hq
  go_wp2_with fail
  refine (told_at _ _ [c, p, q] (ifL c p q) [] _ m_three.out hX.out (row_nil _ _)).mono ?_
  rintro e w14 ⟨rfl, hq⟩
  have hC := Lib.hid ((hC.out.below hq).mono hq.size)
  have hP := Lib.hid ((hP.out.below hq).mono hq.size)
  have hQ := Lib.hid ((hQ.out.below hq).mono hq.size)
  have hL := Lib.hid ((hL.out.below hq).mono hq.size)
  have hX := Lib.hid ((hX.out.below hq).mono hq.size)
  have hW := Lib.hid ((hW.out.below hq).mono hq.size)
  have ch := Lib.hid (ch.out.trans (hq.mono ch.out.size))
  clear hq
  clear hX m_three
  have m_loop := Lib.hid (show allV [c, p] = true → [] = whileL c p from fun e => by simp [allV2, HVp.out, HVc.out] at e)
  go_wp2_with fail
  refine (due_at _ _ [c, p] (whileL c p) [] _ (dueF_while c p) m_loop.out (hL.out.left) (row_nil _ _)).mono ?_
  rintro e w15 ⟨rfl, hq⟩
  have hC := Lib.hid ((hC.out.below hq).mono hq.size)
  have hP := Lib.hid ((hP.out.below hq).mono hq.size)
  have hQ := Lib.hid ((hQ.out.below hq).mono hq.size)
  have hL := Lib.hid ((hL.out.below hq).mono hq.size)
  have hW := Lib.hid ((hW.out.below hq).mono hq.size)
  have ch := Lib.hid (ch.out.trans (hq.mono ch.out.size))
  clear hq
  go_wp2_with fail
  refine (told_at _ _ [c, p] (whileL c p) [] _ m_loop.out hW.out (row_nil _ _)).mono ?_
  rintro e w16 ⟨rfl, hq⟩
  have hC := Lib.hid ((hC.out.below hq).mono hq.size)
  have hP := Lib.hid ((hP.out.below hq).mono hq.size)
  have hQ := Lib.hid ((hQ.out.below hq).mono hq.size)
  have hL := Lib.hid ((hL.out.below hq).mono hq.size)
  have hW := Lib.hid ((hW.out.below hq).mono hq.size)
  have ch := Lib.hid (ch.out.trans (hq.mono ch.out.size))
  clear hq
  clear hW m_loop
  go_wp2_with fail
  refine (awake_any _).mono ?_
  rintro e w17 ⟨rfl, hq⟩
  have hC := Lib.hid ((hC.out.below hq).mono hq.size)
  have hP := Lib.hid ((hP.out.below hq).mono hq.size)
  have hQ := Lib.hid ((hQ.out.below hq).mono hq.size)
  have hL := Lib.hid ((hL.out.below hq).mono hq.size)
  have ch := Lib.hid (ch.out.trans (hq.mono ch.out.size))
  clear hq
  go_wp2
  go_ret
  exact ⟨rfl, ch.out⟩

set_option maxHeartbeats 8000000 in
theorem makes_f_ftx {w : World} (d : ByteArray) (hs : d.size ≤ 140737488355328) (ca : Option Addr) (cn cc : Nat) (pa : Option Addr) (pn pc : Nat) (qa : Option Addr) (qn qc : Nat) (c p q : List Ins) (hhC : InsRow w w.heap.size (.slice ca cn cc) c) (hhP : InsRow w w.heap.size (.slice pa pn pc) p) (hhQ : InsRow w w.heap.size (.slice qa qn qc) q) (HD : Hid (isTree d = false)) (HVp : Hid (validB p = false)) (HVc : Hid (validB c = true)) :
    Calls Try.prog 7 #[.string d, .slice ca cn cc, .slice pa pn pc, .slice qa qn qc] w fun e w' => e = .returned (.bool true) ∧ Below w.heap.size w w' := by
  have hC := Lib.hid hhC
  have hP := Lib.hid hhP
  have hQ := Lib.hid hhQ
  clear hhC hhP hhQ
  have kT := fun w => tvalid_at d hs false HD.out w
  have ch := Lib.hid (Below.refl w.heap.size w)
  go_enter Try.func7, Try.ntmps7
  go_wp2_with fail
  have hL0 := ProgsRow.lit (w := w) [.slice ca cn cc, .slice pa pn pc, .slice qa qn qc] [c, p, q] rfl (by simp) (fun j u l hu hl => match j, u, l, hu, hl with | 0, _, _, hu, hl => by cases hu; cases hl; exact hC.out | 1, _, _, hu, hl => by cases hu; cases hl; exact hP.out | 2, _, _, hu, hl => by cases hu; cases hl; exact hQ.out)
  obtain ⟨w1, hW⟩ : ∃ B, w.alloc (.cells #[.slice ca cn cc, .slice pa pn pc, .slice qa qn qc] 25) = B := ⟨_, rfl⟩
  rw [hW]
  have hq : Below w.heap.size w w1 := by rw [← hW]; exact (Below.refl _ _).alloc (Nat.le_refl _) _
  have hL := Lib.hid (show ProgsRow w1 w1.heap.size (.slice (some ⟨w.heap.size, 0, none⟩) 3 3) [c, p, q] by rw [← hW]; exact hL0)
  clear hW hL0
  have hC := Lib.hid ((hC.out.below hq).mono hq.size)
  have hP := Lib.hid ((hP.out.below hq).mono hq.size)
  have hQ := Lib.hid ((hQ.out.below hq).mono hq.size)
  have ch := Lib.hid (ch.out.trans (hq.mono ch.out.size))
  clear hq
  refine (copied_any _ [c, p, q] _ hL.out).mono ?_
  rintro e w2 ⟨vl, rfl, hWas, hq⟩
  have hC := Lib.hid ((hC.out.below hq).mono hq.size)
  have hP := Lib.hid ((hP.out.below hq).mono hq.size)
  have hQ := Lib.hid ((hQ.out.below hq).mono hq.size)
  have hL := Lib.hid ((hL.out.below hq).mono hq.size)
  have ch := Lib.hid (ch.out.trans (hq.mono ch.out.size))
  clear hq
  have hWas := Lib.hid hWas
  go_wp2_with fail
  refine (bConst_bad d hs HD.out _).mono ?_
  rintro e w3 ⟨rfl, hq⟩
  have hC := Lib.hid ((hC.out.below hq).mono hq.size)
  have hP := Lib.hid ((hP.out.below hq).mono hq.size)
  have hQ := Lib.hid ((hQ.out.below hq).mono hq.size)
  have hL := Lib.hid ((hL.out.below hq).mono hq.size)
  have hWas := Lib.hid ((hWas.out.below hq).mono hq.size)
  have ch := Lib.hid (ch.out.trans (hq.mono ch.out.size))
  clear hq
  go_wp2_with fail
  refine (made_tb (bPair_any _ _ _ _ _ _ p q _ hP.out hQ.out)).mono ?_
  rintro e w4 ⟨vb, rfl, hB, hq⟩
  have hC := Lib.hid ((hC.out.below hq).mono hq.size)
  have hP := Lib.hid ((hP.out.below hq).mono hq.size)
  have hQ := Lib.hid ((hQ.out.below hq).mono hq.size)
  have hL := Lib.hid ((hL.out.below hq).mono hq.size)
  have hWas := Lib.hid ((hWas.out.below hq).mono hq.size)
  have ch := Lib.hid (ch.out.trans (hq.mono ch.out.size))
  clear hq
  have hB := Lib.hid hB
  go_wp2_with fail
  refine (made_tb (bIf_any _ _ _ _ _ _ _ _ _ c p q _ hC.out hP.out hQ.out)).mono ?_
  rintro e w5 ⟨vx, rfl, hX, hq⟩
  have hC := Lib.hid ((hC.out.below hq).mono hq.size)
  have hP := Lib.hid ((hP.out.below hq).mono hq.size)
  have hQ := Lib.hid ((hQ.out.below hq).mono hq.size)
  have hL := Lib.hid ((hL.out.below hq).mono hq.size)
  have hWas := Lib.hid ((hWas.out.below hq).mono hq.size)
  have hB := Lib.hid ((hB.out.below hq).mono hq.size)
  have ch := Lib.hid (ch.out.trans (hq.mono ch.out.size))
  clear hq
  have hX := Lib.hid hX
  go_wp2_with fail
  refine (made_tb (bWhile_any _ _ _ _ _ _ c p _ hC.out hP.out)).mono ?_
  rintro e w6 ⟨vy, rfl, hW, hq⟩
  have hC := Lib.hid ((hC.out.below hq).mono hq.size)
  have hP := Lib.hid ((hP.out.below hq).mono hq.size)
  have hQ := Lib.hid ((hQ.out.below hq).mono hq.size)
  have hL := Lib.hid ((hL.out.below hq).mono hq.size)
  have hWas := Lib.hid ((hWas.out.below hq).mono hq.size)
  have hB := Lib.hid ((hB.out.below hq).mono hq.size)
  have hX := Lib.hid ((hX.out.below hq).mono hq.size)
  have ch := Lib.hid (ch.out.trans (hq.mono ch.out.size))
  clear hq
  have hW := Lib.hid hW
  go_wp2_with fail
  refine (alike_self _ _ [c, p, q] _ hL.out hWas.out).mono ?_
  rintro e w7 ⟨rfl, hq⟩
  have hC := Lib.hid ((hC.out.below hq).mono hq.size)
  have hP := Lib.hid ((hP.out.below hq).mono hq.size)
  have hQ := Lib.hid ((hQ.out.below hq).mono hq.size)
  have hL := Lib.hid ((hL.out.below hq).mono hq.size)
  have hWas := Lib.hid ((hWas.out.below hq).mono hq.size)
  have hB := Lib.hid ((hB.out.below hq).mono hq.size)
  have hX := Lib.hid ((hX.out.below hq).mono hq.size)
  have hW := Lib.hid ((hW.out.below hq).mono hq.size)
  have ch := Lib.hid (ch.out.trans (hq.mono ch.out.size))
  clear hq
  clear hWas
  go_wp2_with fail
  refine (kT _).mono ?_
  rintro e w8 ⟨rfl, hq⟩
  have hC := Lib.hid ((hC.out.below hq).mono hq.size)
  have hP := Lib.hid ((hP.out.below hq).mono hq.size)
  have hQ := Lib.hid ((hQ.out.below hq).mono hq.size)
  have hL := Lib.hid ((hL.out.below hq).mono hq.size)
  have hB := Lib.hid ((hB.out.below hq).mono hq.size)
  have hX := Lib.hid ((hX.out.below hq).mono hq.size)
  have hW := Lib.hid ((hW.out.below hq).mono hq.size)
  have ch := Lib.hid (ch.out.trans (hq.mono ch.out.size))
  clear hq
  go_wp2_with fail
  refine (cvalid_at _ HVp.out hP.out).mono ?_
  rintro e w9 ⟨rfl, hq⟩
  have hC := Lib.hid ((hC.out.below hq).mono hq.size)
  have hP := Lib.hid ((hP.out.below hq).mono hq.size)
  have hQ := Lib.hid ((hQ.out.below hq).mono hq.size)
  have hL := Lib.hid ((hL.out.below hq).mono hq.size)
  have hB := Lib.hid ((hB.out.below hq).mono hq.size)
  have hX := Lib.hid ((hX.out.below hq).mono hq.size)
  have hW := Lib.hid ((hW.out.below hq).mono hq.size)
  have ch := Lib.hid (ch.out.trans (hq.mono ch.out.size))
  clear hq
  go_wp2_with fail
  refine (cvalid_at _ HVc.out hC.out).mono ?_
  rintro e w10 ⟨rfl, hq⟩
  have hC := Lib.hid ((hC.out.below hq).mono hq.size)
  have hP := Lib.hid ((hP.out.below hq).mono hq.size)
  have hQ := Lib.hid ((hQ.out.below hq).mono hq.size)
  have hL := Lib.hid ((hL.out.below hq).mono hq.size)
  have hB := Lib.hid ((hB.out.below hq).mono hq.size)
  have hX := Lib.hid ((hX.out.below hq).mono hq.size)
  have hW := Lib.hid ((hW.out.below hq).mono hq.size)
  have ch := Lib.hid (ch.out.trans (hq.mono ch.out.size))
  clear hq
  go_wp2_with fail
  refine (cvalid_at _ HVp.out hP.out).mono ?_
  rintro e w11 ⟨rfl, hq⟩
  have hC := Lib.hid ((hC.out.below hq).mono hq.size)
  have hP := Lib.hid ((hP.out.below hq).mono hq.size)
  have hQ := Lib.hid ((hQ.out.below hq).mono hq.size)
  have hL := Lib.hid ((hL.out.below hq).mono hq.size)
  have hB := Lib.hid ((hB.out.below hq).mono hq.size)
  have hX := Lib.hid ((hX.out.below hq).mono hq.size)
  have hW := Lib.hid ((hW.out.below hq).mono hq.size)
  have ch := Lib.hid (ch.out.trans (hq.mono ch.out.size))
  clear hq
  have m_two := Lib.hid (show allV [p, q] = true → [] = pairL p q from fun e => by simp [allV2, HVp.out] at e)
  go_wp2_with fail
  refine (due_at _ _ [p, q] (pairL p q) [] _ (dueF_pair p q) m_two.out (hL.out.right) (row_nil _ _)).mono ?_
  rintro e w12 ⟨rfl, hq⟩
  have hC := Lib.hid ((hC.out.below hq).mono hq.size)
  have hP := Lib.hid ((hP.out.below hq).mono hq.size)
  have hQ := Lib.hid ((hQ.out.below hq).mono hq.size)
  have hL := Lib.hid ((hL.out.below hq).mono hq.size)
  have hB := Lib.hid ((hB.out.below hq).mono hq.size)
  have hX := Lib.hid ((hX.out.below hq).mono hq.size)
  have hW := Lib.hid ((hW.out.below hq).mono hq.size)
  have ch := Lib.hid (ch.out.trans (hq.mono ch.out.size))
  clear hq
  go_wp2_with fail
  refine (told_at _ _ [p, q] (pairL p q) [] _ m_two.out hB.out (row_nil _ _)).mono ?_
  rintro e w13 ⟨rfl, hq⟩
  have hC := Lib.hid ((hC.out.below hq).mono hq.size)
  have hP := Lib.hid ((hP.out.below hq).mono hq.size)
  have hQ := Lib.hid ((hQ.out.below hq).mono hq.size)
  have hL := Lib.hid ((hL.out.below hq).mono hq.size)
  have hB := Lib.hid ((hB.out.below hq).mono hq.size)
  have hX := Lib.hid ((hX.out.below hq).mono hq.size)
  have hW := Lib.hid ((hW.out.below hq).mono hq.size)
  have ch := Lib.hid (ch.out.trans (hq.mono ch.out.size))
  clear hq
  clear hB m_two
  have m_three := Lib.hid (show allV [c, p, q] = true → [] = ifL c p q from fun e => by simp [allV3, HVp.out, HVc.out] at e)
  go_wp2_with fail
  refine (due_at _ _ [c, p, q] (ifL c p q) [] _ (dueF_if c p q) m_three.out (hL.out) (row_nil _ _)).mono ?_
  rintro e w14 ⟨rfl, hq⟩
  have hC := Lib.hid ((hC.out.below hq).mono hq.size)
  have hP := Lib.hid ((hP.out.below hq).mono hq.size)
  have hQ := Lib.hid ((hQ.out.below hq).mono hq.size)
  have hL := Lib.hid ((hL.out.below hq).mono hq.size)
  have hX := Lib.hid ((hX.out.below hq).mono hq.size)
  have hW := Lib.hid ((hW.out.below hq).mono hq.size)
  have ch := Lib.hid (ch.out.trans (hq.mono ch.out.size))
  clear hq
  go_wp2_with fail
  refine (told_at _ _ [c, p, q] (ifL c p q) [] _ m_three.out hX.out (row_nil _ _)).mono ?_
  rintro e w15 ⟨rfl, hq⟩
  have hC := Lib.hid ((hC.out.below hq).mono hq.size)
  have hP := Lib.hid ((hP.out.below hq).mono hq.size)
  have hQ := Lib.hid ((hQ.out.below hq).mono hq.size)
  have hL := Lib.hid ((hL.out.below hq).mono hq.size)
  have hX := Lib.hid ((hX.out.below hq).mono hq.size)
  have hW := Lib.hid ((hW.out.below hq).mono hq.size)
  have ch := Lib.hid (ch.out.trans (hq.mono ch.out.size))
  clear hq
  clear hX m_three
  have m_loop := Lib.hid (show allV [c, p] = true → [] = whileL c p from fun e => by simp [allV2, HVp.out, HVc.out] at e)
  go_wp2_with fail
  refine (due_at _ _ [c, p] (whileL c p) [] _ (dueF_while c p) m_loop.out (hL.out.left) (row_nil _ _)).mono ?_
  rintro e w16 ⟨rfl, hq⟩
  have hC := Lib.hid ((hC.out.below hq).mono hq.size)
  have hP := Lib.hid ((hP.out.below hq).mono hq.size)
  have hQ := Lib.hid ((hQ.out.below hq).mono hq.size)
  have hL := Lib.hid ((hL.out.below hq).mono hq.size)
  have hW := Lib.hid ((hW.out.below hq).mono hq.size)
  have ch := Lib.hid (ch.out.trans (hq.mono ch.out.size))
  clear hq
  go_wp2_with fail
  refine (told_at _ _ [c, p] (whileL c p) [] _ m_loop.out hW.out (row_nil _ _)).mono ?_
  rintro e w17 ⟨rfl, hq⟩
  have hC := Lib.hid ((hC.out.below hq).mono hq.size)
  have hP := Lib.hid ((hP.out.below hq).mono hq.size)
  have hQ := Lib.hid ((hQ.out.below hq).mono hq.size)
  have hL := Lib.hid ((hL.out.below hq).mono hq.size)
  have hW := Lib.hid ((hW.out.below hq).mono hq.size)
  have ch := Lib.hid (ch.out.trans (hq.mono ch.out.size))
  clear hq
  clear hW m_loop
  go_wp2_with fail
  refine (awake_any _).mono ?_
  rintro e w18 ⟨rfl, hq⟩
  have hC := Lib.hid ((hC.out.below hq).mono hq.size)
  have hP := Lib.hid ((hP.out.below hq).mono hq.size)
  have hQ := Lib.hid ((hQ.out.below hq).mono hq.size)
  have hL := Lib.hid ((hL.out.below hq).mono hq.size)
  have ch := Lib.hid (ch.out.trans (hq.mono ch.out.size))
  clear hq
  go_wp2
  go_ret
  exact ⟨rfl, ch.out⟩

set_option maxHeartbeats 8000000 in
theorem makes_f_tff {w : World} (d : ByteArray) (hs : d.size ≤ 140737488355328) (ca : Option Addr) (cn cc : Nat) (pa : Option Addr) (pn pc : Nat) (qa : Option Addr) (qn qc : Nat) (c p q : List Ins) (hhC : InsRow w w.heap.size (.slice ca cn cc) c) (hhP : InsRow w w.heap.size (.slice pa pn pc) p) (hhQ : InsRow w w.heap.size (.slice qa qn qc) q) (HD : Hid (isTree d = false)) (HVp : Hid (validB p = true)) (HVc : Hid (validB c = false)) (HVq : Hid (validB q = false)) :
    Calls Try.prog 7 #[.string d, .slice ca cn cc, .slice pa pn pc, .slice qa qn qc] w fun e w' => e = .returned (.bool true) ∧ Below w.heap.size w w' := by
  have hC := Lib.hid hhC
  have hP := Lib.hid hhP
  have hQ := Lib.hid hhQ
  clear hhC hhP hhQ
  have kT := fun w => tvalid_at d hs false HD.out w
  have ch := Lib.hid (Below.refl w.heap.size w)
  go_enter Try.func7, Try.ntmps7
  go_wp2_with fail
  have hL0 := ProgsRow.lit (w := w) [.slice ca cn cc, .slice pa pn pc, .slice qa qn qc] [c, p, q] rfl (by simp) (fun j u l hu hl => match j, u, l, hu, hl with | 0, _, _, hu, hl => by cases hu; cases hl; exact hC.out | 1, _, _, hu, hl => by cases hu; cases hl; exact hP.out | 2, _, _, hu, hl => by cases hu; cases hl; exact hQ.out)
  obtain ⟨w1, hW⟩ : ∃ B, w.alloc (.cells #[.slice ca cn cc, .slice pa pn pc, .slice qa qn qc] 25) = B := ⟨_, rfl⟩
  rw [hW]
  have hq : Below w.heap.size w w1 := by rw [← hW]; exact (Below.refl _ _).alloc (Nat.le_refl _) _
  have hL := Lib.hid (show ProgsRow w1 w1.heap.size (.slice (some ⟨w.heap.size, 0, none⟩) 3 3) [c, p, q] by rw [← hW]; exact hL0)
  clear hW hL0
  have hC := Lib.hid ((hC.out.below hq).mono hq.size)
  have hP := Lib.hid ((hP.out.below hq).mono hq.size)
  have hQ := Lib.hid ((hQ.out.below hq).mono hq.size)
  have ch := Lib.hid (ch.out.trans (hq.mono ch.out.size))
  clear hq
  refine (copied_any _ [c, p, q] _ hL.out).mono ?_
  rintro e w2 ⟨vl, rfl, hWas, hq⟩
  have hC := Lib.hid ((hC.out.below hq).mono hq.size)
  have hP := Lib.hid ((hP.out.below hq).mono hq.size)
  have hQ := Lib.hid ((hQ.out.below hq).mono hq.size)
  have hL := Lib.hid ((hL.out.below hq).mono hq.size)
  have ch := Lib.hid (ch.out.trans (hq.mono ch.out.size))
  clear hq
  have hWas := Lib.hid hWas
  go_wp2_with fail
  refine (bConst_bad d hs HD.out _).mono ?_
  rintro e w3 ⟨rfl, hq⟩
  have hC := Lib.hid ((hC.out.below hq).mono hq.size)
  have hP := Lib.hid ((hP.out.below hq).mono hq.size)
  have hQ := Lib.hid ((hQ.out.below hq).mono hq.size)
  have hL := Lib.hid ((hL.out.below hq).mono hq.size)
  have hWas := Lib.hid ((hWas.out.below hq).mono hq.size)
  have ch := Lib.hid (ch.out.trans (hq.mono ch.out.size))
  clear hq
  go_wp2_with fail
  refine (made_tb (bPair_any _ _ _ _ _ _ p q _ hP.out hQ.out)).mono ?_
  rintro e w4 ⟨vb, rfl, hB, hq⟩
  have hC := Lib.hid ((hC.out.below hq).mono hq.size)
  have hP := Lib.hid ((hP.out.below hq).mono hq.size)
  have hQ := Lib.hid ((hQ.out.below hq).mono hq.size)
  have hL := Lib.hid ((hL.out.below hq).mono hq.size)
  have hWas := Lib.hid ((hWas.out.below hq).mono hq.size)
  have ch := Lib.hid (ch.out.trans (hq.mono ch.out.size))
  clear hq
  have hB := Lib.hid hB
  go_wp2_with fail
  refine (made_tb (bIf_any _ _ _ _ _ _ _ _ _ c p q _ hC.out hP.out hQ.out)).mono ?_
  rintro e w5 ⟨vx, rfl, hX, hq⟩
  have hC := Lib.hid ((hC.out.below hq).mono hq.size)
  have hP := Lib.hid ((hP.out.below hq).mono hq.size)
  have hQ := Lib.hid ((hQ.out.below hq).mono hq.size)
  have hL := Lib.hid ((hL.out.below hq).mono hq.size)
  have hWas := Lib.hid ((hWas.out.below hq).mono hq.size)
  have hB := Lib.hid ((hB.out.below hq).mono hq.size)
  have ch := Lib.hid (ch.out.trans (hq.mono ch.out.size))
  clear hq
  have hX := Lib.hid hX
  go_wp2_with fail
  refine (made_tb (bWhile_any _ _ _ _ _ _ c p _ hC.out hP.out)).mono ?_
  rintro e w6 ⟨vy, rfl, hW, hq⟩
  have hC := Lib.hid ((hC.out.below hq).mono hq.size)
  have hP := Lib.hid ((hP.out.below hq).mono hq.size)
  have hQ := Lib.hid ((hQ.out.below hq).mono hq.size)
  have hL := Lib.hid ((hL.out.below hq).mono hq.size)
  have hWas := Lib.hid ((hWas.out.below hq).mono hq.size)
  have hB := Lib.hid ((hB.out.below hq).mono hq.size)
  have hX := Lib.hid ((hX.out.below hq).mono hq.size)
  have ch := Lib.hid (ch.out.trans (hq.mono ch.out.size))
  clear hq
  have hW := Lib.hid hW
  go_wp2_with fail
  refine (alike_self _ _ [c, p, q] _ hL.out hWas.out).mono ?_
  rintro e w7 ⟨rfl, hq⟩
  have hC := Lib.hid ((hC.out.below hq).mono hq.size)
  have hP := Lib.hid ((hP.out.below hq).mono hq.size)
  have hQ := Lib.hid ((hQ.out.below hq).mono hq.size)
  have hL := Lib.hid ((hL.out.below hq).mono hq.size)
  have hWas := Lib.hid ((hWas.out.below hq).mono hq.size)
  have hB := Lib.hid ((hB.out.below hq).mono hq.size)
  have hX := Lib.hid ((hX.out.below hq).mono hq.size)
  have hW := Lib.hid ((hW.out.below hq).mono hq.size)
  have ch := Lib.hid (ch.out.trans (hq.mono ch.out.size))
  clear hq
  clear hWas
  go_wp2_with fail
  refine (kT _).mono ?_
  rintro e w8 ⟨rfl, hq⟩
  have hC := Lib.hid ((hC.out.below hq).mono hq.size)
  have hP := Lib.hid ((hP.out.below hq).mono hq.size)
  have hQ := Lib.hid ((hQ.out.below hq).mono hq.size)
  have hL := Lib.hid ((hL.out.below hq).mono hq.size)
  have hB := Lib.hid ((hB.out.below hq).mono hq.size)
  have hX := Lib.hid ((hX.out.below hq).mono hq.size)
  have hW := Lib.hid ((hW.out.below hq).mono hq.size)
  have ch := Lib.hid (ch.out.trans (hq.mono ch.out.size))
  clear hq
  go_wp2_with fail
  refine (cvalid_at _ HVp.out hP.out).mono ?_
  rintro e w9 ⟨rfl, hq⟩
  have hC := Lib.hid ((hC.out.below hq).mono hq.size)
  have hP := Lib.hid ((hP.out.below hq).mono hq.size)
  have hQ := Lib.hid ((hQ.out.below hq).mono hq.size)
  have hL := Lib.hid ((hL.out.below hq).mono hq.size)
  have hB := Lib.hid ((hB.out.below hq).mono hq.size)
  have hX := Lib.hid ((hX.out.below hq).mono hq.size)
  have hW := Lib.hid ((hW.out.below hq).mono hq.size)
  have ch := Lib.hid (ch.out.trans (hq.mono ch.out.size))
  clear hq
  go_wp2_with fail
  refine (cvalid_at _ HVq.out hQ.out).mono ?_
  rintro e w10 ⟨rfl, hq⟩
  have hC := Lib.hid ((hC.out.below hq).mono hq.size)
  have hP := Lib.hid ((hP.out.below hq).mono hq.size)
  have hQ := Lib.hid ((hQ.out.below hq).mono hq.size)
  have hL := Lib.hid ((hL.out.below hq).mono hq.size)
  have hB := Lib.hid ((hB.out.below hq).mono hq.size)
  have hX := Lib.hid ((hX.out.below hq).mono hq.size)
  have hW := Lib.hid ((hW.out.below hq).mono hq.size)
  have ch := Lib.hid (ch.out.trans (hq.mono ch.out.size))
  clear hq
  go_wp2_with fail
  refine (cvalid_at _ HVc.out hC.out).mono ?_
  rintro e w11 ⟨rfl, hq⟩
  have hC := Lib.hid ((hC.out.below hq).mono hq.size)
  have hP := Lib.hid ((hP.out.below hq).mono hq.size)
  have hQ := Lib.hid ((hQ.out.below hq).mono hq.size)
  have hL := Lib.hid ((hL.out.below hq).mono hq.size)
  have hB := Lib.hid ((hB.out.below hq).mono hq.size)
  have hX := Lib.hid ((hX.out.below hq).mono hq.size)
  have hW := Lib.hid ((hW.out.below hq).mono hq.size)
  have ch := Lib.hid (ch.out.trans (hq.mono ch.out.size))
  clear hq
  have m_two := Lib.hid (show allV [p, q] = true → [] = pairL p q from fun e => by simp [allV2, HVp.out, HVq.out] at e)
  go_wp2_with fail
  refine (due_at _ _ [p, q] (pairL p q) [] _ (dueF_pair p q) m_two.out (hL.out.right) (row_nil _ _)).mono ?_
  rintro e w12 ⟨rfl, hq⟩
  have hC := Lib.hid ((hC.out.below hq).mono hq.size)
  have hP := Lib.hid ((hP.out.below hq).mono hq.size)
  have hQ := Lib.hid ((hQ.out.below hq).mono hq.size)
  have hL := Lib.hid ((hL.out.below hq).mono hq.size)
  have hB := Lib.hid ((hB.out.below hq).mono hq.size)
  have hX := Lib.hid ((hX.out.below hq).mono hq.size)
  have hW := Lib.hid ((hW.out.below hq).mono hq.size)
  have ch := Lib.hid (ch.out.trans (hq.mono ch.out.size))
  clear hq
  go_wp2_with fail
  refine (told_at _ _ [p, q] (pairL p q) [] _ m_two.out hB.out (row_nil _ _)).mono ?_
  rintro e w13 ⟨rfl, hq⟩
  have hC := Lib.hid ((hC.out.below hq).mono hq.size)
  have hP := Lib.hid ((hP.out.below hq).mono hq.size)
  have hQ := Lib.hid ((hQ.out.below hq).mono hq.size)
  have hL := Lib.hid ((hL.out.below hq).mono hq.size)
  have hB := Lib.hid ((hB.out.below hq).mono hq.size)
  have hX := Lib.hid ((hX.out.below hq).mono hq.size)
  have hW := Lib.hid ((hW.out.below hq).mono hq.size)
  have ch := Lib.hid (ch.out.trans (hq.mono ch.out.size))
  clear hq
  clear hB m_two
  have m_three := Lib.hid (show allV [c, p, q] = true → [] = ifL c p q from fun e => by simp [allV3, HVp.out, HVc.out, HVq.out] at e)
  go_wp2_with fail
  refine (due_at _ _ [c, p, q] (ifL c p q) [] _ (dueF_if c p q) m_three.out (hL.out) (row_nil _ _)).mono ?_
  rintro e w14 ⟨rfl, hq⟩
  have hC := Lib.hid ((hC.out.below hq).mono hq.size)
  have hP := Lib.hid ((hP.out.below hq).mono hq.size)
  have hQ := Lib.hid ((hQ.out.below hq).mono hq.size)
  have hL := Lib.hid ((hL.out.below hq).mono hq.size)
  have hX := Lib.hid ((hX.out.below hq).mono hq.size)
  have hW := Lib.hid ((hW.out.below hq).mono hq.size)
  have ch := Lib.hid (ch.out.trans (hq.mono ch.out.size))
  clear hq
  go_wp2_with fail
  refine (told_at _ _ [c, p, q] (ifL c p q) [] _ m_three.out hX.out (row_nil _ _)).mono ?_
  rintro e w15 ⟨rfl, hq⟩
  have hC := Lib.hid ((hC.out.below hq).mono hq.size)
  have hP := Lib.hid ((hP.out.below hq).mono hq.size)
  have hQ := Lib.hid ((hQ.out.below hq).mono hq.size)
  have hL := Lib.hid ((hL.out.below hq).mono hq.size)
  have hX := Lib.hid ((hX.out.below hq).mono hq.size)
  have hW := Lib.hid ((hW.out.below hq).mono hq.size)
  have ch := Lib.hid (ch.out.trans (hq.mono ch.out.size))
  clear hq
  clear hX m_three
  have m_loop := Lib.hid (show allV [c, p] = true → [] = whileL c p from fun e => by simp [allV2, HVp.out, HVc.out] at e)
  go_wp2_with fail
  refine (due_at _ _ [c, p] (whileL c p) [] _ (dueF_while c p) m_loop.out (hL.out.left) (row_nil _ _)).mono ?_
  rintro e w16 ⟨rfl, hq⟩
  have hC := Lib.hid ((hC.out.below hq).mono hq.size)
  have hP := Lib.hid ((hP.out.below hq).mono hq.size)
  have hQ := Lib.hid ((hQ.out.below hq).mono hq.size)
  have hL := Lib.hid ((hL.out.below hq).mono hq.size)
  have hW := Lib.hid ((hW.out.below hq).mono hq.size)
  have ch := Lib.hid (ch.out.trans (hq.mono ch.out.size))
  clear hq
  go_wp2_with fail
  refine (told_at _ _ [c, p] (whileL c p) [] _ m_loop.out hW.out (row_nil _ _)).mono ?_
  rintro e w17 ⟨rfl, hq⟩
  have hC := Lib.hid ((hC.out.below hq).mono hq.size)
  have hP := Lib.hid ((hP.out.below hq).mono hq.size)
  have hQ := Lib.hid ((hQ.out.below hq).mono hq.size)
  have hL := Lib.hid ((hL.out.below hq).mono hq.size)
  have hW := Lib.hid ((hW.out.below hq).mono hq.size)
  have ch := Lib.hid (ch.out.trans (hq.mono ch.out.size))
  clear hq
  clear hW m_loop
  go_wp2_with fail
  refine (awake_any _).mono ?_
  rintro e w18 ⟨rfl, hq⟩
  have hC := Lib.hid ((hC.out.below hq).mono hq.size)
  have hP := Lib.hid ((hP.out.below hq).mono hq.size)
  have hQ := Lib.hid ((hQ.out.below hq).mono hq.size)
  have hL := Lib.hid ((hL.out.below hq).mono hq.size)
  have ch := Lib.hid (ch.out.trans (hq.mono ch.out.size))
  clear hq
  go_wp2
  go_ret
  exact ⟨rfl, ch.out⟩

set_option maxHeartbeats 8000000 in
theorem makes_f_tft {w : World} (d : ByteArray) (hs : d.size ≤ 140737488355328) (ca : Option Addr) (cn cc : Nat) (pa : Option Addr) (pn pc : Nat) (qa : Option Addr) (qn qc : Nat) (c p q : List Ins) (hhC : InsRow w w.heap.size (.slice ca cn cc) c) (hhP : InsRow w w.heap.size (.slice pa pn pc) p) (hhQ : InsRow w w.heap.size (.slice qa qn qc) q) (HD : Hid (isTree d = false)) (HVp : Hid (validB p = true)) (HVc : Hid (validB c = false)) (HVq : Hid (validB q = true)) :
    Calls Try.prog 7 #[.string d, .slice ca cn cc, .slice pa pn pc, .slice qa qn qc] w fun e w' => e = .returned (.bool true) ∧ Below w.heap.size w w' := by
  have hC := Lib.hid hhC
  have hP := Lib.hid hhP
  have hQ := Lib.hid hhQ
  clear hhC hhP hhQ
  have kT := fun w => tvalid_at d hs false HD.out w
  have ch := Lib.hid (Below.refl w.heap.size w)
  go_enter Try.func7, Try.ntmps7
  go_wp2_with fail
  have hL0 := ProgsRow.lit (w := w) [.slice ca cn cc, .slice pa pn pc, .slice qa qn qc] [c, p, q] rfl (by simp) (fun j u l hu hl => match j, u, l, hu, hl with | 0, _, _, hu, hl => by cases hu; cases hl; exact hC.out | 1, _, _, hu, hl => by cases hu; cases hl; exact hP.out | 2, _, _, hu, hl => by cases hu; cases hl; exact hQ.out)
  obtain ⟨w1, hW⟩ : ∃ B, w.alloc (.cells #[.slice ca cn cc, .slice pa pn pc, .slice qa qn qc] 25) = B := ⟨_, rfl⟩
  rw [hW]
  have hq : Below w.heap.size w w1 := by rw [← hW]; exact (Below.refl _ _).alloc (Nat.le_refl _) _
  have hL := Lib.hid (show ProgsRow w1 w1.heap.size (.slice (some ⟨w.heap.size, 0, none⟩) 3 3) [c, p, q] by rw [← hW]; exact hL0)
  clear hW hL0
  have hC := Lib.hid ((hC.out.below hq).mono hq.size)
  have hP := Lib.hid ((hP.out.below hq).mono hq.size)
  have hQ := Lib.hid ((hQ.out.below hq).mono hq.size)
  have ch := Lib.hid (ch.out.trans (hq.mono ch.out.size))
  clear hq
  refine (copied_any _ [c, p, q] _ hL.out).mono ?_
  rintro e w2 ⟨vl, rfl, hWas, hq⟩
  have hC := Lib.hid ((hC.out.below hq).mono hq.size)
  have hP := Lib.hid ((hP.out.below hq).mono hq.size)
  have hQ := Lib.hid ((hQ.out.below hq).mono hq.size)
  have hL := Lib.hid ((hL.out.below hq).mono hq.size)
  have ch := Lib.hid (ch.out.trans (hq.mono ch.out.size))
  clear hq
  have hWas := Lib.hid hWas
  go_wp2_with fail
  refine (bConst_bad d hs HD.out _).mono ?_
  rintro e w3 ⟨rfl, hq⟩
  have hC := Lib.hid ((hC.out.below hq).mono hq.size)
  have hP := Lib.hid ((hP.out.below hq).mono hq.size)
  have hQ := Lib.hid ((hQ.out.below hq).mono hq.size)
  have hL := Lib.hid ((hL.out.below hq).mono hq.size)
  have hWas := Lib.hid ((hWas.out.below hq).mono hq.size)
  have ch := Lib.hid (ch.out.trans (hq.mono ch.out.size))
  clear hq
  go_wp2_with fail
  refine (made_tb (bPair_any _ _ _ _ _ _ p q _ hP.out hQ.out)).mono ?_
  rintro e w4 ⟨vb, rfl, hB, hq⟩
  have hC := Lib.hid ((hC.out.below hq).mono hq.size)
  have hP := Lib.hid ((hP.out.below hq).mono hq.size)
  have hQ := Lib.hid ((hQ.out.below hq).mono hq.size)
  have hL := Lib.hid ((hL.out.below hq).mono hq.size)
  have hWas := Lib.hid ((hWas.out.below hq).mono hq.size)
  have ch := Lib.hid (ch.out.trans (hq.mono ch.out.size))
  clear hq
  have hB := Lib.hid hB
  go_wp2_with fail
  refine (made_tb (bIf_any _ _ _ _ _ _ _ _ _ c p q _ hC.out hP.out hQ.out)).mono ?_
  rintro e w5 ⟨vx, rfl, hX, hq⟩
  have hC := Lib.hid ((hC.out.below hq).mono hq.size)
  have hP := Lib.hid ((hP.out.below hq).mono hq.size)
  have hQ := Lib.hid ((hQ.out.below hq).mono hq.size)
  have hL := Lib.hid ((hL.out.below hq).mono hq.size)
  have hWas := Lib.hid ((hWas.out.below hq).mono hq.size)
  have hB := Lib.hid ((hB.out.below hq).mono hq.size)
  have ch := Lib.hid (ch.out.trans (hq.mono ch.out.size))
  clear hq
  have hX := Lib.hid hX
  go_wp2_with fail
  refine (made_tb (bWhile_any _ _ _ _ _ _ c p _ hC.out hP.out)).mono ?_
  rintro e w6 ⟨vy, rfl, hW, hq⟩
  have hC := Lib.hid ((hC.out.below hq).mono hq.size)
  have hP := Lib.hid ((hP.out.below hq).mono hq.size)
  have hQ := Lib.hid ((hQ.out.below hq).mono hq.size)
  have hL := Lib.hid ((hL.out.below hq).mono hq.size)
  have hWas := Lib.hid ((hWas.out.below hq).mono hq.size)
  have hB := Lib.hid ((hB.out.below hq).mono hq.size)
  have hX := Lib.hid ((hX.out.below hq).mono hq.size)
  have ch := Lib.hid (ch.out.trans (hq.mono ch.out.size))
  clear hq
  have hW := Lib.hid hW
  go_wp2_with fail
  refine (alike_self _ _ [c, p, q] _ hL.out hWas.out).mono ?_
  rintro e w7 ⟨rfl, hq⟩
  have hC := Lib.hid ((hC.out.below hq).mono hq.size)
  have hP := Lib.hid ((hP.out.below hq).mono hq.size)
  have hQ := Lib.hid ((hQ.out.below hq).mono hq.size)
  have hL := Lib.hid ((hL.out.below hq).mono hq.size)
  have hWas := Lib.hid ((hWas.out.below hq).mono hq.size)
  have hB := Lib.hid ((hB.out.below hq).mono hq.size)
  have hX := Lib.hid ((hX.out.below hq).mono hq.size)
  have hW := Lib.hid ((hW.out.below hq).mono hq.size)
  have ch := Lib.hid (ch.out.trans (hq.mono ch.out.size))
  clear hq
  clear hWas
  go_wp2_with fail
  refine (kT _).mono ?_
  rintro e w8 ⟨rfl, hq⟩
  have hC := Lib.hid ((hC.out.below hq).mono hq.size)
  have hP := Lib.hid ((hP.out.below hq).mono hq.size)
  have hQ := Lib.hid ((hQ.out.below hq).mono hq.size)
  have hL := Lib.hid ((hL.out.below hq).mono hq.size)
  have hB := Lib.hid ((hB.out.below hq).mono hq.size)
  have hX := Lib.hid ((hX.out.below hq).mono hq.size)
  have hW := Lib.hid ((hW.out.below hq).mono hq.size)
  have ch := Lib.hid (ch.out.trans (hq.mono ch.out.size))
  clear hq
  go_wp2_with fail
  refine (cvalid_at _ HVp.out hP.out).mono ?_
  rintro e w9 ⟨rfl, hq⟩
  have hC := Lib.hid ((hC.out.below hq).mono hq.size)
  have hP := Lib.hid ((hP.out.below hq).mono hq.size)
  have hQ := Lib.hid ((hQ.out.below hq).mono hq.size)
  have hL := Lib.hid ((hL.out.below hq).mono hq.size)
  have hB := Lib.hid ((hB.out.below hq).mono hq.size)
  have hX := Lib.hid ((hX.out.below hq).mono hq.size)
  have hW := Lib.hid ((hW.out.below hq).mono hq.size)
  have ch := Lib.hid (ch.out.trans (hq.mono ch.out.size))
  clear hq
  go_wp2_with fail
  refine (cvalid_at _ HVq.out hQ.out).mono ?_
  rintro e w10 ⟨rfl, hq⟩
  have hC := Lib.hid ((hC.out.below hq).mono hq.size)
  have hP := Lib.hid ((hP.out.below hq).mono hq.size)
  have hQ := Lib.hid ((hQ.out.below hq).mono hq.size)
  have hL := Lib.hid ((hL.out.below hq).mono hq.size)
  have hB := Lib.hid ((hB.out.below hq).mono hq.size)
  have hX := Lib.hid ((hX.out.below hq).mono hq.size)
  have hW := Lib.hid ((hW.out.below hq).mono hq.size)
  have ch := Lib.hid (ch.out.trans (hq.mono ch.out.size))
  clear hq
  go_wp2_with fail
  refine (refPair_row _ _ p q _ hP.out hQ.out HVp.out HVq.out).mono ?_
  rintro e w11 ⟨v2, rfl, h2, hq⟩
  have hC := Lib.hid ((hC.out.below hq).mono hq.size)
  have hP := Lib.hid ((hP.out.below hq).mono hq.size)
  have hQ := Lib.hid ((hQ.out.below hq).mono hq.size)
  have hL := Lib.hid ((hL.out.below hq).mono hq.size)
  have hB := Lib.hid ((hB.out.below hq).mono hq.size)
  have hX := Lib.hid ((hX.out.below hq).mono hq.size)
  have hW := Lib.hid ((hW.out.below hq).mono hq.size)
  have ch := Lib.hid (ch.out.trans (hq.mono ch.out.size))
  clear hq
  have h2 := Lib.hid h2
  go_wp2_with fail
  refine (cvalid_at _ HVc.out hC.out).mono ?_
  rintro e w12 ⟨rfl, hq⟩
  have hC := Lib.hid ((hC.out.below hq).mono hq.size)
  have hP := Lib.hid ((hP.out.below hq).mono hq.size)
  have hQ := Lib.hid ((hQ.out.below hq).mono hq.size)
  have hL := Lib.hid ((hL.out.below hq).mono hq.size)
  have hB := Lib.hid ((hB.out.below hq).mono hq.size)
  have hX := Lib.hid ((hX.out.below hq).mono hq.size)
  have hW := Lib.hid ((hW.out.below hq).mono hq.size)
  have h2 := Lib.hid ((h2.out.below hq).mono hq.size)
  have ch := Lib.hid (ch.out.trans (hq.mono ch.out.size))
  clear hq
  go_wp2_with fail
  refine (due_at _ _ [p, q] (pairL p q) (pairL p q) _ (dueF_pair p q) (fun _ => rfl) (hL.out.right) h2.out).mono ?_
  rintro e w13 ⟨rfl, hq⟩
  have hC := Lib.hid ((hC.out.below hq).mono hq.size)
  have hP := Lib.hid ((hP.out.below hq).mono hq.size)
  have hQ := Lib.hid ((hQ.out.below hq).mono hq.size)
  have hL := Lib.hid ((hL.out.below hq).mono hq.size)
  have hB := Lib.hid ((hB.out.below hq).mono hq.size)
  have hX := Lib.hid ((hX.out.below hq).mono hq.size)
  have hW := Lib.hid ((hW.out.below hq).mono hq.size)
  have h2 := Lib.hid ((h2.out.below hq).mono hq.size)
  have ch := Lib.hid (ch.out.trans (hq.mono ch.out.size))
  clear hq
  go_wp2_with fail
  refine (told_at _ _ [p, q] (pairL p q) (pairL p q) _ (fun _ => rfl) hB.out h2.out).mono ?_
  rintro e w14 ⟨rfl, hq⟩
  have hC := Lib.hid ((hC.out.below hq).mono hq.size)
  have hP := Lib.hid ((hP.out.below hq).mono hq.size)
  have hQ := Lib.hid ((hQ.out.below hq).mono hq.size)
  have hL := Lib.hid ((hL.out.below hq).mono hq.size)
  have hB := Lib.hid ((hB.out.below hq).mono hq.size)
  have hX := Lib.hid ((hX.out.below hq).mono hq.size)
  have hW := Lib.hid ((hW.out.below hq).mono hq.size)
  have h2 := Lib.hid ((h2.out.below hq).mono hq.size)
  have ch := Lib.hid (ch.out.trans (hq.mono ch.out.size))
  clear hq
  clear hB
  have m_three := Lib.hid (show allV [c, p, q] = true → [] = ifL c p q from fun e => by simp [allV3, HVp.out, HVc.out, HVq.out] at e)
  go_wp2_with fail
  refine (due_at _ _ [c, p, q] (ifL c p q) [] _ (dueF_if c p q) m_three.out (hL.out) (row_nil _ _)).mono ?_
  rintro e w15 ⟨rfl, hq⟩
  have hC := Lib.hid ((hC.out.below hq).mono hq.size)
  have hP := Lib.hid ((hP.out.below hq).mono hq.size)
  have hQ := Lib.hid ((hQ.out.below hq).mono hq.size)
  have hL := Lib.hid ((hL.out.below hq).mono hq.size)
  have hX := Lib.hid ((hX.out.below hq).mono hq.size)
  have hW := Lib.hid ((hW.out.below hq).mono hq.size)
  have h2 := Lib.hid ((h2.out.below hq).mono hq.size)
  have ch := Lib.hid (ch.out.trans (hq.mono ch.out.size))
  clear hq
  go_wp2_with fail
  refine (told_at _ _ [c, p, q] (ifL c p q) [] _ m_three.out hX.out (row_nil _ _)).mono ?_
  rintro e w16 ⟨rfl, hq⟩
  have hC := Lib.hid ((hC.out.below hq).mono hq.size)
  have hP := Lib.hid ((hP.out.below hq).mono hq.size)
  have hQ := Lib.hid ((hQ.out.below hq).mono hq.size)
  have hL := Lib.hid ((hL.out.below hq).mono hq.size)
  have hX := Lib.hid ((hX.out.below hq).mono hq.size)
  have hW := Lib.hid ((hW.out.below hq).mono hq.size)
  have h2 := Lib.hid ((h2.out.below hq).mono hq.size)
  have ch := Lib.hid (ch.out.trans (hq.mono ch.out.size))
  clear hq
  clear hX m_three
  have m_loop := Lib.hid (show allV [c, p] = true → [] = whileL c p from fun e => by simp [allV2, HVp.out, HVc.out] at e)
  go_wp2_with fail
  refine (due_at _ _ [c, p] (whileL c p) [] _ (dueF_while c p) m_loop.out (hL.out.left) (row_nil _ _)).mono ?_
  rintro e w17 ⟨rfl, hq⟩
  have hC := Lib.hid ((hC.out.below hq).mono hq.size)
  have hP := Lib.hid ((hP.out.below hq).mono hq.size)
  have hQ := Lib.hid ((hQ.out.below hq).mono hq.size)
  have hL := Lib.hid ((hL.out.below hq).mono hq.size)
  have hW := Lib.hid ((hW.out.below hq).mono hq.size)
  have h2 := Lib.hid ((h2.out.below hq).mono hq.size)
  have ch := Lib.hid (ch.out.trans (hq.mono ch.out.size))
  clear hq
  go_wp2_with fail
  refine (told_at _ _ [c, p] (whileL c p) [] _ m_loop.out hW.out (row_nil _ _)).mono ?_
  rintro e w18 ⟨rfl, hq⟩
  have hC := Lib.hid ((hC.out.below hq).mono hq.size)
  have hP := Lib.hid ((hP.out.below hq).mono hq.size)
  have hQ := Lib.hid ((hQ.out.below hq).mono hq.size)
  have hL := Lib.hid ((hL.out.below hq).mono hq.size)
  have hW := Lib.hid ((hW.out.below hq).mono hq.size)
  have h2 := Lib.hid ((h2.out.below hq).mono hq.size)
  have ch := Lib.hid (ch.out.trans (hq.mono ch.out.size))
  clear hq
  clear hW m_loop
  go_wp2_with fail
  refine (awake_any _).mono ?_
  rintro e w19 ⟨rfl, hq⟩
  have hC := Lib.hid ((hC.out.below hq).mono hq.size)
  have hP := Lib.hid ((hP.out.below hq).mono hq.size)
  have hQ := Lib.hid ((hQ.out.below hq).mono hq.size)
  have hL := Lib.hid ((hL.out.below hq).mono hq.size)
  have h2 := Lib.hid ((h2.out.below hq).mono hq.size)
  have ch := Lib.hid (ch.out.trans (hq.mono ch.out.size))
  clear hq
  go_wp2
  go_ret
  exact ⟨rfl, ch.out⟩

set_option maxHeartbeats 8000000 in
theorem makes_f_ttf {w : World} (d : ByteArray) (hs : d.size ≤ 140737488355328) (ca : Option Addr) (cn cc : Nat) (pa : Option Addr) (pn pc : Nat) (qa : Option Addr) (qn qc : Nat) (c p q : List Ins) (hhC : InsRow w w.heap.size (.slice ca cn cc) c) (hhP : InsRow w w.heap.size (.slice pa pn pc) p) (hhQ : InsRow w w.heap.size (.slice qa qn qc) q) (HD : Hid (isTree d = false)) (HVp : Hid (validB p = true)) (HVc : Hid (validB c = true)) (HVq : Hid (validB q = false)) :
    Calls Try.prog 7 #[.string d, .slice ca cn cc, .slice pa pn pc, .slice qa qn qc] w fun e w' => e = .returned (.bool true) ∧ Below w.heap.size w w' := by
  have hC := Lib.hid hhC
  have hP := Lib.hid hhP
  have hQ := Lib.hid hhQ
  clear hhC hhP hhQ
  have kT := fun w => tvalid_at d hs false HD.out w
  have ch := Lib.hid (Below.refl w.heap.size w)
  go_enter Try.func7, Try.ntmps7
  go_wp2_with fail
  have hL0 := ProgsRow.lit (w := w) [.slice ca cn cc, .slice pa pn pc, .slice qa qn qc] [c, p, q] rfl (by simp) (fun j u l hu hl => match j, u, l, hu, hl with | 0, _, _, hu, hl => by cases hu; cases hl; exact hC.out | 1, _, _, hu, hl => by cases hu; cases hl; exact hP.out | 2, _, _, hu, hl => by cases hu; cases hl; exact hQ.out)
  obtain ⟨w1, hW⟩ : ∃ B, w.alloc (.cells #[.slice ca cn cc, .slice pa pn pc, .slice qa qn qc] 25) = B := ⟨_, rfl⟩
  rw [hW]
  have hq : Below w.heap.size w w1 := by rw [← hW]; exact (Below.refl _ _).alloc (Nat.le_refl _) _
  have hL := Lib.hid (show ProgsRow w1 w1.heap.size (.slice (some ⟨w.heap.size, 0, none⟩) 3 3) [c, p, q] by rw [← hW]; exact hL0)
  clear hW hL0
  have hC := Lib.hid ((hC.out.below hq).mono hq.size)
  have hP := Lib.hid ((hP.out.below hq).mono hq.size)
  have hQ := Lib.hid ((hQ.out.below hq).mono hq.size)
  have ch := Lib.hid (ch.out.trans (hq.mono ch.out.size))
  clear hq
  refine (copied_any _ [c, p, q] _ hL.out).mono ?_
  rintro e w2 ⟨vl, rfl, hWas, hq⟩
  have hC := Lib.hid ((hC.out.below hq).mono hq.size)
  have hP := Lib.hid ((hP.out.below hq).mono hq.size)
  have hQ := Lib.hid ((hQ.out.below hq).mono hq.size)
  have hL := Lib.hid ((hL.out.below hq).mono hq.size)
  have ch := Lib.hid (ch.out.trans (hq.mono ch.out.size))
  clear hq
  have hWas := Lib.hid hWas
  go_wp2_with fail
  refine (bConst_bad d hs HD.out _).mono ?_
  rintro e w3 ⟨rfl, hq⟩
  have hC := Lib.hid ((hC.out.below hq).mono hq.size)
  have hP := Lib.hid ((hP.out.below hq).mono hq.size)
  have hQ := Lib.hid ((hQ.out.below hq).mono hq.size)
  have hL := Lib.hid ((hL.out.below hq).mono hq.size)
  have hWas := Lib.hid ((hWas.out.below hq).mono hq.size)
  have ch := Lib.hid (ch.out.trans (hq.mono ch.out.size))
  clear hq
  go_wp2_with fail
  refine (made_tb (bPair_any _ _ _ _ _ _ p q _ hP.out hQ.out)).mono ?_
  rintro e w4 ⟨vb, rfl, hB, hq⟩
  have hC := Lib.hid ((hC.out.below hq).mono hq.size)
  have hP := Lib.hid ((hP.out.below hq).mono hq.size)
  have hQ := Lib.hid ((hQ.out.below hq).mono hq.size)
  have hL := Lib.hid ((hL.out.below hq).mono hq.size)
  have hWas := Lib.hid ((hWas.out.below hq).mono hq.size)
  have ch := Lib.hid (ch.out.trans (hq.mono ch.out.size))
  clear hq
  have hB := Lib.hid hB
  go_wp2_with fail
  refine (made_tb (bIf_any _ _ _ _ _ _ _ _ _ c p q _ hC.out hP.out hQ.out)).mono ?_
  rintro e w5 ⟨vx, rfl, hX, hq⟩
  have hC := Lib.hid ((hC.out.below hq).mono hq.size)
  have hP := Lib.hid ((hP.out.below hq).mono hq.size)
  have hQ := Lib.hid ((hQ.out.below hq).mono hq.size)
  have hL := Lib.hid ((hL.out.below hq).mono hq.size)
  have hWas := Lib.hid ((hWas.out.below hq).mono hq.size)
  have hB := Lib.hid ((hB.out.below hq).mono hq.size)
  have ch := Lib.hid (ch.out.trans (hq.mono ch.out.size))
  clear hq
  have hX := Lib.hid hX
  go_wp2_with fail
  refine (made_tb (bWhile_any _ _ _ _ _ _ c p _ hC.out hP.out)).mono ?_
  rintro e w6 ⟨vy, rfl, hW, hq⟩
  have hC := Lib.hid ((hC.out.below hq).mono hq.size)
  have hP := Lib.hid ((hP.out.below hq).mono hq.size)
  have hQ := Lib.hid ((hQ.out.below hq).mono hq.size)
  have hL := Lib.hid ((hL.out.below hq).mono hq.size)
  have hWas := Lib.hid ((hWas.out.below hq).mono hq.size)
  have hB := Lib.hid ((hB.out.below hq).mono hq.size)
  have hX := Lib.hid ((hX.out.below hq).mono hq.size)
  have ch := Lib.hid (ch.out.trans (hq.mono ch.out.size))
  clear hq
  have hW := Lib.hid hW
  go_wp2_with fail
  refine (alike_self _ _ [c, p, q] _ hL.out hWas.out).mono ?_
  rintro e w7 ⟨rfl, hq⟩
  have hC := Lib.hid ((hC.out.below hq).mono hq.size)
  have hP := Lib.hid ((hP.out.below hq).mono hq.size)
  have hQ := Lib.hid ((hQ.out.below hq).mono hq.size)
  have hL := Lib.hid ((hL.out.below hq).mono hq.size)
  have hWas := Lib.hid ((hWas.out.below hq).mono hq.size)
  have hB := Lib.hid ((hB.out.below hq).mono hq.size)
  have hX := Lib.hid ((hX.out.below hq).mono hq.size)
  have hW := Lib.hid ((hW.out.below hq).mono hq.size)
  have ch := Lib.hid (ch.out.trans (hq.mono ch.out.size))
  clear hq
  clear hWas
  go_wp2_with fail
  refine (kT _).mono ?_
  rintro e w8 ⟨rfl, hq⟩
  have hC := Lib.hid ((hC.out.below hq).mono hq.size)
  have hP := Lib.hid ((hP.out.below hq).mono hq.size)
  have hQ := Lib.hid ((hQ.out.below hq).mono hq.size)
  have hL := Lib.hid ((hL.out.below hq).mono hq.size)
  have hB := Lib.hid ((hB.out.below hq).mono hq.size)
  have hX := Lib.hid ((hX.out.below hq).mono hq.size)
  have hW := Lib.hid ((hW.out.below hq).mono hq.size)
  have ch := Lib.hid (ch.out.trans (hq.mono ch.out.size))
  clear hq
  go_wp2_with fail
  refine (cvalid_at _ HVp.out hP.out).mono ?_
  rintro e w9 ⟨rfl, hq⟩
  have hC := Lib.hid ((hC.out.below hq).mono hq.size)
  have hP := Lib.hid ((hP.out.below hq).mono hq.size)
  have hQ := Lib.hid ((hQ.out.below hq).mono hq.size)
  have hL := Lib.hid ((hL.out.below hq).mono hq.size)
  have hB := Lib.hid ((hB.out.below hq).mono hq.size)
  have hX := Lib.hid ((hX.out.below hq).mono hq.size)
  have hW := Lib.hid ((hW.out.below hq).mono hq.size)
  have ch := Lib.hid (ch.out.trans (hq.mono ch.out.size))
  clear hq
  go_wp2_with fail
  refine (cvalid_at _ HVq.out hQ.out).mono ?_
  rintro e w10 ⟨rfl, hq⟩
  have hC := Lib.hid ((hC.out.below hq).mono hq.size)
  have hP := Lib.hid ((hP.out.below hq).mono hq.size)
  have hQ := Lib.hid ((hQ.out.below hq).mono hq.size)
  have hL := Lib.hid ((hL.out.below hq).mono hq.size)
  have hB := Lib.hid ((hB.out.below hq).mono hq.size)
  have hX := Lib.hid ((hX.out.below hq).mono hq.size)
  have hW := Lib.hid ((hW.out.below hq).mono hq.size)
  have ch := Lib.hid (ch.out.trans (hq.mono ch.out.size))
  clear hq
  go_wp2_with fail
  refine (cvalid_at _ HVc.out hC.out).mono ?_
  rintro e w11 ⟨rfl, hq⟩
  have hC := Lib.hid ((hC.out.below hq).mono hq.size)
  have hP := Lib.hid ((hP.out.below hq).mono hq.size)
  have hQ := Lib.hid ((hQ.out.below hq).mono hq.size)
  have hL := Lib.hid ((hL.out.below hq).mono hq.size)
  have hB := Lib.hid ((hB.out.below hq).mono hq.size)
  have hX := Lib.hid ((hX.out.below hq).mono hq.size)
  have hW := Lib.hid ((hW.out.below hq).mono hq.size)
  have ch := Lib.hid (ch.out.trans (hq.mono ch.out.size))
  clear hq
  go_wp2_with fail
  refine (cvalid_at _ HVp.out hP.out).mono ?_
  rintro e w12 ⟨rfl, hq⟩
  have hC := Lib.hid ((hC.out.below hq).mono hq.size)
  have hP := Lib.hid ((hP.out.below hq).mono hq.size)
  have hQ := Lib.hid ((hQ.out.below hq).mono hq.size)
  have hL := Lib.hid ((hL.out.below hq).mono hq.size)
  have hB := Lib.hid ((hB.out.below hq).mono hq.size)
  have hX := Lib.hid ((hX.out.below hq).mono hq.size)
  have hW := Lib.hid ((hW.out.below hq).mono hq.size)
  have ch := Lib.hid (ch.out.trans (hq.mono ch.out.size))
  clear hq
  go_wp2_with fail
  refine (refWhile_row _ _ c p _ hC.out hP.out HVc.out HVp.out).mono ?_
  rintro e w13 ⟨v3, rfl, h3, hq⟩
  have hC := Lib.hid ((hC.out.below hq).mono hq.size)
  have hP := Lib.hid ((hP.out.below hq).mono hq.size)
  have hQ := Lib.hid ((hQ.out.below hq).mono hq.size)
  have hL := Lib.hid ((hL.out.below hq).mono hq.size)
  have hB := Lib.hid ((hB.out.below hq).mono hq.size)
  have hX := Lib.hid ((hX.out.below hq).mono hq.size)
  have hW := Lib.hid ((hW.out.below hq).mono hq.size)
  have ch := Lib.hid (ch.out.trans (hq.mono ch.out.size))
  clear hq
  have h3 := Lib.hid h3
  go_wp2_with fail
  refine (cvalid_at _ HVq.out hQ.out).mono ?_
  rintro e w14 ⟨rfl, hq⟩
  have hC := Lib.hid ((hC.out.below hq).mono hq.size)
  have hP := Lib.hid ((hP.out.below hq).mono hq.size)
  have hQ := Lib.hid ((hQ.out.below hq).mono hq.size)
  have hL := Lib.hid ((hL.out.below hq).mono hq.size)
  have hB := Lib.hid ((hB.out.below hq).mono hq.size)
  have hX := Lib.hid ((hX.out.below hq).mono hq.size)
  have hW := Lib.hid ((hW.out.below hq).mono hq.size)
  have h3 := Lib.hid ((h3.out.below hq).mono hq.size)
  have ch := Lib.hid (ch.out.trans (hq.mono ch.out.size))
  clear hq
  have m_two := Lib.hid (show allV [p, q] = true → [] = pairL p q from fun e => by simp [allV2, HVp.out, HVq.out] at e)
  go_wp2_with fail
  refine (due_at _ _ [p, q] (pairL p q) [] _ (dueF_pair p q) m_two.out (hL.out.right) (row_nil _ _)).mono ?_
  rintro e w15 ⟨rfl, hq⟩
  have hC := Lib.hid ((hC.out.below hq).mono hq.size)
  have hP := Lib.hid ((hP.out.below hq).mono hq.size)
  have hQ := Lib.hid ((hQ.out.below hq).mono hq.size)
  have hL := Lib.hid ((hL.out.below hq).mono hq.size)
  have hB := Lib.hid ((hB.out.below hq).mono hq.size)
  have hX := Lib.hid ((hX.out.below hq).mono hq.size)
  have hW := Lib.hid ((hW.out.below hq).mono hq.size)
  have h3 := Lib.hid ((h3.out.below hq).mono hq.size)
  have ch := Lib.hid (ch.out.trans (hq.mono ch.out.size))
  clear hq
  go_wp2_with fail
  refine (told_at _ _ [p, q] (pairL p q) [] _ m_two.out hB.out (row_nil _ _)).mono ?_
  rintro e w16 ⟨rfl, hq⟩
  have hC := Lib.hid ((hC.out.below hq).mono hq.size)
  have hP := Lib.hid ((hP.out.below hq).mono hq.size)
  have hQ := Lib.hid ((hQ.out.below hq).mono hq.size)
  have hL := Lib.hid ((hL.out.below hq).mono hq.size)
  have hB := Lib.hid ((hB.out.below hq).mono hq.size)
  have hX := Lib.hid ((hX.out.below hq).mono hq.size)
  have hW := Lib.hid ((hW.out.below hq).mono hq.size)
  have h3 := Lib.hid ((h3.out.below hq).mono hq.size)
  have ch := Lib.hid (ch.out.trans (hq.mono ch.out.size))
  clear hq
  clear hB m_two
  have m_three := Lib.hid (show allV [c, p, q] = true → [] = ifL c p q from fun e => by simp [allV3, HVp.out, HVc.out, HVq.out] at e)
  go_wp2_with fail
  refine (due_at _ _ [c, p, q] (ifL c p q) [] _ (dueF_if c p q) m_three.out (hL.out) (row_nil _ _)).mono ?_
  rintro e w17 ⟨rfl, hq⟩
  have hC := Lib.hid ((hC.out.below hq).mono hq.size)
  have hP := Lib.hid ((hP.out.below hq).mono hq.size)
  have hQ := Lib.hid ((hQ.out.below hq).mono hq.size)
  have hL := Lib.hid ((hL.out.below hq).mono hq.size)
  have hX := Lib.hid ((hX.out.below hq).mono hq.size)
  have hW := Lib.hid ((hW.out.below hq).mono hq.size)
  have h3 := Lib.hid ((h3.out.below hq).mono hq.size)
  have ch := Lib.hid (ch.out.trans (hq.mono ch.out.size))
  clear hq
  go_wp2_with fail
  refine (told_at _ _ [c, p, q] (ifL c p q) [] _ m_three.out hX.out (row_nil _ _)).mono ?_
  rintro e w18 ⟨rfl, hq⟩
  have hC := Lib.hid ((hC.out.below hq).mono hq.size)
  have hP := Lib.hid ((hP.out.below hq).mono hq.size)
  have hQ := Lib.hid ((hQ.out.below hq).mono hq.size)
  have hL := Lib.hid ((hL.out.below hq).mono hq.size)
  have hX := Lib.hid ((hX.out.below hq).mono hq.size)
  have hW := Lib.hid ((hW.out.below hq).mono hq.size)
  have h3 := Lib.hid ((h3.out.below hq).mono hq.size)
  have ch := Lib.hid (ch.out.trans (hq.mono ch.out.size))
  clear hq
  clear hX m_three
  go_wp2_with fail
  refine (due_at _ _ [c, p] (whileL c p) (whileL c p) _ (dueF_while c p) (fun _ => rfl) (hL.out.left) h3.out).mono ?_
  rintro e w19 ⟨rfl, hq⟩
  have hC := Lib.hid ((hC.out.below hq).mono hq.size)
  have hP := Lib.hid ((hP.out.below hq).mono hq.size)
  have hQ := Lib.hid ((hQ.out.below hq).mono hq.size)
  have hL := Lib.hid ((hL.out.below hq).mono hq.size)
  have hW := Lib.hid ((hW.out.below hq).mono hq.size)
  have h3 := Lib.hid ((h3.out.below hq).mono hq.size)
  have ch := Lib.hid (ch.out.trans (hq.mono ch.out.size))
  clear hq
  go_wp2_with fail
  refine (told_at _ _ [c, p] (whileL c p) (whileL c p) _ (fun _ => rfl) hW.out h3.out).mono ?_
  rintro e w20 ⟨rfl, hq⟩
  have hC := Lib.hid ((hC.out.below hq).mono hq.size)
  have hP := Lib.hid ((hP.out.below hq).mono hq.size)
  have hQ := Lib.hid ((hQ.out.below hq).mono hq.size)
  have hL := Lib.hid ((hL.out.below hq).mono hq.size)
  have hW := Lib.hid ((hW.out.below hq).mono hq.size)
  have h3 := Lib.hid ((h3.out.below hq).mono hq.size)
  have ch := Lib.hid (ch.out.trans (hq.mono ch.out.size))
  clear hq
  clear hW
  go_wp2_with fail
  refine (awake_any _).mono ?_
  rintro e w21 ⟨rfl, hq⟩
  have hC := Lib.hid ((hC.out.below hq).mono hq.size)
  have hP := Lib.hid ((hP.out.below hq).mono hq.size)
  have hQ := Lib.hid ((hQ.out.below hq).mono hq.size)
  have hL := Lib.hid ((hL.out.below hq).mono hq.size)
  have h3 := Lib.hid ((h3.out.below hq).mono hq.size)
  have ch := Lib.hid (ch.out.trans (hq.mono ch.out.size))
  clear hq
  go_wp2
  go_ret
  exact ⟨rfl, ch.out⟩

set_option maxHeartbeats 8000000 in
theorem makes_f_ttt {w : World} (d : ByteArray) (hs : d.size ≤ 140737488355328) (ca : Option Addr) (cn cc : Nat) (pa : Option Addr) (pn pc : Nat) (qa : Option Addr) (qn qc : Nat) (c p q : List Ins) (hhC : InsRow w w.heap.size (.slice ca cn cc) c) (hhP : InsRow w w.heap.size (.slice pa pn pc) p) (hhQ : InsRow w w.heap.size (.slice qa qn qc) q) (HD : Hid (isTree d = false)) (HVp : Hid (validB p = true)) (HVc : Hid (validB c = true)) (HVq : Hid (validB q = true)) :
    Calls Try.prog 7 #[.string d, .slice ca cn cc, .slice pa pn pc, .slice qa qn qc] w fun e w' => e = .returned (.bool true) ∧ Below w.heap.size w w' := by
  have hC := Lib.hid hhC
  have hP := Lib.hid hhP
  have hQ := Lib.hid hhQ
  clear hhC hhP hhQ
  have kT := fun w => tvalid_at d hs false HD.out w
  have ch := Lib.hid (Below.refl w.heap.size w)
  go_enter Try.func7, Try.ntmps7
  go_wp2_with fail
  have hL0 := ProgsRow.lit (w := w) [.slice ca cn cc, .slice pa pn pc, .slice qa qn qc] [c, p, q] rfl (by simp) (fun j u l hu hl => match j, u, l, hu, hl with | 0, _, _, hu, hl => by cases hu; cases hl; exact hC.out | 1, _, _, hu, hl => by cases hu; cases hl; exact hP.out | 2, _, _, hu, hl => by cases hu; cases hl; exact hQ.out)
  obtain ⟨w1, hW⟩ : ∃ B, w.alloc (.cells #[.slice ca cn cc, .slice pa pn pc, .slice qa qn qc] 25) = B := ⟨_, rfl⟩
  rw [hW]
  have hq : Below w.heap.size w w1 := by rw [← hW]; exact (Below.refl _ _).alloc (Nat.le_refl _) _
  have hL := Lib.hid (show ProgsRow w1 w1.heap.size (.slice (some ⟨w.heap.size, 0, none⟩) 3 3) [c, p, q] by rw [← hW]; exact hL0)
  clear hW hL0
  have hC := Lib.hid ((hC.out.below hq).mono hq.size)
  have hP := Lib.hid ((hP.out.below hq).mono hq.size)
  have hQ := Lib.hid ((hQ.out.below hq).mono hq.size)
  have ch := Lib.hid (ch.out.trans (hq.mono ch.out.size))
  clear hq
  refine (copied_any _ [c, p, q] _ hL.out).mono ?_
  rintro e w2 ⟨vl, rfl, hWas, hq⟩
  have hC := Lib.hid ((hC.out.below hq).mono hq.size)
  have hP := Lib.hid ((hP.out.below hq).mono hq.size)
  have hQ := Lib.hid ((hQ.out.below hq).mono hq.size)
  have hL := Lib.hid ((hL.out.below hq).mono hq.size)
  have ch := Lib.hid (ch.out.trans (hq.mono ch.out.size))
  clear hq
  have hWas := Lib.hid hWas
  go_wp2_with fail
  refine (bConst_bad d hs HD.out _).mono ?_
  rintro e w3 ⟨rfl, hq⟩
  have hC := Lib.hid ((hC.out.below hq).mono hq.size)
  have hP := Lib.hid ((hP.out.below hq).mono hq.size)
  have hQ := Lib.hid ((hQ.out.below hq).mono hq.size)
  have hL := Lib.hid ((hL.out.below hq).mono hq.size)
  have hWas := Lib.hid ((hWas.out.below hq).mono hq.size)
  have ch := Lib.hid (ch.out.trans (hq.mono ch.out.size))
  clear hq
  go_wp2_with fail
  refine (made_tb (bPair_any _ _ _ _ _ _ p q _ hP.out hQ.out)).mono ?_
  rintro e w4 ⟨vb, rfl, hB, hq⟩
  have hC := Lib.hid ((hC.out.below hq).mono hq.size)
  have hP := Lib.hid ((hP.out.below hq).mono hq.size)
  have hQ := Lib.hid ((hQ.out.below hq).mono hq.size)
  have hL := Lib.hid ((hL.out.below hq).mono hq.size)
  have hWas := Lib.hid ((hWas.out.below hq).mono hq.size)
  have ch := Lib.hid (ch.out.trans (hq.mono ch.out.size))
  clear hq
  have hB := Lib.hid hB
  go_wp2_with fail
  refine (made_tb (bIf_any _ _ _ _ _ _ _ _ _ c p q _ hC.out hP.out hQ.out)).mono ?_
  rintro e w5 ⟨vx, rfl, hX, hq⟩
  have hC := Lib.hid ((hC.out.below hq).mono hq.size)
  have hP := Lib.hid ((hP.out.below hq).mono hq.size)
  have hQ := Lib.hid ((hQ.out.below hq).mono hq.size)
  have hL := Lib.hid ((hL.out.below hq).mono hq.size)
  have hWas := Lib.hid ((hWas.out.below hq).mono hq.size)
  have hB := Lib.hid ((hB.out.below hq).mono hq.size)
  have ch := Lib.hid (ch.out.trans (hq.mono ch.out.size))
  clear hq
  have hX := Lib.hid hX
  go_wp2_with fail
  refine (made_tb (bWhile_any _ _ _ _ _ _ c p _ hC.out hP.out)).mono ?_
  rintro e w6 ⟨vy, rfl, hW, hq⟩
  have hC := Lib.hid ((hC.out.below hq).mono hq.size)
  have hP := Lib.hid ((hP.out.below hq).mono hq.size)
  have hQ := Lib.hid ((hQ.out.below hq).mono hq.size)
  have hL := Lib.hid ((hL.out.below hq).mono hq.size)
  have hWas := Lib.hid ((hWas.out.below hq).mono hq.size)
  have hB := Lib.hid ((hB.out.below hq).mono hq.size)
  have hX := Lib.hid ((hX.out.below hq).mono hq.size)
  have ch := Lib.hid (ch.out.trans (hq.mono ch.out.size))
  clear hq
  have hW := Lib.hid hW
  go_wp2_with fail
  refine (alike_self _ _ [c, p, q] _ hL.out hWas.out).mono ?_
  rintro e w7 ⟨rfl, hq⟩
  have hC := Lib.hid ((hC.out.below hq).mono hq.size)
  have hP := Lib.hid ((hP.out.below hq).mono hq.size)
  have hQ := Lib.hid ((hQ.out.below hq).mono hq.size)
  have hL := Lib.hid ((hL.out.below hq).mono hq.size)
  have hWas := Lib.hid ((hWas.out.below hq).mono hq.size)
  have hB := Lib.hid ((hB.out.below hq).mono hq.size)
  have hX := Lib.hid ((hX.out.below hq).mono hq.size)
  have hW := Lib.hid ((hW.out.below hq).mono hq.size)
  have ch := Lib.hid (ch.out.trans (hq.mono ch.out.size))
  clear hq
  clear hWas
  go_wp2_with fail
  refine (kT _).mono ?_
  rintro e w8 ⟨rfl, hq⟩
  have hC := Lib.hid ((hC.out.below hq).mono hq.size)
  have hP := Lib.hid ((hP.out.below hq).mono hq.size)
  have hQ := Lib.hid ((hQ.out.below hq).mono hq.size)
  have hL := Lib.hid ((hL.out.below hq).mono hq.size)
  have hB := Lib.hid ((hB.out.below hq).mono hq.size)
  have hX := Lib.hid ((hX.out.below hq).mono hq.size)
  have hW := Lib.hid ((hW.out.below hq).mono hq.size)
  have ch := Lib.hid (ch.out.trans (hq.mono ch.out.size))
  clear hq
  go_wp2_with fail
  refine (cvalid_at _ HVp.out hP.out).mono ?_
  rintro e w9 ⟨rfl, hq⟩
  have hC := Lib.hid ((hC.out.below hq).mono hq.size)
  have hP := Lib.hid ((hP.out.below hq).mono hq.size)
  have hQ := Lib.hid ((hQ.out.below hq).mono hq.size)
  have hL := Lib.hid ((hL.out.below hq).mono hq.size)
  have hB := Lib.hid ((hB.out.below hq).mono hq.size)
  have hX := Lib.hid ((hX.out.below hq).mono hq.size)
  have hW := Lib.hid ((hW.out.below hq).mono hq.size)
  have ch := Lib.hid (ch.out.trans (hq.mono ch.out.size))
  clear hq
  go_wp2_with fail
  refine (cvalid_at _ HVq.out hQ.out).mono ?_
  rintro e w10 ⟨rfl, hq⟩
  have hC := Lib.hid ((hC.out.below hq).mono hq.size)
  have hP := Lib.hid ((hP.out.below hq).mono hq.size)
  have hQ := Lib.hid ((hQ.out.below hq).mono hq.size)
  have hL := Lib.hid ((hL.out.below hq).mono hq.size)
  have hB := Lib.hid ((hB.out.below hq).mono hq.size)
  have hX := Lib.hid ((hX.out.below hq).mono hq.size)
  have hW := Lib.hid ((hW.out.below hq).mono hq.size)
  have ch := Lib.hid (ch.out.trans (hq.mono ch.out.size))
  clear hq
  go_wp2_with fail
  refine (refPair_row _ _ p q _ hP.out hQ.out HVp.out HVq.out).mono ?_
  rintro e w11 ⟨v2, rfl, h2, hq⟩
  have hC := Lib.hid ((hC.out.below hq).mono hq.size)
  have hP := Lib.hid ((hP.out.below hq).mono hq.size)
  have hQ := Lib.hid ((hQ.out.below hq).mono hq.size)
  have hL := Lib.hid ((hL.out.below hq).mono hq.size)
  have hB := Lib.hid ((hB.out.below hq).mono hq.size)
  have hX := Lib.hid ((hX.out.below hq).mono hq.size)
  have hW := Lib.hid ((hW.out.below hq).mono hq.size)
  have ch := Lib.hid (ch.out.trans (hq.mono ch.out.size))
  clear hq
  have h2 := Lib.hid h2
  go_wp2_with fail
  refine (cvalid_at _ HVc.out hC.out).mono ?_
  rintro e w12 ⟨rfl, hq⟩
  have hC := Lib.hid ((hC.out.below hq).mono hq.size)
  have hP := Lib.hid ((hP.out.below hq).mono hq.size)
  have hQ := Lib.hid ((hQ.out.below hq).mono hq.size)
  have hL := Lib.hid ((hL.out.below hq).mono hq.size)
  have hB := Lib.hid ((hB.out.below hq).mono hq.size)
  have hX := Lib.hid ((hX.out.below hq).mono hq.size)
  have hW := Lib.hid ((hW.out.below hq).mono hq.size)
  have h2 := Lib.hid ((h2.out.below hq).mono hq.size)
  have ch := Lib.hid (ch.out.trans (hq.mono ch.out.size))
  clear hq
  go_wp2_with fail
  refine (cvalid_at _ HVp.out hP.out).mono ?_
  rintro e w13 ⟨rfl, hq⟩
  have hC := Lib.hid ((hC.out.below hq).mono hq.size)
  have hP := Lib.hid ((hP.out.below hq).mono hq.size)
  have hQ := Lib.hid ((hQ.out.below hq).mono hq.size)
  have hL := Lib.hid ((hL.out.below hq).mono hq.size)
  have hB := Lib.hid ((hB.out.below hq).mono hq.size)
  have hX := Lib.hid ((hX.out.below hq).mono hq.size)
  have hW := Lib.hid ((hW.out.below hq).mono hq.size)
  have h2 := Lib.hid ((h2.out.below hq).mono hq.size)
  have ch := Lib.hid (ch.out.trans (hq.mono ch.out.size))
  clear hq
  go_wp2_with fail
  refine (refWhile_row _ _ c p _ hC.out hP.out HVc.out HVp.out).mono ?_
  rintro e w14 ⟨v3, rfl, h3, hq⟩
  have hC := Lib.hid ((hC.out.below hq).mono hq.size)
  have hP := Lib.hid ((hP.out.below hq).mono hq.size)
  have hQ := Lib.hid ((hQ.out.below hq).mono hq.size)
  have hL := Lib.hid ((hL.out.below hq).mono hq.size)
  have hB := Lib.hid ((hB.out.below hq).mono hq.size)
  have hX := Lib.hid ((hX.out.below hq).mono hq.size)
  have hW := Lib.hid ((hW.out.below hq).mono hq.size)
  have h2 := Lib.hid ((h2.out.below hq).mono hq.size)
  have ch := Lib.hid (ch.out.trans (hq.mono ch.out.size))
  clear hq
  have h3 := Lib.hid h3
  go_wp2_with fail
  refine (cvalid_at _ HVq.out hQ.out).mono ?_
  rintro e w15 ⟨rfl, hq⟩
  have hC := Lib.hid ((hC.out.below hq).mono hq.size)
  have hP := Lib.hid ((hP.out.below hq).mono hq.size)
  have hQ := Lib.hid ((hQ.out.below hq).mono hq.size)
  have hL := Lib.hid ((hL.out.below hq).mono hq.size)
  have hB := Lib.hid ((hB.out.below hq).mono hq.size)
  have hX := Lib.hid ((hX.out.below hq).mono hq.size)
  have hW := Lib.hid ((hW.out.below hq).mono hq.size)
  have h2 := Lib.hid ((h2.out.below hq).mono hq.size)
  have h3 := Lib.hid ((h3.out.below hq).mono hq.size)
  have ch := Lib.hid (ch.out.trans (hq.mono ch.out.size))
  clear hq
  go_wp2_with fail
  refine (refIf_row _ _ _ c p q _ hC.out hP.out hQ.out HVc.out HVp.out HVq.out).mono ?_
  rintro e w16 ⟨v4, rfl, h4, hq⟩
  have hC := Lib.hid ((hC.out.below hq).mono hq.size)
  have hP := Lib.hid ((hP.out.below hq).mono hq.size)
  have hQ := Lib.hid ((hQ.out.below hq).mono hq.size)
  have hL := Lib.hid ((hL.out.below hq).mono hq.size)
  have hB := Lib.hid ((hB.out.below hq).mono hq.size)
  have hX := Lib.hid ((hX.out.below hq).mono hq.size)
  have hW := Lib.hid ((hW.out.below hq).mono hq.size)
  have h2 := Lib.hid ((h2.out.below hq).mono hq.size)
  have h3 := Lib.hid ((h3.out.below hq).mono hq.size)
  have ch := Lib.hid (ch.out.trans (hq.mono ch.out.size))
  clear hq
  have h4 := Lib.hid h4
  go_wp2_with fail
  refine (due_at _ _ [p, q] (pairL p q) (pairL p q) _ (dueF_pair p q) (fun _ => rfl) (hL.out.right) h2.out).mono ?_
  rintro e w17 ⟨rfl, hq⟩
  have hC := Lib.hid ((hC.out.below hq).mono hq.size)
  have hP := Lib.hid ((hP.out.below hq).mono hq.size)
  have hQ := Lib.hid ((hQ.out.below hq).mono hq.size)
  have hL := Lib.hid ((hL.out.below hq).mono hq.size)
  have hB := Lib.hid ((hB.out.below hq).mono hq.size)
  have hX := Lib.hid ((hX.out.below hq).mono hq.size)
  have hW := Lib.hid ((hW.out.below hq).mono hq.size)
  have h2 := Lib.hid ((h2.out.below hq).mono hq.size)
  have h3 := Lib.hid ((h3.out.below hq).mono hq.size)
  have h4 := Lib.hid ((h4.out.below hq).mono hq.size)
  have ch := Lib.hid (ch.out.trans (hq.mono ch.out.size))
  clear hq
  go_wp2_with fail
  refine (told_at _ _ [p, q] (pairL p q) (pairL p q) _ (fun _ => rfl) hB.out h2.out).mono ?_
  rintro e w18 ⟨rfl, hq⟩
  have hC := Lib.hid ((hC.out.below hq).mono hq.size)
  have hP := Lib.hid ((hP.out.below hq).mono hq.size)
  have hQ := Lib.hid ((hQ.out.below hq).mono hq.size)
  have hL := Lib.hid ((hL.out.below hq).mono hq.size)
  have hB := Lib.hid ((hB.out.below hq).mono hq.size)
  have hX := Lib.hid ((hX.out.below hq).mono hq.size)
  have hW := Lib.hid ((hW.out.below hq).mono hq.size)
  have h2 := Lib.hid ((h2.out.below hq).mono hq.size)
  have h3 := Lib.hid ((h3.out.below hq).mono hq.size)
  have h4 := Lib.hid ((h4.out.below hq).mono hq.size)
  have ch := Lib.hid (ch.out.trans (hq.mono ch.out.size))
  clear hq
  clear hB
  go_wp2_with fail
  refine (due_at _ _ [c, p, q] (ifL c p q) (ifL c p q) _ (dueF_if c p q) (fun _ => rfl) (hL.out) h4.out).mono ?_
  rintro e w19 ⟨rfl, hq⟩
  have hC := Lib.hid ((hC.out.below hq).mono hq.size)
  have hP := Lib.hid ((hP.out.below hq).mono hq.size)
  have hQ := Lib.hid ((hQ.out.below hq).mono hq.size)
  have hL := Lib.hid ((hL.out.below hq).mono hq.size)
  have hX := Lib.hid ((hX.out.below hq).mono hq.size)
  have hW := Lib.hid ((hW.out.below hq).mono hq.size)
  have h2 := Lib.hid ((h2.out.below hq).mono hq.size)
  have h3 := Lib.hid ((h3.out.below hq).mono hq.size)
  have h4 := Lib.hid ((h4.out.below hq).mono hq.size)
  have ch := Lib.hid (ch.out.trans (hq.mono ch.out.size))
  clear hq
  go_wp2_with fail
  refine (told_at _ _ [c, p, q] (ifL c p q) (ifL c p q) _ (fun _ => rfl) hX.out h4.out).mono ?_
  rintro e w20 ⟨rfl, hq⟩
  have hC := Lib.hid ((hC.out.below hq).mono hq.size)
  have hP := Lib.hid ((hP.out.below hq).mono hq.size)
  have hQ := Lib.hid ((hQ.out.below hq).mono hq.size)
  have hL := Lib.hid ((hL.out.below hq).mono hq.size)
  have hX := Lib.hid ((hX.out.below hq).mono hq.size)
  have hW := Lib.hid ((hW.out.below hq).mono hq.size)
  have h2 := Lib.hid ((h2.out.below hq).mono hq.size)
  have h3 := Lib.hid ((h3.out.below hq).mono hq.size)
  have h4 := Lib.hid ((h4.out.below hq).mono hq.size)
  have ch := Lib.hid (ch.out.trans (hq.mono ch.out.size))
  clear hq
  clear hX
  go_wp2_with fail
  refine (due_at _ _ [c, p] (whileL c p) (whileL c p) _ (dueF_while c p) (fun _ => rfl) (hL.out.left) h3.out).mono ?_
  rintro e w21 ⟨rfl, hq⟩
  have hC := Lib.hid ((hC.out.below hq).mono hq.size)
  have hP := Lib.hid ((hP.out.below hq).mono hq.size)
  have hQ := Lib.hid ((hQ.out.below hq).mono hq.size)
  have hL := Lib.hid ((hL.out.below hq).mono hq.size)
  have hW := Lib.hid ((hW.out.below hq).mono hq.size)
  have h2 := Lib.hid ((h2.out.below hq).mono hq.size)
  have h3 := Lib.hid ((h3.out.below hq).mono hq.size)
  have h4 := Lib.hid ((h4.out.below hq).mono hq.size)
  have ch := Lib.hid (ch.out.trans (hq.mono ch.out.size))
  clear hq
  go_wp2_with fail
  refine (told_at _ _ [c, p] (whileL c p) (whileL c p) _ (fun _ => rfl) hW.out h3.out).mono ?_
  rintro e w22 ⟨rfl, hq⟩
  have hC := Lib.hid ((hC.out.below hq).mono hq.size)
  have hP := Lib.hid ((hP.out.below hq).mono hq.size)
  have hQ := Lib.hid ((hQ.out.below hq).mono hq.size)
  have hL := Lib.hid ((hL.out.below hq).mono hq.size)
  have hW := Lib.hid ((hW.out.below hq).mono hq.size)
  have h2 := Lib.hid ((h2.out.below hq).mono hq.size)
  have h3 := Lib.hid ((h3.out.below hq).mono hq.size)
  have h4 := Lib.hid ((h4.out.below hq).mono hq.size)
  have ch := Lib.hid (ch.out.trans (hq.mono ch.out.size))
  clear hq
  clear hW
  go_wp2_with fail
  refine (awake_any _).mono ?_
  rintro e w23 ⟨rfl, hq⟩
  have hC := Lib.hid ((hC.out.below hq).mono hq.size)
  have hP := Lib.hid ((hP.out.below hq).mono hq.size)
  have hQ := Lib.hid ((hQ.out.below hq).mono hq.size)
  have hL := Lib.hid ((hL.out.below hq).mono hq.size)
  have h2 := Lib.hid ((h2.out.below hq).mono hq.size)
  have h3 := Lib.hid ((h3.out.below hq).mono hq.size)
  have h4 := Lib.hid ((h4.out.below hq).mono hq.size)
  have ch := Lib.hid (ch.out.trans (hq.mono ch.out.size))
  clear hq
  go_wp2
  go_ret
  exact ⟨rfl, ch.out⟩

theorem law_BuildMakes {w : World} (d : ByteArray) (hs : d.size ≤ 140737488355328) (x : Value) (c : List Ins) (hc : InsRow w w.heap.size x c) (v : Value) (p : List Ins) (hp : InsRow w w.heap.size v p) (u : Value) (q : List Ins) (hq : InsRow w w.heap.size u q) :
    Calls Try.prog 7 #[.string d, x, v, u] w fun e w' => e = .returned (.bool true) ∧ Below w.heap.size w w' := by
  obtain ⟨ca, cc, rfl⟩ := hc.len
  obtain ⟨pa, pc, rfl⟩ := hp.len
  obtain ⟨qa, qc, rfl⟩ := hq.len
  cases hd : isTree d with
  | true =>
    cases hvp : validB p with
    | false =>
      cases hvc : validB c with
      | false =>
        exact makes_t_ffx d hs _ _ _ _ _ _ _ _ _ c p q hc hp hq (Lib.hid hd) (Lib.hid hvp) (Lib.hid hvc)
      | true =>
        exact makes_t_ftx d hs _ _ _ _ _ _ _ _ _ c p q hc hp hq (Lib.hid hd) (Lib.hid hvp) (Lib.hid hvc)
    | true =>
      cases hvc : validB c with
      | false =>
        cases hvq : validB q with
        | false => exact makes_t_tff d hs _ _ _ _ _ _ _ _ _ c p q hc hp hq (Lib.hid hd) (Lib.hid hvp) (Lib.hid hvc) (Lib.hid hvq)
        | true => exact makes_t_tft d hs _ _ _ _ _ _ _ _ _ c p q hc hp hq (Lib.hid hd) (Lib.hid hvp) (Lib.hid hvc) (Lib.hid hvq)
      | true =>
        cases hvq : validB q with
        | false => exact makes_t_ttf d hs _ _ _ _ _ _ _ _ _ c p q hc hp hq (Lib.hid hd) (Lib.hid hvp) (Lib.hid hvc) (Lib.hid hvq)
        | true => exact makes_t_ttt d hs _ _ _ _ _ _ _ _ _ c p q hc hp hq (Lib.hid hd) (Lib.hid hvp) (Lib.hid hvc) (Lib.hid hvq)
  | false =>
    cases hvp : validB p with
    | false =>
      cases hvc : validB c with
      | false =>
        exact makes_f_ffx d hs _ _ _ _ _ _ _ _ _ c p q hc hp hq (Lib.hid hd) (Lib.hid hvp) (Lib.hid hvc)
      | true =>
        exact makes_f_ftx d hs _ _ _ _ _ _ _ _ _ c p q hc hp hq (Lib.hid hd) (Lib.hid hvp) (Lib.hid hvc)
    | true =>
      cases hvc : validB c with
      | false =>
        cases hvq : validB q with
        | false => exact makes_f_tff d hs _ _ _ _ _ _ _ _ _ c p q hc hp hq (Lib.hid hd) (Lib.hid hvp) (Lib.hid hvc) (Lib.hid hvq)
        | true => exact makes_f_tft d hs _ _ _ _ _ _ _ _ _ c p q hc hp hq (Lib.hid hd) (Lib.hid hvp) (Lib.hid hvc) (Lib.hid hvq)
      | true =>
        cases hvq : validB q with
        | false => exact makes_f_ttf d hs _ _ _ _ _ _ _ _ _ c p q hc hp hq (Lib.hid hd) (Lib.hid hvp) (Lib.hid hvc) (Lib.hid hvq)
        | true => exact makes_f_ttt d hs _ _ _ _ _ _ _ _ _ c p q hc hp hq (Lib.hid hd) (Lib.hid hvp) (Lib.hid hvc) (Lib.hid hvq)

end Go.Proofs.Ytaiomcjopgnfpaa


/- narcissustop: TopComposed. -/
import Derived.Test.YtdjbcmfjlfkcjaaTop6
namespace Go.Proofs.Ytdjbcmfjlfkcjaa
open Go.RowKit

theorem few_parts {c p q : List Ins} (h : fewB [c, p, q] = true) : (dueN [p, q] (thenL [p, q]) = 0 ∧ validB (thenL [p, q]) = true) ∧ (dueN [p, q] (pairL p q) = 0 ∧ validB (pairL p q) = true) ∧ (dueN [c, p, q] (ifL c p q) = 0 ∧ validB (ifL c p q) = true) := by
  have h0 := fewB_get h (l := c) (by simp)
  have h1 := fewB_get h (l := p) (by simp)
  have h2 := fewB_get h (l := q) (by simp)
  have m1 := mostN_lt32 (validB_all h1.1)
  have m2 := mostN_lt32 (validB_all h2.1)
  have hv2 : allV [p, q] = true := by unfold allV; simp [h1.1, h2.1]
  have hr2 : mostR [p, q] ≤ 28 := by rw [mostR_two]; omega
  obtain ⟨hv3, hr3⟩ := few_three h
  have t1 : trees (pairL p q) = trees p + (mostN q + trees q) := by
    unfold pairL
    simp only [List.cons_append, trees_append, trees_cons, trees_nil, trees_cleanP, sz_move, sz_cons]
    omega
  have t2 : trees (ifL c p q) = trees c + (mostN q + trees q) + (mostN p + trees p) + 3 := by
    unfold ifL
    simp only [List.cons_append, trees_append, trees_cons, trees_nil, trees_cleanP, sz_move, sz_jump, sz_set, sz_100]
    omega
  have l1 : (pairL p q).length = p.length + (cleanP q).length + 4 := by unfold pairL; simp; omega
  have l2 : (ifL c p q).length = c.length + (cleanP p).length + (cleanP q).length + 6 := by unfold ifL; simp; omega
  refine ⟨dueN_ok hv2 hr2 (thenL_right hv2) ?_ ?_, dueN_ok hv2 hr2 (pairL_right hv2 hr2) ?_ ?_, dueN_ok hv3 hr3 (ifL_right hv3 hr3) ?_ ?_⟩
  · rw [then_two, List.length_append, cleanP_length]; omega
  · rw [then_two, trees_append, trees_cleanP]; omega
  · rw [l1, cleanP_length]; omega
  · rw [t1]; omega
  · rw [l2, cleanP_length, cleanP_length]; omega
  · rw [t2]; omega

set_option maxRecDepth 20000 in
set_option maxHeartbeats 100000000 in
theorem tc_ng {w : World} (vc : Value) (c : List Ins) (hhc : InsRow w w.heap.size vc c) (vp : Value) (p : List Ins) (hhp : InsRow w w.heap.size vp p) (vq : Value) (q : List Ins) (hhq : InsRow w w.heap.size vq q) (x : ByteArray) (hxs : x.size ≤ 140737488355328) (hbg : growB x 2000 = false) (bf : Bool) (hbf : fewB [c, p, q] = bf) :
    Calls Try.prog 4 #[vc, vp, .agg #[vq, .string x]] w fun e w' => e = .returned (.bool true) ∧ Below w.heap.size w w' := by
  obtain ⟨ca, cc, rfl⟩ := hhc.len
  obtain ⟨cn, hcn⟩ : ∃ lz, c.length = lz := ⟨_, rfl⟩
  rw [hcn] at hhc ⊢
  have hc := Lib.hid hhc
  clear hhc hcn
  obtain ⟨pa, pc, rfl⟩ := hhp.len
  obtain ⟨pn, hpn⟩ : ∃ lz, p.length = lz := ⟨_, rfl⟩
  rw [hpn] at hhp ⊢
  have hp := Lib.hid hhp
  clear hhp hpn
  obtain ⟨qa, qc, rfl⟩ := hhq.len
  obtain ⟨qn, hqn⟩ : ∃ lz, q.length = lz := ⟨_, rfl⟩
  rw [hqn] at hhq ⊢
  have hqq := Lib.hid hhq
  clear hhq hqn
  have HXS := Lib.hid hxs
  have HBG := Lib.hid hbg
  have HBF := Lib.hid hbf
  have kg := Lib.hid (fun w => tgrow_any x hxs 2000 (by omega) w)
  clear hxs hbg hbf
  cases bf with
  | false =>
    have ch := Lib.hid (Below.refl w.heap.size w)
    go_enter Try.func4, Try.ntmps4
    go_wp2_with fail
    obtain ⟨w1, hW⟩ : ∃ B, w.alloc (.cells #[.slice qa qn qc, .string x] 41) = B := ⟨_, rfl⟩
    rw [hW]
    have hq9 : Below w.heap.size w w1 := by rw [← hW]; exact (Below.refl _ _).alloc (Nat.le_refl _) _
    clear hW
    have hc := Lib.hid ((hc.out.below hq9).mono hq9.size)
    have hp := Lib.hid ((hp.out.below hq9).mono hq9.size)
    have hqq := Lib.hid ((hqq.out.below hq9).mono hq9.size)
    have ch := Lib.hid (ch.out.trans (hq9.mono ch.out.size))
    clear hq9
    refine (kg.out _).mono ?_
    rintro e w2 ⟨xq, rfl, hX, -, hq⟩
    have hc := Lib.hid ((hc.out.below hq).mono hq.size)
    have hp := Lib.hid ((hp.out.below hq).mono hq.size)
    have hqq := Lib.hid ((hqq.out.below hq).mono hq.size)
    have ch := Lib.hid (ch.out.trans (hq.mono ch.out.size))
    clear hq
    rw [HBG.out]
    clear hX
    go_wp2_with fail
    have hL0 := ProgsRow.lit (w := w2) [.slice ca cn cc, .slice pa pn pc, .slice qa qn qc] [c, p, q] rfl (by simp) (fun j u l hu hl => match j, u, l, hu, hl with | 0, _, _, hu, hl => by cases hu; cases hl; exact hc.out | 1, _, _, hu, hl => by cases hu; cases hl; exact hp.out | 2, _, _, hu, hl => by cases hu; cases hl; exact hqq.out)
    obtain ⟨w3, hW⟩ : ∃ B, w2.alloc (.cells #[.slice ca cn cc, .slice pa pn pc, .slice qa qn qc] 23) = B := ⟨_, rfl⟩
    rw [hW]
    have hq : Below w2.heap.size w2 w3 := by rw [← hW]; exact (Below.refl _ _).alloc (Nat.le_refl _) _
    have hL := Lib.hid (show ProgsRow w3 w3.heap.size (.slice (some ⟨w2.heap.size, 0, none⟩) 3 3) [c, p, q] by rw [← hW]; exact hL0)
    clear hW hL0
    have hc := Lib.hid ((hc.out.below hq).mono hq.size)
    have hp := Lib.hid ((hp.out.below hq).mono hq.size)
    have hqq := Lib.hid ((hqq.out.below hq).mono hq.size)
    have ch := Lib.hid (ch.out.trans (hq.mono ch.out.size))
    clear hq
    have kfew := Lib.hid (tfew_any _ [c, p, q] (by simp) _ hL.out)
    rw [HBF.out] at kfew
    refine (kfew.out).mono ?_
    rintro e w4 ⟨rfl, hq⟩
    have hc := Lib.hid ((hc.out.below hq).mono hq.size)
    have hp := Lib.hid ((hp.out.below hq).mono hq.size)
    have hqq := Lib.hid ((hqq.out.below hq).mono hq.size)
    have hL := Lib.hid ((hL.out.below hq).mono hq.size)
    have ch := Lib.hid (ch.out.trans (hq.mono ch.out.size))
    clear hq
    clear hL
    go_wp2_with fail
    refine (composes_any _).mono ?_
    rintro e wz ⟨rfl, hqz⟩
    go_wp2
    go_ret
    exact ⟨rfl, ch.out.trans (hqz.mono ch.out.size)⟩
  | true =>
    have ch := Lib.hid (Below.refl w.heap.size w)
    go_enter Try.func4, Try.ntmps4
    go_wp2_with fail
    obtain ⟨w1, hW⟩ : ∃ B, w.alloc (.cells #[.slice qa qn qc, .string x] 41) = B := ⟨_, rfl⟩
    rw [hW]
    have hq9 : Below w.heap.size w w1 := by rw [← hW]; exact (Below.refl _ _).alloc (Nat.le_refl _) _
    clear hW
    have hc := Lib.hid ((hc.out.below hq9).mono hq9.size)
    have hp := Lib.hid ((hp.out.below hq9).mono hq9.size)
    have hqq := Lib.hid ((hqq.out.below hq9).mono hq9.size)
    have ch := Lib.hid (ch.out.trans (hq9.mono ch.out.size))
    clear hq9
    refine (kg.out _).mono ?_
    rintro e w2 ⟨xq, rfl, hX, -, hq⟩
    have hc := Lib.hid ((hc.out.below hq).mono hq.size)
    have hp := Lib.hid ((hp.out.below hq).mono hq.size)
    have hqq := Lib.hid ((hqq.out.below hq).mono hq.size)
    have ch := Lib.hid (ch.out.trans (hq.mono ch.out.size))
    clear hq
    rw [HBG.out]
    clear hX
    go_wp2_with fail
    have hL0 := ProgsRow.lit (w := w2) [.slice ca cn cc, .slice pa pn pc, .slice qa qn qc] [c, p, q] rfl (by simp) (fun j u l hu hl => match j, u, l, hu, hl with | 0, _, _, hu, hl => by cases hu; cases hl; exact hc.out | 1, _, _, hu, hl => by cases hu; cases hl; exact hp.out | 2, _, _, hu, hl => by cases hu; cases hl; exact hqq.out)
    obtain ⟨w3, hW⟩ : ∃ B, w2.alloc (.cells #[.slice ca cn cc, .slice pa pn pc, .slice qa qn qc] 23) = B := ⟨_, rfl⟩
    rw [hW]
    have hq : Below w2.heap.size w2 w3 := by rw [← hW]; exact (Below.refl _ _).alloc (Nat.le_refl _) _
    have hL := Lib.hid (show ProgsRow w3 w3.heap.size (.slice (some ⟨w2.heap.size, 0, none⟩) 3 3) [c, p, q] by rw [← hW]; exact hL0)
    clear hW hL0
    have hc := Lib.hid ((hc.out.below hq).mono hq.size)
    have hp := Lib.hid ((hp.out.below hq).mono hq.size)
    have hqq := Lib.hid ((hqq.out.below hq).mono hq.size)
    have ch := Lib.hid (ch.out.trans (hq.mono ch.out.size))
    clear hq
    have kfew := Lib.hid (tfew_any _ [c, p, q] (by simp) _ hL.out)
    rw [HBF.out] at kfew
    refine (kfew.out).mono ?_
    rintro e w4 ⟨rfl, hq⟩
    have hc := Lib.hid ((hc.out.below hq).mono hq.size)
    have hp := Lib.hid ((hp.out.below hq).mono hq.size)
    have hqq := Lib.hid ((hqq.out.below hq).mono hq.size)
    have hL := Lib.hid ((hL.out.below hq).mono hq.size)
    have ch := Lib.hid (ch.out.trans (hq.mono ch.out.size))
    clear hq
    clear hL
    go_wp2_with fail
    refine (composes_any _).mono ?_
    rintro e wz ⟨rfl, hqz⟩
    go_wp2
    go_ret
    exact ⟨rfl, ch.out.trans (hqz.mono ch.out.size)⟩
set_option maxRecDepth 20000 in
set_option maxHeartbeats 100000000 in
theorem tc_nf {w : World} (vc : Value) (c : List Ins) (hhc : InsRow w w.heap.size vc c) (vp : Value) (p : List Ins) (hhp : InsRow w w.heap.size vp p) (vq : Value) (q : List Ins) (hhq : InsRow w w.heap.size vq q) (x : ByteArray) (hxs : x.size ≤ 140737488355328) (hbg : growB x 2000 = true) (hbf : fewB [c, p, q] = false) :
    Calls Try.prog 4 #[vc, vp, .agg #[vq, .string x]] w fun e w' => e = .returned (.bool true) ∧ Below w.heap.size w w' := by
  obtain ⟨ca, cc, rfl⟩ := hhc.len
  obtain ⟨cn, hcn⟩ : ∃ lz, c.length = lz := ⟨_, rfl⟩
  rw [hcn] at hhc ⊢
  have hc := Lib.hid hhc
  clear hhc hcn
  obtain ⟨pa, pc, rfl⟩ := hhp.len
  obtain ⟨pn, hpn⟩ : ∃ lz, p.length = lz := ⟨_, rfl⟩
  rw [hpn] at hhp ⊢
  have hp := Lib.hid hhp
  clear hhp hpn
  obtain ⟨qa, qc, rfl⟩ := hhq.len
  obtain ⟨qn, hqn⟩ : ∃ lz, q.length = lz := ⟨_, rfl⟩
  rw [hqn] at hhq ⊢
  have hqq := Lib.hid hhq
  clear hhq hqn
  have HXS := Lib.hid hxs
  have HBG := Lib.hid hbg
  have HBF := Lib.hid hbf
  have kg := Lib.hid (fun w => tgrow_any x hxs 2000 (by omega) w)
  clear hxs hbg hbf
  have ch := Lib.hid (Below.refl w.heap.size w)
  go_enter Try.func4, Try.ntmps4
  go_wp2_with fail
  obtain ⟨w1, hW⟩ : ∃ B, w.alloc (.cells #[.slice qa qn qc, .string x] 41) = B := ⟨_, rfl⟩
  rw [hW]
  have hq9 : Below w.heap.size w w1 := by rw [← hW]; exact (Below.refl _ _).alloc (Nat.le_refl _) _
  clear hW
  have hc := Lib.hid ((hc.out.below hq9).mono hq9.size)
  have hp := Lib.hid ((hp.out.below hq9).mono hq9.size)
  have hqq := Lib.hid ((hqq.out.below hq9).mono hq9.size)
  have ch := Lib.hid (ch.out.trans (hq9.mono ch.out.size))
  clear hq9
  refine (kg.out _).mono ?_
  rintro e w2 ⟨xq, rfl, hX, -, hq⟩
  have hc := Lib.hid ((hc.out.below hq).mono hq.size)
  have hp := Lib.hid ((hp.out.below hq).mono hq.size)
  have hqq := Lib.hid ((hqq.out.below hq).mono hq.size)
  have ch := Lib.hid (ch.out.trans (hq.mono ch.out.size))
  clear hq
  rw [HBG.out]
  have hX := hX HBG.out
  have hX := Lib.hid hX
  go_wp2_with fail
  have hL0 := ProgsRow.lit (w := w2) [.slice ca cn cc, .slice pa pn pc, .slice qa qn qc] [c, p, q] rfl (by simp) (fun j u l hu hl => match j, u, l, hu, hl with | 0, _, _, hu, hl => by cases hu; cases hl; exact hc.out | 1, _, _, hu, hl => by cases hu; cases hl; exact hp.out | 2, _, _, hu, hl => by cases hu; cases hl; exact hqq.out)
  obtain ⟨w3, hW⟩ : ∃ B, w2.alloc (.cells #[.slice ca cn cc, .slice pa pn pc, .slice qa qn qc] 23) = B := ⟨_, rfl⟩
  rw [hW]
  have hq : Below w2.heap.size w2 w3 := by rw [← hW]; exact (Below.refl _ _).alloc (Nat.le_refl _) _
  have hL := Lib.hid (show ProgsRow w3 w3.heap.size (.slice (some ⟨w2.heap.size, 0, none⟩) 3 3) [c, p, q] by rw [← hW]; exact hL0)
  clear hW hL0
  have hX := Lib.hid (hX.out.kept (Kept.below hq))
  have hc := Lib.hid ((hc.out.below hq).mono hq.size)
  have hp := Lib.hid ((hp.out.below hq).mono hq.size)
  have hqq := Lib.hid ((hqq.out.below hq).mono hq.size)
  have ch := Lib.hid (ch.out.trans (hq.mono ch.out.size))
  clear hq
  have kfew := Lib.hid (tfew_any _ [c, p, q] (by simp) _ hL.out)
  rw [HBF.out] at kfew
  refine (kfew.out).mono ?_
  rintro e w4 ⟨rfl, hq⟩
  have hX := Lib.hid (hX.out.kept (Kept.below hq))
  have hc := Lib.hid ((hc.out.below hq).mono hq.size)
  have hp := Lib.hid ((hp.out.below hq).mono hq.size)
  have hqq := Lib.hid ((hqq.out.below hq).mono hq.size)
  have hL := Lib.hid ((hL.out.below hq).mono hq.size)
  have ch := Lib.hid (ch.out.trans (hq.mono ch.out.size))
  clear hq
  clear hL
  go_wp2_with fail
  refine (composes_any _).mono ?_
  rintro e wz ⟨rfl, hqz⟩
  go_wp2
  go_ret
  exact ⟨rfl, ch.out.trans (hqz.mono ch.out.size)⟩
end Go.Proofs.Ytdjbcmfjlfkcjaa


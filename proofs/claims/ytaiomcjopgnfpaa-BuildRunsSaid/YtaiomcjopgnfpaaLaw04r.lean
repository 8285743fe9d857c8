/- law04: BuildRuns. -/
import Derived.Test.YtaiomcjopgnfpaaSegs4
namespace Go.Proofs.Ytaiomcjopgnfpaa
open Go.RowKit

set_option maxRecDepth 100000 in
set_option maxHeartbeats 8000000 in
theorem runs_due {w : World} (ca : Option Addr) (cn cc : Nat) (pa : Option Addr) (pn pc : Nat) (qa : Option Addr) (qn qc : Nat) (c p q : List Ins) (x : ByteArray) (_hxs : x.size ≤ 140737488355328) (hhC : InsRow w w.heap.size (.slice ca cn cc) c) (hhP : InsRow w w.heap.size (.slice pa pn pc) p) (hhQ : InsRow w w.heap.size (.slice qa qn qc) q) (d : Int) (HD : Hid (dueF [c, p, q] [] = d)) (hd : d ≠ 0) :
    Calls Try.prog 6 #[.slice ca cn cc, .slice pa pn pc, .slice qa qn qc, .string x] w fun e w' => e = .returned (.bool true) ∧ Below w.heap.size w w' := by
  have hC := Lib.hid hhC
  have hP := Lib.hid hhP
  have hQ := Lib.hid hhQ
  clear hhC hhP hhQ
  have ch := Lib.hid (Below.refl w.heap.size w)
  go_enter Try.func6, Try.ntmps6
  go_wp2_with fail
  have hL0 := ProgsRow.lit (w := w) [.slice ca cn cc, .slice pa pn pc, .slice qa qn qc] [c, p, q] rfl (by simp) (fun j u l hu hl => match j, u, l, hu, hl with | 0, _, _, hu, hl => by cases hu; cases hl; exact hC.out | 1, _, _, hu, hl => by cases hu; cases hl; exact hP.out | 2, _, _, hu, hl => by cases hu; cases hl; exact hQ.out)
  obtain ⟨w1, hW⟩ : ∃ B, w.alloc (.cells #[.slice ca cn cc, .slice pa pn pc, .slice qa qn qc] 25) = B := ⟨_, rfl⟩
  rw [hW]
  have hq : Below w.heap.size w w1 := by rw [← hW]; exact (Below.refl _ _).alloc (Nat.le_refl _) _
  have hL := Lib.hid (show ProgsRow w1 w1.heap.size (.slice (some ⟨w.heap.size, 0, none⟩) 3 3) [c, p, q] by rw [← hW]; exact hL0)
  clear hW hL0
  have hC := Lib.hid ((hC.out.below hq).mono hq.size)
  have hP := Lib.hid ((hP.out.below hq).mono hq.size)
  have hQ := Lib.hid ((hQ.out.below hq).mono hq.size)
  have ch := Lib.hid (ch.out.trans (hq.mono ch.out.size))
  clear hq
  refine (due_val d _ _ [c, p, q] [] _ HD.out hL.out (row_nil _ _)).mono ?_
  rintro e w2 ⟨rfl, hq⟩
  have hC := Lib.hid ((hC.out.below hq).mono hq.size)
  have hP := Lib.hid ((hP.out.below hq).mono hq.size)
  have hQ := Lib.hid ((hQ.out.below hq).mono hq.size)
  have hL := Lib.hid ((hL.out.below hq).mono hq.size)
  have ch := Lib.hid (ch.out.trans (hq.mono ch.out.size))
  clear hq
  go_wp2_with fail
  refine (awake_any _).mono ?_
  rintro e w3 ⟨rfl, hq⟩
  have hC := Lib.hid ((hC.out.below hq).mono hq.size)
  have hP := Lib.hid ((hP.out.below hq).mono hq.size)
  have hQ := Lib.hid ((hQ.out.below hq).mono hq.size)
  have hL := Lib.hid ((hL.out.below hq).mono hq.size)
  have ch := Lib.hid (ch.out.trans (hq.mono ch.out.size))
  clear hq
  go_wp2
  go_ret
  exact ⟨rfl, ch.out⟩

set_option maxRecDepth 100000 in
set_option maxHeartbeats 8000000 in
theorem runs_notree {w : World} (ca : Option Addr) (cn cc : Nat) (pa : Option Addr) (pn pc : Nat) (qa : Option Addr) (qn qc : Nat) (c p q : List Ins) (x : ByteArray) (hxs : x.size ≤ 140737488355328) (hhC : InsRow w w.heap.size (.slice ca cn cc) c) (hhP : InsRow w w.heap.size (.slice pa pn pc) p) (hhQ : InsRow w w.heap.size (.slice qa qn qc) q) (HD : Hid (dueF [c, p, q] [] = 0)) (HX : Hid (isTree x = false)) :
    Calls Try.prog 6 #[.slice ca cn cc, .slice pa pn pc, .slice qa qn qc, .string x] w fun e w' => e = .returned (.bool true) ∧ Below w.heap.size w w' := by
  have hC := Lib.hid hhC
  have hP := Lib.hid hhP
  have hQ := Lib.hid hhQ
  clear hhC hhP hhQ
  have ch := Lib.hid (Below.refl w.heap.size w)
  have kT := fun w => tvalid_at x hxs false HX.out w
  go_enter Try.func6, Try.ntmps6
  go_wp2_with fail
  have hL0 := ProgsRow.lit (w := w) [.slice ca cn cc, .slice pa pn pc, .slice qa qn qc] [c, p, q] rfl (by simp) (fun j u l hu hl => match j, u, l, hu, hl with | 0, _, _, hu, hl => by cases hu; cases hl; exact hC.out | 1, _, _, hu, hl => by cases hu; cases hl; exact hP.out | 2, _, _, hu, hl => by cases hu; cases hl; exact hQ.out)
  obtain ⟨w1, hW⟩ : ∃ B, w.alloc (.cells #[.slice ca cn cc, .slice pa pn pc, .slice qa qn qc] 25) = B := ⟨_, rfl⟩
  rw [hW]
  have hq : Below w.heap.size w w1 := by rw [← hW]; exact (Below.refl _ _).alloc (Nat.le_refl _) _
  have hL := Lib.hid (show ProgsRow w1 w1.heap.size (.slice (some ⟨w.heap.size, 0, none⟩) 3 3) [c, p, q] by rw [← hW]; exact hL0)
  clear hW hL0
  have hC := Lib.hid ((hC.out.below hq).mono hq.size)
  have hP := Lib.hid ((hP.out.below hq).mono hq.size)
  have hQ := Lib.hid ((hQ.out.below hq).mono hq.size)
  have ch := Lib.hid (ch.out.trans (hq.mono ch.out.size))
  clear hq
  refine (due_val 0 _ _ [c, p, q] [] _ HD.out hL.out (row_nil _ _)).mono ?_
  rintro e w2 ⟨rfl, hq⟩
  have hC := Lib.hid ((hC.out.below hq).mono hq.size)
  have hP := Lib.hid ((hP.out.below hq).mono hq.size)
  have hQ := Lib.hid ((hQ.out.below hq).mono hq.size)
  have hL := Lib.hid ((hL.out.below hq).mono hq.size)
  have ch := Lib.hid (ch.out.trans (hq.mono ch.out.size))
  clear hq
  go_wp2_with fail
  refine (kT _).mono ?_
  rintro e w3 ⟨rfl, hq⟩
  have hC := Lib.hid ((hC.out.below hq).mono hq.size)
  have hP := Lib.hid ((hP.out.below hq).mono hq.size)
  have hQ := Lib.hid ((hQ.out.below hq).mono hq.size)
  have hL := Lib.hid ((hL.out.below hq).mono hq.size)
  have ch := Lib.hid (ch.out.trans (hq.mono ch.out.size))
  clear hq
  go_wp2_with fail
  refine (awake_any _).mono ?_
  rintro e w4 ⟨rfl, hq⟩
  have hC := Lib.hid ((hC.out.below hq).mono hq.size)
  have hP := Lib.hid ((hP.out.below hq).mono hq.size)
  have hQ := Lib.hid ((hQ.out.below hq).mono hq.size)
  have hL := Lib.hid ((hL.out.below hq).mono hq.size)
  have ch := Lib.hid (ch.out.trans (hq.mono ch.out.size))
  clear hq
  go_wp2
  go_ret
  exact ⟨rfl, ch.out⟩

set_option maxRecDepth 100000 in
set_option maxHeartbeats 8000000 in
theorem runs_main {w : World} (ca : Option Addr) (cn cc : Nat) (pa : Option Addr) (pn pc : Nat) (qa : Option Addr) (qn qc : Nat) (c p q : List Ins) (x : ByteArray) (hxs : x.size ≤ 140737488355328) (hhC : InsRow w w.heap.size (.slice ca cn cc) c) (hhP : InsRow w w.heap.size (.slice pa pn pc) p) (hhQ : InsRow w w.heap.size (.slice qa qn qc) q) (HD : Hid (dueF [c, p, q] [] = 0)) (HX : Hid (isTree x = true)) :
    Calls Try.prog 6 #[.slice ca cn cc, .slice pa pn pc, .slice qa qn qc, .string x] w fun e w' => e = .returned (.bool true) ∧ Below w.heap.size w w' := by
  have hC := Lib.hid hhC
  have hP := Lib.hid hhP
  have hQ := Lib.hid hhQ
  clear hhC hhP hhQ
  have ch := Lib.hid (Below.refl w.heap.size w)
  have hvm := dueF_zero HD.out
  obtain ⟨hvc0, hvp0, hvq0⟩ := allV_three hvm.1
  have HVc := Lib.hid hvc0
  have HVp := Lib.hid hvp0
  have HVq := Lib.hid hvq0
  have hmr := hvm.2
  rw [mostR_three] at hmr
  have HM := Lib.hid hmr
  have hm2 : mostR [p, q] ≤ 28 := by rw [mostR_two]; omega
  have HMc := Lib.hid (show regN c = mostN c + 1 from rfl)
  have HMp := Lib.hid (show regN p = mostN p + 1 from rfl)
  have HMq := Lib.hid (show regN q = mostN q + 1 from rfl)
  have hav2 : allV [p, q] = true := by rw [allV2, hvp0, hvq0]; rfl
  obtain ⟨d1, hd1⟩ : ∃ d, dueN [c, p, q] (thenL [c, p, q]) = d := ⟨_, rfl⟩
  obtain ⟨d2, hd2⟩ : ∃ d, dueN [p, q] (pairL p q) = d := ⟨_, rfl⟩
  obtain ⟨d3, hd3⟩ : ∃ d, dueN [c, p, q] (ifL c p q) = d := ⟨_, rfl⟩
  have HD1 := Lib.hid hd1
  have HD2 := Lib.hid hd2
  have HD3 := Lib.hid hd3
  have HO1 := Lib.hid (by have h := dueN_03 (thenL [c, p, q]) hvm.1 hvm.2; rwa [hd1] at h)
  have HO2 := Lib.hid (by have h := dueN_03 (pairL p q) hav2 hm2; rwa [hd2] at h)
  have HO3 := Lib.hid (by have h := dueN_03 (ifL c p q) hvm.1 hvm.2; rwa [hd3] at h)
  clear hd1 hd2 hd3 hvm hvc0 hvp0 hvq0 hmr hm2 hav2
  have kT := fun w => tvalid_at x hxs true HX.out w
  go_enter Try.func6, Try.ntmps6
  go_wp2_with fail
  have hL0 := ProgsRow.lit (w := w) [.slice ca cn cc, .slice pa pn pc, .slice qa qn qc] [c, p, q] rfl (by simp) (fun j u l hu hl => match j, u, l, hu, hl with | 0, _, _, hu, hl => by cases hu; cases hl; exact hC.out | 1, _, _, hu, hl => by cases hu; cases hl; exact hP.out | 2, _, _, hu, hl => by cases hu; cases hl; exact hQ.out)
  obtain ⟨w1, hW⟩ : ∃ B, w.alloc (.cells #[.slice ca cn cc, .slice pa pn pc, .slice qa qn qc] 25) = B := ⟨_, rfl⟩
  rw [hW]
  have hq : Below w.heap.size w w1 := by rw [← hW]; exact (Below.refl _ _).alloc (Nat.le_refl _) _
  have hL := Lib.hid (show ProgsRow w1 w1.heap.size (.slice (some ⟨w.heap.size, 0, none⟩) 3 3) [c, p, q] by rw [← hW]; exact hL0)
  clear hW hL0
  have hC := Lib.hid ((hC.out.below hq).mono hq.size)
  have hP := Lib.hid ((hP.out.below hq).mono hq.size)
  have hQ := Lib.hid ((hQ.out.below hq).mono hq.size)
  have ch := Lib.hid (ch.out.trans (hq.mono ch.out.size))
  clear hq
  refine (due_val 0 _ _ [c, p, q] [] _ HD.out hL.out (row_nil _ _)).mono ?_
  rintro e w2 ⟨rfl, hq⟩
  have hC := Lib.hid ((hC.out.below hq).mono hq.size)
  have hP := Lib.hid ((hP.out.below hq).mono hq.size)
  have hQ := Lib.hid ((hQ.out.below hq).mono hq.size)
  have hL := Lib.hid ((hL.out.below hq).mono hq.size)
  have ch := Lib.hid (ch.out.trans (hq.mono ch.out.size))
  clear hq
  clear hL
  go_wp2_with fail
  refine (kT _).mono ?_
  rintro e w3 ⟨rfl, hq⟩
  have hC := Lib.hid ((hC.out.below hq).mono hq.size)
  have hP := Lib.hid ((hP.out.below hq).mono hq.size)
  have hQ := Lib.hid ((hQ.out.below hq).mono hq.size)
  have ch := Lib.hid (ch.out.trans (hq.mono ch.out.size))
  clear hq
  go_wp2_with fail
  have hL0 := ProgsRow.lit (w := w3) [.slice ca cn cc, .slice pa pn pc, .slice qa qn qc] [c, p, q] rfl (by simp) (fun j u l hu hl => match j, u, l, hu, hl with | 0, _, _, hu, hl => by cases hu; cases hl; exact hC.out | 1, _, _, hu, hl => by cases hu; cases hl; exact hP.out | 2, _, _, hu, hl => by cases hu; cases hl; exact hQ.out)
  obtain ⟨w4, hW⟩ : ∃ B, w3.alloc (.cells #[.slice ca cn cc, .slice pa pn pc, .slice qa qn qc] 25) = B := ⟨_, rfl⟩
  rw [hW]
  have hq : Below w3.heap.size w3 w4 := by rw [← hW]; exact (Below.refl _ _).alloc (Nat.le_refl _) _
  have hL := Lib.hid (show ProgsRow w4 w4.heap.size (.slice (some ⟨w3.heap.size, 0, none⟩) 3 3) [c, p, q] by rw [← hW]; exact hL0)
  clear hW hL0
  have hC := Lib.hid ((hC.out.below hq).mono hq.size)
  have hP := Lib.hid ((hP.out.below hq).mono hq.size)
  have hQ := Lib.hid ((hQ.out.below hq).mono hq.size)
  have ch := Lib.hid (ch.out.trans (hq.mono ch.out.size))
  clear hq
  refine (made_d HD1.out (bThen_any _ _ _ [c, p, q] _ hL.out)).mono ?_
  rintro e w5 ⟨vt, rfl, hT, hq⟩
  have hC := Lib.hid ((hC.out.below hq).mono hq.size)
  have hP := Lib.hid ((hP.out.below hq).mono hq.size)
  have hQ := Lib.hid ((hQ.out.below hq).mono hq.size)
  have hL := Lib.hid ((hL.out.below hq).mono hq.size)
  have ch := Lib.hid (ch.out.trans (hq.mono ch.out.size))
  clear hq
  have hT := Lib.hid hT
  clear hL
  go_upto_if 42 with fail
  go_cut [11] from 43 to 62 (fun s0 wx => Hid (Below w5.heap.size w5 wx))
  case first =>
    by_cases hd : d1 = 0
    · have hvP := HO1.out.resolve_right (fun e => by rw [hd] at e; cases e)
      have hT1 := Lib.hid (hT.out.1 hd)
      have HV := Lib.hid hvP.2
      have sg := Lib.hid (then3_segs c p q)
      subst hd
      clear hvP
      go_wp2_with fail
      obtain ⟨b0, hW⟩ : ∃ B, w5.alloc (.cells #[.string ⟨#[]⟩, .int .i64 0, .int .i64 0] 40) = B := ⟨_, rfl⟩
      rw [hW]
      have hq : Below w5.heap.size w5 b0 := by rw [← hW]; exact (Below.refl _ _).alloc (Nat.le_refl _) _
      have bx := Lib.hid (show Bx b0 w5.heap.size ⟨#[]⟩ 0 0 by unfold Bx; rw [← hW]; exact heap_alloc_new _ _)
      clear hW
      have hC := Lib.hid (hC.out.below hq)
      have hP := Lib.hid (hP.out.below hq)
      have hQ := Lib.hid (hQ.out.below hq)
      have hT1 := Lib.hid (hT1.out.below hq)
      have cb := Lib.hid hq
      clear hq
      have hs := Lib.hid (show (0 : Nat) ≤ 0 from Nat.le_refl _)
      have pg := Lib.hid (Pg.begin (thenL [c, p, q]) x HX.out)
      refine (part_pg (R' := Holds []) _ w5.heap.size ⟨#[]⟩ 0 0 (.slice ca cn cc) x (by have := hs.out; omega) bx.out hC.out HVc.out pg.out sg.out.s0 (by have := sg.out.len; omega) (fun rest _ hr => by subst hr; exact cleaned_nils (by have := mostN_lt32 (validB_all HVc.out); omega)) (fun rest rest' _ _ _ _ => Holds.nil _)).mono ?_
      rintro e b1 ⟨y1, S1, E1, rfl, bx, hs2, pg, hq⟩
      have hs := Lib.hid (show S1 ≤ 2000 by have h1 := hs.out; have h2 := hs2.out.1; omega)
      have hE1 := Lib.hid hs2.out.2.1
      have hZ1 := Lib.hid hs2.out.2.2
      clear hs2
      have hC := Lib.hid (hC.out.below hq)
      have hP := Lib.hid (hP.out.below hq)
      have hQ := Lib.hid (hQ.out.below hq)
      have hT1 := Lib.hid (hT1.out.below hq)
      have cb := Lib.hid (cb.out.trans hq)
      clear hq
      go_wp2_with fail
      refine (cleaned_pg _ w5.heap.size ⟨#[]⟩ S1 E1 (.slice pa pn pc) y1 (by have := hs.out; omega) bx.out hP.out HVp.out pg.out sg.out.s1 (by have := sg.out.len; omega) (fun p hp => by cases hp)).mono ?_
      rintro e b2 ⟨y2, S2, E2, rfl, bx, hs2, pg, hq⟩
      have hs := Lib.hid (show S2 ≤ 4100 by have h1 := hs.out; have h2 := hs2.out.1; omega)
      have hE2 := Lib.hid hs2.out.2.1
      have hZ2 := Lib.hid hs2.out.2.2
      clear hs2
      have hC := Lib.hid (hC.out.below hq)
      have hP := Lib.hid (hP.out.below hq)
      have hQ := Lib.hid (hQ.out.below hq)
      have hT1 := Lib.hid (hT1.out.below hq)
      have cb := Lib.hid (cb.out.trans hq)
      clear hq
      go_wp2_with fail
      refine (cleaned_pg _ w5.heap.size ⟨#[]⟩ S2 E2 (.slice qa qn qc) y2 (by have := hs.out; omega) bx.out hQ.out HVq.out pg.out sg.out.s2 (by have := sg.out.len; omega) (fun p hp => by cases hp)).mono ?_
      rintro e b3 ⟨y3, S3, E3, rfl, bx, hs2, pg, hq⟩
      have hs := Lib.hid (show S3 ≤ 6200 by have h1 := hs.out; have h2 := hs2.out.1; omega)
      have hE3 := Lib.hid hs2.out.2.1
      have hZ3 := Lib.hid hs2.out.2.2
      clear hs2
      have hC := Lib.hid (hC.out.below hq)
      have hP := Lib.hid (hP.out.below hq)
      have hQ := Lib.hid (hQ.out.below hq)
      have hT1 := Lib.hid (hT1.out.below hq)
      have cb := Lib.hid (cb.out.trans hq)
      clear hq
      obtain ⟨c0, c1, c2, f0, f1, f2⟩ := bx.out.cells
      go_wp2_with fail
      have hq : Below w5.heap.size b3 (b3.setCell ⟨w5.heap.size, 0, none⟩ (.string y3)) := (Below.refl _ _).setCell (p := ⟨w5.heap.size, 0, none⟩) (Nat.le_refl _) _
      have bx := Lib.hid (bx.out.tree y3)
      clear c0 c1 c2 f0 f1 f2
      obtain ⟨b4, hW⟩ : ∃ B, b3.setCell ⟨w5.heap.size, 0, none⟩ (.string y3) = B := ⟨_, rfl⟩
      rw [hW] at hq bx ⊢
      clear hW
      have hC := Lib.hid (hC.out.below hq)
      have hP := Lib.hid (hP.out.below hq)
      have hQ := Lib.hid (hQ.out.below hq)
      have hT1 := Lib.hid (hT1.out.below hq)
      have cb := Lib.hid (cb.out.trans hq)
      clear hq
      refine (ends_any _ w5.heap.size y3 S3 E3 (by have := hs.out; omega) bx.out vt _ x hT1.out HV.out HX.out (Pg.ended (by have h := pg.out; rwa [← sg.out.len] at h))).mono ?_
      rintro e b5 ⟨rfl, hq⟩
      have hC := Lib.hid (hC.out.below hq)
      have hP := Lib.hid (hP.out.below hq)
      have hQ := Lib.hid (hQ.out.below hq)
      have hT1 := Lib.hid (hT1.out.below hq)
      have cb := Lib.hid (cb.out.trans hq)
      clear hq
      go_wp2_with fail
      go_meet
      exact cb
    · go_wp2_with fail
      go_meet
      exact Lib.hid (Below.refl _ _)
  case rest =>
  have hq := hcut.out
  clear hcut hT
  rename World => z1
  have hC := Lib.hid ((hC.out.below hq).mono hq.size)
  have hP := Lib.hid ((hP.out.below hq).mono hq.size)
  have hQ := Lib.hid ((hQ.out.below hq).mono hq.size)
  have ch := Lib.hid (ch.out.trans (hq.mono ch.out.size))
  clear hq
  go_wp2_with fail
  refine (made_d HD2.out (bPair_any _ _ _ _ _ _ p q _ hP.out hQ.out)).mono ?_
  rintro e w6 ⟨vu, rfl, hT, hq⟩
  have hC := Lib.hid ((hC.out.below hq).mono hq.size)
  have hP := Lib.hid ((hP.out.below hq).mono hq.size)
  have hQ := Lib.hid ((hQ.out.below hq).mono hq.size)
  have ch := Lib.hid (ch.out.trans (hq.mono ch.out.size))
  clear hq
  have hT := Lib.hid hT
  go_upto_if 70 with fail
  go_cut [14, 15, 16] from 71 to 112 (fun s0 s1 s2 wx => Hid (Below w6.heap.size w6 wx))
  case first =>
    by_cases hd : d2 = 0
    · have hvP := HO2.out.resolve_right (fun e => by rw [hd] at e; cases e)
      have hT1 := Lib.hid (hT.out.1 hd)
      have HV := Lib.hid hvP.2
      obtain ⟨n, hn⟩ : ∃ n, max (regN p) (regN q) = n + 1 := ⟨max (mostN p) (mostN q), by have := HMp.out; have := HMq.out; omega⟩
      have sg := Lib.hid (pair_segs p q n hn)
      have HB := Lib.hid (show n ≤ 27 ∧ mostN p ≤ n ∧ mostN q ≤ n by have := HMp.out; have := HMq.out; have := HM.out; omega)
      subst hd
      clear hvP hn
      go_wp2_with fail
      obtain ⟨b0, hW⟩ : ∃ B, w6.alloc (.cells #[.string ⟨#[]⟩, .int .i64 1, .int .i64 0] 40) = B := ⟨_, rfl⟩
      rw [hW]
      have hq : Below w6.heap.size w6 b0 := by rw [← hW]; exact (Below.refl _ _).alloc (Nat.le_refl _) _
      have bx := Lib.hid (show Bx b0 w6.heap.size ⟨#[]⟩ 1 0 by unfold Bx; rw [← hW]; exact heap_alloc_new _ _)
      clear hW
      have hP := Lib.hid (hP.out.below hq)
      have hQ := Lib.hid (hQ.out.below hq)
      have hT1 := Lib.hid (hT1.out.below hq)
      have cb := Lib.hid hq
      clear hq
      have hs := Lib.hid (show (1 : Nat) ≤ 1 from Nat.le_refl _)
      have pg := Lib.hid (Pg.begin1 (pairL p q) x HX.out n (by have := HB.out; omega) sg.out.m0)
      refine (part_pg (R' := Holds [(n, toTr x)]) _ w6.heap.size ⟨#[]⟩ 1 0 (.slice pa pn pc) x (by have := hs.out; omega) bx.out hP.out HVp.out pg.out sg.out.s0 (by have := sg.out.len; omega) (fun rest _ hr => by subst hr; exact cleaned_set HB.out.2.1 (by have := HB.out; omega)) (fun rest rest' _ _ hr he => holds_set HB.out.2.1 (by have := HB.out; omega) rest rest' hr he)).mono ?_
      rintro e b1 ⟨y1, S1, E1, rfl, bx, hs2, pg, hq⟩
      have hs := Lib.hid (show S1 ≤ 2001 by have h1 := hs.out; have h2 := hs2.out.1; omega)
      have hE1 := Lib.hid hs2.out.2.1
      have hZ1 := Lib.hid hs2.out.2.2
      clear hs2
      have hP := Lib.hid (hP.out.below hq)
      have hQ := Lib.hid (hQ.out.below hq)
      have hT1 := Lib.hid (hT1.out.below hq)
      have cb := Lib.hid (cb.out.trans hq)
      clear hq
      have hty := Lib.hid pg.out.tree
      go_wp2_with fail
      refine (other_pg (AtX (1 + p.length + 1 + 1) x (Holds [(n + 1, toTr y1), (n, toTr x)])) _ w6.heap.size ⟨#[]⟩ S1 2 E1 (by have := hs.out; omega) bx.out pg.out (two_steps (K1 := AtX (1 + p.length + 1) y1 (Holds [(n + 1, toTr y1), (n, toTr x)])) (fun s h => at_save (n := n + 1) (by have := HB.out; omega) sg.out.m1 (by intro p hp; simp at hp; subst hp; simp) h) (fun s h => at_loadx sg.out.m2 (toTr_size x) (TS_toTr HX.out) (by simp) h)) 2 (by decide)).mono ?_
      rintro e b2 ⟨S2, rfl, bx, hs2, pg, hq⟩
      have hs := Lib.hid (show S2 ≤ 2003 by have h1 := hs.out; have h2 := hs2.out; omega)
      clear hs2
      have hP := Lib.hid (hP.out.below hq)
      have hQ := Lib.hid (hQ.out.below hq)
      have hT1 := Lib.hid (hT1.out.below hq)
      have cb := Lib.hid (cb.out.trans hq)
      clear hq
      go_wp2_with fail
      refine (cleaned_pg _ w6.heap.size ⟨#[]⟩ S2 E1 (.slice qa qn qc) x (by have := hs.out; omega) bx.out hQ.out HVq.out pg.out sg.out.s1 (by have := sg.out.len; omega) (by intro p hp; have := HB.out; simp at hp; rcases hp with rfl | rfl <;> simp <;> omega)).mono ?_
      rintro e b3 ⟨y3, S3, E3, rfl, bx, hs2, pg, hq⟩
      have hs := Lib.hid (show S3 ≤ 4103 by have h1 := hs.out; have h2 := hs2.out.1; omega)
      have hE3 := Lib.hid hs2.out.2.1
      have hZ3 := Lib.hid hs2.out.2.2
      clear hs2
      have hP := Lib.hid (hP.out.below hq)
      have hQ := Lib.hid (hQ.out.below hq)
      have hT1 := Lib.hid (hT1.out.below hq)
      have cb := Lib.hid (cb.out.trans hq)
      clear hq
      have hpc := Lib.hid (Pg.cons (y := y1) pg.out sg.out.m3 (by simp) (fun e => hty.out (hE3.out e)))
      go_wp2_with fail
      refine (other_any _ w6.heap.size ⟨#[]⟩ S3 1 E3 (by have := hs.out; omega) bx.out).mono ?_
      rintro e b4 ⟨rfl, bx, hq⟩
      have bx := Lib.hid bx
      obtain ⟨T3, hT3⟩ : ∃ T, otherS 1 S3 E3 = T := ⟨_, rfl⟩
      rw [hT3] at bx hpc
      have hs := Lib.hid (show T3 ≤ 4104 by rw [← hT3]; have := otherS_le 1 S3 E3; have := hs.out; omega)
      clear hT3
      have hP := Lib.hid (hP.out.below hq)
      have hQ := Lib.hid (hQ.out.below hq)
      have hT1 := Lib.hid (hT1.out.below hq)
      have cb := Lib.hid (cb.out.trans hq)
      clear hq
      obtain ⟨c0, c1, c2, f0, f1, f2⟩ := bx.out.cells
      have hsz : ((⟨#[49]⟩ ++ y1 ++ y3 : ByteArray).size) = 1 + y1.size + y3.size := by simp [ByteArray.size_append]; rfl
      have HSZ := Lib.hid hsz
      clear hsz
      have hz1 := hZ1.out
      have hz3 := hZ3.out
      by_cases hE : E3 = 0
      · by_cases hbig : 1 + y1.size + y3.size ≤ 2000000
        · skip
          have hbK : (1 : Int) + y1.size + y3.size ≤ 2000000 := by omega
          have pgx := Lib.hid (hpc.out.1 (.inr hbig))
          have hcE := hE
          rw [hcE] at c2 bx pgx
          clear hE hcE hpc hbig
          go_wp2_with fail
          have hq := Below.refl w6.heap.size b4
          have hq := hq.setCell (p := ⟨w6.heap.size, 0, none⟩) (Nat.le_refl _) (.string (⟨#[49]⟩ ++ y1 ++ y3))
          have bx := Lib.hid (bx.out.tree (⟨#[49]⟩ ++ y1 ++ y3))
          refine (ends_any _ w6.heap.size (⟨#[49]⟩ ++ y1 ++ y3) T3 0 (by have := hs.out; omega) bx.out vu _ x (hT1.out.below hq) HV.out HX.out (Pg.ended (by have h := pgx.out; rwa [show 1 + p.length + 1 + 1 + (cleanP q).length + 1 = (pairL p q).length by rw [sg.out.len]] at h))).mono ?_
          rintro e bz ⟨rfl, hqz⟩
          have cb := Lib.hid ((cb.out.trans hq).trans hqz)
          go_wp2_with fail
          go_meet
          exact cb
        · skip
          have hbI : ((1 + y1.size + y3.size : Nat) : Int) > 2000000 := by omega
          have hbJ : (2000000 : Int) < (((⟨#[49]⟩ ++ y1 ++ y3) : ByteArray).size : Int) := by rw [HSZ.out]; omega
          have pgx := Lib.hid (hpc.out.2 hE hbig)
          have hcE := hE
          rw [hcE] at c2 bx
          clear hE hcE hpc hbig
          go_wp2_with fail
          have hq := Below.refl w6.heap.size b4
          have hq := hq.setCell (p := ⟨w6.heap.size, 0, none⟩) (Nat.le_refl _) (.string (⟨#[49]⟩ ++ y1 ++ y3))
          have hq := hq.setCell (p := ⟨w6.heap.size, 2, none⟩) (Nat.le_refl _) (.int .i64 3)
          have bx := Lib.hid (bx.out.tree (⟨#[49]⟩ ++ y1 ++ y3))
          have bx := Lib.hid (bx.out.err 3)
          refine (ends_any _ w6.heap.size (⟨#[49]⟩ ++ y1 ++ y3) T3 3 (by have := hs.out; omega) bx.out vu _ x (hT1.out.below hq) HV.out HX.out (Pg.ended (by have h := pgx.out; rwa [show 1 + p.length + 1 + 1 + (cleanP q).length + 1 = (pairL p q).length by rw [sg.out.len]] at h))).mono ?_
          rintro e bz ⟨rfl, hqz⟩
          have cb := Lib.hid ((cb.out.trans hq).trans hqz)
          go_wp2_with fail
          go_meet
          exact cb
      · skip
        have pgx := Lib.hid (hpc.out.1 (.inl hE))
        have hcE := hE
        clear hpc hcE
        go_wp2_with fail
        have hq := Below.refl w6.heap.size b4
        have hq := hq.setCell (p := ⟨w6.heap.size, 0, none⟩) (Nat.le_refl _) (.string (⟨#[49]⟩ ++ y1 ++ y3))
        have bx := Lib.hid (bx.out.tree (⟨#[49]⟩ ++ y1 ++ y3))
        refine (ends_any _ w6.heap.size (⟨#[49]⟩ ++ y1 ++ y3) T3 E3 (by have := hs.out; omega) bx.out vu _ x (hT1.out.below hq) HV.out HX.out (Pg.ended (by have h := pgx.out; rwa [show 1 + p.length + 1 + 1 + (cleanP q).length + 1 = (pairL p q).length by rw [sg.out.len]] at h))).mono ?_
        rintro e bz ⟨rfl, hqz⟩
        have cb := Lib.hid ((cb.out.trans hq).trans hqz)
        go_wp2_with fail
        go_meet
        exact cb
    · go_wp2_with fail
      go_meet
      exact Lib.hid (Below.refl _ _)
  case rest =>
  have hq := hcut.out
  clear hcut hT
  rename World => z2
  have hC := Lib.hid ((hC.out.below hq).mono hq.size)
  have hP := Lib.hid ((hP.out.below hq).mono hq.size)
  have hQ := Lib.hid ((hQ.out.below hq).mono hq.size)
  have ch := Lib.hid (ch.out.trans (hq.mono ch.out.size))
  clear hq
  go_wp2_with fail
  refine (made_d HD3.out (bIf_any _ _ _ _ _ _ _ _ _ c p q _ hC.out hP.out hQ.out)).mono ?_
  rintro e w7 ⟨vi, rfl, hT, hq⟩
  have hC := Lib.hid ((hC.out.below hq).mono hq.size)
  have hP := Lib.hid ((hP.out.below hq).mono hq.size)
  have hQ := Lib.hid ((hQ.out.below hq).mono hq.size)
  have ch := Lib.hid (ch.out.trans (hq.mono ch.out.size))
  clear hq
  have hT := Lib.hid hT
  go_upto_if 121 with fail
  go_cut [19, 20] from 122 to 152 (fun s0 s1 wx => Hid (Below w7.heap.size w7 wx))
  case first =>
    by_cases hd : d3 = 0
    · have hvP := HO3.out.resolve_right (fun e => by rw [hd] at e; cases e)
      have hT1 := Lib.hid (hT.out.1 hd)
      have HV := Lib.hid hvP.2
      obtain ⟨n, hn⟩ : ∃ n, max (regN c) (max (regN p) (regN q)) = n + 1 := ⟨max (mostN c) (max (mostN p) (mostN q)), by have := HMc.out; have := HMp.out; have := HMq.out; omega⟩
      have sg := Lib.hid (if_segs c p q n hn)
      have HB := Lib.hid (show n ≤ 27 ∧ mostN c ≤ n ∧ mostN p ≤ n ∧ mostN q ≤ n by have := HMc.out; have := HMp.out; have := HMq.out; have := HM.out; omega)
      subst hd
      clear hvP hn
      go_wp2_with fail
      obtain ⟨b0, hW⟩ : ∃ B, w7.alloc (.cells #[.string ⟨#[]⟩, .int .i64 1, .int .i64 0] 40) = B := ⟨_, rfl⟩
      rw [hW]
      have hq : Below w7.heap.size w7 b0 := by rw [← hW]; exact (Below.refl _ _).alloc (Nat.le_refl _) _
      have bx := Lib.hid (show Bx b0 w7.heap.size ⟨#[]⟩ 1 0 by unfold Bx; rw [← hW]; exact heap_alloc_new _ _)
      clear hW
      have hC := Lib.hid (hC.out.below hq)
      have hP := Lib.hid (hP.out.below hq)
      have hQ := Lib.hid (hQ.out.below hq)
      have hT1 := Lib.hid (hT1.out.below hq)
      have cb := Lib.hid hq
      clear hq
      have hs := Lib.hid (show (1 : Nat) ≤ 1 from Nat.le_refl _)
      have pg := Lib.hid (Pg.begin1 (ifL c p q) x HX.out n (by have := HB.out; omega) sg.out.m0)
      refine (part_pg (R' := Holds [(n, toTr x)]) _ w7.heap.size ⟨#[]⟩ 1 0 (.slice ca cn cc) x (by have := hs.out; omega) bx.out hC.out HVc.out pg.out sg.out.s0 (by have := sg.out.len; omega) (fun rest _ hr => by subst hr; exact cleaned_set HB.out.2.1 (by have := HB.out; omega)) (fun rest rest' _ _ hr he => holds_set HB.out.2.1 (by have := HB.out; omega) rest rest' hr he)).mono ?_
      rintro e b1 ⟨y1, S1, E1, rfl, bx, hs2, pg, hq⟩
      have hs := Lib.hid (show S1 ≤ 2001 by have h1 := hs.out; have h2 := hs2.out.1; omega)
      have hE1 := Lib.hid hs2.out.2.1
      have hZ1 := Lib.hid hs2.out.2.2
      clear hs2
      have hC := Lib.hid (hC.out.below hq)
      have hP := Lib.hid (hP.out.below hq)
      have hQ := Lib.hid (hQ.out.below hq)
      have hT1 := Lib.hid (hT1.out.below hq)
      have cb := Lib.hid (cb.out.trans hq)
      clear hq
      cases heq : (y1.toList == [48]) with
      | false =>
        have hy := Lib.hid (show ¬ y1 = ⟨#[48]⟩ from fun e => by rw [e, Lib.toList_data] at heq; simp at heq)
        have hnn : (!(y1.toList == [48])) = true := by rw [heq]; rfl
        go_wp2_with fail
        refine (other_pg (AtX (1 + c.length + 1 + 1 + (cleanP q).length + 2 + 1) x (Holds [(n, toTr x)])) _ w7.heap.size ⟨#[]⟩ S1 2 E1 (by have := hs.out; omega) bx.out pg.out (two_steps (K1 := AtX (1 + c.length + 1 + 1 + (cleanP q).length + 2) y1 (Holds [(n, toTr x)])) (fun s h => at_jump0_far sg.out.m1 hy.out _ (by omega) h) (fun s h => at_loadx sg.out.m5 (toTr_size x) (TS_toTr HX.out) (by simp) h)) 2 (by decide)).mono ?_
        rintro e b2 ⟨S2, rfl, bx, hs2, pg, hq⟩
        have hs := Lib.hid (show S2 ≤ 2003 by have h1 := hs.out; have h2 := hs2.out; omega)
        clear hs2
        have hC := Lib.hid (hC.out.below hq)
        have hP := Lib.hid (hP.out.below hq)
        have hQ := Lib.hid (hQ.out.below hq)
        have hT1 := Lib.hid (hT1.out.below hq)
        have cb := Lib.hid (cb.out.trans hq)
        clear hq
        go_wp2_with fail
        refine (cleaned_pg _ w7.heap.size ⟨#[]⟩ S2 E1 (.slice pa pn pc) x (by have := hs.out; omega) bx.out hP.out HVp.out pg.out sg.out.s2 (by have := sg.out.len; omega) (by intro p hp; have := HB.out; simp at hp; subst hp; simp; omega)).mono ?_
        rintro e b3 ⟨y3, S3, E3, rfl, bx, hs2, pg, hq⟩
        have hs := Lib.hid (show S3 ≤ 4103 by have h1 := hs.out; have h2 := hs2.out.1; omega)
        have hE3 := Lib.hid hs2.out.2.1
        have hZ3 := Lib.hid hs2.out.2.2
        clear hs2
        have hC := Lib.hid (hC.out.below hq)
        have hP := Lib.hid (hP.out.below hq)
        have hQ := Lib.hid (hQ.out.below hq)
        have hT1 := Lib.hid (hT1.out.below hq)
        have cb := Lib.hid (cb.out.trans hq)
        clear hq
        obtain ⟨c0, c1, c2, f0, f1, f2⟩ := bx.out.cells
        go_wp2_with fail
        have hq : Below w7.heap.size b3 (b3.setCell ⟨w7.heap.size, 0, none⟩ (.string y3)) := (Below.refl _ _).setCell (p := ⟨w7.heap.size, 0, none⟩) (Nat.le_refl _) _
        have bx := Lib.hid (bx.out.tree y3)
        clear c0 c1 c2 f0 f1 f2
        obtain ⟨b4, hW⟩ : ∃ B, b3.setCell ⟨w7.heap.size, 0, none⟩ (.string y3) = B := ⟨_, rfl⟩
        rw [hW] at hq bx ⊢
        clear hW
        have hC := Lib.hid (hC.out.below hq)
        have hP := Lib.hid (hP.out.below hq)
        have hQ := Lib.hid (hQ.out.below hq)
        have hT1 := Lib.hid (hT1.out.below hq)
        have cb := Lib.hid (cb.out.trans hq)
        clear hq
        refine (ends_any _ w7.heap.size y3 S3 E3 (by have := hs.out; omega) bx.out vi _ x hT1.out HV.out HX.out (Pg.ended (by have h := pg.out; rwa [show 1 + c.length + 1 + 1 + (cleanP q).length + 2 + 1 + (cleanP p).length = (ifL c p q).length by rw [sg.out.len]] at h))).mono ?_
        rintro e b5 ⟨rfl, hq⟩
        have hC := Lib.hid (hC.out.below hq)
        have hP := Lib.hid (hP.out.below hq)
        have hQ := Lib.hid (hQ.out.below hq)
        have hT1 := Lib.hid (hT1.out.below hq)
        have cb := Lib.hid (cb.out.trans hq)
        clear hq
        go_wp2_with fail
        go_meet
        exact cb
      | true =>
        have hy := Lib.hid (show y1 = ⟨#[48]⟩ from ba_ext (by rw [← Lib.toList_data]; exact eq_of_beq heq))
        have hnn : (!(y1.toList == [48])) = false := by rw [heq]; rfl
        go_wp2_with fail
        refine (other_pg (AtX (1 + c.length + 1 + 1) x (Holds [(n, toTr x)])) _ w7.heap.size ⟨#[]⟩ S1 2 E1 (by have := hs.out; omega) bx.out pg.out (two_steps (K1 := AtX (1 + c.length + 1) y1 (Holds [(n, toTr x)])) (fun s h => at_jump0_nil sg.out.m1 hy.out h) (fun s h => at_loadx sg.out.m2 (toTr_size x) (TS_toTr HX.out) (by simp) h)) 2 (by decide)).mono ?_
        rintro e b2 ⟨S2, rfl, bx, hs2, pg, hq⟩
        have hs := Lib.hid (show S2 ≤ 2003 by have h1 := hs.out; have h2 := hs2.out; omega)
        clear hs2
        have hC := Lib.hid (hC.out.below hq)
        have hP := Lib.hid (hP.out.below hq)
        have hQ := Lib.hid (hQ.out.below hq)
        have hT1 := Lib.hid (hT1.out.below hq)
        have cb := Lib.hid (cb.out.trans hq)
        clear hq
        go_wp2_with fail
        refine (cleaned_pg _ w7.heap.size ⟨#[]⟩ S2 E1 (.slice qa qn qc) x (by have := hs.out; omega) bx.out hQ.out HVq.out pg.out sg.out.s1 (by have := sg.out.len; omega) (by intro p hp; have := HB.out; simp at hp; subst hp; simp; omega)).mono ?_
        rintro e b3 ⟨y3, S3, E3, rfl, bx, hs2, pg, hq⟩
        have hs := Lib.hid (show S3 ≤ 4103 by have h1 := hs.out; have h2 := hs2.out.1; omega)
        have hE3 := Lib.hid hs2.out.2.1
        have hZ3 := Lib.hid hs2.out.2.2
        clear hs2
        have hC := Lib.hid (hC.out.below hq)
        have hP := Lib.hid (hP.out.below hq)
        have hQ := Lib.hid (hQ.out.below hq)
        have hT1 := Lib.hid (hT1.out.below hq)
        have cb := Lib.hid (cb.out.trans hq)
        clear hq
        obtain ⟨c0, c1, c2, f0, f1, f2⟩ := bx.out.cells
        go_wp2_with fail
        have hq : Below w7.heap.size b3 (b3.setCell ⟨w7.heap.size, 0, none⟩ (.string y3)) := (Below.refl _ _).setCell (p := ⟨w7.heap.size, 0, none⟩) (Nat.le_refl _) _
        have bx := Lib.hid (bx.out.tree y3)
        clear c0 c1 c2 f0 f1 f2
        obtain ⟨b4, hW⟩ : ∃ B, b3.setCell ⟨w7.heap.size, 0, none⟩ (.string y3) = B := ⟨_, rfl⟩
        rw [hW] at hq bx ⊢
        clear hW
        have hC := Lib.hid (hC.out.below hq)
        have hP := Lib.hid (hP.out.below hq)
        have hQ := Lib.hid (hQ.out.below hq)
        have hT1 := Lib.hid (hT1.out.below hq)
        have cb := Lib.hid (cb.out.trans hq)
        clear hq
        refine (other_pg (AtX (ifL c p q).length y3 (Holds [(n, toTr ⟨#[49, 48, 48]⟩)])) _ w7.heap.size y3 S3 2 E3 (by have := hs.out; omega) bx.out pg.out (two_steps (K1 := AtX (1 + c.length + 1 + 1 + (cleanP q).length + 1) y3 (Holds [(n, toTr ⟨#[49, 48, 48]⟩)])) (fun s h => at_set (hs := []) (by have := HB.out; omega) sg.out.m3 (fun p hp => by cases hp) (h.weak fun rest _ => Holds.nil _)) (fun s h => at_jump sg.out.m4 (List.mem_singleton.2 rfl) (by decide +kernel) _ (by rw [sg.out.len]; omega) h)) 2 (by decide)).mono ?_
        rintro e b5 ⟨S5, rfl, bx, hs2, pg, hq⟩
        have hs := Lib.hid (show S5 ≤ 4105 by have h1 := hs.out; have h2 := hs2.out; omega)
        clear hs2
        have hC := Lib.hid (hC.out.below hq)
        have hP := Lib.hid (hP.out.below hq)
        have hQ := Lib.hid (hQ.out.below hq)
        have hT1 := Lib.hid (hT1.out.below hq)
        have cb := Lib.hid (cb.out.trans hq)
        clear hq
        go_wp2_with fail
        refine (ends_any _ w7.heap.size y3 S5 E3 (by have := hs.out; omega) bx.out vi _ x hT1.out HV.out HX.out (pg.out.ended)).mono ?_
        rintro e b6 ⟨rfl, hq⟩
        have hC := Lib.hid (hC.out.below hq)
        have hP := Lib.hid (hP.out.below hq)
        have hQ := Lib.hid (hQ.out.below hq)
        have hT1 := Lib.hid (hT1.out.below hq)
        have cb := Lib.hid (cb.out.trans hq)
        clear hq
        go_wp2_with fail
        go_meet
        exact cb
    · go_wp2_with fail
      go_meet
      exact Lib.hid (Below.refl _ _)
  case rest =>
  have hq := hcut.out
  clear hcut hT
  rename World => z3
  have hC := Lib.hid ((hC.out.below hq).mono hq.size)
  have hP := Lib.hid ((hP.out.below hq).mono hq.size)
  have hQ := Lib.hid ((hQ.out.below hq).mono hq.size)
  have ch := Lib.hid (ch.out.trans (hq.mono ch.out.size))
  clear hq
  have h1 := HO1.out
  have h2 := HO2.out
  have h3 := HO3.out
  have ka := Lib.hid awake_any
  clear kT hC hP hQ
  have HCH := ch
  rcases h1 with ⟨rfl, _⟩ | rfl <;> rcases h2 with ⟨rfl, _⟩ | rfl <;> rcases h3 with ⟨rfl, _⟩ | rfl
  all_goals (
    go_wp2_with fail
    refine (ka.out _).mono ?_
    rintro e wz ⟨rfl, hqz⟩
    go_wp2
    go_ret
    exact ⟨rfl, HCH.out.trans (hqz.mono HCH.out.size)⟩)

theorem law_BuildRuns {w : World} (vc : Value) (c : List Ins) (hc : InsRow w w.heap.size vc c) (vp : Value) (p : List Ins) (hp : InsRow w w.heap.size vp p) (vq : Value) (q : List Ins) (hq : InsRow w w.heap.size vq q) (x : ByteArray) (hx : x.size ≤ 140737488355328) :
    Calls Try.prog 6 #[vc, vp, vq, .string x] w fun e w' => e = .returned (.bool true) ∧ Below w.heap.size w w' := by
  obtain ⟨ca, cc, rfl⟩ := hc.len
  obtain ⟨pa, pc, rfl⟩ := hp.len
  obtain ⟨qa, qc, rfl⟩ := hq.len
  by_cases hd : dueF [c, p, q] [] = 0
  · cases ht : isTree x with
    | true => exact runs_main _ _ _ _ _ _ _ _ _ c p q x hx hc hp hq (Lib.hid hd) (Lib.hid ht)
    | false => exact runs_notree _ _ _ _ _ _ _ _ _ c p q x hx hc hp hq (Lib.hid hd) (Lib.hid ht)
  · exact runs_due _ _ _ _ _ _ _ _ _ c p q x hx hc hp hq _ (Lib.hid rfl) hd

end Go.Proofs.Ytaiomcjopgnfpaa


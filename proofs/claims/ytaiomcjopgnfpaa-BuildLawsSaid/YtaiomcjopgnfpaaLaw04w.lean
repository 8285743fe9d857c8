/- law04: BuildLaws. -/
import Derived.Test.YtaiomcjopgnfpaaLawsP4
namespace Go.Proofs.Ytaiomcjopgnfpaa
open Go.RowKit

theorem tb_some {w : World} {B : Nat} {d : Int} {m : List Ins} {v : Value} (h : TB w B d m v) (hv : d = 0 → validB m = true) : ∃ P, InsRow w B v P ∧ validB P = true ∧ (d = 0 → P = m) := by
  by_cases hd : d = 0
  · exact ⟨m, h.1 hd, hv hd, fun _ => rfl⟩
  · exact ⟨[], by rw [h.2 hd]; exact row_nil w B, by decide, fun e => absurd e hd⟩
theorem setI_valid (d : ByteArray) (hd : isTree d = true) : validB [setI 0 d] = true ∧ regN [setI 0 d] = 1 := by
  obtain ⟨t, rfl, ht⟩ := isTree_get hd
  have hr : rightAll [setI 0 (TS t)] = true := RA.all (RA.cons (ra_set _ _ _ _ (by omega) hd) (RA.nil _ _))
  refine ⟨?_, by simp [regN, mostN, rX, setI]⟩
  unfold validB
  rw [hr]
  have : trees [setI 0 (TS t)] = t.size := by simp [trees, setI, TS_size]
  rw [this]
  simp [ht]
def Both (df dg : Int) (a b : Nat) : Prop := df = 0 ∧ dg = 0 ∧ a ≤ 28 ∧ b ≤ 28
def Three (es dt : Int) (a : Nat) : Prop := es = 0 ∧ dt = 0 ∧ a < 2000000
theorem headI_valid : validB [headI] = true := by decide +kernel

set_option maxRecDepth 100000 in
set_option maxHeartbeats 16000000 in
theorem laws_due {w : World} (pa : Option Addr) (pn pc : Nat) (qa : Option Addr) (qn qc : Nat) (ra : Option Addr) (rn rc : Nat) (p q r : List Ins) (x d : ByteArray) (hxs : x.size ≤ 140737488355328) (hds : d.size ≤ 140737488355328) (hhP : InsRow w w.heap.size (.slice pa pn pc) p) (hhQ : InsRow w w.heap.size (.slice qa qn qc) q) (hhR : InsRow w w.heap.size (.slice ra rn rc) r) (d0 : Int) (HD : Hid (dueF [p, q, r] [] = d0)) (hd : d0 ≠ 0) :
    Calls Try.prog 5 #[.slice pa pn pc, .slice qa qn qc, .slice ra rn rc, .string x, .string d] w fun e w' => e = .returned (.bool true) ∧ Below w.heap.size w w' := by
  have hP := Lib.hid hhP
  have hQ := Lib.hid hhQ
  have hR := Lib.hid hhR
  clear hhP hhQ hhR
  have ch := Lib.hid (Below.refl w.heap.size w)
  go_enter Try.func5, Try.ntmps5
  go_wp2_with fail
  have hL0 := ProgsRow.lit (w := w) [.slice pa pn pc, .slice qa qn qc, .slice ra rn rc] [p, q, r] rfl (by simp) (fun j u l hu hl => match j, u, l, hu, hl with | 0, _, _, hu, hl => by cases hu; cases hl; exact hP.out | 1, _, _, hu, hl => by cases hu; cases hl; exact hQ.out | 2, _, _, hu, hl => by cases hu; cases hl; exact hR.out)
  obtain ⟨w1, hW⟩ : ∃ B, w.alloc (.cells #[.slice pa pn pc, .slice qa qn qc, .slice ra rn rc] 25) = B := ⟨_, rfl⟩
  rw [hW]
  have hq : Below w.heap.size w w1 := by rw [← hW]; exact (Below.refl _ _).alloc (Nat.le_refl _) _
  have hL := Lib.hid (show ProgsRow w1 w1.heap.size (.slice (some ⟨w.heap.size, 0, none⟩) 3 3) [p, q, r] by rw [← hW]; exact hL0)
  clear hW hL0
  have hP := Lib.hid ((hP.out.below hq).mono hq.size)
  have hQ := Lib.hid ((hQ.out.below hq).mono hq.size)
  have hR := Lib.hid ((hR.out.below hq).mono hq.size)
  have ch := Lib.hid (ch.out.trans (hq.mono ch.out.size))
  clear hq
  refine (due_val d0 _ _ [p, q, r] [] _ HD.out hL.out (row_nil _ _)).mono ?_
  rintro e w2 ⟨rfl, hq⟩
  have hP := Lib.hid ((hP.out.below hq).mono hq.size)
  have hQ := Lib.hid ((hQ.out.below hq).mono hq.size)
  have hR := Lib.hid ((hR.out.below hq).mono hq.size)
  have hL := Lib.hid ((hL.out.below hq).mono hq.size)
  have ch := Lib.hid (ch.out.trans (hq.mono ch.out.size))
  clear hq
  go_wp2_with fail
  refine (awake_any _).mono ?_
  rintro e w3 ⟨rfl, hq⟩
  have hP := Lib.hid ((hP.out.below hq).mono hq.size)
  have hQ := Lib.hid ((hQ.out.below hq).mono hq.size)
  have hR := Lib.hid ((hR.out.below hq).mono hq.size)
  have hL := Lib.hid ((hL.out.below hq).mono hq.size)
  have ch := Lib.hid (ch.out.trans (hq.mono ch.out.size))
  clear hq
  go_wp2
  go_ret
  exact ⟨rfl, ch.out⟩

set_option maxRecDepth 100000 in
set_option maxHeartbeats 16000000 in
theorem laws_notree {w : World} (pa : Option Addr) (pn pc : Nat) (qa : Option Addr) (qn qc : Nat) (ra : Option Addr) (rn rc : Nat) (p q r : List Ins) (x d : ByteArray) (hxs : x.size ≤ 140737488355328) (hds : d.size ≤ 140737488355328) (hhP : InsRow w w.heap.size (.slice pa pn pc) p) (hhQ : InsRow w w.heap.size (.slice qa qn qc) q) (hhR : InsRow w w.heap.size (.slice ra rn rc) r) (HD : Hid (dueF [p, q, r] [] = 0)) (HX : Hid (isTree x = false)) :
    Calls Try.prog 5 #[.slice pa pn pc, .slice qa qn qc, .slice ra rn rc, .string x, .string d] w fun e w' => e = .returned (.bool true) ∧ Below w.heap.size w w' := by
  have hP := Lib.hid hhP
  have hQ := Lib.hid hhQ
  have hR := Lib.hid hhR
  clear hhP hhQ hhR
  have ch := Lib.hid (Below.refl w.heap.size w)
  go_enter Try.func5, Try.ntmps5
  go_wp2_with fail
  have hL0 := ProgsRow.lit (w := w) [.slice pa pn pc, .slice qa qn qc, .slice ra rn rc] [p, q, r] rfl (by simp) (fun j u l hu hl => match j, u, l, hu, hl with | 0, _, _, hu, hl => by cases hu; cases hl; exact hP.out | 1, _, _, hu, hl => by cases hu; cases hl; exact hQ.out | 2, _, _, hu, hl => by cases hu; cases hl; exact hR.out)
  obtain ⟨w1, hW⟩ : ∃ B, w.alloc (.cells #[.slice pa pn pc, .slice qa qn qc, .slice ra rn rc] 25) = B := ⟨_, rfl⟩
  rw [hW]
  have hq : Below w.heap.size w w1 := by rw [← hW]; exact (Below.refl _ _).alloc (Nat.le_refl _) _
  have hL := Lib.hid (show ProgsRow w1 w1.heap.size (.slice (some ⟨w.heap.size, 0, none⟩) 3 3) [p, q, r] by rw [← hW]; exact hL0)
  clear hW hL0
  have hP := Lib.hid ((hP.out.below hq).mono hq.size)
  have hQ := Lib.hid ((hQ.out.below hq).mono hq.size)
  have hR := Lib.hid ((hR.out.below hq).mono hq.size)
  have ch := Lib.hid (ch.out.trans (hq.mono ch.out.size))
  clear hq
  refine (due_val 0 _ _ [p, q, r] [] _ HD.out hL.out (row_nil _ _)).mono ?_
  rintro e w2 ⟨rfl, hq⟩
  have hP := Lib.hid ((hP.out.below hq).mono hq.size)
  have hQ := Lib.hid ((hQ.out.below hq).mono hq.size)
  have hR := Lib.hid ((hR.out.below hq).mono hq.size)
  have hL := Lib.hid ((hL.out.below hq).mono hq.size)
  have ch := Lib.hid (ch.out.trans (hq.mono ch.out.size))
  clear hq
  go_wp2_with fail
  refine (tvalid_at x hxs false HX.out _).mono ?_
  rintro e w3 ⟨rfl, hq⟩
  have hP := Lib.hid ((hP.out.below hq).mono hq.size)
  have hQ := Lib.hid ((hQ.out.below hq).mono hq.size)
  have hR := Lib.hid ((hR.out.below hq).mono hq.size)
  have hL := Lib.hid ((hL.out.below hq).mono hq.size)
  have ch := Lib.hid (ch.out.trans (hq.mono ch.out.size))
  clear hq
  go_wp2_with fail
  refine (awake_any _).mono ?_
  rintro e w4 ⟨rfl, hq⟩
  have hP := Lib.hid ((hP.out.below hq).mono hq.size)
  have hQ := Lib.hid ((hQ.out.below hq).mono hq.size)
  have hR := Lib.hid ((hR.out.below hq).mono hq.size)
  have hL := Lib.hid ((hL.out.below hq).mono hq.size)
  have ch := Lib.hid (ch.out.trans (hq.mono ch.out.size))
  clear hq
  go_wp2
  go_ret
  exact ⟨rfl, ch.out⟩

set_option maxRecDepth 100000 in
set_option maxHeartbeats 16000000 in
theorem laws_notree2 {w : World} (pa : Option Addr) (pn pc : Nat) (qa : Option Addr) (qn qc : Nat) (ra : Option Addr) (rn rc : Nat) (p q r : List Ins) (x d : ByteArray) (hxs : x.size ≤ 140737488355328) (hds : d.size ≤ 140737488355328) (hhP : InsRow w w.heap.size (.slice pa pn pc) p) (hhQ : InsRow w w.heap.size (.slice qa qn qc) q) (hhR : InsRow w w.heap.size (.slice ra rn rc) r) (HD : Hid (dueF [p, q, r] [] = 0)) (HX : Hid (isTree x = true)) (HY : Hid (isTree d = false)) :
    Calls Try.prog 5 #[.slice pa pn pc, .slice qa qn qc, .slice ra rn rc, .string x, .string d] w fun e w' => e = .returned (.bool true) ∧ Below w.heap.size w w' := by
  have hP := Lib.hid hhP
  have hQ := Lib.hid hhQ
  have hR := Lib.hid hhR
  clear hhP hhQ hhR
  have ch := Lib.hid (Below.refl w.heap.size w)
  go_enter Try.func5, Try.ntmps5
  go_wp2_with fail
  have hL0 := ProgsRow.lit (w := w) [.slice pa pn pc, .slice qa qn qc, .slice ra rn rc] [p, q, r] rfl (by simp) (fun j u l hu hl => match j, u, l, hu, hl with | 0, _, _, hu, hl => by cases hu; cases hl; exact hP.out | 1, _, _, hu, hl => by cases hu; cases hl; exact hQ.out | 2, _, _, hu, hl => by cases hu; cases hl; exact hR.out)
  obtain ⟨w1, hW⟩ : ∃ B, w.alloc (.cells #[.slice pa pn pc, .slice qa qn qc, .slice ra rn rc] 25) = B := ⟨_, rfl⟩
  rw [hW]
  have hq : Below w.heap.size w w1 := by rw [← hW]; exact (Below.refl _ _).alloc (Nat.le_refl _) _
  have hL := Lib.hid (show ProgsRow w1 w1.heap.size (.slice (some ⟨w.heap.size, 0, none⟩) 3 3) [p, q, r] by rw [← hW]; exact hL0)
  clear hW hL0
  have hP := Lib.hid ((hP.out.below hq).mono hq.size)
  have hQ := Lib.hid ((hQ.out.below hq).mono hq.size)
  have hR := Lib.hid ((hR.out.below hq).mono hq.size)
  have ch := Lib.hid (ch.out.trans (hq.mono ch.out.size))
  clear hq
  refine (due_val 0 _ _ [p, q, r] [] _ HD.out hL.out (row_nil _ _)).mono ?_
  rintro e w2 ⟨rfl, hq⟩
  have hP := Lib.hid ((hP.out.below hq).mono hq.size)
  have hQ := Lib.hid ((hQ.out.below hq).mono hq.size)
  have hR := Lib.hid ((hR.out.below hq).mono hq.size)
  have hL := Lib.hid ((hL.out.below hq).mono hq.size)
  have ch := Lib.hid (ch.out.trans (hq.mono ch.out.size))
  clear hq
  go_wp2_with fail
  refine (tvalid_at x hxs true HX.out _).mono ?_
  rintro e w3 ⟨rfl, hq⟩
  have hP := Lib.hid ((hP.out.below hq).mono hq.size)
  have hQ := Lib.hid ((hQ.out.below hq).mono hq.size)
  have hR := Lib.hid ((hR.out.below hq).mono hq.size)
  have hL := Lib.hid ((hL.out.below hq).mono hq.size)
  have ch := Lib.hid (ch.out.trans (hq.mono ch.out.size))
  clear hq
  go_wp2_with fail
  refine (tvalid_at d hds false HY.out _).mono ?_
  rintro e w4 ⟨rfl, hq⟩
  have hP := Lib.hid ((hP.out.below hq).mono hq.size)
  have hQ := Lib.hid ((hQ.out.below hq).mono hq.size)
  have hR := Lib.hid ((hR.out.below hq).mono hq.size)
  have hL := Lib.hid ((hL.out.below hq).mono hq.size)
  have ch := Lib.hid (ch.out.trans (hq.mono ch.out.size))
  clear hq
  go_wp2_with fail
  refine (awake_any _).mono ?_
  rintro e w5 ⟨rfl, hq⟩
  have hP := Lib.hid ((hP.out.below hq).mono hq.size)
  have hQ := Lib.hid ((hQ.out.below hq).mono hq.size)
  have hR := Lib.hid ((hR.out.below hq).mono hq.size)
  have hL := Lib.hid ((hL.out.below hq).mono hq.size)
  have ch := Lib.hid (ch.out.trans (hq.mono ch.out.size))
  clear hq
  go_wp2
  go_ret
  exact ⟨rfl, ch.out⟩

set_option maxRecDepth 100000 in
set_option maxHeartbeats 16000000 in
theorem laws_err {w : World} (pa : Option Addr) (pn pc : Nat) (qa : Option Addr) (qn qc : Nat) (ra : Option Addr) (rn rc : Nat) (p q r : List Ins) (x d : ByteArray) (hxs : x.size ≤ 140737488355328) (hds : d.size ≤ 140737488355328) (hhP : InsRow w w.heap.size (.slice pa pn pc) p) (hhQ : InsRow w w.heap.size (.slice qa qn qc) q) (hhR : InsRow w w.heap.size (.slice ra rn rc) r) (HD : Hid (dueF [p, q, r] [] = 0)) (HX : Hid (isTree x = true)) (HY : Hid (isTree d = true)) (HVp : Hid (validB p = true)) (y : ByteArray) (n : Nat) (e0 : Int) (HR0 : Hid ((goF p 2000 0 (startS (toTr x))).run = (y, n, e0))) (he : e0 ≠ 0) :
    Calls Try.prog 5 #[.slice pa pn pc, .slice qa qn qc, .slice ra rn rc, .string x, .string d] w fun e w' => e = .returned (.bool true) ∧ Below w.heap.size w w' := by
  have hP := Lib.hid hhP
  have hQ := Lib.hid hhQ
  have hR := Lib.hid hhR
  clear hhP hhQ hhR
  have ch := Lib.hid (Below.refl w.heap.size w)
  go_enter Try.func5, Try.ntmps5
  go_wp2_with fail
  have hL0 := ProgsRow.lit (w := w) [.slice pa pn pc, .slice qa qn qc, .slice ra rn rc] [p, q, r] rfl (by simp) (fun j u l hu hl => match j, u, l, hu, hl with | 0, _, _, hu, hl => by cases hu; cases hl; exact hP.out | 1, _, _, hu, hl => by cases hu; cases hl; exact hQ.out | 2, _, _, hu, hl => by cases hu; cases hl; exact hR.out)
  obtain ⟨w1, hW⟩ : ∃ B, w.alloc (.cells #[.slice pa pn pc, .slice qa qn qc, .slice ra rn rc] 25) = B := ⟨_, rfl⟩
  rw [hW]
  have hq : Below w.heap.size w w1 := by rw [← hW]; exact (Below.refl _ _).alloc (Nat.le_refl _) _
  have hL := Lib.hid (show ProgsRow w1 w1.heap.size (.slice (some ⟨w.heap.size, 0, none⟩) 3 3) [p, q, r] by rw [← hW]; exact hL0)
  clear hW hL0
  have hP := Lib.hid ((hP.out.below hq).mono hq.size)
  have hQ := Lib.hid ((hQ.out.below hq).mono hq.size)
  have hR := Lib.hid ((hR.out.below hq).mono hq.size)
  have ch := Lib.hid (ch.out.trans (hq.mono ch.out.size))
  clear hq
  refine (due_val 0 _ _ [p, q, r] [] _ HD.out hL.out (row_nil _ _)).mono ?_
  rintro e w2 ⟨rfl, hq⟩
  have hP := Lib.hid ((hP.out.below hq).mono hq.size)
  have hQ := Lib.hid ((hQ.out.below hq).mono hq.size)
  have hR := Lib.hid ((hR.out.below hq).mono hq.size)
  have hL := Lib.hid ((hL.out.below hq).mono hq.size)
  have ch := Lib.hid (ch.out.trans (hq.mono ch.out.size))
  clear hq
  go_wp2_with fail
  refine (tvalid_at x hxs true HX.out _).mono ?_
  rintro e w3 ⟨rfl, hq⟩
  have hP := Lib.hid ((hP.out.below hq).mono hq.size)
  have hQ := Lib.hid ((hQ.out.below hq).mono hq.size)
  have hR := Lib.hid ((hR.out.below hq).mono hq.size)
  have hL := Lib.hid ((hL.out.below hq).mono hq.size)
  have ch := Lib.hid (ch.out.trans (hq.mono ch.out.size))
  clear hq
  go_wp2_with fail
  refine (tvalid_at d hds true HY.out _).mono ?_
  rintro e w4 ⟨rfl, hq⟩
  have hP := Lib.hid ((hP.out.below hq).mono hq.size)
  have hQ := Lib.hid ((hQ.out.below hq).mono hq.size)
  have hR := Lib.hid ((hR.out.below hq).mono hq.size)
  have hL := Lib.hid ((hL.out.below hq).mono hq.size)
  have ch := Lib.hid (ch.out.trans (hq.mono ch.out.size))
  clear hq
  go_wp2_with fail
  refine (twin_any _ p _ hP.out).mono ?_
  rintro e w5 ⟨vtw, rfl, hTw, hq⟩
  have hP := Lib.hid ((hP.out.below hq).mono hq.size)
  have hQ := Lib.hid ((hQ.out.below hq).mono hq.size)
  have hR := Lib.hid ((hR.out.below hq).mono hq.size)
  have hL := Lib.hid ((hL.out.below hq).mono hq.size)
  have ch := Lib.hid (ch.out.trans (hq.mono ch.out.size))
  clear hq
  have hTw := Lib.hid hTw
  go_wp2_with fail
  refine (runOk_at 2000 2000 y n e0 HR0.out HVp.out (toTr_size x) (TS_toTr HX.out) rfl (by decide) hTw.out).mono ?_
  rintro e w6 ⟨rfl, hq⟩
  have hP := Lib.hid ((hP.out.below hq).mono hq.size)
  have hQ := Lib.hid ((hQ.out.below hq).mono hq.size)
  have hR := Lib.hid ((hR.out.below hq).mono hq.size)
  have hL := Lib.hid ((hL.out.below hq).mono hq.size)
  have hTw := Lib.hid ((hTw.out.below hq).mono hq.size)
  have ch := Lib.hid (ch.out.trans (hq.mono ch.out.size))
  clear hq
  go_wp2_with fail
  refine (awake_any _).mono ?_
  rintro e w7 ⟨rfl, hq⟩
  have hP := Lib.hid ((hP.out.below hq).mono hq.size)
  have hQ := Lib.hid ((hQ.out.below hq).mono hq.size)
  have hR := Lib.hid ((hR.out.below hq).mono hq.size)
  have hL := Lib.hid ((hL.out.below hq).mono hq.size)
  have hTw := Lib.hid ((hTw.out.below hq).mono hq.size)
  have ch := Lib.hid (ch.out.trans (hq.mono ch.out.size))
  clear hq
  go_wp2
  go_ret
  exact ⟨rfl, ch.out⟩

set_option maxRecDepth 100000 in
set_option maxHeartbeats 16000000 in
theorem laws_main {w : World} (pa : Option Addr) (pn pc : Nat) (qa : Option Addr) (qn qc : Nat) (ra : Option Addr) (rn rc : Nat) (p q r : List Ins) (x d : ByteArray) (hxs : x.size ≤ 140737488355328) (hds : d.size ≤ 140737488355328) (hhP : InsRow w w.heap.size (.slice pa pn pc) p) (hhQ : InsRow w w.heap.size (.slice qa qn qc) q) (hhR : InsRow w w.heap.size (.slice ra rn rc) r) (HD : Hid (dueF [p, q, r] [] = 0)) (HX : Hid (isTree x = true)) (HY : Hid (isTree d = true)) (y : ByteArray) (n : Nat) (HR0 : Hid ((goF p 2000 0 (startS (toTr x))).run = (y, n, 0))) :
    Calls Try.prog 5 #[.slice pa pn pc, .slice qa qn qc, .slice ra rn rc, .string x, .string d] w fun e w' => e = .returned (.bool true) ∧ Below w.heap.size w w' := by
  have hP := Lib.hid hhP
  have hQ := Lib.hid hhQ
  have hR := Lib.hid hhR
  clear hhP hhQ hhR
  have ch := Lib.hid (Below.refl w.heap.size w)
  have hvm := dueF_zero HD.out
  obtain ⟨hvp0, hvq0, hvr0⟩ := allV_three hvm.1
  have HVp := Lib.hid hvp0
  have HVq := Lib.hid hvq0
  have HVr := Lib.hid hvr0
  have hmr := hvm.2
  rw [mostR_three] at hmr
  have HM := Lib.hid hmr
  have hNy := Lib.hid (show n ≤ 2000 ∧ y.size ≤ 2000000 by
    have h1 := goF_steps_le p 2000 (startS (toTr x))
    rw [HR0.out] at h1
    refine ⟨h1, ?_⟩
    obtain ⟨t, _, _, h2, _, h3⟩ := done_of_run HR0.out
    rw [← h3, TS_size]
    exact getR_size (h2.good (validB_all hvp0) (Good.start _ _ (toTr_size x))).2.2 0)
  have hn2 : n ≤ 2000 := hNy.out.1
  have hy2 : y.size ≤ 2000000 := hNy.out.2
  have HSd := Lib.hid (setI_valid d HY.out)
  obtain ⟨df, hdf⟩ : ∃ e, dueN [p, q] (thenL [p, q]) = e := ⟨_, rfl⟩
  obtain ⟨dg, hdg⟩ : ∃ e, dueN [q, r] (thenL [q, r]) = e := ⟨_, rfl⟩
  obtain ⟨di, hdi⟩ : ∃ e, dueN [[], p] (thenL [[], p]) = e := ⟨_, rfl⟩
  obtain ⟨dl, hdl⟩ : ∃ e, dueN [p, [setI 0 d]] (thenL [p, [setI 0 d]]) = e := ⟨_, rfl⟩
  obtain ⟨dt, hdt⟩ : ∃ e, dueN [p, q] (pairL p q) = e := ⟨_, rfl⟩
  have v0 : validB [] = true := by decide
  have HOf := Lib.hid (by have h := dueN_03 (ls := [p, q]) (thenL [p, q]) (by rw [allV2, hvp0, hvq0]; rfl) (by rw [mostR_two]; omega); rwa [hdf] at h)
  have HOg := Lib.hid (by have h := dueN_03 (ls := [q, r]) (thenL [q, r]) (by rw [allV2, hvq0, hvr0]; rfl) (by rw [mostR_two]; omega); rwa [hdg] at h)
  have HOi := Lib.hid (by have h := dueN_03 (ls := [[], p]) (thenL [[], p]) (by rw [allV2, v0, hvp0]; rfl) (by rw [mostR_two]; have : regN ([] : List Ins) = 1 := rfl; omega); rwa [hdi] at h)
  have HOl := Lib.hid (by have h := dueN_03 (ls := [p, [setI 0 d]]) (thenL [p, [setI 0 d]]) (by rw [allV2, hvp0, HSd.out.1]; rfl) (by rw [mostR_two, HSd.out.2]; omega); rwa [hdl] at h)
  have HOt := Lib.hid (by have h := dueN_03 (ls := [p, q]) (pairL p q) (by rw [allV2, hvp0, hvq0]; rfl) (by rw [mostR_two]; omega); rwa [hdt] at h)
  have HDn := Lib.hid (show dueN [p, []] (thenL [p, []]) = 0 by
    unfold dueN
    rw [if_neg (by rw [allV2, hvp0, v0]; simp), if_neg (by rw [mostR_two]; have : regN ([] : List Ins) = 1 := rfl; omega), then_nil, if_pos hvp0])
  have HDf := Lib.hid hdf
  have HDg := Lib.hid hdg
  have HDi := Lib.hid hdi
  have HDl := Lib.hid hdl
  have HDt := Lib.hid hdt
  clear hdf hdg hdi hdl hdt hvm hvp0 hvq0 hvr0 hmr v0
  go_enter Try.func5, Try.ntmps5
  go_wp2_with fail
  have hL0 := ProgsRow.lit (w := w) [.slice pa pn pc, .slice qa qn qc, .slice ra rn rc] [p, q, r] rfl (by simp) (fun j u l hu hl => match j, u, l, hu, hl with | 0, _, _, hu, hl => by cases hu; cases hl; exact hP.out | 1, _, _, hu, hl => by cases hu; cases hl; exact hQ.out | 2, _, _, hu, hl => by cases hu; cases hl; exact hR.out)
  obtain ⟨w1, hW⟩ : ∃ B, w.alloc (.cells #[.slice pa pn pc, .slice qa qn qc, .slice ra rn rc] 25) = B := ⟨_, rfl⟩
  rw [hW]
  have hq : Below w.heap.size w w1 := by rw [← hW]; exact (Below.refl _ _).alloc (Nat.le_refl _) _
  have hL := Lib.hid (show ProgsRow w1 w1.heap.size (.slice (some ⟨w.heap.size, 0, none⟩) 3 3) [p, q, r] by rw [← hW]; exact hL0)
  clear hW hL0
  have hP := Lib.hid ((hP.out.below hq).mono hq.size)
  have hQ := Lib.hid ((hQ.out.below hq).mono hq.size)
  have hR := Lib.hid ((hR.out.below hq).mono hq.size)
  have ch := Lib.hid (ch.out.trans (hq.mono ch.out.size))
  clear hq
  refine (due_val 0 _ _ [p, q, r] [] _ HD.out hL.out (row_nil _ _)).mono ?_
  rintro e w2 ⟨rfl, hq⟩
  have hP := Lib.hid ((hP.out.below hq).mono hq.size)
  have hQ := Lib.hid ((hQ.out.below hq).mono hq.size)
  have hR := Lib.hid ((hR.out.below hq).mono hq.size)
  have hL := Lib.hid ((hL.out.below hq).mono hq.size)
  have ch := Lib.hid (ch.out.trans (hq.mono ch.out.size))
  clear hq
  clear hL
  go_wp2_with fail
  refine (tvalid_at x hxs true HX.out _).mono ?_
  rintro e w3 ⟨rfl, hq⟩
  have hP := Lib.hid ((hP.out.below hq).mono hq.size)
  have hQ := Lib.hid ((hQ.out.below hq).mono hq.size)
  have hR := Lib.hid ((hR.out.below hq).mono hq.size)
  have ch := Lib.hid (ch.out.trans (hq.mono ch.out.size))
  clear hq
  go_wp2_with fail
  refine (tvalid_at d hds true HY.out _).mono ?_
  rintro e w4 ⟨rfl, hq⟩
  have hP := Lib.hid ((hP.out.below hq).mono hq.size)
  have hQ := Lib.hid ((hQ.out.below hq).mono hq.size)
  have hR := Lib.hid ((hR.out.below hq).mono hq.size)
  have ch := Lib.hid (ch.out.trans (hq.mono ch.out.size))
  clear hq
  go_wp2_with fail
  refine (twin_any _ p _ hP.out).mono ?_
  rintro e w5 ⟨vtw, rfl, hTw, hq⟩
  have hP := Lib.hid ((hP.out.below hq).mono hq.size)
  have hQ := Lib.hid ((hQ.out.below hq).mono hq.size)
  have hR := Lib.hid ((hR.out.below hq).mono hq.size)
  have ch := Lib.hid (ch.out.trans (hq.mono ch.out.size))
  clear hq
  have hTw := Lib.hid hTw
  go_wp2_with fail
  refine (runOk_at 2000 2000 y n 0 HR0.out HVp.out (toTr_size x) (TS_toTr HX.out) rfl (by decide) hTw.out).mono ?_
  rintro e w6 ⟨rfl, hq⟩
  have hP := Lib.hid ((hP.out.below hq).mono hq.size)
  have hQ := Lib.hid ((hQ.out.below hq).mono hq.size)
  have hR := Lib.hid ((hR.out.below hq).mono hq.size)
  have hTw := Lib.hid ((hTw.out.below hq).mono hq.size)
  have ch := Lib.hid (ch.out.trans (hq.mono ch.out.size))
  clear hq
  clear hTw
  go_wp2_with fail
  have hL0 := ProgsRow.lit (w := w6) [.slice pa pn pc, .slice qa qn qc] [p, q] rfl (by simp) (fun j u l hu hl => match j, u, l, hu, hl with | 0, _, _, hu, hl => by cases hu; cases hl; exact hP.out | 1, _, _, hu, hl => by cases hu; cases hl; exact hQ.out)
  obtain ⟨w7, hW⟩ : ∃ B, w6.alloc (.cells #[.slice pa pn pc, .slice qa qn qc] 25) = B := ⟨_, rfl⟩
  rw [hW]
  have hq : Below w6.heap.size w6 w7 := by rw [← hW]; exact (Below.refl _ _).alloc (Nat.le_refl _) _
  have hL := Lib.hid (show ProgsRow w7 w7.heap.size (.slice (some ⟨w6.heap.size, 0, none⟩) 2 2) [p, q] by rw [← hW]; exact hL0)
  clear hW hL0
  have hP := Lib.hid ((hP.out.below hq).mono hq.size)
  have hQ := Lib.hid ((hQ.out.below hq).mono hq.size)
  have hR := Lib.hid ((hR.out.below hq).mono hq.size)
  have ch := Lib.hid (ch.out.trans (hq.mono ch.out.size))
  clear hq
  refine (made_d HDf.out (bThen_any _ _ _ [p, q] _ hL.out)).mono ?_
  rintro e w8 ⟨vl, rfl, hTl, hq⟩
  have hP := Lib.hid ((hP.out.below hq).mono hq.size)
  have hQ := Lib.hid ((hQ.out.below hq).mono hq.size)
  have hR := Lib.hid ((hR.out.below hq).mono hq.size)
  have hL := Lib.hid ((hL.out.below hq).mono hq.size)
  have ch := Lib.hid (ch.out.trans (hq.mono ch.out.size))
  clear hq
  have hTl := Lib.hid hTl
  clear hL
  go_wp2_with fail
  have hL0 := ProgsRow.lit (w := w8) [.slice qa qn qc, .slice ra rn rc] [q, r] rfl (by simp) (fun j u l hu hl => match j, u, l, hu, hl with | 0, _, _, hu, hl => by cases hu; cases hl; exact hQ.out | 1, _, _, hu, hl => by cases hu; cases hl; exact hR.out)
  obtain ⟨w9, hW⟩ : ∃ B, w8.alloc (.cells #[.slice qa qn qc, .slice ra rn rc] 25) = B := ⟨_, rfl⟩
  rw [hW]
  have hq : Below w8.heap.size w8 w9 := by rw [← hW]; exact (Below.refl _ _).alloc (Nat.le_refl _) _
  have hL := Lib.hid (show ProgsRow w9 w9.heap.size (.slice (some ⟨w8.heap.size, 0, none⟩) 2 2) [q, r] by rw [← hW]; exact hL0)
  clear hW hL0
  have hP := Lib.hid ((hP.out.below hq).mono hq.size)
  have hQ := Lib.hid ((hQ.out.below hq).mono hq.size)
  have hR := Lib.hid ((hR.out.below hq).mono hq.size)
  have hTl := Lib.hid ((hTl.out.below hq).mono hq.size)
  have ch := Lib.hid (ch.out.trans (hq.mono ch.out.size))
  clear hq
  refine (made_d HDg.out (bThen_any _ _ _ [q, r] _ hL.out)).mono ?_
  rintro e w10 ⟨vr, rfl, hTr, hq⟩
  have hP := Lib.hid ((hP.out.below hq).mono hq.size)
  have hQ := Lib.hid ((hQ.out.below hq).mono hq.size)
  have hR := Lib.hid ((hR.out.below hq).mono hq.size)
  have hTl := Lib.hid ((hTl.out.below hq).mono hq.size)
  have hL := Lib.hid ((hL.out.below hq).mono hq.size)
  have ch := Lib.hid (ch.out.trans (hq.mono ch.out.size))
  clear hq
  have hTr := Lib.hid hTr
  clear hL
  go_upto_region 8 with fail
  go_cut [109] from 94 to 108 (fun s109 wx => ∃ b : Bool, s109 = .bool b ∧ Hid (b = true → Both df dg (regN (thenL [p, q])) (regN (thenL [q, r]))) ∧ Hid (Below w10.heap.size w10 wx))
  case first =>
    by_cases hdf : df = 0
    · by_cases hdg : dg = 0
      · have kr := refRegs_ok _ _ _ (hTl.out.1 hdf) (HOf.out.resolve_right (fun e => by rw [hdf] at e; cases e)).2
        have kr2 := fun (w' : World) (hb : Below w10.heap.size w10 w') => refRegs_ok _ _ w' (((hTr.out.1 hdg).below hb).mono hb.size) (HOg.out.resolve_right (fun e => by rw [hdg] at e; cases e)).2
        obtain ⟨rl, hrl⟩ : ∃ a, regN (thenL [p, q]) = a := ⟨_, rfl⟩
        obtain ⟨rr, hrr⟩ : ∃ a, regN (thenL [q, r]) = a := ⟨_, rfl⟩
        rw [hrl] at kr
        rw [hrr] at kr2
        have HRL := Lib.hid hrl
        have HRR := Lib.hid hrr
        have kr2 := Lib.hid kr2
        subst hdf
        subst hdg
        clear hrl hrr
        by_cases h28 : (rl : Int) ≤ 28
        · by_cases h29 : (rr : Int) ≤ 28
          · go_wp2_with fail
            refine kr.mono ?_
            rintro e u1 ⟨rfl, hqA⟩
            go_wp2_with fail
            refine (kr2.out _ hqA).mono ?_
            rintro e u2 ⟨rfl, hqB⟩
            go_wp2_with fail
            go_meet
            exact ⟨true, rfl, Lib.hid (fun _ => ⟨rfl, rfl, by rw [HRL.out]; omega, by rw [HRR.out]; omega⟩), Lib.hid (hqA.trans (hqB.mono hqA.size))⟩
          · go_wp2_with fail
            refine kr.mono ?_
            rintro e u1 ⟨rfl, hqA⟩
            go_wp2_with fail
            refine (kr2.out _ hqA).mono ?_
            rintro e u2 ⟨rfl, hqB⟩
            go_wp2_with fail
            go_meet
            exact ⟨false, congrArg Value.bool (decide_eq_false (by omega)), Lib.hid (fun e => by cases e), Lib.hid (hqA.trans (hqB.mono hqA.size))⟩
        · go_wp2_with fail
          refine kr.mono ?_
          rintro e u1 ⟨rfl, hqA⟩
          go_wp2_with fail
          go_meet
          exact ⟨false, rfl, Lib.hid (fun e => by cases e), Lib.hid hqA⟩
      · subst hdf
        go_wp2_with fail
        go_meet
        exact ⟨false, rfl, Lib.hid (fun e => by cases e), Lib.hid (Below.refl _ _)⟩
    · go_wp2_with fail
      go_meet
      exact ⟨false, rfl, Lib.hid (fun e => by cases e), Lib.hid (Below.refl _ _)⟩
  case rest =>
  rename World => z1
  obtain ⟨bb, rfl, hbb, hq⟩ := hcut
  have hP := Lib.hid ((hP.out.below hq.out).mono hq.out.size)
  have hQ := Lib.hid ((hQ.out.below hq.out).mono hq.out.size)
  have hR := Lib.hid ((hR.out.below hq.out).mono hq.out.size)
  have hTl := Lib.hid ((hTl.out.below hq.out).mono hq.out.size)
  have hTr := Lib.hid ((hTr.out.below hq.out).mono hq.out.size)
  have ch := Lib.hid (ch.out.trans (hq.out.mono ch.out.size))
  clear hq
  go_upto_if 109 with fail
  go_cut [18, 19, 20, 21, 22, 23, 24, 25, 26, 27] from 110 to 156 (fun s18 s19 s20 s21 s22 s23 s24 s25 s26 s27 wx => Hid (Below z1.heap.size z1 wx))
  case first =>
    cases bb with
    | false =>
      go_wp2_with fail
      go_meet
      exact Lib.hid (Below.refl _ _)
    | true =>
      obtain ⟨hdf, hdg, hl28, hr28⟩ := hbb.out rfl
      have hl1 := Lib.hid (hTl.out.1 hdf)
      have hr1 := Lib.hid (hTr.out.1 hdg)
      have HVl := Lib.hid (HOf.out.resolve_right (fun e => by rw [hdf] at e; cases e)).2
      have HVg := Lib.hid (HOg.out.resolve_right (fun e => by rw [hdg] at e; cases e)).2
      obtain ⟨da, hda⟩ : ∃ e, dueN [thenL [p, q], r] (thenL [thenL [p, q], r]) = e := ⟨_, rfl⟩
      obtain ⟨db, hdb⟩ : ∃ e, dueN [p, thenL [q, r]] (thenL [p, thenL [q, r]]) = e := ⟨_, rfl⟩
      have HOa := Lib.hid (by have h := dueN_03 (ls := [thenL [p, q], r]) (thenL [thenL [p, q], r]) (by rw [allV2, HVl.out, HVr.out]; rfl) (by rw [mostR_two]; have := HM.out; omega); rwa [hda] at h)
      have HOb := Lib.hid (by have h := dueN_03 (ls := [p, thenL [q, r]]) (thenL [p, thenL [q, r]]) (by rw [allV2, HVp.out, HVg.out]; rfl) (by rw [mostR_two]; have := HM.out; omega); rwa [hdb] at h)
      have HDa := Lib.hid hda
      have HDb := Lib.hid hdb
      have HMg := Lib.hid (show mostN (thenL [q, r]) < 32 by have : regN (thenL [q, r]) = mostN (thenL [q, r]) + 1 := rfl; omega)
      subst hdf
      subst hdg
      clear hda hdb hl28 hr28 hbb hTl hTr
      obtain ⟨la, lc, rfl⟩ := hl1.out.len
      obtain ⟨ga, gc, rfl⟩ := hr1.out.len
      have ch := Lib.hid (Below.refl z1.heap.size z1)
      go_wp2_with fail
      have hL0 := ProgsRow.lit (w := z1) [.slice la (thenL [p, q]).length lc, .slice ra rn rc] [thenL [p, q], r] rfl (by simp) (fun j u l hu hl => match j, u, l, hu, hl with | 0, _, _, hu, hl => by cases hu; cases hl; exact hl1.out | 1, _, _, hu, hl => by cases hu; cases hl; exact hR.out)
      obtain ⟨w11, hW⟩ : ∃ B, z1.alloc (.cells #[.slice la (thenL [p, q]).length lc, .slice ra rn rc] 25) = B := ⟨_, rfl⟩
      rw [hW]
      have hq : Below z1.heap.size z1 w11 := by rw [← hW]; exact (Below.refl _ _).alloc (Nat.le_refl _) _
      have hL := Lib.hid (show ProgsRow w11 w11.heap.size (.slice (some ⟨z1.heap.size, 0, none⟩) 2 2) [thenL [p, q], r] by rw [← hW]; exact hL0)
      clear hW hL0
      have hP := Lib.hid ((hP.out.below hq).mono hq.size)
      have hQ := Lib.hid ((hQ.out.below hq).mono hq.size)
      have hR := Lib.hid ((hR.out.below hq).mono hq.size)
      have hl1 := Lib.hid ((hl1.out.below hq).mono hq.size)
      have hr1 := Lib.hid ((hr1.out.below hq).mono hq.size)
      have ch := Lib.hid (ch.out.trans (hq.mono ch.out.size))
      clear hq
      refine (made_d HDa.out (bThen_any _ _ _ [thenL [p, q], r] _ hL.out)).mono ?_
      rintro e w12 ⟨va, rfl, hTa, hq⟩
      have hP := Lib.hid ((hP.out.below hq).mono hq.size)
      have hQ := Lib.hid ((hQ.out.below hq).mono hq.size)
      have hR := Lib.hid ((hR.out.below hq).mono hq.size)
      have hl1 := Lib.hid ((hl1.out.below hq).mono hq.size)
      have hr1 := Lib.hid ((hr1.out.below hq).mono hq.size)
      have hL := Lib.hid ((hL.out.below hq).mono hq.size)
      have ch := Lib.hid (ch.out.trans (hq.mono ch.out.size))
      clear hq
      have hTa := Lib.hid hTa
      clear hL
      go_wp2_with fail
      have hL0 := ProgsRow.lit (w := w12) [.slice pa pn pc, .slice ga (thenL [q, r]).length gc] [p, thenL [q, r]] rfl (by simp) (fun j u l hu hl => match j, u, l, hu, hl with | 0, _, _, hu, hl => by cases hu; cases hl; exact hP.out | 1, _, _, hu, hl => by cases hu; cases hl; exact hr1.out)
      obtain ⟨w13, hW⟩ : ∃ B, w12.alloc (.cells #[.slice pa pn pc, .slice ga (thenL [q, r]).length gc] 25) = B := ⟨_, rfl⟩
      rw [hW]
      have hq : Below w12.heap.size w12 w13 := by rw [← hW]; exact (Below.refl _ _).alloc (Nat.le_refl _) _
      have hL := Lib.hid (show ProgsRow w13 w13.heap.size (.slice (some ⟨w12.heap.size, 0, none⟩) 2 2) [p, thenL [q, r]] by rw [← hW]; exact hL0)
      clear hW hL0
      have hP := Lib.hid ((hP.out.below hq).mono hq.size)
      have hQ := Lib.hid ((hQ.out.below hq).mono hq.size)
      have hR := Lib.hid ((hR.out.below hq).mono hq.size)
      have hl1 := Lib.hid ((hl1.out.below hq).mono hq.size)
      have hr1 := Lib.hid ((hr1.out.below hq).mono hq.size)
      have hTa := Lib.hid ((hTa.out.below hq).mono hq.size)
      have ch := Lib.hid (ch.out.trans (hq.mono ch.out.size))
      clear hq
      refine (made_d HDb.out (bThen_any _ _ _ [p, thenL [q, r]] _ hL.out)).mono ?_
      rintro e w14 ⟨vb, rfl, hTb, hq⟩
      have hP := Lib.hid ((hP.out.below hq).mono hq.size)
      have hQ := Lib.hid ((hQ.out.below hq).mono hq.size)
      have hR := Lib.hid ((hR.out.below hq).mono hq.size)
      have hl1 := Lib.hid ((hl1.out.below hq).mono hq.size)
      have hr1 := Lib.hid ((hr1.out.below hq).mono hq.size)
      have hTa := Lib.hid ((hTa.out.below hq).mono hq.size)
      have hL := Lib.hid ((hL.out.below hq).mono hq.size)
      have ch := Lib.hid (ch.out.trans (hq.mono ch.out.size))
      clear hq
      have hTb := Lib.hid hTb
      clear hL
      by_cases hda : da = 0
      · by_cases hdb : db = 0
        · skip
          have ha1 := Lib.hid (hTa.out.1 hda)
          have hb1 := Lib.hid (hTb.out.1 hdb)
          have HVa := Lib.hid (HOa.out.resolve_right (fun e => by rw [hda] at e; cases e)).2
          have HVb := Lib.hid (HOb.out.resolve_right (fun e => by rw [hdb] at e; cases e)).2
          obtain ⟨v, k, j, hrun⟩ : ∃ v k j, (goF (thenL [thenL [p, q], r]) 6000 0 (startS (toTr x))).run = (v, k, j) := ⟨_, _, _, rfl⟩
          obtain ⟨v2, k2, j2, hrun2⟩ : ∃ v' k' j', (goF (thenL [p, thenL [q, r]]) (k + 100) 0 (startS (toTr x))).run = (v', k', j') := ⟨_, _, _, rfl⟩
          have hk6 : k ≤ 6000 := by have h1 := goF_steps_le (thenL [thenL [p, q], r]) 6000 (startS (toTr x)); rw [hrun] at h1; exact h1
          have HAS := Lib.hid (show j = 0 → v2 = v ∧ j2 = 0 by
            rintro rfl
            obtain ⟨k', h1⟩ := then_assoc p q r (validB_all HVp.out) (validB_all HVq.out) (validB_all HVr.out) HMg.out (toTr x) (toTr_size x) 6000 v k hrun
            rw [hrun2] at h1
            simp only [Prod.mk.injEq] at h1
            exact ⟨h1.1, h1.2.2⟩)
          have HRA := Lib.hid hrun
          have HRB := Lib.hid hrun2
          clear hrun hrun2 hTa hTb
          subst hda
          subst hdb
          go_wp2_with fail
          refine (runOk_at 6000 6000 v k j HRA.out HVa.out (toTr_size x) (TS_toTr HX.out) rfl (by decide) ha1.out).mono ?_
          rintro e w15 ⟨rfl, hq⟩
          have hP := Lib.hid ((hP.out.below hq).mono hq.size)
          have hQ := Lib.hid ((hQ.out.below hq).mono hq.size)
          have hR := Lib.hid ((hR.out.below hq).mono hq.size)
          have hl1 := Lib.hid ((hl1.out.below hq).mono hq.size)
          have hr1 := Lib.hid ((hr1.out.below hq).mono hq.size)
          have ha1 := Lib.hid ((ha1.out.below hq).mono hq.size)
          have hb1 := Lib.hid ((hb1.out.below hq).mono hq.size)
          have ch := Lib.hid (ch.out.trans (hq.mono ch.out.size))
          clear hq
          go_wp2_with fail
          refine (runOk_at (k + 100) ((k : Int) + 100) v2 k2 j2 HRB.out HVb.out (toTr_size x) (TS_toTr HX.out) rfl (by omega) hb1.out).mono ?_
          rintro e w16 ⟨rfl, hq⟩
          have hP := Lib.hid ((hP.out.below hq).mono hq.size)
          have hQ := Lib.hid ((hQ.out.below hq).mono hq.size)
          have hR := Lib.hid ((hR.out.below hq).mono hq.size)
          have hl1 := Lib.hid ((hl1.out.below hq).mono hq.size)
          have hr1 := Lib.hid ((hr1.out.below hq).mono hq.size)
          have ha1 := Lib.hid ((ha1.out.below hq).mono hq.size)
          have hb1 := Lib.hid ((hb1.out.below hq).mono hq.size)
          have ch := Lib.hid (ch.out.trans (hq.mono ch.out.size))
          clear hq
          by_cases hj : j = 0
          · obtain ⟨hv2, hj2⟩ := HAS.out hj
            subst hj
            subst hj2
            subst hv2
            go_wp2_with fail
            go_meet
            exact ch
          · go_wp2_with fail
            go_meet
            exact ch
        · go_wp2_with fail
          go_meet
          exact ch
      · go_wp2_with fail
        go_meet
        exact ch
  case rest =>
  rename World => z2
  have hq := hcut
  clear hcut hTl hTr hbb
  have hP := Lib.hid ((hP.out.below hq.out).mono hq.out.size)
  have hQ := Lib.hid ((hQ.out.below hq.out).mono hq.out.size)
  have hR := Lib.hid ((hR.out.below hq.out).mono hq.out.size)
  have ch := Lib.hid (ch.out.trans (hq.out.mono ch.out.size))
  clear hq
  have hN := Lib.hid (row_nil z2 z2.heap.size)
  go_wp2_with fail
  have hL0 := ProgsRow.lit (w := z2) [.slice pa pn pc, .slice none 0 0] [p, []] rfl (by simp) (fun j u l hu hl => match j, u, l, hu, hl with | 0, _, _, hu, hl => by cases hu; cases hl; exact hP.out | 1, _, _, hu, hl => by cases hu; cases hl; exact hN.out)
  obtain ⟨w11, hW⟩ : ∃ B, z2.alloc (.cells #[.slice pa pn pc, .slice none 0 0] 25) = B := ⟨_, rfl⟩
  rw [hW]
  have hq : Below z2.heap.size z2 w11 := by rw [← hW]; exact (Below.refl _ _).alloc (Nat.le_refl _) _
  have hL := Lib.hid (show ProgsRow w11 w11.heap.size (.slice (some ⟨z2.heap.size, 0, none⟩) 2 2) [p, []] by rw [← hW]; exact hL0)
  clear hW hL0
  have hP := Lib.hid ((hP.out.below hq).mono hq.size)
  have hQ := Lib.hid ((hQ.out.below hq).mono hq.size)
  have hR := Lib.hid ((hR.out.below hq).mono hq.size)
  have hN := Lib.hid ((hN.out.below hq).mono hq.size)
  have ch := Lib.hid (ch.out.trans (hq.mono ch.out.size))
  clear hq
  refine (made_d HDn.out (bThen_any _ _ _ [p, []] _ hL.out)).mono ?_
  rintro e w12 ⟨vn, rfl, hTn, hq⟩
  have hP := Lib.hid ((hP.out.below hq).mono hq.size)
  have hQ := Lib.hid ((hQ.out.below hq).mono hq.size)
  have hR := Lib.hid ((hR.out.below hq).mono hq.size)
  have hN := Lib.hid ((hN.out.below hq).mono hq.size)
  have hL := Lib.hid ((hL.out.below hq).mono hq.size)
  have ch := Lib.hid (ch.out.trans (hq.mono ch.out.size))
  clear hq
  have hTn := Lib.hid hTn
  clear hL
  have hn1 := Lib.hid (show InsRow w12 w12.heap.size vn p from by have h := hTn.out.1 rfl; rwa [then_nil] at h)
  clear hTn
  go_wp2_with fail
  have hL0 := ProgsRow.lit (w := w12) [.slice none 0 0, .slice pa pn pc] [[], p] rfl (by simp) (fun j u l hu hl => match j, u, l, hu, hl with | 0, _, _, hu, hl => by cases hu; cases hl; exact hN.out | 1, _, _, hu, hl => by cases hu; cases hl; exact hP.out)
  obtain ⟨w13, hW⟩ : ∃ B, w12.alloc (.cells #[.slice none 0 0, .slice pa pn pc] 25) = B := ⟨_, rfl⟩
  rw [hW]
  have hq : Below w12.heap.size w12 w13 := by rw [← hW]; exact (Below.refl _ _).alloc (Nat.le_refl _) _
  have hL := Lib.hid (show ProgsRow w13 w13.heap.size (.slice (some ⟨w12.heap.size, 0, none⟩) 2 2) [[], p] by rw [← hW]; exact hL0)
  clear hW hL0
  have hP := Lib.hid ((hP.out.below hq).mono hq.size)
  have hQ := Lib.hid ((hQ.out.below hq).mono hq.size)
  have hR := Lib.hid ((hR.out.below hq).mono hq.size)
  have hN := Lib.hid ((hN.out.below hq).mono hq.size)
  have hn1 := Lib.hid ((hn1.out.below hq).mono hq.size)
  have ch := Lib.hid (ch.out.trans (hq.mono ch.out.size))
  clear hq
  refine (made_d HDi.out (bThen_any _ _ _ [[], p] _ hL.out)).mono ?_
  rintro e w14 ⟨vi, rfl, hTi, hq⟩
  have hP := Lib.hid ((hP.out.below hq).mono hq.size)
  have hQ := Lib.hid ((hQ.out.below hq).mono hq.size)
  have hR := Lib.hid ((hR.out.below hq).mono hq.size)
  have hN := Lib.hid ((hN.out.below hq).mono hq.size)
  have hn1 := Lib.hid ((hn1.out.below hq).mono hq.size)
  have hL := Lib.hid ((hL.out.below hq).mono hq.size)
  have ch := Lib.hid (ch.out.trans (hq.mono ch.out.size))
  clear hq
  have hTi := Lib.hid hTi
  clear hL
  clear hN
  have ks := Lib.hid (same_self hn1.out hP.out)
  go_upto_region 18 with fail
  go_cut [184] from 169 to 183 (fun s184 wx => s184 = .bool false ∧ Hid (Below w14.heap.size w14 wx))
  case first =>
    rcases HOi.out with ⟨rfl, _⟩ | rfl
    all_goals (
      go_wp2_with fail
      refine ks.out.mono ?_
      rintro e u1 ⟨rfl, hqA⟩
      go_wp2_with fail
      go_meet
      exact ⟨rfl, Lib.hid hqA⟩)
  case rest =>
  rename World => z3
  obtain ⟨rfl, hq⟩ := hcut
  have hP := Lib.hid ((hP.out.below hq.out).mono hq.out.size)
  have hQ := Lib.hid ((hQ.out.below hq.out).mono hq.out.size)
  have hR := Lib.hid ((hR.out.below hq.out).mono hq.out.size)
  have hn1 := Lib.hid ((hn1.out.below hq.out).mono hq.out.size)
  have hTi := Lib.hid ((hTi.out.below hq.out).mono hq.out.size)
  have ch := Lib.hid (ch.out.trans (hq.out.mono ch.out.size))
  clear hq
  clear ks hn1
  obtain ⟨iP, hrow, hval, hpe⟩ := tb_some hTi.out (fun e => (HOi.out.resolve_right (fun f => by rw [e] at f; cases f)).2)
  have ir := Lib.hid hrow
  have iV := Lib.hid hval
  have iE := Lib.hid hpe
  clear hrow hval hpe hTi
  obtain ⟨iv, ik, ij, hrun⟩ : ∃ v k j, (goF iP (n + 100) 0 (startS (toTr x))).run = (v, k, j) := ⟨_, _, _, rfl⟩
  have iT := Lib.hid (show di = 0 → iv = y ∧ ij = 0 by
    intro e
    obtain ⟨k', h1⟩ := clean_run p (validB_all HVp.out) (toTr x) (toTr_size x) y n HR0.out
    rw [← iE.out e, hrun] at h1
    simp only [Prod.mk.injEq] at h1
    exact ⟨h1.1, h1.2.2⟩)
  have iR := Lib.hid hrun
  clear hrun
  go_wp2_with fail
  refine (runOk_at (n + 100) ((n : Int) + 100) iv ik ij iR.out iV.out (toTr_size x) (TS_toTr HX.out) rfl (by omega) ir.out).mono ?_
  rintro e w15 ⟨rfl, hq⟩
  have hP := Lib.hid ((hP.out.below hq).mono hq.size)
  have hQ := Lib.hid ((hQ.out.below hq).mono hq.size)
  have hR := Lib.hid ((hR.out.below hq).mono hq.size)
  have ir := Lib.hid ((ir.out.below hq).mono hq.size)
  have ch := Lib.hid (ch.out.trans (hq.mono ch.out.size))
  clear hq
  go_upto_region 21 with fail
  go_cut [204] from 194 to 203 (fun s0 wx => s0 = .bool false ∧ Hid (Below w15.heap.size w15 wx))
  case first =>
    by_cases hd0 : di = 0
    · obtain ⟨h1, h2⟩ := iT.out hd0
      subst hd0
      subst h1
      subst h2
      go_wp2_with fail
      go_meet
      exact ⟨rfl, Lib.hid (Below.refl _ _)⟩
    · go_wp2_with fail
      go_meet
      exact ⟨rfl, Lib.hid (Below.refl _ _)⟩
  case rest =>
  rename World => z4
  obtain ⟨rfl, hq⟩ := hcut
  have hP := Lib.hid ((hP.out.below hq.out).mono hq.out.size)
  have hQ := Lib.hid ((hQ.out.below hq.out).mono hq.out.size)
  have hR := Lib.hid ((hR.out.below hq.out).mono hq.out.size)
  have ir := Lib.hid ((ir.out.below hq.out).mono hq.out.size)
  have ch := Lib.hid (ch.out.trans (hq.out.mono ch.out.size))
  clear hq
  clear ir iV iE iT iR
  go_wp2_with fail
  refine (bConst_ok d hds HY.out _).mono ?_
  rintro e w16 ⟨ka, kc, rfl, hK, hq⟩
  have hP := Lib.hid ((hP.out.below hq).mono hq.size)
  have hQ := Lib.hid ((hQ.out.below hq).mono hq.size)
  have hR := Lib.hid ((hR.out.below hq).mono hq.size)
  have ch := Lib.hid (ch.out.trans (hq.mono ch.out.size))
  clear hq
  have hK := Lib.hid hK
  go_wp2_with fail
  have hL0 := ProgsRow.lit (w := w16) [.slice pa pn pc, .slice ka 1 kc] [p, [setI 0 d]] rfl (by simp) (fun j u l hu hl => match j, u, l, hu, hl with | 0, _, _, hu, hl => by cases hu; cases hl; exact hP.out | 1, _, _, hu, hl => by cases hu; cases hl; exact hK.out)
  obtain ⟨w17, hW⟩ : ∃ B, w16.alloc (.cells #[.slice pa pn pc, .slice ka 1 kc] 25) = B := ⟨_, rfl⟩
  rw [hW]
  have hq : Below w16.heap.size w16 w17 := by rw [← hW]; exact (Below.refl _ _).alloc (Nat.le_refl _) _
  have hL := Lib.hid (show ProgsRow w17 w17.heap.size (.slice (some ⟨w16.heap.size, 0, none⟩) 2 2) [p, [setI 0 d]] by rw [← hW]; exact hL0)
  clear hW hL0
  have hP := Lib.hid ((hP.out.below hq).mono hq.size)
  have hQ := Lib.hid ((hQ.out.below hq).mono hq.size)
  have hR := Lib.hid ((hR.out.below hq).mono hq.size)
  have hK := Lib.hid ((hK.out.below hq).mono hq.size)
  have ch := Lib.hid (ch.out.trans (hq.mono ch.out.size))
  clear hq
  refine (made_d HDl.out (bThen_any _ _ _ [p, [setI 0 d]] _ hL.out)).mono ?_
  rintro e w18 ⟨vc, rfl, hTc, hq⟩
  have hP := Lib.hid ((hP.out.below hq).mono hq.size)
  have hQ := Lib.hid ((hQ.out.below hq).mono hq.size)
  have hR := Lib.hid ((hR.out.below hq).mono hq.size)
  have hK := Lib.hid ((hK.out.below hq).mono hq.size)
  have hL := Lib.hid ((hL.out.below hq).mono hq.size)
  have ch := Lib.hid (ch.out.trans (hq.mono ch.out.size))
  clear hq
  have hTc := Lib.hid hTc
  clear hL
  clear hK
  go_upto_region 25 with fail
  go_cut [226] from 217 to 225 (fun s226 wx => s226 = .bool false ∧ Hid (Below w18.heap.size w18 wx))
  case first =>
    rcases HOl.out with ⟨rfl, _⟩ | rfl
    all_goals (
      go_wp2_with fail
      go_meet
      exact ⟨rfl, Lib.hid (Below.refl _ _)⟩)
  case rest =>
  rename World => z5
  obtain ⟨rfl, hq⟩ := hcut
  have hP := Lib.hid ((hP.out.below hq.out).mono hq.out.size)
  have hQ := Lib.hid ((hQ.out.below hq.out).mono hq.out.size)
  have hR := Lib.hid ((hR.out.below hq.out).mono hq.out.size)
  have hTc := Lib.hid ((hTc.out.below hq.out).mono hq.out.size)
  have ch := Lib.hid (ch.out.trans (hq.out.mono ch.out.size))
  clear hq
  obtain ⟨lP, hrow, hval, hpe⟩ := tb_some hTc.out (fun e => (HOl.out.resolve_right (fun f => by rw [e] at f; cases f)).2)
  have lr := Lib.hid hrow
  have lV := Lib.hid hval
  have lE := Lib.hid hpe
  clear hrow hval hpe hTc
  obtain ⟨lv, lk, lj, hrun⟩ : ∃ v k j, (goF lP (n + 100) 0 (startS (toTr x))).run = (v, k, j) := ⟨_, _, _, rfl⟩
  have lT := Lib.hid (show dl = 0 → lv = d ∧ lj = 0 by
    intro e
    obtain ⟨k', h1⟩ := const_run p (validB_all HVp.out) d HY.out (toTr x) (toTr_size x) y n HR0.out
    rw [← lE.out e, hrun] at h1
    simp only [Prod.mk.injEq] at h1
    exact ⟨h1.1, h1.2.2⟩)
  have lR := Lib.hid hrun
  clear hrun
  go_wp2_with fail
  refine (runOk_at (n + 100) ((n : Int) + 100) lv lk lj lR.out lV.out (toTr_size x) (TS_toTr HX.out) rfl (by omega) lr.out).mono ?_
  rintro e w19 ⟨rfl, hq⟩
  have hP := Lib.hid ((hP.out.below hq).mono hq.size)
  have hQ := Lib.hid ((hQ.out.below hq).mono hq.size)
  have hR := Lib.hid ((hR.out.below hq).mono hq.size)
  have lr := Lib.hid ((lr.out.below hq).mono hq.size)
  have ch := Lib.hid (ch.out.trans (hq.mono ch.out.size))
  clear hq
  go_upto_region 28 with fail
  go_cut [246] from 236 to 245 (fun s0 wx => s0 = .bool false ∧ Hid (Below w19.heap.size w19 wx))
  case first =>
    by_cases hd0 : dl = 0
    · obtain ⟨h1, h2⟩ := lT.out hd0
      subst hd0
      subst h1
      subst h2
      go_wp2_with fail
      go_meet
      exact ⟨rfl, Lib.hid (Below.refl _ _)⟩
    · go_wp2_with fail
      go_meet
      exact ⟨rfl, Lib.hid (Below.refl _ _)⟩
  case rest =>
  rename World => z6
  obtain ⟨rfl, hq⟩ := hcut
  have hP := Lib.hid ((hP.out.below hq.out).mono hq.out.size)
  have hQ := Lib.hid ((hQ.out.below hq.out).mono hq.out.size)
  have hR := Lib.hid ((hR.out.below hq.out).mono hq.out.size)
  have lr := Lib.hid ((lr.out.below hq.out).mono hq.out.size)
  have ch := Lib.hid (ch.out.trans (hq.out.mono ch.out.size))
  clear hq
  clear lr lV lE lT lR
  go_wp2_with fail
  refine (twin_any _ q _ hQ.out).mono ?_
  rintro e w20 ⟨vtq, rfl, hTq, hq⟩
  have hP := Lib.hid ((hP.out.below hq).mono hq.size)
  have hQ := Lib.hid ((hQ.out.below hq).mono hq.size)
  have hR := Lib.hid ((hR.out.below hq).mono hq.size)
  have ch := Lib.hid (ch.out.trans (hq.mono ch.out.size))
  clear hq
  have hTq := Lib.hid hTq
  obtain ⟨z, m, es, hrunq⟩ : ∃ v k j, (goF q 2000 0 (startS (toTr x))).run = (v, k, j) := ⟨_, _, _, rfl⟩
  have HRq := Lib.hid hrunq
  have hm2 : m ≤ 2000 := by have h1 := goF_steps_le q 2000 (startS (toTr x)); rw [hrunq] at h1; exact h1
  have hz2 : z.size ≤ 2000000 := by
    rcases res_run_cases (goF q 2000 0 (startS (toTr x))) with h | h | h
    · rw [hrunq] at h
      have h' : es = 0 := h
      subst h'
      obtain ⟨t, _, _, h2, _, h3⟩ := done_of_run hrunq
      rw [← h3, TS_size]
      exact getR_size (h2.good (validB_all HVq.out) (Good.start _ _ (toTr_size x))).2.2 0
    · rw [hrunq] at h; simp only [Prod.mk.injEq] at h; rw [h.1]; exact Nat.zero_le _
    · rw [hrunq] at h; simp only [Prod.mk.injEq] at h; rw [h.1]; exact Nat.zero_le _
  clear hrunq
  go_wp2_with fail
  refine (runOk_at 2000 2000 z m es HRq.out HVq.out (toTr_size x) (TS_toTr HX.out) rfl (by decide) hTq.out).mono ?_
  rintro e w21 ⟨rfl, hq⟩
  have hP := Lib.hid ((hP.out.below hq).mono hq.size)
  have hQ := Lib.hid ((hQ.out.below hq).mono hq.size)
  have hR := Lib.hid ((hR.out.below hq).mono hq.size)
  have hTq := Lib.hid ((hTq.out.below hq).mono hq.size)
  have ch := Lib.hid (ch.out.trans (hq.mono ch.out.size))
  clear hq
  clear hTq
  go_wp2_with fail
  refine (made_d HDt.out (bPair_any _ _ _ _ _ _ p q _ hP.out hQ.out)).mono ?_
  rintro e w22 ⟨v2, rfl, hT2, hq⟩
  have hP := Lib.hid ((hP.out.below hq).mono hq.size)
  have hQ := Lib.hid ((hQ.out.below hq).mono hq.size)
  have hR := Lib.hid ((hR.out.below hq).mono hq.size)
  have ch := Lib.hid (ch.out.trans (hq.mono ch.out.size))
  clear hq
  have hT2 := Lib.hid hT2
  go_upto_region 32 with fail
  go_cut [274] from 261 to 273 (fun s274 wx => ∃ b : Bool, s274 = .bool b ∧ Hid (b = false → Three es dt (y.size + z.size)) ∧ Hid (Below w22.heap.size w22 wx))
  case first =>
    by_cases hes : es = 0
    · by_cases hdt : dt = 0
      · by_cases hsz : y.size + z.size < 2000000
        · have hszI : (y.size : Int) + (z.size : Int) < 2000000 := by omega
          have HH := Lib.hid hsz
          subst hes
          subst hdt
          go_wp2_with fail
          go_meet
          exact ⟨false, congrArg Value.bool (decide_eq_false (by omega)), Lib.hid (fun _ => ⟨rfl, rfl, HH.out⟩), Lib.hid (Below.refl _ _)⟩
        · have hszI : (2000000 : Int) ≤ (y.size : Int) + (z.size : Int) := by omega
          subst hes
          subst hdt
          go_wp2_with fail
          go_meet
          exact ⟨true, rfl, Lib.hid (fun e => by cases e), Lib.hid (Below.refl _ _)⟩
      · subst hes
        go_wp2_with fail
        go_meet
        exact ⟨true, rfl, Lib.hid (fun e => by cases e), Lib.hid (Below.refl _ _)⟩
    · go_wp2_with fail
      go_meet
      exact ⟨true, rfl, Lib.hid (fun e => by cases e), Lib.hid (Below.refl _ _)⟩
  case rest =>
  rename World => z7
  obtain ⟨bb, rfl, hbb, hq⟩ := hcut
  have hP := Lib.hid ((hP.out.below hq.out).mono hq.out.size)
  have hQ := Lib.hid ((hQ.out.below hq.out).mono hq.out.size)
  have hR := Lib.hid ((hR.out.below hq.out).mono hq.out.size)
  have hT2 := Lib.hid ((hT2.out.below hq.out).mono hq.out.size)
  have ch := Lib.hid (ch.out.trans (hq.out.mono ch.out.size))
  clear hq
  cases bb with
  | true =>
    go_wp2_with fail
    refine (awake_any _).mono ?_
    rintro e wz ⟨rfl, hqz⟩
    go_wp2
    go_ret
    exact ⟨rfl, ch.out.trans (hqz.mono ch.out.size)⟩
  | false =>
    obtain ⟨hes, hdt, hsz⟩ := hbb.out rfl
    have h21 := Lib.hid (hT2.out.1 hdt)
    have HV2 := Lib.hid (HOt.out.resolve_right (fun e => by rw [hdt] at e; cases e)).2
    have HSZ := Lib.hid hsz
    obtain ⟨du, hdu⟩ : ∃ e, dueN [pairL p q, [headI]] (thenL [pairL p q, [headI]]) = e := ⟨_, rfl⟩
    have HDu := Lib.hid hdu
    have HOu := Lib.hid (show (du = 0 ∧ validB (thenL [pairL p q, [headI]]) = true) ∨ du = 3 ∨ du = 8 by
      rw [← hdu]
      by_cases hm : 28 < mostR [pairL p q, [headI]]
      · refine .inr (.inr ?_)
        unfold dueN
        rw [if_neg (by rw [allV2, HV2.out, headI_valid]; simp), if_pos hm]
      · rcases dueN_03 (ls := [pairL p q, [headI]]) (thenL [pairL p q, [headI]]) (by rw [allV2, HV2.out, headI_valid]; rfl) (by omega) with h | h
        · exact .inl h
        · exact .inr (.inl h))
    subst hes
    subst hdt
    clear hdu hbb hT2 hsz
    obtain ⟨la, lc, rfl⟩ := h21.out.len
    go_wp2_with fail
    obtain ⟨w23, hW⟩ : ∃ B, z7.alloc (.cells #[.int .i64 3, .int .i64 0, .int .i64 0, .int .i64 0, .string ⟨#[]⟩] 52) = B := ⟨_, rfl⟩
    rw [hW]
    have hq : Below z7.heap.size z7 w23 := by rw [← hW]; exact (Below.refl _ _).alloc (Nat.le_refl _) _
    have hH := Lib.hid (show InsRow w23 w23.heap.size (.slice (some ⟨z7.heap.size, 0, none⟩) 1 1) [headI] by rw [← hW]; exact (OwnI.lit z7 [headI] (by simp; exact wf_lit _ _ _ _ _ (by unfold i64; decide) (by unfold i64; decide) (by unfold i64; decide) (by unfold i64; decide) (by decide)) (by simp)).row (by simp))
    have hz_w23 : w23.heap.size = z7.heap.size + 1 := by rw [← hW]; simp
    clear hW
    have h21 := Lib.hid ((h21.out.below hq).mono hq.size)
    have ch := Lib.hid (ch.out.trans (hq.mono ch.out.size))
    clear hq
    have hL0 := ProgsRow.lit (w := w23) [.slice la (pairL p q).length lc, .slice (some ⟨z7.heap.size, 0, none⟩) 1 1] [pairL p q, [headI]] rfl (by simp) (fun j u l hu hl => match j, u, l, hu, hl with | 0, _, _, hu, hl => by cases hu; cases hl; exact h21.out | 1, _, _, hu, hl => by cases hu; cases hl; exact hH.out)
    obtain ⟨w24, hW⟩ : ∃ B, w23.alloc (.cells #[.slice la (pairL p q).length lc, .slice (some ⟨z7.heap.size, 0, none⟩) 1 1] 25) = B := ⟨_, rfl⟩
    rw [hW]
    have hq : Below w23.heap.size w23 w24 := by rw [← hW]; exact (Below.refl _ _).alloc (Nat.le_refl _) _
    have hL := Lib.hid (show ProgsRow w24 w24.heap.size (.slice (some ⟨w23.heap.size, 0, none⟩) 2 2) [pairL p q, [headI]] by rw [← hW]; exact hL0)
    rw [hz_w23] at hL
    clear hW hL0
    have h21 := Lib.hid ((h21.out.below hq).mono hq.size)
    have hH := Lib.hid ((hH.out.below hq).mono hq.size)
    have ch := Lib.hid (ch.out.trans (hq.mono ch.out.size))
    clear hq
    refine (made_d HDu.out (bThen_any _ _ _ [pairL p q, [headI]] _ hL.out)).mono ?_
    rintro e w25 ⟨v3, rfl, hT3, hq⟩
    have ch := Lib.hid (ch.out.trans (hq.mono ch.out.size))
    clear hq
    have hT3 := Lib.hid hT3
    clear hL hH h21
    have chx := ch
    rcases HOu.out with ⟨rfl, hval⟩ | rfl | rfl
    · skip
      have h31 := Lib.hid (hT3.out.1 rfl)
      have HV3 := Lib.hid hval
      obtain ⟨n0, hn0⟩ : ∃ n0, max (regN p) (regN q) = n0 + 1 := ⟨max (mostN p) (mostN q), by have h1 : regN p = mostN p + 1 := rfl; have h2 : regN q = mostN q + 1 := rfl; omega⟩
      obtain ⟨k', hrun⟩ := head_run p q (validB_all HVp.out) (validB_all HVq.out) n0 hn0 (by have := HM.out; omega) (toTr x) (toTr_size x) y z n m HR0.out HRq.out HSZ.out
      have HRh := Lib.hid hrun
      clear hrun hn0 hval hT3
      go_wp2_with fail
      refine (runOk_at (n + m + 200) ((n : Int) + (m : Int) + 200) y k' 0 HRh.out HV3.out (toTr_size x) (TS_toTr HX.out) rfl (by omega) h31.out).mono ?_
      rintro e w26 ⟨rfl, hq⟩
      have h31 := Lib.hid ((h31.out.below hq).mono hq.size)
      have ch := Lib.hid (ch.out.trans (hq.mono ch.out.size))
      clear hq
      go_wp2_with fail
      refine (awake_any _).mono ?_
      rintro e wz ⟨rfl, hqz⟩
      go_wp2
      go_ret
      exact ⟨rfl, ch.out.trans (hqz.mono ch.out.size)⟩
    · skip
      go_wp2_with fail
      refine (awake_any _).mono ?_
      rintro e wz ⟨rfl, hqz⟩
      go_wp2
      go_ret
      exact ⟨rfl, chx.out.trans (hqz.mono chx.out.size)⟩
    · skip
      go_wp2_with fail
      refine (awake_any _).mono ?_
      rintro e wz ⟨rfl, hqz⟩
      go_wp2
      go_ret
      exact ⟨rfl, chx.out.trans (hqz.mono chx.out.size)⟩

theorem law_BuildLaws {w : World} (vp : Value) (p : List Ins) (hp : InsRow w w.heap.size vp p) (vq : Value) (q : List Ins) (hq : InsRow w w.heap.size vq q) (vr : Value) (r : List Ins) (hr : InsRow w w.heap.size vr r) (x : ByteArray) (hx : x.size ≤ 140737488355328) (d : ByteArray) (hd : d.size ≤ 140737488355328) :
    Calls Try.prog 5 #[vp, vq, vr, .string x, .string d] w fun e w' => e = .returned (.bool true) ∧ Below w.heap.size w w' := by
  obtain ⟨pa, pc, rfl⟩ := hp.len
  obtain ⟨qa, qc, rfl⟩ := hq.len
  obtain ⟨ra, rc, rfl⟩ := hr.len
  by_cases h0 : dueF [p, q, r] [] = 0
  · cases ht : isTree x with
    | true =>
      cases hu : isTree d with
      | true =>
        have hvp := (allV_three (dueF_zero h0).1).1
        obtain ⟨y, n, e, hrun⟩ : ∃ y n e, (goF p 2000 0 (startS (toTr x))).run = (y, n, e) := ⟨_, _, _, rfl⟩
        by_cases he : e = 0
        · subst he; exact laws_main _ _ _ _ _ _ _ _ _ p q r x d hx hd hp hq hr (Lib.hid h0) (Lib.hid ht) (Lib.hid hu) y n (Lib.hid hrun)
        · exact laws_err _ _ _ _ _ _ _ _ _ p q r x d hx hd hp hq hr (Lib.hid h0) (Lib.hid ht) (Lib.hid hu) (Lib.hid hvp) y n e (Lib.hid hrun) he
      | false => exact laws_notree2 _ _ _ _ _ _ _ _ _ p q r x d hx hd hp hq hr (Lib.hid h0) (Lib.hid ht) (Lib.hid hu)
    | false => exact laws_notree _ _ _ _ _ _ _ _ _ p q r x d hx hd hp hq hr (Lib.hid h0) (Lib.hid ht)
  · exact laws_due _ _ _ _ _ _ _ _ _ p q r x d hx hd hp hq hr _ (Lib.hid rfl) h0

end Go.Proofs.Ytaiomcjopgnfpaa


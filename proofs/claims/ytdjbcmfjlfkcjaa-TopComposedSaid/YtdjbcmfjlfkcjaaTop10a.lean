/- narcissustop: TopComposed where p does not end. -/
import Derived.Test.YtdjbcmfjlfkcjaaTop10
namespace Go.Proofs.Ytdjbcmfjlfkcjaa
open Go.RowKit

set_option maxRecDepth 20000 in
set_option maxHeartbeats 100000000 in
theorem tc_fuel {w : World} (vc : Value) (c : List Ins) (hhc : InsRow w w.heap.size vc c) (vp : Value) (p : List Ins) (hhp : InsRow w w.heap.size vp p) (vq : Value) (q : List Ins) (hhq : InsRow w w.heap.size vq q) (x : ByteArray) (hxs : x.size ≤ 140737488355328) (hbg : growB x 2000 = true) (hbf : fewB [c, p, q] = true) (sp : St) (kp : Nat) (gp : goF p 300 0 (startS (toTr x)) = .fuel sp kp) :
    Calls Try.prog 4 #[vc, vp, .agg #[vq, .string x]] w fun e w' => e = .returned (.bool true) ∧ Below w.heap.size w w' := by
  obtain ⟨ca, cc, rfl⟩ := hhc.len
  obtain ⟨cn, hcn⟩ : ∃ lz, c.length = lz := ⟨_, rfl⟩
  rw [hcn] at hhc ⊢
  have hc := Lib.hid hhc
  clear hhc hcn
  obtain ⟨pa, pc, rfl⟩ := hhp.len
  obtain ⟨pn, hpn⟩ : ∃ lz, p.length = lz := ⟨_, rfl⟩
  rw [hpn] at hhp ⊢
  have hp := Lib.hid hhp
  clear hhp hpn
  obtain ⟨qa, qc, rfl⟩ := hhq.len
  obtain ⟨qn, hqn⟩ : ∃ lz, q.length = lz := ⟨_, rfl⟩
  rw [hqn] at hhq ⊢
  have hqq := Lib.hid hhq
  clear hhq hqn
  have HXS := Lib.hid hxs
  have HBG := Lib.hid hbg
  have HBF := Lib.hid hbf
  have kg := Lib.hid (fun w => tgrow_any x hxs 2000 (by omega) w)
  clear hxs hbg hbf
  have Hgp := Lib.hid gp
  clear gp
  have ch := Lib.hid (Below.refl w.heap.size w)
  go_enter Try.func4, Try.ntmps4
  go_wp2_with fail
  obtain ⟨w1, hW⟩ : ∃ B, w.alloc (.cells #[.slice qa qn qc, .string x] 41) = B := ⟨_, rfl⟩
  rw [hW]
  have hq9 : Below w.heap.size w w1 := by rw [← hW]; exact (Below.refl _ _).alloc (Nat.le_refl _) _
  clear hW
  have hc := Lib.hid ((hc.out.below hq9).mono hq9.size)
  have hp := Lib.hid ((hp.out.below hq9).mono hq9.size)
  have hqq := Lib.hid ((hqq.out.below hq9).mono hq9.size)
  have ch := Lib.hid (ch.out.trans (hq9.mono ch.out.size))
  clear hq9
  refine (kg.out _).mono ?_
  rintro e w2 ⟨xq, rfl, hX, -, hq⟩
  have hc := Lib.hid ((hc.out.below hq).mono hq.size)
  have hp := Lib.hid ((hp.out.below hq).mono hq.size)
  have hqq := Lib.hid ((hqq.out.below hq).mono hq.size)
  have ch := Lib.hid (ch.out.trans (hq.mono ch.out.size))
  clear hq
  rw [HBG.out]
  have hX := hX HBG.out
  have hX := Lib.hid hX
  go_wp2_with fail
  have hL0 := ProgsRow.lit (w := w2) [.slice ca cn cc, .slice pa pn pc, .slice qa qn qc] [c, p, q] rfl (by simp) (fun j u l hu hl => match j, u, l, hu, hl with | 0, _, _, hu, hl => by cases hu; cases hl; exact hc.out | 1, _, _, hu, hl => by cases hu; cases hl; exact hp.out | 2, _, _, hu, hl => by cases hu; cases hl; exact hqq.out)
  obtain ⟨w3, hW⟩ : ∃ B, w2.alloc (.cells #[.slice ca cn cc, .slice pa pn pc, .slice qa qn qc] 23) = B := ⟨_, rfl⟩
  rw [hW]
  have hq : Below w2.heap.size w2 w3 := by rw [← hW]; exact (Below.refl _ _).alloc (Nat.le_refl _) _
  have hL := Lib.hid (show ProgsRow w3 w3.heap.size (.slice (some ⟨w2.heap.size, 0, none⟩) 3 3) [c, p, q] by rw [← hW]; exact hL0)
  clear hW hL0
  have hX := Lib.hid (hX.out.kept (Kept.below hq))
  have hc := Lib.hid ((hc.out.below hq).mono hq.size)
  have hp := Lib.hid ((hp.out.below hq).mono hq.size)
  have hqq := Lib.hid ((hqq.out.below hq).mono hq.size)
  have ch := Lib.hid (ch.out.trans (hq.mono ch.out.size))
  clear hq
  have kfew := Lib.hid (tfew_any _ [c, p, q] (by simp) _ hL.out)
  rw [HBF.out] at kfew
  refine (kfew.out).mono ?_
  rintro e w4 ⟨rfl, hq⟩
  have hX := Lib.hid (hX.out.kept (Kept.below hq))
  have hc := Lib.hid ((hc.out.below hq).mono hq.size)
  have hp := Lib.hid ((hp.out.below hq).mono hq.size)
  have hqq := Lib.hid ((hqq.out.below hq).mono hq.size)
  have hL := Lib.hid ((hL.out.below hq).mono hq.size)
  have ch := Lib.hid (ch.out.trans (hq.mono ch.out.size))
  clear hq
  clear hL
  have hc4 := fewB_get HBF.out (l := c) (by simp)
  have hp4 := fewB_get HBF.out (l := p) (by simp)
  have hq4 := fewB_get HBF.out (l := q) (by simp)
  have VC := Lib.hid hc4.1
  have VP := Lib.hid hp4.1
  have VQ := Lib.hid hq4.1
  have HM := Lib.hid (few_parts HBF.out)
  have HXT := Lib.hid (show (toTr x).size ≤ 2000000 by rw [growB_size HBG.out]; have := (growB_tree HBG.out).2; omega)
  have hM2 : max (regN p) (regN q) ≤ 28 := by have := hp4.2.1; have := hq4.2.1; omega
  have hM3 : max (regN c) (max (regN p) (regN q)) ≤ 28 := by have := hc4.2.1; omega
  have TR := Lib.hid (then_runs (validB_all VP.out) (validB_all VQ.out) (toTr x) HXT.out 300)
  have PR := Lib.hid (pair_runs (validB_all VP.out) (validB_all VQ.out) hM2 (toTr x) HXT.out 300)
  have IR := Lib.hid (if_runs (validB_all VC.out) (validB_all VP.out) (validB_all VQ.out) hM3 (toTr x) HXT.out 300)
  have HMQ := Lib.hid (show regN q = mostN q + 1 from rfl)
  obtain ⟨RP, hRP⟩ : ∃ r, regN p = r := ⟨_, rfl⟩
  obtain ⟨RQ, hRQ⟩ : ∃ r, regN q = r := ⟨_, rfl⟩
  have krp := Lib.hid (fun v w hl => tregs_ok v p w hl hp4.1)
  have krq := Lib.hid (fun v w hl => tregs_ok v q w hl hq4.1)
  have hrp : (RP : Int) ≤ 28 := by have := hp4.2.1; omega
  have hrq : (RQ : Int) ≤ 28 ∧ (1 : Int) ≤ RQ := by have := hq4.2.1; have := HMQ.out; omega
  rw [hRP] at krp
  rw [hRQ] at krq HMQ
  have HRP := Lib.hid hRP
  have HRQ := Lib.hid hRQ
  have hlc := Lib.hid hc4.2.2.1
  have hlp := Lib.hid hp4.2.2.1
  have hlq := Lib.hid hq4.2.2.1
  clear hc4 hp4 hq4 hRP hRQ hM2 hM3
  go_wp2_with fail
  refine (ttwin_any _ p (by have := hlp.out; omega) _ hp.out).mono ?_
  rintro e w5 ⟨tpa, tpc, rfl, tp, hq⟩
  have hX := Lib.hid (hX.out.kept (Kept.below hq))
  have hc := Lib.hid ((hc.out.below hq).mono hq.size)
  have hp := Lib.hid ((hp.out.below hq).mono hq.size)
  have hqq := Lib.hid ((hqq.out.below hq).mono hq.size)
  have ch := Lib.hid (ch.out.trans (hq.mono ch.out.size))
  clear hq
  have tp := Lib.hid (tp.row (by have := hlp.out; omega))
  go_wp2_with fail
  refine (ttwin_any _ q (by have := hlq.out; omega) _ hqq.out).mono ?_
  rintro e w6 ⟨tqa, tqc, rfl, tq, hq⟩
  have hX := Lib.hid (hX.out.kept (Kept.below hq))
  have hc := Lib.hid ((hc.out.below hq).mono hq.size)
  have hp := Lib.hid ((hp.out.below hq).mono hq.size)
  have hqq := Lib.hid ((hqq.out.below hq).mono hq.size)
  have tp := Lib.hid ((tp.out.below hq).mono hq.size)
  have ch := Lib.hid (ch.out.trans (hq.mono ch.out.size))
  clear hq
  have tq := Lib.hid (tq.row (by have := hlq.out; omega))
  go_wp2_with fail
  have hL0 := ProgsRow.lit (w := w6) [.slice tpa p.length tpc, .slice tqa q.length tqc] [p, q] rfl (by simp) (fun j u l hu hl => match j, u, l, hu, hl with | 0, _, _, hu, hl => by cases hu; cases hl; exact tp.out | 1, _, _, hu, hl => by cases hu; cases hl; exact tq.out)
  obtain ⟨w7, hW⟩ : ∃ B, w6.alloc (.cells #[.slice tpa p.length tpc, .slice tqa q.length tqc] 23) = B := ⟨_, rfl⟩
  rw [hW]
  have hq : Below w6.heap.size w6 w7 := by rw [← hW]; exact (Below.refl _ _).alloc (Nat.le_refl _) _
  have hL := Lib.hid (show ProgsRow w7 w7.heap.size (.slice (some ⟨w6.heap.size, 0, none⟩) 2 2) [p, q] by rw [← hW]; exact hL0)
  clear hW hL0
  have hX := Lib.hid (hX.out.kept (Kept.below hq))
  have hc := Lib.hid ((hc.out.below hq).mono hq.size)
  have hp := Lib.hid ((hp.out.below hq).mono hq.size)
  have hqq := Lib.hid ((hqq.out.below hq).mono hq.size)
  have tp := Lib.hid ((tp.out.below hq).mono hq.size)
  have tq := Lib.hid ((tq.out.below hq).mono hq.size)
  have ch := Lib.hid (ch.out.trans (hq.mono ch.out.size))
  clear hq
  refine (made_d HM.out.1.1 (bThen_any _ _ _ _ _ hL.out)).mono ?_
  rintro e w8 ⟨v1, rfl, h1, hq⟩
  have hX := Lib.hid (hX.out.kept (Kept.below hq))
  have hc := Lib.hid ((hc.out.below hq).mono hq.size)
  have hp := Lib.hid ((hp.out.below hq).mono hq.size)
  have hqq := Lib.hid ((hqq.out.below hq).mono hq.size)
  have tp := Lib.hid ((tp.out.below hq).mono hq.size)
  have tq := Lib.hid ((tq.out.below hq).mono hq.size)
  have hL := Lib.hid ((hL.out.below hq).mono hq.size)
  have ch := Lib.hid (ch.out.trans (hq.mono ch.out.size))
  clear hq
  clear hL tp tq
  have hT := Lib.hid (h1.1 rfl)
  clear h1
  go_wp2_with fail
  refine (ttwin_any _ p (by have := hlp.out; omega) _ hp.out).mono ?_
  rintro e w9 ⟨tpa, tpc, rfl, tp, hq⟩
  have hX := Lib.hid (hX.out.kept (Kept.below hq))
  have hc := Lib.hid ((hc.out.below hq).mono hq.size)
  have hp := Lib.hid ((hp.out.below hq).mono hq.size)
  have hqq := Lib.hid ((hqq.out.below hq).mono hq.size)
  have hT := Lib.hid ((hT.out.below hq).mono hq.size)
  have ch := Lib.hid (ch.out.trans (hq.mono ch.out.size))
  clear hq
  have tp := Lib.hid (tp.row (by have := hlp.out; omega))
  go_wp2_with fail
  refine (ttwin_any _ q (by have := hlq.out; omega) _ hqq.out).mono ?_
  rintro e w10 ⟨tqa, tqc, rfl, tq, hq⟩
  have hX := Lib.hid (hX.out.kept (Kept.below hq))
  have hc := Lib.hid ((hc.out.below hq).mono hq.size)
  have hp := Lib.hid ((hp.out.below hq).mono hq.size)
  have hqq := Lib.hid ((hqq.out.below hq).mono hq.size)
  have hT := Lib.hid ((hT.out.below hq).mono hq.size)
  have tp := Lib.hid ((tp.out.below hq).mono hq.size)
  have ch := Lib.hid (ch.out.trans (hq.mono ch.out.size))
  clear hq
  have tq := Lib.hid (tq.row (by have := hlq.out; omega))
  go_wp2_with fail
  refine (made_d HM.out.2.1.1 (bPair_any _ _ _ _ _ _ p q _ tp.out tq.out)).mono ?_
  rintro e w11 ⟨v2, rfl, h2, hq⟩
  have hX := Lib.hid (hX.out.kept (Kept.below hq))
  have hc := Lib.hid ((hc.out.below hq).mono hq.size)
  have hp := Lib.hid ((hp.out.below hq).mono hq.size)
  have hqq := Lib.hid ((hqq.out.below hq).mono hq.size)
  have hT := Lib.hid ((hT.out.below hq).mono hq.size)
  have tp := Lib.hid ((tp.out.below hq).mono hq.size)
  have tq := Lib.hid ((tq.out.below hq).mono hq.size)
  have ch := Lib.hid (ch.out.trans (hq.mono ch.out.size))
  clear hq
  clear tp tq
  have hB := Lib.hid (h2.1 rfl)
  clear h2
  go_wp2_with fail
  refine (ttwin_any _ c (by have := hlc.out; omega) _ hc.out).mono ?_
  rintro e w12 ⟨tca, tcc, rfl, tc, hq⟩
  have hX := Lib.hid (hX.out.kept (Kept.below hq))
  have hc := Lib.hid ((hc.out.below hq).mono hq.size)
  have hp := Lib.hid ((hp.out.below hq).mono hq.size)
  have hqq := Lib.hid ((hqq.out.below hq).mono hq.size)
  have hT := Lib.hid ((hT.out.below hq).mono hq.size)
  have hB := Lib.hid ((hB.out.below hq).mono hq.size)
  have ch := Lib.hid (ch.out.trans (hq.mono ch.out.size))
  clear hq
  have tc := Lib.hid (tc.row (by have := hlc.out; omega))
  go_wp2_with fail
  refine (ttwin_any _ p (by have := hlp.out; omega) _ hp.out).mono ?_
  rintro e w13 ⟨tpa, tpc, rfl, tp, hq⟩
  have hX := Lib.hid (hX.out.kept (Kept.below hq))
  have hc := Lib.hid ((hc.out.below hq).mono hq.size)
  have hp := Lib.hid ((hp.out.below hq).mono hq.size)
  have hqq := Lib.hid ((hqq.out.below hq).mono hq.size)
  have hT := Lib.hid ((hT.out.below hq).mono hq.size)
  have hB := Lib.hid ((hB.out.below hq).mono hq.size)
  have tc := Lib.hid ((tc.out.below hq).mono hq.size)
  have ch := Lib.hid (ch.out.trans (hq.mono ch.out.size))
  clear hq
  have tp := Lib.hid (tp.row (by have := hlp.out; omega))
  go_wp2_with fail
  refine (ttwin_any _ q (by have := hlq.out; omega) _ hqq.out).mono ?_
  rintro e w14 ⟨tqa, tqc, rfl, tq, hq⟩
  have hX := Lib.hid (hX.out.kept (Kept.below hq))
  have hc := Lib.hid ((hc.out.below hq).mono hq.size)
  have hp := Lib.hid ((hp.out.below hq).mono hq.size)
  have hqq := Lib.hid ((hqq.out.below hq).mono hq.size)
  have hT := Lib.hid ((hT.out.below hq).mono hq.size)
  have hB := Lib.hid ((hB.out.below hq).mono hq.size)
  have tc := Lib.hid ((tc.out.below hq).mono hq.size)
  have tp := Lib.hid ((tp.out.below hq).mono hq.size)
  have ch := Lib.hid (ch.out.trans (hq.mono ch.out.size))
  clear hq
  have tq := Lib.hid (tq.row (by have := hlq.out; omega))
  go_wp2_with fail
  refine (made_d HM.out.2.2.1 (bIf_any _ _ _ _ _ _ _ _ _ c p q _ tc.out tp.out tq.out)).mono ?_
  rintro e w15 ⟨v3, rfl, h3, hq⟩
  have hX := Lib.hid (hX.out.kept (Kept.below hq))
  have hc := Lib.hid ((hc.out.below hq).mono hq.size)
  have hp := Lib.hid ((hp.out.below hq).mono hq.size)
  have hqq := Lib.hid ((hqq.out.below hq).mono hq.size)
  have hT := Lib.hid ((hT.out.below hq).mono hq.size)
  have hB := Lib.hid ((hB.out.below hq).mono hq.size)
  have tc := Lib.hid ((tc.out.below hq).mono hq.size)
  have tp := Lib.hid ((tp.out.below hq).mono hq.size)
  have tq := Lib.hid ((tq.out.below hq).mono hq.size)
  have ch := Lib.hid (ch.out.trans (hq.mono ch.out.size))
  clear hq
  clear tc tp tq
  have hE := Lib.hid (h3.1 rfl)
  clear h3
  have gp := Hgp.out
  clear Hgp
  have GP := Lib.hid gp
  have ndT := Lib.hid (TR.out.2 (fun s2 m2 e2 => by rw [gp] at e2; cases e2))
  have ndB := Lib.hid (PR.out.2 (fun s2 m2 e2 => by rw [gp] at e2; cases e2))
  clear gp
  go_wp2_with fail
  refine (tplay_fuel 300 _ (by omega) (by omega) GP.out hp.out VP.out hX.out HXT.out).mono ?_
  rintro e w16 ⟨ypq, ypk, rfl, hq⟩
  have hX := Lib.hid (hX.out.kept (Kept.below hq))
  have hc := Lib.hid ((hc.out.below hq).mono hq.size)
  have hp := Lib.hid ((hp.out.below hq).mono hq.size)
  have hqq := Lib.hid ((hqq.out.below hq).mono hq.size)
  have hT := Lib.hid ((hT.out.below hq).mono hq.size)
  have hB := Lib.hid ((hB.out.below hq).mono hq.size)
  have hE := Lib.hid ((hE.out.below hq).mono hq.size)
  have ch := Lib.hid (ch.out.trans (hq.mono ch.out.size))
  clear hq
  go_wp2_with fail
  refine (tlasts_ok 300 _ (by omega) (by omega) hT.out HM.out.1.2 hX.out HXT.out ndT.out).mono ?_
  rintro e w17 ⟨rfl, hq⟩
  have hX := Lib.hid (hX.out.kept (Kept.below hq))
  have hc := Lib.hid ((hc.out.below hq).mono hq.size)
  have hp := Lib.hid ((hp.out.below hq).mono hq.size)
  have hqq := Lib.hid ((hqq.out.below hq).mono hq.size)
  have hT := Lib.hid ((hT.out.below hq).mono hq.size)
  have hB := Lib.hid ((hB.out.below hq).mono hq.size)
  have hE := Lib.hid ((hE.out.below hq).mono hq.size)
  have ch := Lib.hid (ch.out.trans (hq.mono ch.out.size))
  clear hq
  go_wp2_with fail
  refine (tlasts_ok 300 _ (by omega) (by omega) hB.out HM.out.2.1.2 hX.out HXT.out ndB.out).mono ?_
  rintro e w18 ⟨rfl, hq⟩
  have hX := Lib.hid (hX.out.kept (Kept.below hq))
  have hc := Lib.hid ((hc.out.below hq).mono hq.size)
  have hp := Lib.hid ((hp.out.below hq).mono hq.size)
  have hqq := Lib.hid ((hqq.out.below hq).mono hq.size)
  have hT := Lib.hid ((hT.out.below hq).mono hq.size)
  have hB := Lib.hid ((hB.out.below hq).mono hq.size)
  have hE := Lib.hid ((hE.out.below hq).mono hq.size)
  have ch := Lib.hid (ch.out.trans (hq.mono ch.out.size))
  clear hq
  go_wp2_with fail
  refine (krq.out _ _ hqq.out).mono ?_
  rintro e w19 ⟨rfl, hq⟩
  have hX := Lib.hid (hX.out.kept (Kept.below hq))
  have hc := Lib.hid ((hc.out.below hq).mono hq.size)
  have hp := Lib.hid ((hp.out.below hq).mono hq.size)
  have hqq := Lib.hid ((hqq.out.below hq).mono hq.size)
  have hT := Lib.hid ((hT.out.below hq).mono hq.size)
  have hB := Lib.hid ((hB.out.below hq).mono hq.size)
  have hE := Lib.hid ((hE.out.below hq).mono hq.size)
  have ch := Lib.hid (ch.out.trans (hq.mono ch.out.size))
  clear hq
  cases gc : goF c 300 0 (startS (toTr x)) with
  | fuel sc nc =>
    have GC := Lib.hid gc
    have ndE := Lib.hid (IR.out.2 (fun s2 m2 e2 => by rw [gc] at e2; cases e2))
    clear gc
    go_wp2_with fail
    refine (tplay_fuel 300 _ (by omega) (by omega) GC.out hc.out VC.out hX.out HXT.out).mono ?_
    rintro e w20 ⟨zcq, zck, rfl, hq⟩
    have hX := Lib.hid (hX.out.kept (Kept.below hq))
    have hc := Lib.hid ((hc.out.below hq).mono hq.size)
    have hp := Lib.hid ((hp.out.below hq).mono hq.size)
    have hqq := Lib.hid ((hqq.out.below hq).mono hq.size)
    have hT := Lib.hid ((hT.out.below hq).mono hq.size)
    have hB := Lib.hid ((hB.out.below hq).mono hq.size)
    have hE := Lib.hid ((hE.out.below hq).mono hq.size)
    have ch := Lib.hid (ch.out.trans (hq.mono ch.out.size))
    clear hq
    go_wp2_with fail
    refine (tlasts_ok 300 _ (by omega) (by omega) hE.out HM.out.2.2.2 hX.out HXT.out ndE.out).mono ?_
    rintro e w21 ⟨rfl, hq⟩
    have hX := Lib.hid (hX.out.kept (Kept.below hq))
    have hc := Lib.hid ((hc.out.below hq).mono hq.size)
    have hp := Lib.hid ((hp.out.below hq).mono hq.size)
    have hqq := Lib.hid ((hqq.out.below hq).mono hq.size)
    have hT := Lib.hid ((hT.out.below hq).mono hq.size)
    have hB := Lib.hid ((hB.out.below hq).mono hq.size)
    have hE := Lib.hid ((hE.out.below hq).mono hq.size)
    have ch := Lib.hid (ch.out.trans (hq.mono ch.out.size))
    clear hq
    go_wp2_with fail
    refine (composes_any _).mono ?_
    rintro e wz ⟨rfl, hqz⟩
    go_wp2
    go_ret
    exact ⟨rfl, ch.out.trans (hqz.mono ch.out.size)⟩
  | big =>
    have GC := Lib.hid gc
    clear gc
    go_wp2_with fail
    refine (tplay_big 300 _ (by omega) (by omega) GC.out hc.out VC.out hX.out HXT.out).mono ?_
    rintro e w20 ⟨zcq, zck, rfl, hq⟩
    have hX := Lib.hid (hX.out.kept (Kept.below hq))
    have hc := Lib.hid ((hc.out.below hq).mono hq.size)
    have hp := Lib.hid ((hp.out.below hq).mono hq.size)
    have hqq := Lib.hid ((hqq.out.below hq).mono hq.size)
    have hT := Lib.hid ((hT.out.below hq).mono hq.size)
    have hB := Lib.hid ((hB.out.below hq).mono hq.size)
    have hE := Lib.hid ((hE.out.below hq).mono hq.size)
    have ch := Lib.hid (ch.out.trans (hq.mono ch.out.size))
    clear hq
    go_wp2_with fail
    refine (composes_any _).mono ?_
    rintro e wz ⟨rfl, hqz⟩
    go_wp2
    go_ret
    exact ⟨rfl, ch.out.trans (hqz.mono ch.out.size)⟩
  | done sc nc =>
    have GC := Lib.hid gc
    have hn0 := goF_steps gc
    have hncI : (nc : Int) ≤ 300 := by omega
    have hI1 := Lib.hid (IR.out.1 sc nc gc 300)
    clear gc hn0
    go_wp2_with fail
    refine (tplay_done 300 _ (by omega) (by omega) GC.out hc.out VC.out hX.out HXT.out).mono ?_
    rintro e w20 ⟨zcq, rfl, hZc, hq⟩
    have hX := Lib.hid (hX.out.kept (Kept.below hq))
    have hc := Lib.hid ((hc.out.below hq).mono hq.size)
    have hp := Lib.hid ((hp.out.below hq).mono hq.size)
    have hqq := Lib.hid ((hqq.out.below hq).mono hq.size)
    have hT := Lib.hid ((hT.out.below hq).mono hq.size)
    have hB := Lib.hid ((hB.out.below hq).mono hq.size)
    have hE := Lib.hid ((hE.out.below hq).mono hq.size)
    have ch := Lib.hid (ch.out.trans (hq.mono ch.out.size))
    clear hq
    have hZc := Lib.hid hZc
    go_wp2_with fail
    refine (krp.out _ _ hp.out).mono ?_
    rintro e w21 ⟨rfl, hq⟩
    have hX := Lib.hid (hX.out.kept (Kept.below hq))
    have hZc := Lib.hid (hZc.out.kept (Kept.below hq))
    have hc := Lib.hid ((hc.out.below hq).mono hq.size)
    have hp := Lib.hid ((hp.out.below hq).mono hq.size)
    have hqq := Lib.hid ((hqq.out.below hq).mono hq.size)
    have hT := Lib.hid ((hT.out.below hq).mono hq.size)
    have hB := Lib.hid ((hB.out.below hq).mono hq.size)
    have hE := Lib.hid ((hE.out.below hq).mono hq.size)
    have ch := Lib.hid (ch.out.trans (hq.mono ch.out.size))
    clear hq
    cases htc : getR sc.regs 0 with
    | nil =>
      have hz1 := hZc.out
      rw [htc] at hz1
      obtain rfl := node_nilT hz1
      have hI2 := Lib.hid (hI1.out.2 htc)
      clear hz1 htc hI1
      clear hZc
      go_wp2_with fail
      refine (krq.out _ _ hqq.out).mono ?_
      rintro e w22 ⟨rfl, hq⟩
      have hX := Lib.hid (hX.out.kept (Kept.below hq))
      have hc := Lib.hid ((hc.out.below hq).mono hq.size)
      have hp := Lib.hid ((hp.out.below hq).mono hq.size)
      have hqq := Lib.hid ((hqq.out.below hq).mono hq.size)
      have hT := Lib.hid ((hT.out.below hq).mono hq.size)
      have hB := Lib.hid ((hB.out.below hq).mono hq.size)
      have hE := Lib.hid ((hE.out.below hq).mono hq.size)
      have ch := Lib.hid (ch.out.trans (hq.mono ch.out.size))
      clear hq
      cases gq : goF q 300 0 (startS (toTr x)) with
      | fuel sq nq =>
        have GQ := Lib.hid gq
        clear gq
        go_wp2_with fail
        refine (tplay_fuel 300 _ (by omega) (by omega) GQ.out hqq.out VQ.out hX.out HXT.out).mono ?_
        rintro e w23 ⟨ztq, ztk, rfl, hq⟩
        have hX := Lib.hid (hX.out.kept (Kept.below hq))
        have hc := Lib.hid ((hc.out.below hq).mono hq.size)
        have hp := Lib.hid ((hp.out.below hq).mono hq.size)
        have hqq := Lib.hid ((hqq.out.below hq).mono hq.size)
        have hT := Lib.hid ((hT.out.below hq).mono hq.size)
        have hB := Lib.hid ((hB.out.below hq).mono hq.size)
        have hE := Lib.hid ((hE.out.below hq).mono hq.size)
        have ch := Lib.hid (ch.out.trans (hq.mono ch.out.size))
        clear hq
        have ndE := Lib.hid (hI2.out.2 (fun s2 m2 e2 => by rw [GQ.out] at e2; cases e2))
        go_wp2_with fail
        refine (tlasts_ok 300 _ (by omega) (by omega) hE.out HM.out.2.2.2 hX.out HXT.out ndE.out).mono ?_
        rintro e w24 ⟨rfl, hq⟩
        have hX := Lib.hid (hX.out.kept (Kept.below hq))
        have hc := Lib.hid ((hc.out.below hq).mono hq.size)
        have hp := Lib.hid ((hp.out.below hq).mono hq.size)
        have hqq := Lib.hid ((hqq.out.below hq).mono hq.size)
        have hT := Lib.hid ((hT.out.below hq).mono hq.size)
        have hB := Lib.hid ((hB.out.below hq).mono hq.size)
        have hE := Lib.hid ((hE.out.below hq).mono hq.size)
        have ch := Lib.hid (ch.out.trans (hq.mono ch.out.size))
        clear hq
        go_wp2_with fail
        refine (composes_any _).mono ?_
        rintro e wz ⟨rfl, hqz⟩
        go_wp2
        go_ret
        exact ⟨rfl, ch.out.trans (hqz.mono ch.out.size)⟩
      | big =>
        have GQ := Lib.hid gq
        clear gq
        go_wp2_with fail
        refine (tplay_big 300 _ (by omega) (by omega) GQ.out hqq.out VQ.out hX.out HXT.out).mono ?_
        rintro e w23 ⟨ztq, ztk, rfl, hq⟩
        have hX := Lib.hid (hX.out.kept (Kept.below hq))
        have hc := Lib.hid ((hc.out.below hq).mono hq.size)
        have hp := Lib.hid ((hp.out.below hq).mono hq.size)
        have hqq := Lib.hid ((hqq.out.below hq).mono hq.size)
        have hT := Lib.hid ((hT.out.below hq).mono hq.size)
        have hB := Lib.hid ((hB.out.below hq).mono hq.size)
        have hE := Lib.hid ((hE.out.below hq).mono hq.size)
        have ch := Lib.hid (ch.out.trans (hq.mono ch.out.size))
        clear hq
        go_wp2_with fail
        refine (composes_any _).mono ?_
        rintro e wz ⟨rfl, hqz⟩
        go_wp2
        go_ret
        exact ⟨rfl, ch.out.trans (hqz.mono ch.out.size)⟩
      | done sq nq =>
        have GQ := Lib.hid gq
        have hm0 := goF_steps gq
        have hnqI : (nq : Int) ≤ 300 := by omega
        clear hm0
        clear gq
        go_wp2_with fail
        refine (tplay_done 300 _ (by omega) (by omega) GQ.out hqq.out VQ.out hX.out HXT.out).mono ?_
        rintro e w23 ⟨ztq, rfl, hZt, hq⟩
        have hX := Lib.hid (hX.out.kept (Kept.below hq))
        have hc := Lib.hid ((hc.out.below hq).mono hq.size)
        have hp := Lib.hid ((hp.out.below hq).mono hq.size)
        have hqq := Lib.hid ((hqq.out.below hq).mono hq.size)
        have hT := Lib.hid ((hT.out.below hq).mono hq.size)
        have hB := Lib.hid ((hB.out.below hq).mono hq.size)
        have hE := Lib.hid ((hE.out.below hq).mono hq.size)
        have ch := Lib.hid (ch.out.trans (hq.mono ch.out.size))
        clear hq
        have hZt := Lib.hid hZt
        have hex := Lib.hid (hI2.out.1 sq nq GQ.out)
        rw [HRQ.out] at hex
        go_wp2_with fail
        refine (treturns_ok (nc + RQ + 4 + nq) _ (by omega) (by omega) hE.out HM.out.2.2.2 hX.out hZt.out HXT.out hex.out).mono ?_
        rintro e w24 ⟨rfl, hq⟩
        have hX := Lib.hid (hX.out.kept (Kept.below hq))
        have hZt := Lib.hid (hZt.out.kept (Kept.below hq))
        have hc := Lib.hid ((hc.out.below hq).mono hq.size)
        have hp := Lib.hid ((hp.out.below hq).mono hq.size)
        have hqq := Lib.hid ((hqq.out.below hq).mono hq.size)
        have hT := Lib.hid ((hT.out.below hq).mono hq.size)
        have hB := Lib.hid ((hB.out.below hq).mono hq.size)
        have hE := Lib.hid ((hE.out.below hq).mono hq.size)
        have ch := Lib.hid (ch.out.trans (hq.mono ch.out.size))
        clear hq
        go_wp2_with fail
        refine (composes_any _).mono ?_
        rintro e wz ⟨rfl, hqz⟩
        go_wp2
        go_ret
        exact ⟨rfl, ch.out.trans (hqz.mono ch.out.size)⟩
    | pair t1 t2 =>
      have hz1 := hZc.out
      rw [htc] at hz1
      obtain ⟨g3, x3, y3, hgo, -⟩ := hz1.cells
      injection hgo with hgo
      subst hgo
      have hI2 := Lib.hid (hI1.out.1 (by rw [htc]; intro h; cases h))
      clear hz1 htc hI1
      clear hZc
      go_wp2_with fail
      refine (tplay_fuel 300 _ (by omega) (by omega) GP.out hp.out VP.out hX.out HXT.out).mono ?_
      rintro e w22 ⟨ztq, ztk, rfl, hq⟩
      have hX := Lib.hid (hX.out.kept (Kept.below hq))
      have hc := Lib.hid ((hc.out.below hq).mono hq.size)
      have hp := Lib.hid ((hp.out.below hq).mono hq.size)
      have hqq := Lib.hid ((hqq.out.below hq).mono hq.size)
      have hT := Lib.hid ((hT.out.below hq).mono hq.size)
      have hB := Lib.hid ((hB.out.below hq).mono hq.size)
      have hE := Lib.hid ((hE.out.below hq).mono hq.size)
      have ch := Lib.hid (ch.out.trans (hq.mono ch.out.size))
      clear hq
      have ndE := Lib.hid (hI2.out.2 (fun s2 m2 e2 => by rw [GP.out] at e2; cases e2))
      go_wp2_with fail
      refine (tlasts_ok 300 _ (by omega) (by omega) hE.out HM.out.2.2.2 hX.out HXT.out ndE.out).mono ?_
      rintro e w23 ⟨rfl, hq⟩
      have hX := Lib.hid (hX.out.kept (Kept.below hq))
      have hc := Lib.hid ((hc.out.below hq).mono hq.size)
      have hp := Lib.hid ((hp.out.below hq).mono hq.size)
      have hqq := Lib.hid ((hqq.out.below hq).mono hq.size)
      have hT := Lib.hid ((hT.out.below hq).mono hq.size)
      have hB := Lib.hid ((hB.out.below hq).mono hq.size)
      have hE := Lib.hid ((hE.out.below hq).mono hq.size)
      have ch := Lib.hid (ch.out.trans (hq.mono ch.out.size))
      clear hq
      go_wp2_with fail
      refine (composes_any _).mono ?_
      rintro e wz ⟨rfl, hqz⟩
      go_wp2
      go_ret
      exact ⟨rfl, ch.out.trans (hqz.mono ch.out.size)⟩
set_option maxRecDepth 20000 in
set_option maxHeartbeats 100000000 in
theorem tc_big {w : World} (vc : Value) (c : List Ins) (hhc : InsRow w w.heap.size vc c) (vp : Value) (p : List Ins) (hhp : InsRow w w.heap.size vp p) (vq : Value) (q : List Ins) (hhq : InsRow w w.heap.size vq q) (x : ByteArray) (hxs : x.size ≤ 140737488355328) (hbg : growB x 2000 = true) (hbf : fewB [c, p, q] = true) (gp : goF p 300 0 (startS (toTr x)) = .big) :
    Calls Try.prog 4 #[vc, vp, .agg #[vq, .string x]] w fun e w' => e = .returned (.bool true) ∧ Below w.heap.size w w' := by
  obtain ⟨ca, cc, rfl⟩ := hhc.len
  obtain ⟨cn, hcn⟩ : ∃ lz, c.length = lz := ⟨_, rfl⟩
  rw [hcn] at hhc ⊢
  have hc := Lib.hid hhc
  clear hhc hcn
  obtain ⟨pa, pc, rfl⟩ := hhp.len
  obtain ⟨pn, hpn⟩ : ∃ lz, p.length = lz := ⟨_, rfl⟩
  rw [hpn] at hhp ⊢
  have hp := Lib.hid hhp
  clear hhp hpn
  obtain ⟨qa, qc, rfl⟩ := hhq.len
  obtain ⟨qn, hqn⟩ : ∃ lz, q.length = lz := ⟨_, rfl⟩
  rw [hqn] at hhq ⊢
  have hqq := Lib.hid hhq
  clear hhq hqn
  have HXS := Lib.hid hxs
  have HBG := Lib.hid hbg
  have HBF := Lib.hid hbf
  have kg := Lib.hid (fun w => tgrow_any x hxs 2000 (by omega) w)
  clear hxs hbg hbf
  have Hgp := Lib.hid gp
  clear gp
  have ch := Lib.hid (Below.refl w.heap.size w)
  go_enter Try.func4, Try.ntmps4
  go_wp2_with fail
  obtain ⟨w1, hW⟩ : ∃ B, w.alloc (.cells #[.slice qa qn qc, .string x] 41) = B := ⟨_, rfl⟩
  rw [hW]
  have hq9 : Below w.heap.size w w1 := by rw [← hW]; exact (Below.refl _ _).alloc (Nat.le_refl _) _
  clear hW
  have hc := Lib.hid ((hc.out.below hq9).mono hq9.size)
  have hp := Lib.hid ((hp.out.below hq9).mono hq9.size)
  have hqq := Lib.hid ((hqq.out.below hq9).mono hq9.size)
  have ch := Lib.hid (ch.out.trans (hq9.mono ch.out.size))
  clear hq9
  refine (kg.out _).mono ?_
  rintro e w2 ⟨xq, rfl, hX, -, hq⟩
  have hc := Lib.hid ((hc.out.below hq).mono hq.size)
  have hp := Lib.hid ((hp.out.below hq).mono hq.size)
  have hqq := Lib.hid ((hqq.out.below hq).mono hq.size)
  have ch := Lib.hid (ch.out.trans (hq.mono ch.out.size))
  clear hq
  rw [HBG.out]
  have hX := hX HBG.out
  have hX := Lib.hid hX
  go_wp2_with fail
  have hL0 := ProgsRow.lit (w := w2) [.slice ca cn cc, .slice pa pn pc, .slice qa qn qc] [c, p, q] rfl (by simp) (fun j u l hu hl => match j, u, l, hu, hl with | 0, _, _, hu, hl => by cases hu; cases hl; exact hc.out | 1, _, _, hu, hl => by cases hu; cases hl; exact hp.out | 2, _, _, hu, hl => by cases hu; cases hl; exact hqq.out)
  obtain ⟨w3, hW⟩ : ∃ B, w2.alloc (.cells #[.slice ca cn cc, .slice pa pn pc, .slice qa qn qc] 23) = B := ⟨_, rfl⟩
  rw [hW]
  have hq : Below w2.heap.size w2 w3 := by rw [← hW]; exact (Below.refl _ _).alloc (Nat.le_refl _) _
  have hL := Lib.hid (show ProgsRow w3 w3.heap.size (.slice (some ⟨w2.heap.size, 0, none⟩) 3 3) [c, p, q] by rw [← hW]; exact hL0)
  clear hW hL0
  have hX := Lib.hid (hX.out.kept (Kept.below hq))
  have hc := Lib.hid ((hc.out.below hq).mono hq.size)
  have hp := Lib.hid ((hp.out.below hq).mono hq.size)
  have hqq := Lib.hid ((hqq.out.below hq).mono hq.size)
  have ch := Lib.hid (ch.out.trans (hq.mono ch.out.size))
  clear hq
  have kfew := Lib.hid (tfew_any _ [c, p, q] (by simp) _ hL.out)
  rw [HBF.out] at kfew
  refine (kfew.out).mono ?_
  rintro e w4 ⟨rfl, hq⟩
  have hX := Lib.hid (hX.out.kept (Kept.below hq))
  have hc := Lib.hid ((hc.out.below hq).mono hq.size)
  have hp := Lib.hid ((hp.out.below hq).mono hq.size)
  have hqq := Lib.hid ((hqq.out.below hq).mono hq.size)
  have hL := Lib.hid ((hL.out.below hq).mono hq.size)
  have ch := Lib.hid (ch.out.trans (hq.mono ch.out.size))
  clear hq
  clear hL
  have hc4 := fewB_get HBF.out (l := c) (by simp)
  have hp4 := fewB_get HBF.out (l := p) (by simp)
  have hq4 := fewB_get HBF.out (l := q) (by simp)
  have VC := Lib.hid hc4.1
  have VP := Lib.hid hp4.1
  have VQ := Lib.hid hq4.1
  have HM := Lib.hid (few_parts HBF.out)
  have HXT := Lib.hid (show (toTr x).size ≤ 2000000 by rw [growB_size HBG.out]; have := (growB_tree HBG.out).2; omega)
  have hM2 : max (regN p) (regN q) ≤ 28 := by have := hp4.2.1; have := hq4.2.1; omega
  have hM3 : max (regN c) (max (regN p) (regN q)) ≤ 28 := by have := hc4.2.1; omega
  have TR := Lib.hid (then_runs (validB_all VP.out) (validB_all VQ.out) (toTr x) HXT.out 300)
  have PR := Lib.hid (pair_runs (validB_all VP.out) (validB_all VQ.out) hM2 (toTr x) HXT.out 300)
  have IR := Lib.hid (if_runs (validB_all VC.out) (validB_all VP.out) (validB_all VQ.out) hM3 (toTr x) HXT.out 300)
  have HMQ := Lib.hid (show regN q = mostN q + 1 from rfl)
  obtain ⟨RP, hRP⟩ : ∃ r, regN p = r := ⟨_, rfl⟩
  obtain ⟨RQ, hRQ⟩ : ∃ r, regN q = r := ⟨_, rfl⟩
  have krp := Lib.hid (fun v w hl => tregs_ok v p w hl hp4.1)
  have krq := Lib.hid (fun v w hl => tregs_ok v q w hl hq4.1)
  have hrp : (RP : Int) ≤ 28 := by have := hp4.2.1; omega
  have hrq : (RQ : Int) ≤ 28 ∧ (1 : Int) ≤ RQ := by have := hq4.2.1; have := HMQ.out; omega
  rw [hRP] at krp
  rw [hRQ] at krq HMQ
  have HRP := Lib.hid hRP
  have HRQ := Lib.hid hRQ
  have hlc := Lib.hid hc4.2.2.1
  have hlp := Lib.hid hp4.2.2.1
  have hlq := Lib.hid hq4.2.2.1
  clear hc4 hp4 hq4 hRP hRQ hM2 hM3
  go_wp2_with fail
  refine (ttwin_any _ p (by have := hlp.out; omega) _ hp.out).mono ?_
  rintro e w5 ⟨tpa, tpc, rfl, tp, hq⟩
  have hX := Lib.hid (hX.out.kept (Kept.below hq))
  have hc := Lib.hid ((hc.out.below hq).mono hq.size)
  have hp := Lib.hid ((hp.out.below hq).mono hq.size)
  have hqq := Lib.hid ((hqq.out.below hq).mono hq.size)
  have ch := Lib.hid (ch.out.trans (hq.mono ch.out.size))
  clear hq
  have tp := Lib.hid (tp.row (by have := hlp.out; omega))
  go_wp2_with fail
  refine (ttwin_any _ q (by have := hlq.out; omega) _ hqq.out).mono ?_
  rintro e w6 ⟨tqa, tqc, rfl, tq, hq⟩
  have hX := Lib.hid (hX.out.kept (Kept.below hq))
  have hc := Lib.hid ((hc.out.below hq).mono hq.size)
  have hp := Lib.hid ((hp.out.below hq).mono hq.size)
  have hqq := Lib.hid ((hqq.out.below hq).mono hq.size)
  have tp := Lib.hid ((tp.out.below hq).mono hq.size)
  have ch := Lib.hid (ch.out.trans (hq.mono ch.out.size))
  clear hq
  have tq := Lib.hid (tq.row (by have := hlq.out; omega))
  go_wp2_with fail
  have hL0 := ProgsRow.lit (w := w6) [.slice tpa p.length tpc, .slice tqa q.length tqc] [p, q] rfl (by simp) (fun j u l hu hl => match j, u, l, hu, hl with | 0, _, _, hu, hl => by cases hu; cases hl; exact tp.out | 1, _, _, hu, hl => by cases hu; cases hl; exact tq.out)
  obtain ⟨w7, hW⟩ : ∃ B, w6.alloc (.cells #[.slice tpa p.length tpc, .slice tqa q.length tqc] 23) = B := ⟨_, rfl⟩
  rw [hW]
  have hq : Below w6.heap.size w6 w7 := by rw [← hW]; exact (Below.refl _ _).alloc (Nat.le_refl _) _
  have hL := Lib.hid (show ProgsRow w7 w7.heap.size (.slice (some ⟨w6.heap.size, 0, none⟩) 2 2) [p, q] by rw [← hW]; exact hL0)
  clear hW hL0
  have hX := Lib.hid (hX.out.kept (Kept.below hq))
  have hc := Lib.hid ((hc.out.below hq).mono hq.size)
  have hp := Lib.hid ((hp.out.below hq).mono hq.size)
  have hqq := Lib.hid ((hqq.out.below hq).mono hq.size)
  have tp := Lib.hid ((tp.out.below hq).mono hq.size)
  have tq := Lib.hid ((tq.out.below hq).mono hq.size)
  have ch := Lib.hid (ch.out.trans (hq.mono ch.out.size))
  clear hq
  refine (made_d HM.out.1.1 (bThen_any _ _ _ _ _ hL.out)).mono ?_
  rintro e w8 ⟨v1, rfl, h1, hq⟩
  have hX := Lib.hid (hX.out.kept (Kept.below hq))
  have hc := Lib.hid ((hc.out.below hq).mono hq.size)
  have hp := Lib.hid ((hp.out.below hq).mono hq.size)
  have hqq := Lib.hid ((hqq.out.below hq).mono hq.size)
  have tp := Lib.hid ((tp.out.below hq).mono hq.size)
  have tq := Lib.hid ((tq.out.below hq).mono hq.size)
  have hL := Lib.hid ((hL.out.below hq).mono hq.size)
  have ch := Lib.hid (ch.out.trans (hq.mono ch.out.size))
  clear hq
  clear hL tp tq
  have hT := Lib.hid (h1.1 rfl)
  clear h1
  go_wp2_with fail
  refine (ttwin_any _ p (by have := hlp.out; omega) _ hp.out).mono ?_
  rintro e w9 ⟨tpa, tpc, rfl, tp, hq⟩
  have hX := Lib.hid (hX.out.kept (Kept.below hq))
  have hc := Lib.hid ((hc.out.below hq).mono hq.size)
  have hp := Lib.hid ((hp.out.below hq).mono hq.size)
  have hqq := Lib.hid ((hqq.out.below hq).mono hq.size)
  have hT := Lib.hid ((hT.out.below hq).mono hq.size)
  have ch := Lib.hid (ch.out.trans (hq.mono ch.out.size))
  clear hq
  have tp := Lib.hid (tp.row (by have := hlp.out; omega))
  go_wp2_with fail
  refine (ttwin_any _ q (by have := hlq.out; omega) _ hqq.out).mono ?_
  rintro e w10 ⟨tqa, tqc, rfl, tq, hq⟩
  have hX := Lib.hid (hX.out.kept (Kept.below hq))
  have hc := Lib.hid ((hc.out.below hq).mono hq.size)
  have hp := Lib.hid ((hp.out.below hq).mono hq.size)
  have hqq := Lib.hid ((hqq.out.below hq).mono hq.size)
  have hT := Lib.hid ((hT.out.below hq).mono hq.size)
  have tp := Lib.hid ((tp.out.below hq).mono hq.size)
  have ch := Lib.hid (ch.out.trans (hq.mono ch.out.size))
  clear hq
  have tq := Lib.hid (tq.row (by have := hlq.out; omega))
  go_wp2_with fail
  refine (made_d HM.out.2.1.1 (bPair_any _ _ _ _ _ _ p q _ tp.out tq.out)).mono ?_
  rintro e w11 ⟨v2, rfl, h2, hq⟩
  have hX := Lib.hid (hX.out.kept (Kept.below hq))
  have hc := Lib.hid ((hc.out.below hq).mono hq.size)
  have hp := Lib.hid ((hp.out.below hq).mono hq.size)
  have hqq := Lib.hid ((hqq.out.below hq).mono hq.size)
  have hT := Lib.hid ((hT.out.below hq).mono hq.size)
  have tp := Lib.hid ((tp.out.below hq).mono hq.size)
  have tq := Lib.hid ((tq.out.below hq).mono hq.size)
  have ch := Lib.hid (ch.out.trans (hq.mono ch.out.size))
  clear hq
  clear tp tq
  have hB := Lib.hid (h2.1 rfl)
  clear h2
  go_wp2_with fail
  refine (ttwin_any _ c (by have := hlc.out; omega) _ hc.out).mono ?_
  rintro e w12 ⟨tca, tcc, rfl, tc, hq⟩
  have hX := Lib.hid (hX.out.kept (Kept.below hq))
  have hc := Lib.hid ((hc.out.below hq).mono hq.size)
  have hp := Lib.hid ((hp.out.below hq).mono hq.size)
  have hqq := Lib.hid ((hqq.out.below hq).mono hq.size)
  have hT := Lib.hid ((hT.out.below hq).mono hq.size)
  have hB := Lib.hid ((hB.out.below hq).mono hq.size)
  have ch := Lib.hid (ch.out.trans (hq.mono ch.out.size))
  clear hq
  have tc := Lib.hid (tc.row (by have := hlc.out; omega))
  go_wp2_with fail
  refine (ttwin_any _ p (by have := hlp.out; omega) _ hp.out).mono ?_
  rintro e w13 ⟨tpa, tpc, rfl, tp, hq⟩
  have hX := Lib.hid (hX.out.kept (Kept.below hq))
  have hc := Lib.hid ((hc.out.below hq).mono hq.size)
  have hp := Lib.hid ((hp.out.below hq).mono hq.size)
  have hqq := Lib.hid ((hqq.out.below hq).mono hq.size)
  have hT := Lib.hid ((hT.out.below hq).mono hq.size)
  have hB := Lib.hid ((hB.out.below hq).mono hq.size)
  have tc := Lib.hid ((tc.out.below hq).mono hq.size)
  have ch := Lib.hid (ch.out.trans (hq.mono ch.out.size))
  clear hq
  have tp := Lib.hid (tp.row (by have := hlp.out; omega))
  go_wp2_with fail
  refine (ttwin_any _ q (by have := hlq.out; omega) _ hqq.out).mono ?_
  rintro e w14 ⟨tqa, tqc, rfl, tq, hq⟩
  have hX := Lib.hid (hX.out.kept (Kept.below hq))
  have hc := Lib.hid ((hc.out.below hq).mono hq.size)
  have hp := Lib.hid ((hp.out.below hq).mono hq.size)
  have hqq := Lib.hid ((hqq.out.below hq).mono hq.size)
  have hT := Lib.hid ((hT.out.below hq).mono hq.size)
  have hB := Lib.hid ((hB.out.below hq).mono hq.size)
  have tc := Lib.hid ((tc.out.below hq).mono hq.size)
  have tp := Lib.hid ((tp.out.below hq).mono hq.size)
  have ch := Lib.hid (ch.out.trans (hq.mono ch.out.size))
  clear hq
  have tq := Lib.hid (tq.row (by have := hlq.out; omega))
  go_wp2_with fail
  refine (made_d HM.out.2.2.1 (bIf_any _ _ _ _ _ _ _ _ _ c p q _ tc.out tp.out tq.out)).mono ?_
  rintro e w15 ⟨v3, rfl, h3, hq⟩
  have hX := Lib.hid (hX.out.kept (Kept.below hq))
  have hc := Lib.hid ((hc.out.below hq).mono hq.size)
  have hp := Lib.hid ((hp.out.below hq).mono hq.size)
  have hqq := Lib.hid ((hqq.out.below hq).mono hq.size)
  have hT := Lib.hid ((hT.out.below hq).mono hq.size)
  have hB := Lib.hid ((hB.out.below hq).mono hq.size)
  have tc := Lib.hid ((tc.out.below hq).mono hq.size)
  have tp := Lib.hid ((tp.out.below hq).mono hq.size)
  have tq := Lib.hid ((tq.out.below hq).mono hq.size)
  have ch := Lib.hid (ch.out.trans (hq.mono ch.out.size))
  clear hq
  clear tc tp tq
  have hE := Lib.hid (h3.1 rfl)
  clear h3
  have gp := Hgp.out
  clear Hgp
  have GP := Lib.hid gp
  clear gp
  go_wp2_with fail
  refine (tplay_big 300 _ (by omega) (by omega) GP.out hp.out VP.out hX.out HXT.out).mono ?_
  rintro e w16 ⟨ypq, ypk, rfl, hq⟩
  have hX := Lib.hid (hX.out.kept (Kept.below hq))
  have hc := Lib.hid ((hc.out.below hq).mono hq.size)
  have hp := Lib.hid ((hp.out.below hq).mono hq.size)
  have hqq := Lib.hid ((hqq.out.below hq).mono hq.size)
  have hT := Lib.hid ((hT.out.below hq).mono hq.size)
  have hB := Lib.hid ((hB.out.below hq).mono hq.size)
  have hE := Lib.hid ((hE.out.below hq).mono hq.size)
  have ch := Lib.hid (ch.out.trans (hq.mono ch.out.size))
  clear hq
  go_wp2_with fail
  refine (krq.out _ _ hqq.out).mono ?_
  rintro e w17 ⟨rfl, hq⟩
  have hX := Lib.hid (hX.out.kept (Kept.below hq))
  have hc := Lib.hid ((hc.out.below hq).mono hq.size)
  have hp := Lib.hid ((hp.out.below hq).mono hq.size)
  have hqq := Lib.hid ((hqq.out.below hq).mono hq.size)
  have hT := Lib.hid ((hT.out.below hq).mono hq.size)
  have hB := Lib.hid ((hB.out.below hq).mono hq.size)
  have hE := Lib.hid ((hE.out.below hq).mono hq.size)
  have ch := Lib.hid (ch.out.trans (hq.mono ch.out.size))
  clear hq
  cases gc : goF c 300 0 (startS (toTr x)) with
  | fuel sc nc =>
    have GC := Lib.hid gc
    have ndE := Lib.hid (IR.out.2 (fun s2 m2 e2 => by rw [gc] at e2; cases e2))
    clear gc
    go_wp2_with fail
    refine (tplay_fuel 300 _ (by omega) (by omega) GC.out hc.out VC.out hX.out HXT.out).mono ?_
    rintro e w18 ⟨zcq, zck, rfl, hq⟩
    have hX := Lib.hid (hX.out.kept (Kept.below hq))
    have hc := Lib.hid ((hc.out.below hq).mono hq.size)
    have hp := Lib.hid ((hp.out.below hq).mono hq.size)
    have hqq := Lib.hid ((hqq.out.below hq).mono hq.size)
    have hT := Lib.hid ((hT.out.below hq).mono hq.size)
    have hB := Lib.hid ((hB.out.below hq).mono hq.size)
    have hE := Lib.hid ((hE.out.below hq).mono hq.size)
    have ch := Lib.hid (ch.out.trans (hq.mono ch.out.size))
    clear hq
    go_wp2_with fail
    refine (tlasts_ok 300 _ (by omega) (by omega) hE.out HM.out.2.2.2 hX.out HXT.out ndE.out).mono ?_
    rintro e w19 ⟨rfl, hq⟩
    have hX := Lib.hid (hX.out.kept (Kept.below hq))
    have hc := Lib.hid ((hc.out.below hq).mono hq.size)
    have hp := Lib.hid ((hp.out.below hq).mono hq.size)
    have hqq := Lib.hid ((hqq.out.below hq).mono hq.size)
    have hT := Lib.hid ((hT.out.below hq).mono hq.size)
    have hB := Lib.hid ((hB.out.below hq).mono hq.size)
    have hE := Lib.hid ((hE.out.below hq).mono hq.size)
    have ch := Lib.hid (ch.out.trans (hq.mono ch.out.size))
    clear hq
    go_wp2_with fail
    refine (composes_any _).mono ?_
    rintro e wz ⟨rfl, hqz⟩
    go_wp2
    go_ret
    exact ⟨rfl, ch.out.trans (hqz.mono ch.out.size)⟩
  | big =>
    have GC := Lib.hid gc
    clear gc
    go_wp2_with fail
    refine (tplay_big 300 _ (by omega) (by omega) GC.out hc.out VC.out hX.out HXT.out).mono ?_
    rintro e w18 ⟨zcq, zck, rfl, hq⟩
    have hX := Lib.hid (hX.out.kept (Kept.below hq))
    have hc := Lib.hid ((hc.out.below hq).mono hq.size)
    have hp := Lib.hid ((hp.out.below hq).mono hq.size)
    have hqq := Lib.hid ((hqq.out.below hq).mono hq.size)
    have hT := Lib.hid ((hT.out.below hq).mono hq.size)
    have hB := Lib.hid ((hB.out.below hq).mono hq.size)
    have hE := Lib.hid ((hE.out.below hq).mono hq.size)
    have ch := Lib.hid (ch.out.trans (hq.mono ch.out.size))
    clear hq
    go_wp2_with fail
    refine (composes_any _).mono ?_
    rintro e wz ⟨rfl, hqz⟩
    go_wp2
    go_ret
    exact ⟨rfl, ch.out.trans (hqz.mono ch.out.size)⟩
  | done sc nc =>
    have GC := Lib.hid gc
    have hn0 := goF_steps gc
    have hncI : (nc : Int) ≤ 300 := by omega
    have hI1 := Lib.hid (IR.out.1 sc nc gc 300)
    clear gc hn0
    go_wp2_with fail
    refine (tplay_done 300 _ (by omega) (by omega) GC.out hc.out VC.out hX.out HXT.out).mono ?_
    rintro e w18 ⟨zcq, rfl, hZc, hq⟩
    have hX := Lib.hid (hX.out.kept (Kept.below hq))
    have hc := Lib.hid ((hc.out.below hq).mono hq.size)
    have hp := Lib.hid ((hp.out.below hq).mono hq.size)
    have hqq := Lib.hid ((hqq.out.below hq).mono hq.size)
    have hT := Lib.hid ((hT.out.below hq).mono hq.size)
    have hB := Lib.hid ((hB.out.below hq).mono hq.size)
    have hE := Lib.hid ((hE.out.below hq).mono hq.size)
    have ch := Lib.hid (ch.out.trans (hq.mono ch.out.size))
    clear hq
    have hZc := Lib.hid hZc
    go_wp2_with fail
    refine (krp.out _ _ hp.out).mono ?_
    rintro e w19 ⟨rfl, hq⟩
    have hX := Lib.hid (hX.out.kept (Kept.below hq))
    have hZc := Lib.hid (hZc.out.kept (Kept.below hq))
    have hc := Lib.hid ((hc.out.below hq).mono hq.size)
    have hp := Lib.hid ((hp.out.below hq).mono hq.size)
    have hqq := Lib.hid ((hqq.out.below hq).mono hq.size)
    have hT := Lib.hid ((hT.out.below hq).mono hq.size)
    have hB := Lib.hid ((hB.out.below hq).mono hq.size)
    have hE := Lib.hid ((hE.out.below hq).mono hq.size)
    have ch := Lib.hid (ch.out.trans (hq.mono ch.out.size))
    clear hq
    cases htc : getR sc.regs 0 with
    | nil =>
      have hz1 := hZc.out
      rw [htc] at hz1
      obtain rfl := node_nilT hz1
      have hI2 := Lib.hid (hI1.out.2 htc)
      clear hz1 htc hI1
      clear hZc
      go_wp2_with fail
      refine (krq.out _ _ hqq.out).mono ?_
      rintro e w20 ⟨rfl, hq⟩
      have hX := Lib.hid (hX.out.kept (Kept.below hq))
      have hc := Lib.hid ((hc.out.below hq).mono hq.size)
      have hp := Lib.hid ((hp.out.below hq).mono hq.size)
      have hqq := Lib.hid ((hqq.out.below hq).mono hq.size)
      have hT := Lib.hid ((hT.out.below hq).mono hq.size)
      have hB := Lib.hid ((hB.out.below hq).mono hq.size)
      have hE := Lib.hid ((hE.out.below hq).mono hq.size)
      have ch := Lib.hid (ch.out.trans (hq.mono ch.out.size))
      clear hq
      cases gq : goF q 300 0 (startS (toTr x)) with
      | fuel sq nq =>
        have GQ := Lib.hid gq
        clear gq
        go_wp2_with fail
        refine (tplay_fuel 300 _ (by omega) (by omega) GQ.out hqq.out VQ.out hX.out HXT.out).mono ?_
        rintro e w21 ⟨ztq, ztk, rfl, hq⟩
        have hX := Lib.hid (hX.out.kept (Kept.below hq))
        have hc := Lib.hid ((hc.out.below hq).mono hq.size)
        have hp := Lib.hid ((hp.out.below hq).mono hq.size)
        have hqq := Lib.hid ((hqq.out.below hq).mono hq.size)
        have hT := Lib.hid ((hT.out.below hq).mono hq.size)
        have hB := Lib.hid ((hB.out.below hq).mono hq.size)
        have hE := Lib.hid ((hE.out.below hq).mono hq.size)
        have ch := Lib.hid (ch.out.trans (hq.mono ch.out.size))
        clear hq
        have ndE := Lib.hid (hI2.out.2 (fun s2 m2 e2 => by rw [GQ.out] at e2; cases e2))
        go_wp2_with fail
        refine (tlasts_ok 300 _ (by omega) (by omega) hE.out HM.out.2.2.2 hX.out HXT.out ndE.out).mono ?_
        rintro e w22 ⟨rfl, hq⟩
        have hX := Lib.hid (hX.out.kept (Kept.below hq))
        have hc := Lib.hid ((hc.out.below hq).mono hq.size)
        have hp := Lib.hid ((hp.out.below hq).mono hq.size)
        have hqq := Lib.hid ((hqq.out.below hq).mono hq.size)
        have hT := Lib.hid ((hT.out.below hq).mono hq.size)
        have hB := Lib.hid ((hB.out.below hq).mono hq.size)
        have hE := Lib.hid ((hE.out.below hq).mono hq.size)
        have ch := Lib.hid (ch.out.trans (hq.mono ch.out.size))
        clear hq
        go_wp2_with fail
        refine (composes_any _).mono ?_
        rintro e wz ⟨rfl, hqz⟩
        go_wp2
        go_ret
        exact ⟨rfl, ch.out.trans (hqz.mono ch.out.size)⟩
      | big =>
        have GQ := Lib.hid gq
        clear gq
        go_wp2_with fail
        refine (tplay_big 300 _ (by omega) (by omega) GQ.out hqq.out VQ.out hX.out HXT.out).mono ?_
        rintro e w21 ⟨ztq, ztk, rfl, hq⟩
        have hX := Lib.hid (hX.out.kept (Kept.below hq))
        have hc := Lib.hid ((hc.out.below hq).mono hq.size)
        have hp := Lib.hid ((hp.out.below hq).mono hq.size)
        have hqq := Lib.hid ((hqq.out.below hq).mono hq.size)
        have hT := Lib.hid ((hT.out.below hq).mono hq.size)
        have hB := Lib.hid ((hB.out.below hq).mono hq.size)
        have hE := Lib.hid ((hE.out.below hq).mono hq.size)
        have ch := Lib.hid (ch.out.trans (hq.mono ch.out.size))
        clear hq
        go_wp2_with fail
        refine (composes_any _).mono ?_
        rintro e wz ⟨rfl, hqz⟩
        go_wp2
        go_ret
        exact ⟨rfl, ch.out.trans (hqz.mono ch.out.size)⟩
      | done sq nq =>
        have GQ := Lib.hid gq
        have hm0 := goF_steps gq
        have hnqI : (nq : Int) ≤ 300 := by omega
        clear hm0
        clear gq
        go_wp2_with fail
        refine (tplay_done 300 _ (by omega) (by omega) GQ.out hqq.out VQ.out hX.out HXT.out).mono ?_
        rintro e w21 ⟨ztq, rfl, hZt, hq⟩
        have hX := Lib.hid (hX.out.kept (Kept.below hq))
        have hc := Lib.hid ((hc.out.below hq).mono hq.size)
        have hp := Lib.hid ((hp.out.below hq).mono hq.size)
        have hqq := Lib.hid ((hqq.out.below hq).mono hq.size)
        have hT := Lib.hid ((hT.out.below hq).mono hq.size)
        have hB := Lib.hid ((hB.out.below hq).mono hq.size)
        have hE := Lib.hid ((hE.out.below hq).mono hq.size)
        have ch := Lib.hid (ch.out.trans (hq.mono ch.out.size))
        clear hq
        have hZt := Lib.hid hZt
        have hex := Lib.hid (hI2.out.1 sq nq GQ.out)
        rw [HRQ.out] at hex
        go_wp2_with fail
        refine (treturns_ok (nc + RQ + 4 + nq) _ (by omega) (by omega) hE.out HM.out.2.2.2 hX.out hZt.out HXT.out hex.out).mono ?_
        rintro e w22 ⟨rfl, hq⟩
        have hX := Lib.hid (hX.out.kept (Kept.below hq))
        have hZt := Lib.hid (hZt.out.kept (Kept.below hq))
        have hc := Lib.hid ((hc.out.below hq).mono hq.size)
        have hp := Lib.hid ((hp.out.below hq).mono hq.size)
        have hqq := Lib.hid ((hqq.out.below hq).mono hq.size)
        have hT := Lib.hid ((hT.out.below hq).mono hq.size)
        have hB := Lib.hid ((hB.out.below hq).mono hq.size)
        have hE := Lib.hid ((hE.out.below hq).mono hq.size)
        have ch := Lib.hid (ch.out.trans (hq.mono ch.out.size))
        clear hq
        go_wp2_with fail
        refine (composes_any _).mono ?_
        rintro e wz ⟨rfl, hqz⟩
        go_wp2
        go_ret
        exact ⟨rfl, ch.out.trans (hqz.mono ch.out.size)⟩
    | pair t1 t2 =>
      have hz1 := hZc.out
      rw [htc] at hz1
      obtain ⟨g3, x3, y3, hgo, -⟩ := hz1.cells
      injection hgo with hgo
      subst hgo
      have hI2 := Lib.hid (hI1.out.1 (by rw [htc]; intro h; cases h))
      clear hz1 htc hI1
      clear hZc
      go_wp2_with fail
      refine (tplay_big 300 _ (by omega) (by omega) GP.out hp.out VP.out hX.out HXT.out).mono ?_
      rintro e w20 ⟨ztq, ztk, rfl, hq⟩
      have hX := Lib.hid (hX.out.kept (Kept.below hq))
      have hc := Lib.hid ((hc.out.below hq).mono hq.size)
      have hp := Lib.hid ((hp.out.below hq).mono hq.size)
      have hqq := Lib.hid ((hqq.out.below hq).mono hq.size)
      have hT := Lib.hid ((hT.out.below hq).mono hq.size)
      have hB := Lib.hid ((hB.out.below hq).mono hq.size)
      have hE := Lib.hid ((hE.out.below hq).mono hq.size)
      have ch := Lib.hid (ch.out.trans (hq.mono ch.out.size))
      clear hq
      go_wp2_with fail
      refine (composes_any _).mono ?_
      rintro e wz ⟨rfl, hqz⟩
      go_wp2
      go_ret
      exact ⟨rfl, ch.out.trans (hqz.mono ch.out.size)⟩
end Go.Proofs.Ytdjbcmfjlfkcjaa


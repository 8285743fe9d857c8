/- narcissustop: TopLooped. -/
import Derived.Test.YtdjbcmfjlfkcjaaTop6
namespace Go.Proofs.Ytdjbcmfjlfkcjaa
open Go.RowKit

set_option maxRecDepth 20000 in
set_option maxHeartbeats 16000000 in
theorem law_TopLooped {w : World} (vc : Value) (c : List Ins) (hhc : InsRow w w.heap.size vc c) (vp : Value) (p : List Ins) (hhp : InsRow w w.heap.size vp p) (x : ByteArray) (hxs : x.size ≤ 140737488355328) :
    Calls Try.prog 3 #[vc, vp, .string x] w fun e w' => e = .returned (.bool true) ∧ Below w.heap.size w w' := by
  obtain ⟨ca, cc, rfl⟩ := hhc.len
  obtain ⟨cn, hcn⟩ : ∃ lz, c.length = lz := ⟨_, rfl⟩
  rw [hcn] at hhc ⊢
  have hc := Lib.hid hhc
  clear hhc hcn
  obtain ⟨pa, pc, rfl⟩ := hhp.len
  obtain ⟨pn, hpn⟩ : ∃ lz, p.length = lz := ⟨_, rfl⟩
  rw [hpn] at hhp ⊢
  have hp := Lib.hid hhp
  clear hhp hpn
  have HXS := Lib.hid hxs
  obtain ⟨bg, hbg⟩ : ∃ b, growB x 2000 = b := ⟨_, rfl⟩
  have HBG := Lib.hid hbg
  obtain ⟨bf, hbf⟩ : ∃ b, fewB [c, p] = b := ⟨_, rfl⟩
  have HBF := Lib.hid hbf
  have kg := Lib.hid (fun w => tgrow_any x hxs 2000 (by omega) w)
  clear hxs hbg hbf
  cases bg with
  | false =>
    have ch := Lib.hid (Below.refl w.heap.size w)
    go_enter Try.func3, Try.ntmps3
    go_wp2_with fail
    refine (kg.out _).mono ?_
    rintro e w1 ⟨xq, rfl, hX, -, hq⟩
    have hc := Lib.hid ((hc.out.below hq).mono hq.size)
    have hp := Lib.hid ((hp.out.below hq).mono hq.size)
    have ch := Lib.hid (ch.out.trans (hq.mono ch.out.size))
    clear hq
    rw [HBG.out]
    clear hX
    go_wp2_with fail
    have hL0 := ProgsRow.lit (w := w1) [.slice ca cn cc, .slice pa pn pc] [c, p] rfl (by simp) (fun j u l hu hl => match j, u, l, hu, hl with | 0, _, _, hu, hl => by cases hu; cases hl; exact hc.out | 1, _, _, hu, hl => by cases hu; cases hl; exact hp.out)
    obtain ⟨w2, hW⟩ : ∃ B, w1.alloc (.cells #[.slice ca cn cc, .slice pa pn pc] 23) = B := ⟨_, rfl⟩
    rw [hW]
    have hq : Below w1.heap.size w1 w2 := by rw [← hW]; exact (Below.refl _ _).alloc (Nat.le_refl _) _
    have hL := Lib.hid (show ProgsRow w2 w2.heap.size (.slice (some ⟨w1.heap.size, 0, none⟩) 2 2) [c, p] by rw [← hW]; exact hL0)
    clear hW hL0
    have hc := Lib.hid ((hc.out.below hq).mono hq.size)
    have hp := Lib.hid ((hp.out.below hq).mono hq.size)
    have ch := Lib.hid (ch.out.trans (hq.mono ch.out.size))
    clear hq
    have kfew := Lib.hid (tfew_any _ [c, p] (by simp) _ hL.out)
    rw [HBF.out] at kfew
    refine (kfew.out).mono ?_
    rintro e w3 ⟨rfl, hq⟩
    have hc := Lib.hid ((hc.out.below hq).mono hq.size)
    have hp := Lib.hid ((hp.out.below hq).mono hq.size)
    have hL := Lib.hid ((hL.out.below hq).mono hq.size)
    have ch := Lib.hid (ch.out.trans (hq.mono ch.out.size))
    clear hq
    clear hL
    cases bf with
    | false =>
      go_wp2_with fail
      refine (composes_any _).mono ?_
      rintro e wz ⟨rfl, hqz⟩
      go_wp2
      go_ret
      exact ⟨rfl, ch.out.trans (hqz.mono ch.out.size)⟩
    | true =>
      go_wp2_with fail
      refine (composes_any _).mono ?_
      rintro e wz ⟨rfl, hqz⟩
      go_wp2
      go_ret
      exact ⟨rfl, ch.out.trans (hqz.mono ch.out.size)⟩
  | true =>
    have ch := Lib.hid (Below.refl w.heap.size w)
    go_enter Try.func3, Try.ntmps3
    go_wp2_with fail
    refine (kg.out _).mono ?_
    rintro e w1 ⟨xq, rfl, hX, -, hq⟩
    have hc := Lib.hid ((hc.out.below hq).mono hq.size)
    have hp := Lib.hid ((hp.out.below hq).mono hq.size)
    have ch := Lib.hid (ch.out.trans (hq.mono ch.out.size))
    clear hq
    rw [HBG.out]
    have hX := hX HBG.out
    have hX := Lib.hid hX
    go_wp2_with fail
    have hL0 := ProgsRow.lit (w := w1) [.slice ca cn cc, .slice pa pn pc] [c, p] rfl (by simp) (fun j u l hu hl => match j, u, l, hu, hl with | 0, _, _, hu, hl => by cases hu; cases hl; exact hc.out | 1, _, _, hu, hl => by cases hu; cases hl; exact hp.out)
    obtain ⟨w2, hW⟩ : ∃ B, w1.alloc (.cells #[.slice ca cn cc, .slice pa pn pc] 23) = B := ⟨_, rfl⟩
    rw [hW]
    have hq : Below w1.heap.size w1 w2 := by rw [← hW]; exact (Below.refl _ _).alloc (Nat.le_refl _) _
    have hL := Lib.hid (show ProgsRow w2 w2.heap.size (.slice (some ⟨w1.heap.size, 0, none⟩) 2 2) [c, p] by rw [← hW]; exact hL0)
    clear hW hL0
    have hX := Lib.hid (hX.out.kept (Kept.below hq))
    have hc := Lib.hid ((hc.out.below hq).mono hq.size)
    have hp := Lib.hid ((hp.out.below hq).mono hq.size)
    have ch := Lib.hid (ch.out.trans (hq.mono ch.out.size))
    clear hq
    have kfew := Lib.hid (tfew_any _ [c, p] (by simp) _ hL.out)
    rw [HBF.out] at kfew
    refine (kfew.out).mono ?_
    rintro e w3 ⟨rfl, hq⟩
    have hX := Lib.hid (hX.out.kept (Kept.below hq))
    have hc := Lib.hid ((hc.out.below hq).mono hq.size)
    have hp := Lib.hid ((hp.out.below hq).mono hq.size)
    have hL := Lib.hid ((hL.out.below hq).mono hq.size)
    have ch := Lib.hid (ch.out.trans (hq.mono ch.out.size))
    clear hq
    clear hL
    cases bf with
    | false =>
      go_wp2_with fail
      refine (composes_any _).mono ?_
      rintro e wz ⟨rfl, hqz⟩
      go_wp2
      go_ret
      exact ⟨rfl, ch.out.trans (hqz.mono ch.out.size)⟩
    | true =>
      have hc4 := fewB_get HBF.out (l := c) (by simp)
      have hp4 := fewB_get HBF.out (l := p) (by simp)
      have hrc : (regN c : Int) ≤ 28 := by have := hc4.2.1; omega
      have hrp : (regN p : Int) ≤ 28 := by have := hp4.2.1; omega
      have VC := Lib.hid hc4.1
      have VP := Lib.hid hp4.1
      have HW := Lib.hid (few_while HBF.out)
      have HXT := Lib.hid (show (toTr x).size ≤ 2000000 by rw [growB_size HBG.out]; have := (growB_tree HBG.out).2; omega)
      have hM28 := Lib.hid (show max (regN c) (regN p) ≤ 28 by have := hc4.2.1; have := hp4.2.1; omega)
      obtain ⟨RC, hRC⟩ : ∃ r, regN c = r := ⟨_, rfl⟩
      obtain ⟨RP, hRP⟩ : ∃ r, regN p = r := ⟨_, rfl⟩
      have krc := Lib.hid (fun v w hl => tregs_ok v c w hl hc4.1)
      have krp := Lib.hid (fun v w hl => tregs_ok v p w hl hp4.1)
      rw [hRC] at krc hrc
      rw [hRP] at krp hrp
      have HRC := Lib.hid hRC
      have HRP := Lib.hid hRP
      have hlc := Lib.hid hc4.2.2.1
      have hlp := Lib.hid hp4.2.2.1
      clear hc4 hp4 hRC hRP
      go_wp2_with fail
      refine (ttwin_any _ c (by have := hlc.out; omega) _ hc.out).mono ?_
      rintro e w4 ⟨t1a, t1c, rfl, hT1, hq⟩
      have hX := Lib.hid (hX.out.kept (Kept.below hq))
      have hc := Lib.hid ((hc.out.below hq).mono hq.size)
      have hp := Lib.hid ((hp.out.below hq).mono hq.size)
      have ch := Lib.hid (ch.out.trans (hq.mono ch.out.size))
      clear hq
      have hT1 := Lib.hid (hT1.row (by have := hlc.out; omega))
      go_wp2_with fail
      refine (ttwin_any _ p (by have := hlp.out; omega) _ hp.out).mono ?_
      rintro e w5 ⟨t2a, t2c, rfl, hT2, hq⟩
      have hX := Lib.hid (hX.out.kept (Kept.below hq))
      have hc := Lib.hid ((hc.out.below hq).mono hq.size)
      have hp := Lib.hid ((hp.out.below hq).mono hq.size)
      have hT1 := Lib.hid ((hT1.out.below hq).mono hq.size)
      have ch := Lib.hid (ch.out.trans (hq.mono ch.out.size))
      clear hq
      have hT2 := Lib.hid (hT2.row (by have := hlp.out; omega))
      go_wp2_with fail
      refine (made_d HW.out.1 (bWhile_any _ _ _ _ _ _ c p _ hT1.out hT2.out)).mono ?_
      rintro e w6 ⟨vL, rfl, hTB, hq⟩
      have hX := Lib.hid (hX.out.kept (Kept.below hq))
      have hc := Lib.hid ((hc.out.below hq).mono hq.size)
      have hp := Lib.hid ((hp.out.below hq).mono hq.size)
      have hT1 := Lib.hid ((hT1.out.below hq).mono hq.size)
      have hT2 := Lib.hid ((hT2.out.below hq).mono hq.size)
      have ch := Lib.hid (ch.out.trans (hq.mono ch.out.size))
      clear hq
      clear hT1 hT2
      have hW := Lib.hid (hTB.1 rfl)
      go_wp2
      have chB := Lib.hid ch.out
      have hXB := hX
      go_loopg [11, 12, 13] 20 (fun gg st yv i wr => ∃ (k S : Nat) (yp : Option Addr) (ty : Tr), k ≤ 20 ∧ gg = 20 - k ∧ st = .int .i64 S ∧ yv = .pointer yp ∧ i = .int .i64 k ∧ Hid (S ≤ k * 1000) ∧ Hid (NodeP 101 wr ty (.pointer yp)) ∧ Hid (ty.size ≤ 2000000) ∧ Hid (RoundAt c p (toTr x) S ty) ∧ Below w6.heap.size w6 wr)
      case atStart => exact ⟨0, 0, xq, toTr x, by omega, rfl, rfl, rfl, rfl, Lib.hid (by omega), hX, HXT, Lib.hid (RoundAt.start c p (toTr x)), Below.refl _ _⟩
      case round =>
        obtain ⟨k, S, yp, ty, hk, hg, rfl, rfl, rfl, hS, hY, hty, hrd, hq⟩ := hrel
        have HG := Lib.hid hg; clear hg
        have hSI : (S : Int) ≤ 20000 := by have := hS.out; omega
        have hc := Lib.hid ((hc.out.below hq).mono hq.size)
        have hp := Lib.hid ((hp.out.below hq).mono hq.size)
        have hW := Lib.hid ((hW.out.below hq).mono hq.size)
        have hX := Lib.hid (hXB.out.kept (Kept.below hq))
        have ch := Lib.hid (chB.out.trans (hq.mono chB.out.size))
        have HB := Lib.hid hq
        clear hq
        by_cases hlt : k < 20
        · skip
          have chR := Lib.hid (Below.refl wr.heap.size wr)
          have hi1 : (k : Int) < 20 := by omega
          have hwr := Lib.hid (while_runs (validB_all VC.out) (validB_all VP.out) hM28.out hrd.out hty.out 300)
          rw [HRC.out, HRP.out] at hwr
          cases hgc : goF c 300 0 (startS ty) with
          | fuel sc nc =>
            have HGc := Lib.hid hgc
            have hnd := Lib.hid ((hwr.out.2 (fun s2 m2 e2 => by rw [hgc] at e2; cases e2)).le (F' := 300) (by omega))
            clear hgc
            go_wp2_with fail
            refine (tplay_fuel 300 _ (by omega) (by omega) HGc.out hc.out VC.out hY.out hty.out).mono ?_
            rintro e w51 ⟨zq, zk, rfl, hq⟩
            have chR := Lib.hid (chR.out.trans (hq.mono chR.out.size))
            have hX := Lib.hid (hX.out.kept (Kept.below hq))
            have hY := Lib.hid (hY.out.kept (Kept.below hq))
            have hc := Lib.hid ((hc.out.below hq).mono hq.size)
            have hp := Lib.hid ((hp.out.below hq).mono hq.size)
            have hW := Lib.hid ((hW.out.below hq).mono hq.size)
            have ch := Lib.hid (ch.out.trans (hq.mono ch.out.size))
            clear hq
            go_wp2_with fail
            refine (krc.out _ _ hc.out).mono ?_
            rintro e w52 ⟨rfl, hq⟩
            have chR := Lib.hid (chR.out.trans (hq.mono chR.out.size))
            have hX := Lib.hid (hX.out.kept (Kept.below hq))
            have hY := Lib.hid (hY.out.kept (Kept.below hq))
            have hc := Lib.hid ((hc.out.below hq).mono hq.size)
            have hp := Lib.hid ((hp.out.below hq).mono hq.size)
            have hW := Lib.hid ((hW.out.below hq).mono hq.size)
            have ch := Lib.hid (ch.out.trans (hq.mono ch.out.size))
            clear hq
            go_wp2_with fail
            refine (tlasts_ok 300 _ (by omega) (by omega) hW.out HW.out.2 hX.out HXT.out hnd.out).mono ?_
            rintro e w53 ⟨rfl, hq⟩
            have chR := Lib.hid (chR.out.trans (hq.mono chR.out.size))
            have hX := Lib.hid (hX.out.kept (Kept.below hq))
            have hY := Lib.hid (hY.out.kept (Kept.below hq))
            have hc := Lib.hid ((hc.out.below hq).mono hq.size)
            have hp := Lib.hid ((hp.out.below hq).mono hq.size)
            have hW := Lib.hid ((hW.out.below hq).mono hq.size)
            have ch := Lib.hid (ch.out.trans (hq.mono ch.out.size))
            clear hq
            go_wp2_with fail
            refine (composes_any _).mono ?_
            rintro e wz ⟨rfl, hqz⟩
            go_wp2
            go_ret
            exact ⟨rfl, ch.out.trans (hqz.mono ch.out.size)⟩
          | big =>
            have HGc := Lib.hid hgc
            clear hgc
            go_wp2_with fail
            refine (tplay_big 300 _ (by omega) (by omega) HGc.out hc.out VC.out hY.out hty.out).mono ?_
            rintro e w51 ⟨zq, zk, rfl, hq⟩
            have chR := Lib.hid (chR.out.trans (hq.mono chR.out.size))
            have hX := Lib.hid (hX.out.kept (Kept.below hq))
            have hY := Lib.hid (hY.out.kept (Kept.below hq))
            have hc := Lib.hid ((hc.out.below hq).mono hq.size)
            have hp := Lib.hid ((hp.out.below hq).mono hq.size)
            have hW := Lib.hid ((hW.out.below hq).mono hq.size)
            have ch := Lib.hid (ch.out.trans (hq.mono ch.out.size))
            clear hq
            go_wp2_with fail
            refine (krc.out _ _ hc.out).mono ?_
            rintro e w52 ⟨rfl, hq⟩
            have chR := Lib.hid (chR.out.trans (hq.mono chR.out.size))
            have hX := Lib.hid (hX.out.kept (Kept.below hq))
            have hY := Lib.hid (hY.out.kept (Kept.below hq))
            have hc := Lib.hid ((hc.out.below hq).mono hq.size)
            have hp := Lib.hid ((hp.out.below hq).mono hq.size)
            have hW := Lib.hid ((hW.out.below hq).mono hq.size)
            have ch := Lib.hid (ch.out.trans (hq.mono ch.out.size))
            clear hq
            go_wp2_with fail
            refine (composes_any _).mono ?_
            rintro e wz ⟨rfl, hqz⟩
            go_wp2
            go_ret
            exact ⟨rfl, ch.out.trans (hqz.mono ch.out.size)⟩
          | done sc nc =>
            have HGc := Lib.hid hgc
            have hn0 := goF_steps hgc
            have hnI : (nc : Int) ≤ 300 := by omega
            have hw1 := Lib.hid (hwr.out.1 sc nc hgc)
            clear hgc hn0
            go_wp2_with fail
            refine (tplay_done 300 _ (by omega) (by omega) HGc.out hc.out VC.out hY.out hty.out).mono ?_
            rintro e w51 ⟨zq, rfl, hZ, hq⟩
            have chR := Lib.hid (chR.out.trans (hq.mono chR.out.size))
            have hX := Lib.hid (hX.out.kept (Kept.below hq))
            have hY := Lib.hid (hY.out.kept (Kept.below hq))
            have hc := Lib.hid ((hc.out.below hq).mono hq.size)
            have hp := Lib.hid ((hp.out.below hq).mono hq.size)
            have hW := Lib.hid ((hW.out.below hq).mono hq.size)
            have ch := Lib.hid (ch.out.trans (hq.mono ch.out.size))
            clear hq
            go_wp2_with fail
            refine (krc.out _ _ hc.out).mono ?_
            rintro e w52 ⟨rfl, hq⟩
            have chR := Lib.hid (chR.out.trans (hq.mono chR.out.size))
            have hX := Lib.hid (hX.out.kept (Kept.below hq))
            have hY := Lib.hid (hY.out.kept (Kept.below hq))
            have hc := Lib.hid ((hc.out.below hq).mono hq.size)
            have hp := Lib.hid ((hp.out.below hq).mono hq.size)
            have hW := Lib.hid ((hW.out.below hq).mono hq.size)
            have ch := Lib.hid (ch.out.trans (hq.mono ch.out.size))
            clear hq
            cases htz : getR sc.regs 0 with
            | nil =>
              rw [htz] at hZ
              obtain rfl := node_nilT hZ
              have hfin := Lib.hid (hw1.out.1 htz)
              clear hZ htz
              go_wp2_with fail
              refine (treturns_ok (S + nc + RC + 4) _ (by omega) (by have := hS.out; omega) hW.out HW.out.2 hX.out hY.out HXT.out hfin.out).mono ?_
              rintro e w53 ⟨rfl, hq⟩
              have chR := Lib.hid (chR.out.trans (hq.mono chR.out.size))
              have hX := Lib.hid (hX.out.kept (Kept.below hq))
              have hY := Lib.hid (hY.out.kept (Kept.below hq))
              have hc := Lib.hid ((hc.out.below hq).mono hq.size)
              have hp := Lib.hid ((hp.out.below hq).mono hq.size)
              have hW := Lib.hid ((hW.out.below hq).mono hq.size)
              have ch := Lib.hid (ch.out.trans (hq.mono ch.out.size))
              clear hq
              go_wp2_with fail
              refine (composes_any _).mono ?_
              rintro e wz ⟨rfl, hqz⟩
              go_wp2
              go_ret
              exact ⟨rfl, ch.out.trans (hqz.mono ch.out.size)⟩
            | pair t1 t2 =>
              rw [htz] at hZ
              obtain ⟨g3, x3, y3, hgo, -⟩ := hZ.cells
              injection hgo with hgo
              subst hgo
              have hw2 := Lib.hid (hw1.out.2 (by rw [htz]; intro h; cases h) 300)
              clear hZ htz hw1
              cases hgp : goF p 300 0 (startS ty) with
              | fuel sp np =>
                have HGp := Lib.hid hgp
                have hnd := Lib.hid ((hw2.out.2 (fun s2 m2 e2 => by rw [hgp] at e2; cases e2)).le (F' := 300) (by omega))
                clear hgp
                go_wp2_with fail
                refine (tplay_fuel 300 _ (by omega) (by omega) HGp.out hp.out VP.out hY.out hty.out).mono ?_
                rintro e w53 ⟨eq, ek, rfl, hq⟩
                have chR := Lib.hid (chR.out.trans (hq.mono chR.out.size))
                have hX := Lib.hid (hX.out.kept (Kept.below hq))
                have hY := Lib.hid (hY.out.kept (Kept.below hq))
                have hc := Lib.hid ((hc.out.below hq).mono hq.size)
                have hp := Lib.hid ((hp.out.below hq).mono hq.size)
                have hW := Lib.hid ((hW.out.below hq).mono hq.size)
                have ch := Lib.hid (ch.out.trans (hq.mono ch.out.size))
                clear hq
                go_wp2_with fail
                refine (tlasts_ok 300 _ (by omega) (by omega) hW.out HW.out.2 hX.out HXT.out hnd.out).mono ?_
                rintro e w54 ⟨rfl, hq⟩
                have chR := Lib.hid (chR.out.trans (hq.mono chR.out.size))
                have hX := Lib.hid (hX.out.kept (Kept.below hq))
                have hY := Lib.hid (hY.out.kept (Kept.below hq))
                have hc := Lib.hid ((hc.out.below hq).mono hq.size)
                have hp := Lib.hid ((hp.out.below hq).mono hq.size)
                have hW := Lib.hid ((hW.out.below hq).mono hq.size)
                have ch := Lib.hid (ch.out.trans (hq.mono ch.out.size))
                clear hq
                go_wp2_with fail
                refine (composes_any _).mono ?_
                rintro e wz ⟨rfl, hqz⟩
                go_wp2
                go_ret
                exact ⟨rfl, ch.out.trans (hqz.mono ch.out.size)⟩
              | big =>
                have HGp := Lib.hid hgp
                clear hgp
                go_wp2_with fail
                refine (tplay_big 300 _ (by omega) (by omega) HGp.out hp.out VP.out hY.out hty.out).mono ?_
                rintro e w53 ⟨eq, ek, rfl, hq⟩
                have chR := Lib.hid (chR.out.trans (hq.mono chR.out.size))
                have hX := Lib.hid (hX.out.kept (Kept.below hq))
                have hY := Lib.hid (hY.out.kept (Kept.below hq))
                have hc := Lib.hid ((hc.out.below hq).mono hq.size)
                have hp := Lib.hid ((hp.out.below hq).mono hq.size)
                have hW := Lib.hid ((hW.out.below hq).mono hq.size)
                have ch := Lib.hid (ch.out.trans (hq.mono ch.out.size))
                clear hq
                go_wp2_with fail
                refine (composes_any _).mono ?_
                rintro e wz ⟨rfl, hqz⟩
                go_wp2
                go_ret
                exact ⟨rfl, ch.out.trans (hqz.mono ch.out.size)⟩
              | done sp np =>
                have HGp := Lib.hid hgp
                have hm0 := goF_steps hgp
                have hmI : (np : Int) ≤ 300 := by omega
                have hzz := Lib.hid (goF_size VP.out hty.out hgp)
                have hrd2 := Lib.hid (hw2.out.1 sp np hgp)
                clear hgp hm0
                go_wp2_with fail
                refine (tplay_done 300 _ (by omega) (by omega) HGp.out hp.out VP.out hY.out hty.out).mono ?_
                rintro e w53 ⟨eq, rfl, hE, hq⟩
                have chR := Lib.hid (chR.out.trans (hq.mono chR.out.size))
                have hX := Lib.hid (hX.out.kept (Kept.below hq))
                have hY := Lib.hid (hY.out.kept (Kept.below hq))
                have hc := Lib.hid ((hc.out.below hq).mono hq.size)
                have hp := Lib.hid ((hp.out.below hq).mono hq.size)
                have hW := Lib.hid ((hW.out.below hq).mono hq.size)
                have ch := Lib.hid (ch.out.trans (hq.mono ch.out.size))
                clear hq
                have hE := Lib.hid hE
                go_wp2_with fail
                refine (krp.out _ _ hp.out).mono ?_
                rintro e wt ⟨rfl, hq⟩
                have hE := Lib.hid (hE.out.kept (Kept.below hq))
                have HB2 := Lib.hid (Below.trans HB.out (Below.mono (chR.out.trans (hq.mono chR.out.size)) HB.out.size))
                clear hq
                go_wp2
                go_roundg (20 - (k + 1))
                case measure => rw [HG.out]; omega
                case rel => exact ⟨k + 1, S + (nc + RC + 1) + (np + RP + 2), eq, _, by omega, rfl, by first | go_num | (congr 1; omega), rfl, by go_num, Lib.hid (by have := hS.out; omega), hE, hzz, hrd2, HB2.out⟩
        · skip
          have hkn : k = 20 := by omega
          subst hkn
          go_wp2_with fail
          refine (twhole_any _ _ true HW.out.2 _ hW.out).mono ?_
          rintro e w51 ⟨rfl, hq⟩
          have hc := Lib.hid ((hc.out.below hq).mono hq.size)
          have hp := Lib.hid ((hp.out.below hq).mono hq.size)
          have hW := Lib.hid ((hW.out.below hq).mono hq.size)
          have ch := Lib.hid (ch.out.trans (hq.mono ch.out.size))
          clear hq
          go_wp2_with fail
          refine (composes_any _).mono ?_
          rintro e wz ⟨rfl, hqz⟩
          go_wp2
          go_ret
          exact ⟨rfl, ch.out.trans (hqz.mono ch.out.size)⟩
end Go.Proofs.Ytdjbcmfjlfkcjaa


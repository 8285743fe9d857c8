/- narcissustop: defeats, TopLiar. -/
import Derived.Test.YtdjbcmfjlfkcjaaTop8
import Derived.Test.YtdjbcmfjlfkcjaaDef2
import Derived.Test.YtdjbcmfjlfkcjaaDef6
namespace Go.Proofs.Ytdjbcmfjlfkcjaa
open Go.RowKit

def y1 : ByteArray := ⟨#[48]⟩
def y2 : ByteArray := ⟨#[49, 48, 48]⟩
def y3 : ByteArray := ⟨#[49, 48, 49, 48, 48]⟩
def dfP : List Ins := knowL (defQ [setI 0 y1] [setI 0 y2] [setI 0 y3] 1)
theorem dfE : defE [setI 0 y1] [setI 0 y2] [setI 0 y3] = 0 := by decide +kernel
theorem dfK : knowE (defQ [setI 0 y1] [setI 0 y2] [setI 0 y3] 1) = 0 := by decide +kernel
theorem dfD : defD [setI 0 y1] [setI 0 y2] [setI 0 y3] = dfP := by unfold defD; rw [dfE]; rfl
theorem dfV : validB dfP = true := (knowE_facts dfK).2.2.1
theorem dfN : codeN dfP ≤ 100000 := by decide +kernel
theorem setY_run (b : ByteArray) (u v : Tr) (hv : toTr b = v) (F : Nat) (hF : 1 ≤ F) : ∃ s, goF [setI 0 b] F 0 (startS u) = .done s 1 ∧ getR s.regs 0 = v := by
  have h : Runs [setI 0 b] 1 (startS u) ⟨1, v :: List.replicate 31 .nil⟩ := set_run 0 b v _ _ rfl hv rfl
  exact ⟨_, h.done rfl F hF, rfl⟩
theorem dfP_run : ∃ s, goF dfP 1000 0 (startS .nil) = .done s 28 ∧ getR s.regs 0 = .pair .nil .nil := by
  have hsz : (codeT dfP).size ≤ 100000 := by rw [codeT_size dfV]; exact dfN
  have hr : (Tr.pair (codeT dfP) .nil).size ≤ 2000000 := by simp only [Tr.size]; omega
  obtain ⟨s1, g1, g2⟩ := setY_run y1 (codeT dfP) .nil tr_nil 50 (by omega)
  have hS := segsD [setI 0 y1] [setI 0 y2] [setI 0 y3] 0
  have hst := known_start dfK .nil hr
  have hf := (defeat_follow hS (by omega) (by decide) (by decide) (by decide) (by decide) (by decide) (by decide) (codeT dfP) .nil hst (by omega) (by decide) 50 s1 1 g1).2 g2
  obtain ⟨s2, g3, g4⟩ := setY_run y2 .nil (.pair .nil .nil) tr_100 973 (by omega)
  rcases hf 973 with ⟨s, s', m, e1, e2, e3, e4⟩ | ⟨s, e1, _⟩ | ⟨e1, _⟩
  · rw [g3] at e1
    injection e1 with e5 e6
    subst e5; subst e6
    exact ⟨s', e3, by rw [e4, g4]⟩
  · rw [g3] at e1; cases e1
  · rw [g3] at e1; cases e1
theorem grow100 : growB y2 10 = true := by decide +kernel
theorem tr100 : toTr y2 = .pair .nil .nil := tr_100
set_option maxRecDepth 20000 in
set_option maxHeartbeats 4000000 in
theorem defeats_any (w : World) : Calls Try.prog 68 #[] w fun e w' => e = .returned (.bool true) ∧ Below w.heap.size w w' := by
  obtain ⟨s1, hs1, hs2⟩ := dfP_run
  have HS1 := Lib.hid hs1
  have HS2 := Lib.hid hs2
  clear hs1 hs2
  have ch := Lib.hid (Below.refl w.heap.size w)
  go_enter Try.func68, Try.ntmps68
  go_wp2_with fail
  refine (tset_any y1 (by decide) _).mono ?_
  rintro e w1 ⟨v1, rfl, h1, hq⟩
  have ch := Lib.hid (ch.out.trans (hq.mono ch.out.size))
  clear hq
  have h1 := Lib.hid h1
  go_wp2_with fail
  refine (tset_any y2 (by decide) _).mono ?_
  rintro e w2 ⟨v2, rfl, h2, hq⟩
  have h1 := Lib.hid ((h1.out.below hq).mono hq.size)
  have ch := Lib.hid (ch.out.trans (hq.mono ch.out.size))
  clear hq
  have h2 := Lib.hid h2
  go_wp2_with fail
  refine (tset_any y3 (by decide) _).mono ?_
  rintro e w3 ⟨v3, rfl, h3, hq⟩
  have h1 := Lib.hid ((h1.out.below hq).mono hq.size)
  have h2 := Lib.hid ((h2.out.below hq).mono hq.size)
  have ch := Lib.hid (ch.out.trans (hq.mono ch.out.size))
  clear hq
  have h3 := Lib.hid h3
  go_wp2_with fail
  refine (defeat_due 0 _ _ _ _ _ _ _ h1.out h2.out h3.out dfE).mono ?_
  rintro e w4 ⟨vD, rfl, hD, hq⟩
  have h1 := Lib.hid ((h1.out.below hq).mono hq.size)
  have h2 := Lib.hid ((h2.out.below hq).mono hq.size)
  have h3 := Lib.hid ((h3.out.below hq).mono hq.size)
  have ch := Lib.hid (ch.out.trans (hq.mono ch.out.size))
  clear hq
  have hD := Lib.hid (show InsRow _ _ _ dfP from by have h := hD.row (by rw [dfD]; have := validB_len dfV; omega); rw [dfD] at h; exact h)
  clear h1 h2 h3
  go_wp2_with fail
  refine (twhole_any _ _ true dfV _ hD.out).mono ?_
  rintro e w5 ⟨rfl, hq⟩
  have hD := Lib.hid ((hD.out.below hq).mono hq.size)
  have ch := Lib.hid (ch.out.trans (hq.mono ch.out.size))
  clear hq
  go_wp2_with fail
  refine (tplay_done (t := .nil) 1000 _ (by omega) (by omega) HS1.out hD.out dfV rfl (by decide)).mono ?_
  rintro e w6 ⟨yq, rfl, hY, hq⟩
  have hD := Lib.hid ((hD.out.below hq).mono hq.size)
  have ch := Lib.hid (ch.out.trans (hq.mono ch.out.size))
  clear hq
  have hY := Lib.hid hY
  go_wp2_with fail
  refine (tgrow_yes (s := y2) (most := 10) (by decide) (by omega) grow100 _).mono ?_
  rintro e w7 ⟨zq, rfl, hZ, hq⟩
  have hY := Lib.hid (hY.out.kept (Kept.below hq))
  have hD := Lib.hid ((hD.out.below hq).mono hq.size)
  have ch := Lib.hid (ch.out.trans (hq.mono ch.out.size))
  clear hq
  have hZ := Lib.hid hZ
  rw [HS2.out] at hY
  rw [tr100] at hZ
  have ke := Lib.hid (tequal_any (.pair .nil .nil) (.pair .nil .nil) _ _ _ hY.out hZ.out (by decide) (by decide))
  rw [decide_eq_true rfl] at ke
  go_wp2_with fail
  refine (ke.out).mono ?_
  rintro e w8 ⟨rfl, hq⟩
  have hY := Lib.hid (hY.out.kept (Kept.below hq))
  have hZ := Lib.hid (hZ.out.kept (Kept.below hq))
  have hD := Lib.hid ((hD.out.below hq).mono hq.size)
  have ch := Lib.hid (ch.out.trans (hq.mono ch.out.size))
  clear hq
  go_wp2
  go_ret
  exact ⟨rfl, ch.out⟩
set_option maxRecDepth 20000 in
set_option maxHeartbeats 16000000 in
theorem law_TopLiar {w : World} (vq : Value) (q : List Ins) (hhq : InsRow w w.heap.size vq q) (x : ByteArray) (hxs : x.size ≤ 140737488355328) :
    Calls Try.prog 18 #[vq, .string x] w fun e w' => e = .returned (.bool true) ∧ Below w.heap.size w w' := by
  obtain ⟨qa, qc, rfl⟩ := hhq.len
  obtain ⟨qn, hqn⟩ : ∃ lz, q.length = lz := ⟨_, rfl⟩
  rw [hqn] at hhq ⊢
  have hq0 := Lib.hid hhq
  have HXS := Lib.hid hxs
  obtain ⟨bg, hbg⟩ : ∃ b, growB x 2000 = b := ⟨_, rfl⟩
  have HBG := Lib.hid hbg
  obtain ⟨bf, hbf⟩ : ∃ b, goodB q 200 5000 = b := ⟨_, rfl⟩
  have HBF := Lib.hid hbf
  have kg := Lib.hid (fun w => tgrow_any x hxs 2000 (by omega) w)
  have kgood := Lib.hid (fun v w hl => tgood_any v q 200 5000 (by omega) (by omega) w hl)
  rw [hbf] at kgood
  clear hhq hqn hxs hbg hbf
  cases bg with
  | false =>
    have ch := Lib.hid (Below.refl w.heap.size w)
    go_enter Try.func18, Try.ntmps18
    go_wp2_with fail
    refine (kg.out _).mono ?_
    rintro e w1 ⟨xq, rfl, hX, -, hq⟩
    have hq0 := Lib.hid ((hq0.out.below hq).mono hq.size)
    have ch := Lib.hid (ch.out.trans (hq.mono ch.out.size))
    clear hq
    rw [HBG.out]
    clear hX
    go_wp2_with fail
    refine (kgood.out _ _ hq0.out).mono ?_
    rintro e w2 ⟨rfl, hq⟩
    have hq0 := Lib.hid ((hq0.out.below hq).mono hq.size)
    have ch := Lib.hid (ch.out.trans (hq.mono ch.out.size))
    clear hq
    cases bf with
    | false =>
      go_wp2_with fail
      refine (defeats_any _).mono ?_
      rintro e wz ⟨rfl, hqz⟩
      go_wp2
      go_ret
      exact ⟨rfl, ch.out.trans (hqz.mono ch.out.size)⟩
    | true =>
      go_wp2_with fail
      refine (defeats_any _).mono ?_
      rintro e wz ⟨rfl, hqz⟩
      go_wp2
      go_ret
      exact ⟨rfl, ch.out.trans (hqz.mono ch.out.size)⟩
  | true =>
    have ch := Lib.hid (Below.refl w.heap.size w)
    go_enter Try.func18, Try.ntmps18
    go_wp2_with fail
    refine (kg.out _).mono ?_
    rintro e w1 ⟨xq, rfl, hX, -, hq⟩
    have hq0 := Lib.hid ((hq0.out.below hq).mono hq.size)
    have ch := Lib.hid (ch.out.trans (hq.mono ch.out.size))
    clear hq
    rw [HBG.out]
    have hX := hX HBG.out
    have hX := Lib.hid hX
    go_wp2_with fail
    refine (kgood.out _ _ hq0.out).mono ?_
    rintro e w2 ⟨rfl, hq⟩
    have hX := Lib.hid (hX.out.kept (Kept.below hq))
    have hq0 := Lib.hid ((hq0.out.below hq).mono hq.size)
    have ch := Lib.hid (ch.out.trans (hq.mono ch.out.size))
    clear hq
    cases bf with
    | false =>
      go_wp2_with fail
      refine (defeats_any _).mono ?_
      rintro e wz ⟨rfl, hqz⟩
      go_wp2
      go_ret
      exact ⟨rfl, ch.out.trans (hqz.mono ch.out.size)⟩
    | true =>
      have hgp := goodB_parts HBF.out
      have VQ := Lib.hid (goodB_valid HBF.out (by omega) (by omega))
      have hlq := liarQ_right hgp.2.2
      have hll : (liarQ q).length ≤ 300 := by unfold liarQ; simp; omega
      have hlt : trees (liarQ q) ≤ 20000 := by unfold liarQ; rw [trees_append, trees_cons, trees_nil, sz_jump]; omega
      have HK := Lib.hid (know_fits hlq hll hlt)
      have HLE := Lib.hid (show liarE q = 0 by unfold liarE; rw [if_pos VQ.out, if_pos (fits_valid hlq (by omega) (by omega))]; exact HK.out)
      have HLD := Lib.hid (show liarD q = knowL (liarQ q) by unfold liarD; rw [if_pos HLE.out])
      have HKF := Lib.hid (show validB (liarD q) = true ∧ codeN (liarD q) ≤ 2000000 by rw [HLD.out]; exact ⟨(knowE_facts HK.out).2.2.1, (knowE_facts HK.out).2.2.2⟩)
      have hlen := Lib.hid hgp.1
      have HXT := Lib.hid (show (toTr x).size ≤ 2000 by rw [growB_size HBG.out]; exact (growB_tree HBG.out).2)
      have HXT2 := Lib.hid (show (toTr x).size ≤ 2000000 by have := HXT.out; omega)
      have HCZ := Lib.hid (show (codeT (liarD q)).size ≤ 1900000 by
        rw [codeT_size HKF.out.1, HLD.out]
        exact tknow_code hlq hll hlt)
      clear hgp hlq hll hlt
      go_wp2_with fail
      refine (ttwin_any _ q (by have := hlen.out; omega) _ hq0.out).mono ?_
      rintro e w3 ⟨t1a, t1c, rfl, hT1, hq⟩
      have hX := Lib.hid (hX.out.kept (Kept.below hq))
      have hq0 := Lib.hid ((hq0.out.below hq).mono hq.size)
      have ch := Lib.hid (ch.out.trans (hq.mono ch.out.size))
      clear hq
      have hT1 := Lib.hid (hT1.row (by have := hlen.out; omega))
      go_wp2_with fail
      refine (liar_due 0 _ q _ hT1.out HLE.out).mono ?_
      rintro e w4 ⟨ve, rfl, hE, hq⟩
      have hX := Lib.hid (hX.out.kept (Kept.below hq))
      have hq0 := Lib.hid ((hq0.out.below hq).mono hq.size)
      have hT1 := Lib.hid ((hT1.out.below hq).mono hq.size)
      have ch := Lib.hid (ch.out.trans (hq.mono ch.out.size))
      clear hq
      have hE := Lib.hid (hE.row (by have := validB_len HKF.out.1; omega))
      clear hT1
      go_wp2_with fail
      refine (twhole_any _ _ true HKF.out.1 _ hE.out).mono ?_
      rintro e w5 ⟨rfl, hq⟩
      have hX := Lib.hid (hX.out.kept (Kept.below hq))
      have hq0 := Lib.hid ((hq0.out.below hq).mono hq.size)
      have hE := Lib.hid ((hE.out.below hq).mono hq.size)
      have ch := Lib.hid (ch.out.trans (hq.mono ch.out.size))
      clear hq
      go_wp2_with fail
      refine (tcode_any _ _ _ hE.out HKF.out.1 HKF.out.2).mono ?_
      rintro e w6 ⟨cq, rfl, hC, hq⟩
      have hX := Lib.hid (hX.out.kept (Kept.below hq))
      have hq0 := Lib.hid ((hq0.out.below hq).mono hq.size)
      have hE := Lib.hid ((hE.out.below hq).mono hq.size)
      have ch := Lib.hid (ch.out.trans (hq.mono ch.out.size))
      clear hq
      have hC := Lib.hid hC
      go_wp2_with fail
      refine (tpair_ok _ _ _ _ _ hC.out hX.out (by have := HCZ.out; omega) (by have := HXT.out; omega)).mono ?_
      rintro e w7 ⟨pq, rfl, hP, hq⟩
      have hX := Lib.hid (hX.out.kept (Kept.below hq))
      have hC := Lib.hid (hC.out.kept (Kept.below hq))
      have hq0 := Lib.hid ((hq0.out.below hq).mono hq.size)
      have hE := Lib.hid ((hE.out.below hq).mono hq.size)
      have ch := Lib.hid (ch.out.trans (hq.mono ch.out.size))
      clear hq
      have hP := Lib.hid hP
      have HPZ := Lib.hid (show (Tr.pair (codeT (liarD q)) (toTr x)).size ≤ 2000000 by have h1 := HCZ.out; have h2 := HXT.out; simp only [Tr.size]; omega)
      have hall := liar_part (validB_all VQ.out) (toTr x) (.pair (codeT (liarD q)) (toTr x)) (by
        have h := known_start HK.out (toTr x) (by rw [← HLD.out]; exact HPZ.out)
        rwa [← HLD.out] at h ⊢) HPZ.out 500
      rw [← HLD.out] at hall
      rcases hall with ⟨s, k, b, hg, hr, hk, hbn, hbp⟩ | ⟨s, hg, hallf⟩ | ⟨hg, hallf⟩
      ·
        have HG := Lib.hid hg
        have hkI : (k : Int) ≤ 500 := by omega
        clear hg
        cases b with
        | nil =>
          have hex := Lib.hid (hbn rfl (k + 20) (Nat.le_refl _))
          have HR := Lib.hid hr
          clear hbn hbp hr hk
          go_wp2_with fail
          refine (tplay_done 500 _ (by omega) (by omega) HG.out hq0.out VQ.out hP.out HPZ.out).mono ?_
          rintro e w8 ⟨yq, rfl, hY, hq⟩
          have hX := Lib.hid (hX.out.kept (Kept.below hq))
          have hC := Lib.hid (hC.out.kept (Kept.below hq))
          have hP := Lib.hid (hP.out.kept (Kept.below hq))
          have hq0 := Lib.hid ((hq0.out.below hq).mono hq.size)
          have hE := Lib.hid ((hE.out.below hq).mono hq.size)
          have ch := Lib.hid (ch.out.trans (hq.mono ch.out.size))
          clear hq
          rw [HR.out] at hY
          obtain rfl := node_nilT hY
          clear hY
          go_wp2_with fail
          refine (treturns_ok (k + 20) _ (by omega) (by omega) hE.out HKF.out.1 hX.out (show NodeP 101 _ .nil (.pointer none) from rfl) HXT2.out hex.out).mono ?_
          rintro e w9 ⟨rfl, hq⟩
          have hX := Lib.hid (hX.out.kept (Kept.below hq))
          have hC := Lib.hid (hC.out.kept (Kept.below hq))
          have hP := Lib.hid (hP.out.kept (Kept.below hq))
          have hq0 := Lib.hid ((hq0.out.below hq).mono hq.size)
          have hE := Lib.hid ((hE.out.below hq).mono hq.size)
          have ch := Lib.hid (ch.out.trans (hq.mono ch.out.size))
          clear hq
          go_wp2_with fail
          refine (defeats_any _).mono ?_
          rintro e wz ⟨rfl, hqz⟩
          go_wp2
          go_ret
          exact ⟨rfl, ch.out.trans (hqz.mono ch.out.size)⟩
        | pair a c =>
          obtain ⟨s2, hg2⟩ := hbp (by intro h; cases h) 2000
          have HG2 := Lib.hid hg2
          have HR := Lib.hid hr
          clear hbn hbp hr hk hg2
          go_wp2_with fail
          refine (tplay_done 500 _ (by omega) (by omega) HG.out hq0.out VQ.out hP.out HPZ.out).mono ?_
          rintro e w8 ⟨yq, rfl, hY, hq⟩
          have hX := Lib.hid (hX.out.kept (Kept.below hq))
          have hC := Lib.hid (hC.out.kept (Kept.below hq))
          have hP := Lib.hid (hP.out.kept (Kept.below hq))
          have hq0 := Lib.hid ((hq0.out.below hq).mono hq.size)
          have hE := Lib.hid ((hE.out.below hq).mono hq.size)
          have ch := Lib.hid (ch.out.trans (hq.mono ch.out.size))
          clear hq
          rw [HR.out] at hY
          obtain ⟨g3, x3, y3, hgo, -⟩ := hY.cells
          injection hgo with hgo
          subst hgo
          clear hY
          go_wp2_with fail
          refine (tplay_fuel 2000 _ (by omega) (by omega) HG2.out hE.out HKF.out.1 hX.out HXT2.out).mono ?_
          rintro e w9 ⟨zq, zk, rfl, hq⟩
          have hX := Lib.hid (hX.out.kept (Kept.below hq))
          have hC := Lib.hid (hC.out.kept (Kept.below hq))
          have hP := Lib.hid (hP.out.kept (Kept.below hq))
          have hq0 := Lib.hid ((hq0.out.below hq).mono hq.size)
          have hE := Lib.hid ((hE.out.below hq).mono hq.size)
          have ch := Lib.hid (ch.out.trans (hq.mono ch.out.size))
          clear hq
          go_wp2_with fail
          refine (defeats_any _).mono ?_
          rintro e wz ⟨rfl, hqz⟩
          go_wp2
          go_ret
          exact ⟨rfl, ch.out.trans (hqz.mono ch.out.size)⟩
      ·
        have HG := Lib.hid hg
        have hnd := Lib.hid (show NotD (liarD q) (startS (toTr x)) 500 from fun s2 m2 e2 => by have h1 := hallf 500 s2 m2 e2; have h2 := goF_steps e2; omega)
        clear hg hallf
        go_wp2_with fail
        refine (tplay_fuel 500 _ (by omega) (by omega) HG.out hq0.out VQ.out hP.out HPZ.out).mono ?_
        rintro e w8 ⟨yq, yk, rfl, hq⟩
        have hX := Lib.hid (hX.out.kept (Kept.below hq))
        have hC := Lib.hid (hC.out.kept (Kept.below hq))
        have hP := Lib.hid (hP.out.kept (Kept.below hq))
        have hq0 := Lib.hid ((hq0.out.below hq).mono hq.size)
        have hE := Lib.hid ((hE.out.below hq).mono hq.size)
        have ch := Lib.hid (ch.out.trans (hq.mono ch.out.size))
        clear hq
        go_wp2_with fail
        refine (tlasts_ok 500 _ (by omega) (by omega) hE.out HKF.out.1 hX.out HXT2.out hnd.out).mono ?_
        rintro e w9 ⟨rfl, hq⟩
        have hX := Lib.hid (hX.out.kept (Kept.below hq))
        have hC := Lib.hid (hC.out.kept (Kept.below hq))
        have hP := Lib.hid (hP.out.kept (Kept.below hq))
        have hq0 := Lib.hid ((hq0.out.below hq).mono hq.size)
        have hE := Lib.hid ((hE.out.below hq).mono hq.size)
        have ch := Lib.hid (ch.out.trans (hq.mono ch.out.size))
        clear hq
        go_wp2_with fail
        refine (defeats_any _).mono ?_
        rintro e wz ⟨rfl, hqz⟩
        go_wp2
        go_ret
        exact ⟨rfl, ch.out.trans (hqz.mono ch.out.size)⟩
      ·
        have HG := Lib.hid hg
        clear hg hallf
        go_wp2_with fail
        refine (tplay_big 500 _ (by omega) (by omega) HG.out hq0.out VQ.out hP.out HPZ.out).mono ?_
        rintro e w8 ⟨yq, yk, rfl, hq⟩
        have hX := Lib.hid (hX.out.kept (Kept.below hq))
        have hC := Lib.hid (hC.out.kept (Kept.below hq))
        have hP := Lib.hid (hP.out.kept (Kept.below hq))
        have hq0 := Lib.hid ((hq0.out.below hq).mono hq.size)
        have hE := Lib.hid ((hE.out.below hq).mono hq.size)
        have ch := Lib.hid (ch.out.trans (hq.mono ch.out.size))
        clear hq
        go_wp2_with fail
        refine (defeats_any _).mono ?_
        rintro e wz ⟨rfl, hqz⟩
        go_wp2
        go_ret
        exact ⟨rfl, ch.out.trans (hqz.mono ch.out.size)⟩
end Go.Proofs.Ytdjbcmfjlfkcjaa


/- law09: DefeatLies. -/
import Derived.Test.YtaiomcjopgnfpaaDef7
namespace Go.Proofs.Ytaiomcjopgnfpaa
open Go.RowKit

theorem liarE_zero {h : List Ins} (h0 : liarE h = 0) : knowE (liarQ h) = 0 ∧ liarD h = knowL (liarQ h) := by
  have h1 := h0
  unfold liarE at h0
  split at h0
  · split at h0
    · exact ⟨h0, by unfold liarD; rw [if_pos h1]⟩
    · cases h0
  · cases h0
theorem liarE_err {h : List Ins} (hv : validB h = true) (h0 : ¬ liarE h = 0) : liarE h = 3 := by
  unfold liarE at h0 ⊢
  rw [if_pos hv] at h0 ⊢
  split at h0
  · rename_i hq
    rw [if_pos hq]
    exact knowE_ne hq h0
  · rename_i hq
    rw [if_neg hq]
theorem liar_all {h : List Ins} (hv : validB h = true) (h0 : liarE h = 0) (t : Tr) (hs : (Tr.pair (codeT (liarD h)) t).size ≤ 2000000) (F : Nat) :
    (∃ s k b, goF h F 0 (startS (.pair (codeT (liarD h)) t)) = .done s k ∧ getR s.regs 0 = b ∧ k ≤ F ∧ (b = .nil → ∀ F', k + 20 ≤ F' → ∃ s', goF (liarD h) F' 0 (startS t) = .done s' (k + 20) ∧ getR s'.regs 0 = .nil) ∧ (b ≠ .nil → ∀ F', ∃ s', goF (liarD h) F' 0 (startS t) = .fuel s' F')) ∨
    (∃ s, goF h F 0 (startS (.pair (codeT (liarD h)) t)) = .fuel s F ∧ ∀ F' s' n, goF (liarD h) F' 0 (startS t) = .done s' n → F < n) ∨
    (goF h F 0 (startS (.pair (codeT (liarD h)) t)) = .big ∧ ∀ F', F + 19 ≤ F' → goF (liarD h) F' 0 (startS t) = .big) := by
  obtain ⟨hk, hD⟩ := liarE_zero h0
  rw [hD] at hs ⊢
  exact liar_part (validB_all hv) t _ (known_start hk t hs) hs F
set_option maxRecDepth 20000 in
set_option maxHeartbeats 16000000 in
theorem law_DefeatLies {w : World} (vh : Value) (h : List Ins) (hhh : InsRow w w.heap.size vh h) (x : ByteArray) (hxs : x.size ≤ 140737488355328) :
    Calls Try.prog 16 #[vh, .string x] w fun e w' => e = .returned (.bool true) ∧ Below w.heap.size w w' := by
  obtain ⟨ha, hc, rfl⟩ := hhh.len
  obtain ⟨hl, hhl⟩ : ∃ lz, h.length = lz := ⟨_, rfl⟩
  rw [hhl] at hhh ⊢
  have hh := Lib.hid hhh
  obtain ⟨en, hen⟩ : ∃ e, liarE h = e := ⟨_, rfl⟩
  have HE := Lib.hid hen
  have HXS := Lib.hid hxs
  clear hhh hhl hen hxs
  have ch := Lib.hid (Below.refl w.heap.size w)
  go_enter Try.func16, Try.ntmps16
  go_wp2_with fail
  have hL0 := ProgsRow.lit (w := w) [.slice ha hl hc] [h] rfl (by simp) (fun j u l hu hl => match j, u, l, hu, hl with | 0, _, _, hu, hl => by cases hu; cases hl; exact hh.out)
  obtain ⟨w1, hW⟩ : ∃ B, w.alloc (.cells #[.slice ha hl hc] 25) = B := ⟨_, rfl⟩
  rw [hW]
  have hq : Below w.heap.size w w1 := by rw [← hW]; exact (Below.refl _ _).alloc (Nat.le_refl _) _
  have hL := Lib.hid (show ProgsRow w1 w1.heap.size (.slice (some ⟨w.heap.size, 0, none⟩) 1 1) [h] by rw [← hW]; exact hL0)
  clear hW hL0
  have hh := Lib.hid ((hh.out.below hq).mono hq.size)
  have ch := Lib.hid (ch.out.trans (hq.mono ch.out.size))
  clear hq
  refine (little_any x HXS.out _ _ (by simp) _ hL.out).mono ?_
  rintro e w2 ⟨b1, rfl, hlit, hq⟩
  have hh := Lib.hid ((hh.out.below hq).mono hq.size)
  have hL := Lib.hid ((hL.out.below hq).mono hq.size)
  have ch := Lib.hid (ch.out.trans (hq.mono ch.out.size))
  clear hq
  clear hL
  cases b1 with
  | false =>
    go_wp2_with fail
    refine (awake9_any _).mono ?_
    rintro e wz ⟨rfl, hqz⟩
    go_wp2
    go_ret
    exact ⟨rfl, ch.out.trans (hqz.mono ch.out.size)⟩
  | true =>
    have HLIT := Lib.hid (hlit.out rfl)
    clear hlit
    have HX := Lib.hid (str_tree x HLIT.out.2.2)
    have HXZ := Lib.hid (show (toTr x).size ≤ 20000 by have h1 := HX.out.1; have h2 := TS_size (toTr x); rw [h1] at h2; have := HLIT.out.2.1; omega)
    have HV := Lib.hid (HLIT.out.1 h (by simp))
    go_wp2_with fail
    refine (liar_due en _ h _ hh.out HE.out).mono ?_
    rintro e w3 ⟨vp, rfl, hP, hq⟩
    have hh := Lib.hid ((hh.out.below hq).mono hq.size)
    have ch := Lib.hid (ch.out.trans (hq.mono ch.out.size))
    clear hq
    have hP := Lib.hid (hP.row (by have := liarD_len h; omega))
    by_cases h0 : ¬ en = 0
    ·
      have h3 : en = 3 := by rw [← HE.out]; exact liarE_err HV.out (by rw [HE.out]; exact h0)
      subst h3
      go_wp2_with fail
      refine (awake9_any _).mono ?_
      rintro e wz ⟨rfl, hqz⟩
      go_wp2
      go_ret
      exact ⟨rfl, ch.out.trans (hqz.mono ch.out.size)⟩
    have h0 : en = 0 := by omega
    subst h0
    have HZ := Lib.hid (liarE_zero HE.out)
    have HK := Lib.hid (show validB (liarD h) = true ∧ codeN (liarD h) ≤ 2000000 by rw [HZ.out.2]; exact ⟨(knowE_facts HZ.out.1).2.2.1, (knowE_facts HZ.out.1).2.2.2⟩)
    have HCS := Lib.hid (show (codeT (liarD h)).size ≤ 2000000 by rw [codeT_size HK.out.1]; exact HK.out.2)
    go_wp2_with fail
    refine (coded7_any _ _ _ hP.out HK.out.1 HK.out.2).mono ?_
    rintro e w4 ⟨cq, rfl, hC, hq⟩
    have hh := Lib.hid ((hh.out.below hq).mono hq.size)
    have hP := Lib.hid ((hP.out.below hq).mono hq.size)
    have ch := Lib.hid (ch.out.trans (hq.mono ch.out.size))
    clear hq
    have hC := Lib.hid hC
    go_wp2_with fail
    refine (read_str x HLIT.out.2.2 _).mono ?_
    rintro e w5 ⟨xq, rfl, hN, hq⟩
    have hC := Lib.hid (hC.out.kept (Kept.below hq))
    have hh := Lib.hid ((hh.out.below hq).mono hq.size)
    have hP := Lib.hid ((hP.out.below hq).mono hq.size)
    have ch := Lib.hid (ch.out.trans (hq.mono ch.out.size))
    clear hq
    have hN := Lib.hid hN
    go_wp2_with fail
    refine (rnodeCons_ok _ _ _ _ _ hC.out hN.out (by have := HCS.out; omega) (by have := HXZ.out; omega)).mono ?_
    rintro e w6 ⟨pq, rfl, hPr, hq⟩
    have hC := Lib.hid (hC.out.kept (Kept.below hq))
    have hN := Lib.hid (hN.out.kept (Kept.below hq))
    have hh := Lib.hid ((hh.out.below hq).mono hq.size)
    have hP := Lib.hid ((hP.out.below hq).mono hq.size)
    have ch := Lib.hid (ch.out.trans (hq.mono ch.out.size))
    clear hq
    obtain ⟨pg, px, py, hpe, hpg, c0, c1, c2, -, -⟩ := hPr.cells
    injection hpe with hpe
    injection hpe with hpe
    subst hpe
    obtain ⟨pz, hpz⟩ : ∃ z, (Tr.pair (codeT (liarD h)) (toTr x)).size = z := ⟨_, rfl⟩
    rw [hpz] at c2
    have HPZ := Lib.hid hpz
    clear hpz hpg c0 c1
    have hPr := Lib.hid hPr
    by_cases hbig : (2000000 : Int) < pz
    ·
      go_wp2_with fail
      refine (awake9_any _).mono ?_
      rintro e wz ⟨rfl, hqz⟩
      go_wp2
      go_ret
      exact ⟨rfl, ch.out.trans (hqz.mono ch.out.size)⟩
    have HPS := Lib.hid (show (Tr.pair (codeT (liarD h)) (toTr x)).size ≤ 2000000 by rw [HPZ.out]; omega)
    have HXS2 := Lib.hid (show (toTr x).size ≤ 2000000 by have := HXZ.out; omega)
    rcases liar_all HV.out HE.out (toTr x) HPS.out 20000 with ⟨s, k, b, hg, hr, hk, hbn, hbp⟩ | ⟨s, hg, hall⟩ | ⟨hg, hall⟩
    ·
      have HG := Lib.hid hg
      have hkI : (k : Int) ≤ 20000 := by omega
      clear hg
      cases b with
      | nil =>
        obtain ⟨s2, hg2, hr2⟩ := hbn rfl 40000 (by omega)
        have HG2 := Lib.hid hg2
        have HR := Lib.hid hr
        have HR2 := Lib.hid hr2
        clear hbn hbp hr hr2 hg2 hk
        go_wp2_with fail
        refine (load_any _ _ _ hh.out HV.out).mono ?_
        rintro e w7 ⟨gd, td, rfl, hM, hq⟩
        have hC := Lib.hid (hC.out.kept (Kept.below hq))
        have hN := Lib.hid (hN.out.kept (Kept.below hq))
        have hPr := Lib.hid (hPr.out.kept (Kept.below hq))
        have hh := Lib.hid ((hh.out.below hq).mono hq.size)
        have hP := Lib.hid ((hP.out.below hq).mono hq.size)
        have ch := Lib.hid (ch.out.trans (hq.mono ch.out.size))
        clear hq
        have hM := Lib.hid hM
        go_wp2_with fail
        refine (rrun_done 20000 _ (by omega) (by omega) HG.out hM.out hPr.out HPS.out HV.out).mono ?_
        rintro e w8 ⟨ry, rfl, hY, hq⟩
        have hC := Lib.hid (hC.out.kept (Kept.below hq))
        have hN := Lib.hid (hN.out.kept (Kept.below hq))
        have hPr := Lib.hid (hPr.out.kept (Kept.below hq))
        have hM := Lib.hid (mach_lift hM.out hq)
        have hh := Lib.hid ((hh.out.below hq).mono hq.size)
        have hP := Lib.hid ((hP.out.below hq).mono hq.size)
        have ch := Lib.hid (ch.out.trans (hq.mono ch.out.size))
        clear hq
        clear hM
        have hY := Lib.hid hY
        go_wp2_with fail
        refine (load_any _ _ _ hP.out HK.out.1).mono ?_
        rintro e w9 ⟨ge, te, rfl, hM, hq⟩
        have hC := Lib.hid (hC.out.kept (Kept.below hq))
        have hN := Lib.hid (hN.out.kept (Kept.below hq))
        have hPr := Lib.hid (hPr.out.kept (Kept.below hq))
        have hY := Lib.hid (hY.out.kept (Kept.below hq))
        have hh := Lib.hid ((hh.out.below hq).mono hq.size)
        have hP := Lib.hid ((hP.out.below hq).mono hq.size)
        have ch := Lib.hid (ch.out.trans (hq.mono ch.out.size))
        clear hq
        have hM := Lib.hid hM
        go_wp2_with fail
        refine (rrun_done 40000 _ (by omega) (by omega) HG2.out hM.out hN.out HXS2.out HK.out.1).mono ?_
        rintro e w10 ⟨rz, rfl, hZ, hq⟩
        have hC := Lib.hid (hC.out.kept (Kept.below hq))
        have hN := Lib.hid (hN.out.kept (Kept.below hq))
        have hPr := Lib.hid (hPr.out.kept (Kept.below hq))
        have hY := Lib.hid (hY.out.kept (Kept.below hq))
        have hM := Lib.hid (mach_lift hM.out hq)
        have hh := Lib.hid ((hh.out.below hq).mono hq.size)
        have hP := Lib.hid ((hP.out.below hq).mono hq.size)
        have ch := Lib.hid (ch.out.trans (hq.mono ch.out.size))
        clear hq
        clear hM
        rw [HR2.out] at hZ
        obtain rfl := node_nil hZ
        have hY1 := hY.out
        rw [HR.out] at hY1
        obtain rfl := node_nil hY1
        clear hY hY1 hZ
        go_wp2_with fail
        refine (awake9_any _).mono ?_
        rintro e wz ⟨rfl, hqz⟩
        go_wp2
        go_ret
        exact ⟨rfl, ch.out.trans (hqz.mono ch.out.size)⟩
      | pair a c =>
        obtain ⟨s2, hg2⟩ := hbp (by intro h; cases h) 40000
        have HG2 := Lib.hid hg2
        have HR := Lib.hid hr
        clear hbn hbp hr hg2 hk
        go_wp2_with fail
        refine (load_any _ _ _ hh.out HV.out).mono ?_
        rintro e w7 ⟨gd, td, rfl, hM, hq⟩
        have hC := Lib.hid (hC.out.kept (Kept.below hq))
        have hN := Lib.hid (hN.out.kept (Kept.below hq))
        have hPr := Lib.hid (hPr.out.kept (Kept.below hq))
        have hh := Lib.hid ((hh.out.below hq).mono hq.size)
        have hP := Lib.hid ((hP.out.below hq).mono hq.size)
        have ch := Lib.hid (ch.out.trans (hq.mono ch.out.size))
        clear hq
        have hM := Lib.hid hM
        go_wp2_with fail
        refine (rrun_done 20000 _ (by omega) (by omega) HG.out hM.out hPr.out HPS.out HV.out).mono ?_
        rintro e w8 ⟨ry, rfl, hY, hq⟩
        have hC := Lib.hid (hC.out.kept (Kept.below hq))
        have hN := Lib.hid (hN.out.kept (Kept.below hq))
        have hPr := Lib.hid (hPr.out.kept (Kept.below hq))
        have hM := Lib.hid (mach_lift hM.out hq)
        have hh := Lib.hid ((hh.out.below hq).mono hq.size)
        have hP := Lib.hid ((hP.out.below hq).mono hq.size)
        have ch := Lib.hid (ch.out.trans (hq.mono ch.out.size))
        clear hq
        clear hM
        have hY := Lib.hid hY
        go_wp2_with fail
        refine (load_any _ _ _ hP.out HK.out.1).mono ?_
        rintro e w9 ⟨ge, te, rfl, hM, hq⟩
        have hC := Lib.hid (hC.out.kept (Kept.below hq))
        have hN := Lib.hid (hN.out.kept (Kept.below hq))
        have hPr := Lib.hid (hPr.out.kept (Kept.below hq))
        have hY := Lib.hid (hY.out.kept (Kept.below hq))
        have hh := Lib.hid ((hh.out.below hq).mono hq.size)
        have hP := Lib.hid ((hP.out.below hq).mono hq.size)
        have ch := Lib.hid (ch.out.trans (hq.mono ch.out.size))
        clear hq
        have hM := Lib.hid hM
        go_wp2_with fail
        refine (rrun_fuel 40000 _ (by omega) (by omega) HG2.out hM.out hN.out HXS2.out HK.out.1).mono ?_
        rintro e w10 ⟨rz, rfl, hZ, hq⟩
        have hC := Lib.hid (hC.out.kept (Kept.below hq))
        have hN := Lib.hid (hN.out.kept (Kept.below hq))
        have hPr := Lib.hid (hPr.out.kept (Kept.below hq))
        have hY := Lib.hid (hY.out.kept (Kept.below hq))
        have hM := Lib.hid (mach_lift hM.out hq)
        have hh := Lib.hid ((hh.out.below hq).mono hq.size)
        have hP := Lib.hid ((hP.out.below hq).mono hq.size)
        have ch := Lib.hid (ch.out.trans (hq.mono ch.out.size))
        clear hq
        clear hM
        have hY1 := hY.out
        rw [HR.out] at hY1
        obtain ⟨g3, x3, y3, hgo, -⟩ := hY1.cells
        injection hgo with hgo
        subst hgo
        clear hY hY1 hZ
        go_wp2_with fail
        refine (awake9_any _).mono ?_
        rintro e wz ⟨rfl, hqz⟩
        go_wp2
        go_ret
        exact ⟨rfl, ch.out.trans (hqz.mono ch.out.size)⟩
    ·
      have HG := Lib.hid hg
      clear hg
      cases hg2 : goF (liarD h) 40000 0 (startS (toTr x)) with
      | done s2 n2 =>
        have hn1 := hall 40000 s2 n2 hg2
        have hn2 := done_le hg2
        have hnI : (20000 : Int) < n2 := by omega
        have hnI2 : (n2 : Int) ≤ 40000 := by omega
        have HG2 := Lib.hid hg2
        clear hall hn1 hn2 hg2
        go_wp2_with fail
        refine (load_any _ _ _ hh.out HV.out).mono ?_
        rintro e w7 ⟨gd, td, rfl, hM, hq⟩
        have hC := Lib.hid (hC.out.kept (Kept.below hq))
        have hN := Lib.hid (hN.out.kept (Kept.below hq))
        have hPr := Lib.hid (hPr.out.kept (Kept.below hq))
        have hh := Lib.hid ((hh.out.below hq).mono hq.size)
        have hP := Lib.hid ((hP.out.below hq).mono hq.size)
        have ch := Lib.hid (ch.out.trans (hq.mono ch.out.size))
        clear hq
        have hM := Lib.hid hM
        go_wp2_with fail
        refine (rrun_fuel 20000 _ (by omega) (by omega) HG.out hM.out hPr.out HPS.out HV.out).mono ?_
        rintro e w8 ⟨ry, rfl, hY, hq⟩
        have hC := Lib.hid (hC.out.kept (Kept.below hq))
        have hN := Lib.hid (hN.out.kept (Kept.below hq))
        have hPr := Lib.hid (hPr.out.kept (Kept.below hq))
        have hM := Lib.hid (mach_lift hM.out hq)
        have hh := Lib.hid ((hh.out.below hq).mono hq.size)
        have hP := Lib.hid ((hP.out.below hq).mono hq.size)
        have ch := Lib.hid (ch.out.trans (hq.mono ch.out.size))
        clear hq
        clear hM
        have hY := Lib.hid hY
        go_wp2_with fail
        refine (load_any _ _ _ hP.out HK.out.1).mono ?_
        rintro e w9 ⟨ge, te, rfl, hM, hq⟩
        have hC := Lib.hid (hC.out.kept (Kept.below hq))
        have hN := Lib.hid (hN.out.kept (Kept.below hq))
        have hPr := Lib.hid (hPr.out.kept (Kept.below hq))
        have hY := Lib.hid (hY.out.kept (Kept.below hq))
        have hh := Lib.hid ((hh.out.below hq).mono hq.size)
        have hP := Lib.hid ((hP.out.below hq).mono hq.size)
        have ch := Lib.hid (ch.out.trans (hq.mono ch.out.size))
        clear hq
        have hM := Lib.hid hM
        go_wp2_with fail
        refine (rrun_done 40000 _ (by omega) (by omega) HG2.out hM.out hN.out HXS2.out HK.out.1).mono ?_
        rintro e w10 ⟨rz, rfl, hZ, hq⟩
        have hC := Lib.hid (hC.out.kept (Kept.below hq))
        have hN := Lib.hid (hN.out.kept (Kept.below hq))
        have hPr := Lib.hid (hPr.out.kept (Kept.below hq))
        have hY := Lib.hid (hY.out.kept (Kept.below hq))
        have hM := Lib.hid (mach_lift hM.out hq)
        have hh := Lib.hid ((hh.out.below hq).mono hq.size)
        have hP := Lib.hid ((hP.out.below hq).mono hq.size)
        have ch := Lib.hid (ch.out.trans (hq.mono ch.out.size))
        clear hq
        clear hM
        go_wp2_with fail
        refine (awake9_any _).mono ?_
        rintro e wz ⟨rfl, hqz⟩
        go_wp2
        go_ret
        exact ⟨rfl, ch.out.trans (hqz.mono ch.out.size)⟩
      | fuel s2 n2 =>
        have HG2 := Lib.hid hg2
        clear hall hg2
        go_wp2_with fail
        refine (load_any _ _ _ hh.out HV.out).mono ?_
        rintro e w7 ⟨gd, td, rfl, hM, hq⟩
        have hC := Lib.hid (hC.out.kept (Kept.below hq))
        have hN := Lib.hid (hN.out.kept (Kept.below hq))
        have hPr := Lib.hid (hPr.out.kept (Kept.below hq))
        have hh := Lib.hid ((hh.out.below hq).mono hq.size)
        have hP := Lib.hid ((hP.out.below hq).mono hq.size)
        have ch := Lib.hid (ch.out.trans (hq.mono ch.out.size))
        clear hq
        have hM := Lib.hid hM
        go_wp2_with fail
        refine (rrun_fuel 20000 _ (by omega) (by omega) HG.out hM.out hPr.out HPS.out HV.out).mono ?_
        rintro e w8 ⟨ry, rfl, hY, hq⟩
        have hC := Lib.hid (hC.out.kept (Kept.below hq))
        have hN := Lib.hid (hN.out.kept (Kept.below hq))
        have hPr := Lib.hid (hPr.out.kept (Kept.below hq))
        have hM := Lib.hid (mach_lift hM.out hq)
        have hh := Lib.hid ((hh.out.below hq).mono hq.size)
        have hP := Lib.hid ((hP.out.below hq).mono hq.size)
        have ch := Lib.hid (ch.out.trans (hq.mono ch.out.size))
        clear hq
        clear hM
        have hY := Lib.hid hY
        go_wp2_with fail
        refine (load_any _ _ _ hP.out HK.out.1).mono ?_
        rintro e w9 ⟨ge, te, rfl, hM, hq⟩
        have hC := Lib.hid (hC.out.kept (Kept.below hq))
        have hN := Lib.hid (hN.out.kept (Kept.below hq))
        have hPr := Lib.hid (hPr.out.kept (Kept.below hq))
        have hY := Lib.hid (hY.out.kept (Kept.below hq))
        have hh := Lib.hid ((hh.out.below hq).mono hq.size)
        have hP := Lib.hid ((hP.out.below hq).mono hq.size)
        have ch := Lib.hid (ch.out.trans (hq.mono ch.out.size))
        clear hq
        have hM := Lib.hid hM
        go_wp2_with fail
        refine (rrun_fuel 40000 _ (by omega) (by omega) HG2.out hM.out hN.out HXS2.out HK.out.1).mono ?_
        rintro e w10 ⟨rz, rfl, hZ, hq⟩
        have hC := Lib.hid (hC.out.kept (Kept.below hq))
        have hN := Lib.hid (hN.out.kept (Kept.below hq))
        have hPr := Lib.hid (hPr.out.kept (Kept.below hq))
        have hY := Lib.hid (hY.out.kept (Kept.below hq))
        have hM := Lib.hid (mach_lift hM.out hq)
        have hh := Lib.hid ((hh.out.below hq).mono hq.size)
        have hP := Lib.hid ((hP.out.below hq).mono hq.size)
        have ch := Lib.hid (ch.out.trans (hq.mono ch.out.size))
        clear hq
        clear hM
        go_wp2_with fail
        refine (awake9_any _).mono ?_
        rintro e wz ⟨rfl, hqz⟩
        go_wp2
        go_ret
        exact ⟨rfl, ch.out.trans (hqz.mono ch.out.size)⟩
      | big =>
        have HG2 := Lib.hid hg2
        clear hall hg2
        go_wp2_with fail
        refine (load_any _ _ _ hh.out HV.out).mono ?_
        rintro e w7 ⟨gd, td, rfl, hM, hq⟩
        have hC := Lib.hid (hC.out.kept (Kept.below hq))
        have hN := Lib.hid (hN.out.kept (Kept.below hq))
        have hPr := Lib.hid (hPr.out.kept (Kept.below hq))
        have hh := Lib.hid ((hh.out.below hq).mono hq.size)
        have hP := Lib.hid ((hP.out.below hq).mono hq.size)
        have ch := Lib.hid (ch.out.trans (hq.mono ch.out.size))
        clear hq
        have hM := Lib.hid hM
        go_wp2_with fail
        refine (rrun_fuel 20000 _ (by omega) (by omega) HG.out hM.out hPr.out HPS.out HV.out).mono ?_
        rintro e w8 ⟨ry, rfl, hY, hq⟩
        have hC := Lib.hid (hC.out.kept (Kept.below hq))
        have hN := Lib.hid (hN.out.kept (Kept.below hq))
        have hPr := Lib.hid (hPr.out.kept (Kept.below hq))
        have hM := Lib.hid (mach_lift hM.out hq)
        have hh := Lib.hid ((hh.out.below hq).mono hq.size)
        have hP := Lib.hid ((hP.out.below hq).mono hq.size)
        have ch := Lib.hid (ch.out.trans (hq.mono ch.out.size))
        clear hq
        clear hM
        have hY := Lib.hid hY
        go_wp2_with fail
        refine (load_any _ _ _ hP.out HK.out.1).mono ?_
        rintro e w9 ⟨ge, te, rfl, hM, hq⟩
        have hC := Lib.hid (hC.out.kept (Kept.below hq))
        have hN := Lib.hid (hN.out.kept (Kept.below hq))
        have hPr := Lib.hid (hPr.out.kept (Kept.below hq))
        have hY := Lib.hid (hY.out.kept (Kept.below hq))
        have hh := Lib.hid ((hh.out.below hq).mono hq.size)
        have hP := Lib.hid ((hP.out.below hq).mono hq.size)
        have ch := Lib.hid (ch.out.trans (hq.mono ch.out.size))
        clear hq
        have hM := Lib.hid hM
        go_wp2_with fail
        refine (rrun_big 40000 _ (by omega) (by omega) HG2.out hM.out hN.out HXS2.out HK.out.1).mono ?_
        rintro e w10 ⟨rz, rfl, hZ, hq⟩
        have hC := Lib.hid (hC.out.kept (Kept.below hq))
        have hN := Lib.hid (hN.out.kept (Kept.below hq))
        have hPr := Lib.hid (hPr.out.kept (Kept.below hq))
        have hY := Lib.hid (hY.out.kept (Kept.below hq))
        have hM := Lib.hid (mach_lift hM.out hq)
        have hh := Lib.hid ((hh.out.below hq).mono hq.size)
        have hP := Lib.hid ((hP.out.below hq).mono hq.size)
        have ch := Lib.hid (ch.out.trans (hq.mono ch.out.size))
        clear hq
        clear hM
        go_wp2_with fail
        refine (awake9_any _).mono ?_
        rintro e wz ⟨rfl, hqz⟩
        go_wp2
        go_ret
        exact ⟨rfl, ch.out.trans (hqz.mono ch.out.size)⟩
    ·
      have HG := Lib.hid hg
      have HG2 := Lib.hid (hall 40000 (by omega))
      clear hall hg
      go_wp2_with fail
      refine (load_any _ _ _ hh.out HV.out).mono ?_
      rintro e w7 ⟨gd, td, rfl, hM, hq⟩
      have hC := Lib.hid (hC.out.kept (Kept.below hq))
      have hN := Lib.hid (hN.out.kept (Kept.below hq))
      have hPr := Lib.hid (hPr.out.kept (Kept.below hq))
      have hh := Lib.hid ((hh.out.below hq).mono hq.size)
      have hP := Lib.hid ((hP.out.below hq).mono hq.size)
      have ch := Lib.hid (ch.out.trans (hq.mono ch.out.size))
      clear hq
      have hM := Lib.hid hM
      go_wp2_with fail
      refine (rrun_big 20000 _ (by omega) (by omega) HG.out hM.out hPr.out HPS.out HV.out).mono ?_
      rintro e w8 ⟨ry, rfl, hY, hq⟩
      have hC := Lib.hid (hC.out.kept (Kept.below hq))
      have hN := Lib.hid (hN.out.kept (Kept.below hq))
      have hPr := Lib.hid (hPr.out.kept (Kept.below hq))
      have hM := Lib.hid (mach_lift hM.out hq)
      have hh := Lib.hid ((hh.out.below hq).mono hq.size)
      have hP := Lib.hid ((hP.out.below hq).mono hq.size)
      have ch := Lib.hid (ch.out.trans (hq.mono ch.out.size))
      clear hq
      clear hM
      have hY := Lib.hid hY
      go_wp2_with fail
      refine (load_any _ _ _ hP.out HK.out.1).mono ?_
      rintro e w9 ⟨ge, te, rfl, hM, hq⟩
      have hC := Lib.hid (hC.out.kept (Kept.below hq))
      have hN := Lib.hid (hN.out.kept (Kept.below hq))
      have hPr := Lib.hid (hPr.out.kept (Kept.below hq))
      have hY := Lib.hid (hY.out.kept (Kept.below hq))
      have hh := Lib.hid ((hh.out.below hq).mono hq.size)
      have hP := Lib.hid ((hP.out.below hq).mono hq.size)
      have ch := Lib.hid (ch.out.trans (hq.mono ch.out.size))
      clear hq
      have hM := Lib.hid hM
      go_wp2_with fail
      refine (rrun_big 40000 _ (by omega) (by omega) HG2.out hM.out hN.out HXS2.out HK.out.1).mono ?_
      rintro e w10 ⟨rz, rfl, hZ, hq⟩
      have hC := Lib.hid (hC.out.kept (Kept.below hq))
      have hN := Lib.hid (hN.out.kept (Kept.below hq))
      have hPr := Lib.hid (hPr.out.kept (Kept.below hq))
      have hY := Lib.hid (hY.out.kept (Kept.below hq))
      have hM := Lib.hid (mach_lift hM.out hq)
      have hh := Lib.hid ((hh.out.below hq).mono hq.size)
      have hP := Lib.hid ((hP.out.below hq).mono hq.size)
      have ch := Lib.hid (ch.out.trans (hq.mono ch.out.size))
      clear hq
      clear hM
      go_wp2_with fail
      refine (awake9_any _).mono ?_
      rintro e wz ⟨rfl, hqz⟩
      go_wp2
      go_ret
      exact ⟨rfl, ch.out.trans (hqz.mono ch.out.size)⟩
end Go.Proofs.Ytaiomcjopgnfpaa


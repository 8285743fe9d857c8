/- law09: DefeatRuns, DefeatLies. -/
import Derived.Test.YtaiomcjopgnfpaaDef5
import Derived.Test.YtaiomcjopgnfpaaDef6
namespace Go.Proofs.Ytaiomcjopgnfpaa
open Go.RowKit

theorem defE_zero {d y n : List Ins} (h : defE d y n = 0) : (∀ l ∈ [d, y, n], validB l = true) ∧ defW d y n ≤ 30 ∧ knowE (defQ d y n (defW d y n)) = 0 ∧ defD d y n = knowL (defQ d y n (defW d y n)) := by
  have h0 := h
  unfold defE at h
  split at h
  · rename_i hv
    split at h
    · cases h
    · rename_i hw
      split at h
      · refine ⟨fun l hl => ?_, by omega, h, by unfold defD; rw [if_pos h0]⟩
        rcases List.mem_cons.1 hl with rfl | hl
        · exact hv.1
        · rcases List.mem_cons.1 hl with rfl | hl
          · exact hv.2.1
          · rcases List.mem_cons.1 hl with rfl | hl
            · exact hv.2.2
            · cases hl
      · cases h
  · cases h
theorem defE_err {d y n : List Ins} (hall : ∀ l ∈ [d, y, n], validB l = true) (h : ¬ defE d y n = 0) : (30 < defW d y n ∧ defE d y n = 8) ∨ (¬ 30 < defW d y n ∧ defE d y n = 3) := by
  rw [defE_all hall] at h ⊢
  by_cases hw : 30 < defW d y n
  · exact .inl ⟨hw, if_pos hw⟩
  · rw [if_neg hw] at h ⊢
    refine .inr ⟨hw, ?_⟩
    split at h
    · rename_i hq
      rw [if_pos hq]
      exact knowE_ne hq h
    · rename_i hq
      rw [if_neg hq]
theorem defeat_all {d y n : List Ins} (h0 : defE d y n = 0) (t : Tr) (hs : (Tr.pair (codeT (defD d y n)) t).size ≤ 2000000) (F : Nat) :
    (∀ s k, goF d F 0 (startS (codeT (defD d y n))) = .done s k → (getR s.regs 0 ≠ .nil → FollowP (defD d y n) t n t (k + defW d y n + 23)) ∧ (getR s.regs 0 = .nil → FollowP (defD d y n) t y t (k + defW d y n + 25))) ∧
    ((∀ s k, goF d F 0 (startS (codeT (defD d y n))) ≠ .done s k) → (∃ s, goF (defD d y n) F 0 (startS t) = .fuel s F) ∨ goF (defD d y n) F 0 (startS t) = .big) := by
  obtain ⟨hall, hw, hk, hD⟩ := defE_zero h0
  have hp := defW_pos d y n
  obtain ⟨m, hm⟩ : ∃ m, defW d y n = m + 1 := ⟨defW d y n - 1, by omega⟩
  have hW : max (max (mostN d + 1) (mostN y + 1)) (mostN n + 1) = m + 1 := hm
  have hS := segsD d y n m
  rw [← hm, ← hD] at hS
  have hst := known_start hk t (by rw [← hD]; exact hs)
  rw [← hD] at hst
  have hsz : (codeT (defD d y n)).size + t.size ≤ 2000000 := by simp only [Tr.size] at hs; omega
  have vd := validB_all (hall d (by simp))
  have vy := validB_all (hall y (by simp))
  have vn := validB_all (hall n (by simp))
  refine ⟨fun s k hg => ?_, fun hg => defeat_none hS (by omega) vd (by omega) _ t hst (by omega) F hg⟩
  have h := defeat_follow hS (by omega) vd vy vn (by omega) (by omega) (by omega) _ t hst (by omega) (by omega) F s k hg
  rw [hm]
  exact ⟨fun hb => by have := h.1 hb; rwa [show k + m + 24 = k + (m + 1) + 23 by omega] at this, fun hb => by have := h.2 hb; rwa [show k + m + 26 = k + (m + 1) + 25 by omega] at this⟩
theorem follows_at {vp vq x y : Value} {P Q : List Ins} {t u : Tr} (c : Nat) (ci : Int) (hci : ci = c) (hc : c ≤ 1000000) {w : World} (hhP : InsRow w w.heap.size vp P) (hhQ : InsRow w w.heap.size vq Q) (vP : validB P = true) (vQ : validB Q = true) (hx : NodeP 69 w t x) (hy : NodeP 69 w u y) (ht : t.size ≤ 2000000) (hu : u.size ≤ 2000000) (hf : FollowP P t Q u c) :
    Calls Try.prog 52 #[vp, x, vq, y, .int .i64 ci] w fun e w' => e = .returned (.bool true) ∧ Below w.heap.size w w' := by
  subst hci
  exact follows_any vp vq x y P Q t u c hc w hhP hhQ vP vQ hx hy ht hu hf
set_option maxRecDepth 20000 in
set_option maxHeartbeats 16000000 in
theorem law_DefeatRuns {w : World} (vd : Value) (d : List Ins) (hhd : InsRow w w.heap.size vd d) (vy : Value) (y : List Ins) (hhy : InsRow w w.heap.size vy y) (vn : Value) (n : List Ins) (hhn : InsRow w w.heap.size vn n) (x : ByteArray) (hxs : x.size ≤ 140737488355328) :
    Calls Try.prog 15 #[vd, vy, vn, .string x] w fun e w' => e = .returned (.bool true) ∧ Below w.heap.size w w' := by
  obtain ⟨da, dc, rfl⟩ := hhd.len
  obtain ⟨dn, hdn⟩ : ∃ lz, d.length = lz := ⟨_, rfl⟩
  rw [hdn] at hhd ⊢
  have hd := Lib.hid hhd
  clear hhd hdn
  obtain ⟨ya, yc, rfl⟩ := hhy.len
  obtain ⟨yn, hyn⟩ : ∃ lz, y.length = lz := ⟨_, rfl⟩
  rw [hyn] at hhy ⊢
  have hy := Lib.hid hhy
  clear hhy hyn
  obtain ⟨na, nc, rfl⟩ := hhn.len
  obtain ⟨nn, hnn⟩ : ∃ lz, n.length = lz := ⟨_, rfl⟩
  rw [hnn] at hhn ⊢
  have hn := Lib.hid hhn
  clear hhn hnn
  obtain ⟨en, hen⟩ : ∃ e, defE d y n = e := ⟨_, rfl⟩
  have HE := Lib.hid hen
  have HXS := Lib.hid hxs
  clear hen hxs
  have ch := Lib.hid (Below.refl w.heap.size w)
  go_enter Try.func15, Try.ntmps15
  go_wp2_with fail
  have hL0 := ProgsRow.lit (w := w) [.slice da dn dc, .slice ya yn yc, .slice na nn nc] [d, y, n] rfl (by simp) (fun j u l hu hl => match j, u, l, hu, hl with | 0, _, _, hu, hl => by cases hu; cases hl; exact hd.out | 1, _, _, hu, hl => by cases hu; cases hl; exact hy.out | 2, _, _, hu, hl => by cases hu; cases hl; exact hn.out)
  obtain ⟨w1, hW⟩ : ∃ B, w.alloc (.cells #[.slice da dn dc, .slice ya yn yc, .slice na nn nc] 25) = B := ⟨_, rfl⟩
  rw [hW]
  have hq : Below w.heap.size w w1 := by rw [← hW]; exact (Below.refl _ _).alloc (Nat.le_refl _) _
  have hL := Lib.hid (show ProgsRow w1 w1.heap.size (.slice (some ⟨w.heap.size, 0, none⟩) 3 3) [d, y, n] by rw [← hW]; exact hL0)
  clear hW hL0
  have hd := Lib.hid ((hd.out.below hq).mono hq.size)
  have hy := Lib.hid ((hy.out.below hq).mono hq.size)
  have hn := Lib.hid ((hn.out.below hq).mono hq.size)
  have ch := Lib.hid (ch.out.trans (hq.mono ch.out.size))
  clear hq
  refine (little_any x HXS.out _ _ (by simp) _ hL.out).mono ?_
  rintro e w2 ⟨b1, rfl, hlit, hq⟩
  have hd := Lib.hid ((hd.out.below hq).mono hq.size)
  have hy := Lib.hid ((hy.out.below hq).mono hq.size)
  have hn := Lib.hid ((hn.out.below hq).mono hq.size)
  have hL := Lib.hid ((hL.out.below hq).mono hq.size)
  have ch := Lib.hid (ch.out.trans (hq.mono ch.out.size))
  clear hq
  clear hL
  cases b1 with
  | false =>
    go_wp2_with fail
    refine (awake9_any _).mono ?_
    rintro e wz ⟨rfl, hqz⟩
    go_wp2
    go_ret
    exact ⟨rfl, ch.out.trans (hqz.mono ch.out.size)⟩
  | true =>
    have HLIT := Lib.hid (hlit.out rfl)
    clear hlit
    have HX := Lib.hid (str_tree x HLIT.out.2.2)
    have HXZ := Lib.hid (show (toTr x).size ≤ 20000 by have h1 := HX.out.1; have h2 := TS_size (toTr x); rw [h1] at h2; have := HLIT.out.2.1; omega)
    have HALL := Lib.hid HLIT.out.1
    have hrd := regN_le (validB_all (HALL.out d (by simp)))
    have hry := regN_le (validB_all (HALL.out y (by simp)))
    have hrn := regN_le (validB_all (HALL.out n (by simp)))
    have kd := Lib.hid (fun v w hl => refRegs_ok v d w hl (HALL.out d (by simp)))
    have ky := Lib.hid (fun v w hl => refRegs_ok v y w hl (HALL.out y (by simp)))
    have kn := Lib.hid (fun v w hl => refRegs_ok v n w hl (HALL.out n (by simp)))
    have HW := Lib.hid (show max (max (regN d) (regN y)) (regN n) = defW d y n from rfl)
    obtain ⟨D, hD0⟩ : ∃ D, regN d = D := ⟨_, rfl⟩
    obtain ⟨Y, hY0⟩ : ∃ D, regN y = D := ⟨_, rfl⟩
    obtain ⟨N, hN0⟩ : ∃ D, regN n = D := ⟨_, rfl⟩
    rw [hD0] at hrd kd HW
    rw [hY0] at hry ky HW
    rw [hN0] at hrn kn HW
    obtain ⟨W, hWW⟩ : ∃ W, max (max D Y) N = W := ⟨_, rfl⟩
    have hmx : ∀ (w : World) (ts : Array TypeId) (t : TypeId), (Builtin.max_ ts t #[.int .i64 D, .int .i64 Y, .int .i64 N]).run Try.prog w = .ok (.int .i64 W) w := by
      intro w ts t
      rw [Go.run_max_int3]
      congr 2
      split <;> split <;> omega
    rw [hWW] at HW
    have hW1 : (1 : Int) ≤ W ∧ (W : Int) ≤ 32 := by omega
    clear hWW hrd hry hrn hD0 hY0 hN0
    go_wp2_with fail
    refine (kd.out _ _ hd.out).mono ?_
    rintro e w3 ⟨rfl, hq⟩
    have hd := Lib.hid ((hd.out.below hq).mono hq.size)
    have hy := Lib.hid ((hy.out.below hq).mono hq.size)
    have hn := Lib.hid ((hn.out.below hq).mono hq.size)
    have ch := Lib.hid (ch.out.trans (hq.mono ch.out.size))
    clear hq
    go_wp2_with fail
    refine (ky.out _ _ hy.out).mono ?_
    rintro e w4 ⟨rfl, hq⟩
    have hd := Lib.hid ((hd.out.below hq).mono hq.size)
    have hy := Lib.hid ((hy.out.below hq).mono hq.size)
    have hn := Lib.hid ((hn.out.below hq).mono hq.size)
    have ch := Lib.hid (ch.out.trans (hq.mono ch.out.size))
    clear hq
    go_wp2_with fail
    refine (kn.out _ _ hn.out).mono ?_
    rintro e w5 ⟨rfl, hq⟩
    have hd := Lib.hid ((hd.out.below hq).mono hq.size)
    have hy := Lib.hid ((hy.out.below hq).mono hq.size)
    have hn := Lib.hid ((hn.out.below hq).mono hq.size)
    have ch := Lib.hid (ch.out.trans (hq.mono ch.out.size))
    clear hq
    go_wp2_with fail
    refine (defeat_due en _ _ _ d y n _ hd.out hy.out hn.out HE.out).mono ?_
    rintro e w6 ⟨vp, rfl, hP, hq⟩
    have hd := Lib.hid ((hd.out.below hq).mono hq.size)
    have hy := Lib.hid ((hy.out.below hq).mono hq.size)
    have hn := Lib.hid ((hn.out.below hq).mono hq.size)
    have ch := Lib.hid (ch.out.trans (hq.mono ch.out.size))
    clear hq
    clear hmx kd ky kn
    have hP := Lib.hid (hP.row (by have := defD_len d y n; omega))
    by_cases h0 : ¬ en = 0
    ·
      have herr := defE_err HALL.out (by rw [HE.out]; exact h0)
      rw [HE.out, ← HW.out] at herr
      rcases herr with ⟨hw, he8⟩ | ⟨hw, he8⟩
      ·
        have hw1 : (30 : Int) < W := by omega
        subst he8
        go_wp2_with fail
        refine (awake9_any _).mono ?_
        rintro e wz ⟨rfl, hqz⟩
        go_wp2
        go_ret
        exact ⟨rfl, ch.out.trans (hqz.mono ch.out.size)⟩
      ·
        have hw1 : ¬ (30 : Int) < W := by omega
        subst he8
        go_wp2_with fail
        refine (awake9_any _).mono ?_
        rintro e wz ⟨rfl, hqz⟩
        go_wp2
        go_ret
        exact ⟨rfl, ch.out.trans (hqz.mono ch.out.size)⟩
    have h0 : en = 0 := by omega
    subst h0
    have HZ := Lib.hid (defE_zero HE.out)
    have hW30 : (W : Int) ≤ 30 := by have h := HZ.out.2.1; rw [← HW.out] at h; omega
    have HK := Lib.hid (show validB (defD d y n) = true ∧ codeN (defD d y n) ≤ 2000000 by rw [HZ.out.2.2.2]; exact ⟨(knowE_facts HZ.out.2.2.1).2.2.1, (knowE_facts HZ.out.2.2.1).2.2.2⟩)
    have HCS := Lib.hid (show (codeT (defD d y n)).size ≤ 2000000 by rw [codeT_size HK.out.1]; exact HK.out.2)
    go_wp2_with fail
    refine (coded7_any _ _ _ hP.out HK.out.1 HK.out.2).mono ?_
    rintro e w7 ⟨cq, rfl, hC, hq⟩
    have hd := Lib.hid ((hd.out.below hq).mono hq.size)
    have hy := Lib.hid ((hy.out.below hq).mono hq.size)
    have hn := Lib.hid ((hn.out.below hq).mono hq.size)
    have hP := Lib.hid ((hP.out.below hq).mono hq.size)
    have ch := Lib.hid (ch.out.trans (hq.mono ch.out.size))
    clear hq
    have hC := Lib.hid hC
    go_wp2_with fail
    refine (read_str x HLIT.out.2.2 _).mono ?_
    rintro e w8 ⟨xq, rfl, hN, hq⟩
    have hC := Lib.hid (hC.out.kept (Kept.below hq))
    have hd := Lib.hid ((hd.out.below hq).mono hq.size)
    have hy := Lib.hid ((hy.out.below hq).mono hq.size)
    have hn := Lib.hid ((hn.out.below hq).mono hq.size)
    have hP := Lib.hid ((hP.out.below hq).mono hq.size)
    have ch := Lib.hid (ch.out.trans (hq.mono ch.out.size))
    clear hq
    have hN := Lib.hid hN
    obtain ⟨cz, hcz⟩ : ∃ z, (codeT (defD d y n)).size = z := ⟨_, rfl⟩
    obtain ⟨xz, hxz⟩ : ∃ z, (toTr x).size = z := ⟨_, rfl⟩
    have ks1 := Lib.hid (fun v w h => rnodeSize_any (codeT (defD d y n)) v w h)
    have ks2 := Lib.hid (fun v w h => rnodeSize_any (toTr x) v w h)
    rw [hcz] at ks1 HCS
    rw [hxz] at ks2 HXZ
    have hczI : (cz : Int) ≤ 2000000 := by have := HCS.out; omega
    have hxzI : (xz : Int) ≤ 20000 := by have := HXZ.out; omega
    have HPZ := Lib.hid (show (Tr.pair (codeT (defD d y n)) (toTr x)).size = 1 + cz + xz by rw [← hcz, ← hxz]; rfl)
    have HCZ := Lib.hid hcz
    have HXX := Lib.hid hxz
    clear hcz hxz
    go_wp2_with fail
    refine (ks1.out _ _ hC.out).mono ?_
    rintro e wq ⟨rfl, rfl⟩
    go_wp2_with fail
    refine (ks2.out _ _ hN.out).mono ?_
    rintro e wq ⟨rfl, rfl⟩
    by_cases hbig : (2000000 : Int) < 1 + cz + xz
    ·
      go_wp2_with fail
      refine (awake9_any _).mono ?_
      rintro e wz ⟨rfl, hqz⟩
      go_wp2
      go_ret
      exact ⟨rfl, ch.out.trans (hqz.mono ch.out.size)⟩
    have hda := Lib.hid (defeat_all HE.out (toTr x) (by rw [HPZ.out]; omega) 20000)
    have vD := Lib.hid (HALL.out d (by simp))
    have vY := Lib.hid (HALL.out y (by simp))
    have vN := Lib.hid (HALL.out n (by simp))
    have HCS2 := Lib.hid (show (codeT (defD d y n)).size ≤ 2000000 by rw [HCZ.out]; exact HCS.out)
    have HXS2 := Lib.hid (show (toTr x).size ≤ 2000000 by rw [HXX.out]; omega)
    cases hg : goF d 20000 0 (startS (codeT (defD d y n))) with
    | fuel s m =>
      have HG := Lib.hid hg
      clear hg
      go_wp2_with fail
      refine (load_any _ _ _ hd.out vD.out).mono ?_
      rintro e w9 ⟨gd, td, rfl, hM, hq⟩
      have hC := Lib.hid (hC.out.kept (Kept.below hq))
      have hN := Lib.hid (hN.out.kept (Kept.below hq))
      have hd := Lib.hid ((hd.out.below hq).mono hq.size)
      have hy := Lib.hid ((hy.out.below hq).mono hq.size)
      have hn := Lib.hid ((hn.out.below hq).mono hq.size)
      have hP := Lib.hid ((hP.out.below hq).mono hq.size)
      have ch := Lib.hid (ch.out.trans (hq.mono ch.out.size))
      clear hq
      have hM := Lib.hid hM
      go_wp2_with fail
      refine (rrun_fuel 20000 _ (by omega) (by omega) HG.out hM.out hC.out HCS2.out vD.out).mono ?_
      rintro e w10 ⟨ry, rfl, hY, hq⟩
      have hC := Lib.hid (hC.out.kept (Kept.below hq))
      have hN := Lib.hid (hN.out.kept (Kept.below hq))
      have hM := Lib.hid (mach_lift hM.out hq)
      have hd := Lib.hid ((hd.out.below hq).mono hq.size)
      have hy := Lib.hid ((hy.out.below hq).mono hq.size)
      have hn := Lib.hid ((hn.out.below hq).mono hq.size)
      have hP := Lib.hid ((hP.out.below hq).mono hq.size)
      have ch := Lib.hid (ch.out.trans (hq.mono ch.out.size))
      clear hq
      clear hY
      clear hM
      have hnone := hda.out.2 (fun s k h => by rw [HG.out] at h; cases h)
      rcases hnone with ⟨s2, hg2⟩ | hg2
      ·
        have HG2 := Lib.hid hg2
        clear hg2
        go_wp2_with fail
        refine (load_any _ _ _ hP.out HK.out.1).mono ?_
        rintro e w11 ⟨ge, te, rfl, hM, hq⟩
        have hC := Lib.hid (hC.out.kept (Kept.below hq))
        have hN := Lib.hid (hN.out.kept (Kept.below hq))
        have hd := Lib.hid ((hd.out.below hq).mono hq.size)
        have hy := Lib.hid ((hy.out.below hq).mono hq.size)
        have hn := Lib.hid ((hn.out.below hq).mono hq.size)
        have hP := Lib.hid ((hP.out.below hq).mono hq.size)
        have ch := Lib.hid (ch.out.trans (hq.mono ch.out.size))
        clear hq
        have hM := Lib.hid hM
        go_wp2_with fail
        refine (rrun_fuel 20000 _ (by omega) (by omega) HG2.out hM.out hN.out HXS2.out HK.out.1).mono ?_
        rintro e w12 ⟨rz, rfl, hZ, hq⟩
        have hC := Lib.hid (hC.out.kept (Kept.below hq))
        have hN := Lib.hid (hN.out.kept (Kept.below hq))
        have hM := Lib.hid (mach_lift hM.out hq)
        have hd := Lib.hid ((hd.out.below hq).mono hq.size)
        have hy := Lib.hid ((hy.out.below hq).mono hq.size)
        have hn := Lib.hid ((hn.out.below hq).mono hq.size)
        have hP := Lib.hid ((hP.out.below hq).mono hq.size)
        have ch := Lib.hid (ch.out.trans (hq.mono ch.out.size))
        clear hq
        go_wp2_with fail
        refine (awake9_any _).mono ?_
        rintro e wz ⟨rfl, hqz⟩
        go_wp2
        go_ret
        exact ⟨rfl, ch.out.trans (hqz.mono ch.out.size)⟩
      ·
        have HG2 := Lib.hid hg2
        clear hg2
        go_wp2_with fail
        refine (load_any _ _ _ hP.out HK.out.1).mono ?_
        rintro e w11 ⟨ge, te, rfl, hM, hq⟩
        have hC := Lib.hid (hC.out.kept (Kept.below hq))
        have hN := Lib.hid (hN.out.kept (Kept.below hq))
        have hd := Lib.hid ((hd.out.below hq).mono hq.size)
        have hy := Lib.hid ((hy.out.below hq).mono hq.size)
        have hn := Lib.hid ((hn.out.below hq).mono hq.size)
        have hP := Lib.hid ((hP.out.below hq).mono hq.size)
        have ch := Lib.hid (ch.out.trans (hq.mono ch.out.size))
        clear hq
        have hM := Lib.hid hM
        go_wp2_with fail
        refine (rrun_big 20000 _ (by omega) (by omega) HG2.out hM.out hN.out HXS2.out HK.out.1).mono ?_
        rintro e w12 ⟨rz, rfl, hZ, hq⟩
        have hC := Lib.hid (hC.out.kept (Kept.below hq))
        have hN := Lib.hid (hN.out.kept (Kept.below hq))
        have hM := Lib.hid (mach_lift hM.out hq)
        have hd := Lib.hid ((hd.out.below hq).mono hq.size)
        have hy := Lib.hid ((hy.out.below hq).mono hq.size)
        have hn := Lib.hid ((hn.out.below hq).mono hq.size)
        have hP := Lib.hid ((hP.out.below hq).mono hq.size)
        have ch := Lib.hid (ch.out.trans (hq.mono ch.out.size))
        clear hq
        go_wp2_with fail
        refine (awake9_any _).mono ?_
        rintro e wz ⟨rfl, hqz⟩
        go_wp2
        go_ret
        exact ⟨rfl, ch.out.trans (hqz.mono ch.out.size)⟩
    | big =>
      have HG := Lib.hid hg
      clear hg
      go_wp2_with fail
      refine (load_any _ _ _ hd.out vD.out).mono ?_
      rintro e w9 ⟨gd, td, rfl, hM, hq⟩
      have hC := Lib.hid (hC.out.kept (Kept.below hq))
      have hN := Lib.hid (hN.out.kept (Kept.below hq))
      have hd := Lib.hid ((hd.out.below hq).mono hq.size)
      have hy := Lib.hid ((hy.out.below hq).mono hq.size)
      have hn := Lib.hid ((hn.out.below hq).mono hq.size)
      have hP := Lib.hid ((hP.out.below hq).mono hq.size)
      have ch := Lib.hid (ch.out.trans (hq.mono ch.out.size))
      clear hq
      have hM := Lib.hid hM
      go_wp2_with fail
      refine (rrun_big 20000 _ (by omega) (by omega) HG.out hM.out hC.out HCS2.out vD.out).mono ?_
      rintro e w10 ⟨ry, rfl, hY, hq⟩
      have hC := Lib.hid (hC.out.kept (Kept.below hq))
      have hN := Lib.hid (hN.out.kept (Kept.below hq))
      have hM := Lib.hid (mach_lift hM.out hq)
      have hd := Lib.hid ((hd.out.below hq).mono hq.size)
      have hy := Lib.hid ((hy.out.below hq).mono hq.size)
      have hn := Lib.hid ((hn.out.below hq).mono hq.size)
      have hP := Lib.hid ((hP.out.below hq).mono hq.size)
      have ch := Lib.hid (ch.out.trans (hq.mono ch.out.size))
      clear hq
      clear hY
      clear hM
      have hnone := hda.out.2 (fun s k h => by rw [HG.out] at h; cases h)
      rcases hnone with ⟨s2, hg2⟩ | hg2
      ·
        have HG2 := Lib.hid hg2
        clear hg2
        go_wp2_with fail
        refine (load_any _ _ _ hP.out HK.out.1).mono ?_
        rintro e w11 ⟨ge, te, rfl, hM, hq⟩
        have hC := Lib.hid (hC.out.kept (Kept.below hq))
        have hN := Lib.hid (hN.out.kept (Kept.below hq))
        have hd := Lib.hid ((hd.out.below hq).mono hq.size)
        have hy := Lib.hid ((hy.out.below hq).mono hq.size)
        have hn := Lib.hid ((hn.out.below hq).mono hq.size)
        have hP := Lib.hid ((hP.out.below hq).mono hq.size)
        have ch := Lib.hid (ch.out.trans (hq.mono ch.out.size))
        clear hq
        have hM := Lib.hid hM
        go_wp2_with fail
        refine (rrun_fuel 20000 _ (by omega) (by omega) HG2.out hM.out hN.out HXS2.out HK.out.1).mono ?_
        rintro e w12 ⟨rz, rfl, hZ, hq⟩
        have hC := Lib.hid (hC.out.kept (Kept.below hq))
        have hN := Lib.hid (hN.out.kept (Kept.below hq))
        have hM := Lib.hid (mach_lift hM.out hq)
        have hd := Lib.hid ((hd.out.below hq).mono hq.size)
        have hy := Lib.hid ((hy.out.below hq).mono hq.size)
        have hn := Lib.hid ((hn.out.below hq).mono hq.size)
        have hP := Lib.hid ((hP.out.below hq).mono hq.size)
        have ch := Lib.hid (ch.out.trans (hq.mono ch.out.size))
        clear hq
        go_wp2_with fail
        refine (awake9_any _).mono ?_
        rintro e wz ⟨rfl, hqz⟩
        go_wp2
        go_ret
        exact ⟨rfl, ch.out.trans (hqz.mono ch.out.size)⟩
      ·
        have HG2 := Lib.hid hg2
        clear hg2
        go_wp2_with fail
        refine (load_any _ _ _ hP.out HK.out.1).mono ?_
        rintro e w11 ⟨ge, te, rfl, hM, hq⟩
        have hC := Lib.hid (hC.out.kept (Kept.below hq))
        have hN := Lib.hid (hN.out.kept (Kept.below hq))
        have hd := Lib.hid ((hd.out.below hq).mono hq.size)
        have hy := Lib.hid ((hy.out.below hq).mono hq.size)
        have hn := Lib.hid ((hn.out.below hq).mono hq.size)
        have hP := Lib.hid ((hP.out.below hq).mono hq.size)
        have ch := Lib.hid (ch.out.trans (hq.mono ch.out.size))
        clear hq
        have hM := Lib.hid hM
        go_wp2_with fail
        refine (rrun_big 20000 _ (by omega) (by omega) HG2.out hM.out hN.out HXS2.out HK.out.1).mono ?_
        rintro e w12 ⟨rz, rfl, hZ, hq⟩
        have hC := Lib.hid (hC.out.kept (Kept.below hq))
        have hN := Lib.hid (hN.out.kept (Kept.below hq))
        have hM := Lib.hid (mach_lift hM.out hq)
        have hd := Lib.hid ((hd.out.below hq).mono hq.size)
        have hy := Lib.hid ((hy.out.below hq).mono hq.size)
        have hn := Lib.hid ((hn.out.below hq).mono hq.size)
        have hP := Lib.hid ((hP.out.below hq).mono hq.size)
        have ch := Lib.hid (ch.out.trans (hq.mono ch.out.size))
        clear hq
        go_wp2_with fail
        refine (awake9_any _).mono ?_
        rintro e wz ⟨rfl, hqz⟩
        go_wp2
        go_ret
        exact ⟨rfl, ch.out.trans (hqz.mono ch.out.size)⟩
    | done s k =>
      have hk0 := done_le hg
      have hkI : (k : Int) ≤ 20000 := by omega
      have HK0 := Lib.hid hk0
      have hfol := Lib.hid (hda.out.1 s k hg)
      have HG := Lib.hid hg
      clear hg hk0
      go_wp2_with fail
      refine (load_any _ _ _ hd.out vD.out).mono ?_
      rintro e w9 ⟨gd, td, rfl, hM, hq⟩
      have hC := Lib.hid (hC.out.kept (Kept.below hq))
      have hN := Lib.hid (hN.out.kept (Kept.below hq))
      have hd := Lib.hid ((hd.out.below hq).mono hq.size)
      have hy := Lib.hid ((hy.out.below hq).mono hq.size)
      have hn := Lib.hid ((hn.out.below hq).mono hq.size)
      have hP := Lib.hid ((hP.out.below hq).mono hq.size)
      have ch := Lib.hid (ch.out.trans (hq.mono ch.out.size))
      clear hq
      have hM := Lib.hid hM
      go_wp2_with fail
      refine (rrun_done 20000 _ (by omega) (by omega) HG.out hM.out hC.out HCS2.out vD.out).mono ?_
      rintro e w10 ⟨ry, rfl, hY, hq⟩
      have hC := Lib.hid (hC.out.kept (Kept.below hq))
      have hN := Lib.hid (hN.out.kept (Kept.below hq))
      have hM := Lib.hid (mach_lift hM.out hq)
      have hd := Lib.hid ((hd.out.below hq).mono hq.size)
      have hy := Lib.hid ((hy.out.below hq).mono hq.size)
      have hn := Lib.hid ((hn.out.below hq).mono hq.size)
      have hP := Lib.hid ((hP.out.below hq).mono hq.size)
      have ch := Lib.hid (ch.out.trans (hq.mono ch.out.size))
      clear hq
      clear hM
      cases hr : getR s.regs 0 with
      | nil =>
        rw [hr] at hY
        obtain rfl := node_nil hY
        have hf := Lib.hid (hfol.out.2 hr)
        clear hr hY
        go_wp2_with fail
        refine (follows_at (k + defW d y n + 25) _ (by rw [← HW.out]; omega) (by have := HK0.out; rw [← HW.out]; omega) hP.out hy.out HK.out.1 vY.out hN.out hN.out HXS2.out HXS2.out hf.out).mono ?_
        rintro e w11 ⟨rfl, hq⟩
        have hC := Lib.hid (hC.out.kept (Kept.below hq))
        have hN := Lib.hid (hN.out.kept (Kept.below hq))
        have hd := Lib.hid ((hd.out.below hq).mono hq.size)
        have hy := Lib.hid ((hy.out.below hq).mono hq.size)
        have hn := Lib.hid ((hn.out.below hq).mono hq.size)
        have hP := Lib.hid ((hP.out.below hq).mono hq.size)
        have ch := Lib.hid (ch.out.trans (hq.mono ch.out.size))
        clear hq
        go_wp2_with fail
        refine (awake9_any _).mono ?_
        rintro e wz ⟨rfl, hqz⟩
        go_wp2
        go_ret
        exact ⟨rfl, ch.out.trans (hqz.mono ch.out.size)⟩
      | pair a c =>
        rw [hr] at hY
        obtain ⟨g3, x3, y3, hgo, -⟩ := hY.cells
        have hf := Lib.hid (hfol.out.1 (by rw [hr]; intro h; cases h))
        injection hgo with hgo
        subst hgo
        clear hr hY
        go_wp2_with fail
        refine (follows_at (k + defW d y n + 23) _ (by rw [← HW.out]; omega) (by have := HK0.out; rw [← HW.out]; omega) hP.out hn.out HK.out.1 vN.out hN.out hN.out HXS2.out HXS2.out hf.out).mono ?_
        rintro e w11 ⟨rfl, hq⟩
        have hC := Lib.hid (hC.out.kept (Kept.below hq))
        have hN := Lib.hid (hN.out.kept (Kept.below hq))
        have hd := Lib.hid ((hd.out.below hq).mono hq.size)
        have hy := Lib.hid ((hy.out.below hq).mono hq.size)
        have hn := Lib.hid ((hn.out.below hq).mono hq.size)
        have hP := Lib.hid ((hP.out.below hq).mono hq.size)
        have ch := Lib.hid (ch.out.trans (hq.mono ch.out.size))
        clear hq
        go_wp2_with fail
        refine (awake9_any _).mono ?_
        rintro e wz ⟨rfl, hqz⟩
        go_wp2
        go_ret
        exact ⟨rfl, ch.out.trans (hqz.mono ch.out.size)⟩
end Go.Proofs.Ytaiomcjopgnfpaa


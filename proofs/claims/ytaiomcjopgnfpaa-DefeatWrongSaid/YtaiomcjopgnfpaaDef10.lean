/- law09: DefeatWrong. -/
import Derived.Test.YtaiomcjopgnfpaaDef9
namespace Go.Proofs.Ytaiomcjopgnfpaa
open Go.RowKit

theorem equal_b (b : Bool) {t t' : Tr} {va vb : Value} {w : World} (h1 : NodeP 69 w t' va) (h2 : NodeP 69 w t vb) (hs : t.size ≤ 4000001) (hb : decide (t' = t) = b) :
    Calls Try.prog 57 #[va, vb] w fun e w' => e = .returned (.bool b) ∧ Below w.heap.size w w' := by
  have := equal_any t t' va vb w h1 h2 hs
  rwa [show decide (t = t') = b by rw [← hb]; exact decide_eq_decide.2 eq_comm] at this
set_option maxRecDepth 20000 in
set_option maxHeartbeats 16000000 in
theorem law_DefeatWrong {w : World} (vd : Value) (d : List Ins) (hhd : InsRow w w.heap.size vd d) (vy : Value) (y : List Ins) (hhy : InsRow w w.heap.size vy y) (vn : Value) (n : List Ins) (hhn : InsRow w w.heap.size vn n) (x : ByteArray) (hxs : x.size ≤ 140737488355328) (z : ByteArray) (hzs : z.size ≤ 140737488355328) :
    Calls Try.prog 18 #[vd, vy, vn, .string x, .string z] w fun e w' => e = .returned (.bool true) ∧ Below w.heap.size w w' := by
  obtain ⟨da, dc, rfl⟩ := hhd.len
  obtain ⟨dn, hdn⟩ : ∃ lz, d.length = lz := ⟨_, rfl⟩
  rw [hdn] at hhd ⊢
  have hd := Lib.hid hhd
  clear hhd hdn
  obtain ⟨ya, yc, rfl⟩ := hhy.len
  obtain ⟨yn, hyn⟩ : ∃ lz, y.length = lz := ⟨_, rfl⟩
  rw [hyn] at hhy ⊢
  have hy := Lib.hid hhy
  clear hhy hyn
  obtain ⟨na, nc, rfl⟩ := hhn.len
  obtain ⟨nn, hnn⟩ : ∃ lz, n.length = lz := ⟨_, rfl⟩
  rw [hnn] at hhn ⊢
  have hn := Lib.hid hhn
  clear hhn hnn
  obtain ⟨en, hen⟩ : ∃ e, defE d y n = e := ⟨_, rfl⟩
  have HE := Lib.hid hen
  have HXS := Lib.hid hxs
  have HZS := Lib.hid hzs
  have hzI : (z.size : Int) ≤ 140737488355328 := by omega
  obtain ⟨bz, hbz⟩ : ∃ b, isTree z = b := ⟨_, rfl⟩
  have HBZ := Lib.hid hbz
  clear hen hxs hzs hbz
  have ch := Lib.hid (Below.refl w.heap.size w)
  go_enter Try.func18, Try.ntmps18
  go_wp2_with fail
  have hL0 := ProgsRow.lit (w := w) [.slice da dn dc, .slice ya yn yc, .slice na nn nc] [d, y, n] rfl (by simp) (fun j u l hu hl => match j, u, l, hu, hl with | 0, _, _, hu, hl => by cases hu; cases hl; exact hd.out | 1, _, _, hu, hl => by cases hu; cases hl; exact hy.out | 2, _, _, hu, hl => by cases hu; cases hl; exact hn.out)
  obtain ⟨w1, hW⟩ : ∃ B, w.alloc (.cells #[.slice da dn dc, .slice ya yn yc, .slice na nn nc] 25) = B := ⟨_, rfl⟩
  rw [hW]
  have hq : Below w.heap.size w w1 := by rw [← hW]; exact (Below.refl _ _).alloc (Nat.le_refl _) _
  have hL := Lib.hid (show ProgsRow w1 w1.heap.size (.slice (some ⟨w.heap.size, 0, none⟩) 3 3) [d, y, n] by rw [← hW]; exact hL0)
  clear hW hL0
  have hd := Lib.hid ((hd.out.below hq).mono hq.size)
  have hy := Lib.hid ((hy.out.below hq).mono hq.size)
  have hn := Lib.hid ((hn.out.below hq).mono hq.size)
  have ch := Lib.hid (ch.out.trans (hq.mono ch.out.size))
  clear hq
  refine (little_any x HXS.out _ _ (by simp) _ hL.out).mono ?_
  rintro e w2 ⟨b1, rfl, hlit, hq⟩
  have hd := Lib.hid ((hd.out.below hq).mono hq.size)
  have hy := Lib.hid ((hy.out.below hq).mono hq.size)
  have hn := Lib.hid ((hn.out.below hq).mono hq.size)
  have hL := Lib.hid ((hL.out.below hq).mono hq.size)
  have ch := Lib.hid (ch.out.trans (hq.mono ch.out.size))
  clear hq
  clear hL
  cases b1 with
  | false =>
    go_wp2_with fail
    refine (awake9_any _).mono ?_
    rintro e wz ⟨rfl, hqz⟩
    go_wp2
    go_ret
    exact ⟨rfl, ch.out.trans (hqz.mono ch.out.size)⟩
  | true =>
    have HLIT := Lib.hid (hlit.out rfl)
    clear hlit
    have HX := Lib.hid (str_tree x HLIT.out.2.2)
    have HXZ := Lib.hid (show (toTr x).size ≤ 20000 by have h1 := HX.out.1; have h2 := TS_size (toTr x); rw [h1] at h2; have := HLIT.out.2.1; omega)
    have HXS2 := Lib.hid (show (toTr x).size ≤ 2000000 by have := HXZ.out; omega)
    have HALL := Lib.hid HLIT.out.1
    have vD := Lib.hid (HALL.out d (by simp))
    have vY := Lib.hid (HALL.out y (by simp))
    have vN := Lib.hid (HALL.out n (by simp))
    by_cases hz1 : (20000 : Int) < z.size
    ·
      go_wp2_with fail
      refine (awake9_any _).mono ?_
      rintro e wz ⟨rfl, hqz⟩
      go_wp2
      go_ret
      exact ⟨rfl, ch.out.trans (hqz.mono ch.out.size)⟩
    go_wp2_with fail
    refine (tvalid_at z HZS.out bz HBZ.out _).mono ?_
    rintro e w3 ⟨rfl, hq⟩
    have hd := Lib.hid ((hd.out.below hq).mono hq.size)
    have hy := Lib.hid ((hy.out.below hq).mono hq.size)
    have hn := Lib.hid ((hn.out.below hq).mono hq.size)
    have ch := Lib.hid (ch.out.trans (hq.mono ch.out.size))
    clear hq
    cases bz with
    | false =>
      go_wp2_with fail
      refine (awake9_any _).mono ?_
      rintro e wz ⟨rfl, hqz⟩
      go_wp2
      go_ret
      exact ⟨rfl, ch.out.trans (hqz.mono ch.out.size)⟩
    | true =>
      have HZ := Lib.hid (str_tree z HBZ.out)
      have HZZ := Lib.hid (show (toTr z).size ≤ 4000001 by have := HZ.out.2; omega)
      go_wp2_with fail
      refine (read_str x HLIT.out.2.2 _).mono ?_
      rintro e w4 ⟨xq, rfl, hN, hq⟩
      have hd := Lib.hid ((hd.out.below hq).mono hq.size)
      have hy := Lib.hid ((hy.out.below hq).mono hq.size)
      have hn := Lib.hid ((hn.out.below hq).mono hq.size)
      have ch := Lib.hid (ch.out.trans (hq.mono ch.out.size))
      clear hq
      have hN := Lib.hid hN
      go_wp2_with fail
      refine (read_str z HBZ.out _).mono ?_
      rintro e w5 ⟨zq, rfl, hO, hq⟩
      have hN := Lib.hid (hN.out.kept (Kept.below hq))
      have hd := Lib.hid ((hd.out.below hq).mono hq.size)
      have hy := Lib.hid ((hy.out.below hq).mono hq.size)
      have hn := Lib.hid ((hn.out.below hq).mono hq.size)
      have ch := Lib.hid (ch.out.trans (hq.mono ch.out.size))
      clear hq
      have hO := Lib.hid hO
      cases hgy : goF y 20000 0 (startS (toTr x)) with
      | fuel sy my =>
        cases hgn : goF n 20000 0 (startS (toTr x)) with
        | fuel sn mn =>
          have GY := Lib.hid hgy
          have GN := Lib.hid hgn
          clear hgy hgn
          go_wp2_with fail
          refine (load_any _ _ _ hy.out vY.out).mono ?_
          rintro e w6 ⟨gy, ty, rfl, hM, hq⟩
          have hN := Lib.hid (hN.out.kept (Kept.below hq))
          have hO := Lib.hid (hO.out.kept (Kept.below hq))
          have hd := Lib.hid ((hd.out.below hq).mono hq.size)
          have hy := Lib.hid ((hy.out.below hq).mono hq.size)
          have hn := Lib.hid ((hn.out.below hq).mono hq.size)
          have ch := Lib.hid (ch.out.trans (hq.mono ch.out.size))
          clear hq
          have hM := Lib.hid hM
          go_wp2_with fail
          refine (rrun_fuel 20000 _ (by omega) (by omega) GY.out hM.out hN.out HXS2.out vY.out).mono ?_
          rintro e w7 ⟨ry, rfl, hA, hq⟩
          have hN := Lib.hid (hN.out.kept (Kept.below hq))
          have hO := Lib.hid (hO.out.kept (Kept.below hq))
          have hM := Lib.hid (mach_lift hM.out hq)
          have hd := Lib.hid ((hd.out.below hq).mono hq.size)
          have hy := Lib.hid ((hy.out.below hq).mono hq.size)
          have hn := Lib.hid ((hn.out.below hq).mono hq.size)
          have ch := Lib.hid (ch.out.trans (hq.mono ch.out.size))
          clear hq
          clear hM
          have hA := Lib.hid hA
          go_wp2_with fail
          refine (load_any _ _ _ hn.out vN.out).mono ?_
          rintro e w8 ⟨gn, tn, rfl, hM, hq⟩
          have hN := Lib.hid (hN.out.kept (Kept.below hq))
          have hO := Lib.hid (hO.out.kept (Kept.below hq))
          have hA := Lib.hid (hA.out.kept (Kept.below hq))
          have hd := Lib.hid ((hd.out.below hq).mono hq.size)
          have hy := Lib.hid ((hy.out.below hq).mono hq.size)
          have hn := Lib.hid ((hn.out.below hq).mono hq.size)
          have ch := Lib.hid (ch.out.trans (hq.mono ch.out.size))
          clear hq
          have hM := Lib.hid hM
          go_wp2_with fail
          refine (rrun_fuel 20000 _ (by omega) (by omega) GN.out hM.out hN.out HXS2.out vN.out).mono ?_
          rintro e w9 ⟨rn, rfl, hB, hq⟩
          have hN := Lib.hid (hN.out.kept (Kept.below hq))
          have hO := Lib.hid (hO.out.kept (Kept.below hq))
          have hA := Lib.hid (hA.out.kept (Kept.below hq))
          have hM := Lib.hid (mach_lift hM.out hq)
          have hd := Lib.hid ((hd.out.below hq).mono hq.size)
          have hy := Lib.hid ((hy.out.below hq).mono hq.size)
          have hn := Lib.hid ((hn.out.below hq).mono hq.size)
          have ch := Lib.hid (ch.out.trans (hq.mono ch.out.size))
          clear hq
          clear hM
          have hB := Lib.hid hB
          go_wp2_with fail
          refine (awake9_any _).mono ?_
          rintro e wz ⟨rfl, hqz⟩
          go_wp2
          go_ret
          exact ⟨rfl, ch.out.trans (hqz.mono ch.out.size)⟩
        | big =>
          have GY := Lib.hid hgy
          have GN := Lib.hid hgn
          clear hgy hgn
          go_wp2_with fail
          refine (load_any _ _ _ hy.out vY.out).mono ?_
          rintro e w6 ⟨gy, ty, rfl, hM, hq⟩
          have hN := Lib.hid (hN.out.kept (Kept.below hq))
          have hO := Lib.hid (hO.out.kept (Kept.below hq))
          have hd := Lib.hid ((hd.out.below hq).mono hq.size)
          have hy := Lib.hid ((hy.out.below hq).mono hq.size)
          have hn := Lib.hid ((hn.out.below hq).mono hq.size)
          have ch := Lib.hid (ch.out.trans (hq.mono ch.out.size))
          clear hq
          have hM := Lib.hid hM
          go_wp2_with fail
          refine (rrun_fuel 20000 _ (by omega) (by omega) GY.out hM.out hN.out HXS2.out vY.out).mono ?_
          rintro e w7 ⟨ry, rfl, hA, hq⟩
          have hN := Lib.hid (hN.out.kept (Kept.below hq))
          have hO := Lib.hid (hO.out.kept (Kept.below hq))
          have hM := Lib.hid (mach_lift hM.out hq)
          have hd := Lib.hid ((hd.out.below hq).mono hq.size)
          have hy := Lib.hid ((hy.out.below hq).mono hq.size)
          have hn := Lib.hid ((hn.out.below hq).mono hq.size)
          have ch := Lib.hid (ch.out.trans (hq.mono ch.out.size))
          clear hq
          clear hM
          have hA := Lib.hid hA
          go_wp2_with fail
          refine (load_any _ _ _ hn.out vN.out).mono ?_
          rintro e w8 ⟨gn, tn, rfl, hM, hq⟩
          have hN := Lib.hid (hN.out.kept (Kept.below hq))
          have hO := Lib.hid (hO.out.kept (Kept.below hq))
          have hA := Lib.hid (hA.out.kept (Kept.below hq))
          have hd := Lib.hid ((hd.out.below hq).mono hq.size)
          have hy := Lib.hid ((hy.out.below hq).mono hq.size)
          have hn := Lib.hid ((hn.out.below hq).mono hq.size)
          have ch := Lib.hid (ch.out.trans (hq.mono ch.out.size))
          clear hq
          have hM := Lib.hid hM
          go_wp2_with fail
          refine (rrun_big 20000 _ (by omega) (by omega) GN.out hM.out hN.out HXS2.out vN.out).mono ?_
          rintro e w9 ⟨rn, rfl, hB, hq⟩
          have hN := Lib.hid (hN.out.kept (Kept.below hq))
          have hO := Lib.hid (hO.out.kept (Kept.below hq))
          have hA := Lib.hid (hA.out.kept (Kept.below hq))
          have hM := Lib.hid (mach_lift hM.out hq)
          have hd := Lib.hid ((hd.out.below hq).mono hq.size)
          have hy := Lib.hid ((hy.out.below hq).mono hq.size)
          have hn := Lib.hid ((hn.out.below hq).mono hq.size)
          have ch := Lib.hid (ch.out.trans (hq.mono ch.out.size))
          clear hq
          clear hM
          have hB := Lib.hid hB
          go_wp2_with fail
          refine (awake9_any _).mono ?_
          rintro e wz ⟨rfl, hqz⟩
          go_wp2
          go_ret
          exact ⟨rfl, ch.out.trans (hqz.mono ch.out.size)⟩
        | done sn mn =>
          have GY := Lib.hid hgy
          have GN := Lib.hid hgn
          have hmn := done_le hgn
          have hmnI : (mn : Int) ≤ 20000 := by omega
          clear hgy hgn hmn
          go_wp2_with fail
          refine (load_any _ _ _ hy.out vY.out).mono ?_
          rintro e w6 ⟨gy, ty, rfl, hM, hq⟩
          have hN := Lib.hid (hN.out.kept (Kept.below hq))
          have hO := Lib.hid (hO.out.kept (Kept.below hq))
          have hd := Lib.hid ((hd.out.below hq).mono hq.size)
          have hy := Lib.hid ((hy.out.below hq).mono hq.size)
          have hn := Lib.hid ((hn.out.below hq).mono hq.size)
          have ch := Lib.hid (ch.out.trans (hq.mono ch.out.size))
          clear hq
          have hM := Lib.hid hM
          go_wp2_with fail
          refine (rrun_fuel 20000 _ (by omega) (by omega) GY.out hM.out hN.out HXS2.out vY.out).mono ?_
          rintro e w7 ⟨ry, rfl, hA, hq⟩
          have hN := Lib.hid (hN.out.kept (Kept.below hq))
          have hO := Lib.hid (hO.out.kept (Kept.below hq))
          have hM := Lib.hid (mach_lift hM.out hq)
          have hd := Lib.hid ((hd.out.below hq).mono hq.size)
          have hy := Lib.hid ((hy.out.below hq).mono hq.size)
          have hn := Lib.hid ((hn.out.below hq).mono hq.size)
          have ch := Lib.hid (ch.out.trans (hq.mono ch.out.size))
          clear hq
          clear hM
          have hA := Lib.hid hA
          go_wp2_with fail
          refine (load_any _ _ _ hn.out vN.out).mono ?_
          rintro e w8 ⟨gn, tn, rfl, hM, hq⟩
          have hN := Lib.hid (hN.out.kept (Kept.below hq))
          have hO := Lib.hid (hO.out.kept (Kept.below hq))
          have hA := Lib.hid (hA.out.kept (Kept.below hq))
          have hd := Lib.hid ((hd.out.below hq).mono hq.size)
          have hy := Lib.hid ((hy.out.below hq).mono hq.size)
          have hn := Lib.hid ((hn.out.below hq).mono hq.size)
          have ch := Lib.hid (ch.out.trans (hq.mono ch.out.size))
          clear hq
          have hM := Lib.hid hM
          go_wp2_with fail
          refine (rrun_done 20000 _ (by omega) (by omega) GN.out hM.out hN.out HXS2.out vN.out).mono ?_
          rintro e w9 ⟨rn, rfl, hB, hq⟩
          have hN := Lib.hid (hN.out.kept (Kept.below hq))
          have hO := Lib.hid (hO.out.kept (Kept.below hq))
          have hA := Lib.hid (hA.out.kept (Kept.below hq))
          have hM := Lib.hid (mach_lift hM.out hq)
          have hd := Lib.hid ((hd.out.below hq).mono hq.size)
          have hy := Lib.hid ((hy.out.below hq).mono hq.size)
          have hn := Lib.hid ((hn.out.below hq).mono hq.size)
          have ch := Lib.hid (ch.out.trans (hq.mono ch.out.size))
          clear hq
          clear hM
          have hB := Lib.hid hB
          go_wp2_with fail
          refine (awake9_any _).mono ?_
          rintro e wz ⟨rfl, hqz⟩
          go_wp2
          go_ret
          exact ⟨rfl, ch.out.trans (hqz.mono ch.out.size)⟩
      | big =>
        cases hgn : goF n 20000 0 (startS (toTr x)) with
        | fuel sn mn =>
          have GY := Lib.hid hgy
          have GN := Lib.hid hgn
          clear hgy hgn
          go_wp2_with fail
          refine (load_any _ _ _ hy.out vY.out).mono ?_
          rintro e w6 ⟨gy, ty, rfl, hM, hq⟩
          have hN := Lib.hid (hN.out.kept (Kept.below hq))
          have hO := Lib.hid (hO.out.kept (Kept.below hq))
          have hd := Lib.hid ((hd.out.below hq).mono hq.size)
          have hy := Lib.hid ((hy.out.below hq).mono hq.size)
          have hn := Lib.hid ((hn.out.below hq).mono hq.size)
          have ch := Lib.hid (ch.out.trans (hq.mono ch.out.size))
          clear hq
          have hM := Lib.hid hM
          go_wp2_with fail
          refine (rrun_big 20000 _ (by omega) (by omega) GY.out hM.out hN.out HXS2.out vY.out).mono ?_
          rintro e w7 ⟨ry, rfl, hA, hq⟩
          have hN := Lib.hid (hN.out.kept (Kept.below hq))
          have hO := Lib.hid (hO.out.kept (Kept.below hq))
          have hM := Lib.hid (mach_lift hM.out hq)
          have hd := Lib.hid ((hd.out.below hq).mono hq.size)
          have hy := Lib.hid ((hy.out.below hq).mono hq.size)
          have hn := Lib.hid ((hn.out.below hq).mono hq.size)
          have ch := Lib.hid (ch.out.trans (hq.mono ch.out.size))
          clear hq
          clear hM
          have hA := Lib.hid hA
          go_wp2_with fail
          refine (load_any _ _ _ hn.out vN.out).mono ?_
          rintro e w8 ⟨gn, tn, rfl, hM, hq⟩
          have hN := Lib.hid (hN.out.kept (Kept.below hq))
          have hO := Lib.hid (hO.out.kept (Kept.below hq))
          have hA := Lib.hid (hA.out.kept (Kept.below hq))
          have hd := Lib.hid ((hd.out.below hq).mono hq.size)
          have hy := Lib.hid ((hy.out.below hq).mono hq.size)
          have hn := Lib.hid ((hn.out.below hq).mono hq.size)
          have ch := Lib.hid (ch.out.trans (hq.mono ch.out.size))
          clear hq
          have hM := Lib.hid hM
          go_wp2_with fail
          refine (rrun_fuel 20000 _ (by omega) (by omega) GN.out hM.out hN.out HXS2.out vN.out).mono ?_
          rintro e w9 ⟨rn, rfl, hB, hq⟩
          have hN := Lib.hid (hN.out.kept (Kept.below hq))
          have hO := Lib.hid (hO.out.kept (Kept.below hq))
          have hA := Lib.hid (hA.out.kept (Kept.below hq))
          have hM := Lib.hid (mach_lift hM.out hq)
          have hd := Lib.hid ((hd.out.below hq).mono hq.size)
          have hy := Lib.hid ((hy.out.below hq).mono hq.size)
          have hn := Lib.hid ((hn.out.below hq).mono hq.size)
          have ch := Lib.hid (ch.out.trans (hq.mono ch.out.size))
          clear hq
          clear hM
          have hB := Lib.hid hB
          go_wp2_with fail
          refine (awake9_any _).mono ?_
          rintro e wz ⟨rfl, hqz⟩
          go_wp2
          go_ret
          exact ⟨rfl, ch.out.trans (hqz.mono ch.out.size)⟩
        | big =>
          have GY := Lib.hid hgy
          have GN := Lib.hid hgn
          clear hgy hgn
          go_wp2_with fail
          refine (load_any _ _ _ hy.out vY.out).mono ?_
          rintro e w6 ⟨gy, ty, rfl, hM, hq⟩
          have hN := Lib.hid (hN.out.kept (Kept.below hq))
          have hO := Lib.hid (hO.out.kept (Kept.below hq))
          have hd := Lib.hid ((hd.out.below hq).mono hq.size)
          have hy := Lib.hid ((hy.out.below hq).mono hq.size)
          have hn := Lib.hid ((hn.out.below hq).mono hq.size)
          have ch := Lib.hid (ch.out.trans (hq.mono ch.out.size))
          clear hq
          have hM := Lib.hid hM
          go_wp2_with fail
          refine (rrun_big 20000 _ (by omega) (by omega) GY.out hM.out hN.out HXS2.out vY.out).mono ?_
          rintro e w7 ⟨ry, rfl, hA, hq⟩
          have hN := Lib.hid (hN.out.kept (Kept.below hq))
          have hO := Lib.hid (hO.out.kept (Kept.below hq))
          have hM := Lib.hid (mach_lift hM.out hq)
          have hd := Lib.hid ((hd.out.below hq).mono hq.size)
          have hy := Lib.hid ((hy.out.below hq).mono hq.size)
          have hn := Lib.hid ((hn.out.below hq).mono hq.size)
          have ch := Lib.hid (ch.out.trans (hq.mono ch.out.size))
          clear hq
          clear hM
          have hA := Lib.hid hA
          go_wp2_with fail
          refine (load_any _ _ _ hn.out vN.out).mono ?_
          rintro e w8 ⟨gn, tn, rfl, hM, hq⟩
          have hN := Lib.hid (hN.out.kept (Kept.below hq))
          have hO := Lib.hid (hO.out.kept (Kept.below hq))
          have hA := Lib.hid (hA.out.kept (Kept.below hq))
          have hd := Lib.hid ((hd.out.below hq).mono hq.size)
          have hy := Lib.hid ((hy.out.below hq).mono hq.size)
          have hn := Lib.hid ((hn.out.below hq).mono hq.size)
          have ch := Lib.hid (ch.out.trans (hq.mono ch.out.size))
          clear hq
          have hM := Lib.hid hM
          go_wp2_with fail
          refine (rrun_big 20000 _ (by omega) (by omega) GN.out hM.out hN.out HXS2.out vN.out).mono ?_
          rintro e w9 ⟨rn, rfl, hB, hq⟩
          have hN := Lib.hid (hN.out.kept (Kept.below hq))
          have hO := Lib.hid (hO.out.kept (Kept.below hq))
          have hA := Lib.hid (hA.out.kept (Kept.below hq))
          have hM := Lib.hid (mach_lift hM.out hq)
          have hd := Lib.hid ((hd.out.below hq).mono hq.size)
          have hy := Lib.hid ((hy.out.below hq).mono hq.size)
          have hn := Lib.hid ((hn.out.below hq).mono hq.size)
          have ch := Lib.hid (ch.out.trans (hq.mono ch.out.size))
          clear hq
          clear hM
          have hB := Lib.hid hB
          go_wp2_with fail
          refine (awake9_any _).mono ?_
          rintro e wz ⟨rfl, hqz⟩
          go_wp2
          go_ret
          exact ⟨rfl, ch.out.trans (hqz.mono ch.out.size)⟩
        | done sn mn =>
          have GY := Lib.hid hgy
          have GN := Lib.hid hgn
          have hmn := done_le hgn
          have hmnI : (mn : Int) ≤ 20000 := by omega
          clear hgy hgn hmn
          go_wp2_with fail
          refine (load_any _ _ _ hy.out vY.out).mono ?_
          rintro e w6 ⟨gy, ty, rfl, hM, hq⟩
          have hN := Lib.hid (hN.out.kept (Kept.below hq))
          have hO := Lib.hid (hO.out.kept (Kept.below hq))
          have hd := Lib.hid ((hd.out.below hq).mono hq.size)
          have hy := Lib.hid ((hy.out.below hq).mono hq.size)
          have hn := Lib.hid ((hn.out.below hq).mono hq.size)
          have ch := Lib.hid (ch.out.trans (hq.mono ch.out.size))
          clear hq
          have hM := Lib.hid hM
          go_wp2_with fail
          refine (rrun_big 20000 _ (by omega) (by omega) GY.out hM.out hN.out HXS2.out vY.out).mono ?_
          rintro e w7 ⟨ry, rfl, hA, hq⟩
          have hN := Lib.hid (hN.out.kept (Kept.below hq))
          have hO := Lib.hid (hO.out.kept (Kept.below hq))
          have hM := Lib.hid (mach_lift hM.out hq)
          have hd := Lib.hid ((hd.out.below hq).mono hq.size)
          have hy := Lib.hid ((hy.out.below hq).mono hq.size)
          have hn := Lib.hid ((hn.out.below hq).mono hq.size)
          have ch := Lib.hid (ch.out.trans (hq.mono ch.out.size))
          clear hq
          clear hM
          have hA := Lib.hid hA
          go_wp2_with fail
          refine (load_any _ _ _ hn.out vN.out).mono ?_
          rintro e w8 ⟨gn, tn, rfl, hM, hq⟩
          have hN := Lib.hid (hN.out.kept (Kept.below hq))
          have hO := Lib.hid (hO.out.kept (Kept.below hq))
          have hA := Lib.hid (hA.out.kept (Kept.below hq))
          have hd := Lib.hid ((hd.out.below hq).mono hq.size)
          have hy := Lib.hid ((hy.out.below hq).mono hq.size)
          have hn := Lib.hid ((hn.out.below hq).mono hq.size)
          have ch := Lib.hid (ch.out.trans (hq.mono ch.out.size))
          clear hq
          have hM := Lib.hid hM
          go_wp2_with fail
          refine (rrun_done 20000 _ (by omega) (by omega) GN.out hM.out hN.out HXS2.out vN.out).mono ?_
          rintro e w9 ⟨rn, rfl, hB, hq⟩
          have hN := Lib.hid (hN.out.kept (Kept.below hq))
          have hO := Lib.hid (hO.out.kept (Kept.below hq))
          have hA := Lib.hid (hA.out.kept (Kept.below hq))
          have hM := Lib.hid (mach_lift hM.out hq)
          have hd := Lib.hid ((hd.out.below hq).mono hq.size)
          have hy := Lib.hid ((hy.out.below hq).mono hq.size)
          have hn := Lib.hid ((hn.out.below hq).mono hq.size)
          have ch := Lib.hid (ch.out.trans (hq.mono ch.out.size))
          clear hq
          clear hM
          have hB := Lib.hid hB
          go_wp2_with fail
          refine (awake9_any _).mono ?_
          rintro e wz ⟨rfl, hqz⟩
          go_wp2
          go_ret
          exact ⟨rfl, ch.out.trans (hqz.mono ch.out.size)⟩
      | done sy my =>
        cases hgn : goF n 20000 0 (startS (toTr x)) with
        | fuel sn mn =>
          have GY := Lib.hid hgy
          have GN := Lib.hid hgn
          have hmy := done_le hgy
          have hmyI : (my : Int) ≤ 20000 := by omega
          clear hgy hgn hmy
          go_wp2_with fail
          refine (load_any _ _ _ hy.out vY.out).mono ?_
          rintro e w6 ⟨gy, ty, rfl, hM, hq⟩
          have hN := Lib.hid (hN.out.kept (Kept.below hq))
          have hO := Lib.hid (hO.out.kept (Kept.below hq))
          have hd := Lib.hid ((hd.out.below hq).mono hq.size)
          have hy := Lib.hid ((hy.out.below hq).mono hq.size)
          have hn := Lib.hid ((hn.out.below hq).mono hq.size)
          have ch := Lib.hid (ch.out.trans (hq.mono ch.out.size))
          clear hq
          have hM := Lib.hid hM
          go_wp2_with fail
          refine (rrun_done 20000 _ (by omega) (by omega) GY.out hM.out hN.out HXS2.out vY.out).mono ?_
          rintro e w7 ⟨ry, rfl, hA, hq⟩
          have hN := Lib.hid (hN.out.kept (Kept.below hq))
          have hO := Lib.hid (hO.out.kept (Kept.below hq))
          have hM := Lib.hid (mach_lift hM.out hq)
          have hd := Lib.hid ((hd.out.below hq).mono hq.size)
          have hy := Lib.hid ((hy.out.below hq).mono hq.size)
          have hn := Lib.hid ((hn.out.below hq).mono hq.size)
          have ch := Lib.hid (ch.out.trans (hq.mono ch.out.size))
          clear hq
          clear hM
          have hA := Lib.hid hA
          go_wp2_with fail
          refine (load_any _ _ _ hn.out vN.out).mono ?_
          rintro e w8 ⟨gn, tn, rfl, hM, hq⟩
          have hN := Lib.hid (hN.out.kept (Kept.below hq))
          have hO := Lib.hid (hO.out.kept (Kept.below hq))
          have hA := Lib.hid (hA.out.kept (Kept.below hq))
          have hd := Lib.hid ((hd.out.below hq).mono hq.size)
          have hy := Lib.hid ((hy.out.below hq).mono hq.size)
          have hn := Lib.hid ((hn.out.below hq).mono hq.size)
          have ch := Lib.hid (ch.out.trans (hq.mono ch.out.size))
          clear hq
          have hM := Lib.hid hM
          go_wp2_with fail
          refine (rrun_fuel 20000 _ (by omega) (by omega) GN.out hM.out hN.out HXS2.out vN.out).mono ?_
          rintro e w9 ⟨rn, rfl, hB, hq⟩
          have hN := Lib.hid (hN.out.kept (Kept.below hq))
          have hO := Lib.hid (hO.out.kept (Kept.below hq))
          have hA := Lib.hid (hA.out.kept (Kept.below hq))
          have hM := Lib.hid (mach_lift hM.out hq)
          have hd := Lib.hid ((hd.out.below hq).mono hq.size)
          have hy := Lib.hid ((hy.out.below hq).mono hq.size)
          have hn := Lib.hid ((hn.out.below hq).mono hq.size)
          have ch := Lib.hid (ch.out.trans (hq.mono ch.out.size))
          clear hq
          clear hM
          have hB := Lib.hid hB
          go_wp2_with fail
          refine (awake9_any _).mono ?_
          rintro e wz ⟨rfl, hqz⟩
          go_wp2
          go_ret
          exact ⟨rfl, ch.out.trans (hqz.mono ch.out.size)⟩
        | big =>
          have GY := Lib.hid hgy
          have GN := Lib.hid hgn
          have hmy := done_le hgy
          have hmyI : (my : Int) ≤ 20000 := by omega
          clear hgy hgn hmy
          go_wp2_with fail
          refine (load_any _ _ _ hy.out vY.out).mono ?_
          rintro e w6 ⟨gy, ty, rfl, hM, hq⟩
          have hN := Lib.hid (hN.out.kept (Kept.below hq))
          have hO := Lib.hid (hO.out.kept (Kept.below hq))
          have hd := Lib.hid ((hd.out.below hq).mono hq.size)
          have hy := Lib.hid ((hy.out.below hq).mono hq.size)
          have hn := Lib.hid ((hn.out.below hq).mono hq.size)
          have ch := Lib.hid (ch.out.trans (hq.mono ch.out.size))
          clear hq
          have hM := Lib.hid hM
          go_wp2_with fail
          refine (rrun_done 20000 _ (by omega) (by omega) GY.out hM.out hN.out HXS2.out vY.out).mono ?_
          rintro e w7 ⟨ry, rfl, hA, hq⟩
          have hN := Lib.hid (hN.out.kept (Kept.below hq))
          have hO := Lib.hid (hO.out.kept (Kept.below hq))
          have hM := Lib.hid (mach_lift hM.out hq)
          have hd := Lib.hid ((hd.out.below hq).mono hq.size)
          have hy := Lib.hid ((hy.out.below hq).mono hq.size)
          have hn := Lib.hid ((hn.out.below hq).mono hq.size)
          have ch := Lib.hid (ch.out.trans (hq.mono ch.out.size))
          clear hq
          clear hM
          have hA := Lib.hid hA
          go_wp2_with fail
          refine (load_any _ _ _ hn.out vN.out).mono ?_
          rintro e w8 ⟨gn, tn, rfl, hM, hq⟩
          have hN := Lib.hid (hN.out.kept (Kept.below hq))
          have hO := Lib.hid (hO.out.kept (Kept.below hq))
          have hA := Lib.hid (hA.out.kept (Kept.below hq))
          have hd := Lib.hid ((hd.out.below hq).mono hq.size)
          have hy := Lib.hid ((hy.out.below hq).mono hq.size)
          have hn := Lib.hid ((hn.out.below hq).mono hq.size)
          have ch := Lib.hid (ch.out.trans (hq.mono ch.out.size))
          clear hq
          have hM := Lib.hid hM
          go_wp2_with fail
          refine (rrun_big 20000 _ (by omega) (by omega) GN.out hM.out hN.out HXS2.out vN.out).mono ?_
          rintro e w9 ⟨rn, rfl, hB, hq⟩
          have hN := Lib.hid (hN.out.kept (Kept.below hq))
          have hO := Lib.hid (hO.out.kept (Kept.below hq))
          have hA := Lib.hid (hA.out.kept (Kept.below hq))
          have hM := Lib.hid (mach_lift hM.out hq)
          have hd := Lib.hid ((hd.out.below hq).mono hq.size)
          have hy := Lib.hid ((hy.out.below hq).mono hq.size)
          have hn := Lib.hid ((hn.out.below hq).mono hq.size)
          have ch := Lib.hid (ch.out.trans (hq.mono ch.out.size))
          clear hq
          clear hM
          have hB := Lib.hid hB
          go_wp2_with fail
          refine (awake9_any _).mono ?_
          rintro e wz ⟨rfl, hqz⟩
          go_wp2
          go_ret
          exact ⟨rfl, ch.out.trans (hqz.mono ch.out.size)⟩
        | done sn mn =>
          have GY := Lib.hid hgy
          have GN := Lib.hid hgn
          have hmy := done_le hgy
          have hmyI : (my : Int) ≤ 20000 := by omega
          have hmn := done_le hgn
          have hmnI : (mn : Int) ≤ 20000 := by omega
          clear hgy hgn hmy hmn
          go_wp2_with fail
          refine (load_any _ _ _ hy.out vY.out).mono ?_
          rintro e w6 ⟨gy, ty, rfl, hM, hq⟩
          have hN := Lib.hid (hN.out.kept (Kept.below hq))
          have hO := Lib.hid (hO.out.kept (Kept.below hq))
          have hd := Lib.hid ((hd.out.below hq).mono hq.size)
          have hy := Lib.hid ((hy.out.below hq).mono hq.size)
          have hn := Lib.hid ((hn.out.below hq).mono hq.size)
          have ch := Lib.hid (ch.out.trans (hq.mono ch.out.size))
          clear hq
          have hM := Lib.hid hM
          go_wp2_with fail
          refine (rrun_done 20000 _ (by omega) (by omega) GY.out hM.out hN.out HXS2.out vY.out).mono ?_
          rintro e w7 ⟨ry, rfl, hA, hq⟩
          have hN := Lib.hid (hN.out.kept (Kept.below hq))
          have hO := Lib.hid (hO.out.kept (Kept.below hq))
          have hM := Lib.hid (mach_lift hM.out hq)
          have hd := Lib.hid ((hd.out.below hq).mono hq.size)
          have hy := Lib.hid ((hy.out.below hq).mono hq.size)
          have hn := Lib.hid ((hn.out.below hq).mono hq.size)
          have ch := Lib.hid (ch.out.trans (hq.mono ch.out.size))
          clear hq
          clear hM
          have hA := Lib.hid hA
          go_wp2_with fail
          refine (load_any _ _ _ hn.out vN.out).mono ?_
          rintro e w8 ⟨gn, tn, rfl, hM, hq⟩
          have hN := Lib.hid (hN.out.kept (Kept.below hq))
          have hO := Lib.hid (hO.out.kept (Kept.below hq))
          have hA := Lib.hid (hA.out.kept (Kept.below hq))
          have hd := Lib.hid ((hd.out.below hq).mono hq.size)
          have hy := Lib.hid ((hy.out.below hq).mono hq.size)
          have hn := Lib.hid ((hn.out.below hq).mono hq.size)
          have ch := Lib.hid (ch.out.trans (hq.mono ch.out.size))
          clear hq
          have hM := Lib.hid hM
          go_wp2_with fail
          refine (rrun_done 20000 _ (by omega) (by omega) GN.out hM.out hN.out HXS2.out vN.out).mono ?_
          rintro e w9 ⟨rn, rfl, hB, hq⟩
          have hN := Lib.hid (hN.out.kept (Kept.below hq))
          have hO := Lib.hid (hO.out.kept (Kept.below hq))
          have hA := Lib.hid (hA.out.kept (Kept.below hq))
          have hM := Lib.hid (mach_lift hM.out hq)
          have hd := Lib.hid ((hd.out.below hq).mono hq.size)
          have hy := Lib.hid ((hy.out.below hq).mono hq.size)
          have hn := Lib.hid ((hn.out.below hq).mono hq.size)
          have ch := Lib.hid (ch.out.trans (hq.mono ch.out.size))
          clear hq
          clear hM
          have hB := Lib.hid hB
          obtain ⟨ba, hba⟩ : ∃ b, decide (getR sy.regs 0 = toTr z) = b := ⟨_, rfl⟩
          have HBA := Lib.hid hba
          obtain ⟨bb, hbb⟩ : ∃ b, decide (getR sn.regs 0 = toTr z) = b := ⟨_, rfl⟩
          have HBB := Lib.hid hbb
          clear hba hbb
          go_wp2_with fail
          refine (equal_b ba hA.out hO.out HZZ.out HBA.out).mono ?_
          rintro e w10 ⟨rfl, hq⟩
          have hN := Lib.hid (hN.out.kept (Kept.below hq))
          have hO := Lib.hid (hO.out.kept (Kept.below hq))
          have hA := Lib.hid (hA.out.kept (Kept.below hq))
          have hB := Lib.hid (hB.out.kept (Kept.below hq))
          have hd := Lib.hid ((hd.out.below hq).mono hq.size)
          have hy := Lib.hid ((hy.out.below hq).mono hq.size)
          have hn := Lib.hid ((hn.out.below hq).mono hq.size)
          have ch := Lib.hid (ch.out.trans (hq.mono ch.out.size))
          clear hq
          cases ba with
          | false =>
            go_wp2_with fail
            refine (awake9_any _).mono ?_
            rintro e wz ⟨rfl, hqz⟩
            go_wp2
            go_ret
            exact ⟨rfl, ch.out.trans (hqz.mono ch.out.size)⟩
          | true =>
            go_wp2_with fail
            refine (equal_b bb hB.out hO.out HZZ.out HBB.out).mono ?_
            rintro e w11 ⟨rfl, hq⟩
            have hN := Lib.hid (hN.out.kept (Kept.below hq))
            have hO := Lib.hid (hO.out.kept (Kept.below hq))
            have hA := Lib.hid (hA.out.kept (Kept.below hq))
            have hB := Lib.hid (hB.out.kept (Kept.below hq))
            have hd := Lib.hid ((hd.out.below hq).mono hq.size)
            have hy := Lib.hid ((hy.out.below hq).mono hq.size)
            have hn := Lib.hid ((hn.out.below hq).mono hq.size)
            have ch := Lib.hid (ch.out.trans (hq.mono ch.out.size))
            clear hq
            cases bb with
            | true =>
              go_wp2_with fail
              refine (awake9_any _).mono ?_
              rintro e wz ⟨rfl, hqz⟩
              go_wp2
              go_ret
              exact ⟨rfl, ch.out.trans (hqz.mono ch.out.size)⟩
            | false =>
              clear hA hB
              go_wp2_with fail
              refine (defeat_due en _ _ _ d y n _ hd.out hy.out hn.out HE.out).mono ?_
              rintro e w12 ⟨vp, rfl, hP, hq⟩
              have hN := Lib.hid (hN.out.kept (Kept.below hq))
              have hO := Lib.hid (hO.out.kept (Kept.below hq))
              have hd := Lib.hid ((hd.out.below hq).mono hq.size)
              have hy := Lib.hid ((hy.out.below hq).mono hq.size)
              have hn := Lib.hid ((hn.out.below hq).mono hq.size)
              have ch := Lib.hid (ch.out.trans (hq.mono ch.out.size))
              clear hq
              have hP := Lib.hid (hP.row (by have := defD_len d y n; omega))
              by_cases h0 : ¬ en = 0
              ·
                have herr := defE_err HALL.out (by rw [HE.out]; exact h0)
                rw [HE.out] at herr
                rcases herr with ⟨hw, he8⟩ | ⟨hw, he8⟩
                ·
                  clear hw
                  subst he8
                  go_wp2_with fail
                  refine (awake9_any _).mono ?_
                  rintro e wz ⟨rfl, hqz⟩
                  go_wp2
                  go_ret
                  exact ⟨rfl, ch.out.trans (hqz.mono ch.out.size)⟩
                ·
                  clear hw
                  subst he8
                  go_wp2_with fail
                  refine (awake9_any _).mono ?_
                  rintro e wz ⟨rfl, hqz⟩
                  go_wp2
                  go_ret
                  exact ⟨rfl, ch.out.trans (hqz.mono ch.out.size)⟩
              have h0 : en = 0 := by omega
              subst h0
              have HZ0 := Lib.hid (defE_zero HE.out)
              have HK := Lib.hid (show validB (defD d y n) = true ∧ codeN (defD d y n) ≤ 2000000 by rw [HZ0.out.2.2.2]; exact ⟨(knowE_facts HZ0.out.2.2.1).2.2.1, (knowE_facts HZ0.out.2.2.1).2.2.2⟩)
              have HCS := Lib.hid (show (codeT (defD d y n)).size ≤ 2000000 by rw [codeT_size HK.out.1]; exact HK.out.2)
              obtain ⟨cz, hcz⟩ : ∃ z, (codeT (defD d y n)).size = z := ⟨_, rfl⟩
              obtain ⟨xz, hxz⟩ : ∃ z, (toTr x).size = z := ⟨_, rfl⟩
              have ks1 := Lib.hid (fun v w h => rnodeSize_any (codeT (defD d y n)) v w h)
              have ks2 := Lib.hid (fun v w h => rnodeSize_any (toTr x) v w h)
              rw [hcz] at ks1 HCS
              rw [hxz] at ks2 HXZ
              have hczI : (cz : Int) ≤ 2000000 := by have := HCS.out; omega
              have hxzI : (xz : Int) ≤ 20000 := by have := HXZ.out; omega
              have HPZ := Lib.hid (show (Tr.pair (codeT (defD d y n)) (toTr x)).size = 1 + cz + xz by rw [← hcz, ← hxz]; rfl)
              clear hcz hxz
              cases hg : goF d 20000 0 (startS (codeT (defD d y n))) with
              | fuel s m =>
                have HG := Lib.hid hg
                clear hg
                go_wp2_with fail
                refine (says_ok _ _ d (defD d y n) 20000 hd.out hP.out vD.out HK.out.1 (by omega) HK.out.2 false 0 7 (by rw [HG.out]; rfl)).mono ?_
                rintro e w13 ⟨rfl, hq⟩
                have hN := Lib.hid (hN.out.kept (Kept.below hq))
                have hO := Lib.hid (hO.out.kept (Kept.below hq))
                have hd := Lib.hid ((hd.out.below hq).mono hq.size)
                have hy := Lib.hid ((hy.out.below hq).mono hq.size)
                have hn := Lib.hid ((hn.out.below hq).mono hq.size)
                have hP := Lib.hid ((hP.out.below hq).mono hq.size)
                have ch := Lib.hid (ch.out.trans (hq.mono ch.out.size))
                clear hq
                go_wp2_with fail
                refine (coded7_any _ _ _ hP.out HK.out.1 HK.out.2).mono ?_
                rintro e w14 ⟨cq, rfl, hC, hq⟩
                have hN := Lib.hid (hN.out.kept (Kept.below hq))
                have hO := Lib.hid (hO.out.kept (Kept.below hq))
                have hd := Lib.hid ((hd.out.below hq).mono hq.size)
                have hy := Lib.hid ((hy.out.below hq).mono hq.size)
                have hn := Lib.hid ((hn.out.below hq).mono hq.size)
                have hP := Lib.hid ((hP.out.below hq).mono hq.size)
                have ch := Lib.hid (ch.out.trans (hq.mono ch.out.size))
                clear hq
                have hC := Lib.hid hC
                go_wp2_with fail
                refine (awake9_any _).mono ?_
                rintro e wz ⟨rfl, hqz⟩
                go_wp2
                go_ret
                exact ⟨rfl, ch.out.trans (hqz.mono ch.out.size)⟩
              | big =>
                have HG := Lib.hid hg
                clear hg
                go_wp2_with fail
                refine (says_ok _ _ d (defD d y n) 20000 hd.out hP.out vD.out HK.out.1 (by omega) HK.out.2 false 0 3 (by rw [HG.out]; rfl)).mono ?_
                rintro e w13 ⟨rfl, hq⟩
                have hN := Lib.hid (hN.out.kept (Kept.below hq))
                have hO := Lib.hid (hO.out.kept (Kept.below hq))
                have hd := Lib.hid ((hd.out.below hq).mono hq.size)
                have hy := Lib.hid ((hy.out.below hq).mono hq.size)
                have hn := Lib.hid ((hn.out.below hq).mono hq.size)
                have hP := Lib.hid ((hP.out.below hq).mono hq.size)
                have ch := Lib.hid (ch.out.trans (hq.mono ch.out.size))
                clear hq
                go_wp2_with fail
                refine (coded7_any _ _ _ hP.out HK.out.1 HK.out.2).mono ?_
                rintro e w14 ⟨cq, rfl, hC, hq⟩
                have hN := Lib.hid (hN.out.kept (Kept.below hq))
                have hO := Lib.hid (hO.out.kept (Kept.below hq))
                have hd := Lib.hid ((hd.out.below hq).mono hq.size)
                have hy := Lib.hid ((hy.out.below hq).mono hq.size)
                have hn := Lib.hid ((hn.out.below hq).mono hq.size)
                have hP := Lib.hid ((hP.out.below hq).mono hq.size)
                have ch := Lib.hid (ch.out.trans (hq.mono ch.out.size))
                clear hq
                have hC := Lib.hid hC
                go_wp2_with fail
                refine (awake9_any _).mono ?_
                rintro e wz ⟨rfl, hqz⟩
                go_wp2
                go_ret
                exact ⟨rfl, ch.out.trans (hqz.mono ch.out.size)⟩
              | done s k =>
                have hk0 := done_le hg
                have hkI : (k : Int) ≤ 20000 := by omega
                have HK0 := Lib.hid hk0
                have HG := Lib.hid hg
                clear hg hk0
                cases ht : getR s.regs 0 with
                | nil =>
                  have HT := Lib.hid ht
                  clear ht
                  go_wp2_with fail
                  refine (says_ok _ _ d (defD d y n) 20000 hd.out hP.out vD.out HK.out.1 (by omega) HK.out.2 false k 0 (by rw [HG.out]; simp [saysB, HT.out])).mono ?_
                  rintro e w13 ⟨rfl, hq⟩
                  have hN := Lib.hid (hN.out.kept (Kept.below hq))
                  have hO := Lib.hid (hO.out.kept (Kept.below hq))
                  have hd := Lib.hid ((hd.out.below hq).mono hq.size)
                  have hy := Lib.hid ((hy.out.below hq).mono hq.size)
                  have hn := Lib.hid ((hn.out.below hq).mono hq.size)
                  have hP := Lib.hid ((hP.out.below hq).mono hq.size)
                  have ch := Lib.hid (ch.out.trans (hq.mono ch.out.size))
                  clear hq
                  go_wp2_with fail
                  refine (coded7_any _ _ _ hP.out HK.out.1 HK.out.2).mono ?_
                  rintro e w14 ⟨cq, rfl, hC, hq⟩
                  have hN := Lib.hid (hN.out.kept (Kept.below hq))
                  have hO := Lib.hid (hO.out.kept (Kept.below hq))
                  have hd := Lib.hid ((hd.out.below hq).mono hq.size)
                  have hy := Lib.hid ((hy.out.below hq).mono hq.size)
                  have hn := Lib.hid ((hn.out.below hq).mono hq.size)
                  have hP := Lib.hid ((hP.out.below hq).mono hq.size)
                  have ch := Lib.hid (ch.out.trans (hq.mono ch.out.size))
                  clear hq
                  have hC := Lib.hid hC
                  go_wp2_with fail
                  refine (ks1.out _ _ hC.out).mono ?_
                  rintro e wq ⟨rfl, rfl⟩
                  go_wp2_with fail
                  refine (ks2.out _ _ hN.out).mono ?_
                  rintro e wq ⟨rfl, rfl⟩
                  by_cases hbig : (2000000 : Int) < 1 + cz + xz
                  ·
                    go_wp2_with fail
                    refine (awake9_any _).mono ?_
                    rintro e wz ⟨rfl, hqz⟩
                    go_wp2
                    go_ret
                    exact ⟨rfl, ch.out.trans (hqz.mono ch.out.size)⟩
                  have hfol := ((defeat_all HE.out (toTr x) (by rw [HPZ.out]; omega) 20000).1 s k HG.out).2 HT.out
                  have hW30 := HZ0.out.2.1
                  obtain ⟨s9, g9, r9⟩ := follow_done hfol GY.out (20100 - defW d y n - 25) (by omega)
                  have HG9 := Lib.hid g9
                  have HR9 := Lib.hid r9
                  have HW30 := Lib.hid hW30
                  clear hfol g9 r9 hW30
                  go_wp2_with fail
                  refine (load_any _ _ _ hP.out HK.out.1).mono ?_
                  rintro e w15 ⟨ge, te, rfl, hM, hq⟩
                  have hN := Lib.hid (hN.out.kept (Kept.below hq))
                  have hO := Lib.hid (hO.out.kept (Kept.below hq))
                  have hC := Lib.hid (hC.out.kept (Kept.below hq))
                  have hd := Lib.hid ((hd.out.below hq).mono hq.size)
                  have hy := Lib.hid ((hy.out.below hq).mono hq.size)
                  have hn := Lib.hid ((hn.out.below hq).mono hq.size)
                  have hP := Lib.hid ((hP.out.below hq).mono hq.size)
                  have ch := Lib.hid (ch.out.trans (hq.mono ch.out.size))
                  clear hq
                  have hM := Lib.hid hM
                  go_wp2_with fail
                  refine (rrun_done _ _ (by have := HW30.out; omega) (by have := HW30.out; have := HK0.out; omega) HG9.out hM.out hN.out HXS2.out HK.out.1).mono ?_
                  rintro e w16 ⟨rz, rfl, hZ, hq⟩
                  have hN := Lib.hid (hN.out.kept (Kept.below hq))
                  have hO := Lib.hid (hO.out.kept (Kept.below hq))
                  have hC := Lib.hid (hC.out.kept (Kept.below hq))
                  have hM := Lib.hid (mach_lift hM.out hq)
                  have hd := Lib.hid ((hd.out.below hq).mono hq.size)
                  have hy := Lib.hid ((hy.out.below hq).mono hq.size)
                  have hn := Lib.hid ((hn.out.below hq).mono hq.size)
                  have hP := Lib.hid ((hP.out.below hq).mono hq.size)
                  have ch := Lib.hid (ch.out.trans (hq.mono ch.out.size))
                  clear hq
                  clear hM
                  have hZ := Lib.hid hZ
                  have hZ := Lib.hid (show NodeP 69 _ (getR sy.regs 0) _ by rw [← HR9.out]; exact hZ.out)
                  go_wp2_with fail
                  refine (equal_b true hZ.out hO.out HZZ.out HBA.out).mono ?_
                  rintro e w17 ⟨rfl, hq⟩
                  have hN := Lib.hid (hN.out.kept (Kept.below hq))
                  have hO := Lib.hid (hO.out.kept (Kept.below hq))
                  have hC := Lib.hid (hC.out.kept (Kept.below hq))
                  have hZ := Lib.hid (hZ.out.kept (Kept.below hq))
                  have hd := Lib.hid ((hd.out.below hq).mono hq.size)
                  have hy := Lib.hid ((hy.out.below hq).mono hq.size)
                  have hn := Lib.hid ((hn.out.below hq).mono hq.size)
                  have hP := Lib.hid ((hP.out.below hq).mono hq.size)
                  have ch := Lib.hid (ch.out.trans (hq.mono ch.out.size))
                  clear hq
                  go_wp2_with fail
                  refine (awake9_any _).mono ?_
                  rintro e wz ⟨rfl, hqz⟩
                  go_wp2
                  go_ret
                  exact ⟨rfl, ch.out.trans (hqz.mono ch.out.size)⟩
                | pair a c =>
                  have HT := Lib.hid ht
                  clear ht
                  go_wp2_with fail
                  refine (says_ok _ _ d (defD d y n) 20000 hd.out hP.out vD.out HK.out.1 (by omega) HK.out.2 true k 0 (by rw [HG.out]; simp [saysB, HT.out])).mono ?_
                  rintro e w13 ⟨rfl, hq⟩
                  have hN := Lib.hid (hN.out.kept (Kept.below hq))
                  have hO := Lib.hid (hO.out.kept (Kept.below hq))
                  have hd := Lib.hid ((hd.out.below hq).mono hq.size)
                  have hy := Lib.hid ((hy.out.below hq).mono hq.size)
                  have hn := Lib.hid ((hn.out.below hq).mono hq.size)
                  have hP := Lib.hid ((hP.out.below hq).mono hq.size)
                  have ch := Lib.hid (ch.out.trans (hq.mono ch.out.size))
                  clear hq
                  go_wp2_with fail
                  refine (coded7_any _ _ _ hP.out HK.out.1 HK.out.2).mono ?_
                  rintro e w14 ⟨cq, rfl, hC, hq⟩
                  have hN := Lib.hid (hN.out.kept (Kept.below hq))
                  have hO := Lib.hid (hO.out.kept (Kept.below hq))
                  have hd := Lib.hid ((hd.out.below hq).mono hq.size)
                  have hy := Lib.hid ((hy.out.below hq).mono hq.size)
                  have hn := Lib.hid ((hn.out.below hq).mono hq.size)
                  have hP := Lib.hid ((hP.out.below hq).mono hq.size)
                  have ch := Lib.hid (ch.out.trans (hq.mono ch.out.size))
                  clear hq
                  have hC := Lib.hid hC
                  go_wp2_with fail
                  refine (ks1.out _ _ hC.out).mono ?_
                  rintro e wq ⟨rfl, rfl⟩
                  go_wp2_with fail
                  refine (ks2.out _ _ hN.out).mono ?_
                  rintro e wq ⟨rfl, rfl⟩
                  by_cases hbig : (2000000 : Int) < 1 + cz + xz
                  ·
                    go_wp2_with fail
                    refine (awake9_any _).mono ?_
                    rintro e wz ⟨rfl, hqz⟩
                    go_wp2
                    go_ret
                    exact ⟨rfl, ch.out.trans (hqz.mono ch.out.size)⟩
                  have hfol := ((defeat_all HE.out (toTr x) (by rw [HPZ.out]; omega) 20000).1 s k HG.out).1 (by rw [HT.out]; intro h; cases h)
                  have hW30 := HZ0.out.2.1
                  obtain ⟨s9, g9, r9⟩ := follow_done hfol GN.out (20100 - defW d y n - 23) (by omega)
                  have HG9 := Lib.hid g9
                  have HR9 := Lib.hid r9
                  have HW30 := Lib.hid hW30
                  clear hfol g9 r9 hW30
                  go_wp2_with fail
                  refine (load_any _ _ _ hP.out HK.out.1).mono ?_
                  rintro e w15 ⟨ge, te, rfl, hM, hq⟩
                  have hN := Lib.hid (hN.out.kept (Kept.below hq))
                  have hO := Lib.hid (hO.out.kept (Kept.below hq))
                  have hC := Lib.hid (hC.out.kept (Kept.below hq))
                  have hd := Lib.hid ((hd.out.below hq).mono hq.size)
                  have hy := Lib.hid ((hy.out.below hq).mono hq.size)
                  have hn := Lib.hid ((hn.out.below hq).mono hq.size)
                  have hP := Lib.hid ((hP.out.below hq).mono hq.size)
                  have ch := Lib.hid (ch.out.trans (hq.mono ch.out.size))
                  clear hq
                  have hM := Lib.hid hM
                  go_wp2_with fail
                  refine (rrun_done _ _ (by have := HW30.out; omega) (by have := HW30.out; have := HK0.out; omega) HG9.out hM.out hN.out HXS2.out HK.out.1).mono ?_
                  rintro e w16 ⟨rz, rfl, hZ, hq⟩
                  have hN := Lib.hid (hN.out.kept (Kept.below hq))
                  have hO := Lib.hid (hO.out.kept (Kept.below hq))
                  have hC := Lib.hid (hC.out.kept (Kept.below hq))
                  have hM := Lib.hid (mach_lift hM.out hq)
                  have hd := Lib.hid ((hd.out.below hq).mono hq.size)
                  have hy := Lib.hid ((hy.out.below hq).mono hq.size)
                  have hn := Lib.hid ((hn.out.below hq).mono hq.size)
                  have hP := Lib.hid ((hP.out.below hq).mono hq.size)
                  have ch := Lib.hid (ch.out.trans (hq.mono ch.out.size))
                  clear hq
                  clear hM
                  have hZ := Lib.hid hZ
                  have hZ := Lib.hid (show NodeP 69 _ (getR sn.regs 0) _ by rw [← HR9.out]; exact hZ.out)
                  go_wp2_with fail
                  refine (equal_b false hZ.out hO.out HZZ.out HBB.out).mono ?_
                  rintro e w17 ⟨rfl, hq⟩
                  have hN := Lib.hid (hN.out.kept (Kept.below hq))
                  have hO := Lib.hid (hO.out.kept (Kept.below hq))
                  have hC := Lib.hid (hC.out.kept (Kept.below hq))
                  have hZ := Lib.hid (hZ.out.kept (Kept.below hq))
                  have hd := Lib.hid ((hd.out.below hq).mono hq.size)
                  have hy := Lib.hid ((hy.out.below hq).mono hq.size)
                  have hn := Lib.hid ((hn.out.below hq).mono hq.size)
                  have hP := Lib.hid ((hP.out.below hq).mono hq.size)
                  have ch := Lib.hid (ch.out.trans (hq.mono ch.out.size))
                  clear hq
                  go_wp2_with fail
                  refine (awake9_any _).mono ?_
                  rintro e wz ⟨rfl, hqz⟩
                  go_wp2
                  go_ret
                  exact ⟨rfl, ch.out.trans (hqz.mono ch.out.size)⟩
end Go.Proofs.Ytaiomcjopgnfpaa


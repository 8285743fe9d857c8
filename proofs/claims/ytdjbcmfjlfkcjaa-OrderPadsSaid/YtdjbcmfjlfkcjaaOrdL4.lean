/- law10: OrderPads. -/
import Derived.Test.YtdjbcmfjlfkcjaaPad1
import Derived.Test.YtdjbcmfjlfkcjaaKnow6
import Derived.Test.YtdjbcmfjlfkcjaaMB4
namespace Go.Proofs.Ytdjbcmfjlfkcjaa
open Go.RowKit

/-- A row of one's own may be spoiled. -/
def SpoilAt (w : World) (B : Nat) (qa : Option Addr) (N : Nat) : Prop := N = 0 ∨ ∃ g cs, qa = some ⟨g, 0, none⟩ ∧ B ≤ g ∧ w.heap[g]? = some (.cells cs 75 (0, 0)) ∧ N * 5 ≤ cs.size
theorem SpoilAt.of {w : World} {B : Nat} {qa : Option Addr} {N c : Nat} {l : List Ins} (h : OwnI w B (.slice qa N c) l) (hl : l.length = N) : SpoilAt w B qa N := by
  rcases h.own.2 with ⟨h0, h1⟩ | ⟨g, cap', cur, hv, hBg, hg, hnc, hcm, hcs, _⟩
  · exact .inl (by omega)
  · simp only [Value.slice.injEq] at hv
    exact .inr ⟨g, cur, hv.1, hBg, hg, by rw [hcs, ← hl]; exact Nat.mul_le_mul_right _ hnc⟩
theorem SpoilAt.below {w w' : World} {B : Nat} {qa : Option Addr} {N : Nat} (h : SpoilAt w B qa N) (hb : Below w.heap.size w w') : SpoilAt w' B qa N := by
  rcases h with h | ⟨g, cs, h1, h2, h3, h4⟩
  · exact .inl h
  · exact .inr ⟨g, cs, h1, h2, blk_lift hb h3, h4⟩
/-- What OrderPads meets: the answer of Pad, and what is due. -/
structure PadDue (q : List Ins) (n er : Int) (dl : List Ins) : Prop where
  e : padE q n = er
  r : padR q n = dl
  n4 : dl.length ≤ 4000
set_option maxRecDepth 20000 in
set_option maxHeartbeats 8000000 in
theorem law_OrderPads (v : Value) (q : List Ins) {w : World} (hq : InsRow w w.heap.size v q) (n : Int) (hn : -9223372036854775808 ≤ n ∧ n ≤ 9223372036854775807) :
    Calls Try.prog 14 #[v, .int .i64 n] w fun e w' => e = .returned (.bool true) ∧ Below w.heap.size w w' := by
  obtain ⟨qa, qc, rfl⟩ := hq.len
  obtain ⟨qn, hqn⟩ : ∃ k, q.length = k := ⟨_, rfl⟩
  have HNB := Lib.hid hn
  have HQN := Lib.hid hqn
  rw [hqn] at hq ⊢
  have hQ := Lib.hid hq
  obtain ⟨bv, hbv⟩ : ∃ b, validB q = b := ⟨_, rfl⟩
  have HV := Lib.hid hbv
  clear hq hqn hbv hn
  have ch := Lib.hid (Below.refl w.heap.size w)
  go_enter Try.func14, Try.ntmps14
  go_wp2_with fail
  have hL0 := ProgsRow.lit (w := w) [.slice qa qn qc] [q] rfl (by simp) (fun j u l hu hl => match j, u, l, hu, hl with | 0, _, _, hu, hl => by cases hu; cases hl; exact hQ.out)
  obtain ⟨w1, hW⟩ : ∃ B, w.alloc (.cells #[.slice qa qn qc] 23) = B := ⟨_, rfl⟩
  rw [hW]
  have hq : Below w.heap.size w w1 := by rw [← hW]; exact (Below.refl _ _).alloc (Nat.le_refl _) _
  have hL := Lib.hid (show ProgsRow w1 w1.heap.size (.slice (some ⟨w.heap.size, 0, none⟩) 1 1) [q] by rw [← hW]; exact hL0)
  clear hW hL0
  have hQ := Lib.hid ((hQ.out.below hq).mono hq.size)
  have ch := Lib.hid (ch.out.trans (hq.mono ch.out.size))
  clear hq
  refine (small_one _ _ q _ hL.out).mono ?_
  rintro e w2 ⟨b1, rfl, hq⟩
  have hQ := Lib.hid ((hQ.out.below hq).mono hq.size)
  have ch := Lib.hid (ch.out.trans (hq.mono ch.out.size))
  clear hq hL
  cases b1 with
  | false =>
    go_wp2_with fail
    refine (awake10_any _).mono ?_
    rintro e wz ⟨rfl, hqz⟩
    go_wp2
    go_ret
    exact ⟨rfl, ch.out.trans (hqz.mono ch.out.size)⟩
  | true =>
    have kt := Lib.hid (twin_own _ q w2 hQ.out)
    rw [HQN.out] at kt
    go_wp2_with fail
    refine kt.out.mono ?_
    rintro e w3 ⟨ta, tc, rfl, ho, hq⟩
    have hT := Lib.hid (ho.row (by have := hQ.out.2.1; exact this))
    have hQ := Lib.hid ((hQ.out.below hq).mono hq.size)
    have ch := Lib.hid (ch.out.trans (hq.mono ch.out.size))
    clear hq ho kt
    have hba : Below w3.heap.size w3 (w3.alloc (.cells #[] 75)) := (Below.refl _ _).alloc (Nat.le_refl _) _
    have hE0 : InsRow (w3.alloc (.cells #[] 75)) (w3.alloc (.cells #[] 75)).heap.size (.slice (some ⟨w3.heap.size, 0, none⟩) 0 0) [] := ⟨by simp, by simp, .inl ⟨rfl, .inr ⟨_, _, rfl⟩⟩⟩
    go_wp2_with fail
    obtain ⟨w4, hW⟩ : ∃ B, w3.alloc (.cells #[] 75) = B := ⟨_, rfl⟩
    rw [hW] at hba hE0 ⊢
    clear hW
    obtain ⟨eb, heb⟩ : ∃ z, w3.heap.size = z := ⟨_, rfl⟩
    have hQ := Lib.hid ((hQ.out.below hba).mono hba.size)
    have hT := Lib.hid ((hT.out.below hba).mono hba.size)
    have ch := Lib.hid (ch.out.trans (hba.mono ch.out.size))
    rw [heb] at hE0 ⊢
    have hE := Lib.hid hE0
    clear hba hE0 heb
    refine (cvalid_at bv HV.out hT.out).mono ?_
    rintro e w5 ⟨rfl, hq⟩
    have hQ := Lib.hid ((hQ.out.below hq).mono hq.size)
    have hT := Lib.hid ((hT.out.below hq).mono hq.size)
    have hE := Lib.hid ((hE.out.below hq).mono hq.size)
    have ch := Lib.hid (ch.out.trans (hq.mono ch.out.size))
    clear hq

    cases bv with
    | false =>
      obtain ⟨dl, hdl⟩ : ∃ dl : List Ins, dl = [] := ⟨_, rfl⟩
      have e1 : padE q n = 1 := if_pos HV.out
      have PD : Hid (PadDue q n 1 dl) := Lib.hid ⟨e1, by rw [hdl]; unfold padR; rw [e1]; rfl, by rw [hdl]; exact Nat.zero_le _⟩
      have hD : Hid (InsRow w5 w5.heap.size (.slice (some ⟨eb, 0, none⟩) 0 0) dl) := Lib.hid (by rw [hdl]; exact hE.out)
      clear hdl e1
      go_wp2
      have hDl := PD.out.n4
      obtain ⟨dn, hdn⟩ : ∃ k, dl.length = k := ⟨_, rfl⟩
      rw [hdn] at hDl
      have HDN := Lib.hid hdn
      clear hdn
      go_loopg [8] 2 (fun gg i wr => ∃ k : Nat, k ≤ 2 ∧ gg = 2 - k ∧ i = .int .i64 (k : Int) ∧ Hid (Below w5.heap.size w5 wr))
      case atStart => exact ⟨0, by omega, rfl, rfl, Lib.hid (Below.refl _ _)⟩
      case round =>
        obtain ⟨k, hk, hgg, rfl, hB⟩ := hrel
        have HGG := Lib.hid hgg; clear hgg
        have hk0 : (0 : Int) ≤ k := by omega
        have hQr := Lib.hid ((hQ.out.below hB.out).mono hB.out.size)
        have hTr := Lib.hid ((hT.out.below hB.out).mono hB.out.size)
        have hDr := Lib.hid ((hD.out.below hB.out).mono hB.out.size)
        have chr := Lib.hid (ch.out.trans (hB.out.mono ch.out.size))
        by_cases hk2 : k < 2
        · have hkI : (k : Int) < 2 := by omega
          have kp := Lib.hid (pad_any _ q wr hQr.out n HNB.out)
          rw [PD.out.e, PD.out.r] at kp
          go_wp2_with fail
          refine kp.out.mono ?_
          rintro e wp ⟨pa, pc, rfl, ho, hq⟩
          have HQ6 := Lib.hid hq
          rw [HDN.out] at ho ⊢
          have hO := Lib.hid ho
          have hPr := Lib.hid (ho.row (by rw [HDN.out]; omega))
          have hSp := Lib.hid (SpoilAt.of ho HDN.out)
          clear ho hq kp
          go_wp2_with fail
          refine (same_self hPr.out ((hDr.out.below HQ6.out).mono HQ6.out.size)).mono ?_
          rintro e ws ⟨rfl, hq⟩
          have HQ7 := Lib.hid (HQ6.out.trans (hq.mono HQ6.out.size))
          have hSp := Lib.hid (hSp.out.below hq)
          clear hq
          go_wp2_with fail
          refine (same_self ((hQr.out.below HQ7.out).mono HQ7.out.size) ((hTr.out.below HQ7.out).mono HQ7.out.size)).mono ?_
          rintro e wt ⟨rfl, hq⟩
          have HQ8 := Lib.hid (HQ7.out.trans (hq.mono HQ7.out.size))
          have hSp := Lib.hid (hSp.out.below hq)
          clear hq HQ7 HQ6 hPr hO
          have HB8 := Lib.hid (hB.out.trans (HQ8.out.mono hB.out.size))
          obtain ⟨wB, hwB⟩ : ∃ z, wr.heap.size = z := ⟨_, rfl⟩
          have hWB : w5.heap.size ≤ wB := by rw [← hwB]; exact hB.out.size
          have HWB := Lib.hid hWB
          rw [hwB] at hSp
          have hSp2 := hSp
          clear hwB hWB HQ8 hB hQr hTr hDr chr hSp
          go_wp2
          go_loopg [11] dn (fun gg i wy => ∃ j : Nat, j ≤ dn ∧ gg = dn - j ∧ i = .int .i64 (j : Int) ∧ Hid (SpoilAt wy wB pa dn) ∧ Hid (Below w5.heap.size w5 wy))
          case atStart => exact ⟨0, by omega, rfl, rfl, hSp2, HB8⟩
          case round =>
            clear hSp2 HB8
            obtain ⟨j, hj, hgj, rfl, hS, hY⟩ := hrel
            have HGJ := Lib.hid hgj; clear hgj
            have hj0 : (0 : Int) ≤ j := by omega
            by_cases hjd : j < dn
            · have hjI : (j : Int) < dn := by omega
              obtain ⟨g, cs, hpa, hBg, hg, hcs⟩ : ∃ g cs, pa = some ⟨g, 0, none⟩ ∧ wB ≤ g ∧ wr.heap[g]? = some (.cells cs 75 (0, 0)) ∧ dn * 5 ≤ cs.size := by
                rcases hS.out with h | h
                · omega
                · exact h
              subst hpa
              have cc := fun i => (block_cells hg).1 i
              have ff := fun i => (block_cells hg).2 i
              obtain ⟨x0, hx0⟩ : ∃ x, cs[j * 5]? = some x := ⟨_, Array.getElem?_eq_getElem (by omega)⟩
              obtain ⟨x1, hx1⟩ : ∃ x, cs[j * 5 + 1]? = some x := ⟨_, Array.getElem?_eq_getElem (by omega)⟩
              obtain ⟨x2, hx2⟩ : ∃ x, cs[j * 5 + 2]? = some x := ⟨_, Array.getElem?_eq_getElem (by omega)⟩
              obtain ⟨x3, hx3⟩ : ∃ x, cs[j * 5 + 3]? = some x := ⟨_, Array.getElem?_eq_getElem (by omega)⟩
              obtain ⟨x4, hx4⟩ : ∃ x, cs[j * 5 + 4]? = some x := ⟨_, Array.getElem?_eq_getElem (by omega)⟩
              have c0 := (cc (j * 5)).trans hx0
              have c1 := (cc (j * 5 + 1)).trans hx1
              have c2 := (cc (j * 5 + 2)).trans hx2
              have c3 := (cc (j * 5 + 3)).trans hx3
              have c4 := (cc (j * 5 + 4)).trans hx4
              have f0 := ff (j * 5)
              have f1 := ff (j * 5 + 1)
              have f2 := ff (j * 5 + 2)
              have f3 := ff (j * 5 + 3)
              have f4 := ff (j * 5 + 4)
              have hgW : w5.heap.size ≤ g := Nat.le_trans HWB.out hBg
              have hs := set_blk (set_blk (set_blk (set_blk (set_blk hg (j * 5) (.int .i64 (-1))) (j * 5 + 1) (.int .i64 0)) (j * 5 + 2) (.int .i64 0)) (j * 5 + 3) (.int .i64 0)) (j * 5 + 4) (.string ⟨#[]⟩)
              have hbb := Lib.hid (((((hY.out.setCell (p := ⟨g, j * 5, none⟩) hgW (.int .i64 (-1))).setCell (p := ⟨g, j * 5 + 1, none⟩) hgW (.int .i64 0)).setCell (p := ⟨g, j * 5 + 2, none⟩) hgW (.int .i64 0)).setCell (p := ⟨g, j * 5 + 3, none⟩) hgW (.int .i64 0)).setCell (p := ⟨g, j * 5 + 4, none⟩) hgW (.string ⟨#[]⟩))
              have hsp : Hid (SpoilAt _ wB (some ⟨g, 0, none⟩) dn) := Lib.hid (.inr ⟨g, _, rfl, hBg, hs, by simp only [Array.size_setIfInBounds]; exact hcs⟩)
              clear cc ff hx0 hx1 hx2 hx3 hx4 hg hcs hs hS hY hBg hgW
              go_wp2
              go_roundg (dn - (j + 1))
              case measure => rw [HGJ.out]; omega
              case rel => exact ⟨j + 1, by omega, rfl, by go_num, hsp, hbb⟩
            · go_wp2
              go_roundg (2 - (k + 1))
              case measure => rw [HGG.out]; omega
              case rel => exact ⟨k + 1, by omega, rfl, by go_num, hY⟩
        · obtain rfl : k = 2 := by omega
          go_wp2_with fail
          refine (same_self hQr.out hTr.out).mono ?_
          rintro e ws ⟨rfl, hq⟩
          have chs := Lib.hid (chr.out.trans (hq.mono chr.out.size))
          clear hq
          go_wp2_with fail
          refine (awake10_any _).mono ?_
          rintro e wz ⟨rfl, hqz⟩
          go_wp2
          go_ret
          exact ⟨rfl, chs.out.trans (hqz.mono chs.out.size)⟩
    | true =>
      have hv' : ¬ validB q = false := by rw [HV.out]; decide
      have HV2 := Lib.hid hv'
      clear hv'
      by_cases h0 : n < 0
      · obtain ⟨dl, hdl⟩ : ∃ dl : List Ins, dl = [] := ⟨_, rfl⟩
        have e1 : padE q n = 2 := by unfold padE; rw [if_neg HV2.out, if_pos (.inl h0)]
        have PD : Hid (PadDue q n 2 dl) := Lib.hid ⟨e1, by rw [hdl]; unfold padR; rw [e1]; rfl, by rw [hdl]; exact Nat.zero_le _⟩
        have hD : Hid (InsRow w5 w5.heap.size (.slice (some ⟨eb, 0, none⟩) 0 0) dl) := Lib.hid (by rw [hdl]; exact hE.out)
        clear hdl e1
        go_wp2
        have hDl := PD.out.n4
        obtain ⟨dn, hdn⟩ : ∃ k, dl.length = k := ⟨_, rfl⟩
        rw [hdn] at hDl
        have HDN := Lib.hid hdn
        clear hdn
        go_loopg [8] 2 (fun gg i wr => ∃ k : Nat, k ≤ 2 ∧ gg = 2 - k ∧ i = .int .i64 (k : Int) ∧ Hid (Below w5.heap.size w5 wr))
        case atStart => exact ⟨0, by omega, rfl, rfl, Lib.hid (Below.refl _ _)⟩
        case round =>
          obtain ⟨k, hk, hgg, rfl, hB⟩ := hrel
          have HGG := Lib.hid hgg; clear hgg
          have hk0 : (0 : Int) ≤ k := by omega
          have hQr := Lib.hid ((hQ.out.below hB.out).mono hB.out.size)
          have hTr := Lib.hid ((hT.out.below hB.out).mono hB.out.size)
          have hDr := Lib.hid ((hD.out.below hB.out).mono hB.out.size)
          have chr := Lib.hid (ch.out.trans (hB.out.mono ch.out.size))
          by_cases hk2 : k < 2
          · have hkI : (k : Int) < 2 := by omega
            have kp := Lib.hid (pad_any _ q wr hQr.out n HNB.out)
            rw [PD.out.e, PD.out.r] at kp
            go_wp2_with fail
            refine kp.out.mono ?_
            rintro e wp ⟨pa, pc, rfl, ho, hq⟩
            have HQ6 := Lib.hid hq
            rw [HDN.out] at ho ⊢
            have hO := Lib.hid ho
            have hPr := Lib.hid (ho.row (by rw [HDN.out]; omega))
            have hSp := Lib.hid (SpoilAt.of ho HDN.out)
            clear ho hq kp
            go_wp2_with fail
            refine (same_self hPr.out ((hDr.out.below HQ6.out).mono HQ6.out.size)).mono ?_
            rintro e ws ⟨rfl, hq⟩
            have HQ7 := Lib.hid (HQ6.out.trans (hq.mono HQ6.out.size))
            have hSp := Lib.hid (hSp.out.below hq)
            clear hq
            go_wp2_with fail
            refine (same_self ((hQr.out.below HQ7.out).mono HQ7.out.size) ((hTr.out.below HQ7.out).mono HQ7.out.size)).mono ?_
            rintro e wt ⟨rfl, hq⟩
            have HQ8 := Lib.hid (HQ7.out.trans (hq.mono HQ7.out.size))
            have hSp := Lib.hid (hSp.out.below hq)
            clear hq HQ7 HQ6 hPr hO
            have HB8 := Lib.hid (hB.out.trans (HQ8.out.mono hB.out.size))
            obtain ⟨wB, hwB⟩ : ∃ z, wr.heap.size = z := ⟨_, rfl⟩
            have hWB : w5.heap.size ≤ wB := by rw [← hwB]; exact hB.out.size
            have HWB := Lib.hid hWB
            rw [hwB] at hSp
            have hSp2 := hSp
            clear hwB hWB HQ8 hB hQr hTr hDr chr hSp
            go_wp2
            go_loopg [11] dn (fun gg i wy => ∃ j : Nat, j ≤ dn ∧ gg = dn - j ∧ i = .int .i64 (j : Int) ∧ Hid (SpoilAt wy wB pa dn) ∧ Hid (Below w5.heap.size w5 wy))
            case atStart => exact ⟨0, by omega, rfl, rfl, hSp2, HB8⟩
            case round =>
              clear hSp2 HB8
              obtain ⟨j, hj, hgj, rfl, hS, hY⟩ := hrel
              have HGJ := Lib.hid hgj; clear hgj
              have hj0 : (0 : Int) ≤ j := by omega
              by_cases hjd : j < dn
              · have hjI : (j : Int) < dn := by omega
                obtain ⟨g, cs, hpa, hBg, hg, hcs⟩ : ∃ g cs, pa = some ⟨g, 0, none⟩ ∧ wB ≤ g ∧ wr.heap[g]? = some (.cells cs 75 (0, 0)) ∧ dn * 5 ≤ cs.size := by
                  rcases hS.out with h | h
                  · omega
                  · exact h
                subst hpa
                have cc := fun i => (block_cells hg).1 i
                have ff := fun i => (block_cells hg).2 i
                obtain ⟨x0, hx0⟩ : ∃ x, cs[j * 5]? = some x := ⟨_, Array.getElem?_eq_getElem (by omega)⟩
                obtain ⟨x1, hx1⟩ : ∃ x, cs[j * 5 + 1]? = some x := ⟨_, Array.getElem?_eq_getElem (by omega)⟩
                obtain ⟨x2, hx2⟩ : ∃ x, cs[j * 5 + 2]? = some x := ⟨_, Array.getElem?_eq_getElem (by omega)⟩
                obtain ⟨x3, hx3⟩ : ∃ x, cs[j * 5 + 3]? = some x := ⟨_, Array.getElem?_eq_getElem (by omega)⟩
                obtain ⟨x4, hx4⟩ : ∃ x, cs[j * 5 + 4]? = some x := ⟨_, Array.getElem?_eq_getElem (by omega)⟩
                have c0 := (cc (j * 5)).trans hx0
                have c1 := (cc (j * 5 + 1)).trans hx1
                have c2 := (cc (j * 5 + 2)).trans hx2
                have c3 := (cc (j * 5 + 3)).trans hx3
                have c4 := (cc (j * 5 + 4)).trans hx4
                have f0 := ff (j * 5)
                have f1 := ff (j * 5 + 1)
                have f2 := ff (j * 5 + 2)
                have f3 := ff (j * 5 + 3)
                have f4 := ff (j * 5 + 4)
                have hgW : w5.heap.size ≤ g := Nat.le_trans HWB.out hBg
                have hs := set_blk (set_blk (set_blk (set_blk (set_blk hg (j * 5) (.int .i64 (-1))) (j * 5 + 1) (.int .i64 0)) (j * 5 + 2) (.int .i64 0)) (j * 5 + 3) (.int .i64 0)) (j * 5 + 4) (.string ⟨#[]⟩)
                have hbb := Lib.hid (((((hY.out.setCell (p := ⟨g, j * 5, none⟩) hgW (.int .i64 (-1))).setCell (p := ⟨g, j * 5 + 1, none⟩) hgW (.int .i64 0)).setCell (p := ⟨g, j * 5 + 2, none⟩) hgW (.int .i64 0)).setCell (p := ⟨g, j * 5 + 3, none⟩) hgW (.int .i64 0)).setCell (p := ⟨g, j * 5 + 4, none⟩) hgW (.string ⟨#[]⟩))
                have hsp : Hid (SpoilAt _ wB (some ⟨g, 0, none⟩) dn) := Lib.hid (.inr ⟨g, _, rfl, hBg, hs, by simp only [Array.size_setIfInBounds]; exact hcs⟩)
                clear cc ff hx0 hx1 hx2 hx3 hx4 hg hcs hs hS hY hBg hgW
                go_wp2
                go_roundg (dn - (j + 1))
                case measure => rw [HGJ.out]; omega
                case rel => exact ⟨j + 1, by omega, rfl, by go_num, hsp, hbb⟩
              · go_wp2
                go_roundg (2 - (k + 1))
                case measure => rw [HGG.out]; omega
                case rel => exact ⟨k + 1, by omega, rfl, by go_num, hY⟩
          · obtain rfl : k = 2 := by omega
            go_wp2_with fail
            refine (same_self hQr.out hTr.out).mono ?_
            rintro e ws ⟨rfl, hq⟩
            have chs := Lib.hid (chr.out.trans (hq.mono chr.out.size))
            clear hq
            go_wp2_with fail
            refine (awake10_any _).mono ?_
            rintro e wz ⟨rfl, hqz⟩
            go_wp2
            go_ret
            exact ⟨rfl, chs.out.trans (hqz.mono chs.out.size)⟩
      by_cases h1 : 1000 < n
      · obtain ⟨dl, hdl⟩ : ∃ dl : List Ins, dl = [] := ⟨_, rfl⟩
        have h0' : ¬ n < 0 := by omega
        have e1 : padE q n = 2 := by unfold padE; rw [if_neg HV2.out, if_pos (.inr h1)]
        clear h0
        have PD : Hid (PadDue q n 2 dl) := Lib.hid ⟨e1, by rw [hdl]; unfold padR; rw [e1]; rfl, by rw [hdl]; exact Nat.zero_le _⟩
        have hD : Hid (InsRow w5 w5.heap.size (.slice (some ⟨eb, 0, none⟩) 0 0) dl) := Lib.hid (by rw [hdl]; exact hE.out)
        clear hdl e1
        go_wp2
        have hDl := PD.out.n4
        obtain ⟨dn, hdn⟩ : ∃ k, dl.length = k := ⟨_, rfl⟩
        rw [hdn] at hDl
        have HDN := Lib.hid hdn
        clear hdn
        go_loopg [8] 2 (fun gg i wr => ∃ k : Nat, k ≤ 2 ∧ gg = 2 - k ∧ i = .int .i64 (k : Int) ∧ Hid (Below w5.heap.size w5 wr))
        case atStart => exact ⟨0, by omega, rfl, rfl, Lib.hid (Below.refl _ _)⟩
        case round =>
          obtain ⟨k, hk, hgg, rfl, hB⟩ := hrel
          have HGG := Lib.hid hgg; clear hgg
          have hk0 : (0 : Int) ≤ k := by omega
          have hQr := Lib.hid ((hQ.out.below hB.out).mono hB.out.size)
          have hTr := Lib.hid ((hT.out.below hB.out).mono hB.out.size)
          have hDr := Lib.hid ((hD.out.below hB.out).mono hB.out.size)
          have chr := Lib.hid (ch.out.trans (hB.out.mono ch.out.size))
          by_cases hk2 : k < 2
          · have hkI : (k : Int) < 2 := by omega
            have kp := Lib.hid (pad_any _ q wr hQr.out n HNB.out)
            rw [PD.out.e, PD.out.r] at kp
            go_wp2_with fail
            refine kp.out.mono ?_
            rintro e wp ⟨pa, pc, rfl, ho, hq⟩
            have HQ6 := Lib.hid hq
            rw [HDN.out] at ho ⊢
            have hO := Lib.hid ho
            have hPr := Lib.hid (ho.row (by rw [HDN.out]; omega))
            have hSp := Lib.hid (SpoilAt.of ho HDN.out)
            clear ho hq kp
            go_wp2_with fail
            refine (same_self hPr.out ((hDr.out.below HQ6.out).mono HQ6.out.size)).mono ?_
            rintro e ws ⟨rfl, hq⟩
            have HQ7 := Lib.hid (HQ6.out.trans (hq.mono HQ6.out.size))
            have hSp := Lib.hid (hSp.out.below hq)
            clear hq
            go_wp2_with fail
            refine (same_self ((hQr.out.below HQ7.out).mono HQ7.out.size) ((hTr.out.below HQ7.out).mono HQ7.out.size)).mono ?_
            rintro e wt ⟨rfl, hq⟩
            have HQ8 := Lib.hid (HQ7.out.trans (hq.mono HQ7.out.size))
            have hSp := Lib.hid (hSp.out.below hq)
            clear hq HQ7 HQ6 hPr hO
            have HB8 := Lib.hid (hB.out.trans (HQ8.out.mono hB.out.size))
            obtain ⟨wB, hwB⟩ : ∃ z, wr.heap.size = z := ⟨_, rfl⟩
            have hWB : w5.heap.size ≤ wB := by rw [← hwB]; exact hB.out.size
            have HWB := Lib.hid hWB
            rw [hwB] at hSp
            have hSp2 := hSp
            clear hwB hWB HQ8 hB hQr hTr hDr chr hSp
            go_wp2
            go_loopg [11] dn (fun gg i wy => ∃ j : Nat, j ≤ dn ∧ gg = dn - j ∧ i = .int .i64 (j : Int) ∧ Hid (SpoilAt wy wB pa dn) ∧ Hid (Below w5.heap.size w5 wy))
            case atStart => exact ⟨0, by omega, rfl, rfl, hSp2, HB8⟩
            case round =>
              clear hSp2 HB8
              obtain ⟨j, hj, hgj, rfl, hS, hY⟩ := hrel
              have HGJ := Lib.hid hgj; clear hgj
              have hj0 : (0 : Int) ≤ j := by omega
              by_cases hjd : j < dn
              · have hjI : (j : Int) < dn := by omega
                obtain ⟨g, cs, hpa, hBg, hg, hcs⟩ : ∃ g cs, pa = some ⟨g, 0, none⟩ ∧ wB ≤ g ∧ wr.heap[g]? = some (.cells cs 75 (0, 0)) ∧ dn * 5 ≤ cs.size := by
                  rcases hS.out with h | h
                  · omega
                  · exact h
                subst hpa
                have cc := fun i => (block_cells hg).1 i
                have ff := fun i => (block_cells hg).2 i
                obtain ⟨x0, hx0⟩ : ∃ x, cs[j * 5]? = some x := ⟨_, Array.getElem?_eq_getElem (by omega)⟩
                obtain ⟨x1, hx1⟩ : ∃ x, cs[j * 5 + 1]? = some x := ⟨_, Array.getElem?_eq_getElem (by omega)⟩
                obtain ⟨x2, hx2⟩ : ∃ x, cs[j * 5 + 2]? = some x := ⟨_, Array.getElem?_eq_getElem (by omega)⟩
                obtain ⟨x3, hx3⟩ : ∃ x, cs[j * 5 + 3]? = some x := ⟨_, Array.getElem?_eq_getElem (by omega)⟩
                obtain ⟨x4, hx4⟩ : ∃ x, cs[j * 5 + 4]? = some x := ⟨_, Array.getElem?_eq_getElem (by omega)⟩
                have c0 := (cc (j * 5)).trans hx0
                have c1 := (cc (j * 5 + 1)).trans hx1
                have c2 := (cc (j * 5 + 2)).trans hx2
                have c3 := (cc (j * 5 + 3)).trans hx3
                have c4 := (cc (j * 5 + 4)).trans hx4
                have f0 := ff (j * 5)
                have f1 := ff (j * 5 + 1)
                have f2 := ff (j * 5 + 2)
                have f3 := ff (j * 5 + 3)
                have f4 := ff (j * 5 + 4)
                have hgW : w5.heap.size ≤ g := Nat.le_trans HWB.out hBg
                have hs := set_blk (set_blk (set_blk (set_blk (set_blk hg (j * 5) (.int .i64 (-1))) (j * 5 + 1) (.int .i64 0)) (j * 5 + 2) (.int .i64 0)) (j * 5 + 3) (.int .i64 0)) (j * 5 + 4) (.string ⟨#[]⟩)
                have hbb := Lib.hid (((((hY.out.setCell (p := ⟨g, j * 5, none⟩) hgW (.int .i64 (-1))).setCell (p := ⟨g, j * 5 + 1, none⟩) hgW (.int .i64 0)).setCell (p := ⟨g, j * 5 + 2, none⟩) hgW (.int .i64 0)).setCell (p := ⟨g, j * 5 + 3, none⟩) hgW (.int .i64 0)).setCell (p := ⟨g, j * 5 + 4, none⟩) hgW (.string ⟨#[]⟩))
                have hsp : Hid (SpoilAt _ wB (some ⟨g, 0, none⟩) dn) := Lib.hid (.inr ⟨g, _, rfl, hBg, hs, by simp only [Array.size_setIfInBounds]; exact hcs⟩)
                clear cc ff hx0 hx1 hx2 hx3 hx4 hg hcs hs hS hY hBg hgW
                go_wp2
                go_roundg (dn - (j + 1))
                case measure => rw [HGJ.out]; omega
                case rel => exact ⟨j + 1, by omega, rfl, by go_num, hsp, hbb⟩
              · go_wp2
                go_roundg (2 - (k + 1))
                case measure => rw [HGG.out]; omega
                case rel => exact ⟨k + 1, by omega, rfl, by go_num, hY⟩
          · obtain rfl : k = 2 := by omega
            go_wp2_with fail
            refine (same_self hQr.out hTr.out).mono ?_
            rintro e ws ⟨rfl, hq⟩
            have chs := Lib.hid (chr.out.trans (hq.mono chr.out.size))
            clear hq
            go_wp2_with fail
            refine (awake10_any _).mono ?_
            rintro e wz ⟨rfl, hqz⟩
            go_wp2
            go_ret
            exact ⟨rfl, chs.out.trans (hqz.mono chs.out.size)⟩
      obtain ⟨m, rfl⟩ : ∃ m : Nat, n = m := ⟨n.toNat, by omega⟩
      have hmI : (0 : Int) ≤ m ∧ (m : Int) ≤ 1000 := by omega
      have hq4 := validB_len HV.out
      rw [HQN.out] at hq4
      have hqI : (0 : Int) ≤ qn ∧ (qn : Int) ≤ 4000 := by omega
      have H01 := Lib.hid (show ¬ ((m : Int) < 0 ∨ 1000 < (m : Int)) by omega)
      clear h0 h1
      by_cases h4 : 4000 < (qn : Int) + m
      · obtain ⟨dl, hdl⟩ : ∃ dl : List Ins, dl = [] := ⟨_, rfl⟩
        have e1 : padE q m = 3 := by unfold padE; rw [if_neg HV2.out, if_neg H01.out, HQN.out, if_pos h4]
        have PD : Hid (PadDue q m 3 dl) := Lib.hid ⟨e1, by rw [hdl]; unfold padR; rw [e1]; rfl, by rw [hdl]; exact Nat.zero_le _⟩
        have hD : Hid (InsRow w5 w5.heap.size (.slice (some ⟨eb, 0, none⟩) 0 0) dl) := Lib.hid (by rw [hdl]; exact hE.out)
        clear hdl e1
        go_wp2
        have hDl := PD.out.n4
        obtain ⟨dn, hdn⟩ : ∃ k, dl.length = k := ⟨_, rfl⟩
        rw [hdn] at hDl
        have HDN := Lib.hid hdn
        clear hdn
        go_loopg [8] 2 (fun gg i wr => ∃ k : Nat, k ≤ 2 ∧ gg = 2 - k ∧ i = .int .i64 (k : Int) ∧ Hid (Below w5.heap.size w5 wr))
        case atStart => exact ⟨0, by omega, rfl, rfl, Lib.hid (Below.refl _ _)⟩
        case round =>
          obtain ⟨k, hk, hgg, rfl, hB⟩ := hrel
          have HGG := Lib.hid hgg; clear hgg
          have hk0 : (0 : Int) ≤ k := by omega
          have hQr := Lib.hid ((hQ.out.below hB.out).mono hB.out.size)
          have hTr := Lib.hid ((hT.out.below hB.out).mono hB.out.size)
          have hDr := Lib.hid ((hD.out.below hB.out).mono hB.out.size)
          have chr := Lib.hid (ch.out.trans (hB.out.mono ch.out.size))
          by_cases hk2 : k < 2
          · have hkI : (k : Int) < 2 := by omega
            have kp := Lib.hid (pad_any _ q wr hQr.out m HNB.out)
            rw [PD.out.e, PD.out.r] at kp
            go_wp2_with fail
            refine kp.out.mono ?_
            rintro e wp ⟨pa, pc, rfl, ho, hq⟩
            have HQ6 := Lib.hid hq
            rw [HDN.out] at ho ⊢
            have hO := Lib.hid ho
            have hPr := Lib.hid (ho.row (by rw [HDN.out]; omega))
            have hSp := Lib.hid (SpoilAt.of ho HDN.out)
            clear ho hq kp
            go_wp2_with fail
            refine (same_self hPr.out ((hDr.out.below HQ6.out).mono HQ6.out.size)).mono ?_
            rintro e ws ⟨rfl, hq⟩
            have HQ7 := Lib.hid (HQ6.out.trans (hq.mono HQ6.out.size))
            have hSp := Lib.hid (hSp.out.below hq)
            clear hq
            go_wp2_with fail
            refine (same_self ((hQr.out.below HQ7.out).mono HQ7.out.size) ((hTr.out.below HQ7.out).mono HQ7.out.size)).mono ?_
            rintro e wt ⟨rfl, hq⟩
            have HQ8 := Lib.hid (HQ7.out.trans (hq.mono HQ7.out.size))
            have hSp := Lib.hid (hSp.out.below hq)
            clear hq HQ7 HQ6 hPr hO
            have HB8 := Lib.hid (hB.out.trans (HQ8.out.mono hB.out.size))
            obtain ⟨wB, hwB⟩ : ∃ z, wr.heap.size = z := ⟨_, rfl⟩
            have hWB : w5.heap.size ≤ wB := by rw [← hwB]; exact hB.out.size
            have HWB := Lib.hid hWB
            rw [hwB] at hSp
            have hSp2 := hSp
            clear hwB hWB HQ8 hB hQr hTr hDr chr hSp
            go_wp2
            go_loopg [11] dn (fun gg i wy => ∃ j : Nat, j ≤ dn ∧ gg = dn - j ∧ i = .int .i64 (j : Int) ∧ Hid (SpoilAt wy wB pa dn) ∧ Hid (Below w5.heap.size w5 wy))
            case atStart => exact ⟨0, by omega, rfl, rfl, hSp2, HB8⟩
            case round =>
              clear hSp2 HB8
              obtain ⟨j, hj, hgj, rfl, hS, hY⟩ := hrel
              have HGJ := Lib.hid hgj; clear hgj
              have hj0 : (0 : Int) ≤ j := by omega
              by_cases hjd : j < dn
              · have hjI : (j : Int) < dn := by omega
                obtain ⟨g, cs, hpa, hBg, hg, hcs⟩ : ∃ g cs, pa = some ⟨g, 0, none⟩ ∧ wB ≤ g ∧ wr.heap[g]? = some (.cells cs 75 (0, 0)) ∧ dn * 5 ≤ cs.size := by
                  rcases hS.out with h | h
                  · omega
                  · exact h
                subst hpa
                have cc := fun i => (block_cells hg).1 i
                have ff := fun i => (block_cells hg).2 i
                obtain ⟨x0, hx0⟩ : ∃ x, cs[j * 5]? = some x := ⟨_, Array.getElem?_eq_getElem (by omega)⟩
                obtain ⟨x1, hx1⟩ : ∃ x, cs[j * 5 + 1]? = some x := ⟨_, Array.getElem?_eq_getElem (by omega)⟩
                obtain ⟨x2, hx2⟩ : ∃ x, cs[j * 5 + 2]? = some x := ⟨_, Array.getElem?_eq_getElem (by omega)⟩
                obtain ⟨x3, hx3⟩ : ∃ x, cs[j * 5 + 3]? = some x := ⟨_, Array.getElem?_eq_getElem (by omega)⟩
                obtain ⟨x4, hx4⟩ : ∃ x, cs[j * 5 + 4]? = some x := ⟨_, Array.getElem?_eq_getElem (by omega)⟩
                have c0 := (cc (j * 5)).trans hx0
                have c1 := (cc (j * 5 + 1)).trans hx1
                have c2 := (cc (j * 5 + 2)).trans hx2
                have c3 := (cc (j * 5 + 3)).trans hx3
                have c4 := (cc (j * 5 + 4)).trans hx4
                have f0 := ff (j * 5)
                have f1 := ff (j * 5 + 1)
                have f2 := ff (j * 5 + 2)
                have f3 := ff (j * 5 + 3)
                have f4 := ff (j * 5 + 4)
                have hgW : w5.heap.size ≤ g := Nat.le_trans HWB.out hBg
                have hs := set_blk (set_blk (set_blk (set_blk (set_blk hg (j * 5) (.int .i64 (-1))) (j * 5 + 1) (.int .i64 0)) (j * 5 + 2) (.int .i64 0)) (j * 5 + 3) (.int .i64 0)) (j * 5 + 4) (.string ⟨#[]⟩)
                have hbb := Lib.hid (((((hY.out.setCell (p := ⟨g, j * 5, none⟩) hgW (.int .i64 (-1))).setCell (p := ⟨g, j * 5 + 1, none⟩) hgW (.int .i64 0)).setCell (p := ⟨g, j * 5 + 2, none⟩) hgW (.int .i64 0)).setCell (p := ⟨g, j * 5 + 3, none⟩) hgW (.int .i64 0)).setCell (p := ⟨g, j * 5 + 4, none⟩) hgW (.string ⟨#[]⟩))
                have hsp : Hid (SpoilAt _ wB (some ⟨g, 0, none⟩) dn) := Lib.hid (.inr ⟨g, _, rfl, hBg, hs, by simp only [Array.size_setIfInBounds]; exact hcs⟩)
                clear cc ff hx0 hx1 hx2 hx3 hx4 hg hcs hs hS hY hBg hgW
                go_wp2
                go_roundg (dn - (j + 1))
                case measure => rw [HGJ.out]; omega
                case rel => exact ⟨j + 1, by omega, rfl, by go_num, hsp, hbb⟩
              · go_wp2
                go_roundg (2 - (k + 1))
                case measure => rw [HGG.out]; omega
                case rel => exact ⟨k + 1, by omega, rfl, by go_num, hY⟩
          · obtain rfl : k = 2 := by omega
            go_wp2_with fail
            refine (same_self hQr.out hTr.out).mono ?_
            rintro e ws ⟨rfl, hq⟩
            have chs := Lib.hid (chr.out.trans (hq.mono chr.out.size))
            clear hq
            go_wp2_with fail
            refine (awake10_any _).mono ?_
            rintro e wz ⟨rfl, hqz⟩
            go_wp2
            go_ret
            exact ⟨rfl, chs.out.trans (hqz.mono chs.out.size)⟩
      have e1 : padE q m = 0 := by unfold padE; rw [if_neg HV2.out, if_neg H01.out, HQN.out, if_neg h4]
      have kr := Lib.hid (rpad_any _ q w5 hT.out m (by omega) (by rw [HQN.out]; exact hq4))
      obtain ⟨dl, hdl⟩ : ∃ dl, padL q m = dl := ⟨_, rfl⟩
      rw [hdl] at kr
      have PD : Hid (PadDue q m 0 dl) := Lib.hid ⟨e1, by unfold padR; rw [if_pos e1]; exact hdl, by rw [← hdl, padL_len, HQN.out]; omega⟩
      have h4' : (qn : Int) + m ≤ 4000 := by omega
      clear e1 hdl h4 hq4
      obtain ⟨dn0, hdn0⟩ : ∃ k, dl.length = k := ⟨_, rfl⟩
      rw [hdn0] at kr
      have HD0 := Lib.hid hdn0
      clear hdn0
      go_wp2_with fail
      refine kr.out.mono ?_
      rintro e w6 ⟨da, dc, rfl, ho, hq⟩
      have hD : Hid (InsRow w6 w6.heap.size (.slice da dn0 dc) dl) := Lib.hid (ho.row (by have := PD.out.n4; omega))
      have hQ := Lib.hid ((hQ.out.below hq).mono hq.size)
      have hT := Lib.hid ((hT.out.below hq).mono hq.size)
      have ch := Lib.hid (ch.out.trans (hq.mono ch.out.size))
      clear hq ho kr hE
      go_wp2
      have hDl := PD.out.n4
      obtain ⟨dn, hdn⟩ : ∃ k, dl.length = k := ⟨_, rfl⟩
      rw [hdn] at hDl
      have HDN := Lib.hid hdn
      clear hdn
      go_loopg [8] 2 (fun gg i wr => ∃ k : Nat, k ≤ 2 ∧ gg = 2 - k ∧ i = .int .i64 (k : Int) ∧ Hid (Below w6.heap.size w6 wr))
      case atStart => exact ⟨0, by omega, rfl, rfl, Lib.hid (Below.refl _ _)⟩
      case round =>
        obtain ⟨k, hk, hgg, rfl, hB⟩ := hrel
        have HGG := Lib.hid hgg; clear hgg
        have hk0 : (0 : Int) ≤ k := by omega
        have hQr := Lib.hid ((hQ.out.below hB.out).mono hB.out.size)
        have hTr := Lib.hid ((hT.out.below hB.out).mono hB.out.size)
        have hDr := Lib.hid ((hD.out.below hB.out).mono hB.out.size)
        have chr := Lib.hid (ch.out.trans (hB.out.mono ch.out.size))
        by_cases hk2 : k < 2
        · have hkI : (k : Int) < 2 := by omega
          have kp := Lib.hid (pad_any _ q wr hQr.out m HNB.out)
          rw [PD.out.e, PD.out.r] at kp
          go_wp2_with fail
          refine kp.out.mono ?_
          rintro e wp ⟨pa, pc, rfl, ho, hq⟩
          have HQ6 := Lib.hid hq
          rw [HDN.out] at ho ⊢
          have hO := Lib.hid ho
          have hPr := Lib.hid (ho.row (by rw [HDN.out]; omega))
          have hSp := Lib.hid (SpoilAt.of ho HDN.out)
          clear ho hq kp
          go_wp2_with fail
          refine (same_self hPr.out ((hDr.out.below HQ6.out).mono HQ6.out.size)).mono ?_
          rintro e ws ⟨rfl, hq⟩
          have HQ7 := Lib.hid (HQ6.out.trans (hq.mono HQ6.out.size))
          have hSp := Lib.hid (hSp.out.below hq)
          clear hq
          go_wp2_with fail
          refine (same_self ((hQr.out.below HQ7.out).mono HQ7.out.size) ((hTr.out.below HQ7.out).mono HQ7.out.size)).mono ?_
          rintro e wt ⟨rfl, hq⟩
          have HQ8 := Lib.hid (HQ7.out.trans (hq.mono HQ7.out.size))
          have hSp := Lib.hid (hSp.out.below hq)
          clear hq HQ7 HQ6 hPr hO
          have HB8 := Lib.hid (hB.out.trans (HQ8.out.mono hB.out.size))
          obtain ⟨wB, hwB⟩ : ∃ z, wr.heap.size = z := ⟨_, rfl⟩
          have hWB : w6.heap.size ≤ wB := by rw [← hwB]; exact hB.out.size
          have HWB := Lib.hid hWB
          rw [hwB] at hSp
          have hSp2 := hSp
          clear hwB hWB HQ8 hB hQr hTr hDr chr hSp
          go_wp2
          go_loopg [11] dn (fun gg i wy => ∃ j : Nat, j ≤ dn ∧ gg = dn - j ∧ i = .int .i64 (j : Int) ∧ Hid (SpoilAt wy wB pa dn) ∧ Hid (Below w6.heap.size w6 wy))
          case atStart => exact ⟨0, by omega, rfl, rfl, hSp2, HB8⟩
          case round =>
            clear hSp2 HB8
            obtain ⟨j, hj, hgj, rfl, hS, hY⟩ := hrel
            have HGJ := Lib.hid hgj; clear hgj
            have hj0 : (0 : Int) ≤ j := by omega
            by_cases hjd : j < dn
            · have hjI : (j : Int) < dn := by omega
              obtain ⟨g, cs, hpa, hBg, hg, hcs⟩ : ∃ g cs, pa = some ⟨g, 0, none⟩ ∧ wB ≤ g ∧ wr.heap[g]? = some (.cells cs 75 (0, 0)) ∧ dn * 5 ≤ cs.size := by
                rcases hS.out with h | h
                · omega
                · exact h
              subst hpa
              have cc := fun i => (block_cells hg).1 i
              have ff := fun i => (block_cells hg).2 i
              obtain ⟨x0, hx0⟩ : ∃ x, cs[j * 5]? = some x := ⟨_, Array.getElem?_eq_getElem (by omega)⟩
              obtain ⟨x1, hx1⟩ : ∃ x, cs[j * 5 + 1]? = some x := ⟨_, Array.getElem?_eq_getElem (by omega)⟩
              obtain ⟨x2, hx2⟩ : ∃ x, cs[j * 5 + 2]? = some x := ⟨_, Array.getElem?_eq_getElem (by omega)⟩
              obtain ⟨x3, hx3⟩ : ∃ x, cs[j * 5 + 3]? = some x := ⟨_, Array.getElem?_eq_getElem (by omega)⟩
              obtain ⟨x4, hx4⟩ : ∃ x, cs[j * 5 + 4]? = some x := ⟨_, Array.getElem?_eq_getElem (by omega)⟩
              have c0 := (cc (j * 5)).trans hx0
              have c1 := (cc (j * 5 + 1)).trans hx1
              have c2 := (cc (j * 5 + 2)).trans hx2
              have c3 := (cc (j * 5 + 3)).trans hx3
              have c4 := (cc (j * 5 + 4)).trans hx4
              have f0 := ff (j * 5)
              have f1 := ff (j * 5 + 1)
              have f2 := ff (j * 5 + 2)
              have f3 := ff (j * 5 + 3)
              have f4 := ff (j * 5 + 4)
              have hgW : w6.heap.size ≤ g := Nat.le_trans HWB.out hBg
              have hs := set_blk (set_blk (set_blk (set_blk (set_blk hg (j * 5) (.int .i64 (-1))) (j * 5 + 1) (.int .i64 0)) (j * 5 + 2) (.int .i64 0)) (j * 5 + 3) (.int .i64 0)) (j * 5 + 4) (.string ⟨#[]⟩)
              have hbb := Lib.hid (((((hY.out.setCell (p := ⟨g, j * 5, none⟩) hgW (.int .i64 (-1))).setCell (p := ⟨g, j * 5 + 1, none⟩) hgW (.int .i64 0)).setCell (p := ⟨g, j * 5 + 2, none⟩) hgW (.int .i64 0)).setCell (p := ⟨g, j * 5 + 3, none⟩) hgW (.int .i64 0)).setCell (p := ⟨g, j * 5 + 4, none⟩) hgW (.string ⟨#[]⟩))
              have hsp : Hid (SpoilAt _ wB (some ⟨g, 0, none⟩) dn) := Lib.hid (.inr ⟨g, _, rfl, hBg, hs, by simp only [Array.size_setIfInBounds]; exact hcs⟩)
              clear cc ff hx0 hx1 hx2 hx3 hx4 hg hcs hs hS hY hBg hgW
              go_wp2
              go_roundg (dn - (j + 1))
              case measure => rw [HGJ.out]; omega
              case rel => exact ⟨j + 1, by omega, rfl, by go_num, hsp, hbb⟩
            · go_wp2
              go_roundg (2 - (k + 1))
              case measure => rw [HGG.out]; omega
              case rel => exact ⟨k + 1, by omega, rfl, by go_num, hY⟩
        · obtain rfl : k = 2 := by omega
          go_wp2_with fail
          refine (same_self hQr.out hTr.out).mono ?_
          rintro e ws ⟨rfl, hq⟩
          have chs := Lib.hid (chr.out.trans (hq.mono chr.out.size))
          clear hq
          go_wp2_with fail
          refine (awake10_any _).mono ?_
          rintro e wz ⟨rfl, hqz⟩
          go_wp2
          go_ret
          exact ⟨rfl, chs.out.trans (hqz.mono chs.out.size)⟩
end Go.Proofs.Ytdjbcmfjlfkcjaa


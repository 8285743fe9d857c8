/- univ: Universal. -/
import Derived.Test.YtlaeljkjdfffjaaUni4
namespace Go.Proofs.Ytlaeljkjdfffjaa
open Go.RowKit Go.Maps

theorem univG_okFr : okFr univG.a = true := by decide +kernel
theorem univG_okPl : okPl univG.a = true := by decide +kernel
theorem univG_sz : univG.a.sz ≤ 1000000 := by decide +kernel

set_option maxRecDepth 40000 in
set_option maxHeartbeats 40000000 in
theorem universal_any (w : World) : Calls Try.prog 15 #[] w fun e w' => ∃ v, e = .returned v ∧ OwnI w' w.heap.size v univL ∧ Below w.heap.size w w' := by
  go_enter Try.func15, Try.ntmps15
  go_wp2_with fail
  refine (anew_any _).mono ?_
  rintro e wN ⟨ba, b1, b2, rfl, hA, hbN⟩
  go_wp2_with fail
  obtain ⟨wA, hW⟩ : ∃ z, (wN.alloc (.cells #[.pointer (some ⟨ba, 0, none⟩), .int .i64 0] 90)).alloc (.cells #[.pointer (some ⟨wN.heap.size, 0, none⟩)] 86) = z := ⟨_, rfl⟩
  rw [hW]
  have e1 : (wN.alloc (.cells #[.pointer (some ⟨ba, 0, none⟩), .int .i64 0] 90)).heap.size = wN.heap.size + 1 := by simp
  have hb1 : Below wN.heap.size wN wA := by rw [← hW]; exact ((Below.refl _ _).alloc (Nat.le_refl _) _).alloc (by omega) _
  have hX := Lib.hid (show BoxW wA (wN.heap.size + 1) wN.heap.size from by rw [← hW]; have h := heap_alloc_new (wN.alloc (.cells #[.pointer (some ⟨ba, 0, none⟩), .int .i64 0] 90)) (.cells #[.pointer (some ⟨wN.heap.size, 0, none⟩)] 86); rw [e1] at h; exact h)
  have hsz := hbN.size
  have hblk : wA.heap[wN.heap.size]? = some (.cells #[.pointer (some ⟨ba, 0, none⟩), .int .i64 ((0 : Nat) : Int)] 90 (0, 0)) := by
    rw [← hW]
    have h := heap_alloc_new wN (.cells #[.pointer (some ⟨ba, 0, none⟩), .int .i64 ((0 : Nat) : Int)] 90)
    have hq := ((Below.refl (wN.alloc (.cells #[.pointer (some ⟨ba, 0, none⟩), .int .i64 0] 90)).heap.size (wN.alloc (.cells #[.pointer (some ⟨ba, 0, none⟩), .int .i64 0] 90))).alloc (Nat.le_refl _) (.cells #[.pointer (some ⟨wN.heap.size, 0, none⟩)] 86)).block wN.heap.size (by omega)
    exact hq.trans h
  obtain ⟨g, hg0⟩ : ∃ g : UnG, (⟨AsmG.new, 0⟩ : UnG) = g := ⟨_, rfl⟩
  have hU := Lib.hid (show UnW wA w.heap.size wN.heap.size ba b1 b2 g from by rw [← hg0]; exact ⟨hblk, hA.below hb1, hsz⟩)
  have HB := Lib.hid (show g.a.sz ≤ 0 ∧ g.n ≤ 0 by rw [← hg0]; exact ⟨by decide, by decide⟩)
  replace hg0 := Lib.hid hg0
  obtain ⟨B, hB⟩ : ∃ z, w.heap.size = z := ⟨_, rfl⟩
  rw [hB] at hU hbN hsz
  have hC := Lib.hid (show UChg B w wA from ⟨hbN.trans (hb1.mono hsz), fun T _ _ _ => (Kept.below (by rw [hB]; exact hbN)).trans (Kept.below hb1)⟩)
  obtain ⟨bw, hbw⟩ : ∃ z, wN.heap.size = z := ⟨_, rfl⟩
  rw [hbw] at hU hX ⊢
  obtain ⟨bx, hbx⟩ : ∃ z, bw + 1 = z := ⟨_, rfl⟩
  rw [hbx] at hX ⊢
  clear hW e1 hb1 hsz hblk hbw hbx hA hbN
  refine (uhead_any hU.out 1 0 (by omega) (by omega) (by have hb := HB.out; omega)).mono ?_
  rintro e w1 ⟨rfl, hU, hq⟩
  replace hX := Lib.hid (hX.out.chg hq)
  replace hC := Lib.hid (hC.out.trans hq)
  clear hq
  obtain ⟨g1, hg1⟩ : ∃ z, g.put (hdI 1 0) = z := ⟨_, rfl⟩
  rw [hg1] at hU
  have hs1 : g1.a.sz = g.a.sz + 1 := by rw [← hg1]; exact UnG.put_sz _ _
  have hn1 : g1.n = g.n + 0 := by rw [← hg1]; exact UnG.put_n _ _
  replace HB := Lib.hid (show g1.a.sz ≤ 1 ∧ g1.n ≤ 0 by have hb := HB.out; omega)
  replace hn1 := Lib.hid hn1
  clear hs1
  replace hU := Lib.hid hU
  replace hg1 := Lib.hid hg1
  have c0 := hU.out.cell
  have cx := hX.out.cell
  go_wp2_with fail
  refine (utail_any hU.out 8 0 (by omega) (by omega) (by have hb := HB.out; omega)).mono ?_
  rintro e w2 ⟨rfl, hU, hq⟩
  clear c0
  clear cx
  replace hX := Lib.hid (hX.out.chg hq)
  replace hC := Lib.hid (hC.out.trans hq)
  clear hq
  obtain ⟨g2, hg2⟩ : ∃ z, g1.put (tlI 8 0) = z := ⟨_, rfl⟩
  rw [hg2] at hU
  have hs2 : g2.a.sz = g1.a.sz + 1 := by rw [← hg2]; exact UnG.put_sz _ _
  have hn2 : g2.n = g1.n + 0 := by rw [← hg2]; exact UnG.put_n _ _
  replace HB := Lib.hid (show g2.a.sz ≤ 2 ∧ g2.n ≤ 0 by have hb := HB.out; omega)
  replace hn2 := Lib.hid hn2
  clear hs2
  replace hU := Lib.hid hU
  replace hg2 := Lib.hid hg2
  have c0 := hU.out.cell
  have cx := hX.out.cell
  go_wp2_with fail
  refine (umove_any hU.out 2 1 (by omega) (by omega) (by have hb := HB.out; omega)).mono ?_
  rintro e w3 ⟨rfl, hU, hq⟩
  clear c0
  clear cx
  replace hX := Lib.hid (hX.out.chg hq)
  replace hC := Lib.hid (hC.out.trans hq)
  clear hq
  obtain ⟨g3, hg3⟩ : ∃ z, g2.put (moveI 2 1) = z := ⟨_, rfl⟩
  rw [hg3] at hU
  have hs3 : g3.a.sz = g2.a.sz + 1 := by rw [← hg3]; exact UnG.put_sz _ _
  have hn3 : g3.n = g2.n + 0 := by rw [← hg3]; exact UnG.put_n _ _
  replace HB := Lib.hid (show g3.a.sz ≤ 3 ∧ g3.n ≤ 0 by have hb := HB.out; omega)
  replace hn3 := Lib.hid hn3
  clear hs3
  replace hU := Lib.hid hU
  replace hg3 := Lib.hid hg3
  have c0 := hU.out.cell
  have cx := hX.out.cell
  go_wp2_with fail
  refine (ucons_any hU.out 4 8 4 (by omega) (by omega) (by omega) (by have hb := HB.out; omega)).mono ?_
  rintro e w4 ⟨rfl, hU, hq⟩
  clear c0
  clear cx
  replace hX := Lib.hid (hX.out.chg hq)
  replace hC := Lib.hid (hC.out.trans hq)
  clear hq
  obtain ⟨g4, hg4⟩ : ∃ z, g3.put (consI 4 8 4) = z := ⟨_, rfl⟩
  rw [hg4] at hU
  have hs4 : g4.a.sz = g3.a.sz + 1 := by rw [← hg4]; exact UnG.put_sz _ _
  have hn4 : g4.n = g3.n + 0 := by rw [← hg4]; exact UnG.put_n _ _
  replace HB := Lib.hid (show g4.a.sz ≤ 4 ∧ g4.n ≤ 0 by have hb := HB.out; omega)
  replace hn4 := Lib.hid hn4
  clear hs4
  replace hU := Lib.hid hU
  replace hg4 := Lib.hid hg4
  have c0 := hU.out.cell
  have cx := hX.out.cell
  go_wp2_with fail
  refine (uset_any hU.out 14 ⟨#[49, 48, 48]⟩ (by omega) (by decide) (by have hb := HB.out; omega)).mono ?_
  rintro e w5 ⟨rfl, hU, hq⟩
  clear c0
  clear cx
  replace hX := Lib.hid (hX.out.chg hq)
  replace hC := Lib.hid (hC.out.trans hq)
  clear hq
  obtain ⟨g5, hg5⟩ : ∃ z, g4.put (setI 14 ⟨#[49, 48, 48]⟩) = z := ⟨_, rfl⟩
  rw [hg5] at hU
  have hs5 : g5.a.sz = g4.a.sz + 1 := by rw [← hg5]; exact UnG.put_sz _ _
  have hn5 : g5.n = g4.n + 0 := by rw [← hg5]; exact UnG.put_n _ _
  replace HB := Lib.hid (show g5.a.sz ≤ 5 ∧ g5.n ≤ 0 by have hb := HB.out; omega)
  replace hn5 := Lib.hid hn5
  clear hs5
  replace hU := Lib.hid hU
  replace hg5 := Lib.hid hg5
  have c0 := hU.out.cell
  have cx := hX.out.cell
  go_wp2_with fail
  refine (uhere_any hU.out ⟨#[108, 111, 111, 112]⟩ (by decide) (by have hb := HB.out; omega)).mono ?_
  rintro e w6 ⟨rfl, hU, hq⟩
  clear c0
  clear cx
  replace hX := Lib.hid (hX.out.chg hq)
  replace hC := Lib.hid (hC.out.trans hq)
  clear hq
  obtain ⟨g6, hg6⟩ : ∃ z, g5.here ⟨#[108, 111, 111, 112]⟩ = z := ⟨_, rfl⟩
  rw [hg6] at hU
  have hs6 : g6.a.sz = g5.a.sz + 1 := by rw [← hg6]; exact UnG.here_sz _ _
  have hn6 : g6.n = g5.n + 0 := by rw [← hg6]; exact UnG.here_n _ _
  replace HB := Lib.hid (show g6.a.sz ≤ 6 ∧ g6.n ≤ 0 by have hb := HB.out; omega)
  replace hn6 := Lib.hid hn6
  clear hs6
  replace hU := Lib.hid hU
  replace hg6 := Lib.hid hg6
  have c0 := hU.out.cell
  have cx := hX.out.cell
  go_wp2_with fail
  refine (ujump_any hU.out 2 ⟨#[103, 111]⟩ (by omega) (by decide) (by have hb := HB.out; omega)).mono ?_
  rintro e w7 ⟨rfl, hU, hq⟩
  clear c0
  clear cx
  replace hX := Lib.hid (hX.out.chg hq)
  replace hC := Lib.hid (hC.out.trans hq)
  clear hq
  obtain ⟨g7, hg7⟩ : ∃ z, g6.jump 2 ⟨#[103, 111]⟩ = z := ⟨_, rfl⟩
  rw [hg7] at hU
  have hs7 : g7.a.sz = g6.a.sz + 2 := by rw [← hg7]; exact UnG.jump_sz _ _ _
  have hn7 : g7.n = g6.n + 0 := by rw [← hg7]; exact UnG.jump_n _ _ _
  replace HB := Lib.hid (show g7.a.sz ≤ 8 ∧ g7.n ≤ 0 by have hb := HB.out; omega)
  replace hn7 := Lib.hid hn7
  clear hs7
  replace hU := Lib.hid hU
  replace hg7 := Lib.hid hg7
  have c0 := hU.out.cell
  have cx := hX.out.cell
  go_wp2_with fail
  refine (uhead_any hU.out 0 4 (by omega) (by omega) (by have hb := HB.out; omega)).mono ?_
  rintro e w8 ⟨rfl, hU, hq⟩
  clear c0
  clear cx
  replace hX := Lib.hid (hX.out.chg hq)
  replace hC := Lib.hid (hC.out.trans hq)
  clear hq
  obtain ⟨g8, hg8⟩ : ∃ z, g7.put (hdI 0 4) = z := ⟨_, rfl⟩
  rw [hg8] at hU
  have hs8 : g8.a.sz = g7.a.sz + 1 := by rw [← hg8]; exact UnG.put_sz _ _
  have hn8 : g8.n = g7.n + 0 := by rw [← hg8]; exact UnG.put_n _ _
  replace HB := Lib.hid (show g8.a.sz ≤ 9 ∧ g8.n ≤ 0 by have hb := HB.out; omega)
  replace hn8 := Lib.hid hn8
  clear hs8
  replace hU := Lib.hid hU
  replace hg8 := Lib.hid hg8
  have c0 := hU.out.cell
  have cx := hX.out.cell
  go_wp2_with fail
  refine (uleap_any hU.out ⟨#[101, 110, 100]⟩ (by decide) (by have hb := HB.out; omega)).mono ?_
  rintro e w9 ⟨rfl, hU, hq⟩
  clear c0
  clear cx
  replace hX := Lib.hid (hX.out.chg hq)
  replace hC := Lib.hid (hC.out.trans hq)
  clear hq
  obtain ⟨g9, hg9⟩ : ∃ z, g8.leap ⟨#[101, 110, 100]⟩ = z := ⟨_, rfl⟩
  rw [hg9] at hU
  have hs9 : g9.a.sz = g8.a.sz + 2 := by rw [← hg9]; exact UnG.leap_sz _ _
  have hn9 : g9.n = g8.n + 0 := by rw [← hg9]; exact UnG.leap_n _ _
  replace HB := Lib.hid (show g9.a.sz ≤ 11 ∧ g9.n ≤ 0 by have hb := HB.out; omega)
  replace hn9 := Lib.hid hn9
  clear hs9
  replace hU := Lib.hid hU
  replace hg9 := Lib.hid hg9
  have c0 := hU.out.cell
  have cx := hX.out.cell
  go_wp2_with fail
  refine (uhere_any hU.out ⟨#[103, 111]⟩ (by decide) (by have hb := HB.out; omega)).mono ?_
  rintro e w10 ⟨rfl, hU, hq⟩
  clear c0
  clear cx
  replace hX := Lib.hid (hX.out.chg hq)
  replace hC := Lib.hid (hC.out.trans hq)
  clear hq
  obtain ⟨g10, hg10⟩ : ∃ z, g9.here ⟨#[103, 111]⟩ = z := ⟨_, rfl⟩
  rw [hg10] at hU
  have hs10 : g10.a.sz = g9.a.sz + 1 := by rw [← hg10]; exact UnG.here_sz _ _
  have hn10 : g10.n = g9.n + 0 := by rw [← hg10]; exact UnG.here_n _ _
  replace HB := Lib.hid (show g10.a.sz ≤ 12 ∧ g10.n ≤ 0 by have hb := HB.out; omega)
  replace hn10 := Lib.hid hn10
  clear hs10
  replace hU := Lib.hid hU
  replace hg10 := Lib.hid hg10
  have c0 := hU.out.cell
  have cx := hX.out.cell
  go_wp2_with fail
  refine (uhead_any hU.out 13 2 (by omega) (by omega) (by have hb := HB.out; omega)).mono ?_
  rintro e w11 ⟨rfl, hU, hq⟩
  clear c0
  clear cx
  replace hX := Lib.hid (hX.out.chg hq)
  replace hC := Lib.hid (hC.out.trans hq)
  clear hq
  obtain ⟨g11, hg11⟩ : ∃ z, g10.put (hdI 13 2) = z := ⟨_, rfl⟩
  rw [hg11] at hU
  have hs11 : g11.a.sz = g10.a.sz + 1 := by rw [← hg11]; exact UnG.put_sz _ _
  have hn11 : g11.n = g10.n + 0 := by rw [← hg11]; exact UnG.put_n _ _
  replace HB := Lib.hid (show g11.a.sz ≤ 13 ∧ g11.n ≤ 0 by have hb := HB.out; omega)
  replace hn11 := Lib.hid hn11
  clear hs11
  replace hU := Lib.hid hU
  replace hg11 := Lib.hid hg11
  have c0 := hU.out.cell
  have cx := hX.out.cell
  go_wp2_with fail
  refine (uhead_any hU.out 5 13 (by omega) (by omega) (by have hb := HB.out; omega)).mono ?_
  rintro e w12 ⟨rfl, hU, hq⟩
  clear c0
  clear cx
  replace hX := Lib.hid (hX.out.chg hq)
  replace hC := Lib.hid (hC.out.trans hq)
  clear hq
  obtain ⟨g12, hg12⟩ : ∃ z, g11.put (hdI 5 13) = z := ⟨_, rfl⟩
  rw [hg12] at hU
  have hs12 : g12.a.sz = g11.a.sz + 1 := by rw [← hg12]; exact UnG.put_sz _ _
  have hn12 : g12.n = g11.n + 0 := by rw [← hg12]; exact UnG.put_n _ _
  replace HB := Lib.hid (show g12.a.sz ≤ 14 ∧ g12.n ≤ 0 by have hb := HB.out; omega)
  replace hn12 := Lib.hid hn12
  clear hs12
  replace hU := Lib.hid hU
  replace hg12 := Lib.hid hg12
  have c0 := hU.out.cell
  have cx := hX.out.cell
  go_wp2_with fail
  refine (utail_any hU.out 6 13 (by omega) (by omega) (by have hb := HB.out; omega)).mono ?_
  rintro e w13 ⟨rfl, hU, hq⟩
  clear c0
  clear cx
  replace hX := Lib.hid (hX.out.chg hq)
  replace hC := Lib.hid (hC.out.trans hq)
  clear hq
  obtain ⟨g13, hg13⟩ : ∃ z, g12.put (tlI 6 13) = z := ⟨_, rfl⟩
  rw [hg13] at hU
  have hs13 : g13.a.sz = g12.a.sz + 1 := by rw [← hg13]; exact UnG.put_sz _ _
  have hn13 : g13.n = g12.n + 0 := by rw [← hg13]; exact UnG.put_n _ _
  replace HB := Lib.hid (show g13.a.sz ≤ 15 ∧ g13.n ≤ 0 by have hb := HB.out; omega)
  replace hn13 := Lib.hid hn13
  clear hs13
  replace hU := Lib.hid hU
  replace hg13 := Lib.hid hg13
  have c0 := hU.out.cell
  have cx := hX.out.cell
  go_wp2_with fail
  refine (uhead_any hU.out 7 6 (by omega) (by omega) (by have hb := HB.out; omega)).mono ?_
  rintro e w14 ⟨rfl, hU, hq⟩
  clear c0
  clear cx
  replace hX := Lib.hid (hX.out.chg hq)
  replace hC := Lib.hid (hC.out.trans hq)
  clear hq
  obtain ⟨g14, hg14⟩ : ∃ z, g13.put (hdI 7 6) = z := ⟨_, rfl⟩
  rw [hg14] at hU
  have hs14 : g14.a.sz = g13.a.sz + 1 := by rw [← hg14]; exact UnG.put_sz _ _
  have hn14 : g14.n = g13.n + 0 := by rw [← hg14]; exact UnG.put_n _ _
  replace HB := Lib.hid (show g14.a.sz ≤ 16 ∧ g14.n ≤ 0 by have hb := HB.out; omega)
  replace hn14 := Lib.hid hn14
  clear hs14
  replace hU := Lib.hid hU
  replace hg14 := Lib.hid hg14
  have c0 := hU.out.cell
  have cx := hX.out.cell
  go_wp2_with fail
  refine (utail_any hU.out 6 6 (by omega) (by omega) (by have hb := HB.out; omega)).mono ?_
  rintro e w15 ⟨rfl, hU, hq⟩
  clear c0
  clear cx
  replace hX := Lib.hid (hX.out.chg hq)
  replace hC := Lib.hid (hC.out.trans hq)
  clear hq
  obtain ⟨g15, hg15⟩ : ∃ z, g14.put (tlI 6 6) = z := ⟨_, rfl⟩
  rw [hg15] at hU
  have hs15 : g15.a.sz = g14.a.sz + 1 := by rw [← hg15]; exact UnG.put_sz _ _
  have hn15 : g15.n = g14.n + 0 := by rw [← hg15]; exact UnG.put_n _ _
  replace HB := Lib.hid (show g15.a.sz ≤ 17 ∧ g15.n ≤ 0 by have hb := HB.out; omega)
  replace hn15 := Lib.hid hn15
  clear hs15
  replace hU := Lib.hid hU
  replace hg15 := Lib.hid hg15
  have c0 := hU.out.cell
  have cx := hX.out.cell
  go_wp2_with fail
  refine (ukind_1 hU.out _ (enters_of Try.func72 (by kernel_rfl) rfl) (.pointer (some ⟨bx, 0, none⟩)) (fun g => g.put (moveI 8 6)) 1 0 (put_adds _) (by omega) (by omega) (du1_any hX.out) ⟨#[115, 116, 111, 114, 101]⟩ (by decide) (by have hb := HB.out; omega)).mono ?_
  rintro e w16 ⟨rfl, hU, hq⟩
  clear c0
  clear cx
  replace hX := Lib.hid (hX.out.chg hq)
  replace hC := Lib.hid (hC.out.trans hq)
  clear hq
  obtain ⟨g16, hg16⟩ : ∃ z, UnG.kind (fun g => g.put (moveI 8 6)) ⟨#[115, 116, 111, 114, 101]⟩ g15 = z := ⟨_, rfl⟩
  rw [hg16] at hU
  have hs16 : g16.a.sz = g15.a.sz + 7 := by rw [← hg16]; exact (UnG.kind_adds (put_adds _) _).sz _
  have hn16 : g16.n = g15.n + 1 := by rw [← hg16]; exact (UnG.kind_adds (put_adds _) _).n _
  replace HB := Lib.hid (show g16.a.sz ≤ 24 ∧ g16.n ≤ 1 by have hb := HB.out; omega)
  replace hn16 := Lib.hid hn16
  clear hs16
  replace hU := Lib.hid hU
  replace hg16 := Lib.hid hg16
  have c0 := hU.out.cell
  have cx := hX.out.cell
  have hltx : bx < w16.heap.size := (Array.getElem?_eq_some_iff.1 (show w16.heap[bx]? = some _ from hX.out)).1
  have cA : (w16.alloc (.cells #[.func (.func 73) #[] #[.pointer (some ⟨bx, 0, none⟩)]] 1)).cell? ⟨bx, 0, none⟩ = some (.pointer (some ⟨bw, 0, none⟩)) := (((Below.refl w16.heap.size w16).alloc (Nat.le_refl _) _).cell (p := ⟨bx, 0, none⟩) hltx).trans cx
  go_wp2_with fail
  clear hltx cA
  obtain ⟨wG, hW⟩ : ∃ z, w16.alloc (.cells #[.func (.func 73) #[] #[.pointer (some ⟨bx, 0, none⟩)]] 1) = z := ⟨_, rfl⟩
  rw [hW]
  have hb : Below w16.heap.size w16 wG := by rw [← hW]; exact (Below.refl _ _).alloc (Nat.le_refl _) _
  have hG := Lib.hid (show wG.heap[w16.heap.size]? = some (.cells #[.func (.func 73) #[] #[.pointer (some ⟨bx, 0, none⟩)]] 1 (0, 0)) from by rw [← hW]; exact heap_alloc_new _ _)
  have hle := hU.out.le
  have hltw := hU.out.lt
  have hcB := UChg.of_below (B := B) hb (by omega)
  replace hC := Lib.hid (hC.out.trans hcB)
  replace hX := Lib.hid (hX.out.chg hcB)
  replace hU := Lib.hid (hU.out.below hb)
  obtain ⟨bg, hbg⟩ : ∃ z, w16.heap.size = z := ⟨_, rfl⟩
  rw [hbg] at hG ⊢
  clear hW hb hle hltw hcB hbg
  clear c0
  clear cx
  refine (ukind_1 hU.out _ (enters_of Try.func73 (by kernel_rfl) rfl) (.pointer (some ⟨bx, 0, none⟩)) (UnG.get) 14 3 (get_adds) (by omega) (by omega) (du2_any hX.out) ⟨#[115, 116, 111, 114, 101]⟩ (by decide) (by have hb := HB.out; omega)).mono ?_
  rintro e w17 ⟨rfl, hU, hq⟩
  replace hX := Lib.hid (hX.out.chg hq)
  replace hG := Lib.hid (hq.kept _ (by decide) (by decide) (by decide) _ _ hG.out)
  replace hC := Lib.hid (hC.out.trans hq)
  clear hq
  obtain ⟨g17, hg17⟩ : ∃ z, UnG.kind (UnG.get) ⟨#[115, 116, 111, 114, 101]⟩ g16 = z := ⟨_, rfl⟩
  rw [hg17] at hU
  have hs17 : g17.a.sz = g16.a.sz + 20 := by rw [← hg17]; exact (UnG.kind_adds (get_adds) _).sz _
  have hn17 : g17.n = g16.n + 4 := by rw [← hg17]; exact (UnG.kind_adds (get_adds) _).n _
  replace HB := Lib.hid (show g17.a.sz ≤ 44 ∧ g17.n ≤ 5 by have hb := HB.out; omega)
  replace hn17 := Lib.hid hn17
  clear hs17
  replace hU := Lib.hid hU
  replace hg17 := Lib.hid hg17
  have c0 := hU.out.cell
  have cx := hX.out.cell
  have c_hG := (block_cells hG.out).1 0
  go_wp2_with fail
  refine (ukind_1 hU.out _ (enters_of Try.func75 (by kernel_rfl) rfl) (.pointer (some ⟨bx, 0, none⟩)) (UnG.k2) 29 6 (k2_adds) (by omega) (by omega) (du3_any hX.out) ⟨#[115, 116, 111, 114, 101]⟩ (by decide) (by have hb := HB.out; omega)).mono ?_
  rintro e w18 ⟨rfl, hU, hq⟩
  clear c0
  clear cx
  clear c_hG
  replace hX := Lib.hid (hX.out.chg hq)
  replace hG := Lib.hid (hq.kept _ (by decide) (by decide) (by decide) _ _ hG.out)
  replace hC := Lib.hid (hC.out.trans hq)
  clear hq
  obtain ⟨g18, hg18⟩ : ∃ z, UnG.kind (UnG.k2) ⟨#[115, 116, 111, 114, 101]⟩ g17 = z := ⟨_, rfl⟩
  rw [hg18] at hU
  have hs18 : g18.a.sz = g17.a.sz + 35 := by rw [← hg18]; exact (UnG.kind_adds (k2_adds) _).sz _
  have hn18 : g18.n = g17.n + 7 := by rw [← hg18]; exact (UnG.kind_adds (k2_adds) _).n _
  replace HB := Lib.hid (show g18.a.sz ≤ 79 ∧ g18.n ≤ 12 by have hb := HB.out; omega)
  replace hn18 := Lib.hid hn18
  clear hs18
  replace hU := Lib.hid hU
  replace hg18 := Lib.hid hg18
  have c0 := hU.out.cell
  have cx := hX.out.cell
  have c_hG := (block_cells hG.out).1 0
  go_wp2_with fail
  refine (ukind_2 hU.out _ (enters_of Try.func76 (by kernel_rfl) rfl) (.pointer (some ⟨bg, 0, none⟩)) (.pointer (some ⟨bx, 0, none⟩)) (UnG.k3) 15 3 (k3_adds) (by omega) (by omega) (du4_any hX.out hG.out) ⟨#[115, 116, 111, 114, 101]⟩ (by decide) (by have hb := HB.out; omega)).mono ?_
  rintro e w19 ⟨rfl, hU, hq⟩
  clear c0
  clear cx
  clear c_hG
  replace hX := Lib.hid (hX.out.chg hq)
  replace hG := Lib.hid (hq.kept _ (by decide) (by decide) (by decide) _ _ hG.out)
  replace hC := Lib.hid (hC.out.trans hq)
  clear hq
  obtain ⟨g19, hg19⟩ : ∃ z, UnG.kind (UnG.k3) ⟨#[115, 116, 111, 114, 101]⟩ g18 = z := ⟨_, rfl⟩
  rw [hg19] at hU
  have hs19 : g19.a.sz = g18.a.sz + 21 := by rw [← hg19]; exact (UnG.kind_adds (k3_adds) _).sz _
  have hn19 : g19.n = g18.n + 4 := by rw [← hg19]; exact (UnG.kind_adds (k3_adds) _).n _
  replace HB := Lib.hid (show g19.a.sz ≤ 100 ∧ g19.n ≤ 16 by have hb := HB.out; omega)
  replace hn19 := Lib.hid hn19
  clear hs19
  replace hU := Lib.hid hU
  replace hg19 := Lib.hid hg19
  have c0 := hU.out.cell
  have cx := hX.out.cell
  have c_hG := (block_cells hG.out).1 0
  go_wp2_with fail
  refine (ukind_2 hU.out _ (enters_of Try.func77 (by kernel_rfl) rfl) (.pointer (some ⟨bg, 0, none⟩)) (.pointer (some ⟨bx, 0, none⟩)) (UnG.k4) 15 3 (k4_adds) (by omega) (by omega) (du5_any hX.out hG.out) ⟨#[115, 116, 111, 114, 101]⟩ (by decide) (by have hb := HB.out; omega)).mono ?_
  rintro e w20 ⟨rfl, hU, hq⟩
  clear c0
  clear cx
  clear c_hG
  replace hX := Lib.hid (hX.out.chg hq)
  replace hG := Lib.hid (hq.kept _ (by decide) (by decide) (by decide) _ _ hG.out)
  replace hC := Lib.hid (hC.out.trans hq)
  clear hq
  obtain ⟨g20, hg20⟩ : ∃ z, UnG.kind (UnG.k4) ⟨#[115, 116, 111, 114, 101]⟩ g19 = z := ⟨_, rfl⟩
  rw [hg20] at hU
  have hs20 : g20.a.sz = g19.a.sz + 21 := by rw [← hg20]; exact (UnG.kind_adds (k4_adds) _).sz _
  have hn20 : g20.n = g19.n + 4 := by rw [← hg20]; exact (UnG.kind_adds (k4_adds) _).n _
  replace HB := Lib.hid (show g20.a.sz ≤ 121 ∧ g20.n ≤ 20 by have hb := HB.out; omega)
  replace hn20 := Lib.hid hn20
  clear hs20
  replace hU := Lib.hid hU
  replace hg20 := Lib.hid hg20
  have c0 := hU.out.cell
  have cx := hX.out.cell
  have c_hG := (block_cells hG.out).1 0
  go_wp2_with fail
  refine (umove_any hU.out 10 7 (by omega) (by omega) (by have hb := HB.out; omega)).mono ?_
  rintro e w21 ⟨rfl, hU, hq⟩
  clear c0
  clear cx
  clear c_hG
  replace hX := Lib.hid (hX.out.chg hq)
  replace hG := Lib.hid (hq.kept _ (by decide) (by decide) (by decide) _ _ hG.out)
  replace hC := Lib.hid (hC.out.trans hq)
  clear hq
  obtain ⟨g21, hg21⟩ : ∃ z, g20.put (moveI 10 7) = z := ⟨_, rfl⟩
  rw [hg21] at hU
  have hs21 : g21.a.sz = g20.a.sz + 1 := by rw [← hg21]; exact UnG.put_sz _ _
  have hn21 : g21.n = g20.n + 0 := by rw [← hg21]; exact UnG.put_n _ _
  replace HB := Lib.hid (show g21.a.sz ≤ 122 ∧ g21.n ≤ 20 by have hb := HB.out; omega)
  replace hn21 := Lib.hid hn21
  clear hs21
  replace hU := Lib.hid hU
  replace hg21 := Lib.hid hg21
  have c0 := hU.out.cell
  have cx := hX.out.cell
  have c_hG := (block_cells hG.out).1 0
  go_wp2_with fail
  refine (ufetch_any hU.out 8 (by omega) (by have hb := HB.out; omega)).mono ?_
  rintro e w22 ⟨rfl, hU, hq⟩
  clear c0
  clear cx
  clear c_hG
  replace hX := Lib.hid (hX.out.chg hq)
  replace hG := Lib.hid (hq.kept _ (by decide) (by decide) (by decide) _ _ hG.out)
  replace hC := Lib.hid (hC.out.trans hq)
  clear hq
  obtain ⟨g22, hg22⟩ : ∃ z, UnG.fetch 8 g21 = z := ⟨_, rfl⟩
  rw [hg22] at hU
  have hs22 : g22.a.sz = g21.a.sz + 13 := by rw [← hg22]; exact (fetch_adds 8).sz _
  have hn22 : g22.n = g21.n + 3 := by rw [← hg22]; exact (fetch_adds 8).n _
  replace HB := Lib.hid (show g22.a.sz ≤ 135 ∧ g22.n ≤ 23 by have hb := HB.out; omega)
  replace hn22 := Lib.hid hn22
  clear hs22
  replace hU := Lib.hid hU
  replace hg22 := Lib.hid hg22
  have c0 := hU.out.cell
  have cx := hX.out.cell
  have c_hG := (block_cells hG.out).1 0
  go_wp2_with fail
  refine (ujump_any hU.out 8 ⟨#[116, 97, 107, 101, 110]⟩ (by omega) (by decide) (by have hb := HB.out; omega)).mono ?_
  rintro e w23 ⟨rfl, hU, hq⟩
  clear c0
  clear cx
  clear c_hG
  replace hX := Lib.hid (hX.out.chg hq)
  replace hG := Lib.hid (hq.kept _ (by decide) (by decide) (by decide) _ _ hG.out)
  replace hC := Lib.hid (hC.out.trans hq)
  clear hq
  obtain ⟨g23, hg23⟩ : ∃ z, g22.jump 8 ⟨#[116, 97, 107, 101, 110]⟩ = z := ⟨_, rfl⟩
  rw [hg23] at hU
  have hs23 : g23.a.sz = g22.a.sz + 2 := by rw [← hg23]; exact UnG.jump_sz _ _ _
  have hn23 : g23.n = g22.n + 0 := by rw [← hg23]; exact UnG.jump_n _ _ _
  replace HB := Lib.hid (show g23.a.sz ≤ 137 ∧ g23.n ≤ 23 by have hb := HB.out; omega)
  replace hn23 := Lib.hid hn23
  clear hs23
  replace hU := Lib.hid hU
  replace hg23 := Lib.hid hg23
  have c0 := hU.out.cell
  have cx := hX.out.cell
  have c_hG := (block_cells hG.out).1 0
  go_wp2_with fail
  refine (uhere_any hU.out ⟨#[110, 101, 120, 116]⟩ (by decide) (by have hb := HB.out; omega)).mono ?_
  rintro e w24 ⟨rfl, hU, hq⟩
  clear c0
  clear cx
  clear c_hG
  replace hX := Lib.hid (hX.out.chg hq)
  replace hG := Lib.hid (hq.kept _ (by decide) (by decide) (by decide) _ _ hG.out)
  replace hC := Lib.hid (hC.out.trans hq)
  clear hq
  obtain ⟨g24, hg24⟩ : ∃ z, g23.here ⟨#[110, 101, 120, 116]⟩ = z := ⟨_, rfl⟩
  rw [hg24] at hU
  have hs24 : g24.a.sz = g23.a.sz + 1 := by rw [← hg24]; exact UnG.here_sz _ _
  have hn24 : g24.n = g23.n + 0 := by rw [← hg24]; exact UnG.here_n _ _
  replace HB := Lib.hid (show g24.a.sz ≤ 138 ∧ g24.n ≤ 23 by have hb := HB.out; omega)
  replace hn24 := Lib.hid hn24
  clear hs24
  replace hU := Lib.hid hU
  replace hg24 := Lib.hid hg24
  have c0 := hU.out.cell
  have cx := hX.out.cell
  have c_hG := (block_cells hG.out).1 0
  go_wp2_with fail
  refine (unext_any hU.out (by have hb := HB.out; omega)).mono ?_
  rintro e w25 ⟨rfl, hU, hq⟩
  clear c0
  clear cx
  clear c_hG
  replace hX := Lib.hid (hX.out.chg hq)
  replace hG := Lib.hid (hq.kept _ (by decide) (by decide) (by decide) _ _ hG.out)
  replace hC := Lib.hid (hC.out.trans hq)
  clear hq
  obtain ⟨g25, hg25⟩ : ∃ z, UnG.next g24 = z := ⟨_, rfl⟩
  rw [hg25] at hU
  have hs25 : g25.a.sz = g24.a.sz + 3 := by rw [← hg25]; exact (next_adds).sz _
  have hn25 : g25.n = g24.n + 0 := by rw [← hg25]; exact (next_adds).n _
  replace HB := Lib.hid (show g25.a.sz ≤ 141 ∧ g25.n ≤ 23 by have hb := HB.out; omega)
  replace hn25 := Lib.hid hn25
  clear hs25
  replace hU := Lib.hid hU
  replace hg25 := Lib.hid hg25
  have c0 := hU.out.cell
  have cx := hX.out.cell
  have c_hG := (block_cells hG.out).1 0
  go_wp2_with fail
  refine (uleap_any hU.out ⟨#[108, 111, 111, 112]⟩ (by decide) (by have hb := HB.out; omega)).mono ?_
  rintro e w26 ⟨rfl, hU, hq⟩
  clear c0
  clear cx
  clear c_hG
  replace hX := Lib.hid (hX.out.chg hq)
  replace hG := Lib.hid (hq.kept _ (by decide) (by decide) (by decide) _ _ hG.out)
  replace hC := Lib.hid (hC.out.trans hq)
  clear hq
  obtain ⟨g26, hg26⟩ : ∃ z, g25.leap ⟨#[108, 111, 111, 112]⟩ = z := ⟨_, rfl⟩
  rw [hg26] at hU
  have hs26 : g26.a.sz = g25.a.sz + 2 := by rw [← hg26]; exact UnG.leap_sz _ _
  have hn26 : g26.n = g25.n + 0 := by rw [← hg26]; exact UnG.leap_n _ _
  replace HB := Lib.hid (show g26.a.sz ≤ 143 ∧ g26.n ≤ 23 by have hb := HB.out; omega)
  replace hn26 := Lib.hid hn26
  clear hs26
  replace hU := Lib.hid hU
  replace hg26 := Lib.hid hg26
  have c0 := hU.out.cell
  have cx := hX.out.cell
  have c_hG := (block_cells hG.out).1 0
  go_wp2_with fail
  refine (uhere_any hU.out ⟨#[115, 116, 111, 114, 101]⟩ (by decide) (by have hb := HB.out; omega)).mono ?_
  rintro e w27 ⟨rfl, hU, hq⟩
  clear c0
  clear cx
  clear c_hG
  replace hX := Lib.hid (hX.out.chg hq)
  replace hG := Lib.hid (hq.kept _ (by decide) (by decide) (by decide) _ _ hG.out)
  replace hC := Lib.hid (hC.out.trans hq)
  clear hq
  obtain ⟨g27, hg27⟩ : ∃ z, g26.here ⟨#[115, 116, 111, 114, 101]⟩ = z := ⟨_, rfl⟩
  rw [hg27] at hU
  have hs27 : g27.a.sz = g26.a.sz + 1 := by rw [← hg27]; exact UnG.here_sz _ _
  have hn27 : g27.n = g26.n + 0 := by rw [← hg27]; exact UnG.here_n _ _
  replace HB := Lib.hid (show g27.a.sz ≤ 144 ∧ g27.n ≤ 23 by have hb := HB.out; omega)
  replace hn27 := Lib.hid hn27
  clear hs27
  replace hU := Lib.hid hU
  replace hg27 := Lib.hid hg27
  have c0 := hU.out.cell
  have cx := hX.out.cell
  have c_hG := (block_cells hG.out).1 0
  go_wp2_with fail
  refine (ustore_any hU.out (by have hb := HB.out; omega)).mono ?_
  rintro e w28 ⟨rfl, hU, hq⟩
  clear c0
  clear cx
  clear c_hG
  replace hX := Lib.hid (hX.out.chg hq)
  replace hG := Lib.hid (hq.kept _ (by decide) (by decide) (by decide) _ _ hG.out)
  replace hC := Lib.hid (hC.out.trans hq)
  clear hq
  obtain ⟨g28, hg28⟩ : ∃ z, UnG.store g27 = z := ⟨_, rfl⟩
  rw [hg28] at hU
  have hs28 : g28.a.sz = g27.a.sz + 31 := by rw [← hg28]; exact (store_adds).sz _
  have hn28 : g28.n = g27.n + 6 := by rw [← hg28]; exact (store_adds).n _
  replace HB := Lib.hid (show g28.a.sz ≤ 175 ∧ g28.n ≤ 29 by have hb := HB.out; omega)
  replace hn28 := Lib.hid hn28
  clear hs28
  replace hU := Lib.hid hU
  replace hg28 := Lib.hid hg28
  have c0 := hU.out.cell
  have cx := hX.out.cell
  have c_hG := (block_cells hG.out).1 0
  go_wp2_with fail
  refine (uleap_any hU.out ⟨#[110, 101, 120, 116]⟩ (by decide) (by have hb := HB.out; omega)).mono ?_
  rintro e w29 ⟨rfl, hU, hq⟩
  clear c0
  clear cx
  clear c_hG
  replace hX := Lib.hid (hX.out.chg hq)
  replace hG := Lib.hid (hq.kept _ (by decide) (by decide) (by decide) _ _ hG.out)
  replace hC := Lib.hid (hC.out.trans hq)
  clear hq
  obtain ⟨g29, hg29⟩ : ∃ z, g28.leap ⟨#[110, 101, 120, 116]⟩ = z := ⟨_, rfl⟩
  rw [hg29] at hU
  have hs29 : g29.a.sz = g28.a.sz + 2 := by rw [← hg29]; exact UnG.leap_sz _ _
  have hn29 : g29.n = g28.n + 0 := by rw [← hg29]; exact UnG.leap_n _ _
  replace HB := Lib.hid (show g29.a.sz ≤ 177 ∧ g29.n ≤ 29 by have hb := HB.out; omega)
  replace hn29 := Lib.hid hn29
  clear hs29
  replace hU := Lib.hid hU
  replace hg29 := Lib.hid hg29
  have c0 := hU.out.cell
  have cx := hX.out.cell
  have c_hG := (block_cells hG.out).1 0
  go_wp2_with fail
  refine (uhere_any hU.out ⟨#[116, 97, 107, 101, 110]⟩ (by decide) (by have hb := HB.out; omega)).mono ?_
  rintro e w30 ⟨rfl, hU, hq⟩
  clear c0
  clear cx
  clear c_hG
  replace hX := Lib.hid (hX.out.chg hq)
  replace hG := Lib.hid (hq.kept _ (by decide) (by decide) (by decide) _ _ hG.out)
  replace hC := Lib.hid (hC.out.trans hq)
  clear hq
  obtain ⟨g30, hg30⟩ : ∃ z, g29.here ⟨#[116, 97, 107, 101, 110]⟩ = z := ⟨_, rfl⟩
  rw [hg30] at hU
  have hs30 : g30.a.sz = g29.a.sz + 1 := by rw [← hg30]; exact UnG.here_sz _ _
  have hn30 : g30.n = g29.n + 0 := by rw [← hg30]; exact UnG.here_n _ _
  replace HB := Lib.hid (show g30.a.sz ≤ 178 ∧ g30.n ≤ 29 by have hb := HB.out; omega)
  replace hn30 := Lib.hid hn30
  clear hs30
  replace hU := Lib.hid hU
  replace hg30 := Lib.hid hg30
  have c0 := hU.out.cell
  have cx := hX.out.cell
  have c_hG := (block_cells hG.out).1 0
  go_wp2_with fail
  refine (uhead_any hU.out 13 6 (by omega) (by omega) (by have hb := HB.out; omega)).mono ?_
  rintro e w31 ⟨rfl, hU, hq⟩
  clear c0
  clear cx
  clear c_hG
  replace hX := Lib.hid (hX.out.chg hq)
  replace hG := Lib.hid (hq.kept _ (by decide) (by decide) (by decide) _ _ hG.out)
  replace hC := Lib.hid (hC.out.trans hq)
  clear hq
  obtain ⟨g31, hg31⟩ : ∃ z, g30.put (hdI 13 6) = z := ⟨_, rfl⟩
  rw [hg31] at hU
  have hs31 : g31.a.sz = g30.a.sz + 1 := by rw [← hg31]; exact UnG.put_sz _ _
  have hn31 : g31.n = g30.n + 0 := by rw [← hg31]; exact UnG.put_n _ _
  replace HB := Lib.hid (show g31.a.sz ≤ 179 ∧ g31.n ≤ 29 by have hb := HB.out; omega)
  replace hn31 := Lib.hid hn31
  clear hs31
  replace hU := Lib.hid hU
  replace hg31 := Lib.hid hg31
  have c0 := hU.out.cell
  have cx := hX.out.cell
  have c_hG := (block_cells hG.out).1 0
  go_wp2_with fail
  refine (utail_any hU.out 10 6 (by omega) (by omega) (by have hb := HB.out; omega)).mono ?_
  rintro e w32 ⟨rfl, hU, hq⟩
  clear c0
  clear cx
  clear c_hG
  replace hX := Lib.hid (hX.out.chg hq)
  replace hG := Lib.hid (hq.kept _ (by decide) (by decide) (by decide) _ _ hG.out)
  replace hC := Lib.hid (hC.out.trans hq)
  clear hq
  obtain ⟨g32, hg32⟩ : ∃ z, g31.put (tlI 10 6) = z := ⟨_, rfl⟩
  rw [hg32] at hU
  have hs32 : g32.a.sz = g31.a.sz + 1 := by rw [← hg32]; exact UnG.put_sz _ _
  have hn32 : g32.n = g31.n + 0 := by rw [← hg32]; exact UnG.put_n _ _
  replace HB := Lib.hid (show g32.a.sz ≤ 180 ∧ g32.n ≤ 29 by have hb := HB.out; omega)
  replace hn32 := Lib.hid hn32
  clear hs32
  replace hU := Lib.hid hU
  replace hg32 := Lib.hid hg32
  have c0 := hU.out.cell
  have cx := hX.out.cell
  have c_hG := (block_cells hG.out).1 0
  go_wp2_with fail
  refine (ujump_any hU.out 13 ⟨#[98, 97, 99, 107]⟩ (by omega) (by decide) (by have hb := HB.out; omega)).mono ?_
  rintro e w33 ⟨rfl, hU, hq⟩
  clear c0
  clear cx
  clear c_hG
  replace hX := Lib.hid (hX.out.chg hq)
  replace hG := Lib.hid (hq.kept _ (by decide) (by decide) (by decide) _ _ hG.out)
  replace hC := Lib.hid (hC.out.trans hq)
  clear hq
  obtain ⟨g33, hg33⟩ : ∃ z, g32.jump 13 ⟨#[98, 97, 99, 107]⟩ = z := ⟨_, rfl⟩
  rw [hg33] at hU
  have hs33 : g33.a.sz = g32.a.sz + 2 := by rw [← hg33]; exact UnG.jump_sz _ _ _
  have hn33 : g33.n = g32.n + 0 := by rw [← hg33]; exact UnG.jump_n _ _ _
  replace HB := Lib.hid (show g33.a.sz ≤ 182 ∧ g33.n ≤ 29 by have hb := HB.out; omega)
  replace hn33 := Lib.hid hn33
  clear hs33
  replace hU := Lib.hid hU
  replace hg33 := Lib.hid hg33
  have c0 := hU.out.cell
  have cx := hX.out.cell
  have c_hG := (block_cells hG.out).1 0
  go_wp2_with fail
  refine (ucount_B hU.out _ (enters_of Try.func78 (by kernel_rfl) rfl) (.pointer (some ⟨bw, 0, none⟩)) UnG.next 3 0 next_adds (by omega) (by omega) dnext_any (by have hb := HB.out; omega)).mono ?_
  rintro e w34 ⟨rfl, hU, hq⟩
  clear c0
  clear cx
  clear c_hG
  replace hX := Lib.hid (hX.out.chg hq)
  replace hG := Lib.hid (hq.kept _ (by decide) (by decide) (by decide) _ _ hG.out)
  replace hC := Lib.hid (hC.out.trans hq)
  clear hq
  obtain ⟨g34, hg34⟩ : ∃ z, UnG.count UnG.next g33 = z := ⟨_, rfl⟩
  rw [hg34] at hU
  have hs34 : g34.a.sz = g33.a.sz + 13 := by rw [← hg34]; exact (UnG.count_adds next_adds).sz _
  have hn34 : g34.n = g33.n + 3 := by rw [← hg34]; exact (UnG.count_adds next_adds).n _
  replace HB := Lib.hid (show g34.a.sz ≤ 195 ∧ g34.n ≤ 32 by have hb := HB.out; omega)
  replace hn34 := Lib.hid hn34
  clear hs34
  replace hU := Lib.hid hU
  replace hg34 := Lib.hid hg34
  have c0 := hU.out.cell
  have cx := hX.out.cell
  have c_hG := (block_cells hG.out).1 0
  go_wp2_with fail
  refine (uleap_any hU.out ⟨#[108, 111, 111, 112]⟩ (by decide) (by have hb := HB.out; omega)).mono ?_
  rintro e w35 ⟨rfl, hU, hq⟩
  clear c0
  clear cx
  clear c_hG
  replace hX := Lib.hid (hX.out.chg hq)
  replace hG := Lib.hid (hq.kept _ (by decide) (by decide) (by decide) _ _ hG.out)
  replace hC := Lib.hid (hC.out.trans hq)
  clear hq
  obtain ⟨g35, hg35⟩ : ∃ z, g34.leap ⟨#[108, 111, 111, 112]⟩ = z := ⟨_, rfl⟩
  rw [hg35] at hU
  have hs35 : g35.a.sz = g34.a.sz + 2 := by rw [← hg35]; exact UnG.leap_sz _ _
  have hn35 : g35.n = g34.n + 0 := by rw [← hg35]; exact UnG.leap_n _ _
  replace HB := Lib.hid (show g35.a.sz ≤ 197 ∧ g35.n ≤ 32 by have hb := HB.out; omega)
  replace hn35 := Lib.hid hn35
  clear hs35
  replace hU := Lib.hid hU
  replace hg35 := Lib.hid hg35
  have c0 := hU.out.cell
  have cx := hX.out.cell
  have c_hG := (block_cells hG.out).1 0
  go_wp2_with fail
  refine (uhere_any hU.out ⟨#[98, 97, 99, 107]⟩ (by decide) (by have hb := HB.out; omega)).mono ?_
  rintro e w36 ⟨rfl, hU, hq⟩
  clear c0
  clear cx
  clear c_hG
  replace hX := Lib.hid (hX.out.chg hq)
  replace hG := Lib.hid (hq.kept _ (by decide) (by decide) (by decide) _ _ hG.out)
  replace hC := Lib.hid (hC.out.trans hq)
  clear hq
  obtain ⟨g36, hg36⟩ : ∃ z, g35.here ⟨#[98, 97, 99, 107]⟩ = z := ⟨_, rfl⟩
  rw [hg36] at hU
  have hs36 : g36.a.sz = g35.a.sz + 1 := by rw [← hg36]; exact UnG.here_sz _ _
  have hn36 : g36.n = g35.n + 0 := by rw [← hg36]; exact UnG.here_n _ _
  replace HB := Lib.hid (show g36.a.sz ≤ 198 ∧ g36.n ≤ 32 by have hb := HB.out; omega)
  replace hn36 := Lib.hid hn36
  clear hs36
  replace hU := Lib.hid hU
  replace hg36 := Lib.hid hg36
  have c0 := hU.out.cell
  have cx := hX.out.cell
  have c_hG := (block_cells hG.out).1 0
  go_wp2_with fail
  refine (ucount_1 hU.out _ (enters_of Try.func81 (by kernel_rfl) rfl) (.pointer (some ⟨bx, 0, none⟩)) (fun g => g.put (tlI 3 3)) 1 0 (put_adds _) (by omega) (by omega) (du6_any hX.out) (by have hb := HB.out; omega)).mono ?_
  rintro e w37 ⟨rfl, hU, hq⟩
  clear c0
  clear cx
  clear c_hG
  replace hX := Lib.hid (hX.out.chg hq)
  replace hG := Lib.hid (hq.kept _ (by decide) (by decide) (by decide) _ _ hG.out)
  replace hC := Lib.hid (hC.out.trans hq)
  clear hq
  obtain ⟨g37, hg37⟩ : ∃ z, UnG.count (fun g => g.put (tlI 3 3)) g36 = z := ⟨_, rfl⟩
  rw [hg37] at hU
  have hs37 : g37.a.sz = g36.a.sz + 11 := by rw [← hg37]; exact (UnG.count_adds (put_adds _)).sz _
  have hn37 : g37.n = g36.n + 3 := by rw [← hg37]; exact (UnG.count_adds (put_adds _)).n _
  replace HB := Lib.hid (show g37.a.sz ≤ 209 ∧ g37.n ≤ 35 by have hb := HB.out; omega)
  replace hn37 := Lib.hid hn37
  clear hs37
  replace hU := Lib.hid hU
  replace hg37 := Lib.hid hg37
  have c0 := hU.out.cell
  have cx := hX.out.cell
  have c_hG := (block_cells hG.out).1 0
  go_wp2_with fail
  refine (umove_any hU.out 2 1 (by omega) (by omega) (by have hb := HB.out; omega)).mono ?_
  rintro e w38 ⟨rfl, hU, hq⟩
  clear c0
  clear cx
  clear c_hG
  replace hX := Lib.hid (hX.out.chg hq)
  replace hG := Lib.hid (hq.kept _ (by decide) (by decide) (by decide) _ _ hG.out)
  replace hC := Lib.hid (hC.out.trans hq)
  clear hq
  obtain ⟨g38, hg38⟩ : ∃ z, g37.put (moveI 2 1) = z := ⟨_, rfl⟩
  rw [hg38] at hU
  have hs38 : g38.a.sz = g37.a.sz + 1 := by rw [← hg38]; exact UnG.put_sz _ _
  have hn38 : g38.n = g37.n + 0 := by rw [← hg38]; exact UnG.put_n _ _
  replace HB := Lib.hid (show g38.a.sz ≤ 210 ∧ g38.n ≤ 35 by have hb := HB.out; omega)
  replace hn38 := Lib.hid hn38
  clear hs38
  replace hU := Lib.hid hU
  replace hg38 := Lib.hid hg38
  have c0 := hU.out.cell
  have cx := hX.out.cell
  have c_hG := (block_cells hG.out).1 0
  go_wp2_with fail
  refine (umove_any hU.out 10 3 (by omega) (by omega) (by have hb := HB.out; omega)).mono ?_
  rintro e w39 ⟨rfl, hU, hq⟩
  clear c0
  clear cx
  clear c_hG
  replace hX := Lib.hid (hX.out.chg hq)
  replace hG := Lib.hid (hq.kept _ (by decide) (by decide) (by decide) _ _ hG.out)
  replace hC := Lib.hid (hC.out.trans hq)
  clear hq
  obtain ⟨g39, hg39⟩ : ∃ z, g38.put (moveI 10 3) = z := ⟨_, rfl⟩
  rw [hg39] at hU
  have hs39 : g39.a.sz = g38.a.sz + 1 := by rw [← hg39]; exact UnG.put_sz _ _
  have hn39 : g39.n = g38.n + 0 := by rw [← hg39]; exact UnG.put_n _ _
  replace HB := Lib.hid (show g39.a.sz ≤ 211 ∧ g39.n ≤ 35 by have hb := HB.out; omega)
  replace hn39 := Lib.hid hn39
  clear hs39
  replace hU := Lib.hid hU
  replace hg39 := Lib.hid hg39
  have c0 := hU.out.cell
  have cx := hX.out.cell
  have c_hG := (block_cells hG.out).1 0
  go_wp2_with fail
  refine (ucount_1 hU.out _ (enters_of Try.func82 (by kernel_rfl) rfl) (.pointer (some ⟨bx, 0, none⟩)) (fun g => g.put (tlI 2 2)) 1 0 (put_adds _) (by omega) (by omega) (du7_any hX.out) (by have hb := HB.out; omega)).mono ?_
  rintro e w40 ⟨rfl, hU, hq⟩
  clear c0
  clear cx
  clear c_hG
  replace hX := Lib.hid (hX.out.chg hq)
  replace hG := Lib.hid (hq.kept _ (by decide) (by decide) (by decide) _ _ hG.out)
  replace hC := Lib.hid (hC.out.trans hq)
  clear hq
  obtain ⟨g40, hg40⟩ : ∃ z, UnG.count (fun g => g.put (tlI 2 2)) g39 = z := ⟨_, rfl⟩
  rw [hg40] at hU
  have hs40 : g40.a.sz = g39.a.sz + 11 := by rw [← hg40]; exact (UnG.count_adds (put_adds _)).sz _
  have hn40 : g40.n = g39.n + 3 := by rw [← hg40]; exact (UnG.count_adds (put_adds _)).n _
  replace HB := Lib.hid (show g40.a.sz ≤ 222 ∧ g40.n ≤ 38 by have hb := HB.out; omega)
  replace hn40 := Lib.hid hn40
  clear hs40
  replace hU := Lib.hid hU
  replace hg40 := Lib.hid hg40
  have c0 := hU.out.cell
  have cx := hX.out.cell
  have c_hG := (block_cells hG.out).1 0
  go_wp2_with fail
  refine (uleap_any hU.out ⟨#[108, 111, 111, 112]⟩ (by decide) (by have hb := HB.out; omega)).mono ?_
  rintro e w41 ⟨rfl, hU, hq⟩
  clear c0
  clear cx
  clear c_hG
  replace hX := Lib.hid (hX.out.chg hq)
  replace hG := Lib.hid (hq.kept _ (by decide) (by decide) (by decide) _ _ hG.out)
  replace hC := Lib.hid (hC.out.trans hq)
  clear hq
  obtain ⟨g41, hg41⟩ : ∃ z, g40.leap ⟨#[108, 111, 111, 112]⟩ = z := ⟨_, rfl⟩
  rw [hg41] at hU
  have hs41 : g41.a.sz = g40.a.sz + 2 := by rw [← hg41]; exact UnG.leap_sz _ _
  have hn41 : g41.n = g40.n + 0 := by rw [← hg41]; exact UnG.leap_n _ _
  replace HB := Lib.hid (show g41.a.sz ≤ 224 ∧ g41.n ≤ 38 by have hb := HB.out; omega)
  replace hn41 := Lib.hid hn41
  clear hs41
  replace hU := Lib.hid hU
  replace hg41 := Lib.hid hg41
  have c0 := hU.out.cell
  have cx := hX.out.cell
  have c_hG := (block_cells hG.out).1 0
  go_wp2_with fail
  refine (uhere_any hU.out ⟨#[101, 110, 100]⟩ (by decide) (by have hb := HB.out; omega)).mono ?_
  rintro e w42 ⟨rfl, hU, hq⟩
  clear c0
  clear cx
  clear c_hG
  replace hX := Lib.hid (hX.out.chg hq)
  replace hG := Lib.hid (hq.kept _ (by decide) (by decide) (by decide) _ _ hG.out)
  replace hC := Lib.hid (hC.out.trans hq)
  clear hq
  obtain ⟨g42, hg42⟩ : ∃ z, g41.here ⟨#[101, 110, 100]⟩ = z := ⟨_, rfl⟩
  rw [hg42] at hU
  have hs42 : g42.a.sz = g41.a.sz + 1 := by rw [← hg42]; exact UnG.here_sz _ _
  have hn42 : g42.n = g41.n + 0 := by rw [← hg42]; exact UnG.here_n _ _
  replace HB := Lib.hid (show g42.a.sz ≤ 225 ∧ g42.n ≤ 38 by have hb := HB.out; omega)
  replace hn42 := Lib.hid hn42
  clear hs42
  replace hU := Lib.hid hU
  replace hg42 := Lib.hid hg42
  have c0 := hU.out.cell
  have cx := hX.out.cell
  have c_hG := (block_cells hG.out).1 0
  have he : g42 = univG := by rw [← hg42.out, ← hg41.out, ← hg40.out, ← hg39.out, ← hg38.out, ← hg37.out, ← hg36.out, ← hg35.out, ← hg34.out, ← hg33.out, ← hg32.out, ← hg31.out, ← hg30.out, ← hg29.out, ← hg28.out, ← hg27.out, ← hg26.out, ← hg25.out, ← hg24.out, ← hg23.out, ← hg22.out, ← hg21.out, ← hg20.out, ← hg19.out, ← hg18.out, ← hg17.out, ← hg16.out, ← hg15.out, ← hg14.out, ← hg13.out, ← hg12.out, ← hg11.out, ← hg10.out, ← hg9.out, ← hg8.out, ← hg7.out, ← hg6.out, ← hg5.out, ← hg4.out, ← hg3.out, ← hg2.out, ← hg1.out, ← hg0.out]; try rfl
  have HD := Lib.hid (show AsmW w42 B ba b1 b2 univG.a from by rw [← he]; exact hU.out.asm)
  clear he
  go_wp2_with fail
  refine (adone_any HD.out univG_okFr univG_okPl univG_sz).mono ?_
  rintro e wZ ⟨v, rfl, hown, hq⟩
  rw [univG_done] at hown
  obtain ⟨va, vc, rfl⟩ := hown.slice
  have hown := Lib.hid hown
  go_wp2
  go_ret
  subst hB
  exact ⟨_, rfl, hown.out, hC.out.below.trans hq⟩

end Go.Proofs.Ytlaeljkjdfffjaa


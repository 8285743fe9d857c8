/- univ: fetch, store. -/
import Derived.Test.YtlaeljkjdfffjaaUni2
namespace Go.Proofs.Ytlaeljkjdfffjaa
open Go.RowKit Go.Maps


set_option maxRecDepth 20000 in
set_option maxHeartbeats 8000000 in
theorem dfetch_any {w : World} {B bw ba b1 b2 : Nat} {bx : Nat} (hx : BoxW w bx bw) : DoesU 600000 2000 w B bw ba b1 b2 123 #[.pointer (some ⟨bx, 0, none⟩)] (fun g => g.put (tlI 11 11)) := by
  intro w' g' hc h hg hn
  replace hg := And.intro hg hn
  clear hn
  have HB := Lib.hid (show g'.a.sz ≤ 600000 ∧ g'.n ≤ 2000 from ⟨by omega, by omega⟩)
  clear hg
  have hC := Lib.hid (UChg.refl B w')
  have hU := Lib.hid h
  clear h
  have hX := Lib.hid (hx.chg hc)
  clear hx
  clear hc
  go_enter Try.func123, Try.ntmps123
  have c0 := hU.out.cell
  have cx := hX.out.cell
  go_wp2_with fail
  refine (utail_any hU.out 11 11 (by omega) (by omega) (by have hb := HB.out; omega)).mono ?_
  rintro e w1 ⟨rfl, hU, hq⟩
  clear c0
  clear cx
  replace hX := Lib.hid (hX.out.chg hq)
  replace hC := Lib.hid (hC.out.trans hq)
  clear hq
  obtain ⟨g1, hg1⟩ : ∃ z, g'.put (tlI 11 11) = z := ⟨_, rfl⟩
  rw [hg1] at hU
  have hs1 : g1.a.sz = g'.a.sz + 1 := by rw [← hg1]; exact UnG.put_sz _ _
  have hn1 : g1.n = g'.n + 0 := by rw [← hg1]; exact UnG.put_n _ _
  replace HB := Lib.hid (show g1.a.sz ≤ 600001 ∧ g1.n ≤ 2000 by have hb := HB.out; omega)
  replace hn1 := Lib.hid hn1
  clear hs1
  replace hU := Lib.hid hU
  replace hg1 := Lib.hid hg1
  go_wp2
  refine bodyPost_end (v := .tuple #[]) (by simp [results, Try.results123, go_sem]) rfl ?_
  have he : g1 = g'.put (tlI 11 11) := by rw [← hg1.out]; try rfl
  rw [← he]
  exact ⟨rfl, hU.out, hC.out⟩

set_option maxRecDepth 20000 in
set_option maxHeartbeats 8000000 in
theorem dstore_any {w : World} {B bw ba b1 b2 : Nat} {bx : Nat} (hx : BoxW w bx bw) : DoesU 600000 2000 w B bw ba b1 b2 124 #[.pointer (some ⟨bx, 0, none⟩)] (fun g => ((g.put (hdI 13 11)).put (consI 12 13 12)).put (tlI 11 11)) := by
  intro w' g' hc h hg hn
  replace hg := And.intro hg hn
  clear hn
  have HB := Lib.hid (show g'.a.sz ≤ 600000 ∧ g'.n ≤ 2000 from ⟨by omega, by omega⟩)
  clear hg
  have hC := Lib.hid (UChg.refl B w')
  have hU := Lib.hid h
  clear h
  have hX := Lib.hid (hx.chg hc)
  clear hx
  clear hc
  go_enter Try.func124, Try.ntmps124
  have c0 := hU.out.cell
  have cx := hX.out.cell
  go_wp2_with fail
  refine (uhead_any hU.out 13 11 (by omega) (by omega) (by have hb := HB.out; omega)).mono ?_
  rintro e w1 ⟨rfl, hU, hq⟩
  clear c0
  clear cx
  replace hX := Lib.hid (hX.out.chg hq)
  replace hC := Lib.hid (hC.out.trans hq)
  clear hq
  obtain ⟨g1, hg1⟩ : ∃ z, g'.put (hdI 13 11) = z := ⟨_, rfl⟩
  rw [hg1] at hU
  have hs1 : g1.a.sz = g'.a.sz + 1 := by rw [← hg1]; exact UnG.put_sz _ _
  have hn1 : g1.n = g'.n + 0 := by rw [← hg1]; exact UnG.put_n _ _
  replace HB := Lib.hid (show g1.a.sz ≤ 600001 ∧ g1.n ≤ 2000 by have hb := HB.out; omega)
  replace hn1 := Lib.hid hn1
  clear hs1
  replace hU := Lib.hid hU
  replace hg1 := Lib.hid hg1
  have c0 := hU.out.cell
  have cx := hX.out.cell
  go_wp2_with fail
  refine (ucons_any hU.out 12 13 12 (by omega) (by omega) (by omega) (by have hb := HB.out; omega)).mono ?_
  rintro e w2 ⟨rfl, hU, hq⟩
  clear c0
  clear cx
  replace hX := Lib.hid (hX.out.chg hq)
  replace hC := Lib.hid (hC.out.trans hq)
  clear hq
  obtain ⟨g2, hg2⟩ : ∃ z, g1.put (consI 12 13 12) = z := ⟨_, rfl⟩
  rw [hg2] at hU
  have hs2 : g2.a.sz = g1.a.sz + 1 := by rw [← hg2]; exact UnG.put_sz _ _
  have hn2 : g2.n = g1.n + 0 := by rw [← hg2]; exact UnG.put_n _ _
  replace HB := Lib.hid (show g2.a.sz ≤ 600002 ∧ g2.n ≤ 2000 by have hb := HB.out; omega)
  replace hn2 := Lib.hid hn2
  clear hs2
  replace hU := Lib.hid hU
  replace hg2 := Lib.hid hg2
  have c0 := hU.out.cell
  have cx := hX.out.cell
  go_wp2_with fail
  refine (utail_any hU.out 11 11 (by omega) (by omega) (by have hb := HB.out; omega)).mono ?_
  rintro e w3 ⟨rfl, hU, hq⟩
  clear c0
  clear cx
  replace hX := Lib.hid (hX.out.chg hq)
  replace hC := Lib.hid (hC.out.trans hq)
  clear hq
  obtain ⟨g3, hg3⟩ : ∃ z, g2.put (tlI 11 11) = z := ⟨_, rfl⟩
  rw [hg3] at hU
  have hs3 : g3.a.sz = g2.a.sz + 1 := by rw [← hg3]; exact UnG.put_sz _ _
  have hn3 : g3.n = g2.n + 0 := by rw [← hg3]; exact UnG.put_n _ _
  replace HB := Lib.hid (show g3.a.sz ≤ 600003 ∧ g3.n ≤ 2000 by have hb := HB.out; omega)
  replace hn3 := Lib.hid hn3
  clear hs3
  replace hU := Lib.hid hU
  replace hg3 := Lib.hid hg3
  go_wp2
  refine bodyPost_end (v := .tuple #[]) (by simp [results, Try.results124, go_sem]) rfl ?_
  have he : g3 = ((g'.put (hdI 13 11)).put (consI 12 13 12)).put (tlI 11 11) := by rw [← hg3.out, ← hg2.out, ← hg1.out]; try rfl
  rw [← he]
  exact ⟨rfl, hU.out, hC.out⟩

set_option maxRecDepth 20000 in
set_option maxHeartbeats 8000000 in
theorem ufetch_any {w : World} {B bw ba b1 b2 : Nat} {g : UnG} (h : UnW w B bw ba b1 b2 g) (t : Nat) (ht : t ≤ 1000) (hg : g.a.sz ≤ 400000 ∧ g.n ≤ 1400) :
    Calls Try.prog 74 #[.pointer (some ⟨bw, 0, none⟩), .int .i64 t] w (UOut w B bw ba b1 b2 (UnG.fetch t g)) := by
  have HB := Lib.hid (show g.a.sz ≤ 400000 ∧ g.n ≤ 1400 from ⟨by omega, by omega⟩)
  clear hg
  have hC := Lib.hid (UChg.refl B w)
  have hU := Lib.hid h
  have HT := Lib.hid ht
  clear h ht
  go_enter Try.func74, Try.ntmps74
  have hlt := hU.out.lt
  have cA : (w.alloc (.cells #[.pointer (some ⟨bw, 0, none⟩)] 86)).cell? ⟨bw, 0, none⟩ = some (.pointer (some ⟨ba, 0, none⟩)) := (((Below.refl w.heap.size w).alloc (Nat.le_refl _) _).cell (p := ⟨bw, 0, none⟩) hlt).trans hU.out.cell
  go_wp2_with fail
  clear cA
  obtain ⟨wA, hW⟩ : ∃ z, w.alloc (.cells #[.pointer (some ⟨bw, 0, none⟩)] 86) = z := ⟨_, rfl⟩
  rw [hW]
  have hb : Below w.heap.size w wA := by rw [← hW]; exact (Below.refl _ _).alloc (Nat.le_refl _) _
  have hX := Lib.hid (show BoxW wA w.heap.size bw from by rw [← hW]; exact heap_alloc_new _ _)
  replace hC := Lib.hid (show UChg B w wA from UChg.of_below hb (by have := hU.out.le; omega))
  replace hU := Lib.hid (hU.out.below hb)
  clear hb hW hlt
  obtain ⟨bx, hbx⟩ : ∃ z, w.heap.size = z := ⟨_, rfl⟩
  rw [hbx] at hX ⊢
  clear hbx
  refine (umove_any hU.out 11 4 (by omega) (by omega) (by have hb := HB.out; omega)).mono ?_
  rintro e w1 ⟨rfl, hU, hq⟩
  replace hX := Lib.hid (hX.out.chg hq)
  replace hC := Lib.hid (hC.out.trans hq)
  clear hq
  obtain ⟨g1, hg1⟩ : ∃ z, g.put (moveI 11 4) = z := ⟨_, rfl⟩
  rw [hg1] at hU
  have hs1 : g1.a.sz = g.a.sz + 1 := by rw [← hg1]; exact UnG.put_sz _ _
  have hn1 : g1.n = g.n + 0 := by rw [← hg1]; exact UnG.put_n _ _
  replace HB := Lib.hid (show g1.a.sz ≤ 400001 ∧ g1.n ≤ 1400 by have hb := HB.out; omega)
  replace hn1 := Lib.hid hn1
  clear hs1
  replace hU := Lib.hid hU
  replace hg1 := Lib.hid hg1
  have c0 := hU.out.cell
  have cx := hX.out.cell
  go_wp2_with fail
  refine (ucount_1 hU.out _ (enters_of Try.func123 (by kernel_rfl) rfl) (.pointer (some ⟨bx, 0, none⟩)) (fun g => g.put (tlI 11 11)) 1 0 (put_adds _) (by omega) (by omega) (dfetch_any hX.out) (by have hb := HB.out; omega)).mono ?_
  rintro e w2 ⟨rfl, hU, hq⟩
  clear c0
  clear cx
  replace hX := Lib.hid (hX.out.chg hq)
  replace hC := Lib.hid (hC.out.trans hq)
  clear hq
  obtain ⟨g2, hg2⟩ : ∃ z, UnG.count (fun g => g.put (tlI 11 11)) g1 = z := ⟨_, rfl⟩
  rw [hg2] at hU
  have hs2 : g2.a.sz = g1.a.sz + 11 := by rw [← hg2]; exact (UnG.count_adds (put_adds _)).sz _
  have hn2 : g2.n = g1.n + 3 := by rw [← hg2]; exact (UnG.count_adds (put_adds _)).n _
  replace HB := Lib.hid (show g2.a.sz ≤ 400012 ∧ g2.n ≤ 1403 by have hb := HB.out; omega)
  replace hn2 := Lib.hid hn2
  clear hs2
  replace hU := Lib.hid hU
  replace hg2 := Lib.hid hg2
  have c0 := hU.out.cell
  have cx := hX.out.cell
  go_wp2_with fail
  refine (uhead_any hU.out t 11 HT.out (by omega) (by have hb := HB.out; omega)).mono ?_
  rintro e w3 ⟨rfl, hU, hq⟩
  clear c0
  clear cx
  replace hX := Lib.hid (hX.out.chg hq)
  replace hC := Lib.hid (hC.out.trans hq)
  clear hq
  obtain ⟨g3, hg3⟩ : ∃ z, g2.put (hdI t 11) = z := ⟨_, rfl⟩
  rw [hg3] at hU
  have hs3 : g3.a.sz = g2.a.sz + 1 := by rw [← hg3]; exact UnG.put_sz _ _
  have hn3 : g3.n = g2.n + 0 := by rw [← hg3]; exact UnG.put_n _ _
  replace HB := Lib.hid (show g3.a.sz ≤ 400013 ∧ g3.n ≤ 1403 by have hb := HB.out; omega)
  replace hn3 := Lib.hid hn3
  clear hs3
  replace hU := Lib.hid hU
  replace hg3 := Lib.hid hg3
  go_wp2
  refine bodyPost_end (v := .tuple #[]) (by simp [results, Try.results74, go_sem]) rfl ?_
  have he : g3 = UnG.fetch t g := by rw [← hg3.out, ← hg2.out, ← hg1.out]; try rfl
  rw [← he]
  exact ⟨rfl, hU.out, hC.out⟩

theorem UChg.drew {B : Nat} {w w' : World} (h : UChg B w w') : UChg B w w'.drew := ⟨h.below.drew, h.kept⟩
theorem UnW.drew {w : World} {B bw ba b1 b2 : Nat} {g : UnG} (h : UnW w B bw ba b1 b2 g) : UnW w.drew B bw ba b1 b2 g := h.below (Below.refl _ _).drew

set_option maxRecDepth 20000 in
set_option maxHeartbeats 8000000 in
theorem ustore_any {w : World} {B bw ba b1 b2 : Nat} {g : UnG} (h : UnW w B bw ba b1 b2 g) (hg : g.a.sz ≤ 400000 ∧ g.n ≤ 1400) :
    Calls Try.prog 79 #[.pointer (some ⟨bw, 0, none⟩)] w (UOut w B bw ba b1 b2 (UnG.store g)) := by
  have HB := Lib.hid (show g.a.sz ≤ 400000 ∧ g.n ≤ 1400 from ⟨by omega, by omega⟩)
  clear hg
  have hC := Lib.hid (UChg.refl B w)
  have hU := Lib.hid h
  clear h
  go_enter Try.func79, Try.ntmps79
  have hlt := hU.out.lt
  have cA : (w.alloc (.cells #[.pointer (some ⟨bw, 0, none⟩)] 86)).cell? ⟨bw, 0, none⟩ = some (.pointer (some ⟨ba, 0, none⟩)) := (((Below.refl w.heap.size w).alloc (Nat.le_refl _) _).cell (p := ⟨bw, 0, none⟩) hlt).trans hU.out.cell
  go_wp2_with fail
  clear cA
  obtain ⟨wA, hW⟩ : ∃ z, w.alloc (.cells #[.pointer (some ⟨bw, 0, none⟩)] 86) = z := ⟨_, rfl⟩
  rw [hW]
  have hb : Below w.heap.size w wA := by rw [← hW]; exact (Below.refl _ _).alloc (Nat.le_refl _) _
  have hX := Lib.hid (show BoxW wA w.heap.size bw from by rw [← hW]; exact heap_alloc_new _ _)
  replace hC := Lib.hid (show UChg B w wA from UChg.of_below hb (by have := hU.out.le; omega))
  replace hU := Lib.hid (hU.out.below hb)
  clear hb hW hlt
  obtain ⟨bx, hbx⟩ : ∃ z, w.heap.size = z := ⟨_, rfl⟩
  rw [hbx] at hX ⊢
  clear hbx
  refine (umove_any hU.out 11 4 (by omega) (by omega) (by have hb := HB.out; omega)).mono ?_
  rintro e w1 ⟨rfl, hU, hq⟩
  replace hX := Lib.hid (hX.out.chg hq)
  replace hC := Lib.hid (hC.out.trans hq)
  clear hq
  obtain ⟨g1, hg1⟩ : ∃ z, g.put (moveI 11 4) = z := ⟨_, rfl⟩
  rw [hg1] at hU
  have hs1 : g1.a.sz = g.a.sz + 1 := by rw [← hg1]; exact UnG.put_sz _ _
  have hn1 : g1.n = g.n + 0 := by rw [← hg1]; exact UnG.put_n _ _
  replace HB := Lib.hid (show g1.a.sz ≤ 400001 ∧ g1.n ≤ 1400 by have hb := HB.out; omega)
  replace hn1 := Lib.hid hn1
  clear hs1
  replace hU := Lib.hid hU
  replace hg1 := Lib.hid hg1
  have c0 := hU.out.cell
  have cx := hX.out.cell
  go_wp2_with fail
  refine (uset_any hU.out 12 ⟨#[48]⟩ (by omega) (by decide) (by have hb := HB.out; omega)).mono ?_
  rintro e w2 ⟨rfl, hU, hq⟩
  clear c0
  clear cx
  replace hX := Lib.hid (hX.out.chg hq)
  replace hC := Lib.hid (hC.out.trans hq)
  clear hq
  obtain ⟨g2, hg2⟩ : ∃ z, g1.put (setI 12 ⟨#[48]⟩) = z := ⟨_, rfl⟩
  rw [hg2] at hU
  have hs2 : g2.a.sz = g1.a.sz + 1 := by rw [← hg2]; exact UnG.put_sz _ _
  have hn2 : g2.n = g1.n + 0 := by rw [← hg2]; exact UnG.put_n _ _
  replace HB := Lib.hid (show g2.a.sz ≤ 400002 ∧ g2.n ≤ 1400 by have hb := HB.out; omega)
  replace hn2 := Lib.hid hn2
  clear hs2
  replace hU := Lib.hid hU
  replace hg2 := Lib.hid hg2
  have c0 := hU.out.cell
  have cx := hX.out.cell
  go_wp2_with fail
  refine (umove_any hU.out 10 7 (by omega) (by omega) (by have hb := HB.out; omega)).mono ?_
  rintro e w3 ⟨rfl, hU, hq⟩
  clear c0
  clear cx
  replace hX := Lib.hid (hX.out.chg hq)
  replace hC := Lib.hid (hC.out.trans hq)
  clear hq
  obtain ⟨g3, hg3⟩ : ∃ z, g2.put (moveI 10 7) = z := ⟨_, rfl⟩
  rw [hg3] at hU
  have hs3 : g3.a.sz = g2.a.sz + 1 := by rw [← hg3]; exact UnG.put_sz _ _
  have hn3 : g3.n = g2.n + 0 := by rw [← hg3]; exact UnG.put_n _ _
  replace HB := Lib.hid (show g3.a.sz ≤ 400003 ∧ g3.n ≤ 1400 by have hb := HB.out; omega)
  replace hn3 := Lib.hid hn3
  clear hs3
  replace hU := Lib.hid hU
  replace hg3 := Lib.hid hg3
  have c0 := hU.out.cell
  have cx := hX.out.cell
  go_wp2_with fail
  refine (ucount_1 hU.out _ (enters_of Try.func124 (by kernel_rfl) rfl) (.pointer (some ⟨bx, 0, none⟩)) (fun g => ((g.put (hdI 13 11)).put (consI 12 13 12)).put (tlI 11 11)) 3 0 (storeF_adds) (by omega) (by omega) (dstore_any hX.out) (by have hb := HB.out; omega)).mono ?_
  rintro e w4 ⟨rfl, hU, hq⟩
  clear c0
  clear cx
  replace hX := Lib.hid (hX.out.chg hq)
  replace hC := Lib.hid (hC.out.trans hq)
  clear hq
  obtain ⟨g4, hg4⟩ : ∃ z, UnG.count (fun g => ((g.put (hdI 13 11)).put (consI 12 13 12)).put (tlI 11 11)) g3 = z := ⟨_, rfl⟩
  rw [hg4] at hU
  have hs4 : g4.a.sz = g3.a.sz + 13 := by rw [← hg4]; exact (UnG.count_adds (storeF_adds)).sz _
  have hn4 : g4.n = g3.n + 3 := by rw [← hg4]; exact (UnG.count_adds (storeF_adds)).n _
  replace HB := Lib.hid (show g4.a.sz ≤ 400016 ∧ g4.n ≤ 1403 by have hb := HB.out; omega)
  replace hn4 := Lib.hid hn4
  clear hs4
  replace hU := Lib.hid hU
  replace hg4 := Lib.hid hg4
  have c0 := hU.out.cell
  have cx := hX.out.cell
  go_wp2_with fail
  refine (utail_any hU.out 11 11 (by omega) (by omega) (by have hb := HB.out; omega)).mono ?_
  rintro e w5 ⟨rfl, hU, hq⟩
  clear c0
  clear cx
  replace hX := Lib.hid (hX.out.chg hq)
  replace hC := Lib.hid (hC.out.trans hq)
  clear hq
  obtain ⟨g5, hg5⟩ : ∃ z, g4.put (tlI 11 11) = z := ⟨_, rfl⟩
  rw [hg5] at hU
  have hs5 : g5.a.sz = g4.a.sz + 1 := by rw [← hg5]; exact UnG.put_sz _ _
  have hn5 : g5.n = g4.n + 0 := by rw [← hg5]; exact UnG.put_n _ _
  replace HB := Lib.hid (show g5.a.sz ≤ 400017 ∧ g5.n ≤ 1403 by have hb := HB.out; omega)
  replace hn5 := Lib.hid hn5
  clear hs5
  replace hU := Lib.hid hU
  replace hg5 := Lib.hid hg5
  have c0 := hU.out.cell
  have cx := hX.out.cell
  go_wp2_with fail
  refine (ucons_any hU.out 11 8 11 (by omega) (by omega) (by omega) (by have hb := HB.out; omega)).mono ?_
  rintro e w6 ⟨rfl, hU, hq⟩
  clear c0
  clear cx
  replace hX := Lib.hid (hX.out.chg hq)
  replace hC := Lib.hid (hC.out.trans hq)
  clear hq
  obtain ⟨g6, hg6⟩ : ∃ z, g5.put (consI 11 8 11) = z := ⟨_, rfl⟩
  rw [hg6] at hU
  have hs6 : g6.a.sz = g5.a.sz + 1 := by rw [← hg6]; exact UnG.put_sz _ _
  have hn6 : g6.n = g5.n + 0 := by rw [← hg6]; exact UnG.put_n _ _
  replace HB := Lib.hid (show g6.a.sz ≤ 400018 ∧ g6.n ≤ 1403 by have hb := HB.out; omega)
  replace hn6 := Lib.hid hn6
  clear hs6
  replace hU := Lib.hid hU
  replace hg6 := Lib.hid hg6
  have c0 := hU.out.cell
  have cx := hX.out.cell
  obtain ⟨x1, hx1⟩ : ∃ z, g6.step 1 = z := ⟨_, rfl⟩
  obtain ⟨x2, hx2⟩ : ∃ z, x1.step 1 = z := ⟨_, rfl⟩
  obtain ⟨x3, hx3⟩ : ∃ z, x2.step 1 = z := ⟨_, rfl⟩
  obtain ⟨na, hna⟩ : ∃ z, nameS (g6.n + 1) = z := ⟨_, rfl⟩
  obtain ⟨nb, hnb⟩ : ∃ z, nameS (x1.n + 1) = z := ⟨_, rfl⟩
  obtain ⟨nc, hnc⟩ : ∃ z, nameS (x2.n + 1) = z := ⟨_, rfl⟩
  have za : na.size ≤ 1000000 := by rw [← hna, name_size]; omega
  have zb : nb.size ≤ 1000000 := by rw [← hnb, name_size]; omega
  have zc : nc.size ≤ 1000000 := by rw [← hnc, name_size]; omega
  have m1 : x1.n = g6.n + 1 := by rw [← hx1]; rfl
  have m2 : x2.n = g6.n + 2 := by rw [← hx2, UnG.step_n]; omega
  have m3 : x3.n = g6.n + 3 ∧ x3.a.sz = g6.a.sz := ⟨by rw [← hx3, UnG.step_n]; omega, by rw [← hx3, ← hx2, ← hx1]; rfl⟩
  have KN1 := Lib.hid (fun (w' : World) (hu : UnW w' B bw ba b1 b2 g6) (hc : UChg B w6 w') => (uname_at hu (by have hb := HB.out; omega)).mono (fun e w'' hh => (show e = .returned (.string na) ∧ Hid (UnW w'' B bw ba b1 b2 x1) ∧ Hid (UChg B w6 w'') from ⟨by rw [← hna]; exact hh.1, Lib.hid (by rw [← hx1]; exact hh.2.1), Lib.hid (hc.trans hh.2.2)⟩)))
  have KN2 := Lib.hid (fun (w' : World) (hu : UnW w' B bw ba b1 b2 x1) (hc : UChg B w6 w') => (uname_at hu (by have hb := HB.out; omega)).mono (fun e w'' hh => (show e = .returned (.string nb) ∧ Hid (UnW w'' B bw ba b1 b2 x2) ∧ Hid (UChg B w6 w'') from ⟨by rw [← hnb]; exact hh.1, Lib.hid (by rw [← hx2]; exact hh.2.1), Lib.hid (hc.trans hh.2.2)⟩)))
  have KN3 := Lib.hid (fun (w' : World) (hu : UnW w' B bw ba b1 b2 x2) (hc : UChg B w6 w') => (uname_at hu (by have hb := HB.out; omega)).mono (fun e w'' hh => (show e = .returned (.string nc) ∧ Hid (UnW w'' B bw ba b1 b2 x3) ∧ Hid (UChg B w6 w'') from ⟨by rw [← hnc]; exact hh.1, Lib.hid (by rw [← hx3]; exact hh.2.1), Lib.hid (hc.trans hh.2.2)⟩)))
  replace m3 := Lib.hid m3
  replace hna := Lib.hid hna
  replace hnb := Lib.hid hnb
  replace hnc := Lib.hid hnc
  replace hx1 := Lib.hid hx1
  replace hx2 := Lib.hid hx2
  replace hx3 := Lib.hid hx3
  replace m1 := Lib.hid m1
  replace m2 := Lib.hid m2
  go_wp2_with fail
  go_region_held3 (fun w' => w'.cell? ⟨bx, 0, none⟩ = some (.pointer (some ⟨bw, 0, none⟩)))
    (with_reducible (first | exact (hX.out.chg hq3.out).cell | exact (hX.out.chg hq2.out).cell | exact (hX.out.chg hq1.out).cell | exact hX.out.cell | exact (hX.out.chg (UChg.refl B _).drew).cell | fail "keep"))
    ((first
      | ((with_reducible refine (KN3.out _ (by first | exact hU2.out | exact hU2.out.drew) (by first | exact hq2.out | exact hq2.out.drew)).mono ?_); rintro e w3' ⟨rfl, hU3, hq3⟩)
      | ((with_reducible refine (KN2.out _ (by first | exact hU1.out | exact hU1.out.drew) (by first | exact hq1.out | exact hq1.out.drew)).mono ?_); rintro e w2' ⟨rfl, hU2, hq2⟩)
      | ((with_reducible refine (KN1.out _ (by first | exact hU.out | exact hU.out.drew) (by first | exact UChg.refl _ _ | exact (UChg.refl _ _).drew)).mono ?_); rintro e w1' ⟨rfl, hU1, hq1⟩)
      | (fail "arm")))
  clear hU hU1 hU2
  replace hU := hU3
  clear hU3
  clear c0
  clear cx
  replace hX := Lib.hid (hX.out.chg hq3.out)
  replace hC := Lib.hid (hC.out.trans hq3.out)
  clear hq1 hq2 hq3 KN1 KN2 KN3
  replace HB := Lib.hid (show x3.a.sz ≤ 400018 ∧ x3.n ≤ 1406 by have hb := HB.out; have hm := m3.out; omega)
  have c0 := hU.out.cell
  have cx := hX.out.cell
  go_wp2_with fail
  refine (uhere_any hU.out na za (by have hb := HB.out; omega)).mono ?_
  rintro e w7 ⟨rfl, hU, hq⟩
  clear c0
  clear cx
  replace hX := Lib.hid (hX.out.chg hq)
  replace hC := Lib.hid (hC.out.trans hq)
  clear hq
  obtain ⟨g7, hg7⟩ : ∃ z, x3.here na = z := ⟨_, rfl⟩
  rw [hg7] at hU
  have hs7 : g7.a.sz = x3.a.sz + 1 := by rw [← hg7]; exact UnG.here_sz _ _
  have hn7 : g7.n = x3.n + 0 := by rw [← hg7]; exact UnG.here_n _ _
  replace HB := Lib.hid (show g7.a.sz ≤ 400019 ∧ g7.n ≤ 1406 by have hb := HB.out; omega)
  replace hn7 := Lib.hid hn7
  clear hs7
  replace hU := Lib.hid hU
  replace hg7 := Lib.hid hg7
  have c0 := hU.out.cell
  have cx := hX.out.cell
  go_wp2_with fail
  refine (ujump_any hU.out 12 nb (by omega) zb (by have hb := HB.out; omega)).mono ?_
  rintro e w8 ⟨rfl, hU, hq⟩
  clear c0
  clear cx
  replace hX := Lib.hid (hX.out.chg hq)
  replace hC := Lib.hid (hC.out.trans hq)
  clear hq
  obtain ⟨g8, hg8⟩ : ∃ z, g7.jump 12 nb = z := ⟨_, rfl⟩
  rw [hg8] at hU
  have hs8 : g8.a.sz = g7.a.sz + 2 := by rw [← hg8]; exact UnG.jump_sz _ _ _
  have hn8 : g8.n = g7.n + 0 := by rw [← hg8]; exact UnG.jump_n _ _ _
  replace HB := Lib.hid (show g8.a.sz ≤ 400021 ∧ g8.n ≤ 1406 by have hb := HB.out; omega)
  replace hn8 := Lib.hid hn8
  clear hs8
  replace hU := Lib.hid hU
  replace hg8 := Lib.hid hg8
  have c0 := hU.out.cell
  have cx := hX.out.cell
  go_wp2_with fail
  refine (uleap_any hU.out nc zc (by have hb := HB.out; omega)).mono ?_
  rintro e w9 ⟨rfl, hU, hq⟩
  clear c0
  clear cx
  replace hX := Lib.hid (hX.out.chg hq)
  replace hC := Lib.hid (hC.out.trans hq)
  clear hq
  obtain ⟨g9, hg9⟩ : ∃ z, g8.leap nc = z := ⟨_, rfl⟩
  rw [hg9] at hU
  have hs9 : g9.a.sz = g8.a.sz + 2 := by rw [← hg9]; exact UnG.leap_sz _ _
  have hn9 : g9.n = g8.n + 0 := by rw [← hg9]; exact UnG.leap_n _ _
  replace HB := Lib.hid (show g9.a.sz ≤ 400023 ∧ g9.n ≤ 1406 by have hb := HB.out; omega)
  replace hn9 := Lib.hid hn9
  clear hs9
  replace hU := Lib.hid hU
  replace hg9 := Lib.hid hg9
  have c0 := hU.out.cell
  have cx := hX.out.cell
  go_wp2_with fail
  refine (uhere_any hU.out nb zb (by have hb := HB.out; omega)).mono ?_
  rintro e w10 ⟨rfl, hU, hq⟩
  clear c0
  clear cx
  replace hX := Lib.hid (hX.out.chg hq)
  replace hC := Lib.hid (hC.out.trans hq)
  clear hq
  obtain ⟨g10, hg10⟩ : ∃ z, g9.here nb = z := ⟨_, rfl⟩
  rw [hg10] at hU
  have hs10 : g10.a.sz = g9.a.sz + 1 := by rw [← hg10]; exact UnG.here_sz _ _
  have hn10 : g10.n = g9.n + 0 := by rw [← hg10]; exact UnG.here_n _ _
  replace HB := Lib.hid (show g10.a.sz ≤ 400024 ∧ g10.n ≤ 1406 by have hb := HB.out; omega)
  replace hn10 := Lib.hid hn10
  clear hs10
  replace hU := Lib.hid hU
  replace hg10 := Lib.hid hg10
  have c0 := hU.out.cell
  have cx := hX.out.cell
  go_wp2_with fail
  refine (uhead_any hU.out 13 12 (by omega) (by omega) (by have hb := HB.out; omega)).mono ?_
  rintro e w11 ⟨rfl, hU, hq⟩
  clear c0
  clear cx
  replace hX := Lib.hid (hX.out.chg hq)
  replace hC := Lib.hid (hC.out.trans hq)
  clear hq
  obtain ⟨g11, hg11⟩ : ∃ z, g10.put (hdI 13 12) = z := ⟨_, rfl⟩
  rw [hg11] at hU
  have hs11 : g11.a.sz = g10.a.sz + 1 := by rw [← hg11]; exact UnG.put_sz _ _
  have hn11 : g11.n = g10.n + 0 := by rw [← hg11]; exact UnG.put_n _ _
  replace HB := Lib.hid (show g11.a.sz ≤ 400025 ∧ g11.n ≤ 1406 by have hb := HB.out; omega)
  replace hn11 := Lib.hid hn11
  clear hs11
  replace hU := Lib.hid hU
  replace hg11 := Lib.hid hg11
  have c0 := hU.out.cell
  have cx := hX.out.cell
  go_wp2_with fail
  refine (ucons_any hU.out 11 13 11 (by omega) (by omega) (by omega) (by have hb := HB.out; omega)).mono ?_
  rintro e w12 ⟨rfl, hU, hq⟩
  clear c0
  clear cx
  replace hX := Lib.hid (hX.out.chg hq)
  replace hC := Lib.hid (hC.out.trans hq)
  clear hq
  obtain ⟨g12, hg12⟩ : ∃ z, g11.put (consI 11 13 11) = z := ⟨_, rfl⟩
  rw [hg12] at hU
  have hs12 : g12.a.sz = g11.a.sz + 1 := by rw [← hg12]; exact UnG.put_sz _ _
  have hn12 : g12.n = g11.n + 0 := by rw [← hg12]; exact UnG.put_n _ _
  replace HB := Lib.hid (show g12.a.sz ≤ 400026 ∧ g12.n ≤ 1406 by have hb := HB.out; omega)
  replace hn12 := Lib.hid hn12
  clear hs12
  replace hU := Lib.hid hU
  replace hg12 := Lib.hid hg12
  have c0 := hU.out.cell
  have cx := hX.out.cell
  go_wp2_with fail
  refine (utail_any hU.out 12 12 (by omega) (by omega) (by have hb := HB.out; omega)).mono ?_
  rintro e w13 ⟨rfl, hU, hq⟩
  clear c0
  clear cx
  replace hX := Lib.hid (hX.out.chg hq)
  replace hC := Lib.hid (hC.out.trans hq)
  clear hq
  obtain ⟨g13, hg13⟩ : ∃ z, g12.put (tlI 12 12) = z := ⟨_, rfl⟩
  rw [hg13] at hU
  have hs13 : g13.a.sz = g12.a.sz + 1 := by rw [← hg13]; exact UnG.put_sz _ _
  have hn13 : g13.n = g12.n + 0 := by rw [← hg13]; exact UnG.put_n _ _
  replace HB := Lib.hid (show g13.a.sz ≤ 400027 ∧ g13.n ≤ 1406 by have hb := HB.out; omega)
  replace hn13 := Lib.hid hn13
  clear hs13
  replace hU := Lib.hid hU
  replace hg13 := Lib.hid hg13
  have c0 := hU.out.cell
  have cx := hX.out.cell
  go_wp2_with fail
  refine (uleap_any hU.out na za (by have hb := HB.out; omega)).mono ?_
  rintro e w14 ⟨rfl, hU, hq⟩
  clear c0
  clear cx
  replace hX := Lib.hid (hX.out.chg hq)
  replace hC := Lib.hid (hC.out.trans hq)
  clear hq
  obtain ⟨g14, hg14⟩ : ∃ z, g13.leap na = z := ⟨_, rfl⟩
  rw [hg14] at hU
  have hs14 : g14.a.sz = g13.a.sz + 2 := by rw [← hg14]; exact UnG.leap_sz _ _
  have hn14 : g14.n = g13.n + 0 := by rw [← hg14]; exact UnG.leap_n _ _
  replace HB := Lib.hid (show g14.a.sz ≤ 400029 ∧ g14.n ≤ 1406 by have hb := HB.out; omega)
  replace hn14 := Lib.hid hn14
  clear hs14
  replace hU := Lib.hid hU
  replace hg14 := Lib.hid hg14
  have c0 := hU.out.cell
  have cx := hX.out.cell
  go_wp2_with fail
  refine (uhere_any hU.out nc zc (by have hb := HB.out; omega)).mono ?_
  rintro e w15 ⟨rfl, hU, hq⟩
  clear c0
  clear cx
  replace hX := Lib.hid (hX.out.chg hq)
  replace hC := Lib.hid (hC.out.trans hq)
  clear hq
  obtain ⟨g15, hg15⟩ : ∃ z, g14.here nc = z := ⟨_, rfl⟩
  rw [hg15] at hU
  have hs15 : g15.a.sz = g14.a.sz + 1 := by rw [← hg15]; exact UnG.here_sz _ _
  have hn15 : g15.n = g14.n + 0 := by rw [← hg15]; exact UnG.here_n _ _
  replace HB := Lib.hid (show g15.a.sz ≤ 400030 ∧ g15.n ≤ 1406 by have hb := HB.out; omega)
  replace hn15 := Lib.hid hn15
  clear hs15
  replace hU := Lib.hid hU
  replace hg15 := Lib.hid hg15
  have c0 := hU.out.cell
  have cx := hX.out.cell
  go_wp2_with fail
  refine (umove_any hU.out 4 11 (by omega) (by omega) (by have hb := HB.out; omega)).mono ?_
  rintro e w16 ⟨rfl, hU, hq⟩
  clear c0
  clear cx
  replace hX := Lib.hid (hX.out.chg hq)
  replace hC := Lib.hid (hC.out.trans hq)
  clear hq
  obtain ⟨g16, hg16⟩ : ∃ z, g15.put (moveI 4 11) = z := ⟨_, rfl⟩
  rw [hg16] at hU
  have hs16 : g16.a.sz = g15.a.sz + 1 := by rw [← hg16]; exact UnG.put_sz _ _
  have hn16 : g16.n = g15.n + 0 := by rw [← hg16]; exact UnG.put_n _ _
  replace HB := Lib.hid (show g16.a.sz ≤ 400031 ∧ g16.n ≤ 1406 by have hb := HB.out; omega)
  replace hn16 := Lib.hid hn16
  clear hs16
  replace hU := Lib.hid hU
  replace hg16 := Lib.hid hg16
  go_wp2
  refine bodyPost_end (v := .tuple #[]) (by simp [results, Try.results79, go_sem]) rfl ?_
  have hA : UnG.storeA g = g6 := by
    unfold UnG.storeA
    rw [← hg6.out, ← hg5.out, ← hg4.out, ← hg3.out, ← hg2.out, ← hg1.out]
    try rfl
  have q0 : nameS (g6.n + 1) = na := hna.out
  have q1 : nameS (g6.n + 2) = nb := by rw [← hnb.out, m1.out]
  have q2 : nameS (g6.n + 3) = nc := by rw [← hnc.out, m2.out]
  have h3 : g6.step 3 = x3 := by rw [← hx3.out, ← hx2.out, ← hx1.out]; rfl
  have he : g16 = UnG.store g := by
    unfold UnG.store UnG.storeB
    rw [hA, q0, q1, q2, h3, ← hg16.out, ← hg15.out, ← hg14.out, ← hg13.out, ← hg12.out, ← hg11.out, ← hg10.out, ← hg9.out, ← hg8.out, ← hg7.out]
    try rfl
  rw [← he]
  exact ⟨rfl, hU.out, hC.out⟩

end Go.Proofs.Ytlaeljkjdfffjaa


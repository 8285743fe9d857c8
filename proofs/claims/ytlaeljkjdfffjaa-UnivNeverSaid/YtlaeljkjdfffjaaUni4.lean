/- univ: what the function values of Universal do. -/
import Derived.Test.YtlaeljkjdfffjaaUni3
namespace Go.Proofs.Ytlaeljkjdfffjaa
open Go.RowKit Go.Maps


set_option maxRecDepth 20000 in
set_option maxHeartbeats 8000000 in
theorem du1_any {w : World} {B bw ba b1 b2 : Nat} {bx : Nat} (hx : BoxW w bx bw) : DoesU 200000 1000 w B bw ba b1 b2 72 #[.pointer (some ⟨bx, 0, none⟩)] (fun g => g.put (moveI 8 6)) := by
  intro w' g' hc h hg hn
  replace hg := And.intro hg hn
  clear hn
  have HB := Lib.hid (show g'.a.sz ≤ 200000 ∧ g'.n ≤ 1000 from ⟨by omega, by omega⟩)
  clear hg
  have hC := Lib.hid (UChg.refl B w')
  have hU := Lib.hid h
  clear h
  have hX := Lib.hid (hx.chg hc)
  clear hx
  clear hc
  go_enter Try.func72, Try.ntmps72
  have c0 := hU.out.cell
  have cx := hX.out.cell
  go_wp2_with fail
  refine (umove_any hU.out 8 6 (by omega) (by omega) (by have hb := HB.out; omega)).mono ?_
  rintro e w1 ⟨rfl, hU, hq⟩
  clear c0
  clear cx
  replace hX := Lib.hid (hX.out.chg hq)
  replace hC := Lib.hid (hC.out.trans hq)
  clear hq
  obtain ⟨g1, hg1⟩ : ∃ z, g'.put (moveI 8 6) = z := ⟨_, rfl⟩
  rw [hg1] at hU
  have hs1 : g1.a.sz = g'.a.sz + 1 := by rw [← hg1]; exact UnG.put_sz _ _
  have hn1 : g1.n = g'.n + 0 := by rw [← hg1]; exact UnG.put_n _ _
  replace HB := Lib.hid (show g1.a.sz ≤ 200001 ∧ g1.n ≤ 1000 by have hb := HB.out; omega)
  replace hn1 := Lib.hid hn1
  clear hs1
  replace hU := Lib.hid hU
  replace hg1 := Lib.hid hg1
  go_wp2
  refine bodyPost_end (v := .tuple #[]) (by simp [results, Try.results72, go_sem]) rfl ?_
  have he : g1 = g'.put (moveI 8 6) := by rw [← hg1.out]; try rfl
  rw [← he]
  exact ⟨rfl, hU.out, hC.out⟩

set_option maxRecDepth 20000 in
set_option maxHeartbeats 8000000 in
theorem du2_any {w : World} {B bw ba b1 b2 : Nat} {bx : Nat} (hx : BoxW w bx bw) : DoesU 200000 1000 w B bw ba b1 b2 73 #[.pointer (some ⟨bx, 0, none⟩)] (UnG.get) := by
  intro w' g' hc h hg hn
  replace hg := And.intro hg hn
  clear hn
  have HB := Lib.hid (show g'.a.sz ≤ 200000 ∧ g'.n ≤ 1000 from ⟨by omega, by omega⟩)
  clear hg
  have hC := Lib.hid (UChg.refl B w')
  have hU := Lib.hid h
  clear h
  have hX := Lib.hid (hx.chg hc)
  clear hx
  clear hc
  go_enter Try.func73, Try.ntmps73
  have c0 := hU.out.cell
  have cx := hX.out.cell
  go_wp2_with fail
  refine (umove_any hU.out 10 6 (by omega) (by omega) (by have hb := HB.out; omega)).mono ?_
  rintro e w1 ⟨rfl, hU, hq⟩
  clear c0
  clear cx
  replace hX := Lib.hid (hX.out.chg hq)
  replace hC := Lib.hid (hC.out.trans hq)
  clear hq
  obtain ⟨g1, hg1⟩ : ∃ z, g'.put (moveI 10 6) = z := ⟨_, rfl⟩
  rw [hg1] at hU
  have hs1 : g1.a.sz = g'.a.sz + 1 := by rw [← hg1]; exact UnG.put_sz _ _
  have hn1 : g1.n = g'.n + 0 := by rw [← hg1]; exact UnG.put_n _ _
  replace HB := Lib.hid (show g1.a.sz ≤ 200001 ∧ g1.n ≤ 1000 by have hb := HB.out; omega)
  replace hn1 := Lib.hid hn1
  clear hs1
  replace hU := Lib.hid hU
  replace hg1 := Lib.hid hg1
  have c0 := hU.out.cell
  have cx := hX.out.cell
  go_wp2_with fail
  refine (ufetch_any hU.out 8 (by omega) (by have hb := HB.out; omega)).mono ?_
  rintro e w2 ⟨rfl, hU, hq⟩
  clear c0
  clear cx
  replace hX := Lib.hid (hX.out.chg hq)
  replace hC := Lib.hid (hC.out.trans hq)
  clear hq
  obtain ⟨g2, hg2⟩ : ∃ z, UnG.fetch 8 g1 = z := ⟨_, rfl⟩
  rw [hg2] at hU
  have hs2 : g2.a.sz = g1.a.sz + 13 := by rw [← hg2]; exact (fetch_adds 8).sz _
  have hn2 : g2.n = g1.n + 3 := by rw [← hg2]; exact (fetch_adds 8).n _
  replace HB := Lib.hid (show g2.a.sz ≤ 200014 ∧ g2.n ≤ 1003 by have hb := HB.out; omega)
  replace hn2 := Lib.hid hn2
  clear hs2
  replace hU := Lib.hid hU
  replace hg2 := Lib.hid hg2
  go_wp2
  refine bodyPost_end (v := .tuple #[]) (by simp [results, Try.results73, go_sem]) rfl ?_
  have he : g2 = (UnG.get) g' := by rw [← hg2.out, ← hg1.out]; try rfl
  rw [← he]
  exact ⟨rfl, hU.out, hC.out⟩

set_option maxRecDepth 20000 in
set_option maxHeartbeats 8000000 in
theorem du3_any {w : World} {B bw ba b1 b2 : Nat} {bx : Nat} (hx : BoxW w bx bw) : DoesU 200000 1000 w B bw ba b1 b2 75 #[.pointer (some ⟨bx, 0, none⟩)] (UnG.k2) := by
  intro w' g' hc h hg hn
  replace hg := And.intro hg hn
  clear hn
  have HB := Lib.hid (show g'.a.sz ≤ 200000 ∧ g'.n ≤ 1000 from ⟨by omega, by omega⟩)
  clear hg
  have hC := Lib.hid (UChg.refl B w')
  have hU := Lib.hid h
  clear h
  have hX := Lib.hid (hx.chg hc)
  clear hx
  clear hc
  go_enter Try.func75, Try.ntmps75
  have c0 := hU.out.cell
  have cx := hX.out.cell
  go_wp2_with fail
  refine (uhead_any hU.out 10 6 (by omega) (by omega) (by have hb := HB.out; omega)).mono ?_
  rintro e w1 ⟨rfl, hU, hq⟩
  clear c0
  clear cx
  replace hX := Lib.hid (hX.out.chg hq)
  replace hC := Lib.hid (hC.out.trans hq)
  clear hq
  obtain ⟨g1, hg1⟩ : ∃ z, g'.put (hdI 10 6) = z := ⟨_, rfl⟩
  rw [hg1] at hU
  have hs1 : g1.a.sz = g'.a.sz + 1 := by rw [← hg1]; exact UnG.put_sz _ _
  have hn1 : g1.n = g'.n + 0 := by rw [← hg1]; exact UnG.put_n _ _
  replace HB := Lib.hid (show g1.a.sz ≤ 200001 ∧ g1.n ≤ 1000 by have hb := HB.out; omega)
  replace hn1 := Lib.hid hn1
  clear hs1
  replace hU := Lib.hid hU
  replace hg1 := Lib.hid hg1
  have c0 := hU.out.cell
  have cx := hX.out.cell
  go_wp2_with fail
  refine (ufetch_any hU.out 9 (by omega) (by have hb := HB.out; omega)).mono ?_
  rintro e w2 ⟨rfl, hU, hq⟩
  clear c0
  clear cx
  replace hX := Lib.hid (hX.out.chg hq)
  replace hC := Lib.hid (hC.out.trans hq)
  clear hq
  obtain ⟨g2, hg2⟩ : ∃ z, UnG.fetch 9 g1 = z := ⟨_, rfl⟩
  rw [hg2] at hU
  have hs2 : g2.a.sz = g1.a.sz + 13 := by rw [← hg2]; exact (fetch_adds 9).sz _
  have hn2 : g2.n = g1.n + 3 := by rw [← hg2]; exact (fetch_adds 9).n _
  replace HB := Lib.hid (show g2.a.sz ≤ 200014 ∧ g2.n ≤ 1003 by have hb := HB.out; omega)
  replace hn2 := Lib.hid hn2
  clear hs2
  replace hU := Lib.hid hU
  replace hg2 := Lib.hid hg2
  have c0 := hU.out.cell
  have cx := hX.out.cell
  go_wp2_with fail
  refine (utail_any hU.out 10 6 (by omega) (by omega) (by have hb := HB.out; omega)).mono ?_
  rintro e w3 ⟨rfl, hU, hq⟩
  clear c0
  clear cx
  replace hX := Lib.hid (hX.out.chg hq)
  replace hC := Lib.hid (hC.out.trans hq)
  clear hq
  obtain ⟨g3, hg3⟩ : ∃ z, g2.put (tlI 10 6) = z := ⟨_, rfl⟩
  rw [hg3] at hU
  have hs3 : g3.a.sz = g2.a.sz + 1 := by rw [← hg3]; exact UnG.put_sz _ _
  have hn3 : g3.n = g2.n + 0 := by rw [← hg3]; exact UnG.put_n _ _
  replace HB := Lib.hid (show g3.a.sz ≤ 200015 ∧ g3.n ≤ 1003 by have hb := HB.out; omega)
  replace hn3 := Lib.hid hn3
  clear hs3
  replace hU := Lib.hid hU
  replace hg3 := Lib.hid hg3
  have c0 := hU.out.cell
  have cx := hX.out.cell
  go_wp2_with fail
  refine (ufetch_any hU.out 8 (by omega) (by have hb := HB.out; omega)).mono ?_
  rintro e w4 ⟨rfl, hU, hq⟩
  clear c0
  clear cx
  replace hX := Lib.hid (hX.out.chg hq)
  replace hC := Lib.hid (hC.out.trans hq)
  clear hq
  obtain ⟨g4, hg4⟩ : ∃ z, UnG.fetch 8 g3 = z := ⟨_, rfl⟩
  rw [hg4] at hU
  have hs4 : g4.a.sz = g3.a.sz + 13 := by rw [← hg4]; exact (fetch_adds 8).sz _
  have hn4 : g4.n = g3.n + 3 := by rw [← hg4]; exact (fetch_adds 8).n _
  replace HB := Lib.hid (show g4.a.sz ≤ 200028 ∧ g4.n ≤ 1006 by have hb := HB.out; omega)
  replace hn4 := Lib.hid hn4
  clear hs4
  replace hU := Lib.hid hU
  replace hg4 := Lib.hid hg4
  have c0 := hU.out.cell
  have cx := hX.out.cell
  go_wp2_with fail
  refine (ucons_any hU.out 8 9 8 (by omega) (by omega) (by omega) (by have hb := HB.out; omega)).mono ?_
  rintro e w5 ⟨rfl, hU, hq⟩
  clear c0
  clear cx
  replace hX := Lib.hid (hX.out.chg hq)
  replace hC := Lib.hid (hC.out.trans hq)
  clear hq
  obtain ⟨g5, hg5⟩ : ∃ z, g4.put (consI 8 9 8) = z := ⟨_, rfl⟩
  rw [hg5] at hU
  have hs5 : g5.a.sz = g4.a.sz + 1 := by rw [← hg5]; exact UnG.put_sz _ _
  have hn5 : g5.n = g4.n + 0 := by rw [← hg5]; exact UnG.put_n _ _
  replace HB := Lib.hid (show g5.a.sz ≤ 200029 ∧ g5.n ≤ 1006 by have hb := HB.out; omega)
  replace hn5 := Lib.hid hn5
  clear hs5
  replace hU := Lib.hid hU
  replace hg5 := Lib.hid hg5
  go_wp2
  refine bodyPost_end (v := .tuple #[]) (by simp [results, Try.results75, go_sem]) rfl ?_
  have he : g5 = (UnG.k2) g' := by rw [← hg5.out, ← hg4.out, ← hg3.out, ← hg2.out, ← hg1.out]; try rfl
  rw [← he]
  exact ⟨rfl, hU.out, hC.out⟩

set_option maxRecDepth 20000 in
set_option maxHeartbeats 8000000 in
theorem du4_any {w : World} {B bw ba b1 b2 : Nat} {bx bg : Nat} (hx : BoxW w bx bw) (hbg : w.heap[bg]? = some (.cells #[.func (.func 73) #[] #[.pointer (some ⟨bx, 0, none⟩)]] 1 (0, 0))) : DoesU 200000 1000 w B bw ba b1 b2 76 #[.pointer (some ⟨bg, 0, none⟩), .pointer (some ⟨bx, 0, none⟩)] (UnG.k3) := by
  intro w' g' hc h hg hn
  replace hg := And.intro hg hn
  clear hn
  have HB := Lib.hid (show g'.a.sz ≤ 200000 ∧ g'.n ≤ 1000 from ⟨by omega, by omega⟩)
  clear hg
  have hC := Lib.hid (UChg.refl B w')
  have hU := Lib.hid h
  clear h
  have hX := Lib.hid (hx.chg hc)
  clear hx
  have hent := enters_of Try.func73 (by kernel_rfl) rfl
  have hG := Lib.hid (hc.kept _ (by decide) (by decide) (by decide) _ _ hbg)
  clear hbg
  clear hc
  go_enter Try.func76, Try.ntmps76
  have c0 := hU.out.cell
  have cx := hX.out.cell
  have c_hG := (block_cells hG.out).1 0
  go_wp2_with fail
  refine (du2_any hX.out _ _ (UChg.refl _ _) hU.out (by have hb := HB.out; omega) (by have hb := HB.out; omega)).mono ?_
  rintro e w1 ⟨rfl, hU, hq⟩
  replace hX := Lib.hid (hX.out.chg hq)
  replace hG := Lib.hid (hq.kept _ (by decide) (by decide) (by decide) _ _ hG.out)
  replace hC := Lib.hid (hC.out.trans hq)
  clear hq
  obtain ⟨g1, hg1⟩ : ∃ z, UnG.get g' = z := ⟨_, rfl⟩
  rw [hg1] at hU
  have hs1 : g1.a.sz = g'.a.sz + 14 := by rw [← hg1]; exact (get_adds).sz _
  have hn1 : g1.n = g'.n + 3 := by rw [← hg1]; exact (get_adds).n _
  replace HB := Lib.hid (show g1.a.sz ≤ 200014 ∧ g1.n ≤ 1003 by have hb := HB.out; omega)
  replace hn1 := Lib.hid hn1
  clear hs1
  replace hU := Lib.hid hU
  replace hg1 := Lib.hid hg1
  clear c0
  clear cx
  clear c_hG
  have c0 := hU.out.cell
  have cx := hX.out.cell
  have c_hG := (block_cells hG.out).1 0
  go_wp2_with fail
  refine (uhead_any hU.out 8 8 (by omega) (by omega) (by have hb := HB.out; omega)).mono ?_
  rintro e w2 ⟨rfl, hU, hq⟩
  clear c0
  clear cx
  clear c_hG
  replace hX := Lib.hid (hX.out.chg hq)
  replace hG := Lib.hid (hq.kept _ (by decide) (by decide) (by decide) _ _ hG.out)
  replace hC := Lib.hid (hC.out.trans hq)
  clear hq
  obtain ⟨g2, hg2⟩ : ∃ z, g1.put (hdI 8 8) = z := ⟨_, rfl⟩
  rw [hg2] at hU
  have hs2 : g2.a.sz = g1.a.sz + 1 := by rw [← hg2]; exact UnG.put_sz _ _
  have hn2 : g2.n = g1.n + 0 := by rw [← hg2]; exact UnG.put_n _ _
  replace HB := Lib.hid (show g2.a.sz ≤ 200015 ∧ g2.n ≤ 1003 by have hb := HB.out; omega)
  replace hn2 := Lib.hid hn2
  clear hs2
  replace hU := Lib.hid hU
  replace hg2 := Lib.hid hg2
  go_wp2
  refine bodyPost_end (v := .tuple #[]) (by simp [results, Try.results76, go_sem]) rfl ?_
  have he : g2 = (UnG.k3) g' := by rw [← hg2.out, ← hg1.out]; try rfl
  rw [← he]
  exact ⟨rfl, hU.out, hC.out⟩

set_option maxRecDepth 20000 in
set_option maxHeartbeats 8000000 in
theorem du5_any {w : World} {B bw ba b1 b2 : Nat} {bx bg : Nat} (hx : BoxW w bx bw) (hbg : w.heap[bg]? = some (.cells #[.func (.func 73) #[] #[.pointer (some ⟨bx, 0, none⟩)]] 1 (0, 0))) : DoesU 200000 1000 w B bw ba b1 b2 77 #[.pointer (some ⟨bg, 0, none⟩), .pointer (some ⟨bx, 0, none⟩)] (UnG.k4) := by
  intro w' g' hc h hg hn
  replace hg := And.intro hg hn
  clear hn
  have HB := Lib.hid (show g'.a.sz ≤ 200000 ∧ g'.n ≤ 1000 from ⟨by omega, by omega⟩)
  clear hg
  have hC := Lib.hid (UChg.refl B w')
  have hU := Lib.hid h
  clear h
  have hX := Lib.hid (hx.chg hc)
  clear hx
  have hent := enters_of Try.func73 (by kernel_rfl) rfl
  have hG := Lib.hid (hc.kept _ (by decide) (by decide) (by decide) _ _ hbg)
  clear hbg
  clear hc
  go_enter Try.func77, Try.ntmps77
  have c0 := hU.out.cell
  have cx := hX.out.cell
  have c_hG := (block_cells hG.out).1 0
  go_wp2_with fail
  refine (du2_any hX.out _ _ (UChg.refl _ _) hU.out (by have hb := HB.out; omega) (by have hb := HB.out; omega)).mono ?_
  rintro e w1 ⟨rfl, hU, hq⟩
  replace hX := Lib.hid (hX.out.chg hq)
  replace hG := Lib.hid (hq.kept _ (by decide) (by decide) (by decide) _ _ hG.out)
  replace hC := Lib.hid (hC.out.trans hq)
  clear hq
  obtain ⟨g1, hg1⟩ : ∃ z, UnG.get g' = z := ⟨_, rfl⟩
  rw [hg1] at hU
  have hs1 : g1.a.sz = g'.a.sz + 14 := by rw [← hg1]; exact (get_adds).sz _
  have hn1 : g1.n = g'.n + 3 := by rw [← hg1]; exact (get_adds).n _
  replace HB := Lib.hid (show g1.a.sz ≤ 200014 ∧ g1.n ≤ 1003 by have hb := HB.out; omega)
  replace hn1 := Lib.hid hn1
  clear hs1
  replace hU := Lib.hid hU
  replace hg1 := Lib.hid hg1
  clear c0
  clear cx
  clear c_hG
  have c0 := hU.out.cell
  have cx := hX.out.cell
  have c_hG := (block_cells hG.out).1 0
  go_wp2_with fail
  refine (utail_any hU.out 8 8 (by omega) (by omega) (by have hb := HB.out; omega)).mono ?_
  rintro e w2 ⟨rfl, hU, hq⟩
  clear c0
  clear cx
  clear c_hG
  replace hX := Lib.hid (hX.out.chg hq)
  replace hG := Lib.hid (hq.kept _ (by decide) (by decide) (by decide) _ _ hG.out)
  replace hC := Lib.hid (hC.out.trans hq)
  clear hq
  obtain ⟨g2, hg2⟩ : ∃ z, g1.put (tlI 8 8) = z := ⟨_, rfl⟩
  rw [hg2] at hU
  have hs2 : g2.a.sz = g1.a.sz + 1 := by rw [← hg2]; exact UnG.put_sz _ _
  have hn2 : g2.n = g1.n + 0 := by rw [← hg2]; exact UnG.put_n _ _
  replace HB := Lib.hid (show g2.a.sz ≤ 200015 ∧ g2.n ≤ 1003 by have hb := HB.out; omega)
  replace hn2 := Lib.hid hn2
  clear hs2
  replace hU := Lib.hid hU
  replace hg2 := Lib.hid hg2
  go_wp2
  refine bodyPost_end (v := .tuple #[]) (by simp [results, Try.results77, go_sem]) rfl ?_
  have he : g2 = (UnG.k4) g' := by rw [← hg2.out, ← hg1.out]; try rfl
  rw [← he]
  exact ⟨rfl, hU.out, hC.out⟩

set_option maxRecDepth 20000 in
set_option maxHeartbeats 8000000 in
theorem du6_any {w : World} {B bw ba b1 b2 : Nat} {bx : Nat} (hx : BoxW w bx bw) : DoesU 600000 2000 w B bw ba b1 b2 81 #[.pointer (some ⟨bx, 0, none⟩)] (fun g => g.put (tlI 3 3)) := by
  intro w' g' hc h hg hn
  replace hg := And.intro hg hn
  clear hn
  have HB := Lib.hid (show g'.a.sz ≤ 600000 ∧ g'.n ≤ 2000 from ⟨by omega, by omega⟩)
  clear hg
  have hC := Lib.hid (UChg.refl B w')
  have hU := Lib.hid h
  clear h
  have hX := Lib.hid (hx.chg hc)
  clear hx
  clear hc
  go_enter Try.func81, Try.ntmps81
  have c0 := hU.out.cell
  have cx := hX.out.cell
  go_wp2_with fail
  refine (utail_any hU.out 3 3 (by omega) (by omega) (by have hb := HB.out; omega)).mono ?_
  rintro e w1 ⟨rfl, hU, hq⟩
  clear c0
  clear cx
  replace hX := Lib.hid (hX.out.chg hq)
  replace hC := Lib.hid (hC.out.trans hq)
  clear hq
  obtain ⟨g1, hg1⟩ : ∃ z, g'.put (tlI 3 3) = z := ⟨_, rfl⟩
  rw [hg1] at hU
  have hs1 : g1.a.sz = g'.a.sz + 1 := by rw [← hg1]; exact UnG.put_sz _ _
  have hn1 : g1.n = g'.n + 0 := by rw [← hg1]; exact UnG.put_n _ _
  replace HB := Lib.hid (show g1.a.sz ≤ 600001 ∧ g1.n ≤ 2000 by have hb := HB.out; omega)
  replace hn1 := Lib.hid hn1
  clear hs1
  replace hU := Lib.hid hU
  replace hg1 := Lib.hid hg1
  go_wp2
  refine bodyPost_end (v := .tuple #[]) (by simp [results, Try.results81, go_sem]) rfl ?_
  have he : g1 = g'.put (tlI 3 3) := by rw [← hg1.out]; try rfl
  rw [← he]
  exact ⟨rfl, hU.out, hC.out⟩

set_option maxRecDepth 20000 in
set_option maxHeartbeats 8000000 in
theorem du7_any {w : World} {B bw ba b1 b2 : Nat} {bx : Nat} (hx : BoxW w bx bw) : DoesU 600000 2000 w B bw ba b1 b2 82 #[.pointer (some ⟨bx, 0, none⟩)] (fun g => g.put (tlI 2 2)) := by
  intro w' g' hc h hg hn
  replace hg := And.intro hg hn
  clear hn
  have HB := Lib.hid (show g'.a.sz ≤ 600000 ∧ g'.n ≤ 2000 from ⟨by omega, by omega⟩)
  clear hg
  have hC := Lib.hid (UChg.refl B w')
  have hU := Lib.hid h
  clear h
  have hX := Lib.hid (hx.chg hc)
  clear hx
  clear hc
  go_enter Try.func82, Try.ntmps82
  have c0 := hU.out.cell
  have cx := hX.out.cell
  go_wp2_with fail
  refine (utail_any hU.out 2 2 (by omega) (by omega) (by have hb := HB.out; omega)).mono ?_
  rintro e w1 ⟨rfl, hU, hq⟩
  clear c0
  clear cx
  replace hX := Lib.hid (hX.out.chg hq)
  replace hC := Lib.hid (hC.out.trans hq)
  clear hq
  obtain ⟨g1, hg1⟩ : ∃ z, g'.put (tlI 2 2) = z := ⟨_, rfl⟩
  rw [hg1] at hU
  have hs1 : g1.a.sz = g'.a.sz + 1 := by rw [← hg1]; exact UnG.put_sz _ _
  have hn1 : g1.n = g'.n + 0 := by rw [← hg1]; exact UnG.put_n _ _
  replace HB := Lib.hid (show g1.a.sz ≤ 600001 ∧ g1.n ≤ 2000 by have hb := HB.out; omega)
  replace hn1 := Lib.hid hn1
  clear hs1
  replace hU := Lib.hid hU
  replace hg1 := Lib.hid hg1
  go_wp2
  refine bodyPost_end (v := .tuple #[]) (by simp [results, Try.results82, go_sem]) rfl ?_
  have he : g1 = g'.put (tlI 2 2) := by rw [← hg1.out]; try rfl
  rw [← he]
  exact ⟨rfl, hU.out, hC.out⟩

theorem dnext_any {w : World} {B bw ba b1 b2 : Nat} : DoesU 600000 2000 w B bw ba b1 b2 78 #[.pointer (some ⟨bw, 0, none⟩)] UnG.next := fun w' g' hc h hg hn => unext_any h ⟨by omega, by omega⟩

end Go.Proofs.Ytlaeljkjdfffjaa


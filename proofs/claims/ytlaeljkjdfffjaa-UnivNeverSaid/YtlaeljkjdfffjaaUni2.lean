/- univ: leap, next, the loops that count, fetch, store, kind. -/
import Derived.Test.YtlaeljkjdfffjaaUni1
namespace Go.Proofs.Ytlaeljkjdfffjaa
open Go.RowKit Go.Maps


set_option maxRecDepth 20000 in
set_option maxHeartbeats 8000000 in
theorem uleap_any {w : World} {B bw ba b1 b2 : Nat} {g : UnG} (h : UnW w B bw ba b1 b2 g) (s : ByteArray) (hs : s.size ≤ 1000000) (hg : g.a.sz ≤ 800000 ∧ g.n ≤ 100000) :
    Calls Try.prog 70 #[.pointer (some ⟨bw, 0, none⟩), .string s] w (UOut w B bw ba b1 b2 (g.leap s)) := by
  have HB := Lib.hid (show g.a.sz ≤ 800000 ∧ g.n ≤ 100000 from ⟨by omega, by omega⟩)
  clear hg
  have hC := Lib.hid (UChg.refl B w)
  have hU := Lib.hid h
  clear h
  go_enter Try.func70, Try.ntmps70
  have c0 := hU.out.cell
  go_wp2_with fail
  refine (ujump_any hU.out 14 s (by omega) hs (by have hb := HB.out; omega)).mono ?_
  rintro e w1 ⟨rfl, hU, hq⟩
  clear c0
  replace hC := Lib.hid (hC.out.trans hq)
  clear hq
  obtain ⟨g1, hg1⟩ : ∃ z, g.jump 14 s = z := ⟨_, rfl⟩
  rw [hg1] at hU
  have hs1 : g1.a.sz = g.a.sz + 2 := by rw [← hg1]; exact UnG.jump_sz _ _ _
  have hn1 : g1.n = g.n + 0 := by rw [← hg1]; exact UnG.jump_n _ _ _
  replace HB := Lib.hid (show g1.a.sz ≤ 800002 ∧ g1.n ≤ 100000 by have hb := HB.out; omega)
  replace hn1 := Lib.hid hn1
  clear hs1
  replace hU := Lib.hid hU
  replace hg1 := Lib.hid hg1
  go_wp2
  refine bodyPost_end (v := .tuple #[]) (by simp [results, Try.results70, go_sem]) rfl ?_
  have he : g1 = g.leap s := by rw [← hg1.out]; try rfl
  rw [← he]
  exact ⟨rfl, hU.out, hC.out⟩

set_option maxRecDepth 20000 in
set_option maxHeartbeats 8000000 in
theorem unext_any {w : World} {B bw ba b1 b2 : Nat} {g : UnG} (h : UnW w B bw ba b1 b2 g) (hg : g.a.sz ≤ 800000 ∧ g.n ≤ 100000) :
    Calls Try.prog 78 #[.pointer (some ⟨bw, 0, none⟩)] w (UOut w B bw ba b1 b2 (UnG.next g)) := by
  have HB := Lib.hid (show g.a.sz ≤ 800000 ∧ g.n ≤ 100000 from ⟨by omega, by omega⟩)
  clear hg
  have hC := Lib.hid (UChg.refl B w)
  have hU := Lib.hid h
  clear h
  go_enter Try.func78, Try.ntmps78
  have c0 := hU.out.cell
  go_wp2_with fail
  refine (utail_any hU.out 2 2 (by omega) (by omega) (by have hb := HB.out; omega)).mono ?_
  rintro e w1 ⟨rfl, hU, hq⟩
  clear c0
  replace hC := Lib.hid (hC.out.trans hq)
  clear hq
  obtain ⟨g1, hg1⟩ : ∃ z, g.put (tlI 2 2) = z := ⟨_, rfl⟩
  rw [hg1] at hU
  have hs1 : g1.a.sz = g.a.sz + 1 := by rw [← hg1]; exact UnG.put_sz _ _
  have hn1 : g1.n = g.n + 0 := by rw [← hg1]; exact UnG.put_n _ _
  replace HB := Lib.hid (show g1.a.sz ≤ 800001 ∧ g1.n ≤ 100000 by have hb := HB.out; omega)
  replace hn1 := Lib.hid hn1
  clear hs1
  replace hU := Lib.hid hU
  replace hg1 := Lib.hid hg1
  have c0 := hU.out.cell
  go_wp2_with fail
  refine (uset_any hU.out 13 ⟨#[48]⟩ (by omega) (by decide) (by have hb := HB.out; omega)).mono ?_
  rintro e w2 ⟨rfl, hU, hq⟩
  clear c0
  replace hC := Lib.hid (hC.out.trans hq)
  clear hq
  obtain ⟨g2, hg2⟩ : ∃ z, g1.put (setI 13 ⟨#[48]⟩) = z := ⟨_, rfl⟩
  rw [hg2] at hU
  have hs2 : g2.a.sz = g1.a.sz + 1 := by rw [← hg2]; exact UnG.put_sz _ _
  have hn2 : g2.n = g1.n + 0 := by rw [← hg2]; exact UnG.put_n _ _
  replace HB := Lib.hid (show g2.a.sz ≤ 800002 ∧ g2.n ≤ 100000 by have hb := HB.out; omega)
  replace hn2 := Lib.hid hn2
  clear hs2
  replace hU := Lib.hid hU
  replace hg2 := Lib.hid hg2
  have c0 := hU.out.cell
  go_wp2_with fail
  refine (ucons_any hU.out 3 13 3 (by omega) (by omega) (by omega) (by have hb := HB.out; omega)).mono ?_
  rintro e w3 ⟨rfl, hU, hq⟩
  clear c0
  replace hC := Lib.hid (hC.out.trans hq)
  clear hq
  obtain ⟨g3, hg3⟩ : ∃ z, g2.put (consI 3 13 3) = z := ⟨_, rfl⟩
  rw [hg3] at hU
  have hs3 : g3.a.sz = g2.a.sz + 1 := by rw [← hg3]; exact UnG.put_sz _ _
  have hn3 : g3.n = g2.n + 0 := by rw [← hg3]; exact UnG.put_n _ _
  replace HB := Lib.hid (show g3.a.sz ≤ 800003 ∧ g3.n ≤ 100000 by have hb := HB.out; omega)
  replace hn3 := Lib.hid hn3
  clear hs3
  replace hU := Lib.hid hU
  replace hg3 := Lib.hid hg3
  go_wp2
  refine bodyPost_end (v := .tuple #[]) (by simp [results, Try.results78, go_sem]) rfl ?_
  have he : g3 = UnG.next g := by rw [← hg3.out, ← hg2.out, ← hg1.out]; try rfl
  rw [← he]
  exact ⟨rfl, hU.out, hC.out⟩

/-- What a function value does with the writer. -/
def DoesU (N M : Nat) (w : World) (B bw ba b1 b2 : Nat) (F : Nat) (args : Array Value) (f : UnG → UnG) : Prop := ∀ (w' : World) (g' : UnG), UChg B w w' → UnW w' B bw ba b1 b2 g' → g'.a.sz ≤ N → g'.n ≤ M → Calls Try.prog F args w' (UOut w' B bw ba b1 b2 (f g'))
theorem DoesU.chg {N M : Nat} {w w1 : World} {B bw ba b1 b2 F : Nat} {args : Array Value} {f : UnG → UnG} (h : DoesU N M w B bw ba b1 b2 F args f) (hc : UChg B w w1) : DoesU N M w1 B bw ba b1 b2 F args f := fun w' g' h1 h2 h3 h4 => h w' g' (hc.trans h1) h2 h3 h4
theorem uname_at {w : World} {B bw ba b1 b2 : Nat} {g : UnG} (h : UnW w B bw ba b1 b2 g) (hn : g.n ≤ 3000) :
    Calls Try.prog 122 #[.pointer (some ⟨bw, 0, none⟩)] w fun e w' => e = .returned (.string (nameS (g.n + 1))) ∧ UnW w' B bw ba b1 b2 (g.step 1) ∧ UChg B w w' := uname_any h hn

set_option maxRecDepth 20000 in
set_option maxHeartbeats 8000000 in
theorem ucount_1 {w : World} {B bw ba b1 b2 : Nat} {g : UnG} (h : UnW w B bw ba b1 b2 g) (F : Nat) (hent : ∀ args w, (callFunc F args).run Try.prog w = .ok (.enter F args) w) (x : Value) (f : UnG → UnG) (k m : Nat) (hA : AddsU f k m) (hk : k ≤ 1000) (hm : m ≤ 100) (hF : DoesU 600000 2000 w B bw ba b1 b2 F #[x] f) (hg : g.a.sz ≤ 500000 ∧ g.n ≤ 1500) :
    Calls Try.prog 80 #[.pointer (some ⟨bw, 0, none⟩), .func (.func F) #[] #[x]] w (UOut w B bw ba b1 b2 (UnG.count f g)) := by
  have hf := Lib.hid hF
  have HA := Lib.hid hA
  clear hF hA
  have HB := Lib.hid (show g.a.sz ≤ 500000 ∧ g.n ≤ 1500 from ⟨by omega, by omega⟩)
  clear hg
  have hC := Lib.hid (UChg.refl B w)
  have hU := Lib.hid h
  clear h
  go_enter Try.func80, Try.ntmps80
  have c0 := hU.out.cell
  go_wp2_with fail
  refine (uname_at hU.out (by have hb := HB.out; omega)).mono ?_
  rintro e w1 ⟨rfl, hU, hq⟩
  clear c0
  replace hC := Lib.hid (hC.out.trans hq)
  clear hq
  obtain ⟨g1, hg1⟩ : ∃ z, g.step 1 = z := ⟨_, rfl⟩
  rw [hg1] at hU
  have hs1 : g1.a.sz = g.a.sz + 0 := by rw [← hg1]; exact UnG.step_sz _ _
  have hn1 : g1.n = g.n + 1 := by rw [← hg1]; exact UnG.step_n _ _
  replace HB := Lib.hid (show g1.a.sz ≤ 500000 ∧ g1.n ≤ 1501 by have hb := HB.out; omega)
  replace hn1 := Lib.hid hn1
  clear hs1
  replace hU := Lib.hid hU
  replace hg1 := Lib.hid hg1
  have c0 := hU.out.cell
  go_wp2_with fail
  refine (uname_at hU.out (by have hb := HB.out; omega)).mono ?_
  rintro e w2 ⟨rfl, hU, hq⟩
  clear c0
  replace hC := Lib.hid (hC.out.trans hq)
  clear hq
  obtain ⟨g2, hg2⟩ : ∃ z, g1.step 1 = z := ⟨_, rfl⟩
  rw [hg2] at hU
  have hs2 : g2.a.sz = g1.a.sz + 0 := by rw [← hg2]; exact UnG.step_sz _ _
  have hn2 : g2.n = g1.n + 1 := by rw [← hg2]; exact UnG.step_n _ _
  replace HB := Lib.hid (show g2.a.sz ≤ 500000 ∧ g2.n ≤ 1502 by have hb := HB.out; omega)
  replace hn2 := Lib.hid hn2
  clear hs2
  replace hU := Lib.hid hU
  replace hg2 := Lib.hid hg2
  have c0 := hU.out.cell
  go_wp2_with fail
  refine (uname_at hU.out (by have hb := HB.out; omega)).mono ?_
  rintro e w3 ⟨rfl, hU, hq⟩
  clear c0
  replace hC := Lib.hid (hC.out.trans hq)
  clear hq
  obtain ⟨g3, hg3⟩ : ∃ z, g2.step 1 = z := ⟨_, rfl⟩
  rw [hg3] at hU
  have hs3 : g3.a.sz = g2.a.sz + 0 := by rw [← hg3]; exact UnG.step_sz _ _
  have hn3 : g3.n = g2.n + 1 := by rw [← hg3]; exact UnG.step_n _ _
  replace HB := Lib.hid (show g3.a.sz ≤ 500000 ∧ g3.n ≤ 1503 by have hb := HB.out; omega)
  replace hn3 := Lib.hid hn3
  clear hs3
  replace hU := Lib.hid hU
  replace hg3 := Lib.hid hg3
  obtain ⟨na, hna⟩ : ∃ z, nameS (g.n + 1) = z := ⟨_, rfl⟩
  obtain ⟨nb, hnb⟩ : ∃ z, nameS (g1.n + 1) = z := ⟨_, rfl⟩
  obtain ⟨nc, hnc⟩ : ∃ z, nameS (g2.n + 1) = z := ⟨_, rfl⟩
  have za : na.size ≤ 1000000 := by rw [← hna, name_size]; omega
  have zb : nb.size ≤ 1000000 := by rw [← hnb, name_size]; omega
  have zc : nc.size ≤ 1000000 := by rw [← hnc, name_size]; omega
  rw [hna, hnb, hnc]
  replace hna := Lib.hid hna
  replace hnb := Lib.hid hnb
  replace hnc := Lib.hid hnc
  have c0 := hU.out.cell
  go_wp2_with fail
  refine (uhere_any hU.out na za (by have hb := HB.out; omega)).mono ?_
  rintro e w4 ⟨rfl, hU, hq⟩
  clear c0
  replace hC := Lib.hid (hC.out.trans hq)
  clear hq
  obtain ⟨g4, hg4⟩ : ∃ z, g3.here na = z := ⟨_, rfl⟩
  rw [hg4] at hU
  have hs4 : g4.a.sz = g3.a.sz + 1 := by rw [← hg4]; exact UnG.here_sz _ _
  have hn4 : g4.n = g3.n + 0 := by rw [← hg4]; exact UnG.here_n _ _
  replace HB := Lib.hid (show g4.a.sz ≤ 500001 ∧ g4.n ≤ 1503 by have hb := HB.out; omega)
  replace hn4 := Lib.hid hn4
  clear hs4
  replace hU := Lib.hid hU
  replace hg4 := Lib.hid hg4
  have c0 := hU.out.cell
  go_wp2_with fail
  refine (ujump_any hU.out 10 nb (by omega) zb (by have hb := HB.out; omega)).mono ?_
  rintro e w5 ⟨rfl, hU, hq⟩
  clear c0
  replace hC := Lib.hid (hC.out.trans hq)
  clear hq
  obtain ⟨g5, hg5⟩ : ∃ z, g4.jump 10 nb = z := ⟨_, rfl⟩
  rw [hg5] at hU
  have hs5 : g5.a.sz = g4.a.sz + 2 := by rw [← hg5]; exact UnG.jump_sz _ _ _
  have hn5 : g5.n = g4.n + 0 := by rw [← hg5]; exact UnG.jump_n _ _ _
  replace HB := Lib.hid (show g5.a.sz ≤ 500003 ∧ g5.n ≤ 1503 by have hb := HB.out; omega)
  replace hn5 := Lib.hid hn5
  clear hs5
  replace hU := Lib.hid hU
  replace hg5 := Lib.hid hg5
  have c0 := hU.out.cell
  go_wp2_with fail
  refine (uleap_any hU.out nc zc (by have hb := HB.out; omega)).mono ?_
  rintro e w6 ⟨rfl, hU, hq⟩
  clear c0
  replace hC := Lib.hid (hC.out.trans hq)
  clear hq
  obtain ⟨g6, hg6⟩ : ∃ z, g5.leap nc = z := ⟨_, rfl⟩
  rw [hg6] at hU
  have hs6 : g6.a.sz = g5.a.sz + 2 := by rw [← hg6]; exact UnG.leap_sz _ _
  have hn6 : g6.n = g5.n + 0 := by rw [← hg6]; exact UnG.leap_n _ _
  replace HB := Lib.hid (show g6.a.sz ≤ 500005 ∧ g6.n ≤ 1503 by have hb := HB.out; omega)
  replace hn6 := Lib.hid hn6
  clear hs6
  replace hU := Lib.hid hU
  replace hg6 := Lib.hid hg6
  have c0 := hU.out.cell
  go_wp2_with fail
  refine (uhere_any hU.out nb zb (by have hb := HB.out; omega)).mono ?_
  rintro e w7 ⟨rfl, hU, hq⟩
  clear c0
  replace hC := Lib.hid (hC.out.trans hq)
  clear hq
  obtain ⟨g7, hg7⟩ : ∃ z, g6.here nb = z := ⟨_, rfl⟩
  rw [hg7] at hU
  have hs7 : g7.a.sz = g6.a.sz + 1 := by rw [← hg7]; exact UnG.here_sz _ _
  have hn7 : g7.n = g6.n + 0 := by rw [← hg7]; exact UnG.here_n _ _
  replace HB := Lib.hid (show g7.a.sz ≤ 500006 ∧ g7.n ≤ 1503 by have hb := HB.out; omega)
  replace hn7 := Lib.hid hn7
  clear hs7
  replace hU := Lib.hid hU
  replace hg7 := Lib.hid hg7
  have c0 := hU.out.cell
  go_wp2_with fail
  refine (hf.out.chg hC.out _ _ (UChg.refl _ _) hU.out (by have hb := HB.out; omega) (by have hb := HB.out; omega)).mono ?_
  rintro e w8 ⟨rfl, hU, hq⟩
  clear c0
  replace hC := Lib.hid (hC.out.trans hq)
  clear hq
  obtain ⟨g8, hg8⟩ : ∃ z, f g7 = z := ⟨_, rfl⟩
  rw [hg8] at hU
  have hs8 : g8.a.sz = g7.a.sz + k := by rw [← hg8]; exact (HA.out).sz _
  have hn8 : g8.n = g7.n + m := by rw [← hg8]; exact (HA.out).n _
  replace HB := Lib.hid (show g8.a.sz ≤ 501006 ∧ g8.n ≤ 1603 by have hb := HB.out; omega)
  replace hn8 := Lib.hid hn8
  clear hs8
  replace hU := Lib.hid hU
  replace hg8 := Lib.hid hg8
  have c0 := hU.out.cell
  go_wp2_with fail
  refine (utail_any hU.out 10 10 (by omega) (by omega) (by have hb := HB.out; omega)).mono ?_
  rintro e w9 ⟨rfl, hU, hq⟩
  clear c0
  replace hC := Lib.hid (hC.out.trans hq)
  clear hq
  obtain ⟨g9, hg9⟩ : ∃ z, g8.put (tlI 10 10) = z := ⟨_, rfl⟩
  rw [hg9] at hU
  have hs9 : g9.a.sz = g8.a.sz + 1 := by rw [← hg9]; exact UnG.put_sz _ _
  have hn9 : g9.n = g8.n + 0 := by rw [← hg9]; exact UnG.put_n _ _
  replace HB := Lib.hid (show g9.a.sz ≤ 501007 ∧ g9.n ≤ 1603 by have hb := HB.out; omega)
  replace hn9 := Lib.hid hn9
  clear hs9
  replace hU := Lib.hid hU
  replace hg9 := Lib.hid hg9
  have c0 := hU.out.cell
  go_wp2_with fail
  refine (uleap_any hU.out na za (by have hb := HB.out; omega)).mono ?_
  rintro e w10 ⟨rfl, hU, hq⟩
  clear c0
  replace hC := Lib.hid (hC.out.trans hq)
  clear hq
  obtain ⟨g10, hg10⟩ : ∃ z, g9.leap na = z := ⟨_, rfl⟩
  rw [hg10] at hU
  have hs10 : g10.a.sz = g9.a.sz + 2 := by rw [← hg10]; exact UnG.leap_sz _ _
  have hn10 : g10.n = g9.n + 0 := by rw [← hg10]; exact UnG.leap_n _ _
  replace HB := Lib.hid (show g10.a.sz ≤ 501009 ∧ g10.n ≤ 1603 by have hb := HB.out; omega)
  replace hn10 := Lib.hid hn10
  clear hs10
  replace hU := Lib.hid hU
  replace hg10 := Lib.hid hg10
  have c0 := hU.out.cell
  go_wp2_with fail
  refine (uhere_any hU.out nc zc (by have hb := HB.out; omega)).mono ?_
  rintro e w11 ⟨rfl, hU, hq⟩
  clear c0
  replace hC := Lib.hid (hC.out.trans hq)
  clear hq
  obtain ⟨g11, hg11⟩ : ∃ z, g10.here nc = z := ⟨_, rfl⟩
  rw [hg11] at hU
  have hs11 : g11.a.sz = g10.a.sz + 1 := by rw [← hg11]; exact UnG.here_sz _ _
  have hn11 : g11.n = g10.n + 0 := by rw [← hg11]; exact UnG.here_n _ _
  replace HB := Lib.hid (show g11.a.sz ≤ 501010 ∧ g11.n ≤ 1603 by have hb := HB.out; omega)
  replace hn11 := Lib.hid hn11
  clear hs11
  replace hU := Lib.hid hU
  replace hg11 := Lib.hid hg11
  go_wp2
  refine bodyPost_end (v := .tuple #[]) (by simp [results, Try.results80, go_sem]) rfl ?_
  have he : g11 = UnG.count f g := by
    have q1 : nameS (g.n + 2) = nb := by rw [← hnb.out, hn1.out]
    have q2 : nameS (g.n + 3) = nc := by rw [← hnc.out, hn2.out, hn1.out]
    unfold UnG.count
    rw [q1, q2, hna.out, ← hg11.out, ← hg10.out, ← hg9.out, ← hg8.out, ← hg7.out, ← hg6.out, ← hg5.out, ← hg4.out, ← hg3.out, ← hg2.out, ← hg1.out]
    rfl
  rw [← he]
  exact ⟨rfl, hU.out, hC.out⟩

set_option maxRecDepth 20000 in
set_option maxHeartbeats 8000000 in
theorem ukind_1 {w : World} {B bw ba b1 b2 : Nat} {g : UnG} (h : UnW w B bw ba b1 b2 g) (F : Nat) (hent : ∀ args w, (callFunc F args).run Try.prog w = .ok (.enter F args) w) (x : Value) (f : UnG → UnG) (k m : Nat) (hA : AddsU f k m) (hk : k ≤ 1000) (hm : m ≤ 100) (hF : DoesU 200000 1000 w B bw ba b1 b2 F #[x] f) (s : ByteArray) (hs : s.size ≤ 1000000) (hg : g.a.sz ≤ 100000 ∧ g.n ≤ 500) :
    Calls Try.prog 71 #[.pointer (some ⟨bw, 0, none⟩), .func (.func F) #[] #[x], .string s] w (UOut w B bw ba b1 b2 (UnG.kind f s g)) := by
  have hf := Lib.hid hF
  have HA := Lib.hid hA
  clear hF hA
  have HB := Lib.hid (show g.a.sz ≤ 100000 ∧ g.n ≤ 500 from ⟨by omega, by omega⟩)
  clear hg
  have hC := Lib.hid (UChg.refl B w)
  have hU := Lib.hid h
  clear h
  go_enter Try.func71, Try.ntmps71
  have c0 := hU.out.cell
  go_wp2_with fail
  refine (uname_at hU.out (by have hb := HB.out; omega)).mono ?_
  rintro e w1 ⟨rfl, hU, hq⟩
  clear c0
  replace hC := Lib.hid (hC.out.trans hq)
  clear hq
  obtain ⟨g1, hg1⟩ : ∃ z, g.step 1 = z := ⟨_, rfl⟩
  rw [hg1] at hU
  have hs1 : g1.a.sz = g.a.sz + 0 := by rw [← hg1]; exact UnG.step_sz _ _
  have hn1 : g1.n = g.n + 1 := by rw [← hg1]; exact UnG.step_n _ _
  replace HB := Lib.hid (show g1.a.sz ≤ 100000 ∧ g1.n ≤ 501 by have hb := HB.out; omega)
  replace hn1 := Lib.hid hn1
  clear hs1
  replace hU := Lib.hid hU
  replace hg1 := Lib.hid hg1
  obtain ⟨na, hna⟩ : ∃ z, nameS (g.n + 1) = z := ⟨_, rfl⟩
  have za : na.size ≤ 1000000 := by rw [← hna, name_size]; omega
  rw [hna]
  replace hna := Lib.hid hna
  have c0 := hU.out.cell
  go_wp2_with fail
  refine (ujump_any hU.out 5 na (by omega) za (by have hb := HB.out; omega)).mono ?_
  rintro e w2 ⟨rfl, hU, hq⟩
  clear c0
  replace hC := Lib.hid (hC.out.trans hq)
  clear hq
  obtain ⟨g2, hg2⟩ : ∃ z, g1.jump 5 na = z := ⟨_, rfl⟩
  rw [hg2] at hU
  have hs2 : g2.a.sz = g1.a.sz + 2 := by rw [← hg2]; exact UnG.jump_sz _ _ _
  have hn2 : g2.n = g1.n + 0 := by rw [← hg2]; exact UnG.jump_n _ _ _
  replace HB := Lib.hid (show g2.a.sz ≤ 100002 ∧ g2.n ≤ 501 by have hb := HB.out; omega)
  replace hn2 := Lib.hid hn2
  clear hs2
  replace hU := Lib.hid hU
  replace hg2 := Lib.hid hg2
  have c0 := hU.out.cell
  go_wp2_with fail
  refine (hf.out.chg hC.out _ _ (UChg.refl _ _) hU.out (by have hb := HB.out; omega) (by have hb := HB.out; omega)).mono ?_
  rintro e w3 ⟨rfl, hU, hq⟩
  clear c0
  replace hC := Lib.hid (hC.out.trans hq)
  clear hq
  obtain ⟨g3, hg3⟩ : ∃ z, f g2 = z := ⟨_, rfl⟩
  rw [hg3] at hU
  have hs3 : g3.a.sz = g2.a.sz + k := by rw [← hg3]; exact (HA.out).sz _
  have hn3 : g3.n = g2.n + m := by rw [← hg3]; exact (HA.out).n _
  replace HB := Lib.hid (show g3.a.sz ≤ 101002 ∧ g3.n ≤ 601 by have hb := HB.out; omega)
  replace hn3 := Lib.hid hn3
  clear hs3
  replace hU := Lib.hid hU
  replace hg3 := Lib.hid hg3
  have c0 := hU.out.cell
  go_wp2_with fail
  refine (uleap_any hU.out s hs (by have hb := HB.out; omega)).mono ?_
  rintro e w4 ⟨rfl, hU, hq⟩
  clear c0
  replace hC := Lib.hid (hC.out.trans hq)
  clear hq
  obtain ⟨g4, hg4⟩ : ∃ z, g3.leap s = z := ⟨_, rfl⟩
  rw [hg4] at hU
  have hs4 : g4.a.sz = g3.a.sz + 2 := by rw [← hg4]; exact UnG.leap_sz _ _
  have hn4 : g4.n = g3.n + 0 := by rw [← hg4]; exact UnG.leap_n _ _
  replace HB := Lib.hid (show g4.a.sz ≤ 101004 ∧ g4.n ≤ 601 by have hb := HB.out; omega)
  replace hn4 := Lib.hid hn4
  clear hs4
  replace hU := Lib.hid hU
  replace hg4 := Lib.hid hg4
  have c0 := hU.out.cell
  go_wp2_with fail
  refine (uhere_any hU.out na za (by have hb := HB.out; omega)).mono ?_
  rintro e w5 ⟨rfl, hU, hq⟩
  clear c0
  replace hC := Lib.hid (hC.out.trans hq)
  clear hq
  obtain ⟨g5, hg5⟩ : ∃ z, g4.here na = z := ⟨_, rfl⟩
  rw [hg5] at hU
  have hs5 : g5.a.sz = g4.a.sz + 1 := by rw [← hg5]; exact UnG.here_sz _ _
  have hn5 : g5.n = g4.n + 0 := by rw [← hg5]; exact UnG.here_n _ _
  replace HB := Lib.hid (show g5.a.sz ≤ 101005 ∧ g5.n ≤ 601 by have hb := HB.out; omega)
  replace hn5 := Lib.hid hn5
  clear hs5
  replace hU := Lib.hid hU
  replace hg5 := Lib.hid hg5
  have c0 := hU.out.cell
  go_wp2_with fail
  refine (utail_any hU.out 5 5 (by omega) (by omega) (by have hb := HB.out; omega)).mono ?_
  rintro e w6 ⟨rfl, hU, hq⟩
  clear c0
  replace hC := Lib.hid (hC.out.trans hq)
  clear hq
  obtain ⟨g6, hg6⟩ : ∃ z, g5.put (tlI 5 5) = z := ⟨_, rfl⟩
  rw [hg6] at hU
  have hs6 : g6.a.sz = g5.a.sz + 1 := by rw [← hg6]; exact UnG.put_sz _ _
  have hn6 : g6.n = g5.n + 0 := by rw [← hg6]; exact UnG.put_n _ _
  replace HB := Lib.hid (show g6.a.sz ≤ 101006 ∧ g6.n ≤ 601 by have hb := HB.out; omega)
  replace hn6 := Lib.hid hn6
  clear hs6
  replace hU := Lib.hid hU
  replace hg6 := Lib.hid hg6
  go_wp2
  refine bodyPost_end (v := .tuple #[]) (by simp [results, Try.results71, go_sem]) rfl ?_
  have he : g6 = UnG.kind f s g := by
    unfold UnG.kind
    rw [hna.out, ← hg6.out, ← hg5.out, ← hg4.out, ← hg3.out, ← hg2.out, ← hg1.out]
  rw [← he]
  exact ⟨rfl, hU.out, hC.out⟩

set_option maxRecDepth 20000 in
set_option maxHeartbeats 8000000 in
theorem ucount_B {w : World} {B bw ba b1 b2 : Nat} {g : UnG} (h : UnW w B bw ba b1 b2 g) (F : Nat) (hent : ∀ args w, (callFunc F args).run Try.prog w = .ok (.enter F args) w) (x : Value) (f : UnG → UnG) (k m : Nat) (hA : AddsU f k m) (hk : k ≤ 1000) (hm : m ≤ 100) (hF : DoesU 600000 2000 w B bw ba b1 b2 F #[x] f) (hg : g.a.sz ≤ 500000 ∧ g.n ≤ 1500) :
    Calls Try.prog 80 #[.pointer (some ⟨bw, 0, none⟩), .func (.func F) #[x] #[]] w (UOut w B bw ba b1 b2 (UnG.count f g)) := by
  have hf := Lib.hid hF
  have HA := Lib.hid hA
  clear hF hA
  have HB := Lib.hid (show g.a.sz ≤ 500000 ∧ g.n ≤ 1500 from ⟨by omega, by omega⟩)
  clear hg
  have hC := Lib.hid (UChg.refl B w)
  have hU := Lib.hid h
  clear h
  go_enter Try.func80, Try.ntmps80
  have c0 := hU.out.cell
  go_wp2_with fail
  refine (uname_at hU.out (by have hb := HB.out; omega)).mono ?_
  rintro e w1 ⟨rfl, hU, hq⟩
  clear c0
  replace hC := Lib.hid (hC.out.trans hq)
  clear hq
  obtain ⟨g1, hg1⟩ : ∃ z, g.step 1 = z := ⟨_, rfl⟩
  rw [hg1] at hU
  have hs1 : g1.a.sz = g.a.sz + 0 := by rw [← hg1]; exact UnG.step_sz _ _
  have hn1 : g1.n = g.n + 1 := by rw [← hg1]; exact UnG.step_n _ _
  replace HB := Lib.hid (show g1.a.sz ≤ 500000 ∧ g1.n ≤ 1501 by have hb := HB.out; omega)
  replace hn1 := Lib.hid hn1
  clear hs1
  replace hU := Lib.hid hU
  replace hg1 := Lib.hid hg1
  have c0 := hU.out.cell
  go_wp2_with fail
  refine (uname_at hU.out (by have hb := HB.out; omega)).mono ?_
  rintro e w2 ⟨rfl, hU, hq⟩
  clear c0
  replace hC := Lib.hid (hC.out.trans hq)
  clear hq
  obtain ⟨g2, hg2⟩ : ∃ z, g1.step 1 = z := ⟨_, rfl⟩
  rw [hg2] at hU
  have hs2 : g2.a.sz = g1.a.sz + 0 := by rw [← hg2]; exact UnG.step_sz _ _
  have hn2 : g2.n = g1.n + 1 := by rw [← hg2]; exact UnG.step_n _ _
  replace HB := Lib.hid (show g2.a.sz ≤ 500000 ∧ g2.n ≤ 1502 by have hb := HB.out; omega)
  replace hn2 := Lib.hid hn2
  clear hs2
  replace hU := Lib.hid hU
  replace hg2 := Lib.hid hg2
  have c0 := hU.out.cell
  go_wp2_with fail
  refine (uname_at hU.out (by have hb := HB.out; omega)).mono ?_
  rintro e w3 ⟨rfl, hU, hq⟩
  clear c0
  replace hC := Lib.hid (hC.out.trans hq)
  clear hq
  obtain ⟨g3, hg3⟩ : ∃ z, g2.step 1 = z := ⟨_, rfl⟩
  rw [hg3] at hU
  have hs3 : g3.a.sz = g2.a.sz + 0 := by rw [← hg3]; exact UnG.step_sz _ _
  have hn3 : g3.n = g2.n + 1 := by rw [← hg3]; exact UnG.step_n _ _
  replace HB := Lib.hid (show g3.a.sz ≤ 500000 ∧ g3.n ≤ 1503 by have hb := HB.out; omega)
  replace hn3 := Lib.hid hn3
  clear hs3
  replace hU := Lib.hid hU
  replace hg3 := Lib.hid hg3
  obtain ⟨na, hna⟩ : ∃ z, nameS (g.n + 1) = z := ⟨_, rfl⟩
  obtain ⟨nb, hnb⟩ : ∃ z, nameS (g1.n + 1) = z := ⟨_, rfl⟩
  obtain ⟨nc, hnc⟩ : ∃ z, nameS (g2.n + 1) = z := ⟨_, rfl⟩
  have za : na.size ≤ 1000000 := by rw [← hna, name_size]; omega
  have zb : nb.size ≤ 1000000 := by rw [← hnb, name_size]; omega
  have zc : nc.size ≤ 1000000 := by rw [← hnc, name_size]; omega
  rw [hna, hnb, hnc]
  replace hna := Lib.hid hna
  replace hnb := Lib.hid hnb
  replace hnc := Lib.hid hnc
  have c0 := hU.out.cell
  go_wp2_with fail
  refine (uhere_any hU.out na za (by have hb := HB.out; omega)).mono ?_
  rintro e w4 ⟨rfl, hU, hq⟩
  clear c0
  replace hC := Lib.hid (hC.out.trans hq)
  clear hq
  obtain ⟨g4, hg4⟩ : ∃ z, g3.here na = z := ⟨_, rfl⟩
  rw [hg4] at hU
  have hs4 : g4.a.sz = g3.a.sz + 1 := by rw [← hg4]; exact UnG.here_sz _ _
  have hn4 : g4.n = g3.n + 0 := by rw [← hg4]; exact UnG.here_n _ _
  replace HB := Lib.hid (show g4.a.sz ≤ 500001 ∧ g4.n ≤ 1503 by have hb := HB.out; omega)
  replace hn4 := Lib.hid hn4
  clear hs4
  replace hU := Lib.hid hU
  replace hg4 := Lib.hid hg4
  have c0 := hU.out.cell
  go_wp2_with fail
  refine (ujump_any hU.out 10 nb (by omega) zb (by have hb := HB.out; omega)).mono ?_
  rintro e w5 ⟨rfl, hU, hq⟩
  clear c0
  replace hC := Lib.hid (hC.out.trans hq)
  clear hq
  obtain ⟨g5, hg5⟩ : ∃ z, g4.jump 10 nb = z := ⟨_, rfl⟩
  rw [hg5] at hU
  have hs5 : g5.a.sz = g4.a.sz + 2 := by rw [← hg5]; exact UnG.jump_sz _ _ _
  have hn5 : g5.n = g4.n + 0 := by rw [← hg5]; exact UnG.jump_n _ _ _
  replace HB := Lib.hid (show g5.a.sz ≤ 500003 ∧ g5.n ≤ 1503 by have hb := HB.out; omega)
  replace hn5 := Lib.hid hn5
  clear hs5
  replace hU := Lib.hid hU
  replace hg5 := Lib.hid hg5
  have c0 := hU.out.cell
  go_wp2_with fail
  refine (uleap_any hU.out nc zc (by have hb := HB.out; omega)).mono ?_
  rintro e w6 ⟨rfl, hU, hq⟩
  clear c0
  replace hC := Lib.hid (hC.out.trans hq)
  clear hq
  obtain ⟨g6, hg6⟩ : ∃ z, g5.leap nc = z := ⟨_, rfl⟩
  rw [hg6] at hU
  have hs6 : g6.a.sz = g5.a.sz + 2 := by rw [← hg6]; exact UnG.leap_sz _ _
  have hn6 : g6.n = g5.n + 0 := by rw [← hg6]; exact UnG.leap_n _ _
  replace HB := Lib.hid (show g6.a.sz ≤ 500005 ∧ g6.n ≤ 1503 by have hb := HB.out; omega)
  replace hn6 := Lib.hid hn6
  clear hs6
  replace hU := Lib.hid hU
  replace hg6 := Lib.hid hg6
  have c0 := hU.out.cell
  go_wp2_with fail
  refine (uhere_any hU.out nb zb (by have hb := HB.out; omega)).mono ?_
  rintro e w7 ⟨rfl, hU, hq⟩
  clear c0
  replace hC := Lib.hid (hC.out.trans hq)
  clear hq
  obtain ⟨g7, hg7⟩ : ∃ z, g6.here nb = z := ⟨_, rfl⟩
  rw [hg7] at hU
  have hs7 : g7.a.sz = g6.a.sz + 1 := by rw [← hg7]; exact UnG.here_sz _ _
  have hn7 : g7.n = g6.n + 0 := by rw [← hg7]; exact UnG.here_n _ _
  replace HB := Lib.hid (show g7.a.sz ≤ 500006 ∧ g7.n ≤ 1503 by have hb := HB.out; omega)
  replace hn7 := Lib.hid hn7
  clear hs7
  replace hU := Lib.hid hU
  replace hg7 := Lib.hid hg7
  have c0 := hU.out.cell
  go_wp2_with fail
  refine (hf.out.chg hC.out _ _ (UChg.refl _ _) hU.out (by have hb := HB.out; omega) (by have hb := HB.out; omega)).mono ?_
  rintro e w8 ⟨rfl, hU, hq⟩
  clear c0
  replace hC := Lib.hid (hC.out.trans hq)
  clear hq
  obtain ⟨g8, hg8⟩ : ∃ z, f g7 = z := ⟨_, rfl⟩
  rw [hg8] at hU
  have hs8 : g8.a.sz = g7.a.sz + k := by rw [← hg8]; exact (HA.out).sz _
  have hn8 : g8.n = g7.n + m := by rw [← hg8]; exact (HA.out).n _
  replace HB := Lib.hid (show g8.a.sz ≤ 501006 ∧ g8.n ≤ 1603 by have hb := HB.out; omega)
  replace hn8 := Lib.hid hn8
  clear hs8
  replace hU := Lib.hid hU
  replace hg8 := Lib.hid hg8
  have c0 := hU.out.cell
  go_wp2_with fail
  refine (utail_any hU.out 10 10 (by omega) (by omega) (by have hb := HB.out; omega)).mono ?_
  rintro e w9 ⟨rfl, hU, hq⟩
  clear c0
  replace hC := Lib.hid (hC.out.trans hq)
  clear hq
  obtain ⟨g9, hg9⟩ : ∃ z, g8.put (tlI 10 10) = z := ⟨_, rfl⟩
  rw [hg9] at hU
  have hs9 : g9.a.sz = g8.a.sz + 1 := by rw [← hg9]; exact UnG.put_sz _ _
  have hn9 : g9.n = g8.n + 0 := by rw [← hg9]; exact UnG.put_n _ _
  replace HB := Lib.hid (show g9.a.sz ≤ 501007 ∧ g9.n ≤ 1603 by have hb := HB.out; omega)
  replace hn9 := Lib.hid hn9
  clear hs9
  replace hU := Lib.hid hU
  replace hg9 := Lib.hid hg9
  have c0 := hU.out.cell
  go_wp2_with fail
  refine (uleap_any hU.out na za (by have hb := HB.out; omega)).mono ?_
  rintro e w10 ⟨rfl, hU, hq⟩
  clear c0
  replace hC := Lib.hid (hC.out.trans hq)
  clear hq
  obtain ⟨g10, hg10⟩ : ∃ z, g9.leap na = z := ⟨_, rfl⟩
  rw [hg10] at hU
  have hs10 : g10.a.sz = g9.a.sz + 2 := by rw [← hg10]; exact UnG.leap_sz _ _
  have hn10 : g10.n = g9.n + 0 := by rw [← hg10]; exact UnG.leap_n _ _
  replace HB := Lib.hid (show g10.a.sz ≤ 501009 ∧ g10.n ≤ 1603 by have hb := HB.out; omega)
  replace hn10 := Lib.hid hn10
  clear hs10
  replace hU := Lib.hid hU
  replace hg10 := Lib.hid hg10
  have c0 := hU.out.cell
  go_wp2_with fail
  refine (uhere_any hU.out nc zc (by have hb := HB.out; omega)).mono ?_
  rintro e w11 ⟨rfl, hU, hq⟩
  clear c0
  replace hC := Lib.hid (hC.out.trans hq)
  clear hq
  obtain ⟨g11, hg11⟩ : ∃ z, g10.here nc = z := ⟨_, rfl⟩
  rw [hg11] at hU
  have hs11 : g11.a.sz = g10.a.sz + 1 := by rw [← hg11]; exact UnG.here_sz _ _
  have hn11 : g11.n = g10.n + 0 := by rw [← hg11]; exact UnG.here_n _ _
  replace HB := Lib.hid (show g11.a.sz ≤ 501010 ∧ g11.n ≤ 1603 by have hb := HB.out; omega)
  replace hn11 := Lib.hid hn11
  clear hs11
  replace hU := Lib.hid hU
  replace hg11 := Lib.hid hg11
  go_wp2
  refine bodyPost_end (v := .tuple #[]) (by simp [results, Try.results80, go_sem]) rfl ?_
  have he : g11 = UnG.count f g := by
    have q1 : nameS (g.n + 2) = nb := by rw [← hnb.out, hn1.out]
    have q2 : nameS (g.n + 3) = nc := by rw [← hnc.out, hn2.out, hn1.out]
    unfold UnG.count
    rw [q1, q2, hna.out, ← hg11.out, ← hg10.out, ← hg9.out, ← hg8.out, ← hg7.out, ← hg6.out, ← hg5.out, ← hg4.out, ← hg3.out, ← hg2.out, ← hg1.out]
    rfl
  rw [← he]
  exact ⟨rfl, hU.out, hC.out⟩

set_option maxRecDepth 20000 in
set_option maxHeartbeats 8000000 in
theorem ukind_2 {w : World} {B bw ba b1 b2 : Nat} {g : UnG} (h : UnW w B bw ba b1 b2 g) (F : Nat) (hent : ∀ args w, (callFunc F args).run Try.prog w = .ok (.enter F args) w) (x y : Value) (f : UnG → UnG) (k m : Nat) (hA : AddsU f k m) (hk : k ≤ 1000) (hm : m ≤ 100) (hF : DoesU 200000 1000 w B bw ba b1 b2 F #[x, y] f) (s : ByteArray) (hs : s.size ≤ 1000000) (hg : g.a.sz ≤ 100000 ∧ g.n ≤ 500) :
    Calls Try.prog 71 #[.pointer (some ⟨bw, 0, none⟩), .func (.func F) #[] #[x, y], .string s] w (UOut w B bw ba b1 b2 (UnG.kind f s g)) := by
  have hf := Lib.hid hF
  have HA := Lib.hid hA
  clear hF hA
  have HB := Lib.hid (show g.a.sz ≤ 100000 ∧ g.n ≤ 500 from ⟨by omega, by omega⟩)
  clear hg
  have hC := Lib.hid (UChg.refl B w)
  have hU := Lib.hid h
  clear h
  go_enter Try.func71, Try.ntmps71
  have c0 := hU.out.cell
  go_wp2_with fail
  refine (uname_at hU.out (by have hb := HB.out; omega)).mono ?_
  rintro e w1 ⟨rfl, hU, hq⟩
  clear c0
  replace hC := Lib.hid (hC.out.trans hq)
  clear hq
  obtain ⟨g1, hg1⟩ : ∃ z, g.step 1 = z := ⟨_, rfl⟩
  rw [hg1] at hU
  have hs1 : g1.a.sz = g.a.sz + 0 := by rw [← hg1]; exact UnG.step_sz _ _
  have hn1 : g1.n = g.n + 1 := by rw [← hg1]; exact UnG.step_n _ _
  replace HB := Lib.hid (show g1.a.sz ≤ 100000 ∧ g1.n ≤ 501 by have hb := HB.out; omega)
  replace hn1 := Lib.hid hn1
  clear hs1
  replace hU := Lib.hid hU
  replace hg1 := Lib.hid hg1
  obtain ⟨na, hna⟩ : ∃ z, nameS (g.n + 1) = z := ⟨_, rfl⟩
  have za : na.size ≤ 1000000 := by rw [← hna, name_size]; omega
  rw [hna]
  replace hna := Lib.hid hna
  have c0 := hU.out.cell
  go_wp2_with fail
  refine (ujump_any hU.out 5 na (by omega) za (by have hb := HB.out; omega)).mono ?_
  rintro e w2 ⟨rfl, hU, hq⟩
  clear c0
  replace hC := Lib.hid (hC.out.trans hq)
  clear hq
  obtain ⟨g2, hg2⟩ : ∃ z, g1.jump 5 na = z := ⟨_, rfl⟩
  rw [hg2] at hU
  have hs2 : g2.a.sz = g1.a.sz + 2 := by rw [← hg2]; exact UnG.jump_sz _ _ _
  have hn2 : g2.n = g1.n + 0 := by rw [← hg2]; exact UnG.jump_n _ _ _
  replace HB := Lib.hid (show g2.a.sz ≤ 100002 ∧ g2.n ≤ 501 by have hb := HB.out; omega)
  replace hn2 := Lib.hid hn2
  clear hs2
  replace hU := Lib.hid hU
  replace hg2 := Lib.hid hg2
  have c0 := hU.out.cell
  go_wp2_with fail
  refine (hf.out.chg hC.out _ _ (UChg.refl _ _) hU.out (by have hb := HB.out; omega) (by have hb := HB.out; omega)).mono ?_
  rintro e w3 ⟨rfl, hU, hq⟩
  clear c0
  replace hC := Lib.hid (hC.out.trans hq)
  clear hq
  obtain ⟨g3, hg3⟩ : ∃ z, f g2 = z := ⟨_, rfl⟩
  rw [hg3] at hU
  have hs3 : g3.a.sz = g2.a.sz + k := by rw [← hg3]; exact (HA.out).sz _
  have hn3 : g3.n = g2.n + m := by rw [← hg3]; exact (HA.out).n _
  replace HB := Lib.hid (show g3.a.sz ≤ 101002 ∧ g3.n ≤ 601 by have hb := HB.out; omega)
  replace hn3 := Lib.hid hn3
  clear hs3
  replace hU := Lib.hid hU
  replace hg3 := Lib.hid hg3
  have c0 := hU.out.cell
  go_wp2_with fail
  refine (uleap_any hU.out s hs (by have hb := HB.out; omega)).mono ?_
  rintro e w4 ⟨rfl, hU, hq⟩
  clear c0
  replace hC := Lib.hid (hC.out.trans hq)
  clear hq
  obtain ⟨g4, hg4⟩ : ∃ z, g3.leap s = z := ⟨_, rfl⟩
  rw [hg4] at hU
  have hs4 : g4.a.sz = g3.a.sz + 2 := by rw [← hg4]; exact UnG.leap_sz _ _
  have hn4 : g4.n = g3.n + 0 := by rw [← hg4]; exact UnG.leap_n _ _
  replace HB := Lib.hid (show g4.a.sz ≤ 101004 ∧ g4.n ≤ 601 by have hb := HB.out; omega)
  replace hn4 := Lib.hid hn4
  clear hs4
  replace hU := Lib.hid hU
  replace hg4 := Lib.hid hg4
  have c0 := hU.out.cell
  go_wp2_with fail
  refine (uhere_any hU.out na za (by have hb := HB.out; omega)).mono ?_
  rintro e w5 ⟨rfl, hU, hq⟩
  clear c0
  replace hC := Lib.hid (hC.out.trans hq)
  clear hq
  obtain ⟨g5, hg5⟩ : ∃ z, g4.here na = z := ⟨_, rfl⟩
  rw [hg5] at hU
  have hs5 : g5.a.sz = g4.a.sz + 1 := by rw [← hg5]; exact UnG.here_sz _ _
  have hn5 : g5.n = g4.n + 0 := by rw [← hg5]; exact UnG.here_n _ _
  replace HB := Lib.hid (show g5.a.sz ≤ 101005 ∧ g5.n ≤ 601 by have hb := HB.out; omega)
  replace hn5 := Lib.hid hn5
  clear hs5
  replace hU := Lib.hid hU
  replace hg5 := Lib.hid hg5
  have c0 := hU.out.cell
  go_wp2_with fail
  refine (utail_any hU.out 5 5 (by omega) (by omega) (by have hb := HB.out; omega)).mono ?_
  rintro e w6 ⟨rfl, hU, hq⟩
  clear c0
  replace hC := Lib.hid (hC.out.trans hq)
  clear hq
  obtain ⟨g6, hg6⟩ : ∃ z, g5.put (tlI 5 5) = z := ⟨_, rfl⟩
  rw [hg6] at hU
  have hs6 : g6.a.sz = g5.a.sz + 1 := by rw [← hg6]; exact UnG.put_sz _ _
  have hn6 : g6.n = g5.n + 0 := by rw [← hg6]; exact UnG.put_n _ _
  replace HB := Lib.hid (show g6.a.sz ≤ 101006 ∧ g6.n ≤ 601 by have hb := HB.out; omega)
  replace hn6 := Lib.hid hn6
  clear hs6
  replace hU := Lib.hid hU
  replace hg6 := Lib.hid hg6
  go_wp2
  refine bodyPost_end (v := .tuple #[]) (by simp [results, Try.results71, go_sem]) rfl ?_
  have he : g6 = UnG.kind f s g := by
    unfold UnG.kind
    rw [hna.out, ← hg6.out, ← hg5.out, ← hg4.out, ← hg3.out, ← hg2.out, ← hg1.out]
  rw [← he]
  exact ⟨rfl, hU.out, hC.out⟩

end Go.Proofs.Ytlaeljkjdfffjaa


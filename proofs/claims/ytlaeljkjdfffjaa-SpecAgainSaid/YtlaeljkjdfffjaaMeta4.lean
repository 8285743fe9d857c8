/- law05: SpecMeta, SpecAgain, SpecFound. -/
import Derived.Test.YtlaeljkjdfffjaaMeta3
import Derived.Test.YtlaeljkjdfffjaaMB3
import Derived.Test.YtlaeljkjdfffjaaMB2
import Derived.Test.YtlaeljkjdfffjaaDec5
namespace Go.Proofs.Ytlaeljkjdfffjaa
open Go.RowKit

theorem OwnI.setLow {w : World} {B g j : Nat} {v u : Value} {l : List Ins} (h : OwnI w B v l) (hg : g < B) : OwnI (w.setCell ⟨g, j, none⟩ u) B v l := ⟨ownsRow_setCell_below h.own hg u, h.wf⟩
theorem spoil_one {w0 w : World} {B2 g k : Nat} {v : Value} {l : List Ins} (hb : Below w0.heap.size w0 w) (hg : w0.heap.size ≤ g) (h2 : OwnI w B2 v l) (hlt : g < B2) : Below w0.heap.size w0 (((((w.setCell ⟨g, k * 5, none⟩ (.int .i64 (-1))).setCell ⟨g, k * 5 + 1, none⟩ (.int .i64 0)).setCell ⟨g, k * 5 + 2, none⟩ (.int .i64 0)).setCell ⟨g, k * 5 + 3, none⟩ (.int .i64 0)).setCell ⟨g, k * 5 + 4, none⟩ (.string ⟨#[]⟩)) ∧ OwnI (((((w.setCell ⟨g, k * 5, none⟩ (.int .i64 (-1))).setCell ⟨g, k * 5 + 1, none⟩ (.int .i64 0)).setCell ⟨g, k * 5 + 2, none⟩ (.int .i64 0)).setCell ⟨g, k * 5 + 3, none⟩ (.int .i64 0)).setCell ⟨g, k * 5 + 4, none⟩ (.string ⟨#[]⟩)) B2 v l :=
  ⟨((((hb.setCell (p := ⟨g, k * 5, none⟩) hg _).setCell (p := ⟨g, k * 5 + 1, none⟩) hg _).setCell (p := ⟨g, k * 5 + 2, none⟩) hg _).setCell (p := ⟨g, k * 5 + 3, none⟩) hg _).setCell (p := ⟨g, k * 5 + 4, none⟩) hg _,
    ((((h2.setLow hlt).setLow hlt).setLow hlt).setLow hlt).setLow hlt⟩
/-- A row of one's own that is not empty: its block, its cells. -/
theorem own_block5 {w : World} {B : Nat} {v : Value} {l : List Ins} (h : OwnI w B v l) (hn : 0 < l.length) : ∃ g cap cs, v = .slice (some ⟨g, 0, none⟩) l.length cap ∧ B ≤ g ∧ w.heap[g]? = some (.cells cs 41 (0, 0)) ∧ l.length * 5 ≤ cs.size := by
  rcases h.own.2 with ⟨_, h0⟩ | ⟨g, cap, cur, h1, h2, h3, h4, h5, h6, h7⟩
  · omega
  · exact ⟨g, cap, cur, h1, h2, h3, by rw [h6]; exact Nat.mul_le_mul_right _ h4⟩
theorem five_cells {w : World} {g k n : Nat} {cs : Array Value} (hb : w.heap[g]? = some (.cells cs 41 (0, 0))) (hk : k < n) (hn : n * 5 ≤ cs.size) : (∀ j, w.frozen? ⟨g, j, none⟩ = false) ∧ (∃ x, w.cell? ⟨g, k * 5, none⟩ = some x) ∧ (∃ x, w.cell? ⟨g, k * 5 + 1, none⟩ = some x) ∧ (∃ x, w.cell? ⟨g, k * 5 + 2, none⟩ = some x) ∧ (∃ x, w.cell? ⟨g, k * 5 + 3, none⟩ = some x) ∧ (∃ x, w.cell? ⟨g, k * 5 + 4, none⟩ = some x) := by
  obtain ⟨c, f⟩ := block_cells hb
  refine ⟨f, ?_, ?_, ?_, ?_, ?_⟩ <;> (rw [c]; exact ⟨_, Array.getElem?_eq_getElem (by omega)⟩)

theorem meta_len : metaL.length = 13 := rfl

set_option maxRecDepth 20000 in
set_option maxHeartbeats 8000000 in
theorem law_SpecAgain (n : Int) (hn : -9223372036854775808 ≤ n ∧ n ≤ 9223372036854775807) (w : World) :
    Calls Try.prog 10 #[.int .i64 n] w fun e w' => e = .returned (.bool true) ∧ Below w.heap.size w w' := by
  obtain ⟨r, hr⟩ : ∃ r, n.tmod 13 = r := ⟨_, rfl⟩
  have hrb : -13 < r ∧ r < 13 := by
    rw [← hr]
    exact ⟨Int.lt_tmod_of_pos _ (by omega), Int.tmod_lt_of_pos _ (by omega)⟩
  obtain ⟨k, hk⟩ : ∃ k : Nat, (r + 13).tmod 13 = (k : Int) := by
    have h1 := Int.tmod_nonneg 13 (show 0 ≤ r + 13 by omega)
    exact ⟨((r + 13).tmod 13).toNat, by omega⟩
  have HJ := Lib.hid (show k < 13 by have := Int.tmod_lt_of_pos (r + 13) (show (0 : Int) < 13 by omega); omega)
  have HR := Lib.hid (And.intro hr hk)
  have HRB := Lib.hid hrb
  clear hr hk hrb hn
  have ch := Lib.hid (Below.refl w.heap.size w)
  go_enter Try.func10, Try.ntmps10
  go_wp2_with fail
  refine (meta_any _).mono ?_
  rintro e w1 ⟨vm, rfl, hm, hq⟩
  replace ch := Lib.hid (ch.out.trans (hq.mono ch.out.size))
  clear hq
  obtain ⟨g, cap, cs, rfl, hBg, hblk, hsz⟩ := own_block5 hm (by rw [meta_len]; omega)
  rw [meta_len] at hm hsz ⊢
  have hm := Lib.hid hm
  have hmr := Lib.hid (hm.out.row (by rw [meta_len]; omega))
  have hgl := (Array.getElem?_eq_some_iff.1 hblk).1
  replace hblk := Lib.hid hblk
  have hW1 := Lib.hid (show ∀ w', Below w1.heap.size w1 w' → OwnI w' w.heap.size (.slice (some ⟨g, 0, none⟩) 13 cap) metaL from fun w' hb => hm.out.below hb)
  clear hm hW1
  go_wp2_with fail
  refine (twin_own _ metaL _ hmr.out).mono ?_
  rintro e w2 ⟨ta, tc, rfl, ht, hq⟩
  replace hmr := Lib.hid ((hmr.out.below hq).mono hq.size)
  replace hblk := Lib.hid (blk_lift hq hblk.out)
  replace ch := Lib.hid (ch.out.trans (hq.mono ch.out.size))
  clear hq
  rw [meta_len] at ht ⊢
  have ht2 := Lib.hid ht
  clear ht
  have hT := Lib.hid (show g < w1.heap.size from hgl)
  clear hgl
  go_wp2_with fail
  refine (cvalid_at true meta_valid hmr.out).mono ?_
  rintro e w3 ⟨rfl, hq⟩
  replace hmr := Lib.hid ((hmr.out.below hq).mono hq.size)
  replace hblk := Lib.hid (blk_lift hq hblk.out)
  replace ht2 := Lib.hid (ht2.out.below hq)
  replace ch := Lib.hid (ch.out.trans (hq.mono ch.out.size))
  clear hq
  have hk := HJ.out
  obtain ⟨ff, ⟨x0, c0⟩, ⟨x1, c1⟩, ⟨x2, c2⟩, ⟨x3, c3⟩, ⟨x4, c4⟩⟩ := five_cells hblk.out (k := k) (n := 13) hk hsz
  have f0 := ff (k * 5)
  have f1 := ff (k * 5 + 1)
  have f2 := ff (k * 5 + 2)
  have f3 := ff (k * 5 + 3)
  have f4 := ff (k * 5 + 4)
  clear ff
  have HS := Lib.hid (spoil_one (k := k) ch.out hBg ht2.out hT.out)
  have hk0 : (0 : Int) ≤ (k : Int) := Int.natCast_nonneg _
  have hk1 : (k : Int) < (13 : Int) := by omega
  clear hk hsz hBg
  have hr1 := HR.out.1
  have hr2 := HR.out.2
  have hrb1 := HRB.out.1
  have hrb2 := HRB.out.2
  go_wp2_with fail
  refine (meta_any _).mono ?_
  rintro e w4 ⟨vn, rfl, hn, hq⟩
  have hch := HS.out.1
  have htw := (HS.out.2.below hq).row (by rw [meta_len]; omega)
  replace ch := Lib.hid (hch.trans (hq.mono hch.size))
  clear hq hch c0 c1 c2 c3 c4 f0 f1 f2 f3 f4 HS hr1 hr2 hrb1 hrb2
  have hm := Lib.hid (hn.row (by rw [meta_len]; omega))
  have ht := Lib.hid htw
  clear hn htw
  go_wp2_with fail
  refine (same_self hm.out ht.out).mono ?_
  rintro e w5 ⟨rfl, hq⟩
  replace hm := Lib.hid ((hm.out.below hq).mono hq.size)
  replace ht := Lib.hid ((ht.out.below hq).mono hq.size)
  replace ch := Lib.hid (ch.out.trans (hq.mono ch.out.size))
  clear hq
  go_wp2_with fail
  refine (awake05 _).mono ?_
  rintro e w6 ⟨rfl, hq⟩
  replace hm := Lib.hid ((hm.out.below hq).mono hq.size)
  replace ht := Lib.hid ((ht.out.below hq).mono hq.size)
  replace ch := Lib.hid (ch.out.trans (hq.mono ch.out.size))
  clear hq
  go_wp2
  go_ret
  exact ⟨rfl, ch.out⟩

end Go.Proofs.Ytlaeljkjdfffjaa


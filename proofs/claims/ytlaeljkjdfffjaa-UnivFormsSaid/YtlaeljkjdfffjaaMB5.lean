/- code.fields: how the fields of an instruction are read. code.fields: how the fields of a jump are read. code.fields: its readers; the instruction that they read. The walks of tree.Items and its closure. The walks of narcissuslaw01: awake and TreeConses. The walks of the laws of narcissuslaw01. The walk of TreeReads. code.Decode. law05: SpecMeta, SpecAgain, SpecFound. law06: UnivRuns, UnivHeads, UnivItself, UnivForms. law06: UnivHeads, UnivItself, UnivForms. -/
import Derived.Test.YtlaeljkjdfffjaaDec1
import Derived.Test.YtlaeljkjdfffjaaMB2
import Derived.Test.YtlaeljkjdfffjaaLaw03f
import Derived.Test.YtlaeljkjdfffjaaMB0
import Derived.Test.YtlaeljkjdfffjaaMB1
import Derived.Test.YtlaeljkjdfffjaaMB3
import Derived.Test.YtlaeljkjdfffjaaMeta3
import Derived.Test.YtlaeljkjdfffjaaUni7
namespace Go.Proofs.Ytlaeljkjdfffjaa
open Go.RowKit

/-- The box of an instruction holds these cells; all else is kept. -/
structure Boxed (A B : World) (g : Nat) (cs : Array Value) : Prop where
  box : B.heap[g]? = some (.cells cs 41 (0, 0))
  size : A.heap.size ≤ B.heap.size
  rest : ∀ k, k < A.heap.size → k ≠ g → B.heap[k]? = A.heap[k]?
  os : B.os = A.os
  tape : B.tape = A.tape
  output : B.output = A.output
theorem Boxed.of {A B : World} {g : Nat} {cs : Array Value} (hb : Below A.heap.size A B) (h : A.heap[g]? = some (.cells cs 41 (0, 0))) : Boxed A B g cs :=
  ⟨blk_lift hb h, hb.size, fun k hk _ => hb.block k hk, hb.os, hb.tape, hb.output⟩
theorem Boxed.set {A B : World} {g : Nat} {cs : Array Value} (h : Boxed A B g cs) (i : Nat) (v : Value) : Boxed A (B.setCell ⟨g, i, none⟩ v) g (cs.setIfInBounds i v) := by
  refine ⟨heap_setCell_same _ _ _ _ _ _ h.box, ?_, fun k hk hne => ?_, h.os, h.tape, h.output⟩
  · simp [World.setCell]; exact h.size
  · rw [Below.heap_setCell _ _ _ _ hne]; exact h.rest k hk hne
theorem Boxed.drew {A B : World} {g : Nat} {cs : Array Value} (h : Boxed A B g cs) : Boxed A B.drew g cs := ⟨h.box, h.size, h.rest, h.os, h.tape, h.output⟩

end Go.Proofs.Ytlaeljkjdfffjaa

namespace Go.Proofs.Ytlaeljkjdfffjaa
open Go.RowKit

end Go.Proofs.Ytlaeljkjdfffjaa

namespace Go.Proofs.Ytlaeljkjdfffjaa
open Go.RowKit

end Go.Proofs.Ytlaeljkjdfffjaa

namespace Go.Proofs.Ytlaeljkjdfffjaa
open Go.RowKit

/-- A result that is a new slice of strings. -/
def StrsOut (B : Nat) (w0 : World) (er : Int) (l : List ByteArray) (e : Ending) (w' : World) : Prop :=
  ∃ v n, e = .returned (.tuple #[v, .int .i64 er]) ∧ w'.ownsRow B 9 1 v n (l.map Value.string) ∧ Below w0.heap.size w0 w'

end Go.Proofs.Ytlaeljkjdfffjaa

namespace Go.Proofs.Ytlaeljkjdfffjaa
open Go.RowKit

def t3 : Tr := .pair (.pair .nil .nil) (.pair .nil .nil)
end Go.Proofs.Ytlaeljkjdfffjaa

namespace Go.Proofs.Ytlaeljkjdfffjaa
open Go.RowKit

end Go.Proofs.Ytlaeljkjdfffjaa

namespace Go.Proofs.Ytlaeljkjdfffjaa
open Go.RowKit

/-- An owned slice of strings, as a row. -/
theorem StrsOut.row {B : Nat} {w0 w' : World} {er : Int} {l : List ByteArray} {e : Ending} (h : StrsOut B w0 er l e w') (hl : ∀ s ∈ l, s.size ≤ 281474976710656) (hn : l.length ≤ 281474976710656) :
    ∃ v, e = .returned (.tuple #[v, .int .i64 er]) ∧ StrRow w' w'.heap.size v l ∧ Below w0.heap.size w0 w' := by
  obtain ⟨v, n, he, ho, hb⟩ := h
  exact ⟨v, he, StrRow.of_own ho hl hn, hb⟩
end Go.Proofs.Ytlaeljkjdfffjaa

namespace Go.Proofs.Ytlaeljkjdfffjaa
open Go.RowKit

theorem Boxed.below {A0 A B : World} {g : Nat} {cs : Array Value} (h : Boxed A B g cs) (hb : Below A0.heap.size A0 A) (hg : A0.heap.size = g) : Below A0.heap.size A0 B := by
  refine ⟨h.os.trans hb.os, h.tape.trans hb.tape, h.output.trans hb.output, Nat.le_trans hb.size h.size, fun k hk => ?_⟩
  rw [h.rest k (Nat.lt_of_lt_of_le hk hb.size) (by omega)]
  exact hb.block k hk
/-- What Decode leaves. -/
def DecOut (w : World) (t : Tr) (e : Ending) (w' : World) : Prop :=
  Below w.heap.size w w' ∧ ((∃ l v, decT t = some l ∧ e = .returned (.tuple #[v, .int .i64 0]) ∧ OwnI w' w.heap.size v l) ∨ (decT t = none ∧ e = .returned (.tuple #[.slice none 0 0, .int .i64 4])))
theorem DecOut.ok {w w' : World} {t : Tr} {e : Ending} {l : List Ins} {v : Value} (h : decT t = some l) (he : e = .returned (.tuple #[v, .int .i64 0])) (hr : OwnI w' w.heap.size v l) (hb : Below w.heap.size w w') : DecOut w t e w' := ⟨hb, .inl ⟨l, v, h, he, hr⟩⟩
end Go.Proofs.Ytlaeljkjdfffjaa

namespace Go.Proofs.Ytlaeljkjdfffjaa
open Go.RowKit

theorem OwnI.setLow {w : World} {B g j : Nat} {v u : Value} {l : List Ins} (h : OwnI w B v l) (hg : g < B) : OwnI (w.setCell ⟨g, j, none⟩ u) B v l := ⟨ownsRow_setCell_below h.own hg u, h.wf⟩
theorem spoil_one {w0 w : World} {B2 g k : Nat} {v : Value} {l : List Ins} (hb : Below w0.heap.size w0 w) (hg : w0.heap.size ≤ g) (h2 : OwnI w B2 v l) (hlt : g < B2) : Below w0.heap.size w0 (((((w.setCell ⟨g, k * 5, none⟩ (.int .i64 (-1))).setCell ⟨g, k * 5 + 1, none⟩ (.int .i64 0)).setCell ⟨g, k * 5 + 2, none⟩ (.int .i64 0)).setCell ⟨g, k * 5 + 3, none⟩ (.int .i64 0)).setCell ⟨g, k * 5 + 4, none⟩ (.string ⟨#[]⟩)) ∧ OwnI (((((w.setCell ⟨g, k * 5, none⟩ (.int .i64 (-1))).setCell ⟨g, k * 5 + 1, none⟩ (.int .i64 0)).setCell ⟨g, k * 5 + 2, none⟩ (.int .i64 0)).setCell ⟨g, k * 5 + 3, none⟩ (.int .i64 0)).setCell ⟨g, k * 5 + 4, none⟩ (.string ⟨#[]⟩)) B2 v l :=
  ⟨((((hb.setCell (p := ⟨g, k * 5, none⟩) hg _).setCell (p := ⟨g, k * 5 + 1, none⟩) hg _).setCell (p := ⟨g, k * 5 + 2, none⟩) hg _).setCell (p := ⟨g, k * 5 + 3, none⟩) hg _).setCell (p := ⟨g, k * 5 + 4, none⟩) hg _,
    ((((h2.setLow hlt).setLow hlt).setLow hlt).setLow hlt).setLow hlt⟩
/-- A row of one's own that is not empty: its block, its cells. -/
theorem own_block5 {w : World} {B : Nat} {v : Value} {l : List Ins} (h : OwnI w B v l) (hn : 0 < l.length) : ∃ g cap cs, v = .slice (some ⟨g, 0, none⟩) l.length cap ∧ B ≤ g ∧ w.heap[g]? = some (.cells cs 41 (0, 0)) ∧ l.length * 5 ≤ cs.size := by
  rcases h.own.2 with ⟨_, h0⟩ | ⟨g, cap, cur, h1, h2, h3, h4, h5, h6, h7⟩
  · omega
  · exact ⟨g, cap, cur, h1, h2, h3, by rw [h6]; exact Nat.mul_le_mul_right _ h4⟩
theorem five_cells {w : World} {g k n : Nat} {cs : Array Value} (hb : w.heap[g]? = some (.cells cs 41 (0, 0))) (hk : k < n) (hn : n * 5 ≤ cs.size) : (∀ j, w.frozen? ⟨g, j, none⟩ = false) ∧ (∃ x, w.cell? ⟨g, k * 5, none⟩ = some x) ∧ (∃ x, w.cell? ⟨g, k * 5 + 1, none⟩ = some x) ∧ (∃ x, w.cell? ⟨g, k * 5 + 2, none⟩ = some x) ∧ (∃ x, w.cell? ⟨g, k * 5 + 3, none⟩ = some x) ∧ (∃ x, w.cell? ⟨g, k * 5 + 4, none⟩ = some x) := by
  obtain ⟨c, f⟩ := block_cells hb
  refine ⟨f, ?_, ?_, ?_, ?_, ?_⟩ <;> (rw [c]; exact ⟨_, Array.getElem?_eq_getElem (by omega)⟩)

end Go.Proofs.Ytlaeljkjdfffjaa

namespace Go.Proofs.Ytlaeljkjdfffjaa
open Go.RowKit

end Go.Proofs.Ytlaeljkjdfffjaa

namespace Go.Proofs.Ytlaeljkjdfffjaa
open Go.RowKit

theorem univ_regs : regN univL = 15 := by decide +kernel
theorem rregs_at (r : Nat) (v : Value) (l : List Ins) (w : World) (hl : InsRow w w.heap.size v l) (hv : validB l = true) (hr : regN l = r) :
    Calls Try.prog 26 #[v] w fun e w' => e = .returned (.int .i64 r) ∧ Below w.heap.size w w' := by
  subst hr
  exact refRegs_ok v l w hl hv

set_option maxRecDepth 20000 in
set_option maxHeartbeats 8000000 in
theorem law_UnivForms (n : Int) (hn : -9223372036854775808 ≤ n ∧ n ≤ 9223372036854775807) (w : World) :
    Calls Try.prog 4 #[.int .i64 n] w fun e w' => e = .returned (.bool true) ∧ Below w.heap.size w w' := by
  obtain ⟨r, hr⟩ : ∃ r, n.tmod 129 = r := ⟨_, rfl⟩
  have hrb : -129 < r ∧ r < 129 := by
    rw [← hr]
    exact ⟨Int.lt_tmod_of_pos _ (by omega), Int.tmod_lt_of_pos _ (by omega)⟩
  obtain ⟨k, hk⟩ : ∃ k : Nat, (r + 129).tmod 129 = (k : Int) := by
    have h1 := Int.tmod_nonneg 129 (show 0 ≤ r + 129 by omega)
    exact ⟨((r + 129).tmod 129).toNat, by omega⟩
  have HJ := Lib.hid (show k < 129 by have := Int.tmod_lt_of_pos (r + 129) (show (0 : Int) < 129 by omega); omega)
  have HR := Lib.hid (And.intro hr hk)
  have HRB := Lib.hid hrb
  clear hr hk hrb hn
  have ch := Lib.hid (Below.refl w.heap.size w)
  go_enter Try.func4, Try.ntmps4
  go_wp2_with fail
  refine (universal_any _).mono ?_
  rintro e w1 ⟨vm, rfl, hm, hq⟩
  replace ch := Lib.hid (ch.out.trans (hq.mono ch.out.size))
  clear hq
  obtain ⟨g, cap, cs, rfl, hBg, hblk, hsz⟩ := own_block5 hm (by rw [univ_len]; omega)
  rw [univ_len] at hm hsz ⊢
  have hm := Lib.hid hm
  have hmr := Lib.hid (hm.out.row (by rw [univ_len]; omega))
  have hgl := (Array.getElem?_eq_some_iff.1 hblk).1
  replace hblk := Lib.hid hblk
  have hW1 := Lib.hid (show ∀ w', Below w1.heap.size w1 w' → OwnI w' w.heap.size (.slice (some ⟨g, 0, none⟩) 129 cap) univL from fun w' hb => hm.out.below hb)
  clear hm hW1
  go_wp2_with fail
  refine (twin_own _ univL _ hmr.out).mono ?_
  rintro e w2 ⟨ta, tc, rfl, ht, hq⟩
  replace hmr := Lib.hid ((hmr.out.below hq).mono hq.size)
  replace hblk := Lib.hid (blk_lift hq hblk.out)
  replace ch := Lib.hid (ch.out.trans (hq.mono ch.out.size))
  clear hq
  rw [univ_len] at ht ⊢
  have ht2 := Lib.hid ht
  clear ht
  have hT := Lib.hid (show g < w1.heap.size from hgl)
  clear hgl
  obtain ⟨us, hus⟩ : ∃ z, codeOf univL = z := ⟨_, rfl⟩
  have HUS := Lib.hid hus
  have hus6 : decide ((100000 : Int) < (us.size : Int)) = false := by rw [← hus]; decide +kernel
  clear hus
  go_wp2_with fail
  refine (cvalid_at true univ_valid hmr.out).mono ?_
  rintro e w3 ⟨rfl, hq⟩
  replace hmr := Lib.hid ((hmr.out.below hq).mono hq.size)
  replace hblk := Lib.hid (blk_lift hq hblk.out)
  replace ht2 := Lib.hid (ht2.out.below hq)
  replace ch := Lib.hid (ch.out.trans (hq.mono ch.out.size))
  clear hq
  go_wp2_with fail
  refine (rregs_at 15 _ univL _ hmr.out univ_valid univ_regs).mono ?_
  rintro e w4 ⟨rfl, hq⟩
  replace hmr := Lib.hid ((hmr.out.below hq).mono hq.size)
  replace hblk := Lib.hid (blk_lift hq hblk.out)
  replace ht2 := Lib.hid (ht2.out.below hq)
  replace ch := Lib.hid (ch.out.trans (hq.mono ch.out.size))
  clear hq
  go_wp2_with fail
  refine (rcode_at _ univL us _ hmr.out univ_valid HUS.out).mono ?_
  rintro e w5 ⟨rfl, hq⟩
  replace hmr := Lib.hid ((hmr.out.below hq).mono hq.size)
  replace hblk := Lib.hid (blk_lift hq hblk.out)
  replace ht2 := Lib.hid (ht2.out.below hq)
  replace ch := Lib.hid (ch.out.trans (hq.mono ch.out.size))
  clear hq
  have hk := HJ.out
  obtain ⟨ff, ⟨x0, c0⟩, ⟨x1, c1⟩, ⟨x2, c2⟩, ⟨x3, c3⟩, ⟨x4, c4⟩⟩ := five_cells hblk.out (k := k) (n := 129) hk hsz
  have f0 := ff (k * 5)
  have f1 := ff (k * 5 + 1)
  have f2 := ff (k * 5 + 2)
  have f3 := ff (k * 5 + 3)
  have f4 := ff (k * 5 + 4)
  clear ff
  have HS := Lib.hid (spoil_one (k := k) ch.out hBg ht2.out hT.out)
  have hk0 : (0 : Int) ≤ (k : Int) := Int.natCast_nonneg _
  have hk1 : (k : Int) < (129 : Int) := by omega
  clear hk hsz hBg
  have hr1 := HR.out.1
  have hr2 := HR.out.2
  have hrb1 := HRB.out.1
  have hrb2 := HRB.out.2
  go_wp2_with fail
  refine (universal_any _).mono ?_
  rintro e w6 ⟨vn, rfl, hn, hq⟩
  have hch := HS.out.1
  have htw := (HS.out.2.below hq).row (by rw [univ_len]; omega)
  replace ch := Lib.hid (hch.trans (hq.mono hch.size))
  clear hus6
  clear hq hch c0 c1 c2 c3 c4 f0 f1 f2 f3 f4 HS hr1 hr2 hrb1 hrb2
  have hm := Lib.hid (hn.row (by rw [univ_len]; omega))
  have ht := Lib.hid htw
  clear hn htw
  go_wp2_with fail
  refine (same_self hm.out ht.out).mono ?_
  rintro e w7 ⟨rfl, hq⟩
  replace hm := Lib.hid ((hm.out.below hq).mono hq.size)
  replace ht := Lib.hid ((ht.out.below hq).mono hq.size)
  replace ch := Lib.hid (ch.out.trans (hq.mono ch.out.size))
  clear hq
  go_wp2_with fail
  refine (awake06 _).mono ?_
  rintro e w8 ⟨rfl, hq⟩
  replace hm := Lib.hid ((hm.out.below hq).mono hq.size)
  replace ht := Lib.hid ((ht.out.below hq).mono hq.size)
  replace ch := Lib.hid (ch.out.trans (hq.mono ch.out.size))
  clear hq
  go_wp2
  go_ret
  exact ⟨rfl, ch.out⟩

end Go.Proofs.Ytlaeljkjdfffjaa


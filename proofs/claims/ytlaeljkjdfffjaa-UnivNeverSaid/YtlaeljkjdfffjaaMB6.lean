/- code.fields: how the fields of an instruction are read. code.fields: how the fields of a jump are read. code.fields: its readers; the instruction that they read. The walks of tree.Items and its closure. The walks of narcissuslaw01: awake and TreeConses. The walks of the laws of narcissuslaw01. The walk of TreeReads. code.Decode. law05: SpecMeta, SpecAgain, SpecFound. law06: UnivRuns, UnivHeads, UnivItself, UnivForms. narcissusref03.Step, with all that it leaves. narcissusref03.Step, put together. ref03: Again. ref03: Loops. law06: UnivNever. -/
import Derived.Test.YtlaeljkjdfffjaaDec1
import Derived.Test.YtlaeljkjdfffjaaMB2
import Derived.Test.YtlaeljkjdfffjaaMB5
import Derived.Test.YtlaeljkjdfffjaaMB0
import Derived.Test.YtlaeljkjdfffjaaMB1
import Derived.Test.YtlaeljkjdfffjaaMB3
import Derived.Test.YtlaeljkjdfffjaaMeta3
import Derived.Test.YtlaeljkjdfffjaaUni7
import Derived.Test.YtlaeljkjdfffjaaUni6
import Derived.Test.YtlaeljkjdfffjaaDef10
import Derived.Test.YtlaeljkjdfffjaaCopied
namespace Go.Proofs.Ytlaeljkjdfffjaa
open Go.RowKit

/-- The box of an instruction holds these cells; all else is kept. -/
structure Boxed (A B : World) (g : Nat) (cs : Array Value) : Prop where
  box : B.heap[g]? = some (.cells cs 41 (0, 0))
  size : A.heap.size ≤ B.heap.size
  rest : ∀ k, k < A.heap.size → k ≠ g → B.heap[k]? = A.heap[k]?
  os : B.os = A.os
  tape : B.tape = A.tape
  output : B.output = A.output
theorem Boxed.of {A B : World} {g : Nat} {cs : Array Value} (hb : Below A.heap.size A B) (h : A.heap[g]? = some (.cells cs 41 (0, 0))) : Boxed A B g cs :=
  ⟨blk_lift hb h, hb.size, fun k hk _ => hb.block k hk, hb.os, hb.tape, hb.output⟩
theorem Boxed.set {A B : World} {g : Nat} {cs : Array Value} (h : Boxed A B g cs) (i : Nat) (v : Value) : Boxed A (B.setCell ⟨g, i, none⟩ v) g (cs.setIfInBounds i v) := by
  refine ⟨heap_setCell_same _ _ _ _ _ _ h.box, ?_, fun k hk hne => ?_, h.os, h.tape, h.output⟩
  · simp [World.setCell]; exact h.size
  · rw [Below.heap_setCell _ _ _ _ hne]; exact h.rest k hk hne
theorem Boxed.drew {A B : World} {g : Nat} {cs : Array Value} (h : Boxed A B g cs) : Boxed A B.drew g cs := ⟨h.box, h.size, h.rest, h.os, h.tape, h.output⟩

end Go.Proofs.Ytlaeljkjdfffjaa

namespace Go.Proofs.Ytlaeljkjdfffjaa
open Go.RowKit

end Go.Proofs.Ytlaeljkjdfffjaa

namespace Go.Proofs.Ytlaeljkjdfffjaa
open Go.RowKit

end Go.Proofs.Ytlaeljkjdfffjaa

namespace Go.Proofs.Ytlaeljkjdfffjaa
open Go.RowKit

/-- A result that is a new slice of strings. -/
def StrsOut (B : Nat) (w0 : World) (er : Int) (l : List ByteArray) (e : Ending) (w' : World) : Prop :=
  ∃ v n, e = .returned (.tuple #[v, .int .i64 er]) ∧ w'.ownsRow B 9 1 v n (l.map Value.string) ∧ Below w0.heap.size w0 w'

end Go.Proofs.Ytlaeljkjdfffjaa

namespace Go.Proofs.Ytlaeljkjdfffjaa
open Go.RowKit

def t3 : Tr := .pair (.pair .nil .nil) (.pair .nil .nil)
end Go.Proofs.Ytlaeljkjdfffjaa

namespace Go.Proofs.Ytlaeljkjdfffjaa
open Go.RowKit

end Go.Proofs.Ytlaeljkjdfffjaa

namespace Go.Proofs.Ytlaeljkjdfffjaa
open Go.RowKit

/-- An owned slice of strings, as a row. -/
theorem StrsOut.row {B : Nat} {w0 w' : World} {er : Int} {l : List ByteArray} {e : Ending} (h : StrsOut B w0 er l e w') (hl : ∀ s ∈ l, s.size ≤ 281474976710656) (hn : l.length ≤ 281474976710656) :
    ∃ v, e = .returned (.tuple #[v, .int .i64 er]) ∧ StrRow w' w'.heap.size v l ∧ Below w0.heap.size w0 w' := by
  obtain ⟨v, n, he, ho, hb⟩ := h
  exact ⟨v, he, StrRow.of_own ho hl hn, hb⟩
end Go.Proofs.Ytlaeljkjdfffjaa

namespace Go.Proofs.Ytlaeljkjdfffjaa
open Go.RowKit

theorem Boxed.below {A0 A B : World} {g : Nat} {cs : Array Value} (h : Boxed A B g cs) (hb : Below A0.heap.size A0 A) (hg : A0.heap.size = g) : Below A0.heap.size A0 B := by
  refine ⟨h.os.trans hb.os, h.tape.trans hb.tape, h.output.trans hb.output, Nat.le_trans hb.size h.size, fun k hk => ?_⟩
  rw [h.rest k (Nat.lt_of_lt_of_le hk hb.size) (by omega)]
  exact hb.block k hk
/-- What Decode leaves. -/
def DecOut (w : World) (t : Tr) (e : Ending) (w' : World) : Prop :=
  Below w.heap.size w w' ∧ ((∃ l v, decT t = some l ∧ e = .returned (.tuple #[v, .int .i64 0]) ∧ OwnI w' w.heap.size v l) ∨ (decT t = none ∧ e = .returned (.tuple #[.slice none 0 0, .int .i64 4])))
theorem DecOut.bad {w w' : World} {t : Tr} {e : Ending} (h : decT t = none) (he : e = .returned (.tuple #[.slice none 0 0, .int .i64 4])) (hb : Below w.heap.size w w') : DecOut w t e w' := ⟨hb, .inr ⟨h, he⟩⟩
theorem DecOut.ok {w w' : World} {t : Tr} {e : Ending} {l : List Ins} {v : Value} (h : decT t = some l) (he : e = .returned (.tuple #[v, .int .i64 0])) (hr : OwnI w' w.heap.size v l) (hb : Below w.heap.size w w') : DecOut w t e w' := ⟨hb, .inl ⟨l, v, h, he, hr⟩⟩
end Go.Proofs.Ytlaeljkjdfffjaa

namespace Go.Proofs.Ytlaeljkjdfffjaa
open Go.RowKit

end Go.Proofs.Ytlaeljkjdfffjaa

namespace Go.Proofs.Ytlaeljkjdfffjaa
open Go.RowKit

end Go.Proofs.Ytlaeljkjdfffjaa

namespace Go.Proofs.Ytlaeljkjdfffjaa
open Go.RowKit

/-- Below T nothing has turned, nor of what was there anything but two blocks. -/
structure BelK (T gs gr : Nat) (w w' : World) : Prop where
  b : Below T w w'
  size : w.heap.size ≤ w'.heap.size
  le : T ≤ w.heap.size
  o : ∀ k, k < w.heap.size → k ≠ gs → k ≠ gr → w'.heap[k]? = w.heap[k]?
theorem BelK.of {T gs gr : Nat} {w w' : World} (h : Below w.heap.size w w') (hT : T ≤ w.heap.size) : BelK T gs gr w w' := ⟨h.mono hT, h.size, hT, fun k hk _ _ => h.block k hk⟩
theorem BelK.thenB {T gs gr : Nat} {w v w' : World} (h : BelK T gs gr w v) (k : Below v.heap.size v w') : BelK T gs gr w w' := ⟨h.b.trans (k.mono (Nat.le_trans h.le h.size)), Nat.le_trans h.size k.size, h.le, fun i hi h1 h2 => (k.block i (Nat.lt_of_lt_of_le hi h.size)).trans (h.o i hi h1 h2)⟩
theorem BelK.drew {T gs gr : Nat} {w w' : World} (h : BelK T gs gr w w') : BelK T gs gr w w'.drew := ⟨h.b.drew, h.size, h.le, h.o⟩
theorem BelK.setR {T gs gr : Nat} {w w' : World} (h : BelK T gs gr w w') (hg : T ≤ gr) (j : Nat) (v : Value) : BelK T gs gr w (w'.setCell ⟨gr, j, none⟩ v) := ⟨h.b.setCell (p := ⟨gr, j, none⟩) hg v, by simpa using h.size, h.le, fun k hk h1 h2 => (Below.heap_setCell _ _ _ _ (by show k ≠ gr; exact h2)).trans (h.o k hk h1 h2)⟩
theorem BelK.setS {T gs gr : Nat} {w w' : World} (h : BelK T gs gr w w') (hg : T ≤ gs) (j : Nat) (v : Value) : BelK T gs gr w (w'.setCell ⟨gs, j, none⟩ v) := ⟨h.b.setCell (p := ⟨gs, j, none⟩) hg v, by simpa using h.size, h.le, fun k hk h1 h2 => (Below.heap_setCell _ _ _ _ (by show k ≠ gs; exact h1)).trans (h.o k hk h1 h2)⟩


/-- A step of the reference went well. -/
def RStepOkK (w : World) (T gs gr : Nat) (s' : St) (rv : Value) (e : Ending) (w' : World) : Prop :=
  ∃ ps', e = .returned (.bool true) ∧ RStP w' T gs s' rv ps' ∧ BelK T gs gr w w' ∧ Kept 58 w w'
theorem rstep_finK {w wd : World} {T gs gr cp : Nat} {s : St} {ps : List Value} (hs : RStP wd T gs s (.slice (some ⟨gr, 0, none⟩) s.regs.length cp) ps) (hb : BelK T gs gr w wd) (hk : Kept 58 w wd) (ra : Nat) {t : Tr} {q : Option Addr} (hn : NodeP 58 wd t (.pointer q)) (hgr : T ≤ gr) (z : Int) (p : Nat) (hz : z = p) :
    ∃ ps', RStP ((wd.setCell ⟨gr, ra, none⟩ (.pointer q)).setCell ⟨gs, 0, none⟩ (.int .i64 z)) T gs ⟨p, s.regs.set ra t⟩ (.slice (some ⟨gr, 0, none⟩) s.regs.length cp) ps' ∧ BelK T gs gr w ((wd.setCell ⟨gr, ra, none⟩ (.pointer q)).setCell ⟨gs, 0, none⟩ (.int .i64 z)) ∧
      Kept 58 w ((wd.setCell ⟨gr, ra, none⟩ (.pointer q)).setCell ⟨gs, 0, none⟩ (.int .i64 z)) := by
  subst hz
  have hrow : ∃ cur, wd.heap[gr]? = some (.cells cur 47 (0, 0)) := by
    rcases hs.own.2 with ⟨h0, _⟩ | ⟨g', cap', cur, hv, _, hg, _⟩
    · cases h0
    · simp only [Value.slice.injEq, Option.some.injEq, Addr.mk.injEq] at hv
      obtain ⟨⟨rfl, -, -⟩, -, -⟩ := hv
      exact ⟨cur, hg⟩
  obtain ⟨cur, hcur⟩ := hrow
  have hne : gs ≠ gr := by
    rintro rfl
    have := hs.blk; rw [hcur] at this
    simp only [Option.some.injEq, Obj.cells.injEq] at this
    exact absurd this.2.1 (by decide)
  have hblk1 : (wd.setCell ⟨gr, ra, none⟩ (.pointer q)).heap[gs]? = some (.cells #[.int .i64 s.pos, .slice (some ⟨gr, 0, none⟩) s.regs.length cp] 114 (0, 0)) := (Below.heap_setCell _ _ _ _ (by show gs ≠ gr; exact hne)).trans hs.blk
  have hk1 : Kept 58 wd (wd.setCell ⟨gr, ra, none⟩ (.pointer q)) := (Kept.refl _ wd).setCell hcur (by decide) _
  have hk2 : Kept 58 wd ((wd.setCell ⟨gr, ra, none⟩ (.pointer q)).setCell ⟨gs, 0, none⟩ (.int .i64 p)) := hk1.setCell hblk1 (by decide) _
  refine ⟨ps.set ra (.pointer q), ⟨set_blk hblk1 0 _, hs.le, (hs.regs.set ra hn).kept hk2, ?_⟩, (hb.setR hgr ra _).setS hs.le 0 _, hk.trans hk2⟩
  rw [List.length_set]
  exact own_kept (own_set hs.own ra _) ((Kept.refl _ _).setCell hblk1 (by decide) _)

theorem rstep_fin_drewK {w w' : World} {T gs gr : Nat} {s' : St} {rv : Value} (h : ∃ ps', RStP w' T gs s' rv ps' ∧ BelK T gs gr w w' ∧ Kept 58 w w') : ∃ ps', RStP w'.drew T gs s' rv ps' ∧ BelK T gs gr w w'.drew ∧ Kept 58 w w'.drew := by
  obtain ⟨ps', h1, h2, h3⟩ := h
  exact ⟨ps', h1.kept (Below.refl _ _).drew, h2.drew, h3.drew⟩
theorem RStepOkK.mk' {w : World} {T gs gr : Nat} {s' : St} {rv : Value} {e : Ending} {w' : World} (he : e = .returned (.bool true)) (h : ∃ ps', RStP w' T gs s' rv ps' ∧ BelK T gs gr w w' ∧ Kept 58 w w') : RStepOkK w T gs gr s' rv e w' := by
  obtain ⟨ps', h1, h2, h3⟩ := h
  exact ⟨ps', he, h1, h2, h3⟩
theorem rstep_jfinK {w wd : World} {T gs gr cp : Nat} {s : St} {ps : List Value} (hs : RStP wd T gs s (.slice (some ⟨gr, 0, none⟩) s.regs.length cp) ps) (hb : BelK T gs gr w wd) (hk : Kept 58 w wd) (z : Int) (p : Nat) (hz : z = p) :
    ∃ ps', RStP (wd.setCell ⟨gs, 0, none⟩ (.int .i64 z)) T gs ⟨p, s.regs⟩ (.slice (some ⟨gr, 0, none⟩) s.regs.length cp) ps' ∧ BelK T gs gr w (wd.setCell ⟨gs, 0, none⟩ (.int .i64 z)) ∧ Kept 58 w (wd.setCell ⟨gs, 0, none⟩ (.int .i64 z)) := by
  subst hz
  have hk2 : Kept 58 wd (wd.setCell ⟨gs, 0, none⟩ (.int .i64 p)) := (Kept.refl _ wd).setCell hs.blk (by decide) _
  exact ⟨ps, ⟨set_blk hs.blk 0 _, hs.le, hs.regs.kept hk2, own_kept hs.own ((Kept.refl _ _).setCell hs.blk (by decide) _)⟩, hb.setS hs.le 0 _, hk.trans hk2⟩


set_option maxRecDepth 20000 in
set_option maxHeartbeats 4000000 in
theorem rstep_setK (w : World) (T gm gs gr cp : Nat) (l : List Ins) (s : St) (pv tv : Value) (ps : List Value) (hm : RMachP w T gm l pv tv) (hs : RStP w T gs s (.slice (some ⟨gr, 0, none⟩) s.regs.length cp) ps) (hgr : T ≤ gr) (hg : Good l.length s) (hn4 : l.length ≤ 4000) (ra : Nat) (ha : ra < 32) (b c : Int) (tree : ByteArray)
    (hx : l[s.pos]? = some ⟨0, (ra : Nat), b, c, tree⟩) :
    Calls Try.prog 97 #[.pointer (some ⟨gm, 0, none⟩), .pointer (some ⟨gs, 0, none⟩)] w (RStepOkK w T gs gr ⟨s.pos + 1, s.regs.set ra (toTr tree)⟩ (.slice (some ⟨gr, 0, none⟩) s.regs.length cp)) := by
  have hp : s.pos < l.length := (List.getElem?_eq_some_iff.1 hx).1
  obtain ⟨ao, cap, rfl⟩ := hm.prog.len
  have c0 := (block_cells hm.blk).1 0
  simp only [List.getElem?_toArray, List.getElem?_cons_zero] at c0
  have s0 := hs.cells.1
  have hl := hm.prog
  have hlt := hm.lt
  have hgl : gs < w.heap.size := (Array.getElem?_eq_some_iff.1 hs.blk).1
  have hgm : gm < w.heap.size := (Array.getElem?_eq_some_iff.1 hm.blk).1
  have hle := hs.le
  obtain ⟨n, hn'⟩ : ∃ n, l.length = n := ⟨_, rfl⟩
  rw [hn'] at hl c0 hp hn4
  obtain ⟨pg, off, rfl, hpg, p0, p1, p2, p3, p4⟩ := hl.get hx
  dsimp only at p0 p1 p2 p3 p4
  have h32 := hg.2.1
  have HX := Lib.hid hx
  have HN := Lib.hid hn'
  have hi0 : (0 : Int) ≤ (s.pos : Int) := Int.natCast_nonneg _
  have hi1 : (s.pos : Int) < (n : Int) := by omega
  obtain ⟨wd, hwd⟩ : ∃ wd, (w.alloc (.cells #[.int .i64 (0), .int .i64 (ra : Nat), .int .i64 (b), .int .i64 (c), .string tree] 41)).drew = wd := ⟨_, rfl⟩
  have hbd : Below w.heap.size w wd := by rw [← hwd]; exact ((Below.refl _ _).alloc (Nat.le_refl _) _).drew
  have hbox : wd.heap[w.heap.size]? = some (.cells #[.int .i64 (0), .int .i64 (ra : Nat), .int .i64 (b), .int .i64 (c), .string tree] 41 (0, 0)) := by rw [← hwd]; exact heap_alloc_new w _
  have keep : ∀ w', Below w.heap.size w w' → w'.cell? ⟨gm, 0, none⟩ = some (.slice (some ⟨pg, off, none⟩) n cap) ∧ w'.cell? ⟨gs, 0, none⟩ = some (.int .i64 s.pos) ∧ w'.cell? ⟨pg, off + s.pos * 5, none⟩ = some (.int .i64 (0)) ∧ w'.cell? ⟨pg, off + s.pos * 5 + 1, none⟩ = some (.int .i64 (ra : Nat)) ∧
      w'.cell? ⟨pg, off + s.pos * 5 + 2, none⟩ = some (.int .i64 (b)) ∧ w'.cell? ⟨pg, off + s.pos * 5 + 3, none⟩ = some (.int .i64 (c)) ∧ w'.cell? ⟨pg, off + s.pos * 5 + 4, none⟩ = some (.string tree) := fun w' hb => by
    refine ⟨(hb.cell (p := ⟨gm, 0, none⟩) hgm).trans c0, (hb.cell (p := ⟨gs, 0, none⟩) hgl).trans s0, (hb.cell (p := ⟨pg, off + s.pos * 5, none⟩) (by show pg < _; omega)).trans p0, (hb.cell (p := ⟨pg, off + s.pos * 5 + 1, none⟩) (by show pg < _; omega)).trans p1, (hb.cell (p := ⟨pg, off + s.pos * 5 + 2, none⟩) (by show pg < _; omega)).trans p2, (hb.cell (p := ⟨pg, off + s.pos * 5 + 3, none⟩) (by show pg < _; omega)).trans p3, (hb.cell (p := ⟨pg, off + s.pos * 5 + 4, none⟩) (by show pg < _; omega)).trans p4⟩
  have hsd := hs.kept hbd
  obtain ⟨d0, d1, df, dr, drf⟩ := hsd.cells
  have kkd := Kept.below hbd (T := 58)
  have e0 := (block_cells hbox).1 0
  have e1 := (block_cells hbox).1 1
  have e2 := (block_cells hbox).1 2
  have e3 := (block_cells hbox).1 3
  simp only [List.getElem?_toArray, List.getElem?_cons_zero, List.getElem?_cons_succ] at e0 e1 e2 e3
  have hbl : w.heap.size < wd.heap.size := (Array.getElem?_eq_some_iff.1 hbox).1
  have hbT : BelK T gs gr w wd := .of hbd (by omega)
  have HSD := Lib.hid hsd
  have hap1 : ¬ gs = gr := hsd.apart
  have hap2 : ¬ gr = gs := fun h => hap1 h.symm
  have hrl := hsd.rlt
  rw [h32] at d1
  clear hsd hbox
  obtain ⟨tra, htra⟩ : ∃ t, s.regs[ra]? = some t := ⟨_, List.getElem?_eq_getElem (by omega)⟩
  obtain ⟨qra, fra, nra⟩ := dr ra tra htra
  have zra := drf ra
  obtain ⟨xs, base, hxs, hown, hob⟩ := hm.sets
  obtain ⟨v0, hv0, hnv⟩ := hxs.get (j := s.pos) (t := toTr tree) (by rw [List.getElem?_map, hx]; rfl)
  obtain ⟨sp, rfl⟩ := hnv.ptr
  have hnd := hnv.kept kkd
  rw [hn'] at hown
  have hown' := own_below hown hbd
  obtain ⟨sg, scp, rfl, hsr⟩ := own_cells hown' (by omega)
  have hm1 := (block_cells hm.blk).1 1
  simp only [List.getElem?_toArray, List.getElem?_cons_zero, List.getElem?_cons_succ] at hm1
  have gm1 := (hbd.cell (p := ⟨gm, 1, none⟩) hgm).trans hm1

  clear hm hs hg hl hx hn' hle hpg
  go_enter Try.func97, Try.ntmps97
  go_wp2
  go_region_held3 (fun w' => w'.cell? ⟨gm, 0, none⟩ = some (.slice (some ⟨pg, off, none⟩) n cap) ∧ w'.cell? ⟨gs, 0, none⟩ = some (.int .i64 s.pos) ∧ w'.cell? ⟨pg, off + s.pos * 5, none⟩ = some (.int .i64 (0)) ∧ w'.cell? ⟨pg, off + s.pos * 5 + 1, none⟩ = some (.int .i64 (ra : Nat)) ∧
      w'.cell? ⟨pg, off + s.pos * 5 + 2, none⟩ = some (.int .i64 (b)) ∧ w'.cell? ⟨pg, off + s.pos * 5 + 3, none⟩ = some (.int .i64 (c)) ∧ w'.cell? ⟨pg, off + s.pos * 5 + 4, none⟩ = some (.string tree))
    (exact keep _ (by first | exact hbd | exact (Below.refl _ _).drew | exact ((Below.refl _ _).drew).alloc (Nat.le_refl _) _))
    (fail)
  try rw [hwd]
  clear keep hwd p0 p1 p2 p3 p4 c0 s0
  have hset : wd.cell? ⟨sg, s.pos, none⟩ = some (.pointer sp) := by rw [hsr.2.2.2.2.1 s.pos (by omega), hv0]
  have HND := Lib.hid hnd
  have df0 := df 0
  clear dr df drf hsr hnd hnv hxs hown hown' hob hm1 nra
  go_wp2
  go_region
  go_wp2
  go_ret
  refine RStepOkK.mk' rfl ?_
  first
  | exact rstep_fin_drewK (rstep_finK HSD.out hbT kkd ra HND.out hgr _ _ (by omega))
  | exact rstep_finK (HSD.out.kept (Below.refl _ _).drew) hbT.drew kkd.drew ra (HND.out.kept (Kept.refl _ _).drew) hgr _ _ (by omega)

set_option maxRecDepth 20000 in
set_option maxHeartbeats 4000000 in
theorem rstep_moveK (w : World) (T gm gs gr cp : Nat) (l : List Ins) (s : St) (pv tv : Value) (ps : List Value) (hm : RMachP w T gm l pv tv) (hs : RStP w T gs s (.slice (some ⟨gr, 0, none⟩) s.regs.length cp) ps) (hgr : T ≤ gr) (hg : Good l.length s) (hn4 : l.length ≤ 4000) (ra : Nat) (ha : ra < 32) (rb : Nat) (hb : rb < 32) (t : Tr) (ht : s.regs[rb]? = some t) (c : Int) (tree : ByteArray)
    (hx : l[s.pos]? = some ⟨1, (ra : Nat), (rb : Nat), c, tree⟩) :
    Calls Try.prog 97 #[.pointer (some ⟨gm, 0, none⟩), .pointer (some ⟨gs, 0, none⟩)] w (RStepOkK w T gs gr ⟨s.pos + 1, s.regs.set ra t⟩ (.slice (some ⟨gr, 0, none⟩) s.regs.length cp)) := by
  have hp : s.pos < l.length := (List.getElem?_eq_some_iff.1 hx).1
  obtain ⟨ao, cap, rfl⟩ := hm.prog.len
  have c0 := (block_cells hm.blk).1 0
  simp only [List.getElem?_toArray, List.getElem?_cons_zero] at c0
  have s0 := hs.cells.1
  have hl := hm.prog
  have hlt := hm.lt
  have hgl : gs < w.heap.size := (Array.getElem?_eq_some_iff.1 hs.blk).1
  have hgm : gm < w.heap.size := (Array.getElem?_eq_some_iff.1 hm.blk).1
  have hle := hs.le
  obtain ⟨n, hn'⟩ : ∃ n, l.length = n := ⟨_, rfl⟩
  rw [hn'] at hl c0 hp hn4
  obtain ⟨pg, off, rfl, hpg, p0, p1, p2, p3, p4⟩ := hl.get hx
  dsimp only at p0 p1 p2 p3 p4
  have h32 := hg.2.1
  have HX := Lib.hid hx
  have HN := Lib.hid hn'
  have hi0 : (0 : Int) ≤ (s.pos : Int) := Int.natCast_nonneg _
  have hi1 : (s.pos : Int) < (n : Int) := by omega
  obtain ⟨wd, hwd⟩ : ∃ wd, (w.alloc (.cells #[.int .i64 (1), .int .i64 (ra : Nat), .int .i64 (rb : Nat), .int .i64 (c), .string tree] 41)).drew = wd := ⟨_, rfl⟩
  have hbd : Below w.heap.size w wd := by rw [← hwd]; exact ((Below.refl _ _).alloc (Nat.le_refl _) _).drew
  have hbox : wd.heap[w.heap.size]? = some (.cells #[.int .i64 (1), .int .i64 (ra : Nat), .int .i64 (rb : Nat), .int .i64 (c), .string tree] 41 (0, 0)) := by rw [← hwd]; exact heap_alloc_new w _
  have keep : ∀ w', Below w.heap.size w w' → w'.cell? ⟨gm, 0, none⟩ = some (.slice (some ⟨pg, off, none⟩) n cap) ∧ w'.cell? ⟨gs, 0, none⟩ = some (.int .i64 s.pos) ∧ w'.cell? ⟨pg, off + s.pos * 5, none⟩ = some (.int .i64 (1)) ∧ w'.cell? ⟨pg, off + s.pos * 5 + 1, none⟩ = some (.int .i64 (ra : Nat)) ∧
      w'.cell? ⟨pg, off + s.pos * 5 + 2, none⟩ = some (.int .i64 (rb : Nat)) ∧ w'.cell? ⟨pg, off + s.pos * 5 + 3, none⟩ = some (.int .i64 (c)) ∧ w'.cell? ⟨pg, off + s.pos * 5 + 4, none⟩ = some (.string tree) := fun w' hb => by
    refine ⟨(hb.cell (p := ⟨gm, 0, none⟩) hgm).trans c0, (hb.cell (p := ⟨gs, 0, none⟩) hgl).trans s0, (hb.cell (p := ⟨pg, off + s.pos * 5, none⟩) (by show pg < _; omega)).trans p0, (hb.cell (p := ⟨pg, off + s.pos * 5 + 1, none⟩) (by show pg < _; omega)).trans p1, (hb.cell (p := ⟨pg, off + s.pos * 5 + 2, none⟩) (by show pg < _; omega)).trans p2, (hb.cell (p := ⟨pg, off + s.pos * 5 + 3, none⟩) (by show pg < _; omega)).trans p3, (hb.cell (p := ⟨pg, off + s.pos * 5 + 4, none⟩) (by show pg < _; omega)).trans p4⟩
  have hsd := hs.kept hbd
  obtain ⟨d0, d1, df, dr, drf⟩ := hsd.cells
  have kkd := Kept.below hbd (T := 58)
  have e0 := (block_cells hbox).1 0
  have e1 := (block_cells hbox).1 1
  have e2 := (block_cells hbox).1 2
  have e3 := (block_cells hbox).1 3
  simp only [List.getElem?_toArray, List.getElem?_cons_zero, List.getElem?_cons_succ] at e0 e1 e2 e3
  have hbl : w.heap.size < wd.heap.size := (Array.getElem?_eq_some_iff.1 hbox).1
  have hbT : BelK T gs gr w wd := .of hbd (by omega)
  have HSD := Lib.hid hsd
  have hap1 : ¬ gs = gr := hsd.apart
  have hap2 : ¬ gr = gs := fun h => hap1 h.symm
  have hrl := hsd.rlt
  rw [h32] at d1
  clear hsd hbox
  obtain ⟨tra, htra⟩ : ∃ t, s.regs[ra]? = some t := ⟨_, List.getElem?_eq_getElem (by omega)⟩
  obtain ⟨qra, fra, nra⟩ := dr ra tra htra
  have zra := drf ra
  obtain ⟨qb, fb, nb⟩ := dr rb t ht

  clear hm hs hg hl hx hn' hle hpg
  go_enter Try.func97, Try.ntmps97
  go_wp2
  go_region_held3 (fun w' => w'.cell? ⟨gm, 0, none⟩ = some (.slice (some ⟨pg, off, none⟩) n cap) ∧ w'.cell? ⟨gs, 0, none⟩ = some (.int .i64 s.pos) ∧ w'.cell? ⟨pg, off + s.pos * 5, none⟩ = some (.int .i64 (1)) ∧ w'.cell? ⟨pg, off + s.pos * 5 + 1, none⟩ = some (.int .i64 (ra : Nat)) ∧
      w'.cell? ⟨pg, off + s.pos * 5 + 2, none⟩ = some (.int .i64 (rb : Nat)) ∧ w'.cell? ⟨pg, off + s.pos * 5 + 3, none⟩ = some (.int .i64 (c)) ∧ w'.cell? ⟨pg, off + s.pos * 5 + 4, none⟩ = some (.string tree))
    (exact keep _ (by first | exact hbd | exact (Below.refl _ _).drew | exact ((Below.refl _ _).drew).alloc (Nat.le_refl _) _))
    (fail)
  try rw [hwd]
  clear keep hwd p0 p1 p2 p3 p4 c0 s0
  have HND := Lib.hid nb
  have df0 := df 0
  clear dr df drf nb nra
  go_wp2
  go_region
  go_wp2
  go_ret
  refine RStepOkK.mk' rfl ?_
  first
  | exact rstep_fin_drewK (rstep_finK HSD.out hbT kkd ra HND.out hgr _ _ (by omega))
  | exact rstep_finK (HSD.out.kept (Below.refl _ _).drew) hbT.drew kkd.drew ra (HND.out.kept (Kept.refl _ _).drew) hgr _ _ (by omega)

set_option maxRecDepth 20000 in
set_option maxHeartbeats 4000000 in
theorem rstep_headK (w : World) (T gm gs gr cp : Nat) (l : List Ins) (s : St) (pv tv : Value) (ps : List Value) (hm : RMachP w T gm l pv tv) (hs : RStP w T gs s (.slice (some ⟨gr, 0, none⟩) s.regs.length cp) ps) (hgr : T ≤ gr) (hg : Good l.length s) (hn4 : l.length ≤ 4000) (ra : Nat) (ha : ra < 32) (rb : Nat) (hb : rb < 32) (t : Tr) (ht : s.regs[rb]? = some t) (c : Int) (tree : ByteArray)
    (hx : l[s.pos]? = some ⟨3, (ra : Nat), (rb : Nat), c, tree⟩) :
    Calls Try.prog 97 #[.pointer (some ⟨gm, 0, none⟩), .pointer (some ⟨gs, 0, none⟩)] w (RStepOkK w T gs gr ⟨s.pos + 1, s.regs.set ra t.hd⟩ (.slice (some ⟨gr, 0, none⟩) s.regs.length cp)) := by
  have hp : s.pos < l.length := (List.getElem?_eq_some_iff.1 hx).1
  obtain ⟨ao, cap, rfl⟩ := hm.prog.len
  have c0 := (block_cells hm.blk).1 0
  simp only [List.getElem?_toArray, List.getElem?_cons_zero] at c0
  have s0 := hs.cells.1
  have hl := hm.prog
  have hlt := hm.lt
  have hgl : gs < w.heap.size := (Array.getElem?_eq_some_iff.1 hs.blk).1
  have hgm : gm < w.heap.size := (Array.getElem?_eq_some_iff.1 hm.blk).1
  have hle := hs.le
  obtain ⟨n, hn'⟩ : ∃ n, l.length = n := ⟨_, rfl⟩
  rw [hn'] at hl c0 hp hn4
  obtain ⟨pg, off, rfl, hpg, p0, p1, p2, p3, p4⟩ := hl.get hx
  dsimp only at p0 p1 p2 p3 p4
  have h32 := hg.2.1
  have HX := Lib.hid hx
  have HN := Lib.hid hn'
  have hi0 : (0 : Int) ≤ (s.pos : Int) := Int.natCast_nonneg _
  have hi1 : (s.pos : Int) < (n : Int) := by omega
  obtain ⟨wd, hwd⟩ : ∃ wd, (w.alloc (.cells #[.int .i64 (3), .int .i64 (ra : Nat), .int .i64 (rb : Nat), .int .i64 (c), .string tree] 41)).drew = wd := ⟨_, rfl⟩
  have hbd : Below w.heap.size w wd := by rw [← hwd]; exact ((Below.refl _ _).alloc (Nat.le_refl _) _).drew
  have hbox : wd.heap[w.heap.size]? = some (.cells #[.int .i64 (3), .int .i64 (ra : Nat), .int .i64 (rb : Nat), .int .i64 (c), .string tree] 41 (0, 0)) := by rw [← hwd]; exact heap_alloc_new w _
  have keep : ∀ w', Below w.heap.size w w' → w'.cell? ⟨gm, 0, none⟩ = some (.slice (some ⟨pg, off, none⟩) n cap) ∧ w'.cell? ⟨gs, 0, none⟩ = some (.int .i64 s.pos) ∧ w'.cell? ⟨pg, off + s.pos * 5, none⟩ = some (.int .i64 (3)) ∧ w'.cell? ⟨pg, off + s.pos * 5 + 1, none⟩ = some (.int .i64 (ra : Nat)) ∧
      w'.cell? ⟨pg, off + s.pos * 5 + 2, none⟩ = some (.int .i64 (rb : Nat)) ∧ w'.cell? ⟨pg, off + s.pos * 5 + 3, none⟩ = some (.int .i64 (c)) ∧ w'.cell? ⟨pg, off + s.pos * 5 + 4, none⟩ = some (.string tree) := fun w' hb => by
    refine ⟨(hb.cell (p := ⟨gm, 0, none⟩) hgm).trans c0, (hb.cell (p := ⟨gs, 0, none⟩) hgl).trans s0, (hb.cell (p := ⟨pg, off + s.pos * 5, none⟩) (by show pg < _; omega)).trans p0, (hb.cell (p := ⟨pg, off + s.pos * 5 + 1, none⟩) (by show pg < _; omega)).trans p1, (hb.cell (p := ⟨pg, off + s.pos * 5 + 2, none⟩) (by show pg < _; omega)).trans p2, (hb.cell (p := ⟨pg, off + s.pos * 5 + 3, none⟩) (by show pg < _; omega)).trans p3, (hb.cell (p := ⟨pg, off + s.pos * 5 + 4, none⟩) (by show pg < _; omega)).trans p4⟩
  have hsd := hs.kept hbd
  obtain ⟨d0, d1, df, dr, drf⟩ := hsd.cells
  have kkd := Kept.below hbd (T := 58)
  have e0 := (block_cells hbox).1 0
  have e1 := (block_cells hbox).1 1
  have e2 := (block_cells hbox).1 2
  have e3 := (block_cells hbox).1 3
  simp only [List.getElem?_toArray, List.getElem?_cons_zero, List.getElem?_cons_succ] at e0 e1 e2 e3
  have hbl : w.heap.size < wd.heap.size := (Array.getElem?_eq_some_iff.1 hbox).1
  have hbT : BelK T gs gr w wd := .of hbd (by omega)
  have HSD := Lib.hid hsd
  have hap1 : ¬ gs = gr := hsd.apart
  have hap2 : ¬ gr = gs := fun h => hap1 h.symm
  have hrl := hsd.rlt
  rw [h32] at d1
  clear hsd hbox
  obtain ⟨tra, htra⟩ : ∃ t, s.regs[ra]? = some t := ⟨_, List.getElem?_eq_getElem (by omega)⟩
  obtain ⟨qra, fra, nra⟩ := dr ra tra htra
  have zra := drf ra
  obtain ⟨qb, fb, nb⟩ := dr rb t ht

  clear hm hs hg hl hx hn' hle hpg
  go_enter Try.func97, Try.ntmps97
  go_wp2
  go_region_held3 (fun w' => w'.cell? ⟨gm, 0, none⟩ = some (.slice (some ⟨pg, off, none⟩) n cap) ∧ w'.cell? ⟨gs, 0, none⟩ = some (.int .i64 s.pos) ∧ w'.cell? ⟨pg, off + s.pos * 5, none⟩ = some (.int .i64 (3)) ∧ w'.cell? ⟨pg, off + s.pos * 5 + 1, none⟩ = some (.int .i64 (ra : Nat)) ∧
      w'.cell? ⟨pg, off + s.pos * 5 + 2, none⟩ = some (.int .i64 (rb : Nat)) ∧ w'.cell? ⟨pg, off + s.pos * 5 + 3, none⟩ = some (.int .i64 (c)) ∧ w'.cell? ⟨pg, off + s.pos * 5 + 4, none⟩ = some (.string tree))
    (exact keep _ (by first | exact hbd | exact (Below.refl _ _).drew | exact ((Below.refl _ _).drew).alloc (Nat.le_refl _) _))
    (fail)
  try rw [hwd]
  clear keep hwd p0 p1 p2 p3 p4 c0 s0
  obtain ⟨xq, nxq, kx⟩ := rnodeHead_at t _ wd nb
  have kx1 := kx wd.drew (Kept.refl _ _).drew
  have HND := Lib.hid nxq
  have df0 := df 0
  have ib0 : (0 : Int) ≤ (rb : Int) := Int.natCast_nonneg _
  have ib1 : (rb : Int) < 32 := by omega
  have ia0 : (0 : Int) ≤ (ra : Int) := Int.natCast_nonneg _
  have ia1 : (ra : Int) < 32 := by omega
  clear dr df drf nb nra nxq kx
  go_wp2
  refine wp_region_still_tail 16 (by kernel_rfl) (by kernel_rfl) ?_
  simp only [List.take_succ_cons, List.take_zero, List.drop_succ_cons, List.drop_zero]
  repeat still_step
  still_call kx1
  repeat still_step
  try refine wpStill_nil ?_
  go_wp2
  go_ret
  refine RStepOkK.mk' rfl ?_
  first
  | exact rstep_fin_drewK (rstep_finK HSD.out hbT kkd ra HND.out hgr _ _ (by omega))
  | exact rstep_finK (HSD.out.kept (Below.refl _ _).drew) hbT.drew kkd.drew ra (HND.out.kept (Kept.refl _ _).drew) hgr _ _ (by omega)

set_option maxRecDepth 20000 in
set_option maxHeartbeats 4000000 in
theorem rstep_tailK (w : World) (T gm gs gr cp : Nat) (l : List Ins) (s : St) (pv tv : Value) (ps : List Value) (hm : RMachP w T gm l pv tv) (hs : RStP w T gs s (.slice (some ⟨gr, 0, none⟩) s.regs.length cp) ps) (hgr : T ≤ gr) (hg : Good l.length s) (hn4 : l.length ≤ 4000) (ra : Nat) (ha : ra < 32) (rb : Nat) (hb : rb < 32) (t : Tr) (ht : s.regs[rb]? = some t) (c : Int) (tree : ByteArray)
    (hx : l[s.pos]? = some ⟨4, (ra : Nat), (rb : Nat), c, tree⟩) :
    Calls Try.prog 97 #[.pointer (some ⟨gm, 0, none⟩), .pointer (some ⟨gs, 0, none⟩)] w (RStepOkK w T gs gr ⟨s.pos + 1, s.regs.set ra t.tl⟩ (.slice (some ⟨gr, 0, none⟩) s.regs.length cp)) := by
  have hp : s.pos < l.length := (List.getElem?_eq_some_iff.1 hx).1
  obtain ⟨ao, cap, rfl⟩ := hm.prog.len
  have c0 := (block_cells hm.blk).1 0
  simp only [List.getElem?_toArray, List.getElem?_cons_zero] at c0
  have s0 := hs.cells.1
  have hl := hm.prog
  have hlt := hm.lt
  have hgl : gs < w.heap.size := (Array.getElem?_eq_some_iff.1 hs.blk).1
  have hgm : gm < w.heap.size := (Array.getElem?_eq_some_iff.1 hm.blk).1
  have hle := hs.le
  obtain ⟨n, hn'⟩ : ∃ n, l.length = n := ⟨_, rfl⟩
  rw [hn'] at hl c0 hp hn4
  obtain ⟨pg, off, rfl, hpg, p0, p1, p2, p3, p4⟩ := hl.get hx
  dsimp only at p0 p1 p2 p3 p4
  have h32 := hg.2.1
  have HX := Lib.hid hx
  have HN := Lib.hid hn'
  have hi0 : (0 : Int) ≤ (s.pos : Int) := Int.natCast_nonneg _
  have hi1 : (s.pos : Int) < (n : Int) := by omega
  obtain ⟨wd, hwd⟩ : ∃ wd, (w.alloc (.cells #[.int .i64 (4), .int .i64 (ra : Nat), .int .i64 (rb : Nat), .int .i64 (c), .string tree] 41)).drew = wd := ⟨_, rfl⟩
  have hbd : Below w.heap.size w wd := by rw [← hwd]; exact ((Below.refl _ _).alloc (Nat.le_refl _) _).drew
  have hbox : wd.heap[w.heap.size]? = some (.cells #[.int .i64 (4), .int .i64 (ra : Nat), .int .i64 (rb : Nat), .int .i64 (c), .string tree] 41 (0, 0)) := by rw [← hwd]; exact heap_alloc_new w _
  have keep : ∀ w', Below w.heap.size w w' → w'.cell? ⟨gm, 0, none⟩ = some (.slice (some ⟨pg, off, none⟩) n cap) ∧ w'.cell? ⟨gs, 0, none⟩ = some (.int .i64 s.pos) ∧ w'.cell? ⟨pg, off + s.pos * 5, none⟩ = some (.int .i64 (4)) ∧ w'.cell? ⟨pg, off + s.pos * 5 + 1, none⟩ = some (.int .i64 (ra : Nat)) ∧
      w'.cell? ⟨pg, off + s.pos * 5 + 2, none⟩ = some (.int .i64 (rb : Nat)) ∧ w'.cell? ⟨pg, off + s.pos * 5 + 3, none⟩ = some (.int .i64 (c)) ∧ w'.cell? ⟨pg, off + s.pos * 5 + 4, none⟩ = some (.string tree) := fun w' hb => by
    refine ⟨(hb.cell (p := ⟨gm, 0, none⟩) hgm).trans c0, (hb.cell (p := ⟨gs, 0, none⟩) hgl).trans s0, (hb.cell (p := ⟨pg, off + s.pos * 5, none⟩) (by show pg < _; omega)).trans p0, (hb.cell (p := ⟨pg, off + s.pos * 5 + 1, none⟩) (by show pg < _; omega)).trans p1, (hb.cell (p := ⟨pg, off + s.pos * 5 + 2, none⟩) (by show pg < _; omega)).trans p2, (hb.cell (p := ⟨pg, off + s.pos * 5 + 3, none⟩) (by show pg < _; omega)).trans p3, (hb.cell (p := ⟨pg, off + s.pos * 5 + 4, none⟩) (by show pg < _; omega)).trans p4⟩
  have hsd := hs.kept hbd
  obtain ⟨d0, d1, df, dr, drf⟩ := hsd.cells
  have kkd := Kept.below hbd (T := 58)
  have e0 := (block_cells hbox).1 0
  have e1 := (block_cells hbox).1 1
  have e2 := (block_cells hbox).1 2
  have e3 := (block_cells hbox).1 3
  simp only [List.getElem?_toArray, List.getElem?_cons_zero, List.getElem?_cons_succ] at e0 e1 e2 e3
  have hbl : w.heap.size < wd.heap.size := (Array.getElem?_eq_some_iff.1 hbox).1
  have hbT : BelK T gs gr w wd := .of hbd (by omega)
  have HSD := Lib.hid hsd
  have hap1 : ¬ gs = gr := hsd.apart
  have hap2 : ¬ gr = gs := fun h => hap1 h.symm
  have hrl := hsd.rlt
  rw [h32] at d1
  clear hsd hbox
  obtain ⟨tra, htra⟩ : ∃ t, s.regs[ra]? = some t := ⟨_, List.getElem?_eq_getElem (by omega)⟩
  obtain ⟨qra, fra, nra⟩ := dr ra tra htra
  have zra := drf ra
  obtain ⟨qb, fb, nb⟩ := dr rb t ht

  clear hm hs hg hl hx hn' hle hpg
  go_enter Try.func97, Try.ntmps97
  go_wp2
  go_region_held3 (fun w' => w'.cell? ⟨gm, 0, none⟩ = some (.slice (some ⟨pg, off, none⟩) n cap) ∧ w'.cell? ⟨gs, 0, none⟩ = some (.int .i64 s.pos) ∧ w'.cell? ⟨pg, off + s.pos * 5, none⟩ = some (.int .i64 (4)) ∧ w'.cell? ⟨pg, off + s.pos * 5 + 1, none⟩ = some (.int .i64 (ra : Nat)) ∧
      w'.cell? ⟨pg, off + s.pos * 5 + 2, none⟩ = some (.int .i64 (rb : Nat)) ∧ w'.cell? ⟨pg, off + s.pos * 5 + 3, none⟩ = some (.int .i64 (c)) ∧ w'.cell? ⟨pg, off + s.pos * 5 + 4, none⟩ = some (.string tree))
    (exact keep _ (by first | exact hbd | exact (Below.refl _ _).drew | exact ((Below.refl _ _).drew).alloc (Nat.le_refl _) _))
    (fail)
  try rw [hwd]
  clear keep hwd p0 p1 p2 p3 p4 c0 s0
  obtain ⟨xq, nxq, kx⟩ := rnodeTail_at t _ wd nb
  have kx1 := kx wd.drew (Kept.refl _ _).drew
  have HND := Lib.hid nxq
  have df0 := df 0
  have ib0 : (0 : Int) ≤ (rb : Int) := Int.natCast_nonneg _
  have ib1 : (rb : Int) < 32 := by omega
  have ia0 : (0 : Int) ≤ (ra : Int) := Int.natCast_nonneg _
  have ia1 : (ra : Int) < 32 := by omega
  clear dr df drf nb nra nxq kx
  go_wp2
  refine wp_region_still_tail 16 (by kernel_rfl) (by kernel_rfl) ?_
  simp only [List.take_succ_cons, List.take_zero, List.drop_succ_cons, List.drop_zero]
  repeat still_step
  still_call kx1
  repeat still_step
  try refine wpStill_nil ?_
  go_wp2
  go_ret
  refine RStepOkK.mk' rfl ?_
  first
  | exact rstep_fin_drewK (rstep_finK HSD.out hbT kkd ra HND.out hgr _ _ (by omega))
  | exact rstep_finK (HSD.out.kept (Below.refl _ _).drew) hbT.drew kkd.drew ra (HND.out.kept (Kept.refl _ _).drew) hgr _ _ (by omega)

set_option maxRecDepth 20000 in
set_option maxHeartbeats 4000000 in
theorem rstep_cons_okK (w : World) (T gm gs gr cp : Nat) (l : List Ins) (s : St) (pv tv : Value) (ps : List Value) (hm : RMachP w T gm l pv tv) (hs : RStP w T gs s (.slice (some ⟨gr, 0, none⟩) s.regs.length cp) ps) (hgr : T ≤ gr) (hg : Good l.length s) (hn4 : l.length ≤ 4000) (ra : Nat) (ha : ra < 32) (rb : Nat) (hb : rb < 32) (rc : Nat) (hc : rc < 32) (t : Tr) (ht : s.regs[rb]? = some t) (u : Tr) (hu : s.regs[rc]? = some u) (tree : ByteArray) (hsz : (Tr.pair t u).size ≤ 2000000)
    (hx : l[s.pos]? = some ⟨2, (ra : Nat), (rb : Nat), (rc : Nat), tree⟩) :
    Calls Try.prog 97 #[.pointer (some ⟨gm, 0, none⟩), .pointer (some ⟨gs, 0, none⟩)] w (RStepOkK w T gs gr ⟨s.pos + 1, s.regs.set ra (.pair t u)⟩ (.slice (some ⟨gr, 0, none⟩) s.regs.length cp)) := by
  have hp : s.pos < l.length := (List.getElem?_eq_some_iff.1 hx).1
  obtain ⟨ao, cap, rfl⟩ := hm.prog.len
  have c0 := (block_cells hm.blk).1 0
  simp only [List.getElem?_toArray, List.getElem?_cons_zero] at c0
  have s0 := hs.cells.1
  have hl := hm.prog
  have hlt := hm.lt
  have hgl : gs < w.heap.size := (Array.getElem?_eq_some_iff.1 hs.blk).1
  have hgm : gm < w.heap.size := (Array.getElem?_eq_some_iff.1 hm.blk).1
  have hle := hs.le
  obtain ⟨n, hn'⟩ : ∃ n, l.length = n := ⟨_, rfl⟩
  rw [hn'] at hl c0 hp hn4
  obtain ⟨pg, off, rfl, hpg, p0, p1, p2, p3, p4⟩ := hl.get hx
  dsimp only at p0 p1 p2 p3 p4
  have h32 := hg.2.1
  have HX := Lib.hid hx
  have HN := Lib.hid hn'
  have hi0 : (0 : Int) ≤ (s.pos : Int) := Int.natCast_nonneg _
  have hi1 : (s.pos : Int) < (n : Int) := by omega
  obtain ⟨wd, hwd⟩ : ∃ wd, (w.alloc (.cells #[.int .i64 (2), .int .i64 (ra : Nat), .int .i64 (rb : Nat), .int .i64 (rc : Nat), .string tree] 41)).drew = wd := ⟨_, rfl⟩
  have hbd : Below w.heap.size w wd := by rw [← hwd]; exact ((Below.refl _ _).alloc (Nat.le_refl _) _).drew
  have hbox : wd.heap[w.heap.size]? = some (.cells #[.int .i64 (2), .int .i64 (ra : Nat), .int .i64 (rb : Nat), .int .i64 (rc : Nat), .string tree] 41 (0, 0)) := by rw [← hwd]; exact heap_alloc_new w _
  have keep : ∀ w', Below w.heap.size w w' → w'.cell? ⟨gm, 0, none⟩ = some (.slice (some ⟨pg, off, none⟩) n cap) ∧ w'.cell? ⟨gs, 0, none⟩ = some (.int .i64 s.pos) ∧ w'.cell? ⟨pg, off + s.pos * 5, none⟩ = some (.int .i64 (2)) ∧ w'.cell? ⟨pg, off + s.pos * 5 + 1, none⟩ = some (.int .i64 (ra : Nat)) ∧
      w'.cell? ⟨pg, off + s.pos * 5 + 2, none⟩ = some (.int .i64 (rb : Nat)) ∧ w'.cell? ⟨pg, off + s.pos * 5 + 3, none⟩ = some (.int .i64 (rc : Nat)) ∧ w'.cell? ⟨pg, off + s.pos * 5 + 4, none⟩ = some (.string tree) := fun w' hb => by
    refine ⟨(hb.cell (p := ⟨gm, 0, none⟩) hgm).trans c0, (hb.cell (p := ⟨gs, 0, none⟩) hgl).trans s0, (hb.cell (p := ⟨pg, off + s.pos * 5, none⟩) (by show pg < _; omega)).trans p0, (hb.cell (p := ⟨pg, off + s.pos * 5 + 1, none⟩) (by show pg < _; omega)).trans p1, (hb.cell (p := ⟨pg, off + s.pos * 5 + 2, none⟩) (by show pg < _; omega)).trans p2, (hb.cell (p := ⟨pg, off + s.pos * 5 + 3, none⟩) (by show pg < _; omega)).trans p3, (hb.cell (p := ⟨pg, off + s.pos * 5 + 4, none⟩) (by show pg < _; omega)).trans p4⟩
  have hsd := hs.kept hbd
  obtain ⟨d0, d1, df, dr, drf⟩ := hsd.cells
  have kkd := Kept.below hbd (T := 58)
  have e0 := (block_cells hbox).1 0
  have e1 := (block_cells hbox).1 1
  have e2 := (block_cells hbox).1 2
  have e3 := (block_cells hbox).1 3
  simp only [List.getElem?_toArray, List.getElem?_cons_zero, List.getElem?_cons_succ] at e0 e1 e2 e3
  have hbl : w.heap.size < wd.heap.size := (Array.getElem?_eq_some_iff.1 hbox).1
  have hbT : BelK T gs gr w wd := .of hbd (by omega)
  have HSD := Lib.hid hsd
  have hap1 : ¬ gs = gr := hsd.apart
  have hap2 : ¬ gr = gs := fun h => hap1 h.symm
  have hrl := hsd.rlt
  rw [h32] at d1
  clear hsd hbox
  have ib0 : (0 : Int) ≤ (rb : Int) := Int.natCast_nonneg _
  have ib1 : (rb : Int) < 32 := by omega
  have ic0 : (0 : Int) ≤ (rc : Int) := Int.natCast_nonneg _
  have ic1 : (rc : Int) < 32 := by omega
  obtain ⟨qb, fb, nb⟩ := dr rb t ht
  obtain ⟨qc, fc, nc⟩ := dr rc u hu
  have h1 := Lib.hid (hg.2.2 _ (List.mem_of_getElem? ht))
  have h2 := Lib.hid (hg.2.2 _ (List.mem_of_getElem? hu))

  clear hm hs hg hl hx hn' hle hpg
  go_enter Try.func97, Try.ntmps97
  go_wp2
  go_region_held3 (fun w' => w'.cell? ⟨gm, 0, none⟩ = some (.slice (some ⟨pg, off, none⟩) n cap) ∧ w'.cell? ⟨gs, 0, none⟩ = some (.int .i64 s.pos) ∧ w'.cell? ⟨pg, off + s.pos * 5, none⟩ = some (.int .i64 (2)) ∧ w'.cell? ⟨pg, off + s.pos * 5 + 1, none⟩ = some (.int .i64 (ra : Nat)) ∧
      w'.cell? ⟨pg, off + s.pos * 5 + 2, none⟩ = some (.int .i64 (rb : Nat)) ∧ w'.cell? ⟨pg, off + s.pos * 5 + 3, none⟩ = some (.int .i64 (rc : Nat)) ∧ w'.cell? ⟨pg, off + s.pos * 5 + 4, none⟩ = some (.string tree))
    (exact keep _ (by first | exact hbd | exact (Below.refl _ _).drew | exact ((Below.refl _ _).drew).alloc (Nat.le_refl _) _))
    (fail)
  try rw [hwd]
  clear keep hwd p0 p1 p2 p3 p4 c0 s0
  have HNB := Lib.hid nb
  have HNC := Lib.hid nc
  have kc : ∀ w', Below wd.heap.size wd w' → Calls Try.prog 93 #[.pointer qb, .pointer qc] w' fun e w'' => ∃ p, e = .returned (.pointer (some p)) ∧ Hid (NodeP 58 w'' (.pair t u) (.pointer (some p))) ∧ Below wd.heap.size wd w'' := fun w' hb' => by
    refine (rnodeCons_ok t u _ _ w' (HNB.out.kept (Kept.below hb')) (HNC.out.kept (Kept.below hb')) (by have := h1.out; omega) (by have := h2.out; omega)).mono ?_
    rintro e w'' ⟨p, he, hp, hb2⟩
    exact ⟨p, he, hp, hb'.trans (hb2.mono hb'.size)⟩
  have keep2 : ∀ w', Below wd.heap.size wd w' → w'.cell? ⟨w.heap.size, 2, none⟩ = some (.int .i64 (rb : Nat)) ∧ w'.cell? ⟨w.heap.size, 3, none⟩ = some (.int .i64 (rc : Nat)) ∧ w'.cell? ⟨gr, rb, none⟩ = some (.pointer qb) ∧ w'.cell? ⟨gr, rc, none⟩ = some (.pointer qc) ∧ w'.cell? ⟨gs, 1, none⟩ = some (.slice (some ⟨gr, 0, none⟩) 32 cp) := fun w' hb' =>
    ⟨(hb'.cell (p := ⟨w.heap.size, 2, none⟩) hbl).trans e2, (hb'.cell (p := ⟨w.heap.size, 3, none⟩) hbl).trans e3, (hb'.cell (p := ⟨gr, rb, none⟩) hrl).trans fb, (hb'.cell (p := ⟨gr, rc, none⟩) hrl).trans fc, (hb'.cell (p := ⟨gs, 1, none⟩) (by show gs < _; omega)).trans d1⟩
  clear dr df drf nb nc
  have HSZ := Lib.hid hsz
  clear hsz
  go_wp2
  go_region_held3 (fun w' => w'.cell? ⟨w.heap.size, 2, none⟩ = some (.int .i64 (rb : Nat)) ∧ w'.cell? ⟨w.heap.size, 3, none⟩ = some (.int .i64 (rc : Nat)) ∧ w'.cell? ⟨gr, rb, none⟩ = some (.pointer qb) ∧ w'.cell? ⟨gr, rc, none⟩ = some (.pointer qc) ∧ w'.cell? ⟨gs, 1, none⟩ = some (.slice (some ⟨gr, 0, none⟩) 32 cp))
    (exact keep2 _ (by first | exact (Below.refl _ _) | exact (Below.refl _ _).drew | exact hb2 | exact hb2.drew))
    ((refine (kc _ (by first | exact Below.refl _ _ | exact (Below.refl _ _).drew)).mono ?_; rintro e w2 ⟨⟨xb, xo, xf⟩, rfl, hnx, hb2⟩))
  all_goals
    obtain ⟨gx, x1, x2, hgx, hblk, _, _⟩ := hnx.out
    simp only [Value.pointer.injEq, Option.some.injEq, Addr.mk.injEq] at hgx
    obtain ⟨rfl, rfl, rfl⟩ := hgx
    have cx := (block_cells hblk).1 2
    simp only [List.getElem?_toArray, List.getElem?_cons_zero, List.getElem?_cons_succ] at cx
    have hsz1 := (Tr.pair t u).size_pos
    have hs1 : ((Tr.pair t u).size : Int) ≤ 4000001 := by have := h1.out; have := h2.out; simp only [Tr.size]; omega
    have hsd2 := HSD.out.kept hb2
    obtain ⟨k0, k1, kf, kr, krf⟩ := hsd2.cells
    rw [h32] at k1
    have htest : ((Tr.pair t u).size : Int) ≤ 2000000 := by have := HSZ.out; omega
    obtain ⟨ta, hta⟩ : ∃ t, s.regs[ra]? = some t := ⟨_, List.getElem?_eq_getElem (by omega)⟩
    obtain ⟨qa, fa, na⟩ := kr ra ta hta
    have za := krf ra
    have kf0 := kf 0
    have ia0 : (0 : Int) ≤ (ra : Int) := Int.natCast_nonneg _
    have ia1 : (ra : Int) < 32 := by omega
    have b1 := (hb2.cell (p := ⟨w.heap.size, 1, none⟩) hbl).trans e1
    have HS2 := Lib.hid hsd2
    have hbe := hbd.trans (hb2.mono hbd.size)
    have HBE := Lib.hid hbe
    have hbT2 : BelK T gs gr w w2 := hbT.thenB hb2
    have HBT2 := Lib.hid hbT2
    generalize hPS : (Tr.pair t u).size = psz at *
    clear kr kf krf hsd2 keep2 kc e0 e1 e2 e3 d0 d1 na hta hb2 hblk
    try clear fb fc
    go_wp2
    go_region
    go_wp2
    go_ret
    refine RStepOkK.mk' rfl ?_
    first
    | exact rstep_fin_drewK (rstep_finK HS2.out HBT2.out (Kept.below HBE.out) ra hnx.out hgr _ _ (by omega))
    | exact rstep_finK (HS2.out.kept (Below.refl _ _).drew) HBT2.out.drew (Kept.below HBE.out).drew ra (hnx.out.kept (Kept.refl _ _).drew) hgr _ _ (by omega)

set_option maxRecDepth 20000 in
set_option maxHeartbeats 4000000 in
theorem rstep_cons_bigK (w : World) (T gm gs gr cp : Nat) (l : List Ins) (s : St) (pv tv : Value) (ps : List Value) (hm : RMachP w T gm l pv tv) (hs : RStP w T gs s (.slice (some ⟨gr, 0, none⟩) s.regs.length cp) ps) (hgr : T ≤ gr) (hg : Good l.length s) (hn4 : l.length ≤ 4000) (ra : Nat) (ha : ra < 32) (rb : Nat) (hb : rb < 32) (rc : Nat) (hc : rc < 32) (t : Tr) (ht : s.regs[rb]? = some t) (u : Tr) (hu : s.regs[rc]? = some u) (tree : ByteArray) (hsz : 2000000 < (Tr.pair t u).size)
    (hx : l[s.pos]? = some ⟨2, (ra : Nat), (rb : Nat), (rc : Nat), tree⟩) :
    Calls Try.prog 97 #[.pointer (some ⟨gm, 0, none⟩), .pointer (some ⟨gs, 0, none⟩)] w (fun e w' => e = .returned (.bool false) ∧ (∃ ps', RStP w' T gs s (.slice (some ⟨gr, 0, none⟩) s.regs.length cp) ps') ∧ BelK T gs gr w w' ∧ Kept 58 w w') := by
  have hp : s.pos < l.length := (List.getElem?_eq_some_iff.1 hx).1
  obtain ⟨ao, cap, rfl⟩ := hm.prog.len
  have c0 := (block_cells hm.blk).1 0
  simp only [List.getElem?_toArray, List.getElem?_cons_zero] at c0
  have s0 := hs.cells.1
  have hl := hm.prog
  have hlt := hm.lt
  have hgl : gs < w.heap.size := (Array.getElem?_eq_some_iff.1 hs.blk).1
  have hgm : gm < w.heap.size := (Array.getElem?_eq_some_iff.1 hm.blk).1
  have hle := hs.le
  obtain ⟨n, hn'⟩ : ∃ n, l.length = n := ⟨_, rfl⟩
  rw [hn'] at hl c0 hp hn4
  obtain ⟨pg, off, rfl, hpg, p0, p1, p2, p3, p4⟩ := hl.get hx
  dsimp only at p0 p1 p2 p3 p4
  have h32 := hg.2.1
  have HX := Lib.hid hx
  have HN := Lib.hid hn'
  have hi0 : (0 : Int) ≤ (s.pos : Int) := Int.natCast_nonneg _
  have hi1 : (s.pos : Int) < (n : Int) := by omega
  obtain ⟨wd, hwd⟩ : ∃ wd, (w.alloc (.cells #[.int .i64 (2), .int .i64 (ra : Nat), .int .i64 (rb : Nat), .int .i64 (rc : Nat), .string tree] 41)).drew = wd := ⟨_, rfl⟩
  have hbd : Below w.heap.size w wd := by rw [← hwd]; exact ((Below.refl _ _).alloc (Nat.le_refl _) _).drew
  have hbox : wd.heap[w.heap.size]? = some (.cells #[.int .i64 (2), .int .i64 (ra : Nat), .int .i64 (rb : Nat), .int .i64 (rc : Nat), .string tree] 41 (0, 0)) := by rw [← hwd]; exact heap_alloc_new w _
  have keep : ∀ w', Below w.heap.size w w' → w'.cell? ⟨gm, 0, none⟩ = some (.slice (some ⟨pg, off, none⟩) n cap) ∧ w'.cell? ⟨gs, 0, none⟩ = some (.int .i64 s.pos) ∧ w'.cell? ⟨pg, off + s.pos * 5, none⟩ = some (.int .i64 (2)) ∧ w'.cell? ⟨pg, off + s.pos * 5 + 1, none⟩ = some (.int .i64 (ra : Nat)) ∧
      w'.cell? ⟨pg, off + s.pos * 5 + 2, none⟩ = some (.int .i64 (rb : Nat)) ∧ w'.cell? ⟨pg, off + s.pos * 5 + 3, none⟩ = some (.int .i64 (rc : Nat)) ∧ w'.cell? ⟨pg, off + s.pos * 5 + 4, none⟩ = some (.string tree) := fun w' hb => by
    refine ⟨(hb.cell (p := ⟨gm, 0, none⟩) hgm).trans c0, (hb.cell (p := ⟨gs, 0, none⟩) hgl).trans s0, (hb.cell (p := ⟨pg, off + s.pos * 5, none⟩) (by show pg < _; omega)).trans p0, (hb.cell (p := ⟨pg, off + s.pos * 5 + 1, none⟩) (by show pg < _; omega)).trans p1, (hb.cell (p := ⟨pg, off + s.pos * 5 + 2, none⟩) (by show pg < _; omega)).trans p2, (hb.cell (p := ⟨pg, off + s.pos * 5 + 3, none⟩) (by show pg < _; omega)).trans p3, (hb.cell (p := ⟨pg, off + s.pos * 5 + 4, none⟩) (by show pg < _; omega)).trans p4⟩
  have hsd := hs.kept hbd
  obtain ⟨d0, d1, df, dr, drf⟩ := hsd.cells
  have kkd := Kept.below hbd (T := 58)
  have e0 := (block_cells hbox).1 0
  have e1 := (block_cells hbox).1 1
  have e2 := (block_cells hbox).1 2
  have e3 := (block_cells hbox).1 3
  simp only [List.getElem?_toArray, List.getElem?_cons_zero, List.getElem?_cons_succ] at e0 e1 e2 e3
  have hbl : w.heap.size < wd.heap.size := (Array.getElem?_eq_some_iff.1 hbox).1
  have hbT : BelK T gs gr w wd := .of hbd (by omega)
  have HSD := Lib.hid hsd
  have hap1 : ¬ gs = gr := hsd.apart
  have hap2 : ¬ gr = gs := fun h => hap1 h.symm
  have hrl := hsd.rlt
  rw [h32] at d1
  clear hsd hbox
  have ib0 : (0 : Int) ≤ (rb : Int) := Int.natCast_nonneg _
  have ib1 : (rb : Int) < 32 := by omega
  have ic0 : (0 : Int) ≤ (rc : Int) := Int.natCast_nonneg _
  have ic1 : (rc : Int) < 32 := by omega
  obtain ⟨qb, fb, nb⟩ := dr rb t ht
  obtain ⟨qc, fc, nc⟩ := dr rc u hu
  have h1 := Lib.hid (hg.2.2 _ (List.mem_of_getElem? ht))
  have h2 := Lib.hid (hg.2.2 _ (List.mem_of_getElem? hu))

  clear hm hs hg hl hx hn' hle hpg
  go_enter Try.func97, Try.ntmps97
  go_wp2
  go_region_held3 (fun w' => w'.cell? ⟨gm, 0, none⟩ = some (.slice (some ⟨pg, off, none⟩) n cap) ∧ w'.cell? ⟨gs, 0, none⟩ = some (.int .i64 s.pos) ∧ w'.cell? ⟨pg, off + s.pos * 5, none⟩ = some (.int .i64 (2)) ∧ w'.cell? ⟨pg, off + s.pos * 5 + 1, none⟩ = some (.int .i64 (ra : Nat)) ∧
      w'.cell? ⟨pg, off + s.pos * 5 + 2, none⟩ = some (.int .i64 (rb : Nat)) ∧ w'.cell? ⟨pg, off + s.pos * 5 + 3, none⟩ = some (.int .i64 (rc : Nat)) ∧ w'.cell? ⟨pg, off + s.pos * 5 + 4, none⟩ = some (.string tree))
    (exact keep _ (by first | exact hbd | exact (Below.refl _ _).drew | exact ((Below.refl _ _).drew).alloc (Nat.le_refl _) _))
    (fail)
  try rw [hwd]
  clear keep hwd p0 p1 p2 p3 p4 c0 s0
  have HNB := Lib.hid nb
  have HNC := Lib.hid nc
  have kc : ∀ w', Below wd.heap.size wd w' → Calls Try.prog 93 #[.pointer qb, .pointer qc] w' fun e w'' => ∃ p, e = .returned (.pointer (some p)) ∧ Hid (NodeP 58 w'' (.pair t u) (.pointer (some p))) ∧ Below wd.heap.size wd w'' := fun w' hb' => by
    refine (rnodeCons_ok t u _ _ w' (HNB.out.kept (Kept.below hb')) (HNC.out.kept (Kept.below hb')) (by have := h1.out; omega) (by have := h2.out; omega)).mono ?_
    rintro e w'' ⟨p, he, hp, hb2⟩
    exact ⟨p, he, hp, hb'.trans (hb2.mono hb'.size)⟩
  have keep2 : ∀ w', Below wd.heap.size wd w' → w'.cell? ⟨w.heap.size, 2, none⟩ = some (.int .i64 (rb : Nat)) ∧ w'.cell? ⟨w.heap.size, 3, none⟩ = some (.int .i64 (rc : Nat)) ∧ w'.cell? ⟨gr, rb, none⟩ = some (.pointer qb) ∧ w'.cell? ⟨gr, rc, none⟩ = some (.pointer qc) ∧ w'.cell? ⟨gs, 1, none⟩ = some (.slice (some ⟨gr, 0, none⟩) 32 cp) := fun w' hb' =>
    ⟨(hb'.cell (p := ⟨w.heap.size, 2, none⟩) hbl).trans e2, (hb'.cell (p := ⟨w.heap.size, 3, none⟩) hbl).trans e3, (hb'.cell (p := ⟨gr, rb, none⟩) hrl).trans fb, (hb'.cell (p := ⟨gr, rc, none⟩) hrl).trans fc, (hb'.cell (p := ⟨gs, 1, none⟩) (by show gs < _; omega)).trans d1⟩
  clear dr df drf nb nc
  have HSZ := Lib.hid hsz
  clear hsz
  go_wp2
  go_region_held3 (fun w' => w'.cell? ⟨w.heap.size, 2, none⟩ = some (.int .i64 (rb : Nat)) ∧ w'.cell? ⟨w.heap.size, 3, none⟩ = some (.int .i64 (rc : Nat)) ∧ w'.cell? ⟨gr, rb, none⟩ = some (.pointer qb) ∧ w'.cell? ⟨gr, rc, none⟩ = some (.pointer qc) ∧ w'.cell? ⟨gs, 1, none⟩ = some (.slice (some ⟨gr, 0, none⟩) 32 cp))
    (exact keep2 _ (by first | exact (Below.refl _ _) | exact (Below.refl _ _).drew | exact hb2 | exact hb2.drew))
    ((refine (kc _ (by first | exact Below.refl _ _ | exact (Below.refl _ _).drew)).mono ?_; rintro e w2 ⟨⟨xb, xo, xf⟩, rfl, hnx, hb2⟩))
  all_goals
    obtain ⟨gx, x1, x2, hgx, hblk, _, _⟩ := hnx.out
    simp only [Value.pointer.injEq, Option.some.injEq, Addr.mk.injEq] at hgx
    obtain ⟨rfl, rfl, rfl⟩ := hgx
    have cx := (block_cells hblk).1 2
    simp only [List.getElem?_toArray, List.getElem?_cons_zero, List.getElem?_cons_succ] at cx
    have hsz1 := (Tr.pair t u).size_pos
    have hs1 : ((Tr.pair t u).size : Int) ≤ 4000001 := by have := h1.out; have := h2.out; simp only [Tr.size]; omega
    have hsd2 := HSD.out.kept hb2
    obtain ⟨k0, k1, kf, kr, krf⟩ := hsd2.cells
    rw [h32] at k1
    have htest : 2000000 < ((Tr.pair t u).size : Int) := by have := HSZ.out; omega
    have HS2 := Lib.hid hsd2
    have hbe := hbd.trans (hb2.mono hbd.size)
    have HBE := Lib.hid hbe
    have hbT2 : BelK T gs gr w w2 := hbT.thenB hb2
    have HBT2 := Lib.hid hbT2
    generalize hPS : (Tr.pair t u).size = psz at *
    clear kr kf krf hsd2 keep2 kc e0 e1 e2 e3 d0 d1 hb2 hblk
    try clear fb fc
    go_wp2
    go_ret
    first
    | exact ⟨rfl, ⟨_, HS2.out⟩, HBT2.out, Kept.below HBE.out⟩
    | exact ⟨rfl, ⟨_, HS2.out.kept (Below.refl _ _).drew⟩, HBT2.out.drew, (Kept.below HBE.out).drew⟩

set_option maxRecDepth 20000 in
set_option maxHeartbeats 4000000 in
theorem rstep_jump_noK (w : World) (T gm gs gr cp : Nat) (l : List Ins) (s : St) (pv tv : Value) (ps : List Value) (hm : RMachP w T gm l pv tv) (hs : RStP w T gs s (.slice (some ⟨gr, 0, none⟩) s.regs.length cp) ps) (hgr : T ≤ gr) (hg : Good l.length s) (hn4 : l.length ≤ 4000) (ra : Nat) (ha : ra < 32) (t : Tr) (ht : s.regs[ra]? = some t) (htn : t = .nil) (b c : Int) (tree : ByteArray) (hb1 : -(s.pos : Int) ≤ b) (hb2 : b ≤ (l.length : Int) - s.pos)
    (hx : l[s.pos]? = some ⟨5, (ra : Nat), b, c, tree⟩) :
    Calls Try.prog 97 #[.pointer (some ⟨gm, 0, none⟩), .pointer (some ⟨gs, 0, none⟩)] w (RStepOkK w T gs gr ⟨s.pos + 1, s.regs⟩ (.slice (some ⟨gr, 0, none⟩) s.regs.length cp)) := by
  have hp : s.pos < l.length := (List.getElem?_eq_some_iff.1 hx).1
  obtain ⟨ao, cap, rfl⟩ := hm.prog.len
  have c0 := (block_cells hm.blk).1 0
  simp only [List.getElem?_toArray, List.getElem?_cons_zero] at c0
  have s0 := hs.cells.1
  have hl := hm.prog
  have hlt := hm.lt
  have hgl : gs < w.heap.size := (Array.getElem?_eq_some_iff.1 hs.blk).1
  have hgm : gm < w.heap.size := (Array.getElem?_eq_some_iff.1 hm.blk).1
  have hle := hs.le
  obtain ⟨n, hn'⟩ : ∃ n, l.length = n := ⟨_, rfl⟩
  rw [hn'] at hl c0 hp hn4
  obtain ⟨pg, off, rfl, hpg, p0, p1, p2, p3, p4⟩ := hl.get hx
  dsimp only at p0 p1 p2 p3 p4
  have h32 := hg.2.1
  have HX := Lib.hid hx
  have HN := Lib.hid hn'
  have hi0 : (0 : Int) ≤ (s.pos : Int) := Int.natCast_nonneg _
  have hi1 : (s.pos : Int) < (n : Int) := by omega
  obtain ⟨wd, hwd⟩ : ∃ wd, (w.alloc (.cells #[.int .i64 (5), .int .i64 (ra : Nat), .int .i64 (b), .int .i64 (c), .string tree] 41)).drew = wd := ⟨_, rfl⟩
  have hbd : Below w.heap.size w wd := by rw [← hwd]; exact ((Below.refl _ _).alloc (Nat.le_refl _) _).drew
  have hbox : wd.heap[w.heap.size]? = some (.cells #[.int .i64 (5), .int .i64 (ra : Nat), .int .i64 (b), .int .i64 (c), .string tree] 41 (0, 0)) := by rw [← hwd]; exact heap_alloc_new w _
  have keep : ∀ w', Below w.heap.size w w' → w'.cell? ⟨gm, 0, none⟩ = some (.slice (some ⟨pg, off, none⟩) n cap) ∧ w'.cell? ⟨gs, 0, none⟩ = some (.int .i64 s.pos) ∧ w'.cell? ⟨pg, off + s.pos * 5, none⟩ = some (.int .i64 (5)) ∧ w'.cell? ⟨pg, off + s.pos * 5 + 1, none⟩ = some (.int .i64 (ra : Nat)) ∧
      w'.cell? ⟨pg, off + s.pos * 5 + 2, none⟩ = some (.int .i64 (b)) ∧ w'.cell? ⟨pg, off + s.pos * 5 + 3, none⟩ = some (.int .i64 (c)) ∧ w'.cell? ⟨pg, off + s.pos * 5 + 4, none⟩ = some (.string tree) := fun w' hb => by
    refine ⟨(hb.cell (p := ⟨gm, 0, none⟩) hgm).trans c0, (hb.cell (p := ⟨gs, 0, none⟩) hgl).trans s0, (hb.cell (p := ⟨pg, off + s.pos * 5, none⟩) (by show pg < _; omega)).trans p0, (hb.cell (p := ⟨pg, off + s.pos * 5 + 1, none⟩) (by show pg < _; omega)).trans p1, (hb.cell (p := ⟨pg, off + s.pos * 5 + 2, none⟩) (by show pg < _; omega)).trans p2, (hb.cell (p := ⟨pg, off + s.pos * 5 + 3, none⟩) (by show pg < _; omega)).trans p3, (hb.cell (p := ⟨pg, off + s.pos * 5 + 4, none⟩) (by show pg < _; omega)).trans p4⟩
  have hsd := hs.kept hbd
  obtain ⟨d0, d1, df, dr, drf⟩ := hsd.cells
  have kkd := Kept.below hbd (T := 58)
  have e0 := (block_cells hbox).1 0
  have e1 := (block_cells hbox).1 1
  have e2 := (block_cells hbox).1 2
  have e3 := (block_cells hbox).1 3
  simp only [List.getElem?_toArray, List.getElem?_cons_zero, List.getElem?_cons_succ] at e0 e1 e2 e3
  have hbl : w.heap.size < wd.heap.size := (Array.getElem?_eq_some_iff.1 hbox).1
  have hbT : BelK T gs gr w wd := .of hbd (by omega)
  have HSD := Lib.hid hsd
  have hap1 : ¬ gs = gr := hsd.apart
  have hap2 : ¬ gr = gs := fun h => hap1 h.symm
  have hrl := hsd.rlt
  rw [h32] at d1
  clear hsd hbox
  obtain ⟨qa, fa, na⟩ := dr ra t ht
  rw [hn'] at hb2
  have ia0 : (0 : Int) ≤ (ra : Int) := Int.natCast_nonneg _
  have ia1 : (ra : Int) < 32 := by omega

  clear hm hs hg hl hx hn' hle hpg
  go_enter Try.func97, Try.ntmps97
  go_wp2
  go_region_held3 (fun w' => w'.cell? ⟨gm, 0, none⟩ = some (.slice (some ⟨pg, off, none⟩) n cap) ∧ w'.cell? ⟨gs, 0, none⟩ = some (.int .i64 s.pos) ∧ w'.cell? ⟨pg, off + s.pos * 5, none⟩ = some (.int .i64 (5)) ∧ w'.cell? ⟨pg, off + s.pos * 5 + 1, none⟩ = some (.int .i64 (ra : Nat)) ∧
      w'.cell? ⟨pg, off + s.pos * 5 + 2, none⟩ = some (.int .i64 (b)) ∧ w'.cell? ⟨pg, off + s.pos * 5 + 3, none⟩ = some (.int .i64 (c)) ∧ w'.cell? ⟨pg, off + s.pos * 5 + 4, none⟩ = some (.string tree))
    (exact keep _ (by first | exact hbd | exact (Below.refl _ _).drew | exact ((Below.refl _ _).drew).alloc (Nat.le_refl _) _))
    (fail)
  try rw [hwd]
  clear keep hwd p0 p1 p2 p3 p4 c0 s0
  subst htn
  have hq : qa = none := by have : Value.pointer qa = .pointer none := na; simpa using this
  subst hq
  have df0 := df 0
  clear dr df drf na ht
  have hnI : (n : Int) ≤ 4000 := by omega
  go_wp2
  go_quiet (fail)
  go_wp2
  go_ret
  refine RStepOkK.mk' rfl ?_
  have hq1 := below_drewN (Below.refl wd.heap.size wd) nq
  first
  | exact rstep_jfinK (HSD.out.kept hq1) (hbT.thenB hq1) (kkd.trans (Kept.below hq1)) _ _ (by omega)
  | exact rstep_fin_drewK (rstep_jfinK (HSD.out.kept hq1) (hbT.thenB hq1) (kkd.trans (Kept.below hq1)) _ _ (by omega))

set_option maxRecDepth 20000 in
set_option maxHeartbeats 4000000 in
theorem rstep_jump_goK (w : World) (T gm gs gr cp : Nat) (l : List Ins) (s : St) (pv tv : Value) (ps : List Value) (hm : RMachP w T gm l pv tv) (hs : RStP w T gs s (.slice (some ⟨gr, 0, none⟩) s.regs.length cp) ps) (hgr : T ≤ gr) (hg : Good l.length s) (hn4 : l.length ≤ 4000) (ra : Nat) (ha : ra < 32) (t : Tr) (ht : s.regs[ra]? = some t) (htn : t ≠ .nil) (b c : Int) (tree : ByteArray) (hb1 : -(s.pos : Int) ≤ b) (hb2 : b ≤ (l.length : Int) - s.pos)
    (hx : l[s.pos]? = some ⟨5, (ra : Nat), b, c, tree⟩) :
    Calls Try.prog 97 #[.pointer (some ⟨gm, 0, none⟩), .pointer (some ⟨gs, 0, none⟩)] w (RStepOkK w T gs gr ⟨((s.pos : Int) + b).toNat, s.regs⟩ (.slice (some ⟨gr, 0, none⟩) s.regs.length cp)) := by
  have hp : s.pos < l.length := (List.getElem?_eq_some_iff.1 hx).1
  obtain ⟨ao, cap, rfl⟩ := hm.prog.len
  have c0 := (block_cells hm.blk).1 0
  simp only [List.getElem?_toArray, List.getElem?_cons_zero] at c0
  have s0 := hs.cells.1
  have hl := hm.prog
  have hlt := hm.lt
  have hgl : gs < w.heap.size := (Array.getElem?_eq_some_iff.1 hs.blk).1
  have hgm : gm < w.heap.size := (Array.getElem?_eq_some_iff.1 hm.blk).1
  have hle := hs.le
  obtain ⟨n, hn'⟩ : ∃ n, l.length = n := ⟨_, rfl⟩
  rw [hn'] at hl c0 hp hn4
  obtain ⟨pg, off, rfl, hpg, p0, p1, p2, p3, p4⟩ := hl.get hx
  dsimp only at p0 p1 p2 p3 p4
  have h32 := hg.2.1
  have HX := Lib.hid hx
  have HN := Lib.hid hn'
  have hi0 : (0 : Int) ≤ (s.pos : Int) := Int.natCast_nonneg _
  have hi1 : (s.pos : Int) < (n : Int) := by omega
  obtain ⟨wd, hwd⟩ : ∃ wd, (w.alloc (.cells #[.int .i64 (5), .int .i64 (ra : Nat), .int .i64 (b), .int .i64 (c), .string tree] 41)).drew = wd := ⟨_, rfl⟩
  have hbd : Below w.heap.size w wd := by rw [← hwd]; exact ((Below.refl _ _).alloc (Nat.le_refl _) _).drew
  have hbox : wd.heap[w.heap.size]? = some (.cells #[.int .i64 (5), .int .i64 (ra : Nat), .int .i64 (b), .int .i64 (c), .string tree] 41 (0, 0)) := by rw [← hwd]; exact heap_alloc_new w _
  have keep : ∀ w', Below w.heap.size w w' → w'.cell? ⟨gm, 0, none⟩ = some (.slice (some ⟨pg, off, none⟩) n cap) ∧ w'.cell? ⟨gs, 0, none⟩ = some (.int .i64 s.pos) ∧ w'.cell? ⟨pg, off + s.pos * 5, none⟩ = some (.int .i64 (5)) ∧ w'.cell? ⟨pg, off + s.pos * 5 + 1, none⟩ = some (.int .i64 (ra : Nat)) ∧
      w'.cell? ⟨pg, off + s.pos * 5 + 2, none⟩ = some (.int .i64 (b)) ∧ w'.cell? ⟨pg, off + s.pos * 5 + 3, none⟩ = some (.int .i64 (c)) ∧ w'.cell? ⟨pg, off + s.pos * 5 + 4, none⟩ = some (.string tree) := fun w' hb => by
    refine ⟨(hb.cell (p := ⟨gm, 0, none⟩) hgm).trans c0, (hb.cell (p := ⟨gs, 0, none⟩) hgl).trans s0, (hb.cell (p := ⟨pg, off + s.pos * 5, none⟩) (by show pg < _; omega)).trans p0, (hb.cell (p := ⟨pg, off + s.pos * 5 + 1, none⟩) (by show pg < _; omega)).trans p1, (hb.cell (p := ⟨pg, off + s.pos * 5 + 2, none⟩) (by show pg < _; omega)).trans p2, (hb.cell (p := ⟨pg, off + s.pos * 5 + 3, none⟩) (by show pg < _; omega)).trans p3, (hb.cell (p := ⟨pg, off + s.pos * 5 + 4, none⟩) (by show pg < _; omega)).trans p4⟩
  have hsd := hs.kept hbd
  obtain ⟨d0, d1, df, dr, drf⟩ := hsd.cells
  have kkd := Kept.below hbd (T := 58)
  have e0 := (block_cells hbox).1 0
  have e1 := (block_cells hbox).1 1
  have e2 := (block_cells hbox).1 2
  have e3 := (block_cells hbox).1 3
  simp only [List.getElem?_toArray, List.getElem?_cons_zero, List.getElem?_cons_succ] at e0 e1 e2 e3
  have hbl : w.heap.size < wd.heap.size := (Array.getElem?_eq_some_iff.1 hbox).1
  have hbT : BelK T gs gr w wd := .of hbd (by omega)
  have HSD := Lib.hid hsd
  have hap1 : ¬ gs = gr := hsd.apart
  have hap2 : ¬ gr = gs := fun h => hap1 h.symm
  have hrl := hsd.rlt
  rw [h32] at d1
  clear hsd hbox
  obtain ⟨qa, fa, na⟩ := dr ra t ht
  rw [hn'] at hb2
  have ia0 : (0 : Int) ≤ (ra : Int) := Int.natCast_nonneg _
  have ia1 : (ra : Int) < 32 := by omega

  clear hm hs hg hl hx hn' hle hpg
  go_enter Try.func97, Try.ntmps97
  go_wp2
  go_region_held3 (fun w' => w'.cell? ⟨gm, 0, none⟩ = some (.slice (some ⟨pg, off, none⟩) n cap) ∧ w'.cell? ⟨gs, 0, none⟩ = some (.int .i64 s.pos) ∧ w'.cell? ⟨pg, off + s.pos * 5, none⟩ = some (.int .i64 (5)) ∧ w'.cell? ⟨pg, off + s.pos * 5 + 1, none⟩ = some (.int .i64 (ra : Nat)) ∧
      w'.cell? ⟨pg, off + s.pos * 5 + 2, none⟩ = some (.int .i64 (b)) ∧ w'.cell? ⟨pg, off + s.pos * 5 + 3, none⟩ = some (.int .i64 (c)) ∧ w'.cell? ⟨pg, off + s.pos * 5 + 4, none⟩ = some (.string tree))
    (exact keep _ (by first | exact hbd | exact (Below.refl _ _).drew | exact ((Below.refl _ _).drew).alloc (Nat.le_refl _) _))
    (fail)
  try rw [hwd]
  clear keep hwd p0 p1 p2 p3 p4 c0 s0
  obtain ⟨qg, hq⟩ : ∃ qg, qa = some ⟨qg, 0, none⟩ := by
    cases t with
    | nil => exact absurd rfl htn
    | pair a1 a2 => obtain ⟨g1, x1, y1, hv1, _⟩ := na; simp only [Value.pointer.injEq] at hv1; exact ⟨g1, hv1⟩
  subst hq
  have hpb : (s.pos : Int) + b = (((s.pos : Int) + b).toNat : Int) := by omega
  have hpb2 : (0 : Int) ≤ (s.pos : Int) + b := by omega
  have hpb3 : (s.pos : Int) + b ≤ n := by omega
  have HPB := Lib.hid hpb
  clear hpb
  have df0 := df 0
  clear dr df drf na ht
  have hnI : (n : Int) ≤ 4000 := by omega
  go_wp2
  go_quiet (fail)
  go_wp2
  go_region
  go_wp2
  go_ret
  refine RStepOkK.mk' rfl ?_
  have hq1 := below_drewN (Below.refl wd.heap.size wd) nq
  first
  | exact rstep_jfinK (HSD.out.kept hq1) (hbT.thenB hq1) (kkd.trans (Kept.below hq1)) _ _ HPB.out
  | exact rstep_fin_drewK (rstep_jfinK (HSD.out.kept hq1) (hbT.thenB hq1) (kkd.trans (Kept.below hq1)) _ _ HPB.out)

end Go.Proofs.Ytlaeljkjdfffjaa

namespace Go.Proofs.Ytlaeljkjdfffjaa
open Go.RowKit

/-- What a step of the reference leaves. -/
def RStepOutK (w : World) (T gs gr : Nat) (l : List Ins) (s : St) (rv : Value) (e : Ending) (w' : World) : Prop :=
  match stepP l s with
  | some s' => RStepOkK w T gs gr s' rv e w'
  | none => e = .returned (.bool false) ∧ (∃ ps', RStP w' T gs s rv ps') ∧ BelK T gs gr w w' ∧ Kept 58 w w'

theorem refstep_anyK (w : World) (T gm gs gr cp : Nat) (l : List Ins) (s : St) (pv tv : Value) (ps : List Value) (hm : RMachP w T gm l pv tv) (hs : RStP w T gs s (.slice (some ⟨gr, 0, none⟩) s.regs.length cp) ps) (hgr : T ≤ gr) (hg : Good l.length s) (hn4 : l.length ≤ 4000) (hv : rightAll l = true) (hp : s.pos < l.length) :
    Calls Try.prog 97 #[.pointer (some ⟨gm, 0, none⟩), .pointer (some ⟨gs, 0, none⟩)] w (RStepOutK w T gs gr l s (.slice (some ⟨gr, 0, none⟩) s.regs.length cp)) := by
  obtain ⟨x, hx⟩ : ∃ x, l[s.pos]? = some x := ⟨_, List.getElem?_eq_getElem hp⟩
  have hr := rightAll_get hv hx
  unfold RStepOutK stepP
  rw [hx]
  dsimp only
  obtain ⟨op, a, b, c, tree⟩ := x
  unfold rightB at hr
  simp only [Bool.and_eq_true] at hr
  obtain ⟨⟨⟨ha, h1⟩, h2⟩, h3⟩ := hr
  obtain ⟨ra, rfl, hra⟩ := regB_nat ha
  have gt : ∀ r : Nat, r < 32 → ∃ t, s.regs[r]? = some t := fun r h => ⟨_, List.getElem?_eq_getElem (by rw [hg.2.1]; exact h)⟩
  obtain ⟨ta, hta⟩ := gt ra hra
  unfold stepX
  dsimp only
  by_cases o0 : op = 0
  · subst o0
    simp only [if_true, setR, Int.toNat_natCast]
    exact rstep_setK w T gm gs gr cp l s pv tv ps hm hs hgr hg hn4 ra hra b c tree hx
  · rw [if_neg o0] at h3 ⊢
    by_cases o1 : op = 1
    · subst o1
      rw [if_pos (.inl rfl)] at h3
      obtain ⟨rb, rfl, hrb⟩ := regB_nat h3
      obtain ⟨t, ht⟩ := gt rb hrb
      simp only [if_true, setR, Int.toNat_natCast, getR_nat ht]
      exact rstep_moveK w T gm gs gr cp l s pv tv ps hm hs hgr hg hn4 ra hra rb hrb t ht c tree hx
    · rw [if_neg o1]
      by_cases o2 : op = 2
      · subst o2
        rw [if_neg (by omega), if_pos rfl] at h3
        simp only [Bool.and_eq_true] at h3
        obtain ⟨rb, rfl, hrb⟩ := regB_nat h3.1
        obtain ⟨rc, rfl, hrc⟩ := regB_nat h3.2
        obtain ⟨t, ht⟩ := gt rb hrb
        obtain ⟨u, hu⟩ := gt rc hrc
        simp only [if_true, setR, Int.toNat_natCast, getR_nat ht, getR_nat hu]
        by_cases hsz : (Tr.pair t u).size ≤ 2000000
        · rw [if_pos hsz]
          exact rstep_cons_okK w T gm gs gr cp l s pv tv ps hm hs hgr hg hn4 ra hra rb hrb rc hrc t ht u hu tree hsz hx
        · rw [if_neg hsz]
          exact rstep_cons_bigK w T gm gs gr cp l s pv tv ps hm hs hgr hg hn4 ra hra rb hrb rc hrc t ht u hu tree (by omega) hx
      · rw [if_neg o2]
        by_cases o3 : op = 3
        · subst o3
          rw [if_pos (.inr (.inl rfl))] at h3
          obtain ⟨rb, rfl, hrb⟩ := regB_nat h3
          obtain ⟨t, ht⟩ := gt rb hrb
          simp only [if_true, setR, Int.toNat_natCast, getR_nat ht]
          exact rstep_headK w T gm gs gr cp l s pv tv ps hm hs hgr hg hn4 ra hra rb hrb t ht c tree hx
        · rw [if_neg o3]
          by_cases o4 : op = 4
          · subst o4
            rw [if_pos (.inr (.inr rfl))] at h3
            obtain ⟨rb, rfl, hrb⟩ := regB_nat h3
            obtain ⟨t, ht⟩ := gt rb hrb
            simp only [if_true, setR, Int.toNat_natCast, getR_nat ht]
            exact rstep_tailK w T gm gs gr cp l s pv tv ps hm hs hgr hg hn4 ra hra rb hrb t ht c tree hx
          · rw [if_neg o4]
            rw [if_neg (by omega), if_neg o2] at h3
            by_cases o5 : op = 5
            · subst o5
              rw [if_pos rfl] at h3
              simp only [Bool.and_eq_true, decide_eq_true_eq] at h3
              rw [getR_nat hta]
              by_cases hn : ta = .nil
              · rw [if_pos hn]
                exact rstep_jump_noK w T gm gs gr cp l s pv tv ps hm hs hgr hg hn4 ra hra ta hta hn b c tree h3.1 h3.2 hx
              · rw [if_neg hn]
                exact rstep_jump_goK w T gm gs gr cp l s pv tv ps hm hs hgr hg hn4 ra hra ta hta hn b c tree h3.1 h3.2 hx
            · rw [if_neg o5] at h3; cases h3

end Go.Proofs.Ytlaeljkjdfffjaa

namespace Go.Proofs.Ytlaeljkjdfffjaa
open Go.RowKit

theorem regs_ext {a b : List Tr} (h1 : a.length = 32) (h2 : b.length = 32) (h : ∀ j, j < 32 → a[j]? = b[j]?) : a = b := by
  apply List.ext_getElem?
  intro j
  by_cases hj : j < 32
  · exact h j hj
  · rw [List.getElem?_eq_none (by omega), List.getElem?_eq_none (by omega)]
set_option maxRecDepth 20000 in
set_option maxHeartbeats 4000000 in
theorem again_pos {w : World} {go gs : Nat} {v1 v2 : Value} {p1 p2 : Int} (h1 : w.heap[go]? = some (.cells #[.int .i64 p1, v1] 114 (0, 0))) (h2 : w.heap[gs]? = some (.cells #[.int .i64 p2, v2] 114 (0, 0))) (hne : p1 ≠ p2) :
    Calls Try.prog 99 #[.pointer (some ⟨go, 0, none⟩), .pointer (some ⟨gs, 0, none⟩)] w fun e w' => e = .returned (.bool false) ∧ Below w.heap.size w w' := by
  have c0 : w.cell? ⟨go, 0, none⟩ = some (.int .i64 p1) := (block_cells h1).1 0
  have d0 : w.cell? ⟨gs, 0, none⟩ = some (.int .i64 p2) := (block_cells h2).1 0
  clear h1 h2
  go_enter Try.func99, Try.ntmps99
  go_wp2_with fail
  go_quiet (fail)
  all_goals (
    go_wp2
    go_ret
    exact ⟨rfl, below_drewN (Below.refl _ _) _⟩)
set_option maxRecDepth 20000 in
set_option maxHeartbeats 8000000 in
theorem again_any {w : World} {T1 T2 go gs gr1 gr2 cp1 cp2 : Nat} {so s : St} {ps1 ps2 : List Value} (hh1 : RStP w T1 go so (.slice (some ⟨gr1, 0, none⟩) 32 cp1) ps1) (hh2 : RStP w T2 gs s (.slice (some ⟨gr2, 0, none⟩) 32 cp2) ps2) (l1 : so.regs.length = 32) (l2 : s.regs.length = 32) (z1 : ∀ t ∈ s.regs, t.size ≤ 2000000) (hp : so.pos = s.pos) :
    Calls Try.prog 99 #[.pointer (some ⟨go, 0, none⟩), .pointer (some ⟨gs, 0, none⟩)] w fun e w' => ∃ b, e = .returned (.bool b) ∧ (b = true → so.regs = s.regs) ∧ Below w.heap.size w w' := by
  have h1 := Lib.hid hh1
  have h2 := Lib.hid hh2
  have L1 := Lib.hid l1
  have L2 := Lib.hid l2
  have Z1 := Lib.hid z1
  have hc1 := RStP.cells (by rw [l1]; exact hh1)
  have hc2 := RStP.cells (by rw [l2]; exact hh2)
  rw [l1] at hc1
  rw [l2] at hc2
  obtain ⟨a0, a1, -, a2, -⟩ := hc1
  obtain ⟨b0, b1, -, b2, -⟩ := hc2
  have hlt1 : go < w.heap.size := (Array.getElem?_eq_some_iff.1 hh1.blk).1
  have hlt2 : gs < w.heap.size := (Array.getElem?_eq_some_iff.1 hh2.blk).1
  have hr1 : gr1 < w.heap.size := RStP.rlt (by rw [l1]; exact hh1)
  have hr2 : gr2 < w.heap.size := RStP.rlt (by rw [l2]; exact hh2)
  have KC := Lib.hid (fun (w' : World) (hb : Below w.heap.size w w') => (show w'.cell? ⟨go, 1, none⟩ = some (.slice (some ⟨gr1, 0, none⟩) 32 cp1) ∧ w'.cell? ⟨gs, 1, none⟩ = some (.slice (some ⟨gr2, 0, none⟩) 32 cp2) from ⟨(hb.cell (p := ⟨go, 1, none⟩) hlt1).trans a1, (hb.cell (p := ⟨gs, 1, none⟩) hlt2).trans b1⟩))
  have KR := Lib.hid (fun (m : Nat) (u v : Tr) (hu : so.regs[m]? = some u) (hv : s.regs[m]? = some v) => (show ∃ q1 q2, (∀ w', Below w.heap.size w w' → w'.cell? ⟨gr1, m, none⟩ = some (.pointer q1) ∧ w'.cell? ⟨gr2, m, none⟩ = some (.pointer q2) ∧ NodeP 58 w' u (.pointer q1) ∧ NodeP 58 w' v (.pointer q2)) from by
    obtain ⟨q1, e1, e2⟩ := a2 m u hu
    obtain ⟨q2, e3, e4⟩ := b2 m v hv
    exact ⟨q1, q2, fun w' hb => ⟨(hb.cell (p := ⟨gr1, m, none⟩) hr1).trans e1, (hb.cell (p := ⟨gr2, m, none⟩) hr2).trans e3, e2.kept (Kept.below hb), e4.kept (Kept.below hb)⟩⟩))
  rw [hp] at a0
  clear hh1 hh2 l1 l2 z1 a1 b1 a2 b2 hlt1 hlt2 hr1 hr2 h1 h2
  go_enter Try.func99, Try.ntmps99
  go_wp2_with fail
  go_quiet (fail)
  all_goals (
    have hb0 := Lib.hid (below_drewN (Below.refl w.heap.size w) nq)
    clear a0 b0
    go_wp2
    go_loopg [5] 32 (fun gg i wr => ∃ m : Nat, m ≤ 32 ∧ gg = 32 - m ∧ i = .int .i64 m ∧ Hid (∀ j, j < m → so.regs[j]? = s.regs[j]?) ∧ Hid (Below w.heap.size w wr))
    case atStart => exact ⟨0, by omega, rfl, rfl, Lib.hid (fun j hj => by omega), hb0⟩
    case round =>
      obtain ⟨m, hm, hgg, rfl, hall, hb⟩ := hrel
      have HGG := Lib.hid hgg
      clear hgg hb0
      obtain ⟨k1, k2⟩ := KC.out wr hb.out
      by_cases hlt : m < 32
      · obtain ⟨u, hu⟩ : ∃ u, so.regs[m]? = some u := ⟨_, List.getElem?_eq_getElem (by rw [L1.out]; exact hlt)⟩
        obtain ⟨v, hv⟩ : ∃ u, s.regs[m]? = some u := ⟨_, List.getElem?_eq_getElem (by rw [L2.out]; exact hlt)⟩
        have hzv := Z1.out v (List.mem_of_getElem? hv)
        obtain ⟨q1, q2, hq⟩ := KR.out m u v hu hv
        have KQ := Lib.hid (fun (w' : World) (hb' : Below wr.heap.size wr w') => hq w' (hb.out.trans (hb'.mono hb.out.size)))
        have KS := Lib.hid (fun (w' : World) (hb' : Below wr.heap.size wr w') => KC.out w' (hb.out.trans (hb'.mono hb.out.size)))
        obtain ⟨be, hbe⟩ : ∃ be, decide (u = v) = be := ⟨_, rfl⟩
        have KE := Lib.hid (fun (w' : World) (hb' : Below wr.heap.size wr w') => (equal_b be (KQ.out w' hb').2.2.1 (KQ.out w' hb').2.2.2 (by omega) hbe).mono (fun e w'' h => (show e = .returned (.bool be) ∧ Hid (Below wr.heap.size wr w'') from ⟨h.1, Lib.hid (hb'.trans (h.2.mono hb'.size))⟩)))
        have HU := Lib.hid (And.intro hu hv)
        have HBE := Lib.hid hbe
        have hm0 : (0 : Int) ≤ (m : Int) := Int.natCast_nonneg _
        have hm1 : (m : Int) < (32 : Int) := by omega
        obtain ⟨n1, n2, -, -⟩ := KQ.out wr (Below.refl _ _)
        clear hu hv hzv hq hbe
        go_wp2_with fail
        go_region_held3 (fun w' => w'.cell? ⟨go, 1, none⟩ = some (.slice (some ⟨gr1, 0, none⟩) 32 cp1) ∧ w'.cell? ⟨gs, 1, none⟩ = some (.slice (some ⟨gr2, 0, none⟩) 32 cp2) ∧ w'.cell? ⟨gr1, m, none⟩ = some (.pointer q1) ∧ w'.cell? ⟨gr2, m, none⟩ = some (.pointer q2))
          (with_reducible (first | exact ⟨(KS.out _ hB.out).1, (KS.out _ hB.out).2, (KQ.out _ hB.out).1, (KQ.out _ hB.out).2.1⟩ | exact ⟨(KS.out _ (Below.refl _ _)).1, (KS.out _ (Below.refl _ _)).2, (KQ.out _ (Below.refl _ _)).1, (KQ.out _ (Below.refl _ _)).2.1⟩ | exact ⟨(KS.out _ (Below.refl _ _).drew).1, (KS.out _ (Below.refl _ _).drew).2, (KQ.out _ (Below.refl _ _).drew).1, (KQ.out _ (Below.refl _ _).drew).2.1⟩ | fail "keep"))
          ((first | ((with_reducible refine (KE.out _ (by first | exact Below.refl _ _ | exact (Below.refl _ _).drew)).mono ?_); rintro e w1 ⟨rfl, hB⟩) | (fail "arm")))
        all_goals (
          cases be with
          | false =>
            go_wp2
            go_ret
            exact ⟨false, rfl, (fun h => by cases h), hb.out.trans (hB.out.mono hb.out.size)⟩
          | true =>
            go_wp2
            go_roundg (32 - (m + 1))
            case measure => rw [HGG.out]; omega
            case rel =>
              refine ⟨m + 1, by omega, rfl, by go_num, Lib.hid (fun j hj => ?_), Lib.hid (hb.out.trans (hB.out.mono hb.out.size))⟩
              by_cases e : j = m
              · subst e
                rw [HU.out.1, HU.out.2, of_decide_eq_true HBE.out]
              · exact hall.out j (by omega))
      · obtain rfl : m = 32 := by omega
        go_wp2
        go_ret
        exact ⟨true, rfl, fun _ => regs_ext L1.out L2.out hall.out, hb.out⟩)
end Go.Proofs.Ytlaeljkjdfffjaa

namespace Go.Proofs.Ytlaeljkjdfffjaa
open Go.RowKit

theorem refstep_someK {w : World} {T gm gs gr cp : Nat} {l : List Ins} {s s' : St} {pv tv : Value} {ps : List Value} (hm : RMachP w T gm l pv tv) (hs : RStP w T gs s (.slice (some ⟨gr, 0, none⟩) 32 cp) ps) (hgr : T ≤ gr) (hg : Good l.length s) (hn4 : l.length ≤ 4000) (hv : rightAll l = true) (hp : s.pos < l.length) (h : stepP l s = some s') :
    Calls Try.prog 97 #[.pointer (some ⟨gm, 0, none⟩), .pointer (some ⟨gs, 0, none⟩)] w fun e w' => e = .returned (.bool true) ∧ Hid ((∃ ps', RStP w' T gs s' (.slice (some ⟨gr, 0, none⟩) 32 cp) ps') ∧ BelK T gs gr w w' ∧ Kept 58 w w') := by
  have h32 := hg.2.1
  have := refstep_anyK w T gm gs gr cp l s pv tv ps hm (by rw [h32]; exact hs) hgr hg hn4 hv hp
  refine this.mono ?_
  intro e w' ho
  unfold RStepOutK at ho
  rw [h, h32] at ho
  obtain ⟨ps', h1, h2, h3, h4⟩ := ho
  exact ⟨h1, ⟨ps', h2⟩, h3, h4⟩
/-- An earlier state, kept. -/
def OldP (l : List Ins) (s0 : St) (B gs gr : Nat) (wr : World) (ob j : Nat) : Prop :=
  ob ≠ gs ∧ ob ≠ gr ∧ B ≤ ob ∧ ((∃ v, wr.heap[ob]? = some (.cells #[.int .i64 (-1), v] 114 (0, 0))) ∨ ∃ i r2 cp ps, i ≤ j ∧ r2 ≠ gs ∧ r2 ≠ gr ∧ RStP wr B ob (stN l s0 i) (.slice (some ⟨r2, 0, none⟩) 32 cp) ps)
theorem OldP.lift {l : List Ins} {s0 : St} {B gs gr : Nat} {w w' : World} {ob j j' : Nat} (h : OldP l s0 B gs gr w ob j) (hb : ∀ k, k < w.heap.size → k ≠ gs → k ≠ gr → w'.heap[k]? = w.heap[k]?) (hk : Kept 58 w w') (hj : j ≤ j') : OldP l s0 B gs gr w' ob j' := by
  obtain ⟨h1, h2, h3, h4⟩ := h
  refine ⟨h1, h2, h3, ?_⟩
  rcases h4 with ⟨v, h4⟩ | ⟨i, r2, cp, ps, h4, h5, h6, h7⟩
  · exact .inl ⟨v, (hb ob (Array.getElem?_eq_some_iff.1 h4).1 h1 h2).trans h4⟩
  · refine .inr ⟨i, r2, cp, ps, by omega, h5, h6, ⟨(hb ob (Array.getElem?_eq_some_iff.1 h7.blk).1 h1 h2).trans h7.blk, h7.le, h7.regs.kept hk, ⟨h7.own.1, ?_⟩⟩⟩
    rcases h7.own.2 with h8 | ⟨g, cap, cur, h8, h9, h10, h11⟩
    · exact .inl h8
    · refine .inr ⟨g, cap, cur, h8, h9, ?_, h11⟩
      simp only [Value.slice.injEq, Option.some.injEq, Addr.mk.injEq] at h8
      obtain ⟨⟨rfl, -, -⟩, -, -⟩ := h8
      exact (hb _ (Array.getElem?_eq_some_iff.1 h10).1 h5 h6).trans h10
theorem own_lower {w : World} {b b' e sz n : Nat} {v : Value} {xs : List Value} (h : w.ownsRow b e sz v n xs) (hb : b' ≤ b) : w.ownsRow b' e sz v n xs := by
  refine ⟨h.1, ?_⟩
  rcases h.2 with h1 | ⟨g, cap, cur, h1, h2, h3⟩
  · exact .inl h1
  · exact .inr ⟨g, cap, cur, h1, by omega, h3⟩
theorem own_src {w : World} {b e n gr cp : Nat} {xs : List Value} (h : w.ownsRow b e 1 (.slice (some ⟨gr, 0, none⟩) n cp) n xs) (_hn : 0 < n) : Src w (.slice (some ⟨gr, 0, none⟩) n cp) n 1 xs := by
  refine ⟨h.1, .inr ⟨⟨gr, 0, none⟩, cp, rfl, fun j u hu => ?_⟩⟩
  have hl := (List.getElem?_eq_some_iff.1 hu).1
  have := World.ownsRow.cellAt h j (by have := h.1; omega)
  rw [hu] at this
  rw [Addr.add_lit]
  simpa using this
/-- A state copied. -/
theorem old_new {l : List Ins} {s0 s : St} {B gs : Nat} {wc w4 : World} {a' : Option Addr} {c' j : Nat} {ps : List Value} (hj : stN l s0 j = s) (h32 : s.regs.length = 32) (hB : B < wc.heap.size) (hgs : gs < wc.heap.size) (hr : Nodes 58 wc s.regs ps)
    (hown : w4.ownsRow wc.heap.size 47 1 (.slice a' 32 c') 32 ps) (hb : Below wc.heap.size wc w4) : OldP l s0 B gs B (w4.alloc (.cells #[.int .i64 (s.pos : Nat), .slice a' 32 c'] 114)) w4.heap.size j ∧ Below wc.heap.size wc (w4.alloc (.cells #[.int .i64 (s.pos : Nat), .slice a' 32 c'] 114)) := by
  have hsz := hb.size
  have hq : Below w4.heap.size w4 (w4.alloc (.cells #[.int .i64 (s.pos : Nat), .slice a' 32 c'] 114)) := (Below.refl _ _).alloc (Nat.le_refl _) _
  have hbA := hb.trans (hq.mono hsz)
  refine ⟨⟨by omega, by omega, by omega, .inr ?_⟩, hbA⟩
  rcases hown.2 with ⟨_, h0⟩ | ⟨g, cap, cur, h1, h2, h3⟩
  · omega
  · simp only [Value.slice.injEq] at h1
    obtain ⟨rfl, -, rfl⟩ := h1
    refine ⟨j, g, c', ps, Nat.le_refl _, by omega, by omega, ⟨?_, by omega, ?_, ?_⟩⟩
    · rw [hj]
      exact heap_alloc_new _ _
    · rw [hj]
      exact hr.kept (Kept.below hbA)
    · rw [hj, h32]
      exact own_lower (own_below hown hq) (by omega)
theorem nodes_one {w : World} : ∀ {ts : List Tr} {vs : List Value}, Nodes 58 w ts vs → ∀ u ∈ vs, u.oneCell' = true
  | [], [], _, u, hu => by cases hu
  | t :: ts, v :: vs, h, u, hu => by
    obtain ⟨h1, h2⟩ := h
    rcases List.mem_cons.1 hu with rfl | hu
    · obtain ⟨q, rfl⟩ := h1.ptr
      rfl
    · exact nodes_one h2 u hu
  | t :: ts, [], h, _, _ => by cases h
  | [], v :: vs, h, _, _ => by cases h
/-- What Again says of an earlier state. -/
theorem again_at {l : List Ins} {t : Tr} {B T gs ob j : Nat} {wr : World} {s' : St} (h : OldP l (startS t) B gs B wr ob j) (hs : ∃ ps, RStP wr T gs s' (.slice (some ⟨B, 0, none⟩) 32 32) ps) (_hre : Reach l (startS t) (j + 1)) (hst : stN l (startS t) (j + 1) = s') (hg : Good l.length s') (hre0 : Reach l (startS t) j) (hv : rightAll l = true) (hG : Good l.length (startS t)) :
    Calls Try.prog 99 #[.pointer (some ⟨ob, 0, none⟩), .pointer (some ⟨gs, 0, none⟩)] wr fun e w' => ∃ b, e = .returned (.bool b) ∧ (b = true → ∃ i, i ≤ j ∧ stN l (startS t) i = stN l (startS t) (j + 1)) ∧ Below wr.heap.size wr w' := by
  obtain ⟨ps, hs⟩ := hs
  obtain ⟨h1, h2, h3, h4⟩ := h
  rcases h4 with ⟨v, h4⟩ | ⟨i, r2, cp, ps2, h4, h5, h6, h7⟩
  · refine (again_pos h4 hs.blk (by omega)).mono ?_
    rintro e w' ⟨rfl, hq⟩
    exact ⟨false, rfl, (fun h => by cases h), hq⟩
  · have hgi := (show Reach l (startS t) i from fun k hk => hre0 k (by omega)).good hv hG
    by_cases hp : (stN l (startS t) i).pos = s'.pos
    · refine (again_any h7 hs hgi.2.1 hg.2.1 hg.2.2 hp).mono ?_
      rintro e w' ⟨b, rfl, hb, hq⟩
      refine ⟨b, rfl, fun h => ⟨i, h4, ?_⟩, hq⟩
      rw [hst]
      have hr := hb h
      cases hS : stN l (startS t) i with
      | mk p1 r1 =>
        cases hS' : s' with
        | mk p2 r3 =>
          rw [hS, hS'] at hp hr
          simp only at hp hr
          rw [hp, hr]
    · refine (again_pos h7.blk hs.blk (by omega)).mono ?_
      rintro e w' ⟨rfl, hq⟩
      exact ⟨false, rfl, (fun h => by cases h), hq⟩
/-- What Loops hands back. -/
def LoopsOut (w : World) (l : List Ins) (t : Tr) (K : Nat) (e : Ending) (w' : World) : Prop :=
  ∃ b, e = .returned (.bool b) ∧ (b = true → ∃ i j, i < j ∧ j ≤ K ∧ Reach l (startS t) j ∧ stN l (startS t) i = stN l (startS t) j) ∧ Below w.heap.size w w'
set_option maxRecDepth 20000 in
set_option maxHeartbeats 8000000 in
theorem loops_any (w : World) (gm : Nat) (l : List Ins) (pv tv : Value) (t : Tr) (x : Value) (K : Nat) (hK : K ≤ 10000) (hm : RMachP w w.heap.size gm l pv tv) (hx : NodeP 58 w t x) (ht : t.size ≤ 2000000) (hv : rightAll l = true) (hn4 : l.length ≤ 4000) :
    Calls Try.prog 38 #[.pointer (some ⟨gm, 0, none⟩), x, .int .i64 K] w (LoopsOut w l t K) := by
  have kf := rfirst_any t x w hx
  have HG := Lib.hid (Good.start l.length t ht)
  have HV := Lib.hid hv
  have HN4 := Lib.hid hn4
  have HK := Lib.hid hK
  obtain ⟨q, rfl⟩ := hx.ptr
  have HM := Lib.hid hm
  clear hx hv hm ht hn4 hK
  go_enter Try.func38, Try.ntmps38
  go_wp2_with fail
  refine kf.mono ?_
  rintro e w1 ⟨gs, ps, rfl, hs, hb1⟩
  obtain ⟨B, hB⟩ : ∃ z, w.heap.size = z := ⟨_, rfl⟩
  have HA1 := Lib.hid (show RAt w gm gs l pv tv (startS t) (.slice (some ⟨B, 0, none⟩) 32 32) w1 from by rw [← hB]; exact ⟨HM.out.kept hb1 (Kept.below hb1), ⟨ps, hs⟩, hb1⟩)
  have HBB := Lib.hid hB
  clear kf hs hb1 hB
  have hlt1 : gs < w1.heap.size := by obtain ⟨ps1, h⟩ := HA1.out.s; exact (Array.getElem?_eq_some_iff.1 h.blk).1
  have hgr1 : B < w1.heap.size := by obtain ⟨ps1, h⟩ := HA1.out.s; exact RStP.rlt (s := startS t) h
  go_wp2_with fail
  obtain ⟨w2, hW⟩ : ∃ z, w1.alloc (.cells #[.int .i64 (-1), .slice none 0 0] 114) = z := ⟨_, rfl⟩
  rw [hW]
  have hq2 : Below w1.heap.size w1 w2 := by rw [← hW]; exact (Below.refl _ _).alloc (Nat.le_refl _) _
  have HO := Lib.hid (show OldP l (startS t) B gs B w2 w1.heap.size 0 from ⟨by omega, by omega, by omega, .inl ⟨_, by rw [← hW]; exact heap_alloc_new _ _⟩⟩)
  have HA := Lib.hid (HA1.out.below hq2)
  obtain ⟨ob0, hob⟩ : ∃ z, w1.heap.size = z := ⟨_, rfl⟩
  rw [hob] at HO ⊢
  clear hW hq2 HA1 hob hlt1 hgr1
  go_loopg [8, 9, 10, 11] K (fun gg o wt n k wr => ∃ j wN nN ob : Nat, j ≤ K ∧ gg = K - j ∧ o = .pointer (some ⟨ob, 0, none⟩) ∧ wt = .int .i64 wN ∧ n = .int .i64 nN ∧ k = .int .i64 j ∧ Hid (nN ≤ j ∧ wN ≤ 2 * j + 1) ∧ Hid (Reach l (startS t) j) ∧ Hid (RAt w gm gs l pv tv (stN l (startS t) j) (.slice (some ⟨B, 0, none⟩) 32 32) wr) ∧ Hid (OldP l (startS t) B gs B wr ob j))
  case atStart => exact ⟨0, 1, 0, ob0, by omega, rfl, rfl, rfl, rfl, rfl, Lib.hid (by omega), Reach.zero _ _, HA.out, HO.out⟩
  case round =>
    obtain ⟨j, wN, nN, ob, hj, hgg, rfl, rfl, rfl, rfl, HN, hre, hat, hold⟩ := hrel
    have HGG := Lib.hid hgg
    have HGJ := Lib.hid (hre.out.good HV.out HG.out)
    clear hgg HA HO
    obtain ⟨S, hS⟩ : ∃ S, stN l (startS t) j = S := ⟨_, rfl⟩
    rw [hS] at hat HGJ
    have HS := Lib.hid hS
    have h32 := HGJ.out.2.1
    have H32 := Lib.hid h32
    clear hS h32
    have hj1 : j ≤ 10000 := by have := HK.out; omega
    have hnn : nN ≤ 10000 ∧ wN ≤ 20001 := by have := HN.out; omega
    by_cases hlt : j < K
    · obtain ⟨be, hbe⟩ : ∃ be, ((S.pos : Int) == (l.length : Int)) = be := ⟨_, rfl⟩
      obtain ⟨ps1, hs1⟩ := hat.out.s
      have ke := rended_at be wr _ gm gs l _ pv tv _ _ ps1 hat.out.m hs1 hbe
      have HBE := Lib.hid hbe
      clear hbe hs1
      go_wp2_with fail
      refine ke.mono ?_
      rintro e w3 ⟨rfl, hb3⟩
      have HA2 := Lib.hid (hat.out.below hb3)
      have HO2 := Lib.hid (hold.out.lift (fun k hk _ _ => hb3.block k hk) (Kept.below hb3) (Nat.le_refl j))
      clear ke hb3 hat hold
      cases be with
      | true =>
        go_wp2
        go_ret
        exact ⟨false, rfl, (fun h => by cases h), HA2.out.b⟩
      | false =>
        have HPL := Lib.hid (show S.pos < l.length from by
          have h1 := HBE.out
          have h2 := HGJ.out.1
          have h3 : S.pos ≠ l.length := by
            intro h
            rw [h] at h1
            simp at h1
          omega)
        by_cases heq : nN = wN
        · subst heq
          obtain ⟨ps1, hs1⟩ := HA2.out.s
          have hcc := RStP.cells (by rw [H32.out]; exact hs1)
          rw [H32.out] at hcc
          obtain ⟨c0, c1, -, -, -⟩ := hcc
          have hlt1 : gs < w3.heap.size := (Array.getElem?_eq_some_iff.1 hs1.blk).1
          have hgr1 : B < w3.heap.size := RStP.rlt (by rw [H32.out]; exact hs1)
          obtain ⟨N, hN⟩ : ∃ N, S.regs.length = N := ⟨_, rfl⟩
          have hN32 : N = 32 := by rw [← hN]; exact H32.out
          have KEEP := Lib.hid (fun (w' : World) (hb : Below w3.heap.size w3 w') => (show w'.cell? ⟨gs, 0, none⟩ = some (.int .i64 S.pos) ∧ w'.cell? ⟨gs, 1, none⟩ = some (.slice (some ⟨B, 0, none⟩) N 32) from ⟨(hb.cell (p := ⟨gs, 0, none⟩) hlt1).trans c0, by rw [hN32]; exact (hb.cell (p := ⟨gs, 1, none⟩) hlt1).trans c1⟩))
          have HSRC := Lib.hid (fun (w' : World) (hb : Below w3.heap.size w3 w') => (show Src w' (.slice (some ⟨B, 0, none⟩) N 32) N 1 ps1 from by rw [hN32]; exact own_src (own_below (by have h := hs1.own; rw [H32.out] at h; exact h) hb) (by omega)))
          have HFIN := Lib.hid (fun (a' : Option Addr) (c' : Nat) (w4 : World) (hown : w4.ownsRow w3.heap.size 47 1 (.slice a' N c') N ps1) (hb : Below w3.heap.size w3 w4) => (show OldP l (startS t) B gs B (w4.alloc (.cells #[.int .i64 (S.pos : Nat), .slice a' N c'] 114)) w4.heap.size j ∧ Below w3.heap.size w3 (w4.alloc (.cells #[.int .i64 (S.pos : Nat), .slice a' N c'] 114)) from by
            subst hN32
            exact old_new (l := l) (s0 := startS t) (j := j) HS.out H32.out hgr1 hlt1 hs1.regs hown hb))
          have hNle : N ≤ 32 := by omega
          have HONE := Lib.hid (show ∀ u ∈ ps1, u.oneCell' = true from fun u hu => nodes_one hs1.regs u hu)
          clear hlt1 hgr1 hs1 hN hN32 c0 c1
          obtain ⟨d0, d1⟩ := KEEP.out w3 (Below.refl _ _)
          go_upto_region 4 with fail
          go_cut [8] from 30 to 41 (fun s8 wx => ∃ o2 : Nat, s8 = .pointer (some ⟨o2, 0, none⟩) ∧ Hid (OldP l (startS t) B gs B wx o2 j) ∧ Hid (Below w3.heap.size w3 wx))
          case first =>
            have hq := Lib.hid (show Below w3.heap.size w3 (w3.alloc (.cells #[] 47)) from (Below.refl _ _).alloc (Nat.le_refl _) _)
            obtain ⟨g0, g1⟩ := KEEP.out _ hq.out
            go_region_law ((refine step_src el_rnode (by rfl) _ _ (by rfl) (by rfl) (by first | exact own_empty _ _ _ | exact own_below (own_empty w3 47 1) (Below.refl _ _).drew) (by rfl) (HSRC.out _ (by first | exact hq.out | exact hq.out.drew | exact (Below.refl _ _).drew.alloc (Nat.le_refl _) _)) HONE.out (by omega) (by unfold maxLen; omega) (by first | exact Nat.le_refl _ | (simp; done) | (simp; omega)) (B := w3.heap.size) (w0 := w3) (by first | exact hq.out | exact hq.out.drew | exact (Below.refl _ _).drew.alloc (Nat.le_refl _) _) (by first | exact Nat.le_refl _ | (simp; done) | (simp; omega)) ?_; intro a' c' w4 hown4 hb4 hg4; obtain ⟨k0, k1⟩ := KEEP.out _ hb4))
            all_goals (
              rw [Nat.zero_add, List.nil_append] at hown4
              obtain ⟨z1, z2⟩ := HFIN.out _ _ _ hown4 hb4
              try rw [Nat.zero_add]
              go_wp2
              go_meet
              first
              | exact ⟨_, rfl, Lib.hid z1, Lib.hid z2⟩
              | exact ⟨_, rfl, Lib.hid (z1.lift (fun k _ _ _ => rfl) (Kept.below (Below.refl _ _).drew) (Nat.le_refl j)), Lib.hid z2.drew⟩)
          case rest =>
          obtain ⟨o2, rfl, ho2, hb2⟩ := hcut
          clear HFIN HSRC KEEP HONE d0 d1
          rename World => w4
          replace HA2 := Lib.hid (HA2.out.below hb2.out)
          clear HO2 hb2
          have HO2 := ho2
          clear ho2
          have hPL := HPL.out
          obtain ⟨ps2, hs2⟩ := HA2.out.s
          cases hst : stepP l S with
          | none =>
            have ks := refstep_none HA2.out.m hs2 (by rw [HBB.out]; exact Nat.le_refl _) HGJ.out HN4.out HV.out hPL hst
            clear hs2 hst
            go_wp2_with fail
            refine ks.mono ?_
            rintro e w5 ⟨rfl, hE⟩
            have HB3 := Lib.hid (HA2.out.b.trans hE.out.2.1)
            clear ks hE
            go_wp2
            go_ret
            exact ⟨false, rfl, (fun h => by cases h), HB3.out⟩
          | some s' =>
            have ks := refstep_someK HA2.out.m hs2 (by rw [HBB.out]; exact Nat.le_refl _) HGJ.out HN4.out HV.out hPL hst
            have HRE := Lib.hid (hre.out.succ (by rw [HS.out]; omega) (by rw [HS.out]; exact hst))
            have HST := Lib.hid (show stN l (startS t) (j + 1) = s' from stN_succ (by rw [HS.out]; exact hst))
            have HG2 := Lib.hid (HRE.out.good HV.out HG.out)
            rw [HST.out] at HG2
            clear hs2 hst hPL
            go_wp2_with fail
            refine ks.mono ?_
            rintro e w5 ⟨rfl, hE⟩
            have HA3 := Lib.hid (show RAt w gm gs l pv tv s' (.slice (some ⟨B, 0, none⟩) 32 32) w5 from ⟨HA2.out.m.kept hE.out.2.1.b hE.out.2.2, hE.out.1, HA2.out.b.trans hE.out.2.1.b⟩)
            have HO3 := Lib.hid (HO2.out.lift hE.out.2.1.o hE.out.2.2 (Nat.le_refl j))
            clear ks hE HA2 HO2
            have kag := again_at HO3.out HA3.out.s HRE.out HST.out HG2.out (hre.out) HV.out HG.out
            go_wp2_with fail
            refine kag.mono ?_
            rintro e w6 ⟨b, rfl, hb6, hq6⟩
            clear kag
            have HA4 := Lib.hid (HA3.out.below hq6)
            have HO4 := Lib.hid (HO3.out.lift (fun k hk _ _ => hq6.block k hk) (Kept.below hq6) (show j ≤ j + 1 by omega))
            clear hq6 HA3 HO3
            cases b with
            | true =>
              have HB6 := Lib.hid (hb6 rfl)
              clear hb6
              go_wp2
              go_ret
              obtain ⟨i, hi, he⟩ := HB6.out
              exact ⟨true, rfl, (fun _ => ⟨i, j + 1, by omega, by omega, HRE.out, he⟩), HA4.out.b⟩
            | false =>
              clear hb6
              go_wp2
              go_roundg (K - (j + 1))
              case measure => rw [HGG.out]; omega
              case rel => exact ⟨j + 1, 2 * nN, 1, o2, by omega, rfl, rfl, by go_num, by go_num, by go_num, Lib.hid (by have := HN.out; omega), HRE, by rw [HST.out]; exact HA4, HO4⟩
        · have hne : ¬ ((nN : Int) = (wN : Int)) := by omega
          have hPL := HPL.out
          obtain ⟨ps2, hs2⟩ := HA2.out.s
          cases hst : stepP l S with
          | none =>
            have ks := refstep_none HA2.out.m hs2 (by rw [HBB.out]; exact Nat.le_refl _) HGJ.out HN4.out HV.out hPL hst
            clear hs2 hst
            go_wp2_with fail
            refine ks.mono ?_
            rintro e w5 ⟨rfl, hE⟩
            have HB3 := Lib.hid (HA2.out.b.trans hE.out.2.1)
            clear ks hE
            go_wp2
            go_ret
            exact ⟨false, rfl, (fun h => by cases h), HB3.out⟩
          | some s' =>
            have ks := refstep_someK HA2.out.m hs2 (by rw [HBB.out]; exact Nat.le_refl _) HGJ.out HN4.out HV.out hPL hst
            have HRE := Lib.hid (hre.out.succ (by rw [HS.out]; omega) (by rw [HS.out]; exact hst))
            have HST := Lib.hid (show stN l (startS t) (j + 1) = s' from stN_succ (by rw [HS.out]; exact hst))
            have HG2 := Lib.hid (HRE.out.good HV.out HG.out)
            rw [HST.out] at HG2
            clear hs2 hst hPL
            go_wp2_with fail
            refine ks.mono ?_
            rintro e w5 ⟨rfl, hE⟩
            have HA3 := Lib.hid (show RAt w gm gs l pv tv s' (.slice (some ⟨B, 0, none⟩) 32 32) w5 from ⟨HA2.out.m.kept hE.out.2.1.b hE.out.2.2, hE.out.1, HA2.out.b.trans hE.out.2.1.b⟩)
            have HO3 := Lib.hid (HO2.out.lift hE.out.2.1.o hE.out.2.2 (Nat.le_refl j))
            clear ks hE HA2 HO2
            have kag := again_at HO3.out HA3.out.s HRE.out HST.out HG2.out (hre.out) HV.out HG.out
            go_wp2_with fail
            refine kag.mono ?_
            rintro e w6 ⟨b, rfl, hb6, hq6⟩
            clear kag
            have HA4 := Lib.hid (HA3.out.below hq6)
            have HO4 := Lib.hid (HO3.out.lift (fun k hk _ _ => hq6.block k hk) (Kept.below hq6) (show j ≤ j + 1 by omega))
            clear hq6 HA3 HO3
            cases b with
            | true =>
              have HB6 := Lib.hid (hb6 rfl)
              clear hb6
              go_wp2
              go_ret
              obtain ⟨i, hi, he⟩ := HB6.out
              exact ⟨true, rfl, (fun _ => ⟨i, j + 1, by omega, by omega, HRE.out, he⟩), HA4.out.b⟩
            | false =>
              clear hb6
              go_wp2
              go_roundg (K - (j + 1))
              case measure => rw [HGG.out]; omega
              case rel => exact ⟨j + 1, wN, nN + 1, ob, by omega, rfl, rfl, by go_num, by go_num, by go_num, Lib.hid (by have := HN.out; omega), HRE, by rw [HST.out]; exact HA4, HO4⟩
    · obtain rfl : j = K := by omega
      go_wp2
      go_ret
      exact ⟨false, rfl, (fun h => by cases h), hat.out.b⟩
end Go.Proofs.Ytlaeljkjdfffjaa

namespace Go.Proofs.Ytlaeljkjdfffjaa
open Go.RowKit

/-- A run that comes to a state again goes on for ever, through these states. -/
theorem again_on {l : List Ins} {s : St} {i j : Nat} (hij : i < j) (hr : Reach l s j) (he : stN l s i = stN l s j) : ∀ k, (∃ m, m < j ∧ stN l s k = stN l s m) ∧ (stN l s k).pos ≠ l.length ∧ stepP l (stN l s k) = some (stN l s (k + 1))
  | 0 => ⟨⟨0, by omega, rfl⟩, hr 0 (by omega)⟩
  | k + 1 => by
    obtain ⟨⟨m, h1, h2⟩, h3, h4⟩ := again_on hij hr he k
    obtain ⟨h5, h6⟩ := hr m h1
    rw [h2] at h4
    have h7 : stN l s (k + 1) = stN l s (m + 1) := by
      rw [h6] at h4
      injection h4 with h4
      exact h4.symm
    by_cases hm : m + 1 < j
    · obtain ⟨h8, h9⟩ := hr (m + 1) hm
      refine ⟨⟨m + 1, hm, h7⟩, by rw [h7]; exact h8, ?_⟩
      have h10 : stepP l (stN l s (k + 1)) = some (stN l s (m + 1 + 1)) := by rw [h7]; exact h9
      rw [stN_succ h10]
      exact h10
    · obtain rfl : m + 1 = j := by omega
      obtain ⟨h8, h9⟩ := hr i hij
      have h7' : stN l s (k + 1) = stN l s i := by rw [h7, he]
      refine ⟨⟨i, hij, h7'⟩, by rw [h7']; exact h8, ?_⟩
      have h10 : stepP l (stN l s (k + 1)) = some (stN l s (i + 1)) := by rw [h7']; exact h9
      rw [stN_succ h10]
      exact h10
theorem never_law {p : List Ins} (hv : rightAll p = true) (hp4 : p.length ≤ 4000) {t : Tr} {i j M : Nat} (hij : i < j) (hj : j ≤ 2000) (hr : Reach p (startS t) j) (he : stN p (startS t) i = stN p (startS t) j) (hM : ∀ k s', k ≤ 4000 → Runs p k (startS t) s' → sumS s'.regs ≤ M) (F : Nat) :
    (∃ u, goF univL F 0 (startS (.pair (codeT p) t)) = .fuel u F) ∨ (goF univL F 0 (startS (.pair (codeT p) t)) = .big ∧ (200000 < (Tr.pair (codeT p) t).size ∨ 200000 < M)) := by
  have hon := again_on hij hr he
  have hall : ∀ k, Reach p (startS t) k := fun k i _ => ⟨(hon i).2.1, (hon i).2.2⟩
  have hR := reach_runs (hall F)
  by_cases hsz : (Tr.pair (codeT p) t).size ≤ 200000 ∧ M ≤ 200000
  · left
    have ht : t.size ≤ 1000000 := by have := hsz.1; simp only [Tr.size] at this; omega
    refine univ_on hv (by omega) ht hR ?_
    intro k s' hk hrun
    rw [runs_stN hrun (hall k) (Nat.le_refl _)]
    obtain ⟨⟨m, h1, h2⟩, -⟩ := hon k
    rw [h2]
    have := hM m _ (by omega) (reach_runs (hall m))
    omega
  · rcases univX_on hv hR with h | h
    · exact .inl h
    · exact .inr ⟨h, by omega⟩

set_option maxRecDepth 20000 in
set_option maxHeartbeats 8000000 in
theorem un_a {w : World} (vp : Value) (p : List Ins) (hhp : InsRow w w.heap.size vp p) (x : ByteArray) (hxs : x.size ≤ 140737488355328) (HV : Hid (validB p = false)) (fuel : Int) : Calls Try.prog 6 #[vp, .string x, .int .i64 fuel] w fun e w' => e = .returned (.bool true) ∧ Below w.heap.size w w' := by
  obtain ⟨pa, pc, rfl⟩ := hhp.len
  obtain ⟨pn, hpn⟩ : ∃ z, p.length = z := ⟨_, rfl⟩
  rw [hpn] at hhp ⊢
  have hp := Lib.hid hhp
  have HPN := Lib.hid hpn
  have HXS := Lib.hid hxs
  clear hhp hpn hxs
  have ch := Lib.hid (Below.refl w.heap.size w)
  go_enter Try.func6, Try.ntmps6
  go_wp2_with fail
  refine (cvalid_at false HV.out hp.out).mono ?_
  rintro e w1 ⟨rfl, hq⟩
  replace hp := Lib.hid ((hp.out.below hq).mono hq.size)
  replace ch := Lib.hid (ch.out.trans (hq.mono ch.out.size))
  clear hq
  go_wp2_with fail
  refine (awake06 _).mono ?_
  rintro e w2 ⟨rfl, hq⟩
  replace hp := Lib.hid ((hp.out.below hq).mono hq.size)
  replace ch := Lib.hid (ch.out.trans (hq.mono ch.out.size))
  clear hq
  go_wp2
  go_ret
  exact ⟨rfl, ch.out⟩

set_option maxRecDepth 20000 in
set_option maxHeartbeats 8000000 in
theorem un_b {w : World} (vp : Value) (p : List Ins) (hhp : InsRow w w.heap.size vp p) (x : ByteArray) (hxs : x.size ≤ 140737488355328) (HV : Hid (validB p = true)) (HX : Hid (isTree x = false)) (fuel : Int) : Calls Try.prog 6 #[vp, .string x, .int .i64 fuel] w fun e w' => e = .returned (.bool true) ∧ Below w.heap.size w w' := by
  obtain ⟨pa, pc, rfl⟩ := hhp.len
  obtain ⟨pn, hpn⟩ : ∃ z, p.length = z := ⟨_, rfl⟩
  rw [hpn] at hhp ⊢
  have hp := Lib.hid hhp
  have HPN := Lib.hid hpn
  have HXS := Lib.hid hxs
  clear hhp hpn hxs
  have ch := Lib.hid (Below.refl w.heap.size w)
  go_enter Try.func6, Try.ntmps6
  go_wp2_with fail
  refine (cvalid_at true HV.out hp.out).mono ?_
  rintro e w1 ⟨rfl, hq⟩
  replace hp := Lib.hid ((hp.out.below hq).mono hq.size)
  replace ch := Lib.hid (ch.out.trans (hq.mono ch.out.size))
  clear hq
  go_wp2_with fail
  refine (tvalid_at x HXS.out false HX.out _).mono ?_
  rintro e w2 ⟨rfl, hq⟩
  replace hp := Lib.hid ((hp.out.below hq).mono hq.size)
  replace ch := Lib.hid (ch.out.trans (hq.mono ch.out.size))
  clear hq
  go_wp2_with fail
  refine (awake06 _).mono ?_
  rintro e w3 ⟨rfl, hq⟩
  replace hp := Lib.hid ((hp.out.below hq).mono hq.size)
  replace ch := Lib.hid (ch.out.trans (hq.mono ch.out.size))
  clear hq
  go_wp2
  go_ret
  exact ⟨rfl, ch.out⟩

set_option maxRecDepth 20000 in
set_option maxHeartbeats 8000000 in
theorem un_c {w : World} (vp : Value) (p : List Ins) (hhp : InsRow w w.heap.size vp p) (x : ByteArray) (hxs : x.size ≤ 140737488355328) (HV : Hid (validB p = true)) (HX : Hid (isTree x = true)) (fuel : Int) (hn : fuel < 0) : Calls Try.prog 6 #[vp, .string x, .int .i64 fuel] w fun e w' => e = .returned (.bool true) ∧ Below w.heap.size w w' := by
  obtain ⟨pa, pc, rfl⟩ := hhp.len
  obtain ⟨pn, hpn⟩ : ∃ z, p.length = z := ⟨_, rfl⟩
  rw [hpn] at hhp ⊢
  have hp := Lib.hid hhp
  have HPN := Lib.hid hpn
  have HXS := Lib.hid hxs
  clear hhp hpn hxs
  have ch := Lib.hid (Below.refl w.heap.size w)
  go_enter Try.func6, Try.ntmps6
  go_wp2_with fail
  refine (cvalid_at true HV.out hp.out).mono ?_
  rintro e w1 ⟨rfl, hq⟩
  replace hp := Lib.hid ((hp.out.below hq).mono hq.size)
  replace ch := Lib.hid (ch.out.trans (hq.mono ch.out.size))
  clear hq
  go_wp2_with fail
  refine (tvalid_at x HXS.out true HX.out _).mono ?_
  rintro e w2 ⟨rfl, hq⟩
  replace hp := Lib.hid ((hp.out.below hq).mono hq.size)
  replace ch := Lib.hid (ch.out.trans (hq.mono ch.out.size))
  clear hq
  go_wp2_with fail
  refine (awake06 _).mono ?_
  rintro e w3 ⟨rfl, hq⟩
  replace hp := Lib.hid ((hp.out.below hq).mono hq.size)
  replace ch := Lib.hid (ch.out.trans (hq.mono ch.out.size))
  clear hq
  go_wp2
  go_ret
  exact ⟨rfl, ch.out⟩

set_option maxRecDepth 20000 in
set_option maxHeartbeats 8000000 in
theorem un_d {w : World} (vp : Value) (p : List Ins) (hhp : InsRow w w.heap.size vp p) (x : ByteArray) (hxs : x.size ≤ 140737488355328) (HV : Hid (validB p = true)) (HX : Hid (isTree x = true)) (fuel : Int) (hn : ¬ fuel < 0) (hl : (300000 : Int) < fuel) : Calls Try.prog 6 #[vp, .string x, .int .i64 fuel] w fun e w' => e = .returned (.bool true) ∧ Below w.heap.size w w' := by
  obtain ⟨pa, pc, rfl⟩ := hhp.len
  obtain ⟨pn, hpn⟩ : ∃ z, p.length = z := ⟨_, rfl⟩
  rw [hpn] at hhp ⊢
  have hp := Lib.hid hhp
  have HPN := Lib.hid hpn
  have HXS := Lib.hid hxs
  clear hhp hpn hxs
  have ch := Lib.hid (Below.refl w.heap.size w)
  go_enter Try.func6, Try.ntmps6
  go_wp2_with fail
  refine (cvalid_at true HV.out hp.out).mono ?_
  rintro e w1 ⟨rfl, hq⟩
  replace hp := Lib.hid ((hp.out.below hq).mono hq.size)
  replace ch := Lib.hid (ch.out.trans (hq.mono ch.out.size))
  clear hq
  go_wp2_with fail
  refine (tvalid_at x HXS.out true HX.out _).mono ?_
  rintro e w2 ⟨rfl, hq⟩
  replace hp := Lib.hid ((hp.out.below hq).mono hq.size)
  replace ch := Lib.hid (ch.out.trans (hq.mono ch.out.size))
  clear hq
  go_wp2_with fail
  refine (awake06 _).mono ?_
  rintro e w3 ⟨rfl, hq⟩
  replace hp := Lib.hid ((hp.out.below hq).mono hq.size)
  replace ch := Lib.hid (ch.out.trans (hq.mono ch.out.size))
  clear hq
  go_wp2
  go_ret
  exact ⟨rfl, ch.out⟩

set_option maxRecDepth 20000 in
set_option maxHeartbeats 8000000 in
theorem un_e {w : World} (vp : Value) (p : List Ins) (hhp : InsRow w w.heap.size vp p) (x : ByteArray) (hxs : x.size ≤ 140737488355328) (HV : Hid (validB p = true)) (HX : Hid (isTree x = true)) (K : Nat) (HK : Hid (K ≤ 300000)) (HG : Hid (¬ (codeN p ≤ 2000000 ∧ (Tr.pair (codeT p) (toTr x)).size ≤ 2000000))) : Calls Try.prog 6 #[vp, .string x, .int .i64 K] w fun e w' => e = .returned (.bool true) ∧ Below w.heap.size w w' := by
  obtain ⟨pa, pc, rfl⟩ := hhp.len
  obtain ⟨pn, hpn⟩ : ∃ z, p.length = z := ⟨_, rfl⟩
  rw [hpn] at hhp ⊢
  have hp := Lib.hid hhp
  have HPN := Lib.hid hpn
  have HXS := Lib.hid hxs
  clear hhp hpn hxs
  have ch := Lib.hid (Below.refl w.heap.size w)
  go_enter Try.func6, Try.ntmps6
  go_wp2_with fail
  refine (cvalid_at true HV.out hp.out).mono ?_
  rintro e w1 ⟨rfl, hq⟩
  replace hp := Lib.hid ((hp.out.below hq).mono hq.size)
  replace ch := Lib.hid (ch.out.trans (hq.mono ch.out.size))
  clear hq
  go_wp2_with fail
  refine (tvalid_at x HXS.out true HX.out _).mono ?_
  rintro e w2 ⟨rfl, hq⟩
  replace hp := Lib.hid ((hp.out.below hq).mono hq.size)
  replace ch := Lib.hid (ch.out.trans (hq.mono ch.out.size))
  clear hq
  have hk0 : decide ((K : Int) < 0) = false := decide_eq_false (by omega)
  have hk1 : decide ((300000 : Int) < (K : Int)) = false := decide_eq_false (by have := HK.out; omega)
  have HT := Lib.hid (str_tree x HX.out).2
  go_wp2_with fail
  refine (read_str x HX.out _).mono ?_
  rintro e w3 ⟨px, rfl, hx, hq⟩
  replace hp := Lib.hid ((hp.out.below hq).mono hq.size)
  replace ch := Lib.hid (ch.out.trans (hq.mono ch.out.size))
  clear hq
  replace hx := Lib.hid hx
  clear hk0 hk1
  go_wp2_with fail
  refine (given_none _ p hp.out _ _ hx.out HT.out HV.out HG.out).mono ?_
  rintro e w4 ⟨rfl, hq⟩
  replace hp := Lib.hid ((hp.out.below hq).mono hq.size)
  replace hx := Lib.hid (hx.out.kept (Kept.below hq))
  replace ch := Lib.hid (ch.out.trans (hq.mono ch.out.size))
  clear hq
  go_wp2_with fail
  refine (load_any _ p _ hp.out HV.out).mono ?_
  rintro e w5 ⟨gm, tv, rfl, hm, hq⟩
  replace hp := Lib.hid ((hp.out.below hq).mono hq.size)
  replace hx := Lib.hid (hx.out.kept (Kept.below hq))
  replace ch := Lib.hid (ch.out.trans (hq.mono ch.out.size))
  clear hq
  replace hm := Lib.hid hm
  go_wp2_with fail
  refine (awake06 _).mono ?_
  rintro e w6 ⟨rfl, hq⟩
  replace hp := Lib.hid ((hp.out.below hq).mono hq.size)
  replace hx := Lib.hid (hx.out.kept (Kept.below hq))
  replace hm := Lib.hid (mach_lift hm.out hq)
  replace ch := Lib.hid (ch.out.trans (hq.mono ch.out.size))
  clear hq
  go_wp2
  go_ret
  exact ⟨rfl, ch.out⟩

set_option maxRecDepth 20000 in
set_option maxHeartbeats 8000000 in
theorem un_f {w : World} (vp : Value) (p : List Ins) (hhp : InsRow w w.heap.size vp p) (x : ByteArray) (hxs : x.size ≤ 140737488355328) (HV : Hid (validB p = true)) (HX : Hid (isTree x = true)) (K : Nat) (HK : Hid (K ≤ 300000)) (HG : Hid (codeN p ≤ 2000000 ∧ (Tr.pair (codeT p) (toTr x)).size ≤ 2000000)) : Calls Try.prog 6 #[vp, .string x, .int .i64 K] w fun e w' => e = .returned (.bool true) ∧ Below w.heap.size w w' := by
  obtain ⟨pa, pc, rfl⟩ := hhp.len
  obtain ⟨pn, hpn⟩ : ∃ z, p.length = z := ⟨_, rfl⟩
  rw [hpn] at hhp ⊢
  have hp := Lib.hid hhp
  have HPN := Lib.hid hpn
  have HXS := Lib.hid hxs
  clear hhp hpn hxs
  have ch := Lib.hid (Below.refl w.heap.size w)
  go_enter Try.func6, Try.ntmps6
  go_wp2_with fail
  refine (cvalid_at true HV.out hp.out).mono ?_
  rintro e w1 ⟨rfl, hq⟩
  replace hp := Lib.hid ((hp.out.below hq).mono hq.size)
  replace ch := Lib.hid (ch.out.trans (hq.mono ch.out.size))
  clear hq
  go_wp2_with fail
  refine (tvalid_at x HXS.out true HX.out _).mono ?_
  rintro e w2 ⟨rfl, hq⟩
  replace hp := Lib.hid ((hp.out.below hq).mono hq.size)
  replace ch := Lib.hid (ch.out.trans (hq.mono ch.out.size))
  clear hq
  have hk0 : decide ((K : Int) < 0) = false := decide_eq_false (by omega)
  have hk1 : decide ((300000 : Int) < (K : Int)) = false := decide_eq_false (by have := HK.out; omega)
  have HT := Lib.hid (str_tree x HX.out).2
  go_wp2_with fail
  refine (read_str x HX.out _).mono ?_
  rintro e w3 ⟨px, rfl, hx, hq⟩
  replace hp := Lib.hid ((hp.out.below hq).mono hq.size)
  replace ch := Lib.hid (ch.out.trans (hq.mono ch.out.size))
  clear hq
  replace hx := Lib.hid hx
  clear hk0 hk1
  go_wp2_with fail
  refine (given_ok _ p hp.out _ _ hx.out HT.out HV.out HG.out.1 HG.out.2).mono ?_
  rintro e w4 ⟨gg, rfl, hn, hq⟩
  replace hp := Lib.hid ((hp.out.below hq).mono hq.size)
  replace hx := Lib.hid (hx.out.kept (Kept.below hq))
  replace ch := Lib.hid (ch.out.trans (hq.mono ch.out.size))
  clear hq
  replace hn := Lib.hid hn
  go_wp2_with fail
  refine (load_any _ p _ hp.out HV.out).mono ?_
  rintro e w5 ⟨gm, tv, rfl, hm, hq⟩
  replace hp := Lib.hid ((hp.out.below hq).mono hq.size)
  replace hx := Lib.hid (hx.out.kept (Kept.below hq))
  replace hn := Lib.hid (hn.out.kept (Kept.below hq))
  replace ch := Lib.hid (ch.out.trans (hq.mono ch.out.size))
  clear hq
  replace hm := Lib.hid hm
  go_wp2_with fail
  refine (read_str x HX.out _).mono ?_
  rintro e w6 ⟨py, rfl, hx2, hq⟩
  replace hp := Lib.hid ((hp.out.below hq).mono hq.size)
  replace hx := Lib.hid (hx.out.kept (Kept.below hq))
  replace hn := Lib.hid (hn.out.kept (Kept.below hq))
  replace hm := Lib.hid (mach_lift hm.out hq)
  replace ch := Lib.hid (ch.out.trans (hq.mono ch.out.size))
  clear hq
  replace hx2 := Lib.hid hx2
  go_wp2_with fail
  refine (loops_any _ _ p _ _ _ _ 2000 (by omega) hm.out hx2.out HT.out (validB_all HV.out) (validB_len HV.out)).mono ?_
  rintro e w7 ⟨bl, rfl, hL, hq⟩
  replace hp := Lib.hid ((hp.out.below hq).mono hq.size)
  replace hx := Lib.hid (hx.out.kept (Kept.below hq))
  replace hn := Lib.hid (hn.out.kept (Kept.below hq))
  replace hm := Lib.hid (mach_lift hm.out hq)
  replace hx2 := Lib.hid (hx2.out.kept (Kept.below hq))
  replace ch := Lib.hid (ch.out.trans (hq.mono ch.out.size))
  clear hq
  replace hL := Lib.hid hL
  cases bl with
  | false =>
    go_wp2_with fail
    refine (awake06 _).mono ?_
    rintro e w8 ⟨rfl, hq⟩
    replace hp := Lib.hid ((hp.out.below hq).mono hq.size)
    replace hx := Lib.hid (hx.out.kept (Kept.below hq))
    replace hn := Lib.hid (hn.out.kept (Kept.below hq))
    replace hm := Lib.hid (mach_lift hm.out hq)
    replace hx2 := Lib.hid (hx2.out.kept (Kept.below hq))
    replace ch := Lib.hid (ch.out.trans (hq.mono ch.out.size))
    clear hq
    go_wp2
    go_ret
    exact ⟨rfl, ch.out⟩
  | true =>
    go_wp2_with fail
    refine (read_str x HX.out _).mono ?_
    rintro e w8 ⟨pz, rfl, hx3, hq⟩
    replace hp := Lib.hid ((hp.out.below hq).mono hq.size)
    replace hx := Lib.hid (hx.out.kept (Kept.below hq))
    replace hn := Lib.hid (hn.out.kept (Kept.below hq))
    replace hm := Lib.hid (mach_lift hm.out hq)
    replace hx2 := Lib.hid (hx2.out.kept (Kept.below hq))
    replace ch := Lib.hid (ch.out.trans (hq.mono ch.out.size))
    clear hq
    replace hx3 := Lib.hid hx3
    go_wp2_with fail
    refine (peak_any _ _ p _ _ _ _ 4000 (by omega) hm.out hx3.out HT.out (validB_all HV.out) (validB_len HV.out)).mono ?_
    rintro e w9 ⟨q, n, M, er, rfl, hq, hM6, hsum, hcase⟩
    replace hp := Lib.hid ((hp.out.below hq).mono hq.size)
    replace hx := Lib.hid (hx.out.kept (Kept.below hq))
    replace hn := Lib.hid (hn.out.kept (Kept.below hq))
    replace hm := Lib.hid (mach_lift hm.out hq)
    replace hx2 := Lib.hid (hx2.out.kept (Kept.below hq))
    replace hx3 := Lib.hid (hx3.out.kept (Kept.below hq))
    replace ch := Lib.hid (ch.out.trans (hq.mono ch.out.size))
    clear hq
    replace hsum := Lib.hid hsum
    have HM6 := Lib.hid hM6
    clear hM6
    clear hcase
    go_wp2_with fail
    refine (universal_any _).mono ?_
    rintro e w10 ⟨vu, rfl, hu, hq⟩
    replace hp := Lib.hid ((hp.out.below hq).mono hq.size)
    replace hx := Lib.hid (hx.out.kept (Kept.below hq))
    replace hn := Lib.hid (hn.out.kept (Kept.below hq))
    replace hm := Lib.hid (mach_lift hm.out hq)
    replace hx2 := Lib.hid (hx2.out.kept (Kept.below hq))
    replace hx3 := Lib.hid (hx3.out.kept (Kept.below hq))
    replace ch := Lib.hid (ch.out.trans (hq.mono ch.out.size))
    clear hq
    obtain ⟨ua, uc, rfl⟩ := hu.slice
    rw [univ_len] at hu ⊢
    replace hu := Lib.hid (hu.row (by rw [univ_len]; omega))
    go_wp2_with fail
    refine (cvalid_at true univ_valid hu.out).mono ?_
    rintro e w11 ⟨rfl, hq⟩
    replace hp := Lib.hid ((hp.out.below hq).mono hq.size)
    replace hx := Lib.hid (hx.out.kept (Kept.below hq))
    replace hn := Lib.hid (hn.out.kept (Kept.below hq))
    replace hm := Lib.hid (mach_lift hm.out hq)
    replace hx2 := Lib.hid (hx2.out.kept (Kept.below hq))
    replace hx3 := Lib.hid (hx3.out.kept (Kept.below hq))
    replace hu := Lib.hid ((hu.out.below hq).mono hq.size)
    replace ch := Lib.hid (ch.out.trans (hq.mono ch.out.size))
    clear hq
    go_wp2_with fail
    refine (load_any _ univL _ hu.out univ_valid).mono ?_
    rintro e w12 ⟨gu, tu, rfl, hmu, hq⟩
    replace hp := Lib.hid ((hp.out.below hq).mono hq.size)
    replace hx := Lib.hid (hx.out.kept (Kept.below hq))
    replace hn := Lib.hid (hn.out.kept (Kept.below hq))
    replace hm := Lib.hid (mach_lift hm.out hq)
    replace hx2 := Lib.hid (hx2.out.kept (Kept.below hq))
    replace hx3 := Lib.hid (hx3.out.kept (Kept.below hq))
    replace hu := Lib.hid ((hu.out.below hq).mono hq.size)
    replace ch := Lib.hid (ch.out.trans (hq.mono ch.out.size))
    clear hq
    replace hmu := Lib.hid hmu
    obtain ⟨Z, hZ⟩ : ∃ z, (Tr.pair (codeT p) (toTr x)).size = z := ⟨_, rfl⟩
    have HZ := Lib.hid hZ
    clear hZ
    obtain ⟨i0, j0, q1, q2, q3, q4⟩ := hL.out (by trivial)
    have hlaw := never_law (validB_all HV.out) (validB_len HV.out) q1 q2 q3 q4 hsum.out K
    clear q1 q2 q3 q4 hL
    rcases hlaw with ⟨uF, hR⟩ | ⟨hR, hS⟩
    · replace hR := Lib.hid hR
      go_wp2_with fail
      refine (rrun_fuel K _ rfl (by have := HK.out; omega) hR.out hmu.out hn.out HG.out.2 univ_valid).mono ?_
      rintro e w13 ⟨qz, rfl, hz, hq⟩
      replace hp := Lib.hid ((hp.out.below hq).mono hq.size)
      replace hx := Lib.hid (hx.out.kept (Kept.below hq))
      replace hn := Lib.hid (hn.out.kept (Kept.below hq))
      replace hm := Lib.hid (mach_lift hm.out hq)
      replace hx2 := Lib.hid (hx2.out.kept (Kept.below hq))
      replace hx3 := Lib.hid (hx3.out.kept (Kept.below hq))
      replace hu := Lib.hid ((hu.out.below hq).mono hq.size)
      replace hmu := Lib.hid (mach_lift hmu.out hq)
      replace ch := Lib.hid (ch.out.trans (hq.mono ch.out.size))
      clear hq
      clear hz
      go_wp2_with fail
      refine (awake06 _).mono ?_
      rintro e w14 ⟨rfl, hq⟩
      replace hp := Lib.hid ((hp.out.below hq).mono hq.size)
      replace hx := Lib.hid (hx.out.kept (Kept.below hq))
      replace hn := Lib.hid (hn.out.kept (Kept.below hq))
      replace hm := Lib.hid (mach_lift hm.out hq)
      replace hx2 := Lib.hid (hx2.out.kept (Kept.below hq))
      replace hx3 := Lib.hid (hx3.out.kept (Kept.below hq))
      replace hu := Lib.hid ((hu.out.below hq).mono hq.size)
      replace hmu := Lib.hid (mach_lift hmu.out hq)
      replace ch := Lib.hid (ch.out.trans (hq.mono ch.out.size))
      clear hq
      go_wp2
      go_ret
      exact ⟨rfl, ch.out⟩
    · replace hR := Lib.hid hR
      go_wp2_with fail
      refine (rrun_big K _ rfl (by have := HK.out; omega) hR.out hmu.out hn.out HG.out.2 univ_valid).mono ?_
      rintro e w13 ⟨qz, rfl, hz, hq⟩
      replace hp := Lib.hid ((hp.out.below hq).mono hq.size)
      replace hx := Lib.hid (hx.out.kept (Kept.below hq))
      replace hn := Lib.hid (hn.out.kept (Kept.below hq))
      replace hm := Lib.hid (mach_lift hm.out hq)
      replace hx2 := Lib.hid (hx2.out.kept (Kept.below hq))
      replace hx3 := Lib.hid (hx3.out.kept (Kept.below hq))
      replace hu := Lib.hid ((hu.out.below hq).mono hq.size)
      replace hmu := Lib.hid (mach_lift hmu.out hq)
      replace ch := Lib.hid (ch.out.trans (hq.mono ch.out.size))
      clear hq
      clear hz
      rw [HZ.out] at hS
      by_cases hb : 200000 < Z
      · have hzi : (200000 : Int) < (Z : Int) := by omega
        clear hb hS
        have cn := node_count hn.out Z HZ.out
        go_wp2_with fail
        clear cn
        refine (awake06 _).mono ?_
        rintro e w14 ⟨rfl, hq⟩
        replace hp := Lib.hid ((hp.out.below hq).mono hq.size)
        replace hx := Lib.hid (hx.out.kept (Kept.below hq))
        replace hn := Lib.hid (hn.out.kept (Kept.below hq))
        replace hm := Lib.hid (mach_lift hm.out hq)
        replace hx2 := Lib.hid (hx2.out.kept (Kept.below hq))
        replace hx3 := Lib.hid (hx3.out.kept (Kept.below hq))
        replace hu := Lib.hid ((hu.out.below hq).mono hq.size)
        replace hmu := Lib.hid (mach_lift hmu.out hq)
        replace ch := Lib.hid (ch.out.trans (hq.mono ch.out.size))
        clear hq
        go_wp2
        go_ret
        exact ⟨rfl, ch.out⟩
      · have hzi : ¬ (200000 : Int) < (Z : Int) := by omega
        have hmi : (200000 : Int) < (M : Int) := by omega
        clear hb hS
        have cn := node_count hn.out Z HZ.out
        go_wp2_with fail
        clear cn
        refine (awake06 _).mono ?_
        rintro e w14 ⟨rfl, hq⟩
        replace hp := Lib.hid ((hp.out.below hq).mono hq.size)
        replace hx := Lib.hid (hx.out.kept (Kept.below hq))
        replace hn := Lib.hid (hn.out.kept (Kept.below hq))
        replace hm := Lib.hid (mach_lift hm.out hq)
        replace hx2 := Lib.hid (hx2.out.kept (Kept.below hq))
        replace hx3 := Lib.hid (hx3.out.kept (Kept.below hq))
        replace hu := Lib.hid ((hu.out.below hq).mono hq.size)
        replace hmu := Lib.hid (mach_lift hmu.out hq)
        replace ch := Lib.hid (ch.out.trans (hq.mono ch.out.size))
        clear hq
        go_wp2
        go_ret
        exact ⟨rfl, ch.out⟩

theorem law_UnivNever {w : World} (vp : Value) (p : List Ins) (hhp : InsRow w w.heap.size vp p) (x : ByteArray) (hxs : x.size ≤ 140737488355328) (fuel : Int) (_ : -9223372036854775808 ≤ fuel ∧ fuel ≤ 9223372036854775807) :
    Calls Try.prog 6 #[vp, .string x, .int .i64 fuel] w fun e w' => e = .returned (.bool true) ∧ Below w.heap.size w w' := by
  cases h1 : validB p with
  | false => exact un_a vp p hhp x hxs (Lib.hid h1) fuel
  | true =>
    cases h2 : isTree x with
    | false => exact un_b vp p hhp x hxs (Lib.hid h1) (Lib.hid h2) fuel
    | true =>
      by_cases h3 : fuel < 0
      · exact un_c vp p hhp x hxs (Lib.hid h1) (Lib.hid h2) fuel h3
      · by_cases h4 : (300000 : Int) < fuel
        · exact un_d vp p hhp x hxs (Lib.hid h1) (Lib.hid h2) fuel h3 h4
        · obtain ⟨K, rfl⟩ : ∃ K : Nat, fuel = K := ⟨fuel.toNat, by omega⟩
          by_cases h6 : codeN p ≤ 2000000 ∧ (Tr.pair (codeT p) (toTr x)).size ≤ 2000000
          · exact un_f vp p hhp x hxs (Lib.hid h1) (Lib.hid h2) K (Lib.hid (by omega)) (Lib.hid h6)
          · exact un_e vp p hhp x hxs (Lib.hid h1) (Lib.hid h2) K (Lib.hid (by omega)) (Lib.hid h6)

end Go.Proofs.Ytlaeljkjdfffjaa


/- The walks of narcissusref03.Ended and SameState. The walk of narcissusref03.Fits. The walk of narcissusref03.Step: each operation. The walks of narcissusref02.Register, Trees, Twin, Same and of code.reg. The walks of run.newMachine and (*machine).ended. The walks of (*machine).ended and (*machine).step. The walk of (*machine).step: cons and jump. The walk of (*machine).step: jump; and all. (*machine).step, put together. narcissusref03.Step, put together. -/
import Derived.Test.YtaiomcjopgnfpaaMB1
import Derived.StillTailTactics
import Derived.Test.YtaiomcjopgnfpaaMB0
import Derived.Laws.StructEq
namespace Go.Proofs.Ytaiomcjopgnfpaa
open Go.RowKit

set_option maxHeartbeats 1000000 in
theorem rended_any (w : World) (B g h : Nat) (l : List Ins) (s : St) (pv tv rv : Value) (T : Nat) (ps : List Value) (hm : RMachP w B g l pv tv) (hs : RStP w T h s rv ps) :
    Calls Try.prog 99 #[.pointer (some ⟨g, 0, none⟩), .pointer (some ⟨h, 0, none⟩)] w fun e w' => e = .returned (.bool ((s.pos : Int) == (l.length : Int))) ∧ ∃ nq, w' = w.drewN nq := by
  obtain ⟨ao, cap, rfl⟩ := hm.prog.len
  have c0 := (block_cells hm.blk).1 0
  have d0 := (block_cells hs.blk).1 0
  simp only [List.getElem?_toArray, List.getElem?_cons_zero] at c0 d0
  obtain ⟨n, hn'⟩ : ∃ n, l.length = n := ⟨_, rfl⟩
  rw [hn'] at c0 ⊢
  clear hm hs hn'
  go_enter Try.func99, Try.ntmps99
  go_wp2
  go_quiet (fail)
  go_wp2
  go_ret
  exact ⟨rfl, _, rfl⟩

/-- Two states with trees as strings are equal. -/
def sameS (n m : Int) (l1 l2 : List ByteArray) : Bool := (n == m) && sameB l1 l2
end Go.Proofs.Ytaiomcjopgnfpaa

namespace Go.Proofs.Ytaiomcjopgnfpaa
open Go.RowKit

/-- A state that is one of a program of some length. -/
def fitsB (n : Int) (len : Nat) (l : List ByteArray) : Bool := decide (0 ≤ n) && decide (n ≤ len) && decide (l.length = 32) && l.all isTree

end Go.Proofs.Ytaiomcjopgnfpaa

namespace Go.Proofs.Ytaiomcjopgnfpaa
open Go.RowKit

/-- A step of the reference went well. -/
def RStepOk (w : World) (T gs : Nat) (s' : St) (rv : Value) (e : Ending) (w' : World) : Prop :=
  ∃ ps', e = .returned (.bool true) ∧ RStP w' T gs s' rv ps' ∧ Below T w w' ∧ Kept 69 w w'
theorem RStP.cells {w : World} {T g gr cp : Nat} {s : St} {ps : List Value} (h : RStP w T g s (.slice (some ⟨gr, 0, none⟩) s.regs.length cp) ps) : w.cell? ⟨g, 0, none⟩ = some (.int .i64 s.pos) ∧ w.cell? ⟨g, 1, none⟩ = some (.slice (some ⟨gr, 0, none⟩) s.regs.length cp) ∧ (∀ j, w.frozen? ⟨g, j, none⟩ = false) ∧
    (∀ j t, s.regs[j]? = some t → ∃ q, w.cell? ⟨gr, j, none⟩ = some (.pointer q) ∧ NodeP 69 w t (.pointer q)) ∧ (∀ j, w.frozen? ⟨gr, j, none⟩ = false) := by
  have c0 := (block_cells h.blk).1 0
  have c1 := (block_cells h.blk).1 1
  simp only [List.getElem?_toArray, List.getElem?_cons_zero, List.getElem?_cons_succ] at c0 c1
  refine ⟨c0, c1, (block_cells h.blk).2, ?_, fun j => ?_⟩
  · intro j t hj
    obtain ⟨v, hv, hn⟩ := h.regs.get hj
    obtain ⟨q, rfl⟩ := hn.ptr
    exact ⟨q, by rw [World.ownsRow.cellAt h.own j (by have := (List.getElem?_eq_some_iff.1 hj).1; omega), hv], hn⟩
  · exact World.ownsRow.frozenAt h.own j

theorem rstep_fin {w wd : World} {T gs gr cp : Nat} {s : St} {ps : List Value} (hs : RStP wd T gs s (.slice (some ⟨gr, 0, none⟩) s.regs.length cp) ps) (hb : Below T w wd) (hk : Kept 69 w wd) (ra : Nat) {t : Tr} {q : Option Addr} (hn : NodeP 69 wd t (.pointer q)) (hgr : T ≤ gr) (z : Int) (p : Nat) (hz : z = p) :
    ∃ ps', RStP ((wd.setCell ⟨gr, ra, none⟩ (.pointer q)).setCell ⟨gs, 0, none⟩ (.int .i64 z)) T gs ⟨p, s.regs.set ra t⟩ (.slice (some ⟨gr, 0, none⟩) s.regs.length cp) ps' ∧ Below T w ((wd.setCell ⟨gr, ra, none⟩ (.pointer q)).setCell ⟨gs, 0, none⟩ (.int .i64 z)) ∧
      Kept 69 w ((wd.setCell ⟨gr, ra, none⟩ (.pointer q)).setCell ⟨gs, 0, none⟩ (.int .i64 z)) := by
  subst hz
  have hrow : ∃ cur, wd.heap[gr]? = some (.cells cur 63 (0, 0)) := by
    rcases hs.own.2 with ⟨h0, _⟩ | ⟨g', cap', cur, hv, _, hg, _⟩
    · cases h0
    · simp only [Value.slice.injEq, Option.some.injEq, Addr.mk.injEq] at hv
      obtain ⟨⟨rfl, -, -⟩, -, -⟩ := hv
      exact ⟨cur, hg⟩
  obtain ⟨cur, hcur⟩ := hrow
  have hne : gs ≠ gr := by
    rintro rfl
    have := hs.blk; rw [hcur] at this
    simp only [Option.some.injEq, Obj.cells.injEq] at this
    exact absurd this.2.1 (by decide)
  have hblk1 : (wd.setCell ⟨gr, ra, none⟩ (.pointer q)).heap[gs]? = some (.cells #[.int .i64 s.pos, .slice (some ⟨gr, 0, none⟩) s.regs.length cp] 121 (0, 0)) := (Below.heap_setCell _ _ _ _ (by show gs ≠ gr; exact hne)).trans hs.blk
  have hk1 : Kept 69 wd (wd.setCell ⟨gr, ra, none⟩ (.pointer q)) := (Kept.refl _ wd).setCell hcur (by decide) _
  have hk2 : Kept 69 wd ((wd.setCell ⟨gr, ra, none⟩ (.pointer q)).setCell ⟨gs, 0, none⟩ (.int .i64 p)) := hk1.setCell hblk1 (by decide) _
  refine ⟨ps.set ra (.pointer q), ⟨set_blk hblk1 0 _, hs.le, (hs.regs.set ra hn).kept hk2, ?_⟩, (hb.setCell (p := ⟨gr, ra, none⟩) hgr _).setCell (p := ⟨gs, 0, none⟩) hs.le _, hk.trans hk2⟩
  rw [List.length_set]
  exact own_kept (own_set hs.own ra _) ((Kept.refl _ _).setCell hblk1 (by decide) _)

theorem rnodeHead_at (t : Tr) (v : Value) (w : World) (h : NodeP 69 w t v) :
    ∃ q, NodeP 69 w t.hd (.pointer q) ∧ ∀ w', Kept 69 w w' → Calls Try.prog 153 #[v] w' fun e w'' => e = .returned (.pointer q) ∧ w'' = w' := by
  cases t with
  | nil =>
    have hv : v = .pointer none := h
    subst hv
    refine ⟨none, rfl, fun w' _ => ?_⟩
    go_enter Try.func153, Try.ntmps153
    go_wp2
    go_ret
    exact ⟨rfl, rfl⟩
  | pair a b =>
    obtain ⟨g, x, y, hv, hg, ha, hb⟩ := h
    obtain ⟨x, rfl⟩ := ha.ptr
    obtain ⟨y, rfl⟩ := hb.ptr
    subst hv
    refine ⟨x, ha, fun w' hk => ?_⟩
    have c0 := (block_cells (hk _ _ hg)).1 0
    have c1 := (block_cells (hk _ _ hg)).1 1
    simp only [List.getElem?_toArray, List.getElem?_cons_zero, List.getElem?_cons_succ] at c0 c1
    clear ha hb hg hk
    go_enter Try.func153, Try.ntmps153
    go_wp2
    go_ret
    exact ⟨rfl, rfl⟩
theorem rnodeTail_at (t : Tr) (v : Value) (w : World) (h : NodeP 69 w t v) :
    ∃ q, NodeP 69 w t.tl (.pointer q) ∧ ∀ w', Kept 69 w w' → Calls Try.prog 154 #[v] w' fun e w'' => e = .returned (.pointer q) ∧ w'' = w' := by
  cases t with
  | nil =>
    have hv : v = .pointer none := h
    subst hv
    refine ⟨none, rfl, fun w' _ => ?_⟩
    go_enter Try.func154, Try.ntmps154
    go_wp2
    go_ret
    exact ⟨rfl, rfl⟩
  | pair a b =>
    obtain ⟨g, x, y, hv, hg, ha, hb⟩ := h
    obtain ⟨x, rfl⟩ := ha.ptr
    obtain ⟨y, rfl⟩ := hb.ptr
    subst hv
    refine ⟨y, hb, fun w' hk => ?_⟩
    have c0 := (block_cells (hk _ _ hg)).1 0
    have c1 := (block_cells (hk _ _ hg)).1 1
    simp only [List.getElem?_toArray, List.getElem?_cons_zero, List.getElem?_cons_succ] at c0 c1
    clear ha hb hg hk
    go_enter Try.func154, Try.ntmps154
    go_wp2
    go_ret
    exact ⟨rfl, rfl⟩
theorem rstep_fin_drew {w w' : World} {T gs : Nat} {s' : St} {rv : Value} (h : ∃ ps', RStP w' T gs s' rv ps' ∧ Below T w w' ∧ Kept 69 w w') : ∃ ps', RStP w'.drew T gs s' rv ps' ∧ Below T w w'.drew ∧ Kept 69 w w'.drew := by
  obtain ⟨ps', h1, h2, h3⟩ := h
  exact ⟨ps', h1.kept (Below.refl _ _).drew, h2.drew, h3.drew⟩
theorem RStepOk.mk' {w : World} {T gs : Nat} {s' : St} {rv : Value} {e : Ending} {w' : World} (he : e = .returned (.bool true)) (h : ∃ ps', RStP w' T gs s' rv ps' ∧ Below T w w' ∧ Kept 69 w w') : RStepOk w T gs s' rv e w' := by
  obtain ⟨ps', h1, h2, h3⟩ := h
  exact ⟨ps', he, h1, h2, h3⟩
theorem RStP.apart {wd : World} {T gs gr cp : Nat} {s : St} {ps : List Value} (hs : RStP wd T gs s (.slice (some ⟨gr, 0, none⟩) s.regs.length cp) ps) : gs ≠ gr := by
  have hrow : ∃ cur, wd.heap[gr]? = some (.cells cur 63 (0, 0)) := by
    rcases hs.own.2 with ⟨h0, _⟩ | ⟨g', cap', cur, hv, _, hg, _⟩
    · cases h0
    · simp only [Value.slice.injEq, Option.some.injEq, Addr.mk.injEq] at hv
      obtain ⟨⟨rfl, -, -⟩, -, -⟩ := hv
      exact ⟨cur, hg⟩
  obtain ⟨cur, hcur⟩ := hrow
  rintro rfl
  have := hs.blk; rw [hcur] at this
  simp only [Option.some.injEq, Obj.cells.injEq] at this
  exact absurd this.2.1 (by decide)
theorem RStP.rlt {wd : World} {T gs gr cp : Nat} {s : St} {ps : List Value} (hs : RStP wd T gs s (.slice (some ⟨gr, 0, none⟩) s.regs.length cp) ps) : gr < wd.heap.size := by
  rcases hs.own.2 with ⟨h0, _⟩ | ⟨g', cap', cur, hv, _, hg, _⟩
  · cases h0
  · simp only [Value.slice.injEq, Option.some.injEq, Addr.mk.injEq] at hv
    obtain ⟨⟨rfl, -, -⟩, -, -⟩ := hv
    exact (Array.getElem?_eq_some_iff.1 hg).1
theorem rstep_jfin {w wd : World} {T gs gr cp : Nat} {s : St} {ps : List Value} (hs : RStP wd T gs s (.slice (some ⟨gr, 0, none⟩) s.regs.length cp) ps) (hb : Below T w wd) (hk : Kept 69 w wd) (z : Int) (p : Nat) (hz : z = p) :
    ∃ ps', RStP (wd.setCell ⟨gs, 0, none⟩ (.int .i64 z)) T gs ⟨p, s.regs⟩ (.slice (some ⟨gr, 0, none⟩) s.regs.length cp) ps' ∧ Below T w (wd.setCell ⟨gs, 0, none⟩ (.int .i64 z)) ∧ Kept 69 w (wd.setCell ⟨gs, 0, none⟩ (.int .i64 z)) := by
  subst hz
  have hk2 : Kept 69 wd (wd.setCell ⟨gs, 0, none⟩ (.int .i64 p)) := (Kept.refl _ wd).setCell hs.blk (by decide) _
  exact ⟨ps, ⟨set_blk hs.blk 0 _, hs.le, hs.regs.kept hk2, own_kept hs.own ((Kept.refl _ _).setCell hs.blk (by decide) _)⟩, hb.setCell (p := ⟨gs, 0, none⟩) hs.le _, hk.trans hk2⟩


set_option maxRecDepth 20000 in
set_option maxHeartbeats 4000000 in
theorem rstep_set (w : World) (T gm gs gr cp : Nat) (l : List Ins) (s : St) (pv tv : Value) (ps : List Value) (hm : RMachP w T gm l pv tv) (hs : RStP w T gs s (.slice (some ⟨gr, 0, none⟩) s.regs.length cp) ps) (hgr : T ≤ gr) (hg : Good l.length s) (hn4 : l.length ≤ 4000) (ra : Nat) (ha : ra < 32) (b c : Int) (tree : ByteArray)
    (hx : l[s.pos]? = some ⟨0, (ra : Nat), b, c, tree⟩) :
    Calls Try.prog 129 #[.pointer (some ⟨gm, 0, none⟩), .pointer (some ⟨gs, 0, none⟩)] w (RStepOk w T gs ⟨s.pos + 1, s.regs.set ra (toTr tree)⟩ (.slice (some ⟨gr, 0, none⟩) s.regs.length cp)) := by
  have hp : s.pos < l.length := (List.getElem?_eq_some_iff.1 hx).1
  obtain ⟨ao, cap, rfl⟩ := hm.prog.len
  have c0 := (block_cells hm.blk).1 0
  simp only [List.getElem?_toArray, List.getElem?_cons_zero] at c0
  have s0 := hs.cells.1
  have hl := hm.prog
  have hlt := hm.lt
  have hgl : gs < w.heap.size := (Array.getElem?_eq_some_iff.1 hs.blk).1
  have hgm : gm < w.heap.size := (Array.getElem?_eq_some_iff.1 hm.blk).1
  have hle := hs.le
  obtain ⟨n, hn'⟩ : ∃ n, l.length = n := ⟨_, rfl⟩
  rw [hn'] at hl c0 hp hn4
  obtain ⟨pg, off, rfl, hpg, p0, p1, p2, p3, p4⟩ := hl.get hx
  dsimp only at p0 p1 p2 p3 p4
  have h32 := hg.2.1
  have HX := Lib.hid hx
  have HN := Lib.hid hn'
  have hi0 : (0 : Int) ≤ (s.pos : Int) := Int.natCast_nonneg _
  have hi1 : (s.pos : Int) < (n : Int) := by omega
  obtain ⟨wd, hwd⟩ : ∃ wd, (w.alloc (.cells #[.int .i64 (0), .int .i64 (ra : Nat), .int .i64 (b), .int .i64 (c), .string tree] 52)).drew = wd := ⟨_, rfl⟩
  have hbd : Below w.heap.size w wd := by rw [← hwd]; exact ((Below.refl _ _).alloc (Nat.le_refl _) _).drew
  have hbox : wd.heap[w.heap.size]? = some (.cells #[.int .i64 (0), .int .i64 (ra : Nat), .int .i64 (b), .int .i64 (c), .string tree] 52 (0, 0)) := by rw [← hwd]; exact heap_alloc_new w _
  have keep : ∀ w', Below w.heap.size w w' → w'.cell? ⟨gm, 0, none⟩ = some (.slice (some ⟨pg, off, none⟩) n cap) ∧ w'.cell? ⟨gs, 0, none⟩ = some (.int .i64 s.pos) ∧ w'.cell? ⟨pg, off + s.pos * 5, none⟩ = some (.int .i64 (0)) ∧ w'.cell? ⟨pg, off + s.pos * 5 + 1, none⟩ = some (.int .i64 (ra : Nat)) ∧
      w'.cell? ⟨pg, off + s.pos * 5 + 2, none⟩ = some (.int .i64 (b)) ∧ w'.cell? ⟨pg, off + s.pos * 5 + 3, none⟩ = some (.int .i64 (c)) ∧ w'.cell? ⟨pg, off + s.pos * 5 + 4, none⟩ = some (.string tree) := fun w' hb => by
    refine ⟨(hb.cell (p := ⟨gm, 0, none⟩) hgm).trans c0, (hb.cell (p := ⟨gs, 0, none⟩) hgl).trans s0, (hb.cell (p := ⟨pg, off + s.pos * 5, none⟩) (by show pg < _; omega)).trans p0, (hb.cell (p := ⟨pg, off + s.pos * 5 + 1, none⟩) (by show pg < _; omega)).trans p1, (hb.cell (p := ⟨pg, off + s.pos * 5 + 2, none⟩) (by show pg < _; omega)).trans p2, (hb.cell (p := ⟨pg, off + s.pos * 5 + 3, none⟩) (by show pg < _; omega)).trans p3, (hb.cell (p := ⟨pg, off + s.pos * 5 + 4, none⟩) (by show pg < _; omega)).trans p4⟩
  have hsd := hs.kept hbd
  obtain ⟨d0, d1, df, dr, drf⟩ := hsd.cells
  have kkd := Kept.below hbd (T := 69)
  have e0 := (block_cells hbox).1 0
  have e1 := (block_cells hbox).1 1
  have e2 := (block_cells hbox).1 2
  have e3 := (block_cells hbox).1 3
  simp only [List.getElem?_toArray, List.getElem?_cons_zero, List.getElem?_cons_succ] at e0 e1 e2 e3
  have hbl : w.heap.size < wd.heap.size := (Array.getElem?_eq_some_iff.1 hbox).1
  have hbT : Below T w wd := hbd.mono (by omega)
  have HSD := Lib.hid hsd
  have hap1 : ¬ gs = gr := hsd.apart
  have hap2 : ¬ gr = gs := fun h => hap1 h.symm
  have hrl := hsd.rlt
  rw [h32] at d1
  clear hsd hbox
  obtain ⟨tra, htra⟩ : ∃ t, s.regs[ra]? = some t := ⟨_, List.getElem?_eq_getElem (by omega)⟩
  obtain ⟨qra, fra, nra⟩ := dr ra tra htra
  have zra := drf ra
  obtain ⟨xs, base, hxs, hown, hob⟩ := hm.sets
  obtain ⟨v0, hv0, hnv⟩ := hxs.get (j := s.pos) (t := toTr tree) (by rw [List.getElem?_map, hx]; rfl)
  obtain ⟨sp, rfl⟩ := hnv.ptr
  have hnd := hnv.kept kkd
  rw [hn'] at hown
  have hown' := own_below hown hbd
  obtain ⟨sg, scp, rfl, hsr⟩ := own_cells hown' (by omega)
  have hm1 := (block_cells hm.blk).1 1
  simp only [List.getElem?_toArray, List.getElem?_cons_zero, List.getElem?_cons_succ] at hm1
  have gm1 := (hbd.cell (p := ⟨gm, 1, none⟩) hgm).trans hm1

  clear hm hs hg hl hx hn' hle hpg
  go_enter Try.func129, Try.ntmps129
  go_wp2
  go_region_held3 (fun w' => w'.cell? ⟨gm, 0, none⟩ = some (.slice (some ⟨pg, off, none⟩) n cap) ∧ w'.cell? ⟨gs, 0, none⟩ = some (.int .i64 s.pos) ∧ w'.cell? ⟨pg, off + s.pos * 5, none⟩ = some (.int .i64 (0)) ∧ w'.cell? ⟨pg, off + s.pos * 5 + 1, none⟩ = some (.int .i64 (ra : Nat)) ∧
      w'.cell? ⟨pg, off + s.pos * 5 + 2, none⟩ = some (.int .i64 (b)) ∧ w'.cell? ⟨pg, off + s.pos * 5 + 3, none⟩ = some (.int .i64 (c)) ∧ w'.cell? ⟨pg, off + s.pos * 5 + 4, none⟩ = some (.string tree))
    (exact keep _ (by first | exact hbd | exact (Below.refl _ _).drew | exact ((Below.refl _ _).drew).alloc (Nat.le_refl _) _))
    (fail)
  try rw [hwd]
  clear keep hwd p0 p1 p2 p3 p4 c0 s0
  have hset : wd.cell? ⟨sg, s.pos, none⟩ = some (.pointer sp) := by rw [hsr.2.2.2.2.1 s.pos (by omega), hv0]
  have HND := Lib.hid hnd
  have df0 := df 0
  clear dr df drf hsr hnd hnv hxs hown hown' hob hm1 nra
  go_wp2
  go_region
  go_wp2
  go_ret
  refine RStepOk.mk' rfl ?_
  first
  | exact rstep_fin_drew (rstep_fin HSD.out hbT kkd ra HND.out hgr _ _ (by omega))
  | exact rstep_fin (HSD.out.kept (Below.refl _ _).drew) hbT.drew kkd.drew ra (HND.out.kept (Kept.refl _ _).drew) hgr _ _ (by omega)

set_option maxRecDepth 20000 in
set_option maxHeartbeats 4000000 in
theorem rstep_move (w : World) (T gm gs gr cp : Nat) (l : List Ins) (s : St) (pv tv : Value) (ps : List Value) (hm : RMachP w T gm l pv tv) (hs : RStP w T gs s (.slice (some ⟨gr, 0, none⟩) s.regs.length cp) ps) (hgr : T ≤ gr) (hg : Good l.length s) (hn4 : l.length ≤ 4000) (ra : Nat) (ha : ra < 32) (rb : Nat) (hb : rb < 32) (t : Tr) (ht : s.regs[rb]? = some t) (c : Int) (tree : ByteArray)
    (hx : l[s.pos]? = some ⟨1, (ra : Nat), (rb : Nat), c, tree⟩) :
    Calls Try.prog 129 #[.pointer (some ⟨gm, 0, none⟩), .pointer (some ⟨gs, 0, none⟩)] w (RStepOk w T gs ⟨s.pos + 1, s.regs.set ra t⟩ (.slice (some ⟨gr, 0, none⟩) s.regs.length cp)) := by
  have hp : s.pos < l.length := (List.getElem?_eq_some_iff.1 hx).1
  obtain ⟨ao, cap, rfl⟩ := hm.prog.len
  have c0 := (block_cells hm.blk).1 0
  simp only [List.getElem?_toArray, List.getElem?_cons_zero] at c0
  have s0 := hs.cells.1
  have hl := hm.prog
  have hlt := hm.lt
  have hgl : gs < w.heap.size := (Array.getElem?_eq_some_iff.1 hs.blk).1
  have hgm : gm < w.heap.size := (Array.getElem?_eq_some_iff.1 hm.blk).1
  have hle := hs.le
  obtain ⟨n, hn'⟩ : ∃ n, l.length = n := ⟨_, rfl⟩
  rw [hn'] at hl c0 hp hn4
  obtain ⟨pg, off, rfl, hpg, p0, p1, p2, p3, p4⟩ := hl.get hx
  dsimp only at p0 p1 p2 p3 p4
  have h32 := hg.2.1
  have HX := Lib.hid hx
  have HN := Lib.hid hn'
  have hi0 : (0 : Int) ≤ (s.pos : Int) := Int.natCast_nonneg _
  have hi1 : (s.pos : Int) < (n : Int) := by omega
  obtain ⟨wd, hwd⟩ : ∃ wd, (w.alloc (.cells #[.int .i64 (1), .int .i64 (ra : Nat), .int .i64 (rb : Nat), .int .i64 (c), .string tree] 52)).drew = wd := ⟨_, rfl⟩
  have hbd : Below w.heap.size w wd := by rw [← hwd]; exact ((Below.refl _ _).alloc (Nat.le_refl _) _).drew
  have hbox : wd.heap[w.heap.size]? = some (.cells #[.int .i64 (1), .int .i64 (ra : Nat), .int .i64 (rb : Nat), .int .i64 (c), .string tree] 52 (0, 0)) := by rw [← hwd]; exact heap_alloc_new w _
  have keep : ∀ w', Below w.heap.size w w' → w'.cell? ⟨gm, 0, none⟩ = some (.slice (some ⟨pg, off, none⟩) n cap) ∧ w'.cell? ⟨gs, 0, none⟩ = some (.int .i64 s.pos) ∧ w'.cell? ⟨pg, off + s.pos * 5, none⟩ = some (.int .i64 (1)) ∧ w'.cell? ⟨pg, off + s.pos * 5 + 1, none⟩ = some (.int .i64 (ra : Nat)) ∧
      w'.cell? ⟨pg, off + s.pos * 5 + 2, none⟩ = some (.int .i64 (rb : Nat)) ∧ w'.cell? ⟨pg, off + s.pos * 5 + 3, none⟩ = some (.int .i64 (c)) ∧ w'.cell? ⟨pg, off + s.pos * 5 + 4, none⟩ = some (.string tree) := fun w' hb => by
    refine ⟨(hb.cell (p := ⟨gm, 0, none⟩) hgm).trans c0, (hb.cell (p := ⟨gs, 0, none⟩) hgl).trans s0, (hb.cell (p := ⟨pg, off + s.pos * 5, none⟩) (by show pg < _; omega)).trans p0, (hb.cell (p := ⟨pg, off + s.pos * 5 + 1, none⟩) (by show pg < _; omega)).trans p1, (hb.cell (p := ⟨pg, off + s.pos * 5 + 2, none⟩) (by show pg < _; omega)).trans p2, (hb.cell (p := ⟨pg, off + s.pos * 5 + 3, none⟩) (by show pg < _; omega)).trans p3, (hb.cell (p := ⟨pg, off + s.pos * 5 + 4, none⟩) (by show pg < _; omega)).trans p4⟩
  have hsd := hs.kept hbd
  obtain ⟨d0, d1, df, dr, drf⟩ := hsd.cells
  have kkd := Kept.below hbd (T := 69)
  have e0 := (block_cells hbox).1 0
  have e1 := (block_cells hbox).1 1
  have e2 := (block_cells hbox).1 2
  have e3 := (block_cells hbox).1 3
  simp only [List.getElem?_toArray, List.getElem?_cons_zero, List.getElem?_cons_succ] at e0 e1 e2 e3
  have hbl : w.heap.size < wd.heap.size := (Array.getElem?_eq_some_iff.1 hbox).1
  have hbT : Below T w wd := hbd.mono (by omega)
  have HSD := Lib.hid hsd
  have hap1 : ¬ gs = gr := hsd.apart
  have hap2 : ¬ gr = gs := fun h => hap1 h.symm
  have hrl := hsd.rlt
  rw [h32] at d1
  clear hsd hbox
  obtain ⟨tra, htra⟩ : ∃ t, s.regs[ra]? = some t := ⟨_, List.getElem?_eq_getElem (by omega)⟩
  obtain ⟨qra, fra, nra⟩ := dr ra tra htra
  have zra := drf ra
  obtain ⟨qb, fb, nb⟩ := dr rb t ht

  clear hm hs hg hl hx hn' hle hpg
  go_enter Try.func129, Try.ntmps129
  go_wp2
  go_region_held3 (fun w' => w'.cell? ⟨gm, 0, none⟩ = some (.slice (some ⟨pg, off, none⟩) n cap) ∧ w'.cell? ⟨gs, 0, none⟩ = some (.int .i64 s.pos) ∧ w'.cell? ⟨pg, off + s.pos * 5, none⟩ = some (.int .i64 (1)) ∧ w'.cell? ⟨pg, off + s.pos * 5 + 1, none⟩ = some (.int .i64 (ra : Nat)) ∧
      w'.cell? ⟨pg, off + s.pos * 5 + 2, none⟩ = some (.int .i64 (rb : Nat)) ∧ w'.cell? ⟨pg, off + s.pos * 5 + 3, none⟩ = some (.int .i64 (c)) ∧ w'.cell? ⟨pg, off + s.pos * 5 + 4, none⟩ = some (.string tree))
    (exact keep _ (by first | exact hbd | exact (Below.refl _ _).drew | exact ((Below.refl _ _).drew).alloc (Nat.le_refl _) _))
    (fail)
  try rw [hwd]
  clear keep hwd p0 p1 p2 p3 p4 c0 s0
  have HND := Lib.hid nb
  have df0 := df 0
  clear dr df drf nb nra
  go_wp2
  go_region
  go_wp2
  go_ret
  refine RStepOk.mk' rfl ?_
  first
  | exact rstep_fin_drew (rstep_fin HSD.out hbT kkd ra HND.out hgr _ _ (by omega))
  | exact rstep_fin (HSD.out.kept (Below.refl _ _).drew) hbT.drew kkd.drew ra (HND.out.kept (Kept.refl _ _).drew) hgr _ _ (by omega)

set_option maxRecDepth 20000 in
set_option maxHeartbeats 4000000 in
theorem rstep_head (w : World) (T gm gs gr cp : Nat) (l : List Ins) (s : St) (pv tv : Value) (ps : List Value) (hm : RMachP w T gm l pv tv) (hs : RStP w T gs s (.slice (some ⟨gr, 0, none⟩) s.regs.length cp) ps) (hgr : T ≤ gr) (hg : Good l.length s) (hn4 : l.length ≤ 4000) (ra : Nat) (ha : ra < 32) (rb : Nat) (hb : rb < 32) (t : Tr) (ht : s.regs[rb]? = some t) (c : Int) (tree : ByteArray)
    (hx : l[s.pos]? = some ⟨3, (ra : Nat), (rb : Nat), c, tree⟩) :
    Calls Try.prog 129 #[.pointer (some ⟨gm, 0, none⟩), .pointer (some ⟨gs, 0, none⟩)] w (RStepOk w T gs ⟨s.pos + 1, s.regs.set ra t.hd⟩ (.slice (some ⟨gr, 0, none⟩) s.regs.length cp)) := by
  have hp : s.pos < l.length := (List.getElem?_eq_some_iff.1 hx).1
  obtain ⟨ao, cap, rfl⟩ := hm.prog.len
  have c0 := (block_cells hm.blk).1 0
  simp only [List.getElem?_toArray, List.getElem?_cons_zero] at c0
  have s0 := hs.cells.1
  have hl := hm.prog
  have hlt := hm.lt
  have hgl : gs < w.heap.size := (Array.getElem?_eq_some_iff.1 hs.blk).1
  have hgm : gm < w.heap.size := (Array.getElem?_eq_some_iff.1 hm.blk).1
  have hle := hs.le
  obtain ⟨n, hn'⟩ : ∃ n, l.length = n := ⟨_, rfl⟩
  rw [hn'] at hl c0 hp hn4
  obtain ⟨pg, off, rfl, hpg, p0, p1, p2, p3, p4⟩ := hl.get hx
  dsimp only at p0 p1 p2 p3 p4
  have h32 := hg.2.1
  have HX := Lib.hid hx
  have HN := Lib.hid hn'
  have hi0 : (0 : Int) ≤ (s.pos : Int) := Int.natCast_nonneg _
  have hi1 : (s.pos : Int) < (n : Int) := by omega
  obtain ⟨wd, hwd⟩ : ∃ wd, (w.alloc (.cells #[.int .i64 (3), .int .i64 (ra : Nat), .int .i64 (rb : Nat), .int .i64 (c), .string tree] 52)).drew = wd := ⟨_, rfl⟩
  have hbd : Below w.heap.size w wd := by rw [← hwd]; exact ((Below.refl _ _).alloc (Nat.le_refl _) _).drew
  have hbox : wd.heap[w.heap.size]? = some (.cells #[.int .i64 (3), .int .i64 (ra : Nat), .int .i64 (rb : Nat), .int .i64 (c), .string tree] 52 (0, 0)) := by rw [← hwd]; exact heap_alloc_new w _
  have keep : ∀ w', Below w.heap.size w w' → w'.cell? ⟨gm, 0, none⟩ = some (.slice (some ⟨pg, off, none⟩) n cap) ∧ w'.cell? ⟨gs, 0, none⟩ = some (.int .i64 s.pos) ∧ w'.cell? ⟨pg, off + s.pos * 5, none⟩ = some (.int .i64 (3)) ∧ w'.cell? ⟨pg, off + s.pos * 5 + 1, none⟩ = some (.int .i64 (ra : Nat)) ∧
      w'.cell? ⟨pg, off + s.pos * 5 + 2, none⟩ = some (.int .i64 (rb : Nat)) ∧ w'.cell? ⟨pg, off + s.pos * 5 + 3, none⟩ = some (.int .i64 (c)) ∧ w'.cell? ⟨pg, off + s.pos * 5 + 4, none⟩ = some (.string tree) := fun w' hb => by
    refine ⟨(hb.cell (p := ⟨gm, 0, none⟩) hgm).trans c0, (hb.cell (p := ⟨gs, 0, none⟩) hgl).trans s0, (hb.cell (p := ⟨pg, off + s.pos * 5, none⟩) (by show pg < _; omega)).trans p0, (hb.cell (p := ⟨pg, off + s.pos * 5 + 1, none⟩) (by show pg < _; omega)).trans p1, (hb.cell (p := ⟨pg, off + s.pos * 5 + 2, none⟩) (by show pg < _; omega)).trans p2, (hb.cell (p := ⟨pg, off + s.pos * 5 + 3, none⟩) (by show pg < _; omega)).trans p3, (hb.cell (p := ⟨pg, off + s.pos * 5 + 4, none⟩) (by show pg < _; omega)).trans p4⟩
  have hsd := hs.kept hbd
  obtain ⟨d0, d1, df, dr, drf⟩ := hsd.cells
  have kkd := Kept.below hbd (T := 69)
  have e0 := (block_cells hbox).1 0
  have e1 := (block_cells hbox).1 1
  have e2 := (block_cells hbox).1 2
  have e3 := (block_cells hbox).1 3
  simp only [List.getElem?_toArray, List.getElem?_cons_zero, List.getElem?_cons_succ] at e0 e1 e2 e3
  have hbl : w.heap.size < wd.heap.size := (Array.getElem?_eq_some_iff.1 hbox).1
  have hbT : Below T w wd := hbd.mono (by omega)
  have HSD := Lib.hid hsd
  have hap1 : ¬ gs = gr := hsd.apart
  have hap2 : ¬ gr = gs := fun h => hap1 h.symm
  have hrl := hsd.rlt
  rw [h32] at d1
  clear hsd hbox
  obtain ⟨tra, htra⟩ : ∃ t, s.regs[ra]? = some t := ⟨_, List.getElem?_eq_getElem (by omega)⟩
  obtain ⟨qra, fra, nra⟩ := dr ra tra htra
  have zra := drf ra
  obtain ⟨qb, fb, nb⟩ := dr rb t ht

  clear hm hs hg hl hx hn' hle hpg
  go_enter Try.func129, Try.ntmps129
  go_wp2
  go_region_held3 (fun w' => w'.cell? ⟨gm, 0, none⟩ = some (.slice (some ⟨pg, off, none⟩) n cap) ∧ w'.cell? ⟨gs, 0, none⟩ = some (.int .i64 s.pos) ∧ w'.cell? ⟨pg, off + s.pos * 5, none⟩ = some (.int .i64 (3)) ∧ w'.cell? ⟨pg, off + s.pos * 5 + 1, none⟩ = some (.int .i64 (ra : Nat)) ∧
      w'.cell? ⟨pg, off + s.pos * 5 + 2, none⟩ = some (.int .i64 (rb : Nat)) ∧ w'.cell? ⟨pg, off + s.pos * 5 + 3, none⟩ = some (.int .i64 (c)) ∧ w'.cell? ⟨pg, off + s.pos * 5 + 4, none⟩ = some (.string tree))
    (exact keep _ (by first | exact hbd | exact (Below.refl _ _).drew | exact ((Below.refl _ _).drew).alloc (Nat.le_refl _) _))
    (fail)
  try rw [hwd]
  clear keep hwd p0 p1 p2 p3 p4 c0 s0
  obtain ⟨xq, nxq, kx⟩ := rnodeHead_at t _ wd nb
  have kx1 := kx wd.drew (Kept.refl _ _).drew
  have HND := Lib.hid nxq
  have df0 := df 0
  have ib0 : (0 : Int) ≤ (rb : Int) := Int.natCast_nonneg _
  have ib1 : (rb : Int) < 32 := by omega
  have ia0 : (0 : Int) ≤ (ra : Int) := Int.natCast_nonneg _
  have ia1 : (ra : Int) < 32 := by omega
  clear dr df drf nb nra nxq kx
  go_wp2
  refine wp_region_still_tail 16 (by kernel_rfl) (by kernel_rfl) ?_
  simp only [List.take_succ_cons, List.take_zero, List.drop_succ_cons, List.drop_zero]
  repeat still_step
  still_call kx1
  repeat still_step
  try refine wpStill_nil ?_
  go_wp2
  go_ret
  refine RStepOk.mk' rfl ?_
  first
  | exact rstep_fin_drew (rstep_fin HSD.out hbT kkd ra HND.out hgr _ _ (by omega))
  | exact rstep_fin (HSD.out.kept (Below.refl _ _).drew) hbT.drew kkd.drew ra (HND.out.kept (Kept.refl _ _).drew) hgr _ _ (by omega)

set_option maxRecDepth 20000 in
set_option maxHeartbeats 4000000 in
theorem rstep_tail (w : World) (T gm gs gr cp : Nat) (l : List Ins) (s : St) (pv tv : Value) (ps : List Value) (hm : RMachP w T gm l pv tv) (hs : RStP w T gs s (.slice (some ⟨gr, 0, none⟩) s.regs.length cp) ps) (hgr : T ≤ gr) (hg : Good l.length s) (hn4 : l.length ≤ 4000) (ra : Nat) (ha : ra < 32) (rb : Nat) (hb : rb < 32) (t : Tr) (ht : s.regs[rb]? = some t) (c : Int) (tree : ByteArray)
    (hx : l[s.pos]? = some ⟨4, (ra : Nat), (rb : Nat), c, tree⟩) :
    Calls Try.prog 129 #[.pointer (some ⟨gm, 0, none⟩), .pointer (some ⟨gs, 0, none⟩)] w (RStepOk w T gs ⟨s.pos + 1, s.regs.set ra t.tl⟩ (.slice (some ⟨gr, 0, none⟩) s.regs.length cp)) := by
  have hp : s.pos < l.length := (List.getElem?_eq_some_iff.1 hx).1
  obtain ⟨ao, cap, rfl⟩ := hm.prog.len
  have c0 := (block_cells hm.blk).1 0
  simp only [List.getElem?_toArray, List.getElem?_cons_zero] at c0
  have s0 := hs.cells.1
  have hl := hm.prog
  have hlt := hm.lt
  have hgl : gs < w.heap.size := (Array.getElem?_eq_some_iff.1 hs.blk).1
  have hgm : gm < w.heap.size := (Array.getElem?_eq_some_iff.1 hm.blk).1
  have hle := hs.le
  obtain ⟨n, hn'⟩ : ∃ n, l.length = n := ⟨_, rfl⟩
  rw [hn'] at hl c0 hp hn4
  obtain ⟨pg, off, rfl, hpg, p0, p1, p2, p3, p4⟩ := hl.get hx
  dsimp only at p0 p1 p2 p3 p4
  have h32 := hg.2.1
  have HX := Lib.hid hx
  have HN := Lib.hid hn'
  have hi0 : (0 : Int) ≤ (s.pos : Int) := Int.natCast_nonneg _
  have hi1 : (s.pos : Int) < (n : Int) := by omega
  obtain ⟨wd, hwd⟩ : ∃ wd, (w.alloc (.cells #[.int .i64 (4), .int .i64 (ra : Nat), .int .i64 (rb : Nat), .int .i64 (c), .string tree] 52)).drew = wd := ⟨_, rfl⟩
  have hbd : Below w.heap.size w wd := by rw [← hwd]; exact ((Below.refl _ _).alloc (Nat.le_refl _) _).drew
  have hbox : wd.heap[w.heap.size]? = some (.cells #[.int .i64 (4), .int .i64 (ra : Nat), .int .i64 (rb : Nat), .int .i64 (c), .string tree] 52 (0, 0)) := by rw [← hwd]; exact heap_alloc_new w _
  have keep : ∀ w', Below w.heap.size w w' → w'.cell? ⟨gm, 0, none⟩ = some (.slice (some ⟨pg, off, none⟩) n cap) ∧ w'.cell? ⟨gs, 0, none⟩ = some (.int .i64 s.pos) ∧ w'.cell? ⟨pg, off + s.pos * 5, none⟩ = some (.int .i64 (4)) ∧ w'.cell? ⟨pg, off + s.pos * 5 + 1, none⟩ = some (.int .i64 (ra : Nat)) ∧
      w'.cell? ⟨pg, off + s.pos * 5 + 2, none⟩ = some (.int .i64 (rb : Nat)) ∧ w'.cell? ⟨pg, off + s.pos * 5 + 3, none⟩ = some (.int .i64 (c)) ∧ w'.cell? ⟨pg, off + s.pos * 5 + 4, none⟩ = some (.string tree) := fun w' hb => by
    refine ⟨(hb.cell (p := ⟨gm, 0, none⟩) hgm).trans c0, (hb.cell (p := ⟨gs, 0, none⟩) hgl).trans s0, (hb.cell (p := ⟨pg, off + s.pos * 5, none⟩) (by show pg < _; omega)).trans p0, (hb.cell (p := ⟨pg, off + s.pos * 5 + 1, none⟩) (by show pg < _; omega)).trans p1, (hb.cell (p := ⟨pg, off + s.pos * 5 + 2, none⟩) (by show pg < _; omega)).trans p2, (hb.cell (p := ⟨pg, off + s.pos * 5 + 3, none⟩) (by show pg < _; omega)).trans p3, (hb.cell (p := ⟨pg, off + s.pos * 5 + 4, none⟩) (by show pg < _; omega)).trans p4⟩
  have hsd := hs.kept hbd
  obtain ⟨d0, d1, df, dr, drf⟩ := hsd.cells
  have kkd := Kept.below hbd (T := 69)
  have e0 := (block_cells hbox).1 0
  have e1 := (block_cells hbox).1 1
  have e2 := (block_cells hbox).1 2
  have e3 := (block_cells hbox).1 3
  simp only [List.getElem?_toArray, List.getElem?_cons_zero, List.getElem?_cons_succ] at e0 e1 e2 e3
  have hbl : w.heap.size < wd.heap.size := (Array.getElem?_eq_some_iff.1 hbox).1
  have hbT : Below T w wd := hbd.mono (by omega)
  have HSD := Lib.hid hsd
  have hap1 : ¬ gs = gr := hsd.apart
  have hap2 : ¬ gr = gs := fun h => hap1 h.symm
  have hrl := hsd.rlt
  rw [h32] at d1
  clear hsd hbox
  obtain ⟨tra, htra⟩ : ∃ t, s.regs[ra]? = some t := ⟨_, List.getElem?_eq_getElem (by omega)⟩
  obtain ⟨qra, fra, nra⟩ := dr ra tra htra
  have zra := drf ra
  obtain ⟨qb, fb, nb⟩ := dr rb t ht

  clear hm hs hg hl hx hn' hle hpg
  go_enter Try.func129, Try.ntmps129
  go_wp2
  go_region_held3 (fun w' => w'.cell? ⟨gm, 0, none⟩ = some (.slice (some ⟨pg, off, none⟩) n cap) ∧ w'.cell? ⟨gs, 0, none⟩ = some (.int .i64 s.pos) ∧ w'.cell? ⟨pg, off + s.pos * 5, none⟩ = some (.int .i64 (4)) ∧ w'.cell? ⟨pg, off + s.pos * 5 + 1, none⟩ = some (.int .i64 (ra : Nat)) ∧
      w'.cell? ⟨pg, off + s.pos * 5 + 2, none⟩ = some (.int .i64 (rb : Nat)) ∧ w'.cell? ⟨pg, off + s.pos * 5 + 3, none⟩ = some (.int .i64 (c)) ∧ w'.cell? ⟨pg, off + s.pos * 5 + 4, none⟩ = some (.string tree))
    (exact keep _ (by first | exact hbd | exact (Below.refl _ _).drew | exact ((Below.refl _ _).drew).alloc (Nat.le_refl _) _))
    (fail)
  try rw [hwd]
  clear keep hwd p0 p1 p2 p3 p4 c0 s0
  obtain ⟨xq, nxq, kx⟩ := rnodeTail_at t _ wd nb
  have kx1 := kx wd.drew (Kept.refl _ _).drew
  have HND := Lib.hid nxq
  have df0 := df 0
  have ib0 : (0 : Int) ≤ (rb : Int) := Int.natCast_nonneg _
  have ib1 : (rb : Int) < 32 := by omega
  have ia0 : (0 : Int) ≤ (ra : Int) := Int.natCast_nonneg _
  have ia1 : (ra : Int) < 32 := by omega
  clear dr df drf nb nra nxq kx
  go_wp2
  refine wp_region_still_tail 16 (by kernel_rfl) (by kernel_rfl) ?_
  simp only [List.take_succ_cons, List.take_zero, List.drop_succ_cons, List.drop_zero]
  repeat still_step
  still_call kx1
  repeat still_step
  try refine wpStill_nil ?_
  go_wp2
  go_ret
  refine RStepOk.mk' rfl ?_
  first
  | exact rstep_fin_drew (rstep_fin HSD.out hbT kkd ra HND.out hgr _ _ (by omega))
  | exact rstep_fin (HSD.out.kept (Below.refl _ _).drew) hbT.drew kkd.drew ra (HND.out.kept (Kept.refl _ _).drew) hgr _ _ (by omega)

set_option maxRecDepth 20000 in
set_option maxHeartbeats 4000000 in
theorem rstep_cons_ok (w : World) (T gm gs gr cp : Nat) (l : List Ins) (s : St) (pv tv : Value) (ps : List Value) (hm : RMachP w T gm l pv tv) (hs : RStP w T gs s (.slice (some ⟨gr, 0, none⟩) s.regs.length cp) ps) (hgr : T ≤ gr) (hg : Good l.length s) (hn4 : l.length ≤ 4000) (ra : Nat) (ha : ra < 32) (rb : Nat) (hb : rb < 32) (rc : Nat) (hc : rc < 32) (t : Tr) (ht : s.regs[rb]? = some t) (u : Tr) (hu : s.regs[rc]? = some u) (tree : ByteArray) (hsz : (Tr.pair t u).size ≤ 2000000)
    (hx : l[s.pos]? = some ⟨2, (ra : Nat), (rb : Nat), (rc : Nat), tree⟩) :
    Calls Try.prog 129 #[.pointer (some ⟨gm, 0, none⟩), .pointer (some ⟨gs, 0, none⟩)] w (RStepOk w T gs ⟨s.pos + 1, s.regs.set ra (.pair t u)⟩ (.slice (some ⟨gr, 0, none⟩) s.regs.length cp)) := by
  have hp : s.pos < l.length := (List.getElem?_eq_some_iff.1 hx).1
  obtain ⟨ao, cap, rfl⟩ := hm.prog.len
  have c0 := (block_cells hm.blk).1 0
  simp only [List.getElem?_toArray, List.getElem?_cons_zero] at c0
  have s0 := hs.cells.1
  have hl := hm.prog
  have hlt := hm.lt
  have hgl : gs < w.heap.size := (Array.getElem?_eq_some_iff.1 hs.blk).1
  have hgm : gm < w.heap.size := (Array.getElem?_eq_some_iff.1 hm.blk).1
  have hle := hs.le
  obtain ⟨n, hn'⟩ : ∃ n, l.length = n := ⟨_, rfl⟩
  rw [hn'] at hl c0 hp hn4
  obtain ⟨pg, off, rfl, hpg, p0, p1, p2, p3, p4⟩ := hl.get hx
  dsimp only at p0 p1 p2 p3 p4
  have h32 := hg.2.1
  have HX := Lib.hid hx
  have HN := Lib.hid hn'
  have hi0 : (0 : Int) ≤ (s.pos : Int) := Int.natCast_nonneg _
  have hi1 : (s.pos : Int) < (n : Int) := by omega
  obtain ⟨wd, hwd⟩ : ∃ wd, (w.alloc (.cells #[.int .i64 (2), .int .i64 (ra : Nat), .int .i64 (rb : Nat), .int .i64 (rc : Nat), .string tree] 52)).drew = wd := ⟨_, rfl⟩
  have hbd : Below w.heap.size w wd := by rw [← hwd]; exact ((Below.refl _ _).alloc (Nat.le_refl _) _).drew
  have hbox : wd.heap[w.heap.size]? = some (.cells #[.int .i64 (2), .int .i64 (ra : Nat), .int .i64 (rb : Nat), .int .i64 (rc : Nat), .string tree] 52 (0, 0)) := by rw [← hwd]; exact heap_alloc_new w _
  have keep : ∀ w', Below w.heap.size w w' → w'.cell? ⟨gm, 0, none⟩ = some (.slice (some ⟨pg, off, none⟩) n cap) ∧ w'.cell? ⟨gs, 0, none⟩ = some (.int .i64 s.pos) ∧ w'.cell? ⟨pg, off + s.pos * 5, none⟩ = some (.int .i64 (2)) ∧ w'.cell? ⟨pg, off + s.pos * 5 + 1, none⟩ = some (.int .i64 (ra : Nat)) ∧
      w'.cell? ⟨pg, off + s.pos * 5 + 2, none⟩ = some (.int .i64 (rb : Nat)) ∧ w'.cell? ⟨pg, off + s.pos * 5 + 3, none⟩ = some (.int .i64 (rc : Nat)) ∧ w'.cell? ⟨pg, off + s.pos * 5 + 4, none⟩ = some (.string tree) := fun w' hb => by
    refine ⟨(hb.cell (p := ⟨gm, 0, none⟩) hgm).trans c0, (hb.cell (p := ⟨gs, 0, none⟩) hgl).trans s0, (hb.cell (p := ⟨pg, off + s.pos * 5, none⟩) (by show pg < _; omega)).trans p0, (hb.cell (p := ⟨pg, off + s.pos * 5 + 1, none⟩) (by show pg < _; omega)).trans p1, (hb.cell (p := ⟨pg, off + s.pos * 5 + 2, none⟩) (by show pg < _; omega)).trans p2, (hb.cell (p := ⟨pg, off + s.pos * 5 + 3, none⟩) (by show pg < _; omega)).trans p3, (hb.cell (p := ⟨pg, off + s.pos * 5 + 4, none⟩) (by show pg < _; omega)).trans p4⟩
  have hsd := hs.kept hbd
  obtain ⟨d0, d1, df, dr, drf⟩ := hsd.cells
  have kkd := Kept.below hbd (T := 69)
  have e0 := (block_cells hbox).1 0
  have e1 := (block_cells hbox).1 1
  have e2 := (block_cells hbox).1 2
  have e3 := (block_cells hbox).1 3
  simp only [List.getElem?_toArray, List.getElem?_cons_zero, List.getElem?_cons_succ] at e0 e1 e2 e3
  have hbl : w.heap.size < wd.heap.size := (Array.getElem?_eq_some_iff.1 hbox).1
  have hbT : Below T w wd := hbd.mono (by omega)
  have HSD := Lib.hid hsd
  have hap1 : ¬ gs = gr := hsd.apart
  have hap2 : ¬ gr = gs := fun h => hap1 h.symm
  have hrl := hsd.rlt
  rw [h32] at d1
  clear hsd hbox
  have ib0 : (0 : Int) ≤ (rb : Int) := Int.natCast_nonneg _
  have ib1 : (rb : Int) < 32 := by omega
  have ic0 : (0 : Int) ≤ (rc : Int) := Int.natCast_nonneg _
  have ic1 : (rc : Int) < 32 := by omega
  obtain ⟨qb, fb, nb⟩ := dr rb t ht
  obtain ⟨qc, fc, nc⟩ := dr rc u hu
  have h1 := Lib.hid (hg.2.2 _ (List.mem_of_getElem? ht))
  have h2 := Lib.hid (hg.2.2 _ (List.mem_of_getElem? hu))

  clear hm hs hg hl hx hn' hle hpg
  go_enter Try.func129, Try.ntmps129
  go_wp2
  go_region_held3 (fun w' => w'.cell? ⟨gm, 0, none⟩ = some (.slice (some ⟨pg, off, none⟩) n cap) ∧ w'.cell? ⟨gs, 0, none⟩ = some (.int .i64 s.pos) ∧ w'.cell? ⟨pg, off + s.pos * 5, none⟩ = some (.int .i64 (2)) ∧ w'.cell? ⟨pg, off + s.pos * 5 + 1, none⟩ = some (.int .i64 (ra : Nat)) ∧
      w'.cell? ⟨pg, off + s.pos * 5 + 2, none⟩ = some (.int .i64 (rb : Nat)) ∧ w'.cell? ⟨pg, off + s.pos * 5 + 3, none⟩ = some (.int .i64 (rc : Nat)) ∧ w'.cell? ⟨pg, off + s.pos * 5 + 4, none⟩ = some (.string tree))
    (exact keep _ (by first | exact hbd | exact (Below.refl _ _).drew | exact ((Below.refl _ _).drew).alloc (Nat.le_refl _) _))
    (fail)
  try rw [hwd]
  clear keep hwd p0 p1 p2 p3 p4 c0 s0
  have HNB := Lib.hid nb
  have HNC := Lib.hid nc
  have kc : ∀ w', Below wd.heap.size wd w' → Calls Try.prog 51 #[.pointer qb, .pointer qc] w' fun e w'' => ∃ p, e = .returned (.pointer (some p)) ∧ Hid (NodeP 69 w'' (.pair t u) (.pointer (some p))) ∧ Below wd.heap.size wd w'' := fun w' hb' => by
    refine (rnodeCons_ok t u _ _ w' (HNB.out.kept (Kept.below hb')) (HNC.out.kept (Kept.below hb')) (by have := h1.out; omega) (by have := h2.out; omega)).mono ?_
    rintro e w'' ⟨p, he, hp, hb2⟩
    exact ⟨p, he, hp, hb'.trans (hb2.mono hb'.size)⟩
  have keep2 : ∀ w', Below wd.heap.size wd w' → w'.cell? ⟨w.heap.size, 2, none⟩ = some (.int .i64 (rb : Nat)) ∧ w'.cell? ⟨w.heap.size, 3, none⟩ = some (.int .i64 (rc : Nat)) ∧ w'.cell? ⟨gr, rb, none⟩ = some (.pointer qb) ∧ w'.cell? ⟨gr, rc, none⟩ = some (.pointer qc) ∧ w'.cell? ⟨gs, 1, none⟩ = some (.slice (some ⟨gr, 0, none⟩) 32 cp) := fun w' hb' =>
    ⟨(hb'.cell (p := ⟨w.heap.size, 2, none⟩) hbl).trans e2, (hb'.cell (p := ⟨w.heap.size, 3, none⟩) hbl).trans e3, (hb'.cell (p := ⟨gr, rb, none⟩) hrl).trans fb, (hb'.cell (p := ⟨gr, rc, none⟩) hrl).trans fc, (hb'.cell (p := ⟨gs, 1, none⟩) (by show gs < _; omega)).trans d1⟩
  clear dr df drf nb nc
  have HSZ := Lib.hid hsz
  clear hsz
  go_wp2
  go_region_held3 (fun w' => w'.cell? ⟨w.heap.size, 2, none⟩ = some (.int .i64 (rb : Nat)) ∧ w'.cell? ⟨w.heap.size, 3, none⟩ = some (.int .i64 (rc : Nat)) ∧ w'.cell? ⟨gr, rb, none⟩ = some (.pointer qb) ∧ w'.cell? ⟨gr, rc, none⟩ = some (.pointer qc) ∧ w'.cell? ⟨gs, 1, none⟩ = some (.slice (some ⟨gr, 0, none⟩) 32 cp))
    (exact keep2 _ (by first | exact (Below.refl _ _) | exact (Below.refl _ _).drew | exact hb2 | exact hb2.drew))
    ((refine (kc _ (by first | exact Below.refl _ _ | exact (Below.refl _ _).drew)).mono ?_; rintro e w2 ⟨⟨xb, xo, xf⟩, rfl, hnx, hb2⟩))
  all_goals
    obtain ⟨gx, x1, x2, hgx, hblk, _, _⟩ := hnx.out
    simp only [Value.pointer.injEq, Option.some.injEq, Addr.mk.injEq] at hgx
    obtain ⟨rfl, rfl, rfl⟩ := hgx
    have cx := (block_cells hblk).1 2
    simp only [List.getElem?_toArray, List.getElem?_cons_zero, List.getElem?_cons_succ] at cx
    have hsz1 := (Tr.pair t u).size_pos
    have hs1 : ((Tr.pair t u).size : Int) ≤ 4000001 := by have := h1.out; have := h2.out; simp only [Tr.size]; omega
    have hsd2 := HSD.out.kept hb2
    obtain ⟨k0, k1, kf, kr, krf⟩ := hsd2.cells
    rw [h32] at k1
    have htest : ((Tr.pair t u).size : Int) ≤ 2000000 := by have := HSZ.out; omega
    obtain ⟨ta, hta⟩ : ∃ t, s.regs[ra]? = some t := ⟨_, List.getElem?_eq_getElem (by omega)⟩
    obtain ⟨qa, fa, na⟩ := kr ra ta hta
    have za := krf ra
    have kf0 := kf 0
    have ia0 : (0 : Int) ≤ (ra : Int) := Int.natCast_nonneg _
    have ia1 : (ra : Int) < 32 := by omega
    have b1 := (hb2.cell (p := ⟨w.heap.size, 1, none⟩) hbl).trans e1
    have HS2 := Lib.hid hsd2
    have hbe := hbd.trans (hb2.mono hbd.size)
    have HBE := Lib.hid hbe
    have hbT2 : Below T w w2 := hbT.trans (hb2.mono (by omega))
    have HBT2 := Lib.hid hbT2
    generalize hPS : (Tr.pair t u).size = psz at *
    clear kr kf krf hsd2 keep2 kc e0 e1 e2 e3 d0 d1 na hta hb2 hblk
    try clear fb fc
    go_wp2
    go_region
    go_wp2
    go_ret
    refine RStepOk.mk' rfl ?_
    first
    | exact rstep_fin_drew (rstep_fin HS2.out HBT2.out (Kept.below HBE.out) ra hnx.out hgr _ _ (by omega))
    | exact rstep_fin (HS2.out.kept (Below.refl _ _).drew) HBT2.out.drew (Kept.below HBE.out).drew ra (hnx.out.kept (Kept.refl _ _).drew) hgr _ _ (by omega)

set_option maxRecDepth 20000 in
set_option maxHeartbeats 4000000 in
theorem rstep_cons_big (w : World) (T gm gs gr cp : Nat) (l : List Ins) (s : St) (pv tv : Value) (ps : List Value) (hm : RMachP w T gm l pv tv) (hs : RStP w T gs s (.slice (some ⟨gr, 0, none⟩) s.regs.length cp) ps) (hgr : T ≤ gr) (hg : Good l.length s) (hn4 : l.length ≤ 4000) (ra : Nat) (ha : ra < 32) (rb : Nat) (hb : rb < 32) (rc : Nat) (hc : rc < 32) (t : Tr) (ht : s.regs[rb]? = some t) (u : Tr) (hu : s.regs[rc]? = some u) (tree : ByteArray) (hsz : 2000000 < (Tr.pair t u).size)
    (hx : l[s.pos]? = some ⟨2, (ra : Nat), (rb : Nat), (rc : Nat), tree⟩) :
    Calls Try.prog 129 #[.pointer (some ⟨gm, 0, none⟩), .pointer (some ⟨gs, 0, none⟩)] w (fun e w' => e = .returned (.bool false) ∧ (∃ ps', RStP w' T gs s (.slice (some ⟨gr, 0, none⟩) s.regs.length cp) ps') ∧ Below T w w' ∧ Kept 69 w w') := by
  have hp : s.pos < l.length := (List.getElem?_eq_some_iff.1 hx).1
  obtain ⟨ao, cap, rfl⟩ := hm.prog.len
  have c0 := (block_cells hm.blk).1 0
  simp only [List.getElem?_toArray, List.getElem?_cons_zero] at c0
  have s0 := hs.cells.1
  have hl := hm.prog
  have hlt := hm.lt
  have hgl : gs < w.heap.size := (Array.getElem?_eq_some_iff.1 hs.blk).1
  have hgm : gm < w.heap.size := (Array.getElem?_eq_some_iff.1 hm.blk).1
  have hle := hs.le
  obtain ⟨n, hn'⟩ : ∃ n, l.length = n := ⟨_, rfl⟩
  rw [hn'] at hl c0 hp hn4
  obtain ⟨pg, off, rfl, hpg, p0, p1, p2, p3, p4⟩ := hl.get hx
  dsimp only at p0 p1 p2 p3 p4
  have h32 := hg.2.1
  have HX := Lib.hid hx
  have HN := Lib.hid hn'
  have hi0 : (0 : Int) ≤ (s.pos : Int) := Int.natCast_nonneg _
  have hi1 : (s.pos : Int) < (n : Int) := by omega
  obtain ⟨wd, hwd⟩ : ∃ wd, (w.alloc (.cells #[.int .i64 (2), .int .i64 (ra : Nat), .int .i64 (rb : Nat), .int .i64 (rc : Nat), .string tree] 52)).drew = wd := ⟨_, rfl⟩
  have hbd : Below w.heap.size w wd := by rw [← hwd]; exact ((Below.refl _ _).alloc (Nat.le_refl _) _).drew
  have hbox : wd.heap[w.heap.size]? = some (.cells #[.int .i64 (2), .int .i64 (ra : Nat), .int .i64 (rb : Nat), .int .i64 (rc : Nat), .string tree] 52 (0, 0)) := by rw [← hwd]; exact heap_alloc_new w _
  have keep : ∀ w', Below w.heap.size w w' → w'.cell? ⟨gm, 0, none⟩ = some (.slice (some ⟨pg, off, none⟩) n cap) ∧ w'.cell? ⟨gs, 0, none⟩ = some (.int .i64 s.pos) ∧ w'.cell? ⟨pg, off + s.pos * 5, none⟩ = some (.int .i64 (2)) ∧ w'.cell? ⟨pg, off + s.pos * 5 + 1, none⟩ = some (.int .i64 (ra : Nat)) ∧
      w'.cell? ⟨pg, off + s.pos * 5 + 2, none⟩ = some (.int .i64 (rb : Nat)) ∧ w'.cell? ⟨pg, off + s.pos * 5 + 3, none⟩ = some (.int .i64 (rc : Nat)) ∧ w'.cell? ⟨pg, off + s.pos * 5 + 4, none⟩ = some (.string tree) := fun w' hb => by
    refine ⟨(hb.cell (p := ⟨gm, 0, none⟩) hgm).trans c0, (hb.cell (p := ⟨gs, 0, none⟩) hgl).trans s0, (hb.cell (p := ⟨pg, off + s.pos * 5, none⟩) (by show pg < _; omega)).trans p0, (hb.cell (p := ⟨pg, off + s.pos * 5 + 1, none⟩) (by show pg < _; omega)).trans p1, (hb.cell (p := ⟨pg, off + s.pos * 5 + 2, none⟩) (by show pg < _; omega)).trans p2, (hb.cell (p := ⟨pg, off + s.pos * 5 + 3, none⟩) (by show pg < _; omega)).trans p3, (hb.cell (p := ⟨pg, off + s.pos * 5 + 4, none⟩) (by show pg < _; omega)).trans p4⟩
  have hsd := hs.kept hbd
  obtain ⟨d0, d1, df, dr, drf⟩ := hsd.cells
  have kkd := Kept.below hbd (T := 69)
  have e0 := (block_cells hbox).1 0
  have e1 := (block_cells hbox).1 1
  have e2 := (block_cells hbox).1 2
  have e3 := (block_cells hbox).1 3
  simp only [List.getElem?_toArray, List.getElem?_cons_zero, List.getElem?_cons_succ] at e0 e1 e2 e3
  have hbl : w.heap.size < wd.heap.size := (Array.getElem?_eq_some_iff.1 hbox).1
  have hbT : Below T w wd := hbd.mono (by omega)
  have HSD := Lib.hid hsd
  have hap1 : ¬ gs = gr := hsd.apart
  have hap2 : ¬ gr = gs := fun h => hap1 h.symm
  have hrl := hsd.rlt
  rw [h32] at d1
  clear hsd hbox
  have ib0 : (0 : Int) ≤ (rb : Int) := Int.natCast_nonneg _
  have ib1 : (rb : Int) < 32 := by omega
  have ic0 : (0 : Int) ≤ (rc : Int) := Int.natCast_nonneg _
  have ic1 : (rc : Int) < 32 := by omega
  obtain ⟨qb, fb, nb⟩ := dr rb t ht
  obtain ⟨qc, fc, nc⟩ := dr rc u hu
  have h1 := Lib.hid (hg.2.2 _ (List.mem_of_getElem? ht))
  have h2 := Lib.hid (hg.2.2 _ (List.mem_of_getElem? hu))

  clear hm hs hg hl hx hn' hle hpg
  go_enter Try.func129, Try.ntmps129
  go_wp2
  go_region_held3 (fun w' => w'.cell? ⟨gm, 0, none⟩ = some (.slice (some ⟨pg, off, none⟩) n cap) ∧ w'.cell? ⟨gs, 0, none⟩ = some (.int .i64 s.pos) ∧ w'.cell? ⟨pg, off + s.pos * 5, none⟩ = some (.int .i64 (2)) ∧ w'.cell? ⟨pg, off + s.pos * 5 + 1, none⟩ = some (.int .i64 (ra : Nat)) ∧
      w'.cell? ⟨pg, off + s.pos * 5 + 2, none⟩ = some (.int .i64 (rb : Nat)) ∧ w'.cell? ⟨pg, off + s.pos * 5 + 3, none⟩ = some (.int .i64 (rc : Nat)) ∧ w'.cell? ⟨pg, off + s.pos * 5 + 4, none⟩ = some (.string tree))
    (exact keep _ (by first | exact hbd | exact (Below.refl _ _).drew | exact ((Below.refl _ _).drew).alloc (Nat.le_refl _) _))
    (fail)
  try rw [hwd]
  clear keep hwd p0 p1 p2 p3 p4 c0 s0
  have HNB := Lib.hid nb
  have HNC := Lib.hid nc
  have kc : ∀ w', Below wd.heap.size wd w' → Calls Try.prog 51 #[.pointer qb, .pointer qc] w' fun e w'' => ∃ p, e = .returned (.pointer (some p)) ∧ Hid (NodeP 69 w'' (.pair t u) (.pointer (some p))) ∧ Below wd.heap.size wd w'' := fun w' hb' => by
    refine (rnodeCons_ok t u _ _ w' (HNB.out.kept (Kept.below hb')) (HNC.out.kept (Kept.below hb')) (by have := h1.out; omega) (by have := h2.out; omega)).mono ?_
    rintro e w'' ⟨p, he, hp, hb2⟩
    exact ⟨p, he, hp, hb'.trans (hb2.mono hb'.size)⟩
  have keep2 : ∀ w', Below wd.heap.size wd w' → w'.cell? ⟨w.heap.size, 2, none⟩ = some (.int .i64 (rb : Nat)) ∧ w'.cell? ⟨w.heap.size, 3, none⟩ = some (.int .i64 (rc : Nat)) ∧ w'.cell? ⟨gr, rb, none⟩ = some (.pointer qb) ∧ w'.cell? ⟨gr, rc, none⟩ = some (.pointer qc) ∧ w'.cell? ⟨gs, 1, none⟩ = some (.slice (some ⟨gr, 0, none⟩) 32 cp) := fun w' hb' =>
    ⟨(hb'.cell (p := ⟨w.heap.size, 2, none⟩) hbl).trans e2, (hb'.cell (p := ⟨w.heap.size, 3, none⟩) hbl).trans e3, (hb'.cell (p := ⟨gr, rb, none⟩) hrl).trans fb, (hb'.cell (p := ⟨gr, rc, none⟩) hrl).trans fc, (hb'.cell (p := ⟨gs, 1, none⟩) (by show gs < _; omega)).trans d1⟩
  clear dr df drf nb nc
  have HSZ := Lib.hid hsz
  clear hsz
  go_wp2
  go_region_held3 (fun w' => w'.cell? ⟨w.heap.size, 2, none⟩ = some (.int .i64 (rb : Nat)) ∧ w'.cell? ⟨w.heap.size, 3, none⟩ = some (.int .i64 (rc : Nat)) ∧ w'.cell? ⟨gr, rb, none⟩ = some (.pointer qb) ∧ w'.cell? ⟨gr, rc, none⟩ = some (.pointer qc) ∧ w'.cell? ⟨gs, 1, none⟩ = some (.slice (some ⟨gr, 0, none⟩) 32 cp))
    (exact keep2 _ (by first | exact (Below.refl _ _) | exact (Below.refl _ _).drew | exact hb2 | exact hb2.drew))
    ((refine (kc _ (by first | exact Below.refl _ _ | exact (Below.refl _ _).drew)).mono ?_; rintro e w2 ⟨⟨xb, xo, xf⟩, rfl, hnx, hb2⟩))
  all_goals
    obtain ⟨gx, x1, x2, hgx, hblk, _, _⟩ := hnx.out
    simp only [Value.pointer.injEq, Option.some.injEq, Addr.mk.injEq] at hgx
    obtain ⟨rfl, rfl, rfl⟩ := hgx
    have cx := (block_cells hblk).1 2
    simp only [List.getElem?_toArray, List.getElem?_cons_zero, List.getElem?_cons_succ] at cx
    have hsz1 := (Tr.pair t u).size_pos
    have hs1 : ((Tr.pair t u).size : Int) ≤ 4000001 := by have := h1.out; have := h2.out; simp only [Tr.size]; omega
    have hsd2 := HSD.out.kept hb2
    obtain ⟨k0, k1, kf, kr, krf⟩ := hsd2.cells
    rw [h32] at k1
    have htest : 2000000 < ((Tr.pair t u).size : Int) := by have := HSZ.out; omega
    have HS2 := Lib.hid hsd2
    have hbe := hbd.trans (hb2.mono hbd.size)
    have HBE := Lib.hid hbe
    have hbT2 : Below T w w2 := hbT.trans (hb2.mono (by omega))
    have HBT2 := Lib.hid hbT2
    generalize hPS : (Tr.pair t u).size = psz at *
    clear kr kf krf hsd2 keep2 kc e0 e1 e2 e3 d0 d1 hb2 hblk
    try clear fb fc
    go_wp2
    go_ret
    first
    | exact ⟨rfl, ⟨_, HS2.out⟩, HBT2.out, Kept.below HBE.out⟩
    | exact ⟨rfl, ⟨_, HS2.out.kept (Below.refl _ _).drew⟩, HBT2.out.drew, (Kept.below HBE.out).drew⟩

set_option maxRecDepth 20000 in
set_option maxHeartbeats 4000000 in
theorem rstep_jump_no (w : World) (T gm gs gr cp : Nat) (l : List Ins) (s : St) (pv tv : Value) (ps : List Value) (hm : RMachP w T gm l pv tv) (hs : RStP w T gs s (.slice (some ⟨gr, 0, none⟩) s.regs.length cp) ps) (hgr : T ≤ gr) (hg : Good l.length s) (hn4 : l.length ≤ 4000) (ra : Nat) (ha : ra < 32) (t : Tr) (ht : s.regs[ra]? = some t) (htn : t = .nil) (b c : Int) (tree : ByteArray) (hb1 : -(s.pos : Int) ≤ b) (hb2 : b ≤ (l.length : Int) - s.pos)
    (hx : l[s.pos]? = some ⟨5, (ra : Nat), b, c, tree⟩) :
    Calls Try.prog 129 #[.pointer (some ⟨gm, 0, none⟩), .pointer (some ⟨gs, 0, none⟩)] w (RStepOk w T gs ⟨s.pos + 1, s.regs⟩ (.slice (some ⟨gr, 0, none⟩) s.regs.length cp)) := by
  have hp : s.pos < l.length := (List.getElem?_eq_some_iff.1 hx).1
  obtain ⟨ao, cap, rfl⟩ := hm.prog.len
  have c0 := (block_cells hm.blk).1 0
  simp only [List.getElem?_toArray, List.getElem?_cons_zero] at c0
  have s0 := hs.cells.1
  have hl := hm.prog
  have hlt := hm.lt
  have hgl : gs < w.heap.size := (Array.getElem?_eq_some_iff.1 hs.blk).1
  have hgm : gm < w.heap.size := (Array.getElem?_eq_some_iff.1 hm.blk).1
  have hle := hs.le
  obtain ⟨n, hn'⟩ : ∃ n, l.length = n := ⟨_, rfl⟩
  rw [hn'] at hl c0 hp hn4
  obtain ⟨pg, off, rfl, hpg, p0, p1, p2, p3, p4⟩ := hl.get hx
  dsimp only at p0 p1 p2 p3 p4
  have h32 := hg.2.1
  have HX := Lib.hid hx
  have HN := Lib.hid hn'
  have hi0 : (0 : Int) ≤ (s.pos : Int) := Int.natCast_nonneg _
  have hi1 : (s.pos : Int) < (n : Int) := by omega
  obtain ⟨wd, hwd⟩ : ∃ wd, (w.alloc (.cells #[.int .i64 (5), .int .i64 (ra : Nat), .int .i64 (b), .int .i64 (c), .string tree] 52)).drew = wd := ⟨_, rfl⟩
  have hbd : Below w.heap.size w wd := by rw [← hwd]; exact ((Below.refl _ _).alloc (Nat.le_refl _) _).drew
  have hbox : wd.heap[w.heap.size]? = some (.cells #[.int .i64 (5), .int .i64 (ra : Nat), .int .i64 (b), .int .i64 (c), .string tree] 52 (0, 0)) := by rw [← hwd]; exact heap_alloc_new w _
  have keep : ∀ w', Below w.heap.size w w' → w'.cell? ⟨gm, 0, none⟩ = some (.slice (some ⟨pg, off, none⟩) n cap) ∧ w'.cell? ⟨gs, 0, none⟩ = some (.int .i64 s.pos) ∧ w'.cell? ⟨pg, off + s.pos * 5, none⟩ = some (.int .i64 (5)) ∧ w'.cell? ⟨pg, off + s.pos * 5 + 1, none⟩ = some (.int .i64 (ra : Nat)) ∧
      w'.cell? ⟨pg, off + s.pos * 5 + 2, none⟩ = some (.int .i64 (b)) ∧ w'.cell? ⟨pg, off + s.pos * 5 + 3, none⟩ = some (.int .i64 (c)) ∧ w'.cell? ⟨pg, off + s.pos * 5 + 4, none⟩ = some (.string tree) := fun w' hb => by
    refine ⟨(hb.cell (p := ⟨gm, 0, none⟩) hgm).trans c0, (hb.cell (p := ⟨gs, 0, none⟩) hgl).trans s0, (hb.cell (p := ⟨pg, off + s.pos * 5, none⟩) (by show pg < _; omega)).trans p0, (hb.cell (p := ⟨pg, off + s.pos * 5 + 1, none⟩) (by show pg < _; omega)).trans p1, (hb.cell (p := ⟨pg, off + s.pos * 5 + 2, none⟩) (by show pg < _; omega)).trans p2, (hb.cell (p := ⟨pg, off + s.pos * 5 + 3, none⟩) (by show pg < _; omega)).trans p3, (hb.cell (p := ⟨pg, off + s.pos * 5 + 4, none⟩) (by show pg < _; omega)).trans p4⟩
  have hsd := hs.kept hbd
  obtain ⟨d0, d1, df, dr, drf⟩ := hsd.cells
  have kkd := Kept.below hbd (T := 69)
  have e0 := (block_cells hbox).1 0
  have e1 := (block_cells hbox).1 1
  have e2 := (block_cells hbox).1 2
  have e3 := (block_cells hbox).1 3
  simp only [List.getElem?_toArray, List.getElem?_cons_zero, List.getElem?_cons_succ] at e0 e1 e2 e3
  have hbl : w.heap.size < wd.heap.size := (Array.getElem?_eq_some_iff.1 hbox).1
  have hbT : Below T w wd := hbd.mono (by omega)
  have HSD := Lib.hid hsd
  have hap1 : ¬ gs = gr := hsd.apart
  have hap2 : ¬ gr = gs := fun h => hap1 h.symm
  have hrl := hsd.rlt
  rw [h32] at d1
  clear hsd hbox
  obtain ⟨qa, fa, na⟩ := dr ra t ht
  rw [hn'] at hb2
  have ia0 : (0 : Int) ≤ (ra : Int) := Int.natCast_nonneg _
  have ia1 : (ra : Int) < 32 := by omega

  clear hm hs hg hl hx hn' hle hpg
  go_enter Try.func129, Try.ntmps129
  go_wp2
  go_region_held3 (fun w' => w'.cell? ⟨gm, 0, none⟩ = some (.slice (some ⟨pg, off, none⟩) n cap) ∧ w'.cell? ⟨gs, 0, none⟩ = some (.int .i64 s.pos) ∧ w'.cell? ⟨pg, off + s.pos * 5, none⟩ = some (.int .i64 (5)) ∧ w'.cell? ⟨pg, off + s.pos * 5 + 1, none⟩ = some (.int .i64 (ra : Nat)) ∧
      w'.cell? ⟨pg, off + s.pos * 5 + 2, none⟩ = some (.int .i64 (b)) ∧ w'.cell? ⟨pg, off + s.pos * 5 + 3, none⟩ = some (.int .i64 (c)) ∧ w'.cell? ⟨pg, off + s.pos * 5 + 4, none⟩ = some (.string tree))
    (exact keep _ (by first | exact hbd | exact (Below.refl _ _).drew | exact ((Below.refl _ _).drew).alloc (Nat.le_refl _) _))
    (fail)
  try rw [hwd]
  clear keep hwd p0 p1 p2 p3 p4 c0 s0
  subst htn
  have hq : qa = none := by have : Value.pointer qa = .pointer none := na; simpa using this
  subst hq
  have df0 := df 0
  clear dr df drf na ht
  have hnI : (n : Int) ≤ 4000 := by omega
  go_wp2
  go_quiet (fail)
  go_wp2
  go_ret
  refine RStepOk.mk' rfl ?_
  have hq1 := below_drewN (Below.refl wd.heap.size wd) nq
  first
  | exact rstep_jfin (HSD.out.kept hq1) (hbT.trans (hq1.mono (by omega))) (kkd.trans (Kept.below hq1)) _ _ (by omega)
  | exact rstep_fin_drew (rstep_jfin (HSD.out.kept hq1) (hbT.trans (hq1.mono (by omega))) (kkd.trans (Kept.below hq1)) _ _ (by omega))

set_option maxRecDepth 20000 in
set_option maxHeartbeats 4000000 in
theorem rstep_jump_go (w : World) (T gm gs gr cp : Nat) (l : List Ins) (s : St) (pv tv : Value) (ps : List Value) (hm : RMachP w T gm l pv tv) (hs : RStP w T gs s (.slice (some ⟨gr, 0, none⟩) s.regs.length cp) ps) (hgr : T ≤ gr) (hg : Good l.length s) (hn4 : l.length ≤ 4000) (ra : Nat) (ha : ra < 32) (t : Tr) (ht : s.regs[ra]? = some t) (htn : t ≠ .nil) (b c : Int) (tree : ByteArray) (hb1 : -(s.pos : Int) ≤ b) (hb2 : b ≤ (l.length : Int) - s.pos)
    (hx : l[s.pos]? = some ⟨5, (ra : Nat), b, c, tree⟩) :
    Calls Try.prog 129 #[.pointer (some ⟨gm, 0, none⟩), .pointer (some ⟨gs, 0, none⟩)] w (RStepOk w T gs ⟨((s.pos : Int) + b).toNat, s.regs⟩ (.slice (some ⟨gr, 0, none⟩) s.regs.length cp)) := by
  have hp : s.pos < l.length := (List.getElem?_eq_some_iff.1 hx).1
  obtain ⟨ao, cap, rfl⟩ := hm.prog.len
  have c0 := (block_cells hm.blk).1 0
  simp only [List.getElem?_toArray, List.getElem?_cons_zero] at c0
  have s0 := hs.cells.1
  have hl := hm.prog
  have hlt := hm.lt
  have hgl : gs < w.heap.size := (Array.getElem?_eq_some_iff.1 hs.blk).1
  have hgm : gm < w.heap.size := (Array.getElem?_eq_some_iff.1 hm.blk).1
  have hle := hs.le
  obtain ⟨n, hn'⟩ : ∃ n, l.length = n := ⟨_, rfl⟩
  rw [hn'] at hl c0 hp hn4
  obtain ⟨pg, off, rfl, hpg, p0, p1, p2, p3, p4⟩ := hl.get hx
  dsimp only at p0 p1 p2 p3 p4
  have h32 := hg.2.1
  have HX := Lib.hid hx
  have HN := Lib.hid hn'
  have hi0 : (0 : Int) ≤ (s.pos : Int) := Int.natCast_nonneg _
  have hi1 : (s.pos : Int) < (n : Int) := by omega
  obtain ⟨wd, hwd⟩ : ∃ wd, (w.alloc (.cells #[.int .i64 (5), .int .i64 (ra : Nat), .int .i64 (b), .int .i64 (c), .string tree] 52)).drew = wd := ⟨_, rfl⟩
  have hbd : Below w.heap.size w wd := by rw [← hwd]; exact ((Below.refl _ _).alloc (Nat.le_refl _) _).drew
  have hbox : wd.heap[w.heap.size]? = some (.cells #[.int .i64 (5), .int .i64 (ra : Nat), .int .i64 (b), .int .i64 (c), .string tree] 52 (0, 0)) := by rw [← hwd]; exact heap_alloc_new w _
  have keep : ∀ w', Below w.heap.size w w' → w'.cell? ⟨gm, 0, none⟩ = some (.slice (some ⟨pg, off, none⟩) n cap) ∧ w'.cell? ⟨gs, 0, none⟩ = some (.int .i64 s.pos) ∧ w'.cell? ⟨pg, off + s.pos * 5, none⟩ = some (.int .i64 (5)) ∧ w'.cell? ⟨pg, off + s.pos * 5 + 1, none⟩ = some (.int .i64 (ra : Nat)) ∧
      w'.cell? ⟨pg, off + s.pos * 5 + 2, none⟩ = some (.int .i64 (b)) ∧ w'.cell? ⟨pg, off + s.pos * 5 + 3, none⟩ = some (.int .i64 (c)) ∧ w'.cell? ⟨pg, off + s.pos * 5 + 4, none⟩ = some (.string tree) := fun w' hb => by
    refine ⟨(hb.cell (p := ⟨gm, 0, none⟩) hgm).trans c0, (hb.cell (p := ⟨gs, 0, none⟩) hgl).trans s0, (hb.cell (p := ⟨pg, off + s.pos * 5, none⟩) (by show pg < _; omega)).trans p0, (hb.cell (p := ⟨pg, off + s.pos * 5 + 1, none⟩) (by show pg < _; omega)).trans p1, (hb.cell (p := ⟨pg, off + s.pos * 5 + 2, none⟩) (by show pg < _; omega)).trans p2, (hb.cell (p := ⟨pg, off + s.pos * 5 + 3, none⟩) (by show pg < _; omega)).trans p3, (hb.cell (p := ⟨pg, off + s.pos * 5 + 4, none⟩) (by show pg < _; omega)).trans p4⟩
  have hsd := hs.kept hbd
  obtain ⟨d0, d1, df, dr, drf⟩ := hsd.cells
  have kkd := Kept.below hbd (T := 69)
  have e0 := (block_cells hbox).1 0
  have e1 := (block_cells hbox).1 1
  have e2 := (block_cells hbox).1 2
  have e3 := (block_cells hbox).1 3
  simp only [List.getElem?_toArray, List.getElem?_cons_zero, List.getElem?_cons_succ] at e0 e1 e2 e3
  have hbl : w.heap.size < wd.heap.size := (Array.getElem?_eq_some_iff.1 hbox).1
  have hbT : Below T w wd := hbd.mono (by omega)
  have HSD := Lib.hid hsd
  have hap1 : ¬ gs = gr := hsd.apart
  have hap2 : ¬ gr = gs := fun h => hap1 h.symm
  have hrl := hsd.rlt
  rw [h32] at d1
  clear hsd hbox
  obtain ⟨qa, fa, na⟩ := dr ra t ht
  rw [hn'] at hb2
  have ia0 : (0 : Int) ≤ (ra : Int) := Int.natCast_nonneg _
  have ia1 : (ra : Int) < 32 := by omega

  clear hm hs hg hl hx hn' hle hpg
  go_enter Try.func129, Try.ntmps129
  go_wp2
  go_region_held3 (fun w' => w'.cell? ⟨gm, 0, none⟩ = some (.slice (some ⟨pg, off, none⟩) n cap) ∧ w'.cell? ⟨gs, 0, none⟩ = some (.int .i64 s.pos) ∧ w'.cell? ⟨pg, off + s.pos * 5, none⟩ = some (.int .i64 (5)) ∧ w'.cell? ⟨pg, off + s.pos * 5 + 1, none⟩ = some (.int .i64 (ra : Nat)) ∧
      w'.cell? ⟨pg, off + s.pos * 5 + 2, none⟩ = some (.int .i64 (b)) ∧ w'.cell? ⟨pg, off + s.pos * 5 + 3, none⟩ = some (.int .i64 (c)) ∧ w'.cell? ⟨pg, off + s.pos * 5 + 4, none⟩ = some (.string tree))
    (exact keep _ (by first | exact hbd | exact (Below.refl _ _).drew | exact ((Below.refl _ _).drew).alloc (Nat.le_refl _) _))
    (fail)
  try rw [hwd]
  clear keep hwd p0 p1 p2 p3 p4 c0 s0
  obtain ⟨qg, hq⟩ : ∃ qg, qa = some ⟨qg, 0, none⟩ := by
    cases t with
    | nil => exact absurd rfl htn
    | pair a1 a2 => obtain ⟨g1, x1, y1, hv1, _⟩ := na; simp only [Value.pointer.injEq] at hv1; exact ⟨g1, hv1⟩
  subst hq
  have hpb : (s.pos : Int) + b = (((s.pos : Int) + b).toNat : Int) := by omega
  have hpb2 : (0 : Int) ≤ (s.pos : Int) + b := by omega
  have hpb3 : (s.pos : Int) + b ≤ n := by omega
  have HPB := Lib.hid hpb
  clear hpb
  have df0 := df 0
  clear dr df drf na ht
  have hnI : (n : Int) ≤ 4000 := by omega
  go_wp2
  go_quiet (fail)
  go_wp2
  go_region
  go_wp2
  go_ret
  refine RStepOk.mk' rfl ?_
  have hq1 := below_drewN (Below.refl wd.heap.size wd) nq
  first
  | exact rstep_jfin (HSD.out.kept hq1) (hbT.trans (hq1.mono (by omega))) (kkd.trans (Kept.below hq1)) _ _ HPB.out
  | exact rstep_fin_drew (rstep_jfin (HSD.out.kept hq1) (hbT.trans (hq1.mono (by omega))) (kkd.trans (Kept.below hq1)) _ _ HPB.out)

end Go.Proofs.Ytaiomcjopgnfpaa

namespace Go.Proofs.Ytaiomcjopgnfpaa
open Go.RowKit

theorem register_any (n : Int) (w : World) :
    Calls Try.prog 109 #[.int .i64 n] w fun e w' => e = .returned (.bool (regB n)) ∧ w = w' := by
  unfold regB
  by_cases h : 0 ≤ n
  · rw [decide_eq_true h]
    go_enter Try.func109, Try.ntmps109
    go_wp2
    go_ret
    exact ⟨rfl, rfl⟩
  · rw [decide_eq_false h]
    go_enter Try.func109, Try.ntmps109
    go_wp2
    go_ret
    exact ⟨rfl, rfl⟩

set_option maxHeartbeats 1000000 in
theorem trees_any (v : Value) (l : List Ins) (w : World) (B : Nat) (hl : InsRow w B v l) (hn : l.length ≤ 4000) :
    Calls Try.prog 71 #[v] w fun e w' => e = .returned (.int .i64 (trees l)) ∧ w = w' := by
  obtain ⟨ao, cap, rfl⟩ := hl.len
  obtain ⟨n, hn'⟩ : ∃ n, l.length = n := ⟨_, rfl⟩
  rw [hn'] at hn hl ⊢
  have HN := Lib.hid hn'; clear hn'
  go_enter Try.func71, Try.ntmps71
  go_wp2
  go_loopg [3, 4] n (fun g s i wr => ∃ k m : Nat, k ≤ n ∧ g = n - k ∧ i = .int .i64 k ∧ s = .int .i64 m ∧ m ≤ k * 140737488355328 ∧ Aside (m = trees (l.take k)) ∧ w = wr)
  case atStart => exact ⟨0, 0, Nat.zero_le _, rfl, rfl, rfl, by omega, rfl, rfl⟩
  case round =>
    obtain ⟨k, m, hk, hg, rfl, rfl, hm, hv, rfl⟩ := hrel
    have HG := Lib.hid hg; clear hg
    by_cases hlt : k < n
    · obtain ⟨x, hx⟩ : ∃ s, l[k]? = some s := ⟨_, List.getElem?_eq_getElem (by rw [HN.out]; exact hlt)⟩
      obtain ⟨g, off, rfl, hg, c0, c1, c2, c3, c4⟩ := hl.get hx
      have hz := (hl.wf hx).2.2.2.2
      have HX := Lib.hid hx; clear hx
      have hm2 : (m : Int) ≤ 4000 * 140737488355328 := by omega
      clear c0 c1 c2 c3
      go_wp2
      go_roundg (n - (k + 1))
      case measure => rw [HG.out]; omega
      case rel => exact ⟨k + 1, m + x.tree.size, by omega, rfl, by go_num, by go_num, by omega, (by show _ = _; rw [take_snoc' _ _ _ HX.out, trees_snoc, ← hv.out]), rfl⟩
    · go_wp2
      go_ret
      exact ⟨ret_i (by rw [hv.out, List.take_of_length_le (by rw [HN.out]; omega)]), rfl⟩

/-- A result that is a new program. -/
def ProgOut (w : World) (l : List Ins) (v : Value) (w' : World) : Prop := InsRow w' w'.heap.size v l ∧ Below w.heap.size w w'

set_option maxHeartbeats 1000000 in
theorem twin_any (v : Value) (l : List Ins) (w : World) (hl : InsRow w w.heap.size v l) :
    Calls Try.prog 33 #[v] w fun e w' => ∃ v', e = .returned v' ∧ ProgOut w l v' w' := by
  have hn := hl.2.1
  have hwf := hl.1
  have hs := hl.src
  obtain ⟨n, hn'⟩ : ∃ n, l.length = n := ⟨_, rfl⟩
  rw [hn'] at hn hs
  have HN := Lib.hid hn'; clear hn'
  have HW := Lib.hid hwf; clear hwf
  obtain ⟨ao, cap, rfl⟩ := hl.len
  rw [HN.out] at hl hs ⊢
  have hown : (w.alloc (.cells #[] 52)).ownsRow w.heap.size 52 5 (.slice (some ⟨w.heap.size, 0, none⟩) 0 0) 0 [] := World.ownsRow_lit w #[] 0 (Nat.le_refl _) (by decide) rfl
  have hs2 : Src (w.alloc (.cells #[] 52)) (.slice ao n cap) n 5 (inscells l) := by
    have := (hl.below ((Below.refl _ w).alloc (Nat.le_refl _) (.cells #[] 52))).src
    rwa [HN.out] at this
  have hb : Below w.heap.size w (w.alloc (.cells #[] 52)) := (Below.refl _ _).alloc (Nat.le_refl _) _
  go_enter Try.func33, Try.ntmps33
  go_wp2_with (at_builtin; refine app_src el_ins (vx := .slice ao n cap) rfl _ _ rfl rfl hown rfl hs2 (inscells_one l) ?c2 ?c3 (by simp) hb (Nat.le_refl _) ?_)
  case c2 => omega
  case c3 => unfold maxLen; omega
  intro v' w' hown' hb' hg
  have hrow : InsRow w' w'.heap.size v' l := InsRow.of_own (by simpa using hown') HW.out (by rw [HN.out]; exact hn)
  obtain ⟨a2, c2, rfl⟩ := own_len hown'
  clear hown hs hs2 hb hown' hg
  go_wp2
  refine bodyPost_ret (v := .slice a2 n c2) (by simp [results, Try.results33, go_sem]) rfl ?_
  exact ⟨_, rfl, hrow, hb'⟩

section
variable {P : Program} {d : Nat} {xs ys : Array Value} {f : Field} {fs : List Field} {a b : Value} {r s : Bool} {w : World}
theorem eqf_last (hn : (f.name == "_") = false) (ha : (part f.type xs f.offset).run P w = .ok a w) (hb : (part f.type ys f.offset).run P w = .ok b w) (he : (Op.equalIn d f.type a b).run P w = .ok r w) : (Op.eqFields d xs ys [f]).run P w = .ok r w := by
  have hn' : f.name ≠ "_" := by simpa using hn
  simp only [Op.eqFields, if_pos hn', Sem.run_bind, ha, hb, he, Result.andThen_ok]
  cases r <;> simp
theorem eqf_cons (hn : (f.name == "_") = false) (ha : (part f.type xs f.offset).run P w = .ok a w) (hb : (part f.type ys f.offset).run P w = .ok b w) (he : (Op.equalIn d f.type a b).run P w = .ok r w) (hr : (Op.eqFields d xs ys fs).run P w = .ok s w) : (Op.eqFields d xs ys (f :: fs)).run P w = .ok (r && s) w := by
  have hn' : f.name ≠ "_" := by simpa using hn
  rw [Op.eqFields]
  simp only [if_pos hn', Sem.run_bind, ha, hb, he, Result.andThen_ok]
  cases r
  · simp
  · simpa using hr
end
theorem ins_fields : Try.prog.underlying 52 = some (.struct (Try.prog.fieldsOf 52)) := by kernel_rfl
theorem ins_held : Try.prog.stoodInHeld 52 = false := by kernel_rfl
theorem ins_guard : Try.prog.eqGuardType Try.prog.depth 52 = false := by kernel_rfl
/-- Two instructions, field by field. -/
def insB (xo xa xb xc : Int) (xt : ByteArray) (yo ya yb yc : Int) (yt : ByteArray) : Bool := xo == yo && (xa == ya && (xb == yb && (xc == yc && (xt.toList == yt.toList))))
theorem insB_iff (x y : Ins) : insB x.op x.a x.b x.c x.tree y.op y.a y.b y.c y.tree = true ↔ x = y := by
  obtain ⟨xo, xa, xb, xc, xt⟩ := x
  obtain ⟨yo, ya, yb, yc, yt⟩ := y
  unfold insB
  simp only [Bool.and_eq_true, beq_iff_eq, Ins.mk.injEq, Lib.toList_data]
  constructor
  · rintro ⟨h1, h2, h3, h4, h5⟩; exact ⟨h1, h2, h3, h4, ba_ext h5⟩
  · rintro ⟨h1, h2, h3, h4, h5⟩; exact ⟨h1, h2, h3, h4, by rw [h5]⟩
theorem run_ins_neq (xo xa xb xc : Int) (xt : ByteArray) (yo ya yb yc : Int) (yt : ByteArray) (w : World) :
    (binOp .neq 52 (.agg #[.int .i64 xo, .int .i64 xa, .int .i64 xb, .int .i64 xc, .string xt]) (.agg #[.int .i64 yo, .int .i64 ya, .int .i64 yb, .int .i64 yc, .string yt])).run Try.prog w = .ok (.bool (!insB xo xa xb xc xt yo ya yb yc yt)) w := by
  rw [run_neq_struct, run_equalIn_struct _ _ _ _ _ ins_fields ins_held]
  obtain ⟨f0, f1, f2, f3, f4, hf, n0, n1, n2, n3, n4, o0, o1, o2, o3, o4, t0, t1, t2, t3, t4⟩ : ∃ f0 f1 f2 f3 f4 : Field, (Try.prog.fieldsOf 52).toList = [f0, f1, f2, f3, f4] ∧ (f0.name == "_") = false ∧ (f1.name == "_") = false ∧ (f2.name == "_") = false ∧ (f3.name == "_") = false ∧ (f4.name == "_") = false ∧
      f0.offset = 0 ∧ f1.offset = 1 ∧ f2.offset = 2 ∧ f3.offset = 3 ∧ f4.offset = 4 ∧ f0.type = 3 ∧ f1.type = 3 ∧ f2.type = 3 ∧ f3.type = 3 ∧ f4.type = 9 :=
    ⟨(Try.prog.fieldsOf 52)[0]!, (Try.prog.fieldsOf 52)[1]!, (Try.prog.fieldsOf 52)[2]!, (Try.prog.fieldsOf 52)[3]!, (Try.prog.fieldsOf 52)[4]!, by kernel_rfl, by kernel_rfl, by kernel_rfl, by kernel_rfl, by kernel_rfl, by kernel_rfl, by kernel_rfl, by kernel_rfl, by kernel_rfl, by kernel_rfl, by kernel_rfl, by kernel_rfl, by kernel_rfl, by kernel_rfl, by kernel_rfl, by kernel_rfl⟩
  rw [hf]
  have h := eqf_cons (P := Try.prog) (d := 9999) (w := w) (xs := #[.int .i64 xo, .int .i64 xa, .int .i64 xb, .int .i64 xc, .string xt]) (ys := #[.int .i64 yo, .int .i64 ya, .int .i64 yb, .int .i64 yc, .string yt]) (a := .int .i64 xo) (b := .int .i64 yo) n0 (by rw [t0, o0]; kernel_rfl) (by rw [t0, o0]; kernel_rfl) (by rw [t0]; exact run_equalIn_int w _ _ .i64 .i64 _ _ Try.underlying3)
    (eqf_cons (a := .int .i64 xa) (b := .int .i64 ya) n1 (by rw [t1, o1]; kernel_rfl) (by rw [t1, o1]; kernel_rfl) (by rw [t1]; exact run_equalIn_int w _ _ .i64 .i64 _ _ Try.underlying3)
    (eqf_cons (a := .int .i64 xb) (b := .int .i64 yb) n2 (by rw [t2, o2]; kernel_rfl) (by rw [t2, o2]; kernel_rfl) (by rw [t2]; exact run_equalIn_int w _ _ .i64 .i64 _ _ Try.underlying3)
    (eqf_cons (a := .int .i64 xc) (b := .int .i64 yc) n3 (by rw [t3, o3]; kernel_rfl) (by rw [t3, o3]; kernel_rfl) (by rw [t3]; exact run_equalIn_int w _ _ .i64 .i64 _ _ Try.underlying3)
    (eqf_last (a := .string xt) (b := .string yt) n4 (by rw [t4, o4]; kernel_rfl) (by rw [t4, o4]; kernel_rfl) (by rw [t4]; exact run_equalIn_string w _ _ _ _ Try.underlying9)))))
  rw [h]; rfl

/-- Two programs are equal. -/
def sameP (a b : List Ins) : Bool := decide (a = b)
def insEq (x y : Ins) : Bool := decide (x = y)
set_option maxHeartbeats 2000000 in
theorem sameP_any (v1 v2 : Value) (l1 l2 : List Ins) (w : World) (B : Nat) (hl1 : InsRow w B v1 l1) (hl2 : InsRow w B v2 l2) :
    Calls Try.prog 35 #[v1, v2] w fun e w' => e = .returned (.bool (sameP l1 l2)) ∧ ∃ nq, w' = w.drewN nq := by
  obtain ⟨ao1, cap1, rfl⟩ := hl1.len
  obtain ⟨ao2, cap2, rfl⟩ := hl2.len
  obtain ⟨n1, hn1⟩ : ∃ n, l1.length = n := ⟨_, rfl⟩
  obtain ⟨n2, hn2⟩ : ∃ n, l2.length = n := ⟨_, rfl⟩
  have hb1 := hl1.2.1
  have hb2 := hl2.2.1
  rw [hn1] at hl1 hb1 ⊢
  rw [hn2] at hl2 hb2 ⊢
  have HN1 := Lib.hid hn1; clear hn1
  have HN2 := Lib.hid hn2; clear hn2
  obtain ⟨r, hr⟩ : ∃ r, sameP l1 l2 = r := ⟨_, rfl⟩
  rw [hr]
  have HR := Lib.hid hr; clear hr
  by_cases hne : n1 = n2
  · subst hne
    go_enter Try.func35, Try.ntmps35
    go_wp2
    go_loopg [5] n1 (fun g i wr => ∃ k q : Nat, k ≤ n1 ∧ g = n1 - k ∧ i = .int .i64 k ∧ Aside (l1.take k = l2.take k) ∧ wr = w.drewN q)
    case atStart => exact ⟨0, 0, Nat.zero_le _, rfl, rfl, rfl, rfl⟩
    case round =>
      obtain ⟨k, q, hk, hg, rfl, hv, rfl⟩ := hrel
      have HG := Lib.hid hg; clear hg
      by_cases hlt : k < n1
      · obtain ⟨x, hs⟩ : ∃ s, l1[k]? = some s := ⟨_, List.getElem?_eq_getElem (by rw [HN1.out]; exact hlt)⟩
        obtain ⟨y, hu⟩ : ∃ s, l2[k]? = some s := ⟨_, List.getElem?_eq_getElem (by rw [HN2.out]; exact hlt)⟩
        obtain ⟨g1, off1, rfl, hg1, p0, p1, p2, p3, p4⟩ := hl1.get hs
        obtain ⟨g2, off2, rfl, hg2, q0, q1, q2, q3, q4⟩ := hl2.get hu
        have hi0 : (0 : Int) ≤ (k : Int) := Int.natCast_nonneg _
        have hi1 : (k : Int) < (n1 : Int) := by omega
        have HS := Lib.hid hs; have HU := Lib.hid hu
        clear hs hu
        have hq := fun w => run_ins_neq x.op x.a x.b x.c x.tree y.op y.a y.b y.c y.tree w
        have hgd := ins_guard
        have hiff := Lib.hid (insB_iff x y)
        cases heq : insB x.op x.a x.b x.c x.tree y.op y.a y.b y.c y.tree with
        | true =>
          have hn : Hid (l1.take (k + 1) = l2.take (k + 1)) := by
            show _ = _
            rw [take_snoc' _ _ _ HS.out, take_snoc' _ _ _ HU.out, hv.out, hiff.out.1 heq]
          rw [heq] at hq
          go_wp2
          go_quiet (fail)
          go_wp2
          go_roundg (n1 - (k + 1))
          case measure => rw [HG.out]; omega
          case rel => exact ⟨k + 1, _, by omega, rfl, by go_num, hn, rfl⟩
        | false =>
          have hn : Hid (sameP l1 l2 = false) := by
            refine decide_eq_false fun e => ?_
            subst e
            have := HS.out; rw [HU.out] at this
            simp only [Option.some.injEq] at this; subst this
            rw [hiff.out.2 rfl] at heq; cases heq
          rw [heq] at hq
          go_wp2
          go_quiet (fail)
          go_wp2
          go_ret
          exact ⟨by rw [← HR.out, hn.out]; rfl, q + nq, by rw [World.drewN_drewN]⟩
      · have hn : Hid (sameP l1 l2 = true) := by
          refine decide_eq_true ?_
          have := hv.out
          rwa [List.take_of_length_le (by rw [HN1.out]; omega), List.take_of_length_le (by rw [HN2.out]; omega)] at this
        go_wp2
        go_ret
        exact ⟨by rw [← HR.out, hn.out]; rfl, _, rfl⟩
  · have hb : ((n1 : Int) != (n2 : Int)) = true := by rw [bne_iff_ne]; omega
    have hn : Hid (sameP l1 l2 = false) := decide_eq_false fun e => hne (by rw [← HN1.out, ← HN2.out, e])
    go_enter Try.func35, Try.ntmps35
    go_wp2
    go_ret
    exact ⟨by rw [← HR.out, hn.out]; rfl, 0, rfl⟩

end Go.Proofs.Ytaiomcjopgnfpaa

namespace Go.Proofs.Ytaiomcjopgnfpaa
open Go.RowKit

theorem parse_tr (s : ByteArray) (hs : s.size ≤ 281474976710656) (w : World) :
    Calls Try.prog 113 #[.string s] w fun e w' => ∃ p, e = .returned (.tuple #[.pointer p, .bool (isTree s)]) ∧ Below w.heap.size w w' ∧ NodeP 135 w' (toTr s) (.pointer p) := by
  refine (parse_any s hs w).mono ?_
  rintro e w' ⟨p, he, hb, h1, h2⟩
  refine ⟨p, he, hb, ?_⟩
  cases h : isTree s with
  | true => exact h1 _ (TS_toTr h).symm h
  | false => rw [toTr_bad h, h2 h]; exact rfl

/-- A machine that is being made: some of the trees are read. -/
def MakeP (w : World) (g k : Nat) (l : List Ins) (pv sv : Value) : Prop :=
  w.heap[g]? = some (.cells (mcells pv sv (List.replicate 32 (.pointer none)) 0) 103 (0, 0)) ∧ ∃ xs, Nodes 135 w ((l.take k).map fun x => toTr x.tree) xs ∧ w.ownsRow (g + 1) 99 1 sv k xs
theorem MakeP.kept {w w' : World} {g k : Nat} {l : List Ins} {pv sv : Value} (h : MakeP w g k l pv sv) (hb : Below w.heap.size w w') : MakeP w' g k l pv sv := by
  obtain ⟨h0, xs, h1, h2⟩ := h
  exact ⟨(hb.block g (Array.getElem?_eq_some_iff.1 h0).1).trans h0, xs, h1.kept (Kept.below hb), own_below h2 hb⟩
theorem MakeP.cells {w : World} {g k : Nat} {l : List Ins} {pv sv : Value} (h : MakeP w g k l pv sv) : w.cell? ⟨g, 1, none⟩ = some sv ∧ w.frozen? ⟨g, 1, none⟩ = false ∧ w.cell? ⟨g, 2, none⟩ = some (.pointer none) ∧ w.frozen? ⟨g, 2, none⟩ = false := by
  obtain ⟨hc, hf⟩ := block_cells h.1
  exact ⟨by rw [hc]; rfl, hf _, by rw [hc]; rfl, hf _⟩

set_option maxHeartbeats 4000000 in
theorem newMachine_any (v : Value) (l : List Ins) (t : Tr) (x : Value) (w : World) (hl : InsRow w w.heap.size v l) (hn4 : l.length ≤ 4000) (hx : NodeP 135 w t x) :
    Calls Try.prog 114 #[v, x] w fun e w' => ∃ g sv ps, e = .returned (.pointer (some ⟨g, 0, none⟩)) ∧ MachP w' w.heap.size g l (startS t) v sv ps ∧ Below w.heap.size w w' := by
  obtain ⟨x, rfl⟩ := hx.ptr
  obtain ⟨ao, cap, rfl⟩ := hl.len
  obtain ⟨n, hn'⟩ : ∃ n, l.length = n := ⟨_, rfl⟩
  rw [hn'] at hl hn4 ⊢
  have HN := Lib.hid hn'; clear hn'
  have hb0 : Below w.heap.size w (w.alloc (.cells (mcells (.slice ao n cap) (.slice none 0 0) (List.replicate 32 (.pointer none)) 0) 103)) := (Below.refl _ _).alloc (Nat.le_refl _) _
  have hm0 : MakeP (w.alloc (.cells (mcells (.slice ao n cap) (.slice none 0 0) (List.replicate 32 (.pointer none)) 0) 103)) w.heap.size 0 l (.slice ao n cap) (.slice none 0 0) := ⟨heap_alloc_new w _, [], trivial, World.ownsRow_nil _ _ _ _⟩
  go_enter Try.func114, Try.ntmps114
  go_wp2
  go_loopg [15] n (fun g i wr => ∃ (k : Nat) (sv : Value), k ≤ n ∧ g = n - k ∧ i = .int .i64 k ∧ Aside (MakeP wr w.heap.size k l (.slice ao n cap) sv) ∧ Below w.heap.size w wr)
  case atStart => exact ⟨0, _, Nat.zero_le _, rfl, rfl, hm0, hb0⟩
  case round =>
    clear hb0 hm0
    obtain ⟨k, sv, hk, hg, rfl, hm, hbw⟩ := hrel
    have HG := Lib.hid hg; clear hg
    by_cases hlt : k < n
    · obtain ⟨y, hy⟩ : ∃ s, l[k]? = some s := ⟨_, List.getElem?_eq_getElem (by rw [HN.out]; exact hlt)⟩
      have hl2 := hl.below hbw
      obtain ⟨g, off, rfl, hg, c0, c1, c2, c3, c4⟩ := hl2.get hy
      have hz := (hl.wf hy).2.2.2.2
      have HY := Lib.hid hy; clear hy hl2
      have kp := fun w => parse_tr y.tree (by omega) w
      have hi0 : (0 : Int) ≤ (k : Int) := Int.natCast_nonneg _
      have hi1 : (k : Int) < (n : Int) := by omega
      have hb1 : Below wr.heap.size wr (wr.alloc (.cells #[.int .i64 y.op, .int .i64 y.a, .int .i64 y.b, .int .i64 y.c, .string y.tree] 52)) := (Below.refl _ _).alloc (Nat.le_refl _) _
      go_wp2_with fail
      refine (kp _).mono ?_
      rintro e w1 ⟨p, rfl, k1, hnp⟩
      have hb2 := hb1.trans (k1.mono hb1.size)
      have hm1 := hm.out.kept hb2
      have c1 := hbw.trans (hb2.mono hbw.size)
      have hcl := hm1.cells
      obtain ⟨hblk, xs, hns, hown⟩ := hm1
      obtain ⟨q1, q2, q3, q4⟩ := hcl
      have HB := Lib.hid hblk
      have HNS := Lib.hid hns
      have hGl : w.heap.size < w1.heap.size := (Array.getElem?_eq_some_iff.1 hblk).1
      have hsz1 := c1.size
      have HNP := Lib.hid hnp
      clear k1 hb1 hb2 kp hm hnp hblk hns q3 q4
      go_wp2_with (at_builtin; refine app_new el_node rfl _ _ rfl rfl hown [.pointer p] 1 rfl rfl ?c1 ?c2 ?c3 ?c4 c1 ?c5 ?_)
      case c1 => intro u hu; simp at hu; subst hu; rfl
      case c2 => omega
      case c3 => unfold maxLen; omega
      case c4 => omega
      case c5 => omega
      intro v' w2 hown2 hbw2 hg2
      obtain ⟨a2, cp2, rfl⟩ := own_len hown2
      have hne : some w.heap.size ≠ sv.ownBlock := fun e => by have := (hown.lt w.heap.size (by rw [e])).1; omega
      have hblk2 : w2.heap[w.heap.size]? = some (.cells (mcells _ sv (List.replicate 32 (.pointer none)) 0) 103 (0, 0)) := (hg2.old _ hGl hne).trans HB.out
      have hkn : Kept 135 w1 w2 := Kept.grew hown hg2 (by decide)
      have hf2 := (block_cells hblk2).2 1
      have hc2 : w2.cell? ⟨w.heap.size, 1, none⟩ = some sv := by rw [(block_cells hblk2).1]; rfl
      have hmk : Hid (MakeP (w2.setCell ⟨w.heap.size, 1, none⟩ (.slice a2 (k + 1) cp2)) w.heap.size (k + 1) l (.slice (some ⟨g, off, none⟩) n cap) (.slice a2 (k + 1) cp2)) := by
        refine ⟨set_blk hblk2 1 _, xs ++ [.pointer p], ?_, own_kept hown2 ((Kept.refl _ w2).setCell hblk2 (by decide) _)⟩
        rw [take_snoc' _ _ _ HY.out, List.map_append]
        exact ((HNS.out.kept hkn).snoc (HNP.out.kept hkn)).kept ((Kept.refl _ w2).setCell hblk2 (by decide) _)
      have c2 : Below w.heap.size w (w2.setCell ⟨w.heap.size, 1, none⟩ (.slice a2 (k + 1) cp2)) := hbw2.setCell (p := ⟨w.heap.size, 1, none⟩) (Nat.le_refl _) _
      clear hown hown2 hbw2 hg2 hblk2 hkn HNS HNP HB hne c1
      go_wp2
      go_roundg (n - (k + 1))
      case measure => rw [HG.out]; omega
      case rel => exact ⟨k + 1, _, by omega, rfl, by go_num, hmk, c2⟩
    · have hkn : k = n := by omega
      subst hkn
      obtain ⟨q1, q2, q3, q4⟩ := hm.out.cells
      have hfin : Hid (MachP (wr.setCell ⟨w.heap.size, 2, none⟩ (.pointer x)) w.heap.size w.heap.size l (startS t) (.slice ao k cap) sv (.pointer x :: List.replicate 31 (.pointer none))) := by
        obtain ⟨hblk, xs, hns, hown⟩ := hm.out
        rw [List.take_of_length_le (by rw [HN.out]; exact Nat.le_refl _)] at hns
        have hK := (Kept.refl 135 wr).setCell hblk (by decide) (.pointer x) (a := ⟨w.heap.size, 2, none⟩)
        have hK2 := (Kept.refl 99 wr).setCell hblk (by decide) (.pointer x) (a := ⟨w.heap.size, 2, none⟩)
        refine ⟨?_, ⟨(hx.kept (Kept.below (hbw.mono (Nat.le_refl _)))).kept hK, Nodes.nils 31⟩, hl.below (hbw.setCell (p := ⟨w.heap.size, 2, none⟩) (Nat.le_refl _) _), Nat.le_refl _, xs, hns.kept hK, by rw [HN.out]; exact own_kept hown hK2⟩
        exact set_blk hblk 2 _
      have c2 : Below w.heap.size w (wr.setCell ⟨w.heap.size, 2, none⟩ (.pointer x)) := hbw.setCell (p := ⟨w.heap.size, 2, none⟩) (Nat.le_refl _) _
      clear hl hx
      go_wp2
      go_ret
      exact ⟨_, _, _, rfl, hfin.out, c2⟩

end Go.Proofs.Ytaiomcjopgnfpaa

namespace Go.Proofs.Ytaiomcjopgnfpaa
open Go.RowKit

/-- Every block but one stands. -/
structure Els (g : Nat) (w w' : World) : Prop where
  os : w'.os = w.os
  tape : w'.tape = w.tape
  output : w'.output = w.output
  size : w.heap.size ≤ w'.heap.size
  block : ∀ k, k < w.heap.size → k ≠ g → w'.heap[k]? = w.heap[k]?
theorem Els.refl (g : Nat) (w : World) : Els g w w := ⟨rfl, rfl, rfl, Nat.le_refl _, fun _ _ _ => rfl⟩
theorem Els.of_below {g : Nat} {w w' : World} (h : Below w.heap.size w w') : Els g w w' := ⟨h.os, h.tape, h.output, h.size, fun k hk _ => h.block k hk⟩
theorem Els.trans {g : Nat} {a b c : World} (h : Els g a b) (k : Els g b c) : Els g a c :=
  ⟨k.os.trans h.os, k.tape.trans h.tape, k.output.trans h.output, Nat.le_trans h.size k.size, fun i hi hg => (k.block i (by have := h.size; omega) hg).trans (h.block i hi hg)⟩
theorem Els.set {g : Nat} {w w' : World} (h : Els g w w') (j : Nat) (u : Value) : Els g w (w'.setCell ⟨g, j, none⟩ u) :=
  h.trans ⟨rfl, rfl, rfl, by simp [World.setCell], fun k _ hk => Below.heap_setCell _ _ _ _ (by show k ≠ g; exact hk)⟩
theorem Els.below {g B : Nat} {w w' : World} (h : Els g w w') (hB : B ≤ g) (hs : B ≤ w.heap.size) : Below B w w' := ⟨h.os, h.tape, h.output, h.size, fun k hk => h.block k (by omega) (by omega)⟩

set_option maxHeartbeats 1000000 in
theorem ended_any (w : World) (B g : Nat) (l : List Ins) (s : St) (pv sv : Value) (ps : List Value) (hm : MachP w B g l s pv sv ps) (hg : Good l.length s) :
    Calls Try.prog 84 #[.pointer (some ⟨g, 0, none⟩)] w fun e w' => e = .returned (.bool ((s.pos : Int) == (l.length : Int))) ∧ ∃ nq, w' = w.drewN nq := by
  obtain ⟨ao, cap, rfl⟩ := hm.prog.len
  obtain ⟨c0, c1, c34, _, _⟩ := hm.cells hg.2.1
  obtain ⟨n, hn'⟩ : ∃ n, l.length = n := ⟨_, rfl⟩
  rw [hn'] at c0 ⊢
  clear hm hg hn'
  go_enter Try.func84, Try.ntmps84
  go_wp2
  go_quiet (fail)
  go_wp2
  go_ret
  exact ⟨rfl, _, rfl⟩

/-- A step went well. -/
def StepOk (w : World) (B g : Nat) (l : List Ins) (s' : St) (pv sv : Value) (e : Ending) (w' : World) : Prop :=
  ∃ ps', e = .returned (.bool true) ∧ MachP w' B g l s' pv sv ps' ∧ Els g w w'

theorem step_fin {w wd : World} {B g : Nat} {l : List Ins} {s : St} {pv sv : Value} {ps : List Value} (hm : MachP wd B g l s pv sv ps) (h32 : s.regs.length = 32) (hb : Els g w wd) (ra : Nat) (hra : ra < 32) {t : Tr} {q : Option Addr} (hn : NodeP 135 wd t (.pointer q)) :
    ∃ ps', MachP ((wd.setCell ⟨g, 2 + ra, none⟩ (.pointer q)).setCell ⟨g, 34, none⟩ (.int .i64 ((s.pos : Int) + 1))) B g l ⟨s.pos + 1, s.regs.set ra t⟩ pv sv ps' ∧ Els g w ((wd.setCell ⟨g, 2 + ra, none⟩ (.pointer q)).setCell ⟨g, 34, none⟩ (.int .i64 ((s.pos : Int) + 1))) :=
  ⟨_, (hm.setReg ra (by omega) hn).setPos (by simp [h32]) (s.pos + 1), (hb.set _ _).set _ _⟩
theorem step_fin_drew {w w' : World} {B g : Nat} {l : List Ins} {s' : St} {pv sv : Value} (h : ∃ ps', MachP w' B g l s' pv sv ps' ∧ Els g w w') : ∃ ps', MachP w'.drew B g l s' pv sv ps' ∧ Els g w w'.drew := by
  obtain ⟨ps', h1, h2⟩ := h
  exact ⟨ps', h1.kept (Below.refl _ _).drew, h2.trans (Els.of_below (Below.refl _ _).drew)⟩
theorem StepOk.mk' {w : World} {B g : Nat} {l : List Ins} {s' : St} {pv sv : Value} {e : Ending} {w' : World} (he : e = .returned (.bool true)) (h : ∃ ps', MachP w' B g l s' pv sv ps' ∧ Els g w w') : StepOk w B g l s' pv sv e w' := by
  obtain ⟨ps', h1, h2⟩ := h
  exact ⟨ps', he, h1, h2⟩

set_option maxRecDepth 20000 in
set_option maxHeartbeats 4000000 in
theorem step_set (w : World) (B g : Nat) (l : List Ins) (s : St) (pv sv : Value) (ps : List Value) (hm : MachP w B g l s pv sv ps) (hg : Good l.length s) (hn4 : l.length ≤ 4000) (ra : Nat) (ha : ra < 32) (b c : Int) (tree : ByteArray)
    (hx : l[s.pos]? = some ⟨0, (ra : Nat), b, c, tree⟩) :
    Calls Try.prog 116 #[.pointer (some ⟨g, 0, none⟩)] w (StepOk w B g l ⟨s.pos + 1, s.regs.set ra (toTr tree)⟩ pv sv) := by
  have hp : s.pos < l.length := (List.getElem?_eq_some_iff.1 hx).1
  obtain ⟨ao, cap, rfl⟩ := hm.prog.len
  obtain ⟨c0, c1, c34, hr, hf⟩ := hm.cells hg.2.1
  have hl := hm.prog
  have hlt := hm.lt
  have hle := hm.le
  obtain ⟨xs, hxs, hown⟩ := hm.sets
  obtain ⟨n, hn'⟩ : ∃ n, l.length = n := ⟨_, rfl⟩
  rw [hn'] at hl c0 hp hn4 hown
  obtain ⟨pg, off, rfl, hpg, p0, p1, p2, p3, p4⟩ := hl.get hx
  dsimp only at p0 p1 p2 p3 p4
  have h32 := hg.2.1
  have HX := Lib.hid hx
  have HN := Lib.hid hn'
  have HM := Lib.hid hm
  have hi0 : (0 : Int) ≤ (s.pos : Int) := Int.natCast_nonneg _
  have hi1 : (s.pos : Int) < (n : Int) := by omega
  obtain ⟨wd, hwd⟩ : ∃ wd, (w.alloc (.cells #[.int .i64 (0), .int .i64 (ra : Nat), .int .i64 (b), .int .i64 (c), .string tree] 52)).drew = wd := ⟨_, rfl⟩
  have hbd : Below w.heap.size w wd := by rw [← hwd]; exact ((Below.refl _ _).alloc (Nat.le_refl _) _).drew
  have hbox : wd.heap[w.heap.size]? = some (.cells #[.int .i64 (0), .int .i64 (ra : Nat), .int .i64 (b), .int .i64 (c), .string tree] 52 (0, 0)) := by rw [← hwd]; exact heap_alloc_new w _
  have keep : ∀ w', Below w.heap.size w w' → w'.cell? ⟨g, 0, none⟩ = some (.slice (some ⟨pg, off, none⟩) n cap) ∧ w'.cell? ⟨g, 34, none⟩ = some (.int .i64 s.pos) ∧ w'.cell? ⟨pg, off + s.pos * 5, none⟩ = some (.int .i64 (0)) ∧ w'.cell? ⟨pg, off + s.pos * 5 + 1, none⟩ = some (.int .i64 (ra : Nat)) ∧
      w'.cell? ⟨pg, off + s.pos * 5 + 2, none⟩ = some (.int .i64 (b)) ∧ w'.cell? ⟨pg, off + s.pos * 5 + 3, none⟩ = some (.int .i64 (c)) ∧ w'.cell? ⟨pg, off + s.pos * 5 + 4, none⟩ = some (.string tree) := fun w' hb => by
    refine ⟨(hb.cell (p := ⟨g, 0, none⟩) hlt).trans c0, (hb.cell (p := ⟨g, 34, none⟩) hlt).trans c34, (hb.cell (p := ⟨pg, off + s.pos * 5, none⟩) (by show pg < _; omega)).trans p0, (hb.cell (p := ⟨pg, off + s.pos * 5 + 1, none⟩) (by show pg < _; omega)).trans p1, (hb.cell (p := ⟨pg, off + s.pos * 5 + 2, none⟩) (by show pg < _; omega)).trans p2, (hb.cell (p := ⟨pg, off + s.pos * 5 + 3, none⟩) (by show pg < _; omega)).trans p3, (hb.cell (p := ⟨pg, off + s.pos * 5 + 4, none⟩) (by show pg < _; omega)).trans p4⟩
  have hmd := hm.kept hbd
  obtain ⟨d0, d1, d34, dr, df⟩ := hmd.cells h32
  have e0 := (block_cells hbox).1 0
  have e1 := (block_cells hbox).1 1
  have e2 := (block_cells hbox).1 2
  have e3 := (block_cells hbox).1 3
  simp only [List.getElem?_toArray, List.getElem?_cons_zero, List.getElem?_cons_succ] at e0 e1 e2 e3
  have hbl : w.heap.size < wd.heap.size := (Array.getElem?_eq_some_iff.1 hbox).1
  have HMD := Lib.hid hmd
  clear hmd hbox
  obtain ⟨tra, htra⟩ : ∃ t, s.regs[ra]? = some t := ⟨_, List.getElem?_eq_getElem (by omega)⟩
  obtain ⟨qra, fra, nra⟩ := dr ra tra htra
  have zra := df (2 + ra)
  obtain ⟨v0, hv0, hnv⟩ := hxs.get (j := s.pos) (t := toTr tree) (by rw [List.getElem?_map, hx]; rfl)
  obtain ⟨sp, rfl⟩ := hnv.ptr
  have hnd := hnv.kept (Kept.below hbd)
  have hown' := own_below hown hbd
  obtain ⟨sg, scp, rfl, hsr⟩ := own_cells hown' (by omega)

  clear hm hg hl hx hn' hxs hown hr hle hpg
  go_enter Try.func116, Try.ntmps116
  go_wp2
  go_region_held3 (fun w' => w'.cell? ⟨g, 0, none⟩ = some (.slice (some ⟨pg, off, none⟩) n cap) ∧ w'.cell? ⟨g, 34, none⟩ = some (.int .i64 s.pos) ∧ w'.cell? ⟨pg, off + s.pos * 5, none⟩ = some (.int .i64 (0)) ∧ w'.cell? ⟨pg, off + s.pos * 5 + 1, none⟩ = some (.int .i64 (ra : Nat)) ∧
      w'.cell? ⟨pg, off + s.pos * 5 + 2, none⟩ = some (.int .i64 (b)) ∧ w'.cell? ⟨pg, off + s.pos * 5 + 3, none⟩ = some (.int .i64 (c)) ∧ w'.cell? ⟨pg, off + s.pos * 5 + 4, none⟩ = some (.string tree))
    (exact keep _ (by first | exact hbd | exact (Below.refl _ _).drew | exact ((Below.refl _ _).drew).alloc (Nat.le_refl _) _))
    (fail)
  try rw [hwd]
  clear keep hwd p0 p1 p2 p3 p4 c0 c1 c34
  have hset : wd.cell? ⟨sg, s.pos, none⟩ = some (.pointer sp) := by rw [hsr.2.2.2.2.1 s.pos (by omega), hv0]
  have HND := Lib.hid hnd
  clear hsr dr df hnd nra hnv
  have df34 := (block_cells HMD.out.blk).2 34
  go_wp2
  go_region
  go_wp2
  go_ret
  refine StepOk.mk' rfl ?_
  first
  | exact step_fin_drew (step_fin HMD.out h32 (Els.of_below hbd) ra ha HND.out)
  | exact step_fin (HMD.out.kept (Below.refl _ _).drew) h32 (Els.of_below hbd.drew) ra ha (NodeP.kept (Kept.refl _ _).drew HND.out)

set_option maxRecDepth 20000 in
set_option maxHeartbeats 4000000 in
theorem step_move (w : World) (B g : Nat) (l : List Ins) (s : St) (pv sv : Value) (ps : List Value) (hm : MachP w B g l s pv sv ps) (hg : Good l.length s) (hn4 : l.length ≤ 4000) (ra : Nat) (ha : ra < 32) (rb : Nat) (hb : rb < 32) (t : Tr) (ht : s.regs[rb]? = some t) (c : Int) (tree : ByteArray)
    (hx : l[s.pos]? = some ⟨1, (ra : Nat), (rb : Nat), c, tree⟩) :
    Calls Try.prog 116 #[.pointer (some ⟨g, 0, none⟩)] w (StepOk w B g l ⟨s.pos + 1, s.regs.set ra t⟩ pv sv) := by
  have hp : s.pos < l.length := (List.getElem?_eq_some_iff.1 hx).1
  obtain ⟨ao, cap, rfl⟩ := hm.prog.len
  obtain ⟨c0, c1, c34, hr, hf⟩ := hm.cells hg.2.1
  have hl := hm.prog
  have hlt := hm.lt
  have hle := hm.le
  obtain ⟨xs, hxs, hown⟩ := hm.sets
  obtain ⟨n, hn'⟩ : ∃ n, l.length = n := ⟨_, rfl⟩
  rw [hn'] at hl c0 hp hn4 hown
  obtain ⟨pg, off, rfl, hpg, p0, p1, p2, p3, p4⟩ := hl.get hx
  dsimp only at p0 p1 p2 p3 p4
  have h32 := hg.2.1
  have HX := Lib.hid hx
  have HN := Lib.hid hn'
  have HM := Lib.hid hm
  have hi0 : (0 : Int) ≤ (s.pos : Int) := Int.natCast_nonneg _
  have hi1 : (s.pos : Int) < (n : Int) := by omega
  obtain ⟨wd, hwd⟩ : ∃ wd, (w.alloc (.cells #[.int .i64 (1), .int .i64 (ra : Nat), .int .i64 (rb : Nat), .int .i64 (c), .string tree] 52)).drew = wd := ⟨_, rfl⟩
  have hbd : Below w.heap.size w wd := by rw [← hwd]; exact ((Below.refl _ _).alloc (Nat.le_refl _) _).drew
  have hbox : wd.heap[w.heap.size]? = some (.cells #[.int .i64 (1), .int .i64 (ra : Nat), .int .i64 (rb : Nat), .int .i64 (c), .string tree] 52 (0, 0)) := by rw [← hwd]; exact heap_alloc_new w _
  have keep : ∀ w', Below w.heap.size w w' → w'.cell? ⟨g, 0, none⟩ = some (.slice (some ⟨pg, off, none⟩) n cap) ∧ w'.cell? ⟨g, 34, none⟩ = some (.int .i64 s.pos) ∧ w'.cell? ⟨pg, off + s.pos * 5, none⟩ = some (.int .i64 (1)) ∧ w'.cell? ⟨pg, off + s.pos * 5 + 1, none⟩ = some (.int .i64 (ra : Nat)) ∧
      w'.cell? ⟨pg, off + s.pos * 5 + 2, none⟩ = some (.int .i64 (rb : Nat)) ∧ w'.cell? ⟨pg, off + s.pos * 5 + 3, none⟩ = some (.int .i64 (c)) ∧ w'.cell? ⟨pg, off + s.pos * 5 + 4, none⟩ = some (.string tree) := fun w' hb => by
    refine ⟨(hb.cell (p := ⟨g, 0, none⟩) hlt).trans c0, (hb.cell (p := ⟨g, 34, none⟩) hlt).trans c34, (hb.cell (p := ⟨pg, off + s.pos * 5, none⟩) (by show pg < _; omega)).trans p0, (hb.cell (p := ⟨pg, off + s.pos * 5 + 1, none⟩) (by show pg < _; omega)).trans p1, (hb.cell (p := ⟨pg, off + s.pos * 5 + 2, none⟩) (by show pg < _; omega)).trans p2, (hb.cell (p := ⟨pg, off + s.pos * 5 + 3, none⟩) (by show pg < _; omega)).trans p3, (hb.cell (p := ⟨pg, off + s.pos * 5 + 4, none⟩) (by show pg < _; omega)).trans p4⟩
  have hmd := hm.kept hbd
  obtain ⟨d0, d1, d34, dr, df⟩ := hmd.cells h32
  have e0 := (block_cells hbox).1 0
  have e1 := (block_cells hbox).1 1
  have e2 := (block_cells hbox).1 2
  have e3 := (block_cells hbox).1 3
  simp only [List.getElem?_toArray, List.getElem?_cons_zero, List.getElem?_cons_succ] at e0 e1 e2 e3
  have hbl : w.heap.size < wd.heap.size := (Array.getElem?_eq_some_iff.1 hbox).1
  have HMD := Lib.hid hmd
  clear hmd hbox
  obtain ⟨tra, htra⟩ : ∃ t, s.regs[ra]? = some t := ⟨_, List.getElem?_eq_getElem (by omega)⟩
  obtain ⟨qra, fra, nra⟩ := dr ra tra htra
  have zra := df (2 + ra)
  obtain ⟨qb, fb, nb⟩ := dr rb t ht

  clear hm hg hl hx hn' hxs hown hr hle hpg
  go_enter Try.func116, Try.ntmps116
  go_wp2
  go_region_held3 (fun w' => w'.cell? ⟨g, 0, none⟩ = some (.slice (some ⟨pg, off, none⟩) n cap) ∧ w'.cell? ⟨g, 34, none⟩ = some (.int .i64 s.pos) ∧ w'.cell? ⟨pg, off + s.pos * 5, none⟩ = some (.int .i64 (1)) ∧ w'.cell? ⟨pg, off + s.pos * 5 + 1, none⟩ = some (.int .i64 (ra : Nat)) ∧
      w'.cell? ⟨pg, off + s.pos * 5 + 2, none⟩ = some (.int .i64 (rb : Nat)) ∧ w'.cell? ⟨pg, off + s.pos * 5 + 3, none⟩ = some (.int .i64 (c)) ∧ w'.cell? ⟨pg, off + s.pos * 5 + 4, none⟩ = some (.string tree))
    (exact keep _ (by first | exact hbd | exact (Below.refl _ _).drew | exact ((Below.refl _ _).drew).alloc (Nat.le_refl _) _))
    (fail)
  try rw [hwd]
  clear keep hwd p0 p1 p2 p3 p4 c0 c1 c34
  have HND := Lib.hid nb
  clear dr df nb nra
  have df34 := (block_cells HMD.out.blk).2 34
  go_wp2
  go_region
  go_wp2
  go_ret
  refine StepOk.mk' rfl ?_
  first
  | exact step_fin_drew (step_fin HMD.out h32 (Els.of_below hbd) ra ha HND.out)
  | exact step_fin (HMD.out.kept (Below.refl _ _).drew) h32 (Els.of_below hbd.drew) ra ha (NodeP.kept (Kept.refl _ _).drew HND.out)

set_option maxRecDepth 20000 in
set_option maxHeartbeats 4000000 in
theorem step_head (w : World) (B g : Nat) (l : List Ins) (s : St) (pv sv : Value) (ps : List Value) (hm : MachP w B g l s pv sv ps) (hg : Good l.length s) (hn4 : l.length ≤ 4000) (ra : Nat) (ha : ra < 32) (rb : Nat) (hb : rb < 32) (t : Tr) (ht : s.regs[rb]? = some t) (c : Int) (tree : ByteArray)
    (hx : l[s.pos]? = some ⟨3, (ra : Nat), (rb : Nat), c, tree⟩) :
    Calls Try.prog 116 #[.pointer (some ⟨g, 0, none⟩)] w (StepOk w B g l ⟨s.pos + 1, s.regs.set ra t.hd⟩ pv sv) := by
  have hp : s.pos < l.length := (List.getElem?_eq_some_iff.1 hx).1
  obtain ⟨ao, cap, rfl⟩ := hm.prog.len
  obtain ⟨c0, c1, c34, hr, hf⟩ := hm.cells hg.2.1
  have hl := hm.prog
  have hlt := hm.lt
  have hle := hm.le
  obtain ⟨xs, hxs, hown⟩ := hm.sets
  obtain ⟨n, hn'⟩ : ∃ n, l.length = n := ⟨_, rfl⟩
  rw [hn'] at hl c0 hp hn4 hown
  obtain ⟨pg, off, rfl, hpg, p0, p1, p2, p3, p4⟩ := hl.get hx
  dsimp only at p0 p1 p2 p3 p4
  have h32 := hg.2.1
  have HX := Lib.hid hx
  have HN := Lib.hid hn'
  have HM := Lib.hid hm
  have hi0 : (0 : Int) ≤ (s.pos : Int) := Int.natCast_nonneg _
  have hi1 : (s.pos : Int) < (n : Int) := by omega
  obtain ⟨wd, hwd⟩ : ∃ wd, (w.alloc (.cells #[.int .i64 (3), .int .i64 (ra : Nat), .int .i64 (rb : Nat), .int .i64 (c), .string tree] 52)).drew = wd := ⟨_, rfl⟩
  have hbd : Below w.heap.size w wd := by rw [← hwd]; exact ((Below.refl _ _).alloc (Nat.le_refl _) _).drew
  have hbox : wd.heap[w.heap.size]? = some (.cells #[.int .i64 (3), .int .i64 (ra : Nat), .int .i64 (rb : Nat), .int .i64 (c), .string tree] 52 (0, 0)) := by rw [← hwd]; exact heap_alloc_new w _
  have keep : ∀ w', Below w.heap.size w w' → w'.cell? ⟨g, 0, none⟩ = some (.slice (some ⟨pg, off, none⟩) n cap) ∧ w'.cell? ⟨g, 34, none⟩ = some (.int .i64 s.pos) ∧ w'.cell? ⟨pg, off + s.pos * 5, none⟩ = some (.int .i64 (3)) ∧ w'.cell? ⟨pg, off + s.pos * 5 + 1, none⟩ = some (.int .i64 (ra : Nat)) ∧
      w'.cell? ⟨pg, off + s.pos * 5 + 2, none⟩ = some (.int .i64 (rb : Nat)) ∧ w'.cell? ⟨pg, off + s.pos * 5 + 3, none⟩ = some (.int .i64 (c)) ∧ w'.cell? ⟨pg, off + s.pos * 5 + 4, none⟩ = some (.string tree) := fun w' hb => by
    refine ⟨(hb.cell (p := ⟨g, 0, none⟩) hlt).trans c0, (hb.cell (p := ⟨g, 34, none⟩) hlt).trans c34, (hb.cell (p := ⟨pg, off + s.pos * 5, none⟩) (by show pg < _; omega)).trans p0, (hb.cell (p := ⟨pg, off + s.pos * 5 + 1, none⟩) (by show pg < _; omega)).trans p1, (hb.cell (p := ⟨pg, off + s.pos * 5 + 2, none⟩) (by show pg < _; omega)).trans p2, (hb.cell (p := ⟨pg, off + s.pos * 5 + 3, none⟩) (by show pg < _; omega)).trans p3, (hb.cell (p := ⟨pg, off + s.pos * 5 + 4, none⟩) (by show pg < _; omega)).trans p4⟩
  have hmd := hm.kept hbd
  obtain ⟨d0, d1, d34, dr, df⟩ := hmd.cells h32
  have e0 := (block_cells hbox).1 0
  have e1 := (block_cells hbox).1 1
  have e2 := (block_cells hbox).1 2
  have e3 := (block_cells hbox).1 3
  simp only [List.getElem?_toArray, List.getElem?_cons_zero, List.getElem?_cons_succ] at e0 e1 e2 e3
  have hbl : w.heap.size < wd.heap.size := (Array.getElem?_eq_some_iff.1 hbox).1
  have HMD := Lib.hid hmd
  clear hmd hbox
  obtain ⟨tra, htra⟩ : ∃ t, s.regs[ra]? = some t := ⟨_, List.getElem?_eq_getElem (by omega)⟩
  obtain ⟨qra, fra, nra⟩ := dr ra tra htra
  have zra := df (2 + ra)
  obtain ⟨qb, fb, nb⟩ := dr rb t ht

  clear hm hg hl hx hn' hxs hown hr hle hpg
  go_enter Try.func116, Try.ntmps116
  go_wp2
  go_region_held3 (fun w' => w'.cell? ⟨g, 0, none⟩ = some (.slice (some ⟨pg, off, none⟩) n cap) ∧ w'.cell? ⟨g, 34, none⟩ = some (.int .i64 s.pos) ∧ w'.cell? ⟨pg, off + s.pos * 5, none⟩ = some (.int .i64 (3)) ∧ w'.cell? ⟨pg, off + s.pos * 5 + 1, none⟩ = some (.int .i64 (ra : Nat)) ∧
      w'.cell? ⟨pg, off + s.pos * 5 + 2, none⟩ = some (.int .i64 (rb : Nat)) ∧ w'.cell? ⟨pg, off + s.pos * 5 + 3, none⟩ = some (.int .i64 (c)) ∧ w'.cell? ⟨pg, off + s.pos * 5 + 4, none⟩ = some (.string tree))
    (exact keep _ (by first | exact hbd | exact (Below.refl _ _).drew | exact ((Below.refl _ _).drew).alloc (Nat.le_refl _) _))
    (fail)
  try rw [hwd]
  clear keep hwd p0 p1 p2 p3 p4 c0 c1 c34
  have HND := Lib.hid nb
  have kc : ∀ w', Below wd.heap.size wd w' → Calls Try.prog 135 #[.pointer qb] w' fun e w'' => ∃ x, e = .returned (.pointer x) ∧ NodeP 135 w' t.hd (.pointer x) ∧ w' = w'' := fun w' hb' => nodeHead_any t _ w' (HND.out.kept (Kept.below hb'))
  clear dr df nb nra
  have df34 := (block_cells HMD.out.blk).2 34
  go_wp2
  go_region_with (refine (kc _ (by first | exact Below.refl _ _ | exact (Below.refl _ _).drew)).mono ?_; rintro e w2 ⟨xq, rfl, hnx, rfl⟩)
  all_goals
    go_wp2
    go_ret
    refine StepOk.mk' rfl ?_
    first
    | exact step_fin_drew (step_fin HMD.out h32 (Els.of_below hbd) ra ha hnx)
    | exact step_fin (HMD.out.kept (Below.refl _ _).drew) h32 (Els.of_below hbd.drew) ra ha hnx

set_option maxRecDepth 20000 in
set_option maxHeartbeats 4000000 in
theorem step_tail (w : World) (B g : Nat) (l : List Ins) (s : St) (pv sv : Value) (ps : List Value) (hm : MachP w B g l s pv sv ps) (hg : Good l.length s) (hn4 : l.length ≤ 4000) (ra : Nat) (ha : ra < 32) (rb : Nat) (hb : rb < 32) (t : Tr) (ht : s.regs[rb]? = some t) (c : Int) (tree : ByteArray)
    (hx : l[s.pos]? = some ⟨4, (ra : Nat), (rb : Nat), c, tree⟩) :
    Calls Try.prog 116 #[.pointer (some ⟨g, 0, none⟩)] w (StepOk w B g l ⟨s.pos + 1, s.regs.set ra t.tl⟩ pv sv) := by
  have hp : s.pos < l.length := (List.getElem?_eq_some_iff.1 hx).1
  obtain ⟨ao, cap, rfl⟩ := hm.prog.len
  obtain ⟨c0, c1, c34, hr, hf⟩ := hm.cells hg.2.1
  have hl := hm.prog
  have hlt := hm.lt
  have hle := hm.le
  obtain ⟨xs, hxs, hown⟩ := hm.sets
  obtain ⟨n, hn'⟩ : ∃ n, l.length = n := ⟨_, rfl⟩
  rw [hn'] at hl c0 hp hn4 hown
  obtain ⟨pg, off, rfl, hpg, p0, p1, p2, p3, p4⟩ := hl.get hx
  dsimp only at p0 p1 p2 p3 p4
  have h32 := hg.2.1
  have HX := Lib.hid hx
  have HN := Lib.hid hn'
  have HM := Lib.hid hm
  have hi0 : (0 : Int) ≤ (s.pos : Int) := Int.natCast_nonneg _
  have hi1 : (s.pos : Int) < (n : Int) := by omega
  obtain ⟨wd, hwd⟩ : ∃ wd, (w.alloc (.cells #[.int .i64 (4), .int .i64 (ra : Nat), .int .i64 (rb : Nat), .int .i64 (c), .string tree] 52)).drew = wd := ⟨_, rfl⟩
  have hbd : Below w.heap.size w wd := by rw [← hwd]; exact ((Below.refl _ _).alloc (Nat.le_refl _) _).drew
  have hbox : wd.heap[w.heap.size]? = some (.cells #[.int .i64 (4), .int .i64 (ra : Nat), .int .i64 (rb : Nat), .int .i64 (c), .string tree] 52 (0, 0)) := by rw [← hwd]; exact heap_alloc_new w _
  have keep : ∀ w', Below w.heap.size w w' → w'.cell? ⟨g, 0, none⟩ = some (.slice (some ⟨pg, off, none⟩) n cap) ∧ w'.cell? ⟨g, 34, none⟩ = some (.int .i64 s.pos) ∧ w'.cell? ⟨pg, off + s.pos * 5, none⟩ = some (.int .i64 (4)) ∧ w'.cell? ⟨pg, off + s.pos * 5 + 1, none⟩ = some (.int .i64 (ra : Nat)) ∧
      w'.cell? ⟨pg, off + s.pos * 5 + 2, none⟩ = some (.int .i64 (rb : Nat)) ∧ w'.cell? ⟨pg, off + s.pos * 5 + 3, none⟩ = some (.int .i64 (c)) ∧ w'.cell? ⟨pg, off + s.pos * 5 + 4, none⟩ = some (.string tree) := fun w' hb => by
    refine ⟨(hb.cell (p := ⟨g, 0, none⟩) hlt).trans c0, (hb.cell (p := ⟨g, 34, none⟩) hlt).trans c34, (hb.cell (p := ⟨pg, off + s.pos * 5, none⟩) (by show pg < _; omega)).trans p0, (hb.cell (p := ⟨pg, off + s.pos * 5 + 1, none⟩) (by show pg < _; omega)).trans p1, (hb.cell (p := ⟨pg, off + s.pos * 5 + 2, none⟩) (by show pg < _; omega)).trans p2, (hb.cell (p := ⟨pg, off + s.pos * 5 + 3, none⟩) (by show pg < _; omega)).trans p3, (hb.cell (p := ⟨pg, off + s.pos * 5 + 4, none⟩) (by show pg < _; omega)).trans p4⟩
  have hmd := hm.kept hbd
  obtain ⟨d0, d1, d34, dr, df⟩ := hmd.cells h32
  have e0 := (block_cells hbox).1 0
  have e1 := (block_cells hbox).1 1
  have e2 := (block_cells hbox).1 2
  have e3 := (block_cells hbox).1 3
  simp only [List.getElem?_toArray, List.getElem?_cons_zero, List.getElem?_cons_succ] at e0 e1 e2 e3
  have hbl : w.heap.size < wd.heap.size := (Array.getElem?_eq_some_iff.1 hbox).1
  have HMD := Lib.hid hmd
  clear hmd hbox
  obtain ⟨tra, htra⟩ : ∃ t, s.regs[ra]? = some t := ⟨_, List.getElem?_eq_getElem (by omega)⟩
  obtain ⟨qra, fra, nra⟩ := dr ra tra htra
  have zra := df (2 + ra)
  obtain ⟨qb, fb, nb⟩ := dr rb t ht

  clear hm hg hl hx hn' hxs hown hr hle hpg
  go_enter Try.func116, Try.ntmps116
  go_wp2
  go_region_held3 (fun w' => w'.cell? ⟨g, 0, none⟩ = some (.slice (some ⟨pg, off, none⟩) n cap) ∧ w'.cell? ⟨g, 34, none⟩ = some (.int .i64 s.pos) ∧ w'.cell? ⟨pg, off + s.pos * 5, none⟩ = some (.int .i64 (4)) ∧ w'.cell? ⟨pg, off + s.pos * 5 + 1, none⟩ = some (.int .i64 (ra : Nat)) ∧
      w'.cell? ⟨pg, off + s.pos * 5 + 2, none⟩ = some (.int .i64 (rb : Nat)) ∧ w'.cell? ⟨pg, off + s.pos * 5 + 3, none⟩ = some (.int .i64 (c)) ∧ w'.cell? ⟨pg, off + s.pos * 5 + 4, none⟩ = some (.string tree))
    (exact keep _ (by first | exact hbd | exact (Below.refl _ _).drew | exact ((Below.refl _ _).drew).alloc (Nat.le_refl _) _))
    (fail)
  try rw [hwd]
  clear keep hwd p0 p1 p2 p3 p4 c0 c1 c34
  have HND := Lib.hid nb
  have kc : ∀ w', Below wd.heap.size wd w' → Calls Try.prog 136 #[.pointer qb] w' fun e w'' => ∃ x, e = .returned (.pointer x) ∧ NodeP 135 w' t.tl (.pointer x) ∧ w' = w'' := fun w' hb' => nodeTail_any t _ w' (HND.out.kept (Kept.below hb'))
  clear dr df nb nra
  have df34 := (block_cells HMD.out.blk).2 34
  go_wp2
  go_region_with (refine (kc _ (by first | exact Below.refl _ _ | exact (Below.refl _ _).drew)).mono ?_; rintro e w2 ⟨xq, rfl, hnx, rfl⟩)
  all_goals
    go_wp2
    go_ret
    refine StepOk.mk' rfl ?_
    first
    | exact step_fin_drew (step_fin HMD.out h32 (Els.of_below hbd) ra ha hnx)
    | exact step_fin (HMD.out.kept (Below.refl _ _).drew) h32 (Els.of_below hbd.drew) ra ha hnx

end Go.Proofs.Ytaiomcjopgnfpaa

namespace Go.Proofs.Ytaiomcjopgnfpaa
open Go.RowKit

set_option maxRecDepth 20000 in
set_option maxHeartbeats 4000000 in
theorem step_cons_ok (w : World) (B g : Nat) (l : List Ins) (s : St) (pv sv : Value) (ps : List Value) (hm : MachP w B g l s pv sv ps) (hg : Good l.length s) (hn4 : l.length ≤ 4000) (ra : Nat) (ha : ra < 32) (rb : Nat) (hb : rb < 32) (rc : Nat) (hc : rc < 32) (t : Tr) (ht : s.regs[rb]? = some t) (u : Tr) (hu : s.regs[rc]? = some u) (tree : ByteArray) (hsz : (Tr.pair t u).size ≤ 2000000)
    (hx : l[s.pos]? = some ⟨2, (ra : Nat), (rb : Nat), (rc : Nat), tree⟩) :
    Calls Try.prog 116 #[.pointer (some ⟨g, 0, none⟩)] w (StepOk w B g l ⟨s.pos + 1, s.regs.set ra (.pair t u)⟩ pv sv) := by
  have hp : s.pos < l.length := (List.getElem?_eq_some_iff.1 hx).1
  obtain ⟨ao, cap, rfl⟩ := hm.prog.len
  obtain ⟨c0, c1, c34, hr, hf⟩ := hm.cells hg.2.1
  have hl := hm.prog
  have hlt := hm.lt
  have hle := hm.le
  obtain ⟨xs, hxs, hown⟩ := hm.sets
  obtain ⟨n, hn'⟩ : ∃ n, l.length = n := ⟨_, rfl⟩
  rw [hn'] at hl c0 hp hn4 hown
  obtain ⟨pg, off, rfl, hpg, p0, p1, p2, p3, p4⟩ := hl.get hx
  dsimp only at p0 p1 p2 p3 p4
  have h32 := hg.2.1
  have HX := Lib.hid hx
  have HN := Lib.hid hn'
  have HM := Lib.hid hm
  have hi0 : (0 : Int) ≤ (s.pos : Int) := Int.natCast_nonneg _
  have hi1 : (s.pos : Int) < (n : Int) := by omega
  obtain ⟨wd, hwd⟩ : ∃ wd, (w.alloc (.cells #[.int .i64 (2), .int .i64 (ra : Nat), .int .i64 (rb : Nat), .int .i64 (rc : Nat), .string tree] 52)).drew = wd := ⟨_, rfl⟩
  have hbd : Below w.heap.size w wd := by rw [← hwd]; exact ((Below.refl _ _).alloc (Nat.le_refl _) _).drew
  have hbox : wd.heap[w.heap.size]? = some (.cells #[.int .i64 (2), .int .i64 (ra : Nat), .int .i64 (rb : Nat), .int .i64 (rc : Nat), .string tree] 52 (0, 0)) := by rw [← hwd]; exact heap_alloc_new w _
  have keep : ∀ w', Below w.heap.size w w' → w'.cell? ⟨g, 0, none⟩ = some (.slice (some ⟨pg, off, none⟩) n cap) ∧ w'.cell? ⟨g, 34, none⟩ = some (.int .i64 s.pos) ∧ w'.cell? ⟨pg, off + s.pos * 5, none⟩ = some (.int .i64 (2)) ∧ w'.cell? ⟨pg, off + s.pos * 5 + 1, none⟩ = some (.int .i64 (ra : Nat)) ∧
      w'.cell? ⟨pg, off + s.pos * 5 + 2, none⟩ = some (.int .i64 (rb : Nat)) ∧ w'.cell? ⟨pg, off + s.pos * 5 + 3, none⟩ = some (.int .i64 (rc : Nat)) ∧ w'.cell? ⟨pg, off + s.pos * 5 + 4, none⟩ = some (.string tree) := fun w' hb => by
    refine ⟨(hb.cell (p := ⟨g, 0, none⟩) hlt).trans c0, (hb.cell (p := ⟨g, 34, none⟩) hlt).trans c34, (hb.cell (p := ⟨pg, off + s.pos * 5, none⟩) (by show pg < _; omega)).trans p0, (hb.cell (p := ⟨pg, off + s.pos * 5 + 1, none⟩) (by show pg < _; omega)).trans p1, (hb.cell (p := ⟨pg, off + s.pos * 5 + 2, none⟩) (by show pg < _; omega)).trans p2, (hb.cell (p := ⟨pg, off + s.pos * 5 + 3, none⟩) (by show pg < _; omega)).trans p3, (hb.cell (p := ⟨pg, off + s.pos * 5 + 4, none⟩) (by show pg < _; omega)).trans p4⟩
  have hmd := hm.kept hbd
  obtain ⟨d0, d1, d34, dr, df⟩ := hmd.cells h32
  have e0 := (block_cells hbox).1 0
  have e1 := (block_cells hbox).1 1
  have e2 := (block_cells hbox).1 2
  have e3 := (block_cells hbox).1 3
  simp only [List.getElem?_toArray, List.getElem?_cons_zero, List.getElem?_cons_succ] at e0 e1 e2 e3
  have hbl : w.heap.size < wd.heap.size := (Array.getElem?_eq_some_iff.1 hbox).1
  have HMD := Lib.hid hmd
  clear hmd hbox
  have ib0 : (0 : Int) ≤ (rb : Int) := Int.natCast_nonneg _
  have ib1 : (rb : Int) < 32 := by omega
  have ic0 : (0 : Int) ≤ (rc : Int) := Int.natCast_nonneg _
  have ic1 : (rc : Int) < 32 := by omega
  obtain ⟨qb, fb, nb⟩ := dr rb t ht
  obtain ⟨qc, fc, nc⟩ := dr rc u hu
  have h1 := Lib.hid (hg.2.2 _ (List.mem_of_getElem? ht))
  have h2 := Lib.hid (hg.2.2 _ (List.mem_of_getElem? hu))

  clear hm hg hl hx hn' hxs hown hr hle hpg
  go_enter Try.func116, Try.ntmps116
  go_wp2
  go_region_held3 (fun w' => w'.cell? ⟨g, 0, none⟩ = some (.slice (some ⟨pg, off, none⟩) n cap) ∧ w'.cell? ⟨g, 34, none⟩ = some (.int .i64 s.pos) ∧ w'.cell? ⟨pg, off + s.pos * 5, none⟩ = some (.int .i64 (2)) ∧ w'.cell? ⟨pg, off + s.pos * 5 + 1, none⟩ = some (.int .i64 (ra : Nat)) ∧
      w'.cell? ⟨pg, off + s.pos * 5 + 2, none⟩ = some (.int .i64 (rb : Nat)) ∧ w'.cell? ⟨pg, off + s.pos * 5 + 3, none⟩ = some (.int .i64 (rc : Nat)) ∧ w'.cell? ⟨pg, off + s.pos * 5 + 4, none⟩ = some (.string tree))
    (exact keep _ (by first | exact hbd | exact (Below.refl _ _).drew | exact ((Below.refl _ _).drew).alloc (Nat.le_refl _) _))
    (fail)
  try rw [hwd]
  clear keep hwd p0 p1 p2 p3 p4 c0 c1 c34
  have HNB := Lib.hid nb
  have HNC := Lib.hid nc
  have kc : ∀ w', Below wd.heap.size wd w' → Calls Try.prog 134 #[.pointer qb, .pointer qc] w' fun e w'' => ∃ p, e = .returned (.tuple #[.pointer p, .bool true]) ∧ NodeP 135 w'' (.pair t u) (.pointer p) ∧ Below wd.heap.size wd w'' := fun w' hb' => by
    refine (nodeCons_ok t u _ _ w' (HNB.out.kept (Kept.below hb')) (HNC.out.kept (Kept.below hb')) hsz).mono ?_
    rintro e w'' ⟨p, he, hp, hb2⟩
    exact ⟨p, he, hp, hb'.trans (hb2.mono hb'.size)⟩
  have keep2 : ∀ w', Below wd.heap.size wd w' → w'.cell? ⟨w.heap.size, 2, none⟩ = some (.int .i64 (rb : Nat)) ∧ w'.cell? ⟨w.heap.size, 3, none⟩ = some (.int .i64 (rc : Nat)) ∧ w'.cell? ⟨g, 2 + rb, none⟩ = some (.pointer qb) ∧ w'.cell? ⟨g, 2 + rc, none⟩ = some (.pointer qc) := fun w' hb' =>
    ⟨(hb'.cell (p := ⟨w.heap.size, 2, none⟩) hbl).trans e2, (hb'.cell (p := ⟨w.heap.size, 3, none⟩) hbl).trans e3, (hb'.cell (p := ⟨g, 2 + rb, none⟩) (by show g < _; omega)).trans fb, (hb'.cell (p := ⟨g, 2 + rc, none⟩) (by show g < _; omega)).trans fc⟩
  clear dr df nb nc hsz
  go_wp2
  go_region_held3 (fun w' => w'.cell? ⟨w.heap.size, 2, none⟩ = some (.int .i64 (rb : Nat)) ∧ w'.cell? ⟨w.heap.size, 3, none⟩ = some (.int .i64 (rc : Nat)) ∧ w'.cell? ⟨g, 2 + rb, none⟩ = some (.pointer qb) ∧ w'.cell? ⟨g, 2 + rc, none⟩ = some (.pointer qc))
    (exact keep2 _ (by first | exact (Below.refl _ _) | exact (Below.refl _ _).drew | exact hb2 | exact hb2.drew))
    ((refine (kc _ (by first | exact Below.refl _ _ | exact (Below.refl _ _).drew)).mono ?_; rintro e w2 ⟨xq, rfl, hnx, hb2⟩))
  all_goals
    have hmd2 := HMD.out.kept hb2
    obtain ⟨_, _, k34, kr, kf⟩ := hmd2.cells h32
    obtain ⟨ta, hta⟩ : ∃ t, s.regs[ra]? = some t := ⟨_, List.getElem?_eq_getElem (by omega)⟩
    obtain ⟨qa, fa, na⟩ := kr ra ta hta
    have za := kf (2 + ra)
    have k34f := kf 34
    have ia0 : (0 : Int) ≤ (ra : Int) := Int.natCast_nonneg _
    have ia1 : (ra : Int) < 32 := by omega
    have b1 := (hb2.cell (p := ⟨w.heap.size, 1, none⟩) hbl).trans e1
    have HM2 := Lib.hid hmd2
    have HNX := Lib.hid hnx
    have hbe := hbd.trans (hb2.mono hbd.size)
    clear kr kf hmd2 keep2 kc e0 e1 e2 e3 d0 d1 d34 hnx na hta hb2
    try clear fb fc
    go_wp2
    go_region
    go_wp2
    go_ret
    refine StepOk.mk' rfl ?_
    first
    | exact step_fin_drew (step_fin HM2.out h32 (Els.of_below hbe) ra ha HNX.out)
    | exact step_fin (HM2.out.kept (Below.refl _ _).drew) h32 (Els.of_below hbe.drew) ra ha (HNX.out.kept (Kept.refl _ _).drew)

set_option maxRecDepth 20000 in
set_option maxHeartbeats 4000000 in
theorem step_cons_big (w : World) (B g : Nat) (l : List Ins) (s : St) (pv sv : Value) (ps : List Value) (hm : MachP w B g l s pv sv ps) (hg : Good l.length s) (hn4 : l.length ≤ 4000) (ra : Nat) (ha : ra < 32) (rb : Nat) (hb : rb < 32) (rc : Nat) (hc : rc < 32) (t : Tr) (ht : s.regs[rb]? = some t) (u : Tr) (hu : s.regs[rc]? = some u) (tree : ByteArray) (hsz : 2000000 < (Tr.pair t u).size)
    (hx : l[s.pos]? = some ⟨2, (ra : Nat), (rb : Nat), (rc : Nat), tree⟩) :
    Calls Try.prog 116 #[.pointer (some ⟨g, 0, none⟩)] w (fun e w' => e = .returned (.bool false) ∧ MachP w' B g l s pv sv ps ∧ Els g w w') := by
  have hp : s.pos < l.length := (List.getElem?_eq_some_iff.1 hx).1
  obtain ⟨ao, cap, rfl⟩ := hm.prog.len
  obtain ⟨c0, c1, c34, hr, hf⟩ := hm.cells hg.2.1
  have hl := hm.prog
  have hlt := hm.lt
  have hle := hm.le
  obtain ⟨xs, hxs, hown⟩ := hm.sets
  obtain ⟨n, hn'⟩ : ∃ n, l.length = n := ⟨_, rfl⟩
  rw [hn'] at hl c0 hp hn4 hown
  obtain ⟨pg, off, rfl, hpg, p0, p1, p2, p3, p4⟩ := hl.get hx
  dsimp only at p0 p1 p2 p3 p4
  have h32 := hg.2.1
  have HX := Lib.hid hx
  have HN := Lib.hid hn'
  have HM := Lib.hid hm
  have hi0 : (0 : Int) ≤ (s.pos : Int) := Int.natCast_nonneg _
  have hi1 : (s.pos : Int) < (n : Int) := by omega
  obtain ⟨wd, hwd⟩ : ∃ wd, (w.alloc (.cells #[.int .i64 (2), .int .i64 (ra : Nat), .int .i64 (rb : Nat), .int .i64 (rc : Nat), .string tree] 52)).drew = wd := ⟨_, rfl⟩
  have hbd : Below w.heap.size w wd := by rw [← hwd]; exact ((Below.refl _ _).alloc (Nat.le_refl _) _).drew
  have hbox : wd.heap[w.heap.size]? = some (.cells #[.int .i64 (2), .int .i64 (ra : Nat), .int .i64 (rb : Nat), .int .i64 (rc : Nat), .string tree] 52 (0, 0)) := by rw [← hwd]; exact heap_alloc_new w _
  have keep : ∀ w', Below w.heap.size w w' → w'.cell? ⟨g, 0, none⟩ = some (.slice (some ⟨pg, off, none⟩) n cap) ∧ w'.cell? ⟨g, 34, none⟩ = some (.int .i64 s.pos) ∧ w'.cell? ⟨pg, off + s.pos * 5, none⟩ = some (.int .i64 (2)) ∧ w'.cell? ⟨pg, off + s.pos * 5 + 1, none⟩ = some (.int .i64 (ra : Nat)) ∧
      w'.cell? ⟨pg, off + s.pos * 5 + 2, none⟩ = some (.int .i64 (rb : Nat)) ∧ w'.cell? ⟨pg, off + s.pos * 5 + 3, none⟩ = some (.int .i64 (rc : Nat)) ∧ w'.cell? ⟨pg, off + s.pos * 5 + 4, none⟩ = some (.string tree) := fun w' hb => by
    refine ⟨(hb.cell (p := ⟨g, 0, none⟩) hlt).trans c0, (hb.cell (p := ⟨g, 34, none⟩) hlt).trans c34, (hb.cell (p := ⟨pg, off + s.pos * 5, none⟩) (by show pg < _; omega)).trans p0, (hb.cell (p := ⟨pg, off + s.pos * 5 + 1, none⟩) (by show pg < _; omega)).trans p1, (hb.cell (p := ⟨pg, off + s.pos * 5 + 2, none⟩) (by show pg < _; omega)).trans p2, (hb.cell (p := ⟨pg, off + s.pos * 5 + 3, none⟩) (by show pg < _; omega)).trans p3, (hb.cell (p := ⟨pg, off + s.pos * 5 + 4, none⟩) (by show pg < _; omega)).trans p4⟩
  have hmd := hm.kept hbd
  obtain ⟨d0, d1, d34, dr, df⟩ := hmd.cells h32
  have e0 := (block_cells hbox).1 0
  have e1 := (block_cells hbox).1 1
  have e2 := (block_cells hbox).1 2
  have e3 := (block_cells hbox).1 3
  simp only [List.getElem?_toArray, List.getElem?_cons_zero, List.getElem?_cons_succ] at e0 e1 e2 e3
  have hbl : w.heap.size < wd.heap.size := (Array.getElem?_eq_some_iff.1 hbox).1
  have HMD := Lib.hid hmd
  clear hmd hbox
  have ib0 : (0 : Int) ≤ (rb : Int) := Int.natCast_nonneg _
  have ib1 : (rb : Int) < 32 := by omega
  have ic0 : (0 : Int) ≤ (rc : Int) := Int.natCast_nonneg _
  have ic1 : (rc : Int) < 32 := by omega
  obtain ⟨qb, fb, nb⟩ := dr rb t ht
  obtain ⟨qc, fc, nc⟩ := dr rc u hu
  have h1 := Lib.hid (hg.2.2 _ (List.mem_of_getElem? ht))
  have h2 := Lib.hid (hg.2.2 _ (List.mem_of_getElem? hu))

  clear hm hg hl hx hn' hxs hown hr hle hpg
  go_enter Try.func116, Try.ntmps116
  go_wp2
  go_region_held3 (fun w' => w'.cell? ⟨g, 0, none⟩ = some (.slice (some ⟨pg, off, none⟩) n cap) ∧ w'.cell? ⟨g, 34, none⟩ = some (.int .i64 s.pos) ∧ w'.cell? ⟨pg, off + s.pos * 5, none⟩ = some (.int .i64 (2)) ∧ w'.cell? ⟨pg, off + s.pos * 5 + 1, none⟩ = some (.int .i64 (ra : Nat)) ∧
      w'.cell? ⟨pg, off + s.pos * 5 + 2, none⟩ = some (.int .i64 (rb : Nat)) ∧ w'.cell? ⟨pg, off + s.pos * 5 + 3, none⟩ = some (.int .i64 (rc : Nat)) ∧ w'.cell? ⟨pg, off + s.pos * 5 + 4, none⟩ = some (.string tree))
    (exact keep _ (by first | exact hbd | exact (Below.refl _ _).drew | exact ((Below.refl _ _).drew).alloc (Nat.le_refl _) _))
    (fail)
  try rw [hwd]
  clear keep hwd p0 p1 p2 p3 p4 c0 c1 c34
  have HNB := Lib.hid nb
  have HNC := Lib.hid nc
  have kc : ∀ w', Below wd.heap.size wd w' → Calls Try.prog 134 #[.pointer qb, .pointer qc] w' fun e w'' => e = .returned (.tuple #[.pointer none, .bool false]) ∧ w' = w'' := fun w' hb' =>
    nodeCons_big t u _ _ w' (HNB.out.kept (Kept.below hb')) (HNC.out.kept (Kept.below hb')) h1.out h2.out hsz
  have keep2 : ∀ w', Below wd.heap.size wd w' → w'.cell? ⟨w.heap.size, 2, none⟩ = some (.int .i64 (rb : Nat)) ∧ w'.cell? ⟨w.heap.size, 3, none⟩ = some (.int .i64 (rc : Nat)) ∧ w'.cell? ⟨g, 2 + rb, none⟩ = some (.pointer qb) ∧ w'.cell? ⟨g, 2 + rc, none⟩ = some (.pointer qc) := fun w' hb' =>
    ⟨(hb'.cell (p := ⟨w.heap.size, 2, none⟩) hbl).trans e2, (hb'.cell (p := ⟨w.heap.size, 3, none⟩) hbl).trans e3, (hb'.cell (p := ⟨g, 2 + rb, none⟩) (by show g < _; omega)).trans fb, (hb'.cell (p := ⟨g, 2 + rc, none⟩) (by show g < _; omega)).trans fc⟩
  clear dr df nb nc hsz
  go_wp2
  go_region_held3 (fun w' => w'.cell? ⟨w.heap.size, 2, none⟩ = some (.int .i64 (rb : Nat)) ∧ w'.cell? ⟨w.heap.size, 3, none⟩ = some (.int .i64 (rc : Nat)) ∧ w'.cell? ⟨g, 2 + rb, none⟩ = some (.pointer qb) ∧ w'.cell? ⟨g, 2 + rc, none⟩ = some (.pointer qc))
    (exact keep2 _ (by first | exact (Below.refl _ _) | exact (Below.refl _ _).drew))
    ((refine (kc _ (by first | exact Below.refl _ _ | exact (Below.refl _ _).drew)).mono ?_; rintro e w2 ⟨rfl, rfl⟩))
  all_goals
    go_wp2
    go_ret
    exact ⟨rfl, HMD.out.kept (Below.refl _ _).drew, Els.of_below hbd.drew⟩

end Go.Proofs.Ytaiomcjopgnfpaa

namespace Go.Proofs.Ytaiomcjopgnfpaa
open Go.RowKit

theorem step_jfin {w wd : World} {B g : Nat} {l : List Ins} {s : St} {pv sv : Value} {ps : List Value} (hm : MachP wd B g l s pv sv ps) (h32 : s.regs.length = 32) (hb : Els g w wd) (z : Int) (p : Nat) (hz : z = p) :
    ∃ ps', MachP (wd.setCell ⟨g, 34, none⟩ (.int .i64 z)) B g l ⟨p, s.regs⟩ pv sv ps' ∧ Els g w (wd.setCell ⟨g, 34, none⟩ (.int .i64 z)) := by
  subst hz
  exact ⟨_, hm.setPos h32 p, hb.set _ _⟩

set_option maxRecDepth 20000 in
set_option maxHeartbeats 4000000 in
theorem step_jump_no (w : World) (B g : Nat) (l : List Ins) (s : St) (pv sv : Value) (ps : List Value) (hm : MachP w B g l s pv sv ps) (hg : Good l.length s) (hn4 : l.length ≤ 4000) (ra : Nat) (ha : ra < 32) (t : Tr) (ht : s.regs[ra]? = some t) (htn : t = .nil) (b c : Int) (tree : ByteArray) (hb1 : -(s.pos : Int) ≤ b) (hb2 : b ≤ (l.length : Int) - s.pos)
    (hx : l[s.pos]? = some ⟨5, (ra : Nat), b, c, tree⟩) :
    Calls Try.prog 116 #[.pointer (some ⟨g, 0, none⟩)] w (StepOk w B g l ⟨s.pos + 1, s.regs⟩ pv sv) := by
  have hp : s.pos < l.length := (List.getElem?_eq_some_iff.1 hx).1
  obtain ⟨ao, cap, rfl⟩ := hm.prog.len
  obtain ⟨c0, c1, c34, hr, hf⟩ := hm.cells hg.2.1
  have hl := hm.prog
  have hlt := hm.lt
  have hle := hm.le
  obtain ⟨xs, hxs, hown⟩ := hm.sets
  obtain ⟨n, hn'⟩ : ∃ n, l.length = n := ⟨_, rfl⟩
  rw [hn'] at hl c0 hp hn4 hown
  obtain ⟨pg, off, rfl, hpg, p0, p1, p2, p3, p4⟩ := hl.get hx
  dsimp only at p0 p1 p2 p3 p4
  have h32 := hg.2.1
  have HX := Lib.hid hx
  have HN := Lib.hid hn'
  have HM := Lib.hid hm
  have hi0 : (0 : Int) ≤ (s.pos : Int) := Int.natCast_nonneg _
  have hi1 : (s.pos : Int) < (n : Int) := by omega
  obtain ⟨wd, hwd⟩ : ∃ wd, (w.alloc (.cells #[.int .i64 (5), .int .i64 (ra : Nat), .int .i64 (b), .int .i64 (c), .string tree] 52)).drew = wd := ⟨_, rfl⟩
  have hbd : Below w.heap.size w wd := by rw [← hwd]; exact ((Below.refl _ _).alloc (Nat.le_refl _) _).drew
  have hbox : wd.heap[w.heap.size]? = some (.cells #[.int .i64 (5), .int .i64 (ra : Nat), .int .i64 (b), .int .i64 (c), .string tree] 52 (0, 0)) := by rw [← hwd]; exact heap_alloc_new w _
  have keep : ∀ w', Below w.heap.size w w' → w'.cell? ⟨g, 0, none⟩ = some (.slice (some ⟨pg, off, none⟩) n cap) ∧ w'.cell? ⟨g, 34, none⟩ = some (.int .i64 s.pos) ∧ w'.cell? ⟨pg, off + s.pos * 5, none⟩ = some (.int .i64 (5)) ∧ w'.cell? ⟨pg, off + s.pos * 5 + 1, none⟩ = some (.int .i64 (ra : Nat)) ∧
      w'.cell? ⟨pg, off + s.pos * 5 + 2, none⟩ = some (.int .i64 (b)) ∧ w'.cell? ⟨pg, off + s.pos * 5 + 3, none⟩ = some (.int .i64 (c)) ∧ w'.cell? ⟨pg, off + s.pos * 5 + 4, none⟩ = some (.string tree) := fun w' hb => by
    refine ⟨(hb.cell (p := ⟨g, 0, none⟩) hlt).trans c0, (hb.cell (p := ⟨g, 34, none⟩) hlt).trans c34, (hb.cell (p := ⟨pg, off + s.pos * 5, none⟩) (by show pg < _; omega)).trans p0, (hb.cell (p := ⟨pg, off + s.pos * 5 + 1, none⟩) (by show pg < _; omega)).trans p1, (hb.cell (p := ⟨pg, off + s.pos * 5 + 2, none⟩) (by show pg < _; omega)).trans p2, (hb.cell (p := ⟨pg, off + s.pos * 5 + 3, none⟩) (by show pg < _; omega)).trans p3, (hb.cell (p := ⟨pg, off + s.pos * 5 + 4, none⟩) (by show pg < _; omega)).trans p4⟩
  have hmd := hm.kept hbd
  obtain ⟨d0, d1, d34, dr, df⟩ := hmd.cells h32
  have e0 := (block_cells hbox).1 0
  have e1 := (block_cells hbox).1 1
  have e2 := (block_cells hbox).1 2
  have e3 := (block_cells hbox).1 3
  simp only [List.getElem?_toArray, List.getElem?_cons_zero, List.getElem?_cons_succ] at e0 e1 e2 e3
  have hbl : w.heap.size < wd.heap.size := (Array.getElem?_eq_some_iff.1 hbox).1
  have HMD := Lib.hid hmd
  clear hmd hbox
  obtain ⟨qa, fa, na⟩ := dr ra t ht
  rw [hn'] at hb2
  have ia0 : (0 : Int) ≤ (ra : Int) := Int.natCast_nonneg _
  have ia1 : (ra : Int) < 32 := by omega

  clear hm hg hl hx hn' hxs hown hr hle hpg
  go_enter Try.func116, Try.ntmps116
  go_wp2
  go_region_held3 (fun w' => w'.cell? ⟨g, 0, none⟩ = some (.slice (some ⟨pg, off, none⟩) n cap) ∧ w'.cell? ⟨g, 34, none⟩ = some (.int .i64 s.pos) ∧ w'.cell? ⟨pg, off + s.pos * 5, none⟩ = some (.int .i64 (5)) ∧ w'.cell? ⟨pg, off + s.pos * 5 + 1, none⟩ = some (.int .i64 (ra : Nat)) ∧
      w'.cell? ⟨pg, off + s.pos * 5 + 2, none⟩ = some (.int .i64 (b)) ∧ w'.cell? ⟨pg, off + s.pos * 5 + 3, none⟩ = some (.int .i64 (c)) ∧ w'.cell? ⟨pg, off + s.pos * 5 + 4, none⟩ = some (.string tree))
    (exact keep _ (by first | exact hbd | exact (Below.refl _ _).drew | exact ((Below.refl _ _).drew).alloc (Nat.le_refl _) _))
    (fail)
  try rw [hwd]
  clear keep hwd p0 p1 p2 p3 p4 c0 c1 c34
  subst htn
  have hq : qa = none := by have : Value.pointer qa = .pointer none := na; simpa using this
  subst hq
  have df34 := df 34
  clear dr df na ht
  have hnI : (n : Int) ≤ 4000 := by omega
  go_wp2
  go_quiet (fail)
  go_wp2
  go_ret
  refine StepOk.mk' rfl ?_
  have hq1 := below_drewN (Below.refl wd.heap.size wd) nq
  exact step_jfin (HMD.out.kept hq1) h32 (Els.of_below (hbd.trans (hq1.mono hbd.size))) _ _ (by omega)

set_option maxRecDepth 20000 in
set_option maxHeartbeats 4000000 in
theorem step_jump_go (w : World) (B g : Nat) (l : List Ins) (s : St) (pv sv : Value) (ps : List Value) (hm : MachP w B g l s pv sv ps) (hg : Good l.length s) (hn4 : l.length ≤ 4000) (ra : Nat) (ha : ra < 32) (t : Tr) (ht : s.regs[ra]? = some t) (htn : t ≠ .nil) (b c : Int) (tree : ByteArray) (hb1 : -(s.pos : Int) ≤ b) (hb2 : b ≤ (l.length : Int) - s.pos)
    (hx : l[s.pos]? = some ⟨5, (ra : Nat), b, c, tree⟩) :
    Calls Try.prog 116 #[.pointer (some ⟨g, 0, none⟩)] w (StepOk w B g l ⟨((s.pos : Int) + b).toNat, s.regs⟩ pv sv) := by
  have hp : s.pos < l.length := (List.getElem?_eq_some_iff.1 hx).1
  obtain ⟨ao, cap, rfl⟩ := hm.prog.len
  obtain ⟨c0, c1, c34, hr, hf⟩ := hm.cells hg.2.1
  have hl := hm.prog
  have hlt := hm.lt
  have hle := hm.le
  obtain ⟨xs, hxs, hown⟩ := hm.sets
  obtain ⟨n, hn'⟩ : ∃ n, l.length = n := ⟨_, rfl⟩
  rw [hn'] at hl c0 hp hn4 hown
  obtain ⟨pg, off, rfl, hpg, p0, p1, p2, p3, p4⟩ := hl.get hx
  dsimp only at p0 p1 p2 p3 p4
  have h32 := hg.2.1
  have HX := Lib.hid hx
  have HN := Lib.hid hn'
  have HM := Lib.hid hm
  have hi0 : (0 : Int) ≤ (s.pos : Int) := Int.natCast_nonneg _
  have hi1 : (s.pos : Int) < (n : Int) := by omega
  obtain ⟨wd, hwd⟩ : ∃ wd, (w.alloc (.cells #[.int .i64 (5), .int .i64 (ra : Nat), .int .i64 (b), .int .i64 (c), .string tree] 52)).drew = wd := ⟨_, rfl⟩
  have hbd : Below w.heap.size w wd := by rw [← hwd]; exact ((Below.refl _ _).alloc (Nat.le_refl _) _).drew
  have hbox : wd.heap[w.heap.size]? = some (.cells #[.int .i64 (5), .int .i64 (ra : Nat), .int .i64 (b), .int .i64 (c), .string tree] 52 (0, 0)) := by rw [← hwd]; exact heap_alloc_new w _
  have keep : ∀ w', Below w.heap.size w w' → w'.cell? ⟨g, 0, none⟩ = some (.slice (some ⟨pg, off, none⟩) n cap) ∧ w'.cell? ⟨g, 34, none⟩ = some (.int .i64 s.pos) ∧ w'.cell? ⟨pg, off + s.pos * 5, none⟩ = some (.int .i64 (5)) ∧ w'.cell? ⟨pg, off + s.pos * 5 + 1, none⟩ = some (.int .i64 (ra : Nat)) ∧
      w'.cell? ⟨pg, off + s.pos * 5 + 2, none⟩ = some (.int .i64 (b)) ∧ w'.cell? ⟨pg, off + s.pos * 5 + 3, none⟩ = some (.int .i64 (c)) ∧ w'.cell? ⟨pg, off + s.pos * 5 + 4, none⟩ = some (.string tree) := fun w' hb => by
    refine ⟨(hb.cell (p := ⟨g, 0, none⟩) hlt).trans c0, (hb.cell (p := ⟨g, 34, none⟩) hlt).trans c34, (hb.cell (p := ⟨pg, off + s.pos * 5, none⟩) (by show pg < _; omega)).trans p0, (hb.cell (p := ⟨pg, off + s.pos * 5 + 1, none⟩) (by show pg < _; omega)).trans p1, (hb.cell (p := ⟨pg, off + s.pos * 5 + 2, none⟩) (by show pg < _; omega)).trans p2, (hb.cell (p := ⟨pg, off + s.pos * 5 + 3, none⟩) (by show pg < _; omega)).trans p3, (hb.cell (p := ⟨pg, off + s.pos * 5 + 4, none⟩) (by show pg < _; omega)).trans p4⟩
  have hmd := hm.kept hbd
  obtain ⟨d0, d1, d34, dr, df⟩ := hmd.cells h32
  have e0 := (block_cells hbox).1 0
  have e1 := (block_cells hbox).1 1
  have e2 := (block_cells hbox).1 2
  have e3 := (block_cells hbox).1 3
  simp only [List.getElem?_toArray, List.getElem?_cons_zero, List.getElem?_cons_succ] at e0 e1 e2 e3
  have hbl : w.heap.size < wd.heap.size := (Array.getElem?_eq_some_iff.1 hbox).1
  have HMD := Lib.hid hmd
  clear hmd hbox
  obtain ⟨qa, fa, na⟩ := dr ra t ht
  rw [hn'] at hb2
  have ia0 : (0 : Int) ≤ (ra : Int) := Int.natCast_nonneg _
  have ia1 : (ra : Int) < 32 := by omega

  clear hm hg hl hx hn' hxs hown hr hle hpg
  go_enter Try.func116, Try.ntmps116
  go_wp2
  go_region_held3 (fun w' => w'.cell? ⟨g, 0, none⟩ = some (.slice (some ⟨pg, off, none⟩) n cap) ∧ w'.cell? ⟨g, 34, none⟩ = some (.int .i64 s.pos) ∧ w'.cell? ⟨pg, off + s.pos * 5, none⟩ = some (.int .i64 (5)) ∧ w'.cell? ⟨pg, off + s.pos * 5 + 1, none⟩ = some (.int .i64 (ra : Nat)) ∧
      w'.cell? ⟨pg, off + s.pos * 5 + 2, none⟩ = some (.int .i64 (b)) ∧ w'.cell? ⟨pg, off + s.pos * 5 + 3, none⟩ = some (.int .i64 (c)) ∧ w'.cell? ⟨pg, off + s.pos * 5 + 4, none⟩ = some (.string tree))
    (exact keep _ (by first | exact hbd | exact (Below.refl _ _).drew | exact ((Below.refl _ _).drew).alloc (Nat.le_refl _) _))
    (fail)
  try rw [hwd]
  clear keep hwd p0 p1 p2 p3 p4 c0 c1 c34
  obtain ⟨qg, hq⟩ : ∃ qg, qa = some ⟨qg, 0, none⟩ := by
    cases t with
    | nil => exact absurd rfl htn
    | pair a1 a2 => obtain ⟨g1, x1, y1, hv1, _⟩ := na; simp only [Value.pointer.injEq] at hv1; exact ⟨g1, hv1⟩
  subst hq
  have hpb : (s.pos : Int) + b = (((s.pos : Int) + b).toNat : Int) := by omega
  have hpb2 : (0 : Int) ≤ (s.pos : Int) + b := by omega
  have hpb3 : (s.pos : Int) + b ≤ n := by omega
  have HPB := Lib.hid hpb
  clear hpb
  have df34 := df 34
  clear dr df na ht
  have hnI : (n : Int) ≤ 4000 := by omega
  go_wp2
  go_quiet (fail)
  go_wp2
  go_ret
  refine StepOk.mk' rfl ?_
  have hq1 := below_drewN (Below.refl wd.heap.size wd) nq
  exact step_jfin (HMD.out.kept hq1) h32 (Els.of_below (hbd.trans (hq1.mono hbd.size))) _ _ HPB.out

end Go.Proofs.Ytaiomcjopgnfpaa

namespace Go.Proofs.Ytaiomcjopgnfpaa
open Go.RowKit

/-- What a step leaves. -/
def StepOut (w : World) (B g : Nat) (l : List Ins) (s : St) (pv sv : Value) (ps : List Value) (e : Ending) (w' : World) : Prop :=
  match stepP l s with
  | some s' => StepOk w B g l s' pv sv e w'
  | none => e = .returned (.bool false) ∧ MachP w' B g l s pv sv ps ∧ Els g w w'

theorem regB_nat {a : Int} (h : regB a = true) : ∃ r : Nat, a = r ∧ r < 32 := by
  unfold regB at h
  simp only [Bool.and_eq_true, decide_eq_true_eq] at h
  exact ⟨a.toNat, by omega, by omega⟩
theorem getR_nat {rs : List Tr} {r : Nat} {t : Tr} (h : rs[r]? = some t) : getR rs (r : Int) = t := by unfold getR; simp [h]

theorem step_any (w : World) (B g : Nat) (l : List Ins) (s : St) (pv sv : Value) (ps : List Value) (hm : MachP w B g l s pv sv ps) (hg : Good l.length s) (hv : rightAll l = true) (hp : s.pos < l.length) (hn4 : l.length ≤ 4000) :
    Calls Try.prog 116 #[.pointer (some ⟨g, 0, none⟩)] w (StepOut w B g l s pv sv ps) := by
  obtain ⟨x, hx⟩ : ∃ x, l[s.pos]? = some x := ⟨_, List.getElem?_eq_getElem hp⟩
  have hr := rightAll_get hv hx
  unfold StepOut stepP
  rw [hx]
  dsimp only
  obtain ⟨op, a, b, c, tree⟩ := x
  unfold rightB at hr
  simp only [Bool.and_eq_true] at hr
  obtain ⟨⟨⟨ha, h1⟩, h2⟩, h3⟩ := hr
  obtain ⟨ra, rfl, hra⟩ := regB_nat ha
  have gt : ∀ r : Nat, r < 32 → ∃ t, s.regs[r]? = some t := fun r h => ⟨_, List.getElem?_eq_getElem (by rw [hg.2.1]; exact h)⟩
  obtain ⟨ta, hta⟩ := gt ra hra
  unfold stepX
  dsimp only
  by_cases o0 : op = 0
  · subst o0
    simp only [if_true, setR, Int.toNat_natCast]
    exact step_set w B g l s pv sv ps hm hg hn4 ra hra b c tree hx
  · rw [if_neg o0] at h3 ⊢
    by_cases o1 : op = 1
    · subst o1
      rw [if_pos (.inl rfl)] at h3
      obtain ⟨rb, rfl, hrb⟩ := regB_nat h3
      obtain ⟨t, ht⟩ := gt rb hrb
      simp only [if_true, setR, Int.toNat_natCast, getR_nat ht]
      exact step_move w B g l s pv sv ps hm hg hn4 ra hra rb hrb t ht c tree hx
    · rw [if_neg o1]
      by_cases o2 : op = 2
      · subst o2
        rw [if_neg (by omega), if_pos rfl] at h3
        simp only [Bool.and_eq_true] at h3
        obtain ⟨rb, rfl, hrb⟩ := regB_nat h3.1
        obtain ⟨rc, rfl, hrc⟩ := regB_nat h3.2
        obtain ⟨t, ht⟩ := gt rb hrb
        obtain ⟨u, hu⟩ := gt rc hrc
        simp only [if_true, setR, Int.toNat_natCast, getR_nat ht, getR_nat hu]
        by_cases hsz : (Tr.pair t u).size ≤ 2000000
        · rw [if_pos hsz]
          exact step_cons_ok w B g l s pv sv ps hm hg hn4 ra hra rb hrb rc hrc t ht u hu tree hsz hx
        · rw [if_neg hsz]
          exact step_cons_big w B g l s pv sv ps hm hg hn4 ra hra rb hrb rc hrc t ht u hu tree (by omega) hx
      · rw [if_neg o2]
        by_cases o3 : op = 3
        · subst o3
          rw [if_pos (.inr (.inl rfl))] at h3
          obtain ⟨rb, rfl, hrb⟩ := regB_nat h3
          obtain ⟨t, ht⟩ := gt rb hrb
          simp only [if_true, setR, Int.toNat_natCast, getR_nat ht]
          exact step_head w B g l s pv sv ps hm hg hn4 ra hra rb hrb t ht c tree hx
        · rw [if_neg o3]
          by_cases o4 : op = 4
          · subst o4
            rw [if_pos (.inr (.inr rfl))] at h3
            obtain ⟨rb, rfl, hrb⟩ := regB_nat h3
            obtain ⟨t, ht⟩ := gt rb hrb
            simp only [if_true, setR, Int.toNat_natCast, getR_nat ht]
            exact step_tail w B g l s pv sv ps hm hg hn4 ra hra rb hrb t ht c tree hx
          · rw [if_neg o4]
            rw [if_neg (by omega), if_neg o2] at h3
            by_cases o5 : op = 5
            · subst o5
              rw [if_pos rfl] at h3
              simp only [Bool.and_eq_true, decide_eq_true_eq] at h3
              rw [getR_nat hta]
              by_cases hn : ta = .nil
              · rw [if_pos hn]
                exact step_jump_no w B g l s pv sv ps hm hg hn4 ra hra ta hta hn b c tree h3.1 h3.2 hx
              · rw [if_neg hn]
                exact step_jump_go w B g l s pv sv ps hm hg hn4 ra hra ta hta hn b c tree h3.1 h3.2 hx
            · rw [if_neg o5] at h3; cases h3

end Go.Proofs.Ytaiomcjopgnfpaa

namespace Go.Proofs.Ytaiomcjopgnfpaa
open Go.RowKit

/-- What a step of the reference leaves. -/
def RStepOut (w : World) (T gs : Nat) (l : List Ins) (s : St) (rv : Value) (e : Ending) (w' : World) : Prop :=
  match stepP l s with
  | some s' => RStepOk w T gs s' rv e w'
  | none => e = .returned (.bool false) ∧ (∃ ps', RStP w' T gs s rv ps') ∧ Below T w w' ∧ Kept 69 w w'

theorem refstep_any (w : World) (T gm gs gr cp : Nat) (l : List Ins) (s : St) (pv tv : Value) (ps : List Value) (hm : RMachP w T gm l pv tv) (hs : RStP w T gs s (.slice (some ⟨gr, 0, none⟩) s.regs.length cp) ps) (hgr : T ≤ gr) (hg : Good l.length s) (hn4 : l.length ≤ 4000) (hv : rightAll l = true) (hp : s.pos < l.length) :
    Calls Try.prog 129 #[.pointer (some ⟨gm, 0, none⟩), .pointer (some ⟨gs, 0, none⟩)] w (RStepOut w T gs l s (.slice (some ⟨gr, 0, none⟩) s.regs.length cp)) := by
  obtain ⟨x, hx⟩ : ∃ x, l[s.pos]? = some x := ⟨_, List.getElem?_eq_getElem hp⟩
  have hr := rightAll_get hv hx
  unfold RStepOut stepP
  rw [hx]
  dsimp only
  obtain ⟨op, a, b, c, tree⟩ := x
  unfold rightB at hr
  simp only [Bool.and_eq_true] at hr
  obtain ⟨⟨⟨ha, h1⟩, h2⟩, h3⟩ := hr
  obtain ⟨ra, rfl, hra⟩ := regB_nat ha
  have gt : ∀ r : Nat, r < 32 → ∃ t, s.regs[r]? = some t := fun r h => ⟨_, List.getElem?_eq_getElem (by rw [hg.2.1]; exact h)⟩
  obtain ⟨ta, hta⟩ := gt ra hra
  unfold stepX
  dsimp only
  by_cases o0 : op = 0
  · subst o0
    simp only [if_true, setR, Int.toNat_natCast]
    exact rstep_set w T gm gs gr cp l s pv tv ps hm hs hgr hg hn4 ra hra b c tree hx
  · rw [if_neg o0] at h3 ⊢
    by_cases o1 : op = 1
    · subst o1
      rw [if_pos (.inl rfl)] at h3
      obtain ⟨rb, rfl, hrb⟩ := regB_nat h3
      obtain ⟨t, ht⟩ := gt rb hrb
      simp only [if_true, setR, Int.toNat_natCast, getR_nat ht]
      exact rstep_move w T gm gs gr cp l s pv tv ps hm hs hgr hg hn4 ra hra rb hrb t ht c tree hx
    · rw [if_neg o1]
      by_cases o2 : op = 2
      · subst o2
        rw [if_neg (by omega), if_pos rfl] at h3
        simp only [Bool.and_eq_true] at h3
        obtain ⟨rb, rfl, hrb⟩ := regB_nat h3.1
        obtain ⟨rc, rfl, hrc⟩ := regB_nat h3.2
        obtain ⟨t, ht⟩ := gt rb hrb
        obtain ⟨u, hu⟩ := gt rc hrc
        simp only [if_true, setR, Int.toNat_natCast, getR_nat ht, getR_nat hu]
        by_cases hsz : (Tr.pair t u).size ≤ 2000000
        · rw [if_pos hsz]
          exact rstep_cons_ok w T gm gs gr cp l s pv tv ps hm hs hgr hg hn4 ra hra rb hrb rc hrc t ht u hu tree hsz hx
        · rw [if_neg hsz]
          exact rstep_cons_big w T gm gs gr cp l s pv tv ps hm hs hgr hg hn4 ra hra rb hrb rc hrc t ht u hu tree (by omega) hx
      · rw [if_neg o2]
        by_cases o3 : op = 3
        · subst o3
          rw [if_pos (.inr (.inl rfl))] at h3
          obtain ⟨rb, rfl, hrb⟩ := regB_nat h3
          obtain ⟨t, ht⟩ := gt rb hrb
          simp only [if_true, setR, Int.toNat_natCast, getR_nat ht]
          exact rstep_head w T gm gs gr cp l s pv tv ps hm hs hgr hg hn4 ra hra rb hrb t ht c tree hx
        · rw [if_neg o3]
          by_cases o4 : op = 4
          · subst o4
            rw [if_pos (.inr (.inr rfl))] at h3
            obtain ⟨rb, rfl, hrb⟩ := regB_nat h3
            obtain ⟨t, ht⟩ := gt rb hrb
            simp only [if_true, setR, Int.toNat_natCast, getR_nat ht]
            exact rstep_tail w T gm gs gr cp l s pv tv ps hm hs hgr hg hn4 ra hra rb hrb t ht c tree hx
          · rw [if_neg o4]
            rw [if_neg (by omega), if_neg o2] at h3
            by_cases o5 : op = 5
            · subst o5
              rw [if_pos rfl] at h3
              simp only [Bool.and_eq_true, decide_eq_true_eq] at h3
              rw [getR_nat hta]
              by_cases hn : ta = .nil
              · rw [if_pos hn]
                exact rstep_jump_no w T gm gs gr cp l s pv tv ps hm hs hgr hg hn4 ra hra ta hta hn b c tree h3.1 h3.2 hx
              · rw [if_neg hn]
                exact rstep_jump_go w T gm gs gr cp l s pv tv ps hm hs hgr hg hn4 ra hra ta hta hn b c tree h3.1 h3.2 hx
            · rw [if_neg o5] at h3; cases h3

end Go.Proofs.Ytaiomcjopgnfpaa


/- The walk of narcissusref03.Step: each operation. The walks of narcissusref02.Register, Trees, Twin, Same and of code.reg. The walks of run.newMachine and (*machine).ended. The walks of (*machine).ended and (*machine).step. The walk of (*machine).step: cons and jump. The walk of (*machine).step: jump; and all. (*machine).step, put together. narcissusref03.Step, put together. The walks of narcissusref02.Right and Valid. The walks of narcissusref02.Valid, code.reg, code.right and code.Valid. The walks of code.reg and code.right. The walk of code.right. The walk of code.Valid. The walk of (*machine).state. The walks of run.begin and run.First. The walks of narcissusref03.First and Load. The walks of narcissusref03.Text and Read. Plain: runs of programs, to their end or as far as the fuel goes. The walks of narcissusref03.After and Run. The walk of run.First. A range over a function whose iterator writes memory of its own between two rounds. -/
import Derived.Test.YtlaeljkjdfffjaaMB0
import Derived.StillTailTactics
import Derived.Laws.StructEq
import Derived.Deep.MidRow
import Derived.Laws.MakeOwn
import Derived.RangeFuncFrom
namespace Go.Proofs.Ytlaeljkjdfffjaa
open Go.RowKit

/-- A step of the reference went well. -/
def RStepOk (w : World) (T gs : Nat) (s' : St) (rv : Value) (e : Ending) (w' : World) : Prop :=
  ∃ ps', e = .returned (.bool true) ∧ RStP w' T gs s' rv ps' ∧ Below T w w' ∧ Kept 58 w w'
theorem RStP.cells {w : World} {T g gr cp : Nat} {s : St} {ps : List Value} (h : RStP w T g s (.slice (some ⟨gr, 0, none⟩) s.regs.length cp) ps) : w.cell? ⟨g, 0, none⟩ = some (.int .i64 s.pos) ∧ w.cell? ⟨g, 1, none⟩ = some (.slice (some ⟨gr, 0, none⟩) s.regs.length cp) ∧ (∀ j, w.frozen? ⟨g, j, none⟩ = false) ∧
    (∀ j t, s.regs[j]? = some t → ∃ q, w.cell? ⟨gr, j, none⟩ = some (.pointer q) ∧ NodeP 58 w t (.pointer q)) ∧ (∀ j, w.frozen? ⟨gr, j, none⟩ = false) := by
  have c0 := (block_cells h.blk).1 0
  have c1 := (block_cells h.blk).1 1
  simp only [List.getElem?_toArray, List.getElem?_cons_zero, List.getElem?_cons_succ] at c0 c1
  refine ⟨c0, c1, (block_cells h.blk).2, ?_, fun j => ?_⟩
  · intro j t hj
    obtain ⟨v, hv, hn⟩ := h.regs.get hj
    obtain ⟨q, rfl⟩ := hn.ptr
    exact ⟨q, by rw [World.ownsRow.cellAt h.own j (by have := (List.getElem?_eq_some_iff.1 hj).1; omega), hv], hn⟩
  · exact World.ownsRow.frozenAt h.own j

theorem rstep_fin {w wd : World} {T gs gr cp : Nat} {s : St} {ps : List Value} (hs : RStP wd T gs s (.slice (some ⟨gr, 0, none⟩) s.regs.length cp) ps) (hb : Below T w wd) (hk : Kept 58 w wd) (ra : Nat) {t : Tr} {q : Option Addr} (hn : NodeP 58 wd t (.pointer q)) (hgr : T ≤ gr) (z : Int) (p : Nat) (hz : z = p) :
    ∃ ps', RStP ((wd.setCell ⟨gr, ra, none⟩ (.pointer q)).setCell ⟨gs, 0, none⟩ (.int .i64 z)) T gs ⟨p, s.regs.set ra t⟩ (.slice (some ⟨gr, 0, none⟩) s.regs.length cp) ps' ∧ Below T w ((wd.setCell ⟨gr, ra, none⟩ (.pointer q)).setCell ⟨gs, 0, none⟩ (.int .i64 z)) ∧
      Kept 58 w ((wd.setCell ⟨gr, ra, none⟩ (.pointer q)).setCell ⟨gs, 0, none⟩ (.int .i64 z)) := by
  subst hz
  have hrow : ∃ cur, wd.heap[gr]? = some (.cells cur 47 (0, 0)) := by
    rcases hs.own.2 with ⟨h0, _⟩ | ⟨g', cap', cur, hv, _, hg, _⟩
    · cases h0
    · simp only [Value.slice.injEq, Option.some.injEq, Addr.mk.injEq] at hv
      obtain ⟨⟨rfl, -, -⟩, -, -⟩ := hv
      exact ⟨cur, hg⟩
  obtain ⟨cur, hcur⟩ := hrow
  have hne : gs ≠ gr := by
    rintro rfl
    have := hs.blk; rw [hcur] at this
    simp only [Option.some.injEq, Obj.cells.injEq] at this
    exact absurd this.2.1 (by decide)
  have hblk1 : (wd.setCell ⟨gr, ra, none⟩ (.pointer q)).heap[gs]? = some (.cells #[.int .i64 s.pos, .slice (some ⟨gr, 0, none⟩) s.regs.length cp] 114 (0, 0)) := (Below.heap_setCell _ _ _ _ (by show gs ≠ gr; exact hne)).trans hs.blk
  have hk1 : Kept 58 wd (wd.setCell ⟨gr, ra, none⟩ (.pointer q)) := (Kept.refl _ wd).setCell hcur (by decide) _
  have hk2 : Kept 58 wd ((wd.setCell ⟨gr, ra, none⟩ (.pointer q)).setCell ⟨gs, 0, none⟩ (.int .i64 p)) := hk1.setCell hblk1 (by decide) _
  refine ⟨ps.set ra (.pointer q), ⟨set_blk hblk1 0 _, hs.le, (hs.regs.set ra hn).kept hk2, ?_⟩, (hb.setCell (p := ⟨gr, ra, none⟩) hgr _).setCell (p := ⟨gs, 0, none⟩) hs.le _, hk.trans hk2⟩
  rw [List.length_set]
  exact own_kept (own_set hs.own ra _) ((Kept.refl _ _).setCell hblk1 (by decide) _)

theorem rnodeHead_at (t : Tr) (v : Value) (w : World) (h : NodeP 58 w t v) :
    ∃ q, NodeP 58 w t.hd (.pointer q) ∧ ∀ w', Kept 58 w w' → Calls Try.prog 131 #[v] w' fun e w'' => e = .returned (.pointer q) ∧ w'' = w' := by
  cases t with
  | nil =>
    have hv : v = .pointer none := h
    subst hv
    refine ⟨none, rfl, fun w' _ => ?_⟩
    go_enter Try.func131, Try.ntmps131
    go_wp2
    go_ret
    exact ⟨rfl, rfl⟩
  | pair a b =>
    obtain ⟨g, x, y, hv, hg, ha, hb⟩ := h
    obtain ⟨x, rfl⟩ := ha.ptr
    obtain ⟨y, rfl⟩ := hb.ptr
    subst hv
    refine ⟨x, ha, fun w' hk => ?_⟩
    have c0 := (block_cells (hk _ _ hg)).1 0
    have c1 := (block_cells (hk _ _ hg)).1 1
    simp only [List.getElem?_toArray, List.getElem?_cons_zero, List.getElem?_cons_succ] at c0 c1
    clear ha hb hg hk
    go_enter Try.func131, Try.ntmps131
    go_wp2
    go_ret
    exact ⟨rfl, rfl⟩
theorem rnodeTail_at (t : Tr) (v : Value) (w : World) (h : NodeP 58 w t v) :
    ∃ q, NodeP 58 w t.tl (.pointer q) ∧ ∀ w', Kept 58 w w' → Calls Try.prog 132 #[v] w' fun e w'' => e = .returned (.pointer q) ∧ w'' = w' := by
  cases t with
  | nil =>
    have hv : v = .pointer none := h
    subst hv
    refine ⟨none, rfl, fun w' _ => ?_⟩
    go_enter Try.func132, Try.ntmps132
    go_wp2
    go_ret
    exact ⟨rfl, rfl⟩
  | pair a b =>
    obtain ⟨g, x, y, hv, hg, ha, hb⟩ := h
    obtain ⟨x, rfl⟩ := ha.ptr
    obtain ⟨y, rfl⟩ := hb.ptr
    subst hv
    refine ⟨y, hb, fun w' hk => ?_⟩
    have c0 := (block_cells (hk _ _ hg)).1 0
    have c1 := (block_cells (hk _ _ hg)).1 1
    simp only [List.getElem?_toArray, List.getElem?_cons_zero, List.getElem?_cons_succ] at c0 c1
    clear ha hb hg hk
    go_enter Try.func132, Try.ntmps132
    go_wp2
    go_ret
    exact ⟨rfl, rfl⟩
theorem rstep_fin_drew {w w' : World} {T gs : Nat} {s' : St} {rv : Value} (h : ∃ ps', RStP w' T gs s' rv ps' ∧ Below T w w' ∧ Kept 58 w w') : ∃ ps', RStP w'.drew T gs s' rv ps' ∧ Below T w w'.drew ∧ Kept 58 w w'.drew := by
  obtain ⟨ps', h1, h2, h3⟩ := h
  exact ⟨ps', h1.kept (Below.refl _ _).drew, h2.drew, h3.drew⟩
theorem RStepOk.mk' {w : World} {T gs : Nat} {s' : St} {rv : Value} {e : Ending} {w' : World} (he : e = .returned (.bool true)) (h : ∃ ps', RStP w' T gs s' rv ps' ∧ Below T w w' ∧ Kept 58 w w') : RStepOk w T gs s' rv e w' := by
  obtain ⟨ps', h1, h2, h3⟩ := h
  exact ⟨ps', he, h1, h2, h3⟩
theorem RStP.apart {wd : World} {T gs gr cp : Nat} {s : St} {ps : List Value} (hs : RStP wd T gs s (.slice (some ⟨gr, 0, none⟩) s.regs.length cp) ps) : gs ≠ gr := by
  have hrow : ∃ cur, wd.heap[gr]? = some (.cells cur 47 (0, 0)) := by
    rcases hs.own.2 with ⟨h0, _⟩ | ⟨g', cap', cur, hv, _, hg, _⟩
    · cases h0
    · simp only [Value.slice.injEq, Option.some.injEq, Addr.mk.injEq] at hv
      obtain ⟨⟨rfl, -, -⟩, -, -⟩ := hv
      exact ⟨cur, hg⟩
  obtain ⟨cur, hcur⟩ := hrow
  rintro rfl
  have := hs.blk; rw [hcur] at this
  simp only [Option.some.injEq, Obj.cells.injEq] at this
  exact absurd this.2.1 (by decide)
theorem RStP.rlt {wd : World} {T gs gr cp : Nat} {s : St} {ps : List Value} (hs : RStP wd T gs s (.slice (some ⟨gr, 0, none⟩) s.regs.length cp) ps) : gr < wd.heap.size := by
  rcases hs.own.2 with ⟨h0, _⟩ | ⟨g', cap', cur, hv, _, hg, _⟩
  · cases h0
  · simp only [Value.slice.injEq, Option.some.injEq, Addr.mk.injEq] at hv
    obtain ⟨⟨rfl, -, -⟩, -, -⟩ := hv
    exact (Array.getElem?_eq_some_iff.1 hg).1
theorem rstep_jfin {w wd : World} {T gs gr cp : Nat} {s : St} {ps : List Value} (hs : RStP wd T gs s (.slice (some ⟨gr, 0, none⟩) s.regs.length cp) ps) (hb : Below T w wd) (hk : Kept 58 w wd) (z : Int) (p : Nat) (hz : z = p) :
    ∃ ps', RStP (wd.setCell ⟨gs, 0, none⟩ (.int .i64 z)) T gs ⟨p, s.regs⟩ (.slice (some ⟨gr, 0, none⟩) s.regs.length cp) ps' ∧ Below T w (wd.setCell ⟨gs, 0, none⟩ (.int .i64 z)) ∧ Kept 58 w (wd.setCell ⟨gs, 0, none⟩ (.int .i64 z)) := by
  subst hz
  have hk2 : Kept 58 wd (wd.setCell ⟨gs, 0, none⟩ (.int .i64 p)) := (Kept.refl _ wd).setCell hs.blk (by decide) _
  exact ⟨ps, ⟨set_blk hs.blk 0 _, hs.le, hs.regs.kept hk2, own_kept hs.own ((Kept.refl _ _).setCell hs.blk (by decide) _)⟩, hb.setCell (p := ⟨gs, 0, none⟩) hs.le _, hk.trans hk2⟩


set_option maxRecDepth 20000 in
set_option maxHeartbeats 4000000 in
theorem rstep_set (w : World) (T gm gs gr cp : Nat) (l : List Ins) (s : St) (pv tv : Value) (ps : List Value) (hm : RMachP w T gm l pv tv) (hs : RStP w T gs s (.slice (some ⟨gr, 0, none⟩) s.regs.length cp) ps) (hgr : T ≤ gr) (hg : Good l.length s) (hn4 : l.length ≤ 4000) (ra : Nat) (ha : ra < 32) (b c : Int) (tree : ByteArray)
    (hx : l[s.pos]? = some ⟨0, (ra : Nat), b, c, tree⟩) :
    Calls Try.prog 97 #[.pointer (some ⟨gm, 0, none⟩), .pointer (some ⟨gs, 0, none⟩)] w (RStepOk w T gs ⟨s.pos + 1, s.regs.set ra (toTr tree)⟩ (.slice (some ⟨gr, 0, none⟩) s.regs.length cp)) := by
  have hp : s.pos < l.length := (List.getElem?_eq_some_iff.1 hx).1
  obtain ⟨ao, cap, rfl⟩ := hm.prog.len
  have c0 := (block_cells hm.blk).1 0
  simp only [List.getElem?_toArray, List.getElem?_cons_zero] at c0
  have s0 := hs.cells.1
  have hl := hm.prog
  have hlt := hm.lt
  have hgl : gs < w.heap.size := (Array.getElem?_eq_some_iff.1 hs.blk).1
  have hgm : gm < w.heap.size := (Array.getElem?_eq_some_iff.1 hm.blk).1
  have hle := hs.le
  obtain ⟨n, hn'⟩ : ∃ n, l.length = n := ⟨_, rfl⟩
  rw [hn'] at hl c0 hp hn4
  obtain ⟨pg, off, rfl, hpg, p0, p1, p2, p3, p4⟩ := hl.get hx
  dsimp only at p0 p1 p2 p3 p4
  have h32 := hg.2.1
  have HX := Lib.hid hx
  have HN := Lib.hid hn'
  have hi0 : (0 : Int) ≤ (s.pos : Int) := Int.natCast_nonneg _
  have hi1 : (s.pos : Int) < (n : Int) := by omega
  obtain ⟨wd, hwd⟩ : ∃ wd, (w.alloc (.cells #[.int .i64 (0), .int .i64 (ra : Nat), .int .i64 (b), .int .i64 (c), .string tree] 41)).drew = wd := ⟨_, rfl⟩
  have hbd : Below w.heap.size w wd := by rw [← hwd]; exact ((Below.refl _ _).alloc (Nat.le_refl _) _).drew
  have hbox : wd.heap[w.heap.size]? = some (.cells #[.int .i64 (0), .int .i64 (ra : Nat), .int .i64 (b), .int .i64 (c), .string tree] 41 (0, 0)) := by rw [← hwd]; exact heap_alloc_new w _
  have keep : ∀ w', Below w.heap.size w w' → w'.cell? ⟨gm, 0, none⟩ = some (.slice (some ⟨pg, off, none⟩) n cap) ∧ w'.cell? ⟨gs, 0, none⟩ = some (.int .i64 s.pos) ∧ w'.cell? ⟨pg, off + s.pos * 5, none⟩ = some (.int .i64 (0)) ∧ w'.cell? ⟨pg, off + s.pos * 5 + 1, none⟩ = some (.int .i64 (ra : Nat)) ∧
      w'.cell? ⟨pg, off + s.pos * 5 + 2, none⟩ = some (.int .i64 (b)) ∧ w'.cell? ⟨pg, off + s.pos * 5 + 3, none⟩ = some (.int .i64 (c)) ∧ w'.cell? ⟨pg, off + s.pos * 5 + 4, none⟩ = some (.string tree) := fun w' hb => by
    refine ⟨(hb.cell (p := ⟨gm, 0, none⟩) hgm).trans c0, (hb.cell (p := ⟨gs, 0, none⟩) hgl).trans s0, (hb.cell (p := ⟨pg, off + s.pos * 5, none⟩) (by show pg < _; omega)).trans p0, (hb.cell (p := ⟨pg, off + s.pos * 5 + 1, none⟩) (by show pg < _; omega)).trans p1, (hb.cell (p := ⟨pg, off + s.pos * 5 + 2, none⟩) (by show pg < _; omega)).trans p2, (hb.cell (p := ⟨pg, off + s.pos * 5 + 3, none⟩) (by show pg < _; omega)).trans p3, (hb.cell (p := ⟨pg, off + s.pos * 5 + 4, none⟩) (by show pg < _; omega)).trans p4⟩
  have hsd := hs.kept hbd
  obtain ⟨d0, d1, df, dr, drf⟩ := hsd.cells
  have kkd := Kept.below hbd (T := 58)
  have e0 := (block_cells hbox).1 0
  have e1 := (block_cells hbox).1 1
  have e2 := (block_cells hbox).1 2
  have e3 := (block_cells hbox).1 3
  simp only [List.getElem?_toArray, List.getElem?_cons_zero, List.getElem?_cons_succ] at e0 e1 e2 e3
  have hbl : w.heap.size < wd.heap.size := (Array.getElem?_eq_some_iff.1 hbox).1
  have hbT : Below T w wd := hbd.mono (by omega)
  have HSD := Lib.hid hsd
  have hap1 : ¬ gs = gr := hsd.apart
  have hap2 : ¬ gr = gs := fun h => hap1 h.symm
  have hrl := hsd.rlt
  rw [h32] at d1
  clear hsd hbox
  obtain ⟨tra, htra⟩ : ∃ t, s.regs[ra]? = some t := ⟨_, List.getElem?_eq_getElem (by omega)⟩
  obtain ⟨qra, fra, nra⟩ := dr ra tra htra
  have zra := drf ra
  obtain ⟨xs, base, hxs, hown, hob⟩ := hm.sets
  obtain ⟨v0, hv0, hnv⟩ := hxs.get (j := s.pos) (t := toTr tree) (by rw [List.getElem?_map, hx]; rfl)
  obtain ⟨sp, rfl⟩ := hnv.ptr
  have hnd := hnv.kept kkd
  rw [hn'] at hown
  have hown' := own_below hown hbd
  obtain ⟨sg, scp, rfl, hsr⟩ := own_cells hown' (by omega)
  have hm1 := (block_cells hm.blk).1 1
  simp only [List.getElem?_toArray, List.getElem?_cons_zero, List.getElem?_cons_succ] at hm1
  have gm1 := (hbd.cell (p := ⟨gm, 1, none⟩) hgm).trans hm1

  clear hm hs hg hl hx hn' hle hpg
  go_enter Try.func97, Try.ntmps97
  go_wp2
  go_region_held3 (fun w' => w'.cell? ⟨gm, 0, none⟩ = some (.slice (some ⟨pg, off, none⟩) n cap) ∧ w'.cell? ⟨gs, 0, none⟩ = some (.int .i64 s.pos) ∧ w'.cell? ⟨pg, off + s.pos * 5, none⟩ = some (.int .i64 (0)) ∧ w'.cell? ⟨pg, off + s.pos * 5 + 1, none⟩ = some (.int .i64 (ra : Nat)) ∧
      w'.cell? ⟨pg, off + s.pos * 5 + 2, none⟩ = some (.int .i64 (b)) ∧ w'.cell? ⟨pg, off + s.pos * 5 + 3, none⟩ = some (.int .i64 (c)) ∧ w'.cell? ⟨pg, off + s.pos * 5 + 4, none⟩ = some (.string tree))
    (exact keep _ (by first | exact hbd | exact (Below.refl _ _).drew | exact ((Below.refl _ _).drew).alloc (Nat.le_refl _) _))
    (fail)
  try rw [hwd]
  clear keep hwd p0 p1 p2 p3 p4 c0 s0
  have hset : wd.cell? ⟨sg, s.pos, none⟩ = some (.pointer sp) := by rw [hsr.2.2.2.2.1 s.pos (by omega), hv0]
  have HND := Lib.hid hnd
  have df0 := df 0
  clear dr df drf hsr hnd hnv hxs hown hown' hob hm1 nra
  go_wp2
  go_region
  go_wp2
  go_ret
  refine RStepOk.mk' rfl ?_
  first
  | exact rstep_fin_drew (rstep_fin HSD.out hbT kkd ra HND.out hgr _ _ (by omega))
  | exact rstep_fin (HSD.out.kept (Below.refl _ _).drew) hbT.drew kkd.drew ra (HND.out.kept (Kept.refl _ _).drew) hgr _ _ (by omega)

set_option maxRecDepth 20000 in
set_option maxHeartbeats 4000000 in
theorem rstep_move (w : World) (T gm gs gr cp : Nat) (l : List Ins) (s : St) (pv tv : Value) (ps : List Value) (hm : RMachP w T gm l pv tv) (hs : RStP w T gs s (.slice (some ⟨gr, 0, none⟩) s.regs.length cp) ps) (hgr : T ≤ gr) (hg : Good l.length s) (hn4 : l.length ≤ 4000) (ra : Nat) (ha : ra < 32) (rb : Nat) (hb : rb < 32) (t : Tr) (ht : s.regs[rb]? = some t) (c : Int) (tree : ByteArray)
    (hx : l[s.pos]? = some ⟨1, (ra : Nat), (rb : Nat), c, tree⟩) :
    Calls Try.prog 97 #[.pointer (some ⟨gm, 0, none⟩), .pointer (some ⟨gs, 0, none⟩)] w (RStepOk w T gs ⟨s.pos + 1, s.regs.set ra t⟩ (.slice (some ⟨gr, 0, none⟩) s.regs.length cp)) := by
  have hp : s.pos < l.length := (List.getElem?_eq_some_iff.1 hx).1
  obtain ⟨ao, cap, rfl⟩ := hm.prog.len
  have c0 := (block_cells hm.blk).1 0
  simp only [List.getElem?_toArray, List.getElem?_cons_zero] at c0
  have s0 := hs.cells.1
  have hl := hm.prog
  have hlt := hm.lt
  have hgl : gs < w.heap.size := (Array.getElem?_eq_some_iff.1 hs.blk).1
  have hgm : gm < w.heap.size := (Array.getElem?_eq_some_iff.1 hm.blk).1
  have hle := hs.le
  obtain ⟨n, hn'⟩ : ∃ n, l.length = n := ⟨_, rfl⟩
  rw [hn'] at hl c0 hp hn4
  obtain ⟨pg, off, rfl, hpg, p0, p1, p2, p3, p4⟩ := hl.get hx
  dsimp only at p0 p1 p2 p3 p4
  have h32 := hg.2.1
  have HX := Lib.hid hx
  have HN := Lib.hid hn'
  have hi0 : (0 : Int) ≤ (s.pos : Int) := Int.natCast_nonneg _
  have hi1 : (s.pos : Int) < (n : Int) := by omega
  obtain ⟨wd, hwd⟩ : ∃ wd, (w.alloc (.cells #[.int .i64 (1), .int .i64 (ra : Nat), .int .i64 (rb : Nat), .int .i64 (c), .string tree] 41)).drew = wd := ⟨_, rfl⟩
  have hbd : Below w.heap.size w wd := by rw [← hwd]; exact ((Below.refl _ _).alloc (Nat.le_refl _) _).drew
  have hbox : wd.heap[w.heap.size]? = some (.cells #[.int .i64 (1), .int .i64 (ra : Nat), .int .i64 (rb : Nat), .int .i64 (c), .string tree] 41 (0, 0)) := by rw [← hwd]; exact heap_alloc_new w _
  have keep : ∀ w', Below w.heap.size w w' → w'.cell? ⟨gm, 0, none⟩ = some (.slice (some ⟨pg, off, none⟩) n cap) ∧ w'.cell? ⟨gs, 0, none⟩ = some (.int .i64 s.pos) ∧ w'.cell? ⟨pg, off + s.pos * 5, none⟩ = some (.int .i64 (1)) ∧ w'.cell? ⟨pg, off + s.pos * 5 + 1, none⟩ = some (.int .i64 (ra : Nat)) ∧
      w'.cell? ⟨pg, off + s.pos * 5 + 2, none⟩ = some (.int .i64 (rb : Nat)) ∧ w'.cell? ⟨pg, off + s.pos * 5 + 3, none⟩ = some (.int .i64 (c)) ∧ w'.cell? ⟨pg, off + s.pos * 5 + 4, none⟩ = some (.string tree) := fun w' hb => by
    refine ⟨(hb.cell (p := ⟨gm, 0, none⟩) hgm).trans c0, (hb.cell (p := ⟨gs, 0, none⟩) hgl).trans s0, (hb.cell (p := ⟨pg, off + s.pos * 5, none⟩) (by show pg < _; omega)).trans p0, (hb.cell (p := ⟨pg, off + s.pos * 5 + 1, none⟩) (by show pg < _; omega)).trans p1, (hb.cell (p := ⟨pg, off + s.pos * 5 + 2, none⟩) (by show pg < _; omega)).trans p2, (hb.cell (p := ⟨pg, off + s.pos * 5 + 3, none⟩) (by show pg < _; omega)).trans p3, (hb.cell (p := ⟨pg, off + s.pos * 5 + 4, none⟩) (by show pg < _; omega)).trans p4⟩
  have hsd := hs.kept hbd
  obtain ⟨d0, d1, df, dr, drf⟩ := hsd.cells
  have kkd := Kept.below hbd (T := 58)
  have e0 := (block_cells hbox).1 0
  have e1 := (block_cells hbox).1 1
  have e2 := (block_cells hbox).1 2
  have e3 := (block_cells hbox).1 3
  simp only [List.getElem?_toArray, List.getElem?_cons_zero, List.getElem?_cons_succ] at e0 e1 e2 e3
  have hbl : w.heap.size < wd.heap.size := (Array.getElem?_eq_some_iff.1 hbox).1
  have hbT : Below T w wd := hbd.mono (by omega)
  have HSD := Lib.hid hsd
  have hap1 : ¬ gs = gr := hsd.apart
  have hap2 : ¬ gr = gs := fun h => hap1 h.symm
  have hrl := hsd.rlt
  rw [h32] at d1
  clear hsd hbox
  obtain ⟨tra, htra⟩ : ∃ t, s.regs[ra]? = some t := ⟨_, List.getElem?_eq_getElem (by omega)⟩
  obtain ⟨qra, fra, nra⟩ := dr ra tra htra
  have zra := drf ra
  obtain ⟨qb, fb, nb⟩ := dr rb t ht

  clear hm hs hg hl hx hn' hle hpg
  go_enter Try.func97, Try.ntmps97
  go_wp2
  go_region_held3 (fun w' => w'.cell? ⟨gm, 0, none⟩ = some (.slice (some ⟨pg, off, none⟩) n cap) ∧ w'.cell? ⟨gs, 0, none⟩ = some (.int .i64 s.pos) ∧ w'.cell? ⟨pg, off + s.pos * 5, none⟩ = some (.int .i64 (1)) ∧ w'.cell? ⟨pg, off + s.pos * 5 + 1, none⟩ = some (.int .i64 (ra : Nat)) ∧
      w'.cell? ⟨pg, off + s.pos * 5 + 2, none⟩ = some (.int .i64 (rb : Nat)) ∧ w'.cell? ⟨pg, off + s.pos * 5 + 3, none⟩ = some (.int .i64 (c)) ∧ w'.cell? ⟨pg, off + s.pos * 5 + 4, none⟩ = some (.string tree))
    (exact keep _ (by first | exact hbd | exact (Below.refl _ _).drew | exact ((Below.refl _ _).drew).alloc (Nat.le_refl _) _))
    (fail)
  try rw [hwd]
  clear keep hwd p0 p1 p2 p3 p4 c0 s0
  have HND := Lib.hid nb
  have df0 := df 0
  clear dr df drf nb nra
  go_wp2
  go_region
  go_wp2
  go_ret
  refine RStepOk.mk' rfl ?_
  first
  | exact rstep_fin_drew (rstep_fin HSD.out hbT kkd ra HND.out hgr _ _ (by omega))
  | exact rstep_fin (HSD.out.kept (Below.refl _ _).drew) hbT.drew kkd.drew ra (HND.out.kept (Kept.refl _ _).drew) hgr _ _ (by omega)

set_option maxRecDepth 20000 in
set_option maxHeartbeats 4000000 in
theorem rstep_head (w : World) (T gm gs gr cp : Nat) (l : List Ins) (s : St) (pv tv : Value) (ps : List Value) (hm : RMachP w T gm l pv tv) (hs : RStP w T gs s (.slice (some ⟨gr, 0, none⟩) s.regs.length cp) ps) (hgr : T ≤ gr) (hg : Good l.length s) (hn4 : l.length ≤ 4000) (ra : Nat) (ha : ra < 32) (rb : Nat) (hb : rb < 32) (t : Tr) (ht : s.regs[rb]? = some t) (c : Int) (tree : ByteArray)
    (hx : l[s.pos]? = some ⟨3, (ra : Nat), (rb : Nat), c, tree⟩) :
    Calls Try.prog 97 #[.pointer (some ⟨gm, 0, none⟩), .pointer (some ⟨gs, 0, none⟩)] w (RStepOk w T gs ⟨s.pos + 1, s.regs.set ra t.hd⟩ (.slice (some ⟨gr, 0, none⟩) s.regs.length cp)) := by
  have hp : s.pos < l.length := (List.getElem?_eq_some_iff.1 hx).1
  obtain ⟨ao, cap, rfl⟩ := hm.prog.len
  have c0 := (block_cells hm.blk).1 0
  simp only [List.getElem?_toArray, List.getElem?_cons_zero] at c0
  have s0 := hs.cells.1
  have hl := hm.prog
  have hlt := hm.lt
  have hgl : gs < w.heap.size := (Array.getElem?_eq_some_iff.1 hs.blk).1
  have hgm : gm < w.heap.size := (Array.getElem?_eq_some_iff.1 hm.blk).1
  have hle := hs.le
  obtain ⟨n, hn'⟩ : ∃ n, l.length = n := ⟨_, rfl⟩
  rw [hn'] at hl c0 hp hn4
  obtain ⟨pg, off, rfl, hpg, p0, p1, p2, p3, p4⟩ := hl.get hx
  dsimp only at p0 p1 p2 p3 p4
  have h32 := hg.2.1
  have HX := Lib.hid hx
  have HN := Lib.hid hn'
  have hi0 : (0 : Int) ≤ (s.pos : Int) := Int.natCast_nonneg _
  have hi1 : (s.pos : Int) < (n : Int) := by omega
  obtain ⟨wd, hwd⟩ : ∃ wd, (w.alloc (.cells #[.int .i64 (3), .int .i64 (ra : Nat), .int .i64 (rb : Nat), .int .i64 (c), .string tree] 41)).drew = wd := ⟨_, rfl⟩
  have hbd : Below w.heap.size w wd := by rw [← hwd]; exact ((Below.refl _ _).alloc (Nat.le_refl _) _).drew
  have hbox : wd.heap[w.heap.size]? = some (.cells #[.int .i64 (3), .int .i64 (ra : Nat), .int .i64 (rb : Nat), .int .i64 (c), .string tree] 41 (0, 0)) := by rw [← hwd]; exact heap_alloc_new w _
  have keep : ∀ w', Below w.heap.size w w' → w'.cell? ⟨gm, 0, none⟩ = some (.slice (some ⟨pg, off, none⟩) n cap) ∧ w'.cell? ⟨gs, 0, none⟩ = some (.int .i64 s.pos) ∧ w'.cell? ⟨pg, off + s.pos * 5, none⟩ = some (.int .i64 (3)) ∧ w'.cell? ⟨pg, off + s.pos * 5 + 1, none⟩ = some (.int .i64 (ra : Nat)) ∧
      w'.cell? ⟨pg, off + s.pos * 5 + 2, none⟩ = some (.int .i64 (rb : Nat)) ∧ w'.cell? ⟨pg, off + s.pos * 5 + 3, none⟩ = some (.int .i64 (c)) ∧ w'.cell? ⟨pg, off + s.pos * 5 + 4, none⟩ = some (.string tree) := fun w' hb => by
    refine ⟨(hb.cell (p := ⟨gm, 0, none⟩) hgm).trans c0, (hb.cell (p := ⟨gs, 0, none⟩) hgl).trans s0, (hb.cell (p := ⟨pg, off + s.pos * 5, none⟩) (by show pg < _; omega)).trans p0, (hb.cell (p := ⟨pg, off + s.pos * 5 + 1, none⟩) (by show pg < _; omega)).trans p1, (hb.cell (p := ⟨pg, off + s.pos * 5 + 2, none⟩) (by show pg < _; omega)).trans p2, (hb.cell (p := ⟨pg, off + s.pos * 5 + 3, none⟩) (by show pg < _; omega)).trans p3, (hb.cell (p := ⟨pg, off + s.pos * 5 + 4, none⟩) (by show pg < _; omega)).trans p4⟩
  have hsd := hs.kept hbd
  obtain ⟨d0, d1, df, dr, drf⟩ := hsd.cells
  have kkd := Kept.below hbd (T := 58)
  have e0 := (block_cells hbox).1 0
  have e1 := (block_cells hbox).1 1
  have e2 := (block_cells hbox).1 2
  have e3 := (block_cells hbox).1 3
  simp only [List.getElem?_toArray, List.getElem?_cons_zero, List.getElem?_cons_succ] at e0 e1 e2 e3
  have hbl : w.heap.size < wd.heap.size := (Array.getElem?_eq_some_iff.1 hbox).1
  have hbT : Below T w wd := hbd.mono (by omega)
  have HSD := Lib.hid hsd
  have hap1 : ¬ gs = gr := hsd.apart
  have hap2 : ¬ gr = gs := fun h => hap1 h.symm
  have hrl := hsd.rlt
  rw [h32] at d1
  clear hsd hbox
  obtain ⟨tra, htra⟩ : ∃ t, s.regs[ra]? = some t := ⟨_, List.getElem?_eq_getElem (by omega)⟩
  obtain ⟨qra, fra, nra⟩ := dr ra tra htra
  have zra := drf ra
  obtain ⟨qb, fb, nb⟩ := dr rb t ht

  clear hm hs hg hl hx hn' hle hpg
  go_enter Try.func97, Try.ntmps97
  go_wp2
  go_region_held3 (fun w' => w'.cell? ⟨gm, 0, none⟩ = some (.slice (some ⟨pg, off, none⟩) n cap) ∧ w'.cell? ⟨gs, 0, none⟩ = some (.int .i64 s.pos) ∧ w'.cell? ⟨pg, off + s.pos * 5, none⟩ = some (.int .i64 (3)) ∧ w'.cell? ⟨pg, off + s.pos * 5 + 1, none⟩ = some (.int .i64 (ra : Nat)) ∧
      w'.cell? ⟨pg, off + s.pos * 5 + 2, none⟩ = some (.int .i64 (rb : Nat)) ∧ w'.cell? ⟨pg, off + s.pos * 5 + 3, none⟩ = some (.int .i64 (c)) ∧ w'.cell? ⟨pg, off + s.pos * 5 + 4, none⟩ = some (.string tree))
    (exact keep _ (by first | exact hbd | exact (Below.refl _ _).drew | exact ((Below.refl _ _).drew).alloc (Nat.le_refl _) _))
    (fail)
  try rw [hwd]
  clear keep hwd p0 p1 p2 p3 p4 c0 s0
  obtain ⟨xq, nxq, kx⟩ := rnodeHead_at t _ wd nb
  have kx1 := kx wd.drew (Kept.refl _ _).drew
  have HND := Lib.hid nxq
  have df0 := df 0
  have ib0 : (0 : Int) ≤ (rb : Int) := Int.natCast_nonneg _
  have ib1 : (rb : Int) < 32 := by omega
  have ia0 : (0 : Int) ≤ (ra : Int) := Int.natCast_nonneg _
  have ia1 : (ra : Int) < 32 := by omega
  clear dr df drf nb nra nxq kx
  go_wp2
  refine wp_region_still_tail 16 (by kernel_rfl) (by kernel_rfl) ?_
  simp only [List.take_succ_cons, List.take_zero, List.drop_succ_cons, List.drop_zero]
  repeat still_step
  still_call kx1
  repeat still_step
  try refine wpStill_nil ?_
  go_wp2
  go_ret
  refine RStepOk.mk' rfl ?_
  first
  | exact rstep_fin_drew (rstep_fin HSD.out hbT kkd ra HND.out hgr _ _ (by omega))
  | exact rstep_fin (HSD.out.kept (Below.refl _ _).drew) hbT.drew kkd.drew ra (HND.out.kept (Kept.refl _ _).drew) hgr _ _ (by omega)

set_option maxRecDepth 20000 in
set_option maxHeartbeats 4000000 in
theorem rstep_tail (w : World) (T gm gs gr cp : Nat) (l : List Ins) (s : St) (pv tv : Value) (ps : List Value) (hm : RMachP w T gm l pv tv) (hs : RStP w T gs s (.slice (some ⟨gr, 0, none⟩) s.regs.length cp) ps) (hgr : T ≤ gr) (hg : Good l.length s) (hn4 : l.length ≤ 4000) (ra : Nat) (ha : ra < 32) (rb : Nat) (hb : rb < 32) (t : Tr) (ht : s.regs[rb]? = some t) (c : Int) (tree : ByteArray)
    (hx : l[s.pos]? = some ⟨4, (ra : Nat), (rb : Nat), c, tree⟩) :
    Calls Try.prog 97 #[.pointer (some ⟨gm, 0, none⟩), .pointer (some ⟨gs, 0, none⟩)] w (RStepOk w T gs ⟨s.pos + 1, s.regs.set ra t.tl⟩ (.slice (some ⟨gr, 0, none⟩) s.regs.length cp)) := by
  have hp : s.pos < l.length := (List.getElem?_eq_some_iff.1 hx).1
  obtain ⟨ao, cap, rfl⟩ := hm.prog.len
  have c0 := (block_cells hm.blk).1 0
  simp only [List.getElem?_toArray, List.getElem?_cons_zero] at c0
  have s0 := hs.cells.1
  have hl := hm.prog
  have hlt := hm.lt
  have hgl : gs < w.heap.size := (Array.getElem?_eq_some_iff.1 hs.blk).1
  have hgm : gm < w.heap.size := (Array.getElem?_eq_some_iff.1 hm.blk).1
  have hle := hs.le
  obtain ⟨n, hn'⟩ : ∃ n, l.length = n := ⟨_, rfl⟩
  rw [hn'] at hl c0 hp hn4
  obtain ⟨pg, off, rfl, hpg, p0, p1, p2, p3, p4⟩ := hl.get hx
  dsimp only at p0 p1 p2 p3 p4
  have h32 := hg.2.1
  have HX := Lib.hid hx
  have HN := Lib.hid hn'
  have hi0 : (0 : Int) ≤ (s.pos : Int) := Int.natCast_nonneg _
  have hi1 : (s.pos : Int) < (n : Int) := by omega
  obtain ⟨wd, hwd⟩ : ∃ wd, (w.alloc (.cells #[.int .i64 (4), .int .i64 (ra : Nat), .int .i64 (rb : Nat), .int .i64 (c), .string tree] 41)).drew = wd := ⟨_, rfl⟩
  have hbd : Below w.heap.size w wd := by rw [← hwd]; exact ((Below.refl _ _).alloc (Nat.le_refl _) _).drew
  have hbox : wd.heap[w.heap.size]? = some (.cells #[.int .i64 (4), .int .i64 (ra : Nat), .int .i64 (rb : Nat), .int .i64 (c), .string tree] 41 (0, 0)) := by rw [← hwd]; exact heap_alloc_new w _
  have keep : ∀ w', Below w.heap.size w w' → w'.cell? ⟨gm, 0, none⟩ = some (.slice (some ⟨pg, off, none⟩) n cap) ∧ w'.cell? ⟨gs, 0, none⟩ = some (.int .i64 s.pos) ∧ w'.cell? ⟨pg, off + s.pos * 5, none⟩ = some (.int .i64 (4)) ∧ w'.cell? ⟨pg, off + s.pos * 5 + 1, none⟩ = some (.int .i64 (ra : Nat)) ∧
      w'.cell? ⟨pg, off + s.pos * 5 + 2, none⟩ = some (.int .i64 (rb : Nat)) ∧ w'.cell? ⟨pg, off + s.pos * 5 + 3, none⟩ = some (.int .i64 (c)) ∧ w'.cell? ⟨pg, off + s.pos * 5 + 4, none⟩ = some (.string tree) := fun w' hb => by
    refine ⟨(hb.cell (p := ⟨gm, 0, none⟩) hgm).trans c0, (hb.cell (p := ⟨gs, 0, none⟩) hgl).trans s0, (hb.cell (p := ⟨pg, off + s.pos * 5, none⟩) (by show pg < _; omega)).trans p0, (hb.cell (p := ⟨pg, off + s.pos * 5 + 1, none⟩) (by show pg < _; omega)).trans p1, (hb.cell (p := ⟨pg, off + s.pos * 5 + 2, none⟩) (by show pg < _; omega)).trans p2, (hb.cell (p := ⟨pg, off + s.pos * 5 + 3, none⟩) (by show pg < _; omega)).trans p3, (hb.cell (p := ⟨pg, off + s.pos * 5 + 4, none⟩) (by show pg < _; omega)).trans p4⟩
  have hsd := hs.kept hbd
  obtain ⟨d0, d1, df, dr, drf⟩ := hsd.cells
  have kkd := Kept.below hbd (T := 58)
  have e0 := (block_cells hbox).1 0
  have e1 := (block_cells hbox).1 1
  have e2 := (block_cells hbox).1 2
  have e3 := (block_cells hbox).1 3
  simp only [List.getElem?_toArray, List.getElem?_cons_zero, List.getElem?_cons_succ] at e0 e1 e2 e3
  have hbl : w.heap.size < wd.heap.size := (Array.getElem?_eq_some_iff.1 hbox).1
  have hbT : Below T w wd := hbd.mono (by omega)
  have HSD := Lib.hid hsd
  have hap1 : ¬ gs = gr := hsd.apart
  have hap2 : ¬ gr = gs := fun h => hap1 h.symm
  have hrl := hsd.rlt
  rw [h32] at d1
  clear hsd hbox
  obtain ⟨tra, htra⟩ : ∃ t, s.regs[ra]? = some t := ⟨_, List.getElem?_eq_getElem (by omega)⟩
  obtain ⟨qra, fra, nra⟩ := dr ra tra htra
  have zra := drf ra
  obtain ⟨qb, fb, nb⟩ := dr rb t ht

  clear hm hs hg hl hx hn' hle hpg
  go_enter Try.func97, Try.ntmps97
  go_wp2
  go_region_held3 (fun w' => w'.cell? ⟨gm, 0, none⟩ = some (.slice (some ⟨pg, off, none⟩) n cap) ∧ w'.cell? ⟨gs, 0, none⟩ = some (.int .i64 s.pos) ∧ w'.cell? ⟨pg, off + s.pos * 5, none⟩ = some (.int .i64 (4)) ∧ w'.cell? ⟨pg, off + s.pos * 5 + 1, none⟩ = some (.int .i64 (ra : Nat)) ∧
      w'.cell? ⟨pg, off + s.pos * 5 + 2, none⟩ = some (.int .i64 (rb : Nat)) ∧ w'.cell? ⟨pg, off + s.pos * 5 + 3, none⟩ = some (.int .i64 (c)) ∧ w'.cell? ⟨pg, off + s.pos * 5 + 4, none⟩ = some (.string tree))
    (exact keep _ (by first | exact hbd | exact (Below.refl _ _).drew | exact ((Below.refl _ _).drew).alloc (Nat.le_refl _) _))
    (fail)
  try rw [hwd]
  clear keep hwd p0 p1 p2 p3 p4 c0 s0
  obtain ⟨xq, nxq, kx⟩ := rnodeTail_at t _ wd nb
  have kx1 := kx wd.drew (Kept.refl _ _).drew
  have HND := Lib.hid nxq
  have df0 := df 0
  have ib0 : (0 : Int) ≤ (rb : Int) := Int.natCast_nonneg _
  have ib1 : (rb : Int) < 32 := by omega
  have ia0 : (0 : Int) ≤ (ra : Int) := Int.natCast_nonneg _
  have ia1 : (ra : Int) < 32 := by omega
  clear dr df drf nb nra nxq kx
  go_wp2
  refine wp_region_still_tail 16 (by kernel_rfl) (by kernel_rfl) ?_
  simp only [List.take_succ_cons, List.take_zero, List.drop_succ_cons, List.drop_zero]
  repeat still_step
  still_call kx1
  repeat still_step
  try refine wpStill_nil ?_
  go_wp2
  go_ret
  refine RStepOk.mk' rfl ?_
  first
  | exact rstep_fin_drew (rstep_fin HSD.out hbT kkd ra HND.out hgr _ _ (by omega))
  | exact rstep_fin (HSD.out.kept (Below.refl _ _).drew) hbT.drew kkd.drew ra (HND.out.kept (Kept.refl _ _).drew) hgr _ _ (by omega)

set_option maxRecDepth 20000 in
set_option maxHeartbeats 4000000 in
theorem rstep_cons_ok (w : World) (T gm gs gr cp : Nat) (l : List Ins) (s : St) (pv tv : Value) (ps : List Value) (hm : RMachP w T gm l pv tv) (hs : RStP w T gs s (.slice (some ⟨gr, 0, none⟩) s.regs.length cp) ps) (hgr : T ≤ gr) (hg : Good l.length s) (hn4 : l.length ≤ 4000) (ra : Nat) (ha : ra < 32) (rb : Nat) (hb : rb < 32) (rc : Nat) (hc : rc < 32) (t : Tr) (ht : s.regs[rb]? = some t) (u : Tr) (hu : s.regs[rc]? = some u) (tree : ByteArray) (hsz : (Tr.pair t u).size ≤ 2000000)
    (hx : l[s.pos]? = some ⟨2, (ra : Nat), (rb : Nat), (rc : Nat), tree⟩) :
    Calls Try.prog 97 #[.pointer (some ⟨gm, 0, none⟩), .pointer (some ⟨gs, 0, none⟩)] w (RStepOk w T gs ⟨s.pos + 1, s.regs.set ra (.pair t u)⟩ (.slice (some ⟨gr, 0, none⟩) s.regs.length cp)) := by
  have hp : s.pos < l.length := (List.getElem?_eq_some_iff.1 hx).1
  obtain ⟨ao, cap, rfl⟩ := hm.prog.len
  have c0 := (block_cells hm.blk).1 0
  simp only [List.getElem?_toArray, List.getElem?_cons_zero] at c0
  have s0 := hs.cells.1
  have hl := hm.prog
  have hlt := hm.lt
  have hgl : gs < w.heap.size := (Array.getElem?_eq_some_iff.1 hs.blk).1
  have hgm : gm < w.heap.size := (Array.getElem?_eq_some_iff.1 hm.blk).1
  have hle := hs.le
  obtain ⟨n, hn'⟩ : ∃ n, l.length = n := ⟨_, rfl⟩
  rw [hn'] at hl c0 hp hn4
  obtain ⟨pg, off, rfl, hpg, p0, p1, p2, p3, p4⟩ := hl.get hx
  dsimp only at p0 p1 p2 p3 p4
  have h32 := hg.2.1
  have HX := Lib.hid hx
  have HN := Lib.hid hn'
  have hi0 : (0 : Int) ≤ (s.pos : Int) := Int.natCast_nonneg _
  have hi1 : (s.pos : Int) < (n : Int) := by omega
  obtain ⟨wd, hwd⟩ : ∃ wd, (w.alloc (.cells #[.int .i64 (2), .int .i64 (ra : Nat), .int .i64 (rb : Nat), .int .i64 (rc : Nat), .string tree] 41)).drew = wd := ⟨_, rfl⟩
  have hbd : Below w.heap.size w wd := by rw [← hwd]; exact ((Below.refl _ _).alloc (Nat.le_refl _) _).drew
  have hbox : wd.heap[w.heap.size]? = some (.cells #[.int .i64 (2), .int .i64 (ra : Nat), .int .i64 (rb : Nat), .int .i64 (rc : Nat), .string tree] 41 (0, 0)) := by rw [← hwd]; exact heap_alloc_new w _
  have keep : ∀ w', Below w.heap.size w w' → w'.cell? ⟨gm, 0, none⟩ = some (.slice (some ⟨pg, off, none⟩) n cap) ∧ w'.cell? ⟨gs, 0, none⟩ = some (.int .i64 s.pos) ∧ w'.cell? ⟨pg, off + s.pos * 5, none⟩ = some (.int .i64 (2)) ∧ w'.cell? ⟨pg, off + s.pos * 5 + 1, none⟩ = some (.int .i64 (ra : Nat)) ∧
      w'.cell? ⟨pg, off + s.pos * 5 + 2, none⟩ = some (.int .i64 (rb : Nat)) ∧ w'.cell? ⟨pg, off + s.pos * 5 + 3, none⟩ = some (.int .i64 (rc : Nat)) ∧ w'.cell? ⟨pg, off + s.pos * 5 + 4, none⟩ = some (.string tree) := fun w' hb => by
    refine ⟨(hb.cell (p := ⟨gm, 0, none⟩) hgm).trans c0, (hb.cell (p := ⟨gs, 0, none⟩) hgl).trans s0, (hb.cell (p := ⟨pg, off + s.pos * 5, none⟩) (by show pg < _; omega)).trans p0, (hb.cell (p := ⟨pg, off + s.pos * 5 + 1, none⟩) (by show pg < _; omega)).trans p1, (hb.cell (p := ⟨pg, off + s.pos * 5 + 2, none⟩) (by show pg < _; omega)).trans p2, (hb.cell (p := ⟨pg, off + s.pos * 5 + 3, none⟩) (by show pg < _; omega)).trans p3, (hb.cell (p := ⟨pg, off + s.pos * 5 + 4, none⟩) (by show pg < _; omega)).trans p4⟩
  have hsd := hs.kept hbd
  obtain ⟨d0, d1, df, dr, drf⟩ := hsd.cells
  have kkd := Kept.below hbd (T := 58)
  have e0 := (block_cells hbox).1 0
  have e1 := (block_cells hbox).1 1
  have e2 := (block_cells hbox).1 2
  have e3 := (block_cells hbox).1 3
  simp only [List.getElem?_toArray, List.getElem?_cons_zero, List.getElem?_cons_succ] at e0 e1 e2 e3
  have hbl : w.heap.size < wd.heap.size := (Array.getElem?_eq_some_iff.1 hbox).1
  have hbT : Below T w wd := hbd.mono (by omega)
  have HSD := Lib.hid hsd
  have hap1 : ¬ gs = gr := hsd.apart
  have hap2 : ¬ gr = gs := fun h => hap1 h.symm
  have hrl := hsd.rlt
  rw [h32] at d1
  clear hsd hbox
  have ib0 : (0 : Int) ≤ (rb : Int) := Int.natCast_nonneg _
  have ib1 : (rb : Int) < 32 := by omega
  have ic0 : (0 : Int) ≤ (rc : Int) := Int.natCast_nonneg _
  have ic1 : (rc : Int) < 32 := by omega
  obtain ⟨qb, fb, nb⟩ := dr rb t ht
  obtain ⟨qc, fc, nc⟩ := dr rc u hu
  have h1 := Lib.hid (hg.2.2 _ (List.mem_of_getElem? ht))
  have h2 := Lib.hid (hg.2.2 _ (List.mem_of_getElem? hu))

  clear hm hs hg hl hx hn' hle hpg
  go_enter Try.func97, Try.ntmps97
  go_wp2
  go_region_held3 (fun w' => w'.cell? ⟨gm, 0, none⟩ = some (.slice (some ⟨pg, off, none⟩) n cap) ∧ w'.cell? ⟨gs, 0, none⟩ = some (.int .i64 s.pos) ∧ w'.cell? ⟨pg, off + s.pos * 5, none⟩ = some (.int .i64 (2)) ∧ w'.cell? ⟨pg, off + s.pos * 5 + 1, none⟩ = some (.int .i64 (ra : Nat)) ∧
      w'.cell? ⟨pg, off + s.pos * 5 + 2, none⟩ = some (.int .i64 (rb : Nat)) ∧ w'.cell? ⟨pg, off + s.pos * 5 + 3, none⟩ = some (.int .i64 (rc : Nat)) ∧ w'.cell? ⟨pg, off + s.pos * 5 + 4, none⟩ = some (.string tree))
    (exact keep _ (by first | exact hbd | exact (Below.refl _ _).drew | exact ((Below.refl _ _).drew).alloc (Nat.le_refl _) _))
    (fail)
  try rw [hwd]
  clear keep hwd p0 p1 p2 p3 p4 c0 s0
  have HNB := Lib.hid nb
  have HNC := Lib.hid nc
  have kc : ∀ w', Below wd.heap.size wd w' → Calls Try.prog 93 #[.pointer qb, .pointer qc] w' fun e w'' => ∃ p, e = .returned (.pointer (some p)) ∧ Hid (NodeP 58 w'' (.pair t u) (.pointer (some p))) ∧ Below wd.heap.size wd w'' := fun w' hb' => by
    refine (rnodeCons_ok t u _ _ w' (HNB.out.kept (Kept.below hb')) (HNC.out.kept (Kept.below hb')) (by have := h1.out; omega) (by have := h2.out; omega)).mono ?_
    rintro e w'' ⟨p, he, hp, hb2⟩
    exact ⟨p, he, hp, hb'.trans (hb2.mono hb'.size)⟩
  have keep2 : ∀ w', Below wd.heap.size wd w' → w'.cell? ⟨w.heap.size, 2, none⟩ = some (.int .i64 (rb : Nat)) ∧ w'.cell? ⟨w.heap.size, 3, none⟩ = some (.int .i64 (rc : Nat)) ∧ w'.cell? ⟨gr, rb, none⟩ = some (.pointer qb) ∧ w'.cell? ⟨gr, rc, none⟩ = some (.pointer qc) ∧ w'.cell? ⟨gs, 1, none⟩ = some (.slice (some ⟨gr, 0, none⟩) 32 cp) := fun w' hb' =>
    ⟨(hb'.cell (p := ⟨w.heap.size, 2, none⟩) hbl).trans e2, (hb'.cell (p := ⟨w.heap.size, 3, none⟩) hbl).trans e3, (hb'.cell (p := ⟨gr, rb, none⟩) hrl).trans fb, (hb'.cell (p := ⟨gr, rc, none⟩) hrl).trans fc, (hb'.cell (p := ⟨gs, 1, none⟩) (by show gs < _; omega)).trans d1⟩
  clear dr df drf nb nc
  have HSZ := Lib.hid hsz
  clear hsz
  go_wp2
  go_region_held3 (fun w' => w'.cell? ⟨w.heap.size, 2, none⟩ = some (.int .i64 (rb : Nat)) ∧ w'.cell? ⟨w.heap.size, 3, none⟩ = some (.int .i64 (rc : Nat)) ∧ w'.cell? ⟨gr, rb, none⟩ = some (.pointer qb) ∧ w'.cell? ⟨gr, rc, none⟩ = some (.pointer qc) ∧ w'.cell? ⟨gs, 1, none⟩ = some (.slice (some ⟨gr, 0, none⟩) 32 cp))
    (exact keep2 _ (by first | exact (Below.refl _ _) | exact (Below.refl _ _).drew | exact hb2 | exact hb2.drew))
    ((refine (kc _ (by first | exact Below.refl _ _ | exact (Below.refl _ _).drew)).mono ?_; rintro e w2 ⟨⟨xb, xo, xf⟩, rfl, hnx, hb2⟩))
  all_goals
    obtain ⟨gx, x1, x2, hgx, hblk, _, _⟩ := hnx.out
    simp only [Value.pointer.injEq, Option.some.injEq, Addr.mk.injEq] at hgx
    obtain ⟨rfl, rfl, rfl⟩ := hgx
    have cx := (block_cells hblk).1 2
    simp only [List.getElem?_toArray, List.getElem?_cons_zero, List.getElem?_cons_succ] at cx
    have hsz1 := (Tr.pair t u).size_pos
    have hs1 : ((Tr.pair t u).size : Int) ≤ 4000001 := by have := h1.out; have := h2.out; simp only [Tr.size]; omega
    have hsd2 := HSD.out.kept hb2
    obtain ⟨k0, k1, kf, kr, krf⟩ := hsd2.cells
    rw [h32] at k1
    have htest : ((Tr.pair t u).size : Int) ≤ 2000000 := by have := HSZ.out; omega
    obtain ⟨ta, hta⟩ : ∃ t, s.regs[ra]? = some t := ⟨_, List.getElem?_eq_getElem (by omega)⟩
    obtain ⟨qa, fa, na⟩ := kr ra ta hta
    have za := krf ra
    have kf0 := kf 0
    have ia0 : (0 : Int) ≤ (ra : Int) := Int.natCast_nonneg _
    have ia1 : (ra : Int) < 32 := by omega
    have b1 := (hb2.cell (p := ⟨w.heap.size, 1, none⟩) hbl).trans e1
    have HS2 := Lib.hid hsd2
    have hbe := hbd.trans (hb2.mono hbd.size)
    have HBE := Lib.hid hbe
    have hbT2 : Below T w w2 := hbT.trans (hb2.mono (by omega))
    have HBT2 := Lib.hid hbT2
    generalize hPS : (Tr.pair t u).size = psz at *
    clear kr kf krf hsd2 keep2 kc e0 e1 e2 e3 d0 d1 na hta hb2 hblk
    try clear fb fc
    go_wp2
    go_region
    go_wp2
    go_ret
    refine RStepOk.mk' rfl ?_
    first
    | exact rstep_fin_drew (rstep_fin HS2.out HBT2.out (Kept.below HBE.out) ra hnx.out hgr _ _ (by omega))
    | exact rstep_fin (HS2.out.kept (Below.refl _ _).drew) HBT2.out.drew (Kept.below HBE.out).drew ra (hnx.out.kept (Kept.refl _ _).drew) hgr _ _ (by omega)

set_option maxRecDepth 20000 in
set_option maxHeartbeats 4000000 in
theorem rstep_cons_big (w : World) (T gm gs gr cp : Nat) (l : List Ins) (s : St) (pv tv : Value) (ps : List Value) (hm : RMachP w T gm l pv tv) (hs : RStP w T gs s (.slice (some ⟨gr, 0, none⟩) s.regs.length cp) ps) (hgr : T ≤ gr) (hg : Good l.length s) (_hn4 : l.length ≤ 4000) (ra : Nat) (_ha : ra < 32) (rb : Nat) (hb : rb < 32) (rc : Nat) (hc : rc < 32) (t : Tr) (ht : s.regs[rb]? = some t) (u : Tr) (hu : s.regs[rc]? = some u) (tree : ByteArray) (hsz : 2000000 < (Tr.pair t u).size)
    (hx : l[s.pos]? = some ⟨2, (ra : Nat), (rb : Nat), (rc : Nat), tree⟩) :
    Calls Try.prog 97 #[.pointer (some ⟨gm, 0, none⟩), .pointer (some ⟨gs, 0, none⟩)] w (fun e w' => e = .returned (.bool false) ∧ (∃ ps', RStP w' T gs s (.slice (some ⟨gr, 0, none⟩) s.regs.length cp) ps') ∧ Below T w w' ∧ Kept 58 w w') := by
  have hp : s.pos < l.length := (List.getElem?_eq_some_iff.1 hx).1
  obtain ⟨ao, cap, rfl⟩ := hm.prog.len
  have c0 := (block_cells hm.blk).1 0
  simp only [List.getElem?_toArray, List.getElem?_cons_zero] at c0
  have s0 := hs.cells.1
  have hl := hm.prog
  have hlt := hm.lt
  have hgl : gs < w.heap.size := (Array.getElem?_eq_some_iff.1 hs.blk).1
  have hgm : gm < w.heap.size := (Array.getElem?_eq_some_iff.1 hm.blk).1
  have hle := hs.le
  obtain ⟨n, hn'⟩ : ∃ n, l.length = n := ⟨_, rfl⟩
  rw [hn'] at hl c0 hp _hn4
  obtain ⟨pg, off, rfl, hpg, p0, p1, p2, p3, p4⟩ := hl.get hx
  dsimp only at p0 p1 p2 p3 p4
  have h32 := hg.2.1
  have HX := Lib.hid hx
  have HN := Lib.hid hn'
  have hi0 : (0 : Int) ≤ (s.pos : Int) := Int.natCast_nonneg _
  have hi1 : (s.pos : Int) < (n : Int) := by omega
  obtain ⟨wd, hwd⟩ : ∃ wd, (w.alloc (.cells #[.int .i64 (2), .int .i64 (ra : Nat), .int .i64 (rb : Nat), .int .i64 (rc : Nat), .string tree] 41)).drew = wd := ⟨_, rfl⟩
  have hbd : Below w.heap.size w wd := by rw [← hwd]; exact ((Below.refl _ _).alloc (Nat.le_refl _) _).drew
  have hbox : wd.heap[w.heap.size]? = some (.cells #[.int .i64 (2), .int .i64 (ra : Nat), .int .i64 (rb : Nat), .int .i64 (rc : Nat), .string tree] 41 (0, 0)) := by rw [← hwd]; exact heap_alloc_new w _
  have keep : ∀ w', Below w.heap.size w w' → w'.cell? ⟨gm, 0, none⟩ = some (.slice (some ⟨pg, off, none⟩) n cap) ∧ w'.cell? ⟨gs, 0, none⟩ = some (.int .i64 s.pos) ∧ w'.cell? ⟨pg, off + s.pos * 5, none⟩ = some (.int .i64 (2)) ∧ w'.cell? ⟨pg, off + s.pos * 5 + 1, none⟩ = some (.int .i64 (ra : Nat)) ∧
      w'.cell? ⟨pg, off + s.pos * 5 + 2, none⟩ = some (.int .i64 (rb : Nat)) ∧ w'.cell? ⟨pg, off + s.pos * 5 + 3, none⟩ = some (.int .i64 (rc : Nat)) ∧ w'.cell? ⟨pg, off + s.pos * 5 + 4, none⟩ = some (.string tree) := fun w' hb => by
    refine ⟨(hb.cell (p := ⟨gm, 0, none⟩) hgm).trans c0, (hb.cell (p := ⟨gs, 0, none⟩) hgl).trans s0, (hb.cell (p := ⟨pg, off + s.pos * 5, none⟩) (by show pg < _; omega)).trans p0, (hb.cell (p := ⟨pg, off + s.pos * 5 + 1, none⟩) (by show pg < _; omega)).trans p1, (hb.cell (p := ⟨pg, off + s.pos * 5 + 2, none⟩) (by show pg < _; omega)).trans p2, (hb.cell (p := ⟨pg, off + s.pos * 5 + 3, none⟩) (by show pg < _; omega)).trans p3, (hb.cell (p := ⟨pg, off + s.pos * 5 + 4, none⟩) (by show pg < _; omega)).trans p4⟩
  have hsd := hs.kept hbd
  obtain ⟨d0, d1, df, dr, drf⟩ := hsd.cells
  have kkd := Kept.below hbd (T := 58)
  have e0 := (block_cells hbox).1 0
  have e1 := (block_cells hbox).1 1
  have e2 := (block_cells hbox).1 2
  have e3 := (block_cells hbox).1 3
  simp only [List.getElem?_toArray, List.getElem?_cons_zero, List.getElem?_cons_succ] at e0 e1 e2 e3
  have hbl : w.heap.size < wd.heap.size := (Array.getElem?_eq_some_iff.1 hbox).1
  have hbT : Below T w wd := hbd.mono (by omega)
  have HSD := Lib.hid hsd
  have hap1 : ¬ gs = gr := hsd.apart
  have hap2 : ¬ gr = gs := fun h => hap1 h.symm
  have hrl := hsd.rlt
  rw [h32] at d1
  clear hsd hbox
  have ib0 : (0 : Int) ≤ (rb : Int) := Int.natCast_nonneg _
  have ib1 : (rb : Int) < 32 := by omega
  have ic0 : (0 : Int) ≤ (rc : Int) := Int.natCast_nonneg _
  have ic1 : (rc : Int) < 32 := by omega
  obtain ⟨qb, fb, nb⟩ := dr rb t ht
  obtain ⟨qc, fc, nc⟩ := dr rc u hu
  have h1 := Lib.hid (hg.2.2 _ (List.mem_of_getElem? ht))
  have h2 := Lib.hid (hg.2.2 _ (List.mem_of_getElem? hu))

  clear hm hs hg hl hx hn' hle hpg
  go_enter Try.func97, Try.ntmps97
  go_wp2
  go_region_held3 (fun w' => w'.cell? ⟨gm, 0, none⟩ = some (.slice (some ⟨pg, off, none⟩) n cap) ∧ w'.cell? ⟨gs, 0, none⟩ = some (.int .i64 s.pos) ∧ w'.cell? ⟨pg, off + s.pos * 5, none⟩ = some (.int .i64 (2)) ∧ w'.cell? ⟨pg, off + s.pos * 5 + 1, none⟩ = some (.int .i64 (ra : Nat)) ∧
      w'.cell? ⟨pg, off + s.pos * 5 + 2, none⟩ = some (.int .i64 (rb : Nat)) ∧ w'.cell? ⟨pg, off + s.pos * 5 + 3, none⟩ = some (.int .i64 (rc : Nat)) ∧ w'.cell? ⟨pg, off + s.pos * 5 + 4, none⟩ = some (.string tree))
    (exact keep _ (by first | exact hbd | exact (Below.refl _ _).drew | exact ((Below.refl _ _).drew).alloc (Nat.le_refl _) _))
    (fail)
  try rw [hwd]
  clear keep hwd p0 p1 p2 p3 p4 c0 s0
  have HNB := Lib.hid nb
  have HNC := Lib.hid nc
  have kc : ∀ w', Below wd.heap.size wd w' → Calls Try.prog 93 #[.pointer qb, .pointer qc] w' fun e w'' => ∃ p, e = .returned (.pointer (some p)) ∧ Hid (NodeP 58 w'' (.pair t u) (.pointer (some p))) ∧ Below wd.heap.size wd w'' := fun w' hb' => by
    refine (rnodeCons_ok t u _ _ w' (HNB.out.kept (Kept.below hb')) (HNC.out.kept (Kept.below hb')) (by have := h1.out; omega) (by have := h2.out; omega)).mono ?_
    rintro e w'' ⟨p, he, hp, hb2⟩
    exact ⟨p, he, hp, hb'.trans (hb2.mono hb'.size)⟩
  have keep2 : ∀ w', Below wd.heap.size wd w' → w'.cell? ⟨w.heap.size, 2, none⟩ = some (.int .i64 (rb : Nat)) ∧ w'.cell? ⟨w.heap.size, 3, none⟩ = some (.int .i64 (rc : Nat)) ∧ w'.cell? ⟨gr, rb, none⟩ = some (.pointer qb) ∧ w'.cell? ⟨gr, rc, none⟩ = some (.pointer qc) ∧ w'.cell? ⟨gs, 1, none⟩ = some (.slice (some ⟨gr, 0, none⟩) 32 cp) := fun w' hb' =>
    ⟨(hb'.cell (p := ⟨w.heap.size, 2, none⟩) hbl).trans e2, (hb'.cell (p := ⟨w.heap.size, 3, none⟩) hbl).trans e3, (hb'.cell (p := ⟨gr, rb, none⟩) hrl).trans fb, (hb'.cell (p := ⟨gr, rc, none⟩) hrl).trans fc, (hb'.cell (p := ⟨gs, 1, none⟩) (by show gs < _; omega)).trans d1⟩
  clear dr df drf nb nc
  have HSZ := Lib.hid hsz
  clear hsz
  go_wp2
  go_region_held3 (fun w' => w'.cell? ⟨w.heap.size, 2, none⟩ = some (.int .i64 (rb : Nat)) ∧ w'.cell? ⟨w.heap.size, 3, none⟩ = some (.int .i64 (rc : Nat)) ∧ w'.cell? ⟨gr, rb, none⟩ = some (.pointer qb) ∧ w'.cell? ⟨gr, rc, none⟩ = some (.pointer qc) ∧ w'.cell? ⟨gs, 1, none⟩ = some (.slice (some ⟨gr, 0, none⟩) 32 cp))
    (exact keep2 _ (by first | exact (Below.refl _ _) | exact (Below.refl _ _).drew | exact hb2 | exact hb2.drew))
    ((refine (kc _ (by first | exact Below.refl _ _ | exact (Below.refl _ _).drew)).mono ?_; rintro e w2 ⟨⟨xb, xo, xf⟩, rfl, hnx, hb2⟩))
  all_goals
    obtain ⟨gx, x1, x2, hgx, hblk, _, _⟩ := hnx.out
    simp only [Value.pointer.injEq, Option.some.injEq, Addr.mk.injEq] at hgx
    obtain ⟨rfl, rfl, rfl⟩ := hgx
    have cx := (block_cells hblk).1 2
    simp only [List.getElem?_toArray, List.getElem?_cons_zero, List.getElem?_cons_succ] at cx
    have hsz1 := (Tr.pair t u).size_pos
    have hs1 : ((Tr.pair t u).size : Int) ≤ 4000001 := by have := h1.out; have := h2.out; simp only [Tr.size]; omega
    have hsd2 := HSD.out.kept hb2
    obtain ⟨k0, k1, kf, kr, krf⟩ := hsd2.cells
    rw [h32] at k1
    have htest : 2000000 < ((Tr.pair t u).size : Int) := by have := HSZ.out; omega
    have HS2 := Lib.hid hsd2
    have hbe := hbd.trans (hb2.mono hbd.size)
    have HBE := Lib.hid hbe
    have hbT2 : Below T w w2 := hbT.trans (hb2.mono (by omega))
    have HBT2 := Lib.hid hbT2
    generalize hPS : (Tr.pair t u).size = psz at *
    clear kr kf krf hsd2 keep2 kc e0 e1 e2 e3 d0 d1 hb2 hblk
    try clear fb fc
    go_wp2
    go_ret
    first
    | exact ⟨rfl, ⟨_, HS2.out⟩, HBT2.out, Kept.below HBE.out⟩
    | exact ⟨rfl, ⟨_, HS2.out.kept (Below.refl _ _).drew⟩, HBT2.out.drew, (Kept.below HBE.out).drew⟩

set_option maxRecDepth 20000 in
set_option maxHeartbeats 4000000 in
theorem rstep_jump_no (w : World) (T gm gs gr cp : Nat) (l : List Ins) (s : St) (pv tv : Value) (ps : List Value) (hm : RMachP w T gm l pv tv) (hs : RStP w T gs s (.slice (some ⟨gr, 0, none⟩) s.regs.length cp) ps) (hgr : T ≤ gr) (hg : Good l.length s) (hn4 : l.length ≤ 4000) (ra : Nat) (ha : ra < 32) (t : Tr) (ht : s.regs[ra]? = some t) (htn : t = .nil) (b c : Int) (tree : ByteArray) (_hb1 : -(s.pos : Int) ≤ b) (_hb2 : b ≤ (l.length : Int) - s.pos)
    (hx : l[s.pos]? = some ⟨5, (ra : Nat), b, c, tree⟩) :
    Calls Try.prog 97 #[.pointer (some ⟨gm, 0, none⟩), .pointer (some ⟨gs, 0, none⟩)] w (RStepOk w T gs ⟨s.pos + 1, s.regs⟩ (.slice (some ⟨gr, 0, none⟩) s.regs.length cp)) := by
  have hp : s.pos < l.length := (List.getElem?_eq_some_iff.1 hx).1
  obtain ⟨ao, cap, rfl⟩ := hm.prog.len
  have c0 := (block_cells hm.blk).1 0
  simp only [List.getElem?_toArray, List.getElem?_cons_zero] at c0
  have s0 := hs.cells.1
  have hl := hm.prog
  have hlt := hm.lt
  have hgl : gs < w.heap.size := (Array.getElem?_eq_some_iff.1 hs.blk).1
  have hgm : gm < w.heap.size := (Array.getElem?_eq_some_iff.1 hm.blk).1
  have hle := hs.le
  obtain ⟨n, hn'⟩ : ∃ n, l.length = n := ⟨_, rfl⟩
  rw [hn'] at hl c0 hp hn4
  obtain ⟨pg, off, rfl, hpg, p0, p1, p2, p3, p4⟩ := hl.get hx
  dsimp only at p0 p1 p2 p3 p4
  have h32 := hg.2.1
  have HX := Lib.hid hx
  have HN := Lib.hid hn'
  have hi0 : (0 : Int) ≤ (s.pos : Int) := Int.natCast_nonneg _
  have hi1 : (s.pos : Int) < (n : Int) := by omega
  obtain ⟨wd, hwd⟩ : ∃ wd, (w.alloc (.cells #[.int .i64 (5), .int .i64 (ra : Nat), .int .i64 (b), .int .i64 (c), .string tree] 41)).drew = wd := ⟨_, rfl⟩
  have hbd : Below w.heap.size w wd := by rw [← hwd]; exact ((Below.refl _ _).alloc (Nat.le_refl _) _).drew
  have hbox : wd.heap[w.heap.size]? = some (.cells #[.int .i64 (5), .int .i64 (ra : Nat), .int .i64 (b), .int .i64 (c), .string tree] 41 (0, 0)) := by rw [← hwd]; exact heap_alloc_new w _
  have keep : ∀ w', Below w.heap.size w w' → w'.cell? ⟨gm, 0, none⟩ = some (.slice (some ⟨pg, off, none⟩) n cap) ∧ w'.cell? ⟨gs, 0, none⟩ = some (.int .i64 s.pos) ∧ w'.cell? ⟨pg, off + s.pos * 5, none⟩ = some (.int .i64 (5)) ∧ w'.cell? ⟨pg, off + s.pos * 5 + 1, none⟩ = some (.int .i64 (ra : Nat)) ∧
      w'.cell? ⟨pg, off + s.pos * 5 + 2, none⟩ = some (.int .i64 (b)) ∧ w'.cell? ⟨pg, off + s.pos * 5 + 3, none⟩ = some (.int .i64 (c)) ∧ w'.cell? ⟨pg, off + s.pos * 5 + 4, none⟩ = some (.string tree) := fun w' hb => by
    refine ⟨(hb.cell (p := ⟨gm, 0, none⟩) hgm).trans c0, (hb.cell (p := ⟨gs, 0, none⟩) hgl).trans s0, (hb.cell (p := ⟨pg, off + s.pos * 5, none⟩) (by show pg < _; omega)).trans p0, (hb.cell (p := ⟨pg, off + s.pos * 5 + 1, none⟩) (by show pg < _; omega)).trans p1, (hb.cell (p := ⟨pg, off + s.pos * 5 + 2, none⟩) (by show pg < _; omega)).trans p2, (hb.cell (p := ⟨pg, off + s.pos * 5 + 3, none⟩) (by show pg < _; omega)).trans p3, (hb.cell (p := ⟨pg, off + s.pos * 5 + 4, none⟩) (by show pg < _; omega)).trans p4⟩
  have hsd := hs.kept hbd
  obtain ⟨d0, d1, df, dr, drf⟩ := hsd.cells
  have kkd := Kept.below hbd (T := 58)
  have e0 := (block_cells hbox).1 0
  have e1 := (block_cells hbox).1 1
  have e2 := (block_cells hbox).1 2
  have e3 := (block_cells hbox).1 3
  simp only [List.getElem?_toArray, List.getElem?_cons_zero, List.getElem?_cons_succ] at e0 e1 e2 e3
  have hbl : w.heap.size < wd.heap.size := (Array.getElem?_eq_some_iff.1 hbox).1
  have hbT : Below T w wd := hbd.mono (by omega)
  have HSD := Lib.hid hsd
  have hap1 : ¬ gs = gr := hsd.apart
  have hap2 : ¬ gr = gs := fun h => hap1 h.symm
  have hrl := hsd.rlt
  rw [h32] at d1
  clear hsd hbox
  obtain ⟨qa, fa, na⟩ := dr ra t ht
  rw [hn'] at _hb2
  have ia0 : (0 : Int) ≤ (ra : Int) := Int.natCast_nonneg _
  have ia1 : (ra : Int) < 32 := by omega

  clear hm hs hg hl hx hn' hle hpg
  go_enter Try.func97, Try.ntmps97
  go_wp2
  go_region_held3 (fun w' => w'.cell? ⟨gm, 0, none⟩ = some (.slice (some ⟨pg, off, none⟩) n cap) ∧ w'.cell? ⟨gs, 0, none⟩ = some (.int .i64 s.pos) ∧ w'.cell? ⟨pg, off + s.pos * 5, none⟩ = some (.int .i64 (5)) ∧ w'.cell? ⟨pg, off + s.pos * 5 + 1, none⟩ = some (.int .i64 (ra : Nat)) ∧
      w'.cell? ⟨pg, off + s.pos * 5 + 2, none⟩ = some (.int .i64 (b)) ∧ w'.cell? ⟨pg, off + s.pos * 5 + 3, none⟩ = some (.int .i64 (c)) ∧ w'.cell? ⟨pg, off + s.pos * 5 + 4, none⟩ = some (.string tree))
    (exact keep _ (by first | exact hbd | exact (Below.refl _ _).drew | exact ((Below.refl _ _).drew).alloc (Nat.le_refl _) _))
    (fail)
  try rw [hwd]
  clear keep hwd p0 p1 p2 p3 p4 c0 s0
  subst htn
  have hq : qa = none := by have : Value.pointer qa = .pointer none := na; simpa using this
  subst hq
  have df0 := df 0
  clear dr df drf na ht
  have hnI : (n : Int) ≤ 4000 := by omega
  go_wp2
  go_quiet (fail)
  go_wp2
  go_ret
  refine RStepOk.mk' rfl ?_
  have hq1 := below_drewN (Below.refl wd.heap.size wd) nq
  first
  | exact rstep_jfin (HSD.out.kept hq1) (hbT.trans (hq1.mono (by omega))) (kkd.trans (Kept.below hq1)) _ _ (by omega)
  | exact rstep_fin_drew (rstep_jfin (HSD.out.kept hq1) (hbT.trans (hq1.mono (by omega))) (kkd.trans (Kept.below hq1)) _ _ (by omega))

set_option maxRecDepth 20000 in
set_option maxHeartbeats 4000000 in
theorem rstep_jump_go (w : World) (T gm gs gr cp : Nat) (l : List Ins) (s : St) (pv tv : Value) (ps : List Value) (hm : RMachP w T gm l pv tv) (hs : RStP w T gs s (.slice (some ⟨gr, 0, none⟩) s.regs.length cp) ps) (hgr : T ≤ gr) (hg : Good l.length s) (hn4 : l.length ≤ 4000) (ra : Nat) (ha : ra < 32) (t : Tr) (ht : s.regs[ra]? = some t) (htn : t ≠ .nil) (b c : Int) (tree : ByteArray) (hb1 : -(s.pos : Int) ≤ b) (hb2 : b ≤ (l.length : Int) - s.pos)
    (hx : l[s.pos]? = some ⟨5, (ra : Nat), b, c, tree⟩) :
    Calls Try.prog 97 #[.pointer (some ⟨gm, 0, none⟩), .pointer (some ⟨gs, 0, none⟩)] w (RStepOk w T gs ⟨((s.pos : Int) + b).toNat, s.regs⟩ (.slice (some ⟨gr, 0, none⟩) s.regs.length cp)) := by
  have hp : s.pos < l.length := (List.getElem?_eq_some_iff.1 hx).1
  obtain ⟨ao, cap, rfl⟩ := hm.prog.len
  have c0 := (block_cells hm.blk).1 0
  simp only [List.getElem?_toArray, List.getElem?_cons_zero] at c0
  have s0 := hs.cells.1
  have hl := hm.prog
  have hlt := hm.lt
  have hgl : gs < w.heap.size := (Array.getElem?_eq_some_iff.1 hs.blk).1
  have hgm : gm < w.heap.size := (Array.getElem?_eq_some_iff.1 hm.blk).1
  have hle := hs.le
  obtain ⟨n, hn'⟩ : ∃ n, l.length = n := ⟨_, rfl⟩
  rw [hn'] at hl c0 hp hn4
  obtain ⟨pg, off, rfl, hpg, p0, p1, p2, p3, p4⟩ := hl.get hx
  dsimp only at p0 p1 p2 p3 p4
  have h32 := hg.2.1
  have HX := Lib.hid hx
  have HN := Lib.hid hn'
  have hi0 : (0 : Int) ≤ (s.pos : Int) := Int.natCast_nonneg _
  have hi1 : (s.pos : Int) < (n : Int) := by omega
  obtain ⟨wd, hwd⟩ : ∃ wd, (w.alloc (.cells #[.int .i64 (5), .int .i64 (ra : Nat), .int .i64 (b), .int .i64 (c), .string tree] 41)).drew = wd := ⟨_, rfl⟩
  have hbd : Below w.heap.size w wd := by rw [← hwd]; exact ((Below.refl _ _).alloc (Nat.le_refl _) _).drew
  have hbox : wd.heap[w.heap.size]? = some (.cells #[.int .i64 (5), .int .i64 (ra : Nat), .int .i64 (b), .int .i64 (c), .string tree] 41 (0, 0)) := by rw [← hwd]; exact heap_alloc_new w _
  have keep : ∀ w', Below w.heap.size w w' → w'.cell? ⟨gm, 0, none⟩ = some (.slice (some ⟨pg, off, none⟩) n cap) ∧ w'.cell? ⟨gs, 0, none⟩ = some (.int .i64 s.pos) ∧ w'.cell? ⟨pg, off + s.pos * 5, none⟩ = some (.int .i64 (5)) ∧ w'.cell? ⟨pg, off + s.pos * 5 + 1, none⟩ = some (.int .i64 (ra : Nat)) ∧
      w'.cell? ⟨pg, off + s.pos * 5 + 2, none⟩ = some (.int .i64 (b)) ∧ w'.cell? ⟨pg, off + s.pos * 5 + 3, none⟩ = some (.int .i64 (c)) ∧ w'.cell? ⟨pg, off + s.pos * 5 + 4, none⟩ = some (.string tree) := fun w' hb => by
    refine ⟨(hb.cell (p := ⟨gm, 0, none⟩) hgm).trans c0, (hb.cell (p := ⟨gs, 0, none⟩) hgl).trans s0, (hb.cell (p := ⟨pg, off + s.pos * 5, none⟩) (by show pg < _; omega)).trans p0, (hb.cell (p := ⟨pg, off + s.pos * 5 + 1, none⟩) (by show pg < _; omega)).trans p1, (hb.cell (p := ⟨pg, off + s.pos * 5 + 2, none⟩) (by show pg < _; omega)).trans p2, (hb.cell (p := ⟨pg, off + s.pos * 5 + 3, none⟩) (by show pg < _; omega)).trans p3, (hb.cell (p := ⟨pg, off + s.pos * 5 + 4, none⟩) (by show pg < _; omega)).trans p4⟩
  have hsd := hs.kept hbd
  obtain ⟨d0, d1, df, dr, drf⟩ := hsd.cells
  have kkd := Kept.below hbd (T := 58)
  have e0 := (block_cells hbox).1 0
  have e1 := (block_cells hbox).1 1
  have e2 := (block_cells hbox).1 2
  have e3 := (block_cells hbox).1 3
  simp only [List.getElem?_toArray, List.getElem?_cons_zero, List.getElem?_cons_succ] at e0 e1 e2 e3
  have hbl : w.heap.size < wd.heap.size := (Array.getElem?_eq_some_iff.1 hbox).1
  have hbT : Below T w wd := hbd.mono (by omega)
  have HSD := Lib.hid hsd
  have hap1 : ¬ gs = gr := hsd.apart
  have hap2 : ¬ gr = gs := fun h => hap1 h.symm
  have hrl := hsd.rlt
  rw [h32] at d1
  clear hsd hbox
  obtain ⟨qa, fa, na⟩ := dr ra t ht
  rw [hn'] at hb2
  have ia0 : (0 : Int) ≤ (ra : Int) := Int.natCast_nonneg _
  have ia1 : (ra : Int) < 32 := by omega

  clear hm hs hg hl hx hn' hle hpg
  go_enter Try.func97, Try.ntmps97
  go_wp2
  go_region_held3 (fun w' => w'.cell? ⟨gm, 0, none⟩ = some (.slice (some ⟨pg, off, none⟩) n cap) ∧ w'.cell? ⟨gs, 0, none⟩ = some (.int .i64 s.pos) ∧ w'.cell? ⟨pg, off + s.pos * 5, none⟩ = some (.int .i64 (5)) ∧ w'.cell? ⟨pg, off + s.pos * 5 + 1, none⟩ = some (.int .i64 (ra : Nat)) ∧
      w'.cell? ⟨pg, off + s.pos * 5 + 2, none⟩ = some (.int .i64 (b)) ∧ w'.cell? ⟨pg, off + s.pos * 5 + 3, none⟩ = some (.int .i64 (c)) ∧ w'.cell? ⟨pg, off + s.pos * 5 + 4, none⟩ = some (.string tree))
    (exact keep _ (by first | exact hbd | exact (Below.refl _ _).drew | exact ((Below.refl _ _).drew).alloc (Nat.le_refl _) _))
    (fail)
  try rw [hwd]
  clear keep hwd p0 p1 p2 p3 p4 c0 s0
  obtain ⟨qg, hq⟩ : ∃ qg, qa = some ⟨qg, 0, none⟩ := by
    cases t with
    | nil => exact absurd rfl htn
    | pair a1 a2 => obtain ⟨g1, x1, y1, hv1, _⟩ := na; simp only [Value.pointer.injEq] at hv1; exact ⟨g1, hv1⟩
  subst hq
  have hpb : (s.pos : Int) + b = (((s.pos : Int) + b).toNat : Int) := by omega
  have hpb2 : (0 : Int) ≤ (s.pos : Int) + b := by omega
  have hpb3 : (s.pos : Int) + b ≤ n := by omega
  have HPB := Lib.hid hpb
  clear hpb
  have df0 := df 0
  clear dr df drf na ht
  have hnI : (n : Int) ≤ 4000 := by omega
  go_wp2
  go_quiet (fail)
  go_wp2
  go_region
  go_wp2
  go_ret
  refine RStepOk.mk' rfl ?_
  have hq1 := below_drewN (Below.refl wd.heap.size wd) nq
  first
  | exact rstep_jfin (HSD.out.kept hq1) (hbT.trans (hq1.mono (by omega))) (kkd.trans (Kept.below hq1)) _ _ HPB.out
  | exact rstep_fin_drew (rstep_jfin (HSD.out.kept hq1) (hbT.trans (hq1.mono (by omega))) (kkd.trans (Kept.below hq1)) _ _ HPB.out)

end Go.Proofs.Ytlaeljkjdfffjaa

namespace Go.Proofs.Ytlaeljkjdfffjaa
open Go.RowKit

theorem register_any (n : Int) (w : World) :
    Calls Try.prog 125 #[.int .i64 n] w fun e w' => e = .returned (.bool (regB n)) ∧ w = w' := by
  unfold regB
  by_cases h : 0 ≤ n
  · rw [decide_eq_true h]
    go_enter Try.func125, Try.ntmps125
    go_wp2
    go_ret
    exact ⟨rfl, rfl⟩
  · rw [decide_eq_false h]
    go_enter Try.func125, Try.ntmps125
    go_wp2
    go_ret
    exact ⟨rfl, rfl⟩

set_option maxHeartbeats 1000000 in
theorem trees_any (v : Value) (l : List Ins) (w : World) (B : Nat) (hl : InsRow w B v l) (hn : l.length ≤ 4000) :
    Calls Try.prog 87 #[v] w fun e w' => e = .returned (.int .i64 (trees l)) ∧ w = w' := by
  obtain ⟨ao, cap, rfl⟩ := hl.len
  obtain ⟨n, hn'⟩ : ∃ n, l.length = n := ⟨_, rfl⟩
  rw [hn'] at hn hl ⊢
  have HN := Lib.hid hn'; clear hn'
  go_enter Try.func87, Try.ntmps87
  go_wp2
  go_loopg [3, 4] n (fun g s i wr => ∃ k m : Nat, k ≤ n ∧ g = n - k ∧ i = .int .i64 k ∧ s = .int .i64 m ∧ m ≤ k * 140737488355328 ∧ Aside (m = trees (l.take k)) ∧ w = wr)
  case atStart => exact ⟨0, 0, Nat.zero_le _, rfl, rfl, rfl, by omega, rfl, rfl⟩
  case round =>
    obtain ⟨k, m, hk, hg, rfl, rfl, hm, hv, rfl⟩ := hrel
    have HG := Lib.hid hg; clear hg
    by_cases hlt : k < n
    · obtain ⟨x, hx⟩ : ∃ s, l[k]? = some s := ⟨_, List.getElem?_eq_getElem (by rw [HN.out]; exact hlt)⟩
      obtain ⟨g, off, rfl, hg, c0, c1, c2, c3, c4⟩ := hl.get hx
      have hz := (hl.wf hx).2.2.2.2
      have HX := Lib.hid hx; clear hx
      have hm2 : (m : Int) ≤ 4000 * 140737488355328 := by omega
      clear c0 c1 c2 c3
      go_wp2
      go_roundg (n - (k + 1))
      case measure => rw [HG.out]; omega
      case rel => exact ⟨k + 1, m + x.tree.size, by omega, rfl, by go_num, by go_num, by omega, (by show _ = _; rw [take_snoc' _ _ _ HX.out, trees_snoc, ← hv.out]), rfl⟩
    · go_wp2
      go_ret
      exact ⟨ret_i (by rw [hv.out, List.take_of_length_le (by rw [HN.out]; omega)]), rfl⟩

/-- A result that is a new program. -/
def ProgOut (w : World) (l : List Ins) (v : Value) (w' : World) : Prop := InsRow w' w'.heap.size v l ∧ Below w.heap.size w w'

set_option maxHeartbeats 1000000 in
theorem twin_any (v : Value) (l : List Ins) (w : World) (hl : InsRow w w.heap.size v l) :
    Calls Try.prog 24 #[v] w fun e w' => ∃ v', e = .returned v' ∧ ProgOut w l v' w' := by
  have hn := hl.2.1
  have hwf := hl.1
  have hs := hl.src
  obtain ⟨n, hn'⟩ : ∃ n, l.length = n := ⟨_, rfl⟩
  rw [hn'] at hn hs
  have HN := Lib.hid hn'; clear hn'
  have HW := Lib.hid hwf; clear hwf
  obtain ⟨ao, cap, rfl⟩ := hl.len
  rw [HN.out] at hl hs ⊢
  have hown : (w.alloc (.cells #[] 41)).ownsRow w.heap.size 41 5 (.slice (some ⟨w.heap.size, 0, none⟩) 0 0) 0 [] := World.ownsRow_lit w #[] 0 (Nat.le_refl _) (by decide) rfl
  have hs2 : Src (w.alloc (.cells #[] 41)) (.slice ao n cap) n 5 (inscells l) := by
    have := (hl.below ((Below.refl _ w).alloc (Nat.le_refl _) (.cells #[] 41))).src
    rwa [HN.out] at this
  have hb : Below w.heap.size w (w.alloc (.cells #[] 41)) := (Below.refl _ _).alloc (Nat.le_refl _) _
  go_enter Try.func24, Try.ntmps24
  go_wp2_with (at_builtin; refine app_src el_ins (vx := .slice ao n cap) rfl _ _ rfl rfl hown rfl hs2 (inscells_one l) ?c2 ?c3 (by simp) hb (Nat.le_refl _) ?_)
  case c2 => omega
  case c3 => unfold maxLen; omega
  intro v' w' hown' hb' hg
  have hrow : InsRow w' w'.heap.size v' l := InsRow.of_own (by simpa using hown') HW.out (by rw [HN.out]; exact hn)
  obtain ⟨a2, c2, rfl⟩ := own_len hown'
  clear hown hs hs2 hb hown' hg
  go_wp2
  refine bodyPost_ret (v := .slice a2 n c2) (by simp [results, Try.results24, go_sem]) rfl ?_
  exact ⟨_, rfl, hrow, hb'⟩

section
variable {P : Program} {d : Nat} {xs ys : Array Value} {f : Field} {fs : List Field} {a b : Value} {r s : Bool} {w : World}
theorem eqf_last (hn : (f.name == "_") = false) (ha : (part f.type xs f.offset).run P w = .ok a w) (hb : (part f.type ys f.offset).run P w = .ok b w) (he : (Op.equalIn d f.type a b).run P w = .ok r w) : (Op.eqFields d xs ys [f]).run P w = .ok r w := by
  have hn' : f.name ≠ "_" := by simpa using hn
  simp only [Op.eqFields, if_pos hn', Sem.run_bind, ha, hb, he, Result.andThen_ok]
  cases r <;> simp
theorem eqf_cons (hn : (f.name == "_") = false) (ha : (part f.type xs f.offset).run P w = .ok a w) (hb : (part f.type ys f.offset).run P w = .ok b w) (he : (Op.equalIn d f.type a b).run P w = .ok r w) (hr : (Op.eqFields d xs ys fs).run P w = .ok s w) : (Op.eqFields d xs ys (f :: fs)).run P w = .ok (r && s) w := by
  have hn' : f.name ≠ "_" := by simpa using hn
  rw [Op.eqFields]
  simp only [if_pos hn', Sem.run_bind, ha, hb, he, Result.andThen_ok]
  cases r
  · simp
  · simpa using hr
end
theorem ins_fields : Try.prog.underlying 41 = some (.struct (Try.prog.fieldsOf 41)) := by kernel_rfl
theorem ins_held : Try.prog.stoodInHeld 41 = false := by kernel_rfl
theorem ins_guard : Try.prog.eqGuardType Try.prog.depth 41 = false := by kernel_rfl
/-- Two instructions, field by field. -/
def insB (xo xa xb xc : Int) (xt : ByteArray) (yo ya yb yc : Int) (yt : ByteArray) : Bool := xo == yo && (xa == ya && (xb == yb && (xc == yc && (xt.toList == yt.toList))))
theorem insB_iff (x y : Ins) : insB x.op x.a x.b x.c x.tree y.op y.a y.b y.c y.tree = true ↔ x = y := by
  obtain ⟨xo, xa, xb, xc, xt⟩ := x
  obtain ⟨yo, ya, yb, yc, yt⟩ := y
  unfold insB
  simp only [Bool.and_eq_true, beq_iff_eq, Ins.mk.injEq, Lib.toList_data]
  constructor
  · rintro ⟨h1, h2, h3, h4, h5⟩; exact ⟨h1, h2, h3, h4, ba_ext h5⟩
  · rintro ⟨h1, h2, h3, h4, h5⟩; exact ⟨h1, h2, h3, h4, by rw [h5]⟩
theorem run_ins_neq (xo xa xb xc : Int) (xt : ByteArray) (yo ya yb yc : Int) (yt : ByteArray) (w : World) :
    (binOp .neq 41 (.agg #[.int .i64 xo, .int .i64 xa, .int .i64 xb, .int .i64 xc, .string xt]) (.agg #[.int .i64 yo, .int .i64 ya, .int .i64 yb, .int .i64 yc, .string yt])).run Try.prog w = .ok (.bool (!insB xo xa xb xc xt yo ya yb yc yt)) w := by
  rw [run_neq_struct, run_equalIn_struct _ _ _ _ _ ins_fields ins_held]
  obtain ⟨f0, f1, f2, f3, f4, hf, n0, n1, n2, n3, n4, o0, o1, o2, o3, o4, t0, t1, t2, t3, t4⟩ : ∃ f0 f1 f2 f3 f4 : Field, (Try.prog.fieldsOf 41).toList = [f0, f1, f2, f3, f4] ∧ (f0.name == "_") = false ∧ (f1.name == "_") = false ∧ (f2.name == "_") = false ∧ (f3.name == "_") = false ∧ (f4.name == "_") = false ∧
      f0.offset = 0 ∧ f1.offset = 1 ∧ f2.offset = 2 ∧ f3.offset = 3 ∧ f4.offset = 4 ∧ f0.type = 3 ∧ f1.type = 3 ∧ f2.type = 3 ∧ f3.type = 3 ∧ f4.type = 9 :=
    ⟨(Try.prog.fieldsOf 41)[0]!, (Try.prog.fieldsOf 41)[1]!, (Try.prog.fieldsOf 41)[2]!, (Try.prog.fieldsOf 41)[3]!, (Try.prog.fieldsOf 41)[4]!, by kernel_rfl, by kernel_rfl, by kernel_rfl, by kernel_rfl, by kernel_rfl, by kernel_rfl, by kernel_rfl, by kernel_rfl, by kernel_rfl, by kernel_rfl, by kernel_rfl, by kernel_rfl, by kernel_rfl, by kernel_rfl, by kernel_rfl, by kernel_rfl⟩
  rw [hf]
  have h := eqf_cons (P := Try.prog) (d := 9999) (w := w) (xs := #[.int .i64 xo, .int .i64 xa, .int .i64 xb, .int .i64 xc, .string xt]) (ys := #[.int .i64 yo, .int .i64 ya, .int .i64 yb, .int .i64 yc, .string yt]) (a := .int .i64 xo) (b := .int .i64 yo) n0 (by rw [t0, o0]; kernel_rfl) (by rw [t0, o0]; kernel_rfl) (by rw [t0]; exact run_equalIn_int w _ _ .i64 .i64 _ _ Try.underlying3)
    (eqf_cons (a := .int .i64 xa) (b := .int .i64 ya) n1 (by rw [t1, o1]; kernel_rfl) (by rw [t1, o1]; kernel_rfl) (by rw [t1]; exact run_equalIn_int w _ _ .i64 .i64 _ _ Try.underlying3)
    (eqf_cons (a := .int .i64 xb) (b := .int .i64 yb) n2 (by rw [t2, o2]; kernel_rfl) (by rw [t2, o2]; kernel_rfl) (by rw [t2]; exact run_equalIn_int w _ _ .i64 .i64 _ _ Try.underlying3)
    (eqf_cons (a := .int .i64 xc) (b := .int .i64 yc) n3 (by rw [t3, o3]; kernel_rfl) (by rw [t3, o3]; kernel_rfl) (by rw [t3]; exact run_equalIn_int w _ _ .i64 .i64 _ _ Try.underlying3)
    (eqf_last (a := .string xt) (b := .string yt) n4 (by rw [t4, o4]; kernel_rfl) (by rw [t4, o4]; kernel_rfl) (by rw [t4]; exact run_equalIn_string w _ _ _ _ Try.underlying9)))))
  rw [h]; rfl

/-- Two programs are equal. -/
def sameP (a b : List Ins) : Bool := decide (a = b)
def insEq (x y : Ins) : Bool := decide (x = y)
set_option maxHeartbeats 2000000 in
theorem sameP_any (v1 v2 : Value) (l1 l2 : List Ins) (w : World) (B : Nat) (hl1 : InsRow w B v1 l1) (hl2 : InsRow w B v2 l2) :
    Calls Try.prog 28 #[v1, v2] w fun e w' => e = .returned (.bool (sameP l1 l2)) ∧ ∃ nq, w' = w.drewN nq := by
  obtain ⟨ao1, cap1, rfl⟩ := hl1.len
  obtain ⟨ao2, cap2, rfl⟩ := hl2.len
  obtain ⟨n1, hn1⟩ : ∃ n, l1.length = n := ⟨_, rfl⟩
  obtain ⟨n2, hn2⟩ : ∃ n, l2.length = n := ⟨_, rfl⟩
  have hb1 := hl1.2.1
  have hb2 := hl2.2.1
  rw [hn1] at hl1 hb1 ⊢
  rw [hn2] at hl2 hb2 ⊢
  have HN1 := Lib.hid hn1; clear hn1
  have HN2 := Lib.hid hn2; clear hn2
  obtain ⟨r, hr⟩ : ∃ r, sameP l1 l2 = r := ⟨_, rfl⟩
  rw [hr]
  have HR := Lib.hid hr; clear hr
  by_cases hne : n1 = n2
  · subst hne
    go_enter Try.func28, Try.ntmps28
    go_wp2
    go_loopg [5] n1 (fun g i wr => ∃ k q : Nat, k ≤ n1 ∧ g = n1 - k ∧ i = .int .i64 k ∧ Aside (l1.take k = l2.take k) ∧ wr = w.drewN q)
    case atStart => exact ⟨0, 0, Nat.zero_le _, rfl, rfl, rfl, rfl⟩
    case round =>
      obtain ⟨k, q, hk, hg, rfl, hv, rfl⟩ := hrel
      have HG := Lib.hid hg; clear hg
      by_cases hlt : k < n1
      · obtain ⟨x, hs⟩ : ∃ s, l1[k]? = some s := ⟨_, List.getElem?_eq_getElem (by rw [HN1.out]; exact hlt)⟩
        obtain ⟨y, hu⟩ : ∃ s, l2[k]? = some s := ⟨_, List.getElem?_eq_getElem (by rw [HN2.out]; exact hlt)⟩
        obtain ⟨g1, off1, rfl, hg1, p0, p1, p2, p3, p4⟩ := hl1.get hs
        obtain ⟨g2, off2, rfl, hg2, q0, q1, q2, q3, q4⟩ := hl2.get hu
        have hi0 : (0 : Int) ≤ (k : Int) := Int.natCast_nonneg _
        have hi1 : (k : Int) < (n1 : Int) := by omega
        have HS := Lib.hid hs; have HU := Lib.hid hu
        clear hs hu
        have hq := fun w => run_ins_neq x.op x.a x.b x.c x.tree y.op y.a y.b y.c y.tree w
        have hgd := ins_guard
        have hiff := Lib.hid (insB_iff x y)
        cases heq : insB x.op x.a x.b x.c x.tree y.op y.a y.b y.c y.tree with
        | true =>
          have hn : Hid (l1.take (k + 1) = l2.take (k + 1)) := by
            show _ = _
            rw [take_snoc' _ _ _ HS.out, take_snoc' _ _ _ HU.out, hv.out, hiff.out.1 heq]
          rw [heq] at hq
          go_wp2
          go_quiet (fail)
          go_wp2
          go_roundg (n1 - (k + 1))
          case measure => rw [HG.out]; omega
          case rel => exact ⟨k + 1, _, by omega, rfl, by go_num, hn, rfl⟩
        | false =>
          have hn : Hid (sameP l1 l2 = false) := by
            refine decide_eq_false fun e => ?_
            subst e
            have := HS.out; rw [HU.out] at this
            simp only [Option.some.injEq] at this; subst this
            rw [hiff.out.2 rfl] at heq; cases heq
          rw [heq] at hq
          go_wp2
          go_quiet (fail)
          go_wp2
          go_ret
          exact ⟨by rw [← HR.out, hn.out]; rfl, q + nq, by rw [World.drewN_drewN]⟩
      · have hn : Hid (sameP l1 l2 = true) := by
          refine decide_eq_true ?_
          have := hv.out
          rwa [List.take_of_length_le (by rw [HN1.out]; omega), List.take_of_length_le (by rw [HN2.out]; omega)] at this
        go_wp2
        go_ret
        exact ⟨by rw [← HR.out, hn.out]; rfl, _, rfl⟩
  · have hb : ((n1 : Int) != (n2 : Int)) = true := by rw [bne_iff_ne]; omega
    have hn : Hid (sameP l1 l2 = false) := decide_eq_false fun e => hne (by rw [← HN1.out, ← HN2.out, e])
    go_enter Try.func28, Try.ntmps28
    go_wp2
    go_ret
    exact ⟨by rw [← HR.out, hn.out]; rfl, 0, rfl⟩

end Go.Proofs.Ytlaeljkjdfffjaa

namespace Go.Proofs.Ytlaeljkjdfffjaa
open Go.RowKit

theorem parse_tr (s : ByteArray) (hs : s.size ≤ 281474976710656) (w : World) :
    Calls Try.prog 150 #[.string s] w fun e w' => ∃ p, e = .returned (.tuple #[.pointer p, .bool (isTree s)]) ∧ Below w.heap.size w w' ∧ NodeP 188 w' (toTr s) (.pointer p) := by
  refine (parse_any s hs w).mono ?_
  rintro e w' ⟨p, he, hb, h1, h2⟩
  refine ⟨p, he, hb, ?_⟩
  cases h : isTree s with
  | true => exact h1 _ (TS_toTr h).symm h
  | false => rw [toTr_bad h, h2 h]; exact rfl

/-- A machine that is being made: some of the trees are read. -/
def MakeP (w : World) (g k : Nat) (l : List Ins) (pv sv : Value) : Prop :=
  w.heap[g]? = some (.cells (mcells pv sv (List.replicate 32 (.pointer none)) 0) 171 (0, 0)) ∧ ∃ xs, Nodes 188 w ((l.take k).map fun x => toTr x.tree) xs ∧ w.ownsRow (g + 1) 167 1 sv k xs
theorem MakeP.kept {w w' : World} {g k : Nat} {l : List Ins} {pv sv : Value} (h : MakeP w g k l pv sv) (hb : Below w.heap.size w w') : MakeP w' g k l pv sv := by
  obtain ⟨h0, xs, h1, h2⟩ := h
  exact ⟨(hb.block g (Array.getElem?_eq_some_iff.1 h0).1).trans h0, xs, h1.kept (Kept.below hb), own_below h2 hb⟩
theorem MakeP.cells {w : World} {g k : Nat} {l : List Ins} {pv sv : Value} (h : MakeP w g k l pv sv) : w.cell? ⟨g, 1, none⟩ = some sv ∧ w.frozen? ⟨g, 1, none⟩ = false ∧ w.cell? ⟨g, 2, none⟩ = some (.pointer none) ∧ w.frozen? ⟨g, 2, none⟩ = false := by
  obtain ⟨hc, hf⟩ := block_cells h.1
  exact ⟨by rw [hc]; rfl, hf _, by rw [hc]; rfl, hf _⟩

set_option maxHeartbeats 4000000 in
theorem newMachine_any (v : Value) (l : List Ins) (t : Tr) (x : Value) (w : World) (hl : InsRow w w.heap.size v l) (hn4 : l.length ≤ 4000) (hx : NodeP 188 w t x) :
    Calls Try.prog 151 #[v, x] w fun e w' => ∃ g sv ps, e = .returned (.pointer (some ⟨g, 0, none⟩)) ∧ MachP w' w.heap.size g l (startS t) v sv ps ∧ Below w.heap.size w w' := by
  obtain ⟨x, rfl⟩ := hx.ptr
  obtain ⟨ao, cap, rfl⟩ := hl.len
  obtain ⟨n, hn'⟩ : ∃ n, l.length = n := ⟨_, rfl⟩
  rw [hn'] at hl hn4 ⊢
  have HN := Lib.hid hn'; clear hn'
  have hb0 : Below w.heap.size w (w.alloc (.cells (mcells (.slice ao n cap) (.slice none 0 0) (List.replicate 32 (.pointer none)) 0) 171)) := (Below.refl _ _).alloc (Nat.le_refl _) _
  have hm0 : MakeP (w.alloc (.cells (mcells (.slice ao n cap) (.slice none 0 0) (List.replicate 32 (.pointer none)) 0) 171)) w.heap.size 0 l (.slice ao n cap) (.slice none 0 0) := ⟨heap_alloc_new w _, [], trivial, World.ownsRow_nil _ _ _ _⟩
  go_enter Try.func151, Try.ntmps151
  go_wp2
  go_loopg [15] n (fun g i wr => ∃ (k : Nat) (sv : Value), k ≤ n ∧ g = n - k ∧ i = .int .i64 k ∧ Aside (MakeP wr w.heap.size k l (.slice ao n cap) sv) ∧ Below w.heap.size w wr)
  case atStart => exact ⟨0, _, Nat.zero_le _, rfl, rfl, hm0, hb0⟩
  case round =>
    clear hb0 hm0
    obtain ⟨k, sv, hk, hg, rfl, hm, hbw⟩ := hrel
    have HG := Lib.hid hg; clear hg
    by_cases hlt : k < n
    · obtain ⟨y, hy⟩ : ∃ s, l[k]? = some s := ⟨_, List.getElem?_eq_getElem (by rw [HN.out]; exact hlt)⟩
      have hl2 := hl.below hbw
      obtain ⟨g, off, rfl, hg, c0, c1, c2, c3, c4⟩ := hl2.get hy
      have hz := (hl.wf hy).2.2.2.2
      have HY := Lib.hid hy; clear hy hl2
      have kp := fun w => parse_tr y.tree (by omega) w
      have hi0 : (0 : Int) ≤ (k : Int) := Int.natCast_nonneg _
      have hi1 : (k : Int) < (n : Int) := by omega
      have hb1 : Below wr.heap.size wr (wr.alloc (.cells #[.int .i64 y.op, .int .i64 y.a, .int .i64 y.b, .int .i64 y.c, .string y.tree] 41)) := (Below.refl _ _).alloc (Nat.le_refl _) _
      go_wp2_with fail
      refine (kp _).mono ?_
      rintro e w1 ⟨p, rfl, k1, hnp⟩
      have hb2 := hb1.trans (k1.mono hb1.size)
      have hm1 := hm.out.kept hb2
      have c1 := hbw.trans (hb2.mono hbw.size)
      have hcl := hm1.cells
      obtain ⟨hblk, xs, hns, hown⟩ := hm1
      obtain ⟨q1, q2, q3, q4⟩ := hcl
      have HB := Lib.hid hblk
      have HNS := Lib.hid hns
      have hGl : w.heap.size < w1.heap.size := (Array.getElem?_eq_some_iff.1 hblk).1
      have hsz1 := c1.size
      have HNP := Lib.hid hnp
      clear k1 hb1 hb2 kp hm hnp hblk hns q3 q4
      go_wp2_with (at_builtin; refine app_new el_node rfl _ _ rfl rfl hown [.pointer p] 1 rfl rfl ?c1 ?c2 ?c3 ?c4 c1 ?c5 ?_)
      case c1 => intro u hu; simp at hu; subst hu; rfl
      case c2 => omega
      case c3 => unfold maxLen; omega
      case c4 => omega
      case c5 => omega
      intro v' w2 hown2 hbw2 hg2
      obtain ⟨a2, cp2, rfl⟩ := own_len hown2
      have hne : some w.heap.size ≠ sv.ownBlock := fun e => by have := (hown.lt w.heap.size (by rw [e])).1; omega
      have hblk2 : w2.heap[w.heap.size]? = some (.cells (mcells _ sv (List.replicate 32 (.pointer none)) 0) 171 (0, 0)) := (hg2.old _ hGl hne).trans HB.out
      have hkn : Kept 188 w1 w2 := Kept.grew hown hg2 (by decide)
      have hf2 := (block_cells hblk2).2 1
      have hc2 : w2.cell? ⟨w.heap.size, 1, none⟩ = some sv := by rw [(block_cells hblk2).1]; rfl
      have hmk : Hid (MakeP (w2.setCell ⟨w.heap.size, 1, none⟩ (.slice a2 (k + 1) cp2)) w.heap.size (k + 1) l (.slice (some ⟨g, off, none⟩) n cap) (.slice a2 (k + 1) cp2)) := by
        refine ⟨set_blk hblk2 1 _, xs ++ [.pointer p], ?_, own_kept hown2 ((Kept.refl _ w2).setCell hblk2 (by decide) _)⟩
        rw [take_snoc' _ _ _ HY.out, List.map_append]
        exact ((HNS.out.kept hkn).snoc (HNP.out.kept hkn)).kept ((Kept.refl _ w2).setCell hblk2 (by decide) _)
      have c2 : Below w.heap.size w (w2.setCell ⟨w.heap.size, 1, none⟩ (.slice a2 (k + 1) cp2)) := hbw2.setCell (p := ⟨w.heap.size, 1, none⟩) (Nat.le_refl _) _
      clear hown hown2 hbw2 hg2 hblk2 hkn HNS HNP HB hne c1
      go_wp2
      go_roundg (n - (k + 1))
      case measure => rw [HG.out]; omega
      case rel => exact ⟨k + 1, _, by omega, rfl, by go_num, hmk, c2⟩
    · have hkn : k = n := by omega
      subst hkn
      obtain ⟨q1, q2, q3, q4⟩ := hm.out.cells
      have hfin : Hid (MachP (wr.setCell ⟨w.heap.size, 2, none⟩ (.pointer x)) w.heap.size w.heap.size l (startS t) (.slice ao k cap) sv (.pointer x :: List.replicate 31 (.pointer none))) := by
        obtain ⟨hblk, xs, hns, hown⟩ := hm.out
        rw [List.take_of_length_le (by rw [HN.out]; exact Nat.le_refl _)] at hns
        have hK := (Kept.refl 188 wr).setCell hblk (by decide) (.pointer x) (a := ⟨w.heap.size, 2, none⟩)
        have hK2 := (Kept.refl 167 wr).setCell hblk (by decide) (.pointer x) (a := ⟨w.heap.size, 2, none⟩)
        refine ⟨?_, ⟨(hx.kept (Kept.below (hbw.mono (Nat.le_refl _)))).kept hK, Nodes.nils 31⟩, hl.below (hbw.setCell (p := ⟨w.heap.size, 2, none⟩) (Nat.le_refl _) _), Nat.le_refl _, xs, hns.kept hK, by rw [HN.out]; exact own_kept hown hK2⟩
        exact set_blk hblk 2 _
      have c2 : Below w.heap.size w (wr.setCell ⟨w.heap.size, 2, none⟩ (.pointer x)) := hbw.setCell (p := ⟨w.heap.size, 2, none⟩) (Nat.le_refl _) _
      clear hl hx
      go_wp2
      go_ret
      exact ⟨_, _, _, rfl, hfin.out, c2⟩

end Go.Proofs.Ytlaeljkjdfffjaa

namespace Go.Proofs.Ytlaeljkjdfffjaa
open Go.RowKit

/-- Every block but one stands. -/
structure Els (g : Nat) (w w' : World) : Prop where
  os : w'.os = w.os
  tape : w'.tape = w.tape
  output : w'.output = w.output
  size : w.heap.size ≤ w'.heap.size
  block : ∀ k, k < w.heap.size → k ≠ g → w'.heap[k]? = w.heap[k]?
theorem Els.refl (g : Nat) (w : World) : Els g w w := ⟨rfl, rfl, rfl, Nat.le_refl _, fun _ _ _ => rfl⟩
theorem Els.of_below {g : Nat} {w w' : World} (h : Below w.heap.size w w') : Els g w w' := ⟨h.os, h.tape, h.output, h.size, fun k hk _ => h.block k hk⟩
theorem Els.trans {g : Nat} {a b c : World} (h : Els g a b) (k : Els g b c) : Els g a c :=
  ⟨k.os.trans h.os, k.tape.trans h.tape, k.output.trans h.output, Nat.le_trans h.size k.size, fun i hi hg => (k.block i (by have := h.size; omega) hg).trans (h.block i hi hg)⟩
theorem Els.set {g : Nat} {w w' : World} (h : Els g w w') (j : Nat) (u : Value) : Els g w (w'.setCell ⟨g, j, none⟩ u) :=
  h.trans ⟨rfl, rfl, rfl, by simp [World.setCell], fun k _ hk => Below.heap_setCell _ _ _ _ (by show k ≠ g; exact hk)⟩
theorem Els.below {g B : Nat} {w w' : World} (h : Els g w w') (hB : B ≤ g) (hs : B ≤ w.heap.size) : Below B w w' := ⟨h.os, h.tape, h.output, h.size, fun k hk => h.block k (by omega) (by omega)⟩

set_option maxHeartbeats 1000000 in
theorem ended_any (w : World) (B g : Nat) (l : List Ins) (s : St) (pv sv : Value) (ps : List Value) (hm : MachP w B g l s pv sv ps) (hg : Good l.length s) :
    Calls Try.prog 129 #[.pointer (some ⟨g, 0, none⟩)] w fun e w' => e = .returned (.bool ((s.pos : Int) == (l.length : Int))) ∧ ∃ nq, w' = w.drewN nq := by
  obtain ⟨ao, cap, rfl⟩ := hm.prog.len
  obtain ⟨c0, c1, c34, _, _⟩ := hm.cells hg.2.1
  obtain ⟨n, hn'⟩ : ∃ n, l.length = n := ⟨_, rfl⟩
  rw [hn'] at c0 ⊢
  clear hm hg hn'
  go_enter Try.func129, Try.ntmps129
  go_wp2
  go_quiet (fail)
  go_wp2
  go_ret
  exact ⟨rfl, _, rfl⟩

/-- A step went well. -/
def StepOk (w : World) (B g : Nat) (l : List Ins) (s' : St) (pv sv : Value) (e : Ending) (w' : World) : Prop :=
  ∃ ps', e = .returned (.bool true) ∧ MachP w' B g l s' pv sv ps' ∧ Els g w w'

theorem step_fin {w wd : World} {B g : Nat} {l : List Ins} {s : St} {pv sv : Value} {ps : List Value} (hm : MachP wd B g l s pv sv ps) (h32 : s.regs.length = 32) (hb : Els g w wd) (ra : Nat) (hra : ra < 32) {t : Tr} {q : Option Addr} (hn : NodeP 188 wd t (.pointer q)) :
    ∃ ps', MachP ((wd.setCell ⟨g, 2 + ra, none⟩ (.pointer q)).setCell ⟨g, 34, none⟩ (.int .i64 ((s.pos : Int) + 1))) B g l ⟨s.pos + 1, s.regs.set ra t⟩ pv sv ps' ∧ Els g w ((wd.setCell ⟨g, 2 + ra, none⟩ (.pointer q)).setCell ⟨g, 34, none⟩ (.int .i64 ((s.pos : Int) + 1))) :=
  ⟨_, (hm.setReg ra (by omega) hn).setPos (by simp [h32]) (s.pos + 1), (hb.set _ _).set _ _⟩
theorem step_fin_drew {w w' : World} {B g : Nat} {l : List Ins} {s' : St} {pv sv : Value} (h : ∃ ps', MachP w' B g l s' pv sv ps' ∧ Els g w w') : ∃ ps', MachP w'.drew B g l s' pv sv ps' ∧ Els g w w'.drew := by
  obtain ⟨ps', h1, h2⟩ := h
  exact ⟨ps', h1.kept (Below.refl _ _).drew, h2.trans (Els.of_below (Below.refl _ _).drew)⟩
theorem StepOk.mk' {w : World} {B g : Nat} {l : List Ins} {s' : St} {pv sv : Value} {e : Ending} {w' : World} (he : e = .returned (.bool true)) (h : ∃ ps', MachP w' B g l s' pv sv ps' ∧ Els g w w') : StepOk w B g l s' pv sv e w' := by
  obtain ⟨ps', h1, h2⟩ := h
  exact ⟨ps', he, h1, h2⟩

set_option maxRecDepth 20000 in
set_option maxHeartbeats 4000000 in
theorem step_set (w : World) (B g : Nat) (l : List Ins) (s : St) (pv sv : Value) (ps : List Value) (hm : MachP w B g l s pv sv ps) (hg : Good l.length s) (hn4 : l.length ≤ 4000) (ra : Nat) (ha : ra < 32) (b c : Int) (tree : ByteArray)
    (hx : l[s.pos]? = some ⟨0, (ra : Nat), b, c, tree⟩) :
    Calls Try.prog 153 #[.pointer (some ⟨g, 0, none⟩)] w (StepOk w B g l ⟨s.pos + 1, s.regs.set ra (toTr tree)⟩ pv sv) := by
  have hp : s.pos < l.length := (List.getElem?_eq_some_iff.1 hx).1
  obtain ⟨ao, cap, rfl⟩ := hm.prog.len
  obtain ⟨c0, c1, c34, hr, hf⟩ := hm.cells hg.2.1
  have hl := hm.prog
  have hlt := hm.lt
  have hle := hm.le
  obtain ⟨xs, hxs, hown⟩ := hm.sets
  obtain ⟨n, hn'⟩ : ∃ n, l.length = n := ⟨_, rfl⟩
  rw [hn'] at hl c0 hp hn4 hown
  obtain ⟨pg, off, rfl, hpg, p0, p1, p2, p3, p4⟩ := hl.get hx
  dsimp only at p0 p1 p2 p3 p4
  have h32 := hg.2.1
  have HX := Lib.hid hx
  have HN := Lib.hid hn'
  have HM := Lib.hid hm
  have hi0 : (0 : Int) ≤ (s.pos : Int) := Int.natCast_nonneg _
  have hi1 : (s.pos : Int) < (n : Int) := by omega
  obtain ⟨wd, hwd⟩ : ∃ wd, (w.alloc (.cells #[.int .i64 (0), .int .i64 (ra : Nat), .int .i64 (b), .int .i64 (c), .string tree] 41)).drew = wd := ⟨_, rfl⟩
  have hbd : Below w.heap.size w wd := by rw [← hwd]; exact ((Below.refl _ _).alloc (Nat.le_refl _) _).drew
  have hbox : wd.heap[w.heap.size]? = some (.cells #[.int .i64 (0), .int .i64 (ra : Nat), .int .i64 (b), .int .i64 (c), .string tree] 41 (0, 0)) := by rw [← hwd]; exact heap_alloc_new w _
  have keep : ∀ w', Below w.heap.size w w' → w'.cell? ⟨g, 0, none⟩ = some (.slice (some ⟨pg, off, none⟩) n cap) ∧ w'.cell? ⟨g, 34, none⟩ = some (.int .i64 s.pos) ∧ w'.cell? ⟨pg, off + s.pos * 5, none⟩ = some (.int .i64 (0)) ∧ w'.cell? ⟨pg, off + s.pos * 5 + 1, none⟩ = some (.int .i64 (ra : Nat)) ∧
      w'.cell? ⟨pg, off + s.pos * 5 + 2, none⟩ = some (.int .i64 (b)) ∧ w'.cell? ⟨pg, off + s.pos * 5 + 3, none⟩ = some (.int .i64 (c)) ∧ w'.cell? ⟨pg, off + s.pos * 5 + 4, none⟩ = some (.string tree) := fun w' hb => by
    refine ⟨(hb.cell (p := ⟨g, 0, none⟩) hlt).trans c0, (hb.cell (p := ⟨g, 34, none⟩) hlt).trans c34, (hb.cell (p := ⟨pg, off + s.pos * 5, none⟩) (by show pg < _; omega)).trans p0, (hb.cell (p := ⟨pg, off + s.pos * 5 + 1, none⟩) (by show pg < _; omega)).trans p1, (hb.cell (p := ⟨pg, off + s.pos * 5 + 2, none⟩) (by show pg < _; omega)).trans p2, (hb.cell (p := ⟨pg, off + s.pos * 5 + 3, none⟩) (by show pg < _; omega)).trans p3, (hb.cell (p := ⟨pg, off + s.pos * 5 + 4, none⟩) (by show pg < _; omega)).trans p4⟩
  have hmd := hm.kept hbd
  obtain ⟨d0, d1, d34, dr, df⟩ := hmd.cells h32
  have e0 := (block_cells hbox).1 0
  have e1 := (block_cells hbox).1 1
  have e2 := (block_cells hbox).1 2
  have e3 := (block_cells hbox).1 3
  simp only [List.getElem?_toArray, List.getElem?_cons_zero, List.getElem?_cons_succ] at e0 e1 e2 e3
  have hbl : w.heap.size < wd.heap.size := (Array.getElem?_eq_some_iff.1 hbox).1
  have HMD := Lib.hid hmd
  clear hmd hbox
  obtain ⟨tra, htra⟩ : ∃ t, s.regs[ra]? = some t := ⟨_, List.getElem?_eq_getElem (by omega)⟩
  obtain ⟨qra, fra, nra⟩ := dr ra tra htra
  have zra := df (2 + ra)
  obtain ⟨v0, hv0, hnv⟩ := hxs.get (j := s.pos) (t := toTr tree) (by rw [List.getElem?_map, hx]; rfl)
  obtain ⟨sp, rfl⟩ := hnv.ptr
  have hnd := hnv.kept (Kept.below hbd)
  have hown' := own_below hown hbd
  obtain ⟨sg, scp, rfl, hsr⟩ := own_cells hown' (by omega)

  clear hm hg hl hx hn' hxs hown hr hle hpg
  go_enter Try.func153, Try.ntmps153
  go_wp2
  go_region_held3 (fun w' => w'.cell? ⟨g, 0, none⟩ = some (.slice (some ⟨pg, off, none⟩) n cap) ∧ w'.cell? ⟨g, 34, none⟩ = some (.int .i64 s.pos) ∧ w'.cell? ⟨pg, off + s.pos * 5, none⟩ = some (.int .i64 (0)) ∧ w'.cell? ⟨pg, off + s.pos * 5 + 1, none⟩ = some (.int .i64 (ra : Nat)) ∧
      w'.cell? ⟨pg, off + s.pos * 5 + 2, none⟩ = some (.int .i64 (b)) ∧ w'.cell? ⟨pg, off + s.pos * 5 + 3, none⟩ = some (.int .i64 (c)) ∧ w'.cell? ⟨pg, off + s.pos * 5 + 4, none⟩ = some (.string tree))
    (exact keep _ (by first | exact hbd | exact (Below.refl _ _).drew | exact ((Below.refl _ _).drew).alloc (Nat.le_refl _) _))
    (fail)
  try rw [hwd]
  clear keep hwd p0 p1 p2 p3 p4 c0 c1 c34
  have hset : wd.cell? ⟨sg, s.pos, none⟩ = some (.pointer sp) := by rw [hsr.2.2.2.2.1 s.pos (by omega), hv0]
  have HND := Lib.hid hnd
  clear hsr dr df hnd nra hnv
  have df34 := (block_cells HMD.out.blk).2 34
  go_wp2
  go_region
  go_wp2
  go_ret
  refine StepOk.mk' rfl ?_
  first
  | exact step_fin_drew (step_fin HMD.out h32 (Els.of_below hbd) ra ha HND.out)
  | exact step_fin (HMD.out.kept (Below.refl _ _).drew) h32 (Els.of_below hbd.drew) ra ha (NodeP.kept (Kept.refl _ _).drew HND.out)

set_option maxRecDepth 20000 in
set_option maxHeartbeats 4000000 in
theorem step_move (w : World) (B g : Nat) (l : List Ins) (s : St) (pv sv : Value) (ps : List Value) (hm : MachP w B g l s pv sv ps) (hg : Good l.length s) (hn4 : l.length ≤ 4000) (ra : Nat) (ha : ra < 32) (rb : Nat) (hb : rb < 32) (t : Tr) (ht : s.regs[rb]? = some t) (c : Int) (tree : ByteArray)
    (hx : l[s.pos]? = some ⟨1, (ra : Nat), (rb : Nat), c, tree⟩) :
    Calls Try.prog 153 #[.pointer (some ⟨g, 0, none⟩)] w (StepOk w B g l ⟨s.pos + 1, s.regs.set ra t⟩ pv sv) := by
  have hp : s.pos < l.length := (List.getElem?_eq_some_iff.1 hx).1
  obtain ⟨ao, cap, rfl⟩ := hm.prog.len
  obtain ⟨c0, c1, c34, hr, hf⟩ := hm.cells hg.2.1
  have hl := hm.prog
  have hlt := hm.lt
  have hle := hm.le
  obtain ⟨xs, hxs, hown⟩ := hm.sets
  obtain ⟨n, hn'⟩ : ∃ n, l.length = n := ⟨_, rfl⟩
  rw [hn'] at hl c0 hp hn4 hown
  obtain ⟨pg, off, rfl, hpg, p0, p1, p2, p3, p4⟩ := hl.get hx
  dsimp only at p0 p1 p2 p3 p4
  have h32 := hg.2.1
  have HX := Lib.hid hx
  have HN := Lib.hid hn'
  have HM := Lib.hid hm
  have hi0 : (0 : Int) ≤ (s.pos : Int) := Int.natCast_nonneg _
  have hi1 : (s.pos : Int) < (n : Int) := by omega
  obtain ⟨wd, hwd⟩ : ∃ wd, (w.alloc (.cells #[.int .i64 (1), .int .i64 (ra : Nat), .int .i64 (rb : Nat), .int .i64 (c), .string tree] 41)).drew = wd := ⟨_, rfl⟩
  have hbd : Below w.heap.size w wd := by rw [← hwd]; exact ((Below.refl _ _).alloc (Nat.le_refl _) _).drew
  have hbox : wd.heap[w.heap.size]? = some (.cells #[.int .i64 (1), .int .i64 (ra : Nat), .int .i64 (rb : Nat), .int .i64 (c), .string tree] 41 (0, 0)) := by rw [← hwd]; exact heap_alloc_new w _
  have keep : ∀ w', Below w.heap.size w w' → w'.cell? ⟨g, 0, none⟩ = some (.slice (some ⟨pg, off, none⟩) n cap) ∧ w'.cell? ⟨g, 34, none⟩ = some (.int .i64 s.pos) ∧ w'.cell? ⟨pg, off + s.pos * 5, none⟩ = some (.int .i64 (1)) ∧ w'.cell? ⟨pg, off + s.pos * 5 + 1, none⟩ = some (.int .i64 (ra : Nat)) ∧
      w'.cell? ⟨pg, off + s.pos * 5 + 2, none⟩ = some (.int .i64 (rb : Nat)) ∧ w'.cell? ⟨pg, off + s.pos * 5 + 3, none⟩ = some (.int .i64 (c)) ∧ w'.cell? ⟨pg, off + s.pos * 5 + 4, none⟩ = some (.string tree) := fun w' hb => by
    refine ⟨(hb.cell (p := ⟨g, 0, none⟩) hlt).trans c0, (hb.cell (p := ⟨g, 34, none⟩) hlt).trans c34, (hb.cell (p := ⟨pg, off + s.pos * 5, none⟩) (by show pg < _; omega)).trans p0, (hb.cell (p := ⟨pg, off + s.pos * 5 + 1, none⟩) (by show pg < _; omega)).trans p1, (hb.cell (p := ⟨pg, off + s.pos * 5 + 2, none⟩) (by show pg < _; omega)).trans p2, (hb.cell (p := ⟨pg, off + s.pos * 5 + 3, none⟩) (by show pg < _; omega)).trans p3, (hb.cell (p := ⟨pg, off + s.pos * 5 + 4, none⟩) (by show pg < _; omega)).trans p4⟩
  have hmd := hm.kept hbd
  obtain ⟨d0, d1, d34, dr, df⟩ := hmd.cells h32
  have e0 := (block_cells hbox).1 0
  have e1 := (block_cells hbox).1 1
  have e2 := (block_cells hbox).1 2
  have e3 := (block_cells hbox).1 3
  simp only [List.getElem?_toArray, List.getElem?_cons_zero, List.getElem?_cons_succ] at e0 e1 e2 e3
  have hbl : w.heap.size < wd.heap.size := (Array.getElem?_eq_some_iff.1 hbox).1
  have HMD := Lib.hid hmd
  clear hmd hbox
  obtain ⟨tra, htra⟩ : ∃ t, s.regs[ra]? = some t := ⟨_, List.getElem?_eq_getElem (by omega)⟩
  obtain ⟨qra, fra, nra⟩ := dr ra tra htra
  have zra := df (2 + ra)
  obtain ⟨qb, fb, nb⟩ := dr rb t ht

  clear hm hg hl hx hn' hxs hown hr hle hpg
  go_enter Try.func153, Try.ntmps153
  go_wp2
  go_region_held3 (fun w' => w'.cell? ⟨g, 0, none⟩ = some (.slice (some ⟨pg, off, none⟩) n cap) ∧ w'.cell? ⟨g, 34, none⟩ = some (.int .i64 s.pos) ∧ w'.cell? ⟨pg, off + s.pos * 5, none⟩ = some (.int .i64 (1)) ∧ w'.cell? ⟨pg, off + s.pos * 5 + 1, none⟩ = some (.int .i64 (ra : Nat)) ∧
      w'.cell? ⟨pg, off + s.pos * 5 + 2, none⟩ = some (.int .i64 (rb : Nat)) ∧ w'.cell? ⟨pg, off + s.pos * 5 + 3, none⟩ = some (.int .i64 (c)) ∧ w'.cell? ⟨pg, off + s.pos * 5 + 4, none⟩ = some (.string tree))
    (exact keep _ (by first | exact hbd | exact (Below.refl _ _).drew | exact ((Below.refl _ _).drew).alloc (Nat.le_refl _) _))
    (fail)
  try rw [hwd]
  clear keep hwd p0 p1 p2 p3 p4 c0 c1 c34
  have HND := Lib.hid nb
  clear dr df nb nra
  have df34 := (block_cells HMD.out.blk).2 34
  go_wp2
  go_region
  go_wp2
  go_ret
  refine StepOk.mk' rfl ?_
  first
  | exact step_fin_drew (step_fin HMD.out h32 (Els.of_below hbd) ra ha HND.out)
  | exact step_fin (HMD.out.kept (Below.refl _ _).drew) h32 (Els.of_below hbd.drew) ra ha (NodeP.kept (Kept.refl _ _).drew HND.out)

set_option maxRecDepth 20000 in
set_option maxHeartbeats 4000000 in
theorem step_head (w : World) (B g : Nat) (l : List Ins) (s : St) (pv sv : Value) (ps : List Value) (hm : MachP w B g l s pv sv ps) (hg : Good l.length s) (hn4 : l.length ≤ 4000) (ra : Nat) (ha : ra < 32) (rb : Nat) (hb : rb < 32) (t : Tr) (ht : s.regs[rb]? = some t) (c : Int) (tree : ByteArray)
    (hx : l[s.pos]? = some ⟨3, (ra : Nat), (rb : Nat), c, tree⟩) :
    Calls Try.prog 153 #[.pointer (some ⟨g, 0, none⟩)] w (StepOk w B g l ⟨s.pos + 1, s.regs.set ra t.hd⟩ pv sv) := by
  have hp : s.pos < l.length := (List.getElem?_eq_some_iff.1 hx).1
  obtain ⟨ao, cap, rfl⟩ := hm.prog.len
  obtain ⟨c0, c1, c34, hr, hf⟩ := hm.cells hg.2.1
  have hl := hm.prog
  have hlt := hm.lt
  have hle := hm.le
  obtain ⟨xs, hxs, hown⟩ := hm.sets
  obtain ⟨n, hn'⟩ : ∃ n, l.length = n := ⟨_, rfl⟩
  rw [hn'] at hl c0 hp hn4 hown
  obtain ⟨pg, off, rfl, hpg, p0, p1, p2, p3, p4⟩ := hl.get hx
  dsimp only at p0 p1 p2 p3 p4
  have h32 := hg.2.1
  have HX := Lib.hid hx
  have HN := Lib.hid hn'
  have HM := Lib.hid hm
  have hi0 : (0 : Int) ≤ (s.pos : Int) := Int.natCast_nonneg _
  have hi1 : (s.pos : Int) < (n : Int) := by omega
  obtain ⟨wd, hwd⟩ : ∃ wd, (w.alloc (.cells #[.int .i64 (3), .int .i64 (ra : Nat), .int .i64 (rb : Nat), .int .i64 (c), .string tree] 41)).drew = wd := ⟨_, rfl⟩
  have hbd : Below w.heap.size w wd := by rw [← hwd]; exact ((Below.refl _ _).alloc (Nat.le_refl _) _).drew
  have hbox : wd.heap[w.heap.size]? = some (.cells #[.int .i64 (3), .int .i64 (ra : Nat), .int .i64 (rb : Nat), .int .i64 (c), .string tree] 41 (0, 0)) := by rw [← hwd]; exact heap_alloc_new w _
  have keep : ∀ w', Below w.heap.size w w' → w'.cell? ⟨g, 0, none⟩ = some (.slice (some ⟨pg, off, none⟩) n cap) ∧ w'.cell? ⟨g, 34, none⟩ = some (.int .i64 s.pos) ∧ w'.cell? ⟨pg, off + s.pos * 5, none⟩ = some (.int .i64 (3)) ∧ w'.cell? ⟨pg, off + s.pos * 5 + 1, none⟩ = some (.int .i64 (ra : Nat)) ∧
      w'.cell? ⟨pg, off + s.pos * 5 + 2, none⟩ = some (.int .i64 (rb : Nat)) ∧ w'.cell? ⟨pg, off + s.pos * 5 + 3, none⟩ = some (.int .i64 (c)) ∧ w'.cell? ⟨pg, off + s.pos * 5 + 4, none⟩ = some (.string tree) := fun w' hb => by
    refine ⟨(hb.cell (p := ⟨g, 0, none⟩) hlt).trans c0, (hb.cell (p := ⟨g, 34, none⟩) hlt).trans c34, (hb.cell (p := ⟨pg, off + s.pos * 5, none⟩) (by show pg < _; omega)).trans p0, (hb.cell (p := ⟨pg, off + s.pos * 5 + 1, none⟩) (by show pg < _; omega)).trans p1, (hb.cell (p := ⟨pg, off + s.pos * 5 + 2, none⟩) (by show pg < _; omega)).trans p2, (hb.cell (p := ⟨pg, off + s.pos * 5 + 3, none⟩) (by show pg < _; omega)).trans p3, (hb.cell (p := ⟨pg, off + s.pos * 5 + 4, none⟩) (by show pg < _; omega)).trans p4⟩
  have hmd := hm.kept hbd
  obtain ⟨d0, d1, d34, dr, df⟩ := hmd.cells h32
  have e0 := (block_cells hbox).1 0
  have e1 := (block_cells hbox).1 1
  have e2 := (block_cells hbox).1 2
  have e3 := (block_cells hbox).1 3
  simp only [List.getElem?_toArray, List.getElem?_cons_zero, List.getElem?_cons_succ] at e0 e1 e2 e3
  have hbl : w.heap.size < wd.heap.size := (Array.getElem?_eq_some_iff.1 hbox).1
  have HMD := Lib.hid hmd
  clear hmd hbox
  obtain ⟨tra, htra⟩ : ∃ t, s.regs[ra]? = some t := ⟨_, List.getElem?_eq_getElem (by omega)⟩
  obtain ⟨qra, fra, nra⟩ := dr ra tra htra
  have zra := df (2 + ra)
  obtain ⟨qb, fb, nb⟩ := dr rb t ht

  clear hm hg hl hx hn' hxs hown hr hle hpg
  go_enter Try.func153, Try.ntmps153
  go_wp2
  go_region_held3 (fun w' => w'.cell? ⟨g, 0, none⟩ = some (.slice (some ⟨pg, off, none⟩) n cap) ∧ w'.cell? ⟨g, 34, none⟩ = some (.int .i64 s.pos) ∧ w'.cell? ⟨pg, off + s.pos * 5, none⟩ = some (.int .i64 (3)) ∧ w'.cell? ⟨pg, off + s.pos * 5 + 1, none⟩ = some (.int .i64 (ra : Nat)) ∧
      w'.cell? ⟨pg, off + s.pos * 5 + 2, none⟩ = some (.int .i64 (rb : Nat)) ∧ w'.cell? ⟨pg, off + s.pos * 5 + 3, none⟩ = some (.int .i64 (c)) ∧ w'.cell? ⟨pg, off + s.pos * 5 + 4, none⟩ = some (.string tree))
    (exact keep _ (by first | exact hbd | exact (Below.refl _ _).drew | exact ((Below.refl _ _).drew).alloc (Nat.le_refl _) _))
    (fail)
  try rw [hwd]
  clear keep hwd p0 p1 p2 p3 p4 c0 c1 c34
  have HND := Lib.hid nb
  have kc : ∀ w', Below wd.heap.size wd w' → Calls Try.prog 163 #[.pointer qb] w' fun e w'' => ∃ x, e = .returned (.pointer x) ∧ NodeP 188 w' t.hd (.pointer x) ∧ w' = w'' := fun w' hb' => nodeHead_any t _ w' (HND.out.kept (Kept.below hb'))
  clear dr df nb nra
  have df34 := (block_cells HMD.out.blk).2 34
  go_wp2
  go_region_with (refine (kc _ (by first | exact Below.refl _ _ | exact (Below.refl _ _).drew)).mono ?_; rintro e w2 ⟨xq, rfl, hnx, rfl⟩)
  all_goals
    go_wp2
    go_ret
    refine StepOk.mk' rfl ?_
    first
    | exact step_fin_drew (step_fin HMD.out h32 (Els.of_below hbd) ra ha hnx)
    | exact step_fin (HMD.out.kept (Below.refl _ _).drew) h32 (Els.of_below hbd.drew) ra ha hnx

set_option maxRecDepth 20000 in
set_option maxHeartbeats 4000000 in
theorem step_tail (w : World) (B g : Nat) (l : List Ins) (s : St) (pv sv : Value) (ps : List Value) (hm : MachP w B g l s pv sv ps) (hg : Good l.length s) (hn4 : l.length ≤ 4000) (ra : Nat) (ha : ra < 32) (rb : Nat) (hb : rb < 32) (t : Tr) (ht : s.regs[rb]? = some t) (c : Int) (tree : ByteArray)
    (hx : l[s.pos]? = some ⟨4, (ra : Nat), (rb : Nat), c, tree⟩) :
    Calls Try.prog 153 #[.pointer (some ⟨g, 0, none⟩)] w (StepOk w B g l ⟨s.pos + 1, s.regs.set ra t.tl⟩ pv sv) := by
  have hp : s.pos < l.length := (List.getElem?_eq_some_iff.1 hx).1
  obtain ⟨ao, cap, rfl⟩ := hm.prog.len
  obtain ⟨c0, c1, c34, hr, hf⟩ := hm.cells hg.2.1
  have hl := hm.prog
  have hlt := hm.lt
  have hle := hm.le
  obtain ⟨xs, hxs, hown⟩ := hm.sets
  obtain ⟨n, hn'⟩ : ∃ n, l.length = n := ⟨_, rfl⟩
  rw [hn'] at hl c0 hp hn4 hown
  obtain ⟨pg, off, rfl, hpg, p0, p1, p2, p3, p4⟩ := hl.get hx
  dsimp only at p0 p1 p2 p3 p4
  have h32 := hg.2.1
  have HX := Lib.hid hx
  have HN := Lib.hid hn'
  have HM := Lib.hid hm
  have hi0 : (0 : Int) ≤ (s.pos : Int) := Int.natCast_nonneg _
  have hi1 : (s.pos : Int) < (n : Int) := by omega
  obtain ⟨wd, hwd⟩ : ∃ wd, (w.alloc (.cells #[.int .i64 (4), .int .i64 (ra : Nat), .int .i64 (rb : Nat), .int .i64 (c), .string tree] 41)).drew = wd := ⟨_, rfl⟩
  have hbd : Below w.heap.size w wd := by rw [← hwd]; exact ((Below.refl _ _).alloc (Nat.le_refl _) _).drew
  have hbox : wd.heap[w.heap.size]? = some (.cells #[.int .i64 (4), .int .i64 (ra : Nat), .int .i64 (rb : Nat), .int .i64 (c), .string tree] 41 (0, 0)) := by rw [← hwd]; exact heap_alloc_new w _
  have keep : ∀ w', Below w.heap.size w w' → w'.cell? ⟨g, 0, none⟩ = some (.slice (some ⟨pg, off, none⟩) n cap) ∧ w'.cell? ⟨g, 34, none⟩ = some (.int .i64 s.pos) ∧ w'.cell? ⟨pg, off + s.pos * 5, none⟩ = some (.int .i64 (4)) ∧ w'.cell? ⟨pg, off + s.pos * 5 + 1, none⟩ = some (.int .i64 (ra : Nat)) ∧
      w'.cell? ⟨pg, off + s.pos * 5 + 2, none⟩ = some (.int .i64 (rb : Nat)) ∧ w'.cell? ⟨pg, off + s.pos * 5 + 3, none⟩ = some (.int .i64 (c)) ∧ w'.cell? ⟨pg, off + s.pos * 5 + 4, none⟩ = some (.string tree) := fun w' hb => by
    refine ⟨(hb.cell (p := ⟨g, 0, none⟩) hlt).trans c0, (hb.cell (p := ⟨g, 34, none⟩) hlt).trans c34, (hb.cell (p := ⟨pg, off + s.pos * 5, none⟩) (by show pg < _; omega)).trans p0, (hb.cell (p := ⟨pg, off + s.pos * 5 + 1, none⟩) (by show pg < _; omega)).trans p1, (hb.cell (p := ⟨pg, off + s.pos * 5 + 2, none⟩) (by show pg < _; omega)).trans p2, (hb.cell (p := ⟨pg, off + s.pos * 5 + 3, none⟩) (by show pg < _; omega)).trans p3, (hb.cell (p := ⟨pg, off + s.pos * 5 + 4, none⟩) (by show pg < _; omega)).trans p4⟩
  have hmd := hm.kept hbd
  obtain ⟨d0, d1, d34, dr, df⟩ := hmd.cells h32
  have e0 := (block_cells hbox).1 0
  have e1 := (block_cells hbox).1 1
  have e2 := (block_cells hbox).1 2
  have e3 := (block_cells hbox).1 3
  simp only [List.getElem?_toArray, List.getElem?_cons_zero, List.getElem?_cons_succ] at e0 e1 e2 e3
  have hbl : w.heap.size < wd.heap.size := (Array.getElem?_eq_some_iff.1 hbox).1
  have HMD := Lib.hid hmd
  clear hmd hbox
  obtain ⟨tra, htra⟩ : ∃ t, s.regs[ra]? = some t := ⟨_, List.getElem?_eq_getElem (by omega)⟩
  obtain ⟨qra, fra, nra⟩ := dr ra tra htra
  have zra := df (2 + ra)
  obtain ⟨qb, fb, nb⟩ := dr rb t ht

  clear hm hg hl hx hn' hxs hown hr hle hpg
  go_enter Try.func153, Try.ntmps153
  go_wp2
  go_region_held3 (fun w' => w'.cell? ⟨g, 0, none⟩ = some (.slice (some ⟨pg, off, none⟩) n cap) ∧ w'.cell? ⟨g, 34, none⟩ = some (.int .i64 s.pos) ∧ w'.cell? ⟨pg, off + s.pos * 5, none⟩ = some (.int .i64 (4)) ∧ w'.cell? ⟨pg, off + s.pos * 5 + 1, none⟩ = some (.int .i64 (ra : Nat)) ∧
      w'.cell? ⟨pg, off + s.pos * 5 + 2, none⟩ = some (.int .i64 (rb : Nat)) ∧ w'.cell? ⟨pg, off + s.pos * 5 + 3, none⟩ = some (.int .i64 (c)) ∧ w'.cell? ⟨pg, off + s.pos * 5 + 4, none⟩ = some (.string tree))
    (exact keep _ (by first | exact hbd | exact (Below.refl _ _).drew | exact ((Below.refl _ _).drew).alloc (Nat.le_refl _) _))
    (fail)
  try rw [hwd]
  clear keep hwd p0 p1 p2 p3 p4 c0 c1 c34
  have HND := Lib.hid nb
  have kc : ∀ w', Below wd.heap.size wd w' → Calls Try.prog 164 #[.pointer qb] w' fun e w'' => ∃ x, e = .returned (.pointer x) ∧ NodeP 188 w' t.tl (.pointer x) ∧ w' = w'' := fun w' hb' => nodeTail_any t _ w' (HND.out.kept (Kept.below hb'))
  clear dr df nb nra
  have df34 := (block_cells HMD.out.blk).2 34
  go_wp2
  go_region_with (refine (kc _ (by first | exact Below.refl _ _ | exact (Below.refl _ _).drew)).mono ?_; rintro e w2 ⟨xq, rfl, hnx, rfl⟩)
  all_goals
    go_wp2
    go_ret
    refine StepOk.mk' rfl ?_
    first
    | exact step_fin_drew (step_fin HMD.out h32 (Els.of_below hbd) ra ha hnx)
    | exact step_fin (HMD.out.kept (Below.refl _ _).drew) h32 (Els.of_below hbd.drew) ra ha hnx

end Go.Proofs.Ytlaeljkjdfffjaa

namespace Go.Proofs.Ytlaeljkjdfffjaa
open Go.RowKit

set_option maxRecDepth 20000 in
set_option maxHeartbeats 4000000 in
theorem step_cons_ok (w : World) (B g : Nat) (l : List Ins) (s : St) (pv sv : Value) (ps : List Value) (hm : MachP w B g l s pv sv ps) (hg : Good l.length s) (hn4 : l.length ≤ 4000) (ra : Nat) (ha : ra < 32) (rb : Nat) (hb : rb < 32) (rc : Nat) (hc : rc < 32) (t : Tr) (ht : s.regs[rb]? = some t) (u : Tr) (hu : s.regs[rc]? = some u) (tree : ByteArray) (hsz : (Tr.pair t u).size ≤ 2000000)
    (hx : l[s.pos]? = some ⟨2, (ra : Nat), (rb : Nat), (rc : Nat), tree⟩) :
    Calls Try.prog 153 #[.pointer (some ⟨g, 0, none⟩)] w (StepOk w B g l ⟨s.pos + 1, s.regs.set ra (.pair t u)⟩ pv sv) := by
  have hp : s.pos < l.length := (List.getElem?_eq_some_iff.1 hx).1
  obtain ⟨ao, cap, rfl⟩ := hm.prog.len
  obtain ⟨c0, c1, c34, hr, hf⟩ := hm.cells hg.2.1
  have hl := hm.prog
  have hlt := hm.lt
  have hle := hm.le
  obtain ⟨xs, hxs, hown⟩ := hm.sets
  obtain ⟨n, hn'⟩ : ∃ n, l.length = n := ⟨_, rfl⟩
  rw [hn'] at hl c0 hp hn4 hown
  obtain ⟨pg, off, rfl, hpg, p0, p1, p2, p3, p4⟩ := hl.get hx
  dsimp only at p0 p1 p2 p3 p4
  have h32 := hg.2.1
  have HX := Lib.hid hx
  have HN := Lib.hid hn'
  have HM := Lib.hid hm
  have hi0 : (0 : Int) ≤ (s.pos : Int) := Int.natCast_nonneg _
  have hi1 : (s.pos : Int) < (n : Int) := by omega
  obtain ⟨wd, hwd⟩ : ∃ wd, (w.alloc (.cells #[.int .i64 (2), .int .i64 (ra : Nat), .int .i64 (rb : Nat), .int .i64 (rc : Nat), .string tree] 41)).drew = wd := ⟨_, rfl⟩
  have hbd : Below w.heap.size w wd := by rw [← hwd]; exact ((Below.refl _ _).alloc (Nat.le_refl _) _).drew
  have hbox : wd.heap[w.heap.size]? = some (.cells #[.int .i64 (2), .int .i64 (ra : Nat), .int .i64 (rb : Nat), .int .i64 (rc : Nat), .string tree] 41 (0, 0)) := by rw [← hwd]; exact heap_alloc_new w _
  have keep : ∀ w', Below w.heap.size w w' → w'.cell? ⟨g, 0, none⟩ = some (.slice (some ⟨pg, off, none⟩) n cap) ∧ w'.cell? ⟨g, 34, none⟩ = some (.int .i64 s.pos) ∧ w'.cell? ⟨pg, off + s.pos * 5, none⟩ = some (.int .i64 (2)) ∧ w'.cell? ⟨pg, off + s.pos * 5 + 1, none⟩ = some (.int .i64 (ra : Nat)) ∧
      w'.cell? ⟨pg, off + s.pos * 5 + 2, none⟩ = some (.int .i64 (rb : Nat)) ∧ w'.cell? ⟨pg, off + s.pos * 5 + 3, none⟩ = some (.int .i64 (rc : Nat)) ∧ w'.cell? ⟨pg, off + s.pos * 5 + 4, none⟩ = some (.string tree) := fun w' hb => by
    refine ⟨(hb.cell (p := ⟨g, 0, none⟩) hlt).trans c0, (hb.cell (p := ⟨g, 34, none⟩) hlt).trans c34, (hb.cell (p := ⟨pg, off + s.pos * 5, none⟩) (by show pg < _; omega)).trans p0, (hb.cell (p := ⟨pg, off + s.pos * 5 + 1, none⟩) (by show pg < _; omega)).trans p1, (hb.cell (p := ⟨pg, off + s.pos * 5 + 2, none⟩) (by show pg < _; omega)).trans p2, (hb.cell (p := ⟨pg, off + s.pos * 5 + 3, none⟩) (by show pg < _; omega)).trans p3, (hb.cell (p := ⟨pg, off + s.pos * 5 + 4, none⟩) (by show pg < _; omega)).trans p4⟩
  have hmd := hm.kept hbd
  obtain ⟨d0, d1, d34, dr, df⟩ := hmd.cells h32
  have e0 := (block_cells hbox).1 0
  have e1 := (block_cells hbox).1 1
  have e2 := (block_cells hbox).1 2
  have e3 := (block_cells hbox).1 3
  simp only [List.getElem?_toArray, List.getElem?_cons_zero, List.getElem?_cons_succ] at e0 e1 e2 e3
  have hbl : w.heap.size < wd.heap.size := (Array.getElem?_eq_some_iff.1 hbox).1
  have HMD := Lib.hid hmd
  clear hmd hbox
  have ib0 : (0 : Int) ≤ (rb : Int) := Int.natCast_nonneg _
  have ib1 : (rb : Int) < 32 := by omega
  have ic0 : (0 : Int) ≤ (rc : Int) := Int.natCast_nonneg _
  have ic1 : (rc : Int) < 32 := by omega
  obtain ⟨qb, fb, nb⟩ := dr rb t ht
  obtain ⟨qc, fc, nc⟩ := dr rc u hu
  have h1 := Lib.hid (hg.2.2 _ (List.mem_of_getElem? ht))
  have h2 := Lib.hid (hg.2.2 _ (List.mem_of_getElem? hu))

  clear hm hg hl hx hn' hxs hown hr hle hpg
  go_enter Try.func153, Try.ntmps153
  go_wp2
  go_region_held3 (fun w' => w'.cell? ⟨g, 0, none⟩ = some (.slice (some ⟨pg, off, none⟩) n cap) ∧ w'.cell? ⟨g, 34, none⟩ = some (.int .i64 s.pos) ∧ w'.cell? ⟨pg, off + s.pos * 5, none⟩ = some (.int .i64 (2)) ∧ w'.cell? ⟨pg, off + s.pos * 5 + 1, none⟩ = some (.int .i64 (ra : Nat)) ∧
      w'.cell? ⟨pg, off + s.pos * 5 + 2, none⟩ = some (.int .i64 (rb : Nat)) ∧ w'.cell? ⟨pg, off + s.pos * 5 + 3, none⟩ = some (.int .i64 (rc : Nat)) ∧ w'.cell? ⟨pg, off + s.pos * 5 + 4, none⟩ = some (.string tree))
    (exact keep _ (by first | exact hbd | exact (Below.refl _ _).drew | exact ((Below.refl _ _).drew).alloc (Nat.le_refl _) _))
    (fail)
  try rw [hwd]
  clear keep hwd p0 p1 p2 p3 p4 c0 c1 c34
  have HNB := Lib.hid nb
  have HNC := Lib.hid nc
  have kc : ∀ w', Below wd.heap.size wd w' → Calls Try.prog 162 #[.pointer qb, .pointer qc] w' fun e w'' => ∃ p, e = .returned (.tuple #[.pointer p, .bool true]) ∧ NodeP 188 w'' (.pair t u) (.pointer p) ∧ Below wd.heap.size wd w'' := fun w' hb' => by
    refine (nodeCons_ok t u _ _ w' (HNB.out.kept (Kept.below hb')) (HNC.out.kept (Kept.below hb')) hsz).mono ?_
    rintro e w'' ⟨p, he, hp, hb2⟩
    exact ⟨p, he, hp, hb'.trans (hb2.mono hb'.size)⟩
  have keep2 : ∀ w', Below wd.heap.size wd w' → w'.cell? ⟨w.heap.size, 2, none⟩ = some (.int .i64 (rb : Nat)) ∧ w'.cell? ⟨w.heap.size, 3, none⟩ = some (.int .i64 (rc : Nat)) ∧ w'.cell? ⟨g, 2 + rb, none⟩ = some (.pointer qb) ∧ w'.cell? ⟨g, 2 + rc, none⟩ = some (.pointer qc) := fun w' hb' =>
    ⟨(hb'.cell (p := ⟨w.heap.size, 2, none⟩) hbl).trans e2, (hb'.cell (p := ⟨w.heap.size, 3, none⟩) hbl).trans e3, (hb'.cell (p := ⟨g, 2 + rb, none⟩) (by show g < _; omega)).trans fb, (hb'.cell (p := ⟨g, 2 + rc, none⟩) (by show g < _; omega)).trans fc⟩
  clear dr df nb nc hsz
  go_wp2
  go_region_held3 (fun w' => w'.cell? ⟨w.heap.size, 2, none⟩ = some (.int .i64 (rb : Nat)) ∧ w'.cell? ⟨w.heap.size, 3, none⟩ = some (.int .i64 (rc : Nat)) ∧ w'.cell? ⟨g, 2 + rb, none⟩ = some (.pointer qb) ∧ w'.cell? ⟨g, 2 + rc, none⟩ = some (.pointer qc))
    (exact keep2 _ (by first | exact (Below.refl _ _) | exact (Below.refl _ _).drew | exact hb2 | exact hb2.drew))
    ((refine (kc _ (by first | exact Below.refl _ _ | exact (Below.refl _ _).drew)).mono ?_; rintro e w2 ⟨xq, rfl, hnx, hb2⟩))
  all_goals
    have hmd2 := HMD.out.kept hb2
    obtain ⟨_, _, k34, kr, kf⟩ := hmd2.cells h32
    obtain ⟨ta, hta⟩ : ∃ t, s.regs[ra]? = some t := ⟨_, List.getElem?_eq_getElem (by omega)⟩
    obtain ⟨qa, fa, na⟩ := kr ra ta hta
    have za := kf (2 + ra)
    have k34f := kf 34
    have ia0 : (0 : Int) ≤ (ra : Int) := Int.natCast_nonneg _
    have ia1 : (ra : Int) < 32 := by omega
    have b1 := (hb2.cell (p := ⟨w.heap.size, 1, none⟩) hbl).trans e1
    have HM2 := Lib.hid hmd2
    have HNX := Lib.hid hnx
    have hbe := hbd.trans (hb2.mono hbd.size)
    clear kr kf hmd2 keep2 kc e0 e1 e2 e3 d0 d1 d34 hnx na hta hb2
    try clear fb fc
    go_wp2
    go_region
    go_wp2
    go_ret
    refine StepOk.mk' rfl ?_
    first
    | exact step_fin_drew (step_fin HM2.out h32 (Els.of_below hbe) ra ha HNX.out)
    | exact step_fin (HM2.out.kept (Below.refl _ _).drew) h32 (Els.of_below hbe.drew) ra ha (HNX.out.kept (Kept.refl _ _).drew)

set_option maxRecDepth 20000 in
set_option maxHeartbeats 4000000 in
theorem step_cons_big (w : World) (B g : Nat) (l : List Ins) (s : St) (pv sv : Value) (ps : List Value) (hm : MachP w B g l s pv sv ps) (hg : Good l.length s) (_hn4 : l.length ≤ 4000) (ra : Nat) (_ha : ra < 32) (rb : Nat) (hb : rb < 32) (rc : Nat) (hc : rc < 32) (t : Tr) (ht : s.regs[rb]? = some t) (u : Tr) (hu : s.regs[rc]? = some u) (tree : ByteArray) (hsz : 2000000 < (Tr.pair t u).size)
    (hx : l[s.pos]? = some ⟨2, (ra : Nat), (rb : Nat), (rc : Nat), tree⟩) :
    Calls Try.prog 153 #[.pointer (some ⟨g, 0, none⟩)] w (fun e w' => e = .returned (.bool false) ∧ MachP w' B g l s pv sv ps ∧ Els g w w') := by
  have hp : s.pos < l.length := (List.getElem?_eq_some_iff.1 hx).1
  obtain ⟨ao, cap, rfl⟩ := hm.prog.len
  obtain ⟨c0, c1, c34, hr, hf⟩ := hm.cells hg.2.1
  have hl := hm.prog
  have hlt := hm.lt
  have hle := hm.le
  obtain ⟨xs, hxs, hown⟩ := hm.sets
  obtain ⟨n, hn'⟩ : ∃ n, l.length = n := ⟨_, rfl⟩
  rw [hn'] at hl c0 hp _hn4 hown
  obtain ⟨pg, off, rfl, hpg, p0, p1, p2, p3, p4⟩ := hl.get hx
  dsimp only at p0 p1 p2 p3 p4
  have h32 := hg.2.1
  have HX := Lib.hid hx
  have HN := Lib.hid hn'
  have HM := Lib.hid hm
  have hi0 : (0 : Int) ≤ (s.pos : Int) := Int.natCast_nonneg _
  have hi1 : (s.pos : Int) < (n : Int) := by omega
  obtain ⟨wd, hwd⟩ : ∃ wd, (w.alloc (.cells #[.int .i64 (2), .int .i64 (ra : Nat), .int .i64 (rb : Nat), .int .i64 (rc : Nat), .string tree] 41)).drew = wd := ⟨_, rfl⟩
  have hbd : Below w.heap.size w wd := by rw [← hwd]; exact ((Below.refl _ _).alloc (Nat.le_refl _) _).drew
  have hbox : wd.heap[w.heap.size]? = some (.cells #[.int .i64 (2), .int .i64 (ra : Nat), .int .i64 (rb : Nat), .int .i64 (rc : Nat), .string tree] 41 (0, 0)) := by rw [← hwd]; exact heap_alloc_new w _
  have keep : ∀ w', Below w.heap.size w w' → w'.cell? ⟨g, 0, none⟩ = some (.slice (some ⟨pg, off, none⟩) n cap) ∧ w'.cell? ⟨g, 34, none⟩ = some (.int .i64 s.pos) ∧ w'.cell? ⟨pg, off + s.pos * 5, none⟩ = some (.int .i64 (2)) ∧ w'.cell? ⟨pg, off + s.pos * 5 + 1, none⟩ = some (.int .i64 (ra : Nat)) ∧
      w'.cell? ⟨pg, off + s.pos * 5 + 2, none⟩ = some (.int .i64 (rb : Nat)) ∧ w'.cell? ⟨pg, off + s.pos * 5 + 3, none⟩ = some (.int .i64 (rc : Nat)) ∧ w'.cell? ⟨pg, off + s.pos * 5 + 4, none⟩ = some (.string tree) := fun w' hb => by
    refine ⟨(hb.cell (p := ⟨g, 0, none⟩) hlt).trans c0, (hb.cell (p := ⟨g, 34, none⟩) hlt).trans c34, (hb.cell (p := ⟨pg, off + s.pos * 5, none⟩) (by show pg < _; omega)).trans p0, (hb.cell (p := ⟨pg, off + s.pos * 5 + 1, none⟩) (by show pg < _; omega)).trans p1, (hb.cell (p := ⟨pg, off + s.pos * 5 + 2, none⟩) (by show pg < _; omega)).trans p2, (hb.cell (p := ⟨pg, off + s.pos * 5 + 3, none⟩) (by show pg < _; omega)).trans p3, (hb.cell (p := ⟨pg, off + s.pos * 5 + 4, none⟩) (by show pg < _; omega)).trans p4⟩
  have hmd := hm.kept hbd
  obtain ⟨d0, d1, d34, dr, df⟩ := hmd.cells h32
  have e0 := (block_cells hbox).1 0
  have e1 := (block_cells hbox).1 1
  have e2 := (block_cells hbox).1 2
  have e3 := (block_cells hbox).1 3
  simp only [List.getElem?_toArray, List.getElem?_cons_zero, List.getElem?_cons_succ] at e0 e1 e2 e3
  have hbl : w.heap.size < wd.heap.size := (Array.getElem?_eq_some_iff.1 hbox).1
  have HMD := Lib.hid hmd
  clear hmd hbox
  have ib0 : (0 : Int) ≤ (rb : Int) := Int.natCast_nonneg _
  have ib1 : (rb : Int) < 32 := by omega
  have ic0 : (0 : Int) ≤ (rc : Int) := Int.natCast_nonneg _
  have ic1 : (rc : Int) < 32 := by omega
  obtain ⟨qb, fb, nb⟩ := dr rb t ht
  obtain ⟨qc, fc, nc⟩ := dr rc u hu
  have h1 := Lib.hid (hg.2.2 _ (List.mem_of_getElem? ht))
  have h2 := Lib.hid (hg.2.2 _ (List.mem_of_getElem? hu))

  clear hm hg hl hx hn' hxs hown hr hle hpg
  go_enter Try.func153, Try.ntmps153
  go_wp2
  go_region_held3 (fun w' => w'.cell? ⟨g, 0, none⟩ = some (.slice (some ⟨pg, off, none⟩) n cap) ∧ w'.cell? ⟨g, 34, none⟩ = some (.int .i64 s.pos) ∧ w'.cell? ⟨pg, off + s.pos * 5, none⟩ = some (.int .i64 (2)) ∧ w'.cell? ⟨pg, off + s.pos * 5 + 1, none⟩ = some (.int .i64 (ra : Nat)) ∧
      w'.cell? ⟨pg, off + s.pos * 5 + 2, none⟩ = some (.int .i64 (rb : Nat)) ∧ w'.cell? ⟨pg, off + s.pos * 5 + 3, none⟩ = some (.int .i64 (rc : Nat)) ∧ w'.cell? ⟨pg, off + s.pos * 5 + 4, none⟩ = some (.string tree))
    (exact keep _ (by first | exact hbd | exact (Below.refl _ _).drew | exact ((Below.refl _ _).drew).alloc (Nat.le_refl _) _))
    (fail)
  try rw [hwd]
  clear keep hwd p0 p1 p2 p3 p4 c0 c1 c34
  have HNB := Lib.hid nb
  have HNC := Lib.hid nc
  have kc : ∀ w', Below wd.heap.size wd w' → Calls Try.prog 162 #[.pointer qb, .pointer qc] w' fun e w'' => e = .returned (.tuple #[.pointer none, .bool false]) ∧ w' = w'' := fun w' hb' =>
    nodeCons_big t u _ _ w' (HNB.out.kept (Kept.below hb')) (HNC.out.kept (Kept.below hb')) h1.out h2.out hsz
  have keep2 : ∀ w', Below wd.heap.size wd w' → w'.cell? ⟨w.heap.size, 2, none⟩ = some (.int .i64 (rb : Nat)) ∧ w'.cell? ⟨w.heap.size, 3, none⟩ = some (.int .i64 (rc : Nat)) ∧ w'.cell? ⟨g, 2 + rb, none⟩ = some (.pointer qb) ∧ w'.cell? ⟨g, 2 + rc, none⟩ = some (.pointer qc) := fun w' hb' =>
    ⟨(hb'.cell (p := ⟨w.heap.size, 2, none⟩) hbl).trans e2, (hb'.cell (p := ⟨w.heap.size, 3, none⟩) hbl).trans e3, (hb'.cell (p := ⟨g, 2 + rb, none⟩) (by show g < _; omega)).trans fb, (hb'.cell (p := ⟨g, 2 + rc, none⟩) (by show g < _; omega)).trans fc⟩
  clear dr df nb nc hsz
  go_wp2
  go_region_held3 (fun w' => w'.cell? ⟨w.heap.size, 2, none⟩ = some (.int .i64 (rb : Nat)) ∧ w'.cell? ⟨w.heap.size, 3, none⟩ = some (.int .i64 (rc : Nat)) ∧ w'.cell? ⟨g, 2 + rb, none⟩ = some (.pointer qb) ∧ w'.cell? ⟨g, 2 + rc, none⟩ = some (.pointer qc))
    (exact keep2 _ (by first | exact (Below.refl _ _) | exact (Below.refl _ _).drew))
    ((refine (kc _ (by first | exact Below.refl _ _ | exact (Below.refl _ _).drew)).mono ?_; rintro e w2 ⟨rfl, rfl⟩))
  all_goals
    go_wp2
    go_ret
    exact ⟨rfl, HMD.out.kept (Below.refl _ _).drew, Els.of_below hbd.drew⟩

end Go.Proofs.Ytlaeljkjdfffjaa

namespace Go.Proofs.Ytlaeljkjdfffjaa
open Go.RowKit

theorem step_jfin {w wd : World} {B g : Nat} {l : List Ins} {s : St} {pv sv : Value} {ps : List Value} (hm : MachP wd B g l s pv sv ps) (h32 : s.regs.length = 32) (hb : Els g w wd) (z : Int) (p : Nat) (hz : z = p) :
    ∃ ps', MachP (wd.setCell ⟨g, 34, none⟩ (.int .i64 z)) B g l ⟨p, s.regs⟩ pv sv ps' ∧ Els g w (wd.setCell ⟨g, 34, none⟩ (.int .i64 z)) := by
  subst hz
  exact ⟨_, hm.setPos h32 p, hb.set _ _⟩

set_option maxRecDepth 20000 in
set_option maxHeartbeats 4000000 in
theorem step_jump_no (w : World) (B g : Nat) (l : List Ins) (s : St) (pv sv : Value) (ps : List Value) (hm : MachP w B g l s pv sv ps) (hg : Good l.length s) (hn4 : l.length ≤ 4000) (ra : Nat) (ha : ra < 32) (t : Tr) (ht : s.regs[ra]? = some t) (htn : t = .nil) (b c : Int) (tree : ByteArray) (_hb1 : -(s.pos : Int) ≤ b) (_hb2 : b ≤ (l.length : Int) - s.pos)
    (hx : l[s.pos]? = some ⟨5, (ra : Nat), b, c, tree⟩) :
    Calls Try.prog 153 #[.pointer (some ⟨g, 0, none⟩)] w (StepOk w B g l ⟨s.pos + 1, s.regs⟩ pv sv) := by
  have hp : s.pos < l.length := (List.getElem?_eq_some_iff.1 hx).1
  obtain ⟨ao, cap, rfl⟩ := hm.prog.len
  obtain ⟨c0, c1, c34, hr, hf⟩ := hm.cells hg.2.1
  have hl := hm.prog
  have hlt := hm.lt
  have hle := hm.le
  obtain ⟨xs, hxs, hown⟩ := hm.sets
  obtain ⟨n, hn'⟩ : ∃ n, l.length = n := ⟨_, rfl⟩
  rw [hn'] at hl c0 hp hn4 hown
  obtain ⟨pg, off, rfl, hpg, p0, p1, p2, p3, p4⟩ := hl.get hx
  dsimp only at p0 p1 p2 p3 p4
  have h32 := hg.2.1
  have HX := Lib.hid hx
  have HN := Lib.hid hn'
  have HM := Lib.hid hm
  have hi0 : (0 : Int) ≤ (s.pos : Int) := Int.natCast_nonneg _
  have hi1 : (s.pos : Int) < (n : Int) := by omega
  obtain ⟨wd, hwd⟩ : ∃ wd, (w.alloc (.cells #[.int .i64 (5), .int .i64 (ra : Nat), .int .i64 (b), .int .i64 (c), .string tree] 41)).drew = wd := ⟨_, rfl⟩
  have hbd : Below w.heap.size w wd := by rw [← hwd]; exact ((Below.refl _ _).alloc (Nat.le_refl _) _).drew
  have hbox : wd.heap[w.heap.size]? = some (.cells #[.int .i64 (5), .int .i64 (ra : Nat), .int .i64 (b), .int .i64 (c), .string tree] 41 (0, 0)) := by rw [← hwd]; exact heap_alloc_new w _
  have keep : ∀ w', Below w.heap.size w w' → w'.cell? ⟨g, 0, none⟩ = some (.slice (some ⟨pg, off, none⟩) n cap) ∧ w'.cell? ⟨g, 34, none⟩ = some (.int .i64 s.pos) ∧ w'.cell? ⟨pg, off + s.pos * 5, none⟩ = some (.int .i64 (5)) ∧ w'.cell? ⟨pg, off + s.pos * 5 + 1, none⟩ = some (.int .i64 (ra : Nat)) ∧
      w'.cell? ⟨pg, off + s.pos * 5 + 2, none⟩ = some (.int .i64 (b)) ∧ w'.cell? ⟨pg, off + s.pos * 5 + 3, none⟩ = some (.int .i64 (c)) ∧ w'.cell? ⟨pg, off + s.pos * 5 + 4, none⟩ = some (.string tree) := fun w' hb => by
    refine ⟨(hb.cell (p := ⟨g, 0, none⟩) hlt).trans c0, (hb.cell (p := ⟨g, 34, none⟩) hlt).trans c34, (hb.cell (p := ⟨pg, off + s.pos * 5, none⟩) (by show pg < _; omega)).trans p0, (hb.cell (p := ⟨pg, off + s.pos * 5 + 1, none⟩) (by show pg < _; omega)).trans p1, (hb.cell (p := ⟨pg, off + s.pos * 5 + 2, none⟩) (by show pg < _; omega)).trans p2, (hb.cell (p := ⟨pg, off + s.pos * 5 + 3, none⟩) (by show pg < _; omega)).trans p3, (hb.cell (p := ⟨pg, off + s.pos * 5 + 4, none⟩) (by show pg < _; omega)).trans p4⟩
  have hmd := hm.kept hbd
  obtain ⟨d0, d1, d34, dr, df⟩ := hmd.cells h32
  have e0 := (block_cells hbox).1 0
  have e1 := (block_cells hbox).1 1
  have e2 := (block_cells hbox).1 2
  have e3 := (block_cells hbox).1 3
  simp only [List.getElem?_toArray, List.getElem?_cons_zero, List.getElem?_cons_succ] at e0 e1 e2 e3
  have hbl : w.heap.size < wd.heap.size := (Array.getElem?_eq_some_iff.1 hbox).1
  have HMD := Lib.hid hmd
  clear hmd hbox
  obtain ⟨qa, fa, na⟩ := dr ra t ht
  rw [hn'] at _hb2
  have ia0 : (0 : Int) ≤ (ra : Int) := Int.natCast_nonneg _
  have ia1 : (ra : Int) < 32 := by omega

  clear hm hg hl hx hn' hxs hown hr hle hpg
  go_enter Try.func153, Try.ntmps153
  go_wp2
  go_region_held3 (fun w' => w'.cell? ⟨g, 0, none⟩ = some (.slice (some ⟨pg, off, none⟩) n cap) ∧ w'.cell? ⟨g, 34, none⟩ = some (.int .i64 s.pos) ∧ w'.cell? ⟨pg, off + s.pos * 5, none⟩ = some (.int .i64 (5)) ∧ w'.cell? ⟨pg, off + s.pos * 5 + 1, none⟩ = some (.int .i64 (ra : Nat)) ∧
      w'.cell? ⟨pg, off + s.pos * 5 + 2, none⟩ = some (.int .i64 (b)) ∧ w'.cell? ⟨pg, off + s.pos * 5 + 3, none⟩ = some (.int .i64 (c)) ∧ w'.cell? ⟨pg, off + s.pos * 5 + 4, none⟩ = some (.string tree))
    (exact keep _ (by first | exact hbd | exact (Below.refl _ _).drew | exact ((Below.refl _ _).drew).alloc (Nat.le_refl _) _))
    (fail)
  try rw [hwd]
  clear keep hwd p0 p1 p2 p3 p4 c0 c1 c34
  subst htn
  have hq : qa = none := by have : Value.pointer qa = .pointer none := na; simpa using this
  subst hq
  have df34 := df 34
  clear dr df na ht
  have hnI : (n : Int) ≤ 4000 := by omega
  go_wp2
  go_quiet (fail)
  go_wp2
  go_ret
  refine StepOk.mk' rfl ?_
  have hq1 := below_drewN (Below.refl wd.heap.size wd) nq
  exact step_jfin (HMD.out.kept hq1) h32 (Els.of_below (hbd.trans (hq1.mono hbd.size))) _ _ (by omega)

set_option maxRecDepth 20000 in
set_option maxHeartbeats 4000000 in
theorem step_jump_go (w : World) (B g : Nat) (l : List Ins) (s : St) (pv sv : Value) (ps : List Value) (hm : MachP w B g l s pv sv ps) (hg : Good l.length s) (hn4 : l.length ≤ 4000) (ra : Nat) (ha : ra < 32) (t : Tr) (ht : s.regs[ra]? = some t) (htn : t ≠ .nil) (b c : Int) (tree : ByteArray) (hb1 : -(s.pos : Int) ≤ b) (hb2 : b ≤ (l.length : Int) - s.pos)
    (hx : l[s.pos]? = some ⟨5, (ra : Nat), b, c, tree⟩) :
    Calls Try.prog 153 #[.pointer (some ⟨g, 0, none⟩)] w (StepOk w B g l ⟨((s.pos : Int) + b).toNat, s.regs⟩ pv sv) := by
  have hp : s.pos < l.length := (List.getElem?_eq_some_iff.1 hx).1
  obtain ⟨ao, cap, rfl⟩ := hm.prog.len
  obtain ⟨c0, c1, c34, hr, hf⟩ := hm.cells hg.2.1
  have hl := hm.prog
  have hlt := hm.lt
  have hle := hm.le
  obtain ⟨xs, hxs, hown⟩ := hm.sets
  obtain ⟨n, hn'⟩ : ∃ n, l.length = n := ⟨_, rfl⟩
  rw [hn'] at hl c0 hp hn4 hown
  obtain ⟨pg, off, rfl, hpg, p0, p1, p2, p3, p4⟩ := hl.get hx
  dsimp only at p0 p1 p2 p3 p4
  have h32 := hg.2.1
  have HX := Lib.hid hx
  have HN := Lib.hid hn'
  have HM := Lib.hid hm
  have hi0 : (0 : Int) ≤ (s.pos : Int) := Int.natCast_nonneg _
  have hi1 : (s.pos : Int) < (n : Int) := by omega
  obtain ⟨wd, hwd⟩ : ∃ wd, (w.alloc (.cells #[.int .i64 (5), .int .i64 (ra : Nat), .int .i64 (b), .int .i64 (c), .string tree] 41)).drew = wd := ⟨_, rfl⟩
  have hbd : Below w.heap.size w wd := by rw [← hwd]; exact ((Below.refl _ _).alloc (Nat.le_refl _) _).drew
  have hbox : wd.heap[w.heap.size]? = some (.cells #[.int .i64 (5), .int .i64 (ra : Nat), .int .i64 (b), .int .i64 (c), .string tree] 41 (0, 0)) := by rw [← hwd]; exact heap_alloc_new w _
  have keep : ∀ w', Below w.heap.size w w' → w'.cell? ⟨g, 0, none⟩ = some (.slice (some ⟨pg, off, none⟩) n cap) ∧ w'.cell? ⟨g, 34, none⟩ = some (.int .i64 s.pos) ∧ w'.cell? ⟨pg, off + s.pos * 5, none⟩ = some (.int .i64 (5)) ∧ w'.cell? ⟨pg, off + s.pos * 5 + 1, none⟩ = some (.int .i64 (ra : Nat)) ∧
      w'.cell? ⟨pg, off + s.pos * 5 + 2, none⟩ = some (.int .i64 (b)) ∧ w'.cell? ⟨pg, off + s.pos * 5 + 3, none⟩ = some (.int .i64 (c)) ∧ w'.cell? ⟨pg, off + s.pos * 5 + 4, none⟩ = some (.string tree) := fun w' hb => by
    refine ⟨(hb.cell (p := ⟨g, 0, none⟩) hlt).trans c0, (hb.cell (p := ⟨g, 34, none⟩) hlt).trans c34, (hb.cell (p := ⟨pg, off + s.pos * 5, none⟩) (by show pg < _; omega)).trans p0, (hb.cell (p := ⟨pg, off + s.pos * 5 + 1, none⟩) (by show pg < _; omega)).trans p1, (hb.cell (p := ⟨pg, off + s.pos * 5 + 2, none⟩) (by show pg < _; omega)).trans p2, (hb.cell (p := ⟨pg, off + s.pos * 5 + 3, none⟩) (by show pg < _; omega)).trans p3, (hb.cell (p := ⟨pg, off + s.pos * 5 + 4, none⟩) (by show pg < _; omega)).trans p4⟩
  have hmd := hm.kept hbd
  obtain ⟨d0, d1, d34, dr, df⟩ := hmd.cells h32
  have e0 := (block_cells hbox).1 0
  have e1 := (block_cells hbox).1 1
  have e2 := (block_cells hbox).1 2
  have e3 := (block_cells hbox).1 3
  simp only [List.getElem?_toArray, List.getElem?_cons_zero, List.getElem?_cons_succ] at e0 e1 e2 e3
  have hbl : w.heap.size < wd.heap.size := (Array.getElem?_eq_some_iff.1 hbox).1
  have HMD := Lib.hid hmd
  clear hmd hbox
  obtain ⟨qa, fa, na⟩ := dr ra t ht
  rw [hn'] at hb2
  have ia0 : (0 : Int) ≤ (ra : Int) := Int.natCast_nonneg _
  have ia1 : (ra : Int) < 32 := by omega

  clear hm hg hl hx hn' hxs hown hr hle hpg
  go_enter Try.func153, Try.ntmps153
  go_wp2
  go_region_held3 (fun w' => w'.cell? ⟨g, 0, none⟩ = some (.slice (some ⟨pg, off, none⟩) n cap) ∧ w'.cell? ⟨g, 34, none⟩ = some (.int .i64 s.pos) ∧ w'.cell? ⟨pg, off + s.pos * 5, none⟩ = some (.int .i64 (5)) ∧ w'.cell? ⟨pg, off + s.pos * 5 + 1, none⟩ = some (.int .i64 (ra : Nat)) ∧
      w'.cell? ⟨pg, off + s.pos * 5 + 2, none⟩ = some (.int .i64 (b)) ∧ w'.cell? ⟨pg, off + s.pos * 5 + 3, none⟩ = some (.int .i64 (c)) ∧ w'.cell? ⟨pg, off + s.pos * 5 + 4, none⟩ = some (.string tree))
    (exact keep _ (by first | exact hbd | exact (Below.refl _ _).drew | exact ((Below.refl _ _).drew).alloc (Nat.le_refl _) _))
    (fail)
  try rw [hwd]
  clear keep hwd p0 p1 p2 p3 p4 c0 c1 c34
  obtain ⟨qg, hq⟩ : ∃ qg, qa = some ⟨qg, 0, none⟩ := by
    cases t with
    | nil => exact absurd rfl htn
    | pair a1 a2 => obtain ⟨g1, x1, y1, hv1, _⟩ := na; simp only [Value.pointer.injEq] at hv1; exact ⟨g1, hv1⟩
  subst hq
  have hpb : (s.pos : Int) + b = (((s.pos : Int) + b).toNat : Int) := by omega
  have hpb2 : (0 : Int) ≤ (s.pos : Int) + b := by omega
  have hpb3 : (s.pos : Int) + b ≤ n := by omega
  have HPB := Lib.hid hpb
  clear hpb
  have df34 := df 34
  clear dr df na ht
  have hnI : (n : Int) ≤ 4000 := by omega
  go_wp2
  go_quiet (fail)
  go_wp2
  go_ret
  refine StepOk.mk' rfl ?_
  have hq1 := below_drewN (Below.refl wd.heap.size wd) nq
  exact step_jfin (HMD.out.kept hq1) h32 (Els.of_below (hbd.trans (hq1.mono hbd.size))) _ _ HPB.out

end Go.Proofs.Ytlaeljkjdfffjaa

namespace Go.Proofs.Ytlaeljkjdfffjaa
open Go.RowKit

/-- What a step leaves. -/
def StepOut (w : World) (B g : Nat) (l : List Ins) (s : St) (pv sv : Value) (ps : List Value) (e : Ending) (w' : World) : Prop :=
  match stepP l s with
  | some s' => StepOk w B g l s' pv sv e w'
  | none => e = .returned (.bool false) ∧ MachP w' B g l s pv sv ps ∧ Els g w w'

theorem regB_nat {a : Int} (h : regB a = true) : ∃ r : Nat, a = r ∧ r < 32 := by
  unfold regB at h
  simp only [Bool.and_eq_true, decide_eq_true_eq] at h
  exact ⟨a.toNat, by omega, by omega⟩
theorem getR_nat {rs : List Tr} {r : Nat} {t : Tr} (h : rs[r]? = some t) : getR rs (r : Int) = t := by unfold getR; simp [h]

theorem step_any (w : World) (B g : Nat) (l : List Ins) (s : St) (pv sv : Value) (ps : List Value) (hm : MachP w B g l s pv sv ps) (hg : Good l.length s) (hv : rightAll l = true) (hp : s.pos < l.length) (hn4 : l.length ≤ 4000) :
    Calls Try.prog 153 #[.pointer (some ⟨g, 0, none⟩)] w (StepOut w B g l s pv sv ps) := by
  obtain ⟨x, hx⟩ : ∃ x, l[s.pos]? = some x := ⟨_, List.getElem?_eq_getElem hp⟩
  have hr := rightAll_get hv hx
  unfold StepOut stepP
  rw [hx]
  dsimp only
  obtain ⟨op, a, b, c, tree⟩ := x
  unfold rightB at hr
  simp only [Bool.and_eq_true] at hr
  obtain ⟨⟨⟨ha, h1⟩, h2⟩, h3⟩ := hr
  obtain ⟨ra, rfl, hra⟩ := regB_nat ha
  have gt : ∀ r : Nat, r < 32 → ∃ t, s.regs[r]? = some t := fun r h => ⟨_, List.getElem?_eq_getElem (by rw [hg.2.1]; exact h)⟩
  obtain ⟨ta, hta⟩ := gt ra hra
  unfold stepX
  dsimp only
  by_cases o0 : op = 0
  · subst o0
    simp only [if_true, setR, Int.toNat_natCast]
    exact step_set w B g l s pv sv ps hm hg hn4 ra hra b c tree hx
  · rw [if_neg o0] at h3 ⊢
    by_cases o1 : op = 1
    · subst o1
      rw [if_pos (.inl rfl)] at h3
      obtain ⟨rb, rfl, hrb⟩ := regB_nat h3
      obtain ⟨t, ht⟩ := gt rb hrb
      simp only [if_true, setR, Int.toNat_natCast, getR_nat ht]
      exact step_move w B g l s pv sv ps hm hg hn4 ra hra rb hrb t ht c tree hx
    · rw [if_neg o1]
      by_cases o2 : op = 2
      · subst o2
        rw [if_neg (by omega), if_pos rfl] at h3
        simp only [Bool.and_eq_true] at h3
        obtain ⟨rb, rfl, hrb⟩ := regB_nat h3.1
        obtain ⟨rc, rfl, hrc⟩ := regB_nat h3.2
        obtain ⟨t, ht⟩ := gt rb hrb
        obtain ⟨u, hu⟩ := gt rc hrc
        simp only [if_true, setR, Int.toNat_natCast, getR_nat ht, getR_nat hu]
        by_cases hsz : (Tr.pair t u).size ≤ 2000000
        · rw [if_pos hsz]
          exact step_cons_ok w B g l s pv sv ps hm hg hn4 ra hra rb hrb rc hrc t ht u hu tree hsz hx
        · rw [if_neg hsz]
          exact step_cons_big w B g l s pv sv ps hm hg hn4 ra hra rb hrb rc hrc t ht u hu tree (by omega) hx
      · rw [if_neg o2]
        by_cases o3 : op = 3
        · subst o3
          rw [if_pos (.inr (.inl rfl))] at h3
          obtain ⟨rb, rfl, hrb⟩ := regB_nat h3
          obtain ⟨t, ht⟩ := gt rb hrb
          simp only [if_true, setR, Int.toNat_natCast, getR_nat ht]
          exact step_head w B g l s pv sv ps hm hg hn4 ra hra rb hrb t ht c tree hx
        · rw [if_neg o3]
          by_cases o4 : op = 4
          · subst o4
            rw [if_pos (.inr (.inr rfl))] at h3
            obtain ⟨rb, rfl, hrb⟩ := regB_nat h3
            obtain ⟨t, ht⟩ := gt rb hrb
            simp only [if_true, setR, Int.toNat_natCast, getR_nat ht]
            exact step_tail w B g l s pv sv ps hm hg hn4 ra hra rb hrb t ht c tree hx
          · rw [if_neg o4]
            rw [if_neg (by omega), if_neg o2] at h3
            by_cases o5 : op = 5
            · subst o5
              rw [if_pos rfl] at h3
              simp only [Bool.and_eq_true, decide_eq_true_eq] at h3
              rw [getR_nat hta]
              by_cases hn : ta = .nil
              · rw [if_pos hn]
                exact step_jump_no w B g l s pv sv ps hm hg hn4 ra hra ta hta hn b c tree h3.1 h3.2 hx
              · rw [if_neg hn]
                exact step_jump_go w B g l s pv sv ps hm hg hn4 ra hra ta hta hn b c tree h3.1 h3.2 hx
            · rw [if_neg o5] at h3; cases h3

end Go.Proofs.Ytlaeljkjdfffjaa

namespace Go.Proofs.Ytlaeljkjdfffjaa
open Go.RowKit

/-- What a step of the reference leaves. -/
def RStepOut (w : World) (T gs : Nat) (l : List Ins) (s : St) (rv : Value) (e : Ending) (w' : World) : Prop :=
  match stepP l s with
  | some s' => RStepOk w T gs s' rv e w'
  | none => e = .returned (.bool false) ∧ (∃ ps', RStP w' T gs s rv ps') ∧ Below T w w' ∧ Kept 58 w w'

theorem refstep_any (w : World) (T gm gs gr cp : Nat) (l : List Ins) (s : St) (pv tv : Value) (ps : List Value) (hm : RMachP w T gm l pv tv) (hs : RStP w T gs s (.slice (some ⟨gr, 0, none⟩) s.regs.length cp) ps) (hgr : T ≤ gr) (hg : Good l.length s) (hn4 : l.length ≤ 4000) (hv : rightAll l = true) (hp : s.pos < l.length) :
    Calls Try.prog 97 #[.pointer (some ⟨gm, 0, none⟩), .pointer (some ⟨gs, 0, none⟩)] w (RStepOut w T gs l s (.slice (some ⟨gr, 0, none⟩) s.regs.length cp)) := by
  obtain ⟨x, hx⟩ : ∃ x, l[s.pos]? = some x := ⟨_, List.getElem?_eq_getElem hp⟩
  have hr := rightAll_get hv hx
  unfold RStepOut stepP
  rw [hx]
  dsimp only
  obtain ⟨op, a, b, c, tree⟩ := x
  unfold rightB at hr
  simp only [Bool.and_eq_true] at hr
  obtain ⟨⟨⟨ha, h1⟩, h2⟩, h3⟩ := hr
  obtain ⟨ra, rfl, hra⟩ := regB_nat ha
  have gt : ∀ r : Nat, r < 32 → ∃ t, s.regs[r]? = some t := fun r h => ⟨_, List.getElem?_eq_getElem (by rw [hg.2.1]; exact h)⟩
  obtain ⟨ta, hta⟩ := gt ra hra
  unfold stepX
  dsimp only
  by_cases o0 : op = 0
  · subst o0
    simp only [if_true, setR, Int.toNat_natCast]
    exact rstep_set w T gm gs gr cp l s pv tv ps hm hs hgr hg hn4 ra hra b c tree hx
  · rw [if_neg o0] at h3 ⊢
    by_cases o1 : op = 1
    · subst o1
      rw [if_pos (.inl rfl)] at h3
      obtain ⟨rb, rfl, hrb⟩ := regB_nat h3
      obtain ⟨t, ht⟩ := gt rb hrb
      simp only [if_true, setR, Int.toNat_natCast, getR_nat ht]
      exact rstep_move w T gm gs gr cp l s pv tv ps hm hs hgr hg hn4 ra hra rb hrb t ht c tree hx
    · rw [if_neg o1]
      by_cases o2 : op = 2
      · subst o2
        rw [if_neg (by omega), if_pos rfl] at h3
        simp only [Bool.and_eq_true] at h3
        obtain ⟨rb, rfl, hrb⟩ := regB_nat h3.1
        obtain ⟨rc, rfl, hrc⟩ := regB_nat h3.2
        obtain ⟨t, ht⟩ := gt rb hrb
        obtain ⟨u, hu⟩ := gt rc hrc
        simp only [if_true, setR, Int.toNat_natCast, getR_nat ht, getR_nat hu]
        by_cases hsz : (Tr.pair t u).size ≤ 2000000
        · rw [if_pos hsz]
          exact rstep_cons_ok w T gm gs gr cp l s pv tv ps hm hs hgr hg hn4 ra hra rb hrb rc hrc t ht u hu tree hsz hx
        · rw [if_neg hsz]
          exact rstep_cons_big w T gm gs gr cp l s pv tv ps hm hs hgr hg hn4 ra hra rb hrb rc hrc t ht u hu tree (by omega) hx
      · rw [if_neg o2]
        by_cases o3 : op = 3
        · subst o3
          rw [if_pos (.inr (.inl rfl))] at h3
          obtain ⟨rb, rfl, hrb⟩ := regB_nat h3
          obtain ⟨t, ht⟩ := gt rb hrb
          simp only [if_true, setR, Int.toNat_natCast, getR_nat ht]
          exact rstep_head w T gm gs gr cp l s pv tv ps hm hs hgr hg hn4 ra hra rb hrb t ht c tree hx
        · rw [if_neg o3]
          by_cases o4 : op = 4
          · subst o4
            rw [if_pos (.inr (.inr rfl))] at h3
            obtain ⟨rb, rfl, hrb⟩ := regB_nat h3
            obtain ⟨t, ht⟩ := gt rb hrb
            simp only [if_true, setR, Int.toNat_natCast, getR_nat ht]
            exact rstep_tail w T gm gs gr cp l s pv tv ps hm hs hgr hg hn4 ra hra rb hrb t ht c tree hx
          · rw [if_neg o4]
            rw [if_neg (by omega), if_neg o2] at h3
            by_cases o5 : op = 5
            · subst o5
              rw [if_pos rfl] at h3
              simp only [Bool.and_eq_true, decide_eq_true_eq] at h3
              rw [getR_nat hta]
              by_cases hn : ta = .nil
              · rw [if_pos hn]
                exact rstep_jump_no w T gm gs gr cp l s pv tv ps hm hs hgr hg hn4 ra hra ta hta hn b c tree h3.1 h3.2 hx
              · rw [if_neg hn]
                exact rstep_jump_go w T gm gs gr cp l s pv tv ps hm hs hgr hg hn4 ra hra ta hta hn b c tree h3.1 h3.2 hx
            · rw [if_neg o5] at h3; cases h3

end Go.Proofs.Ytlaeljkjdfffjaa

namespace Go.Proofs.Ytlaeljkjdfffjaa
open Go.RowKit

theorem register_at (n : Int) (b : Bool) (h : regB n = b) (w : World) :
    Calls Try.prog 125 #[.int .i64 n] w fun e w' => e = .returned (.bool b) ∧ w = w' := by
  rw [← h]; exact register_any n w
theorem refValid_at' (s : ByteArray) (b : Bool) (hs : s.size ≤ 140737488355328) (h : isTree s = b) (w : World) :
    Calls Try.prog 30 #[.string s] w fun e w' => e = .returned (.bool b) ∧ w = w' := by
  rw [← h]; exact refValid_any s (by omega) w

set_option maxHeartbeats 4000000 in
theorem rright_any (op a b c : Int) (tree : ByteArray) (hx : (⟨op, a, b, c, tree⟩ : Ins).wf) (i n : Nat) (hi : i < n) (hn : n ≤ 4000) (w : World) :
    Calls Try.prog 88 #[.agg #[.int .i64 op, .int .i64 a, .int .i64 b, .int .i64 c, .string tree], .int .i64 i, .int .i64 n] w fun e w' => e = .returned (.bool (rightB ⟨op, a, b, c, tree⟩ i n)) ∧ Below w.heap.size w w' := by
  obtain ⟨w1, w2, w3, w4, w5⟩ := hx
  simp only at w1 w2 w3 w4 w5
  obtain ⟨r, hr⟩ : ∃ r, rightB ⟨op, a, b, c, tree⟩ i n = r := ⟨_, rfl⟩
  rw [hr]
  unfold i64 at w1 w2 w3 w4
  unfold rightB at hr
  simp only at hr
  have hb0 := (Below.refl w.heap.size w).alloc (Nat.le_refl _) (.cells #[.int .i64 op, .int .i64 a, .int .i64 b, .int .i64 c, .string tree] 41)
  cases hra : regB a with
  | false =>
    have ka := register_at a _ hra
    rw [hra] at hr
    simp only [Bool.false_and] at hr
    subst hr
    go_enter Try.func88, Try.ntmps88
    go_wp2_with fail
    refine (ka _).mono ?_
    rintro e w' ⟨rfl, rfl⟩
    go_wp2
    go_ret
    exact ⟨rfl, hb0⟩
  | true =>
    have ka := register_at a _ hra
    rw [hra] at hr
    simp only [Bool.true_and] at hr
    by_cases o0 : op = 0
    · subst o0
      have kv := refValid_at' tree _ w5 rfl
      simp only [show ((0 : Int) == 0) = true from rfl, show ((0 : Int) == 2) = false from rfl, Bool.true_or, Bool.true_and, Bool.false_or, if_pos] at hr
      cases hc : (c == 0) <;> cases hb : (b == 0) <;> rw [hc] at hr <;> rw [hb] at hr <;> simp only [Bool.false_and, Bool.true_and] at hr <;> subst hr
      all_goals
        have hc' : (c != 0) = !(c == 0) := rfl
        rw [hc] at hc'
        go_enter Try.func88, Try.ntmps88
        go_wp2_with fail
        refine (ka _).mono ?_
        rintro e w' ⟨rfl, rfl⟩
        go_wp2_with fail
        try (refine (kv _).mono ?_; rintro e w' ⟨rfl, rfl⟩; go_wp2_with fail)
        go_ret
        exact ⟨rfl, hb0⟩
    · have o0' : (op == 0) = false := by simpa using o0
      have o0n : (op != 0) = true := by simpa using o0
      rw [o0', if_neg o0] at hr
      simp only [Bool.false_or] at hr
      cases he : tree.toList.isEmpty with
      | false =>
        rw [he] at hr
        simp only [Bool.false_and] at hr
        subst hr
        have hen : (!tree.toList.isEmpty) = true := by rw [he]; rfl
        go_enter Try.func88, Try.ntmps88
        go_wp2_with fail
        refine (ka _).mono ?_
        rintro e w' ⟨rfl, rfl⟩
        go_wp2_with fail
        go_ret
        exact ⟨rfl, hb0⟩
      | true =>
        have hen : (!tree.toList.isEmpty) = false := by rw [he]; rfl
        rw [he] at hr
        simp only [Bool.true_and] at hr
        by_cases o2 : op = 2
        · subst o2
          rw [if_neg (by decide), if_pos rfl] at hr
          simp only [show ((2 : Int) == 2) = true from rfl, Bool.true_or, Bool.true_and] at hr
          have kb := register_at b _ rfl
          have kc := register_at c _ rfl
          cases hb : regB b <;> rw [hb] at hr kb <;> simp only [Bool.false_and, Bool.true_and] at hr <;> subst hr
          all_goals
            go_enter Try.func88, Try.ntmps88
            go_wp2_with fail
            refine (ka _).mono ?_
            rintro e w' ⟨rfl, rfl⟩
            go_wp2_with fail
            refine (kb _).mono ?_
            rintro e w' ⟨rfl, rfl⟩
            go_wp2_with fail
            try (refine (kc _).mono ?_; rintro e w' ⟨rfl, rfl⟩; go_wp2_with fail)
            go_ret
            exact ⟨rfl, hb0⟩
        · have o2' : (op == 2) = false := by simpa using o2
          have o2n : (op != 2) = true := by simpa using o2
          rw [o2'] at hr
          simp only [Bool.false_or] at hr
          cases hc : (c == 0) with
          | false =>
            have hc' : (c != 0) = true := by show (!(c == 0)) = true; rw [hc]; rfl
            rw [hc] at hr
            simp only [Bool.false_and] at hr
            subst hr
            go_enter Try.func88, Try.ntmps88
            go_wp2_with fail
            refine (ka _).mono ?_
            rintro e w' ⟨rfl, rfl⟩
            go_wp2_with fail
            go_ret
            exact ⟨rfl, hb0⟩
          | true =>
            have hc' : (c != 0) = false := by show (!(c == 0)) = false; rw [hc]; rfl
            rw [hc] at hr
            simp only [Bool.true_and] at hr
            by_cases o134 : op = 1 ∨ op = 3 ∨ op = 4
            · rw [if_pos o134] at hr
              have kb := register_at b _ hr
              rcases o134 with rfl | rfl | rfl
              all_goals
                go_enter Try.func88, Try.ntmps88
                go_wp2_with fail
                refine (ka _).mono ?_
                rintro e w' ⟨rfl, rfl⟩
                go_wp2_with fail
                refine (kb _).mono ?_
                rintro e w' ⟨rfl, rfl⟩
                go_wp2_with fail
                go_ret
                exact ⟨rfl, hb0⟩
            · rw [if_neg o134, if_neg o2] at hr
              by_cases o5 : op = 5
              · subst o5
                rw [if_pos rfl] at hr
                have hiI : (i : Int) < n := by omega
                have hnI : (n : Int) ≤ 4000 := by omega
                have hi0 : (0 : Int) ≤ (i : Int) := Int.natCast_nonneg _
                cases d1 : decide (-(i : Int) ≤ b) <;> cases d2 : decide (b ≤ (n : Int) - i) <;> rw [d1, d2] at hr
                all_goals
                  simp only [Bool.and_self, Bool.and_false, Bool.and_true] at hr
                  subst hr
                  clear w5 hi hn
                  go_enter Try.func88, Try.ntmps88
                  go_wp2_with fail
                  refine (ka _).mono ?_
                  rintro e w' ⟨rfl, rfl⟩
                  go_wp2_with fail
                  go_ret
                  exact ⟨rfl, hb0⟩
              · rw [if_neg o5] at hr
                have o1' : (op == 1) = false := by simp; omega
                have o3' : (op == 3) = false := by simp; omega
                have o4' : (op == 4) = false := by simp; omega
                have o5' : (op == 5) = false := by simp; omega
                subst hr
                go_enter Try.func88, Try.ntmps88
                go_wp2_with fail
                refine (ka _).mono ?_
                rintro e w' ⟨rfl, rfl⟩
                go_wp2_with fail
                go_ret
                exact ⟨rfl, hb0⟩

end Go.Proofs.Ytlaeljkjdfffjaa

namespace Go.Proofs.Ytlaeljkjdfffjaa
open Go.RowKit

/-- The first instructions are right where they stand. -/
def rightTo (l : List Ins) (k : Nat) : Prop := ∀ j x, j < k → l[j]? = some x → rightB x j l.length = true
theorem rightTo_all {l : List Ins} {k : Nat} (h : rightTo l k) (hk : l.length ≤ k) : rightAll l = true := by
  refine List.all_eq_true.2 fun i hi => ?_
  have hi := List.mem_range.1 hi
  rw [List.getElem?_eq_getElem hi]
  exact h i _ (by omega) (List.getElem?_eq_getElem hi)
theorem rightTo_snoc {l : List Ins} {k : Nat} {x : Ins} (h : rightTo l k) (hx : l[k]? = some x) (hr : rightB x k l.length = true) : rightTo l (k + 1) := by
  intro j y hj hy
  by_cases h1 : j = k
  · subst h1; rw [hx] at hy; cases hy; exact hr
  · exact h j y (by omega) hy
theorem validB_eq (l : List Ins) (h : l.length ≤ 4000) (h2 : trees l ≤ 2000000) : validB l = rightAll l := by
  unfold validB; rw [decide_eq_true h, decide_eq_true h2]; rfl
theorem validB_long (l : List Ins) (h : 4000 < l.length) : validB l = false := by
  unfold validB; rw [decide_eq_false (by omega)]; rfl
theorem validB_large (l : List Ins) (h : 2000000 < trees l) : validB l = false := by
  unfold validB; rw [decide_eq_false (by omega : ¬ trees l ≤ 2000000)]; simp

set_option maxHeartbeats 2000000 in
theorem refValidP_any (v : Value) (l : List Ins) (w : World) (hl : InsRow w w.heap.size v l) :
    Calls Try.prog 25 #[v] w fun e w' => e = .returned (.bool (validB l)) ∧ Below w.heap.size w w' := by
  obtain ⟨r, hr⟩ : ∃ r, validB l = r := ⟨_, rfl⟩
  rw [hr]
  have hb0 := hl.2.1
  by_cases h4 : 4000 < l.length
  · rw [validB_long l h4] at hr
    subst hr
    obtain ⟨ao, cap, rfl⟩ := hl.len
    obtain ⟨n, hn'⟩ : ∃ n, l.length = n := ⟨_, rfl⟩
    rw [hn'] at h4 hb0 ⊢
    clear hl hn'
    go_enter Try.func25, Try.ntmps25
    go_wp2
    go_ret
    exact ⟨rfl, Below.refl _ _⟩
  · have kt := fun w' (h : InsRow w' w.heap.size v l) => trees_any v l w' w.heap.size h (by omega)
    have htr := trees_le l (fun x hx => (hl.1 x hx).2.2.2.2)
    have htr2 : (trees l : Int) ≤ 4000 * 140737488355328 := by
      have : l.length * 140737488355328 ≤ 4000 * 140737488355328 := Nat.mul_le_mul_right _ (by omega)
      omega
    clear htr
    have hlarge := Lib.hid (validB_large l)
    have heq := Lib.hid (validB_eq l (by omega))
    obtain ⟨ao, cap, rfl⟩ := hl.len
    obtain ⟨n, hn'⟩ : ∃ n, l.length = n := ⟨_, rfl⟩
    rw [hn'] at h4 hb0 kt hl ⊢
    have HN := Lib.hid hn'; clear hn'
    have HR := Lib.hid hr; clear hr
    obtain ⟨m, hm⟩ : ∃ m, trees l = m := ⟨_, rfl⟩
    rw [hm] at kt htr2 hlarge heq
    clear hm
    by_cases hm : 2000000 < m
    · have hf : Hid (r = false) := HR.out.symm.trans (hlarge.out hm)
      have hmI : ¬ (m : Int) ≤ 2000000 := by omega
      go_enter Try.func25, Try.ntmps25
      go_wp2_with fail
      refine (kt _ hl).mono ?_
      rintro e w' ⟨rfl, rfl⟩
      go_wp2
      go_ret
      exact ⟨by rw [hf.out]; rfl, Below.refl _ _⟩
    · have heq := Lib.hid (heq.out (by omega))
      have hmI : (m : Int) ≤ 2000000 := by omega
      have h4I : (n : Int) ≤ 4000 := by omega
      go_enter Try.func25, Try.ntmps25
      go_wp2_with fail
      refine (kt _ hl).mono ?_
      rintro e w' ⟨rfl, rfl⟩
      clear kt
      go_wp2
      go_loopg [3] n (fun g i wr => ∃ k : Nat, k ≤ n ∧ g = n - k ∧ i = .int .i64 k ∧ Aside (rightTo l k) ∧ Below w.heap.size w wr)
      case atStart => exact ⟨0, Nat.zero_le _, rfl, rfl, (fun j x hj => absurd hj (Nat.not_lt_zero _)), Below.refl _ _⟩
      case round =>
        obtain ⟨k, hk, hg, rfl, hv, hbw⟩ := hrel
        have HG := Lib.hid hg; clear hg
        by_cases hlt : k < n
        · obtain ⟨x, hx⟩ : ∃ s, l[k]? = some s := ⟨_, List.getElem?_eq_getElem (by rw [HN.out]; exact hlt)⟩
          have hl2 := hl.below hbw
          obtain ⟨g, off, rfl, hg, c0, c1, c2, c3, c4⟩ := hl2.get hx
          have hwf := hl.wf hx
          have HX := Lib.hid hx; clear hx
          have kr := fun w => rright_any x.op x.a x.b x.c x.tree hwf k n hlt (by omega) w
          obtain ⟨q, hq⟩ : ∃ q, rightB x k n = q := ⟨_, rfl⟩
          rw [show rightB ⟨x.op, x.a, x.b, x.c, x.tree⟩ k n = q from hq] at kr
          have HQ := Lib.hid hq
          clear hq hwf hl2
          have hi0 : (0 : Int) ≤ (k : Int) := Int.natCast_nonneg _
          have hi1 : (k : Int) < (n : Int) := by omega
          cases q with
          | true =>
            go_wp2_with fail
            refine (kr _).mono ?_
            rintro e w' ⟨rfl, k2⟩
            have c2 := hbw.trans (k2.mono hbw.size)
            clear k2
            go_wp2
            go_roundg (n - (k + 1))
            case measure => rw [HG.out]; omega
            case rel => exact ⟨k + 1, by omega, rfl, by go_num, rightTo_snoc hv.out HX.out (by rw [HN.out]; exact HQ.out), c2⟩
          | false =>
            go_wp2_with fail
            refine (kr _).mono ?_
            rintro e w' ⟨rfl, k2⟩
            have c2 := hbw.trans (k2.mono hbw.size)
            clear k2
            have hf : Hid (r = false) := HR.out.symm.trans (heq.out.trans (rightAll_false HX.out (by rw [HN.out]; exact HQ.out)))
            go_wp2
            go_ret
            exact ⟨by rw [hf.out]; rfl, c2⟩
        · have hf : Hid (r = true) := HR.out.symm.trans (heq.out.trans (rightTo_all hv.out (by rw [HN.out]; omega)))
          go_wp2
          go_ret
          exact ⟨by rw [hf.out]; rfl, hbw⟩

end Go.Proofs.Ytlaeljkjdfffjaa

namespace Go.Proofs.Ytlaeljkjdfffjaa
open Go.RowKit

set_option maxHeartbeats 1000000 in
theorem codeReg_any (g n : Nat) (xs : List Int) (hn' : xs.length = n) (hn4 : n ≤ 4) (w : World) (hc : ∀ (j : Nat) (a : Int), xs[j]? = some a → w.cell? ⟨g, j, none⟩ = some (.int .i64 a)) :
    Calls Try.prog 155 #[.slice (some ⟨g, 0, none⟩) n n] w fun e w' => e = .returned (.bool (xs.all regB)) ∧ w = w' := by
  obtain ⟨r, hr⟩ : ∃ r, xs.all regB = r := ⟨_, rfl⟩
  rw [hr]
  have HR := Lib.hid hr; clear hr
  have HN := Lib.hid hn'; clear hn'
  go_enter Try.func155, Try.ntmps155
  go_wp2
  go_loopg [7] n (fun gg i wr => ∃ k : Nat, k ≤ n ∧ gg = n - k ∧ i = .int .i64 k ∧ Aside (∀ x ∈ xs.take k, regB x = true) ∧ w = wr)
  case atStart => exact ⟨0, Nat.zero_le _, rfl, rfl, (fun x hx => by simp at hx), rfl⟩
  case round =>
    obtain ⟨k, hk, hg, rfl, hv, rfl⟩ := hrel
    have HG := Lib.hid hg; clear hg
    by_cases hlt : k < n
    · obtain ⟨x, hx⟩ : ∃ s, xs[k]? = some s := ⟨_, List.getElem?_eq_getElem (by rw [HN.out]; exact hlt)⟩
      have hcell := hc k x hx
      have HX := Lib.hid hx; clear hx
      have hi0 : (0 : Int) ≤ (k : Int) := Int.natCast_nonneg _
      have hi1 : (k : Int) < (n : Int) := by omega
      by_cases h0 : x < 0
      · have hf : Hid (r = false) := HR.out.symm.trans (by
          rw [Bool.eq_false_iff]; intro h
          have := List.all_eq_true.1 h x (List.mem_of_getElem? HX.out)
          unfold regB at this; simp at this; omega)
        go_wp2
        go_ret
        exact ⟨by rw [hf.out]; rfl, rfl⟩
      · by_cases h32 : x < 32
        · go_wp2
          go_roundg (n - (k + 1))
          case measure => rw [HG.out]; omega
          case rel => exact ⟨k + 1, by omega, rfl, by go_num, (by intro y hy; rw [take_snoc' _ _ _ HX.out] at hy; rcases List.mem_append.1 hy with h | h; exact hv.out y h; simp at h; subst h; unfold regB; simp; omega), rfl⟩
        · have hf : Hid (r = false) := HR.out.symm.trans (by
            rw [Bool.eq_false_iff]; intro h
            have := List.all_eq_true.1 h x (List.mem_of_getElem? HX.out)
            unfold regB at this; simp at this; omega)
          go_wp2
          go_ret
          exact ⟨by rw [hf.out]; rfl, rfl⟩
    · have hf : Hid (r = true) := HR.out.symm.trans (List.all_eq_true.2 (by have := hv.out; rwa [List.take_of_length_le (by rw [HN.out]; omega)] at this))
      go_wp2
      go_ret
      exact ⟨by rw [hf.out]; rfl, rfl⟩

end Go.Proofs.Ytlaeljkjdfffjaa

namespace Go.Proofs.Ytlaeljkjdfffjaa
open Go.RowKit

theorem codeValid_at (s : ByteArray) (b : Bool) (hs : s.size ≤ 140737488355328) (h : isTree s = b) (w : World) :
    Calls Try.prog 109 #[.string s] w fun e w' => e = .returned (.bool b) ∧ Below w.heap.size w w' := by
  rw [← h]; exact treeValid_any s (by omega) w

theorem creg_of (xs : List Int) (n : Nat) (hn : xs.length = n) (hn4 : n ≤ 4) (b : Bool) (hb : xs.all regB = b) (W : World) (G : Nat) (hG : W.heap.size = G) :
    Calls Try.prog 155 #[.slice (some ⟨G, 0, none⟩) n n] (W.alloc (.cells (xs.map (Value.int .i64)).toArray 3)) fun e w' => e = .returned (.bool b) ∧ (W.alloc (.cells (xs.map (Value.int .i64)).toArray 3)) = w' := by
  subst hG
  rw [← hb]
  have hown : (W.alloc (.cells (xs.map (Value.int .i64)).toArray 3)).ownsRow W.heap.size 3 1 (.slice (some ⟨W.heap.size, 0, none⟩) n n) n (xs.map (Value.int .i64)) := World.ownsRow_lit W (xs.map (Value.int .i64)).toArray n (Nat.le_refl _) (by unfold maxLen; omega) (by simp [hn])
  refine codeReg_any _ n xs hn hn4 _ fun j a hj => ?_
  have hlt : j < n * 1 := by have := (List.getElem?_eq_some_iff.1 hj).1; omega
  rw [World.ownsRow.cellAt hown j hlt, List.getElem?_map, hj]; rfl
theorem creg1 (a : Int) (b : Bool) (hb : regB a = b) (W : World) (G : Nat) (hG : W.heap.size = G) :
    Calls Try.prog 155 #[.slice (some ⟨G, 0, none⟩) 1 1] (W.alloc (.cells #[.int .i64 a] 3)) fun e w' => e = .returned (.bool b) ∧ (W.alloc (.cells #[.int .i64 a] 3)) = w' :=
  creg_of [a] 1 rfl (by decide) b (by simp [hb]) W G hG
theorem creg2 (a1 a2 : Int) (b : Bool) (hb : (regB a1 && regB a2) = b) (W : World) (G : Nat) (hG : W.heap.size = G) :
    Calls Try.prog 155 #[.slice (some ⟨G, 0, none⟩) 2 2] (W.alloc (.cells #[.int .i64 a1, .int .i64 a2] 3)) fun e w' => e = .returned (.bool b) ∧ (W.alloc (.cells #[.int .i64 a1, .int .i64 a2] 3)) = w' :=
  creg_of [a1, a2] 2 rfl (by decide) b (by simp [← hb]) W G hG
theorem creg3 (a1 a2 a3 : Int) (b : Bool) (hb : (regB a1 && regB a2 && regB a3) = b) (W : World) (G : Nat) (hG : W.heap.size = G) :
    Calls Try.prog 155 #[.slice (some ⟨G, 0, none⟩) 3 3] (W.alloc (.cells #[.int .i64 a1, .int .i64 a2, .int .i64 a3] 3)) fun e w' => e = .returned (.bool b) ∧ (W.alloc (.cells #[.int .i64 a1, .int .i64 a2, .int .i64 a3] 3)) = w' :=
  creg_of [a1, a2, a3] 3 rfl (by decide) b (by simp [← hb, Bool.and_assoc]) W G hG

set_option maxHeartbeats 4000000 in
theorem cright_any (op a b c : Int) (tree : ByteArray) (hx : (⟨op, a, b, c, tree⟩ : Ins).wf) (i n : Nat) (hi : i < n) (hn : n ≤ 4000) (w : World) :
    Calls Try.prog 133 #[.agg #[.int .i64 op, .int .i64 a, .int .i64 b, .int .i64 c, .string tree], .int .i64 i, .int .i64 n] w fun e w' => e = .returned (.bool (rightB ⟨op, a, b, c, tree⟩ i n)) ∧ Below w.heap.size w w' := by
  obtain ⟨w1, w2, w3, w4, w5⟩ := hx
  simp only at w1 w2 w3 w4 w5
  obtain ⟨r, hr⟩ : ∃ r, rightB ⟨op, a, b, c, tree⟩ i n = r := ⟨_, rfl⟩
  rw [hr]
  unfold i64 at w1 w2 w3 w4
  unfold rightB at hr
  simp only at hr
  have hb0 := (Below.refl w.heap.size w).alloc (Nat.le_refl _) (.cells #[.int .i64 op, .int .i64 a, .int .i64 b, .int .i64 c, .string tree] 41)
  by_cases o0 : op = 0
  · subst o0
    have kv := codeValid_at tree _ w5 rfl
    simp only [show ((0 : Int) == 0) = true from rfl, show ((0 : Int) == 2) = false from rfl, Bool.true_or, Bool.and_true, Bool.false_or, if_pos] at hr
    cases hc : (c == 0) with
    | false =>
      have hc' : (c != 0) = true := by show (!(c == 0)) = true; rw [hc]; rfl
      rw [hc] at hr
      simp only [Bool.and_false, Bool.false_and] at hr
      subst hr
      go_enter Try.func133, Try.ntmps133
      go_wp2_with fail
      go_ret
      exact ⟨rfl, hb0⟩
    | true =>
      have hc' : (c != 0) = false := by show (!(c == 0)) = false; rw [hc]; rfl
      rw [hc] at hr
      simp only [Bool.and_true] at hr
      have hb1 := hb0.alloc hb0.size (.cells #[.int .i64 a] 3)
      cases hra : regB a <;> cases hb : (b == 0) <;> rw [hra, hb] at hr <;> simp only [Bool.false_and, Bool.true_and] at hr <;> subst hr
      all_goals
        have ka := creg1 a _ hra
        go_enter Try.func133, Try.ntmps133
        go_wp2_with fail
        refine (ka _ _ (by first | rfl | simp)).mono ?_
        rintro e w' ⟨rfl, rfl⟩
        go_wp2_with fail
        first
        | (refine (kv _).mono ?_
           rintro e w2 ⟨rfl, k2⟩
           have c2 := hb1.trans (k2.mono hb1.size)
           go_wp2_with fail
           go_ret
           exact ⟨rfl, c2⟩)
        | (go_ret
           exact ⟨rfl, hb1⟩)
  · have o0' : (op == 0) = false := by simpa using o0
    have o0n : (op != 0) = true := by simpa using o0
    rw [o0', if_neg o0] at hr
    simp only [Bool.false_or] at hr
    cases he : tree.toList.isEmpty with
    | false =>
      rw [he] at hr
      simp only [Bool.false_and, Bool.and_false] at hr
      subst hr
      have hen : (!tree.toList.isEmpty) = true := by rw [he]; rfl
      go_enter Try.func133, Try.ntmps133
      go_wp2_with fail
      go_ret
      exact ⟨rfl, hb0⟩
    | true =>
      have hen : (!tree.toList.isEmpty) = false := by rw [he]; rfl
      rw [he] at hr
      simp only [Bool.and_true] at hr
      by_cases o2 : op = 2
      · subst o2
        rw [if_neg (by decide), if_pos rfl] at hr
        simp only [show ((2 : Int) == 2) = true from rfl, Bool.true_or, Bool.and_true] at hr
        have ka := creg3 a b c r (by rw [← hr, Bool.and_assoc])
        have hb1 := hb0.alloc hb0.size (.cells #[.int .i64 a, .int .i64 b, .int .i64 c] 3)
        clear hr
        go_enter Try.func133, Try.ntmps133
        go_wp2_with fail
        refine (ka _ _ (by first | rfl | simp)).mono ?_
        rintro e w' ⟨rfl, rfl⟩
        go_wp2_with fail
        go_ret
        exact ⟨rfl, hb1⟩
      · have o2' : (op == 2) = false := by simpa using o2
        have o2n : (op != 2) = true := by simpa using o2
        rw [o2'] at hr
        simp only [Bool.false_or] at hr
        cases hc : (c == 0) with
        | false =>
          have hc' : (c != 0) = true := by show (!(c == 0)) = true; rw [hc]; rfl
          rw [hc] at hr
          simp only [Bool.false_and, Bool.and_false] at hr
          subst hr
          go_enter Try.func133, Try.ntmps133
          go_wp2_with fail
          go_ret
          exact ⟨rfl, hb0⟩
        | true =>
          have hc' : (c != 0) = false := by show (!(c == 0)) = false; rw [hc]; rfl
          rw [hc] at hr
          simp only [Bool.and_true] at hr
          by_cases o134 : op = 1 ∨ op = 3 ∨ op = 4
          · rw [if_pos o134] at hr
            have ka := creg2 a b _ hr
            have hb1 := hb0.alloc hb0.size (.cells #[.int .i64 a, .int .i64 b] 3)
            rcases o134 with rfl | rfl | rfl
            all_goals
              go_enter Try.func133, Try.ntmps133
              go_wp2_with fail
              refine (ka _ _ (by first | rfl | simp)).mono ?_
              rintro e w' ⟨rfl, rfl⟩
              go_wp2_with fail
              go_ret
              exact ⟨rfl, hb1⟩
          · rw [if_neg o134, if_neg o2] at hr
            have hb1 := hb0.alloc hb0.size (.cells #[.int .i64 a] 3)
            by_cases o5 : op = 5
            · subst o5
              rw [if_pos rfl] at hr
              have hiI : (i : Int) < n := by omega
              have hnI : (n : Int) ≤ 4000 := by omega
              have hi0 : (0 : Int) ≤ (i : Int) := Int.natCast_nonneg _
              cases hra : regB a <;> cases d1 : decide (-(i : Int) ≤ b) <;> cases d2 : decide (b ≤ (n : Int) - i) <;> rw [hra, d1, d2] at hr
              all_goals
                simp only [Bool.and_self, Bool.and_false, Bool.and_true] at hr
                subst hr
                have ka := creg1 a _ hra
                clear w5 hi hn
                go_enter Try.func133, Try.ntmps133
                go_wp2_with fail
                refine (ka _ _ (by first | rfl | simp)).mono ?_
                rintro e w' ⟨rfl, rfl⟩
                go_wp2_with fail
                go_ret
                exact ⟨rfl, hb1⟩
            · rw [if_neg o5] at hr
              have o1' : (op == 1) = false := by simp; omega
              have o3' : (op == 3) = false := by simp; omega
              have o4' : (op == 4) = false := by simp; omega
              have o5' : (op == 5) = false := by simp; omega
              simp only [Bool.and_false] at hr
              subst hr
              go_enter Try.func133, Try.ntmps133
              go_wp2_with fail
              go_ret
              exact ⟨rfl, hb0⟩

end Go.Proofs.Ytlaeljkjdfffjaa

namespace Go.Proofs.Ytlaeljkjdfffjaa
open Go.RowKit

set_option maxHeartbeats 2000000 in
theorem codeValidP_any (v : Value) (l : List Ins) (w : World) (hl : InsRow w w.heap.size v l) :
    Calls Try.prog 102 #[v] w fun e w' => e = .returned (.bool (validB l)) ∧ Below w.heap.size w w' := by
  obtain ⟨r, hr⟩ : ∃ r, validB l = r := ⟨_, rfl⟩
  rw [hr]
  have hb0 := hl.2.1
  by_cases h4 : 4000 < l.length
  · rw [validB_long l h4] at hr
    subst hr
    obtain ⟨ao, cap, rfl⟩ := hl.len
    obtain ⟨n, hn'⟩ : ∃ n, l.length = n := ⟨_, rfl⟩
    rw [hn'] at h4 hb0 ⊢
    clear hl hn'
    go_enter Try.func102, Try.ntmps102
    go_wp2
    go_ret
    exact ⟨rfl, Below.refl _ _⟩
  · have hlarge := Lib.hid (validB_large l)
    have heq := Lib.hid (validB_eq l (by omega))
    have htake := Lib.hid (trees_take l)
    have hrf : Hid (∀ (i : Nat) (x : Ins), l[i]? = some x → rightB x i l.length = false → validB l = false) := fun i x hx hb => by
      unfold validB; rw [rightAll_false hx hb]; simp
    obtain ⟨ao, cap, rfl⟩ := hl.len
    obtain ⟨n, hn'⟩ : ∃ n, l.length = n := ⟨_, rfl⟩
    rw [hn'] at h4 hb0 hl hrf ⊢
    have HN := Lib.hid hn'; clear hn'
    have HR := Lib.hid hr; clear hr
    have h4I : (n : Int) ≤ 4000 := by omega
    go_enter Try.func102, Try.ntmps102
    go_wp2
    go_loopg [3, 11] n (fun g s i wr => ∃ k m : Nat, k ≤ n ∧ g = n - k ∧ i = .int .i64 k ∧ s = .int .i64 m ∧ m ≤ 2000000 ∧ Aside (m = trees (l.take k)) ∧ Aside (rightTo l k) ∧ Below w.heap.size w wr)
    case atStart => exact ⟨0, 0, Nat.zero_le _, rfl, rfl, rfl, by omega, rfl, (fun j x hj => absurd hj (Nat.not_lt_zero _)), Below.refl _ _⟩
    case round =>
      obtain ⟨k, m, hk, hg, rfl, rfl, hm, hs, hv, hbw⟩ := hrel
      have HG := Lib.hid hg; clear hg
      by_cases hlt : k < n
      · obtain ⟨x, hx⟩ : ∃ s, l[k]? = some s := ⟨_, List.getElem?_eq_getElem (by rw [HN.out]; exact hlt)⟩
        have hl2 := hl.below hbw
        obtain ⟨g, off, rfl, hg, c0, c1, c2, c3, c4⟩ := hl2.get hx
        have hwf := hl.wf hx
        have HX := Lib.hid hx; clear hx
        have kr := fun w => cright_any x.op x.a x.b x.c x.tree hwf k n hlt (by omega) w
        obtain ⟨q, hq⟩ : ∃ q, rightB x k n = q := ⟨_, rfl⟩
        rw [show rightB ⟨x.op, x.a, x.b, x.c, x.tree⟩ k n = q from hq] at kr
        have HQ := Lib.hid hq
        have hz := hwf.2.2.2.2
        clear hq hwf hl2
        have hi0 : (0 : Int) ≤ (k : Int) := Int.natCast_nonneg _
        have hi1 : (k : Int) < (n : Int) := by omega
        have hsn : Hid (trees (l.take (k + 1)) = m + x.tree.size) := by show _ = _; rw [take_snoc' _ _ _ HX.out, trees_snoc, ← hs.out]
        have hmI : (m : Int) ≤ 2000000 := by omega
        have hb1 := hbw.alloc hbw.size (.cells #[.int .i64 x.op, .int .i64 x.a, .int .i64 x.b, .int .i64 x.c, .string x.tree] 41)
        by_cases hz1 : x.tree.size ≤ 2000001
        · have hzI : (x.tree.size : Int) ≤ 2000001 := by omega
          by_cases hz2 : m + x.tree.size ≤ 2000000
          · have hz2I : (m : Int) + x.tree.size ≤ 2000000 := by omega
            cases q with
            | true =>
              go_wp2_with fail
              refine (kr _).mono ?_
              rintro e w' ⟨rfl, k2⟩
              have c2 := hb1.trans (k2.mono hb1.size)
              clear k2
              go_wp2
              go_roundg (n - (k + 1))
              case measure => rw [HG.out]; omega
              case rel => exact ⟨k + 1, m + x.tree.size, by omega, rfl, by go_num, by go_num, hz2, hsn.out.symm, rightTo_snoc hv.out HX.out (by rw [HN.out]; exact HQ.out), c2⟩
            | false =>
              go_wp2_with fail
              refine (kr _).mono ?_
              rintro e w' ⟨rfl, k2⟩
              have c2 := hb1.trans (k2.mono hb1.size)
              clear k2
              have hf : Hid (r = false) := HR.out.symm.trans (hrf.out _ _ HX.out HQ.out)
              go_wp2
              go_ret
              exact ⟨by rw [hf.out]; rfl, c2⟩
          · have hz2I : ¬ (m : Int) + x.tree.size ≤ 2000000 := by omega
            have hf : Hid (r = false) := HR.out.symm.trans (hlarge.out (by have := htake.out (k + 1); rw [hsn.out] at this; omega))
            clear kr
            go_wp2
            go_ret
            exact ⟨by rw [hf.out]; rfl, hb1⟩
        · have hzI : ¬ (x.tree.size : Int) ≤ 2000001 := by omega
          have hf : Hid (r = false) := HR.out.symm.trans (hlarge.out (by have := htake.out (k + 1); rw [hsn.out] at this; omega))
          clear kr
          go_wp2
          go_ret
          exact ⟨by rw [hf.out]; rfl, hb1⟩
      · have hf : Hid (r = true) := HR.out.symm.trans ((heq.out (by have := hs.out; rw [List.take_of_length_le (by rw [HN.out]; omega)] at this; omega)).trans (rightTo_all hv.out (by rw [HN.out]; omega)))
        go_wp2
        go_ret
        exact ⟨by rw [hf.out]; rfl, hbw⟩

end Go.Proofs.Ytlaeljkjdfffjaa

namespace Go.Proofs.Ytlaeljkjdfffjaa
open Go.RowKit

theorem MachP.range {w : World} {B g : Nat} {l : List Ins} {s : St} {pv sv : Value} {ps : List Value} (h : MachP w B g l s pv sv ps) : w.rangeAt g 2 ps := by
  intro j v hj
  rw [(block_cells h.blk).1]
  unfold mcells
  rw [List.getElem?_toArray, show 2 + j = j + 1 + 1 by omega]
  simp only [List.getElem?_cons_succ]
  rw [List.getElem?_append_left (List.getElem?_eq_some_iff.1 hj).1, hj]

theorem run_index_ptr (w : World) (ps : List Value) (k : Nat) (hk : k < 32) (v : Value) (hv : ps[k]? = some v) :
    (Instr.index 169 (.agg ps.toArray) (.int .i64 (k : Nat))).run Try.prog w = .ok v w := by
  have hu : Try.prog.underlying 169 = some (.array 32 167) := Try.underlying169
  have hs : (Try.prog.info? 167).map (·.size) = some 1 := by kernel_rfl
  have hu2 : ∃ e, Try.prog.underlying 167 = some (.pointer e) := ⟨_, Try.underlying167⟩
  obtain ⟨e, hu2⟩ := hu2
  cases hq : Try.prog.info? 167 with
  | none => simp [hq] at hs
  | some i =>
    have hi : i.size = 1 := by simpa [hq] using hs
    have hag : ∀ w, (isAgg 167).run Try.prog w = .ok false w := fun w => by
      unfold isAgg; rw [Sem.run_bind, run_underlying hu2 w]; rfl
    have hk2 : (0 : Int) ≤ (k : Int) ∧ (k : Int) < 32 := by omega
    simp [Instr.index, asIntOf, Sem.run_bind, run_underlying hu, sizeOf, typeInfo, hq, hi, part, hag, hk2, hv, hk]

end Go.Proofs.Ytlaeljkjdfffjaa

namespace Go.Proofs.Ytlaeljkjdfffjaa
open Go.RowKit

theorem codeValidP_at (v : Value) (l : List Ins) (w : World) (hl : InsRow w w.heap.size v l) (b : Bool) (hb : validB l = b) :
    Calls Try.prog 102 #[v] w fun e w' => e = .returned (.bool b) ∧ Below w.heap.size w w' := by
  rw [← hb]; exact codeValidP_any v l w hl
theorem treeValid_at (s : ByteArray) (hs : s.size ≤ 140737488355328) (b : Bool) (hb : isTree s = b) (w : World) :
    Calls Try.prog 109 #[.string s] w fun e w' => e = .returned (.bool b) ∧ Below w.heap.size w w' := by
  rw [← hb]; exact treeValid_any s (by omega) w
theorem validB_len {l : List Ins} (h : validB l = true) : l.length ≤ 4000 := by
  unfold validB at h; simp only [Bool.and_eq_true, decide_eq_true_eq] at h; exact h.1.1
theorem validB_all {l : List Ins} (h : validB l = true) : rightAll l = true := by
  unfold validB at h; simp only [Bool.and_eq_true] at h; exact h.2

set_option maxHeartbeats 1000000 in
theorem begin_form (v : Value) (l : List Ins) (s : ByteArray) (k : Int) (w : World) (hl : InsRow w w.heap.size v l) (hs : s.size ≤ 140737488355328) (h : validB l = false ∨ isTree s = false) :
    Calls Try.prog 127 #[v, .string s, .int .i64 k] w fun e w' => e = .returned (.tuple #[.pointer none, .int .i64 1]) ∧ Below w.heap.size w w' := by
  cases hv : validB l with
  | false =>
    have kv := codeValidP_at v l w hl _ hv
    clear h hv
    obtain ⟨ao, cap, rfl⟩ := hl.len
    go_enter Try.func127, Try.ntmps127
    go_wp2_with fail
    refine kv.mono ?_
    rintro e w1 ⟨rfl, k1⟩
    go_wp2
    go_ret2
    exact ⟨rfl, k1⟩
  | true =>
    have ht : isTree s = false := by rcases h with h | h; rw [hv] at h; cases h; exact h
    have kv := codeValidP_at v l w hl _ hv
    have kt := treeValid_at s hs _ ht
    clear h hv
    obtain ⟨ao, cap, rfl⟩ := hl.len
    go_enter Try.func127, Try.ntmps127
    go_wp2_with fail
    refine kv.mono ?_
    rintro e w1 ⟨rfl, k1⟩
    go_wp2_with fail
    refine (kt _).mono ?_
    rintro e w2 ⟨rfl, k2⟩
    go_wp2
    go_ret2
    exact ⟨rfl, k1.trans (k2.mono k1.size)⟩

set_option maxHeartbeats 1000000 in
theorem begin_arg (v : Value) (l : List Ins) (s : ByteArray) (k : Int) (w : World) (hl : InsRow w w.heap.size v l) (hs : s.size ≤ 140737488355328) (hv : validB l = true) (ht : isTree s = true) (hk : k < 0 ∨ 10000000 < k) :
    Calls Try.prog 127 #[v, .string s, .int .i64 k] w fun e w' => e = .returned (.tuple #[.pointer none, .int .i64 2]) ∧ Below w.heap.size w w' := by
  have kv := codeValidP_at v l w hl _ hv
  have kt := treeValid_at s hs _ ht
  clear hv ht
  obtain ⟨ao, cap, rfl⟩ := hl.len
  rcases hk with hk | hk
  all_goals
    go_enter Try.func127, Try.ntmps127
    go_wp2_with fail
    refine kv.mono ?_
    rintro e w1 ⟨rfl, k1⟩
    go_wp2_with fail
    refine (kt _).mono ?_
    rintro e w2 ⟨rfl, k2⟩
    go_wp2
    go_ret2
    exact ⟨rfl, k1.trans (k2.mono k1.size)⟩

set_option maxHeartbeats 1000000 in
theorem begin_ok (v : Value) (l : List Ins) (t : Tr) (ht : t.size ≤ 2000000) (k : Int) (w : World) (hl : InsRow w w.heap.size v l) (hv : validB l = true) (hk0 : 0 ≤ k) (hk1 : k ≤ 10000000) :
    Calls Try.prog 127 #[v, .string (TS t), .int .i64 k] w fun e w' => ∃ B g sv ps, e = .returned (.tuple #[.pointer (some ⟨g, 0, none⟩), .int .i64 0]) ∧ MachP w' B g l (startS t) v sv ps ∧ w.heap.size ≤ B ∧ Below w.heap.size w w' := by
  have kv := codeValidP_at v l w hl _ hv
  have kt := treeValid_at (TS t) (by rw [TS_size]; omega) _ (isTree_TS t ht)
  have kp := fun w => parse_tr (TS t) (by rw [TS_size]; omega) w
  rw [toTr_TS t ht, isTree_TS t ht] at kp
  have h4 := validB_len hv
  have kn := fun x w' (h : InsRow w' w'.heap.size v l) (hx : NodeP 188 w' t x) => newMachine_any v l t x w' h h4 hx
  have hl0 := hl
  obtain ⟨ao, cap, rfl⟩ := hl.len
  clear hv ht h4
  generalize TS t = S at *
  go_enter Try.func127, Try.ntmps127
  go_wp2_with fail
  refine kv.mono ?_
  rintro e w1 ⟨rfl, k1⟩
  go_wp2_with fail
  refine (kt _).mono ?_
  rintro e w2 ⟨rfl, k2⟩
  have c2 := k1.trans (k2.mono k1.size)
  clear k1 k2
  go_wp2_with fail
  refine (kp _).mono ?_
  rintro e w3 ⟨p, rfl, k3, hn⟩
  have c3 := c2.trans (k3.mono c2.size)
  have hl3 := (hl0.below c3).mono c3.size
  clear c2 k3
  go_wp2_with fail
  refine (kn _ _ hl3 hn).mono ?_
  rintro e w4 ⟨g, sv, ps, rfl, hm, k4⟩
  have c4 := c3.trans (k4.mono c3.size)
  go_wp2
  go_ret2
  exact ⟨_, _, _, _, rfl, hm, c3.size, c4⟩

end Go.Proofs.Ytlaeljkjdfffjaa

namespace Go.Proofs.Ytlaeljkjdfffjaa
open Go.RowKit

/-- A row of nil pointers. -/
def nilsA (n : Nat) : Array Value := (List.replicate n (.pointer none)).toArray
theorem madeCells_nils (n : Nat) : madeCells (Value.pointer none).cells n = nilsA n := by
  apply Array.ext
  · simp [nilsA, size_madeCells]
  · intro i h1 h2
    simp [madeCells, nilsA, Value.cells, Nat.mod_one]
theorem own_nils {w : World} {e base n : Nat} (hn : n ≤ maxLen) (hb : base ≤ w.heap.size) : (w.alloc (.cells (nilsA n) e)).ownsRow base e 1 (.slice (some ⟨w.heap.size, 0, none⟩) n n) n (List.replicate n (.pointer none)) := by
  refine ⟨by simp, .inr ⟨w.heap.size, n, nilsA n, rfl, hb, heap_alloc_new w _, Nat.le_refl _, hn, by simp [nilsA], ?_⟩⟩
  simp [nilsA]
theorem make_rnodes (n : Nat) (hn : n ≤ 4000) (w : World) : (Instr.makeSlice 110 (.int .i64 (n : Nat)) (.int .i64 (n : Nat))).run Try.prog w = .ok (.slice (some ⟨w.heap.size, 0, none⟩) n n) (w.alloc (.cells (nilsA n) 47)) := by
  obtain ⟨i, hi, hz, hsize, hbytes⟩ := info_parts el_rnode.hi
  have h := run_make (P := Try.prog) w 110 47 i (.pointer none) el_rnode.ht hi hz .i64 .i64 n n (by omega) (by omega) (by rw [hbytes]; omega) (by omega)
  rw [h, hsize]
  simp only [Int.toNat_natCast, Nat.mul_one, madeCells_nils]

set_option maxHeartbeats 1000000 in
theorem rfirst_any (t : Tr) (x : Value) (w : World) (hx : NodeP 58 w t x) :
    Calls Try.prog 94 #[x] w fun e w' => ∃ gs ps, e = .returned (.pointer (some ⟨gs, 0, none⟩)) ∧ RStP w' w.heap.size gs (startS t) (.slice (some ⟨w.heap.size, 0, none⟩) 32 32) ps ∧ Below w.heap.size w w' := by
  obtain ⟨q, rfl⟩ := hx.ptr
  have hmk : ∀ w : World, (Instr.makeSlice 110 (.int .i64 32) (.int .i64 32)).run Try.prog w = .ok (.slice (some ⟨w.heap.size, 0, none⟩) 32 32) (w.alloc (.cells (nilsA 32) 47)) := fun w => make_rnodes 32 (by omega) w
  have hnew : RStP (((w.alloc (.cells (nilsA 32) 47)).alloc (.cells #[.int .i64 0, .slice (some ⟨w.heap.size, 0, none⟩) 32 32] 114)).setCell ⟨w.heap.size, 0, none⟩ (.pointer q)) w.heap.size (w.heap.size + 1) (startS t) (.slice (some ⟨w.heap.size, 0, none⟩) 32 32) (.pointer q :: List.replicate 31 (.pointer none)) ∧ Below w.heap.size w (((w.alloc (.cells (nilsA 32) 47)).alloc (.cells #[.int .i64 0, .slice (some ⟨w.heap.size, 0, none⟩) 32 32] 114)).setCell ⟨w.heap.size, 0, none⟩ (.pointer q)) := by
    have hb0 : Below w.heap.size w ((w.alloc (.cells (nilsA 32) 47)).alloc (.cells #[.int .i64 0, .slice (some ⟨w.heap.size, 0, none⟩) 32 32] 114)) := ((Below.refl _ w).alloc (Nat.le_refl _) _).alloc (by simp) _
    have h1 := heap_alloc_new (w.alloc (.cells (nilsA 32) 47)) (.cells #[.int .i64 0, .slice (some ⟨w.heap.size, 0, none⟩) 32 32] 114)
    rw [World.size_alloc] at h1
    have h2 : ((w.alloc (.cells (nilsA 32) 47)).alloc (.cells #[.int .i64 0, .slice (some ⟨w.heap.size, 0, none⟩) 32 32] 114)).heap[w.heap.size]? = some (.cells (nilsA 32) 47 (0, 0)) := (Below.heap_alloc _ _ _ (by simp)).trans (heap_alloc_new w _)
    have ho := own_below (own_nils (w := w) (e := 47) (base := w.heap.size) (n := 32) (by unfold maxLen; omega) (Nat.le_refl _)) ((Below.refl _ (w.alloc (.cells (nilsA 32) 47))).alloc (Nat.le_refl _) (.cells #[.int .i64 0, .slice (some ⟨w.heap.size, 0, none⟩) 32 32] 114))
    have hK := (Kept.refl 58 ((w.alloc (.cells (nilsA 32) 47)).alloc (.cells #[.int .i64 0, .slice (some ⟨w.heap.size, 0, none⟩) 32 32] 114))).setCell h2 (by decide) (.pointer q) (a := ⟨w.heap.size, 0, none⟩)
    refine ⟨⟨(Below.heap_setCell _ _ _ _ (by show w.heap.size + 1 ≠ w.heap.size; omega)).trans h1, by omega, ⟨(hx.kept (Kept.below hb0)).kept hK, Nodes.nils 31⟩, own_set ho 0 _⟩, hb0.setCell (p := ⟨w.heap.size, 0, none⟩) (Nat.le_refl _) _⟩
  have HNEW := Lib.hid hnew
  have c0 : ((w.alloc (.cells (nilsA 32) 47)).alloc (.cells #[.int .i64 0, .slice (some ⟨w.heap.size, 0, none⟩) 32 32] 114)).cell? ⟨w.heap.size, 0, none⟩ = some (.pointer none) := by
    have h2 : ((w.alloc (.cells (nilsA 32) 47)).alloc (.cells #[.int .i64 0, .slice (some ⟨w.heap.size, 0, none⟩) 32 32] 114)).heap[w.heap.size]? = some (.cells (nilsA 32) 47 (0, 0)) := (Below.heap_alloc _ _ _ (by simp)).trans (heap_alloc_new w _)
    rw [(block_cells h2).1]; rfl
  have f0 : ((w.alloc (.cells (nilsA 32) 47)).alloc (.cells #[.int .i64 0, .slice (some ⟨w.heap.size, 0, none⟩) 32 32] 114)).frozen? ⟨w.heap.size, 0, none⟩ = false := by
    have h2 : ((w.alloc (.cells (nilsA 32) 47)).alloc (.cells #[.int .i64 0, .slice (some ⟨w.heap.size, 0, none⟩) 32 32] 114)).heap[w.heap.size]? = some (.cells (nilsA 32) 47 (0, 0)) := (Below.heap_alloc _ _ _ (by simp)).trans (heap_alloc_new w _)
    exact (block_cells h2).2 0
  clear hnew hx
  go_enter Try.func94, Try.ntmps94
  go_wp2
  go_ret
  have hn := HNEW.out
  rw [World.setCell_alloc_past _ _ _ _ (by simp), World.setCell_alloc_at _ _ _ _ _ rfl] at hn
  exact ⟨_, _, rfl, hn⟩

theorem Els.drew {g : Nat} {w w' : World} (h : Els g w w') : Els g w w'.drew := h.trans (Els.of_below (Below.refl _ _).drew)
/-- The trees of the first k instructions are read. -/
def setsK (l : List Ins) (k : Nat) : List Tr := ((l.take k).map fun x => toTr x.tree) ++ List.replicate (l.length - k) .nil
theorem setsK_succ (l : List Ins) (k : Nat) {x : Ins} (hx : l[k]? = some x) : (setsK l k).set k (toTr x.tree) = setsK l (k + 1) := by
  unfold setsK
  have hkl : k < l.length := (List.getElem?_eq_some_iff.1 hx).1
  have h1 : ((l.take k).map fun x => toTr x.tree).length = k := by simp; omega
  rw [take_snoc' _ _ _ hx, List.map_append, List.set_append_right _ _ (by omega), h1, Nat.sub_self, show l.length - k = (l.length - (k + 1)) + 1 by omega, List.replicate_succ, List.set_cons_zero, List.append_assoc]
  rfl
theorem setsK_none (l : List Ins) (k : Nat) {x : Ins} (hx : l[k]? = some x) (h0 : toTr x.tree = .nil) : setsK l k = setsK l (k + 1) := by
  unfold setsK
  have hkl : k < l.length := (List.getElem?_eq_some_iff.1 hx).1
  rw [take_snoc' _ _ _ hx, List.map_append, show l.length - k = (l.length - (k + 1)) + 1 by omega, List.replicate_succ, List.append_assoc]
  simp only [List.map_cons, List.map_nil, h0]
  rfl
theorem setsK_all (l : List Ins) : setsK l l.length = l.map fun x => toTr x.tree := by unfold setsK; rw [List.take_of_length_le (Nat.le_refl _)]; simp
theorem setsK_length (l : List Ins) (k : Nat) (hk : k ≤ l.length) : (setsK l k).length = l.length := by unfold setsK; simp; omega

/-- A machine of the reference that is being made. -/
structure LoadP (w : World) (l : List Ins) (pv : Value) (n k : Nat) (wr : World) : Prop where
  blk : wr.heap[w.heap.size + 1]? = some (.cells #[pv, .slice (some ⟨w.heap.size, 0, none⟩) n n] 118 (0, 0))
  row : ∃ xs, Nodes 58 wr (setsK l k) xs ∧ wr.ownsRow w.heap.size 47 1 (.slice (some ⟨w.heap.size, 0, none⟩) n n) n xs
  b : Below w.heap.size w wr
theorem LoadP.below {w : World} {l : List Ins} {pv : Value} {n k : Nat} {A B : World} (h : LoadP w l pv n k A) (hb : Below A.heap.size A B) : LoadP w l pv n k B := by
  obtain ⟨xs, h1, h2⟩ := h.row
  exact ⟨(hb.block _ (Array.getElem?_eq_some_iff.1 h.blk).1).trans h.blk, ⟨xs, h1.kept (Kept.below hb), own_below h2 hb⟩, h.b.trans (hb.mono h.b.size)⟩
theorem LoadP.rowblk {w : World} {l : List Ins} {pv : Value} {n k : Nat} {A : World} (h : LoadP w l pv n k A) : ∃ cur, A.heap[w.heap.size]? = some (.cells cur 47 (0, 0)) := by
  obtain ⟨xs, h1, h2⟩ := h.row
  rcases h2.2 with ⟨h0, _⟩ | ⟨g', cap', cur, hv, _, hg, _⟩
  · cases h0
  · simp only [Value.slice.injEq, Option.some.injEq, Addr.mk.injEq] at hv
    obtain ⟨⟨rfl, -, -⟩, -, -⟩ := hv
    exact ⟨cur, hg⟩
theorem LoadP.cellK {w : World} {l : List Ins} {pv : Value} {n k : Nat} {A : World} (h : LoadP w l pv n k A) (j : Nat) (hj : j < n) : (∃ q, A.cell? ⟨w.heap.size, j, none⟩ = some (.pointer q)) ∧ A.frozen? ⟨w.heap.size, j, none⟩ = false := by
  obtain ⟨xs, h1, h2⟩ := h.row
  have hl : xs.length = n := by have := h2.1; simpa using this
  have hx : xs[j]? = some xs[j] := List.getElem?_eq_getElem (by omega)
  have hn : j < (setsK l k).length := by rw [← h1.length]; omega
  obtain ⟨v, hv, hnv⟩ := h1.get (List.getElem?_eq_getElem hn)
  obtain ⟨q, rfl⟩ := hnv.ptr
  exact ⟨⟨q, by rw [World.ownsRow.cellAt h2 j (by omega), hv]⟩, World.ownsRow.frozenAt h2 j⟩
theorem LoadP.set {w : World} {l : List Ins} {pv : Value} {n k : Nat} {A : World} (h : LoadP w l pv n k A) {x : Ins} (hx : l[k]? = some x) {q : Option Addr} (hq : NodeP 58 A (toTr x.tree) (.pointer q)) : LoadP w l pv n (k + 1) (A.setCell ⟨w.heap.size, k, none⟩ (.pointer q)) := by
  obtain ⟨cur, hcur⟩ := h.rowblk
  obtain ⟨xs, h1, h2⟩ := h.row
  have hK := (Kept.refl 58 A).setCell hcur (by decide) (.pointer q) (a := ⟨w.heap.size, k, none⟩)
  refine ⟨(Below.heap_setCell _ _ _ _ (by show w.heap.size + 1 ≠ w.heap.size; omega)).trans h.blk, ⟨_, ?_, own_set h2 k _⟩, h.b.setCell (p := ⟨w.heap.size, k, none⟩) (Nat.le_refl _) _⟩
  rw [← setsK_succ l k hx]
  exact (h1.set k hq).kept hK
theorem LoadP.skip {w : World} {l : List Ins} {pv : Value} {n k : Nat} {A : World} (h : LoadP w l pv n k A) {x : Ins} (hx : l[k]? = some x) (h0 : toTr x.tree = .nil) : LoadP w l pv n (k + 1) A :=
  ⟨h.blk, by rw [← setsK_none l k hx h0]; exact h.row, h.b⟩

set_option maxRecDepth 20000 in
set_option maxHeartbeats 4000000 in
theorem load_any (v : Value) (l : List Ins) (w : World) (hl : InsRow w w.heap.size v l) (hv : validB l = true) :
    Calls Try.prog 35 #[v] w fun e w' => ∃ gm tv, e = .returned (.pointer (some ⟨gm, 0, none⟩)) ∧ RMachP w' w'.heap.size gm l v tv ∧ Below w.heap.size w w' := by
  have hn4 := validB_len hv
  have HV := Lib.hid (validB_all hv)
  obtain ⟨ao, cap, rfl⟩ := hl.len
  obtain ⟨n, hn'⟩ : ∃ n, l.length = n := ⟨_, rfl⟩
  rw [hn'] at hl hn4 ⊢
  have HN := Lib.hid hn'; clear hn' hv
  have hmk := fun w => make_rnodes n hn4 w
  have hs0 : LoadP w l (.slice ao n cap) n 0 ((w.alloc (.cells (nilsA n) 47)).alloc (.cells #[.slice ao n cap, .slice (some ⟨w.heap.size, 0, none⟩) n n] 118)) := by
    have h1 := heap_alloc_new (w.alloc (.cells (nilsA n) 47)) (.cells #[.slice ao n cap, .slice (some ⟨w.heap.size, 0, none⟩) n n] 118)
    rw [World.size_alloc] at h1
    refine ⟨h1, ⟨List.replicate n (.pointer none), ?_, ?_⟩, ((Below.refl _ w).alloc (Nat.le_refl _) _).alloc (by simp) _⟩
    · have : setsK l 0 = List.replicate n .nil := by unfold setsK; simp [HN.out]
      rw [this]; exact Nodes.nils n
    · exact own_below (own_nils (by unfold maxLen; omega) (Nat.le_refl _)) ((Below.refl _ _).alloc (Nat.le_refl _) _)
  have HS := Lib.hid hs0
  clear hs0
  go_enter Try.func35, Try.ntmps35
  go_wp2
  clear hmk
  go_loopg [4] n (fun gg i wr => ∃ k : Nat, k ≤ n ∧ gg = n - k ∧ i = .int .i64 k ∧ Hid (LoadP w l (.slice ao n cap) n k wr))
  case atStart => exact ⟨0, by omega, rfl, rfl, HS.out⟩
  case round =>
    obtain ⟨k, hk, hgg, rfl, hlp⟩ := hrel
    have HGG := Lib.hid hgg
    clear hgg HS
    have hbw := hlp.out.b
    have HBW := Lib.hid hbw
    have hgl : w.heap.size + 1 < wr.heap.size := (Array.getElem?_eq_some_iff.1 hlp.out.blk).1
    by_cases hlt : k < n
    · obtain ⟨y, hy⟩ : ∃ s, l[k]? = some s := ⟨_, List.getElem?_eq_getElem (by rw [HN.out]; exact hlt)⟩
      have hl2 := hl.below hbw
      obtain ⟨pg, off, rfl, hpg, p0, p1, p2, p3, p4⟩ := hl2.get hy
      have hr := rightAll_get HV.out hy
      have HY := Lib.hid hy
      have hi0 : (0 : Int) ≤ (k : Int) := Int.natCast_nonneg _
      have hi1 : (k : Int) < (n : Int) := by omega
      clear hy hl2 hbw p1 p2 p3
      by_cases ho : y.op = 0
      · have hop : (y.op == 0) = true := by rw [ho]; rfl
        have ht : isTree y.tree = true := by
          unfold rightB at hr
          rw [if_pos ho] at hr
          simp only [Bool.and_eq_true] at hr
          exact hr.2.2
        have kr : ∀ w', Calls Try.prog 33 #[.string y.tree] w' fun e w'' => ∃ p, e = .returned (.pointer p) ∧ Hid (NodeP 58 w'' (toTr y.tree) (.pointer p)) ∧ Below w'.heap.size w' w'' := fun w' => by
          have := read_ok (toTr y.tree) (toTr_size _) w'
          rwa [TS_toTr ht] at this
        have c1 := (block_cells hlp.out.blk).1 1
        simp only [List.getElem?_toArray, List.getElem?_cons_zero, List.getElem?_cons_succ] at c1
        have keep : ∀ w', Els w.heap.size wr w' → w'.cell? ⟨w.heap.size + 1, 1, none⟩ = some (.slice (some ⟨w.heap.size, 0, none⟩) n n) ∧ w'.cell? ⟨pg, off + k * 5 + 4, none⟩ = some (.string y.tree) := fun w' hE =>
          ⟨(World.cell?_of_block (hE.block (w.heap.size + 1) hgl (by omega))).trans c1, (World.cell?_of_block (hE.block pg (by omega) (by omega))).trans p4⟩
        clear hr ht ho
        go_wp2
        go_region_held3 (fun w' => w'.cell? ⟨w.heap.size + 1, 1, none⟩ = some (.slice (some ⟨w.heap.size, 0, none⟩) n n) ∧ w'.cell? ⟨pg, off + k * 5 + 4, none⟩ = some (.string y.tree))
          (with_reducible (first | exact keep _ hels | exact keep _ (hels.set _ _) | exact keep _ (hels.set _ _).drew | exact keep _ (Els.refl _ _) | exact keep _ (Els.refl _ _).drew))
          (((with_reducible refine (kr _).mono ?_); rintro e w2 ⟨p, rfl, hnp, hb2⟩; have hb2' : Below wr.heap.size wr w2 := (below_of_drew hb2); have hels : Els w.heap.size wr w2 := Els.of_below hb2'; obtain ⟨⟨qk, ck⟩, fk⟩ := (hlp.out.below hb2').cellK k hlt))
        all_goals
          have hnew : Hid (LoadP w l (.slice (some ⟨pg, off, none⟩) n cap) n (k + 1) (w2.setCell ⟨w.heap.size, k, none⟩ (.pointer p))) := (hlp.out.below hb2').set HY.out hnp.out
          clear keep kr hnp hb2 hb2' hels ck fk c1 p4
          go_wp2
          go_roundg (n - (k + 1))
          case measure => rw [HGG.out]; omega
          case rel => exact ⟨k + 1, by omega, rfl, by go_num, (by first | exact hnew | exact hnew.out.below (Below.refl _ _).drew)⟩
      · have hop : (y.op == 0) = false := by rw [beq_eq_false_iff_ne]; exact ho
        have h0 : toTr y.tree = .nil := by
          unfold rightB at hr
          simp only [Bool.and_eq_true, Bool.or_eq_true, beq_iff_eq] at hr
          rcases hr.1.1.2 with h | h
          · exact absurd h ho
          · exact toTr_empty h
        have hnew : Hid (LoadP w l (.slice (some ⟨pg, off, none⟩) n cap) n (k + 1) wr) := hlp.out.skip HY.out h0
        clear hr ho h0
        go_wp2
        go_roundg (n - (k + 1))
        case measure => rw [HGG.out]; omega
        case rel => exact ⟨k + 1, by omega, rfl, by go_num, hnew⟩
    · have hkn : k = n := by omega
      subst hkn
      have hfin : Hid (RMachP wr wr.heap.size (w.heap.size + 1) l (.slice ao k cap) (.slice (some ⟨w.heap.size, 0, none⟩) k k)) := by
        obtain ⟨xs, h1, h2⟩ := hlp.out.row
        rw [show setsK l k = l.map fun x => toTr x.tree from by rw [← HN.out]; exact setsK_all l] at h1
        refine ⟨hlp.out.blk, hgl, (hl.below hbw).mono hbw.size, xs, w.heap.size, h1, by rw [HN.out]; exact h2, fun k' hk' => ?_⟩
        simp only [Value.ownBlock, Option.some.injEq] at hk'
        omega
      clear hbw
      go_wp2
      go_ret
      exact ⟨_, _, rfl, hfin.out, HBW.out⟩

end Go.Proofs.Ytlaeljkjdfffjaa

namespace Go.Proofs.Ytlaeljkjdfffjaa
open Go.RowKit

end Go.Proofs.Ytlaeljkjdfffjaa

namespace Go.Proofs.Ytlaeljkjdfffjaa
open Go.RowKit

/-- How a run goes: it ends, the fuel is used up, a step is too large. -/
inductive Res where
  | done (s : St) (n : Nat)
  | fuel (s : St) (n : Nat)
  | big
def goF (l : List Ins) : Nat → Nat → St → Res
  | f, n, s => if s.pos = l.length then .done s n else match f with
    | 0 => .fuel s n
    | f + 1 => match stepP l s with
      | none => .big
      | some s' => goF l f (n + 1) s'
theorem goF_done {l : List Ins} {f n : Nat} {s : St} (h : s.pos = l.length) : goF l f n s = .done s n := by unfold goF; rw [if_pos h]
theorem goF_zero {l : List Ins} {n : Nat} {s : St} (h : s.pos ≠ l.length) : goF l 0 n s = .fuel s n := by unfold goF; rw [if_neg h]
theorem goF_big {l : List Ins} {f n : Nat} {s : St} (h : s.pos ≠ l.length) (hs : stepP l s = none) : goF l (f + 1) n s = .big := by unfold goF; rw [if_neg h]; simp only [hs]
theorem goF_step {l : List Ins} {f n : Nat} {s s' : St} (h : s.pos ≠ l.length) (hs : stepP l s = some s') : goF l (f + 1) n s = goF l f (n + 1) s' := by
  conv => lhs; unfold goF
  rw [if_neg h]
  simp only [hs]
/-- The k-th state. -/
def stN (l : List Ins) (s : St) : Nat → St
  | 0 => s
  | k + 1 => (stepP l (stN l s k)).getD (stN l s k)
/-- k steps are done. -/
def Reach (l : List Ins) (s : St) (k : Nat) : Prop := ∀ j, j < k → (stN l s j).pos ≠ l.length ∧ stepP l (stN l s j) = some (stN l s (j + 1))
theorem Reach.zero (l : List Ins) (s : St) : Reach l s 0 := fun j h => by omega
theorem stN_succ {l : List Ins} {s s' : St} {k : Nat} (h : stepP l (stN l s k) = some s') : stN l s (k + 1) = s' := by simp [stN, h]
theorem Reach.succ {l : List Ins} {s s' : St} {k : Nat} (h : Reach l s k) (hp : (stN l s k).pos ≠ l.length) (hs : stepP l (stN l s k) = some s') : Reach l s (k + 1) := fun j hj => by
  by_cases e : j < k
  · exact h j e
  · obtain rfl : j = k := by omega
    exact ⟨hp, by rw [stN_succ hs]; exact hs⟩
theorem Reach.goF {l : List Ins} {s : St} : ∀ {k : Nat}, Reach l s k → ∀ f, k ≤ f → goF l f 0 s = Go.Proofs.Ytlaeljkjdfffjaa.goF l (f - k) k (stN l s k) := by
  intro k
  induction k with
  | zero => intro _ f _; rfl
  | succ k ih =>
    intro h f hf
    obtain ⟨h1, h2⟩ := h k (by omega)
    rw [ih (fun j hj => h j (by omega)) f (by omega), show f - k = (f - (k + 1)) + 1 by omega, goF_step h1 h2]
theorem Reach.good {l : List Ins} {s : St} (hv : rightAll l = true) (hg : Good l.length s) : ∀ {k : Nat}, Reach l s k → Good l.length (stN l s k) := by
  intro k
  induction k with
  | zero => intro _; exact hg
  | succ k ih => intro h; exact (ih (fun j hj => h j (by omega))).step hv (h k (by omega)).2
/-- What Run hands back. -/
def Res.run : Res → ByteArray × Nat × Int
  | .done s n => (TS (getR s.regs 0), n, 0)
  | .fuel _ _ => (⟨#[]⟩, 0, 7)
  | .big => (⟨#[]⟩, 0, 3)

end Go.Proofs.Ytlaeljkjdfffjaa

namespace Go.Proofs.Ytlaeljkjdfffjaa
open Go.RowKit

theorem refstep_some {w : World} {T gm gs gr cp : Nat} {l : List Ins} {s s' : St} {pv tv : Value} {ps : List Value} (hm : RMachP w T gm l pv tv) (hs : RStP w T gs s (.slice (some ⟨gr, 0, none⟩) 32 cp) ps) (hgr : T ≤ gr) (hg : Good l.length s) (hn4 : l.length ≤ 4000) (hv : rightAll l = true) (hp : s.pos < l.length) (h : stepP l s = some s') :
    Calls Try.prog 97 #[.pointer (some ⟨gm, 0, none⟩), .pointer (some ⟨gs, 0, none⟩)] w fun e w' => e = .returned (.bool true) ∧ Hid ((∃ ps', RStP w' T gs s' (.slice (some ⟨gr, 0, none⟩) 32 cp) ps') ∧ Below T w w' ∧ Kept 58 w w') := by
  have h32 := hg.2.1
  have := refstep_any w T gm gs gr cp l s pv tv ps hm (by rw [h32]; exact hs) hgr hg hn4 hv hp
  refine this.mono ?_
  intro e w' ho
  unfold RStepOut at ho
  rw [h, h32] at ho
  obtain ⟨ps', h1, h2, h3, h4⟩ := ho
  exact ⟨h1, ⟨ps', h2⟩, h3, h4⟩
theorem refstep_none {w : World} {T gm gs gr cp : Nat} {l : List Ins} {s : St} {pv tv : Value} {ps : List Value} (hm : RMachP w T gm l pv tv) (hs : RStP w T gs s (.slice (some ⟨gr, 0, none⟩) 32 cp) ps) (hgr : T ≤ gr) (hg : Good l.length s) (hn4 : l.length ≤ 4000) (hv : rightAll l = true) (hp : s.pos < l.length) (h : stepP l s = none) :
    Calls Try.prog 97 #[.pointer (some ⟨gm, 0, none⟩), .pointer (some ⟨gs, 0, none⟩)] w fun e w' => e = .returned (.bool false) ∧ Hid ((∃ ps', RStP w' T gs s (.slice (some ⟨gr, 0, none⟩) 32 cp) ps') ∧ Below T w w' ∧ Kept 58 w w') := by
  have h32 := hg.2.1
  have := refstep_any w T gm gs gr cp l s pv tv ps hm (by rw [h32]; exact hs) hgr hg hn4 hv hp
  refine this.mono ?_
  intro e w' ho
  unfold RStepOut at ho
  rw [h, h32] at ho
  exact ⟨ho.1, ho.2⟩
theorem rended_at (b : Bool) (w : World) (B g h : Nat) (l : List Ins) (s : St) (pv tv rv : Value) (T : Nat) (ps : List Value) (hm : RMachP w B g l pv tv) (hs : RStP w T h s rv ps) (hb : ((s.pos : Int) == (l.length : Int)) = b) :
    Calls Try.prog 96 #[.pointer (some ⟨g, 0, none⟩), .pointer (some ⟨h, 0, none⟩)] w fun e w' => e = .returned (.bool b) ∧ Below w.heap.size w w' := by
  refine (rended_any w B g h l s pv tv rv T ps hm hs).mono ?_
  rintro e w' ⟨rfl, nq, rfl⟩
  exact ⟨by rw [hb], below_drewN (Below.refl _ _) nq⟩
/-- The reference's machine and its state. -/
structure RAt (w : World) (gm gs : Nat) (l : List Ins) (pv tv : Value) (s : St) (rv : Value) (wr : World) : Prop where
  m : RMachP wr w.heap.size gm l pv tv
  s : ∃ ps, RStP wr w.heap.size gs s rv ps
  b : Below w.heap.size w wr
theorem RAt.below {w : World} {gm gs : Nat} {l : List Ins} {pv tv rv : Value} {s : St} {A B : World} (h : RAt w gm gs l pv tv s rv A) (hb : Below A.heap.size A B) : RAt w gm gs l pv tv s rv B := by
  obtain ⟨ps, h1⟩ := h.s
  exact ⟨h.m.kept (hb.mono h.b.size) (Kept.below hb), ⟨ps, h1.kept hb⟩, h.b.trans (hb.mono h.b.size)⟩

/-- What After of the reference hands back. -/
def RAftOut (w : World) (s : St) (n : Nat) (e : Ending) (w' : World) : Prop :=
  ∃ gs gr cp ps, e = .returned (.tuple #[.pointer (some ⟨gs, 0, none⟩), .int .i64 n, .bool true]) ∧ RStP w' w.heap.size gs s (.slice (some ⟨gr, 0, none⟩) 32 cp) ps ∧ w.heap.size ≤ gr ∧ Below w.heap.size w w'
def RAftBig (w : World) (e : Ending) (w' : World) : Prop := ∃ p n, e = .returned (.tuple #[.pointer p, .int .i64 n, .bool false]) ∧ Below w.heap.size w w'
def RAft (w : World) : Res → Ending → World → Prop
  | .done s n => RAftOut w s n
  | .fuel s n => RAftOut w s n
  | .big => RAftBig w

set_option maxRecDepth 20000 in
set_option maxHeartbeats 2000000 in
theorem rafter_any (w : World) (gm : Nat) (l : List Ins) (pv tv : Value) (t : Tr) (x : Value) (K : Nat) (hK : K ≤ 100000000) (hm : RMachP w w.heap.size gm l pv tv) (hx : NodeP 58 w t x) (ht : t.size ≤ 2000000) (hv : rightAll l = true) (hn4 : l.length ≤ 4000) :
    Calls Try.prog 98 #[.pointer (some ⟨gm, 0, none⟩), x, .int .i64 K] w (RAft w (goF l K 0 (startS t))) := by
  obtain ⟨R, hR⟩ : ∃ R, goF l K 0 (startS t) = R := ⟨_, rfl⟩
  rw [hR]
  have HR := Lib.hid hR
  have kf := rfirst_any t x w hx
  have HG := Lib.hid (Good.start l.length t ht)
  have HV := Lib.hid hv
  obtain ⟨q, rfl⟩ := hx.ptr
  have HM := Lib.hid hm
  clear hR hx hv hm
  go_enter Try.func98, Try.ntmps98
  go_wp2_with fail
  refine kf.mono ?_
  rintro e w1 ⟨gs, ps, rfl, hs, hb1⟩
  have HA := Lib.hid (show RAt w gm gs l pv tv (startS t) (.slice (some ⟨w.heap.size, 0, none⟩) 32 32) w1 from ⟨HM.out.kept hb1 (Kept.below hb1), ⟨ps, hs⟩, hb1⟩)
  clear kf hs hb1
  go_wp2
  go_loopg [10] K (fun gg i wr => ∃ j : Nat, j ≤ K ∧ gg = K - j ∧ i = .int .i64 j ∧ Hid (Reach l (startS t) j) ∧ Hid (RAt w gm gs l pv tv (stN l (startS t) j) (.slice (some ⟨w.heap.size, 0, none⟩) 32 32) wr))
  case atStart => exact ⟨0, by omega, rfl, rfl, Reach.zero _ _, HA.out⟩
  case round =>
    obtain ⟨j, hj, hgg, rfl, hre, hat⟩ := hrel
    have HGG := Lib.hid hgg
    have HGJ := Lib.hid (hre.out.good HV.out HG.out)
    clear hgg HA
    by_cases hlt : j < K
    · obtain ⟨be, hbe⟩ : ∃ be, (((stN l (startS t) j).pos : Int) == (l.length : Int)) = be := ⟨_, rfl⟩
      obtain ⟨ps1, hs1⟩ := hat.out.s
      have ke := rended_at be wr _ gm gs l _ pv tv _ _ ps1 hat.out.m hs1 hbe
      have HBE := Lib.hid hbe
      clear hbe hs1
      cases be with
      | true =>
        have hfin : Hid (R = .done (stN l (startS t) j) j) := by
          rw [← HR.out, hre.out.goF K hj, goF_done (by have := eq_of_beq HBE.out; omega)]; exact rfl
        go_wp2_with fail
        refine ke.mono ?_
        rintro e w2 ⟨rfl, hb2⟩
        have HA2 := Lib.hid (hat.out.below hb2)
        clear ke hb2
        go_wp2
        go_ret3
        rw [hfin.out]
        obtain ⟨ps2, h2⟩ := HA2.out.s
        exact ⟨gs, _, _, ps2, rfl, h2, Nat.le_refl _, HA2.out.b⟩
      | false =>
        have hpos : (stN l (startS t) j).pos ≠ l.length := by
          intro h
          have h1 := HBE.out
          rw [h] at h1
          simp at h1
        have hpl : (stN l (startS t) j).pos < l.length := by have := HGJ.out.1; omega
        have HP := Lib.hid hpos
        have HPL := Lib.hid hpl
        clear hpos hpl
        go_wp2_with fail
        refine ke.mono ?_
        rintro e w2 ⟨rfl, hb2⟩
        have HA2 := Lib.hid (hat.out.below hb2)
        obtain ⟨ps2, hs2⟩ := HA2.out.s
        cases hst : stepP l (stN l (startS t) j) with
        | none =>
          have ks := refstep_none HA2.out.m hs2 (Nat.le_refl _) HGJ.out hn4 HV.out HPL.out hst
          have hfin : Hid (R = .big) := by
            rw [← HR.out, hre.out.goF K hj, show K - j = (K - j - 1) + 1 by omega, goF_big HP.out hst]; exact rfl
          clear ke hb2 hs2 hst
          go_wp2_with fail
          refine ks.mono ?_
          rintro e w3 ⟨rfl, hE⟩
          have HB3 := Lib.hid (HA2.out.b.trans hE.out.2.1)
          clear ks hE
          go_wp2
          go_ret3
          rw [hfin.out]
          exact ⟨_, _, rfl, HB3.out⟩
        | some s' =>
          have ks := refstep_some HA2.out.m hs2 (Nat.le_refl _) HGJ.out hn4 HV.out HPL.out hst
          have HRE := Lib.hid (hre.out.succ HP.out hst)
          have HST := Lib.hid (stN_succ hst)
          clear ke hb2 hs2 hst
          go_wp2_with fail
          refine ks.mono ?_
          rintro e w3 ⟨rfl, hE⟩
          have HA3 := Lib.hid (show RAt w gm gs l pv tv (stN l (startS t) (j + 1)) (.slice (some ⟨w.heap.size, 0, none⟩) 32 32) w3 from ⟨HA2.out.m.kept hE.out.2.1 hE.out.2.2, by rw [HST.out]; exact hE.out.1, HA2.out.b.trans hE.out.2.1⟩)
          clear ks hE
          go_wp2
          go_roundg (K - (j + 1))
          case measure => rw [HGG.out]; omega
          case rel => exact ⟨j + 1, by omega, rfl, by go_num, HRE, HA3⟩
    · have hjk : j = K := by omega
      have hfin : Hid (R = .done (stN l (startS t) j) j ∨ R = .fuel (stN l (startS t) j) j) := by
        show R = .done (stN l (startS t) j) j ∨ R = .fuel (stN l (startS t) j) j
        rw [← HR.out, hre.out.goF K hj, hjk, Nat.sub_self]
        by_cases h : (stN l (startS t) K).pos = l.length
        · exact .inl (goF_done h)
        · exact .inr (goF_zero h)
      clear hjk
      go_wp2
      go_ret3
      obtain ⟨ps2, h2⟩ := hat.out.s
      rcases hfin.out with h | h
      all_goals
        rw [h]
        exact ⟨gs, _, _, ps2, rfl, h2, Nat.le_refl _, hat.out.b⟩

/-- What Run of the reference hands back. -/
def Res.rrun : Res → Tr × Nat × Int
  | .done s n => (getR s.regs 0, n, 0)
  | .fuel _ _ => (.nil, 0, 7)
  | .big => (.nil, 0, 3)
def RRunOut (w : World) (y : Tr) (n : Nat) (er : Int) (e : Ending) (w' : World) : Prop := ∃ q, e = .returned (.tuple #[.pointer q, .int .i64 n, .int .i64 er]) ∧ NodeP 58 w' y (.pointer q) ∧ Below w.heap.size w w'
theorem goF_done_pos {l : List Ins} : ∀ {f n : Nat} {s s' : St} {k : Nat}, goF l f n s = .done s' k → s'.pos = l.length := by
  intro f
  induction f with
  | zero =>
    intro n s s' k h
    by_cases hp : s.pos = l.length
    · rw [goF_done hp] at h; cases h; exact hp
    · rw [goF_zero hp] at h; cases h
  | succ f ih =>
    intro n s s' k h
    by_cases hp : s.pos = l.length
    · rw [goF_done hp] at h; cases h; exact hp
    · cases hs : stepP l s with
      | none => rw [goF_big hp hs] at h; cases h
      | some s1 => rw [goF_step hp hs] at h; exact ih h
theorem goF_fuel_pos {l : List Ins} : ∀ {f n : Nat} {s s' : St} {k : Nat}, goF l f n s = .fuel s' k → s'.pos ≠ l.length := by
  intro f
  induction f with
  | zero =>
    intro n s s' k h
    by_cases hp : s.pos = l.length
    · rw [goF_done hp] at h; cases h
    · rw [goF_zero hp] at h; cases h; exact hp
  | succ f ih =>
    intro n s s' k h
    by_cases hp : s.pos = l.length
    · rw [goF_done hp] at h; cases h
    · cases hs : stepP l s with
      | none => rw [goF_big hp hs] at h; cases h
      | some s1 => rw [goF_step hp hs] at h; exact ih h
/-- Where a run goes on or ends the state is good. -/
theorem goF_good {l : List Ins} (hv : rightAll l = true) : ∀ {f n : Nat} {s : St}, Good l.length s → (∀ s' k, goF l f n s = .done s' k → Good l.length s') ∧ (∀ s' k, goF l f n s = .fuel s' k → Good l.length s') := by
  intro f
  induction f with
  | zero =>
    intro n s hg
    by_cases hp : s.pos = l.length
    · rw [goF_done hp]; exact ⟨(fun s' k h => by cases h; exact hg), (fun s' k h => by cases h)⟩
    · rw [goF_zero hp]; exact ⟨(fun s' k h => by cases h), (fun s' k h => by cases h; exact hg)⟩
  | succ f ih =>
    intro n s hg
    by_cases hp : s.pos = l.length
    · rw [goF_done hp]; exact ⟨(fun s' k h => by cases h; exact hg), (fun s' k h => by cases h)⟩
    · cases hs : stepP l s with
      | none => rw [goF_big hp hs]; exact ⟨(fun s' k h => by cases h), (fun s' k h => by cases h)⟩
      | some s1 => rw [goF_step hp hs]; exact ih (hg.step hv hs)

set_option maxHeartbeats 2000000 in
theorem rrun_any (w : World) (gm : Nat) (l : List Ins) (pv tv : Value) (t : Tr) (x : Value) (K : Nat) (hK : K ≤ 100000000) (hm : RMachP w w.heap.size gm l pv tv) (hx : NodeP 58 w t x) (ht : t.size ≤ 2000000) (hv : rightAll l = true) (hn4 : l.length ≤ 4000) :
    Calls Try.prog 36 #[.pointer (some ⟨gm, 0, none⟩), x, .int .i64 K] w (RRunOut w (goF l K 0 (startS t)).rrun.1 (goF l K 0 (startS t)).rrun.2.1 (goF l K 0 (startS t)).rrun.2.2) := by
  have ka := rafter_any w gm l pv tv t x K hK hm hx ht hv hn4
  have hgood := goF_good hv (f := K) (n := 0) (Good.start l.length t ht)
  obtain ⟨q, rfl⟩ := hx.ptr
  cases hR : goF l K 0 (startS t) with
  | big =>
    rw [hR] at ka
    clear hm hx hR hgood
    go_enter Try.func36, Try.ntmps36
    go_wp2_with fail
    refine ka.mono ?_
    rintro e w1 ⟨p, n, rfl, hb1⟩
    clear ka
    go_wp2
    go_ret3
    exact ⟨_, rfl, rfl, hb1⟩
  | fuel s n =>
    have hp := goF_fuel_pos hR
    rw [hR] at ka
    have hbe : ((s.pos : Int) == (l.length : Int)) = false := by rw [beq_eq_false_iff_ne]; omega
    have HM := Lib.hid hm
    have HBE := Lib.hid hbe
    clear hm hx hR hgood hp hbe
    go_enter Try.func36, Try.ntmps36
    go_wp2_with fail
    refine ka.mono ?_
    rintro e w1 ⟨gs, gr, cp, ps, rfl, hs, hgr, hb1⟩
    have ke := rended_at false w1 _ gm gs l s pv tv _ _ ps (HM.out.kept hb1 (Kept.below hb1)) hs HBE.out
    clear ka hs
    go_wp2_with fail
    refine ke.mono ?_
    rintro e w2 ⟨rfl, hb2⟩
    clear ke
    go_wp2
    go_ret3
    exact ⟨_, rfl, rfl, hb1.trans (hb2.mono hb1.size)⟩
  | done s n =>
    have hp := goF_done_pos hR
    have hg := hgood.1 s n hR
    rw [hR] at ka
    have hbe : ((s.pos : Int) == (l.length : Int)) = true := by rw [beq_iff_eq]; omega
    have HM := Lib.hid hm
    have HBE := Lib.hid hbe
    have HG := Lib.hid hg
    clear hm hx hR hgood hp hbe hg
    go_enter Try.func36, Try.ntmps36
    go_wp2_with fail
    refine ka.mono ?_
    rintro e w1 ⟨gs, gr, cp, ps, rfl, hs, hgr, hb1⟩
    have ke := rended_at true w1 _ gm gs l s pv tv _ _ ps (HM.out.kept hb1 (Kept.below hb1)) hs HBE.out
    have HS := Lib.hid hs
    clear ka hs
    go_wp2_with fail
    refine ke.mono ?_
    rintro e w2 ⟨rfl, hb2⟩
    have hs2 := HS.out.kept hb2
    rw [← HG.out.2.1] at hs2
    obtain ⟨d0, d1, df, dr, drf⟩ := hs2.cells
    rw [HG.out.2.1] at d1
    obtain ⟨t0, ht0⟩ : ∃ t, s.regs[0]? = some t := ⟨_, List.getElem?_eq_getElem (by rw [HG.out.2.1]; omega)⟩
    obtain ⟨q0, cq0, nq0⟩ := dr 0 t0 ht0
    have HN := Lib.hid nq0
    have HT := Lib.hid ht0
    clear ke hs2 dr drf df nq0 ht0
    go_wp2
    go_ret3
    refine ⟨q0, rfl, ?_, hb1.trans (hb2.mono hb1.size)⟩
    have : getR s.regs 0 = t0 := getR_nat (r := 0) HT.out
    show NodeP _ _ (getR s.regs 0) _
    rw [this]; exact HN.out

end Go.Proofs.Ytlaeljkjdfffjaa

namespace Go.Proofs.Ytlaeljkjdfffjaa
open Go.RowKit

/-- What First and Step hand back where it went well, and where not. -/
def StateOk (w : World) (s : St) (e : Ending) (w' : World) : Prop := ∃ v, e = .returned (.tuple #[.agg #[.int .i64 s.pos, v], .int .i64 0]) ∧ StrRow w' w'.heap.size v (s.regs.map TS) ∧ Below w.heap.size w w'
def StateBad (w : World) (er : Int) (e : Ending) (w' : World) : Prop := e = .returned (.tuple #[.agg #[.int .i64 0, .slice none 0 0], .int .i64 er]) ∧ Below w.heap.size w w'

theorem StrRow.set {w : World} {B b T : Nat} {cs : Array Value} {v : Value} {l : List ByteArray} (h : StrRow w B v l) (hb : w.heap[b]? = some (.cells cs T (0, 0))) (hns : ∀ (j : Nat) (s : ByteArray), cs[j]? ≠ some (.string s)) (j : Nat) (u : Value) : StrRow (w.setCell ⟨b, j, none⟩ u) B v l := by
  obtain ⟨h1, h2, h3⟩ := h
  refine ⟨h1, h2, ?_⟩
  rcases h3 with h3 | ⟨g, off, cap, hv, hg, hc⟩
  · exact .inl h3
  · refine .inr ⟨g, off, cap, hv, hg, fun i s hi => ?_⟩
    have h4 := hc i s hi
    by_cases e : g = b
    · subst e
      rw [(block_cells hb).1] at h4
      exact absurd h4 (hns _ _)
    · exact (World.cell?_of_block (Below.heap_setCell _ _ _ _ (by show g ≠ b; exact e))).trans h4
end Go.Proofs.Ytlaeljkjdfffjaa

namespace Go.Proofs.Ytlaeljkjdfffjaa
open Go Go.RowKit
variable {F : Fence} {n : Nat} {P : Program}

/-- How the body of a round may be left. -/
def rfPost {α : Type} (I' : α → World → Prop) (Ix : Code → World → Prop) (x : α) (W : World) : Exit → Act → World → Prop
  | .normal, _, W' => KeepsOthers W W' ∧ I' x W'
  | .ret, _, W' => KeepsOthers W W' ∧ Ix .ret W'
  | .exit id, _, W' => KeepsOthers W W' ∧ Ix (.exit id) W'
  | .goto t, _, W' => KeepsOthers W W' ∧ Ix (.goto t) W'
  | .panic _, _, _ => False
  | .outgrown, _, _ => False

/-- What an iterator owes: it asks for rounds where I holds; a round that goes on leaves I', one that does not ends all. -/
def SeqEnds {α : Type} (F : Fence) (n : Nat) (P : Program) (gf : Nat) (lb : Array Value) (encs : α → Array Value) (J0 : World → Prop) (I I' : α → World → Prop) : Prop :=
  ∀ (l : Nat) (Bk Bx : World → Prop), (∀ A B, KeepsOthers A B → Bk A → Bk B) →
    (∀ x W, I x W → Bk W → YieldAt F (n - 1) P l (encs x) W fun e W' => (e = .returned (.bool true) ∧ I' x W' ∧ Bk W') ∨ (e = .returned (.bool false) ∧ Bx W')) →
    ∀ W, J0 W → Bk W → CallsIn F n P gf (#[.func (.yield l) #[] #[]] ++ lb) W fun e W' => (∃ v, e = .returned v) ∧ Bx W'

theorem wpIn_rangeFunc_ends {α : Type} {g : Operand} {ps : Array Tmp} {assign body : Code} {Q : Exit → Act → World → Prop} {a : Act} {w : World}
    (hro : F.round = none) (h1 : 1 ≤ n) {gf : Nat} {lb : Array Value} (hg : a.eval g = .func (.func gf) #[] lb) (hFg : F.fn gf) (eg : ∀ args w, (callFunc gf args).run P w = .ok (.enter gf args) w)
    {encs : α → Array Value} (J0 : World → Prop) (I I' : α → World → Prop) (Ix : Code → World → Prop)
    (hseq : SeqEnds F (n - 1) P gf lb encs J0 I I') (hps : ∀ x, (encs x).size = ps.size)
    (hJ0 : OwnFrom w.heap.size (fun (_ : Unit) => J0)) (hI : OwnFrom w.heap.size I) (hI' : OwnFrom w.heap.size I') (hIx : ∀ c, OwnFrom w.heap.size (fun (_ : Unit) => Ix c)) (h0 : J0 w) (a₁ : α → Act)
    (hassign : ∀ (l : Nat) (x : α) (W : World) (K : Act → World → Prop), K (a₁ x) W →
      assign.wpIn (F.inRound l) (n - 1 - 1) P (Exit.then K (fun _ _ _ => False)) { tmps := (ps.zip (encs x)).foldl (fun t (p, v) => t.setIfInBounds p v) a.tmps, defers := [] } W)
    (hbody : ∀ (l : Nat) (x : α) (W : World), I x W → body.wpIn (F.inRound l) (n - 1 - 1) P (rfPost I' Ix x W) (a₁ x) W)
    (hstop : ∀ (D : Nat) (c : Code) (W : World), w.heap.size ≤ D → Ix c W → W.heap[D]? = some (.deferred (some [])) → c.wpIn F n P Q { a with defers := { target := .collected D, args := #[] } :: a.defers } W) :
    (Code.rangeFunc g ps assign body).wpIn F n P Q a w := by
  refine wpIn_rangeFunc ?_
  intro fn hfn
  rw [hro]
  obtain ⟨rec, hrec⟩ : ∃ rec : LoopState → Option Code → Loop, rec = fun st pe => { state := st, pending := pe, fn, tmps := a.tmps, params := ps, assign, body, defers := w.heap.size } := ⟨_, rfl⟩
  obtain ⟨W1, hW1⟩ : ∃ W1, (w.alloc (.deferred (some []))).alloc (.loop (rec .ready none)) = W1 := ⟨_, rfl⟩
  have hL1 : W1.heap[w.heap.size + 1]? = some (.loop (rec .ready none)) := by
    rw [← hW1]; have := World.alloc_heap_new (w.alloc (.deferred (some []))) (.loop (rec .ready none)); rwa [World.size_alloc] at this
  have hK1 : W1.heap[w.heap.size]? = some (.deferred (some [])) := by
    rw [← hW1]; exact (Below.heap_alloc _ _ _ (by simp)).trans (World.alloc_heap_new w _)
  have hI1 : J0 W1 := by rw [← hW1]; exact OwnFrom.alloc (s := ()) hJ0 _ (OwnFrom.alloc (s := ()) hJ0 _ h0)
  refine ⟨w.heap.size + 1, [{ target := .collected w.heap.size, args := #[] }], W1, { target := .fn (.func gf) lb, args := #[.func (.yield (w.heap.size + 1)) #[] #[]] }, W1, gf,
    #[.func (.yield (w.heap.size + 1)) #[] #[]] ++ lb, W1, ?_, ?_, ?_, ?_, fun _ => h1, ?_⟩
  · rw [← hW1, hrec]; exact run_enterLoop_outer _ _ _ _ _
  · simp only [resolve, hg]
    simp [go_sem]
  · intro f' hf'; simp [Target.leads] at hf'; subst hf'; exact hFg
  · simp [invoke, go_sem, eg]
  · refine (hseq (w.heap.size + 1)
      (fun W => W.heap[w.heap.size + 1]? = some (.loop (rec .ready none)) ∧ W.heap[w.heap.size]? = some (.deferred (some [])))
      (fun W => ∃ c, Ix c W ∧ W.heap[w.heap.size + 1]? = some (.loop (rec .done (some c))) ∧ W.heap[w.heap.size]? = some (.deferred (some [])))
      (fun A B hk h => ⟨hk.same _ _ h.1 rfl, hk.same _ _ h.2 rfl⟩) ?_ W1 hI1 ⟨hL1, hK1⟩).mono ?_
    · -- one round
      rintro x W hi ⟨hl, hk⟩
      have hlt : w.heap.size + 1 < W.heap.size := (Array.getElem?_eq_some_iff.1 hl).1
      have hy := run_yield (P := P) (args := encs x) hl (by rw [hrec]; exact hps x)
      rw [hrec] at hy
      refine ⟨fn, _, assign, body, hy, roundIn_of_wpIn hfn (hassign _ x W _ ⟨_, run_beginRound hl (by rw [hrec]), ?_⟩)⟩
      have hl2 : (W.putObj (w.heap.size + 1) (.loop { rec .ready none with state := .busy })).heap[w.heap.size + 1]? = some (.loop { rec .ready none with state := .busy }) := World.putObj_heap_same hlt
      have hk2 : (W.putObj (w.heap.size + 1) (.loop { rec .ready none with state := .busy })).heap[w.heap.size]? = some (.deferred (some [])) := (World.putObj_heap_other (by omega)).trans hk
      refine wpIn_mono (hbody _ x _ (hI.putObj _ hi (by omega) hl rfl)) ?_
      have fin : ∀ (jump : Option Code) (W3 : World), KeepsOthers (W.putObj (w.heap.size + 1) (.loop { rec .ready none with state := .busy })) W3 →
          (Instr.endRound (w.heap.size + 1) jump).run P W3 = .ok (.bool jump.isNone) (W3.putObj (w.heap.size + 1) (.loop (rec (if jump.isNone then .ready else .done) jump))) ∧
          W3.heap[w.heap.size + 1]? = some (.loop { rec .ready none with state := .busy }) ∧
          (W3.putObj (w.heap.size + 1) (.loop (rec (if jump.isNone then .ready else .done) jump))).heap[w.heap.size + 1]? = some (.loop (rec (if jump.isNone then .ready else .done) jump)) ∧
          (W3.putObj (w.heap.size + 1) (.loop (rec (if jump.isNone then .ready else .done) jump))).heap[w.heap.size]? = some (.deferred (some [])) := fun jump W3 hk3 => by
        have hl3 := hk3.same _ _ hl2 rfl
        have := run_endRound (P := P) jump hl3
        rw [hrec] at this ⊢
        exact ⟨this, by rw [hrec] at hl3; exact hl3, World.putObj_heap_same (Array.getElem?_eq_some_iff.1 hl3).1, (World.putObj_heap_other (by omega)).trans (hk3.same _ _ hk2 rfl)⟩
      rintro e a3 W3 hp
      cases e with
      | normal =>
        obtain ⟨hk3, hi3⟩ := hp
        obtain ⟨hr, hl3, hl4, hk4⟩ := fin none W3 hk3
        exact ⟨_, _, hr, .inl ⟨rfl, hI'.putObj _ hi3 (by omega) hl3 rfl, hl4, hk4⟩⟩
      | ret =>
        obtain ⟨hk3, hi3⟩ := hp
        obtain ⟨hr, hl3, hl4, hk4⟩ := fin (some .ret) W3 hk3
        exact ⟨_, _, hr, .inr ⟨rfl, .ret, (hIx _).putObj (s := ()) _ hi3 (by omega) hl3 rfl, hl4, hk4⟩⟩
      | exit id =>
        obtain ⟨hk3, hi3⟩ := hp
        obtain ⟨hr, hl3, hl4, hk4⟩ := fin (some (.exit id)) W3 hk3
        exact ⟨_, _, hr, .inr ⟨rfl, .exit id, (hIx _).putObj (s := ()) _ hi3 (by omega) hl3 rfl, hl4, hk4⟩⟩
      | goto t =>
        obtain ⟨hk3, hi3⟩ := hp
        obtain ⟨hr, hl3, hl4, hk4⟩ := fin (some (.goto t)) W3 hk3
        exact ⟨_, _, hr, .inr ⟨rfl, .goto t, (hIx _).putObj (s := ()) _ hi3 (by omega) hl3 rfl, hl4, hk4⟩⟩
      | panic ch => exact hp.elim
      | outgrown => exact hp.elim
    · -- behind the iterator
      rintro e W2 ⟨⟨v, rfl⟩, c, hi, hl, hk⟩
      exact ⟨some c, _, by have := run_endLoop (P := P) hl (by rw [hrec]; simp); rw [hrec] at this; exact this, hstop _ c _ (Nat.le_refl _) ((hIx c).putObj (s := ()) _ hi (by omega) hl rfl) ((World.putObj_heap_other (by omega)).trans hk)⟩

end Go.Proofs.Ytlaeljkjdfffjaa


/- The walk of narcissusref03.Step: each operation. -/
import Derived.Test.YtaiomcjopgnfpaaRef3F
import Derived.StillTailTactics
namespace Go.Proofs.Ytaiomcjopgnfpaa
open Go.RowKit

/-- A step of the reference went well. -/
def RStepOk (w : World) (T gs : Nat) (s' : St) (rv : Value) (e : Ending) (w' : World) : Prop :=
  ∃ ps', e = .returned (.bool true) ∧ RStP w' T gs s' rv ps' ∧ Below T w w' ∧ Kept 69 w w'
theorem RStP.cells {w : World} {T g gr cp : Nat} {s : St} {ps : List Value} (h : RStP w T g s (.slice (some ⟨gr, 0, none⟩) s.regs.length cp) ps) : w.cell? ⟨g, 0, none⟩ = some (.int .i64 s.pos) ∧ w.cell? ⟨g, 1, none⟩ = some (.slice (some ⟨gr, 0, none⟩) s.regs.length cp) ∧ (∀ j, w.frozen? ⟨g, j, none⟩ = false) ∧
    (∀ j t, s.regs[j]? = some t → ∃ q, w.cell? ⟨gr, j, none⟩ = some (.pointer q) ∧ NodeP 69 w t (.pointer q)) ∧ (∀ j, w.frozen? ⟨gr, j, none⟩ = false) := by
  have c0 := (block_cells h.blk).1 0
  have c1 := (block_cells h.blk).1 1
  simp only [List.getElem?_toArray, List.getElem?_cons_zero, List.getElem?_cons_succ] at c0 c1
  refine ⟨c0, c1, (block_cells h.blk).2, ?_, fun j => ?_⟩
  · intro j t hj
    obtain ⟨v, hv, hn⟩ := h.regs.get hj
    obtain ⟨q, rfl⟩ := hn.ptr
    exact ⟨q, by rw [World.ownsRow.cellAt h.own j (by have := (List.getElem?_eq_some_iff.1 hj).1; omega), hv], hn⟩
  · exact World.ownsRow.frozenAt h.own j

theorem rstep_fin {w wd : World} {T gs gr cp : Nat} {s : St} {ps : List Value} (hs : RStP wd T gs s (.slice (some ⟨gr, 0, none⟩) s.regs.length cp) ps) (hb : Below T w wd) (hk : Kept 69 w wd) (ra : Nat) {t : Tr} {q : Option Addr} (hn : NodeP 69 wd t (.pointer q)) (hgr : T ≤ gr) (z : Int) (p : Nat) (hz : z = p) :
    ∃ ps', RStP ((wd.setCell ⟨gr, ra, none⟩ (.pointer q)).setCell ⟨gs, 0, none⟩ (.int .i64 z)) T gs ⟨p, s.regs.set ra t⟩ (.slice (some ⟨gr, 0, none⟩) s.regs.length cp) ps' ∧ Below T w ((wd.setCell ⟨gr, ra, none⟩ (.pointer q)).setCell ⟨gs, 0, none⟩ (.int .i64 z)) ∧
      Kept 69 w ((wd.setCell ⟨gr, ra, none⟩ (.pointer q)).setCell ⟨gs, 0, none⟩ (.int .i64 z)) := by
  subst hz
  have hrow : ∃ cur, wd.heap[gr]? = some (.cells cur 63 (0, 0)) := by
    rcases hs.own.2 with ⟨h0, _⟩ | ⟨g', cap', cur, hv, _, hg, _⟩
    · cases h0
    · simp only [Value.slice.injEq, Option.some.injEq, Addr.mk.injEq] at hv
      obtain ⟨⟨rfl, -, -⟩, -, -⟩ := hv
      exact ⟨cur, hg⟩
  obtain ⟨cur, hcur⟩ := hrow
  have hne : gs ≠ gr := by
    rintro rfl
    have := hs.blk; rw [hcur] at this
    simp only [Option.some.injEq, Obj.cells.injEq] at this
    exact absurd this.2.1 (by decide)
  have hblk1 : (wd.setCell ⟨gr, ra, none⟩ (.pointer q)).heap[gs]? = some (.cells #[.int .i64 s.pos, .slice (some ⟨gr, 0, none⟩) s.regs.length cp] 121 (0, 0)) := (Below.heap_setCell _ _ _ _ (by show gs ≠ gr; exact hne)).trans hs.blk
  have hk1 : Kept 69 wd (wd.setCell ⟨gr, ra, none⟩ (.pointer q)) := (Kept.refl _ wd).setCell hcur (by decide) _
  have hk2 : Kept 69 wd ((wd.setCell ⟨gr, ra, none⟩ (.pointer q)).setCell ⟨gs, 0, none⟩ (.int .i64 p)) := hk1.setCell hblk1 (by decide) _
  refine ⟨ps.set ra (.pointer q), ⟨set_blk hblk1 0 _, hs.le, (hs.regs.set ra hn).kept hk2, ?_⟩, (hb.setCell (p := ⟨gr, ra, none⟩) hgr _).setCell (p := ⟨gs, 0, none⟩) hs.le _, hk.trans hk2⟩
  rw [List.length_set]
  exact own_kept (own_set hs.own ra _) ((Kept.refl _ _).setCell hblk1 (by decide) _)

theorem rnodeHead_at (t : Tr) (v : Value) (w : World) (h : NodeP 69 w t v) :
    ∃ q, NodeP 69 w t.hd (.pointer q) ∧ ∀ w', Kept 69 w w' → Calls Try.prog 153 #[v] w' fun e w'' => e = .returned (.pointer q) ∧ w'' = w' := by
  cases t with
  | nil =>
    have hv : v = .pointer none := h
    subst hv
    refine ⟨none, rfl, fun w' _ => ?_⟩
    go_enter Try.func153, Try.ntmps153
    go_wp2
    go_ret
    exact ⟨rfl, rfl⟩
  | pair a b =>
    obtain ⟨g, x, y, hv, hg, ha, hb⟩ := h
    obtain ⟨x, rfl⟩ := ha.ptr
    obtain ⟨y, rfl⟩ := hb.ptr
    subst hv
    refine ⟨x, ha, fun w' hk => ?_⟩
    have c0 := (block_cells (hk _ _ hg)).1 0
    have c1 := (block_cells (hk _ _ hg)).1 1
    simp only [List.getElem?_toArray, List.getElem?_cons_zero, List.getElem?_cons_succ] at c0 c1
    clear ha hb hg hk
    go_enter Try.func153, Try.ntmps153
    go_wp2
    go_ret
    exact ⟨rfl, rfl⟩
theorem rnodeTail_at (t : Tr) (v : Value) (w : World) (h : NodeP 69 w t v) :
    ∃ q, NodeP 69 w t.tl (.pointer q) ∧ ∀ w', Kept 69 w w' → Calls Try.prog 154 #[v] w' fun e w'' => e = .returned (.pointer q) ∧ w'' = w' := by
  cases t with
  | nil =>
    have hv : v = .pointer none := h
    subst hv
    refine ⟨none, rfl, fun w' _ => ?_⟩
    go_enter Try.func154, Try.ntmps154
    go_wp2
    go_ret
    exact ⟨rfl, rfl⟩
  | pair a b =>
    obtain ⟨g, x, y, hv, hg, ha, hb⟩ := h
    obtain ⟨x, rfl⟩ := ha.ptr
    obtain ⟨y, rfl⟩ := hb.ptr
    subst hv
    refine ⟨y, hb, fun w' hk => ?_⟩
    have c0 := (block_cells (hk _ _ hg)).1 0
    have c1 := (block_cells (hk _ _ hg)).1 1
    simp only [List.getElem?_toArray, List.getElem?_cons_zero, List.getElem?_cons_succ] at c0 c1
    clear ha hb hg hk
    go_enter Try.func154, Try.ntmps154
    go_wp2
    go_ret
    exact ⟨rfl, rfl⟩
theorem rstep_fin_drew {w w' : World} {T gs : Nat} {s' : St} {rv : Value} (h : ∃ ps', RStP w' T gs s' rv ps' ∧ Below T w w' ∧ Kept 69 w w') : ∃ ps', RStP w'.drew T gs s' rv ps' ∧ Below T w w'.drew ∧ Kept 69 w w'.drew := by
  obtain ⟨ps', h1, h2, h3⟩ := h
  exact ⟨ps', h1.kept (Below.refl _ _).drew, h2.drew, h3.drew⟩
theorem RStepOk.mk' {w : World} {T gs : Nat} {s' : St} {rv : Value} {e : Ending} {w' : World} (he : e = .returned (.bool true)) (h : ∃ ps', RStP w' T gs s' rv ps' ∧ Below T w w' ∧ Kept 69 w w') : RStepOk w T gs s' rv e w' := by
  obtain ⟨ps', h1, h2, h3⟩ := h
  exact ⟨ps', he, h1, h2, h3⟩
theorem RStP.apart {wd : World} {T gs gr cp : Nat} {s : St} {ps : List Value} (hs : RStP wd T gs s (.slice (some ⟨gr, 0, none⟩) s.regs.length cp) ps) : gs ≠ gr := by
  have hrow : ∃ cur, wd.heap[gr]? = some (.cells cur 63 (0, 0)) := by
    rcases hs.own.2 with ⟨h0, _⟩ | ⟨g', cap', cur, hv, _, hg, _⟩
    · cases h0
    · simp only [Value.slice.injEq, Option.some.injEq, Addr.mk.injEq] at hv
      obtain ⟨⟨rfl, -, -⟩, -, -⟩ := hv
      exact ⟨cur, hg⟩
  obtain ⟨cur, hcur⟩ := hrow
  rintro rfl
  have := hs.blk; rw [hcur] at this
  simp only [Option.some.injEq, Obj.cells.injEq] at this
  exact absurd this.2.1 (by decide)
theorem RStP.rlt {wd : World} {T gs gr cp : Nat} {s : St} {ps : List Value} (hs : RStP wd T gs s (.slice (some ⟨gr, 0, none⟩) s.regs.length cp) ps) : gr < wd.heap.size := by
  rcases hs.own.2 with ⟨h0, _⟩ | ⟨g', cap', cur, hv, _, hg, _⟩
  · cases h0
  · simp only [Value.slice.injEq, Option.some.injEq, Addr.mk.injEq] at hv
    obtain ⟨⟨rfl, -, -⟩, -, -⟩ := hv
    exact (Array.getElem?_eq_some_iff.1 hg).1
theorem rstep_jfin {w wd : World} {T gs gr cp : Nat} {s : St} {ps : List Value} (hs : RStP wd T gs s (.slice (some ⟨gr, 0, none⟩) s.regs.length cp) ps) (hb : Below T w wd) (hk : Kept 69 w wd) (z : Int) (p : Nat) (hz : z = p) :
    ∃ ps', RStP (wd.setCell ⟨gs, 0, none⟩ (.int .i64 z)) T gs ⟨p, s.regs⟩ (.slice (some ⟨gr, 0, none⟩) s.regs.length cp) ps' ∧ Below T w (wd.setCell ⟨gs, 0, none⟩ (.int .i64 z)) ∧ Kept 69 w (wd.setCell ⟨gs, 0, none⟩ (.int .i64 z)) := by
  subst hz
  have hk2 : Kept 69 wd (wd.setCell ⟨gs, 0, none⟩ (.int .i64 p)) := (Kept.refl _ wd).setCell hs.blk (by decide) _
  exact ⟨ps, ⟨set_blk hs.blk 0 _, hs.le, hs.regs.kept hk2, own_kept hs.own ((Kept.refl _ _).setCell hs.blk (by decide) _)⟩, hb.setCell (p := ⟨gs, 0, none⟩) hs.le _, hk.trans hk2⟩


set_option maxRecDepth 20000 in
set_option maxHeartbeats 4000000 in
theorem rstep_set (w : World) (T gm gs gr cp : Nat) (l : List Ins) (s : St) (pv tv : Value) (ps : List Value) (hm : RMachP w T gm l pv tv) (hs : RStP w T gs s (.slice (some ⟨gr, 0, none⟩) s.regs.length cp) ps) (hgr : T ≤ gr) (hg : Good l.length s) (hn4 : l.length ≤ 4000) (ra : Nat) (ha : ra < 32) (b c : Int) (tree : ByteArray)
    (hx : l[s.pos]? = some ⟨0, (ra : Nat), b, c, tree⟩) :
    Calls Try.prog 129 #[.pointer (some ⟨gm, 0, none⟩), .pointer (some ⟨gs, 0, none⟩)] w (RStepOk w T gs ⟨s.pos + 1, s.regs.set ra (toTr tree)⟩ (.slice (some ⟨gr, 0, none⟩) s.regs.length cp)) := by
  have hp : s.pos < l.length := (List.getElem?_eq_some_iff.1 hx).1
  obtain ⟨ao, cap, rfl⟩ := hm.prog.len
  have c0 := (block_cells hm.blk).1 0
  simp only [List.getElem?_toArray, List.getElem?_cons_zero] at c0
  have s0 := hs.cells.1
  have hl := hm.prog
  have hlt := hm.lt
  have hgl : gs < w.heap.size := (Array.getElem?_eq_some_iff.1 hs.blk).1
  have hgm : gm < w.heap.size := (Array.getElem?_eq_some_iff.1 hm.blk).1
  have hle := hs.le
  obtain ⟨n, hn'⟩ : ∃ n, l.length = n := ⟨_, rfl⟩
  rw [hn'] at hl c0 hp hn4
  obtain ⟨pg, off, rfl, hpg, p0, p1, p2, p3, p4⟩ := hl.get hx
  dsimp only at p0 p1 p2 p3 p4
  have h32 := hg.2.1
  have HX := Lib.hid hx
  have HN := Lib.hid hn'
  have hi0 : (0 : Int) ≤ (s.pos : Int) := Int.natCast_nonneg _
  have hi1 : (s.pos : Int) < (n : Int) := by omega
  obtain ⟨wd, hwd⟩ : ∃ wd, (w.alloc (.cells #[.int .i64 (0), .int .i64 (ra : Nat), .int .i64 (b), .int .i64 (c), .string tree] 52)).drew = wd := ⟨_, rfl⟩
  have hbd : Below w.heap.size w wd := by rw [← hwd]; exact ((Below.refl _ _).alloc (Nat.le_refl _) _).drew
  have hbox : wd.heap[w.heap.size]? = some (.cells #[.int .i64 (0), .int .i64 (ra : Nat), .int .i64 (b), .int .i64 (c), .string tree] 52 (0, 0)) := by rw [← hwd]; exact heap_alloc_new w _
  have keep : ∀ w', Below w.heap.size w w' → w'.cell? ⟨gm, 0, none⟩ = some (.slice (some ⟨pg, off, none⟩) n cap) ∧ w'.cell? ⟨gs, 0, none⟩ = some (.int .i64 s.pos) ∧ w'.cell? ⟨pg, off + s.pos * 5, none⟩ = some (.int .i64 (0)) ∧ w'.cell? ⟨pg, off + s.pos * 5 + 1, none⟩ = some (.int .i64 (ra : Nat)) ∧
      w'.cell? ⟨pg, off + s.pos * 5 + 2, none⟩ = some (.int .i64 (b)) ∧ w'.cell? ⟨pg, off + s.pos * 5 + 3, none⟩ = some (.int .i64 (c)) ∧ w'.cell? ⟨pg, off + s.pos * 5 + 4, none⟩ = some (.string tree) := fun w' hb => by
    refine ⟨(hb.cell (p := ⟨gm, 0, none⟩) hgm).trans c0, (hb.cell (p := ⟨gs, 0, none⟩) hgl).trans s0, (hb.cell (p := ⟨pg, off + s.pos * 5, none⟩) (by show pg < _; omega)).trans p0, (hb.cell (p := ⟨pg, off + s.pos * 5 + 1, none⟩) (by show pg < _; omega)).trans p1, (hb.cell (p := ⟨pg, off + s.pos * 5 + 2, none⟩) (by show pg < _; omega)).trans p2, (hb.cell (p := ⟨pg, off + s.pos * 5 + 3, none⟩) (by show pg < _; omega)).trans p3, (hb.cell (p := ⟨pg, off + s.pos * 5 + 4, none⟩) (by show pg < _; omega)).trans p4⟩
  have hsd := hs.kept hbd
  obtain ⟨d0, d1, df, dr, drf⟩ := hsd.cells
  have kkd := Kept.below hbd (T := 69)
  have e0 := (block_cells hbox).1 0
  have e1 := (block_cells hbox).1 1
  have e2 := (block_cells hbox).1 2
  have e3 := (block_cells hbox).1 3
  simp only [List.getElem?_toArray, List.getElem?_cons_zero, List.getElem?_cons_succ] at e0 e1 e2 e3
  have hbl : w.heap.size < wd.heap.size := (Array.getElem?_eq_some_iff.1 hbox).1
  have hbT : Below T w wd := hbd.mono (by omega)
  have HSD := Lib.hid hsd
  have hap1 : ¬ gs = gr := hsd.apart
  have hap2 : ¬ gr = gs := fun h => hap1 h.symm
  have hrl := hsd.rlt
  rw [h32] at d1
  clear hsd hbox
  obtain ⟨tra, htra⟩ : ∃ t, s.regs[ra]? = some t := ⟨_, List.getElem?_eq_getElem (by omega)⟩
  obtain ⟨qra, fra, nra⟩ := dr ra tra htra
  have zra := drf ra
  obtain ⟨xs, base, hxs, hown, hob⟩ := hm.sets
  obtain ⟨v0, hv0, hnv⟩ := hxs.get (j := s.pos) (t := toTr tree) (by rw [List.getElem?_map, hx]; rfl)
  obtain ⟨sp, rfl⟩ := hnv.ptr
  have hnd := hnv.kept kkd
  rw [hn'] at hown
  have hown' := own_below hown hbd
  obtain ⟨sg, scp, rfl, hsr⟩ := own_cells hown' (by omega)
  have hm1 := (block_cells hm.blk).1 1
  simp only [List.getElem?_toArray, List.getElem?_cons_zero, List.getElem?_cons_succ] at hm1
  have gm1 := (hbd.cell (p := ⟨gm, 1, none⟩) hgm).trans hm1

  clear hm hs hg hl hx hn' hle hpg
  go_enter Try.func129, Try.ntmps129
  go_wp2
  go_region_held3 (fun w' => w'.cell? ⟨gm, 0, none⟩ = some (.slice (some ⟨pg, off, none⟩) n cap) ∧ w'.cell? ⟨gs, 0, none⟩ = some (.int .i64 s.pos) ∧ w'.cell? ⟨pg, off + s.pos * 5, none⟩ = some (.int .i64 (0)) ∧ w'.cell? ⟨pg, off + s.pos * 5 + 1, none⟩ = some (.int .i64 (ra : Nat)) ∧
      w'.cell? ⟨pg, off + s.pos * 5 + 2, none⟩ = some (.int .i64 (b)) ∧ w'.cell? ⟨pg, off + s.pos * 5 + 3, none⟩ = some (.int .i64 (c)) ∧ w'.cell? ⟨pg, off + s.pos * 5 + 4, none⟩ = some (.string tree))
    (exact keep _ (by first | exact hbd | exact (Below.refl _ _).drew | exact ((Below.refl _ _).drew).alloc (Nat.le_refl _) _))
    (fail)
  try rw [hwd]
  clear keep hwd p0 p1 p2 p3 p4 c0 s0
  have hset : wd.cell? ⟨sg, s.pos, none⟩ = some (.pointer sp) := by rw [hsr.2.2.2.2.1 s.pos (by omega), hv0]
  have HND := Lib.hid hnd
  have df0 := df 0
  clear dr df drf hsr hnd hnv hxs hown hown' hob hm1 nra
  go_wp2
  go_region
  go_wp2
  go_ret
  refine RStepOk.mk' rfl ?_
  first
  | exact rstep_fin_drew (rstep_fin HSD.out hbT kkd ra HND.out hgr _ _ (by omega))
  | exact rstep_fin (HSD.out.kept (Below.refl _ _).drew) hbT.drew kkd.drew ra (HND.out.kept (Kept.refl _ _).drew) hgr _ _ (by omega)

set_option maxRecDepth 20000 in
set_option maxHeartbeats 4000000 in
theorem rstep_move (w : World) (T gm gs gr cp : Nat) (l : List Ins) (s : St) (pv tv : Value) (ps : List Value) (hm : RMachP w T gm l pv tv) (hs : RStP w T gs s (.slice (some ⟨gr, 0, none⟩) s.regs.length cp) ps) (hgr : T ≤ gr) (hg : Good l.length s) (hn4 : l.length ≤ 4000) (ra : Nat) (ha : ra < 32) (rb : Nat) (hb : rb < 32) (t : Tr) (ht : s.regs[rb]? = some t) (c : Int) (tree : ByteArray)
    (hx : l[s.pos]? = some ⟨1, (ra : Nat), (rb : Nat), c, tree⟩) :
    Calls Try.prog 129 #[.pointer (some ⟨gm, 0, none⟩), .pointer (some ⟨gs, 0, none⟩)] w (RStepOk w T gs ⟨s.pos + 1, s.regs.set ra t⟩ (.slice (some ⟨gr, 0, none⟩) s.regs.length cp)) := by
  have hp : s.pos < l.length := (List.getElem?_eq_some_iff.1 hx).1
  obtain ⟨ao, cap, rfl⟩ := hm.prog.len
  have c0 := (block_cells hm.blk).1 0
  simp only [List.getElem?_toArray, List.getElem?_cons_zero] at c0
  have s0 := hs.cells.1
  have hl := hm.prog
  have hlt := hm.lt
  have hgl : gs < w.heap.size := (Array.getElem?_eq_some_iff.1 hs.blk).1
  have hgm : gm < w.heap.size := (Array.getElem?_eq_some_iff.1 hm.blk).1
  have hle := hs.le
  obtain ⟨n, hn'⟩ : ∃ n, l.length = n := ⟨_, rfl⟩
  rw [hn'] at hl c0 hp hn4
  obtain ⟨pg, off, rfl, hpg, p0, p1, p2, p3, p4⟩ := hl.get hx
  dsimp only at p0 p1 p2 p3 p4
  have h32 := hg.2.1
  have HX := Lib.hid hx
  have HN := Lib.hid hn'
  have hi0 : (0 : Int) ≤ (s.pos : Int) := Int.natCast_nonneg _
  have hi1 : (s.pos : Int) < (n : Int) := by omega
  obtain ⟨wd, hwd⟩ : ∃ wd, (w.alloc (.cells #[.int .i64 (1), .int .i64 (ra : Nat), .int .i64 (rb : Nat), .int .i64 (c), .string tree] 52)).drew = wd := ⟨_, rfl⟩
  have hbd : Below w.heap.size w wd := by rw [← hwd]; exact ((Below.refl _ _).alloc (Nat.le_refl _) _).drew
  have hbox : wd.heap[w.heap.size]? = some (.cells #[.int .i64 (1), .int .i64 (ra : Nat), .int .i64 (rb : Nat), .int .i64 (c), .string tree] 52 (0, 0)) := by rw [← hwd]; exact heap_alloc_new w _
  have keep : ∀ w', Below w.heap.size w w' → w'.cell? ⟨gm, 0, none⟩ = some (.slice (some ⟨pg, off, none⟩) n cap) ∧ w'.cell? ⟨gs, 0, none⟩ = some (.int .i64 s.pos) ∧ w'.cell? ⟨pg, off + s.pos * 5, none⟩ = some (.int .i64 (1)) ∧ w'.cell? ⟨pg, off + s.pos * 5 + 1, none⟩ = some (.int .i64 (ra : Nat)) ∧
      w'.cell? ⟨pg, off + s.pos * 5 + 2, none⟩ = some (.int .i64 (rb : Nat)) ∧ w'.cell? ⟨pg, off + s.pos * 5 + 3, none⟩ = some (.int .i64 (c)) ∧ w'.cell? ⟨pg, off + s.pos * 5 + 4, none⟩ = some (.string tree) := fun w' hb => by
    refine ⟨(hb.cell (p := ⟨gm, 0, none⟩) hgm).trans c0, (hb.cell (p := ⟨gs, 0, none⟩) hgl).trans s0, (hb.cell (p := ⟨pg, off + s.pos * 5, none⟩) (by show pg < _; omega)).trans p0, (hb.cell (p := ⟨pg, off + s.pos * 5 + 1, none⟩) (by show pg < _; omega)).trans p1, (hb.cell (p := ⟨pg, off + s.pos * 5 + 2, none⟩) (by show pg < _; omega)).trans p2, (hb.cell (p := ⟨pg, off + s.pos * 5 + 3, none⟩) (by show pg < _; omega)).trans p3, (hb.cell (p := ⟨pg, off + s.pos * 5 + 4, none⟩) (by show pg < _; omega)).trans p4⟩
  have hsd := hs.kept hbd
  obtain ⟨d0, d1, df, dr, drf⟩ := hsd.cells
  have kkd := Kept.below hbd (T := 69)
  have e0 := (block_cells hbox).1 0
  have e1 := (block_cells hbox).1 1
  have e2 := (block_cells hbox).1 2
  have e3 := (block_cells hbox).1 3
  simp only [List.getElem?_toArray, List.getElem?_cons_zero, List.getElem?_cons_succ] at e0 e1 e2 e3
  have hbl : w.heap.size < wd.heap.size := (Array.getElem?_eq_some_iff.1 hbox).1
  have hbT : Below T w wd := hbd.mono (by omega)
  have HSD := Lib.hid hsd
  have hap1 : ¬ gs = gr := hsd.apart
  have hap2 : ¬ gr = gs := fun h => hap1 h.symm
  have hrl := hsd.rlt
  rw [h32] at d1
  clear hsd hbox
  obtain ⟨tra, htra⟩ : ∃ t, s.regs[ra]? = some t := ⟨_, List.getElem?_eq_getElem (by omega)⟩
  obtain ⟨qra, fra, nra⟩ := dr ra tra htra
  have zra := drf ra
  obtain ⟨qb, fb, nb⟩ := dr rb t ht

  clear hm hs hg hl hx hn' hle hpg
  go_enter Try.func129, Try.ntmps129
  go_wp2
  go_region_held3 (fun w' => w'.cell? ⟨gm, 0, none⟩ = some (.slice (some ⟨pg, off, none⟩) n cap) ∧ w'.cell? ⟨gs, 0, none⟩ = some (.int .i64 s.pos) ∧ w'.cell? ⟨pg, off + s.pos * 5, none⟩ = some (.int .i64 (1)) ∧ w'.cell? ⟨pg, off + s.pos * 5 + 1, none⟩ = some (.int .i64 (ra : Nat)) ∧
      w'.cell? ⟨pg, off + s.pos * 5 + 2, none⟩ = some (.int .i64 (rb : Nat)) ∧ w'.cell? ⟨pg, off + s.pos * 5 + 3, none⟩ = some (.int .i64 (c)) ∧ w'.cell? ⟨pg, off + s.pos * 5 + 4, none⟩ = some (.string tree))
    (exact keep _ (by first | exact hbd | exact (Below.refl _ _).drew | exact ((Below.refl _ _).drew).alloc (Nat.le_refl _) _))
    (fail)
  try rw [hwd]
  clear keep hwd p0 p1 p2 p3 p4 c0 s0
  have HND := Lib.hid nb
  have df0 := df 0
  clear dr df drf nb nra
  go_wp2
  go_region
  go_wp2
  go_ret
  refine RStepOk.mk' rfl ?_
  first
  | exact rstep_fin_drew (rstep_fin HSD.out hbT kkd ra HND.out hgr _ _ (by omega))
  | exact rstep_fin (HSD.out.kept (Below.refl _ _).drew) hbT.drew kkd.drew ra (HND.out.kept (Kept.refl _ _).drew) hgr _ _ (by omega)

set_option maxRecDepth 20000 in
set_option maxHeartbeats 4000000 in
theorem rstep_head (w : World) (T gm gs gr cp : Nat) (l : List Ins) (s : St) (pv tv : Value) (ps : List Value) (hm : RMachP w T gm l pv tv) (hs : RStP w T gs s (.slice (some ⟨gr, 0, none⟩) s.regs.length cp) ps) (hgr : T ≤ gr) (hg : Good l.length s) (hn4 : l.length ≤ 4000) (ra : Nat) (ha : ra < 32) (rb : Nat) (hb : rb < 32) (t : Tr) (ht : s.regs[rb]? = some t) (c : Int) (tree : ByteArray)
    (hx : l[s.pos]? = some ⟨3, (ra : Nat), (rb : Nat), c, tree⟩) :
    Calls Try.prog 129 #[.pointer (some ⟨gm, 0, none⟩), .pointer (some ⟨gs, 0, none⟩)] w (RStepOk w T gs ⟨s.pos + 1, s.regs.set ra t.hd⟩ (.slice (some ⟨gr, 0, none⟩) s.regs.length cp)) := by
  have hp : s.pos < l.length := (List.getElem?_eq_some_iff.1 hx).1
  obtain ⟨ao, cap, rfl⟩ := hm.prog.len
  have c0 := (block_cells hm.blk).1 0
  simp only [List.getElem?_toArray, List.getElem?_cons_zero] at c0
  have s0 := hs.cells.1
  have hl := hm.prog
  have hlt := hm.lt
  have hgl : gs < w.heap.size := (Array.getElem?_eq_some_iff.1 hs.blk).1
  have hgm : gm < w.heap.size := (Array.getElem?_eq_some_iff.1 hm.blk).1
  have hle := hs.le
  obtain ⟨n, hn'⟩ : ∃ n, l.length = n := ⟨_, rfl⟩
  rw [hn'] at hl c0 hp hn4
  obtain ⟨pg, off, rfl, hpg, p0, p1, p2, p3, p4⟩ := hl.get hx
  dsimp only at p0 p1 p2 p3 p4
  have h32 := hg.2.1
  have HX := Lib.hid hx
  have HN := Lib.hid hn'
  have hi0 : (0 : Int) ≤ (s.pos : Int) := Int.natCast_nonneg _
  have hi1 : (s.pos : Int) < (n : Int) := by omega
  obtain ⟨wd, hwd⟩ : ∃ wd, (w.alloc (.cells #[.int .i64 (3), .int .i64 (ra : Nat), .int .i64 (rb : Nat), .int .i64 (c), .string tree] 52)).drew = wd := ⟨_, rfl⟩
  have hbd : Below w.heap.size w wd := by rw [← hwd]; exact ((Below.refl _ _).alloc (Nat.le_refl _) _).drew
  have hbox : wd.heap[w.heap.size]? = some (.cells #[.int .i64 (3), .int .i64 (ra : Nat), .int .i64 (rb : Nat), .int .i64 (c), .string tree] 52 (0, 0)) := by rw [← hwd]; exact heap_alloc_new w _
  have keep : ∀ w', Below w.heap.size w w' → w'.cell? ⟨gm, 0, none⟩ = some (.slice (some ⟨pg, off, none⟩) n cap) ∧ w'.cell? ⟨gs, 0, none⟩ = some (.int .i64 s.pos) ∧ w'.cell? ⟨pg, off + s.pos * 5, none⟩ = some (.int .i64 (3)) ∧ w'.cell? ⟨pg, off + s.pos * 5 + 1, none⟩ = some (.int .i64 (ra : Nat)) ∧
      w'.cell? ⟨pg, off + s.pos * 5 + 2, none⟩ = some (.int .i64 (rb : Nat)) ∧ w'.cell? ⟨pg, off + s.pos * 5 + 3, none⟩ = some (.int .i64 (c)) ∧ w'.cell? ⟨pg, off + s.pos * 5 + 4, none⟩ = some (.string tree) := fun w' hb => by
    refine ⟨(hb.cell (p := ⟨gm, 0, none⟩) hgm).trans c0, (hb.cell (p := ⟨gs, 0, none⟩) hgl).trans s0, (hb.cell (p := ⟨pg, off + s.pos * 5, none⟩) (by show pg < _; omega)).trans p0, (hb.cell (p := ⟨pg, off + s.pos * 5 + 1, none⟩) (by show pg < _; omega)).trans p1, (hb.cell (p := ⟨pg, off + s.pos * 5 + 2, none⟩) (by show pg < _; omega)).trans p2, (hb.cell (p := ⟨pg, off + s.pos * 5 + 3, none⟩) (by show pg < _; omega)).trans p3, (hb.cell (p := ⟨pg, off + s.pos * 5 + 4, none⟩) (by show pg < _; omega)).trans p4⟩
  have hsd := hs.kept hbd
  obtain ⟨d0, d1, df, dr, drf⟩ := hsd.cells
  have kkd := Kept.below hbd (T := 69)
  have e0 := (block_cells hbox).1 0
  have e1 := (block_cells hbox).1 1
  have e2 := (block_cells hbox).1 2
  have e3 := (block_cells hbox).1 3
  simp only [List.getElem?_toArray, List.getElem?_cons_zero, List.getElem?_cons_succ] at e0 e1 e2 e3
  have hbl : w.heap.size < wd.heap.size := (Array.getElem?_eq_some_iff.1 hbox).1
  have hbT : Below T w wd := hbd.mono (by omega)
  have HSD := Lib.hid hsd
  have hap1 : ¬ gs = gr := hsd.apart
  have hap2 : ¬ gr = gs := fun h => hap1 h.symm
  have hrl := hsd.rlt
  rw [h32] at d1
  clear hsd hbox
  obtain ⟨tra, htra⟩ : ∃ t, s.regs[ra]? = some t := ⟨_, List.getElem?_eq_getElem (by omega)⟩
  obtain ⟨qra, fra, nra⟩ := dr ra tra htra
  have zra := drf ra
  obtain ⟨qb, fb, nb⟩ := dr rb t ht

  clear hm hs hg hl hx hn' hle hpg
  go_enter Try.func129, Try.ntmps129
  go_wp2
  go_region_held3 (fun w' => w'.cell? ⟨gm, 0, none⟩ = some (.slice (some ⟨pg, off, none⟩) n cap) ∧ w'.cell? ⟨gs, 0, none⟩ = some (.int .i64 s.pos) ∧ w'.cell? ⟨pg, off + s.pos * 5, none⟩ = some (.int .i64 (3)) ∧ w'.cell? ⟨pg, off + s.pos * 5 + 1, none⟩ = some (.int .i64 (ra : Nat)) ∧
      w'.cell? ⟨pg, off + s.pos * 5 + 2, none⟩ = some (.int .i64 (rb : Nat)) ∧ w'.cell? ⟨pg, off + s.pos * 5 + 3, none⟩ = some (.int .i64 (c)) ∧ w'.cell? ⟨pg, off + s.pos * 5 + 4, none⟩ = some (.string tree))
    (exact keep _ (by first | exact hbd | exact (Below.refl _ _).drew | exact ((Below.refl _ _).drew).alloc (Nat.le_refl _) _))
    (fail)
  try rw [hwd]
  clear keep hwd p0 p1 p2 p3 p4 c0 s0
  obtain ⟨xq, nxq, kx⟩ := rnodeHead_at t _ wd nb
  have kx1 := kx wd.drew (Kept.refl _ _).drew
  have HND := Lib.hid nxq
  have df0 := df 0
  have ib0 : (0 : Int) ≤ (rb : Int) := Int.natCast_nonneg _
  have ib1 : (rb : Int) < 32 := by omega
  have ia0 : (0 : Int) ≤ (ra : Int) := Int.natCast_nonneg _
  have ia1 : (ra : Int) < 32 := by omega
  clear dr df drf nb nra nxq kx
  go_wp2
  refine wp_region_still_tail 16 (by kernel_rfl) (by kernel_rfl) ?_
  simp only [List.take_succ_cons, List.take_zero, List.drop_succ_cons, List.drop_zero]
  repeat still_step
  still_call kx1
  repeat still_step
  try refine wpStill_nil ?_
  go_wp2
  go_ret
  refine RStepOk.mk' rfl ?_
  first
  | exact rstep_fin_drew (rstep_fin HSD.out hbT kkd ra HND.out hgr _ _ (by omega))
  | exact rstep_fin (HSD.out.kept (Below.refl _ _).drew) hbT.drew kkd.drew ra (HND.out.kept (Kept.refl _ _).drew) hgr _ _ (by omega)

set_option maxRecDepth 20000 in
set_option maxHeartbeats 4000000 in
theorem rstep_tail (w : World) (T gm gs gr cp : Nat) (l : List Ins) (s : St) (pv tv : Value) (ps : List Value) (hm : RMachP w T gm l pv tv) (hs : RStP w T gs s (.slice (some ⟨gr, 0, none⟩) s.regs.length cp) ps) (hgr : T ≤ gr) (hg : Good l.length s) (hn4 : l.length ≤ 4000) (ra : Nat) (ha : ra < 32) (rb : Nat) (hb : rb < 32) (t : Tr) (ht : s.regs[rb]? = some t) (c : Int) (tree : ByteArray)
    (hx : l[s.pos]? = some ⟨4, (ra : Nat), (rb : Nat), c, tree⟩) :
    Calls Try.prog 129 #[.pointer (some ⟨gm, 0, none⟩), .pointer (some ⟨gs, 0, none⟩)] w (RStepOk w T gs ⟨s.pos + 1, s.regs.set ra t.tl⟩ (.slice (some ⟨gr, 0, none⟩) s.regs.length cp)) := by
  have hp : s.pos < l.length := (List.getElem?_eq_some_iff.1 hx).1
  obtain ⟨ao, cap, rfl⟩ := hm.prog.len
  have c0 := (block_cells hm.blk).1 0
  simp only [List.getElem?_toArray, List.getElem?_cons_zero] at c0
  have s0 := hs.cells.1
  have hl := hm.prog
  have hlt := hm.lt
  have hgl : gs < w.heap.size := (Array.getElem?_eq_some_iff.1 hs.blk).1
  have hgm : gm < w.heap.size := (Array.getElem?_eq_some_iff.1 hm.blk).1
  have hle := hs.le
  obtain ⟨n, hn'⟩ : ∃ n, l.length = n := ⟨_, rfl⟩
  rw [hn'] at hl c0 hp hn4
  obtain ⟨pg, off, rfl, hpg, p0, p1, p2, p3, p4⟩ := hl.get hx
  dsimp only at p0 p1 p2 p3 p4
  have h32 := hg.2.1
  have HX := Lib.hid hx
  have HN := Lib.hid hn'
  have hi0 : (0 : Int) ≤ (s.pos : Int) := Int.natCast_nonneg _
  have hi1 : (s.pos : Int) < (n : Int) := by omega
  obtain ⟨wd, hwd⟩ : ∃ wd, (w.alloc (.cells #[.int .i64 (4), .int .i64 (ra : Nat), .int .i64 (rb : Nat), .int .i64 (c), .string tree] 52)).drew = wd := ⟨_, rfl⟩
  have hbd : Below w.heap.size w wd := by rw [← hwd]; exact ((Below.refl _ _).alloc (Nat.le_refl _) _).drew
  have hbox : wd.heap[w.heap.size]? = some (.cells #[.int .i64 (4), .int .i64 (ra : Nat), .int .i64 (rb : Nat), .int .i64 (c), .string tree] 52 (0, 0)) := by rw [← hwd]; exact heap_alloc_new w _
  have keep : ∀ w', Below w.heap.size w w' → w'.cell? ⟨gm, 0, none⟩ = some (.slice (some ⟨pg, off, none⟩) n cap) ∧ w'.cell? ⟨gs, 0, none⟩ = some (.int .i64 s.pos) ∧ w'.cell? ⟨pg, off + s.pos * 5, none⟩ = some (.int .i64 (4)) ∧ w'.cell? ⟨pg, off + s.pos * 5 + 1, none⟩ = some (.int .i64 (ra : Nat)) ∧
      w'.cell? ⟨pg, off + s.pos * 5 + 2, none⟩ = some (.int .i64 (rb : Nat)) ∧ w'.cell? ⟨pg, off + s.pos * 5 + 3, none⟩ = some (.int .i64 (c)) ∧ w'.cell? ⟨pg, off + s.pos * 5 + 4, none⟩ = some (.string tree) := fun w' hb => by
    refine ⟨(hb.cell (p := ⟨gm, 0, none⟩) hgm).trans c0, (hb.cell (p := ⟨gs, 0, none⟩) hgl).trans s0, (hb.cell (p := ⟨pg, off + s.pos * 5, none⟩) (by show pg < _; omega)).trans p0, (hb.cell (p := ⟨pg, off + s.pos * 5 + 1, none⟩) (by show pg < _; omega)).trans p1, (hb.cell (p := ⟨pg, off + s.pos * 5 + 2, none⟩) (by show pg < _; omega)).trans p2, (hb.cell (p := ⟨pg, off + s.pos * 5 + 3, none⟩) (by show pg < _; omega)).trans p3, (hb.cell (p := ⟨pg, off + s.pos * 5 + 4, none⟩) (by show pg < _; omega)).trans p4⟩
  have hsd := hs.kept hbd
  obtain ⟨d0, d1, df, dr, drf⟩ := hsd.cells
  have kkd := Kept.below hbd (T := 69)
  have e0 := (block_cells hbox).1 0
  have e1 := (block_cells hbox).1 1
  have e2 := (block_cells hbox).1 2
  have e3 := (block_cells hbox).1 3
  simp only [List.getElem?_toArray, List.getElem?_cons_zero, List.getElem?_cons_succ] at e0 e1 e2 e3
  have hbl : w.heap.size < wd.heap.size := (Array.getElem?_eq_some_iff.1 hbox).1
  have hbT : Below T w wd := hbd.mono (by omega)
  have HSD := Lib.hid hsd
  have hap1 : ¬ gs = gr := hsd.apart
  have hap2 : ¬ gr = gs := fun h => hap1 h.symm
  have hrl := hsd.rlt
  rw [h32] at d1
  clear hsd hbox
  obtain ⟨tra, htra⟩ : ∃ t, s.regs[ra]? = some t := ⟨_, List.getElem?_eq_getElem (by omega)⟩
  obtain ⟨qra, fra, nra⟩ := dr ra tra htra
  have zra := drf ra
  obtain ⟨qb, fb, nb⟩ := dr rb t ht

  clear hm hs hg hl hx hn' hle hpg
  go_enter Try.func129, Try.ntmps129
  go_wp2
  go_region_held3 (fun w' => w'.cell? ⟨gm, 0, none⟩ = some (.slice (some ⟨pg, off, none⟩) n cap) ∧ w'.cell? ⟨gs, 0, none⟩ = some (.int .i64 s.pos) ∧ w'.cell? ⟨pg, off + s.pos * 5, none⟩ = some (.int .i64 (4)) ∧ w'.cell? ⟨pg, off + s.pos * 5 + 1, none⟩ = some (.int .i64 (ra : Nat)) ∧
      w'.cell? ⟨pg, off + s.pos * 5 + 2, none⟩ = some (.int .i64 (rb : Nat)) ∧ w'.cell? ⟨pg, off + s.pos * 5 + 3, none⟩ = some (.int .i64 (c)) ∧ w'.cell? ⟨pg, off + s.pos * 5 + 4, none⟩ = some (.string tree))
    (exact keep _ (by first | exact hbd | exact (Below.refl _ _).drew | exact ((Below.refl _ _).drew).alloc (Nat.le_refl _) _))
    (fail)
  try rw [hwd]
  clear keep hwd p0 p1 p2 p3 p4 c0 s0
  obtain ⟨xq, nxq, kx⟩ := rnodeTail_at t _ wd nb
  have kx1 := kx wd.drew (Kept.refl _ _).drew
  have HND := Lib.hid nxq
  have df0 := df 0
  have ib0 : (0 : Int) ≤ (rb : Int) := Int.natCast_nonneg _
  have ib1 : (rb : Int) < 32 := by omega
  have ia0 : (0 : Int) ≤ (ra : Int) := Int.natCast_nonneg _
  have ia1 : (ra : Int) < 32 := by omega
  clear dr df drf nb nra nxq kx
  go_wp2
  refine wp_region_still_tail 16 (by kernel_rfl) (by kernel_rfl) ?_
  simp only [List.take_succ_cons, List.take_zero, List.drop_succ_cons, List.drop_zero]
  repeat still_step
  still_call kx1
  repeat still_step
  try refine wpStill_nil ?_
  go_wp2
  go_ret
  refine RStepOk.mk' rfl ?_
  first
  | exact rstep_fin_drew (rstep_fin HSD.out hbT kkd ra HND.out hgr _ _ (by omega))
  | exact rstep_fin (HSD.out.kept (Below.refl _ _).drew) hbT.drew kkd.drew ra (HND.out.kept (Kept.refl _ _).drew) hgr _ _ (by omega)

set_option maxRecDepth 20000 in
set_option maxHeartbeats 4000000 in
theorem rstep_cons_ok (w : World) (T gm gs gr cp : Nat) (l : List Ins) (s : St) (pv tv : Value) (ps : List Value) (hm : RMachP w T gm l pv tv) (hs : RStP w T gs s (.slice (some ⟨gr, 0, none⟩) s.regs.length cp) ps) (hgr : T ≤ gr) (hg : Good l.length s) (hn4 : l.length ≤ 4000) (ra : Nat) (ha : ra < 32) (rb : Nat) (hb : rb < 32) (rc : Nat) (hc : rc < 32) (t : Tr) (ht : s.regs[rb]? = some t) (u : Tr) (hu : s.regs[rc]? = some u) (tree : ByteArray) (hsz : (Tr.pair t u).size ≤ 2000000)
    (hx : l[s.pos]? = some ⟨2, (ra : Nat), (rb : Nat), (rc : Nat), tree⟩) :
    Calls Try.prog 129 #[.pointer (some ⟨gm, 0, none⟩), .pointer (some ⟨gs, 0, none⟩)] w (RStepOk w T gs ⟨s.pos + 1, s.regs.set ra (.pair t u)⟩ (.slice (some ⟨gr, 0, none⟩) s.regs.length cp)) := by
  have hp : s.pos < l.length := (List.getElem?_eq_some_iff.1 hx).1
  obtain ⟨ao, cap, rfl⟩ := hm.prog.len
  have c0 := (block_cells hm.blk).1 0
  simp only [List.getElem?_toArray, List.getElem?_cons_zero] at c0
  have s0 := hs.cells.1
  have hl := hm.prog
  have hlt := hm.lt
  have hgl : gs < w.heap.size := (Array.getElem?_eq_some_iff.1 hs.blk).1
  have hgm : gm < w.heap.size := (Array.getElem?_eq_some_iff.1 hm.blk).1
  have hle := hs.le
  obtain ⟨n, hn'⟩ : ∃ n, l.length = n := ⟨_, rfl⟩
  rw [hn'] at hl c0 hp hn4
  obtain ⟨pg, off, rfl, hpg, p0, p1, p2, p3, p4⟩ := hl.get hx
  dsimp only at p0 p1 p2 p3 p4
  have h32 := hg.2.1
  have HX := Lib.hid hx
  have HN := Lib.hid hn'
  have hi0 : (0 : Int) ≤ (s.pos : Int) := Int.natCast_nonneg _
  have hi1 : (s.pos : Int) < (n : Int) := by omega
  obtain ⟨wd, hwd⟩ : ∃ wd, (w.alloc (.cells #[.int .i64 (2), .int .i64 (ra : Nat), .int .i64 (rb : Nat), .int .i64 (rc : Nat), .string tree] 52)).drew = wd := ⟨_, rfl⟩
  have hbd : Below w.heap.size w wd := by rw [← hwd]; exact ((Below.refl _ _).alloc (Nat.le_refl _) _).drew
  have hbox : wd.heap[w.heap.size]? = some (.cells #[.int .i64 (2), .int .i64 (ra : Nat), .int .i64 (rb : Nat), .int .i64 (rc : Nat), .string tree] 52 (0, 0)) := by rw [← hwd]; exact heap_alloc_new w _
  have keep : ∀ w', Below w.heap.size w w' → w'.cell? ⟨gm, 0, none⟩ = some (.slice (some ⟨pg, off, none⟩) n cap) ∧ w'.cell? ⟨gs, 0, none⟩ = some (.int .i64 s.pos) ∧ w'.cell? ⟨pg, off + s.pos * 5, none⟩ = some (.int .i64 (2)) ∧ w'.cell? ⟨pg, off + s.pos * 5 + 1, none⟩ = some (.int .i64 (ra : Nat)) ∧
      w'.cell? ⟨pg, off + s.pos * 5 + 2, none⟩ = some (.int .i64 (rb : Nat)) ∧ w'.cell? ⟨pg, off + s.pos * 5 + 3, none⟩ = some (.int .i64 (rc : Nat)) ∧ w'.cell? ⟨pg, off + s.pos * 5 + 4, none⟩ = some (.string tree) := fun w' hb => by
    refine ⟨(hb.cell (p := ⟨gm, 0, none⟩) hgm).trans c0, (hb.cell (p := ⟨gs, 0, none⟩) hgl).trans s0, (hb.cell (p := ⟨pg, off + s.pos * 5, none⟩) (by show pg < _; omega)).trans p0, (hb.cell (p := ⟨pg, off + s.pos * 5 + 1, none⟩) (by show pg < _; omega)).trans p1, (hb.cell (p := ⟨pg, off + s.pos * 5 + 2, none⟩) (by show pg < _; omega)).trans p2, (hb.cell (p := ⟨pg, off + s.pos * 5 + 3, none⟩) (by show pg < _; omega)).trans p3, (hb.cell (p := ⟨pg, off + s.pos * 5 + 4, none⟩) (by show pg < _; omega)).trans p4⟩
  have hsd := hs.kept hbd
  obtain ⟨d0, d1, df, dr, drf⟩ := hsd.cells
  have kkd := Kept.below hbd (T := 69)
  have e0 := (block_cells hbox).1 0
  have e1 := (block_cells hbox).1 1
  have e2 := (block_cells hbox).1 2
  have e3 := (block_cells hbox).1 3
  simp only [List.getElem?_toArray, List.getElem?_cons_zero, List.getElem?_cons_succ] at e0 e1 e2 e3
  have hbl : w.heap.size < wd.heap.size := (Array.getElem?_eq_some_iff.1 hbox).1
  have hbT : Below T w wd := hbd.mono (by omega)
  have HSD := Lib.hid hsd
  have hap1 : ¬ gs = gr := hsd.apart
  have hap2 : ¬ gr = gs := fun h => hap1 h.symm
  have hrl := hsd.rlt
  rw [h32] at d1
  clear hsd hbox
  have ib0 : (0 : Int) ≤ (rb : Int) := Int.natCast_nonneg _
  have ib1 : (rb : Int) < 32 := by omega
  have ic0 : (0 : Int) ≤ (rc : Int) := Int.natCast_nonneg _
  have ic1 : (rc : Int) < 32 := by omega
  obtain ⟨qb, fb, nb⟩ := dr rb t ht
  obtain ⟨qc, fc, nc⟩ := dr rc u hu
  have h1 := Lib.hid (hg.2.2 _ (List.mem_of_getElem? ht))
  have h2 := Lib.hid (hg.2.2 _ (List.mem_of_getElem? hu))

  clear hm hs hg hl hx hn' hle hpg
  go_enter Try.func129, Try.ntmps129
  go_wp2
  go_region_held3 (fun w' => w'.cell? ⟨gm, 0, none⟩ = some (.slice (some ⟨pg, off, none⟩) n cap) ∧ w'.cell? ⟨gs, 0, none⟩ = some (.int .i64 s.pos) ∧ w'.cell? ⟨pg, off + s.pos * 5, none⟩ = some (.int .i64 (2)) ∧ w'.cell? ⟨pg, off + s.pos * 5 + 1, none⟩ = some (.int .i64 (ra : Nat)) ∧
      w'.cell? ⟨pg, off + s.pos * 5 + 2, none⟩ = some (.int .i64 (rb : Nat)) ∧ w'.cell? ⟨pg, off + s.pos * 5 + 3, none⟩ = some (.int .i64 (rc : Nat)) ∧ w'.cell? ⟨pg, off + s.pos * 5 + 4, none⟩ = some (.string tree))
    (exact keep _ (by first | exact hbd | exact (Below.refl _ _).drew | exact ((Below.refl _ _).drew).alloc (Nat.le_refl _) _))
    (fail)
  try rw [hwd]
  clear keep hwd p0 p1 p2 p3 p4 c0 s0
  have HNB := Lib.hid nb
  have HNC := Lib.hid nc
  have kc : ∀ w', Below wd.heap.size wd w' → Calls Try.prog 51 #[.pointer qb, .pointer qc] w' fun e w'' => ∃ p, e = .returned (.pointer (some p)) ∧ Hid (NodeP 69 w'' (.pair t u) (.pointer (some p))) ∧ Below wd.heap.size wd w'' := fun w' hb' => by
    refine (rnodeCons_ok t u _ _ w' (HNB.out.kept (Kept.below hb')) (HNC.out.kept (Kept.below hb')) (by have := h1.out; omega) (by have := h2.out; omega)).mono ?_
    rintro e w'' ⟨p, he, hp, hb2⟩
    exact ⟨p, he, hp, hb'.trans (hb2.mono hb'.size)⟩
  have keep2 : ∀ w', Below wd.heap.size wd w' → w'.cell? ⟨w.heap.size, 2, none⟩ = some (.int .i64 (rb : Nat)) ∧ w'.cell? ⟨w.heap.size, 3, none⟩ = some (.int .i64 (rc : Nat)) ∧ w'.cell? ⟨gr, rb, none⟩ = some (.pointer qb) ∧ w'.cell? ⟨gr, rc, none⟩ = some (.pointer qc) ∧ w'.cell? ⟨gs, 1, none⟩ = some (.slice (some ⟨gr, 0, none⟩) 32 cp) := fun w' hb' =>
    ⟨(hb'.cell (p := ⟨w.heap.size, 2, none⟩) hbl).trans e2, (hb'.cell (p := ⟨w.heap.size, 3, none⟩) hbl).trans e3, (hb'.cell (p := ⟨gr, rb, none⟩) hrl).trans fb, (hb'.cell (p := ⟨gr, rc, none⟩) hrl).trans fc, (hb'.cell (p := ⟨gs, 1, none⟩) (by show gs < _; omega)).trans d1⟩
  clear dr df drf nb nc
  have HSZ := Lib.hid hsz
  clear hsz
  go_wp2
  go_region_held3 (fun w' => w'.cell? ⟨w.heap.size, 2, none⟩ = some (.int .i64 (rb : Nat)) ∧ w'.cell? ⟨w.heap.size, 3, none⟩ = some (.int .i64 (rc : Nat)) ∧ w'.cell? ⟨gr, rb, none⟩ = some (.pointer qb) ∧ w'.cell? ⟨gr, rc, none⟩ = some (.pointer qc) ∧ w'.cell? ⟨gs, 1, none⟩ = some (.slice (some ⟨gr, 0, none⟩) 32 cp))
    (exact keep2 _ (by first | exact (Below.refl _ _) | exact (Below.refl _ _).drew | exact hb2 | exact hb2.drew))
    ((refine (kc _ (by first | exact Below.refl _ _ | exact (Below.refl _ _).drew)).mono ?_; rintro e w2 ⟨⟨xb, xo, xf⟩, rfl, hnx, hb2⟩))
  all_goals
    obtain ⟨gx, x1, x2, hgx, hblk, _, _⟩ := hnx.out
    simp only [Value.pointer.injEq, Option.some.injEq, Addr.mk.injEq] at hgx
    obtain ⟨rfl, rfl, rfl⟩ := hgx
    have cx := (block_cells hblk).1 2
    simp only [List.getElem?_toArray, List.getElem?_cons_zero, List.getElem?_cons_succ] at cx
    have hsz1 := (Tr.pair t u).size_pos
    have hs1 : ((Tr.pair t u).size : Int) ≤ 4000001 := by have := h1.out; have := h2.out; simp only [Tr.size]; omega
    have hsd2 := HSD.out.kept hb2
    obtain ⟨k0, k1, kf, kr, krf⟩ := hsd2.cells
    rw [h32] at k1
    have htest : ((Tr.pair t u).size : Int) ≤ 2000000 := by have := HSZ.out; omega
    obtain ⟨ta, hta⟩ : ∃ t, s.regs[ra]? = some t := ⟨_, List.getElem?_eq_getElem (by omega)⟩
    obtain ⟨qa, fa, na⟩ := kr ra ta hta
    have za := krf ra
    have kf0 := kf 0
    have ia0 : (0 : Int) ≤ (ra : Int) := Int.natCast_nonneg _
    have ia1 : (ra : Int) < 32 := by omega
    have b1 := (hb2.cell (p := ⟨w.heap.size, 1, none⟩) hbl).trans e1
    have HS2 := Lib.hid hsd2
    have hbe := hbd.trans (hb2.mono hbd.size)
    have HBE := Lib.hid hbe
    have hbT2 : Below T w w2 := hbT.trans (hb2.mono (by omega))
    have HBT2 := Lib.hid hbT2
    generalize hPS : (Tr.pair t u).size = psz at *
    clear kr kf krf hsd2 keep2 kc e0 e1 e2 e3 d0 d1 na hta hb2 hblk
    try clear fb fc
    go_wp2
    go_region
    go_wp2
    go_ret
    refine RStepOk.mk' rfl ?_
    first
    | exact rstep_fin_drew (rstep_fin HS2.out HBT2.out (Kept.below HBE.out) ra hnx.out hgr _ _ (by omega))
    | exact rstep_fin (HS2.out.kept (Below.refl _ _).drew) HBT2.out.drew (Kept.below HBE.out).drew ra (hnx.out.kept (Kept.refl _ _).drew) hgr _ _ (by omega)

set_option maxRecDepth 20000 in
set_option maxHeartbeats 4000000 in
theorem rstep_cons_big (w : World) (T gm gs gr cp : Nat) (l : List Ins) (s : St) (pv tv : Value) (ps : List Value) (hm : RMachP w T gm l pv tv) (hs : RStP w T gs s (.slice (some ⟨gr, 0, none⟩) s.regs.length cp) ps) (hgr : T ≤ gr) (hg : Good l.length s) (hn4 : l.length ≤ 4000) (ra : Nat) (ha : ra < 32) (rb : Nat) (hb : rb < 32) (rc : Nat) (hc : rc < 32) (t : Tr) (ht : s.regs[rb]? = some t) (u : Tr) (hu : s.regs[rc]? = some u) (tree : ByteArray) (hsz : 2000000 < (Tr.pair t u).size)
    (hx : l[s.pos]? = some ⟨2, (ra : Nat), (rb : Nat), (rc : Nat), tree⟩) :
    Calls Try.prog 129 #[.pointer (some ⟨gm, 0, none⟩), .pointer (some ⟨gs, 0, none⟩)] w (fun e w' => e = .returned (.bool false) ∧ (∃ ps', RStP w' T gs s (.slice (some ⟨gr, 0, none⟩) s.regs.length cp) ps') ∧ Below T w w' ∧ Kept 69 w w') := by
  have hp : s.pos < l.length := (List.getElem?_eq_some_iff.1 hx).1
  obtain ⟨ao, cap, rfl⟩ := hm.prog.len
  have c0 := (block_cells hm.blk).1 0
  simp only [List.getElem?_toArray, List.getElem?_cons_zero] at c0
  have s0 := hs.cells.1
  have hl := hm.prog
  have hlt := hm.lt
  have hgl : gs < w.heap.size := (Array.getElem?_eq_some_iff.1 hs.blk).1
  have hgm : gm < w.heap.size := (Array.getElem?_eq_some_iff.1 hm.blk).1
  have hle := hs.le
  obtain ⟨n, hn'⟩ : ∃ n, l.length = n := ⟨_, rfl⟩
  rw [hn'] at hl c0 hp hn4
  obtain ⟨pg, off, rfl, hpg, p0, p1, p2, p3, p4⟩ := hl.get hx
  dsimp only at p0 p1 p2 p3 p4
  have h32 := hg.2.1
  have HX := Lib.hid hx
  have HN := Lib.hid hn'
  have hi0 : (0 : Int) ≤ (s.pos : Int) := Int.natCast_nonneg _
  have hi1 : (s.pos : Int) < (n : Int) := by omega
  obtain ⟨wd, hwd⟩ : ∃ wd, (w.alloc (.cells #[.int .i64 (2), .int .i64 (ra : Nat), .int .i64 (rb : Nat), .int .i64 (rc : Nat), .string tree] 52)).drew = wd := ⟨_, rfl⟩
  have hbd : Below w.heap.size w wd := by rw [← hwd]; exact ((Below.refl _ _).alloc (Nat.le_refl _) _).drew
  have hbox : wd.heap[w.heap.size]? = some (.cells #[.int .i64 (2), .int .i64 (ra : Nat), .int .i64 (rb : Nat), .int .i64 (rc : Nat), .string tree] 52 (0, 0)) := by rw [← hwd]; exact heap_alloc_new w _
  have keep : ∀ w', Below w.heap.size w w' → w'.cell? ⟨gm, 0, none⟩ = some (.slice (some ⟨pg, off, none⟩) n cap) ∧ w'.cell? ⟨gs, 0, none⟩ = some (.int .i64 s.pos) ∧ w'.cell? ⟨pg, off + s.pos * 5, none⟩ = some (.int .i64 (2)) ∧ w'.cell? ⟨pg, off + s.pos * 5 + 1, none⟩ = some (.int .i64 (ra : Nat)) ∧
      w'.cell? ⟨pg, off + s.pos * 5 + 2, none⟩ = some (.int .i64 (rb : Nat)) ∧ w'.cell? ⟨pg, off + s.pos * 5 + 3, none⟩ = some (.int .i64 (rc : Nat)) ∧ w'.cell? ⟨pg, off + s.pos * 5 + 4, none⟩ = some (.string tree) := fun w' hb => by
    refine ⟨(hb.cell (p := ⟨gm, 0, none⟩) hgm).trans c0, (hb.cell (p := ⟨gs, 0, none⟩) hgl).trans s0, (hb.cell (p := ⟨pg, off + s.pos * 5, none⟩) (by show pg < _; omega)).trans p0, (hb.cell (p := ⟨pg, off + s.pos * 5 + 1, none⟩) (by show pg < _; omega)).trans p1, (hb.cell (p := ⟨pg, off + s.pos * 5 + 2, none⟩) (by show pg < _; omega)).trans p2, (hb.cell (p := ⟨pg, off + s.pos * 5 + 3, none⟩) (by show pg < _; omega)).trans p3, (hb.cell (p := ⟨pg, off + s.pos * 5 + 4, none⟩) (by show pg < _; omega)).trans p4⟩
  have hsd := hs.kept hbd
  obtain ⟨d0, d1, df, dr, drf⟩ := hsd.cells
  have kkd := Kept.below hbd (T := 69)
  have e0 := (block_cells hbox).1 0
  have e1 := (block_cells hbox).1 1
  have e2 := (block_cells hbox).1 2
  have e3 := (block_cells hbox).1 3
  simp only [List.getElem?_toArray, List.getElem?_cons_zero, List.getElem?_cons_succ] at e0 e1 e2 e3
  have hbl : w.heap.size < wd.heap.size := (Array.getElem?_eq_some_iff.1 hbox).1
  have hbT : Below T w wd := hbd.mono (by omega)
  have HSD := Lib.hid hsd
  have hap1 : ¬ gs = gr := hsd.apart
  have hap2 : ¬ gr = gs := fun h => hap1 h.symm
  have hrl := hsd.rlt
  rw [h32] at d1
  clear hsd hbox
  have ib0 : (0 : Int) ≤ (rb : Int) := Int.natCast_nonneg _
  have ib1 : (rb : Int) < 32 := by omega
  have ic0 : (0 : Int) ≤ (rc : Int) := Int.natCast_nonneg _
  have ic1 : (rc : Int) < 32 := by omega
  obtain ⟨qb, fb, nb⟩ := dr rb t ht
  obtain ⟨qc, fc, nc⟩ := dr rc u hu
  have h1 := Lib.hid (hg.2.2 _ (List.mem_of_getElem? ht))
  have h2 := Lib.hid (hg.2.2 _ (List.mem_of_getElem? hu))

  clear hm hs hg hl hx hn' hle hpg
  go_enter Try.func129, Try.ntmps129
  go_wp2
  go_region_held3 (fun w' => w'.cell? ⟨gm, 0, none⟩ = some (.slice (some ⟨pg, off, none⟩) n cap) ∧ w'.cell? ⟨gs, 0, none⟩ = some (.int .i64 s.pos) ∧ w'.cell? ⟨pg, off + s.pos * 5, none⟩ = some (.int .i64 (2)) ∧ w'.cell? ⟨pg, off + s.pos * 5 + 1, none⟩ = some (.int .i64 (ra : Nat)) ∧
      w'.cell? ⟨pg, off + s.pos * 5 + 2, none⟩ = some (.int .i64 (rb : Nat)) ∧ w'.cell? ⟨pg, off + s.pos * 5 + 3, none⟩ = some (.int .i64 (rc : Nat)) ∧ w'.cell? ⟨pg, off + s.pos * 5 + 4, none⟩ = some (.string tree))
    (exact keep _ (by first | exact hbd | exact (Below.refl _ _).drew | exact ((Below.refl _ _).drew).alloc (Nat.le_refl _) _))
    (fail)
  try rw [hwd]
  clear keep hwd p0 p1 p2 p3 p4 c0 s0
  have HNB := Lib.hid nb
  have HNC := Lib.hid nc
  have kc : ∀ w', Below wd.heap.size wd w' → Calls Try.prog 51 #[.pointer qb, .pointer qc] w' fun e w'' => ∃ p, e = .returned (.pointer (some p)) ∧ Hid (NodeP 69 w'' (.pair t u) (.pointer (some p))) ∧ Below wd.heap.size wd w'' := fun w' hb' => by
    refine (rnodeCons_ok t u _ _ w' (HNB.out.kept (Kept.below hb')) (HNC.out.kept (Kept.below hb')) (by have := h1.out; omega) (by have := h2.out; omega)).mono ?_
    rintro e w'' ⟨p, he, hp, hb2⟩
    exact ⟨p, he, hp, hb'.trans (hb2.mono hb'.size)⟩
  have keep2 : ∀ w', Below wd.heap.size wd w' → w'.cell? ⟨w.heap.size, 2, none⟩ = some (.int .i64 (rb : Nat)) ∧ w'.cell? ⟨w.heap.size, 3, none⟩ = some (.int .i64 (rc : Nat)) ∧ w'.cell? ⟨gr, rb, none⟩ = some (.pointer qb) ∧ w'.cell? ⟨gr, rc, none⟩ = some (.pointer qc) ∧ w'.cell? ⟨gs, 1, none⟩ = some (.slice (some ⟨gr, 0, none⟩) 32 cp) := fun w' hb' =>
    ⟨(hb'.cell (p := ⟨w.heap.size, 2, none⟩) hbl).trans e2, (hb'.cell (p := ⟨w.heap.size, 3, none⟩) hbl).trans e3, (hb'.cell (p := ⟨gr, rb, none⟩) hrl).trans fb, (hb'.cell (p := ⟨gr, rc, none⟩) hrl).trans fc, (hb'.cell (p := ⟨gs, 1, none⟩) (by show gs < _; omega)).trans d1⟩
  clear dr df drf nb nc
  have HSZ := Lib.hid hsz
  clear hsz
  go_wp2
  go_region_held3 (fun w' => w'.cell? ⟨w.heap.size, 2, none⟩ = some (.int .i64 (rb : Nat)) ∧ w'.cell? ⟨w.heap.size, 3, none⟩ = some (.int .i64 (rc : Nat)) ∧ w'.cell? ⟨gr, rb, none⟩ = some (.pointer qb) ∧ w'.cell? ⟨gr, rc, none⟩ = some (.pointer qc) ∧ w'.cell? ⟨gs, 1, none⟩ = some (.slice (some ⟨gr, 0, none⟩) 32 cp))
    (exact keep2 _ (by first | exact (Below.refl _ _) | exact (Below.refl _ _).drew | exact hb2 | exact hb2.drew))
    ((refine (kc _ (by first | exact Below.refl _ _ | exact (Below.refl _ _).drew)).mono ?_; rintro e w2 ⟨⟨xb, xo, xf⟩, rfl, hnx, hb2⟩))
  all_goals
    obtain ⟨gx, x1, x2, hgx, hblk, _, _⟩ := hnx.out
    simp only [Value.pointer.injEq, Option.some.injEq, Addr.mk.injEq] at hgx
    obtain ⟨rfl, rfl, rfl⟩ := hgx
    have cx := (block_cells hblk).1 2
    simp only [List.getElem?_toArray, List.getElem?_cons_zero, List.getElem?_cons_succ] at cx
    have hsz1 := (Tr.pair t u).size_pos
    have hs1 : ((Tr.pair t u).size : Int) ≤ 4000001 := by have := h1.out; have := h2.out; simp only [Tr.size]; omega
    have hsd2 := HSD.out.kept hb2
    obtain ⟨k0, k1, kf, kr, krf⟩ := hsd2.cells
    rw [h32] at k1
    have htest : 2000000 < ((Tr.pair t u).size : Int) := by have := HSZ.out; omega
    have HS2 := Lib.hid hsd2
    have hbe := hbd.trans (hb2.mono hbd.size)
    have HBE := Lib.hid hbe
    have hbT2 : Below T w w2 := hbT.trans (hb2.mono (by omega))
    have HBT2 := Lib.hid hbT2
    generalize hPS : (Tr.pair t u).size = psz at *
    clear kr kf krf hsd2 keep2 kc e0 e1 e2 e3 d0 d1 hb2 hblk
    try clear fb fc
    go_wp2
    go_ret
    first
    | exact ⟨rfl, ⟨_, HS2.out⟩, HBT2.out, Kept.below HBE.out⟩
    | exact ⟨rfl, ⟨_, HS2.out.kept (Below.refl _ _).drew⟩, HBT2.out.drew, (Kept.below HBE.out).drew⟩

set_option maxRecDepth 20000 in
set_option maxHeartbeats 4000000 in
theorem rstep_jump_no (w : World) (T gm gs gr cp : Nat) (l : List Ins) (s : St) (pv tv : Value) (ps : List Value) (hm : RMachP w T gm l pv tv) (hs : RStP w T gs s (.slice (some ⟨gr, 0, none⟩) s.regs.length cp) ps) (hgr : T ≤ gr) (hg : Good l.length s) (hn4 : l.length ≤ 4000) (ra : Nat) (ha : ra < 32) (t : Tr) (ht : s.regs[ra]? = some t) (htn : t = .nil) (b c : Int) (tree : ByteArray) (hb1 : -(s.pos : Int) ≤ b) (hb2 : b ≤ (l.length : Int) - s.pos)
    (hx : l[s.pos]? = some ⟨5, (ra : Nat), b, c, tree⟩) :
    Calls Try.prog 129 #[.pointer (some ⟨gm, 0, none⟩), .pointer (some ⟨gs, 0, none⟩)] w (RStepOk w T gs ⟨s.pos + 1, s.regs⟩ (.slice (some ⟨gr, 0, none⟩) s.regs.length cp)) := by
  have hp : s.pos < l.length := (List.getElem?_eq_some_iff.1 hx).1
  obtain ⟨ao, cap, rfl⟩ := hm.prog.len
  have c0 := (block_cells hm.blk).1 0
  simp only [List.getElem?_toArray, List.getElem?_cons_zero] at c0
  have s0 := hs.cells.1
  have hl := hm.prog
  have hlt := hm.lt
  have hgl : gs < w.heap.size := (Array.getElem?_eq_some_iff.1 hs.blk).1
  have hgm : gm < w.heap.size := (Array.getElem?_eq_some_iff.1 hm.blk).1
  have hle := hs.le
  obtain ⟨n, hn'⟩ : ∃ n, l.length = n := ⟨_, rfl⟩
  rw [hn'] at hl c0 hp hn4
  obtain ⟨pg, off, rfl, hpg, p0, p1, p2, p3, p4⟩ := hl.get hx
  dsimp only at p0 p1 p2 p3 p4
  have h32 := hg.2.1
  have HX := Lib.hid hx
  have HN := Lib.hid hn'
  have hi0 : (0 : Int) ≤ (s.pos : Int) := Int.natCast_nonneg _
  have hi1 : (s.pos : Int) < (n : Int) := by omega
  obtain ⟨wd, hwd⟩ : ∃ wd, (w.alloc (.cells #[.int .i64 (5), .int .i64 (ra : Nat), .int .i64 (b), .int .i64 (c), .string tree] 52)).drew = wd := ⟨_, rfl⟩
  have hbd : Below w.heap.size w wd := by rw [← hwd]; exact ((Below.refl _ _).alloc (Nat.le_refl _) _).drew
  have hbox : wd.heap[w.heap.size]? = some (.cells #[.int .i64 (5), .int .i64 (ra : Nat), .int .i64 (b), .int .i64 (c), .string tree] 52 (0, 0)) := by rw [← hwd]; exact heap_alloc_new w _
  have keep : ∀ w', Below w.heap.size w w' → w'.cell? ⟨gm, 0, none⟩ = some (.slice (some ⟨pg, off, none⟩) n cap) ∧ w'.cell? ⟨gs, 0, none⟩ = some (.int .i64 s.pos) ∧ w'.cell? ⟨pg, off + s.pos * 5, none⟩ = some (.int .i64 (5)) ∧ w'.cell? ⟨pg, off + s.pos * 5 + 1, none⟩ = some (.int .i64 (ra : Nat)) ∧
      w'.cell? ⟨pg, off + s.pos * 5 + 2, none⟩ = some (.int .i64 (b)) ∧ w'.cell? ⟨pg, off + s.pos * 5 + 3, none⟩ = some (.int .i64 (c)) ∧ w'.cell? ⟨pg, off + s.pos * 5 + 4, none⟩ = some (.string tree) := fun w' hb => by
    refine ⟨(hb.cell (p := ⟨gm, 0, none⟩) hgm).trans c0, (hb.cell (p := ⟨gs, 0, none⟩) hgl).trans s0, (hb.cell (p := ⟨pg, off + s.pos * 5, none⟩) (by show pg < _; omega)).trans p0, (hb.cell (p := ⟨pg, off + s.pos * 5 + 1, none⟩) (by show pg < _; omega)).trans p1, (hb.cell (p := ⟨pg, off + s.pos * 5 + 2, none⟩) (by show pg < _; omega)).trans p2, (hb.cell (p := ⟨pg, off + s.pos * 5 + 3, none⟩) (by show pg < _; omega)).trans p3, (hb.cell (p := ⟨pg, off + s.pos * 5 + 4, none⟩) (by show pg < _; omega)).trans p4⟩
  have hsd := hs.kept hbd
  obtain ⟨d0, d1, df, dr, drf⟩ := hsd.cells
  have kkd := Kept.below hbd (T := 69)
  have e0 := (block_cells hbox).1 0
  have e1 := (block_cells hbox).1 1
  have e2 := (block_cells hbox).1 2
  have e3 := (block_cells hbox).1 3
  simp only [List.getElem?_toArray, List.getElem?_cons_zero, List.getElem?_cons_succ] at e0 e1 e2 e3
  have hbl : w.heap.size < wd.heap.size := (Array.getElem?_eq_some_iff.1 hbox).1
  have hbT : Below T w wd := hbd.mono (by omega)
  have HSD := Lib.hid hsd
  have hap1 : ¬ gs = gr := hsd.apart
  have hap2 : ¬ gr = gs := fun h => hap1 h.symm
  have hrl := hsd.rlt
  rw [h32] at d1
  clear hsd hbox
  obtain ⟨qa, fa, na⟩ := dr ra t ht
  rw [hn'] at hb2
  have ia0 : (0 : Int) ≤ (ra : Int) := Int.natCast_nonneg _
  have ia1 : (ra : Int) < 32 := by omega

  clear hm hs hg hl hx hn' hle hpg
  go_enter Try.func129, Try.ntmps129
  go_wp2
  go_region_held3 (fun w' => w'.cell? ⟨gm, 0, none⟩ = some (.slice (some ⟨pg, off, none⟩) n cap) ∧ w'.cell? ⟨gs, 0, none⟩ = some (.int .i64 s.pos) ∧ w'.cell? ⟨pg, off + s.pos * 5, none⟩ = some (.int .i64 (5)) ∧ w'.cell? ⟨pg, off + s.pos * 5 + 1, none⟩ = some (.int .i64 (ra : Nat)) ∧
      w'.cell? ⟨pg, off + s.pos * 5 + 2, none⟩ = some (.int .i64 (b)) ∧ w'.cell? ⟨pg, off + s.pos * 5 + 3, none⟩ = some (.int .i64 (c)) ∧ w'.cell? ⟨pg, off + s.pos * 5 + 4, none⟩ = some (.string tree))
    (exact keep _ (by first | exact hbd | exact (Below.refl _ _).drew | exact ((Below.refl _ _).drew).alloc (Nat.le_refl _) _))
    (fail)
  try rw [hwd]
  clear keep hwd p0 p1 p2 p3 p4 c0 s0
  subst htn
  have hq : qa = none := by have : Value.pointer qa = .pointer none := na; simpa using this
  subst hq
  have df0 := df 0
  clear dr df drf na ht
  have hnI : (n : Int) ≤ 4000 := by omega
  go_wp2
  go_quiet (fail)
  go_wp2
  go_ret
  refine RStepOk.mk' rfl ?_
  have hq1 := below_drewN (Below.refl wd.heap.size wd) nq
  first
  | exact rstep_jfin (HSD.out.kept hq1) (hbT.trans (hq1.mono (by omega))) (kkd.trans (Kept.below hq1)) _ _ (by omega)
  | exact rstep_fin_drew (rstep_jfin (HSD.out.kept hq1) (hbT.trans (hq1.mono (by omega))) (kkd.trans (Kept.below hq1)) _ _ (by omega))

set_option maxRecDepth 20000 in
set_option maxHeartbeats 4000000 in
theorem rstep_jump_go (w : World) (T gm gs gr cp : Nat) (l : List Ins) (s : St) (pv tv : Value) (ps : List Value) (hm : RMachP w T gm l pv tv) (hs : RStP w T gs s (.slice (some ⟨gr, 0, none⟩) s.regs.length cp) ps) (hgr : T ≤ gr) (hg : Good l.length s) (hn4 : l.length ≤ 4000) (ra : Nat) (ha : ra < 32) (t : Tr) (ht : s.regs[ra]? = some t) (htn : t ≠ .nil) (b c : Int) (tree : ByteArray) (hb1 : -(s.pos : Int) ≤ b) (hb2 : b ≤ (l.length : Int) - s.pos)
    (hx : l[s.pos]? = some ⟨5, (ra : Nat), b, c, tree⟩) :
    Calls Try.prog 129 #[.pointer (some ⟨gm, 0, none⟩), .pointer (some ⟨gs, 0, none⟩)] w (RStepOk w T gs ⟨((s.pos : Int) + b).toNat, s.regs⟩ (.slice (some ⟨gr, 0, none⟩) s.regs.length cp)) := by
  have hp : s.pos < l.length := (List.getElem?_eq_some_iff.1 hx).1
  obtain ⟨ao, cap, rfl⟩ := hm.prog.len
  have c0 := (block_cells hm.blk).1 0
  simp only [List.getElem?_toArray, List.getElem?_cons_zero] at c0
  have s0 := hs.cells.1
  have hl := hm.prog
  have hlt := hm.lt
  have hgl : gs < w.heap.size := (Array.getElem?_eq_some_iff.1 hs.blk).1
  have hgm : gm < w.heap.size := (Array.getElem?_eq_some_iff.1 hm.blk).1
  have hle := hs.le
  obtain ⟨n, hn'⟩ : ∃ n, l.length = n := ⟨_, rfl⟩
  rw [hn'] at hl c0 hp hn4
  obtain ⟨pg, off, rfl, hpg, p0, p1, p2, p3, p4⟩ := hl.get hx
  dsimp only at p0 p1 p2 p3 p4
  have h32 := hg.2.1
  have HX := Lib.hid hx
  have HN := Lib.hid hn'
  have hi0 : (0 : Int) ≤ (s.pos : Int) := Int.natCast_nonneg _
  have hi1 : (s.pos : Int) < (n : Int) := by omega
  obtain ⟨wd, hwd⟩ : ∃ wd, (w.alloc (.cells #[.int .i64 (5), .int .i64 (ra : Nat), .int .i64 (b), .int .i64 (c), .string tree] 52)).drew = wd := ⟨_, rfl⟩
  have hbd : Below w.heap.size w wd := by rw [← hwd]; exact ((Below.refl _ _).alloc (Nat.le_refl _) _).drew
  have hbox : wd.heap[w.heap.size]? = some (.cells #[.int .i64 (5), .int .i64 (ra : Nat), .int .i64 (b), .int .i64 (c), .string tree] 52 (0, 0)) := by rw [← hwd]; exact heap_alloc_new w _
  have keep : ∀ w', Below w.heap.size w w' → w'.cell? ⟨gm, 0, none⟩ = some (.slice (some ⟨pg, off, none⟩) n cap) ∧ w'.cell? ⟨gs, 0, none⟩ = some (.int .i64 s.pos) ∧ w'.cell? ⟨pg, off + s.pos * 5, none⟩ = some (.int .i64 (5)) ∧ w'.cell? ⟨pg, off + s.pos * 5 + 1, none⟩ = some (.int .i64 (ra : Nat)) ∧
      w'.cell? ⟨pg, off + s.pos * 5 + 2, none⟩ = some (.int .i64 (b)) ∧ w'.cell? ⟨pg, off + s.pos * 5 + 3, none⟩ = some (.int .i64 (c)) ∧ w'.cell? ⟨pg, off + s.pos * 5 + 4, none⟩ = some (.string tree) := fun w' hb => by
    refine ⟨(hb.cell (p := ⟨gm, 0, none⟩) hgm).trans c0, (hb.cell (p := ⟨gs, 0, none⟩) hgl).trans s0, (hb.cell (p := ⟨pg, off + s.pos * 5, none⟩) (by show pg < _; omega)).trans p0, (hb.cell (p := ⟨pg, off + s.pos * 5 + 1, none⟩) (by show pg < _; omega)).trans p1, (hb.cell (p := ⟨pg, off + s.pos * 5 + 2, none⟩) (by show pg < _; omega)).trans p2, (hb.cell (p := ⟨pg, off + s.pos * 5 + 3, none⟩) (by show pg < _; omega)).trans p3, (hb.cell (p := ⟨pg, off + s.pos * 5 + 4, none⟩) (by show pg < _; omega)).trans p4⟩
  have hsd := hs.kept hbd
  obtain ⟨d0, d1, df, dr, drf⟩ := hsd.cells
  have kkd := Kept.below hbd (T := 69)
  have e0 := (block_cells hbox).1 0
  have e1 := (block_cells hbox).1 1
  have e2 := (block_cells hbox).1 2
  have e3 := (block_cells hbox).1 3
  simp only [List.getElem?_toArray, List.getElem?_cons_zero, List.getElem?_cons_succ] at e0 e1 e2 e3
  have hbl : w.heap.size < wd.heap.size := (Array.getElem?_eq_some_iff.1 hbox).1
  have hbT : Below T w wd := hbd.mono (by omega)
  have HSD := Lib.hid hsd
  have hap1 : ¬ gs = gr := hsd.apart
  have hap2 : ¬ gr = gs := fun h => hap1 h.symm
  have hrl := hsd.rlt
  rw [h32] at d1
  clear hsd hbox
  obtain ⟨qa, fa, na⟩ := dr ra t ht
  rw [hn'] at hb2
  have ia0 : (0 : Int) ≤ (ra : Int) := Int.natCast_nonneg _
  have ia1 : (ra : Int) < 32 := by omega

  clear hm hs hg hl hx hn' hle hpg
  go_enter Try.func129, Try.ntmps129
  go_wp2
  go_region_held3 (fun w' => w'.cell? ⟨gm, 0, none⟩ = some (.slice (some ⟨pg, off, none⟩) n cap) ∧ w'.cell? ⟨gs, 0, none⟩ = some (.int .i64 s.pos) ∧ w'.cell? ⟨pg, off + s.pos * 5, none⟩ = some (.int .i64 (5)) ∧ w'.cell? ⟨pg, off + s.pos * 5 + 1, none⟩ = some (.int .i64 (ra : Nat)) ∧
      w'.cell? ⟨pg, off + s.pos * 5 + 2, none⟩ = some (.int .i64 (b)) ∧ w'.cell? ⟨pg, off + s.pos * 5 + 3, none⟩ = some (.int .i64 (c)) ∧ w'.cell? ⟨pg, off + s.pos * 5 + 4, none⟩ = some (.string tree))
    (exact keep _ (by first | exact hbd | exact (Below.refl _ _).drew | exact ((Below.refl _ _).drew).alloc (Nat.le_refl _) _))
    (fail)
  try rw [hwd]
  clear keep hwd p0 p1 p2 p3 p4 c0 s0
  obtain ⟨qg, hq⟩ : ∃ qg, qa = some ⟨qg, 0, none⟩ := by
    cases t with
    | nil => exact absurd rfl htn
    | pair a1 a2 => obtain ⟨g1, x1, y1, hv1, _⟩ := na; simp only [Value.pointer.injEq] at hv1; exact ⟨g1, hv1⟩
  subst hq
  have hpb : (s.pos : Int) + b = (((s.pos : Int) + b).toNat : Int) := by omega
  have hpb2 : (0 : Int) ≤ (s.pos : Int) + b := by omega
  have hpb3 : (s.pos : Int) + b ≤ n := by omega
  have HPB := Lib.hid hpb
  clear hpb
  have df0 := df 0
  clear dr df drf na ht
  have hnI : (n : Int) ≤ 4000 := by omega
  go_wp2
  go_quiet (fail)
  go_wp2
  go_region
  go_wp2
  go_ret
  refine RStepOk.mk' rfl ?_
  have hq1 := below_drewN (Below.refl wd.heap.size wd) nq
  first
  | exact rstep_jfin (HSD.out.kept hq1) (hbT.trans (hq1.mono (by omega))) (kkd.trans (Kept.below hq1)) _ _ HPB.out
  | exact rstep_fin_drew (rstep_jfin (HSD.out.kept hq1) (hbT.trans (hq1.mono (by omega))) (kkd.trans (Kept.below hq1)) _ _ HPB.out)

end Go.Proofs.Ytaiomcjopgnfpaa

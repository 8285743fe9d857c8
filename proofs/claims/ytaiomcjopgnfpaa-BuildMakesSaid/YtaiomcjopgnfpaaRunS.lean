/- The walks of (*machine).ended and (*machine).step. -/
import Derived.Test.YtaiomcjopgnfpaaRunM
namespace Go.Proofs.Ytaiomcjopgnfpaa
open Go.RowKit

/-- Every block but one stands. -/
structure Els (g : Nat) (w w' : World) : Prop where
  os : w'.os = w.os
  tape : w'.tape = w.tape
  output : w'.output = w.output
  size : w.heap.size ≤ w'.heap.size
  block : ∀ k, k < w.heap.size → k ≠ g → w'.heap[k]? = w.heap[k]?
theorem Els.refl (g : Nat) (w : World) : Els g w w := ⟨rfl, rfl, rfl, Nat.le_refl _, fun _ _ _ => rfl⟩
theorem Els.of_below {g : Nat} {w w' : World} (h : Below w.heap.size w w') : Els g w w' := ⟨h.os, h.tape, h.output, h.size, fun k hk _ => h.block k hk⟩
theorem Els.trans {g : Nat} {a b c : World} (h : Els g a b) (k : Els g b c) : Els g a c :=
  ⟨k.os.trans h.os, k.tape.trans h.tape, k.output.trans h.output, Nat.le_trans h.size k.size, fun i hi hg => (k.block i (by have := h.size; omega) hg).trans (h.block i hi hg)⟩
theorem Els.set {g : Nat} {w w' : World} (h : Els g w w') (j : Nat) (u : Value) : Els g w (w'.setCell ⟨g, j, none⟩ u) :=
  h.trans ⟨rfl, rfl, rfl, by simp [World.setCell], fun k _ hk => Below.heap_setCell _ _ _ _ (by show k ≠ g; exact hk)⟩
theorem Els.below {g B : Nat} {w w' : World} (h : Els g w w') (hB : B ≤ g) (hs : B ≤ w.heap.size) : Below B w w' := ⟨h.os, h.tape, h.output, h.size, fun k hk => h.block k (by omega) (by omega)⟩

set_option maxHeartbeats 1000000 in
theorem ended_any (w : World) (B g : Nat) (l : List Ins) (s : St) (pv sv : Value) (ps : List Value) (hm : MachP w B g l s pv sv ps) (hg : Good l.length s) :
    Calls Try.prog 84 #[.pointer (some ⟨g, 0, none⟩)] w fun e w' => e = .returned (.bool ((s.pos : Int) == (l.length : Int))) ∧ ∃ nq, w' = w.drewN nq := by
  obtain ⟨ao, cap, rfl⟩ := hm.prog.len
  obtain ⟨c0, c1, c34, _, _⟩ := hm.cells hg.2.1
  obtain ⟨n, hn'⟩ : ∃ n, l.length = n := ⟨_, rfl⟩
  rw [hn'] at c0 ⊢
  clear hm hg hn'
  go_enter Try.func84, Try.ntmps84
  go_wp2
  go_quiet (fail)
  go_wp2
  go_ret
  exact ⟨rfl, _, rfl⟩

/-- A step went well. -/
def StepOk (w : World) (B g : Nat) (l : List Ins) (s' : St) (pv sv : Value) (e : Ending) (w' : World) : Prop :=
  ∃ ps', e = .returned (.bool true) ∧ MachP w' B g l s' pv sv ps' ∧ Els g w w'

theorem step_fin {w wd : World} {B g : Nat} {l : List Ins} {s : St} {pv sv : Value} {ps : List Value} (hm : MachP wd B g l s pv sv ps) (h32 : s.regs.length = 32) (hb : Els g w wd) (ra : Nat) (hra : ra < 32) {t : Tr} {q : Option Addr} (hn : NodeP 135 wd t (.pointer q)) :
    ∃ ps', MachP ((wd.setCell ⟨g, 2 + ra, none⟩ (.pointer q)).setCell ⟨g, 34, none⟩ (.int .i64 ((s.pos : Int) + 1))) B g l ⟨s.pos + 1, s.regs.set ra t⟩ pv sv ps' ∧ Els g w ((wd.setCell ⟨g, 2 + ra, none⟩ (.pointer q)).setCell ⟨g, 34, none⟩ (.int .i64 ((s.pos : Int) + 1))) :=
  ⟨_, (hm.setReg ra (by omega) hn).setPos (by simp [h32]) (s.pos + 1), (hb.set _ _).set _ _⟩
theorem step_fin_drew {w w' : World} {B g : Nat} {l : List Ins} {s' : St} {pv sv : Value} (h : ∃ ps', MachP w' B g l s' pv sv ps' ∧ Els g w w') : ∃ ps', MachP w'.drew B g l s' pv sv ps' ∧ Els g w w'.drew := by
  obtain ⟨ps', h1, h2⟩ := h
  exact ⟨ps', h1.kept (Below.refl _ _).drew, h2.trans (Els.of_below (Below.refl _ _).drew)⟩
theorem StepOk.mk' {w : World} {B g : Nat} {l : List Ins} {s' : St} {pv sv : Value} {e : Ending} {w' : World} (he : e = .returned (.bool true)) (h : ∃ ps', MachP w' B g l s' pv sv ps' ∧ Els g w w') : StepOk w B g l s' pv sv e w' := by
  obtain ⟨ps', h1, h2⟩ := h
  exact ⟨ps', he, h1, h2⟩

set_option maxRecDepth 20000 in
set_option maxHeartbeats 4000000 in
theorem step_set (w : World) (B g : Nat) (l : List Ins) (s : St) (pv sv : Value) (ps : List Value) (hm : MachP w B g l s pv sv ps) (hg : Good l.length s) (hn4 : l.length ≤ 4000) (ra : Nat) (ha : ra < 32) (b c : Int) (tree : ByteArray)
    (hx : l[s.pos]? = some ⟨0, (ra : Nat), b, c, tree⟩) :
    Calls Try.prog 116 #[.pointer (some ⟨g, 0, none⟩)] w (StepOk w B g l ⟨s.pos + 1, s.regs.set ra (toTr tree)⟩ pv sv) := by
  have hp : s.pos < l.length := (List.getElem?_eq_some_iff.1 hx).1
  obtain ⟨ao, cap, rfl⟩ := hm.prog.len
  obtain ⟨c0, c1, c34, hr, hf⟩ := hm.cells hg.2.1
  have hl := hm.prog
  have hlt := hm.lt
  have hle := hm.le
  obtain ⟨xs, hxs, hown⟩ := hm.sets
  obtain ⟨n, hn'⟩ : ∃ n, l.length = n := ⟨_, rfl⟩
  rw [hn'] at hl c0 hp hn4 hown
  obtain ⟨pg, off, rfl, hpg, p0, p1, p2, p3, p4⟩ := hl.get hx
  dsimp only at p0 p1 p2 p3 p4
  have h32 := hg.2.1
  have HX := Lib.hid hx
  have HN := Lib.hid hn'
  have HM := Lib.hid hm
  have hi0 : (0 : Int) ≤ (s.pos : Int) := Int.natCast_nonneg _
  have hi1 : (s.pos : Int) < (n : Int) := by omega
  obtain ⟨wd, hwd⟩ : ∃ wd, (w.alloc (.cells #[.int .i64 (0), .int .i64 (ra : Nat), .int .i64 (b), .int .i64 (c), .string tree] 52)).drew = wd := ⟨_, rfl⟩
  have hbd : Below w.heap.size w wd := by rw [← hwd]; exact ((Below.refl _ _).alloc (Nat.le_refl _) _).drew
  have hbox : wd.heap[w.heap.size]? = some (.cells #[.int .i64 (0), .int .i64 (ra : Nat), .int .i64 (b), .int .i64 (c), .string tree] 52 (0, 0)) := by rw [← hwd]; exact heap_alloc_new w _
  have keep : ∀ w', Below w.heap.size w w' → w'.cell? ⟨g, 0, none⟩ = some (.slice (some ⟨pg, off, none⟩) n cap) ∧ w'.cell? ⟨g, 34, none⟩ = some (.int .i64 s.pos) ∧ w'.cell? ⟨pg, off + s.pos * 5, none⟩ = some (.int .i64 (0)) ∧ w'.cell? ⟨pg, off + s.pos * 5 + 1, none⟩ = some (.int .i64 (ra : Nat)) ∧
      w'.cell? ⟨pg, off + s.pos * 5 + 2, none⟩ = some (.int .i64 (b)) ∧ w'.cell? ⟨pg, off + s.pos * 5 + 3, none⟩ = some (.int .i64 (c)) ∧ w'.cell? ⟨pg, off + s.pos * 5 + 4, none⟩ = some (.string tree) := fun w' hb => by
    refine ⟨(hb.cell (p := ⟨g, 0, none⟩) hlt).trans c0, (hb.cell (p := ⟨g, 34, none⟩) hlt).trans c34, (hb.cell (p := ⟨pg, off + s.pos * 5, none⟩) (by show pg < _; omega)).trans p0, (hb.cell (p := ⟨pg, off + s.pos * 5 + 1, none⟩) (by show pg < _; omega)).trans p1, (hb.cell (p := ⟨pg, off + s.pos * 5 + 2, none⟩) (by show pg < _; omega)).trans p2, (hb.cell (p := ⟨pg, off + s.pos * 5 + 3, none⟩) (by show pg < _; omega)).trans p3, (hb.cell (p := ⟨pg, off + s.pos * 5 + 4, none⟩) (by show pg < _; omega)).trans p4⟩
  have hmd := hm.kept hbd
  obtain ⟨d0, d1, d34, dr, df⟩ := hmd.cells h32
  have e0 := (block_cells hbox).1 0
  have e1 := (block_cells hbox).1 1
  have e2 := (block_cells hbox).1 2
  have e3 := (block_cells hbox).1 3
  simp only [List.getElem?_toArray, List.getElem?_cons_zero, List.getElem?_cons_succ] at e0 e1 e2 e3
  have hbl : w.heap.size < wd.heap.size := (Array.getElem?_eq_some_iff.1 hbox).1
  have HMD := Lib.hid hmd
  clear hmd hbox
  obtain ⟨tra, htra⟩ : ∃ t, s.regs[ra]? = some t := ⟨_, List.getElem?_eq_getElem (by omega)⟩
  obtain ⟨qra, fra, nra⟩ := dr ra tra htra
  have zra := df (2 + ra)
  obtain ⟨v0, hv0, hnv⟩ := hxs.get (j := s.pos) (t := toTr tree) (by rw [List.getElem?_map, hx]; rfl)
  obtain ⟨sp, rfl⟩ := hnv.ptr
  have hnd := hnv.kept (Kept.below hbd)
  have hown' := own_below hown hbd
  obtain ⟨sg, scp, rfl, hsr⟩ := own_cells hown' (by omega)

  clear hm hg hl hx hn' hxs hown hr hle hpg
  go_enter Try.func116, Try.ntmps116
  go_wp2
  go_region_held3 (fun w' => w'.cell? ⟨g, 0, none⟩ = some (.slice (some ⟨pg, off, none⟩) n cap) ∧ w'.cell? ⟨g, 34, none⟩ = some (.int .i64 s.pos) ∧ w'.cell? ⟨pg, off + s.pos * 5, none⟩ = some (.int .i64 (0)) ∧ w'.cell? ⟨pg, off + s.pos * 5 + 1, none⟩ = some (.int .i64 (ra : Nat)) ∧
      w'.cell? ⟨pg, off + s.pos * 5 + 2, none⟩ = some (.int .i64 (b)) ∧ w'.cell? ⟨pg, off + s.pos * 5 + 3, none⟩ = some (.int .i64 (c)) ∧ w'.cell? ⟨pg, off + s.pos * 5 + 4, none⟩ = some (.string tree))
    (exact keep _ (by first | exact hbd | exact (Below.refl _ _).drew | exact ((Below.refl _ _).drew).alloc (Nat.le_refl _) _))
    (fail)
  try rw [hwd]
  clear keep hwd p0 p1 p2 p3 p4 c0 c1 c34
  have hset : wd.cell? ⟨sg, s.pos, none⟩ = some (.pointer sp) := by rw [hsr.2.2.2.2.1 s.pos (by omega), hv0]
  have HND := Lib.hid hnd
  clear hsr dr df hnd nra hnv
  have df34 := (block_cells HMD.out.blk).2 34
  go_wp2
  go_region
  go_wp2
  go_ret
  refine StepOk.mk' rfl ?_
  first
  | exact step_fin_drew (step_fin HMD.out h32 (Els.of_below hbd) ra ha HND.out)
  | exact step_fin (HMD.out.kept (Below.refl _ _).drew) h32 (Els.of_below hbd.drew) ra ha (NodeP.kept (Kept.refl _ _).drew HND.out)

set_option maxRecDepth 20000 in
set_option maxHeartbeats 4000000 in
theorem step_move (w : World) (B g : Nat) (l : List Ins) (s : St) (pv sv : Value) (ps : List Value) (hm : MachP w B g l s pv sv ps) (hg : Good l.length s) (hn4 : l.length ≤ 4000) (ra : Nat) (ha : ra < 32) (rb : Nat) (hb : rb < 32) (t : Tr) (ht : s.regs[rb]? = some t) (c : Int) (tree : ByteArray)
    (hx : l[s.pos]? = some ⟨1, (ra : Nat), (rb : Nat), c, tree⟩) :
    Calls Try.prog 116 #[.pointer (some ⟨g, 0, none⟩)] w (StepOk w B g l ⟨s.pos + 1, s.regs.set ra t⟩ pv sv) := by
  have hp : s.pos < l.length := (List.getElem?_eq_some_iff.1 hx).1
  obtain ⟨ao, cap, rfl⟩ := hm.prog.len
  obtain ⟨c0, c1, c34, hr, hf⟩ := hm.cells hg.2.1
  have hl := hm.prog
  have hlt := hm.lt
  have hle := hm.le
  obtain ⟨xs, hxs, hown⟩ := hm.sets
  obtain ⟨n, hn'⟩ : ∃ n, l.length = n := ⟨_, rfl⟩
  rw [hn'] at hl c0 hp hn4 hown
  obtain ⟨pg, off, rfl, hpg, p0, p1, p2, p3, p4⟩ := hl.get hx
  dsimp only at p0 p1 p2 p3 p4
  have h32 := hg.2.1
  have HX := Lib.hid hx
  have HN := Lib.hid hn'
  have HM := Lib.hid hm
  have hi0 : (0 : Int) ≤ (s.pos : Int) := Int.natCast_nonneg _
  have hi1 : (s.pos : Int) < (n : Int) := by omega
  obtain ⟨wd, hwd⟩ : ∃ wd, (w.alloc (.cells #[.int .i64 (1), .int .i64 (ra : Nat), .int .i64 (rb : Nat), .int .i64 (c), .string tree] 52)).drew = wd := ⟨_, rfl⟩
  have hbd : Below w.heap.size w wd := by rw [← hwd]; exact ((Below.refl _ _).alloc (Nat.le_refl _) _).drew
  have hbox : wd.heap[w.heap.size]? = some (.cells #[.int .i64 (1), .int .i64 (ra : Nat), .int .i64 (rb : Nat), .int .i64 (c), .string tree] 52 (0, 0)) := by rw [← hwd]; exact heap_alloc_new w _
  have keep : ∀ w', Below w.heap.size w w' → w'.cell? ⟨g, 0, none⟩ = some (.slice (some ⟨pg, off, none⟩) n cap) ∧ w'.cell? ⟨g, 34, none⟩ = some (.int .i64 s.pos) ∧ w'.cell? ⟨pg, off + s.pos * 5, none⟩ = some (.int .i64 (1)) ∧ w'.cell? ⟨pg, off + s.pos * 5 + 1, none⟩ = some (.int .i64 (ra : Nat)) ∧
      w'.cell? ⟨pg, off + s.pos * 5 + 2, none⟩ = some (.int .i64 (rb : Nat)) ∧ w'.cell? ⟨pg, off + s.pos * 5 + 3, none⟩ = some (.int .i64 (c)) ∧ w'.cell? ⟨pg, off + s.pos * 5 + 4, none⟩ = some (.string tree) := fun w' hb => by
    refine ⟨(hb.cell (p := ⟨g, 0, none⟩) hlt).trans c0, (hb.cell (p := ⟨g, 34, none⟩) hlt).trans c34, (hb.cell (p := ⟨pg, off + s.pos * 5, none⟩) (by show pg < _; omega)).trans p0, (hb.cell (p := ⟨pg, off + s.pos * 5 + 1, none⟩) (by show pg < _; omega)).trans p1, (hb.cell (p := ⟨pg, off + s.pos * 5 + 2, none⟩) (by show pg < _; omega)).trans p2, (hb.cell (p := ⟨pg, off + s.pos * 5 + 3, none⟩) (by show pg < _; omega)).trans p3, (hb.cell (p := ⟨pg, off + s.pos * 5 + 4, none⟩) (by show pg < _; omega)).trans p4⟩
  have hmd := hm.kept hbd
  obtain ⟨d0, d1, d34, dr, df⟩ := hmd.cells h32
  have e0 := (block_cells hbox).1 0
  have e1 := (block_cells hbox).1 1
  have e2 := (block_cells hbox).1 2
  have e3 := (block_cells hbox).1 3
  simp only [List.getElem?_toArray, List.getElem?_cons_zero, List.getElem?_cons_succ] at e0 e1 e2 e3
  have hbl : w.heap.size < wd.heap.size := (Array.getElem?_eq_some_iff.1 hbox).1
  have HMD := Lib.hid hmd
  clear hmd hbox
  obtain ⟨tra, htra⟩ : ∃ t, s.regs[ra]? = some t := ⟨_, List.getElem?_eq_getElem (by omega)⟩
  obtain ⟨qra, fra, nra⟩ := dr ra tra htra
  have zra := df (2 + ra)
  obtain ⟨qb, fb, nb⟩ := dr rb t ht

  clear hm hg hl hx hn' hxs hown hr hle hpg
  go_enter Try.func116, Try.ntmps116
  go_wp2
  go_region_held3 (fun w' => w'.cell? ⟨g, 0, none⟩ = some (.slice (some ⟨pg, off, none⟩) n cap) ∧ w'.cell? ⟨g, 34, none⟩ = some (.int .i64 s.pos) ∧ w'.cell? ⟨pg, off + s.pos * 5, none⟩ = some (.int .i64 (1)) ∧ w'.cell? ⟨pg, off + s.pos * 5 + 1, none⟩ = some (.int .i64 (ra : Nat)) ∧
      w'.cell? ⟨pg, off + s.pos * 5 + 2, none⟩ = some (.int .i64 (rb : Nat)) ∧ w'.cell? ⟨pg, off + s.pos * 5 + 3, none⟩ = some (.int .i64 (c)) ∧ w'.cell? ⟨pg, off + s.pos * 5 + 4, none⟩ = some (.string tree))
    (exact keep _ (by first | exact hbd | exact (Below.refl _ _).drew | exact ((Below.refl _ _).drew).alloc (Nat.le_refl _) _))
    (fail)
  try rw [hwd]
  clear keep hwd p0 p1 p2 p3 p4 c0 c1 c34
  have HND := Lib.hid nb
  clear dr df nb nra
  have df34 := (block_cells HMD.out.blk).2 34
  go_wp2
  go_region
  go_wp2
  go_ret
  refine StepOk.mk' rfl ?_
  first
  | exact step_fin_drew (step_fin HMD.out h32 (Els.of_below hbd) ra ha HND.out)
  | exact step_fin (HMD.out.kept (Below.refl _ _).drew) h32 (Els.of_below hbd.drew) ra ha (NodeP.kept (Kept.refl _ _).drew HND.out)

set_option maxRecDepth 20000 in
set_option maxHeartbeats 4000000 in
theorem step_head (w : World) (B g : Nat) (l : List Ins) (s : St) (pv sv : Value) (ps : List Value) (hm : MachP w B g l s pv sv ps) (hg : Good l.length s) (hn4 : l.length ≤ 4000) (ra : Nat) (ha : ra < 32) (rb : Nat) (hb : rb < 32) (t : Tr) (ht : s.regs[rb]? = some t) (c : Int) (tree : ByteArray)
    (hx : l[s.pos]? = some ⟨3, (ra : Nat), (rb : Nat), c, tree⟩) :
    Calls Try.prog 116 #[.pointer (some ⟨g, 0, none⟩)] w (StepOk w B g l ⟨s.pos + 1, s.regs.set ra t.hd⟩ pv sv) := by
  have hp : s.pos < l.length := (List.getElem?_eq_some_iff.1 hx).1
  obtain ⟨ao, cap, rfl⟩ := hm.prog.len
  obtain ⟨c0, c1, c34, hr, hf⟩ := hm.cells hg.2.1
  have hl := hm.prog
  have hlt := hm.lt
  have hle := hm.le
  obtain ⟨xs, hxs, hown⟩ := hm.sets
  obtain ⟨n, hn'⟩ : ∃ n, l.length = n := ⟨_, rfl⟩
  rw [hn'] at hl c0 hp hn4 hown
  obtain ⟨pg, off, rfl, hpg, p0, p1, p2, p3, p4⟩ := hl.get hx
  dsimp only at p0 p1 p2 p3 p4
  have h32 := hg.2.1
  have HX := Lib.hid hx
  have HN := Lib.hid hn'
  have HM := Lib.hid hm
  have hi0 : (0 : Int) ≤ (s.pos : Int) := Int.natCast_nonneg _
  have hi1 : (s.pos : Int) < (n : Int) := by omega
  obtain ⟨wd, hwd⟩ : ∃ wd, (w.alloc (.cells #[.int .i64 (3), .int .i64 (ra : Nat), .int .i64 (rb : Nat), .int .i64 (c), .string tree] 52)).drew = wd := ⟨_, rfl⟩
  have hbd : Below w.heap.size w wd := by rw [← hwd]; exact ((Below.refl _ _).alloc (Nat.le_refl _) _).drew
  have hbox : wd.heap[w.heap.size]? = some (.cells #[.int .i64 (3), .int .i64 (ra : Nat), .int .i64 (rb : Nat), .int .i64 (c), .string tree] 52 (0, 0)) := by rw [← hwd]; exact heap_alloc_new w _
  have keep : ∀ w', Below w.heap.size w w' → w'.cell? ⟨g, 0, none⟩ = some (.slice (some ⟨pg, off, none⟩) n cap) ∧ w'.cell? ⟨g, 34, none⟩ = some (.int .i64 s.pos) ∧ w'.cell? ⟨pg, off + s.pos * 5, none⟩ = some (.int .i64 (3)) ∧ w'.cell? ⟨pg, off + s.pos * 5 + 1, none⟩ = some (.int .i64 (ra : Nat)) ∧
      w'.cell? ⟨pg, off + s.pos * 5 + 2, none⟩ = some (.int .i64 (rb : Nat)) ∧ w'.cell? ⟨pg, off + s.pos * 5 + 3, none⟩ = some (.int .i64 (c)) ∧ w'.cell? ⟨pg, off + s.pos * 5 + 4, none⟩ = some (.string tree) := fun w' hb => by
    refine ⟨(hb.cell (p := ⟨g, 0, none⟩) hlt).trans c0, (hb.cell (p := ⟨g, 34, none⟩) hlt).trans c34, (hb.cell (p := ⟨pg, off + s.pos * 5, none⟩) (by show pg < _; omega)).trans p0, (hb.cell (p := ⟨pg, off + s.pos * 5 + 1, none⟩) (by show pg < _; omega)).trans p1, (hb.cell (p := ⟨pg, off + s.pos * 5 + 2, none⟩) (by show pg < _; omega)).trans p2, (hb.cell (p := ⟨pg, off + s.pos * 5 + 3, none⟩) (by show pg < _; omega)).trans p3, (hb.cell (p := ⟨pg, off + s.pos * 5 + 4, none⟩) (by show pg < _; omega)).trans p4⟩
  have hmd := hm.kept hbd
  obtain ⟨d0, d1, d34, dr, df⟩ := hmd.cells h32
  have e0 := (block_cells hbox).1 0
  have e1 := (block_cells hbox).1 1
  have e2 := (block_cells hbox).1 2
  have e3 := (block_cells hbox).1 3
  simp only [List.getElem?_toArray, List.getElem?_cons_zero, List.getElem?_cons_succ] at e0 e1 e2 e3
  have hbl : w.heap.size < wd.heap.size := (Array.getElem?_eq_some_iff.1 hbox).1
  have HMD := Lib.hid hmd
  clear hmd hbox
  obtain ⟨tra, htra⟩ : ∃ t, s.regs[ra]? = some t := ⟨_, List.getElem?_eq_getElem (by omega)⟩
  obtain ⟨qra, fra, nra⟩ := dr ra tra htra
  have zra := df (2 + ra)
  obtain ⟨qb, fb, nb⟩ := dr rb t ht

  clear hm hg hl hx hn' hxs hown hr hle hpg
  go_enter Try.func116, Try.ntmps116
  go_wp2
  go_region_held3 (fun w' => w'.cell? ⟨g, 0, none⟩ = some (.slice (some ⟨pg, off, none⟩) n cap) ∧ w'.cell? ⟨g, 34, none⟩ = some (.int .i64 s.pos) ∧ w'.cell? ⟨pg, off + s.pos * 5, none⟩ = some (.int .i64 (3)) ∧ w'.cell? ⟨pg, off + s.pos * 5 + 1, none⟩ = some (.int .i64 (ra : Nat)) ∧
      w'.cell? ⟨pg, off + s.pos * 5 + 2, none⟩ = some (.int .i64 (rb : Nat)) ∧ w'.cell? ⟨pg, off + s.pos * 5 + 3, none⟩ = some (.int .i64 (c)) ∧ w'.cell? ⟨pg, off + s.pos * 5 + 4, none⟩ = some (.string tree))
    (exact keep _ (by first | exact hbd | exact (Below.refl _ _).drew | exact ((Below.refl _ _).drew).alloc (Nat.le_refl _) _))
    (fail)
  try rw [hwd]
  clear keep hwd p0 p1 p2 p3 p4 c0 c1 c34
  have HND := Lib.hid nb
  have kc : ∀ w', Below wd.heap.size wd w' → Calls Try.prog 135 #[.pointer qb] w' fun e w'' => ∃ x, e = .returned (.pointer x) ∧ NodeP 135 w' t.hd (.pointer x) ∧ w' = w'' := fun w' hb' => nodeHead_any t _ w' (HND.out.kept (Kept.below hb'))
  clear dr df nb nra
  have df34 := (block_cells HMD.out.blk).2 34
  go_wp2
  go_region_with (refine (kc _ (by first | exact Below.refl _ _ | exact (Below.refl _ _).drew)).mono ?_; rintro e w2 ⟨xq, rfl, hnx, rfl⟩)
  all_goals
    go_wp2
    go_ret
    refine StepOk.mk' rfl ?_
    first
    | exact step_fin_drew (step_fin HMD.out h32 (Els.of_below hbd) ra ha hnx)
    | exact step_fin (HMD.out.kept (Below.refl _ _).drew) h32 (Els.of_below hbd.drew) ra ha hnx

set_option maxRecDepth 20000 in
set_option maxHeartbeats 4000000 in
theorem step_tail (w : World) (B g : Nat) (l : List Ins) (s : St) (pv sv : Value) (ps : List Value) (hm : MachP w B g l s pv sv ps) (hg : Good l.length s) (hn4 : l.length ≤ 4000) (ra : Nat) (ha : ra < 32) (rb : Nat) (hb : rb < 32) (t : Tr) (ht : s.regs[rb]? = some t) (c : Int) (tree : ByteArray)
    (hx : l[s.pos]? = some ⟨4, (ra : Nat), (rb : Nat), c, tree⟩) :
    Calls Try.prog 116 #[.pointer (some ⟨g, 0, none⟩)] w (StepOk w B g l ⟨s.pos + 1, s.regs.set ra t.tl⟩ pv sv) := by
  have hp : s.pos < l.length := (List.getElem?_eq_some_iff.1 hx).1
  obtain ⟨ao, cap, rfl⟩ := hm.prog.len
  obtain ⟨c0, c1, c34, hr, hf⟩ := hm.cells hg.2.1
  have hl := hm.prog
  have hlt := hm.lt
  have hle := hm.le
  obtain ⟨xs, hxs, hown⟩ := hm.sets
  obtain ⟨n, hn'⟩ : ∃ n, l.length = n := ⟨_, rfl⟩
  rw [hn'] at hl c0 hp hn4 hown
  obtain ⟨pg, off, rfl, hpg, p0, p1, p2, p3, p4⟩ := hl.get hx
  dsimp only at p0 p1 p2 p3 p4
  have h32 := hg.2.1
  have HX := Lib.hid hx
  have HN := Lib.hid hn'
  have HM := Lib.hid hm
  have hi0 : (0 : Int) ≤ (s.pos : Int) := Int.natCast_nonneg _
  have hi1 : (s.pos : Int) < (n : Int) := by omega
  obtain ⟨wd, hwd⟩ : ∃ wd, (w.alloc (.cells #[.int .i64 (4), .int .i64 (ra : Nat), .int .i64 (rb : Nat), .int .i64 (c), .string tree] 52)).drew = wd := ⟨_, rfl⟩
  have hbd : Below w.heap.size w wd := by rw [← hwd]; exact ((Below.refl _ _).alloc (Nat.le_refl _) _).drew
  have hbox : wd.heap[w.heap.size]? = some (.cells #[.int .i64 (4), .int .i64 (ra : Nat), .int .i64 (rb : Nat), .int .i64 (c), .string tree] 52 (0, 0)) := by rw [← hwd]; exact heap_alloc_new w _
  have keep : ∀ w', Below w.heap.size w w' → w'.cell? ⟨g, 0, none⟩ = some (.slice (some ⟨pg, off, none⟩) n cap) ∧ w'.cell? ⟨g, 34, none⟩ = some (.int .i64 s.pos) ∧ w'.cell? ⟨pg, off + s.pos * 5, none⟩ = some (.int .i64 (4)) ∧ w'.cell? ⟨pg, off + s.pos * 5 + 1, none⟩ = some (.int .i64 (ra : Nat)) ∧
      w'.cell? ⟨pg, off + s.pos * 5 + 2, none⟩ = some (.int .i64 (rb : Nat)) ∧ w'.cell? ⟨pg, off + s.pos * 5 + 3, none⟩ = some (.int .i64 (c)) ∧ w'.cell? ⟨pg, off + s.pos * 5 + 4, none⟩ = some (.string tree) := fun w' hb => by
    refine ⟨(hb.cell (p := ⟨g, 0, none⟩) hlt).trans c0, (hb.cell (p := ⟨g, 34, none⟩) hlt).trans c34, (hb.cell (p := ⟨pg, off + s.pos * 5, none⟩) (by show pg < _; omega)).trans p0, (hb.cell (p := ⟨pg, off + s.pos * 5 + 1, none⟩) (by show pg < _; omega)).trans p1, (hb.cell (p := ⟨pg, off + s.pos * 5 + 2, none⟩) (by show pg < _; omega)).trans p2, (hb.cell (p := ⟨pg, off + s.pos * 5 + 3, none⟩) (by show pg < _; omega)).trans p3, (hb.cell (p := ⟨pg, off + s.pos * 5 + 4, none⟩) (by show pg < _; omega)).trans p4⟩
  have hmd := hm.kept hbd
  obtain ⟨d0, d1, d34, dr, df⟩ := hmd.cells h32
  have e0 := (block_cells hbox).1 0
  have e1 := (block_cells hbox).1 1
  have e2 := (block_cells hbox).1 2
  have e3 := (block_cells hbox).1 3
  simp only [List.getElem?_toArray, List.getElem?_cons_zero, List.getElem?_cons_succ] at e0 e1 e2 e3
  have hbl : w.heap.size < wd.heap.size := (Array.getElem?_eq_some_iff.1 hbox).1
  have HMD := Lib.hid hmd
  clear hmd hbox
  obtain ⟨tra, htra⟩ : ∃ t, s.regs[ra]? = some t := ⟨_, List.getElem?_eq_getElem (by omega)⟩
  obtain ⟨qra, fra, nra⟩ := dr ra tra htra
  have zra := df (2 + ra)
  obtain ⟨qb, fb, nb⟩ := dr rb t ht

  clear hm hg hl hx hn' hxs hown hr hle hpg
  go_enter Try.func116, Try.ntmps116
  go_wp2
  go_region_held3 (fun w' => w'.cell? ⟨g, 0, none⟩ = some (.slice (some ⟨pg, off, none⟩) n cap) ∧ w'.cell? ⟨g, 34, none⟩ = some (.int .i64 s.pos) ∧ w'.cell? ⟨pg, off + s.pos * 5, none⟩ = some (.int .i64 (4)) ∧ w'.cell? ⟨pg, off + s.pos * 5 + 1, none⟩ = some (.int .i64 (ra : Nat)) ∧
      w'.cell? ⟨pg, off + s.pos * 5 + 2, none⟩ = some (.int .i64 (rb : Nat)) ∧ w'.cell? ⟨pg, off + s.pos * 5 + 3, none⟩ = some (.int .i64 (c)) ∧ w'.cell? ⟨pg, off + s.pos * 5 + 4, none⟩ = some (.string tree))
    (exact keep _ (by first | exact hbd | exact (Below.refl _ _).drew | exact ((Below.refl _ _).drew).alloc (Nat.le_refl _) _))
    (fail)
  try rw [hwd]
  clear keep hwd p0 p1 p2 p3 p4 c0 c1 c34
  have HND := Lib.hid nb
  have kc : ∀ w', Below wd.heap.size wd w' → Calls Try.prog 136 #[.pointer qb] w' fun e w'' => ∃ x, e = .returned (.pointer x) ∧ NodeP 135 w' t.tl (.pointer x) ∧ w' = w'' := fun w' hb' => nodeTail_any t _ w' (HND.out.kept (Kept.below hb'))
  clear dr df nb nra
  have df34 := (block_cells HMD.out.blk).2 34
  go_wp2
  go_region_with (refine (kc _ (by first | exact Below.refl _ _ | exact (Below.refl _ _).drew)).mono ?_; rintro e w2 ⟨xq, rfl, hnx, rfl⟩)
  all_goals
    go_wp2
    go_ret
    refine StepOk.mk' rfl ?_
    first
    | exact step_fin_drew (step_fin HMD.out h32 (Els.of_below hbd) ra ha hnx)
    | exact step_fin (HMD.out.kept (Below.refl _ _).drew) h32 (Els.of_below hbd.drew) ra ha hnx

end Go.Proofs.Ytaiomcjopgnfpaa

/- The walk of (*machine).step: jump; and all. -/
import Derived.Test.YtaiomcjopgnfpaaRunS2
namespace Go.Proofs.Ytaiomcjopgnfpaa
open Go.RowKit

theorem step_jfin {w wd : World} {B g : Nat} {l : List Ins} {s : St} {pv sv : Value} {ps : List Value} (hm : MachP wd B g l s pv sv ps) (h32 : s.regs.length = 32) (hb : Els g w wd) (z : Int) (p : Nat) (hz : z = p) :
    ∃ ps', MachP (wd.setCell ⟨g, 34, none⟩ (.int .i64 z)) B g l ⟨p, s.regs⟩ pv sv ps' ∧ Els g w (wd.setCell ⟨g, 34, none⟩ (.int .i64 z)) := by
  subst hz
  exact ⟨_, hm.setPos h32 p, hb.set _ _⟩

set_option maxRecDepth 20000 in
set_option maxHeartbeats 4000000 in
theorem step_jump_no (w : World) (B g : Nat) (l : List Ins) (s : St) (pv sv : Value) (ps : List Value) (hm : MachP w B g l s pv sv ps) (hg : Good l.length s) (hn4 : l.length ≤ 4000) (ra : Nat) (ha : ra < 32) (t : Tr) (ht : s.regs[ra]? = some t) (htn : t = .nil) (b c : Int) (tree : ByteArray) (hb1 : -(s.pos : Int) ≤ b) (hb2 : b ≤ (l.length : Int) - s.pos)
    (hx : l[s.pos]? = some ⟨5, (ra : Nat), b, c, tree⟩) :
    Calls Try.prog 116 #[.pointer (some ⟨g, 0, none⟩)] w (StepOk w B g l ⟨s.pos + 1, s.regs⟩ pv sv) := by
  have hp : s.pos < l.length := (List.getElem?_eq_some_iff.1 hx).1
  obtain ⟨ao, cap, rfl⟩ := hm.prog.len
  obtain ⟨c0, c1, c34, hr, hf⟩ := hm.cells hg.2.1
  have hl := hm.prog
  have hlt := hm.lt
  have hle := hm.le
  obtain ⟨xs, hxs, hown⟩ := hm.sets
  obtain ⟨n, hn'⟩ : ∃ n, l.length = n := ⟨_, rfl⟩
  rw [hn'] at hl c0 hp hn4 hown
  obtain ⟨pg, off, rfl, hpg, p0, p1, p2, p3, p4⟩ := hl.get hx
  dsimp only at p0 p1 p2 p3 p4
  have h32 := hg.2.1
  have HX := Lib.hid hx
  have HN := Lib.hid hn'
  have HM := Lib.hid hm
  have hi0 : (0 : Int) ≤ (s.pos : Int) := Int.natCast_nonneg _
  have hi1 : (s.pos : Int) < (n : Int) := by omega
  obtain ⟨wd, hwd⟩ : ∃ wd, (w.alloc (.cells #[.int .i64 (5), .int .i64 (ra : Nat), .int .i64 (b), .int .i64 (c), .string tree] 52)).drew = wd := ⟨_, rfl⟩
  have hbd : Below w.heap.size w wd := by rw [← hwd]; exact ((Below.refl _ _).alloc (Nat.le_refl _) _).drew
  have hbox : wd.heap[w.heap.size]? = some (.cells #[.int .i64 (5), .int .i64 (ra : Nat), .int .i64 (b), .int .i64 (c), .string tree] 52 (0, 0)) := by rw [← hwd]; exact heap_alloc_new w _
  have keep : ∀ w', Below w.heap.size w w' → w'.cell? ⟨g, 0, none⟩ = some (.slice (some ⟨pg, off, none⟩) n cap) ∧ w'.cell? ⟨g, 34, none⟩ = some (.int .i64 s.pos) ∧ w'.cell? ⟨pg, off + s.pos * 5, none⟩ = some (.int .i64 (5)) ∧ w'.cell? ⟨pg, off + s.pos * 5 + 1, none⟩ = some (.int .i64 (ra : Nat)) ∧
      w'.cell? ⟨pg, off + s.pos * 5 + 2, none⟩ = some (.int .i64 (b)) ∧ w'.cell? ⟨pg, off + s.pos * 5 + 3, none⟩ = some (.int .i64 (c)) ∧ w'.cell? ⟨pg, off + s.pos * 5 + 4, none⟩ = some (.string tree) := fun w' hb => by
    refine ⟨(hb.cell (p := ⟨g, 0, none⟩) hlt).trans c0, (hb.cell (p := ⟨g, 34, none⟩) hlt).trans c34, (hb.cell (p := ⟨pg, off + s.pos * 5, none⟩) (by show pg < _; omega)).trans p0, (hb.cell (p := ⟨pg, off + s.pos * 5 + 1, none⟩) (by show pg < _; omega)).trans p1, (hb.cell (p := ⟨pg, off + s.pos * 5 + 2, none⟩) (by show pg < _; omega)).trans p2, (hb.cell (p := ⟨pg, off + s.pos * 5 + 3, none⟩) (by show pg < _; omega)).trans p3, (hb.cell (p := ⟨pg, off + s.pos * 5 + 4, none⟩) (by show pg < _; omega)).trans p4⟩
  have hmd := hm.kept hbd
  obtain ⟨d0, d1, d34, dr, df⟩ := hmd.cells h32
  have e0 := (block_cells hbox).1 0
  have e1 := (block_cells hbox).1 1
  have e2 := (block_cells hbox).1 2
  have e3 := (block_cells hbox).1 3
  simp only [List.getElem?_toArray, List.getElem?_cons_zero, List.getElem?_cons_succ] at e0 e1 e2 e3
  have hbl : w.heap.size < wd.heap.size := (Array.getElem?_eq_some_iff.1 hbox).1
  have HMD := Lib.hid hmd
  clear hmd hbox
  obtain ⟨qa, fa, na⟩ := dr ra t ht
  rw [hn'] at hb2
  have ia0 : (0 : Int) ≤ (ra : Int) := Int.natCast_nonneg _
  have ia1 : (ra : Int) < 32 := by omega

  clear hm hg hl hx hn' hxs hown hr hle hpg
  go_enter Try.func116, Try.ntmps116
  go_wp2
  go_region_held3 (fun w' => w'.cell? ⟨g, 0, none⟩ = some (.slice (some ⟨pg, off, none⟩) n cap) ∧ w'.cell? ⟨g, 34, none⟩ = some (.int .i64 s.pos) ∧ w'.cell? ⟨pg, off + s.pos * 5, none⟩ = some (.int .i64 (5)) ∧ w'.cell? ⟨pg, off + s.pos * 5 + 1, none⟩ = some (.int .i64 (ra : Nat)) ∧
      w'.cell? ⟨pg, off + s.pos * 5 + 2, none⟩ = some (.int .i64 (b)) ∧ w'.cell? ⟨pg, off + s.pos * 5 + 3, none⟩ = some (.int .i64 (c)) ∧ w'.cell? ⟨pg, off + s.pos * 5 + 4, none⟩ = some (.string tree))
    (exact keep _ (by first | exact hbd | exact (Below.refl _ _).drew | exact ((Below.refl _ _).drew).alloc (Nat.le_refl _) _))
    (fail)
  try rw [hwd]
  clear keep hwd p0 p1 p2 p3 p4 c0 c1 c34
  subst htn
  have hq : qa = none := by have : Value.pointer qa = .pointer none := na; simpa using this
  subst hq
  have df34 := df 34
  clear dr df na ht
  have hnI : (n : Int) ≤ 4000 := by omega
  go_wp2
  go_quiet (fail)
  go_wp2
  go_ret
  refine StepOk.mk' rfl ?_
  have hq1 := below_drewN (Below.refl wd.heap.size wd) nq
  exact step_jfin (HMD.out.kept hq1) h32 (Els.of_below (hbd.trans (hq1.mono hbd.size))) _ _ (by omega)

set_option maxRecDepth 20000 in
set_option maxHeartbeats 4000000 in
theorem step_jump_go (w : World) (B g : Nat) (l : List Ins) (s : St) (pv sv : Value) (ps : List Value) (hm : MachP w B g l s pv sv ps) (hg : Good l.length s) (hn4 : l.length ≤ 4000) (ra : Nat) (ha : ra < 32) (t : Tr) (ht : s.regs[ra]? = some t) (htn : t ≠ .nil) (b c : Int) (tree : ByteArray) (hb1 : -(s.pos : Int) ≤ b) (hb2 : b ≤ (l.length : Int) - s.pos)
    (hx : l[s.pos]? = some ⟨5, (ra : Nat), b, c, tree⟩) :
    Calls Try.prog 116 #[.pointer (some ⟨g, 0, none⟩)] w (StepOk w B g l ⟨((s.pos : Int) + b).toNat, s.regs⟩ pv sv) := by
  have hp : s.pos < l.length := (List.getElem?_eq_some_iff.1 hx).1
  obtain ⟨ao, cap, rfl⟩ := hm.prog.len
  obtain ⟨c0, c1, c34, hr, hf⟩ := hm.cells hg.2.1
  have hl := hm.prog
  have hlt := hm.lt
  have hle := hm.le
  obtain ⟨xs, hxs, hown⟩ := hm.sets
  obtain ⟨n, hn'⟩ : ∃ n, l.length = n := ⟨_, rfl⟩
  rw [hn'] at hl c0 hp hn4 hown
  obtain ⟨pg, off, rfl, hpg, p0, p1, p2, p3, p4⟩ := hl.get hx
  dsimp only at p0 p1 p2 p3 p4
  have h32 := hg.2.1
  have HX := Lib.hid hx
  have HN := Lib.hid hn'
  have HM := Lib.hid hm
  have hi0 : (0 : Int) ≤ (s.pos : Int) := Int.natCast_nonneg _
  have hi1 : (s.pos : Int) < (n : Int) := by omega
  obtain ⟨wd, hwd⟩ : ∃ wd, (w.alloc (.cells #[.int .i64 (5), .int .i64 (ra : Nat), .int .i64 (b), .int .i64 (c), .string tree] 52)).drew = wd := ⟨_, rfl⟩
  have hbd : Below w.heap.size w wd := by rw [← hwd]; exact ((Below.refl _ _).alloc (Nat.le_refl _) _).drew
  have hbox : wd.heap[w.heap.size]? = some (.cells #[.int .i64 (5), .int .i64 (ra : Nat), .int .i64 (b), .int .i64 (c), .string tree] 52 (0, 0)) := by rw [← hwd]; exact heap_alloc_new w _
  have keep : ∀ w', Below w.heap.size w w' → w'.cell? ⟨g, 0, none⟩ = some (.slice (some ⟨pg, off, none⟩) n cap) ∧ w'.cell? ⟨g, 34, none⟩ = some (.int .i64 s.pos) ∧ w'.cell? ⟨pg, off + s.pos * 5, none⟩ = some (.int .i64 (5)) ∧ w'.cell? ⟨pg, off + s.pos * 5 + 1, none⟩ = some (.int .i64 (ra : Nat)) ∧
      w'.cell? ⟨pg, off + s.pos * 5 + 2, none⟩ = some (.int .i64 (b)) ∧ w'.cell? ⟨pg, off + s.pos * 5 + 3, none⟩ = some (.int .i64 (c)) ∧ w'.cell? ⟨pg, off + s.pos * 5 + 4, none⟩ = some (.string tree) := fun w' hb => by
    refine ⟨(hb.cell (p := ⟨g, 0, none⟩) hlt).trans c0, (hb.cell (p := ⟨g, 34, none⟩) hlt).trans c34, (hb.cell (p := ⟨pg, off + s.pos * 5, none⟩) (by show pg < _; omega)).trans p0, (hb.cell (p := ⟨pg, off + s.pos * 5 + 1, none⟩) (by show pg < _; omega)).trans p1, (hb.cell (p := ⟨pg, off + s.pos * 5 + 2, none⟩) (by show pg < _; omega)).trans p2, (hb.cell (p := ⟨pg, off + s.pos * 5 + 3, none⟩) (by show pg < _; omega)).trans p3, (hb.cell (p := ⟨pg, off + s.pos * 5 + 4, none⟩) (by show pg < _; omega)).trans p4⟩
  have hmd := hm.kept hbd
  obtain ⟨d0, d1, d34, dr, df⟩ := hmd.cells h32
  have e0 := (block_cells hbox).1 0
  have e1 := (block_cells hbox).1 1
  have e2 := (block_cells hbox).1 2
  have e3 := (block_cells hbox).1 3
  simp only [List.getElem?_toArray, List.getElem?_cons_zero, List.getElem?_cons_succ] at e0 e1 e2 e3
  have hbl : w.heap.size < wd.heap.size := (Array.getElem?_eq_some_iff.1 hbox).1
  have HMD := Lib.hid hmd
  clear hmd hbox
  obtain ⟨qa, fa, na⟩ := dr ra t ht
  rw [hn'] at hb2
  have ia0 : (0 : Int) ≤ (ra : Int) := Int.natCast_nonneg _
  have ia1 : (ra : Int) < 32 := by omega

  clear hm hg hl hx hn' hxs hown hr hle hpg
  go_enter Try.func116, Try.ntmps116
  go_wp2
  go_region_held3 (fun w' => w'.cell? ⟨g, 0, none⟩ = some (.slice (some ⟨pg, off, none⟩) n cap) ∧ w'.cell? ⟨g, 34, none⟩ = some (.int .i64 s.pos) ∧ w'.cell? ⟨pg, off + s.pos * 5, none⟩ = some (.int .i64 (5)) ∧ w'.cell? ⟨pg, off + s.pos * 5 + 1, none⟩ = some (.int .i64 (ra : Nat)) ∧
      w'.cell? ⟨pg, off + s.pos * 5 + 2, none⟩ = some (.int .i64 (b)) ∧ w'.cell? ⟨pg, off + s.pos * 5 + 3, none⟩ = some (.int .i64 (c)) ∧ w'.cell? ⟨pg, off + s.pos * 5 + 4, none⟩ = some (.string tree))
    (exact keep _ (by first | exact hbd | exact (Below.refl _ _).drew | exact ((Below.refl _ _).drew).alloc (Nat.le_refl _) _))
    (fail)
  try rw [hwd]
  clear keep hwd p0 p1 p2 p3 p4 c0 c1 c34
  obtain ⟨qg, hq⟩ : ∃ qg, qa = some ⟨qg, 0, none⟩ := by
    cases t with
    | nil => exact absurd rfl htn
    | pair a1 a2 => obtain ⟨g1, x1, y1, hv1, _⟩ := na; simp only [Value.pointer.injEq] at hv1; exact ⟨g1, hv1⟩
  subst hq
  have hpb : (s.pos : Int) + b = (((s.pos : Int) + b).toNat : Int) := by omega
  have hpb2 : (0 : Int) ≤ (s.pos : Int) + b := by omega
  have hpb3 : (s.pos : Int) + b ≤ n := by omega
  have HPB := Lib.hid hpb
  clear hpb
  have df34 := df 34
  clear dr df na ht
  have hnI : (n : Int) ≤ 4000 := by omega
  go_wp2
  go_quiet (fail)
  go_wp2
  go_ret
  refine StepOk.mk' rfl ?_
  have hq1 := below_drewN (Below.refl wd.heap.size wd) nq
  exact step_jfin (HMD.out.kept hq1) h32 (Els.of_below (hbd.trans (hq1.mono hbd.size))) _ _ HPB.out

end Go.Proofs.Ytaiomcjopgnfpaa

/- The walk of (*machine).state. -/
import Derived.Test.YtieocihlkpipmaaRunT
import Derived.Deep.MidRow
namespace Go.Proofs.Ytieocihlkpipmaa
open Go.RowKit

theorem MachP.range {w : World} {B g : Nat} {l : List Ins} {s : St} {pv sv : Value} {ps : List Value} (h : MachP w B g l s pv sv ps) : w.rangeAt g 2 ps := by
  intro j v hj
  rw [(block_cells h.blk).1]
  unfold mcells
  rw [List.getElem?_toArray, show 2 + j = j + 1 + 1 by omega]
  simp only [List.getElem?_cons_succ]
  rw [List.getElem?_append_left (List.getElem?_eq_some_iff.1 hj).1, hj]

theorem run_index_ptr (w : World) (ps : List Value) (k : Nat) (hk : k < 32) (v : Value) (hv : ps[k]? = some v) :
    (Instr.index 98 (.agg ps.toArray) (.int .i64 (k : Nat))).run Try.prog w = .ok v w := by
  have hu : Try.prog.underlying 98 = some (.array 32 96) := Try.underlying98
  have hs : (Try.prog.info? 96).map (·.size) = some 1 := by kernel_rfl
  have hu2 : ∃ e, Try.prog.underlying 96 = some (.pointer e) := ⟨_, Try.underlying96⟩
  obtain ⟨e, hu2⟩ := hu2
  cases hq : Try.prog.info? 96 with
  | none => simp [hq] at hs
  | some i =>
    have hi : i.size = 1 := by simpa [hq] using hs
    have hag : ∀ w, (isAgg 96).run Try.prog w = .ok false w := fun w => by
      unfold isAgg; rw [Sem.run_bind, run_underlying hu2 w]; rfl
    have hk2 : (0 : Int) ≤ (k : Int) ∧ (k : Int) < 32 := by omega
    simp [Instr.index, asIntOf, Sem.run_bind, run_underlying hu, sizeOf, typeInfo, hq, hi, part, hag, hk2, hv, hk]

/-- A state that is being made. -/
def MakeS (w wr : World) (pos : Nat) (v : Value) (k : Nat) (xs : List Value) : Prop :=
  wr.heap[w.heap.size + 1]? = some (.cells #[.int .i64 pos, v] 53 (0, 0)) ∧ wr.heap[w.heap.size]? = some (.cells #[.int .i64 0, .slice none 0 0] 53 (0, 0)) ∧ wr.ownsRow (w.heap.size + 2) 9 1 v k xs ∧ Below w.heap.size w wr
theorem MakeS.step {w wr w1 w4 : World} {pos : Nat} {v v' : Value} {k : Nat} {xs : List Value} (h : MakeS w wr pos v k xs) (h1 : Below wr.heap.size wr w1) (hg : Grew w1 w4 v v' 1) : w4.heap[w.heap.size + 1]? = some (.cells #[.int .i64 pos, v] 53 (0, 0)) ∧ w4.heap[w.heap.size]? = some (.cells #[.int .i64 0, .slice none 0 0] 53 (0, 0)) := by
  obtain ⟨a, b, c, d⟩ := h
  have ha := (Array.getElem?_eq_some_iff.1 a).1
  have hb := (Array.getElem?_eq_some_iff.1 b).1
  have hs := h1.size
  refine ⟨(hg.old _ (by omega) ?_).trans ((h1.block _ ha).trans a), (hg.old _ (by omega) ?_).trans ((h1.block _ hb).trans b)⟩
  · intro e; have := (c.lt (w.heap.size + 1) (by rw [← e])).1; omega
  · intro e; have := (c.lt w.heap.size (by rw [← e])).1; omega

set_option maxRecDepth 20000 in
set_option maxHeartbeats 4000000 in
theorem state_any (w : World) (B g : Nat) (l : List Ins) (s : St) (pv sv : Value) (ps : List Value) (hm : MachP w B g l s pv sv ps) (hg : Good l.length s) :
    Calls Try.prog 82 #[.pointer (some ⟨g, 0, none⟩)] w fun e w' => ∃ v', e = .returned (.agg #[.int .i64 s.pos, v']) ∧ StrRow w' w'.heap.size v' (s.regs.map TS) ∧ Below w.heap.size w w' := by
  have hpl : ps.length = 32 := by rw [hm.regs.length, hg.2.1]
  have hra := Lib.hid (fun o1 o2 => (hm.kept (((Below.refl _ w).alloc (Nat.le_refl _) o1).alloc (by simp) o2)).range)
  have hsz := Lib.hid (show (Try.prog.info? 98).map (·.size) = some ps.length by rw [hpl]; kernel_rfl)
  obtain ⟨c0, c1, c34, hr, hf⟩ := hm.cells hg.2.1
  have HM := Lib.hid hm
  have HG := Lib.hid hg
  have hlt := hm.lt
  clear hm hg
  go_enter Try.func82, Try.ntmps82
  go_wp2_with (refine wpList_load_mid rfl 98 (.tmp 13) rfl g 2 rfl ps _ (hra.out _ _) Try.underlying98 rfl hsz.out ?_)
  have hb0 : Below w.heap.size w ((w.alloc (.cells #[.int .i64 0, .slice none 0 0] 53)).alloc (.cells #[.int .i64 s.pos, .slice none 0 0] 53)) := ((Below.refl _ w).alloc (Nat.le_refl _) _).alloc (by simp) _
  have hs0 : MakeS w ((w.alloc (.cells #[.int .i64 0, .slice none 0 0] 53)).alloc (.cells #[.int .i64 s.pos, .slice none 0 0] 53)) s.pos (.slice none 0 0) 0 [] := by
    refine ⟨?_, ?_, World.ownsRow_nil _ _ _ _, hb0⟩
    · have := heap_alloc_new (w.alloc (.cells #[.int .i64 0, .slice none 0 0] 53)) (.cells #[.int .i64 s.pos, .slice none 0 0] 53)
      rwa [World.size_alloc] at this
    · exact (Below.heap_alloc _ _ _ (by simp)).trans (heap_alloc_new w _)
  go_loopg [15] 32 (fun gg i wr => ∃ (k : Nat) (v : Value), k ≤ 32 ∧ gg = 32 - k ∧ i = .int .i64 k ∧ Aside (MakeS w wr s.pos v k ((s.regs.take k).map fun t => .string (TS t))))
  case atStart => exact ⟨0, _, by omega, rfl, rfl, hs0⟩
  case round =>
    clear hb0 hs0
    obtain ⟨k, v, hk, hgg, rfl, hm⟩ := hrel
    have HGG := Lib.hid hgg; clear hgg
    have hbw := hm.out.2.2.2
    by_cases hlt2 : k < 32
    · obtain ⟨t, ht⟩ : ∃ t, s.regs[k]? = some t := ⟨_, List.getElem?_eq_getElem (by rw [HG.out.2.1]; exact hlt2)⟩
      have hsz1 := Lib.hid (HG.out.2.2 t (List.mem_of_getElem? ht))
      obtain ⟨y, hy, hny⟩ := HM.out.regs.get ht
      obtain ⟨q, rfl⟩ := hny.ptr
      have HNY := Lib.hid ((hny.kept (Kept.below (hbw.mono (Nat.le_refl _)))))
      have HT := Lib.hid ht
      clear hny ht
      have kt : ∀ w', Below wr.heap.size wr w' → Calls Try.prog 71 #[.pointer q] w' fun e w'' => e = .returned (.string (TS t)) ∧ Below wr.heap.size wr w'' := fun w' hb' =>
        (nodeText_any t _ w' (HNY.out.kept (Kept.below hb')) hsz1.out).mono fun e w'' h => ⟨h.1, hb'.trans (h.2.mono hb'.size)⟩
      obtain ⟨a2, cp, rfl⟩ := own_len hm.out.2.2.1
      have HO := Lib.hid hm.out.2.2.1
      have hi0 : (0 : Int) ≤ (k : Int) := Int.natCast_nonneg _
      have hi1 : (k : Int) < 32 := by omega
      have hidx := fun w => run_index_ptr w ps k hlt2 _ hy
      have d1 := (block_cells hm.out.1).1 1
      simp only [List.getElem?_toArray, List.getElem?_cons_zero, List.getElem?_cons_succ] at d1
      have HS := Lib.hid hbw.size
      have HB := Lib.hid hbw
      have hlb := Lib.hid (Array.getElem?_eq_some_iff.1 hm.out.1).1
      obtain ⟨S, hS⟩ : ∃ S, TS t = S := ⟨_, rfl⟩
      rw [hS] at kt
      have HTS := Lib.hid hS
      have dk : ∀ w', Below wr.heap.size wr w' → w'.cell? ⟨w.heap.size + 1, 1, none⟩ = some (.slice a2 k cp) := fun w' hb' => (hb'.cell (p := ⟨w.heap.size + 1, 1, none⟩) hlb.out).trans d1
      clear hS hy hr c0 c1 c34 hf hbw
      go_wp2
      go_region_law ((first
        | (refine step_new el_str (by rfl) _ _ (by rfl) (by rfl) (own_below HO.out (by first | exact hb1.drew | exact hb1)) [.string S] 1 (by rfl) (by rfl) (by decide) (by intro u hu; simp at hu; subst hu; rfl) (by omega) (by unfold maxLen; omega) (by have h1 := hb1.size; have h2 := hlb.out; omega) (HB.out.trans ((by first | exact hb1 | exact hb1.drew : Below wr.heap.size wr _).mono HS.out)) (by omega) ?_; intro g4 cp4 w4 hown4 hb4 hg4; have hst := hm.out.step (by first | exact hb1 | exact hb1.drew) hg4; have x1 := (block_cells hst.1).1 1; have x2 := (block_cells hst.1).2 1; simp only [List.getElem?_toArray, List.getElem?_cons_zero, List.getElem?_cons_succ] at x1)
        | (go_simp; refine (kt _ (by first | exact Below.refl _ _ | exact (Below.refl _ _).drew)).mono ?_; rintro e w1 ⟨rfl, hb1⟩; have dk1 := dk _ hb1; have dk2 := fun o => dk _ (hb1.alloc hb1.size o))))
      all_goals
        have hnew : Hid (MakeS w (w4.setCell ⟨w.heap.size + 1, 1, none⟩ (.slice (some ⟨g4, 0, none⟩) (k + 1) cp4)) s.pos (.slice (some ⟨g4, 0, none⟩) (k + 1) cp4) (k + 1) ((s.regs.take (k + 1)).map fun t => .string (TS t))) := by
          refine ⟨set_blk hst.1 1 _, (Below.heap_setCell _ _ _ _ (by show w.heap.size ≠ w.heap.size + 1; omega)).trans hst.2, ?_, hb4.setCell (p := ⟨w.heap.size + 1, 1, none⟩) (by show w.heap.size ≤ w.heap.size + 1; omega) _⟩
          rw [take_snoc' _ _ _ HT.out, List.map_append, List.map_cons, List.map_nil, HTS.out]
          exact own_kept hown4 ((Kept.refl _ w4).setCell hst.1 (by decide) _)
        clear hst x1 x2 hown4 hb4 hg4
        go_wp2
        go_roundg (32 - (k + 1))
        case measure => rw [HGG.out]; omega
        case rel => exact ⟨k + 1, _, by omega, rfl, by go_num, hnew⟩
    · have hk32 : k = 32 := by omega
      subst hk32
      have htk : Hid (s.regs.take 32 = s.regs) := List.take_of_length_le (by rw [HG.out.2.1]; exact Nat.le_refl _)
      obtain ⟨a2, cp, rfl⟩ := own_len hm.out.2.2.1
      have d0 := (block_cells hm.out.1).1 0
      have d1 := (block_cells hm.out.1).1 1
      have r0 := (block_cells hm.out.2.1).1 0
      have r1 := (block_cells hm.out.2.1).1 1
      have f0 := (block_cells hm.out.2.1).2 0
      have f1 := (block_cells hm.out.2.1).2 1
      simp only [List.getElem?_toArray, List.getElem?_cons_zero, List.getElem?_cons_succ] at d0 d1 r0 r1
      clear hr c0 c1 c34 hf hbw
      go_wp2
      have hb1 := set_blk hm.out.2.1 0 (.int .i64 s.pos)
      have hb2 := set_blk hb1 1 (.slice a2 32 cp)
      have q0 := (block_cells hb2).1 0
      have q1 := (block_cells hb2).1 1
      simp only [List.setIfInBounds_toArray, List.set_cons_zero, List.set_cons_succ, List.getElem?_toArray, List.getElem?_cons_zero, List.getElem?_cons_succ] at q0 q1
      refine bodyPost_ret (v := .agg #[.int .i64 s.pos, .slice a2 32 cp]) (by simp [results, Try.results82, go_sem, q0, q1]) rfl ?_
      refine ⟨_, rfl, ?_, (hm.out.2.2.2.setCell (p := ⟨w.heap.size, 0, none⟩) (Nat.le_refl _) _).setCell (p := ⟨w.heap.size, 1, none⟩) (Nat.le_refl _) _⟩
      have ho := hm.out.2.2.1
      rw [htk.out] at ho
      refine StrRow.of_own (n := 32) (e := 9) (base := w.heap.size + 2) ?_ ?_ ?_
      · rw [List.map_map]
        exact own_kept ho (((Kept.refl _ wr).setCell hm.out.2.1 (by decide) _).setCell hb1 (by decide) _)
      · intro y hy
        obtain ⟨t, ht, rfl⟩ := List.mem_map.1 hy
        have := HG.out.2.2 t ht
        rw [TS_size]; omega
      · rw [List.length_map, HG.out.2.1]; omega

end Go.Proofs.Ytieocihlkpipmaa

/- The walk of run.First. -/
import Derived.Test.YtieocihlkpipmaaRunB
namespace Go.Proofs.Ytieocihlkpipmaa
open Go.RowKit

/-- What First and Step hand back where it went well, and where not. -/
def StateOk (w : World) (s : St) (e : Ending) (w' : World) : Prop := ∃ v, e = .returned (.tuple #[.agg #[.int .i64 s.pos, v], .int .i64 0]) ∧ StrRow w' w'.heap.size v (s.regs.map TS) ∧ Below w.heap.size w w'
def StateBad (w : World) (er : Int) (e : Ending) (w' : World) : Prop := e = .returned (.tuple #[.agg #[.int .i64 0, .slice none 0 0], .int .i64 er]) ∧ Below w.heap.size w w'

theorem StrRow.set {w : World} {B b T : Nat} {cs : Array Value} {v : Value} {l : List ByteArray} (h : StrRow w B v l) (hb : w.heap[b]? = some (.cells cs T (0, 0))) (hns : ∀ (j : Nat) (s : ByteArray), cs[j]? ≠ some (.string s)) (j : Nat) (u : Value) : StrRow (w.setCell ⟨b, j, none⟩ u) B v l := by
  obtain ⟨h1, h2, h3⟩ := h
  refine ⟨h1, h2, ?_⟩
  rcases h3 with h3 | ⟨g, off, cap, hv, hg, hc⟩
  · exact .inl h3
  · refine .inr ⟨g, off, cap, hv, hg, fun i s hi => ?_⟩
    have h4 := hc i s hi
    by_cases e : g = b
    · subst e
      rw [(block_cells hb).1] at h4
      exact absurd h4 (hns _ _)
    · exact (World.cell?_of_block (Below.heap_setCell _ _ _ _ (by show g ≠ b; exact e))).trans h4
/-- A state's two cells, written. -/
theorem state_cells {w w5 : World} {b : Nat} {n : Int} {u v x : Value} {l : List ByteArray} (hv : v.oneCell' = true) (h : w5.heap[b]? = some (.cells #[.int .i64 n, .slice none 0 0] 53 (0, 0))) (hr : StrRow w5 w5.heap.size v l) (hb : Below w.heap.size w w5) (hle : w.heap.size ≤ b) (p : Int) (hx : ∃ a k c, v = .slice a k c) :
    ((w5.setCell ⟨b, 0, none⟩ (.int .i64 p)).setCell ⟨b, 1, none⟩ v).cell? ⟨b, 0, none⟩ = some (.int .i64 p) ∧ ((w5.setCell ⟨b, 0, none⟩ (.int .i64 p)).setCell ⟨b, 1, none⟩ v).cell? ⟨b, 1, none⟩ = some v ∧
    StrRow ((w5.setCell ⟨b, 0, none⟩ (.int .i64 p)).setCell ⟨b, 1, none⟩ v) ((w5.setCell ⟨b, 0, none⟩ (.int .i64 p)).setCell ⟨b, 1, none⟩ v).heap.size v l ∧ Below w.heap.size w ((w5.setCell ⟨b, 0, none⟩ (.int .i64 p)).setCell ⟨b, 1, none⟩ v) := by
  have h1 := set_blk h 0 (.int .i64 p)
  have h2 := set_blk h1 1 v
  have q0 := (block_cells h2).1 0
  have q1 := (block_cells h2).1 1
  simp only [List.setIfInBounds_toArray, List.set_cons_zero, List.set_cons_succ, List.getElem?_toArray, List.getElem?_cons_zero, List.getElem?_cons_succ] at q0 q1
  have hs : ((w5.setCell ⟨b, 0, none⟩ (.int .i64 p)).setCell ⟨b, 1, none⟩ v).heap.size = w5.heap.size := by simp [World.setCell]
  refine ⟨q0, q1, ?_, (hb.setCell (p := ⟨b, 0, none⟩) hle _).setCell (p := ⟨b, 1, none⟩) hle _⟩
  rw [hs]
  refine (hr.set h ?_ 0 _).set h1 ?_ 1 _
  · intro j s e
    match j with
    | 0 => simp at e
    | 1 => simp at e
    | j + 2 => simp at e
  · intro j s e
    match j with
    | 0 => simp at e
    | 1 => simp at e
    | j + 2 => simp at e

set_option maxHeartbeats 1000000 in
theorem first_ok (v : Value) (l : List Ins) (t : Tr) (ht : t.size ≤ 2000000) (w : World) (hl : InsRow w w.heap.size v l) (hv : validB l = true) :
    Calls Try.prog 55 #[v, .string (TS t)] w (StateOk w (startS t)) := by
  have kv := fun w' (h : InsRow w' w'.heap.size v l) => codeValidP_at v l w' h _ hv
  have kt := treeValid_at (TS t) (by rw [TS_size]; omega) _ (isTree_TS t ht)
  have kp := fun w => parse_tr (TS t) (by rw [TS_size]; omega) w
  rw [toTr_TS t ht, isTree_TS t ht] at kp
  have h4 := validB_len hv
  have hG := Lib.hid (Good.start l.length t ht)
  have kn := fun x w' (h : InsRow w' w'.heap.size v l) (hx : NodeP 138 w' t x) => newMachine_any v l t x w' h h4 hx
  have hl0 := hl
  obtain ⟨ao, cap, rfl⟩ := hl.len
  have hb0 := (Below.refl _ w).alloc (Nat.le_refl _) (.cells #[.int .i64 0, .slice none 0 0] 53)
  have hblk0 : (w.alloc (.cells #[.int .i64 0, .slice none 0 0] 53)).heap[w.heap.size]? = some (.cells #[.int .i64 0, .slice none 0 0] 53 (0, 0)) := heap_alloc_new w _
  have hl1 := (hl0.below hb0).mono hb0.size
  clear hv ht h4
  generalize TS t = S at kt kp
  go_enter Try.func55, Try.ntmps55
  go_wp2_with fail
  refine (kv _ hl1).mono ?_
  rintro e w1 ⟨rfl, k1⟩
  have c1 := hb0.trans (k1.mono hb0.size)
  have b1 := (k1.block w.heap.size (by simp)).trans hblk0
  clear k1 hb0 hl1 hblk0
  go_wp2_with fail
  refine (kt _).mono ?_
  rintro e w2 ⟨rfl, k2⟩
  have c2 := c1.trans (k2.mono c1.size)
  have b2 := (k2.block w.heap.size (Array.getElem?_eq_some_iff.1 b1).1).trans b1
  clear k2 c1 b1
  go_wp2_with fail
  refine (kp _).mono ?_
  rintro e w3 ⟨p, rfl, k3, hn⟩
  have c3 := c2.trans (k3.mono c2.size)
  have b3 := (k3.block w.heap.size (Array.getElem?_eq_some_iff.1 b2).1).trans b2
  have hl3 := (hl0.below c3).mono c3.size
  clear c2 k3 b2
  go_wp2_with fail
  refine (kn _ _ hl3 hn).mono ?_
  rintro e w4 ⟨g, sv, ps, rfl, hm, k4⟩
  have c4 := c3.trans (k4.mono c3.size)
  have b4 := (k4.block w.heap.size (Array.getElem?_eq_some_iff.1 b3).1).trans b3
  clear c3 k4 b3 hl3
  go_wp2_with fail
  refine (state_any _ _ _ _ _ _ _ _ hm hG.out).mono ?_
  rintro e w5 ⟨vs, rfl, hr, k5⟩
  have c5 := c4.trans (k5.mono c4.size)
  have b5 := (k5.block w.heap.size (Array.getElem?_eq_some_iff.1 b4).1).trans b4
  obtain ⟨L, hL⟩ : ∃ L, (startS t).regs.map TS = L := ⟨_, rfl⟩
  rw [hL] at hr
  have HL := Lib.hid hL
  clear hL
  obtain ⟨a5, cp5, rfl⟩ := hr.len
  have q0 := (block_cells b5).1 0
  have q1 := (block_cells b5).1 1
  have f0 := (block_cells b5).2 0
  have f1 := (block_cells b5).2 1
  simp only [List.getElem?_toArray, List.getElem?_cons_zero, List.getElem?_cons_succ] at q0 q1
  clear k5 c4 b4 hm
  go_wp2
  obtain ⟨z0, z1, z2, z3⟩ := state_cells (u := .pointer none) (x := .pointer none) rfl b5 hr c5 (Nat.le_refl _) ((startS t).pos : Int) ⟨_, _, _, rfl⟩
  refine bodyPost_ret (v := .tuple #[.agg #[.int .i64 ((startS t).pos : Nat), .slice a5 L.length cp5], .int .i64 0]) (by simp [results, Try.results55, go_sem, z0, z1]) rfl ?_
  exact ⟨_, rfl, by rw [HL.out]; exact z2, z3⟩

theorem zero_cells {w w5 : World} {b : Nat} {n : Int} {u : Value} (h : w5.heap[b]? = some (.cells #[.int .i64 n, u] 53 (0, 0))) (hb : Below w.heap.size w w5) (hle : w.heap.size ≤ b) :
    ((w5.setCell ⟨b, 0, none⟩ (.int .i64 0)).setCell ⟨b, 1, none⟩ (.slice none 0 0)).cell? ⟨b, 0, none⟩ = some (.int .i64 0) ∧ ((w5.setCell ⟨b, 0, none⟩ (.int .i64 0)).setCell ⟨b, 1, none⟩ (.slice none 0 0)).cell? ⟨b, 1, none⟩ = some (.slice none 0 0) ∧
    Below w.heap.size w ((w5.setCell ⟨b, 0, none⟩ (.int .i64 0)).setCell ⟨b, 1, none⟩ (.slice none 0 0)) := by
  have h1 := set_blk h 0 (.int .i64 0)
  have h2 := set_blk h1 1 (.slice none 0 0)
  have q0 := (block_cells h2).1 0
  have q1 := (block_cells h2).1 1
  simp only [List.setIfInBounds_toArray, List.set_cons_zero, List.set_cons_succ, List.getElem?_toArray, List.getElem?_cons_zero, List.getElem?_cons_succ] at q0 q1
  exact ⟨q0, q1, (hb.setCell (p := ⟨b, 0, none⟩) hle _).setCell (p := ⟨b, 1, none⟩) hle _⟩

set_option maxHeartbeats 1000000 in
theorem first_bad (v : Value) (l : List Ins) (s : ByteArray) (hs : s.size ≤ 140737488355328) (w : World) (hl : InsRow w w.heap.size v l) (h : validB l = false ∨ isTree s = false) :
    Calls Try.prog 55 #[v, .string s] w (StateBad w 1) := by
  have hl0 := hl
  have hb0 := (Below.refl _ w).alloc (Nat.le_refl _) (.cells #[.int .i64 0, .slice none 0 0] 53)
  have hblk0 : (w.alloc (.cells #[.int .i64 0, .slice none 0 0] 53)).heap[w.heap.size]? = some (.cells #[.int .i64 0, .slice none 0 0] 53 (0, 0)) := heap_alloc_new w _
  have hl1 := (hl0.below hb0).mono hb0.size
  cases hv : validB l with
  | false =>
    have kv := fun w' (h : InsRow w' w'.heap.size v l) => codeValidP_at v l w' h _ hv
    clear hv h
    obtain ⟨ao, cap, rfl⟩ := hl.len
    go_enter Try.func55, Try.ntmps55
    go_wp2_with fail
    refine (kv _ hl1).mono ?_
    rintro e w1 ⟨rfl, k1⟩
    have c1 := hb0.trans (k1.mono hb0.size)
    have b1 := (k1.block w.heap.size (by simp)).trans hblk0
    clear k1 hb0 hl1 hblk0
    have q0 := (block_cells b1).1 0
    have q1 := (block_cells b1).1 1
    have f0 := (block_cells b1).2 0
    have f1 := (block_cells b1).2 1
    simp only [List.getElem?_toArray, List.getElem?_cons_zero, List.getElem?_cons_succ] at q0 q1
    obtain ⟨z0, z1, z3⟩ := zero_cells b1 c1 (Nat.le_refl _)
    go_wp2
    refine bodyPost_ret (v := .tuple #[.agg #[.int .i64 0, .slice none 0 0], .int .i64 1]) (by simp [results, Try.results55, go_sem, z0, z1]) rfl ?_
    exact ⟨rfl, z3⟩
  | true =>
    have ht : isTree s = false := by rcases h with h | h; rw [hv] at h; cases h; exact h
    have kv := fun w' (h : InsRow w' w'.heap.size v l) => codeValidP_at v l w' h _ hv
    have kt := treeValid_at s hs _ ht
    clear hv h
    obtain ⟨ao, cap, rfl⟩ := hl.len
    go_enter Try.func55, Try.ntmps55
    go_wp2_with fail
    refine (kv _ hl1).mono ?_
    rintro e w0 ⟨rfl, k1⟩
    have c0 := hb0.trans (k1.mono hb0.size)
    have b0 := (k1.block w.heap.size (by simp)).trans hblk0
    clear k1 hb0 hl1 hblk0
    go_wp2_with fail
    refine (kt _).mono ?_
    rintro e w1 ⟨rfl, k2⟩
    have c1 := c0.trans (k2.mono c0.size)
    have b1 := (k2.block w.heap.size (Array.getElem?_eq_some_iff.1 b0).1).trans b0
    clear k2 c0 b0
    have q0 := (block_cells b1).1 0
    have q1 := (block_cells b1).1 1
    have f0 := (block_cells b1).2 0
    have f1 := (block_cells b1).2 1
    simp only [List.getElem?_toArray, List.getElem?_cons_zero, List.getElem?_cons_succ] at q0 q1
    obtain ⟨z0, z1, z3⟩ := zero_cells b1 c1 (Nat.le_refl _)
    go_wp2
    refine bodyPost_ret (v := .tuple #[.agg #[.int .i64 0, .slice none 0 0], .int .i64 1]) (by simp [results, Try.results55, go_sem, z0, z1]) rfl ?_
    exact ⟨rfl, z3⟩

end Go.Proofs.Ytieocihlkpipmaa

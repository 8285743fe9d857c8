/- code.fields. -/
import Derived.Laws.EntriesVeiled
import Derived.Test.YtaiomcjopgnfpaaCodeC
namespace Go.Proofs.Ytaiomcjopgnfpaa
open Go.RowKit

theorem regs_any (w : World) : Calls Try.prog 152 #[] w fun e w' => e = .returned (.agg #[.func (.func 164) #[] #[], .func (.func 165) #[] #[]]) ∧ Below w.heap.size w w' := by
  have hb0 := (Below.refl w.heap.size w).alloc (Nat.le_refl _) (.cells #[.func (.func 164) #[] #[], .func (.func 165) #[] #[]] 149)
  go_enter Try.func152, Try.ntmps152
  go_wp2
  refine bodyPost_ret (v := .agg #[.func (.func 164) #[] #[], .func (.func 165) #[] #[]]) (by simp [results, Try.results152, go_sem]) rfl ?_
  exact ⟨rfl, hb0⟩

set_option maxRecDepth 20000 in
theorem fields_set (w : World) : Calls Try.prog 124 #[.int .i64 0] w fun e w' => ∃ g, e = .returned (.agg #[.func (.func 144) #[] #[], g]) ∧ Below w.heap.size w w' := by
  have hb0 := (Below.refl w.heap.size w).alloc (Nat.le_refl _) (.cells #[.func (.func 144) #[] #[], .func (.func 145) #[] #[]] 149)
  go_enter Try.func124, Try.ntmps124
  go_wp2
  refine bodyPost_ret (v := .agg #[.func (.func 144) #[] #[], .func (.func 145) #[] #[]]) (by simp [results, Try.results124, go_sem]) rfl ?_
  exact ⟨_, rfl, hb0⟩

set_option maxRecDepth 20000 in
theorem fields_cons (w : World) : Calls Try.prog 124 #[.int .i64 2] w fun e w' => ∃ g, e = .returned (.agg #[.func (.func 148) #[] #[], g]) ∧ Below w.heap.size w w' := by
  have hb0 := (Below.refl w.heap.size w).alloc (Nat.le_refl _) (.cells #[.func (.func 148) #[] #[], .func (.func 149) #[] #[]] 149)
  go_enter Try.func124, Try.ntmps124
  go_wp2
  refine bodyPost_ret (v := .agg #[.func (.func 148) #[] #[], .func (.func 149) #[] #[]]) (by simp [results, Try.results124, go_sem]) rfl ?_
  exact ⟨_, rfl, hb0⟩

set_option maxRecDepth 20000 in
theorem fields_jump (w : World) : Calls Try.prog 124 #[.int .i64 5] w fun e w' => ∃ g, e = .returned (.agg #[.func (.func 150) #[] #[], g]) ∧ Below w.heap.size w w' := by
  have hb0 := (Below.refl w.heap.size w).alloc (Nat.le_refl _) (.cells #[.func (.func 150) #[] #[], .func (.func 151) #[] #[]] 149)
  go_enter Try.func124, Try.ntmps124
  go_wp2
  refine bodyPost_ret (v := .agg #[.func (.func 150) #[] #[], .func (.func 151) #[] #[]]) (by simp [results, Try.results124, go_sem]) rfl ?_
  exact ⟨_, rfl, hb0⟩

set_option maxRecDepth 20000 in
theorem fields_r1 (w : World) : Calls Try.prog 124 #[.int .i64 1] w fun e w' => ∃ g, e = .returned (.agg #[.func (.func 164) #[] #[], g]) ∧ Below w.heap.size w w' := by
  have hb0 := (Below.refl w.heap.size w).alloc (Nat.le_refl _) (.cells #[.nilFunc, .nilFunc] 149)
  have hblk := heap_alloc_new w (.cells #[.nilFunc, .nilFunc] 149)
  have kr := Lib.hid (fun w => regs_any w)
  have HW := Lib.hid hblk
  have HB := Lib.hid hb0
  clear hblk hb0
  go_enter Try.func124, Try.ntmps124
  go_wp2_with fail
  refine (kr.out _).mono ?_
  rintro e w1 ⟨rfl, hb1⟩
  have h2 := (hb1.block w.heap.size (by simp)).trans HW.out
  have cc := (block_cells h2).1
  have c0 := cc 0
  have c1 := cc 1
  have f0 := (block_cells h2).2 0
  have f1 := (block_cells h2).2 1
  simp only [List.getElem?_toArray, List.getElem?_cons_zero, List.getElem?_cons_succ] at c0 c1
  have hb0 := ((HB.out.trans (hb1.mono HB.out.size)).setCell (p := ⟨w.heap.size, 0, none⟩) (Nat.le_refl _) (.func (.func 164) #[] #[])).setCell (p := ⟨w.heap.size, 1, none⟩) (Nat.le_refl _) (.func (.func 165) #[] #[])
  have hs1 := set_blk (set_blk h2 0 (.func (.func 164) #[] #[])) 1 (.func (.func 165) #[] #[])
  have q0 := (block_cells hs1).1 0
  have q1 := (block_cells hs1).1 1
  simp only [List.setIfInBounds_toArray, List.set_cons_zero, List.set_cons_succ, List.getElem?_toArray, List.getElem?_cons_zero, List.getElem?_cons_succ] at q0 q1
  clear cc
  go_wp2
  refine bodyPost_ret (v := .agg #[.func (.func 164) #[] #[], .func (.func 165) #[] #[]]) (by simp [results, Try.results124, go_sem, q0, q1]) rfl ?_
  exact ⟨_, rfl, hb0⟩

set_option maxRecDepth 20000 in
theorem fields_r3 (w : World) : Calls Try.prog 124 #[.int .i64 3] w fun e w' => ∃ g, e = .returned (.agg #[.func (.func 164) #[] #[], g]) ∧ Below w.heap.size w w' := by
  have hb0 := (Below.refl w.heap.size w).alloc (Nat.le_refl _) (.cells #[.nilFunc, .nilFunc] 149)
  have hblk := heap_alloc_new w (.cells #[.nilFunc, .nilFunc] 149)
  have kr := Lib.hid (fun w => regs_any w)
  have HW := Lib.hid hblk
  have HB := Lib.hid hb0
  clear hblk hb0
  go_enter Try.func124, Try.ntmps124
  go_wp2_with fail
  refine (kr.out _).mono ?_
  rintro e w1 ⟨rfl, hb1⟩
  have h2 := (hb1.block w.heap.size (by simp)).trans HW.out
  have cc := (block_cells h2).1
  have c0 := cc 0
  have c1 := cc 1
  have f0 := (block_cells h2).2 0
  have f1 := (block_cells h2).2 1
  simp only [List.getElem?_toArray, List.getElem?_cons_zero, List.getElem?_cons_succ] at c0 c1
  have hb0 := ((HB.out.trans (hb1.mono HB.out.size)).setCell (p := ⟨w.heap.size, 0, none⟩) (Nat.le_refl _) (.func (.func 164) #[] #[])).setCell (p := ⟨w.heap.size, 1, none⟩) (Nat.le_refl _) (.func (.func 165) #[] #[])
  have hs1 := set_blk (set_blk h2 0 (.func (.func 164) #[] #[])) 1 (.func (.func 165) #[] #[])
  have q0 := (block_cells hs1).1 0
  have q1 := (block_cells hs1).1 1
  simp only [List.setIfInBounds_toArray, List.set_cons_zero, List.set_cons_succ, List.getElem?_toArray, List.getElem?_cons_zero, List.getElem?_cons_succ] at q0 q1
  clear cc
  go_wp2
  refine bodyPost_ret (v := .agg #[.func (.func 164) #[] #[], .func (.func 165) #[] #[]]) (by simp [results, Try.results124, go_sem, q0, q1]) rfl ?_
  exact ⟨_, rfl, hb0⟩

set_option maxRecDepth 20000 in
theorem fields_r4 (w : World) : Calls Try.prog 124 #[.int .i64 4] w fun e w' => ∃ g, e = .returned (.agg #[.func (.func 164) #[] #[], g]) ∧ Below w.heap.size w w' := by
  have hb0 := (Below.refl w.heap.size w).alloc (Nat.le_refl _) (.cells #[.nilFunc, .nilFunc] 149)
  have hblk := heap_alloc_new w (.cells #[.nilFunc, .nilFunc] 149)
  have kr := Lib.hid (fun w => regs_any w)
  have HW := Lib.hid hblk
  have HB := Lib.hid hb0
  clear hblk hb0
  go_enter Try.func124, Try.ntmps124
  go_wp2_with fail
  refine (kr.out _).mono ?_
  rintro e w1 ⟨rfl, hb1⟩
  have h2 := (hb1.block w.heap.size (by simp)).trans HW.out
  have cc := (block_cells h2).1
  have c0 := cc 0
  have c1 := cc 1
  have f0 := (block_cells h2).2 0
  have f1 := (block_cells h2).2 1
  simp only [List.getElem?_toArray, List.getElem?_cons_zero, List.getElem?_cons_succ] at c0 c1
  have hb0 := ((HB.out.trans (hb1.mono HB.out.size)).setCell (p := ⟨w.heap.size, 0, none⟩) (Nat.le_refl _) (.func (.func 164) #[] #[])).setCell (p := ⟨w.heap.size, 1, none⟩) (Nat.le_refl _) (.func (.func 165) #[] #[])
  have hs1 := set_blk (set_blk h2 0 (.func (.func 164) #[] #[])) 1 (.func (.func 165) #[] #[])
  have q0 := (block_cells hs1).1 0
  have q1 := (block_cells hs1).1 1
  simp only [List.setIfInBounds_toArray, List.set_cons_zero, List.set_cons_succ, List.getElem?_toArray, List.getElem?_cons_zero, List.getElem?_cons_succ] at q0 q1
  clear cc
  go_wp2
  refine bodyPost_ret (v := .agg #[.func (.func 164) #[] #[], .func (.func 165) #[] #[]]) (by simp [results, Try.results124, go_sem, q0, q1]) rfl ?_
  exact ⟨_, rfl, hb0⟩

end Go.Proofs.Ytaiomcjopgnfpaa


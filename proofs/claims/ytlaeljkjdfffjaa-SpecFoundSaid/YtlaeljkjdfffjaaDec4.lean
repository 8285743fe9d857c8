/- code.fields: its readers; the instruction that they read. -/
import Derived.Test.YtlaeljkjdfffjaaDec3
import Derived.Test.YtlaeljkjdfffjaaMB2
namespace Go.Proofs.Ytlaeljkjdfffjaa
open Go.RowKit

set_option maxRecDepth 20000 in
theorem fget_set (w : World) : Calls Try.prog 105 #[.int .i64 0] w fun e w' => e = .returned (.agg #[.func (.func 136) #[] #[], .func (.func 137) #[] #[]]) ∧ Below w.heap.size w w' := by
  have hb0 := (Below.refl w.heap.size w).alloc (Nat.le_refl _) (.cells #[.func (.func 136) #[] #[], .func (.func 137) #[] #[]] 134)
  go_enter Try.func105, Try.ntmps105
  go_wp2
  refine bodyPost_ret (v := .agg #[.func (.func 136) #[] #[], .func (.func 137) #[] #[]]) (by simp [results, Try.results105, go_sem]) rfl ?_
  exact ⟨rfl, hb0⟩

set_option maxRecDepth 20000 in
theorem fget_cons (w : World) : Calls Try.prog 105 #[.int .i64 2] w fun e w' => e = .returned (.agg #[.func (.func 138) #[] #[], .func (.func 139) #[] #[]]) ∧ Below w.heap.size w w' := by
  have hb0 := (Below.refl w.heap.size w).alloc (Nat.le_refl _) (.cells #[.func (.func 138) #[] #[], .func (.func 139) #[] #[]] 134)
  go_enter Try.func105, Try.ntmps105
  go_wp2
  refine bodyPost_ret (v := .agg #[.func (.func 138) #[] #[], .func (.func 139) #[] #[]]) (by simp [results, Try.results105, go_sem]) rfl ?_
  exact ⟨rfl, hb0⟩

set_option maxRecDepth 20000 in
theorem fget_jump (w : World) : Calls Try.prog 105 #[.int .i64 5] w fun e w' => e = .returned (.agg #[.func (.func 140) #[] #[], .func (.func 141) #[] #[]]) ∧ Below w.heap.size w w' := by
  have hb0 := (Below.refl w.heap.size w).alloc (Nat.le_refl _) (.cells #[.func (.func 140) #[] #[], .func (.func 141) #[] #[]] 134)
  go_enter Try.func105, Try.ntmps105
  go_wp2
  refine bodyPost_ret (v := .agg #[.func (.func 140) #[] #[], .func (.func 141) #[] #[]]) (by simp [results, Try.results105, go_sem]) rfl ?_
  exact ⟨rfl, hb0⟩

set_option maxRecDepth 20000 in
theorem fget_r1 (w : World) : Calls Try.prog 105 #[.int .i64 1] w fun e w' => e = .returned (.agg #[.func (.func 160) #[] #[], .func (.func 161) #[] #[]]) ∧ Below w.heap.size w w' := by
  have hb0 := (Below.refl w.heap.size w).alloc (Nat.le_refl _) (.cells #[.nilFunc, .nilFunc] 134)
  have hblk := heap_alloc_new w (.cells #[.nilFunc, .nilFunc] 134)
  have kr := Lib.hid (fun w => regs_any w)
  have HW := Lib.hid hblk
  have HB := Lib.hid hb0
  clear hblk hb0
  go_enter Try.func105, Try.ntmps105
  go_wp2_with fail
  refine (kr.out _).mono ?_
  rintro e w1 ⟨rfl, hb1⟩
  have h2 := (hb1.block w.heap.size (by simp)).trans HW.out
  have cc := (block_cells h2).1
  have c0 := cc 0
  have c1 := cc 1
  have f0 := (block_cells h2).2 0
  have f1 := (block_cells h2).2 1
  simp only [List.getElem?_toArray, List.getElem?_cons_zero, List.getElem?_cons_succ] at c0 c1
  have hb0 := ((HB.out.trans (hb1.mono HB.out.size)).setCell (p := ⟨w.heap.size, 0, none⟩) (Nat.le_refl _) (.func (.func 160) #[] #[])).setCell (p := ⟨w.heap.size, 1, none⟩) (Nat.le_refl _) (.func (.func 161) #[] #[])
  have hs1 := set_blk (set_blk h2 0 (.func (.func 160) #[] #[])) 1 (.func (.func 161) #[] #[])
  have q0 := (block_cells hs1).1 0
  have q1 := (block_cells hs1).1 1
  simp only [List.setIfInBounds_toArray, List.set_cons_zero, List.set_cons_succ, List.getElem?_toArray, List.getElem?_cons_zero, List.getElem?_cons_succ] at q0 q1
  clear cc
  go_wp2
  refine bodyPost_ret (v := .agg #[.func (.func 160) #[] #[], .func (.func 161) #[] #[]]) (by simp [results, Try.results105, go_sem, q0, q1]) rfl ?_
  exact ⟨rfl, hb0⟩

set_option maxRecDepth 20000 in
theorem fget_r3 (w : World) : Calls Try.prog 105 #[.int .i64 3] w fun e w' => e = .returned (.agg #[.func (.func 160) #[] #[], .func (.func 161) #[] #[]]) ∧ Below w.heap.size w w' := by
  have hb0 := (Below.refl w.heap.size w).alloc (Nat.le_refl _) (.cells #[.nilFunc, .nilFunc] 134)
  have hblk := heap_alloc_new w (.cells #[.nilFunc, .nilFunc] 134)
  have kr := Lib.hid (fun w => regs_any w)
  have HW := Lib.hid hblk
  have HB := Lib.hid hb0
  clear hblk hb0
  go_enter Try.func105, Try.ntmps105
  go_wp2_with fail
  refine (kr.out _).mono ?_
  rintro e w1 ⟨rfl, hb1⟩
  have h2 := (hb1.block w.heap.size (by simp)).trans HW.out
  have cc := (block_cells h2).1
  have c0 := cc 0
  have c1 := cc 1
  have f0 := (block_cells h2).2 0
  have f1 := (block_cells h2).2 1
  simp only [List.getElem?_toArray, List.getElem?_cons_zero, List.getElem?_cons_succ] at c0 c1
  have hb0 := ((HB.out.trans (hb1.mono HB.out.size)).setCell (p := ⟨w.heap.size, 0, none⟩) (Nat.le_refl _) (.func (.func 160) #[] #[])).setCell (p := ⟨w.heap.size, 1, none⟩) (Nat.le_refl _) (.func (.func 161) #[] #[])
  have hs1 := set_blk (set_blk h2 0 (.func (.func 160) #[] #[])) 1 (.func (.func 161) #[] #[])
  have q0 := (block_cells hs1).1 0
  have q1 := (block_cells hs1).1 1
  simp only [List.setIfInBounds_toArray, List.set_cons_zero, List.set_cons_succ, List.getElem?_toArray, List.getElem?_cons_zero, List.getElem?_cons_succ] at q0 q1
  clear cc
  go_wp2
  refine bodyPost_ret (v := .agg #[.func (.func 160) #[] #[], .func (.func 161) #[] #[]]) (by simp [results, Try.results105, go_sem, q0, q1]) rfl ?_
  exact ⟨rfl, hb0⟩

set_option maxRecDepth 20000 in
theorem fget_r4 (w : World) : Calls Try.prog 105 #[.int .i64 4] w fun e w' => e = .returned (.agg #[.func (.func 160) #[] #[], .func (.func 161) #[] #[]]) ∧ Below w.heap.size w w' := by
  have hb0 := (Below.refl w.heap.size w).alloc (Nat.le_refl _) (.cells #[.nilFunc, .nilFunc] 134)
  have hblk := heap_alloc_new w (.cells #[.nilFunc, .nilFunc] 134)
  have kr := Lib.hid (fun w => regs_any w)
  have HW := Lib.hid hblk
  have HB := Lib.hid hb0
  clear hblk hb0
  go_enter Try.func105, Try.ntmps105
  go_wp2_with fail
  refine (kr.out _).mono ?_
  rintro e w1 ⟨rfl, hb1⟩
  have h2 := (hb1.block w.heap.size (by simp)).trans HW.out
  have cc := (block_cells h2).1
  have c0 := cc 0
  have c1 := cc 1
  have f0 := (block_cells h2).2 0
  have f1 := (block_cells h2).2 1
  simp only [List.getElem?_toArray, List.getElem?_cons_zero, List.getElem?_cons_succ] at c0 c1
  have hb0 := ((HB.out.trans (hb1.mono HB.out.size)).setCell (p := ⟨w.heap.size, 0, none⟩) (Nat.le_refl _) (.func (.func 160) #[] #[])).setCell (p := ⟨w.heap.size, 1, none⟩) (Nat.le_refl _) (.func (.func 161) #[] #[])
  have hs1 := set_blk (set_blk h2 0 (.func (.func 160) #[] #[])) 1 (.func (.func 161) #[] #[])
  have q0 := (block_cells hs1).1 0
  have q1 := (block_cells hs1).1 1
  simp only [List.setIfInBounds_toArray, List.set_cons_zero, List.set_cons_succ, List.getElem?_toArray, List.getElem?_cons_zero, List.getElem?_cons_succ] at q0 q1
  clear cc
  go_wp2
  refine bodyPost_ret (v := .agg #[.func (.func 160) #[] #[], .func (.func 161) #[] #[]]) (by simp [results, Try.results105, go_sem, q0, q1]) rfl ?_
  exact ⟨rfl, hb0⟩

/-- Whether the fields of an operation are read, and what is read. -/
def gB (n : Nat) (o : Option Tr) : Bool := match n with
  | 0 => pB o && vB (pH o)
  | 2 => pB o && pB (pT o) && vB (pH o) && vB (pH (pT o)) && vB (pT (pT o))
  | 5 => pB o && pB (pT o) && vB (pH o) && vB (pT (pT o)) && jB (pH (pT o)) (vN (pT (pT o)))
  | _ => pB o && vB (pH o) && vB (pT o)
def gI (n : Nat) (o : Option Tr) : Ins := match n with
  | 0 => ⟨0, vN (pH o), 0, 0, OT (pT o)⟩
  | 2 => ⟨2, vN (pH o), vN (pH (pT o)), vN (pT (pT o)), ⟨#[]⟩⟩
  | 5 => ⟨5, vN (pH o), jN (pH (pT o)) (vN (pT (pT o))), 0, ⟨#[]⟩⟩
  | n => ⟨n, vN (pH o), vN (pT o), 0, ⟨#[]⟩⟩
theorem vN_some {t : Tr} (h : t.isNum = true) : vN (some t) = t.pairs := if_pos h
theorem decB_g (n : Nat) (a r : Tr) (ha : a.isNum = true) : decB n a.pairs r = if decide (n < 6) && gB n (some (.pair a r)) then some (gI n (some (.pair a r))) else none := by
  have e1 : vN (some a) = a.pairs := vN_some ha
  match n with
  | 0 => simp [decB, gB, gI, pB, pH, pT, vB, ha, e1, OT]
  | 1 => by_cases hr : r.isNum = true <;> simp [decB, gB, gI, pB, pH, pT, vB, ha, hr, vN]
  | 2 =>
    match r with
    | .nil => simp [decB, gB, pB, pH, pT]
    | .pair b c => by_cases hb : b.isNum = true <;> by_cases hc : c.isNum = true <;> simp [decB, gB, gI, pB, pH, pT, vB, ha, hb, hc, vN]
  | 3 => by_cases hr : r.isNum = true <;> simp [decB, gB, gI, pB, pH, pT, vB, ha, hr, vN]
  | 4 => by_cases hr : r.isNum = true <;> simp [decB, gB, gI, pB, pH, pT, vB, ha, hr, vN]
  | 5 =>
    match r with
    | .nil => simp [decB, gB, pB, pT]
    | .pair .nil b => by_cases hb : b.isNum = true <;> simp [decB, gB, gI, pB, pH, pT, vB, ha, hb, vN, jB, jN]
    | .pair (.pair .nil .nil) b => by_cases hb : b.isNum = true <;> by_cases hp : 0 < b.pairs <;> simp [decB, gB, gI, pB, pH, pT, vB, ha, hb, hp, vN, jB, jN]
    | .pair (.pair (.pair _ _) _) b => simp [decB, gB, pB, pH, pT, jB]
    | .pair (.pair .nil (.pair _ _)) b => simp [decB, gB, pB, pH, pT, jB]
  | n + 6 =>
    have h : ¬ n + 6 < 6 := by omega
    simp [decB, h]
theorem gB_nil (n : Nat) : gB n (some .nil) = false := by
  unfold gB
  split <;> rfl
theorem decI_g (u : Tr) : decI u = if pB (some u) && vB (pH (some u)) && decide (vN (pH (some u)) < 6) && gB (vN (pH (some u))) (pT (some u)) then some (gI (vN (pH (some u))) (pT (some u))) else none := by
  match u with
  | .nil => rfl
  | .pair o .nil => simp [decI, pT, gB_nil]
  | .pair o (.pair a r) =>
    rw [decI_eq]
    have p1 : pB (some (.pair o (.pair a r))) = true := rfl
    have p2 : vB (pH (some (.pair o (.pair a r)))) = o.isNum := rfl
    have p3 : pT (some (.pair o (.pair a r))) = some (.pair a r) := rfl
    rw [p1, p2, p3, Bool.true_and]
    by_cases ho : o.isNum = true
    · have e : vN (pH (some (.pair o (.pair a r)))) = o.pairs := vN_some ho
      simp only [e]
      by_cases ha : a.isNum = true
      · rw [decB_g _ _ _ ha]
        simp [ho, ha]
      · have h1 : gB o.pairs (some (.pair a r)) = false := by
          unfold gB
          split <;> simp [pB, pH, vB, ha]
        simp [ha, h1]
    · simp [ho]
theorem jN_i64 {o : Option Tr} {n : Nat} (h : n ≤ 1000000) : i64 (jN o n) := by
  rcases sg_cases o n with ⟨_, _, _, h1⟩ | ⟨_, _, _, h1⟩ | ⟨_, _, _, h1⟩ <;> rw [h1] <;> unfold i64 <;> omega
theorem OT_size {o : Option Tr} (h : SmallO o) : (OT o).size ≤ 140737488355328 := by
  cases o with
  | none => show (0 : Nat) ≤ _; omega
  | some t => have := h t rfl; show (TS t).size ≤ _; rw [TS_size]; omega
theorem gI_wf {n : Nat} {o : Option Tr} (hn : n ≤ 1000000) (h : SmallO o) : (gI n o).wf := by
  have h1 := vN_le h.hd
  have h2 := vN_le h.tl
  have h3 := vN_le h.tl.hd
  have h4 := vN_le h.tl.tl
  have h5 := OT_size h.tl
  have h6 := jN_i64 (o := pH (pT o)) h4
  have h0 : (⟨#[]⟩ : ByteArray).size ≤ 140737488355328 := by decide
  have hi : ∀ m : Nat, m ≤ 1000000 → i64 m := fun m hm => by unfold i64; omega
  have hz : i64 0 := hi 0 (by omega)
  unfold gI
  split
  · exact ⟨hz, hi _ h1, hz, hz, h5⟩
  · exact ⟨hi 2 (by omega), hi _ h1, hi _ h3, hi _ h4, h0⟩
  · exact ⟨hi 5 (by omega), hi _ h1, h6, hz, h0⟩
  · exact ⟨hi _ hn, hi _ h1, hi _ h2, hz, h0⟩
/-- The reader of an operation's fields. -/
theorem getter (n : Nat) (hn : n < 6) (o : Option Tr) (ho : SmallO o) : ∃ GF : Nat,
    (∀ w : World, Calls Try.prog 105 #[.int .i64 n] w fun e w' => ∃ f, e = .returned (.agg #[f, .func (.func GF) #[] #[]]) ∧ Below w.heap.size w w') ∧
    (∀ args w, (callFunc GF args).run Try.prog w = .ok (.enter GF args) w) ∧
    (∀ (g : Nat) (w : World), w.heap[g]? = some (.cells #[.int .i64 n, .int .i64 0, .int .i64 0, .int .i64 0, .string ⟨#[]⟩] 41 (0, 0)) →
      Calls Try.prog GF #[.pointer (some ⟨g, 0, none⟩), .string (OT o)] w fun e w' => e = .returned (.bool (gB n o)) ∧ Boxed w w' g #[.int .i64 (gI n o).op, .int .i64 (gI n o).a, .int .i64 (gI n o).b, .int .i64 (gI n o).c, .string (gI n o).tree]) := by
  have hF : ∀ {F v}, (∀ w : World, Calls Try.prog 105 #[.int .i64 v] w fun e w' => e = .returned F ∧ Below w.heap.size w w') → ∀ w : World, Calls Try.prog 105 #[.int .i64 v] w fun e w' => e = .returned F ∧ Below w.heap.size w w' := fun h => h
  match n, hn with
  | 0, _ => exact ⟨_, fun w => (fget_set w).mono fun e w' h => ⟨_, h.1, h.2⟩, enters_of Try.func137 (by kernel_rfl) rfl, fun g w hg => get_set g 0 0 0 0 ⟨#[]⟩ o ho w hg⟩
  | 1, _ => exact ⟨_, fun w => (fget_r1 w).mono fun e w' h => ⟨_, h.1, h.2⟩, enters_of Try.func161 (by kernel_rfl) rfl, fun g w hg => get_regs g 1 0 0 0 ⟨#[]⟩ o ho w hg⟩
  | 2, _ => exact ⟨_, fun w => (fget_cons w).mono fun e w' h => ⟨_, h.1, h.2⟩, enters_of Try.func139 (by kernel_rfl) rfl, fun g w hg => get_cons g 2 0 0 0 ⟨#[]⟩ o ho w hg⟩
  | 3, _ => exact ⟨_, fun w => (fget_r3 w).mono fun e w' h => ⟨_, h.1, h.2⟩, enters_of Try.func161 (by kernel_rfl) rfl, fun g w hg => get_regs g 3 0 0 0 ⟨#[]⟩ o ho w hg⟩
  | 4, _ => exact ⟨_, fun w => (fget_r4 w).mono fun e w' h => ⟨_, h.1, h.2⟩, enters_of Try.func161 (by kernel_rfl) rfl, fun g w hg => get_regs g 4 0 0 0 ⟨#[]⟩ o ho w hg⟩
  | 5, _ => exact ⟨_, fun w => (fget_jump w).mono fun e w' h => ⟨_, h.1, h.2⟩, enters_of Try.func141 (by kernel_rfl) rfl, fun g w hg => get_jump g 5 0 0 0 ⟨#[]⟩ o ho w hg⟩
end Go.Proofs.Ytlaeljkjdfffjaa


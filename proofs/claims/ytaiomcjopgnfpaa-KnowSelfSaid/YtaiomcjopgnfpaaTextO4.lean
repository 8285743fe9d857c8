/- ref02's Decimal, TextOf, Text, at small numbers. -/
import Derived.Test.YtaiomcjopgnfpaaDue4
namespace Go.Proofs.Ytaiomcjopgnfpaa
open Go.RowKit

theorem app_str {P : Program} {tS tE tu : Nat} (E : ElemT P tS tE (.int .u8 0) 1 1) (hu : P.underlying tu = some .string) {ops : Array Oper} {rest : List Oper} {o : Oper} {a : Act} {Q : Exit → Act → World → Prop}
    (hgd : o.guard = none) (sl x : Operand) (ho : o.op = .call { callee := .builtin .append, args := #[sl, x], argTypes := #[tS, tu] }) {w : World} {base : Nat} {v : Value} {n : Nat} {xs : List Value}
    (hs : a.eval sl = v) (hown : w.ownsRow base tE 1 v n xs) (s : ByteArray) (hx : a.eval x = .string s) (hby : n + s.size ≤ 140737488355328) (hbase : base ≤ w.heap.size) {B : Nat} {w0 : World} (hb : Below B w0 w) (hB : B ≤ base)
    (h : ∀ v' w', w'.ownsRow base tE 1 v' (n + s.size) (xs ++ Lib.strCells s) → Below B w0 w' → wpList P ops Q rest (a.put o.dst v') w') :
    wpList P ops Q (o :: rest) a w := by
  obtain ⟨i, hi, hz, hsize, hbytes⟩ := info_parts E.hi
  have hlt := hown.lt
  obtain ⟨v', w', hr, h2, h3, _⟩ := Lib.run_append_own_string (P := P) w base tS tu o.type tE i E.ht hu hi hz hsize hbytes v n xs hown s (by unfold maxLen; omega) hby hbase
  refine wpList_plain hgd fun K hK' => ?_
  unfold Oper.wp execOp
  simp only [ho, resolve, invoke, builtin, Sem.run_bind, Sem.run_pure, Result.andThen_ok, List.map_toArray, List.map_cons, List.map_nil, hs, hx, hr]
  exact hK' _ _ (h v' w' h2 (hb.grown h3 (by omega) (fun k hk => by have := (hlt k hk).1; omega)))

/-- Strings, with a semicolon and a blank between. -/
def jn : List (List UInt8) → List UInt8
  | [] => []
  | t :: ts => t ++ (ts.map fun t => [59, 32] ++ t).flatten
theorem jn_succ (T : List (List UInt8)) (k : Nat) {t : List UInt8} (ht : T[k]? = some t) : jn (T.take (k + 1)) = jn (T.take k) ++ (if k = 0 then [] else [59, 32]) ++ t := by
  rw [take_snoc' _ _ _ ht]
  cases k with
  | zero => simp [jn]
  | succ k =>
    cases T with
    | nil => simp at ht
    | cons a T => simp [jn]
theorem jn_mono (T : List (List UInt8)) (k : Nat) : (jn (T.take k)).length ≤ (jn T).length := by
  cases T with
  | nil => simp
  | cons a T =>
    cases k with
    | zero => simp [jn]
    | succ k =>
      have h : ((T.map fun t => [59, 32] ++ t).flatten : List UInt8) = ((T.take k).map fun t => [59, 32] ++ t).flatten ++ ((T.drop k).map fun t => [59, 32] ++ t).flatten := by
        rw [← List.flatten_append, ← List.map_append, List.take_append_drop]
      simp only [jn, List.take_succ_cons, List.length_append]
      rw [h, List.length_append]; omega

theorem dec0_any (w : World) : Calls Try.prog 133 #[.int .i64 0] w fun e w' => e = .returned (.string ⟨#[48]⟩) ∧ Below w.heap.size w w' := by
  have hb0 := (Below.refl w.heap.size w).alloc (Nat.le_refl _) (.cells #[.int .u8 48] 5)
  have hown : (w.alloc (.cells #[.int .u8 48] 5)).ownsRow w.heap.size 5 1 (.slice (some ⟨w.heap.size, 0, none⟩) 1 1) 1 (Lib.byteCells [48]) := World.ownsRow_lit w #[.int .u8 48] 1 (Nat.le_refl _) (by decide) rfl
  have hcv := own_bytes (P := Try.prog) [48] hown 126 Try.underlying126 Try.underlying5 9 Try.underlying9
  go_enter Try.func133, Try.ntmps133
  go_wp2
  go_ret
  exact ⟨rfl, hb0⟩
theorem dec1_any (w : World) : Calls Try.prog 133 #[.int .i64 1] w fun e w' => e = .returned (.string ⟨#[49]⟩) ∧ Below w.heap.size w w' := by
  have hb0 := (Below.refl w.heap.size w).alloc (Nat.le_refl _) (.cells #[.int .u8 49] 5)
  have hown : (w.alloc (.cells #[.int .u8 49] 5)).ownsRow w.heap.size 5 1 (.slice (some ⟨w.heap.size, 0, none⟩) 1 1) 1 (Lib.byteCells [49]) := World.ownsRow_lit w #[.int .u8 49] 1 (Nat.le_refl _) (by decide) rfl
  have hcv := own_bytes (P := Try.prog) [49] hown 126 Try.underlying126 Try.underlying5 9 Try.underlying9
  go_enter Try.func133, Try.ntmps133
  go_wp2
  go_ret
  exact ⟨rfl, hb0⟩
theorem dec2_any (w : World) : Calls Try.prog 133 #[.int .i64 2] w fun e w' => e = .returned (.string ⟨#[50]⟩) ∧ Below w.heap.size w w' := by
  have hb0 := (Below.refl w.heap.size w).alloc (Nat.le_refl _) (.cells #[.int .u8 50] 5)
  have hown : (w.alloc (.cells #[.int .u8 50] 5)).ownsRow w.heap.size 5 1 (.slice (some ⟨w.heap.size, 0, none⟩) 1 1) 1 (Lib.byteCells [50]) := World.ownsRow_lit w #[.int .u8 50] 1 (Nat.le_refl _) (by decide) rfl
  have hcv := own_bytes (P := Try.prog) [50] hown 126 Try.underlying126 Try.underlying5 9 Try.underlying9
  go_enter Try.func133, Try.ntmps133
  go_wp2
  go_ret
  exact ⟨rfl, hb0⟩

def nameL : List ByteArray := [⟨#[115, 101, 116]⟩, ⟨#[109, 111, 118, 101]⟩, ⟨#[99, 111, 110, 115]⟩, ⟨#[104, 101, 97, 100]⟩, ⟨#[116, 97, 105, 108]⟩, ⟨#[106, 117, 109, 112]⟩]
theorem names2_any (w : World) : Calls Try.prog 132 #[] w fun e w' => e = .returned (.slice (some ⟨w.heap.size, 0, none⟩) 6 6) ∧ w'.cell? ⟨w.heap.size, 1, none⟩ = some (.string ⟨#[109, 111, 118, 101]⟩) ∧ w'.cell? ⟨w.heap.size, 2, none⟩ = some (.string ⟨#[99, 111, 110, 115]⟩) ∧ w.heap.size < w'.heap.size ∧ Below w.heap.size w w' := by
  go_enter Try.func132, Try.ntmps132
  go_wp2
  go_ret
  exact ⟨rfl, by simp [nameL], by simp [nameL], by simp, (Below.refl _ _).alloc (Nat.le_refl _) _⟩

set_option maxHeartbeats 4000000 in
theorem textM10 (w : World) : Calls Try.prog 111 #[.agg #[.int .i64 1, .int .i64 1, .int .i64 0, .int .i64 0, .string ⟨#[]⟩]] w fun e w' => e = .returned (.string ⟨#[109, 111, 118, 101, 32, 49, 32, 48]⟩) ∧ Below w.heap.size w w' := by
  have hb0 := (Below.refl w.heap.size w).alloc (Nat.le_refl _) (.cells #[.int .i64 1, .int .i64 1, .int .i64 0, .int .i64 0, .string ⟨#[]⟩] 52)
  have hblk := heap_alloc_new w (.cells #[.int .i64 1, .int .i64 1, .int .i64 0, .int .i64 0, .string ⟨#[]⟩] 52)
  obtain ⟨w1, hW⟩ : ∃ B, w.alloc (.cells #[.int .i64 1, .int .i64 1, .int .i64 0, .int .i64 0, .string ⟨#[]⟩] 52) = B := ⟨_, rfl⟩
  have hsz : w1.heap.size = w.heap.size + 1 := by rw [← hW]; simp
  rw [hW] at hb0 hblk
  have cc := (block_cells hblk).1
  have cl := fun (w' : World) (hb : Below w1.heap.size w1 w') (j : Nat) => (hb.cell (p := ⟨w.heap.size, j, none⟩) (by show w.heap.size < w1.heap.size; omega)).trans (cc j)
  have c0 := fun w' hb => (cl w' hb 0)
  have c1 := fun w' hb => (cl w' hb 1)
  have c2 := fun w' hb => (cl w' hb 2)
  have c3 := fun w' hb => (cl w' hb 3)
  simp only [List.getElem?_toArray, List.getElem?_cons_zero, List.getElem?_cons_succ] at c0 c1 c2 c3
  have d0 := c0 w1 (Below.refl _ _)
  have d1 := c1 w1 (Below.refl _ _)
  clear hblk cc cl hsz
  have kN := fun (w' : World) (hb : Below w1.heap.size w1 w') => (names2_any w').mono fun e w'' h => (show e = .returned (.slice (some ⟨w'.heap.size, 0, none⟩) 6 6) ∧ w''.cell? ⟨w'.heap.size, 1, none⟩ = some (.string ⟨#[109, 111, 118, 101]⟩) ∧ w'.heap.size < w''.heap.size ∧ Hid (Below w'.heap.size w' w'') ∧ Below w1.heap.size w1 w'' from ⟨h.1, h.2.1, h.2.2.2.1, Lib.hid h.2.2.2.2, hb.trans (h.2.2.2.2.mono hb.size)⟩)
  have kD0 := fun (w' : World) (hb : Below w1.heap.size w1 w') => (dec0_any w').mono fun e w'' h => (show e = .returned (.string ⟨#[48]⟩) ∧ Hid (Below w'.heap.size w' w'') ∧ Below w1.heap.size w1 w'' from ⟨h.1, Lib.hid h.2, hb.trans (h.2.mono hb.size)⟩)
  have kD1 := fun (w' : World) (hb : Below w1.heap.size w1 w') => (dec1_any w').mono fun e w'' h => (show e = .returned (.string ⟨#[49]⟩) ∧ Hid (Below w'.heap.size w' w'') ∧ Below w1.heap.size w1 w'' from ⟨h.1, Lib.hid h.2, hb.trans (h.2.mono hb.size)⟩)
  go_enter Try.func111, Try.ntmps111
  go_wp2
  go_region_law ((first
    | (go_simp; (with_reducible refine (kN _ (by first | exact hb2 | exact hb1 | exact Below.refl _ _ | exact hb1.drew | exact (Below.refl _ _).drew)).mono ?_); rintro e w4 ⟨rfl, hcN, hltN, hbN, hb4⟩; (first | have hcN : w4.cell? ⟨w2.heap.size, 1, none⟩ = some (.string ⟨#[109, 111, 118, 101]⟩) := hcN | have hcN : w4.cell? ⟨w1.heap.size, 1, none⟩ = some (.string ⟨#[109, 111, 118, 101]⟩) := hcN); have e0 := c0 _ hb4; have e1 := c1 _ hb4)
    | (go_simp; (with_reducible refine (kD1 _ (by first | exact hb4 | exact Below.refl _ _ | exact hb4.drew | exact (Below.refl _ _).drew)).mono ?_); rintro e w2 ⟨rfl, hbD, hb2⟩; have e0 := c0 _ hb2; have e1 := c1 _ hb2; try have hcN := (hbD.out.cell hltN).trans hcN)))
  all_goals (
  have x2 := c2 _ hb2
  have y2 := c2 _ hb4
  go_wp2_with fail
  refine (kD0 _ (by first | exact hb6 | exact hb5 | exact hb2 | exact hb4 | exact hb6.drew | exact hb5.drew | exact hb2.drew | exact hb4.drew)).mono ?_
  rintro e w5 ⟨rfl, hbD5, hb5⟩
  go_wp2
  go_ret
  exact ⟨rfl, hb0.trans (hb5.mono hb0.size)⟩)

set_option maxHeartbeats 4000000 in
theorem textM20 (w : World) : Calls Try.prog 111 #[.agg #[.int .i64 1, .int .i64 2, .int .i64 0, .int .i64 0, .string ⟨#[]⟩]] w fun e w' => e = .returned (.string ⟨#[109, 111, 118, 101, 32, 50, 32, 48]⟩) ∧ Below w.heap.size w w' := by
  have hb0 := (Below.refl w.heap.size w).alloc (Nat.le_refl _) (.cells #[.int .i64 1, .int .i64 2, .int .i64 0, .int .i64 0, .string ⟨#[]⟩] 52)
  have hblk := heap_alloc_new w (.cells #[.int .i64 1, .int .i64 2, .int .i64 0, .int .i64 0, .string ⟨#[]⟩] 52)
  obtain ⟨w1, hW⟩ : ∃ B, w.alloc (.cells #[.int .i64 1, .int .i64 2, .int .i64 0, .int .i64 0, .string ⟨#[]⟩] 52) = B := ⟨_, rfl⟩
  have hsz : w1.heap.size = w.heap.size + 1 := by rw [← hW]; simp
  rw [hW] at hb0 hblk
  have cc := (block_cells hblk).1
  have cl := fun (w' : World) (hb : Below w1.heap.size w1 w') (j : Nat) => (hb.cell (p := ⟨w.heap.size, j, none⟩) (by show w.heap.size < w1.heap.size; omega)).trans (cc j)
  have c0 := fun w' hb => (cl w' hb 0)
  have c1 := fun w' hb => (cl w' hb 1)
  have c2 := fun w' hb => (cl w' hb 2)
  have c3 := fun w' hb => (cl w' hb 3)
  simp only [List.getElem?_toArray, List.getElem?_cons_zero, List.getElem?_cons_succ] at c0 c1 c2 c3
  have d0 := c0 w1 (Below.refl _ _)
  have d1 := c1 w1 (Below.refl _ _)
  clear hblk cc cl hsz
  have kN := fun (w' : World) (hb : Below w1.heap.size w1 w') => (names2_any w').mono fun e w'' h => (show e = .returned (.slice (some ⟨w'.heap.size, 0, none⟩) 6 6) ∧ w''.cell? ⟨w'.heap.size, 1, none⟩ = some (.string ⟨#[109, 111, 118, 101]⟩) ∧ w'.heap.size < w''.heap.size ∧ Hid (Below w'.heap.size w' w'') ∧ Below w1.heap.size w1 w'' from ⟨h.1, h.2.1, h.2.2.2.1, Lib.hid h.2.2.2.2, hb.trans (h.2.2.2.2.mono hb.size)⟩)
  have kD0 := fun (w' : World) (hb : Below w1.heap.size w1 w') => (dec0_any w').mono fun e w'' h => (show e = .returned (.string ⟨#[48]⟩) ∧ Hid (Below w'.heap.size w' w'') ∧ Below w1.heap.size w1 w'' from ⟨h.1, Lib.hid h.2, hb.trans (h.2.mono hb.size)⟩)
  have kD2 := fun (w' : World) (hb : Below w1.heap.size w1 w') => (dec2_any w').mono fun e w'' h => (show e = .returned (.string ⟨#[50]⟩) ∧ Hid (Below w'.heap.size w' w'') ∧ Below w1.heap.size w1 w'' from ⟨h.1, Lib.hid h.2, hb.trans (h.2.mono hb.size)⟩)
  go_enter Try.func111, Try.ntmps111
  go_wp2
  go_region_law ((first
    | (go_simp; (with_reducible refine (kN _ (by first | exact hb2 | exact hb1 | exact Below.refl _ _ | exact hb1.drew | exact (Below.refl _ _).drew)).mono ?_); rintro e w4 ⟨rfl, hcN, hltN, hbN, hb4⟩; (first | have hcN : w4.cell? ⟨w2.heap.size, 1, none⟩ = some (.string ⟨#[109, 111, 118, 101]⟩) := hcN | have hcN : w4.cell? ⟨w1.heap.size, 1, none⟩ = some (.string ⟨#[109, 111, 118, 101]⟩) := hcN); have e0 := c0 _ hb4; have e1 := c1 _ hb4)
    | (go_simp; (with_reducible refine (kD2 _ (by first | exact hb4 | exact Below.refl _ _ | exact hb4.drew | exact (Below.refl _ _).drew)).mono ?_); rintro e w2 ⟨rfl, hbD, hb2⟩; have e0 := c0 _ hb2; have e1 := c1 _ hb2; try have hcN := (hbD.out.cell hltN).trans hcN)))
  all_goals (
  have x2 := c2 _ hb2
  have y2 := c2 _ hb4
  go_wp2_with fail
  refine (kD0 _ (by first | exact hb6 | exact hb5 | exact hb2 | exact hb4 | exact hb6.drew | exact hb5.drew | exact hb2.drew | exact hb4.drew)).mono ?_
  rintro e w5 ⟨rfl, hbD5, hb5⟩
  go_wp2
  go_ret
  exact ⟨rfl, hb0.trans (hb5.mono hb0.size)⟩)

set_option maxHeartbeats 4000000 in
theorem textM01 (w : World) : Calls Try.prog 111 #[.agg #[.int .i64 1, .int .i64 0, .int .i64 1, .int .i64 0, .string ⟨#[]⟩]] w fun e w' => e = .returned (.string ⟨#[109, 111, 118, 101, 32, 48, 32, 49]⟩) ∧ Below w.heap.size w w' := by
  have hb0 := (Below.refl w.heap.size w).alloc (Nat.le_refl _) (.cells #[.int .i64 1, .int .i64 0, .int .i64 1, .int .i64 0, .string ⟨#[]⟩] 52)
  have hblk := heap_alloc_new w (.cells #[.int .i64 1, .int .i64 0, .int .i64 1, .int .i64 0, .string ⟨#[]⟩] 52)
  obtain ⟨w1, hW⟩ : ∃ B, w.alloc (.cells #[.int .i64 1, .int .i64 0, .int .i64 1, .int .i64 0, .string ⟨#[]⟩] 52) = B := ⟨_, rfl⟩
  have hsz : w1.heap.size = w.heap.size + 1 := by rw [← hW]; simp
  rw [hW] at hb0 hblk
  have cc := (block_cells hblk).1
  have cl := fun (w' : World) (hb : Below w1.heap.size w1 w') (j : Nat) => (hb.cell (p := ⟨w.heap.size, j, none⟩) (by show w.heap.size < w1.heap.size; omega)).trans (cc j)
  have c0 := fun w' hb => (cl w' hb 0)
  have c1 := fun w' hb => (cl w' hb 1)
  have c2 := fun w' hb => (cl w' hb 2)
  have c3 := fun w' hb => (cl w' hb 3)
  simp only [List.getElem?_toArray, List.getElem?_cons_zero, List.getElem?_cons_succ] at c0 c1 c2 c3
  have d0 := c0 w1 (Below.refl _ _)
  have d1 := c1 w1 (Below.refl _ _)
  clear hblk cc cl hsz
  have kN := fun (w' : World) (hb : Below w1.heap.size w1 w') => (names2_any w').mono fun e w'' h => (show e = .returned (.slice (some ⟨w'.heap.size, 0, none⟩) 6 6) ∧ w''.cell? ⟨w'.heap.size, 1, none⟩ = some (.string ⟨#[109, 111, 118, 101]⟩) ∧ w'.heap.size < w''.heap.size ∧ Hid (Below w'.heap.size w' w'') ∧ Below w1.heap.size w1 w'' from ⟨h.1, h.2.1, h.2.2.2.1, Lib.hid h.2.2.2.2, hb.trans (h.2.2.2.2.mono hb.size)⟩)
  have kD0 := fun (w' : World) (hb : Below w1.heap.size w1 w') => (dec0_any w').mono fun e w'' h => (show e = .returned (.string ⟨#[48]⟩) ∧ Hid (Below w'.heap.size w' w'') ∧ Below w1.heap.size w1 w'' from ⟨h.1, Lib.hid h.2, hb.trans (h.2.mono hb.size)⟩)
  have kD1 := fun (w' : World) (hb : Below w1.heap.size w1 w') => (dec1_any w').mono fun e w'' h => (show e = .returned (.string ⟨#[49]⟩) ∧ Hid (Below w'.heap.size w' w'') ∧ Below w1.heap.size w1 w'' from ⟨h.1, Lib.hid h.2, hb.trans (h.2.mono hb.size)⟩)
  go_enter Try.func111, Try.ntmps111
  go_wp2
  go_region_law ((first
    | (go_simp; (with_reducible refine (kN _ (by first | exact hb2 | exact hb1 | exact Below.refl _ _ | exact hb1.drew | exact (Below.refl _ _).drew)).mono ?_); rintro e w4 ⟨rfl, hcN, hltN, hbN, hb4⟩; (first | have hcN : w4.cell? ⟨w2.heap.size, 1, none⟩ = some (.string ⟨#[109, 111, 118, 101]⟩) := hcN | have hcN : w4.cell? ⟨w1.heap.size, 1, none⟩ = some (.string ⟨#[109, 111, 118, 101]⟩) := hcN); have e0 := c0 _ hb4; have e1 := c1 _ hb4)
    | (go_simp; (with_reducible refine (kD0 _ (by first | exact hb4 | exact Below.refl _ _ | exact hb4.drew | exact (Below.refl _ _).drew)).mono ?_); rintro e w2 ⟨rfl, hbD, hb2⟩; have e0 := c0 _ hb2; have e1 := c1 _ hb2; try have hcN := (hbD.out.cell hltN).trans hcN)))
  all_goals (
  have x2 := c2 _ hb2
  have y2 := c2 _ hb4
  go_wp2_with fail
  refine (kD1 _ (by first | exact hb6 | exact hb5 | exact hb2 | exact hb4 | exact hb6.drew | exact hb5.drew | exact hb2.drew | exact hb4.drew)).mono ?_
  rintro e w5 ⟨rfl, hbD5, hb5⟩
  go_wp2
  go_ret
  exact ⟨rfl, hb0.trans (hb5.mono hb0.size)⟩)

set_option maxHeartbeats 4000000 in
theorem textC (w : World) : Calls Try.prog 111 #[.agg #[.int .i64 2, .int .i64 0, .int .i64 2, .int .i64 0, .string ⟨#[]⟩]] w fun e w' => e = .returned (.string ⟨#[99, 111, 110, 115, 32, 48, 32, 50, 32, 48]⟩) ∧ Below w.heap.size w w' := by
  have hb0 := (Below.refl w.heap.size w).alloc (Nat.le_refl _) (.cells #[.int .i64 2, .int .i64 0, .int .i64 2, .int .i64 0, .string ⟨#[]⟩] 52)
  have hblk := heap_alloc_new w (.cells #[.int .i64 2, .int .i64 0, .int .i64 2, .int .i64 0, .string ⟨#[]⟩] 52)
  obtain ⟨w1, hW⟩ : ∃ B, w.alloc (.cells #[.int .i64 2, .int .i64 0, .int .i64 2, .int .i64 0, .string ⟨#[]⟩] 52) = B := ⟨_, rfl⟩
  have hsz : w1.heap.size = w.heap.size + 1 := by rw [← hW]; simp
  rw [hW] at hb0 hblk
  have cc := (block_cells hblk).1
  have cl := fun (w' : World) (hb : Below w1.heap.size w1 w') (j : Nat) => (hb.cell (p := ⟨w.heap.size, j, none⟩) (by show w.heap.size < w1.heap.size; omega)).trans (cc j)
  have c0 := fun w' hb => (cl w' hb 0)
  have c1 := fun w' hb => (cl w' hb 1)
  have c2 := fun w' hb => (cl w' hb 2)
  have c3 := fun w' hb => (cl w' hb 3)
  simp only [List.getElem?_toArray, List.getElem?_cons_zero, List.getElem?_cons_succ] at c0 c1 c2 c3
  have d0 := c0 w1 (Below.refl _ _)
  have d1 := c1 w1 (Below.refl _ _)
  clear hblk cc cl hsz
  have kN := fun (w' : World) (hb : Below w1.heap.size w1 w') => (names2_any w').mono fun e w'' h => (show e = .returned (.slice (some ⟨w'.heap.size, 0, none⟩) 6 6) ∧ w''.cell? ⟨w'.heap.size, 2, none⟩ = some (.string ⟨#[99, 111, 110, 115]⟩) ∧ w'.heap.size < w''.heap.size ∧ Hid (Below w'.heap.size w' w'') ∧ Below w1.heap.size w1 w'' from ⟨h.1, h.2.2.1, h.2.2.2.1, Lib.hid h.2.2.2.2, hb.trans (h.2.2.2.2.mono hb.size)⟩)
  have kD0 := fun (w' : World) (hb : Below w1.heap.size w1 w') => (dec0_any w').mono fun e w'' h => (show e = .returned (.string ⟨#[48]⟩) ∧ Hid (Below w'.heap.size w' w'') ∧ Below w1.heap.size w1 w'' from ⟨h.1, Lib.hid h.2, hb.trans (h.2.mono hb.size)⟩)
  have kD2 := fun (w' : World) (hb : Below w1.heap.size w1 w') => (dec2_any w').mono fun e w'' h => (show e = .returned (.string ⟨#[50]⟩) ∧ Hid (Below w'.heap.size w' w'') ∧ Below w1.heap.size w1 w'' from ⟨h.1, Lib.hid h.2, hb.trans (h.2.mono hb.size)⟩)
  go_enter Try.func111, Try.ntmps111
  go_wp2
  go_region_law ((first
    | (go_simp; (with_reducible refine (kN _ (by first | exact hb2 | exact hb1 | exact Below.refl _ _ | exact hb1.drew | exact (Below.refl _ _).drew)).mono ?_); rintro e w4 ⟨rfl, hcN, hltN, hbN, hb4⟩; (first | have hcN : w4.cell? ⟨w2.heap.size, 2, none⟩ = some (.string ⟨#[99, 111, 110, 115]⟩) := hcN | have hcN : w4.cell? ⟨w1.heap.size, 2, none⟩ = some (.string ⟨#[99, 111, 110, 115]⟩) := hcN); have e0 := c0 _ hb4; have e1 := c1 _ hb4)
    | (go_simp; (with_reducible refine (kD0 _ (by first | exact hb4 | exact Below.refl _ _ | exact hb4.drew | exact (Below.refl _ _).drew)).mono ?_); rintro e w2 ⟨rfl, hbD, hb2⟩; have e0 := c0 _ hb2; have e1 := c1 _ hb2; try have hcN := (hbD.out.cell hltN).trans hcN)))
  all_goals (
  have x2 := c2 _ hb2
  have y2 := c2 _ hb4
  have x3 := c3 _ hb2
  have y3 := c3 _ hb4
  go_wp2
  go_region_law ((first
    | (go_simp; (with_reducible refine (kD2 _ (by first | exact hb6 | exact hb5 | exact hb2 | exact hb4 | exact hb6.drew | exact hb5.drew | exact hb2.drew | exact hb4.drew)).mono ?_); rintro e w5 ⟨rfl, hbD5, hb5⟩; have z2 := c2 _ hb5; have z3 := c3 _ hb5)
    | (go_simp; (with_reducible refine (kD0 _ (by first | exact hb6 | exact hb5 | exact hb2 | exact hb4 | exact hb6.drew | exact hb5.drew | exact hb2.drew | exact hb4.drew)).mono ?_); rintro e w6 ⟨rfl, hbD6, hb6⟩; have u2 := c2 _ hb6; have u3 := c3 _ hb6)))
  all_goals (
  go_wp2
  go_ret
  exact ⟨rfl, by first | exact hb0.trans (hb5.mono hb0.size) | exact hb0.trans (hb6.mono hb0.size)⟩))

end Go.Proofs.Ytaiomcjopgnfpaa


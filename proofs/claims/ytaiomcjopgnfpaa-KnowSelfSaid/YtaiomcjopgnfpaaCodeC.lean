/- code.number and how the fields of an instruction are written. -/
import Derived.Test.YtaiomcjopgnfpaaAt
import Derived.Test.YtaiomcjopgnfpaaRegs
import Derived.Test.YtaiomcjopgnfpaaMB0
namespace Go.Proofs.Ytaiomcjopgnfpaa
open Go.RowKit

/-- The fields of an instruction as a tree. -/
def bodyB (x : Ins) : ByteArray :=
  if x.op = 0 then ⟨#[49]⟩ ++ TS (.num x.a.toNat) ++ x.tree
  else if x.op = 2 then ⟨#[49]⟩ ++ TS (.num x.a.toNat) ++ ⟨#[49]⟩ ++ TS (.num x.b.toNat) ++ TS (.num x.c.toNat)
  else if x.op = 5 then (if x.b < 0 then ⟨#[49]⟩ ++ TS (.num x.a.toNat) ++ ⟨#[49, 49, 48, 48]⟩ ++ TS (.num (-x.b).toNat) else ⟨#[49]⟩ ++ TS (.num x.a.toNat) ++ ⟨#[49, 48]⟩ ++ TS (.num x.b.toNat))
  else ⟨#[49]⟩ ++ TS (.num x.a.toNat) ++ TS (.num x.b.toNat)
theorem num_size (n : Nat) : (TS (.num n)).size = 2 * n + 1 := by rw [TS_size, size_num]
theorem cnum_any (n : Nat) (h : n ≤ 100000) (w : World) : Calls Try.prog 123 #[.int .i64 n] w fun e w' => e = .returned (.string (TS (.num n))) ∧ Below w.heap.size w w' := by
  have k1 := fun w => rep_add0 n (by omega) w
  have hc := fun w => repeat10 n (by omega) w
  clear h
  generalize TS (.num n) = r at k1 ⊢
  generalize rep10 n = q at k1 hc
  go_enter Try.func123, Try.ntmps123
  go_wp2_with fail
  refine (hc _).mono ?_
  rintro e w1 ⟨rfl, hb⟩
  go_wp2
  go_ret
  exact ⟨rfl, hb⟩
/-- The same, where the number is given as an integer. -/
theorem cnum_at (i : Int) (n : Nat) (hi : i = n) (h : n ≤ 100000) (r : ByteArray) (hr : TS (.num n) = r) (w0 w : World) (hb : Below w0.heap.size w0 w) : Calls Try.prog 123 #[.int .i64 i] w fun e w' => e = .returned (.string r) ∧ Below w0.heap.size w0 w' := by
  subst hi; subst hr
  exact (cnum_any n h w).mono fun e w' h => ⟨h.1, hb.trans (h.2.mono hb.size)⟩

set_option maxHeartbeats 4000000 in
theorem put_set (op : Int) (b : Int) (c : Int) (t : ByteArray) (ht : t.size ≤ 2000000) (i : Nat) (zi : i ≤ 100000)  (w : World) : Calls Try.prog 144 #[.agg #[.int .i64 op, .int .i64 ((i : Int)), .int .i64 (b), .int .i64 (c), .string t]] w fun e w' => e = .returned (.string (⟨#[49]⟩ ++ TS (.num i) ++ t)) ∧ Below w.heap.size w w' := by
  obtain ⟨ri, hri⟩ : ∃ r, TS (.num i) = r := ⟨_, rfl⟩
  have si : ri.size ≤ 300000 := by rw [← hri, num_size]; omega
  rw [hri]
  obtain ⟨q0, hq0⟩ : ∃ q, (⟨#[49]⟩ ++ ri : ByteArray) = q := ⟨_, rfl⟩
  have sq0 : q0.size ≤ 2000020 := by rw [← hq0, ByteArray.size_append]; have h1 : (⟨#[49]⟩ : ByteArray).size ≤ 10 := (by decide); have h2 : (ri : ByteArray).size ≤ 2000000 := (by omega); omega
  have A0 := fun w => run_string_add_sum (P := Try.prog) (w := w) (⟨#[49]⟩) (ri) (by have h1 : (⟨#[49]⟩ : ByteArray).size ≤ 10 := (by decide); have h2 : (ri : ByteArray).size ≤ 2000000 := (by omega); omega)
  rw [hq0] at A0
  obtain ⟨q1, hq1⟩ : ∃ q, (q0 ++ t : ByteArray) = q := ⟨_, rfl⟩
  have sq1 : q1.size ≤ 4000030 := by rw [← hq1, ByteArray.size_append]; have h1 : (q0 : ByteArray).size ≤ 2000020 := sq0; have h2 : (t : ByteArray).size ≤ 2000000 := (by omega); omega
  have A1 := fun w => run_string_add_sum (P := Try.prog) (w := w) (q0) (t) (by have h1 : (q0 : ByteArray).size ≤ 2000020 := sq0; have h2 : (t : ByteArray).size ≤ 2000000 := (by omega); omega)
  rw [hq1] at A1
  rw [hq0, hq1]
  clear hq0 sq0 hq1 sq1
  have hb0 := (Below.refl w.heap.size w).alloc (Nat.le_refl _) (.cells #[.int .i64 op, .int .i64 ((i : Int)), .int .i64 (b), .int .i64 (c), .string t] 52)
  have hblk := heap_alloc_new w (.cells #[.int .i64 op, .int .i64 ((i : Int)), .int .i64 (b), .int .i64 (c), .string t] 52)
  obtain ⟨w1, hW⟩ : ∃ B, w.alloc (.cells #[.int .i64 op, .int .i64 ((i : Int)), .int .i64 (b), .int .i64 (c), .string t] 52) = B := ⟨_, rfl⟩
  have hsz : w1.heap.size = w.heap.size + 1 := by rw [← hW]; simp
  rw [hW] at hb0 hblk
  have cc := (block_cells hblk).1
  have KK := Lib.hid (fun (w' : World) (hb : Below w1.heap.size w1 w') => (show w'.cell? ⟨w.heap.size, 1, none⟩ = some (.int .i64 ((i : Int))) ∧ w'.cell? ⟨w.heap.size, 2, none⟩ = some (.int .i64 (b)) ∧ w'.cell? ⟨w.heap.size, 3, none⟩ = some (.int .i64 (c)) ∧ w'.cell? ⟨w.heap.size, 4, none⟩ = some (.string t) from
    ⟨(hb.cell (p := ⟨w.heap.size, 1, none⟩) (by show w.heap.size < w1.heap.size; omega)).trans (cc 1), (hb.cell (p := ⟨w.heap.size, 2, none⟩) (by show w.heap.size < w1.heap.size; omega)).trans (cc 2), (hb.cell (p := ⟨w.heap.size, 3, none⟩) (by show w.heap.size < w1.heap.size; omega)).trans (cc 3), (hb.cell (p := ⟨w.heap.size, 4, none⟩) (by show w.heap.size < w1.heap.size; omega)).trans (cc 4)⟩))
  obtain ⟨c1, c2, c3, c4⟩ := KK.out w1 (Below.refl _ _)
  have Ki := Lib.hid (cnum_at ((i : Int)) i rfl zi ri hri w1)
  have HB0 := Lib.hid hb0
  clear hblk cc hsz hb0 hri
  go_enter Try.func144, Try.ntmps144
  go_wp2
  go_region_held3 (fun w' => w'.cell? ⟨w.heap.size, 1, none⟩ = some (.int .i64 ((i : Int))) ∧ w'.cell? ⟨w.heap.size, 2, none⟩ = some (.int .i64 (b)) ∧ w'.cell? ⟨w.heap.size, 3, none⟩ = some (.int .i64 (c)) ∧ w'.cell? ⟨w.heap.size, 4, none⟩ = some (.string t))
    (with_reducible (first | exact KK.out _ hb1 | exact KK.out _ (Below.refl _ _) | exact KK.out _ (Below.refl _ _).drew | fail "keep"))
    ((first | ((with_reducible refine (Ki.out _ (by first | exact hb3 | exact hb2 | exact hb1 | exact Below.refl _ _ | exact hb3.drew | exact hb2.drew | exact hb1.drew | exact (Below.refl _ _).drew)).mono ?_); rintro e v1 ⟨rfl, hb1⟩) | (fail "arm")))
  all_goals (
  go_wp2
  go_ret
  exact ⟨rfl, by first | exact HB0.out.trans (hb1.mono HB0.out.size)⟩)

set_option maxHeartbeats 4000000 in
theorem put_regs (op : Int) (c : Int) (t : ByteArray) (_ht : t.size ≤ 2000000) (i : Nat) (zi : i ≤ 100000) (j : Nat) (zj : j ≤ 100000)  (w : World) : Calls Try.prog 164 #[.agg #[.int .i64 op, .int .i64 ((i : Int)), .int .i64 ((j : Int)), .int .i64 (c), .string t]] w fun e w' => e = .returned (.string (⟨#[49]⟩ ++ TS (.num i) ++ TS (.num j))) ∧ Below w.heap.size w w' := by
  obtain ⟨ri, hri⟩ : ∃ r, TS (.num i) = r := ⟨_, rfl⟩
  have si : ri.size ≤ 300000 := by rw [← hri, num_size]; omega
  obtain ⟨rj, hrj⟩ : ∃ r, TS (.num j) = r := ⟨_, rfl⟩
  have sj : rj.size ≤ 300000 := by rw [← hrj, num_size]; omega
  rw [hri, hrj]
  obtain ⟨q0, hq0⟩ : ∃ q, (⟨#[49]⟩ ++ ri : ByteArray) = q := ⟨_, rfl⟩
  have sq0 : q0.size ≤ 2000020 := by rw [← hq0, ByteArray.size_append]; have h1 : (⟨#[49]⟩ : ByteArray).size ≤ 10 := (by decide); have h2 : (ri : ByteArray).size ≤ 2000000 := (by omega); omega
  have A0 := fun w => run_string_add_sum (P := Try.prog) (w := w) (⟨#[49]⟩) (ri) (by have h1 : (⟨#[49]⟩ : ByteArray).size ≤ 10 := (by decide); have h2 : (ri : ByteArray).size ≤ 2000000 := (by omega); omega)
  rw [hq0] at A0
  obtain ⟨q1, hq1⟩ : ∃ q, (q0 ++ rj : ByteArray) = q := ⟨_, rfl⟩
  have sq1 : q1.size ≤ 4000030 := by rw [← hq1, ByteArray.size_append]; have h1 : (q0 : ByteArray).size ≤ 2000020 := sq0; have h2 : (rj : ByteArray).size ≤ 2000000 := (by omega); omega
  have A1 := fun w => run_string_add_sum (P := Try.prog) (w := w) (q0) (rj) (by have h1 : (q0 : ByteArray).size ≤ 2000020 := sq0; have h2 : (rj : ByteArray).size ≤ 2000000 := (by omega); omega)
  rw [hq1] at A1
  rw [hq0, hq1]
  clear hq0 sq0 hq1 sq1
  have hb0 := (Below.refl w.heap.size w).alloc (Nat.le_refl _) (.cells #[.int .i64 op, .int .i64 ((i : Int)), .int .i64 ((j : Int)), .int .i64 (c), .string t] 52)
  have hblk := heap_alloc_new w (.cells #[.int .i64 op, .int .i64 ((i : Int)), .int .i64 ((j : Int)), .int .i64 (c), .string t] 52)
  obtain ⟨w1, hW⟩ : ∃ B, w.alloc (.cells #[.int .i64 op, .int .i64 ((i : Int)), .int .i64 ((j : Int)), .int .i64 (c), .string t] 52) = B := ⟨_, rfl⟩
  have hsz : w1.heap.size = w.heap.size + 1 := by rw [← hW]; simp
  rw [hW] at hb0 hblk
  have cc := (block_cells hblk).1
  have KK := Lib.hid (fun (w' : World) (hb : Below w1.heap.size w1 w') => (show w'.cell? ⟨w.heap.size, 1, none⟩ = some (.int .i64 ((i : Int))) ∧ w'.cell? ⟨w.heap.size, 2, none⟩ = some (.int .i64 ((j : Int))) ∧ w'.cell? ⟨w.heap.size, 3, none⟩ = some (.int .i64 (c)) ∧ w'.cell? ⟨w.heap.size, 4, none⟩ = some (.string t) from
    ⟨(hb.cell (p := ⟨w.heap.size, 1, none⟩) (by show w.heap.size < w1.heap.size; omega)).trans (cc 1), (hb.cell (p := ⟨w.heap.size, 2, none⟩) (by show w.heap.size < w1.heap.size; omega)).trans (cc 2), (hb.cell (p := ⟨w.heap.size, 3, none⟩) (by show w.heap.size < w1.heap.size; omega)).trans (cc 3), (hb.cell (p := ⟨w.heap.size, 4, none⟩) (by show w.heap.size < w1.heap.size; omega)).trans (cc 4)⟩))
  obtain ⟨c1, c2, c3, c4⟩ := KK.out w1 (Below.refl _ _)
  have Ki := Lib.hid (cnum_at ((i : Int)) i rfl zi ri hri w1)
  have Kj := Lib.hid (cnum_at ((j : Int)) j rfl zj rj hrj w1)
  have HB0 := Lib.hid hb0
  clear hblk cc hsz hb0 hri hrj
  go_enter Try.func164, Try.ntmps164
  go_wp2
  go_region_held3 (fun w' => w'.cell? ⟨w.heap.size, 1, none⟩ = some (.int .i64 ((i : Int))) ∧ w'.cell? ⟨w.heap.size, 2, none⟩ = some (.int .i64 ((j : Int))) ∧ w'.cell? ⟨w.heap.size, 3, none⟩ = some (.int .i64 (c)) ∧ w'.cell? ⟨w.heap.size, 4, none⟩ = some (.string t))
    (with_reducible (first | exact KK.out _ hb2 | exact KK.out _ hb1 | exact KK.out _ (Below.refl _ _) | exact KK.out _ (Below.refl _ _).drew | fail "keep"))
    ((first | ((with_reducible refine (Ki.out _ (by first | exact hb3 | exact hb2 | exact hb1 | exact Below.refl _ _ | exact hb3.drew | exact hb2.drew | exact hb1.drew | exact (Below.refl _ _).drew)).mono ?_); rintro e v1 ⟨rfl, hb1⟩) | ((with_reducible refine (Kj.out _ (by first | exact hb3 | exact hb2 | exact hb1 | exact Below.refl _ _ | exact hb3.drew | exact hb2.drew | exact hb1.drew | exact (Below.refl _ _).drew)).mono ?_); rintro e v2 ⟨rfl, hb2⟩) | (fail "arm")))
  all_goals (
  go_wp2
  go_ret
  exact ⟨rfl, by first | exact HB0.out.trans (hb2.mono HB0.out.size) | exact HB0.out.trans (hb1.mono HB0.out.size)⟩)

set_option maxHeartbeats 4000000 in
theorem put_cons (op : Int) (t : ByteArray) (_ht : t.size ≤ 2000000) (i : Nat) (zi : i ≤ 100000) (j : Nat) (zj : j ≤ 100000) (k : Nat) (zk : k ≤ 100000)  (w : World) : Calls Try.prog 148 #[.agg #[.int .i64 op, .int .i64 ((i : Int)), .int .i64 ((j : Int)), .int .i64 ((k : Int)), .string t]] w fun e w' => e = .returned (.string (⟨#[49]⟩ ++ TS (.num i) ++ ⟨#[49]⟩ ++ TS (.num j) ++ TS (.num k))) ∧ Below w.heap.size w w' := by
  obtain ⟨ri, hri⟩ : ∃ r, TS (.num i) = r := ⟨_, rfl⟩
  have si : ri.size ≤ 300000 := by rw [← hri, num_size]; omega
  obtain ⟨rj, hrj⟩ : ∃ r, TS (.num j) = r := ⟨_, rfl⟩
  have sj : rj.size ≤ 300000 := by rw [← hrj, num_size]; omega
  obtain ⟨rk, hrk⟩ : ∃ r, TS (.num k) = r := ⟨_, rfl⟩
  have sk : rk.size ≤ 300000 := by rw [← hrk, num_size]; omega
  rw [hri, hrj, hrk]
  obtain ⟨q0, hq0⟩ : ∃ q, (⟨#[49]⟩ ++ ri : ByteArray) = q := ⟨_, rfl⟩
  have sq0 : q0.size ≤ 2000020 := by rw [← hq0, ByteArray.size_append]; have h1 : (⟨#[49]⟩ : ByteArray).size ≤ 10 := (by decide); have h2 : (ri : ByteArray).size ≤ 2000000 := (by omega); omega
  have A0 := fun w => run_string_add_sum (P := Try.prog) (w := w) (⟨#[49]⟩) (ri) (by have h1 : (⟨#[49]⟩ : ByteArray).size ≤ 10 := (by decide); have h2 : (ri : ByteArray).size ≤ 2000000 := (by omega); omega)
  rw [hq0] at A0
  obtain ⟨q1, hq1⟩ : ∃ q, (q0 ++ ⟨#[49]⟩ : ByteArray) = q := ⟨_, rfl⟩
  have sq1 : q1.size ≤ 4000030 := by rw [← hq1, ByteArray.size_append]; have h1 : (q0 : ByteArray).size ≤ 2000020 := sq0; have h2 : (⟨#[49]⟩ : ByteArray).size ≤ 2000000 := (by decide); omega
  have A1 := fun w => run_string_add_sum (P := Try.prog) (w := w) (q0) (⟨#[49]⟩) (by have h1 : (q0 : ByteArray).size ≤ 2000020 := sq0; have h2 : (⟨#[49]⟩ : ByteArray).size ≤ 2000000 := (by decide); omega)
  rw [hq1] at A1
  obtain ⟨q2, hq2⟩ : ∃ q, (q1 ++ rj : ByteArray) = q := ⟨_, rfl⟩
  have sq2 : q2.size ≤ 6000040 := by rw [← hq2, ByteArray.size_append]; have h1 : (q1 : ByteArray).size ≤ 4000030 := sq1; have h2 : (rj : ByteArray).size ≤ 2000000 := (by omega); omega
  have A2 := fun w => run_string_add_sum (P := Try.prog) (w := w) (q1) (rj) (by have h1 : (q1 : ByteArray).size ≤ 4000030 := sq1; have h2 : (rj : ByteArray).size ≤ 2000000 := (by omega); omega)
  rw [hq2] at A2
  obtain ⟨q3, hq3⟩ : ∃ q, (q2 ++ rk : ByteArray) = q := ⟨_, rfl⟩
  have sq3 : q3.size ≤ 8000050 := by rw [← hq3, ByteArray.size_append]; have h1 : (q2 : ByteArray).size ≤ 6000040 := sq2; have h2 : (rk : ByteArray).size ≤ 2000000 := (by omega); omega
  have A3 := fun w => run_string_add_sum (P := Try.prog) (w := w) (q2) (rk) (by have h1 : (q2 : ByteArray).size ≤ 6000040 := sq2; have h2 : (rk : ByteArray).size ≤ 2000000 := (by omega); omega)
  rw [hq3] at A3
  rw [hq0, hq1, hq2, hq3]
  clear hq0 sq0 hq1 sq1 hq2 sq2 hq3 sq3
  have hb0 := (Below.refl w.heap.size w).alloc (Nat.le_refl _) (.cells #[.int .i64 op, .int .i64 ((i : Int)), .int .i64 ((j : Int)), .int .i64 ((k : Int)), .string t] 52)
  have hblk := heap_alloc_new w (.cells #[.int .i64 op, .int .i64 ((i : Int)), .int .i64 ((j : Int)), .int .i64 ((k : Int)), .string t] 52)
  obtain ⟨w1, hW⟩ : ∃ B, w.alloc (.cells #[.int .i64 op, .int .i64 ((i : Int)), .int .i64 ((j : Int)), .int .i64 ((k : Int)), .string t] 52) = B := ⟨_, rfl⟩
  have hsz : w1.heap.size = w.heap.size + 1 := by rw [← hW]; simp
  rw [hW] at hb0 hblk
  have cc := (block_cells hblk).1
  have KK := Lib.hid (fun (w' : World) (hb : Below w1.heap.size w1 w') => (show w'.cell? ⟨w.heap.size, 1, none⟩ = some (.int .i64 ((i : Int))) ∧ w'.cell? ⟨w.heap.size, 2, none⟩ = some (.int .i64 ((j : Int))) ∧ w'.cell? ⟨w.heap.size, 3, none⟩ = some (.int .i64 ((k : Int))) ∧ w'.cell? ⟨w.heap.size, 4, none⟩ = some (.string t) from
    ⟨(hb.cell (p := ⟨w.heap.size, 1, none⟩) (by show w.heap.size < w1.heap.size; omega)).trans (cc 1), (hb.cell (p := ⟨w.heap.size, 2, none⟩) (by show w.heap.size < w1.heap.size; omega)).trans (cc 2), (hb.cell (p := ⟨w.heap.size, 3, none⟩) (by show w.heap.size < w1.heap.size; omega)).trans (cc 3), (hb.cell (p := ⟨w.heap.size, 4, none⟩) (by show w.heap.size < w1.heap.size; omega)).trans (cc 4)⟩))
  obtain ⟨c1, c2, c3, c4⟩ := KK.out w1 (Below.refl _ _)
  have Ki := Lib.hid (cnum_at ((i : Int)) i rfl zi ri hri w1)
  have Kj := Lib.hid (cnum_at ((j : Int)) j rfl zj rj hrj w1)
  have Kk := Lib.hid (cnum_at ((k : Int)) k rfl zk rk hrk w1)
  have HB0 := Lib.hid hb0
  clear hblk cc hsz hb0 hri hrj hrk
  go_enter Try.func148, Try.ntmps148
  go_wp2
  go_region_held3 (fun w' => w'.cell? ⟨w.heap.size, 1, none⟩ = some (.int .i64 ((i : Int))) ∧ w'.cell? ⟨w.heap.size, 2, none⟩ = some (.int .i64 ((j : Int))) ∧ w'.cell? ⟨w.heap.size, 3, none⟩ = some (.int .i64 ((k : Int))) ∧ w'.cell? ⟨w.heap.size, 4, none⟩ = some (.string t))
    (with_reducible (first | exact KK.out _ hb3 | exact KK.out _ hb2 | exact KK.out _ hb1 | exact KK.out _ (Below.refl _ _) | exact KK.out _ (Below.refl _ _).drew | fail "keep"))
    ((first | ((with_reducible refine (Ki.out _ (by first | exact hb3 | exact hb2 | exact hb1 | exact Below.refl _ _ | exact hb3.drew | exact hb2.drew | exact hb1.drew | exact (Below.refl _ _).drew)).mono ?_); rintro e v1 ⟨rfl, hb1⟩) | ((with_reducible refine (Kj.out _ (by first | exact hb3 | exact hb2 | exact hb1 | exact Below.refl _ _ | exact hb3.drew | exact hb2.drew | exact hb1.drew | exact (Below.refl _ _).drew)).mono ?_); rintro e v2 ⟨rfl, hb2⟩) | ((with_reducible refine (Kk.out _ (by first | exact hb3 | exact hb2 | exact hb1 | exact Below.refl _ _ | exact hb3.drew | exact hb2.drew | exact hb1.drew | exact (Below.refl _ _).drew)).mono ?_); rintro e v3 ⟨rfl, hb3⟩) | (fail "arm")))
  all_goals (
  go_wp2
  go_ret
  exact ⟨rfl, by first | exact HB0.out.trans (hb3.mono HB0.out.size) | exact HB0.out.trans (hb2.mono HB0.out.size) | exact HB0.out.trans (hb1.mono HB0.out.size)⟩)

set_option maxHeartbeats 4000000 in
theorem put_back (op : Int) (c : Int) (t : ByteArray) (_ht : t.size ≤ 2000000) (i : Nat) (zi : i ≤ 100000) (j : Nat) (zj : j ≤ 100000) (hneg : 0 < j) (w : World) : Calls Try.prog 150 #[.agg #[.int .i64 op, .int .i64 ((i : Int)), .int .i64 (-(j : Int)), .int .i64 (c), .string t]] w fun e w' => e = .returned (.string (⟨#[49]⟩ ++ TS (.num i) ++ ⟨#[49, 49, 48, 48]⟩ ++ TS (.num j))) ∧ Below w.heap.size w w' := by
  obtain ⟨ri, hri⟩ : ∃ r, TS (.num i) = r := ⟨_, rfl⟩
  have si : ri.size ≤ 300000 := by rw [← hri, num_size]; omega
  obtain ⟨rj, hrj⟩ : ∃ r, TS (.num j) = r := ⟨_, rfl⟩
  have sj : rj.size ≤ 300000 := by rw [← hrj, num_size]; omega
  rw [hri, hrj]
  obtain ⟨q0, hq0⟩ : ∃ q, (⟨#[49]⟩ ++ ri : ByteArray) = q := ⟨_, rfl⟩
  have sq0 : q0.size ≤ 2000020 := by rw [← hq0, ByteArray.size_append]; have h1 : (⟨#[49]⟩ : ByteArray).size ≤ 10 := (by decide); have h2 : (ri : ByteArray).size ≤ 2000000 := (by omega); omega
  have A0 := fun w => run_string_add_sum (P := Try.prog) (w := w) (⟨#[49]⟩) (ri) (by have h1 : (⟨#[49]⟩ : ByteArray).size ≤ 10 := (by decide); have h2 : (ri : ByteArray).size ≤ 2000000 := (by omega); omega)
  rw [hq0] at A0
  obtain ⟨q1, hq1⟩ : ∃ q, (q0 ++ ⟨#[49, 49, 48, 48]⟩ : ByteArray) = q := ⟨_, rfl⟩
  have sq1 : q1.size ≤ 4000030 := by rw [← hq1, ByteArray.size_append]; have h1 : (q0 : ByteArray).size ≤ 2000020 := sq0; have h2 : (⟨#[49, 49, 48, 48]⟩ : ByteArray).size ≤ 2000000 := (by decide); omega
  have A1 := fun w => run_string_add_sum (P := Try.prog) (w := w) (q0) (⟨#[49, 49, 48, 48]⟩) (by have h1 : (q0 : ByteArray).size ≤ 2000020 := sq0; have h2 : (⟨#[49, 49, 48, 48]⟩ : ByteArray).size ≤ 2000000 := (by decide); omega)
  rw [hq1] at A1
  obtain ⟨q2, hq2⟩ : ∃ q, (q1 ++ rj : ByteArray) = q := ⟨_, rfl⟩
  have sq2 : q2.size ≤ 6000040 := by rw [← hq2, ByteArray.size_append]; have h1 : (q1 : ByteArray).size ≤ 4000030 := sq1; have h2 : (rj : ByteArray).size ≤ 2000000 := (by omega); omega
  have A2 := fun w => run_string_add_sum (P := Try.prog) (w := w) (q1) (rj) (by have h1 : (q1 : ByteArray).size ≤ 4000030 := sq1; have h2 : (rj : ByteArray).size ≤ 2000000 := (by omega); omega)
  rw [hq2] at A2
  rw [hq0, hq1, hq2]
  clear hq0 sq0 hq1 sq1 hq2 sq2
  have hb0 := (Below.refl w.heap.size w).alloc (Nat.le_refl _) (.cells #[.int .i64 op, .int .i64 ((i : Int)), .int .i64 (-(j : Int)), .int .i64 (c), .string t] 52)
  have hblk := heap_alloc_new w (.cells #[.int .i64 op, .int .i64 ((i : Int)), .int .i64 (-(j : Int)), .int .i64 (c), .string t] 52)
  obtain ⟨w1, hW⟩ : ∃ B, w.alloc (.cells #[.int .i64 op, .int .i64 ((i : Int)), .int .i64 (-(j : Int)), .int .i64 (c), .string t] 52) = B := ⟨_, rfl⟩
  have hsz : w1.heap.size = w.heap.size + 1 := by rw [← hW]; simp
  rw [hW] at hb0 hblk
  have cc := (block_cells hblk).1
  have KK := Lib.hid (fun (w' : World) (hb : Below w1.heap.size w1 w') => (show w'.cell? ⟨w.heap.size, 1, none⟩ = some (.int .i64 ((i : Int))) ∧ w'.cell? ⟨w.heap.size, 2, none⟩ = some (.int .i64 (-(j : Int))) ∧ w'.cell? ⟨w.heap.size, 3, none⟩ = some (.int .i64 (c)) ∧ w'.cell? ⟨w.heap.size, 4, none⟩ = some (.string t) from
    ⟨(hb.cell (p := ⟨w.heap.size, 1, none⟩) (by show w.heap.size < w1.heap.size; omega)).trans (cc 1), (hb.cell (p := ⟨w.heap.size, 2, none⟩) (by show w.heap.size < w1.heap.size; omega)).trans (cc 2), (hb.cell (p := ⟨w.heap.size, 3, none⟩) (by show w.heap.size < w1.heap.size; omega)).trans (cc 3), (hb.cell (p := ⟨w.heap.size, 4, none⟩) (by show w.heap.size < w1.heap.size; omega)).trans (cc 4)⟩))
  obtain ⟨c1, c2, c3, c4⟩ := KK.out w1 (Below.refl _ _)
  have Ki := Lib.hid (cnum_at ((i : Int)) i rfl zi ri hri w1)
  have Kj := Lib.hid (cnum_at ((j : Int)) j rfl zj rj hrj w1)
  have Kn := Lib.hid (cnum_at (IntKind.i64.wrap (j : Int)) j (IntWalk.i64_in _ (by omega)) zj rj hrj w1)
  have HB0 := Lib.hid hb0
  clear hblk cc hsz hb0 hri hrj
  have hnegI : -(j : Int) < 0 := by omega
  go_enter Try.func150, Try.ntmps150
  go_wp2
  go_region_held3 (fun w' => w'.cell? ⟨w.heap.size, 1, none⟩ = some (.int .i64 ((i : Int))) ∧ w'.cell? ⟨w.heap.size, 2, none⟩ = some (.int .i64 (-(j : Int))) ∧ w'.cell? ⟨w.heap.size, 3, none⟩ = some (.int .i64 (c)) ∧ w'.cell? ⟨w.heap.size, 4, none⟩ = some (.string t))
    (with_reducible (first | exact KK.out _ hb2 | exact KK.out _ hb1 | exact KK.out _ (Below.refl _ _) | exact KK.out _ (Below.refl _ _).drew | fail "keep"))
    ((first | ((with_reducible refine (Ki.out _ (by first | exact hb3 | exact hb2 | exact hb1 | exact Below.refl _ _ | exact hb3.drew | exact hb2.drew | exact hb1.drew | exact (Below.refl _ _).drew)).mono ?_); rintro e v1 ⟨rfl, hb1⟩) | ((with_reducible refine (Kj.out _ (by first | exact hb3 | exact hb2 | exact hb1 | exact Below.refl _ _ | exact hb3.drew | exact hb2.drew | exact hb1.drew | exact (Below.refl _ _).drew)).mono ?_); rintro e v2 ⟨rfl, hb2⟩) | ((with_reducible refine (Kn.out _ (by first | exact hb3 | exact hb2 | exact hb1 | exact Below.refl _ _ | exact hb3.drew | exact hb2.drew | exact hb1.drew | exact (Below.refl _ _).drew)).mono ?_); rintro e v2 ⟨rfl, hb2⟩) | (fail "arm")))
  all_goals (
  go_wp2
  go_ret
  exact ⟨rfl, by first | exact HB0.out.trans (hb2.mono HB0.out.size) | exact HB0.out.trans (hb1.mono HB0.out.size)⟩)

set_option maxHeartbeats 4000000 in
theorem put_on (op : Int) (c : Int) (t : ByteArray) (_ht : t.size ≤ 2000000) (i : Nat) (zi : i ≤ 100000) (j : Nat) (zj : j ≤ 100000)  (w : World) : Calls Try.prog 150 #[.agg #[.int .i64 op, .int .i64 ((i : Int)), .int .i64 ((j : Int)), .int .i64 (c), .string t]] w fun e w' => e = .returned (.string (⟨#[49]⟩ ++ TS (.num i) ++ ⟨#[49, 48]⟩ ++ TS (.num j))) ∧ Below w.heap.size w w' := by
  obtain ⟨ri, hri⟩ : ∃ r, TS (.num i) = r := ⟨_, rfl⟩
  have si : ri.size ≤ 300000 := by rw [← hri, num_size]; omega
  obtain ⟨rj, hrj⟩ : ∃ r, TS (.num j) = r := ⟨_, rfl⟩
  have sj : rj.size ≤ 300000 := by rw [← hrj, num_size]; omega
  rw [hri, hrj]
  obtain ⟨q0, hq0⟩ : ∃ q, (⟨#[49]⟩ ++ ri : ByteArray) = q := ⟨_, rfl⟩
  have sq0 : q0.size ≤ 2000020 := by rw [← hq0, ByteArray.size_append]; have h1 : (⟨#[49]⟩ : ByteArray).size ≤ 10 := (by decide); have h2 : (ri : ByteArray).size ≤ 2000000 := (by omega); omega
  have A0 := fun w => run_string_add_sum (P := Try.prog) (w := w) (⟨#[49]⟩) (ri) (by have h1 : (⟨#[49]⟩ : ByteArray).size ≤ 10 := (by decide); have h2 : (ri : ByteArray).size ≤ 2000000 := (by omega); omega)
  rw [hq0] at A0
  obtain ⟨q1, hq1⟩ : ∃ q, (q0 ++ ⟨#[49, 48]⟩ : ByteArray) = q := ⟨_, rfl⟩
  have sq1 : q1.size ≤ 4000030 := by rw [← hq1, ByteArray.size_append]; have h1 : (q0 : ByteArray).size ≤ 2000020 := sq0; have h2 : (⟨#[49, 48]⟩ : ByteArray).size ≤ 2000000 := (by decide); omega
  have A1 := fun w => run_string_add_sum (P := Try.prog) (w := w) (q0) (⟨#[49, 48]⟩) (by have h1 : (q0 : ByteArray).size ≤ 2000020 := sq0; have h2 : (⟨#[49, 48]⟩ : ByteArray).size ≤ 2000000 := (by decide); omega)
  rw [hq1] at A1
  obtain ⟨q2, hq2⟩ : ∃ q, (q1 ++ rj : ByteArray) = q := ⟨_, rfl⟩
  have sq2 : q2.size ≤ 6000040 := by rw [← hq2, ByteArray.size_append]; have h1 : (q1 : ByteArray).size ≤ 4000030 := sq1; have h2 : (rj : ByteArray).size ≤ 2000000 := (by omega); omega
  have A2 := fun w => run_string_add_sum (P := Try.prog) (w := w) (q1) (rj) (by have h1 : (q1 : ByteArray).size ≤ 4000030 := sq1; have h2 : (rj : ByteArray).size ≤ 2000000 := (by omega); omega)
  rw [hq2] at A2
  rw [hq0, hq1, hq2]
  clear hq0 sq0 hq1 sq1 hq2 sq2
  have hb0 := (Below.refl w.heap.size w).alloc (Nat.le_refl _) (.cells #[.int .i64 op, .int .i64 ((i : Int)), .int .i64 ((j : Int)), .int .i64 (c), .string t] 52)
  have hblk := heap_alloc_new w (.cells #[.int .i64 op, .int .i64 ((i : Int)), .int .i64 ((j : Int)), .int .i64 (c), .string t] 52)
  obtain ⟨w1, hW⟩ : ∃ B, w.alloc (.cells #[.int .i64 op, .int .i64 ((i : Int)), .int .i64 ((j : Int)), .int .i64 (c), .string t] 52) = B := ⟨_, rfl⟩
  have hsz : w1.heap.size = w.heap.size + 1 := by rw [← hW]; simp
  rw [hW] at hb0 hblk
  have cc := (block_cells hblk).1
  have KK := Lib.hid (fun (w' : World) (hb : Below w1.heap.size w1 w') => (show w'.cell? ⟨w.heap.size, 1, none⟩ = some (.int .i64 ((i : Int))) ∧ w'.cell? ⟨w.heap.size, 2, none⟩ = some (.int .i64 ((j : Int))) ∧ w'.cell? ⟨w.heap.size, 3, none⟩ = some (.int .i64 (c)) ∧ w'.cell? ⟨w.heap.size, 4, none⟩ = some (.string t) from
    ⟨(hb.cell (p := ⟨w.heap.size, 1, none⟩) (by show w.heap.size < w1.heap.size; omega)).trans (cc 1), (hb.cell (p := ⟨w.heap.size, 2, none⟩) (by show w.heap.size < w1.heap.size; omega)).trans (cc 2), (hb.cell (p := ⟨w.heap.size, 3, none⟩) (by show w.heap.size < w1.heap.size; omega)).trans (cc 3), (hb.cell (p := ⟨w.heap.size, 4, none⟩) (by show w.heap.size < w1.heap.size; omega)).trans (cc 4)⟩))
  obtain ⟨c1, c2, c3, c4⟩ := KK.out w1 (Below.refl _ _)
  have Ki := Lib.hid (cnum_at ((i : Int)) i rfl zi ri hri w1)
  have Kj := Lib.hid (cnum_at ((j : Int)) j rfl zj rj hrj w1)
  have HB0 := Lib.hid hb0
  clear hblk cc hsz hb0 hri hrj
  have hnegI : ¬ (j : Int) < 0 := by omega
  go_enter Try.func150, Try.ntmps150
  go_wp2
  go_region_held3 (fun w' => w'.cell? ⟨w.heap.size, 1, none⟩ = some (.int .i64 ((i : Int))) ∧ w'.cell? ⟨w.heap.size, 2, none⟩ = some (.int .i64 ((j : Int))) ∧ w'.cell? ⟨w.heap.size, 3, none⟩ = some (.int .i64 (c)) ∧ w'.cell? ⟨w.heap.size, 4, none⟩ = some (.string t))
    (with_reducible (first | exact KK.out _ hb2 | exact KK.out _ hb1 | exact KK.out _ (Below.refl _ _) | exact KK.out _ (Below.refl _ _).drew | fail "keep"))
    ((first | ((with_reducible refine (Ki.out _ (by first | exact hb3 | exact hb2 | exact hb1 | exact Below.refl _ _ | exact hb3.drew | exact hb2.drew | exact hb1.drew | exact (Below.refl _ _).drew)).mono ?_); rintro e v1 ⟨rfl, hb1⟩) | ((with_reducible refine (Kj.out _ (by first | exact hb3 | exact hb2 | exact hb1 | exact Below.refl _ _ | exact hb3.drew | exact hb2.drew | exact hb1.drew | exact (Below.refl _ _).drew)).mono ?_); rintro e v2 ⟨rfl, hb2⟩) | (fail "arm")))
  all_goals (
  go_wp2
  go_ret
  exact ⟨rfl, by first | exact HB0.out.trans (hb2.mono HB0.out.size) | exact HB0.out.trans (hb1.mono HB0.out.size)⟩)

end Go.Proofs.Ytaiomcjopgnfpaa


/- ref02.CodeOf: an instruction as a tree. -/
import Derived.Test.YtdjbcmfjlfkcjaaKnow3
import Derived.Test.YtdjbcmfjlfkcjaaMB0
namespace Go.Proofs.Ytdjbcmfjlfkcjaa
open Go.RowKit

theorem rnum_at (i : Int) (n : Nat) (hi : i = n) (h : n ≤ 100000) (w0 w : World) (hb : Below w0.heap.size w0 w) : Calls Try.prog 54 #[.int .i64 i] w fun e w' => e = .returned (.string (TS (.num n))) ∧ Below w0.heap.size w0 w' := by
  subst hi
  exact (refNumber_ok n (by omega) w).mono fun e w' h => ⟨h.1, hb.trans (h.2.mono hb.size)⟩
theorem rpair_any (t u : Tr) (hs : t.size + u.size ≤ 100000000) (a b : ByteArray) (ha : TS t = a) (hb : TS u = b) (w : World) : Calls Try.prog 153 #[.string a, .string b] w fun e w' => e = .returned (.string (TS (.pair t u))) ∧ w = w' := by
  have hp : TS (.pair t u) = ⟨#[49]⟩ ++ a ++ b := by rw [← ha, ← hb]; apply ByteArray.ext; simp [TS, Tr.enc]
  have h1 : a.size = t.size := by rw [← ha, TS_size]
  have h2 : b.size = u.size := by rw [← hb, TS_size]
  have h3 : a.size + b.size ≤ 100000000 := by omega
  rw [hp]
  clear hp ha hb h1 h2 hs
  have A0 := fun w => run_string_add_sum (P := Try.prog) (w := w) (⟨#[49]⟩) a (by have : (⟨#[49]⟩ : ByteArray).size = 1 := rfl; omega)
  have A1 := fun w => run_string_add_sum (P := Try.prog) (w := w) (⟨#[49]⟩ ++ a) b (by rw [ByteArray.size_append]; have : (⟨#[49]⟩ : ByteArray).size = 1 := rfl; omega)
  go_enter Try.func153, Try.ntmps153
  go_wp2
  go_ret
  exact ⟨rfl, rfl⟩
theorem rpair_at (t u : Tr) (hs : t.size + u.size ≤ 100000000) (a b : ByteArray) (ha : TS t = a) (hb : TS u = b) (w0 w : World) (hw : Below w0.heap.size w0 w) : Calls Try.prog 153 #[.string a, .string b] w fun e w' => e = .returned (.string (TS (.pair t u))) ∧ Below w0.heap.size w0 w' :=
  (rpair_any t u hs a b ha hb w).mono fun e w' h => ⟨h.1, by rw [← h.2]; exact hw⟩
theorem nsz (n : Nat) : (Tr.num n).size = 2 * n + 1 := size_num n

set_option maxRecDepth 20000 in
set_option maxHeartbeats 4000000 in
theorem cof_set (b : Int) (c : Int) (t : ByteArray) (i : Nat) (zi : i ≤ 50000) (u : Tr) (hu : TS u = t) (hus : u.size ≤ 2000000) (w : World) : Calls Try.prog 124 #[.agg #[.int .i64 0, .int .i64 ((i : Int)), .int .i64 (b), .int .i64 (c), .string t]] w fun e w' => e = .returned (.string (TS (.pair (.num 0) (.pair (.num i) u)))) ∧ Below w.heap.size w w' := by
  have hb0 := Lib.hid ((Below.refl w.heap.size w).alloc (Nat.le_refl _) (.cells #[.int .i64 0, .int .i64 ((i : Int)), .int .i64 (b), .int .i64 (c), .string t] 75))
  have hblk := heap_alloc_new w (.cells #[.int .i64 0, .int .i64 ((i : Int)), .int .i64 (b), .int .i64 (c), .string t] 75)
  obtain ⟨w1, hW⟩ : ∃ B, w.alloc (.cells #[.int .i64 0, .int .i64 ((i : Int)), .int .i64 (b), .int .i64 (c), .string t] 75) = B := ⟨_, rfl⟩
  have hsz : w1.heap.size = w.heap.size + 1 := by rw [← hW]; simp
  rw [hW] at hb0 hblk
  have cc := (block_cells hblk).1
  have KK := Lib.hid (fun (w' : World) (hb : Below w1.heap.size w1 w') => (show w'.cell? ⟨w.heap.size, 0, none⟩ = some (.int .i64 0) ∧ w'.cell? ⟨w.heap.size, 1, none⟩ = some (.int .i64 ((i : Int))) ∧ w'.cell? ⟨w.heap.size, 2, none⟩ = some (.int .i64 (b)) ∧ w'.cell? ⟨w.heap.size, 3, none⟩ = some (.int .i64 (c)) ∧ w'.cell? ⟨w.heap.size, 4, none⟩ = some (.string t) from
    have hl : w.heap.size < w1.heap.size := by omega
    ⟨(hb.cell (p := ⟨w.heap.size, 0, none⟩) hl).trans (cc 0), (hb.cell (p := ⟨w.heap.size, 1, none⟩) hl).trans (cc 1), (hb.cell (p := ⟨w.heap.size, 2, none⟩) hl).trans (cc 2), (hb.cell (p := ⟨w.heap.size, 3, none⟩) hl).trans (cc 3), (hb.cell (p := ⟨w.heap.size, 4, none⟩) hl).trans (cc 4)⟩))
  have hq := Lib.hid (Below.refl w1.heap.size w1)
  obtain ⟨c0, c1, c2, c3, c4⟩ := KK.out w1 (Below.refl _ _)
  clear hblk cc hsz
  go_enter Try.func124, Try.ntmps124
  go_wp2_with fail
  refine (rnum_at ((i : Int)) i (by first | rfl | omega | exact IntWalk.i64_in _ (by omega)) (by omega) w1 _ hq.out).mono ?_
  rintro e w2 ⟨rfl, hb2⟩
  have hq := Lib.hid hb2
  obtain ⟨c0, c1, c2, c3, c4⟩ := KK.out w2 hb2
  clear hb2
  go_wp2_with fail
  refine (rpair_at (.num i) (u) (by simp [nsz]; omega) _ _ (rfl) (hu) w1 _ hq.out).mono ?_
  rintro e w3 ⟨rfl, hb3⟩
  have hq := Lib.hid hb3
  obtain ⟨c0, c1, c2, c3, c4⟩ := KK.out w3 hb3
  clear hb3
  go_wp2_with fail
  refine (rnum_at (0) 0 (by first | rfl | omega | exact IntWalk.i64_in _ (by omega)) (by omega) w1 _ hq.out).mono ?_
  rintro e w4 ⟨rfl, hb4⟩
  have hq := Lib.hid hb4
  obtain ⟨c0, c1, c2, c3, c4⟩ := KK.out w4 hb4
  clear hb4
  go_wp2_with fail
  refine (rpair_at (.num 0) (.pair (.num i) u) (by simp [nsz, Tr.size]; omega) _ _ (rfl) (rfl) w1 _ hq.out).mono ?_
  rintro e w5 ⟨rfl, hb5⟩
  have hq := Lib.hid hb5
  obtain ⟨c0, c1, c2, c3, c4⟩ := KK.out w5 hb5
  clear hb5
  go_wp2
  go_ret
  exact ⟨rfl, hb0.out.trans (hq.out.mono hb0.out.size)⟩

set_option maxRecDepth 20000 in
set_option maxHeartbeats 4000000 in
theorem cof_r1 (c : Int) (t : ByteArray) (i : Nat) (zi : i ≤ 50000) (j : Nat) (zj : j ≤ 50000)  (w : World) : Calls Try.prog 124 #[.agg #[.int .i64 1, .int .i64 ((i : Int)), .int .i64 ((j : Int)), .int .i64 (c), .string t]] w fun e w' => e = .returned (.string (TS (.pair (.num 1) (.pair (.num i) (.num j))))) ∧ Below w.heap.size w w' := by
  have hb0 := Lib.hid ((Below.refl w.heap.size w).alloc (Nat.le_refl _) (.cells #[.int .i64 1, .int .i64 ((i : Int)), .int .i64 ((j : Int)), .int .i64 (c), .string t] 75))
  have hblk := heap_alloc_new w (.cells #[.int .i64 1, .int .i64 ((i : Int)), .int .i64 ((j : Int)), .int .i64 (c), .string t] 75)
  obtain ⟨w1, hW⟩ : ∃ B, w.alloc (.cells #[.int .i64 1, .int .i64 ((i : Int)), .int .i64 ((j : Int)), .int .i64 (c), .string t] 75) = B := ⟨_, rfl⟩
  have hsz : w1.heap.size = w.heap.size + 1 := by rw [← hW]; simp
  rw [hW] at hb0 hblk
  have cc := (block_cells hblk).1
  have KK := Lib.hid (fun (w' : World) (hb : Below w1.heap.size w1 w') => (show w'.cell? ⟨w.heap.size, 0, none⟩ = some (.int .i64 1) ∧ w'.cell? ⟨w.heap.size, 1, none⟩ = some (.int .i64 ((i : Int))) ∧ w'.cell? ⟨w.heap.size, 2, none⟩ = some (.int .i64 ((j : Int))) ∧ w'.cell? ⟨w.heap.size, 3, none⟩ = some (.int .i64 (c)) ∧ w'.cell? ⟨w.heap.size, 4, none⟩ = some (.string t) from
    have hl : w.heap.size < w1.heap.size := by omega
    ⟨(hb.cell (p := ⟨w.heap.size, 0, none⟩) hl).trans (cc 0), (hb.cell (p := ⟨w.heap.size, 1, none⟩) hl).trans (cc 1), (hb.cell (p := ⟨w.heap.size, 2, none⟩) hl).trans (cc 2), (hb.cell (p := ⟨w.heap.size, 3, none⟩) hl).trans (cc 3), (hb.cell (p := ⟨w.heap.size, 4, none⟩) hl).trans (cc 4)⟩))
  have hq := Lib.hid (Below.refl w1.heap.size w1)
  obtain ⟨c0, c1, c2, c3, c4⟩ := KK.out w1 (Below.refl _ _)
  clear hblk cc hsz
  go_enter Try.func124, Try.ntmps124
  go_wp2_with fail
  refine (rnum_at ((i : Int)) i (by first | rfl | omega | exact IntWalk.i64_in _ (by omega)) (by omega) w1 _ hq.out).mono ?_
  rintro e w2 ⟨rfl, hb2⟩
  have hq := Lib.hid hb2
  obtain ⟨c0, c1, c2, c3, c4⟩ := KK.out w2 hb2
  clear hb2
  go_wp2_with fail
  refine (rnum_at ((j : Int)) j (by first | rfl | omega | exact IntWalk.i64_in _ (by omega)) (by omega) w1 _ hq.out).mono ?_
  rintro e w3 ⟨rfl, hb3⟩
  have hq := Lib.hid hb3
  obtain ⟨c0, c1, c2, c3, c4⟩ := KK.out w3 hb3
  clear hb3
  go_wp2_with fail
  refine (rpair_at (.num i) (.num j) (by simp [nsz]; omega) _ _ (rfl) (rfl) w1 _ hq.out).mono ?_
  rintro e w4 ⟨rfl, hb4⟩
  have hq := Lib.hid hb4
  obtain ⟨c0, c1, c2, c3, c4⟩ := KK.out w4 hb4
  clear hb4
  go_wp2_with fail
  refine (rnum_at (1) 1 (by first | rfl | omega | exact IntWalk.i64_in _ (by omega)) (by omega) w1 _ hq.out).mono ?_
  rintro e w5 ⟨rfl, hb5⟩
  have hq := Lib.hid hb5
  obtain ⟨c0, c1, c2, c3, c4⟩ := KK.out w5 hb5
  clear hb5
  go_wp2_with fail
  refine (rpair_at (.num 1) (.pair (.num i) (.num j)) (by simp [nsz, Tr.size]; omega) _ _ (rfl) (rfl) w1 _ hq.out).mono ?_
  rintro e w6 ⟨rfl, hb6⟩
  have hq := Lib.hid hb6
  obtain ⟨c0, c1, c2, c3, c4⟩ := KK.out w6 hb6
  clear hb6
  go_wp2
  go_ret
  exact ⟨rfl, hb0.out.trans (hq.out.mono hb0.out.size)⟩

set_option maxRecDepth 20000 in
set_option maxHeartbeats 4000000 in
theorem cof_r3 (c : Int) (t : ByteArray) (i : Nat) (zi : i ≤ 50000) (j : Nat) (zj : j ≤ 50000)  (w : World) : Calls Try.prog 124 #[.agg #[.int .i64 3, .int .i64 ((i : Int)), .int .i64 ((j : Int)), .int .i64 (c), .string t]] w fun e w' => e = .returned (.string (TS (.pair (.num 3) (.pair (.num i) (.num j))))) ∧ Below w.heap.size w w' := by
  have hb0 := Lib.hid ((Below.refl w.heap.size w).alloc (Nat.le_refl _) (.cells #[.int .i64 3, .int .i64 ((i : Int)), .int .i64 ((j : Int)), .int .i64 (c), .string t] 75))
  have hblk := heap_alloc_new w (.cells #[.int .i64 3, .int .i64 ((i : Int)), .int .i64 ((j : Int)), .int .i64 (c), .string t] 75)
  obtain ⟨w1, hW⟩ : ∃ B, w.alloc (.cells #[.int .i64 3, .int .i64 ((i : Int)), .int .i64 ((j : Int)), .int .i64 (c), .string t] 75) = B := ⟨_, rfl⟩
  have hsz : w1.heap.size = w.heap.size + 1 := by rw [← hW]; simp
  rw [hW] at hb0 hblk
  have cc := (block_cells hblk).1
  have KK := Lib.hid (fun (w' : World) (hb : Below w1.heap.size w1 w') => (show w'.cell? ⟨w.heap.size, 0, none⟩ = some (.int .i64 3) ∧ w'.cell? ⟨w.heap.size, 1, none⟩ = some (.int .i64 ((i : Int))) ∧ w'.cell? ⟨w.heap.size, 2, none⟩ = some (.int .i64 ((j : Int))) ∧ w'.cell? ⟨w.heap.size, 3, none⟩ = some (.int .i64 (c)) ∧ w'.cell? ⟨w.heap.size, 4, none⟩ = some (.string t) from
    have hl : w.heap.size < w1.heap.size := by omega
    ⟨(hb.cell (p := ⟨w.heap.size, 0, none⟩) hl).trans (cc 0), (hb.cell (p := ⟨w.heap.size, 1, none⟩) hl).trans (cc 1), (hb.cell (p := ⟨w.heap.size, 2, none⟩) hl).trans (cc 2), (hb.cell (p := ⟨w.heap.size, 3, none⟩) hl).trans (cc 3), (hb.cell (p := ⟨w.heap.size, 4, none⟩) hl).trans (cc 4)⟩))
  have hq := Lib.hid (Below.refl w1.heap.size w1)
  obtain ⟨c0, c1, c2, c3, c4⟩ := KK.out w1 (Below.refl _ _)
  clear hblk cc hsz
  go_enter Try.func124, Try.ntmps124
  go_wp2_with fail
  refine (rnum_at ((i : Int)) i (by first | rfl | omega | exact IntWalk.i64_in _ (by omega)) (by omega) w1 _ hq.out).mono ?_
  rintro e w2 ⟨rfl, hb2⟩
  have hq := Lib.hid hb2
  obtain ⟨c0, c1, c2, c3, c4⟩ := KK.out w2 hb2
  clear hb2
  go_wp2_with fail
  refine (rnum_at ((j : Int)) j (by first | rfl | omega | exact IntWalk.i64_in _ (by omega)) (by omega) w1 _ hq.out).mono ?_
  rintro e w3 ⟨rfl, hb3⟩
  have hq := Lib.hid hb3
  obtain ⟨c0, c1, c2, c3, c4⟩ := KK.out w3 hb3
  clear hb3
  go_wp2_with fail
  refine (rpair_at (.num i) (.num j) (by simp [nsz]; omega) _ _ (rfl) (rfl) w1 _ hq.out).mono ?_
  rintro e w4 ⟨rfl, hb4⟩
  have hq := Lib.hid hb4
  obtain ⟨c0, c1, c2, c3, c4⟩ := KK.out w4 hb4
  clear hb4
  go_wp2_with fail
  refine (rnum_at (3) 3 (by first | rfl | omega | exact IntWalk.i64_in _ (by omega)) (by omega) w1 _ hq.out).mono ?_
  rintro e w5 ⟨rfl, hb5⟩
  have hq := Lib.hid hb5
  obtain ⟨c0, c1, c2, c3, c4⟩ := KK.out w5 hb5
  clear hb5
  go_wp2_with fail
  refine (rpair_at (.num 3) (.pair (.num i) (.num j)) (by simp [nsz, Tr.size]; omega) _ _ (rfl) (rfl) w1 _ hq.out).mono ?_
  rintro e w6 ⟨rfl, hb6⟩
  have hq := Lib.hid hb6
  obtain ⟨c0, c1, c2, c3, c4⟩ := KK.out w6 hb6
  clear hb6
  go_wp2
  go_ret
  exact ⟨rfl, hb0.out.trans (hq.out.mono hb0.out.size)⟩

set_option maxRecDepth 20000 in
set_option maxHeartbeats 4000000 in
theorem cof_r4 (c : Int) (t : ByteArray) (i : Nat) (zi : i ≤ 50000) (j : Nat) (zj : j ≤ 50000)  (w : World) : Calls Try.prog 124 #[.agg #[.int .i64 4, .int .i64 ((i : Int)), .int .i64 ((j : Int)), .int .i64 (c), .string t]] w fun e w' => e = .returned (.string (TS (.pair (.num 4) (.pair (.num i) (.num j))))) ∧ Below w.heap.size w w' := by
  have hb0 := Lib.hid ((Below.refl w.heap.size w).alloc (Nat.le_refl _) (.cells #[.int .i64 4, .int .i64 ((i : Int)), .int .i64 ((j : Int)), .int .i64 (c), .string t] 75))
  have hblk := heap_alloc_new w (.cells #[.int .i64 4, .int .i64 ((i : Int)), .int .i64 ((j : Int)), .int .i64 (c), .string t] 75)
  obtain ⟨w1, hW⟩ : ∃ B, w.alloc (.cells #[.int .i64 4, .int .i64 ((i : Int)), .int .i64 ((j : Int)), .int .i64 (c), .string t] 75) = B := ⟨_, rfl⟩
  have hsz : w1.heap.size = w.heap.size + 1 := by rw [← hW]; simp
  rw [hW] at hb0 hblk
  have cc := (block_cells hblk).1
  have KK := Lib.hid (fun (w' : World) (hb : Below w1.heap.size w1 w') => (show w'.cell? ⟨w.heap.size, 0, none⟩ = some (.int .i64 4) ∧ w'.cell? ⟨w.heap.size, 1, none⟩ = some (.int .i64 ((i : Int))) ∧ w'.cell? ⟨w.heap.size, 2, none⟩ = some (.int .i64 ((j : Int))) ∧ w'.cell? ⟨w.heap.size, 3, none⟩ = some (.int .i64 (c)) ∧ w'.cell? ⟨w.heap.size, 4, none⟩ = some (.string t) from
    have hl : w.heap.size < w1.heap.size := by omega
    ⟨(hb.cell (p := ⟨w.heap.size, 0, none⟩) hl).trans (cc 0), (hb.cell (p := ⟨w.heap.size, 1, none⟩) hl).trans (cc 1), (hb.cell (p := ⟨w.heap.size, 2, none⟩) hl).trans (cc 2), (hb.cell (p := ⟨w.heap.size, 3, none⟩) hl).trans (cc 3), (hb.cell (p := ⟨w.heap.size, 4, none⟩) hl).trans (cc 4)⟩))
  have hq := Lib.hid (Below.refl w1.heap.size w1)
  obtain ⟨c0, c1, c2, c3, c4⟩ := KK.out w1 (Below.refl _ _)
  clear hblk cc hsz
  go_enter Try.func124, Try.ntmps124
  go_wp2_with fail
  refine (rnum_at ((i : Int)) i (by first | rfl | omega | exact IntWalk.i64_in _ (by omega)) (by omega) w1 _ hq.out).mono ?_
  rintro e w2 ⟨rfl, hb2⟩
  have hq := Lib.hid hb2
  obtain ⟨c0, c1, c2, c3, c4⟩ := KK.out w2 hb2
  clear hb2
  go_wp2_with fail
  refine (rnum_at ((j : Int)) j (by first | rfl | omega | exact IntWalk.i64_in _ (by omega)) (by omega) w1 _ hq.out).mono ?_
  rintro e w3 ⟨rfl, hb3⟩
  have hq := Lib.hid hb3
  obtain ⟨c0, c1, c2, c3, c4⟩ := KK.out w3 hb3
  clear hb3
  go_wp2_with fail
  refine (rpair_at (.num i) (.num j) (by simp [nsz]; omega) _ _ (rfl) (rfl) w1 _ hq.out).mono ?_
  rintro e w4 ⟨rfl, hb4⟩
  have hq := Lib.hid hb4
  obtain ⟨c0, c1, c2, c3, c4⟩ := KK.out w4 hb4
  clear hb4
  go_wp2_with fail
  refine (rnum_at (4) 4 (by first | rfl | omega | exact IntWalk.i64_in _ (by omega)) (by omega) w1 _ hq.out).mono ?_
  rintro e w5 ⟨rfl, hb5⟩
  have hq := Lib.hid hb5
  obtain ⟨c0, c1, c2, c3, c4⟩ := KK.out w5 hb5
  clear hb5
  go_wp2_with fail
  refine (rpair_at (.num 4) (.pair (.num i) (.num j)) (by simp [nsz, Tr.size]; omega) _ _ (rfl) (rfl) w1 _ hq.out).mono ?_
  rintro e w6 ⟨rfl, hb6⟩
  have hq := Lib.hid hb6
  obtain ⟨c0, c1, c2, c3, c4⟩ := KK.out w6 hb6
  clear hb6
  go_wp2
  go_ret
  exact ⟨rfl, hb0.out.trans (hq.out.mono hb0.out.size)⟩

set_option maxRecDepth 20000 in
set_option maxHeartbeats 4000000 in
theorem cof_cons (t : ByteArray) (i : Nat) (zi : i ≤ 50000) (j : Nat) (zj : j ≤ 50000) (k : Nat) (zk : k ≤ 50000)  (w : World) : Calls Try.prog 124 #[.agg #[.int .i64 2, .int .i64 ((i : Int)), .int .i64 ((j : Int)), .int .i64 ((k : Int)), .string t]] w fun e w' => e = .returned (.string (TS (.pair (.num 2) (.pair (.num i) (.pair (.num j) (.num k)))))) ∧ Below w.heap.size w w' := by
  have hb0 := Lib.hid ((Below.refl w.heap.size w).alloc (Nat.le_refl _) (.cells #[.int .i64 2, .int .i64 ((i : Int)), .int .i64 ((j : Int)), .int .i64 ((k : Int)), .string t] 75))
  have hblk := heap_alloc_new w (.cells #[.int .i64 2, .int .i64 ((i : Int)), .int .i64 ((j : Int)), .int .i64 ((k : Int)), .string t] 75)
  obtain ⟨w1, hW⟩ : ∃ B, w.alloc (.cells #[.int .i64 2, .int .i64 ((i : Int)), .int .i64 ((j : Int)), .int .i64 ((k : Int)), .string t] 75) = B := ⟨_, rfl⟩
  have hsz : w1.heap.size = w.heap.size + 1 := by rw [← hW]; simp
  rw [hW] at hb0 hblk
  have cc := (block_cells hblk).1
  have KK := Lib.hid (fun (w' : World) (hb : Below w1.heap.size w1 w') => (show w'.cell? ⟨w.heap.size, 0, none⟩ = some (.int .i64 2) ∧ w'.cell? ⟨w.heap.size, 1, none⟩ = some (.int .i64 ((i : Int))) ∧ w'.cell? ⟨w.heap.size, 2, none⟩ = some (.int .i64 ((j : Int))) ∧ w'.cell? ⟨w.heap.size, 3, none⟩ = some (.int .i64 ((k : Int))) ∧ w'.cell? ⟨w.heap.size, 4, none⟩ = some (.string t) from
    have hl : w.heap.size < w1.heap.size := by omega
    ⟨(hb.cell (p := ⟨w.heap.size, 0, none⟩) hl).trans (cc 0), (hb.cell (p := ⟨w.heap.size, 1, none⟩) hl).trans (cc 1), (hb.cell (p := ⟨w.heap.size, 2, none⟩) hl).trans (cc 2), (hb.cell (p := ⟨w.heap.size, 3, none⟩) hl).trans (cc 3), (hb.cell (p := ⟨w.heap.size, 4, none⟩) hl).trans (cc 4)⟩))
  have hq := Lib.hid (Below.refl w1.heap.size w1)
  obtain ⟨c0, c1, c2, c3, c4⟩ := KK.out w1 (Below.refl _ _)
  clear hblk cc hsz
  go_enter Try.func124, Try.ntmps124
  go_wp2_with fail
  refine (rnum_at ((i : Int)) i (by first | rfl | omega | exact IntWalk.i64_in _ (by omega)) (by omega) w1 _ hq.out).mono ?_
  rintro e w2 ⟨rfl, hb2⟩
  have hq := Lib.hid hb2
  obtain ⟨c0, c1, c2, c3, c4⟩ := KK.out w2 hb2
  clear hb2
  have hq0 := hq
  have Kj := Lib.hid (fun (w' : World) (hb : Below w2.heap.size w2 w') => rnum_at (j : Int) j rfl (by omega) w2 w' hb)
  have Kk := Lib.hid (fun (w' : World) (hb : Below w2.heap.size w2 w') => rnum_at (k : Int) k rfl (by omega) w2 w' hb)
  have Kp := Lib.hid (fun (w' : World) (hb : Below w2.heap.size w2 w') => rpair_at (.num j) (.num k) (by simp [nsz]; omega) _ _ rfl rfl w2 w' hb)
  have Kq := Lib.hid (fun (w' : World) (hb : Below w2.heap.size w2 w') => rpair_at (.num i) (.pair (.num j) (.num k)) (by simp [nsz, Tr.size]; omega) _ _ rfl rfl w2 w' hb)
  have KZ := Lib.hid (fun (w' : World) (hb : Below w2.heap.size w2 w') => KK.out w' (hq0.out.trans (hb.mono hq0.out.size)))
  go_wp2
  go_region_held3 (fun w' => w'.cell? ⟨w.heap.size, 0, none⟩ = some (.int .i64 2) ∧ w'.cell? ⟨w.heap.size, 1, none⟩ = some (.int .i64 (i : Int)) ∧ w'.cell? ⟨w.heap.size, 2, none⟩ = some (.int .i64 (j : Int)) ∧ w'.cell? ⟨w.heap.size, 3, none⟩ = some (.int .i64 (k : Int)) ∧ w'.cell? ⟨w.heap.size, 4, none⟩ = some (.string t))
    (with_reducible (first | exact KZ.out _ hb5 | exact KZ.out _ hb4 | exact KZ.out _ hb3 | exact KZ.out _ hb2 | exact KZ.out _ (Below.refl _ _) | exact KZ.out _ (Below.refl _ _).drew | fail "keep"))
    ((first | ((with_reducible refine (Kj.out _ (by first | exact Below.refl _ _ | exact hb5 | exact hb4 | exact hb3 | exact hb2 | exact (Below.refl _ _).drew | exact hb5.drew | exact hb4.drew | exact hb3.drew | exact hb2.drew)).mono ?_); rintro e v2 ⟨rfl, hb2⟩) | ((with_reducible refine (Kk.out _ (by first | exact Below.refl _ _ | exact hb5 | exact hb4 | exact hb3 | exact hb2 | exact (Below.refl _ _).drew | exact hb5.drew | exact hb4.drew | exact hb3.drew | exact hb2.drew)).mono ?_); rintro e v3 ⟨rfl, hb3⟩) | ((with_reducible refine (Kp.out _ (by first | exact Below.refl _ _ | exact hb5 | exact hb4 | exact hb3 | exact hb2 | exact (Below.refl _ _).drew | exact hb5.drew | exact hb4.drew | exact hb3.drew | exact hb2.drew)).mono ?_); rintro e v4 ⟨rfl, hb4⟩) | ((with_reducible refine (Kq.out _ (by first | exact Below.refl _ _ | exact hb5 | exact hb4 | exact hb3 | exact hb2 | exact (Below.refl _ _).drew | exact hb5.drew | exact hb4.drew | exact hb3.drew | exact hb2.drew)).mono ?_); rintro e v5 ⟨rfl, hb5⟩) | (fail "arm")))
  all_goals (
  have hq := Lib.hid (hq0.out.trans (hb5.mono hq0.out.size))
  obtain ⟨c0, c1, c2, c3, c4⟩ := KK.out _ hq.out
  go_wp2_with fail
  refine (rnum_at (2) 2 (by first | rfl | omega | exact IntWalk.i64_in _ (by omega)) (by omega) w1 _ hq.out).mono ?_
  rintro e w3 ⟨rfl, hb3⟩
  have hq := Lib.hid hb3
  obtain ⟨c0, c1, c2, c3, c4⟩ := KK.out w3 hb3
  clear hb3
  go_wp2_with fail
  refine (rpair_at (.num 2) (.pair (.num i) (.pair (.num j) (.num k))) (by simp [nsz, Tr.size]; omega) _ _ (rfl) (rfl) w1 _ hq.out).mono ?_
  rintro e w4 ⟨rfl, hb4⟩
  have hq := Lib.hid hb4
  obtain ⟨c0, c1, c2, c3, c4⟩ := KK.out w4 hb4
  clear hb4
  go_wp2
  go_ret
  exact ⟨rfl, hb0.out.trans (hq.out.mono hb0.out.size)⟩)

set_option maxRecDepth 20000 in
set_option maxHeartbeats 4000000 in
theorem cof_on (c : Int) (t : ByteArray) (i : Nat) (zi : i ≤ 50000) (j : Nat) (zj : j ≤ 50000)  (w : World) : Calls Try.prog 124 #[.agg #[.int .i64 5, .int .i64 ((i : Int)), .int .i64 ((j : Int)), .int .i64 (c), .string t]] w fun e w' => e = .returned (.string (TS (.pair (.num 5) (.pair (.num i) (.pair .nil (.num j)))))) ∧ Below w.heap.size w w' := by
  have hb0 := Lib.hid ((Below.refl w.heap.size w).alloc (Nat.le_refl _) (.cells #[.int .i64 5, .int .i64 ((i : Int)), .int .i64 ((j : Int)), .int .i64 (c), .string t] 75))
  have hblk := heap_alloc_new w (.cells #[.int .i64 5, .int .i64 ((i : Int)), .int .i64 ((j : Int)), .int .i64 (c), .string t] 75)
  obtain ⟨w1, hW⟩ : ∃ B, w.alloc (.cells #[.int .i64 5, .int .i64 ((i : Int)), .int .i64 ((j : Int)), .int .i64 (c), .string t] 75) = B := ⟨_, rfl⟩
  have hsz : w1.heap.size = w.heap.size + 1 := by rw [← hW]; simp
  rw [hW] at hb0 hblk
  have cc := (block_cells hblk).1
  have KK := Lib.hid (fun (w' : World) (hb : Below w1.heap.size w1 w') => (show w'.cell? ⟨w.heap.size, 0, none⟩ = some (.int .i64 5) ∧ w'.cell? ⟨w.heap.size, 1, none⟩ = some (.int .i64 ((i : Int))) ∧ w'.cell? ⟨w.heap.size, 2, none⟩ = some (.int .i64 ((j : Int))) ∧ w'.cell? ⟨w.heap.size, 3, none⟩ = some (.int .i64 (c)) ∧ w'.cell? ⟨w.heap.size, 4, none⟩ = some (.string t) from
    have hl : w.heap.size < w1.heap.size := by omega
    ⟨(hb.cell (p := ⟨w.heap.size, 0, none⟩) hl).trans (cc 0), (hb.cell (p := ⟨w.heap.size, 1, none⟩) hl).trans (cc 1), (hb.cell (p := ⟨w.heap.size, 2, none⟩) hl).trans (cc 2), (hb.cell (p := ⟨w.heap.size, 3, none⟩) hl).trans (cc 3), (hb.cell (p := ⟨w.heap.size, 4, none⟩) hl).trans (cc 4)⟩))
  have hq := Lib.hid (Below.refl w1.heap.size w1)
  obtain ⟨c0, c1, c2, c3, c4⟩ := KK.out w1 (Below.refl _ _)
  clear hblk cc hsz
  have hmx : max (j : Int) 0 = (j : Int) := by omega
  have hnn : ¬ (j : Int) < 0 := by omega
  go_enter Try.func124, Try.ntmps124
  go_wp2_with fail
  refine (rnum_at ((i : Int)) i (by first | rfl | omega | exact IntWalk.i64_in _ (by omega)) (by omega) w1 _ hq.out).mono ?_
  rintro e w2 ⟨rfl, hb2⟩
  have hq := Lib.hid hb2
  obtain ⟨c0, c1, c2, c3, c4⟩ := KK.out w2 hb2
  clear hb2
  go_wp2_with fail
  refine (rnum_at ((j : Int)) j (by first | rfl | omega | exact IntWalk.i64_in _ (by omega)) (by omega) w1 _ hq.out).mono ?_
  rintro e w3 ⟨rfl, hb3⟩
  have hq := Lib.hid hb3
  obtain ⟨c0, c1, c2, c3, c4⟩ := KK.out w3 hb3
  clear hb3
  go_wp2_with fail
  refine (rpair_at (.nil) (.num j) (by simp [nsz, Tr.size]; omega) _ _ (rfl) (rfl) w1 _ hq.out).mono ?_
  rintro e w4 ⟨rfl, hb4⟩
  have hq := Lib.hid hb4
  obtain ⟨c0, c1, c2, c3, c4⟩ := KK.out w4 hb4
  clear hb4
  go_wp2_with fail
  refine (rpair_at (.num i) (.pair .nil (.num j)) (by simp [nsz, Tr.size]; omega) _ _ (rfl) (rfl) w1 _ hq.out).mono ?_
  rintro e w5 ⟨rfl, hb5⟩
  have hq := Lib.hid hb5
  obtain ⟨c0, c1, c2, c3, c4⟩ := KK.out w5 hb5
  clear hb5
  go_wp2_with fail
  refine (rnum_at (5) 5 (by first | rfl | omega | exact IntWalk.i64_in _ (by omega)) (by omega) w1 _ hq.out).mono ?_
  rintro e w6 ⟨rfl, hb6⟩
  have hq := Lib.hid hb6
  obtain ⟨c0, c1, c2, c3, c4⟩ := KK.out w6 hb6
  clear hb6
  go_wp2_with fail
  refine (rpair_at (.num 5) (.pair (.num i) (.pair .nil (.num j))) (by simp [nsz, Tr.size]; omega) _ _ (rfl) (rfl) w1 _ hq.out).mono ?_
  rintro e w7 ⟨rfl, hb7⟩
  have hq := Lib.hid hb7
  obtain ⟨c0, c1, c2, c3, c4⟩ := KK.out w7 hb7
  clear hb7
  go_wp2
  go_ret
  exact ⟨rfl, hb0.out.trans (hq.out.mono hb0.out.size)⟩

set_option maxRecDepth 20000 in
set_option maxHeartbeats 4000000 in
theorem cof_back (c : Int) (t : ByteArray) (i : Nat) (zi : i ≤ 50000) (j : Nat) (zj : j ≤ 50000) (hj : 0 < j) (w : World) : Calls Try.prog 124 #[.agg #[.int .i64 5, .int .i64 ((i : Int)), .int .i64 (-(j : Int)), .int .i64 (c), .string t]] w fun e w' => e = .returned (.string (TS (.pair (.num 5) (.pair (.num i) (.pair (.pair .nil .nil) (.num j)))))) ∧ Below w.heap.size w w' := by
  have hb0 := Lib.hid ((Below.refl w.heap.size w).alloc (Nat.le_refl _) (.cells #[.int .i64 5, .int .i64 ((i : Int)), .int .i64 (-(j : Int)), .int .i64 (c), .string t] 75))
  have hblk := heap_alloc_new w (.cells #[.int .i64 5, .int .i64 ((i : Int)), .int .i64 (-(j : Int)), .int .i64 (c), .string t] 75)
  obtain ⟨w1, hW⟩ : ∃ B, w.alloc (.cells #[.int .i64 5, .int .i64 ((i : Int)), .int .i64 (-(j : Int)), .int .i64 (c), .string t] 75) = B := ⟨_, rfl⟩
  have hsz : w1.heap.size = w.heap.size + 1 := by rw [← hW]; simp
  rw [hW] at hb0 hblk
  have cc := (block_cells hblk).1
  have KK := Lib.hid (fun (w' : World) (hb : Below w1.heap.size w1 w') => (show w'.cell? ⟨w.heap.size, 0, none⟩ = some (.int .i64 5) ∧ w'.cell? ⟨w.heap.size, 1, none⟩ = some (.int .i64 ((i : Int))) ∧ w'.cell? ⟨w.heap.size, 2, none⟩ = some (.int .i64 (-(j : Int))) ∧ w'.cell? ⟨w.heap.size, 3, none⟩ = some (.int .i64 (c)) ∧ w'.cell? ⟨w.heap.size, 4, none⟩ = some (.string t) from
    have hl : w.heap.size < w1.heap.size := by omega
    ⟨(hb.cell (p := ⟨w.heap.size, 0, none⟩) hl).trans (cc 0), (hb.cell (p := ⟨w.heap.size, 1, none⟩) hl).trans (cc 1), (hb.cell (p := ⟨w.heap.size, 2, none⟩) hl).trans (cc 2), (hb.cell (p := ⟨w.heap.size, 3, none⟩) hl).trans (cc 3), (hb.cell (p := ⟨w.heap.size, 4, none⟩) hl).trans (cc 4)⟩))
  have hq := Lib.hid (Below.refl w1.heap.size w1)
  obtain ⟨c0, c1, c2, c3, c4⟩ := KK.out w1 (Below.refl _ _)
  clear hblk cc hsz
  have hmx : max (-(j : Int)) 0 = 0 := by omega
  have hnn : -(j : Int) < 0 := by omega
  go_enter Try.func124, Try.ntmps124
  go_wp2_with fail
  refine (rnum_at ((i : Int)) i (by first | rfl | omega | exact IntWalk.i64_in _ (by omega)) (by omega) w1 _ hq.out).mono ?_
  rintro e w2 ⟨rfl, hb2⟩
  have hq := Lib.hid hb2
  obtain ⟨c0, c1, c2, c3, c4⟩ := KK.out w2 hb2
  clear hb2
  go_wp2_with fail
  refine (rnum_at (0) 0 (by first | rfl | omega | exact IntWalk.i64_in _ (by omega)) (by omega) w1 _ hq.out).mono ?_
  rintro e w3 ⟨rfl, hb3⟩
  have hq := Lib.hid hb3
  obtain ⟨c0, c1, c2, c3, c4⟩ := KK.out w3 hb3
  clear hb3
  go_wp2_with fail
  refine (rpair_at (.nil) (.num 0) (by simp [nsz, Tr.size]) _ _ (rfl) (rfl) w1 _ hq.out).mono ?_
  rintro e w4 ⟨rfl, hb4⟩
  have hq := Lib.hid hb4
  obtain ⟨c0, c1, c2, c3, c4⟩ := KK.out w4 hb4
  clear hb4
  go_wp2_with fail
  refine (rpair_at (.num i) (.pair .nil (.num 0)) (by simp [nsz, Tr.size]; omega) _ _ (rfl) (rfl) w1 _ hq.out).mono ?_
  rintro e w5 ⟨rfl, hb5⟩
  have hq := Lib.hid hb5
  obtain ⟨c0, c1, c2, c3, c4⟩ := KK.out w5 hb5
  clear hb5
  go_wp2_with fail
  refine (rnum_at (_) j (by first | rfl | omega | exact IntWalk.i64_in _ (by omega)) (by omega) w1 _ hq.out).mono ?_
  rintro e w6 ⟨rfl, hb6⟩
  have hq := Lib.hid hb6
  obtain ⟨c0, c1, c2, c3, c4⟩ := KK.out w6 hb6
  clear hb6
  go_wp2_with fail
  refine (rpair_at (.pair .nil .nil) (.num j) (by simp [nsz, Tr.size]; omega) _ _ (rfl) (rfl) w1 _ hq.out).mono ?_
  rintro e w7 ⟨rfl, hb7⟩
  have hq := Lib.hid hb7
  obtain ⟨c0, c1, c2, c3, c4⟩ := KK.out w7 hb7
  clear hb7
  go_wp2_with fail
  refine (rpair_at (.num i) (.pair (.pair .nil .nil) (.num j)) (by simp [nsz, Tr.size]; omega) _ _ (rfl) (rfl) w1 _ hq.out).mono ?_
  rintro e w8 ⟨rfl, hb8⟩
  have hq := Lib.hid hb8
  obtain ⟨c0, c1, c2, c3, c4⟩ := KK.out w8 hb8
  clear hb8
  go_wp2_with fail
  refine (rnum_at (5) 5 (by first | rfl | omega | exact IntWalk.i64_in _ (by omega)) (by omega) w1 _ hq.out).mono ?_
  rintro e w9 ⟨rfl, hb9⟩
  have hq := Lib.hid hb9
  obtain ⟨c0, c1, c2, c3, c4⟩ := KK.out w9 hb9
  clear hb9
  go_wp2_with fail
  refine (rpair_at (.num 5) (.pair (.num i) (.pair (.pair .nil .nil) (.num j))) (by simp [nsz, Tr.size]; omega) _ _ (rfl) (rfl) w1 _ hq.out).mono ?_
  rintro e w10 ⟨rfl, hb10⟩
  have hq := Lib.hid hb10
  obtain ⟨c0, c1, c2, c3, c4⟩ := KK.out w10 hb10
  clear hb10
  go_wp2
  go_ret
  exact ⟨rfl, hb0.out.trans (hq.out.mono hb0.out.size)⟩

end Go.Proofs.Ytdjbcmfjlfkcjaa


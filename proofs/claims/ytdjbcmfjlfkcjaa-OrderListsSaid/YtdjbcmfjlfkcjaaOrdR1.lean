/- narcissusref10: ways, Count. -/
import Derived.Test.YtdjbcmfjlfkcjaaMB2
namespace Go.Proofs.Ytdjbcmfjlfkcjaa
open Go.RowKit

theorem el_rows : ElemT Try.prog 103 105 (.slice none 0 0) 1 24 := ⟨Try.underlying103, by kernel_rfl, rfl, by decide⟩
def zA (n : Nat) : Array Value := (List.replicate n (.int .i64 0)).toArray
def nS (n : Nat) : Array Value := (List.replicate n (.slice none 0 0)).toArray
theorem zA_size (n : Nat) : (zA n).size = n := by simp [zA]
theorem nS_size (n : Nat) : (nS n).size = n := by simp [nS]
theorem zA_get {n k : Nat} (h : k < n) : (zA n)[k]? = some (.int .i64 0) := by
  unfold zA
  rw [List.getElem?_toArray, List.getElem?_replicate, if_pos h]
theorem make_ints (w : World) : (Instr.makeSlice 105 (.int .i64 31) (.int .i64 31)).run Try.prog w = .ok (.slice (some ⟨w.heap.size, 0, none⟩) 31 31) (w.alloc (.cells (zA 31) 3)) := by
  obtain ⟨i, hi, hz, hsize, hbytes⟩ := info_parts el_int.hi
  have h := run_make (P := Try.prog) w 105 3 i (.int .i64 0) el_int.ht hi hz .i64 .i64 31 31 (by omega) (by omega) (by rw [hbytes]; omega) (by omega)
  rw [h, hsize, show madeCells (Value.int .i64 0).cells (Int.toNat 31 * 1) = zA 31 by kernel_rfl]
  rfl
theorem make_rows (w : World) : (Instr.makeSlice 103 (.int .i64 32) (.int .i64 32)).run Try.prog w = .ok (.slice (some ⟨w.heap.size, 0, none⟩) 32 32) (w.alloc (.cells (nS 32) 105)) := by
  obtain ⟨i, hi, hz, hsize, hbytes⟩ := info_parts el_rows.hi
  have h := run_make (P := Try.prog) w 103 105 i (.slice none 0 0) el_rows.ht hi hz .i64 .i64 32 32 (by omega) (by omega) (by rw [hbytes]; omega) (by omega)
  rw [h, hsize, show madeCells (Value.slice none 0 0).cells (Int.toNat 32 * 1) = nS 32 by kernel_rfl]
  rfl
/-- The rows, as they come about: N of them are there. -/
structure RowsUp (w : World) (g N : Nat) : Prop where
  size : w.heap.size = g + 1 + N
  outer : ∃ cs : Array Value, w.heap[g]? = some (.cells cs 105 (0, 0)) ∧ cs.size = 32 ∧ ∀ n, n < N → cs[n]? = some (.slice (some ⟨g + 1 + n, 0, none⟩) 31 31)
  inner : ∀ n, n < N → ∃ C : Array Value, w.heap[g + 1 + n]? = some (.cells C 3 (0, 0)) ∧ C.size = 31 ∧ C[0]? = some (.int .i64 1) ∧ ∀ k, 0 < k → k < 31 → C[k]? = some (.int .i64 0)
/-- The rows, as they are filled: D says which are done. -/
structure Rows10 (w : World) (g : Nat) (D : Nat → Nat → Prop) : Prop where
  outer : ∃ cs : Array Value, w.heap[g]? = some (.cells cs 105 (0, 0)) ∧ ∀ n, n < 32 → cs[n]? = some (.slice (some ⟨g + 1 + n, 0, none⟩) 31 31)
  inner : ∀ n, n < 32 → ∃ C : Array Value, w.heap[g + 1 + n]? = some (.cells C 3 (0, 0)) ∧ C.size = 31 ∧ ∀ k, k ≤ 30 → D k n → C[k]? = some (.int .i64 (wy k n))
def Dn (K N k n : Nat) : Prop := k = 0 ∨ n = 0 ∨ (n + k ≤ 31 ∧ (k < K ∨ k = K ∧ n < N))
theorem Rows10.row {w : World} {g : Nat} {D : Nat → Nat → Prop} (h : Rows10 w g D) {n : Nat} (hn : n < 32) : w.cell? ⟨g, n, none⟩ = some (.slice (some ⟨g + 1 + n, 0, none⟩) 31 31) := by
  obtain ⟨cs, h1, h2⟩ := h.outer
  rw [(block_cells h1).1 n]
  exact h2 n hn
theorem Rows10.cell {w : World} {g : Nat} {D : Nat → Nat → Prop} (h : Rows10 w g D) {k n : Nat} (hk : k ≤ 30) (hn : n < 32) (hd : D k n) : w.cell? ⟨g + 1 + n, k, none⟩ = some (.int .i64 (wy k n)) := by
  obtain ⟨C, h1, _, h2⟩ := h.inner n hn
  rw [(block_cells h1).1 k]
  exact h2 k hk hd
theorem Rows10.any {w : World} {g : Nat} {D : Nat → Nat → Prop} (h : Rows10 w g D) {k n : Nat} (hk : k ≤ 30) (hn : n < 32) : ∃ v, w.cell? ⟨g + 1 + n, k, none⟩ = some v := by
  obtain ⟨C, h1, h3, _⟩ := h.inner n hn
  rw [(block_cells h1).1 k]
  exact ⟨_, Array.getElem?_eq_getElem (by rw [h3]; omega)⟩
theorem Rows10.froz {w : World} {g : Nat} {D : Nat → Nat → Prop} (h : Rows10 w g D) {n : Nat} (hn : n < 32) (k : Nat) : w.frozen? ⟨g + 1 + n, k, none⟩ = false := by
  obtain ⟨C, h1, _⟩ := h.inner n hn
  exact (block_cells h1).2 k
theorem Rows10.put {w : World} {g K N : Nat} (h : Rows10 w g (Dn K N)) (_hK : 1 ≤ K ∧ K ≤ 30) (hN : 1 ≤ N ∧ N + K ≤ 31) : Rows10 (w.setCell ⟨g + 1 + N, K, none⟩ (.int .i64 (wy K N))) g (Dn K (N + 1)) := by
  obtain ⟨cs, h1, h2⟩ := h.outer
  refine ⟨⟨cs, ?_, h2⟩, fun n hn => ?_⟩
  · rw [Below.heap_setCell _ _ _ _ (by show g ≠ g + 1 + N; omega)]; exact h1
  · obtain ⟨C, h3, h4, h5⟩ := h.inner n hn
    by_cases he : n = N
    · subst he
      refine ⟨_, heap_setCell_same w _ _ C _ _ h3, by simpa using h4, fun k hk hd => ?_⟩
      rw [Array.getElem?_setIfInBounds]
      by_cases hkK : K = k
      · subst hkK
        rw [if_pos rfl, if_pos (by omega)]
      · rw [if_neg hkK]
        refine h5 k hk ?_
        rcases hd with hd | hd | ⟨hd, hd2⟩
        · exact .inl hd
        · exact .inr (.inl hd)
        · exact .inr (.inr ⟨hd, by omega⟩)
    · refine ⟨C, ?_, h4, fun k hk hd => h5 k hk ?_⟩
      · rw [Below.heap_setCell _ _ _ _ (by show g + 1 + n ≠ g + 1 + N; omega)]; exact h3
      · rcases hd with hd | hd | ⟨hd, hd2⟩
        · exact .inl hd
        · exact .inr (.inl hd)
        · exact .inr (.inr ⟨hd, by omega⟩)
theorem Rows10.next {w : World} {g K N : Nat} (h : Rows10 w g (Dn K N)) (hN : 31 < N + K) : Rows10 w g (Dn (K + 1) 1) :=
  ⟨h.outer, fun n hn => by
    obtain ⟨C, h3, h4, h5⟩ := h.inner n hn
    refine ⟨C, h3, h4, fun k hk hd => h5 k hk ?_⟩
    rcases hd with hd | hd | ⟨hd, hd2⟩
    · exact .inl hd
    · exact .inr (.inl hd)
    · rcases hd2 with hd2 | ⟨hd2, hd3⟩
      · exact .inr (.inr ⟨hd, by omega⟩)
      · exact .inr (.inl (by omega))⟩
theorem Rows10.drew {w : World} {g : Nat} {D : Nat → Nat → Prop} (h : Rows10 w g D) : Rows10 w.drew g D := ⟨h.outer, h.inner⟩
theorem RowsUp.done {w : World} {g : Nat} (h : RowsUp w g 32) : Rows10 w g (Dn 1 1) := by
  obtain ⟨cs, h1, _, h2⟩ := h.outer
  refine ⟨⟨cs, h1, h2⟩, fun n hn => ?_⟩
  obtain ⟨C, h3, h4, h5, h6⟩ := h.inner n hn
  refine ⟨C, h3, h4, fun k hk hd => ?_⟩
  by_cases hk0 : k = 0
  · subst hk0
    rw [wy_zero]
    exact h5
  · have hn0 : n = 0 := by rcases hd with hd | hd | ⟨hd, hd2⟩ <;> omega
    subst hn0
    obtain ⟨j, rfl⟩ : ∃ j, k = j + 1 := ⟨k - 1, by omega⟩
    rw [wy_none]
    exact h6 (j + 1) (by omega) (by omega)
theorem RowsUp.add {w : World} {g N : Nat} (h : RowsUp w g N) (hN : N < 32) :
    RowsUp (((w.alloc (.cells (zA 31) 3)).setCell ⟨g, N, none⟩ (.slice (some ⟨g + 1 + N, 0, none⟩) 31 31)).setCell ⟨g + 1 + N, 0, none⟩ (.int .i64 1)) g (N + 1) := by
  obtain ⟨cs, h1, h2, h3⟩ := h.outer
  have hs := h.size
  have hb : Below w.heap.size w (w.alloc (.cells (zA 31) 3)) := (Below.refl _ _).alloc (Nat.le_refl _) _
  have a1 : (w.alloc (.cells (zA 31) 3)).heap[g]? = some (.cells cs 105 (0, 0)) := (hb.block g (by omega)).trans h1
  have a2 : (w.alloc (.cells (zA 31) 3)).heap[g + 1 + N]? = some (.cells (zA 31) 3 (0, 0)) := by rw [← hs]; exact heap_alloc_new w _
  refine ⟨by simp [World.setCell, hs]; omega, ⟨cs.setIfInBounds N (.slice (some ⟨g + 1 + N, 0, none⟩) 31 31), ?_, by simpa using h2, fun n hn => ?_⟩, fun n hn => ?_⟩
  · rw [Below.heap_setCell _ _ _ _ (by show g ≠ g + 1 + N; omega)]
    exact heap_setCell_same _ _ _ cs _ _ a1
  · rw [Array.getElem?_setIfInBounds]
    by_cases he : N = n
    · subst he
      rw [if_pos rfl, if_pos (by omega)]
    · rw [if_neg he]; exact h3 n (by omega)
  · by_cases he : n = N
    · subst he
      refine ⟨_, heap_setCell_same _ _ _ (zA 31) _ _ (by rw [Below.heap_setCell _ _ _ _ (by show g + 1 + n ≠ g; omega)]; exact a2), by rw [Array.size_setIfInBounds, zA_size], ?_, fun k hk1 hk2 => ?_⟩
      · rw [Array.getElem?_setIfInBounds, if_pos rfl, if_pos (by rw [zA_size]; omega)]
      · rw [Array.getElem?_setIfInBounds, if_neg (by omega)]
        exact zA_get hk2
    · obtain ⟨C, h4, h5⟩ := h.inner n (by omega)
      refine ⟨C, ?_, h5⟩
      rw [Below.heap_setCell _ _ _ _ (by show g + 1 + n ≠ g + 1 + N; omega), Below.heap_setCell _ _ _ _ (by show g + 1 + n ≠ g; omega)]
      exact (hb.block _ (by omega)).trans h4
/-- All is done. -/
def Ways (w : World) (g : Nat) : Prop := Rows10 w g fun k n => n + k ≤ 31
theorem Ways.lt {w : World} {g : Nat} (h : Ways w g) : g + 32 < w.heap.size := by
  obtain ⟨C, h1, _⟩ := h.inner 31 (by omega)
  have := (Array.getElem?_eq_some_iff.1 h1).1
  omega
theorem Ways.below {w w' : World} {g B : Nat} (h : Ways w g) (hg : g + 32 < B) (hb : Below B w w') : Ways w' g := by
  obtain ⟨cs, h1, h2⟩ := h.outer
  refine ⟨⟨cs, (hb.block g (by omega)).trans h1, h2⟩, fun n hn => ?_⟩
  obtain ⟨C, h3, h4⟩ := h.inner n hn
  exact ⟨C, (hb.block _ (by omega)).trans h3, h4⟩
theorem Ways.drew {w : World} {g : Nat} (h : Ways w g) : Ways w.drew g := ⟨h.outer, h.inner⟩
set_option maxRecDepth 20000 in
set_option maxHeartbeats 8000000 in
theorem ways_any (w : World) :
    Calls Try.prog 81 #[] w fun e w' => ∃ g, e = .returned (.slice (some ⟨g, 0, none⟩) 32 32) ∧ w.heap.size ≤ g ∧ Ways w' g ∧ Below w.heap.size w w' := by
  have hm1 := make_rows
  have hm2 := make_ints
  have h0 : RowsUp (w.alloc (.cells (nS 32) 105)) w.heap.size 0 :=
    ⟨by simp, ⟨_, heap_alloc_new w _, nS_size 32, fun n hn => by omega⟩, fun n hn => by omega⟩
  have hb0 : Below w.heap.size w (w.alloc (.cells (nS 32) 105)) := (Below.refl _ _).alloc (Nat.le_refl _) _
  go_enter Try.func81, Try.ntmps81
  go_wp2
  obtain ⟨w1, hw1⟩ : ∃ w1, w.alloc (.cells (nS 32) 105) = w1 := ⟨_, rfl⟩
  rw [hw1] at h0 hb0
  try rw [hw1]
  obtain ⟨g, hg⟩ : ∃ g, w.heap.size = g := ⟨_, rfl⟩
  rw [hg] at h0
  simp only [hg]
  have HG := Lib.hid hg
  have H0 := Lib.hid h0
  have HB0 := Lib.hid hb0
  clear hw1 hg h0 hb0
  go_loopg [2] 32 (fun gg i wr => ∃ n : Nat, n ≤ 32 ∧ gg = 32 - n ∧ i = .int .i64 (n : Int) ∧ Hid (RowsUp wr g n) ∧ Hid (Below w.heap.size w wr))
  case atStart => exact ⟨0, by omega, rfl, rfl, H0, HB0⟩
  case round =>
    obtain ⟨n, hn, hgg, rfl, hR, hB⟩ := hrel
    have HGG := Lib.hid hgg; clear hgg H0 HB0
    by_cases hlt : n < 32
    · have hnI : (0 : Int) ≤ n ∧ (n : Int) < 32 := by omega
      obtain ⟨cs, h1, h2, h3⟩ := hR.out.outer
      have hs := hR.out.size
      have hbA : Below wr.heap.size wr (wr.alloc (.cells (zA 31) 3)) := (Below.refl _ _).alloc (Nat.le_refl _) _
      have a1 : (wr.alloc (.cells (zA 31) 3)).heap[g]? = some (.cells cs 105 (0, 0)) := (hbA.block g (by omega)).trans h1
      have a2 : (wr.alloc (.cells (zA 31) 3)).heap[g + 1 + n]? = some (.cells (zA 31) 3 (0, 0)) := by rw [← hs]; exact heap_alloc_new wr _
      obtain ⟨w2, hw2⟩ : ∃ w2, wr.alloc (.cells (zA 31) 3) = w2 := ⟨_, rfl⟩
      have hmk := hm2 wr
      rw [hw2, hs] at hmk
      have hadd := hR.out.add hlt
      rw [hw2] at hadd a1 a2 hbA
      obtain ⟨v0, c0⟩ : ∃ v, w2.cell? ⟨g, n, none⟩ = some v := by
        rw [(block_cells a1).1 n]
        exact ⟨_, Array.getElem?_eq_getElem (by omega)⟩
      have f0 := (block_cells a1).2 n
      have a3 := heap_setCell_same w2 g n cs _ (.slice (some ⟨g + 1 + n, 0, none⟩) 31 31) a1
      have c1 : (w2.setCell ⟨g, n, none⟩ (.slice (some ⟨g + 1 + n, 0, none⟩) 31 31)).cell? ⟨g, n, none⟩ = some (.slice (some ⟨g + 1 + n, 0, none⟩) 31 31) := by
        rw [(block_cells a3).1 n, Array.getElem?_setIfInBounds, if_pos rfl, if_pos (by omega)]
      have a4 : (w2.setCell ⟨g, n, none⟩ (.slice (some ⟨g + 1 + n, 0, none⟩) 31 31)).heap[g + 1 + n]? = some (.cells (zA 31) 3 (0, 0)) := by
        rw [Below.heap_setCell _ _ _ _ (by show g + 1 + n ≠ g; omega)]; exact a2
      have c2 : (w2.setCell ⟨g, n, none⟩ (.slice (some ⟨g + 1 + n, 0, none⟩) 31 31)).cell? ⟨g + 1 + n, 0, none⟩ = some (.int .i64 0) := by
        rw [(block_cells a4).1 0]; exact zA_get (by omega)
      have f2 := (block_cells a4).2 0
      have hgB : w.heap.size ≤ g := Nat.le_of_eq HG.out
      have hbel := Lib.hid (((hB.out.trans (hbA.mono hB.out.size)).setCell (p := ⟨g, n, none⟩) hgB (.slice (some ⟨g + 1 + n, 0, none⟩) 31 31)).setCell (p := ⟨g + 1 + n, 0, none⟩) (by show w.heap.size ≤ g + 1 + n; omega) (.int .i64 1))
      have HADD := Lib.hid hadd
      clear hw2 hs hadd a1 a2 a3 a4 h1 h2 h3 hbA hR hB hm1 hm2
      go_wp2
      go_roundg (32 - (n + 1))
      case measure => rw [HGG.out]; omega
      case rel => exact ⟨n + 1, by omega, rfl, by go_num, HADD, hbel⟩
    · obtain rfl : n = 32 := by omega
      have hD := Lib.hid hR.out.done
      clear hR
      go_wp2
      go_loopg [3] 30 (fun gg i wr => ∃ k : Nat, k ≤ 30 ∧ gg = 30 - k ∧ i = .int .i64 ((k : Int) + 1) ∧ Hid (Rows10 wr g (Dn (k + 1) 1)) ∧ Hid (Below w.heap.size w wr))
      case atStart => exact ⟨0, by omega, rfl, rfl, hD, hB⟩
      case round =>
        clear hD hB
        obtain ⟨k, hk, hgk, rfl, hD, hB⟩ := hrel
        have HGK := Lib.hid hgk; clear hgk
        by_cases hk30 : k < 30
        · have hkI : (0 : Int) ≤ k ∧ (k : Int) + 1 ≤ 30 := by omega
          go_wp2
          go_loopg [4] (30 - k) (fun gg i wr => ∃ n : Nat, n + k ≤ 30 ∧ gg = 30 - k - n ∧ i = .int .i64 ((n : Int) + 1) ∧ Hid (Rows10 wr g (Dn (k + 1) (n + 1))) ∧ Hid (Below w.heap.size w wr))
          case atStart => exact ⟨0, by omega, rfl, rfl, hD, hB⟩
          case round =>
            clear hD hB
            obtain ⟨n, hnk, hgn, rfl, hD, hB⟩ := hrel
            have HGN := Lib.hid hgn; clear hgn
            by_cases hn30 : n + k < 30
            · have hnI : (0 : Int) ≤ n ∧ (n : Int) ≤ 30 := by omega
              have hnkI : (n : Int) + 1 + (k + 1) ≤ 31 := by omega
              have c0 := hD.out.row (n := n + 1) (by omega)
              have c1 := hD.out.row (n := n) (by omega)
              have c2 := hD.out.row (n := n + 2) (by omega)
              obtain ⟨v3, c3⟩ := hD.out.any (k := k + 1) (n := n + 1) (by omega) (by omega)
              have f3 := hD.out.froz (n := n + 1) (by omega) (k + 1)
              have c4 := hD.out.cell (k := k + 1) (n := n) (by omega) (by omega) (by unfold Dn; omega)
              have c5 := hD.out.cell (k := k) (n := n + 2) (by omega) (by omega) (by unfold Dn; omega)
              have hput := hD.out.put (by omega) (by omega)
              have hst := wy_step k n
              have hwl := wy_lt (k := k + 1) (n := n + 1) (by omega) (by omega)
              obtain ⟨x, hx⟩ : ∃ x : Int, ((wy (k + 1) n : Nat) : Int) = x := ⟨_, rfl⟩
              obtain ⟨y, hy⟩ : ∃ y : Int, ((wy k (n + 2) : Nat) : Int) = y := ⟨_, rfl⟩
              have hxy : 0 ≤ x ∧ 0 ≤ y ∧ x + y < 4611686018427387904 := by omega
              have hz : ((wy (k + 1) (n + 1) : Nat) : Int) = x + y := by omega
              rw [hx] at c4
              rw [hy] at c5
              rw [hz] at hput
              have HPUT := Lib.hid hput.drew
              have hown : ∀ v : Value, Below w.heap.size w ((wr.setCell ⟨g + 1 + (n + 1), k + 1, none⟩ v).drew) := fun v => (hB.out.setCell (p := ⟨g + 1 + (n + 1), k + 1, none⟩) (by show w.heap.size ≤ g + 1 + (n + 1); have := HG.out; omega) v).drew
              have hown2 : ∀ v : Value, Below w.heap.size w (wr.drew.setCell ⟨g + 1 + (n + 1), k + 1, none⟩ v) := fun v => hB.out.drew.setCell (p := ⟨g + 1 + (n + 1), k + 1, none⟩) (by show w.heap.size ≤ g + 1 + (n + 1); have := HG.out; omega) v
              have HOWN := Lib.hid hown
              clear hput hst hwl hx hy hz hD hB hown hown2 hm1 hm2
              go_wp2
              go_region
              all_goals
                go_wp2
                go_roundg (30 - k - (n + 1))
                case measure => rw [HGN.out]; omega
                case rel => exact ⟨n + 1, by omega, rfl, by go_num, HPUT, Lib.hid (HOWN.out _)⟩
            · have hnext := Lib.hid (hD.out.next (by omega))
              have hnkI : ¬ (n : Int) + 1 + (k + 1) ≤ 31 := by omega
              have hnI : (0 : Int) ≤ n ∧ (n : Int) ≤ 31 := by omega
              clear hD
              go_wp2
              go_roundg (30 - (k + 1))
              case measure => rw [HGK.out]; omega
              case rel => exact ⟨k + 1, by omega, rfl, by go_num, hnext, hB⟩
        · obtain rfl : k = 30 := by omega
          have hW : Hid (Ways wr g) := Lib.hid ⟨hD.out.outer, fun n hn => by
            obtain ⟨C, h3, h4, h5⟩ := hD.out.inner n hn
            exact ⟨C, h3, h4, fun k hk hd => h5 k hk (by unfold Dn; omega)⟩⟩
          clear hD
          go_wp2
          go_ret
          exact ⟨g, rfl, Nat.le_of_eq HG.out, hW.out, hB.out⟩
set_option maxRecDepth 20000 in
theorem rcount_ok (k : Nat) (hk : k ≤ 30) (w : World) :
    Calls Try.prog 52 #[.int .i64 k] w fun e w' => e = .returned (.int .i64 (wy k 1 : Nat)) ∧ Below w.heap.size w w' := by
  have h0 : (0 : Int) ≤ k ∧ (k : Int) ≤ 30 := by omega
  obtain ⟨x, hx⟩ : ∃ x : Int, ((wy k 1 : Nat) : Int) = x := ⟨_, rfl⟩
  have HX := Lib.hid hx
  rw [hx]
  clear hx
  go_enter Try.func52, Try.ntmps52
  go_wp2_with fail
  refine (ways_any _).mono ?_
  rintro e w1 ⟨g, rfl, hg, hW, hb⟩
  have c0 := hW.row (n := 1) (by omega)
  have c1 := hW.cell (k := k) (n := 1) hk (by omega) (by omega)
  rw [HX.out] at c1
  have HW := Lib.hid hW
  clear hW
  go_wp2
  go_ret
  exact ⟨rfl, hb⟩
end Go.Proofs.Ytdjbcmfjlfkcjaa


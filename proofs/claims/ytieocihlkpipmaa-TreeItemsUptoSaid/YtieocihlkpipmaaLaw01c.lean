/- The walk of TreeReads. -/
import Derived.Test.YtieocihlkpipmaaLaw01b
namespace Go.Proofs.Ytieocihlkpipmaa
open Go.RowKit

/-- An owned slice of strings, as a row. -/
theorem StrsOut.row {B : Nat} {w0 w' : World} {er : Int} {l : List ByteArray} {e : Ending} (h : StrsOut B w0 er l e w') (hl : ∀ s ∈ l, s.size ≤ 281474976710656) (hn : l.length ≤ 281474976710656) :
    ∃ v, e = .returned (.tuple #[v, .int .i64 er]) ∧ StrRow w' w'.heap.size v l ∧ Below w0.heap.size w0 w' := by
  obtain ⟨v, n, he, ho, hb⟩ := h
  exact ⟨v, he, StrRow.of_own ho hl hn, hb⟩
theorem items_row (t : Tr) (ht : t.size ≤ 2000000) (w : World) : Calls Try.prog 60 #[.string (TS t)] w fun e w' => ∃ v, e = .returned (.tuple #[v, .int .i64 0]) ∧ StrRow w' w'.heap.size v (t.items.map TS) ∧ Below w.heap.size w w' :=
  (items_ok t ht w).mono fun e w' h => h.row (by intro s hs; obtain ⟨u, hu, rfl⟩ := List.mem_map.1 hs; have := items_size_le t u hu; rw [TS_size]; omega) (by have := items_length_le t; simp; omega)
theorem refItems_row (t : Tr) (ht : t.size ≤ 2000000) (w : World) : Calls Try.prog 67 #[.string (TS t)] w fun e w' => ∃ v, e = .returned v ∧ StrRow w' w'.heap.size v (t.items.map TS) ∧ Below w.heap.size w w' :=
  (refItems_ok t ht w).mono fun e w' ⟨v, n, he, ho, hb⟩ => ⟨v, he, StrRow.of_own ho (by intro s hs; obtain ⟨u, hu, rfl⟩ := List.mem_map.1 hs; have := items_size_le t u hu; rw [TS_size]; omega) (by have := items_length_le t; simp; omega), hb⟩
theorem same_refl (v1 v2 : Value) (l : List ByteArray) (w : World) (B : Nat) (hl1 : StrRow w B v1 l) (hl2 : StrRow w B v2 l) :
    Calls Try.prog 35 #[v1, v2] w fun e w' => e = .returned (.bool true) ∧ ∃ nq, w' = w.drewN nq := by
  have := same_any v1 v2 l l w B hl1 hl2
  rwa [show sameB l l = true from decide_eq_true rfl] at this

set_option maxHeartbeats 4000000 in
set_option maxRecDepth 20000 in
theorem reads_num (t : Tr) (ht : t.size ≤ 2000000) (hn : t.isNum = true) (w : World) :
    Calls Try.prog 19 #[.string (TS t)] w fun e w' => e = .returned (.bool true) ∧ Below w.heap.size w w' := by
  have a1 := fun w => head_ok t ht w
  have a2 := fun w => tail_ok t ht w
  have a3 := fun w => pairs_ok t ht w
  have a4 := fun w => treeDepth_ok t ht w
  have a6 := fun w => items_row t ht w
  have a7 := fun w => valid_ok t ht w
  have a8 := fun w => refValid_at (TS t) true (by rw [TS_size]; omega) (isTree_TS t ht) w
  have b1 := fun w => refHead_ok t ht w
  have b2 := fun w => refTail_ok t ht w
  have b3 := fun w => refPairs_ok t ht w
  have b4 := fun w => refDepth_ok t ht w
  have b5 := fun w => refValue_ok t ht w
  have b6 := fun w => refItems_row t ht w
  have a5 := fun w => value_num t ht hn w
  rw [show rVal t = t.pairs by unfold rVal; rw [hn]; rfl] at b5
  have hp : ¬ (t.pairs : Int) < 0 := by omega
  clear hn ht
  generalize t.items.map TS = L at a6 b6
  generalize TS t.hd = S1 at a1 b1
  generalize TS t.tl = S2 at a2 b2
  generalize TS t = S at *
  have z1 : (S1.toList == S1.toList) = true := by simp
  have z2 : (S2.toList == S2.toList) = true := by simp
  go_enter Try.func19, Try.ntmps19
  go_wp2_with fail
  refine (a1 _).mono ?_
  rintro e w1 ⟨rfl, k1⟩
  have c1 := k1
  clear k1
  go_wp2_with fail
  refine (a2 _).mono ?_
  rintro e w2 ⟨rfl, k2⟩
  have c2 := (c1).trans (k2.mono (c1).size)
  clear c1
  clear k2
  go_wp2_with fail
  refine (a3 _).mono ?_
  rintro e w3 ⟨rfl, k3⟩
  have c3 := (c2).trans (k3.mono (c2).size)
  clear c2
  clear k3
  go_wp2_with fail
  refine (a4 _).mono ?_
  rintro e w4 ⟨rfl, k4⟩
  have c4 := (c3).trans (k4.mono (c3).size)
  clear c3
  clear k4
  go_wp2_with fail
  refine (a5 _).mono ?_
  rintro e w5 ⟨rfl, k5⟩
  have c5 := (c4).trans (k5.mono (c4).size)
  clear c4
  clear k5
  go_wp2_with fail
  refine (a6 _).mono ?_
  rintro e w6 ⟨vi, rfl, hr6, k6⟩
  have c6 := c5.trans (k6.mono c5.size)
  clear k6 c5
  obtain ⟨ai, ci, rfl⟩ := hr6.len
  go_wp2_with fail
  refine (a7 _).mono ?_
  rintro e w7 ⟨rfl, k7⟩
  have c7 := c6.trans (k7.mono c6.size)
  have hr7 := (hr6.below k7).mono k7.size
  clear k7 c6 hr6
  go_wp2_with fail
  refine (a8 _).mono ?_
  rintro e w8 ⟨rfl, rfl⟩
  go_wp2_with fail
  refine (a8 _).mono ?_
  rintro e w8 ⟨rfl, rfl⟩
  go_wp2_with fail
  refine (b5 _).mono ?_
  rintro e w8 ⟨rfl, rfl⟩
  go_wp2_with fail
  refine (b1 _).mono ?_
  rintro e w8 ⟨rfl, rfl⟩
  go_wp2_with fail
  refine (b2 _).mono ?_
  rintro e w8 ⟨rfl, rfl⟩
  go_wp2_with fail
  refine (b3 _).mono ?_
  rintro e w8 ⟨rfl, rfl⟩
  go_wp2_with fail
  refine (b4 _).mono ?_
  rintro e w8 ⟨rfl, k8⟩
  have c8 := c7.trans (k8.mono c7.size)
  have hr8 := (hr7.below k8).mono k8.size
  clear k8 c7 hr7
  go_wp2_with fail
  refine (b6 _).mono ?_
  rintro e w9 ⟨vj, rfl, hr9, k9⟩
  have c9 := c8.trans (k9.mono c8.size)
  have hr10 := (hr8.below k9).mono k9.size
  clear k9 c8 hr8
  go_wp2_with fail
  refine (same_refl _ _ _ _ _ hr10 hr9).mono ?_
  rintro e w10 ⟨rfl, nq, rfl⟩
  have c10 := below_drewN c9 nq
  clear c9 hr9 hr10
  go_wp2_with fail
  refine (awake01 _).mono ?_
  rintro e w11 ⟨rfl, k11⟩
  have c11 := c10.trans (k11.mono c10.size)
  go_wp2
  go_ret
  exact ⟨rfl, c11⟩

set_option maxHeartbeats 4000000 in
set_option maxRecDepth 20000 in
theorem reads_none (t : Tr) (ht : t.size ≤ 2000000) (hn : t.isNum = false) (w : World) :
    Calls Try.prog 19 #[.string (TS t)] w fun e w' => e = .returned (.bool true) ∧ Below w.heap.size w w' := by
  have a1 := fun w => head_ok t ht w
  have a2 := fun w => tail_ok t ht w
  have a3 := fun w => pairs_ok t ht w
  have a4 := fun w => treeDepth_ok t ht w
  have a6 := fun w => items_row t ht w
  have a7 := fun w => valid_ok t ht w
  have a8 := fun w => refValid_at (TS t) true (by rw [TS_size]; omega) (isTree_TS t ht) w
  have b1 := fun w => refHead_ok t ht w
  have b2 := fun w => refTail_ok t ht w
  have b3 := fun w => refPairs_ok t ht w
  have b4 := fun w => refDepth_ok t ht w
  have b5 := fun w => refValue_ok t ht w
  have b6 := fun w => refItems_row t ht w
  have a5 := fun w => value_none t ht hn w
  rw [show rVal t = -1 by unfold rVal; rw [hn]; rfl] at b5
  clear hn ht
  generalize t.items.map TS = L at a6 b6
  generalize TS t.hd = S1 at a1 b1
  generalize TS t.tl = S2 at a2 b2
  generalize TS t = S at *
  have z1 : (S1.toList == S1.toList) = true := by simp
  have z2 : (S2.toList == S2.toList) = true := by simp
  go_enter Try.func19, Try.ntmps19
  go_wp2_with fail
  refine (a1 _).mono ?_
  rintro e w1 ⟨rfl, k1⟩
  have c1 := k1
  clear k1
  go_wp2_with fail
  refine (a2 _).mono ?_
  rintro e w2 ⟨rfl, k2⟩
  have c2 := (c1).trans (k2.mono (c1).size)
  clear c1
  clear k2
  go_wp2_with fail
  refine (a3 _).mono ?_
  rintro e w3 ⟨rfl, k3⟩
  have c3 := (c2).trans (k3.mono (c2).size)
  clear c2
  clear k3
  go_wp2_with fail
  refine (a4 _).mono ?_
  rintro e w4 ⟨rfl, k4⟩
  have c4 := (c3).trans (k4.mono (c3).size)
  clear c3
  clear k4
  go_wp2_with fail
  refine (a5 _).mono ?_
  rintro e w5 ⟨rfl, k5⟩
  have c5 := (c4).trans (k5.mono (c4).size)
  clear c4
  clear k5
  go_wp2_with fail
  refine (a6 _).mono ?_
  rintro e w6 ⟨vi, rfl, hr6, k6⟩
  have c6 := c5.trans (k6.mono c5.size)
  clear k6 c5
  obtain ⟨ai, ci, rfl⟩ := hr6.len
  go_wp2_with fail
  refine (a7 _).mono ?_
  rintro e w7 ⟨rfl, k7⟩
  have c7 := c6.trans (k7.mono c6.size)
  have hr7 := (hr6.below k7).mono k7.size
  clear k7 c6 hr6
  go_wp2_with fail
  refine (a8 _).mono ?_
  rintro e w8 ⟨rfl, rfl⟩
  go_wp2_with fail
  refine (a8 _).mono ?_
  rintro e w8 ⟨rfl, rfl⟩
  go_wp2_with fail
  refine (b5 _).mono ?_
  rintro e w8 ⟨rfl, rfl⟩
  go_wp2_with fail
  refine (b1 _).mono ?_
  rintro e w8 ⟨rfl, rfl⟩
  go_wp2_with fail
  refine (b2 _).mono ?_
  rintro e w8 ⟨rfl, rfl⟩
  go_wp2_with fail
  refine (b3 _).mono ?_
  rintro e w8 ⟨rfl, rfl⟩
  go_wp2_with fail
  refine (b4 _).mono ?_
  rintro e w8 ⟨rfl, k8⟩
  have c8 := c7.trans (k8.mono c7.size)
  have hr8 := (hr7.below k8).mono k8.size
  clear k8 c7 hr7
  go_wp2_with fail
  refine (b6 _).mono ?_
  rintro e w9 ⟨vj, rfl, hr9, k9⟩
  have c9 := c8.trans (k9.mono c8.size)
  have hr10 := (hr8.below k9).mono k9.size
  clear k9 c8 hr8
  go_wp2_with fail
  refine (same_refl _ _ _ _ _ hr10 hr9).mono ?_
  rintro e w10 ⟨rfl, nq, rfl⟩
  have c10 := below_drewN c9 nq
  clear c9 hr9 hr10
  go_wp2_with fail
  refine (awake01 _).mono ?_
  rintro e w11 ⟨rfl, k11⟩
  have c11 := c10.trans (k11.mono c10.size)
  go_wp2
  go_ret
  exact ⟨rfl, c11⟩

set_option maxHeartbeats 4000000 in
set_option maxRecDepth 20000 in
theorem reads_bad (s : ByteArray) (hs : s.size ≤ 140737488355328) (h1 : isTree s = false) (w : World) :
    Calls Try.prog 19 #[.string s] w fun e w' => e = .returned (.bool true) ∧ Below w.heap.size w w' := by
  have a1 := fun w => head_bad s (by omega) h1 w
  have a2 := fun w => tail_bad s (by omega) h1 w
  have a3 := fun w => pairs_bad s (by omega) h1 w
  have a4 := fun w => depth_bad s (by omega) h1 w
  have a5 := fun w => value_bad s (by omega) h1 w
  have a6 := fun w => items_bad s (by omega) h1 w
  have a7 := fun w => valid_bad s (by omega) h1 w
  have a8 := fun w => refValid_at s false (by omega) h1 w
  have k0 : ∀ w, (Op.stringOp .add ⟨#[]⟩ ⟨#[]⟩).run Try.prog w = .ok (.string ⟨#[]⟩) w := fun w => run_string_add_sum w ⟨#[]⟩ ⟨#[]⟩ (by decide)
  clear h1
  go_enter Try.func19, Try.ntmps19
  go_wp2_with fail
  refine (a1 _).mono ?_
  rintro e w1 ⟨rfl, k1⟩
  have c1 := k1
  clear k1
  go_wp2_with fail
  refine (a2 _).mono ?_
  rintro e w2 ⟨rfl, k2⟩
  have c2 := (c1).trans (k2.mono (c1).size)
  clear c1
  clear k2
  go_wp2_with fail
  refine (a3 _).mono ?_
  rintro e w3 ⟨rfl, k3⟩
  have c3 := (c2).trans (k3.mono (c2).size)
  clear c2
  clear k3
  go_wp2_with fail
  refine (a4 _).mono ?_
  rintro e w4 ⟨rfl, k4⟩
  have c4 := (c3).trans (k4.mono (c3).size)
  clear c3
  clear k4
  go_wp2_with fail
  refine (a5 _).mono ?_
  rintro e w5 ⟨rfl, k5⟩
  have c5 := (c4).trans (k5.mono (c4).size)
  clear c4
  clear k5
  go_wp2_with fail
  refine (a6 _).mono ?_
  rintro e w6 ⟨rfl, k6⟩
  have c6 := (c5).trans (k6.mono (c5).size)
  clear c5
  clear k6
  go_wp2_with fail
  refine (a7 _).mono ?_
  rintro e w7 ⟨rfl, k7⟩
  have c7 := (c6).trans (k7.mono (c6).size)
  clear c6
  clear k7
  go_wp2_with fail
  refine (a8 _).mono ?_
  rintro e w8 ⟨rfl, rfl⟩
  go_wp2_with fail
  refine (a8 _).mono ?_
  rintro e w9 ⟨rfl, rfl⟩
  go_wp2_with fail
  refine (awake01 _).mono ?_
  rintro e w10 ⟨rfl, k10⟩
  have c10 := (c7).trans (k10.mono (c7).size)
  clear c7
  clear k10
  go_wp2
  go_ret
  exact ⟨rfl, c10⟩

theorem law_TreeReads (s : ByteArray) (hs : s.size ≤ 140737488355328) (w : World) :
    Calls Try.prog 19 #[.string s] w fun e w' => e = .returned (.bool true) ∧ Below w.heap.size w w' := by
  rcases valid_or s (by omega) with ⟨t, rfl, ht⟩ | h1
  · cases hn : t.isNum with
    | true => exact reads_num t ht hn w
    | false => exact reads_none t ht hn w
  · exact reads_bad s hs h1 w

end Go.Proofs.Ytieocihlkpipmaa

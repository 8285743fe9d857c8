/- law10: OrderCounts, OrderUnranks, OrderRanks. -/
import Derived.Test.YtdjbcmfjlfkcjaaOrdR4
import Derived.Test.YtdjbcmfjlfkcjaaOrdR2
import Derived.Test.YtdjbcmfjlfkcjaaOrd9
namespace Go.Proofs.Ytdjbcmfjlfkcjaa
open Go.RowKit

theorem law_OrderCounts (n : Int) (hn : -9223372036854775808 ≤ n ∧ n ≤ 9223372036854775807) (w : World) :
    Calls Try.prog 11 #[.int .i64 n] w fun e w' => e = .returned (.bool true) ∧ Below w.heap.size w w' := by
  by_cases h0 : n < 0
  · have h0' : ¬ 0 ≤ n := by omega
    have k := Lib.hid (fun w => count_bad n (.inl h0) w)
    clear hn h0
    go_enter Try.func11, Try.ntmps11
    go_wp2_with fail
    refine (k.out _).mono ?_
    rintro e w1 ⟨rfl, hb1⟩
    have HB1 := Lib.hid hb1
    clear hb1
    go_wp2_with fail
    refine (awake10_any _).mono ?_
    rintro e w2 ⟨rfl, hb2⟩
    have HB2 := Lib.hid (HB1.out.trans (hb2.mono HB1.out.size))
    clear hb2 HB1
    go_wp2
    go_ret
    exact ⟨rfl, HB2.out⟩
  by_cases h1 : 30 < n
  · have h0' : 0 ≤ n := by omega
    have h1' : ¬ n ≤ 30 := by omega
    have k := Lib.hid (fun w => count_bad n (.inr h1) w)
    clear hn h0 h1
    go_enter Try.func11, Try.ntmps11
    go_wp2_with fail
    refine (k.out _).mono ?_
    rintro e w1 ⟨rfl, hb1⟩
    have HB1 := Lib.hid hb1
    clear hb1
    go_wp2_with fail
    refine (awake10_any _).mono ?_
    rintro e w2 ⟨rfl, hb2⟩
    have HB2 := Lib.hid (HB1.out.trans (hb2.mono HB1.out.size))
    clear hb2 HB1
    go_wp2
    go_ret
    exact ⟨rfl, HB2.out⟩
  obtain ⟨k, rfl⟩ : ∃ k : Nat, n = k := ⟨n.toNat, by omega⟩
  have hkI : (0 : Int) ≤ k ∧ (k : Int) ≤ 30 := by omega
  have k1 := Lib.hid (fun w => rcount_ok k (by omega) w)
  have k2 := Lib.hid (fun w => count_ok k (by omega) w)
  generalize ((wy k 1 : Nat) : Int) = x at *
  clear hn h0 h1
  go_enter Try.func11, Try.ntmps11
  go_wp2_with fail
  refine (k1.out _).mono ?_
  rintro e w1 ⟨rfl, hb1⟩
  have HB1 := Lib.hid hb1
  clear hb1
  go_wp2_with fail
  refine (k2.out _).mono ?_
  rintro e w2 ⟨rfl, hb2⟩
  have HB2 := Lib.hid (HB1.out.trans (hb2.mono HB1.out.size))
  clear hb2 HB1
  go_wp2_with fail
  refine (awake10_any _).mono ?_
  rintro e w3 ⟨rfl, hb3⟩
  have HB3 := Lib.hid (HB2.out.trans (hb3.mono HB2.out.size))
  clear hb3 HB2
  go_wp2
  go_ret
  exact ⟨rfl, HB3.out⟩
theorem runrank_any (n : Int) (hn : -9223372036854775808 ≤ n ∧ n ≤ 9223372036854775807) :
    (∃ r : Nat, n = r ∧ r < wsum 31) ∨ ((∀ w, Calls Try.prog 43 #[.int .i64 n] w fun e w' => e = .returned (.tuple #[.string ⟨#[]⟩, .int .i64 2]) ∧ Below w.heap.size w w') ∧
      ∀ w, Calls Try.prog 42 #[.int .i64 n] w fun e w' => e = .returned (.tuple #[.string ⟨#[]⟩, .bool false]) ∧ Below w.heap.size w w') := by
  by_cases h0 : n < 0
  · exact .inr ⟨fun w => unrank_neg n h0 w, fun w => runrank_neg n h0 w⟩
  · obtain ⟨r, rfl⟩ : ∃ r : Nat, n = r := ⟨n.toNat, by omega⟩
    by_cases hr : r < wsum 31
    · exact .inl ⟨r, rfl, hr⟩
    · exact .inr ⟨fun w => unrank_big r (by omega) (by omega) w, fun w => runrank_big r (by omega) (by omega) w⟩
theorem law_OrderUnranks (n : Int) (hn : -9223372036854775808 ≤ n ∧ n ≤ 9223372036854775807) (w : World) :
    Calls Try.prog 6 #[.int .i64 n] w fun e w' => e = .returned (.bool true) ∧ Below w.heap.size w w' := by
  rcases runrank_any n hn with ⟨r, rfl, hr⟩ | ⟨h1, h2⟩
  · have k1 := Lib.hid (fun w => runrank_ok r hr w)
    have k2 := Lib.hid (fun w => unrank_ok r hr w)
    generalize TS (seqT r) = s at *
    clear hn hr
    go_enter Try.func6, Try.ntmps6
    go_wp2_with fail
    refine (k1.out _).mono ?_
    rintro e w1 ⟨rfl, hb1⟩
    have HB1 := Lib.hid hb1
    clear hb1
    go_wp2_with fail
    refine (k2.out _).mono ?_
    rintro e w2 ⟨rfl, hb2⟩
    have HB2 := Lib.hid (HB1.out.trans (hb2.mono HB1.out.size))
    clear hb2 HB1
    go_wp2_with fail
    refine (awake10_any _).mono ?_
    rintro e w3 ⟨rfl, hb3⟩
    have HB3 := Lib.hid (HB2.out.trans (hb3.mono HB2.out.size))
    clear hb3 HB2
    go_wp2
    go_ret
    exact ⟨rfl, HB3.out⟩
  · have k1 := Lib.hid h2
    have k2 := Lib.hid h1
    clear hn h1 h2
    go_enter Try.func6, Try.ntmps6
    go_wp2_with fail
    refine (k1.out _).mono ?_
    rintro e w1 ⟨rfl, hb1⟩
    have HB1 := Lib.hid hb1
    clear hb1
    go_wp2_with fail
    refine (k2.out _).mono ?_
    rintro e w2 ⟨rfl, hb2⟩
    have HB2 := Lib.hid (HB1.out.trans (hb2.mono HB1.out.size))
    clear hb2 HB1
    go_wp2_with fail
    refine (awake10_any _).mono ?_
    rintro e w3 ⟨rfl, hb3⟩
    have HB3 := Lib.hid (HB2.out.trans (hb3.mono HB2.out.size))
    clear hb3 HB2
    go_wp2
    go_ret
    exact ⟨rfl, HB3.out⟩
set_option maxRecDepth 20000 in
set_option maxHeartbeats 4000000 in
theorem law_OrderRanks (s : ByteArray) (hs : s.size ≤ 140737488355328) (w : World) :
    Calls Try.prog 5 #[.string s] w fun e w' => e = .returned (.bool true) ∧ Below w.heap.size w w' := by
  by_cases h1 : (2100000 : Int) < s.size
  · clear hs
    go_enter Try.func5, Try.ntmps5
    go_wp2_with fail
    refine (awake10_any _).mono ?_
    rintro e w1 ⟨rfl, hb1⟩
    have HB1 := Lib.hid hb1
    clear hb1
    go_wp2
    go_ret
    exact ⟨rfl, HB1.out⟩
  have h1' : (s.size : Int) ≤ 2100000 := by omega
  rcases valid_or s (by omega) with ⟨t, rfl, ht⟩ | hb
  · have kv := Lib.hid (fun w => eqB (refValid_at (TS t) true (by rw [TS_size]; omega) (isTree_TS t ht) w))
    have kp := Lib.hid (fun w => eqB (pairs10_ok t ht w))
    have kx := Lib.hid (fun w => next10_any t (nxT t) ht (nxT_spec t).1 w)
    have kn := Lib.hid (fun w => next_any t (nxT t) ht (nxT_spec t).1 w)
    have hpc : t.pairs ≤ 30 ∧ (∀ w, Calls Try.prog 40 #[.string (TS t)] w fun e w' => e = .returned (.tuple #[.int .i64 (trk t), .int .i64 0]) ∧ Below w.heap.size w w') ∧ (∀ w, Calls Try.prog 38 #[.string (TS t)] w fun e w' => e = .returned (.int .i64 (trk t)) ∧ Below w.heap.size w w') ∨
        30 < t.pairs ∧ ∀ w, Calls Try.prog 40 #[.string (TS t)] w fun e w' => e = .returned (.tuple #[.int .i64 0, .int .i64 3]) ∧ Below w.heap.size w w' := by
      by_cases hp : t.pairs ≤ 30
      · exact .inl ⟨hp, fun w => rank_ok t hp w, fun w => rrank_ok t hp w⟩
      · exact .inr ⟨by omega, fun w => rank_big t ht (by omega) w⟩
    have hzc : ((nxT t).size ≤ 2000000 ∧ nextS (nxT t) = TS (nxT t) ∧ nextE (nxT t) = 0) ∨ (2000000 < (nxT t).size ∧ nextS (nxT t) = ⟨#[]⟩ ∧ nextE (nxT t) = 3) := by
      by_cases hz : (nxT t).size ≤ 2000000
      · exact .inl ⟨hz, nextS_ok hz, nextE_ok hz⟩
      · exact .inr ⟨by omega, nextS_big hz, nextE_big hz⟩
    have hzs : (TS (nxT t)).size = (nxT t).size := TS_size _
    rw [← hzs] at hzc
    clear hzs h1 hs
    generalize TS (nxT t) = u at *
    generalize nextS (nxT t) = v at *
    generalize nextE (nxT t) = e3 at *
    generalize ((trk t : Nat) : Int) = r at *
    generalize TS t = s at *
    clear ht
    rcases hpc with ⟨hp, kr, kq⟩ | ⟨hp, kr⟩
    · rcases hzc with ⟨hz, rfl, rfl⟩ | ⟨hz, rfl, rfl⟩
      · have KR := Lib.hid kr
        have KQ := Lib.hid kq
        have hpI : (t.pairs : Int) ≤ 30 := by omega
        clear kr kq hp
        have hzI : ¬ (2000000 : Int) < v.size := by omega
        clear hz
        generalize (t.pairs : Int) = p at *
        go_enter Try.func5, Try.ntmps5
        go_wp2_with fail
        refine (kv.out _).mono ?_
        rintro e w1 ⟨rfl, hb1⟩
        have HB1 := Lib.hid hb1
        clear hb1
        go_wp2_with fail
        refine (kp.out _).mono ?_
        rintro e w2 ⟨rfl, hb2⟩
        have HB2 := Lib.hid (HB1.out.trans (hb2.mono HB1.out.size))
        clear hb2 HB1
        go_wp2_with fail
        refine (KQ.out _).mono ?_
        rintro e w3 ⟨rfl, hb3⟩
        have HB3 := Lib.hid (HB2.out.trans (hb3.mono HB2.out.size))
        clear hb3 HB2
        go_wp2_with fail
        refine (kx.out _).mono ?_
        rintro e w4 ⟨rfl, hb4⟩
        have HB4 := Lib.hid (HB3.out.trans (hb4.mono HB3.out.size))
        clear hb4 HB3
        go_wp2_with fail
        refine (KR.out _).mono ?_
        rintro e w5 ⟨rfl, hb5⟩
        have HB5 := Lib.hid (HB4.out.trans (hb5.mono HB4.out.size))
        clear hb5 HB4
        go_wp2_with fail
        refine (kn.out _).mono ?_
        rintro e w6 ⟨rfl, hb6⟩
        have HB6 := Lib.hid (HB5.out.trans (hb6.mono HB5.out.size))
        clear hb6 HB5
        go_wp2_with fail
        refine (awake10_any _).mono ?_
        rintro e w7 ⟨rfl, hb7⟩
        have HB7 := Lib.hid (HB6.out.trans (hb7.mono HB6.out.size))
        clear hb7 HB6
        go_wp2
        go_ret
        exact ⟨rfl, HB7.out⟩
      · have KR := Lib.hid kr
        have KQ := Lib.hid kq
        have hpI : (t.pairs : Int) ≤ 30 := by omega
        clear kr kq hp
        have hzI : (2000000 : Int) < u.size := by omega
        clear hz
        generalize (t.pairs : Int) = p at *
        go_enter Try.func5, Try.ntmps5
        go_wp2_with fail
        refine (kv.out _).mono ?_
        rintro e w1 ⟨rfl, hb1⟩
        have HB1 := Lib.hid hb1
        clear hb1
        go_wp2_with fail
        refine (kp.out _).mono ?_
        rintro e w2 ⟨rfl, hb2⟩
        have HB2 := Lib.hid (HB1.out.trans (hb2.mono HB1.out.size))
        clear hb2 HB1
        go_wp2_with fail
        refine (KQ.out _).mono ?_
        rintro e w3 ⟨rfl, hb3⟩
        have HB3 := Lib.hid (HB2.out.trans (hb3.mono HB2.out.size))
        clear hb3 HB2
        go_wp2_with fail
        refine (kx.out _).mono ?_
        rintro e w4 ⟨rfl, hb4⟩
        have HB4 := Lib.hid (HB3.out.trans (hb4.mono HB3.out.size))
        clear hb4 HB3
        go_wp2_with fail
        refine (KR.out _).mono ?_
        rintro e w5 ⟨rfl, hb5⟩
        have HB5 := Lib.hid (HB4.out.trans (hb5.mono HB4.out.size))
        clear hb5 HB4
        go_wp2_with fail
        refine (kn.out _).mono ?_
        rintro e w6 ⟨rfl, hb6⟩
        have HB6 := Lib.hid (HB5.out.trans (hb6.mono HB5.out.size))
        clear hb6 HB5
        go_wp2_with fail
        refine (awake10_any _).mono ?_
        rintro e w7 ⟨rfl, hb7⟩
        have HB7 := Lib.hid (HB6.out.trans (hb7.mono HB6.out.size))
        clear hb7 HB6
        go_wp2
        go_ret
        exact ⟨rfl, HB7.out⟩
    · rcases hzc with ⟨hz, rfl, rfl⟩ | ⟨hz, rfl, rfl⟩
      · have KR := Lib.hid kr
        have hpI : (30 : Int) < t.pairs := by omega
        clear kr hp
        have hzI : ¬ (2000000 : Int) < v.size := by omega
        clear hz
        generalize (t.pairs : Int) = p at *
        go_enter Try.func5, Try.ntmps5
        go_wp2_with fail
        refine (kv.out _).mono ?_
        rintro e w1 ⟨rfl, hb1⟩
        have HB1 := Lib.hid hb1
        clear hb1
        go_wp2_with fail
        refine (kp.out _).mono ?_
        rintro e w2 ⟨rfl, hb2⟩
        have HB2 := Lib.hid (HB1.out.trans (hb2.mono HB1.out.size))
        clear hb2 HB1
        go_wp2_with fail
        refine (kx.out _).mono ?_
        rintro e w3 ⟨rfl, hb3⟩
        have HB3 := Lib.hid (HB2.out.trans (hb3.mono HB2.out.size))
        clear hb3 HB2
        go_wp2_with fail
        refine (KR.out _).mono ?_
        rintro e w4 ⟨rfl, hb4⟩
        have HB4 := Lib.hid (HB3.out.trans (hb4.mono HB3.out.size))
        clear hb4 HB3
        go_wp2_with fail
        refine (kn.out _).mono ?_
        rintro e w5 ⟨rfl, hb5⟩
        have HB5 := Lib.hid (HB4.out.trans (hb5.mono HB4.out.size))
        clear hb5 HB4
        go_wp2_with fail
        refine (awake10_any _).mono ?_
        rintro e w6 ⟨rfl, hb6⟩
        have HB6 := Lib.hid (HB5.out.trans (hb6.mono HB5.out.size))
        clear hb6 HB5
        go_wp2
        go_ret
        exact ⟨rfl, HB6.out⟩
      · have KR := Lib.hid kr
        have hpI : (30 : Int) < t.pairs := by omega
        clear kr hp
        have hzI : (2000000 : Int) < u.size := by omega
        clear hz
        generalize (t.pairs : Int) = p at *
        go_enter Try.func5, Try.ntmps5
        go_wp2_with fail
        refine (kv.out _).mono ?_
        rintro e w1 ⟨rfl, hb1⟩
        have HB1 := Lib.hid hb1
        clear hb1
        go_wp2_with fail
        refine (kp.out _).mono ?_
        rintro e w2 ⟨rfl, hb2⟩
        have HB2 := Lib.hid (HB1.out.trans (hb2.mono HB1.out.size))
        clear hb2 HB1
        go_wp2_with fail
        refine (kx.out _).mono ?_
        rintro e w3 ⟨rfl, hb3⟩
        have HB3 := Lib.hid (HB2.out.trans (hb3.mono HB2.out.size))
        clear hb3 HB2
        go_wp2_with fail
        refine (KR.out _).mono ?_
        rintro e w4 ⟨rfl, hb4⟩
        have HB4 := Lib.hid (HB3.out.trans (hb4.mono HB3.out.size))
        clear hb4 HB3
        go_wp2_with fail
        refine (kn.out _).mono ?_
        rintro e w5 ⟨rfl, hb5⟩
        have HB5 := Lib.hid (HB4.out.trans (hb5.mono HB4.out.size))
        clear hb5 HB4
        go_wp2_with fail
        refine (awake10_any _).mono ?_
        rintro e w6 ⟨rfl, hb6⟩
        have HB6 := Lib.hid (HB5.out.trans (hb6.mono HB5.out.size))
        clear hb6 HB5
        go_wp2
        go_ret
        exact ⟨rfl, HB6.out⟩
  · have kv := Lib.hid (fun w => eqB (refValid_at s false (by omega) hb w))
    have kr := Lib.hid (fun w => rank_bad s (by omega) hb w)
    have kn := Lib.hid (fun w => next_bad s (by omega) hb w)
    clear h1 hs hb
    go_enter Try.func5, Try.ntmps5
    go_wp2_with fail
    refine (kv.out _).mono ?_
    rintro e w1 ⟨rfl, hb1⟩
    have HB1 := Lib.hid hb1
    clear hb1
    go_wp2_with fail
    refine (kr.out _).mono ?_
    rintro e w2 ⟨rfl, hb2⟩
    have HB2 := Lib.hid (HB1.out.trans (hb2.mono HB1.out.size))
    clear hb2 HB1
    go_wp2_with fail
    refine (kn.out _).mono ?_
    rintro e w3 ⟨rfl, hb3⟩
    have HB3 := Lib.hid (HB2.out.trans (hb3.mono HB2.out.size))
    clear hb3 HB2
    go_wp2_with fail
    refine (awake10_any _).mono ?_
    rintro e w4 ⟨rfl, hb4⟩
    have HB4 := Lib.hid (HB3.out.trans (hb4.mono HB3.out.size))
    clear hb4 HB3
    go_wp2
    go_ret
    exact ⟨rfl, HB4.out⟩
end Go.Proofs.Ytdjbcmfjlfkcjaa


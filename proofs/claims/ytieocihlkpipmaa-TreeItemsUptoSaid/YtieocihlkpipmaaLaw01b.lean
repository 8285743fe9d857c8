/- The walks of the laws of narcissuslaw01. -/
import Derived.Test.YtieocihlkpipmaaLaw01
namespace Go.Proofs.Ytieocihlkpipmaa
open Go.RowKit

theorem depth_bad (s : ByteArray) (hs : s.size ≤ 281474976710656) (h : isTree s = false) (w : World) :
    Calls Try.prog 61 #[.string s] w fun e w' => e = .returned (.tuple #[.int .i64 0, .int .i64 1]) ∧ Below w.heap.size w w' := by
  go_enter Try.func61, Try.ntmps61
  go_wp2_with (go_at_call 44; refine (valid_bad s hs h _).mono ?_; rintro e w' ⟨rfl, hb1⟩)
  go_ret2
  exact ⟨rfl, hb1⟩

set_option maxHeartbeats 2000000 in
theorem law_TreeNumbers (n : Int) (hn : -9223372036854775808 ≤ n ∧ n ≤ 9223372036854775807) (w : World) :
    Calls Try.prog 14 #[.int .i64 n] w fun e w' => e = .returned (.bool true) ∧ Below w.heap.size w w' := by
  by_cases h1 : n < 0
  · have c := fun w => number_neg n h1 w
    go_enter Try.func14, Try.ntmps14
    go_wp2_with fail
    refine (c _).mono ?_
    rintro e w1 ⟨rfl, k1⟩
    have c1 := k1
    clear k1
    go_wp2_with fail
    refine (awake01 _).mono ?_
    rintro e w2 ⟨rfl, k2⟩
    have c2 := (c1).trans (k2.mono (c1).size)
    clear c1
    clear k2
    go_wp2
    go_ret
    exact ⟨rfl, c2⟩
  · by_cases h2 : 1000000 < n
    · have c := fun w => number_big n h2 w
      go_enter Try.func14, Try.ntmps14
      go_wp2_with fail
      refine (c _).mono ?_
      rintro e w1 ⟨rfl, k1⟩
      have c1 := k1
      clear k1
      go_wp2_with fail
      refine (awake01 _).mono ?_
      rintro e w2 ⟨rfl, k2⟩
      have c2 := (c1).trans (k2.mono (c1).size)
      clear c1
      clear k2
      go_wp2
      go_ret
      exact ⟨rfl, c2⟩
    · by_cases h3 : n = 1000000
      · subst h3
        have c := fun w => number_edge w
        go_enter Try.func14, Try.ntmps14
        go_wp2_with fail
        refine (c _).mono ?_
        rintro e w1 ⟨rfl, k1⟩
        have c1 := k1
        clear k1
        go_wp2_with fail
        refine (awake01 _).mono ?_
        rintro e w2 ⟨rfl, k2⟩
        have c2 := (c1).trans (k2.mono (c1).size)
        clear c1
        clear k2
        go_wp2
        go_ret
        exact ⟨rfl, c2⟩
      · obtain ⟨m, rfl⟩ := Int.eq_ofNat_of_zero_le (by omega : 0 ≤ n)
        have hm : m < 1000000 := by omega
        have h5 : ¬ (999999 : Int) < m := by omega
        have c := fun w => number_ok m hm w
        have hz : (Tr.num m).size ≤ 2000000 := by rw [size_num]; omega
        have v := fun w => value_num (.num m) hz (Tr.isNum_num m).1 w
        rw [(Tr.isNum_num m).2] at v
        have r := fun w => refNumber_ok m (by omega) w
        have hrr : ((TS (.num m)).toList == (TS (.num m)).toList) = true := by simp
        clear hz hm h2 h3
        generalize TS (.num m) = S at c v r hrr
        go_enter Try.func14, Try.ntmps14
        go_wp2_with fail
        refine (c _).mono ?_
        rintro e w1 ⟨rfl, k1⟩
        have c1 := k1
        clear k1
        go_wp2_with fail
        refine (v _).mono ?_
        rintro e w2 ⟨rfl, k2⟩
        have c2 := (c1).trans (k2.mono (c1).size)
        clear c1
        clear k2
        go_wp2_with fail
        refine (r _).mono ?_
        rintro e w3 ⟨rfl, k3⟩
        have c3 := (c2).trans (k3.mono (c2).size)
        clear c2
        clear k3
        go_wp2_with fail
        refine (awake01 _).mono ?_
        rintro e w4 ⟨rfl, k4⟩
        have c4 := (c3).trans (k4.mono (c3).size)
        clear c3
        clear k4
        go_wp2
        go_ret
        exact ⟨rfl, c4⟩

theorem TS_ne0 (h t : Tr) : (!((TS (.pair h t)).toList == [48])) = true := by rw [TS_pair0]; rfl

set_option maxHeartbeats 2000000 in
theorem law_TreeParts (a : ByteArray) (ha : a.size ≤ 140737488355328) (b : ByteArray) (hb : b.size ≤ 140737488355328) (w : World) :
    Calls Try.prog 13 #[.string a, .string b] w fun e w' => e = .returned (.bool true) ∧ Below w.heap.size w w' := by
  rcases valid_or a (by omega) with ⟨t, rfl, ht⟩ | h1
  · rcases valid_or b (by omega) with ⟨u, rfl, hu⟩ | h2
    · have v1 := fun w => refValid_at (TS t) true (by omega) (isTree_TS t ht) w
      have v2 := fun w => refValid_at (TS u) true (by omega) (isTree_TS u hu) w
      have hrr : ((TS t).toList == (TS t).toList) = true := by simp
      have hru : ((TS u).toList == (TS u).toList) = true := by simp
      by_cases hsz : 2000000 ≤ t.size + u.size
      · have hc := fun w => cons_big t u ht hu hsz w
        clear hsz
        cases t with
        | nil =>
          have h0 := TS_nil0
          go_enter Try.func13, Try.ntmps13
          go_wp2_with fail
          refine (v1 _).mono ?_
          rintro e w1 ⟨rfl, rfl⟩
          go_wp2_with fail
          refine (v2 _).mono ?_
          rintro e w2 ⟨rfl, rfl⟩
          go_wp2_with fail
          refine (hc _).mono ?_
          rintro e w3 ⟨rfl, k3⟩
          have c3 := k3
          clear k3
          go_wp2_with fail
          refine (awake01 _).mono ?_
          rintro e w4 ⟨rfl, k4⟩
          have c4 := (c3).trans (k4.mono (c3).size)
          clear c3
          clear k4
          go_wp2
          go_ret
          exact ⟨rfl, c4⟩
        | pair x y =>
          have h0 := TS_pair0 x y
          have d1 := fun w => head_ok (.pair x y) ht w
          have d2 := fun w => tail_ok (.pair x y) ht w
          have hxy : (Tr.pair x y).size = 1 + x.size + y.size := rfl
          have d3 := fun w => cons_ok x y (by omega) (by omega) (by omega) w
          clear hxy
          go_enter Try.func13, Try.ntmps13
          go_wp2_with fail
          refine (v1 _).mono ?_
          rintro e w1 ⟨rfl, rfl⟩
          go_wp2_with fail
          refine (v2 _).mono ?_
          rintro e w2 ⟨rfl, rfl⟩
          go_wp2_with fail
          refine (d1 _).mono ?_
          rintro e w3 ⟨rfl, k3⟩
          have c3 := k3
          clear k3
          go_wp2_with fail
          refine (d2 _).mono ?_
          rintro e w4 ⟨rfl, k4⟩
          have c4 := (c3).trans (k4.mono (c3).size)
          clear c3
          clear k4
          go_wp2_with fail
          refine (d3 _).mono ?_
          rintro e w5 ⟨rfl, k5⟩
          have c5 := (c4).trans (k5.mono (c4).size)
          clear c4
          clear k5
          go_wp2_with fail
          refine (hc _).mono ?_
          rintro e w6 ⟨rfl, k6⟩
          have c6 := (c5).trans (k6.mono (c5).size)
          clear c5
          clear k6
          go_wp2_with fail
          refine (awake01 _).mono ?_
          rintro e w7 ⟨rfl, k7⟩
          have c7 := (c6).trans (k7.mono (c6).size)
          clear c6
          clear k7
          go_wp2
          go_ret
          exact ⟨rfl, c7⟩
      · have hpz : (Tr.pair t u).size ≤ 2000000 := by simp only [Tr.size]; omega
        have hc := fun w => cons_ok t u ht hu (by omega) w
        have e1 := fun w => head_ok (.pair t u) hpz w
        have e2 := fun w => tail_ok (.pair t u) hpz w
        clear hsz hpz
        cases t with
        | nil =>
          have h0 := TS_nil0
          go_enter Try.func13, Try.ntmps13
          go_wp2_with fail
          refine (v1 _).mono ?_
          rintro e w1 ⟨rfl, rfl⟩
          go_wp2_with fail
          refine (v2 _).mono ?_
          rintro e w2 ⟨rfl, rfl⟩
          go_wp2_with fail
          refine (hc _).mono ?_
          rintro e w3 ⟨rfl, k3⟩
          have c3 := k3
          clear k3
          go_wp2_with fail
          refine (e1 _).mono ?_
          rintro e w4 ⟨rfl, k4⟩
          have c4 := (c3).trans (k4.mono (c3).size)
          clear c3
          clear k4
          go_wp2_with fail
          refine (e2 _).mono ?_
          rintro e w5 ⟨rfl, k5⟩
          have c5 := (c4).trans (k5.mono (c4).size)
          clear c4
          clear k5
          go_wp2_with fail
          refine (awake01 _).mono ?_
          rintro e w6 ⟨rfl, k6⟩
          have c6 := (c5).trans (k6.mono (c5).size)
          clear c5
          clear k6
          go_wp2
          go_ret
          exact ⟨rfl, c6⟩
        | pair x y =>
          have h0 := TS_pair0 x y
          have d1 := fun w => head_ok (.pair x y) ht w
          have d2 := fun w => tail_ok (.pair x y) ht w
          have hxy : (Tr.pair x y).size = 1 + x.size + y.size := rfl
          have d3 := fun w => cons_ok x y (by omega) (by omega) (by omega) w
          clear hxy
          go_enter Try.func13, Try.ntmps13
          go_wp2_with fail
          refine (v1 _).mono ?_
          rintro e w1 ⟨rfl, rfl⟩
          go_wp2_with fail
          refine (v2 _).mono ?_
          rintro e w2 ⟨rfl, rfl⟩
          go_wp2_with fail
          refine (d1 _).mono ?_
          rintro e w3 ⟨rfl, k3⟩
          have c3 := k3
          clear k3
          go_wp2_with fail
          refine (d2 _).mono ?_
          rintro e w4 ⟨rfl, k4⟩
          have c4 := (c3).trans (k4.mono (c3).size)
          clear c3
          clear k4
          go_wp2_with fail
          refine (d3 _).mono ?_
          rintro e w5 ⟨rfl, k5⟩
          have c5 := (c4).trans (k5.mono (c4).size)
          clear c4
          clear k5
          go_wp2_with fail
          refine (hc _).mono ?_
          rintro e w6 ⟨rfl, k6⟩
          have c6 := (c5).trans (k6.mono (c5).size)
          clear c5
          clear k6
          go_wp2_with fail
          refine (e1 _).mono ?_
          rintro e w7 ⟨rfl, k7⟩
          have c7 := (c6).trans (k7.mono (c6).size)
          clear c6
          clear k7
          go_wp2_with fail
          refine (e2 _).mono ?_
          rintro e w8 ⟨rfl, k8⟩
          have c8 := (c7).trans (k8.mono (c7).size)
          clear c7
          clear k8
          go_wp2_with fail
          refine (awake01 _).mono ?_
          rintro e w9 ⟨rfl, k9⟩
          have c9 := (c8).trans (k9.mono (c8).size)
          clear c8
          clear k9
          go_wp2
          go_ret
          exact ⟨rfl, c9⟩
    · have v1 := fun w => refValid_at (TS t) true (by omega) (isTree_TS t ht) w
      have v2 := fun w => refValid_at b false (by omega) h2 w
      clear h2
      go_enter Try.func13, Try.ntmps13
      go_wp2_with fail
      refine (v1 _).mono ?_
      rintro e w1 ⟨rfl, rfl⟩
      go_wp2_with fail
      refine (v2 _).mono ?_
      rintro e w2 ⟨rfl, rfl⟩
      go_wp2_with fail
      refine (awake01 _).mono ?_
      rintro e w3 ⟨rfl, k3⟩
      have c3 := k3
      clear k3
      go_wp2
      go_ret
      exact ⟨rfl, c3⟩
  · have v1 := fun w => refValid_at a false (by omega) h1 w
    clear h1
    go_enter Try.func13, Try.ntmps13
    go_wp2_with fail
    refine (v1 _).mono ?_
    rintro e w1 ⟨rfl, rfl⟩
    go_wp2_with fail
    refine (awake01 _).mono ?_
    rintro e w2 ⟨rfl, k2⟩
    have c2 := k2
    clear k2
    go_wp2
    go_ret
    exact ⟨rfl, c2⟩

set_option maxHeartbeats 2000000 in
theorem law_TreeDepths (a : ByteArray) (ha : a.size ≤ 140737488355328) (b : ByteArray) (hb : b.size ≤ 140737488355328) (w : World) :
    Calls Try.prog 18 #[.string a, .string b] w fun e w' => e = .returned (.bool true) ∧ Below w.heap.size w w' := by
  rcases valid_or a (by omega) with ⟨t, rfl, ht⟩ | h1
  · rcases valid_or b (by omega) with ⟨u, rfl, hu⟩ | h2
    · by_cases hsz : 2000000 ≤ t.size + u.size
      · have hc := fun w => cons_big t u ht hu hsz w
        clear hsz
        go_enter Try.func18, Try.ntmps18
        go_wp2_with fail
        refine (hc _).mono ?_
        rintro e w1 ⟨rfl, k1⟩
        have c1 := k1
        clear k1
        go_wp2_with fail
        refine (awake01 _).mono ?_
        rintro e w2 ⟨rfl, k2⟩
        have c2 := (c1).trans (k2.mono (c1).size)
        clear c1
        clear k2
        go_wp2
        go_ret
        exact ⟨rfl, c2⟩
      · have hpz : (Tr.pair t u).size ≤ 2000000 := by simp only [Tr.size]; omega
        have hc := fun w => cons_ok t u ht hu (by omega) w
        have d1 := fun w => treeDepth_ok t ht w
        have d2 := fun w => treeDepth_ok u hu w
        have d3 := fun w => treeDepth_ok (.pair t u) hpz w
        have e1 := fun w => pairs_ok t ht w
        have e2 := fun w => pairs_ok u hu w
        have e3 := fun w => pairs_ok (.pair t u) hpz w
        have b1 := t.depth_le
        have b2 := u.depth_le
        have b3 := t.size_pairs
        have b4 := u.size_pairs
        have f1 : ((Tr.pair t u).depth : Int) = 1 + max (t.depth : Int) (u.depth : Int) := by simp only [Tr.depth]; omega
        have f2 : ((Tr.pair t u).pairs : Int) = 1 + t.pairs + u.pairs := by simp only [Tr.pairs]; omega
        have g1 : (t.depth : Int) ≤ 2000000 := by omega
        have g2 : (u.depth : Int) ≤ 2000000 := by omega
        have g3 : (t.pairs : Int) ≤ 2000000 := by omega
        have g4 : (u.pairs : Int) ≤ 2000000 := by omega
        clear hsz hpz b1 b2 b3 b4
        rw [f1] at d3
        rw [f2] at e3
        clear f1 f2
        have hw : wrap64 (1 + max (t.depth : Int) (u.depth : Int)) = 1 + max (t.depth : Int) (u.depth : Int) := by unfold wrap64; omega
        obtain ⟨dd, hdd⟩ : ∃ d : Int, 1 + max (t.depth : Int) (u.depth : Int) = d := ⟨_, rfl⟩
        rw [hdd] at hw d3
        go_enter Try.func18, Try.ntmps18
        go_wp2_with fail
        refine (hc _).mono ?_
        rintro e w1 ⟨rfl, k1⟩
        have c1 := k1
        clear k1
        go_wp2_with fail
        refine (d1 _).mono ?_
        rintro e w2 ⟨rfl, k2⟩
        have c2 := (c1).trans (k2.mono (c1).size)
        clear c1
        clear k2
        go_wp2_with fail
        refine (d2 _).mono ?_
        rintro e w3 ⟨rfl, k3⟩
        have c3 := (c2).trans (k3.mono (c2).size)
        clear c2
        clear k3
        go_wp2_with fail
        refine (d3 _).mono ?_
        rintro e w4 ⟨rfl, k4⟩
        have c4 := (c3).trans (k4.mono (c3).size)
        clear c3
        clear k4
        go_wp2_with fail
        refine (e1 _).mono ?_
        rintro e w5 ⟨rfl, k5⟩
        have c5 := (c4).trans (k5.mono (c4).size)
        clear c4
        clear k5
        go_wp2_with fail
        refine (e2 _).mono ?_
        rintro e w6 ⟨rfl, k6⟩
        have c6 := (c5).trans (k6.mono (c5).size)
        clear c5
        clear k6
        go_wp2_with fail
        refine (e3 _).mono ?_
        rintro e w7 ⟨rfl, k7⟩
        have c7 := (c6).trans (k7.mono (c6).size)
        clear c6
        clear k7
        go_wp2_with fail
        refine (awake01 _).mono ?_
        rintro e w8 ⟨rfl, k8⟩
        have c8 := (c7).trans (k8.mono (c7).size)
        clear c7
        clear k8
        go_wp2
        go_ret
        exact ⟨rfl, c8⟩
    · have hc := fun w => cons_bad2 t b ht (by omega) h2 w
      clear h2
      go_enter Try.func18, Try.ntmps18
      go_wp2_with fail
      refine (hc _).mono ?_
      rintro e w1 ⟨rfl, k1⟩
      have c1 := k1
      clear k1
      go_wp2_with fail
      refine (awake01 _).mono ?_
      rintro e w2 ⟨rfl, k2⟩
      have c2 := (c1).trans (k2.mono (c1).size)
      clear c1
      clear k2
      go_wp2
      go_ret
      exact ⟨rfl, c2⟩
  · have hc := fun w => cons_bad1 a b (by omega) h1 w
    clear h1
    go_enter Try.func18, Try.ntmps18
    go_wp2_with fail
    refine (hc _).mono ?_
    rintro e w1 ⟨rfl, k1⟩
    have c1 := k1
    clear k1
    go_wp2_with fail
    refine (awake01 _).mono ?_
    rintro e w2 ⟨rfl, k2⟩
    have c2 := (c1).trans (k2.mono (c1).size)
    clear c1
    clear k2
    go_wp2
    go_ret
    exact ⟨rfl, c2⟩

end Go.Proofs.Ytieocihlkpipmaa

/- law10: OrderNumbers, OrderAfter. -/
import Derived.Test.YtdjbcmfjlfkcjaaOrd7
namespace Go.Proofs.Ytdjbcmfjlfkcjaa
open Go.RowKit

theorem eqB {f : Nat} {args : Array Value} {x : Ending} {w : World} (h : Calls Try.prog f args w fun e w' => e = x ∧ w = w') : Calls Try.prog f args w fun e w' => e = x ∧ Below w.heap.size w w' :=
  h.mono fun _ _ h => ⟨h.1, h.2 ▸ Below.refl _ _⟩
theorem bytesLess_iff : ∀ l m : List UInt8, Op.bytesLess l m = decide (l < m)
  | l, [] => by cases l <;> simp [Op.bytesLess]
  | [], b :: m => by simp [Op.bytesLess]
  | a :: l, b :: m => by
    rw [Op.bytesLess, bytesLess_iff l m]
    by_cases h1 : a < b
    · have : a :: l < b :: m := List.cons_lt_cons_iff.2 (.inl h1)
      simp [h1, this]
    · by_cases h2 : a = b
      · subst h2
        by_cases h3 : l < m
        · have : a :: l < a :: m := List.cons_lt_cons_iff.2 (.inr ⟨rfl, h3⟩)
          simp [h3, this]
        · have : ¬ a :: l < a :: m := fun h => by
            rcases List.cons_lt_cons_iff.1 h with h | ⟨_, h⟩
            · exact h1 h
            · exact h3 h
          rw [decide_eq_false h3, decide_eq_false this]
          simp
      · have : ¬ a :: l < b :: m := fun h => by
          rcases List.cons_lt_cons_iff.1 h with h | ⟨h, _⟩
          · exact h1 h
          · exact h2 h
        simp [h1, h2, this]
/-- The order of trees is that of their ranks. -/
theorem befB_TS (t u : Tr) : befB (TS t) (TS u) = decide (trk t < trk u) := by
  unfold befB
  rw [TS_size, TS_size, bytesLess_iff, ByteArray.toList_eq, ByteArray.toList_eq, TS_list, TS_list]
  by_cases h : trk t < trk u
  · rw [decide_eq_true h]
    rcases trk_order.1 h with h1 | ⟨h1, h2⟩
    · simp [h1]
    · simp [h1, h2]
  · rw [decide_eq_false h]
    have h1 : ¬ t.size < u.size := fun e => h (trk_order.2 (.inl e))
    by_cases h2 : t.size = u.size
    · have h3 : ¬ t.enc < u.enc := fun e => h (trk_order.2 (.inr ⟨h2, e⟩))
      rw [decide_eq_false h1, decide_eq_false h3]
      simp
    · simp [h1, h2]
theorem before_TS (t u : Tr) (ht : t.size ≤ 2000000) (hu : u.size ≤ 2000000) (b : Bool) (hb : decide (trk t < trk u) = b) (w : World) :
    Calls Try.prog 48 #[.string (TS t), .string (TS u)] w fun e w' => e = .returned (.bool b) ∧ Below w.heap.size w w' := by
  rw [← hb, ← befB_TS]
  exact eqB (before10_any _ _ (by rw [TS_size]; omega) (by rw [TS_size]; omega) w)
theorem trk_num (k : Nat) : trk (.num k) = wsum k := by
  unfold trk
  rw [pairs_num, enc_num, (lst_last k).2, Nat.add_zero]
theorem rank_at (t : Tr) (hp : t.pairs ≤ 30) (r : Nat) (hr : trk t = r) (w : World) :
    Calls Try.prog 40 #[.string (TS t)] w fun e w' => e = .returned (.tuple #[.int .i64 r, .int .i64 0]) ∧ Below w.heap.size w w' := by
  rw [← hr]
  exact rank_ok t hp w
theorem unrank_at (n : Int) (r : Nat) (hn : n = r) (hr : r < wsum 31) (w : World) :
    Calls Try.prog 43 #[.int .i64 n] w fun e w' => e = .returned (.tuple #[.string (TS (seqT r)), .int .i64 0]) ∧ Below w.heap.size w w' := by
  subst hn
  exact unrank_ok r hr w

set_option maxRecDepth 20000 in
set_option maxHeartbeats 4000000 in
theorem law_OrderNumbers (n : Int) (hn : -9223372036854775808 ≤ n ∧ n ≤ 9223372036854775807) (w : World) :
    Calls Try.prog 13 #[.int .i64 n] w fun e w' => e = .returned (.bool true) ∧ Below w.heap.size w w' := by
  by_cases h0 : n < 1
  · clear hn
    go_enter Try.func13, Try.ntmps13
    go_wp2_with fail
    refine (awake10_any _).mono ?_
    rintro e w1 ⟨rfl, hb1⟩
    have HB1 := Lib.hid hb1
    clear hb1
    go_wp2
    go_ret
    exact ⟨rfl, HB1.out⟩
  by_cases h1 : 30 < n
  · have h0' : ¬ n < 1 := by omega
    clear hn h0
    go_enter Try.func13, Try.ntmps13
    go_wp2_with fail
    refine (awake10_any _).mono ?_
    rintro e w1 ⟨rfl, hb1⟩
    have HB1 := Lib.hid hb1
    clear hb1
    go_wp2
    go_ret
    exact ⟨rfl, HB1.out⟩
  obtain ⟨k, rfl⟩ : ∃ k : Nat, n = k := ⟨n.toNat, by omega⟩
  have hk : k ≤ 30 ∧ 1 ≤ k := by omega
  have hkI : (1 : Int) ≤ k ∧ (k : Int) ≤ 30 := by omega
  clear hn h0 h1
  have h1 := wsum_mono (show 1 ≤ k by omega)
  have h2 : wsum 1 = 1 := by simp [wsum, wy_zero]
  have h3 : wsum k < wsum 31 := Nat.lt_of_lt_of_le (wsum_step k) (wsum_mono (by omega))
  have h4 := wsum_lt (k := 31) (by omega)
  obtain ⟨R, hR⟩ : ∃ R, wsum k = R + 1 := ⟨wsum k - 1, by omega⟩
  have HM := Lib.hid (fun i (hi : i ≤ k) => Nat.lt_of_le_of_lt (wsum_mono hi) (Nat.lt_of_lt_of_le h3 h4))
  have kN := Lib.hid (fun w => refNumber_ok k (by omega) w)
  have kR := Lib.hid (fun w => rank_at (.num k) (by rw [pairs_num]; omega) (R + 1) (by rw [trk_num, hR]) w)
  have kU := Lib.hid (fun w => unrank_at ((R : Int) + 1 - 1) R (by omega) (by omega) w)
  have hsq : seqT (R + 1) = .num k := by rw [← hR, ← trk_num, seq_trk]
  have kX := Lib.hid (fun w => next_seq R 30 (by omega) (show R < wsum 31 from by omega) w)
  rw [hsq] at kX
  have HR := Lib.hid hR
  clear h1 h2 h3 h4 hR hsq
  generalize TS (.num k) = s at *
  generalize TS (seqT R) = u at *
  go_enter Try.func13, Try.ntmps13
  go_wp2
  go_loopg [3, 4] k (fun gg s j wr => ∃ i : Nat, i ≤ k ∧ gg = k - i ∧ s = .int .i64 (wsum i : Nat) ∧ j = .int .i64 (i : Int) ∧ Hid (Below w.heap.size w wr))
  case atStart => exact ⟨0, by omega, rfl, rfl, rfl, Lib.hid (Below.refl _ _)⟩
  case round =>
    obtain ⟨i, hi, hgg, rfl, rfl, HB1⟩ := hrel
    have HGG := Lib.hid hgg; clear hgg
    have hi0 : (0 : Int) ≤ i := by omega
    by_cases hlt : i < k
    · have hiI : (i : Int) < k := by omega
      have k1 := Lib.hid (fun w => count_ok i (by omega) w)
      have h1 := HM.out (i + 1) (by omega)
      have h2 : wsum (i + 1) = wsum i + wy i 1 := rfl
      obtain ⟨s, hs⟩ : ∃ s : Int, ((wsum i : Nat) : Int) = s := ⟨_, rfl⟩
      obtain ⟨x, hx⟩ : ∃ x : Int, ((wy i 1 : Nat) : Int) = x := ⟨_, rfl⟩
      have hsx : 0 ≤ s ∧ 0 ≤ x ∧ s + x < 4611686018427387904 := by omega
      have hnew : s + x = ((wsum (i + 1) : Nat) : Int) := by omega
      rw [hx] at k1
      rw [hs]
      have HNEW := Lib.hid hnew
      clear h1 h2 hs hx hnew
      go_wp2_with fail
      refine (k1.out _).mono ?_
      rintro e w2 ⟨rfl, hb2⟩
      have HB2 := Lib.hid (HB1.out.trans (hb2.mono HB1.out.size))
      clear hb2 HB1
      go_wp2
      go_roundg (k - (i + 1))
      case measure => rw [HGG.out]; omega
      case rel => exact ⟨i + 1, by omega, rfl, by rw [← HNEW.out], by go_num, HB2⟩
    · obtain rfl : i = k := by omega
      have h1 := HM.out i (by omega)
      rw [HR.out] at h1 ⊢
      obtain ⟨x, hx⟩ : ∃ x : Int, ((R : Nat) : Int) + 1 = x := ⟨_, rfl⟩
      have hc : ((R + 1 : Nat) : Int) = x := by rw [← hx]; rfl
      rw [hx] at kU
      rw [hc] at kR
      rw [hc]
      have hxI : 0 ≤ x ∧ x < 4611686018427387904 := by omega
      clear h1 hx hc HM HR hk
      go_wp2_with fail
      refine (kN.out _).mono ?_
      rintro e w2 ⟨rfl, hb2⟩
      have HB2 := Lib.hid (HB1.out.trans (hb2.mono HB1.out.size))
      clear hb2 HB1
      go_wp2_with fail
      refine (kR.out _).mono ?_
      rintro e w3 ⟨rfl, hb3⟩
      have HB3 := Lib.hid (HB2.out.trans (hb3.mono HB2.out.size))
      clear hb3 HB2
      go_wp2_with fail
      refine (kU.out _).mono ?_
      rintro e w4 ⟨rfl, hb4⟩
      have HB4 := Lib.hid (HB3.out.trans (hb4.mono HB3.out.size))
      clear hb4 HB3
      go_wp2_with fail
      refine (kX.out _).mono ?_
      rintro e w5 ⟨rfl, hb5⟩
      have HB5 := Lib.hid (HB4.out.trans (hb5.mono HB4.out.size))
      clear hb5 HB4
      go_wp2_with fail
      refine (kN.out _).mono ?_
      rintro e w6 ⟨rfl, hb6⟩
      have HB6 := Lib.hid (HB5.out.trans (hb6.mono HB5.out.size))
      clear hb6 HB5
      go_wp2_with fail
      refine (awake10_any _).mono ?_
      rintro e w7 ⟨rfl, hb7⟩
      have HB7 := Lib.hid (HB6.out.trans (hb7.mono HB6.out.size))
      clear hb7 HB6
      go_wp2
      go_ret
      exact ⟨rfl, HB7.out⟩
/-- What OrderAfter asks of Rank. -/
def rnk (t : Tr) : Int := if t.pairs ≤ 30 then (trk t : Nat) else 0
def rnkE (t : Tr) : Int := if t.pairs ≤ 30 then 0 else 3
theorem rank_of (t : Tr) (ht : t.size ≤ 2000000) (a e : Int) (ha : rnk t = a) (he : rnkE t = e) (w : World) :
    Calls Try.prog 40 #[.string (TS t)] w fun x w' => x = .returned (.tuple #[.int .i64 a, .int .i64 e]) ∧ Below w.heap.size w w' := by
  subst ha he
  unfold rnk rnkE
  by_cases hp : t.pairs ≤ 30
  · rw [if_pos hp, if_pos hp]; exact rank_ok t hp w
  · rw [if_neg hp, if_neg hp]; exact rank_big t ht (by omega) w
theorem pairs_mono {t u : Tr} (h : trk t ≤ trk u) : t.pairs ≤ u.pairs := by
  rcases Nat.lt_or_ge u.pairs t.pairs with h1 | h1
  · have h2 := trk_lt t
    have h3 := trk_lt u
    have := wsum_mono (show u.pairs + 1 ≤ t.pairs from h1)
    omega
  · exact h1
theorem nxT_size (t : Tr) : (nxT t).size ≤ t.size + 2 := by
  have h := tnx_len t (nxT t) (nxT_spec t).1
  cases hx : nxt 1 t.enc with
  | none => have := h.1 hx; omega
  | some m => have := (h.2 m hx).1; omega

set_option maxRecDepth 20000 in
set_option maxHeartbeats 4000000 in
theorem afterO_ok (t u : Tr) (ht : t.size ≤ 1000000) (hu : u.size ≤ 1000000) (b1 b2 : Bool) (h1 : decide (trk t < trk u) = b1) (h2 : decide (trk u < trk (nxT t)) = b2) (h12 : b1 = false ∨ b2 = false)
    (a1 e1 a2 e2 : Int) (hr : (e1 = 0 ∧ e2 = 0 ∧ a2 = a1 + 1 ∧ 0 ≤ a1 ∧ a1 < 4611686018427387904) ∨ (e1 = 0 ∧ e2 = 3) ∨ (e1 = 3 ∧ e2 = 3)) (hr1 : rnk t = a1) (he1 : rnkE t = e1) (hr2 : rnk (nxT t) = a2) (he2 : rnkE (nxT t) = e2) (w : World) :
    Calls Try.prog 9 #[.string (TS t), .string (TS u)] w fun e w' => e = .returned (.bool true) ∧ Below w.heap.size w w' := by
  have hz := nxT_size t
  have hs1 : ((TS t).size : Int) ≤ 1000000 := by rw [TS_size]; omega
  have hs2 : ((TS u).size : Int) ≤ 1000000 := by rw [TS_size]; omega
  have kv1 := Lib.hid (fun w => eqB (refValid_at (TS t) true (by rw [TS_size]; omega) (isTree_TS t (by omega)) w))
  have kv2 := Lib.hid (fun w => eqB (refValid_at (TS u) true (by rw [TS_size]; omega) (isTree_TS u (by omega)) w))
  have kv3 := Lib.hid (fun w => eqB (refValid_at (TS (nxT t)) true (by rw [TS_size]; omega) (isTree_TS (nxT t) (by omega)) w))
  have kn := Lib.hid (fun w => by have := next_any t (nxT t) (by omega) (nxT_spec t).1 w; rwa [nextS_ok (by omega), nextE_ok (by omega)] at this)
  have kb0 := Lib.hid (fun w => before_TS t (nxT t) (by omega) (by omega) true (decide_eq_true (by rw [(nxT_spec t).2]; omega)) w)
  have kb1 := Lib.hid (fun w => before_TS t u (by omega) (by omega) b1 h1 w)
  have kb2 := Lib.hid (fun w => before_TS u (nxT t) (by omega) (by omega) b2 h2 w)
  have kr1 := Lib.hid (fun w => rank_of t (by omega) a1 e1 hr1 he1 w)
  have kr2 := Lib.hid (fun w => rank_of (nxT t) (by omega) a2 e2 hr2 he2 w)
  clear hz ht hu h1 h2 hr1 he1 hr2 he2
  generalize TS (nxT t) = s3 at *
  generalize TS t = s1 at *
  generalize TS u = s2 at *
  go_enter Try.func9, Try.ntmps9
  go_wp2_with fail
  refine (kv1.out _).mono ?_
  rintro e w1 ⟨rfl, hb1⟩
  have HB1 := Lib.hid hb1
  clear hb1
  go_wp2_with fail
  refine (kv2.out _).mono ?_
  rintro e w2 ⟨rfl, hb2⟩
  have HB2 := Lib.hid (HB1.out.trans (hb2.mono HB1.out.size))
  clear hb2 HB1
  go_wp2_with fail
  refine (kn.out _).mono ?_
  rintro e w3 ⟨rfl, hb3⟩
  have HB3 := Lib.hid (HB2.out.trans (hb3.mono HB2.out.size))
  clear hb3 HB2
  go_wp2_with fail
  refine (kv3.out _).mono ?_
  rintro e w4 ⟨rfl, hb4⟩
  have HB4 := Lib.hid (HB3.out.trans (hb4.mono HB3.out.size))
  clear hb4 HB3
  go_wp2_with fail
  refine (kb0.out _).mono ?_
  rintro e w5 ⟨rfl, hb5⟩
  have HB5 := Lib.hid (HB4.out.trans (hb5.mono HB4.out.size))
  clear hb5 HB4
  go_wp2_with fail
  refine (kb1.out _).mono ?_
  rintro e w6 ⟨rfl, hb6⟩
  have HB6 := Lib.hid (HB5.out.trans (hb6.mono HB5.out.size))
  clear hb6 HB5
  cases b1 with
  | false =>
    rcases hr with ⟨rfl, rfl, rfl, hr1, hr2⟩ | ⟨rfl, rfl⟩ | ⟨rfl, rfl⟩
    · go_wp2_with fail
      refine (kr1.out _).mono ?_
      rintro e w7 ⟨rfl, hb7⟩
      have HB7 := Lib.hid (HB6.out.trans (hb7.mono HB6.out.size))
      clear hb7 HB6
      go_wp2_with fail
      refine (kr2.out _).mono ?_
      rintro e w8 ⟨rfl, hb8⟩
      have HB8 := Lib.hid (HB7.out.trans (hb8.mono HB7.out.size))
      clear hb8 HB7
      go_wp2_with fail
      refine (awake10_any _).mono ?_
      rintro e w9 ⟨rfl, hb9⟩
      have HB9 := Lib.hid (HB8.out.trans (hb9.mono HB8.out.size))
      clear hb9 HB8
      go_wp2
      go_ret
      exact ⟨rfl, HB9.out⟩
    · go_wp2_with fail
      refine (kr1.out _).mono ?_
      rintro e w7 ⟨rfl, hb7⟩
      have HB7 := Lib.hid (HB6.out.trans (hb7.mono HB6.out.size))
      clear hb7 HB6
      go_wp2_with fail
      refine (kr2.out _).mono ?_
      rintro e w8 ⟨rfl, hb8⟩
      have HB8 := Lib.hid (HB7.out.trans (hb8.mono HB7.out.size))
      clear hb8 HB7
      go_wp2_with fail
      refine (awake10_any _).mono ?_
      rintro e w9 ⟨rfl, hb9⟩
      have HB9 := Lib.hid (HB8.out.trans (hb9.mono HB8.out.size))
      clear hb9 HB8
      go_wp2
      go_ret
      exact ⟨rfl, HB9.out⟩
    · go_wp2_with fail
      refine (kr1.out _).mono ?_
      rintro e w7 ⟨rfl, hb7⟩
      have HB7 := Lib.hid (HB6.out.trans (hb7.mono HB6.out.size))
      clear hb7 HB6
      go_wp2_with fail
      refine (kr2.out _).mono ?_
      rintro e w8 ⟨rfl, hb8⟩
      have HB8 := Lib.hid (HB7.out.trans (hb8.mono HB7.out.size))
      clear hb8 HB7
      go_wp2_with fail
      refine (awake10_any _).mono ?_
      rintro e w9 ⟨rfl, hb9⟩
      have HB9 := Lib.hid (HB8.out.trans (hb9.mono HB8.out.size))
      clear hb9 HB8
      go_wp2
      go_ret
      exact ⟨rfl, HB9.out⟩
  | true =>
    obtain rfl : b2 = false := by rcases h12 with h | h; · cases h
                                  · exact h
    go_wp2_with fail
    refine (kb2.out _).mono ?_
    rintro e w7 ⟨rfl, hb7⟩
    have HB7 := Lib.hid (HB6.out.trans (hb7.mono HB6.out.size))
    clear hb7 HB6
    rcases hr with ⟨rfl, rfl, rfl, hr1, hr2⟩ | ⟨rfl, rfl⟩ | ⟨rfl, rfl⟩
    · go_wp2_with fail
      refine (kr1.out _).mono ?_
      rintro e w8 ⟨rfl, hb8⟩
      have HB8 := Lib.hid (HB7.out.trans (hb8.mono HB7.out.size))
      clear hb8 HB7
      go_wp2_with fail
      refine (kr2.out _).mono ?_
      rintro e w9 ⟨rfl, hb9⟩
      have HB9 := Lib.hid (HB8.out.trans (hb9.mono HB8.out.size))
      clear hb9 HB8
      go_wp2_with fail
      refine (awake10_any _).mono ?_
      rintro e w10 ⟨rfl, hb10⟩
      have HB10 := Lib.hid (HB9.out.trans (hb10.mono HB9.out.size))
      clear hb10 HB9
      go_wp2
      go_ret
      exact ⟨rfl, HB10.out⟩
    · go_wp2_with fail
      refine (kr1.out _).mono ?_
      rintro e w8 ⟨rfl, hb8⟩
      have HB8 := Lib.hid (HB7.out.trans (hb8.mono HB7.out.size))
      clear hb8 HB7
      go_wp2_with fail
      refine (kr2.out _).mono ?_
      rintro e w9 ⟨rfl, hb9⟩
      have HB9 := Lib.hid (HB8.out.trans (hb9.mono HB8.out.size))
      clear hb9 HB8
      go_wp2_with fail
      refine (awake10_any _).mono ?_
      rintro e w10 ⟨rfl, hb10⟩
      have HB10 := Lib.hid (HB9.out.trans (hb10.mono HB9.out.size))
      clear hb10 HB9
      go_wp2
      go_ret
      exact ⟨rfl, HB10.out⟩
    · go_wp2_with fail
      refine (kr1.out _).mono ?_
      rintro e w8 ⟨rfl, hb8⟩
      have HB8 := Lib.hid (HB7.out.trans (hb8.mono HB7.out.size))
      clear hb8 HB7
      go_wp2_with fail
      refine (kr2.out _).mono ?_
      rintro e w9 ⟨rfl, hb9⟩
      have HB9 := Lib.hid (HB8.out.trans (hb9.mono HB8.out.size))
      clear hb9 HB8
      go_wp2_with fail
      refine (awake10_any _).mono ?_
      rintro e w10 ⟨rfl, hb10⟩
      have HB10 := Lib.hid (HB9.out.trans (hb10.mono HB9.out.size))
      clear hb10 HB9
      go_wp2
      go_ret
      exact ⟨rfl, HB10.out⟩
set_option maxRecDepth 20000 in
set_option maxHeartbeats 4000000 in
theorem law_OrderAfter (s : ByteArray) (hs : s.size ≤ 140737488355328) (t : ByteArray) (ht : t.size ≤ 140737488355328) (w : World) :
    Calls Try.prog 9 #[.string s, .string t] w fun e w' => e = .returned (.bool true) ∧ Below w.heap.size w w' := by
  by_cases h1 : (1000000 : Int) < s.size
  · clear ht
    go_enter Try.func9, Try.ntmps9
    go_wp2_with fail
    refine (awake10_any _).mono ?_
    rintro e w1 ⟨rfl, hb1⟩
    have HB1 := Lib.hid hb1
    clear hb1
    go_wp2
    go_ret
    exact ⟨rfl, HB1.out⟩
  by_cases h2 : (1000000 : Int) < t.size
  · have h1' : (s.size : Int) ≤ 1000000 := by omega
    clear h1 hs
    go_enter Try.func9, Try.ntmps9
    go_wp2_with fail
    refine (awake10_any _).mono ?_
    rintro e w1 ⟨rfl, hb1⟩
    have HB1 := Lib.hid hb1
    clear hb1
    go_wp2
    go_ret
    exact ⟨rfl, HB1.out⟩
  have h1' : (s.size : Int) ≤ 1000000 := by omega
  have h2' : (t.size : Int) ≤ 1000000 := by omega
  rcases valid_or s (by omega) with ⟨x, rfl, hx⟩ | hb
  · rcases valid_or t (by omega) with ⟨y, rfl, hy⟩ | hb
    · rw [TS_size] at h1' h2'
      have hx1 := (nxT_spec x).2
      refine afterO_ok x y (by omega) (by omega) _ _ rfl rfl ?_ _ _ _ _ ?_ rfl rfl rfl rfl w
      · by_cases h : trk x < trk y
        · exact .inr (decide_eq_false (by omega))
        · exact .inl (decide_eq_false h)
      · have hpm := pairs_mono (t := x) (u := nxT x) (by omega)
        unfold rnk rnkE
        by_cases hp : (nxT x).pairs ≤ 30
        · have hlt := (trk_lt x).2
          have hws := wsum_lt (k := x.pairs + 1) (by omega)
          rw [if_pos hp, if_pos hp, if_pos (by omega), if_pos (by omega), hx1]
          exact .inl ⟨rfl, rfl, by omega, by omega, by omega⟩
        · by_cases hq : x.pairs ≤ 30
          · rw [if_neg hp, if_pos hq]; exact .inr (.inl ⟨rfl, rfl⟩)
          · rw [if_neg hp, if_neg hq]; exact .inr (.inr ⟨rfl, rfl⟩)
    · have kv1 := Lib.hid (fun w => eqB (refValid_at (TS x) true (by rw [TS_size]; omega) (isTree_TS x hx) w))
      have kv2 := Lib.hid (fun w => eqB (refValid_at t false (by omega) hb w))
      clear h1 h2 hs ht hx hb
      generalize TS x = s at *
      go_enter Try.func9, Try.ntmps9
      go_wp2_with fail
      refine (kv1.out _).mono ?_
      rintro e w1 ⟨rfl, hb1⟩
      have HB1 := Lib.hid hb1
      clear hb1
      go_wp2_with fail
      refine (kv2.out _).mono ?_
      rintro e w2 ⟨rfl, hb2⟩
      have HB2 := Lib.hid (HB1.out.trans (hb2.mono HB1.out.size))
      clear hb2 HB1
      go_wp2_with fail
      refine (awake10_any _).mono ?_
      rintro e w3 ⟨rfl, hb3⟩
      have HB3 := Lib.hid (HB2.out.trans (hb3.mono HB2.out.size))
      clear hb3 HB2
      go_wp2
      go_ret
      exact ⟨rfl, HB3.out⟩
  · have kv1 := Lib.hid (fun w => eqB (refValid_at s false (by omega) hb w))
    clear h1 h2 hs ht hb
    go_enter Try.func9, Try.ntmps9
    go_wp2_with fail
    refine (kv1.out _).mono ?_
    rintro e w1 ⟨rfl, hb1⟩
    have HB1 := Lib.hid hb1
    clear hb1
    go_wp2_with fail
    refine (awake10_any _).mono ?_
    rintro e w2 ⟨rfl, hb2⟩
    have HB2 := Lib.hid (HB1.out.trans (hb2.mono HB1.out.size))
    clear hb2 HB1
    go_wp2
    go_ret
    exact ⟨rfl, HB2.out⟩
end Go.Proofs.Ytdjbcmfjlfkcjaa


/- law10: OrderBack. -/
import Derived.Test.YtdjbcmfjlfkcjaaOrd8
namespace Go.Proofs.Ytdjbcmfjlfkcjaa
open Go.RowKit

/-- What Unrank answers. -/
def unkS (n : Int) : ByteArray := if 0 ≤ n ∧ n < wsum 31 then TS (seqT n.toNat) else ⟨#[]⟩
theorem unrank_any (n : Int) (hn : -9223372036854775808 ≤ n ∧ n ≤ 9223372036854775807) :
    (∃ r : Nat, n = r ∧ r < wsum 31) ∨ (∀ w, Calls Try.prog 43 #[.int .i64 n] w fun e w' => e = .returned (.tuple #[.string ⟨#[]⟩, .int .i64 2]) ∧ Below w.heap.size w w') := by
  by_cases h0 : n < 0
  · exact .inr fun w => unrank_neg n h0 w
  · obtain ⟨r, rfl⟩ : ∃ r : Nat, n = r := ⟨n.toNat, by omega⟩
    by_cases hr : r < wsum 31
    · exact .inl ⟨r, rfl, hr⟩
    · exact .inr fun w => unrank_big r (by omega) (by omega) w
theorem rank_none (s : ByteArray) (hs : s.size ≤ 281474976710656) :
    (∃ t : Tr, s = TS t ∧ t.pairs ≤ 30) ∨ ∃ e : Int, e ≠ 0 ∧ ∀ w, Calls Try.prog 40 #[.string s] w fun x w' => x = .returned (.tuple #[.int .i64 0, .int .i64 e]) ∧ Below w.heap.size w w' := by
  rcases valid_or s hs with ⟨t, rfl, ht⟩ | hb
  · by_cases hp : t.pairs ≤ 30
    · exact .inl ⟨t, rfl, hp⟩
    · exact .inr ⟨3, by decide, fun w => rank_big t ht (by omega) w⟩
  · exact .inr ⟨1, by decide, fun w => rank_bad s hs hb w⟩
/-- The answers that OrderBack meets first: of Unrank, and of what comes of it. -/
def Back1 (n : Int) : Prop :=
  (Hid (∀ w, Calls Try.prog 43 #[.int .i64 n] w fun e w' => e = .returned (.tuple #[.string ⟨#[]⟩, .int .i64 2]) ∧ Below w.heap.size w w')) ∨
  ∃ (u : ByteArray) (p : Int), p ≤ 30 ∧ Hid (∀ w, Calls Try.prog 43 #[.int .i64 n] w fun e w' => e = .returned (.tuple #[.string u, .int .i64 0]) ∧ Below w.heap.size w w') ∧
    Hid (∀ w, Calls Try.prog 40 #[.string u] w fun e w' => e = .returned (.tuple #[.int .i64 n, .int .i64 0]) ∧ Below w.heap.size w w') ∧
    Hid (∀ w, Calls Try.prog 36 #[.string u] w fun e w' => e = .returned (.bool true) ∧ Below w.heap.size w w') ∧
    Hid (∀ w, Calls Try.prog 47 #[.string u] w fun e w' => e = .returned (.int .i64 p) ∧ Below w.heap.size w w')
theorem back1 (n : Int) (hn : -9223372036854775808 ≤ n ∧ n ≤ 9223372036854775807) : Back1 n := by
  rcases unrank_any n hn with ⟨r, rfl, hr⟩ | h
  · have hp : (seqT r).pairs ≤ 30 := seq_pairs.2 hr
    have hz : (seqT r).size ≤ 2000000 := by rw [Tr.size_pairs]; omega
    exact .inr ⟨TS (seqT r), (seqT r).pairs, by omega, Lib.hid fun w => unrank_ok r hr w, Lib.hid fun w => rank_at _ hp r (trk_seq r) w, Lib.hid fun w => eqB (refValid_at _ true (by rw [TS_size]; omega) (isTree_TS _ hz) w), Lib.hid fun w => eqB (refPairs_ok _ hz w)⟩
  · exact .inl (Lib.hid h)
theorem trk_small {t : Tr} (h : t.pairs ≤ 30) : trk t < wsum 31 := by
  have := trk_lt t
  have := wsum_mono (show t.pairs + 1 ≤ 31 by omega)
  omega
theorem unrank_tree (t : Tr) (h : t.pairs ≤ 30) (w : World) : Calls Try.prog 43 #[.int .i64 (trk t)] w fun e w' => e = .returned (.tuple #[.string (TS t), .int .i64 0]) ∧ Below w.heap.size w w' := by
  have := unrank_ok (trk t) (trk_small h) w
  rwa [seq_trk] at this

set_option maxRecDepth 20000 in
set_option maxHeartbeats 4000000 in
theorem back_long (s t : ByteArray) (h : (1000 : Int) < s.size) (n : Int) (hb1 : Back1 n) (w : World) :
    Calls Try.prog 8 #[.string s, .string t, .int .i64 n] w fun e w' => e = .returned (.bool true) ∧ Below w.heap.size w w' := by
  rcases hb1 with k1 | ⟨u, p, hp, k1, k2, k3, k4⟩
  · go_enter Try.func8, Try.ntmps8
    go_wp2_with fail
    refine (k1.out _).mono ?_
    rintro e w1 ⟨rfl, hb1⟩
    have HB1 := Lib.hid hb1
    clear hb1
    go_wp2_with fail
    refine (awake10_any _).mono ?_
    rintro e w2 ⟨rfl, hb2⟩
    have HB2 := Lib.hid (HB1.out.trans (hb2.mono HB1.out.size))
    clear hb2 HB1
    go_wp2
    go_ret
    exact ⟨rfl, HB2.out⟩
  · go_enter Try.func8, Try.ntmps8
    go_wp2_with fail
    refine (k1.out _).mono ?_
    rintro e w1 ⟨rfl, hb1⟩
    have HB1 := Lib.hid hb1
    clear hb1
    go_wp2_with fail
    refine (k2.out _).mono ?_
    rintro e w2 ⟨rfl, hb2⟩
    have HB2 := Lib.hid (HB1.out.trans (hb2.mono HB1.out.size))
    clear hb2 HB1
    go_wp2_with fail
    refine (k3.out _).mono ?_
    rintro e w3 ⟨rfl, hb3⟩
    have HB3 := Lib.hid (HB2.out.trans (hb3.mono HB2.out.size))
    clear hb3 HB2
    go_wp2_with fail
    refine (k4.out _).mono ?_
    rintro e w4 ⟨rfl, hb4⟩
    have HB4 := Lib.hid (HB3.out.trans (hb4.mono HB3.out.size))
    clear hb4 HB3
    go_wp2_with fail
    refine (awake10_any _).mono ?_
    rintro e w5 ⟨rfl, hb5⟩
    have HB5 := Lib.hid (HB4.out.trans (hb5.mono HB4.out.size))
    clear hb5 HB4
    go_wp2
    go_ret
    exact ⟨rfl, HB5.out⟩
set_option maxRecDepth 20000 in
set_option maxHeartbeats 4000000 in
theorem back_long2 (s t : ByteArray) (h0 : (s.size : Int) ≤ 1000) (h : (1000 : Int) < t.size) (n : Int) (hb1 : Back1 n) (w : World) :
    Calls Try.prog 8 #[.string s, .string t, .int .i64 n] w fun e w' => e = .returned (.bool true) ∧ Below w.heap.size w w' := by
  rcases hb1 with k1 | ⟨u, p, hp, k1, k2, k3, k4⟩
  · go_enter Try.func8, Try.ntmps8
    go_wp2_with fail
    refine (k1.out _).mono ?_
    rintro e w1 ⟨rfl, hb1⟩
    have HB1 := Lib.hid hb1
    clear hb1
    go_wp2_with fail
    refine (awake10_any _).mono ?_
    rintro e w2 ⟨rfl, hb2⟩
    have HB2 := Lib.hid (HB1.out.trans (hb2.mono HB1.out.size))
    clear hb2 HB1
    go_wp2
    go_ret
    exact ⟨rfl, HB2.out⟩
  · go_enter Try.func8, Try.ntmps8
    go_wp2_with fail
    refine (k1.out _).mono ?_
    rintro e w1 ⟨rfl, hb1⟩
    have HB1 := Lib.hid hb1
    clear hb1
    go_wp2_with fail
    refine (k2.out _).mono ?_
    rintro e w2 ⟨rfl, hb2⟩
    have HB2 := Lib.hid (HB1.out.trans (hb2.mono HB1.out.size))
    clear hb2 HB1
    go_wp2_with fail
    refine (k3.out _).mono ?_
    rintro e w3 ⟨rfl, hb3⟩
    have HB3 := Lib.hid (HB2.out.trans (hb3.mono HB2.out.size))
    clear hb3 HB2
    go_wp2_with fail
    refine (k4.out _).mono ?_
    rintro e w4 ⟨rfl, hb4⟩
    have HB4 := Lib.hid (HB3.out.trans (hb4.mono HB3.out.size))
    clear hb4 HB3
    go_wp2_with fail
    refine (awake10_any _).mono ?_
    rintro e w5 ⟨rfl, hb5⟩
    have HB5 := Lib.hid (HB4.out.trans (hb5.mono HB4.out.size))
    clear hb5 HB4
    go_wp2
    go_ret
    exact ⟨rfl, HB5.out⟩
set_option maxRecDepth 20000 in
set_option maxHeartbeats 4000000 in
theorem back_bad (s t : ByteArray) (hs : (s.size : Int) ≤ 1000) (ht : (t.size : Int) ≤ 1000) (e f b : Int) (he : e ≠ 0) (kr : Hid (∀ w, Calls Try.prog 40 #[.string s] w fun x w' => x = .returned (.tuple #[.int .i64 0, .int .i64 e]) ∧ Below w.heap.size w w')) (kq : Hid (∀ w, Calls Try.prog 40 #[.string t] w fun x w' => x = .returned (.tuple #[.int .i64 b, .int .i64 f]) ∧ Below w.heap.size w w')) (n : Int) (hb1 : Back1 n) (w : World) :
    Calls Try.prog 8 #[.string s, .string t, .int .i64 n] w fun e w' => e = .returned (.bool true) ∧ Below w.heap.size w w' := by
  rcases hb1 with k1 | ⟨u, p, hp, k1, k2, k3, k4⟩
  · go_enter Try.func8, Try.ntmps8
    go_wp2_with fail
    refine (k1.out _).mono ?_
    rintro e w1 ⟨rfl, hb1⟩
    have HB1 := Lib.hid hb1
    clear hb1
    go_wp2_with fail
    refine (kr.out _).mono ?_
    rintro e w2 ⟨rfl, hb2⟩
    have HB2 := Lib.hid (HB1.out.trans (hb2.mono HB1.out.size))
    clear hb2 HB1
    go_wp2_with fail
    refine (kq.out _).mono ?_
    rintro e w3 ⟨rfl, hb3⟩
    have HB3 := Lib.hid (HB2.out.trans (hb3.mono HB2.out.size))
    clear hb3 HB2
    go_wp2_with fail
    refine (awake10_any _).mono ?_
    rintro e w4 ⟨rfl, hb4⟩
    have HB4 := Lib.hid (HB3.out.trans (hb4.mono HB3.out.size))
    clear hb4 HB3
    go_wp2
    go_ret
    exact ⟨rfl, HB4.out⟩
  · go_enter Try.func8, Try.ntmps8
    go_wp2_with fail
    refine (k1.out _).mono ?_
    rintro e w1 ⟨rfl, hb1⟩
    have HB1 := Lib.hid hb1
    clear hb1
    go_wp2_with fail
    refine (k2.out _).mono ?_
    rintro e w2 ⟨rfl, hb2⟩
    have HB2 := Lib.hid (HB1.out.trans (hb2.mono HB1.out.size))
    clear hb2 HB1
    go_wp2_with fail
    refine (k3.out _).mono ?_
    rintro e w3 ⟨rfl, hb3⟩
    have HB3 := Lib.hid (HB2.out.trans (hb3.mono HB2.out.size))
    clear hb3 HB2
    go_wp2_with fail
    refine (k4.out _).mono ?_
    rintro e w4 ⟨rfl, hb4⟩
    have HB4 := Lib.hid (HB3.out.trans (hb4.mono HB3.out.size))
    clear hb4 HB3
    go_wp2_with fail
    refine (kr.out _).mono ?_
    rintro e w5 ⟨rfl, hb5⟩
    have HB5 := Lib.hid (HB4.out.trans (hb5.mono HB4.out.size))
    clear hb5 HB4
    go_wp2_with fail
    refine (kq.out _).mono ?_
    rintro e w6 ⟨rfl, hb6⟩
    have HB6 := Lib.hid (HB5.out.trans (hb6.mono HB5.out.size))
    clear hb6 HB5
    go_wp2_with fail
    refine (awake10_any _).mono ?_
    rintro e w7 ⟨rfl, hb7⟩
    have HB7 := Lib.hid (HB6.out.trans (hb7.mono HB6.out.size))
    clear hb7 HB6
    go_wp2
    go_ret
    exact ⟨rfl, HB7.out⟩
set_option maxRecDepth 20000 in
set_option maxHeartbeats 4000000 in
theorem back_half (s t : ByteArray) (hs : (s.size : Int) ≤ 1000) (ht : (t.size : Int) ≤ 1000) (a f : Int) (hf : f ≠ 0) (kr : Hid (∀ w, Calls Try.prog 40 #[.string s] w fun x w' => x = .returned (.tuple #[.int .i64 a, .int .i64 0]) ∧ Below w.heap.size w w')) (kq : Hid (∀ w, Calls Try.prog 40 #[.string t] w fun x w' => x = .returned (.tuple #[.int .i64 0, .int .i64 f]) ∧ Below w.heap.size w w')) (ku : Hid (∀ w, Calls Try.prog 43 #[.int .i64 a] w fun x w' => x = .returned (.tuple #[.string s, .int .i64 0]) ∧ Below w.heap.size w w')) (n : Int) (hb1 : Back1 n) (w : World) :
    Calls Try.prog 8 #[.string s, .string t, .int .i64 n] w fun e w' => e = .returned (.bool true) ∧ Below w.heap.size w w' := by
  rcases hb1 with k1 | ⟨u, p, hp, k1, k2, k3, k4⟩
  · go_enter Try.func8, Try.ntmps8
    go_wp2_with fail
    refine (k1.out _).mono ?_
    rintro e w1 ⟨rfl, hb1⟩
    have HB1 := Lib.hid hb1
    clear hb1
    go_wp2_with fail
    refine (kr.out _).mono ?_
    rintro e w2 ⟨rfl, hb2⟩
    have HB2 := Lib.hid (HB1.out.trans (hb2.mono HB1.out.size))
    clear hb2 HB1
    go_wp2_with fail
    refine (kq.out _).mono ?_
    rintro e w3 ⟨rfl, hb3⟩
    have HB3 := Lib.hid (HB2.out.trans (hb3.mono HB2.out.size))
    clear hb3 HB2
    go_wp2_with fail
    refine (ku.out _).mono ?_
    rintro e w4 ⟨rfl, hb4⟩
    have HB4 := Lib.hid (HB3.out.trans (hb4.mono HB3.out.size))
    clear hb4 HB3
    go_wp2_with fail
    refine (awake10_any _).mono ?_
    rintro e w5 ⟨rfl, hb5⟩
    have HB5 := Lib.hid (HB4.out.trans (hb5.mono HB4.out.size))
    clear hb5 HB4
    go_wp2
    go_ret
    exact ⟨rfl, HB5.out⟩
  · go_enter Try.func8, Try.ntmps8
    go_wp2_with fail
    refine (k1.out _).mono ?_
    rintro e w1 ⟨rfl, hb1⟩
    have HB1 := Lib.hid hb1
    clear hb1
    go_wp2_with fail
    refine (k2.out _).mono ?_
    rintro e w2 ⟨rfl, hb2⟩
    have HB2 := Lib.hid (HB1.out.trans (hb2.mono HB1.out.size))
    clear hb2 HB1
    go_wp2_with fail
    refine (k3.out _).mono ?_
    rintro e w3 ⟨rfl, hb3⟩
    have HB3 := Lib.hid (HB2.out.trans (hb3.mono HB2.out.size))
    clear hb3 HB2
    go_wp2_with fail
    refine (k4.out _).mono ?_
    rintro e w4 ⟨rfl, hb4⟩
    have HB4 := Lib.hid (HB3.out.trans (hb4.mono HB3.out.size))
    clear hb4 HB3
    go_wp2_with fail
    refine (kr.out _).mono ?_
    rintro e w5 ⟨rfl, hb5⟩
    have HB5 := Lib.hid (HB4.out.trans (hb5.mono HB4.out.size))
    clear hb5 HB4
    go_wp2_with fail
    refine (kq.out _).mono ?_
    rintro e w6 ⟨rfl, hb6⟩
    have HB6 := Lib.hid (HB5.out.trans (hb6.mono HB5.out.size))
    clear hb6 HB5
    go_wp2_with fail
    refine (ku.out _).mono ?_
    rintro e w7 ⟨rfl, hb7⟩
    have HB7 := Lib.hid (HB6.out.trans (hb7.mono HB6.out.size))
    clear hb7 HB6
    go_wp2_with fail
    refine (awake10_any _).mono ?_
    rintro e w8 ⟨rfl, hb8⟩
    have HB8 := Lib.hid (HB7.out.trans (hb8.mono HB7.out.size))
    clear hb8 HB7
    go_wp2
    go_ret
    exact ⟨rfl, HB8.out⟩
set_option maxRecDepth 20000 in
set_option maxHeartbeats 4000000 in
theorem back_lt (s t : ByteArray) (hs : (s.size : Int) ≤ 1000) (ht : (t.size : Int) ≤ 1000) (a b : Int) (hab : a < b) (hq : (a == b) = false) (hne : (s.toList == t.toList) = false) (kr : Hid (∀ w, Calls Try.prog 40 #[.string s] w fun x w' => x = .returned (.tuple #[.int .i64 a, .int .i64 0]) ∧ Below w.heap.size w w')) (kq : Hid (∀ w, Calls Try.prog 40 #[.string t] w fun x w' => x = .returned (.tuple #[.int .i64 b, .int .i64 0]) ∧ Below w.heap.size w w')) (ku : Hid (∀ w, Calls Try.prog 43 #[.int .i64 a] w fun x w' => x = .returned (.tuple #[.string s, .int .i64 0]) ∧ Below w.heap.size w w')) (kb : Hid (∀ w, Calls Try.prog 48 #[.string s, .string t] w fun x w' => x = .returned (.bool true) ∧ Below w.heap.size w w')) (n : Int) (hb1 : Back1 n) (w : World) :
    Calls Try.prog 8 #[.string s, .string t, .int .i64 n] w fun e w' => e = .returned (.bool true) ∧ Below w.heap.size w w' := by
  rcases hb1 with k1 | ⟨u, p, hp, k1, k2, k3, k4⟩
  · go_enter Try.func8, Try.ntmps8
    go_wp2_with fail
    refine (k1.out _).mono ?_
    rintro e w1 ⟨rfl, hb1⟩
    have HB1 := Lib.hid hb1
    clear hb1
    go_wp2_with fail
    refine (kr.out _).mono ?_
    rintro e w2 ⟨rfl, hb2⟩
    have HB2 := Lib.hid (HB1.out.trans (hb2.mono HB1.out.size))
    clear hb2 HB1
    go_wp2_with fail
    refine (kq.out _).mono ?_
    rintro e w3 ⟨rfl, hb3⟩
    have HB3 := Lib.hid (HB2.out.trans (hb3.mono HB2.out.size))
    clear hb3 HB2
    go_wp2_with fail
    refine (ku.out _).mono ?_
    rintro e w4 ⟨rfl, hb4⟩
    have HB4 := Lib.hid (HB3.out.trans (hb4.mono HB3.out.size))
    clear hb4 HB3
    go_wp2_with fail
    refine (kb.out _).mono ?_
    rintro e w5 ⟨rfl, hb5⟩
    have HB5 := Lib.hid (HB4.out.trans (hb5.mono HB4.out.size))
    clear hb5 HB4
    go_wp2_with fail
    refine (awake10_any _).mono ?_
    rintro e w6 ⟨rfl, hb6⟩
    have HB6 := Lib.hid (HB5.out.trans (hb6.mono HB5.out.size))
    clear hb6 HB5
    go_wp2
    go_ret
    exact ⟨rfl, HB6.out⟩
  · go_enter Try.func8, Try.ntmps8
    go_wp2_with fail
    refine (k1.out _).mono ?_
    rintro e w1 ⟨rfl, hb1⟩
    have HB1 := Lib.hid hb1
    clear hb1
    go_wp2_with fail
    refine (k2.out _).mono ?_
    rintro e w2 ⟨rfl, hb2⟩
    have HB2 := Lib.hid (HB1.out.trans (hb2.mono HB1.out.size))
    clear hb2 HB1
    go_wp2_with fail
    refine (k3.out _).mono ?_
    rintro e w3 ⟨rfl, hb3⟩
    have HB3 := Lib.hid (HB2.out.trans (hb3.mono HB2.out.size))
    clear hb3 HB2
    go_wp2_with fail
    refine (k4.out _).mono ?_
    rintro e w4 ⟨rfl, hb4⟩
    have HB4 := Lib.hid (HB3.out.trans (hb4.mono HB3.out.size))
    clear hb4 HB3
    go_wp2_with fail
    refine (kr.out _).mono ?_
    rintro e w5 ⟨rfl, hb5⟩
    have HB5 := Lib.hid (HB4.out.trans (hb5.mono HB4.out.size))
    clear hb5 HB4
    go_wp2_with fail
    refine (kq.out _).mono ?_
    rintro e w6 ⟨rfl, hb6⟩
    have HB6 := Lib.hid (HB5.out.trans (hb6.mono HB5.out.size))
    clear hb6 HB5
    go_wp2_with fail
    refine (ku.out _).mono ?_
    rintro e w7 ⟨rfl, hb7⟩
    have HB7 := Lib.hid (HB6.out.trans (hb7.mono HB6.out.size))
    clear hb7 HB6
    go_wp2_with fail
    refine (kb.out _).mono ?_
    rintro e w8 ⟨rfl, hb8⟩
    have HB8 := Lib.hid (HB7.out.trans (hb8.mono HB7.out.size))
    clear hb8 HB7
    go_wp2_with fail
    refine (awake10_any _).mono ?_
    rintro e w9 ⟨rfl, hb9⟩
    have HB9 := Lib.hid (HB8.out.trans (hb9.mono HB8.out.size))
    clear hb9 HB8
    go_wp2
    go_ret
    exact ⟨rfl, HB9.out⟩
set_option maxRecDepth 20000 in
set_option maxHeartbeats 4000000 in
theorem back_gt (s t : ByteArray) (hs : (s.size : Int) ≤ 1000) (ht : (t.size : Int) ≤ 1000) (a b : Int) (hab : decide (a < b) = false) (hq : (a == b) = false) (hne : (s.toList == t.toList) = false) (kr : Hid (∀ w, Calls Try.prog 40 #[.string s] w fun x w' => x = .returned (.tuple #[.int .i64 a, .int .i64 0]) ∧ Below w.heap.size w w')) (kq : Hid (∀ w, Calls Try.prog 40 #[.string t] w fun x w' => x = .returned (.tuple #[.int .i64 b, .int .i64 0]) ∧ Below w.heap.size w w')) (ku : Hid (∀ w, Calls Try.prog 43 #[.int .i64 a] w fun x w' => x = .returned (.tuple #[.string s, .int .i64 0]) ∧ Below w.heap.size w w')) (kb : Hid (∀ w, Calls Try.prog 48 #[.string s, .string t] w fun x w' => x = .returned (.bool false) ∧ Below w.heap.size w w')) (n : Int) (hb1 : Back1 n) (w : World) :
    Calls Try.prog 8 #[.string s, .string t, .int .i64 n] w fun e w' => e = .returned (.bool true) ∧ Below w.heap.size w w' := by
  rcases hb1 with k1 | ⟨u, p, hp, k1, k2, k3, k4⟩
  · go_enter Try.func8, Try.ntmps8
    go_wp2_with fail
    refine (k1.out _).mono ?_
    rintro e w1 ⟨rfl, hb1⟩
    have HB1 := Lib.hid hb1
    clear hb1
    go_wp2_with fail
    refine (kr.out _).mono ?_
    rintro e w2 ⟨rfl, hb2⟩
    have HB2 := Lib.hid (HB1.out.trans (hb2.mono HB1.out.size))
    clear hb2 HB1
    go_wp2_with fail
    refine (kq.out _).mono ?_
    rintro e w3 ⟨rfl, hb3⟩
    have HB3 := Lib.hid (HB2.out.trans (hb3.mono HB2.out.size))
    clear hb3 HB2
    go_wp2_with fail
    refine (ku.out _).mono ?_
    rintro e w4 ⟨rfl, hb4⟩
    have HB4 := Lib.hid (HB3.out.trans (hb4.mono HB3.out.size))
    clear hb4 HB3
    go_wp2_with fail
    refine (kb.out _).mono ?_
    rintro e w5 ⟨rfl, hb5⟩
    have HB5 := Lib.hid (HB4.out.trans (hb5.mono HB4.out.size))
    clear hb5 HB4
    go_wp2_with fail
    refine (awake10_any _).mono ?_
    rintro e w6 ⟨rfl, hb6⟩
    have HB6 := Lib.hid (HB5.out.trans (hb6.mono HB5.out.size))
    clear hb6 HB5
    go_wp2
    go_ret
    exact ⟨rfl, HB6.out⟩
  · go_enter Try.func8, Try.ntmps8
    go_wp2_with fail
    refine (k1.out _).mono ?_
    rintro e w1 ⟨rfl, hb1⟩
    have HB1 := Lib.hid hb1
    clear hb1
    go_wp2_with fail
    refine (k2.out _).mono ?_
    rintro e w2 ⟨rfl, hb2⟩
    have HB2 := Lib.hid (HB1.out.trans (hb2.mono HB1.out.size))
    clear hb2 HB1
    go_wp2_with fail
    refine (k3.out _).mono ?_
    rintro e w3 ⟨rfl, hb3⟩
    have HB3 := Lib.hid (HB2.out.trans (hb3.mono HB2.out.size))
    clear hb3 HB2
    go_wp2_with fail
    refine (k4.out _).mono ?_
    rintro e w4 ⟨rfl, hb4⟩
    have HB4 := Lib.hid (HB3.out.trans (hb4.mono HB3.out.size))
    clear hb4 HB3
    go_wp2_with fail
    refine (kr.out _).mono ?_
    rintro e w5 ⟨rfl, hb5⟩
    have HB5 := Lib.hid (HB4.out.trans (hb5.mono HB4.out.size))
    clear hb5 HB4
    go_wp2_with fail
    refine (kq.out _).mono ?_
    rintro e w6 ⟨rfl, hb6⟩
    have HB6 := Lib.hid (HB5.out.trans (hb6.mono HB5.out.size))
    clear hb6 HB5
    go_wp2_with fail
    refine (ku.out _).mono ?_
    rintro e w7 ⟨rfl, hb7⟩
    have HB7 := Lib.hid (HB6.out.trans (hb7.mono HB6.out.size))
    clear hb7 HB6
    go_wp2_with fail
    refine (kb.out _).mono ?_
    rintro e w8 ⟨rfl, hb8⟩
    have HB8 := Lib.hid (HB7.out.trans (hb8.mono HB7.out.size))
    clear hb8 HB7
    go_wp2_with fail
    refine (awake10_any _).mono ?_
    rintro e w9 ⟨rfl, hb9⟩
    have HB9 := Lib.hid (HB8.out.trans (hb9.mono HB8.out.size))
    clear hb9 HB8
    go_wp2
    go_ret
    exact ⟨rfl, HB9.out⟩
set_option maxRecDepth 20000 in
set_option maxHeartbeats 4000000 in
theorem back_eq (s : ByteArray) (hs : (s.size : Int) ≤ 1000) (a : Int) (kr : Hid (∀ w, Calls Try.prog 40 #[.string s] w fun x w' => x = .returned (.tuple #[.int .i64 a, .int .i64 0]) ∧ Below w.heap.size w w')) (ku : Hid (∀ w, Calls Try.prog 43 #[.int .i64 a] w fun x w' => x = .returned (.tuple #[.string s, .int .i64 0]) ∧ Below w.heap.size w w')) (kb : Hid (∀ w, Calls Try.prog 48 #[.string s, .string s] w fun x w' => x = .returned (.bool false) ∧ Below w.heap.size w w')) (n : Int) (hb1 : Back1 n) (w : World) :
    Calls Try.prog 8 #[.string s, .string s, .int .i64 n] w fun e w' => e = .returned (.bool true) ∧ Below w.heap.size w w' := by
  have kq := kr
  rcases hb1 with k1 | ⟨u, p, hp, k1, k2, k3, k4⟩
  · go_enter Try.func8, Try.ntmps8
    go_wp2_with fail
    refine (k1.out _).mono ?_
    rintro e w1 ⟨rfl, hb1⟩
    have HB1 := Lib.hid hb1
    clear hb1
    go_wp2_with fail
    refine (kr.out _).mono ?_
    rintro e w2 ⟨rfl, hb2⟩
    have HB2 := Lib.hid (HB1.out.trans (hb2.mono HB1.out.size))
    clear hb2 HB1
    go_wp2_with fail
    refine (kq.out _).mono ?_
    rintro e w3 ⟨rfl, hb3⟩
    have HB3 := Lib.hid (HB2.out.trans (hb3.mono HB2.out.size))
    clear hb3 HB2
    go_wp2_with fail
    refine (ku.out _).mono ?_
    rintro e w4 ⟨rfl, hb4⟩
    have HB4 := Lib.hid (HB3.out.trans (hb4.mono HB3.out.size))
    clear hb4 HB3
    go_wp2_with fail
    refine (kb.out _).mono ?_
    rintro e w5 ⟨rfl, hb5⟩
    have HB5 := Lib.hid (HB4.out.trans (hb5.mono HB4.out.size))
    clear hb5 HB4
    go_wp2_with fail
    refine (awake10_any _).mono ?_
    rintro e w6 ⟨rfl, hb6⟩
    have HB6 := Lib.hid (HB5.out.trans (hb6.mono HB5.out.size))
    clear hb6 HB5
    go_wp2
    go_ret
    exact ⟨rfl, HB6.out⟩
  · go_enter Try.func8, Try.ntmps8
    go_wp2_with fail
    refine (k1.out _).mono ?_
    rintro e w1 ⟨rfl, hb1⟩
    have HB1 := Lib.hid hb1
    clear hb1
    go_wp2_with fail
    refine (k2.out _).mono ?_
    rintro e w2 ⟨rfl, hb2⟩
    have HB2 := Lib.hid (HB1.out.trans (hb2.mono HB1.out.size))
    clear hb2 HB1
    go_wp2_with fail
    refine (k3.out _).mono ?_
    rintro e w3 ⟨rfl, hb3⟩
    have HB3 := Lib.hid (HB2.out.trans (hb3.mono HB2.out.size))
    clear hb3 HB2
    go_wp2_with fail
    refine (k4.out _).mono ?_
    rintro e w4 ⟨rfl, hb4⟩
    have HB4 := Lib.hid (HB3.out.trans (hb4.mono HB3.out.size))
    clear hb4 HB3
    go_wp2_with fail
    refine (kr.out _).mono ?_
    rintro e w5 ⟨rfl, hb5⟩
    have HB5 := Lib.hid (HB4.out.trans (hb5.mono HB4.out.size))
    clear hb5 HB4
    go_wp2_with fail
    refine (kq.out _).mono ?_
    rintro e w6 ⟨rfl, hb6⟩
    have HB6 := Lib.hid (HB5.out.trans (hb6.mono HB5.out.size))
    clear hb6 HB5
    go_wp2_with fail
    refine (ku.out _).mono ?_
    rintro e w7 ⟨rfl, hb7⟩
    have HB7 := Lib.hid (HB6.out.trans (hb7.mono HB6.out.size))
    clear hb7 HB6
    go_wp2_with fail
    refine (kb.out _).mono ?_
    rintro e w8 ⟨rfl, hb8⟩
    have HB8 := Lib.hid (HB7.out.trans (hb8.mono HB7.out.size))
    clear hb8 HB7
    go_wp2_with fail
    refine (awake10_any _).mono ?_
    rintro e w9 ⟨rfl, hb9⟩
    have HB9 := Lib.hid (HB8.out.trans (hb9.mono HB8.out.size))
    clear hb9 HB8
    go_wp2
    go_ret
    exact ⟨rfl, HB9.out⟩
theorem law_OrderBack (s : ByteArray) (hs : s.size ≤ 140737488355328) (t : ByteArray) (ht : t.size ≤ 140737488355328) (n : Int) (hn : -9223372036854775808 ≤ n ∧ n ≤ 9223372036854775807) (w : World) :
    Calls Try.prog 8 #[.string s, .string t, .int .i64 n] w fun e w' => e = .returned (.bool true) ∧ Below w.heap.size w w' := by
  have hb1 := back1 n hn
  by_cases h1 : (1000 : Int) < s.size
  · exact back_long s t h1 n hb1 w
  by_cases h2 : (1000 : Int) < t.size
  · exact back_long2 s t (by omega) h2 n hb1 w
  have h1' : (s.size : Int) ≤ 1000 := by omega
  have h2' : (t.size : Int) ≤ 1000 := by omega
  rcases rank_none s (by omega) with ⟨x, rfl, hx⟩ | ⟨e, he, ke⟩
  · rcases rank_none t (by omega) with ⟨y, rfl, hy⟩ | ⟨f, hf, kf⟩
    · have hxz : x.size ≤ 2000000 := by rw [Tr.size_pairs]; omega
      have hyz : y.size ≤ 2000000 := by rw [Tr.size_pairs]; omega
      have kr := Lib.hid fun w => rank_ok x hx w
      have kq := Lib.hid fun w => rank_ok y hy w
      have ku := Lib.hid fun w => unrank_tree x hx w
      have hne : trk x ≠ trk y → ((TS x).toList == (TS y).toList) = false := fun h => by
        rw [ByteArray.toList_eq, ByteArray.toList_eq, TS_list, TS_list, beq_eq_false_iff_ne]
        exact fun e => h (congrArg trk (enc_inj e))
      rcases Nat.lt_trichotomy (trk x) (trk y) with h | h | h
      · exact back_lt _ _ h1' h2' _ _ (by omega) (by rw [beq_eq_false_iff_ne]; omega) (hne (by omega)) kr kq ku (Lib.hid fun w => before_TS x y hxz hyz true (decide_eq_true h) w) n hb1 w
      · have hxy := trk_inj h
        subst hxy
        exact back_eq _ h1' _ kr ku (Lib.hid fun w => before_TS x x hxz hxz false (decide_eq_false (by omega)) w) n hb1 w
      · exact back_gt _ _ h1' h2' _ _ (decide_eq_false (by omega)) (by rw [beq_eq_false_iff_ne]; omega) (hne (by omega)) kr kq ku (Lib.hid fun w => before_TS x y hxz hyz false (decide_eq_false (by omega)) w) n hb1 w
    · exact back_half _ _ h1' h2' _ _ hf (Lib.hid fun w => rank_ok x hx w) (Lib.hid kf) (Lib.hid fun w => unrank_tree x hx w) n hb1 w
  · rcases rank_none t (by omega) with ⟨y, rfl, hy⟩ | ⟨f, hf, kf⟩
    · exact back_bad _ _ h1' h2' _ _ _ he (Lib.hid ke) (Lib.hid fun w => rank_ok y hy w) n hb1 w
    · exact back_bad _ _ h1' h2' _ _ _ he (Lib.hid ke) (Lib.hid kf) n hb1 w
end Go.Proofs.Ytdjbcmfjlfkcjaa


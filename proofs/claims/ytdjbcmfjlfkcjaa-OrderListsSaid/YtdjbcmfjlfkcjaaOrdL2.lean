/- law10: OrderLists. -/
import Derived.Test.YtdjbcmfjlfkcjaaOrdR5
import Derived.Test.YtdjbcmfjlfkcjaaOrd8
namespace Go.Proofs.Ytdjbcmfjlfkcjaa
open Go.RowKit

set_option maxRecDepth 20000 in
set_option maxHeartbeats 4000000 in
theorem law_OrderLists (n : Int) (hn : -9223372036854775808 ≤ n ∧ n ≤ 9223372036854775807) (w : World) :
    Calls Try.prog 7 #[.int .i64 n] w fun e w' => e = .returned (.bool true) ∧ Below w.heap.size w w' := by
  by_cases h0 : n < 0
  · have k := Lib.hid (fun w => programs_bad n (.inl h0) w)
    clear hn
    go_enter Try.func7, Try.ntmps7
    go_wp2_with fail
    refine (k.out _).mono ?_
    rintro e w1 ⟨rfl, hb1⟩
    have HB1 := Lib.hid hb1
    clear hb1
    go_wp2_with fail
    refine (awake10_any _).mono ?_
    rintro e w2 ⟨rfl, hb2⟩
    have HB2 := Lib.hid (HB1.out.trans (hb2.mono HB1.out.size))
    clear hb2 HB1
    go_wp2
    go_ret
    exact ⟨rfl, HB2.out⟩
  by_cases h1 : 11 < n
  · have h0' : ¬ n < 0 := by omega
    have k := Lib.hid (fun w => programs_bad n (.inr h1) w)
    clear hn h0
    go_enter Try.func7, Try.ntmps7
    go_wp2_with fail
    refine (k.out _).mono ?_
    rintro e w1 ⟨rfl, hb1⟩
    have HB1 := Lib.hid hb1
    clear hb1
    go_wp2_with fail
    refine (awake10_any _).mono ?_
    rintro e w2 ⟨rfl, hb2⟩
    have HB2 := Lib.hid (HB1.out.trans (hb2.mono HB1.out.size))
    clear hb2 HB1
    go_wp2
    go_ret
    exact ⟨rfl, HB2.out⟩
  obtain ⟨m, rfl⟩ : ∃ m : Nat, n = m := ⟨n.toNat, by omega⟩
  have hm : m ≤ 11 := by omega
  have hmI : (0 : Int) ≤ m ∧ (m : Int) ≤ 11 := by omega
  clear hn h0 h1
  have k1 := Lib.hid (fun w => rprograms_ok m hm w)
  have k2 := Lib.hid (fun w => programs_ok m hm w)
  generalize progsT (wsum (m + 1)) = ls at *
  clear hm
  go_enter Try.func7, Try.ntmps7
  go_wp2_with fail
  refine (k1.out _).mono ?_
  rintro e w1 ⟨v1, rfl, hp1, hb1⟩
  have HP1 := Lib.hid hp1
  have HB1 := Lib.hid hb1
  clear hp1 hb1
  obtain ⟨a1, c1, rfl⟩ := HP1.out.len
  go_wp2_with fail
  refine (k2.out _).mono ?_
  rintro e w2 ⟨v2, rfl, hp2, hb2⟩
  have HP2 := Lib.hid hp2
  have HP3 := Lib.hid (HP1.out.step hb2)
  have HB2 := Lib.hid (HB1.out.trans (hb2.mono HB1.out.size))
  clear hp2 hb2 HB1 HP1
  obtain ⟨a2, c2, rfl⟩ := HP2.out.len
  have ks := Lib.hid (same8_self _ _ ls w2 HP2.out HP3.out)
  generalize ls.length = q at *
  go_wp2_with fail
  refine ks.out.mono ?_
  rintro e w3 ⟨rfl, hb3⟩
  have HB3 := Lib.hid (HB2.out.trans (hb3.mono HB2.out.size))
  clear hb3 HB2
  go_wp2_with fail
  refine (awake10_any _).mono ?_
  rintro e w4 ⟨rfl, hb4⟩
  have HB4 := Lib.hid (HB3.out.trans (hb4.mono HB3.out.size))
  clear hb4 HB3
  go_wp2
  go_ret
  exact ⟨rfl, HB4.out⟩
end Go.Proofs.Ytdjbcmfjlfkcjaa


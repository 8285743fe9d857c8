/- law10: OrderPadded. -/
import Derived.Test.YtdjbcmfjlfkcjaaPadF
import Derived.Test.YtdjbcmfjlfkcjaaFollow7
import Derived.Test.YtdjbcmfjlfkcjaaKnow6
import Derived.Test.YtdjbcmfjlfkcjaaMB4
namespace Go.Proofs.Ytdjbcmfjlfkcjaa
open Go.RowKit

set_option maxRecDepth 20000 in
set_option maxHeartbeats 8000000 in
theorem law_OrderPadded (v : Value) (q : List Ins) {w : World} (hq : InsRow w w.heap.size v q) (n : Int) (hn : -9223372036854775808 ≤ n ∧ n ≤ 9223372036854775807) (k : Int) (hk : -9223372036854775808 ≤ k ∧ k ≤ 9223372036854775807) (x : ByteArray) (hxs : x.size ≤ 140737488355328) :
    Calls Try.prog 15 #[v, .int .i64 n, .int .i64 k, .string x] w fun e w' => e = .returned (.bool true) ∧ Below w.heap.size w w' := by
  obtain ⟨qa, qc, rfl⟩ := hq.len
  obtain ⟨qn, hqn⟩ : ∃ k, q.length = k := ⟨_, rfl⟩
  have HNB := Lib.hid hn
  have HKB := Lib.hid hk
  have HQN := Lib.hid hqn
  rw [hqn] at hq ⊢
  have hQ := Lib.hid hq
  obtain ⟨bv, hbv⟩ : ∃ b, validB q = b := ⟨_, rfl⟩
  have HV := Lib.hid hbv
  have HXS := Lib.hid hxs
  have hxI : (x.size : Int) ≤ 140737488355328 := by omega
  clear hq hqn hbv hn hk hxs
  have ch := Lib.hid (Below.refl w.heap.size w)
  go_enter Try.func15, Try.ntmps15
  go_wp2_with fail
  have hL0 := ProgsRow.lit (w := w) [.slice qa qn qc] [q] rfl (by simp) (fun j u l hu hl => match j, u, l, hu, hl with | 0, _, _, hu, hl => by cases hu; cases hl; exact hQ.out)
  obtain ⟨w1, hW⟩ : ∃ B, w.alloc (.cells #[.slice qa qn qc] 23) = B := ⟨_, rfl⟩
  rw [hW]
  have hq : Below w.heap.size w w1 := by rw [← hW]; exact (Below.refl _ _).alloc (Nat.le_refl _) _
  have hL := Lib.hid (show ProgsRow w1 w1.heap.size (.slice (some ⟨w.heap.size, 0, none⟩) 1 1) [q] by rw [← hW]; exact hL0)
  clear hW hL0
  have hQ := Lib.hid ((hQ.out.below hq).mono hq.size)
  have ch := Lib.hid (ch.out.trans (hq.mono ch.out.size))
  clear hq
  refine (small_one _ _ q _ hL.out).mono ?_
  rintro e w2 ⟨b1, rfl, hq⟩
  have hQ := Lib.hid ((hQ.out.below hq).mono hq.size)
  have ch := Lib.hid (ch.out.trans (hq.mono ch.out.size))
  clear hq hL
  cases b1 with
  | false =>
    go_wp2_with fail
    refine (awake10_any _).mono ?_
    rintro e wz ⟨rfl, hqz⟩
    go_wp2
    go_ret
    exact ⟨rfl, ch.out.trans (hqz.mono ch.out.size)⟩
  | true =>
    by_cases hlen : (x.size : Int) ≤ 20000
    rotate_left
    · skip
      go_wp2_with fail
      refine (awake10_any _).mono ?_
      rintro e wz ⟨rfl, hqz⟩
      go_wp2
      go_ret
      exact ⟨rfl, ch.out.trans (hqz.mono ch.out.size)⟩
    go_wp2_with fail
    refine (cvalid_at bv HV.out hQ.out).mono ?_
    rintro e w3 ⟨rfl, hq⟩
    have hQ := Lib.hid ((hQ.out.below hq).mono hq.size)
    have ch := Lib.hid (ch.out.trans (hq.mono ch.out.size))
    clear hq
    cases bv with
    | false =>
      go_wp2_with fail
      refine (awake10_any _).mono ?_
      rintro e wz ⟨rfl, hqz⟩
      go_wp2
      go_ret
      exact ⟨rfl, ch.out.trans (hqz.mono ch.out.size)⟩
    | true =>
      rcases valid_or x (by have := HXS.out; omega) with ⟨t, rfl, ht⟩ | hb
      rotate_left
      · have kt := Lib.hid (fun w => refValid_at x false (by have := HXS.out; omega) hb w)
        clear hb
        go_wp2_with fail
        refine (kt.out _).mono ?_
        rintro e _ ⟨rfl, rfl⟩
        go_wp2_with fail
        refine (awake10_any _).mono ?_
        rintro e wz ⟨rfl, hqz⟩
        go_wp2
        go_ret
        exact ⟨rfl, ch.out.trans (hqz.mono ch.out.size)⟩
      have kt := Lib.hid (fun w => refValid_at (TS t) true (by rw [TS_size]; omega) (isTree_TS t ht) w)
      have kr := Lib.hid (fun w => read_ok t ht w)
      have HT := Lib.hid ht
      obtain ⟨s, hs⟩ : ∃ s, TS t = s := ⟨_, rfl⟩
      rw [hs] at hlen hxI kt kr ⊢
      clear hs ht HXS
      by_cases h0 : n < 0
      · go_wp2_with fail
        refine (kt.out _).mono ?_
        rintro e _ ⟨rfl, rfl⟩
        go_wp2_with fail
        refine (awake10_any _).mono ?_
        rintro e wz ⟨rfl, hqz⟩
        go_wp2
        go_ret
        exact ⟨rfl, ch.out.trans (hqz.mono ch.out.size)⟩
      by_cases h1 : 1000 < n
      · have h0' : ¬ n < 0 := by omega
        clear h0
        go_wp2_with fail
        refine (kt.out _).mono ?_
        rintro e _ ⟨rfl, rfl⟩
        go_wp2_with fail
        refine (awake10_any _).mono ?_
        rintro e wz ⟨rfl, hqz⟩
        go_wp2
        go_ret
        exact ⟨rfl, ch.out.trans (hqz.mono ch.out.size)⟩
      obtain ⟨m, rfl⟩ : ∃ m : Nat, n = m := ⟨n.toNat, by omega⟩
      have hmI : (0 : Int) ≤ m ∧ (m : Int) ≤ 1000 := by omega
      have hq4 := validB_len HV.out
      rw [HQN.out] at hq4
      have hqI : (0 : Int) ≤ qn ∧ (qn : Int) ≤ 4000 := by omega
      have H01 := Lib.hid (show ¬ ((m : Int) < 0 ∨ 1000 < (m : Int)) by omega)
      have HV2 := Lib.hid (show ¬ validB q = false by rw [HV.out]; decide)
      clear h0 h1
      go_wp2_with fail
      refine (kt.out _).mono ?_
      rintro e _ ⟨rfl, rfl⟩
      clear kt
      by_cases h4 : 4000 < (qn : Int) + m
      · have e1 : padE q m = 3 := by unfold padE; rw [if_neg HV2.out, if_neg H01.out, HQN.out, if_pos h4]
        have e2 : padR q m = [] := by unfold padR; rw [e1]; rfl
        have kp := Lib.hid (pad_any _ q _ hQ.out m HNB.out)
        rw [e1, e2] at kp
        clear e1 e2
        go_wp2_with fail
        refine kp.out.mono ?_
        rintro e w4 ⟨pa, pc, rfl, ho, hq⟩
        have hQ := Lib.hid ((hQ.out.below hq).mono hq.size)
        have ch := Lib.hid (ch.out.trans (hq.mono ch.out.size))
        clear hq ho kp
        go_wp2_with fail
        refine (awake10_any _).mono ?_
        rintro e wz ⟨rfl, hqz⟩
        go_wp2
        go_ret
        exact ⟨rfl, ch.out.trans (hqz.mono ch.out.size)⟩
      have e1 : padE q m = 0 := by unfold padE; rw [if_neg HV2.out, if_neg H01.out, HQN.out, if_neg h4]
      have e2 : padR q m = padL q m := by unfold padR; rw [if_pos e1]; rfl
      have h4' : (qn : Int) + m ≤ 4000 := by omega
      have kp := Lib.hid (pad_any _ q _ hQ.out m HNB.out)
      rw [e1, e2] at kp
      have hpv := Lib.hid (padL_valid HV.out m (by rw [HQN.out]; omega))
      have hfo := Lib.hid (follow_pad (q := q) m (validB_all HV.out) HT.out)
      have hpl := padL_len q m
      rw [HQN.out] at hpl
      obtain ⟨P, hP⟩ : ∃ P, padL q m = P := ⟨_, rfl⟩
      rw [hP] at kp hpv hfo hpl
      obtain ⟨pn, hpn⟩ : ∃ k, P.length = k := ⟨_, rfl⟩
      have HPN := Lib.hid hpn
      rw [hpn] at hpl
      have hpn4 : pn ≤ 4000 := by omega
      have HPE := Lib.hid hP
      clear e1 e2 h4 hpl hpn hP
      go_wp2_with fail
      refine kp.out.mono ?_
      rintro e w4 ⟨pa, pc, rfl, ho, hq⟩
      have hQ := Lib.hid ((hQ.out.below hq).mono hq.size)
      have ch := Lib.hid (ch.out.trans (hq.mono ch.out.size))
      rw [HPN.out] at ho ⊢
      have hP := Lib.hid (ho.row (by rw [HPN.out]; omega))
      clear hq ho kp
      go_wp2_with fail
      refine (cvalid_at true hpv.out hP.out).mono ?_
      rintro e w5 ⟨rfl, hq⟩
      have hQ := Lib.hid ((hQ.out.below hq).mono hq.size)
      have ch := Lib.hid (ch.out.trans (hq.mono ch.out.size))
      have hP := Lib.hid ((hP.out.below hq).mono hq.size)
      clear hq
      go_wp2_with fail
      refine (kr.out _).mono ?_
      rintro e w6 ⟨nq, rfl, hN, hq⟩
      have hQ := Lib.hid ((hQ.out.below hq).mono hq.size)
      have ch := Lib.hid (ch.out.trans (hq.mono ch.out.size))
      have hP := Lib.hid ((hP.out.below hq).mono hq.size)
      have hN := Lib.hid hN
      clear hq kr
      go_wp2_with fail
      refine (follows_any _ _ _ _ _ _ _ _ m (by omega) _ hP.out hQ.out hpv.out HV.out hN.out hN.out HT.out HT.out hfo.out).mono ?_
      rintro e w7 ⟨rfl, hq⟩
      have hQ := Lib.hid ((hQ.out.below hq).mono hq.size)
      have ch := Lib.hid (ch.out.trans (hq.mono ch.out.size))
      have hP := Lib.hid ((hP.out.below hq).mono hq.size)
      clear hq hN
      have kp := Lib.hid (pad_any _ q _ hQ.out k HKB.out)
      rcases padE_cases HV.out k with ⟨j, rfl, hj, hjl, e1, e2⟩ | ⟨e1, e2⟩
      · rw [e1, e2] at kp
        have hjI : (0 : Int) ≤ j ∧ (j : Int) ≤ 1000 := by omega
        clear e1 e2
        go_wp2_with fail
        refine kp.out.mono ?_
        rintro e w8 ⟨ra, rc, rfl, ho, hq⟩
        have ch := Lib.hid (ch.out.trans (hq.mono ch.out.size))
        have hP := Lib.hid ((hP.out.below hq).mono hq.size)
        have hR := Lib.hid (ho.row (by rw [padL_len, HQN.out]; omega))
        clear hq ho kp
        by_cases hmj : m = j
        · subst hmj
          rw [HPE.out] at hR ⊢
          have ks := Lib.hid (same_self hP.out hR.out)
          generalize P.length = z at *
          go_wp2_with fail
          refine ks.out.mono ?_
          rintro e w9 ⟨rfl, hq⟩
          have ch := Lib.hid (ch.out.trans (hq.mono ch.out.size))
          clear hq
          go_wp2_with fail
          refine (awake10_any _).mono ?_
          rintro e wz ⟨rfl, hqz⟩
          go_wp2
          go_ret
          exact ⟨rfl, ch.out.trans (hqz.mono ch.out.size)⟩
        · have hsf : sameP P (padL q j) = false := by
            unfold sameP
            exact decide_eq_false (fun e => hmj (padL_inj (p := q) (by rw [HPE.out]; exact e)))
          have ks := Lib.hid (same_at false hP.out hR.out hsf)
          have hne : ((m : Int) == (j : Int)) = false := by rw [beq_eq_false_iff_ne]; omega
          clear hsf
          generalize (padL q j).length = z at *
          go_wp2_with fail
          refine ks.out.mono ?_
          rintro e w9 ⟨rfl, hq⟩
          have ch := Lib.hid (ch.out.trans (hq.mono ch.out.size))
          clear hq
          go_wp2_with fail
          refine (awake10_any _).mono ?_
          rintro e wz ⟨rfl, hqz⟩
          go_wp2
          go_ret
          exact ⟨rfl, ch.out.trans (hqz.mono ch.out.size)⟩
      · rw [e2] at kp
        obtain ⟨f, hf⟩ : ∃ f, padE q k = f := ⟨_, rfl⟩
        rw [hf] at kp e1
        clear hf e2
        go_wp2_with fail
        refine kp.out.mono ?_
        rintro e w8 ⟨ra, rc, rfl, ho, hq⟩
        have ch := Lib.hid (ch.out.trans (hq.mono ch.out.size))
        clear hq ho kp
        go_wp2_with fail
        refine (awake10_any _).mono ?_
        rintro e wz ⟨rfl, hqz⟩
        go_wp2
        go_ret
        exact ⟨rfl, ch.out.trans (hqz.mono ch.out.size)⟩
end Go.Proofs.Ytdjbcmfjlfkcjaa


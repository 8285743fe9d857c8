/- law07: KnowDifferent. -/
import Derived.Test.YtaiomcjopgnfpaaMB4
namespace Go.Proofs.Ytaiomcjopgnfpaa
open Go.RowKit

theorem know_e (en : Int) (v : Value) (q : List Ins) (w : World) (hq : InsRow w w.heap.size v q) (he : knowE q = en) : Calls Try.prog 47 #[v] w fun e w' => ∃ v', e = .returned (.tuple #[v', .int .i64 en]) ∧ TB w' w'.heap.size en (knowL q) v' ∧ Below w.heap.size w w' := by
  refine (know_any v q w hq).mono ?_
  rintro e w' ⟨v', h1, h2, h3⟩
  rw [he] at h1 h2
  exact ⟨v', h1, h2, h3⟩
theorem knowL_inj {p q : List Ins} (h : knowL p = knowL q) : p = q := by
  have h1 := congrArg (List.drop 19) h
  have hd : ∀ q : List Ins, (knowL q).drop 19 = q := fun q => by
    unfold knowL specL knowR
    rw [← List.append_assoc]
    rw [List.drop_append_of_le_length (by simp [specH, behindL, beforeL, clearL_length])]
    rw [List.drop_of_length_le (by simp [specH, behindL, beforeL, clearL_length])]
    rfl
  rwa [hd, hd] at h1
theorem same_know (p q : List Ins) : sameP (knowL p) (knowL q) = sameP p q := by
  unfold sameP
  by_cases h : p = q
  · subst h; simp
  · rw [decide_eq_false h, decide_eq_false (fun e => h (knowL_inj e))]

set_option maxRecDepth 20000 in
set_option maxHeartbeats 8000000 in
theorem law_KnowDifferent {w : World} (vp : Value) (p : List Ins) (hhP : InsRow w w.heap.size vp p) (vq : Value) (q : List Ins) (hhQ : InsRow w w.heap.size vq q) :
    Calls Try.prog 10 #[vp, vq] w fun e w' => e = .returned (.bool true) ∧ Below w.heap.size w w' := by
  obtain ⟨pa, pc, rfl⟩ := hhP.len
  obtain ⟨qa, qc, rfl⟩ := hhQ.len
  obtain ⟨pn, hpn⟩ : ∃ n, p.length = n := ⟨_, rfl⟩
  obtain ⟨qn, hqn⟩ : ∃ n, q.length = n := ⟨_, rfl⟩
  rw [hpn] at hhP ⊢
  rw [hqn] at hhQ ⊢
  have hP := Lib.hid hhP
  have hQ := Lib.hid hhQ
  clear hhP hhQ hpn hqn
  obtain ⟨ep, hep⟩ : ∃ e, knowE p = e := ⟨_, rfl⟩
  obtain ⟨eq, heq⟩ : ∃ e, knowE q = e := ⟨_, rfl⟩
  have HEP := Lib.hid hep
  have HEQ := Lib.hid heq
  clear hep heq
  have ch := Lib.hid (Below.refl w.heap.size w)
  go_enter Try.func10, Try.ntmps10
  go_wp2_with fail
  have hL0 := ProgsRow.lit (w := w) [.slice pa pn pc] [p] rfl (by simp) (fun j u l hu hl => match j, u, l, hu, hl with | 0, _, _, hu, hl => by cases hu; cases hl; exact hP.out)
  obtain ⟨w1, hW⟩ : ∃ B, w.alloc (.cells #[.slice pa pn pc] 25) = B := ⟨_, rfl⟩
  rw [hW]
  have hq : Below w.heap.size w w1 := by rw [← hW]; exact (Below.refl _ _).alloc (Nat.le_refl _) _
  have hL := Lib.hid (show ProgsRow w1 w1.heap.size (.slice (some ⟨w.heap.size, 0, none⟩) 1 1) [p] by rw [← hW]; exact hL0)
  clear hW hL0
  have hP := Lib.hid ((hP.out.below hq).mono hq.size)
  have hQ := Lib.hid ((hQ.out.below hq).mono hq.size)
  have ch := Lib.hid (ch.out.trans (hq.mono ch.out.size))
  clear hq
  refine (small_one _ _ p _ hL.out).mono ?_
  rintro e w2 ⟨b1, rfl, hq⟩
  have hP := Lib.hid ((hP.out.below hq).mono hq.size)
  have hQ := Lib.hid ((hQ.out.below hq).mono hq.size)
  have hL := Lib.hid ((hL.out.below hq).mono hq.size)
  have ch := Lib.hid (ch.out.trans (hq.mono ch.out.size))
  clear hq
  clear hL
  cases b1 with
  | false =>
    go_wp2_with fail
    refine (awake7_any _).mono ?_
    rintro e wz ⟨rfl, hqz⟩
    go_wp2
    go_ret
    exact ⟨rfl, ch.out.trans (hqz.mono ch.out.size)⟩
  | true =>
    go_wp2_with fail
    have hL0 := ProgsRow.lit (w := w2) [.slice qa qn qc] [q] rfl (by simp) (fun j u l hu hl => match j, u, l, hu, hl with | 0, _, _, hu, hl => by cases hu; cases hl; exact hQ.out)
    obtain ⟨w3, hW⟩ : ∃ B, w2.alloc (.cells #[.slice qa qn qc] 25) = B := ⟨_, rfl⟩
    rw [hW]
    have hq : Below w2.heap.size w2 w3 := by rw [← hW]; exact (Below.refl _ _).alloc (Nat.le_refl _) _
    have hL := Lib.hid (show ProgsRow w3 w3.heap.size (.slice (some ⟨w2.heap.size, 0, none⟩) 1 1) [q] by rw [← hW]; exact hL0)
    clear hW hL0
    have hP := Lib.hid ((hP.out.below hq).mono hq.size)
    have hQ := Lib.hid ((hQ.out.below hq).mono hq.size)
    have ch := Lib.hid (ch.out.trans (hq.mono ch.out.size))
    clear hq
    refine (small_one _ _ q _ hL.out).mono ?_
    rintro e w4 ⟨b2, rfl, hq⟩
    have hP := Lib.hid ((hP.out.below hq).mono hq.size)
    have hQ := Lib.hid ((hQ.out.below hq).mono hq.size)
    have hL := Lib.hid ((hL.out.below hq).mono hq.size)
    have ch := Lib.hid (ch.out.trans (hq.mono ch.out.size))
    clear hq
    clear hL
    cases b2 with
    | false =>
      go_wp2_with fail
      refine (awake7_any _).mono ?_
      rintro e wz ⟨rfl, hqz⟩
      go_wp2
      go_ret
      exact ⟨rfl, ch.out.trans (hqz.mono ch.out.size)⟩
    | true =>
      go_wp2_with fail
      refine (know_e ep _ p _ hP.out HEP.out).mono ?_
      rintro e w5 ⟨va, rfl, hA, hq⟩
      have hP := Lib.hid ((hP.out.below hq).mono hq.size)
      have hQ := Lib.hid ((hQ.out.below hq).mono hq.size)
      have ch := Lib.hid (ch.out.trans (hq.mono ch.out.size))
      clear hq
      have hA := Lib.hid hA
      go_wp2_with fail
      refine (know_e eq _ q _ hQ.out HEQ.out).mono ?_
      rintro e w6 ⟨vb, rfl, hB, hq⟩
      have hP := Lib.hid ((hP.out.below hq).mono hq.size)
      have hQ := Lib.hid ((hQ.out.below hq).mono hq.size)
      have hA := Lib.hid ((hA.out.below hq).mono hq.size)
      have ch := Lib.hid (ch.out.trans (hq.mono ch.out.size))
      clear hq
      have hB := Lib.hid hB
      by_cases h1 : ep = 0
      · by_cases h2 : eq = 0
        · subst h1
          subst h2
          have ha := Lib.hid (hA.out.1 rfl)
          have hb := Lib.hid (hB.out.1 rfl)
          clear hA hB
          obtain ⟨s, hs⟩ : ∃ s, sameP p q = s := ⟨_, rfl⟩
          have HS := Lib.hid hs
          clear hs
          go_wp2_with fail
          refine (same_at s ha.out hb.out ((same_know p q).trans HS.out)).mono ?_
          rintro e w7 ⟨rfl, hq⟩
          have hP := Lib.hid ((hP.out.below hq).mono hq.size)
          have hQ := Lib.hid ((hQ.out.below hq).mono hq.size)
          have ha := Lib.hid ((ha.out.below hq).mono hq.size)
          have hb := Lib.hid ((hb.out.below hq).mono hq.size)
          have ch := Lib.hid (ch.out.trans (hq.mono ch.out.size))
          clear hq
          go_wp2_with fail
          refine (same_at s hP.out hQ.out HS.out).mono ?_
          rintro e w8 ⟨rfl, hq⟩
          have hP := Lib.hid ((hP.out.below hq).mono hq.size)
          have hQ := Lib.hid ((hQ.out.below hq).mono hq.size)
          have ha := Lib.hid ((ha.out.below hq).mono hq.size)
          have hb := Lib.hid ((hb.out.below hq).mono hq.size)
          have ch := Lib.hid (ch.out.trans (hq.mono ch.out.size))
          clear hq
          cases s
          all_goals (
            go_wp2_with fail
            refine (awake7_any _).mono ?_
            rintro e wz ⟨rfl, hqz⟩
            go_wp2
            go_ret
            exact ⟨rfl, ch.out.trans (hqz.mono ch.out.size)⟩)
        · subst h1
          go_wp2_with fail
          refine (awake7_any _).mono ?_
          rintro e wz ⟨rfl, hqz⟩
          go_wp2
          go_ret
          exact ⟨rfl, ch.out.trans (hqz.mono ch.out.size)⟩
      · skip
        go_wp2_with fail
        refine (awake7_any _).mono ?_
        rintro e wz ⟨rfl, hqz⟩
        go_wp2
        go_ret
        exact ⟨rfl, ch.out.trans (hqz.mono ch.out.size)⟩
end Go.Proofs.Ytaiomcjopgnfpaa


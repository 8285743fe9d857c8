/- The walks of the laws of narcissuslaw03: RunMore. -/
import Derived.Test.YtieocihlkpipmaaLaw03b
namespace Go.Proofs.Ytieocihlkpipmaa
open Go.RowKit

theorem goF_more_done {l : List Ins} : ∀ {f n : Nat} {s s' : St} {k : Nat}, goF l f n s = .done s' k → ∀ m, goF l (f + m) n s = .done s' k := by
  intro f
  induction f with
  | zero =>
    intro n s s' k h m
    by_cases hp : s.pos = l.length
    · rw [goF_done hp] at h ⊢; exact h
    · rw [goF_zero hp] at h; cases h
  | succ f ih =>
    intro n s s' k h m
    by_cases hp : s.pos = l.length
    · rw [goF_done hp] at h ⊢; exact h
    · rw [show f + 1 + m = (f + m) + 1 by omega]
      cases hs : stepP l s with
      | none => rw [goF_big hp hs] at h; cases h
      | some s1 => rw [goF_step hp hs] at h ⊢; exact ih h m
theorem goF_more_big {l : List Ins} : ∀ {f n : Nat} {s : St}, goF l f n s = .big → ∀ m, goF l (f + m) n s = .big := by
  intro f
  induction f with
  | zero =>
    intro n s h m
    by_cases hp : s.pos = l.length
    · rw [goF_done hp] at h; cases h
    · rw [goF_zero hp] at h; cases h
  | succ f ih =>
    intro n s h m
    by_cases hp : s.pos = l.length
    · rw [goF_done hp] at h; cases h
    · rw [show f + 1 + m = (f + m) + 1 by omega]
      cases hs : stepP l s with
      | none => rw [goF_big hp hs]
      | some s1 => rw [goF_step hp hs] at h ⊢; exact ih h m
theorem goF_count {l : List Ins} : ∀ {f n : Nat} {s s' : St} {k : Nat}, goF l f n s = .done s' k → n ≤ k ∧ k ≤ n + f ∧ goF l (k - n) n s = .done s' k ∧ ∀ j, j < k - n → ∃ s2 m, goF l j n s = .fuel s2 m := by
  intro f
  induction f with
  | zero =>
    intro n s s' k h
    by_cases hp : s.pos = l.length
    · rw [goF_done hp] at h; cases h; exact ⟨Nat.le_refl _, by omega, goF_done hp, fun j hj => by omega⟩
    · rw [goF_zero hp] at h; cases h
  | succ f ih =>
    intro n s s' k h
    by_cases hp : s.pos = l.length
    · rw [goF_done hp] at h; cases h; exact ⟨Nat.le_refl _, by omega, goF_done hp, fun j hj => by omega⟩
    · cases hs : stepP l s with
      | none => rw [goF_big hp hs] at h; cases h
      | some s1 =>
        rw [goF_step hp hs] at h
        obtain ⟨h1, h2, h3, h4⟩ := ih h
        refine ⟨by omega, by omega, ?_, fun j hj => ?_⟩
        · rw [show k - n = (k - (n + 1)) + 1 by omega, goF_step hp hs]; exact h3
        · cases j with
          | zero => exact ⟨_, _, goF_zero hp⟩
          | succ j => rw [goF_step hp hs]; exact h4 j (by omega)
theorem twin_ct {w : World} {v : Value} {l : List Ins} (hl : InsRow w w.heap.size v l) : ∀ w', Below w.heap.size w w' → Calls Try.prog 20 #[v] w' fun e w'' => ∃ v', e = .returned v' ∧ Hid (InsRow w'' w''.heap.size v' l) ∧ Below w.heap.size w w'' := fun w' hb =>
  (twin_any v l w' ((hl.below hb).mono hb.size)).mono fun e w'' ⟨v', h1, h2, h3⟩ => ⟨v', h1, h2, hb.trans (h3.mono hb.size)⟩
/-- Run at any place. -/
theorem run_at {w : World} {l : List Ins} (hv : validB l = true) {t : Tr} (ht : t.size ≤ 2000000) {S : ByteArray} (hS : TS t = S) : ∀ (K : Nat) (Ki : Int), Ki = K → K ≤ 10000000 → ∀ y k er, (goF l K 0 (startS t)).run = (y, k, er) → ∀ w' v', InsRow w' w'.heap.size v' l → Below w.heap.size w w' →
    Calls Try.prog 21 #[v', .string S, .int .i64 Ki] w' fun e w'' => e = .returned (.tuple #[.string y, .int .i64 k, .int .i64 er]) ∧ Below w.heap.size w w'' := by
  rintro K _ rfl hK y k er hr w' v' hl hb
  rw [← hS]
  exact (run_ct hl hv t ht K hK y k er hr w' (Below.refl _ _)).mono fun e w'' h => ⟨h.1, hb.trans (h.2.mono hb.size)⟩

set_option maxRecDepth 100000 in
set_option maxHeartbeats 4000000 in
theorem law_RunMore {w : World} (v : Value) (l : List Ins) (hl : InsRow w w.heap.size v l) (s : ByteArray) (hs : s.size ≤ 140737488355328) (fuel : Int) (hf : -9223372036854775808 ≤ fuel ∧ fuel ≤ 9223372036854775807) (more : Int) (hm : -9223372036854775808 ≤ more ∧ more ≤ 9223372036854775807) :
    Calls Try.prog 4 #[v, .string s, .int .i64 fuel, .int .i64 more] w fun e w' => e = .returned (.bool true) ∧ Below w.heap.size w w' := by
  have cTw := twin_ct hl
  have cAw := awake03_ct w
  by_cases hgood : validB l = true ∧ isTree s = true
  · obtain ⟨hv, htr⟩ := hgood
    have cV := cvalid_ct hl _ hv
    have cT := tvalid_ct (w := w) s hs _ htr
    by_cases hout : fuel < 0 ∨ (0 ≤ fuel ∧ more < 0) ∨ (0 ≤ fuel ∧ 0 ≤ more ∧ 10000000 < fuel) ∨ (0 ≤ fuel ∧ 0 ≤ more ∧ fuel ≤ 10000000 ∧ 10000000 - fuel < more)
    · clear hl hv htr cTw
      rcases hout with h1 | ⟨h1, h2⟩ | ⟨h1, h2, h3⟩ | ⟨h1, h2, h3, h4⟩
      all_goals
        go_enter Try.func4, Try.ntmps4
        go_wp2_with fail
        refine (cV _ (Below.refl _ _)).mono ?_
        rintro e w1 ⟨rfl, hb1⟩
        go_wp2_with fail
        refine (cT _ hb1).mono ?_
        rintro e w2 ⟨rfl, hb2⟩
        clear hb1
        go_wp2_with fail
        refine (cAw _ hb2).mono ?_
        rintro e w3 ⟨rfl, hb3⟩
        clear hb2
        go_wp2
        go_ret
        exact ⟨rfl, hb3⟩
    · obtain ⟨F, rfl⟩ := Int.eq_ofNat_of_zero_le (by omega : 0 ≤ fuel)
      obtain ⟨M, rfl⟩ := Int.eq_ofNat_of_zero_le (by omega : 0 ≤ more)
      have hF : (F : Int) ≤ 10000000 := by omega
      have hFM : (M : Int) ≤ 10000000 - F := by omega
      obtain ⟨t, rfl, ht⟩ := isTree_get htr
      have kR := run_at (w := w) hv ht rfl
      cases hR : goF l F 0 (startS t) with
      | fuel s1 n1 =>
        have k1 := kR F F rfl (by omega) ⟨#[]⟩ 0 7 (by rw [hR]; rfl)
        cases hR2 : goF l (F + M) 0 (startS t) with
        | fuel s2 n2 =>
          have k2 := kR (F + M) (F + M) (by omega) (by omega) ⟨#[]⟩ 0 7 (by rw [hR2]; rfl)
          clear hl hv htr hout hR hR2 kR
          generalize TS t = S at *
          go_enter Try.func4, Try.ntmps4
          go_wp2_with fail
          refine (cV _ (Below.refl _ _)).mono ?_
          rintro e w1 ⟨rfl, hb1⟩
          go_wp2_with fail
          refine (cT _ hb1).mono ?_
          rintro e w2 ⟨rfl, hb2⟩
          clear hb1
          go_wp2_with fail
          refine (cTw _ hb2).mono ?_
          rintro e w3 ⟨v1, rfl, hv1, hb3⟩
          clear hb2
          have kk1 := k1 _ _ hv1.out hb3
          clear hv1
          go_wp2_with fail
          refine kk1.mono ?_
          rintro e w4 ⟨rfl, hb4⟩
          clear hb3
          go_wp2_with fail
          refine (cTw _ hb4).mono ?_
          rintro e w5 ⟨v2, rfl, hv2, hb5⟩
          clear hb4
          have kk2 := k2 _ _ hv2.out hb5
          clear hv2
          go_wp2_with fail
          refine kk2.mono ?_
          rintro e w6 ⟨rfl, hb6⟩
          clear hb5
          go_wp2_with fail
          refine (cAw _ hb6).mono ?_
          rintro e w7 ⟨rfl, hb7⟩
          clear hb6
          go_wp2
          go_ret
          exact ⟨rfl, hb7⟩
        | big =>
          have k2 := kR (F + M) (F + M) (by omega) (by omega) ⟨#[]⟩ 0 3 (by rw [hR2]; rfl)
          clear hl hv htr hout hR hR2 kR
          generalize TS t = S at *
          go_enter Try.func4, Try.ntmps4
          go_wp2_with fail
          refine (cV _ (Below.refl _ _)).mono ?_
          rintro e w1 ⟨rfl, hb1⟩
          go_wp2_with fail
          refine (cT _ hb1).mono ?_
          rintro e w2 ⟨rfl, hb2⟩
          clear hb1
          go_wp2_with fail
          refine (cTw _ hb2).mono ?_
          rintro e w3 ⟨v1, rfl, hv1, hb3⟩
          clear hb2
          have kk1 := k1 _ _ hv1.out hb3
          clear hv1
          go_wp2_with fail
          refine kk1.mono ?_
          rintro e w4 ⟨rfl, hb4⟩
          clear hb3
          go_wp2_with fail
          refine (cTw _ hb4).mono ?_
          rintro e w5 ⟨v2, rfl, hv2, hb5⟩
          clear hb4
          have kk2 := k2 _ _ hv2.out hb5
          clear hv2
          go_wp2_with fail
          refine kk2.mono ?_
          rintro e w6 ⟨rfl, hb6⟩
          clear hb5
          go_wp2_with fail
          refine (cAw _ hb6).mono ?_
          rintro e w7 ⟨rfl, hb7⟩
          clear hb6
          go_wp2
          go_ret
          exact ⟨rfl, hb7⟩
        | done s2 n2 =>
          have k2 := kR (F + M) (F + M) (by omega) (by omega) (TS (getR s2.regs 0)) n2 0 (by rw [hR2]; rfl)
          have hgt : (F : Int) < (n2 : Int) := by
            obtain ⟨_, _, h3, _⟩ := goF_count hR2
            by_cases h : F < n2
            · omega
            · have := goF_more_done h3 (F - n2)
              rw [show n2 - 0 + (F - n2) = F by omega, hR] at this
              cases this
          clear hl hv htr hout hR hR2 kR
          generalize TS t = S at *
          generalize TS (getR s2.regs 0) = Y at *
          go_enter Try.func4, Try.ntmps4
          go_wp2_with fail
          refine (cV _ (Below.refl _ _)).mono ?_
          rintro e w1 ⟨rfl, hb1⟩
          go_wp2_with fail
          refine (cT _ hb1).mono ?_
          rintro e w2 ⟨rfl, hb2⟩
          clear hb1
          go_wp2_with fail
          refine (cTw _ hb2).mono ?_
          rintro e w3 ⟨v1, rfl, hv1, hb3⟩
          clear hb2
          have kk1 := k1 _ _ hv1.out hb3
          clear hv1
          go_wp2_with fail
          refine kk1.mono ?_
          rintro e w4 ⟨rfl, hb4⟩
          clear hb3
          go_wp2_with fail
          refine (cTw _ hb4).mono ?_
          rintro e w5 ⟨v2, rfl, hv2, hb5⟩
          clear hb4
          have kk2 := k2 _ _ hv2.out hb5
          clear hv2
          go_wp2_with fail
          refine kk2.mono ?_
          rintro e w6 ⟨rfl, hb6⟩
          clear hb5
          go_wp2_with fail
          refine (cAw _ hb6).mono ?_
          rintro e w7 ⟨rfl, hb7⟩
          clear hb6
          go_wp2
          go_ret
          exact ⟨rfl, hb7⟩
      | big =>
        have k1 := kR F F rfl (by omega) ⟨#[]⟩ 0 3 (by rw [hR]; rfl)
        have hR2 := goF_more_big hR M
        have k2 := kR (F + M) (F + M) (by omega) (by omega) ⟨#[]⟩ 0 3 (by rw [hR2]; rfl)
        clear hl hv htr hout hR hR2 kR
        generalize TS t = S at *
        go_enter Try.func4, Try.ntmps4
        go_wp2_with fail
        refine (cV _ (Below.refl _ _)).mono ?_
        rintro e w1 ⟨rfl, hb1⟩
        go_wp2_with fail
        refine (cT _ hb1).mono ?_
        rintro e w2 ⟨rfl, hb2⟩
        clear hb1
        go_wp2_with fail
        refine (cTw _ hb2).mono ?_
        rintro e w3 ⟨v1, rfl, hv1, hb3⟩
        clear hb2
        have kk1 := k1 _ _ hv1.out hb3
        clear hv1
        go_wp2_with fail
        refine kk1.mono ?_
        rintro e w4 ⟨rfl, hb4⟩
        clear hb3
        go_wp2_with fail
        refine (cTw _ hb4).mono ?_
        rintro e w5 ⟨v2, rfl, hv2, hb5⟩
        clear hb4
        have kk2 := k2 _ _ hv2.out hb5
        clear hv2
        go_wp2_with fail
        refine kk2.mono ?_
        rintro e w6 ⟨rfl, hb6⟩
        clear hb5
        go_wp2_with fail
        refine (cAw _ hb6).mono ?_
        rintro e w7 ⟨rfl, hb7⟩
        clear hb6
        go_wp2
        go_ret
        exact ⟨rfl, hb7⟩
      | done s1 n1 =>
        have k1 := kR F F rfl (by omega) (TS (getR s1.regs 0)) n1 0 (by rw [hR]; rfl)
        have hR2 := goF_more_done hR M
        have k2 := kR (F + M) (F + M) (by omega) (by omega) (TS (getR s1.regs 0)) n1 0 (by rw [hR2]; rfl)
        obtain ⟨_, hn2, hn3, hn4⟩ := goF_count hR
        simp only [Nat.zero_add, Nat.sub_zero] at hn2 hn3 hn4
        have k3 := kR n1 n1 rfl (by omega) (TS (getR s1.regs 0)) n1 0 (by rw [hn3]; rfl)
        have hnI : (n1 : Int) ≤ (F : Int) := by omega
        have hyy : ((TS (getR s1.regs 0)).toList == (TS (getR s1.regs 0)).toList) = true := by simp
        by_cases h0 : n1 = 0
        · subst h0
          clear hl hv htr hout hR hR2 kR hn2 hn3 hn4
          generalize TS t = S at *
          generalize TS (getR s1.regs 0) = Y at *
          go_enter Try.func4, Try.ntmps4
          go_wp2_with fail
          refine (cV _ (Below.refl _ _)).mono ?_
          rintro e w1 ⟨rfl, hb1⟩
          go_wp2_with fail
          refine (cT _ hb1).mono ?_
          rintro e w2 ⟨rfl, hb2⟩
          clear hb1
          go_wp2_with fail
          refine (cTw _ hb2).mono ?_
          rintro e w3 ⟨v1, rfl, hv1, hb3⟩
          clear hb2
          have kk1 := k1 _ _ hv1.out hb3
          clear hv1
          go_wp2_with fail
          refine kk1.mono ?_
          rintro e w4 ⟨rfl, hb4⟩
          clear hb3
          go_wp2_with fail
          refine (cTw _ hb4).mono ?_
          rintro e w5 ⟨v2, rfl, hv2, hb5⟩
          clear hb4
          have kk2 := k2 _ _ hv2.out hb5
          clear hv2
          go_wp2_with fail
          refine kk2.mono ?_
          rintro e w6 ⟨rfl, hb6⟩
          clear hb5
          go_wp2_with fail
          refine (cTw _ hb6).mono ?_
          rintro e w7 ⟨v3, rfl, hv3, hb7⟩
          clear hb6
          have kk3 := k3 _ _ hv3.out hb7
          clear hv3
          go_wp2_with fail
          refine kk3.mono ?_
          rintro e w8 ⟨rfl, hb8⟩
          clear hb7
          go_wp2_with fail
          refine (cAw _ hb8).mono ?_
          rintro e w9 ⟨rfl, hb9⟩
          clear hb8
          go_wp2
          go_ret
          exact ⟨rfl, hb9⟩
        · obtain ⟨s4, m4, h4⟩ := hn4 (n1 - 1) (by omega)
          have k4 := kR (n1 - 1) (n1 - 1) (by omega) (by omega) ⟨#[]⟩ 0 7 (by rw [h4]; rfl)
          have hne : ((n1 : Int) == 0) = false := by rw [beq_eq_false_iff_ne]; omega
          have hpos : (1 : Int) ≤ n1 := by omega
          clear hl hv htr hout hR hR2 kR hn2 hn3 hn4 h4 h0
          generalize TS t = S at *
          generalize TS (getR s1.regs 0) = Y at *
          go_enter Try.func4, Try.ntmps4
          go_wp2_with fail
          refine (cV _ (Below.refl _ _)).mono ?_
          rintro e w1 ⟨rfl, hb1⟩
          go_wp2_with fail
          refine (cT _ hb1).mono ?_
          rintro e w2 ⟨rfl, hb2⟩
          clear hb1
          go_wp2_with fail
          refine (cTw _ hb2).mono ?_
          rintro e w3 ⟨v1, rfl, hv1, hb3⟩
          clear hb2
          have kk1 := k1 _ _ hv1.out hb3
          clear hv1
          go_wp2_with fail
          refine kk1.mono ?_
          rintro e w4 ⟨rfl, hb4⟩
          clear hb3
          go_wp2_with fail
          refine (cTw _ hb4).mono ?_
          rintro e w5 ⟨v2, rfl, hv2, hb5⟩
          clear hb4
          have kk2 := k2 _ _ hv2.out hb5
          clear hv2
          go_wp2_with fail
          refine kk2.mono ?_
          rintro e w6 ⟨rfl, hb6⟩
          clear hb5
          go_wp2_with fail
          refine (cTw _ hb6).mono ?_
          rintro e w7 ⟨v3, rfl, hv3, hb7⟩
          clear hb6
          have kk3 := k3 _ _ hv3.out hb7
          clear hv3
          go_wp2_with fail
          refine kk3.mono ?_
          rintro e w8 ⟨rfl, hb8⟩
          clear hb7
          go_wp2_with fail
          refine (cTw _ hb8).mono ?_
          rintro e w9 ⟨v4, rfl, hv4, hb9⟩
          clear hb8
          have kk4 := k4 _ _ hv4.out hb9
          clear hv4
          go_wp2_with fail
          refine kk4.mono ?_
          rintro e w10 ⟨rfl, hb10⟩
          clear hb9
          go_wp2_with fail
          refine (cAw _ hb10).mono ?_
          rintro e w11 ⟨rfl, hb11⟩
          clear hb10
          go_wp2
          go_ret
          exact ⟨rfl, hb11⟩
  · obtain ⟨bv, hbv⟩ : ∃ b, validB l = b := ⟨_, rfl⟩
    have cV := cvalid_ct hl _ hbv
    cases bv with
    | false =>
      clear hbv hl hgood cTw
      go_enter Try.func4, Try.ntmps4
      go_wp2_with fail
      refine (cV _ (Below.refl _ _)).mono ?_
      rintro e w1 ⟨rfl, hb1⟩
      go_wp2_with fail
      refine (cAw _ hb1).mono ?_
      rintro e w2 ⟨rfl, hb2⟩
      clear hb1
      go_wp2
      go_ret
      exact ⟨rfl, hb2⟩
    | true =>
      have htr : isTree s = false := by cases h2 : isTree s <;> simp_all
      have cT := tvalid_ct (w := w) s hs _ htr
      clear hbv hl hgood htr cTw
      go_enter Try.func4, Try.ntmps4
      go_wp2_with fail
      refine (cV _ (Below.refl _ _)).mono ?_
      rintro e w1 ⟨rfl, hb1⟩
      go_wp2_with fail
      refine (cT _ hb1).mono ?_
      rintro e w2 ⟨rfl, hb2⟩
      clear hb1
      go_wp2_with fail
      refine (cAw _ hb2).mono ?_
      rintro e w3 ⟨rfl, hb3⟩
      clear hb2
      go_wp2
      go_ret
      exact ⟨rfl, hb3⟩

end Go.Proofs.Ytieocihlkpipmaa

/- law10: OrderListed. -/
import Derived.Test.YtdjbcmfjlfkcjaaKnow6
import Derived.Test.YtdjbcmfjlfkcjaaKnow5
import Derived.Test.YtdjbcmfjlfkcjaaOrd8
namespace Go.Proofs.Ytdjbcmfjlfkcjaa
open Go.RowKit

/-- The code of the program before. -/
def lastT (ls : List (List Ins)) : Nat → ByteArray
  | 0 => ⟨#[]⟩
  | i + 1 => match ls[i]? with | some l => TS (codeT l) | none => ⟨#[]⟩
theorem lastT_succ {ls : List (List Ins)} {i : Nat} {l : List Ins} (h : ls[i]? = some l) : lastT ls (i + 1) = TS (codeT l) := by
  show (match ls[i]? with | some l => TS (codeT l) | none => ⟨#[]⟩) = _
  rw [h]
theorem manyT_take {ls : List (List Ins)} {i : Nat} {l : List Ins} (c : Tr) (h : ls[i]? = some l) : manyT c (ls.take (i + 1)) = manyT c (ls.take i) + (if codeT l = c then 1 else 0) := by
  rw [take_snoc' _ _ _ h, manyT_snoc]
theorem manyT_le (c : Tr) (ls : List (List Ins)) : manyT c ls ≤ ls.length := by
  unfold manyT
  exact List.length_filter_le _ _
/-- What the list of few pairs is. -/
structure ListP (m : Nat) (ls : List (List Ins)) : Prop where
  valid : ∀ (i : Nat) (l : List Ins), ls[i]? = some l → validB l = true ∧ (codeT l).pairs ≤ m
  order : ∀ (i : Nat) (l l' : List Ins), ls[i]? = some l → ls[i + 1]? = some l' → trk (codeT l) < trk (codeT l')
  many : ∀ p : List Ins, validB p = true → manyT (codeT p) ls = if (codeT p).pairs ≤ m then 1 else 0
  len : ls.length ≤ 16777216
theorem listP (m : Nat) (hm : m ≤ 11) : ListP m (progsT (wsum (m + 1))) := by
  have hpt : ∀ t : Tr, trk t < wsum (m + 1) ↔ t.pairs ≤ m := fun t => by
    have := seq_pairs (r := trk t) (m := m)
    rw [seq_trk] at this
    exact this.symm
  refine ⟨fun i l h => ?_, fun i l l' h h' => ?_, fun p hp => ?_, ?_⟩
  · obtain ⟨h1, h2⟩ := progs_code (Nat.le_refl _) (by omega) (List.mem_of_getElem? h)
    exact ⟨h1, (hpt _).1 h2⟩
  · have hs := progs_sorted (m := m) (by omega) (Nat.le_refl _)
    obtain ⟨hi, rfl⟩ := List.getElem?_eq_some_iff.1 h
    obtain ⟨hi', rfl⟩ := List.getElem?_eq_some_iff.1 h'
    exact List.pairwise_iff_getElem.1 hs i (i + 1) hi hi' (by omega)
  · rw [manyT_progs (by omega) hp (Nat.le_refl _)]
    by_cases h : (codeT p).pairs ≤ m
    · rw [if_pos h, if_pos ((hpt _).2 h)]
    · rw [if_neg h, if_neg (fun e => h ((hpt _).1 e))]
  · exact Nat.le_trans (progs_len _) (wsum_twelve (by omega))
theorem codeN_size {l : List Ins} (hv : validB l = true) : codeN l = (codeT l).size := by
  have h1 := codeOf_TS (validB_all hv)
  have h2 := codeOf_size l
  rw [h1, TS_size] at h2
  exact h2.symm
theorem coded_tree {v : Value} {l : List Ins} {w : World} (hl : InsRow w w.heap.size v l) (hv : validB l = true) (hs : (codeT l).size ≤ 2000000) :
    Calls Try.prog 51 #[v] w fun e w' => e = .returned (.tuple #[.string (TS (codeT l)), .bool true]) ∧ Below w.heap.size w w' := by
  have h := coded_b true v l w hl hv (decide_eq_true (by rw [codeN_size hv]; exact hs))
  rwa [codeOf_TS (validB_all hv)] at h
theorem coded_not {v : Value} {l : List Ins} {w : World} (hl : InsRow w w.heap.size v l) (hv : validB l = true) (hs : ¬ (codeT l).size ≤ 2000000) :
    Calls Try.prog 51 #[v] w fun e w' => e = .returned (.tuple #[.string (TS (codeT l)), .bool false]) ∧ Below w.heap.size w w' := by
  have h := coded_b false v l w hl hv (decide_eq_false (by rw [codeN_size hv]; exact hs))
  rwa [codeOf_TS (validB_all hv)] at h
theorem rprs_at {t : Tr} (ht : t.size ≤ 2000000) (w : World) : Calls Try.prog 47 #[.string (TS t)] w fun e w' => e = .returned (.int .i64 t.pairs) ∧ w = w' := refPairs_ok t ht w
set_option maxRecDepth 20000 in
set_option maxHeartbeats 8000000 in
theorem law_OrderListed (v : Value) (q : List Ins) {w : World} (hq : InsRow w w.heap.size v q) (n : Int) (hn : -9223372036854775808 ≤ n ∧ n ≤ 9223372036854775807) :
    Calls Try.prog 10 #[v, .int .i64 n] w fun e w' => e = .returned (.bool true) ∧ Below w.heap.size w w' := by
  obtain ⟨qa, qc, rfl⟩ := hq.len
  obtain ⟨qn, hqn⟩ : ∃ k, q.length = k := ⟨_, rfl⟩
  rw [hqn] at hq ⊢
  have hQ := Lib.hid hq
  obtain ⟨bv, hbv⟩ : ∃ b, validB q = b := ⟨_, rfl⟩
  have HV := Lib.hid hbv
  clear hq hqn hbv
  have ch := Lib.hid (Below.refl w.heap.size w)
  go_enter Try.func10, Try.ntmps10
  go_wp2_with fail
  have hL0 := ProgsRow.lit (w := w) [.slice qa qn qc] [q] rfl (by simp) (fun j u l hu hl => match j, u, l, hu, hl with | 0, _, _, hu, hl => by cases hu; cases hl; exact hQ.out)
  obtain ⟨w1, hW⟩ : ∃ B, w.alloc (.cells #[.slice qa qn qc] 23) = B := ⟨_, rfl⟩
  rw [hW]
  have hq : Below w.heap.size w w1 := by rw [← hW]; exact (Below.refl _ _).alloc (Nat.le_refl _) _
  have hL := Lib.hid (show ProgsRow w1 w1.heap.size (.slice (some ⟨w.heap.size, 0, none⟩) 1 1) [q] by rw [← hW]; exact hL0)
  clear hW hL0
  have hQ := Lib.hid ((hQ.out.below hq).mono hq.size)
  have ch := Lib.hid (ch.out.trans (hq.mono ch.out.size))
  clear hq
  refine (small_one _ _ q _ hL.out).mono ?_
  rintro e w2 ⟨b1, rfl, hq⟩
  have hQ := Lib.hid ((hQ.out.below hq).mono hq.size)
  have ch := Lib.hid (ch.out.trans (hq.mono ch.out.size))
  clear hq hL
  cases b1 with
  | false =>
    go_wp2_with fail
    refine (awake10_any _).mono ?_
    rintro e wz ⟨rfl, hqz⟩
    go_wp2
    go_ret
    exact ⟨rfl, ch.out.trans (hqz.mono ch.out.size)⟩
  | true =>
    go_wp2_with fail
    refine (cvalid_at bv HV.out hQ.out).mono ?_
    rintro e w3 ⟨rfl, hq⟩
    have hQ := Lib.hid ((hQ.out.below hq).mono hq.size)
    have ch := Lib.hid (ch.out.trans (hq.mono ch.out.size))
    clear hq
    cases bv with
    | false =>
      go_wp2_with fail
      refine (awake10_any _).mono ?_
      rintro e wz ⟨rfl, hqz⟩
      go_wp2
      go_ret
      exact ⟨rfl, ch.out.trans (hqz.mono ch.out.size)⟩
    | true =>
      by_cases h0 : n < 0
      · skip
        go_wp2_with fail
        refine (awake10_any _).mono ?_
        rintro e wz ⟨rfl, hqz⟩
        go_wp2
        go_ret
        exact ⟨rfl, ch.out.trans (hqz.mono ch.out.size)⟩
      by_cases h1 : 11 < n
      · have h0' : ¬ n < 0 := by omega
        go_wp2_with fail
        refine (awake10_any _).mono ?_
        rintro e wz ⟨rfl, hqz⟩
        go_wp2
        go_ret
        exact ⟨rfl, ch.out.trans (hqz.mono ch.out.size)⟩
      obtain ⟨m, rfl⟩ : ∃ m : Nat, n = m := ⟨n.toNat, by omega⟩
      have hmI : (0 : Int) ≤ m ∧ (m : Int) ≤ 11 := by omega
      have hm : m ≤ 11 := by omega
      clear h0 h1 hn
      obtain ⟨c, hc⟩ : ∃ c, codeT q = c := ⟨_, rfl⟩
      by_cases hs : c.size ≤ 2000000
      rotate_left
      · have kc := Lib.hid (coded_not hQ.out HV.out (by rw [hc]; exact hs))
        rw [hc] at kc
        clear hs
        go_wp2_with fail
        refine kc.out.mono ?_
        rintro e w4 ⟨rfl, hq⟩
        have ch := Lib.hid (ch.out.trans (hq.mono ch.out.size))
        clear hq
        go_wp2_with fail
        refine (awake10_any _).mono ?_
        rintro e wz ⟨rfl, hqz⟩
        go_wp2
        go_ret
        exact ⟨rfl, ch.out.trans (hqz.mono ch.out.size)⟩
      have kc := Lib.hid (coded_tree hQ.out HV.out (by rw [hc]; exact hs))
      have kpq := Lib.hid (fun w => rprs_at hs w)
      rw [hc] at kc
      have LP := Lib.hid (listP m hm)
      have kP := Lib.hid (fun w => programs_ok m hm w)
      have HMANY := Lib.hid ((listP m hm).many q HV.out)
      rw [hc] at HMANY
      have HC := Lib.hid hc
      generalize progsT (wsum (m + 1)) = ls at *
      clear hs hc hm
      go_wp2_with fail
      refine kc.out.mono ?_
      rintro e w4 ⟨rfl, hq⟩
      have ch := Lib.hid (ch.out.trans (hq.mono ch.out.size))
      clear hq kc
      go_wp2_with fail
      refine (kP.out _).mono ?_
      rintro e w5 ⟨pv, rfl, hp, hq⟩
      have HP := Lib.hid hp
      have ch := Lib.hid (ch.out.trans (hq.mono ch.out.size))
      clear hq kP hp
      obtain ⟨pa, pc, rfl⟩ := HP.out.len
      have hl16 := LP.out.len
      obtain ⟨N, hN⟩ : ∃ N, ls.length = N := ⟨_, rfl⟩
      rw [hN] at hl16 HP ⊢
      have HN := Lib.hid hN
      have hNI : (N : Int) ≤ 16777216 := by omega
      clear hN hl16
      go_wp2
      go_loopg [9, 10, 11] N (fun gg a b d wr => ∃ i : Nat, i ≤ N ∧ gg = N - i ∧ d = .int .i64 (i : Int) ∧ a = .int .i64 (manyT c (ls.take i) : Nat) ∧ b = .string (lastT ls i) ∧ Hid (Below w5.heap.size w5 wr))
      case atStart => exact ⟨0, by omega, rfl, rfl, rfl, rfl, Lib.hid (Below.refl _ _)⟩
      case round =>
        obtain ⟨i, hi, hgg, rfl, rfl, rfl, hb⟩ := hrel
        have HGG := Lib.hid hgg; clear hgg
        have hi0 : (0 : Int) ≤ i := by omega
        by_cases hlt : i < N
        · have hiI : (i : Int) < N := by omega
          obtain ⟨l, hl⟩ : ∃ l, ls[i]? = some l := ⟨_, List.getElem?_eq_getElem (by rw [HN.out]; exact hlt)⟩
          obtain ⟨hlv, hlp⟩ := LP.out.valid i l hl
          have hls : (codeT l).size ≤ 2000000 := by rw [Tr.size_pairs]; omega
          have hp2 := HP.out.step hb.out
          obtain ⟨g, off, u, rfl, hg, c0, hu⟩ := hp2.get hl
          have HCL := Lib.hid (show g < wr.heap.size ∧ wr.cell? ⟨g, off + i, none⟩ = some u from ⟨hg, c0⟩)
          have hu1 := Lib.hid (cvalid_at true hlv hu)
          have hu2 := Lib.hid (fun w' (hq : Below wr.heap.size wr w') => coded_tree (w := w') ((hu.below hq).mono hq.size) hlv hls)
          have hu3 := Lib.hid (fun w => rprs_at hls w)
          have hmt := manyT_take c hl
          have hlast := Lib.hid (lastT_succ hl)
          have hml : manyT c (ls.take i) ≤ i := by
            have := manyT_le c (ls.take i)
            rw [List.length_take] at this
            omega
          have hbf : Hid (i = 0 ∨ ∀ w, Calls Try.prog 48 #[.string (lastT ls i), .string (TS (codeT l))] w fun e w' => e = .returned (.bool true) ∧ Below w.heap.size w w') := by
            refine Lib.hid ?_
            cases i with
            | zero => exact .inl rfl
            | succ j =>
              obtain ⟨l', hl'⟩ : ∃ l, ls[j]? = some l := ⟨_, List.getElem?_eq_getElem (by rw [HN.out]; omega)⟩
              have hor := LP.out.order j l' l hl' hl
              have hlp' := (LP.out.valid j l' hl').2
              rw [lastT_succ hl']
              exact .inr fun w => before_TS _ _ (by rw [Tr.size_pairs]; omega) hls true (decide_eq_true hor) w
          have hcq : (codeT l = c ∧ manyT c (ls.take (i + 1)) = manyT c (ls.take i) + 1) ∨ (((TS (codeT l)).toList == (TS c).toList) = false ∧ manyT c (ls.take (i + 1)) = manyT c (ls.take i)) := by
            by_cases he : codeT l = c
            · exact .inl ⟨he, by rw [hmt, if_pos he]⟩
            · refine .inr ⟨?_, by rw [hmt, if_neg he, Nat.add_zero]⟩
              rw [ByteArray.toList_eq, ByteArray.toList_eq, TS_list, TS_list, beq_eq_false_iff_ne]
              exact fun e => he (enc_inj e)
          have hpI : ((codeT l).pairs : Int) ≤ m := by omega
          clear hmt hlv hls hp2 hl hu hg hlp
          have hmI2 : (0 : Int) ≤ (manyT c (ls.take i) : Nat) ∧ ((manyT c (ls.take i) : Nat) : Int) ≤ 16777216 := by omega
          clear hml
          obtain ⟨M, hM⟩ : ∃ M, manyT c (ls.take i) = M := ⟨_, rfl⟩
          rw [hM] at hcq hmI2 ⊢
          clear hM
          obtain ⟨t, ht⟩ : ∃ t, codeT l = t := ⟨_, rfl⟩
          rw [ht] at hu2 hu3 hlast hbf hcq hpI
          clear ht
          go_wp2_with fail
          refine hu1.out.mono ?_
          rintro e w6 ⟨rfl, hq6⟩
          have HQ6 := Lib.hid hq6
          have c0 := (hq6.cell (p := ⟨g, off + i, none⟩) HCL.out.1).trans HCL.out.2
          clear hq6 hu1
          go_wp2_with fail
          refine (hu2.out _ HQ6.out).mono ?_
          rintro e w7 ⟨rfl, hq7⟩
          have HQ7 := Lib.hid (HQ6.out.trans (hq7.mono HQ6.out.size))
          clear hq7 hu2 c0 HQ6
          go_wp2_with fail
          refine (hu3.out _).mono ?_
          rintro e _ ⟨rfl, rfl⟩
          rcases hcq with ⟨he, hmn⟩ | ⟨hne, hmn⟩
          · subst he
            have HMN := Lib.hid hmn
            clear hmn
            rcases hbf.out with rfl | hbf2
            · have HF := Lib.hid (hb.out.trans (HQ7.out.mono hb.out.size))
              clear hbf HQ7
              generalize TS t = S at *
              go_wp2
              go_roundg (N - (0 + 1))
              case measure => rw [HGG.out]; omega
              case rel => exact ⟨0 + 1, by omega, rfl, by go_num, by rw [HMN.out]; go_num, by rw [hlast.out], HF⟩
            · have hbn : (∃ j, i = j + 1) ∨ i = 0 := by cases i with | zero => exact .inr rfl | succ j => exact .inl ⟨j, rfl⟩
              rcases hbn with ⟨j, hj⟩ | hj
              · have hjI : (0 : Int) < i := by omega
                have HBF := Lib.hid hbf2
                clear hbf2 hbf hj
                generalize TS t = S at *
                generalize lastT ls i = Z at *
                go_wp2_with fail
                refine (HBF.out _).mono ?_
                rintro e w8 ⟨rfl, hq8⟩
                have HF := Lib.hid (hb.out.trans ((HQ7.out.trans (hq8.mono HQ7.out.size)).mono hb.out.size))
                clear hq8 HBF HQ7
                go_wp2
                go_roundg (N - (i + 1))
                case measure => rw [HGG.out]; omega
                case rel => exact ⟨i + 1, by omega, rfl, by go_num, by rw [HMN.out]; go_num, by rw [hlast.out], HF⟩
              · subst hj
                have HF := Lib.hid (hb.out.trans (HQ7.out.mono hb.out.size))
                clear hbf HQ7 hbf2
                generalize TS t = S at *
                go_wp2
                go_roundg (N - (0 + 1))
                case measure => rw [HGG.out]; omega
                case rel => exact ⟨0 + 1, by omega, rfl, by go_num, by rw [HMN.out]; go_num, by rw [hlast.out], HF⟩
          · have HMN := Lib.hid hmn
            clear hmn
            rcases hbf.out with rfl | hbf2
            · have HF := Lib.hid (hb.out.trans (HQ7.out.mono hb.out.size))
              clear hbf HQ7
              generalize TS t = S at *
              generalize TS c = S2 at *
              go_wp2
              go_roundg (N - (0 + 1))
              case measure => rw [HGG.out]; omega
              case rel => exact ⟨0 + 1, by omega, rfl, by go_num, by rw [HMN.out], by rw [hlast.out], HF⟩
            · have hbn : (∃ j, i = j + 1) ∨ i = 0 := by cases i with | zero => exact .inr rfl | succ j => exact .inl ⟨j, rfl⟩
              rcases hbn with ⟨j, hj⟩ | hj
              · have hjI : (0 : Int) < i := by omega
                have HBF := Lib.hid hbf2
                clear hbf2 hbf hj
                generalize TS t = S at *
                generalize TS c = S2 at *
                generalize lastT ls i = Z at *
                go_wp2_with fail
                refine (HBF.out _).mono ?_
                rintro e w8 ⟨rfl, hq8⟩
                have HF := Lib.hid (hb.out.trans ((HQ7.out.trans (hq8.mono HQ7.out.size)).mono hb.out.size))
                clear hq8 HBF HQ7
                go_wp2
                go_roundg (N - (i + 1))
                case measure => rw [HGG.out]; omega
                case rel => exact ⟨i + 1, by omega, rfl, by go_num, by rw [HMN.out], by rw [hlast.out], HF⟩
              · subst hj
                have HF := Lib.hid (hb.out.trans (HQ7.out.mono hb.out.size))
                clear hbf HQ7 hbf2
                generalize TS t = S at *
                generalize TS c = S2 at *
                go_wp2
                go_roundg (N - (0 + 1))
                case measure => rw [HGG.out]; omega
                case rel => exact ⟨0 + 1, by omega, rfl, by go_num, by rw [HMN.out], by rw [hlast.out], HF⟩
        · obtain rfl : i = N := by omega
          have hmf : manyT c (ls.take i) = if c.pairs ≤ m then 1 else 0 := by
            rw [List.take_of_length_le (by rw [HN.out]; exact Nat.le_refl _)]
            exact HMANY.out
          have hch := Lib.hid (ch.out.trans (hb.out.mono ch.out.size))
          clear HMANY LP
          by_cases hpm : c.pairs ≤ m
          · rw [if_pos hpm] at hmf
            rw [hmf]
            have hpI : (c.pairs : Int) ≤ m := by omega
            clear hmf hpm
            generalize lastT ls i = Z at *
            generalize TS c = S at *
            generalize (c.pairs : Int) = z at *
            go_wp2_with fail
            refine (kpq.out _).mono ?_
            rintro e _ ⟨rfl, rfl⟩
            go_wp2_with fail
            refine (awake10_any _).mono ?_
            rintro e wz ⟨rfl, hqz⟩
            go_wp2
            go_ret
            exact ⟨rfl, hch.out.trans (hqz.mono hch.out.size)⟩
          · rw [if_neg hpm] at hmf
            rw [hmf]
            have hpI : ¬ (c.pairs : Int) ≤ m := by omega
            clear hmf hpm
            generalize lastT ls i = Z at *
            generalize TS c = S at *
            generalize (c.pairs : Int) = z at *
            go_wp2_with fail
            refine (kpq.out _).mono ?_
            rintro e _ ⟨rfl, rfl⟩
            go_wp2_with fail
            refine (awake10_any _).mono ?_
            rintro e wz ⟨rfl, hqz⟩
            go_wp2
            go_ret
            exact ⟨rfl, hch.out.trans (hqz.mono hch.out.size)⟩
end Go.Proofs.Ytdjbcmfjlfkcjaa


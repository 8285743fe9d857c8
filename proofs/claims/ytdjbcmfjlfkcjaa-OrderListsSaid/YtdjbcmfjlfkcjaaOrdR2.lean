/- narcissusref10: Pairs, Rank. -/
import Derived.Test.YtdjbcmfjlfkcjaaOrdR1
import Derived.Test.YtdjbcmfjlfkcjaaMB0
namespace Go.Proofs.Ytdjbcmfjlfkcjaa
open Go.RowKit

set_option maxHeartbeats 400000 in
theorem pairs10_any (s : ByteArray) (hs : s.size ≤ 281474976710656) (w : World) :
    Calls Try.prog 37 #[.string s] w fun e w' => e = .returned (.int .i64 (ones s.data.toList)) ∧ w = w' := by
  go_enter Try.func37, Try.ntmps37
  go_wp2
  go_loopg [3, 4] s.size (fun g n i wr => ∃ k m : Nat, k ≤ s.size ∧ m ≤ k ∧ g = s.size - k ∧ i = .int .i64 k ∧ n = .int .i64 m ∧ Aside (m = ones (s.data.toList.take k)) ∧ w = wr)
  case atStart => exact ⟨0, 0, Nat.zero_le _, Nat.zero_le _, rfl, rfl, rfl, rfl, rfl⟩
  case round =>
    obtain ⟨k, m, hk, hmk, hg, rfl, rfl, hv, rfl⟩ := hrel
    have HG := Lib.hid hg; clear hg
    by_cases hlt : k < s.size
    · have hn := Lib.hid (ones_snoc s k hlt)
      by_cases h9 : (s[k].toNat : Int) = 49
      · have HH := Lib.hid h9
        go_wp2
        go_roundg (s.size - (k + 1))
        case measure => rw [HG.out]; omega
        case rel => exact ⟨k + 1, m + 1, by omega, by omega, rfl, by go_num, by go_num, by show _ = _; rw [hn.out, if_pos HH.out, ← hv.out], rfl⟩
      · have HH := Lib.hid h9
        have b9 : ((s[k].toNat : Int) == 49) = false := beq_eq_false_iff_ne.2 h9
        go_wp2
        go_roundg (s.size - (k + 1))
        case measure => rw [HG.out]; omega
        case rel => exact ⟨k + 1, m, by omega, by omega, rfl, by go_num, by go_num, by show _ = _; rw [hn.out, if_neg HH.out, ← hv.out]; rfl, rfl⟩
    · go_wp2
      go_ret
      exact ⟨ret_i (by rw [hv.out, List.take_of_length_le (by simp; omega)]), rfl⟩
theorem pairs10_ok (t : Tr) (hs : t.size ≤ 2000000) (w : World) :
    Calls Try.prog 37 #[.string (TS t)] w fun e w' => e = .returned (.int .i64 t.pairs) ∧ w = w' := by
  have := pairs10_any (TS t) (by rw [TS_size]; omega) w
  rwa [TS_list, ones_enc] at this
set_option maxRecDepth 20000 in
set_option maxHeartbeats 4000000 in
theorem rrank_ok (t : Tr) (hp : t.pairs ≤ 30) (w : World) :
    Calls Try.prog 38 #[.string (TS t)] w fun e w' => e = .returned (.int .i64 (trk t)) ∧ Below w.heap.size w w' := by
  have hts := t.size_pairs
  have kp := Lib.hid (fun w => pairs10_ok t (by omega) w)
  have hsz : (TS t).size = 2 * t.pairs + 1 := by rw [TS_size, hts]
  have hW := Wd.enc t
  have hbt := trk_lt t
  have hw31 := wsum_lt (k := t.pairs + 1) (by omega)
  obtain ⟨R, hR⟩ : ∃ R, trk t = R := ⟨_, rfl⟩
  rw [← TS_list] at hW
  obtain ⟨P, hP⟩ : ∃ P, t.pairs = P := ⟨_, rfl⟩
  have hrk : wsum P + wrk P 1 (TS t).data.toList = R := by rw [← hR, ← hP, TS_list]; rfl
  obtain ⟨s, hs⟩ : ∃ s, TS t = s := ⟨_, rfl⟩
  rw [hs] at kp hsz hW hrk ⊢
  rw [hR] at hbt ⊢
  rw [hP] at kp hbt hw31 hsz hW hp
  have hRI : Sm62 R := ⟨by omega⟩
  have HSZ := Lib.hid hsz
  have HW := Lib.hid hW
  have HRK := Lib.hid hrk
  have hpI : (P : Int) ≤ 30 := by omega
  have hsI : (s.size : Int) ≤ 61 := by omega
  have HSI := Lib.hid hsI
  clear hs hsz hW hrk hts hR hP hbt hw31 hsI
  go_enter Try.func38, Try.ntmps38
  go_wp2_with fail
  refine (ways_any _).mono ?_
  rintro e w2 ⟨g, rfl, hg, hT, hb⟩
  have HT := Lib.hid hT
  have HB := Lib.hid hb
  clear hT hb
  go_wp2_with fail
  refine (kp.out _).mono ?_
  rintro e w3 ⟨rfl, rfl⟩
  clear kp
  have hRW : wsum P ≤ R := by have := HRK.out; omega
  have HWS := Lib.hid (fun k (h : k ≤ P) => Nat.le_trans (wsum_mono h) hRW)
  clear hRW
  have c1 := HT.out.row (n := 1) (by omega)
  go_wp2
  go_loopg [6, 7] P (fun gg a i wr => ∃ k : Nat, k ≤ P ∧ gg = P - k ∧ i = .int .i64 (k : Int) ∧ a = .int .i64 (wsum k : Nat) ∧ wr = w2)
  case atStart => exact ⟨0, by omega, rfl, rfl, rfl, rfl⟩
  case round =>
    obtain ⟨k, hk, hgg, rfl, rfl, rfl⟩ := hrel
    have HGG := Lib.hid hgg; clear hgg
    have hk0 : (0 : Int) ≤ k := by omega
    by_cases hkP : k < P
    · have hkI : (k : Int) < P := by omega
      have c0 := HT.out.cell (k := k) (n := 1) (by omega) (by omega) (by omega)
      have h1 := HWS.out (k + 1) hkP
      have h2 : wsum (k + 1) = wsum k + wy k 1 := rfl
      obtain ⟨x, hx⟩ : ∃ x : Int, ((wy k 1 : Nat) : Int) = x := ⟨_, rfl⟩
      obtain ⟨y, hy⟩ : ∃ y : Int, ((wsum k : Nat) : Int) = y := ⟨_, rfl⟩
      rw [hx] at c0
      have hxy : 0 ≤ x ∧ 0 ≤ y ∧ y + x < 4611686018427387904 := by have := hRI.lt; omega
      have hn : y + x = ((wsum (k + 1) : Nat) : Int) := by omega
      have HN := Lib.hid hn
      rw [hy]
      clear hx hy hn h1 h2
      go_wp2
      go_roundg (P - (k + 1))
      case measure => rw [HGG.out]; omega
      case rel => exact ⟨k + 1, hkP, rfl, by go_num, by rw [← HN.out], rfl⟩
    · obtain rfl : k = P := by omega
      have hst : wsum k + wrk k 1 (s.data.toList.drop 0) = R := by rw [List.drop_zero]; exact HRK.out
      have hst2 : Wd k 1 (s.data.toList.drop 0) := by rw [List.drop_zero]; exact HW.out
      have HST := Lib.hid hst
      have HST2 := Lib.hid hst2
      clear hst hst2 c1
      go_wp2
      have hsI := HSI.out
      go_loopg [4, 5, 6, 8] s.size (fun gg a b c d wz => ∃ (i p n acc : Nat), i ≤ s.size ∧ gg = s.size - i ∧ d = .int .i64 (i : Int) ∧ a = .int .i64 (n : Int) ∧ b = .int .i64 (p : Int) ∧ c = .int .i64 (acc : Int) ∧ p ≤ 30 ∧ n + p ≤ 31 ∧ Hid (Wd p n (s.data.toList.drop i)) ∧ Hid (acc + wrk p n (s.data.toList.drop i) = R) ∧ wz = wr)
      case atStart => exact ⟨0, k, 1, wsum k, by omega, rfl, rfl, rfl, rfl, rfl, by omega, by omega, HST2, HST, rfl⟩
      case round =>
        obtain ⟨i, p, n, acc, hi, hgg, rfl, rfl, rfl, rfl, hp30, hnp, hWd, hAcc, rfl⟩ := hrel
        have HGG := Lib.hid hgg; clear hgg HST HST2
        have hi0 : (0 : Int) ≤ i := by omega
        by_cases hiS : i < s.size
        · have hWd2 := hWd.out
          have hAc2 := hAcc.out
          rw [drop_cons s i hiS] at hWd2 hAc2
          obtain ⟨l, hl⟩ : ∃ l, s.data.toList.drop (i + 1) = l := ⟨_, rfl⟩
          obtain ⟨c, hc⟩ : ∃ c, s[i] = c := ⟨_, rfl⟩
          rw [hl, hc] at hWd2 hAc2
          clear hWd hAcc
          have HL := Lib.hid hl
          cases hWd2 with
          | @zero _ n _ hW3 =>
            have b9 : ((s[i].toNat : Int) == 48) = true := by rw [hc]; rfl
            rw [wrk_48] at hAc2
            have HW3 := Lib.hid hW3
            have HA3 := Lib.hid hAc2
            clear hW3 hAc2 hl hc
            go_wp2
            go_roundg (s.size - (i + 1))
            case measure => rw [HGG.out]; omega
            case rel => exact ⟨i + 1, p, n, acc, hiS, rfl, by go_num, by go_num, rfl, rfl, hp30, by omega, by rw [HL.out]; exact HW3, by rw [HL.out]; exact HA3, rfl⟩
          | @one p n _ hW3 =>
            have b9 : ((s[i].toNat : Int) == 48) = false := by rw [hc]; rfl
            rw [wrk_49] at hAc2
            have c0 := HT.out.row (n := n) (by omega)
            have c2 := HT.out.cell (k := p + 1) (n := n) hp30 (by omega) (by omega)
            obtain ⟨x, hx⟩ : ∃ x : Int, ((wy (p + 1) n : Nat) : Int) = x := ⟨_, rfl⟩
            rw [hx] at c2
            obtain ⟨y, hy⟩ : ∃ y : Int, (acc : Int) = y := ⟨_, rfl⟩
            have hxA : 0 ≤ x ∧ 0 ≤ y ∧ y + x < 4611686018427387904 := by have := hRI.lt; omega
            have hA3 : (acc + wy (p + 1) n) + wrk p (n + 2) l = R := by omega
            have hn3 : y + x = ((acc + wy (p + 1) n : Nat) : Int) := by omega
            have hp30I : (p : Int) ≤ 29 ∧ (n : Int) ≤ 30 := by omega
            have hpn0 : (0 : Int) ≤ p ∧ (0 : Int) ≤ n := by omega
            have HW3 := Lib.hid hW3
            have HA3 := Lib.hid hA3
            have HN3 := Lib.hid hn3
            rw [hy]
            clear hW3 hAc2 hl hc hA3 hn3 hx hy
            go_wp2
            go_roundg (s.size - (i + 1))
            case measure => rw [HGG.out]; omega
            case rel => exact ⟨i + 1, p, n + 2, acc + wy (p + 1) n, hiS, rfl, by go_num, by go_num, by go_num, by rw [← HN3.out], by omega, by omega, by rw [HL.out]; exact HW3, by rw [HL.out]; exact HA3, rfl⟩
        · obtain rfl : i = s.size := by omega
          have hA := hAcc.out
          have hnil : s.data.toList.drop s.size = [] := List.drop_eq_nil_of_le (Nat.le_of_eq (by simp))
          rw [hnil] at hA
          have hA2 : acc = R := by simpa [wrk] using hA
          clear hA hnil
          subst hA2
          go_wp2
          go_ret
          exact ⟨rfl, HB.out⟩
end Go.Proofs.Ytdjbcmfjlfkcjaa


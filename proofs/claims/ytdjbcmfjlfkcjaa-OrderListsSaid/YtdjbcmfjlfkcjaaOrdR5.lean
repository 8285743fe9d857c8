/- narcissusref10.Programs, narcissusref08.Same. -/
import Derived.Test.YtdjbcmfjlfkcjaaDec6
import Derived.Test.YtdjbcmfjlfkcjaaMB4
import Derived.Test.YtdjbcmfjlfkcjaaOrdR4
import Derived.Test.YtdjbcmfjlfkcjaaOrdR2
namespace Go.Proofs.Ytdjbcmfjlfkcjaa
open Go.RowKit

theorem next10_seq (r m : Nat) (hm : m ≤ 1000) (hr : r < wsum (m + 1)) (w : World) :
    Calls Try.prog 39 #[.string (TS (seqT r))] w fun e w' => e = .returned (.string (TS (seqT (r + 1)))) ∧ Below w.heap.size w w' := by
  have h1 := seq_size (r := r) (m := m) hr
  exact next10_any (seqT r) (seqT (r + 1)) (by omega) (nxT_spec _).1 w
set_option maxRecDepth 20000 in
set_option maxHeartbeats 4000000 in
theorem rprograms_ok (m : Nat) (hm : m ≤ 11) (w : World) :
    Calls Try.prog 45 #[.int .i64 m] w fun e w' => ∃ v, e = .returned v ∧ ProgsRow w' w'.heap.size v (progsT (wsum (m + 1))) ∧ Below w.heap.size w w' := by
  have hmI : (0 : Int) ≤ m ∧ (m : Int) ≤ 11 := by omega
  obtain ⟨R, hR⟩ : ∃ R, wsum (m + 1) = R := ⟨_, rfl⟩
  have hR24 : R ≤ 16777216 := by rw [← hR]; exact wsum_twelve (by omega)
  have hPL := Lib.hid (fun r => progs_len r)
  have HSP := Lib.hid (fun r => seq_pairs (r := r) (m := m))
  have HNX := Lib.hid (fun r (hr : r < R) w => next10_seq r m (by omega) (by rw [hR]; exact hr) w)
  have HP2 : Hid ((seqT R).pairs ≤ m + 1) := Lib.hid (seq_pairs.2 (by rw [← hR]; exact wsum_step (m + 1)))
  rw [hR] at HSP ⊢
  clear hR
  go_enter Try.func45, Try.ntmps45
  go_wp2
  go_loopg [3, 4] R (fun gg o s wr => ∃ r : Nat, r ≤ R ∧ gg = R - r ∧ s = .string (TS (seqT r)) ∧ Hid (OwnP wr w.heap.size o (progsT r)) ∧ Hid (Below w.heap.size w wr))
  case atStart => exact ⟨0, by omega, rfl, rfl, Lib.hid (OwnP.nil _ _), Lib.hid (Below.refl _ _)⟩
  case round =>
    obtain ⟨r, hr, hgg, rfl, hO, hB⟩ := hrel
    have HGG := Lib.hid hgg; clear hgg
    have hsz : (TS (seqT r)).size = 2 * (seqT r).pairs + 1 := by rw [TS_size, Tr.size_pairs]
    by_cases hlt : r < R
    · have hp := (HSP.out r).2 hlt
      have kp := Lib.hid (fun w => pairs10_ok (seqT r) (by rw [Tr.size_pairs]; omega) w)
      have hdec := Lib.hid (fun w => rdecode_any (seqT r) (by rw [Tr.size_pairs]; omega) w)
      have hnx := Lib.hid (fun w => HNX.out r hlt w)
      have hPN := Lib.hid (progs_none (r := r))
      have hPS := Lib.hid (fun l => progs_some (r := r) (l := l))
      have hlen := Lib.hid (hPL.out r)
      have hts : (seqT r).size ≤ 2000000 := by rw [Tr.size_pairs]; omega
      have HTS := Lib.hid hts
      clear hts
      obtain ⟨t, ht⟩ : ∃ t, seqT r = t := ⟨_, rfl⟩
      rw [ht] at HTS kp hsz hp hdec hnx hPN hPS ⊢
      obtain ⟨P, hP⟩ : ∃ P, t.pairs = P := ⟨_, rfl⟩
      rw [hP] at kp hsz hp
      obtain ⟨s, hs⟩ : ∃ s, TS t = s := ⟨_, rfl⟩
      rw [hs] at kp hsz hdec hnx ⊢
      have hsI : (s.size : Int) ≤ 23 := by omega
      have hpI : (P : Int) ≤ m := by omega
      obtain ⟨oa, oc, rfl⟩ := hO.out.len
      obtain ⟨q, hq⟩ : ∃ q, (progsT r).length = q := ⟨_, rfl⟩
      have HQ := Lib.hid hq
      rw [hq] at hO hlen ⊢
      clear hq ht hP hs hsz hp
      go_wp2_with fail
      refine (kp.out _).mono ?_
      rintro e _ ⟨rfl, rfl⟩
      go_wp2_with fail
      refine (hdec.out _).mono ?_
      rintro e w1 ⟨hb1, ⟨l, v, hl, rfl, hv⟩ | ⟨hl, v0, rfl⟩⟩
      · have hO1 := hO.out.below hb1
        have HB1 := Lib.hid (hB.out.trans (hb1.mono hB.out.size))
        have hL := Lib.hid (hPS.out l hl)
        obtain ⟨a1, c1, rfl⟩ := hv.slice
        have hue : ∀ g, (Value.slice a1 l.length c1).ownBlock = some g → g < w1.heap.size ∧ (Value.slice oa q oc).ownBlock ≠ some g := fun g hg => ⟨(hv.block hg).2, fun e => by have h1 := (hO.out.lt e).2; have h2 := (hv.block hg).1; omega⟩
        have hrow := hv.row (by have := validB_len (decT_code HTS.out hl).2; omega)
        have hb2 := HB1.out
        clear hb1 hdec hl hv hPN hPS hB hO
        go_wp2_with (at_builtin; refine app_prog rfl _ _ rfl rfl hO1 rfl hrow rfl ?c1 ?c2 hb2 ?_)
        case c1 => exact hue
        case c2 => rw [HQ.out]; have := hlen.out; omega
        clear hO1 hb2 hrow hue
        intro a' k' c' w' hk' hown' hb'
        have hkk : Hid (k' = (progsT (r + 1)).length) := Lib.hid (by rw [hk'.out, hL.out, List.length_append]; rfl)
        have HO2 : Hid (OwnP w' w.heap.size (.slice a' k' c') (progsT (r + 1))) := Lib.hid (by rw [hL.out]; exact hown'.out)
        clear hown' hk' hL
        go_wp2_with fail
        refine (hnx.out _).mono ?_
        rintro e w3 ⟨rfl, hb3⟩
        have HB3 := Lib.hid (hb'.out.trans (hb3.mono hb'.out.size))
        have HO3 := Lib.hid (HO2.out.below hb3)
        clear hb3 hb' HO2 hnx
        go_wp2
        go_roundg (R - (r + 1))
        case measure => rw [HGG.out]; omega
        case rel => exact ⟨r + 1, by omega, rfl, rfl, HO3, HB3⟩
      · have HO1 := Lib.hid (hO.out.below hb1)
        have HB1 := Lib.hid (hB.out.trans (hb1.mono hB.out.size))
        have hL := Lib.hid (hPN.out hl)
        clear hb1 hdec hl hPN hPS hB hO
        go_wp2_with fail
        refine (hnx.out _).mono ?_
        rintro e w3 ⟨rfl, hb3⟩
        have HB3 := Lib.hid (HB1.out.trans (hb3.mono HB1.out.size))
        have HO3 := Lib.hid (HO1.out.below hb3)
        clear hb3 HO1 HB1 hnx
        go_wp2
        go_roundg (R - (r + 1))
        case measure => rw [HGG.out]; omega
        case rel => exact ⟨r + 1, by omega, rfl, rfl, Lib.hid (by rw [hL.out]; exact HO3.out), HB3⟩
    · obtain rfl : r = R := by omega
      have hp : ¬ (seqT r).pairs ≤ m := fun h => hlt ((HSP.out r).1 h)
      have hp2 := HP2.out
      have kp := Lib.hid (fun w => pairs10_ok (seqT r) (by rw [Tr.size_pairs]; omega) w)
      have hpI : ¬ ((seqT r).pairs : Int) ≤ m := by omega
      have hsI : ((TS (seqT r)).size : Int) ≤ 100 := by omega
      have hlen := Lib.hid (hPL.out r)
      have HR := Lib.hid (hO.out.row (by have := hlen.out; omega))
      obtain ⟨oa, oc, rfl⟩ := hO.out.len
      clear hO hsz hp hp2
      generalize TS (seqT r) = s at *
      generalize (seqT r).pairs = P at *
      go_wp2_with fail
      refine (kp.out _).mono ?_
      rintro e _ ⟨rfl, rfl⟩
      go_wp2
      go_ret
      exact ⟨_, rfl, HR.out, hB.out⟩
set_option maxRecDepth 20000 in
set_option maxHeartbeats 4000000 in
theorem same8_self (v v' : Value) (ls : List (List Ins)) (w : World) (hl : ProgsRow w w.heap.size v ls) (hl' : ProgsRow w w.heap.size v' ls) :
    Calls Try.prog 46 #[v, v'] w fun e w' => e = .returned (.bool true) ∧ Below w.heap.size w w' := by
  obtain ⟨ao, cap, rfl⟩ := hl.len
  obtain ⟨ao', cap', rfl⟩ := hl'.len
  have hn5 := hl.1
  obtain ⟨n, hn'⟩ : ∃ n, ls.length = n := ⟨_, rfl⟩
  rw [hn'] at hl hl' hn5 ⊢
  have HN := Lib.hid hn'; clear hn'
  have HL := Lib.hid hl; clear hl
  have HL' := Lib.hid hl'; clear hl'
  go_enter Try.func46, Try.ntmps46
  go_wp2
  go_loopg [5] n (fun gg i wr => ∃ k : Nat, k ≤ n ∧ gg = n - k ∧ i = .int .i64 k ∧ Below w.heap.size w wr)
  case atStart => exact ⟨0, by omega, rfl, rfl, Below.refl _ _⟩
  case round =>
    obtain ⟨k, hk, hg, rfl, hb⟩ := hrel
    have HG := Lib.hid hg; clear hg
    by_cases hlt : k < n
    · obtain ⟨l, hx⟩ : ∃ s, ls[k]? = some s := ⟨_, List.getElem?_eq_getElem (by rw [HN.out]; exact hlt)⟩
      have hl2 := HL.out.step hb
      have hl2' := HL'.out.step hb
      obtain ⟨g, off, u, rfl, hg, c0, hu⟩ := hl2.get hx
      obtain ⟨g', off', u', rfl, hg', c0', hu'⟩ := hl2'.get hx
      have hi0 : (0 : Int) ≤ (k : Int) := Int.natCast_nonneg _
      have hi1 : (k : Int) < (n : Int) := by omega
      have KS : Hid (∀ w', Below wr.heap.size wr w' → Calls Try.prog 58 #[u, u'] w' fun e w'' => e = .returned (.bool true) ∧ Below wr.heap.size wr w'') := Lib.hid fun w' hb' => (same_self ((hu.below hb').mono hb'.size) ((hu'.below hb').mono hb'.size)).mono fun e w'' h => ⟨h.1, hb'.trans (h.2.mono hb'.size)⟩
      have KK : Hid (∀ w', Below wr.heap.size wr w' → w'.cell? ⟨g, off + k, none⟩ = some u ∧ w'.cell? ⟨g', off' + k, none⟩ = some u') := Lib.hid fun w' hb' => ⟨(hb'.cell (p := ⟨g, off + k, none⟩) hg).trans c0, (hb'.cell (p := ⟨g', off' + k, none⟩) hg').trans c0'⟩
      have HBW := Lib.hid hb
      clear hx hl2 hl2' hb hu hu' hg hg'
      go_wp2
      go_region_held3 (fun w' => w'.cell? ⟨g, off + k, none⟩ = some u ∧ w'.cell? ⟨g', off' + k, none⟩ = some u')
        (with_reducible (first | exact KK.out _ hbS | exact KK.out _ (Below.refl _ _) | exact KK.out _ (Below.refl _ _).drew | fail "keep"))
        ((first | ((with_reducible refine (KS.out _ (by first | exact Below.refl _ _ | exact (Below.refl _ _).drew)).mono ?_); rintro e wS ⟨rfl, hbS⟩) | (fail "arm")))
      all_goals (
      have hb2 := HBW.out.trans (hbS.mono HBW.out.size)
      clear c0 c0' hbS
      go_wp2
      go_roundg (n - (k + 1)))
      case measure => rw [HG.out]; omega
      case rel => exact ⟨k + 1, by omega, rfl, by go_num, hb2⟩
    · have hkn : k = n := by omega
      subst hkn
      go_wp2
      go_ret
      exact ⟨rfl, hb⟩
end Go.Proofs.Ytdjbcmfjlfkcjaa


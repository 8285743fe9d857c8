/- narcissusref10: Unrank. -/
import Derived.Test.YtdjbcmfjlfkcjaaOrdR1
import Derived.Test.YtdjbcmfjlfkcjaaMB3
import Derived.Test.YtdjbcmfjlfkcjaaMB2
import Derived.Test.YtdjbcmfjlfkcjaaMB0
namespace Go.Proofs.Ytdjbcmfjlfkcjaa
open Go.RowKit

theorem runrank_neg (n : Int) (hn : n < 0) (w : World) :
    Calls Try.prog 42 #[.int .i64 n] w fun e w' => e = .returned (.tuple #[.string ⟨#[]⟩, .bool false]) ∧ Below w.heap.size w w' := by
  go_enter Try.func42, Try.ntmps42
  go_wp2_with fail
  refine (ways_any _).mono ?_
  rintro e w1 ⟨g, rfl, hg, hT, hb⟩
  go_wp2
  go_ret2
  exact ⟨rfl, hb⟩
set_option maxRecDepth 20000 in
set_option maxHeartbeats 4000000 in
theorem runrank_big (r : Nat) (hr : wsum 31 ≤ r) (hr2 : r ≤ 9223372036854775807) (w : World) :
    Calls Try.prog 42 #[.int .i64 r] w fun e w' => e = .returned (.tuple #[.string ⟨#[]⟩, .bool false]) ∧ Below w.heap.size w w' := by
  have hr0 : (0 : Int) ≤ r ∧ (r : Int) ≤ 9223372036854775807 := by omega
  have HWS := Lib.hid (fun k (h : k ≤ 31) => Nat.le_trans (wsum_mono h) hr)
  clear hr hr2
  go_enter Try.func42, Try.ntmps42
  go_wp2_with fail
  refine (ways_any _).mono ?_
  rintro e w1 ⟨g, rfl, hg, hT, hb⟩
  have HT := Lib.hid hT
  have HB := Lib.hid hb
  clear hT hb
  have H0 := Lib.hid hr0
  have c1 := HT.out.row (n := 1) (by omega)
  go_wp2
  clear hr0
  go_loopg [0, 6] 31 (fun gg a b wr => ∃ k : Nat, k ≤ 30 ∧ gg = 31 - k ∧ b = .int .i64 (k : Int) ∧ a = .int .i64 ((r : Int) - (wsum k : Nat)) ∧ wr = w1)
  case atStart => exact ⟨0, by omega, rfl, rfl, by simp [wsum], rfl⟩
  case round =>
    obtain ⟨k, hk, hgg, rfl, rfl, rfl⟩ := hrel
    have HGG := Lib.hid hgg; clear hgg
    have hkI : (0 : Int) ≤ k ∧ (k : Int) ≤ 30 := by omega
    have c0 := HT.out.cell (k := k) (n := 1) hk (by omega) (by omega)
    have h1 := HWS.out (k + 1) (by omega)
    have h2 : wsum (k + 1) = wsum k + wy k 1 := rfl
    obtain ⟨x, hx⟩ : ∃ x : Int, ((wy k 1 : Nat) : Int) = x := ⟨_, rfl⟩
    obtain ⟨y, hy⟩ : ∃ y : Int, (r : Int) - (wsum k : Nat) = y := ⟨_, rfl⟩
    rw [hx] at c0
    have hxy : 0 ≤ x ∧ x ≤ y ∧ y ≤ 9223372036854775807 := by have := H0.out; omega
    have hn : y - x = (r : Int) - (wsum (k + 1) : Nat) := by omega
    have HN := Lib.hid hn
    rw [hy]
    clear hx hy hn h1 h2
    by_cases hk3 : k < 30
    · have hk3I : (k : Int) < 30 := by omega
      go_wp2
      go_roundg (31 - (k + 1))
      case measure => rw [HGG.out]; omega
      case rel => exact ⟨k + 1, by omega, rfl, by go_num, by rw [← HN.out], rfl⟩
    · obtain rfl : k = 30 := by omega
      go_wp2
      go_ret2
      exact ⟨rfl, HB.out⟩
set_option maxRecDepth 20000 in
set_option maxHeartbeats 4000000 in
theorem runrank_ok (r : Nat) (hr : r < wsum 31) (w : World) :
    Calls Try.prog 42 #[.int .i64 r] w fun e w' => e = .returned (.tuple #[.string (TS (seqT r)), .bool true]) ∧ Below w.heap.size w w' := by
  have hbt := trk_lt (seqT r)
  have hun := (Wd.enc (seqT r)).unw_rank
  have hP30 : (seqT r).pairs ≤ 30 := seq_pairs.2 hr
  have htk := trk_seq r
  have hwk := (Wd.enc (seqT r)).rank_lt
  rw [htk] at hbt
  unfold trk at htk
  have hS : TS (seqT r) = ⟨(seqT r).enc.toArray⟩ := rfl
  rw [hS]
  generalize (seqT r).pairs = P at *
  generalize (seqT r).enc = E at *
  obtain ⟨q, hq⟩ : ∃ q, wrk P 1 E = q := ⟨_, rfl⟩
  rw [hq] at htk hun hwk
  have hrI : (0 : Int) ≤ r := by omega
  have HTK := Lib.hid htk
  have HUN := Lib.hid hun
  have HWK := Lib.hid hwk
  have HWS := Lib.hid (fun k (h : k ≤ P) => Nat.le_trans (wsum_mono h) hbt.1)
  have HR := Lib.hid hr
  clear htk hun hwk hbt hq hr hS
  go_enter Try.func42, Try.ntmps42
  go_wp2_with fail
  refine (ways_any _).mono ?_
  rintro e w1 ⟨g, rfl, hg, hT, hb⟩
  have HT := Lib.hid hT
  have HB := Lib.hid hb
  clear hT hb
  have c1 := HT.out.row (n := 1) (by omega)
  go_wp2
  clear hrI
  go_loopg [0, 6] P (fun gg a b wr => ∃ k : Nat, k ≤ P ∧ gg = P - k ∧ b = .int .i64 (k : Int) ∧ a = .int .i64 ((r : Int) - (wsum k : Nat)) ∧ wr = w1)
  case atStart => exact ⟨0, by omega, rfl, rfl, by simp [wsum], rfl⟩
  case round =>
    obtain ⟨k, hk, hgg, rfl, rfl, rfl⟩ := hrel
    have HGG := Lib.hid hgg; clear hgg
    have hkI : (0 : Int) ≤ k ∧ (k : Int) ≤ 30 := by omega
    have c0 := HT.out.cell (k := k) (n := 1) (by omega) (by omega) (by omega)
    by_cases hkP : k < P
    · have h1 := HWS.out (k + 1) hkP
      have h2 : wsum (k + 1) = wsum k + wy k 1 := rfl
      have hW := wsum_lt (k := 31) (by omega)
      obtain ⟨x, hx⟩ : ∃ x : Int, ((wy k 1 : Nat) : Int) = x := ⟨_, rfl⟩
      obtain ⟨y, hy⟩ : ∃ y : Int, (r : Int) - (wsum k : Nat) = y := ⟨_, rfl⟩
      rw [hx] at c0
      have hxy : 0 ≤ x ∧ x ≤ y ∧ y ≤ 9223372036854775807 := by have := HR.out; omega
      have hn : y - x = (r : Int) - (wsum (k + 1) : Nat) := by omega
      have hk30 : (k : Int) < 30 := by omega
      have HN := Lib.hid hn
      rw [hy]
      clear hx hy hn h1 h2 hW
      go_wp2
      go_roundg (P - (k + 1))
      case measure => rw [HGG.out]; omega
      case rel => exact ⟨k + 1, by omega, rfl, by go_num, by rw [← HN.out], rfl⟩
    · obtain rfl : k = P := by omega
      have hqr : (r : Int) - (wsum k : Nat) = (q : Int) := by have := HTK.out; omega
      rw [hqr]
      obtain ⟨x, hx⟩ : ∃ x : Int, ((wy k 1 : Nat) : Int) = x := ⟨_, rfl⟩
      rw [hx] at c0
      have hxy : ¬ x ≤ (q : Int) := by have := HWK.out; omega
      clear hx hqr
      go_wp2
      clear hxy c0 c1
      have hUN : [] ++ unw k 1 q = E := HUN.out
      obtain ⟨b, hbe⟩ : ∃ b, wr.heap.size = b := ⟨_, rfl⟩
      have hwb : w.heap.size ≤ b := by rw [← hbe]; exact HB.out.size
      have hgb : g + 32 < b := by rw [← hbe]; exact HT.out.lt
      have hsb : b ≤ wr.heap.size := Nat.le_of_eq hbe.symm
      clear hbe
      go_loopg [0, 5, 6, 7] (2 * k + 1) (fun gg a d c v wz => ∃ (p o rr : Nat) (pre : List UInt8), gg = 2 * p + o ∧ a = .int .i64 (rr : Int) ∧ c = .int .i64 (p : Int) ∧ d = .int .i64 (o : Int) ∧ p ≤ 30 ∧ o + p ≤ 31 ∧ pre.length + (2 * p + o) ≤ 61 ∧ Hid (rr < wy p o) ∧ Hid (pre ++ unw p o rr = E) ∧
        Hid (wz.ownsRow b 5 1 v pre.length (Lib.byteCells pre)) ∧ Hid (Below w.heap.size w wz) ∧ Hid (Ways wz g) ∧ b ≤ wz.heap.size)
      case atStart => exact ⟨k, 1, q, [], rfl, rfl, rfl, rfl, by omega, by omega, by simp; omega, HWK, Lib.hid hUN, Lib.hid (World.ownsRow_nil _ _ _ _), HB, HT, hsb⟩
      case round =>
        clear hUN hsb HT HB
        obtain ⟨p, o, rr, pre, hgg, rfl, rfl, rfl, hp, hop, hlen, hrw, hpre, hO, HB, HT, hsz⟩ := hrel
        have HGQ := Lib.hid hgg; clear hgg HGG
        obtain ⟨va, vc, rfl⟩ := own_len hO.out
        cases o with
        | zero =>
          have hp0 : p = 0 := by
            cases p with
            | zero => rfl
            | succ p => have := hrw.out; rw [wy_none] at this; omega
          subst hp0
          have hE : pre = E := by have := hpre.out; rw [unw_none, List.append_nil] at this; exact this
          clear hrw hpre
          subst hE
          have hcv := own_bytes (P := Try.prog) pre hO.out 106 Try.underlying106 Try.underlying5 9 Try.underlying9
          have HF := HB
          go_wp2
          go_ret2
          exact ⟨rfl, HF.out⟩
        | succ o =>
          have hTz := HT
          have c0 := hTz.out.row (n := o) (by omega)
          have c1 := hTz.out.cell (k := p) (n := o) hp (by omega) (by omega)
          have hoI : (0 : Int) ≤ o ∧ (o : Int) ≤ 31 := by omega
          have hpI : (0 : Int) ≤ p ∧ (p : Int) ≤ 30 := by omega
          obtain ⟨x, hx⟩ : ∃ x : Int, ((wy p o : Nat) : Int) = x := ⟨_, rfl⟩
          rw [hx] at c1
          have hbz' := Below.refl b wr
          have hO' := hO.out
          by_cases hlt : rr < wy p o
          · have hxr : (rr : Int) < x := by omega
            have hE : pre ++ [48] ++ unw p o rr = E := by have := hpre.out; rw [unw_lt hlt] at this; simpa using this
            have HE := Lib.hid hE
            have HLT := Lib.hid hlt
            clear hx hE hlt hrw hpre
            go_wp2_with (at_builtin; refine app_new el_u8 rfl _ _ rfl rfl hO' [.int .u8 48] 1 rfl rfl (by intro u hu; rw [List.mem_singleton.1 hu]; rfl) (by omega) (by unfold maxLen; omega) hsz hbz' (Nat.le_refl _) ?_)
            intro v' w' hown' hb' _
            obtain ⟨a2, c2, rfl⟩ := own_len hown'
            have HO2 : Hid (w'.ownsRow b 5 1 (.slice a2 (pre.length + 1) c2) (pre ++ [48]).length (Lib.byteCells (pre ++ [48]))) := Lib.hid (by rw [List.length_append]; simpa [Lib.byteCells] using hown')
            have HB2 := Lib.hid (HB.out.trans (hb'.mono hwb))
            have HT2 := Lib.hid (HT.out.below hgb hb')
            have hs2 : b ≤ w'.heap.size := Nat.le_trans hsz hb'.size
            clear hown' hb' hO' hbz' hsz hO HB
            go_wp2
            go_roundg (2 * p + o)
            case measure => rw [HGQ.out]; omega
            case rel => exact ⟨p, o, rr, pre ++ [48], rfl, rfl, rfl, by go_num, hp, by omega, by simp; omega, HLT, HE, HO2, HB2, HT2, hs2⟩
          · cases p with
            | zero => exact absurd (by have := hrw.out; rw [wy_zero] at *; exact this) hlt
            | succ p =>
              have hrr : rr - wy (p + 1) o < wy p (o + 2) := by have := hrw.out; rw [wy_step] at this; omega
              obtain ⟨y, hy⟩ : ∃ y : Int, (rr : Int) = y := ⟨_, rfl⟩
              have hxy : 0 ≤ x ∧ x ≤ y ∧ y ≤ 9223372036854775807 := by
                have h1 := hrw.out
                have h2 := wy_lt (k := p + 1) (n := o + 1) (by omega) hp
                omega
              have hsub : y - x = ((rr - wy (p + 1) o : Nat) : Int) := by omega
              rw [hy]
              have hE : pre ++ [49] ++ unw p (o + 2) (rr - wy (p + 1) o) = E := by have := hpre.out; rw [unw_ge hlt] at this; simpa using this
              have HE := Lib.hid hE
              have HRR := Lib.hid hrr
              have HSUB := Lib.hid hsub
              clear hx hE hlt hrw hpre hrr hsub hy
              go_wp2_with (at_builtin; refine app_new el_u8 rfl _ _ rfl rfl hO' [.int .u8 49] 1 rfl rfl (by intro u hu; rw [List.mem_singleton.1 hu]; rfl) (by omega) (by unfold maxLen; omega) hsz hbz' (Nat.le_refl _) ?_)
              intro v' w' hown' hb' _
              obtain ⟨a2, c2, rfl⟩ := own_len hown'
              have HO2 : Hid (w'.ownsRow b 5 1 (.slice a2 (pre.length + 1) c2) (pre ++ [49]).length (Lib.byteCells (pre ++ [49]))) := Lib.hid (by rw [List.length_append]; simpa [Lib.byteCells] using hown')
              have HB2 := Lib.hid (HB.out.trans (hb'.mono hwb))
              have HT2 := Lib.hid (HT.out.below hgb hb')
              have hs2 : b ≤ w'.heap.size := Nat.le_trans hsz hb'.size
              clear hown' hb' hO' hbz' hsz hO HB
              go_wp2
              go_roundg (2 * p + (o + 2))
              case measure => rw [HGQ.out]; omega
              case rel => exact ⟨p, o + 2, rr - wy (p + 1) o, pre ++ [49], rfl, by rw [← HSUB.out], by go_num, by go_num, by omega, by omega, by simp; omega, HRR, HE, HO2, HB2, HT2, hs2⟩
end Go.Proofs.Ytdjbcmfjlfkcjaa


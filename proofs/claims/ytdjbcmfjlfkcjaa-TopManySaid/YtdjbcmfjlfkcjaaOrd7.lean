/- law10: OrderSums, OrderNumbers. -/
import Derived.Test.YtdjbcmfjlfkcjaaMB4
import Derived.Test.YtdjbcmfjlfkcjaaMB0
import Derived.Test.YtdjbcmfjlfkcjaaMB3
namespace Go.Proofs.Ytdjbcmfjlfkcjaa
open Go.RowKit

/-- Sums. -/
def sumN (f : Nat → Nat) : Nat → Nat | 0 => 0 | i + 1 => sumN f i + f i
theorem sumN_shift (f : Nat → Nat) : ∀ i, sumN f (i + 1) = f 0 + sumN (fun j => f (j + 1)) i
  | 0 => by simp [sumN]
  | i + 1 => by rw [sumN, sumN_shift f i, sumN]; omega
theorem sumN_add (f g : Nat → Nat) : ∀ i, sumN (fun j => f j + g j) i = sumN f i + sumN g i
  | 0 => rfl
  | i + 1 => by rw [sumN, sumN_add f g i, sumN, sumN]; omega
theorem sumN_zero : ∀ i, sumN (fun _ => 0) i = 0
  | 0 => rfl
  | i + 1 => by rw [sumN, sumN_zero i]
theorem sumN_mono (f : Nat → Nat) {a b : Nat} (h : a ≤ b) : sumN f a ≤ sumN f b := by
  induction h with
  | refl => exact Nat.le_refl _
  | step _ ih => exact Nat.le_trans ih (by rw [sumN]; omega)
/-- The words of two lists of trees, one behind the other. -/
theorem wy_conv : ∀ k n m : Nat, sumN (fun i => wy i n * wy (k - i) m) (k + 1) = wy k (n + m)
  | 0, n, m => by simp [sumN, wy_zero]
  | k + 1, 0, m => by
    rw [sumN_shift]
    have h : (fun j => wy (j + 1) 0 * wy (k + 1 - (j + 1)) m) = fun _ => 0 := by
      funext j
      rw [wy_none, Nat.zero_mul]
    rw [h, sumN_zero, wy_zero]
    simp
  | k + 1, n + 1, m => by
    have h1 := wy_conv (k + 1) n m
    have h2 := wy_conv k (n + 2) m
    rw [sumN_shift] at h1 ⊢
    have h : (fun j => wy (j + 1) (n + 1) * wy (k + 1 - (j + 1)) m) = fun j => wy (j + 1) n * wy (k + 1 - (j + 1)) m + wy j (n + 2) * wy (k - j) m := by
      funext j
      rw [wy_step, Nat.add_mul, Nat.add_sub_add_right]
    rw [h, sumN_add, h2]
    rw [wy_zero] at h1 ⊢
    rw [show n + 1 + m = n + m + 1 by omega, wy_step, ← h1, show n + 2 + m = n + m + 2 by omega]
    omega
termination_by k n => (k, n)
theorem wy_sums (k : Nat) : sumN (fun i => wy i 1 * wy (k - i) 1) (k + 1) = wy (k + 1) 1 := by
  rw [wy_conv, wy_step, wy_none, Nat.zero_add]
theorem count_at (n : Int) (k : Nat) (hn : n = k) (hk : k ≤ 30) (w : World) :
    Calls Try.prog 53 #[.int .i64 n] w fun e w' => e = .returned (.tuple #[.int .i64 (wy k 1 : Nat), .int .i64 0]) ∧ Below w.heap.size w w' := by
  subst hn
  exact count_ok k hk w
set_option maxRecDepth 20000 in
set_option maxHeartbeats 4000000 in
theorem law_OrderSums (n : Int) (hn : -9223372036854775808 ≤ n ∧ n ≤ 9223372036854775807) (w : World) :
    Calls Try.prog 12 #[.int .i64 n] w fun e w' => e = .returned (.bool true) ∧ Below w.heap.size w w' := by
  by_cases h0 : n < 0
  · clear hn
    go_enter Try.func12, Try.ntmps12
    go_wp2_with fail
    refine (awake10_any _).mono ?_
    rintro e w1 ⟨rfl, hb⟩
    go_wp2
    go_ret
    exact ⟨rfl, hb⟩
  by_cases h1 : 30 ≤ n
  · have h0' : ¬ n < 0 := by omega
    clear hn h0
    go_enter Try.func12, Try.ntmps12
    go_wp2_with fail
    refine (awake10_any _).mono ?_
    rintro e w1 ⟨rfl, hb⟩
    go_wp2
    go_ret
    exact ⟨rfl, hb⟩
  obtain ⟨k, rfl⟩ : ∃ k : Nat, n = k := ⟨n.toNat, by omega⟩
  have hk : k < 30 := by omega
  have hkI : (0 : Int) ≤ k ∧ (k : Int) < 30 := by omega
  clear hn h0 h1
  obtain ⟨f, hf⟩ : ∃ f : Nat → Nat, (fun i => wy i 1 * wy (k - i) 1) = f := ⟨_, rfl⟩
  have hs := wy_sums k
  rw [hf] at hs
  have HS := Lib.hid hs
  have HF := Lib.hid (fun i => congrFun hf i)
  have hlt := wy_lt (k := k + 1) (n := 1) (by omega) (by omega)
  have hm : ∀ i, i ≤ k + 1 → sumN f i < 4611686018427387904 := fun i hi => by have := sumN_mono f hi; omega
  have HM := Lib.hid hm
  clear hs hf hlt hm
  go_enter Try.func12, Try.ntmps12
  go_wp2
  go_loopg [3, 4] (k + 1) (fun gg s j wr => ∃ i : Nat, i ≤ k + 1 ∧ gg = k + 1 - i ∧ s = .int .i64 (sumN f i : Nat) ∧ j = .int .i64 (i : Int) ∧ Hid (Below w.heap.size w wr))
  case atStart => exact ⟨0, by omega, rfl, rfl, rfl, Lib.hid (Below.refl _ _)⟩
  case round =>
    obtain ⟨i, hi, hgg, rfl, rfl, hB⟩ := hrel
    have HGG := Lib.hid hgg; clear hgg
    have hi0 : (0 : Int) ≤ i := by omega
    by_cases hlt : i ≤ k
    · have hiI : (i : Int) ≤ k := by omega
      have k1 := Lib.hid (fun w => count_ok i (by omega) w)
      have k2 := Lib.hid (fun w => count_at ((k : Int) - i) (k - i) (by omega) (by omega) w)
      have h1 := HM.out (i + 1) (by omega)
      have h2 : sumN f (i + 1) = sumN f i + f i := rfl
      have h3 : f i = wy i 1 * wy (k - i) 1 := (HF.out i).symm
      have h4 : i = 0 → wy i 1 = 1 := fun e => by rw [e, wy_zero]
      obtain ⟨a, ha⟩ : ∃ a, wy i 1 = a := ⟨_, rfl⟩
      obtain ⟨b, hb⟩ : ∃ b, wy (k - i) 1 = b := ⟨_, rfl⟩
      rw [ha] at k1 h3 h4
      rw [hb] at k2 h3
      obtain ⟨s, hs⟩ : ∃ s : Int, ((sumN f i : Nat) : Int) = s := ⟨_, rfl⟩
      obtain ⟨x, hx⟩ : ∃ x : Int, (a : Int) = x := ⟨_, rfl⟩
      obtain ⟨y, hy⟩ : ∃ y : Int, (b : Int) = y := ⟨_, rfl⟩
      have hp : x * y = ((f i : Nat) : Int) := by rw [h3, ← hx, ← hy, Int.natCast_mul]
      obtain ⟨p, hpp⟩ : ∃ p : Int, ((f i : Nat) : Int) = p := ⟨_, rfl⟩
      rw [hpp] at hp
      have hsp : 0 ≤ s ∧ 0 ≤ p ∧ s + p < 4611686018427387904 := by omega
      have hnew : s + p = ((sumN f (i + 1) : Nat) : Int) := by omega
      have hx1 : i = 0 → x = 1 := fun e => by rw [← hx, h4 e]; rfl
      rw [hx] at k1
      rw [hy] at k2
      rw [hs]
      have HNEW := Lib.hid hnew
      clear h1 h2 h3 h4 ha hb hs hx hy hpp hnew
      have hcase : (∃ j : Nat, i = j + 1) ∨ (i = 0 ∧ x = 1) := by
        rcases Nat.eq_zero_or_pos i with h | h
        · exact .inr ⟨h, hx1 h⟩
        · exact .inl ⟨i - 1, by omega⟩
      clear hx1
      rcases hcase with ⟨j, hj⟩ | ⟨h0, h1⟩
      · have hi1 : ¬ (i : Int) = 0 := by omega
        clear hj
        go_wp2_with fail
        refine (k1.out _).mono ?_
        rintro e w1 ⟨rfl, hb1⟩
        have HB1 := Lib.hid (hB.out.trans (hb1.mono hB.out.size))
        clear hb1
        go_wp2_with fail
        refine (k2.out _).mono ?_
        rintro e w2 ⟨rfl, hb2⟩
        have HB2 := Lib.hid (HB1.out.trans (hb2.mono HB1.out.size))
        clear hb2 HB1
        go_wp2
        go_roundg (k + 1 - (i + 1))
        case measure => rw [HGG.out]; omega
        case rel => exact ⟨i + 1, by omega, rfl, by rw [← HNEW.out], by go_num, HB2⟩
      · subst h0 h1
        go_wp2_with fail
        refine (k1.out _).mono ?_
        rintro e w1 ⟨rfl, hb1⟩
        have HB1 := Lib.hid (hB.out.trans (hb1.mono hB.out.size))
        clear hb1
        go_wp2_with fail
        refine (k2.out _).mono ?_
        rintro e w2 ⟨rfl, hb2⟩
        have HB2 := Lib.hid (HB1.out.trans (hb2.mono HB1.out.size))
        clear hb2 HB1
        go_wp2
        go_roundg (k + 1 - (0 + 1))
        case measure => rw [HGG.out]; omega
        case rel => exact ⟨0 + 1, by omega, rfl, by rw [← HNEW.out], by go_num, HB2⟩
    · obtain rfl : i = k + 1 := by omega
      have k1 := Lib.hid (fun w => count_at ((k : Int) + 1) (k + 1) (by omega) (by omega) w)
      rw [← HS.out] at k1
      generalize ((sumN f (k + 1) : Nat) : Int) = s at *
      have hkI2 : ¬ ((k + 1 : Nat) : Int) ≤ k := by omega
      go_wp2_with fail
      refine (k1.out _).mono ?_
      rintro e w1 ⟨rfl, hb1⟩
      have HB1 := Lib.hid (hB.out.trans (hb1.mono hB.out.size))
      clear hb1
      go_wp2_with fail
      refine (awake10_any _).mono ?_
      rintro e w2 ⟨rfl, hb2⟩
      have HB2 := Lib.hid (HB1.out.trans (hb2.mono HB1.out.size))
      clear hb2 HB1
      go_wp2
      go_ret
      exact ⟨rfl, HB2.out⟩
end Go.Proofs.Ytdjbcmfjlfkcjaa


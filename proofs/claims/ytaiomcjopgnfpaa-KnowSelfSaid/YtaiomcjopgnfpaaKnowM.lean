/- law07: KnowSelf, KnowMakes. -/
import Derived.Test.YtaiomcjopgnfpaaKnow9
namespace Go.Proofs.Ytaiomcjopgnfpaa
open Go.RowKit

set_option maxRecDepth 20000 in
set_option maxHeartbeats 4000000 in
theorem law_KnowSelf (w : World) : Calls Try.prog 11 #[] w fun e w' => e = .returned (.bool true) ∧ Below w.heap.size w w' := by
  go_enter Try.func11, Try.ntmps11
  go_wp2
  go_loopg [1] 2 (fun gg i wr => ∃ k : Nat, k ≤ 2 ∧ gg = 2 - k ∧ i = .int .i64 k ∧ Below w.heap.size w wr)
  case atStart => exact ⟨0, by omega, rfl, rfl, Below.refl _ _⟩
  case round =>
    obtain ⟨k, hk, hg, rfl, hb⟩ := hrel
    have HG := Lib.hid hg; clear hg
    have HB := Lib.hid hb; clear hb
    by_cases hlt : k < 2
    · have hi1 : (k : Int) < 2 := by omega
      have ch := Lib.hid (Below.refl wr.heap.size wr)
      go_wp2_with fail
      refine (self7_any _).mono ?_
      rintro e w1 ⟨vp, rfl, hP, hq⟩
      have ch := Lib.hid (ch.out.trans (hq.mono ch.out.size))
      clear hq
      have hP := Lib.hid hP
      go_wp2_with fail
      refine (rself7_any _).mono ?_
      rintro e w2 ⟨vm, rfl, hM, hq⟩
      have hP := Lib.hid (hP.out.below hq)
      have ch := Lib.hid (ch.out.trans (hq.mono ch.out.size))
      clear hq
      have hM := Lib.hid hM
      go_wp2_with fail
      refine (same_self (hP.out.row (by have := knowD_len [headI]; omega)) hM.out).mono ?_
      rintro e w3 ⟨rfl, hq⟩
      have hM := Lib.hid ((hM.out.below hq).mono hq.size)
      have hP := Lib.hid (hP.out.below hq)
      have ch := Lib.hid (ch.out.trans (hq.mono ch.out.size))
      clear hq
      go_wp2_with fail
      refine (spoil_any vp _ _ _ hP.out (by have := knowD_len [headI]; omega)).mono ?_
      rintro e w4 ⟨rfl, hq⟩
      have HB2 := Lib.hid (HB.out.trans ((ch.out.trans hq).mono HB.out.size))
      clear hq hP hM
      go_wp2
      go_roundg (2 - (k + 1))
      case measure => rw [HG.out]; omega
      case rel => exact ⟨k + 1, by omega, rfl, by go_num, HB2.out⟩
    · have hkn : k = 2 := by omega
      subst hkn
      go_wp2_with fail
      refine (awake7_any _).mono ?_
      rintro e wz ⟨rfl, hqz⟩
      go_wp2
      go_ret
      exact ⟨rfl, HB.out.trans (hqz.mono HB.out.size)⟩
set_option maxRecDepth 20000 in
set_option maxHeartbeats 8000000 in
theorem law_KnowMakes {w : World} (vq : Value) (q : List Ins) (hhQ : InsRow w w.heap.size vq q) :
    Calls Try.prog 8 #[vq] w fun e w' => e = .returned (.bool true) ∧ Below w.heap.size w w' := by
  obtain ⟨qa, qc, rfl⟩ := hhQ.len
  obtain ⟨qn, hqn⟩ : ∃ n, q.length = n := ⟨_, rfl⟩
  rw [hqn] at hhQ ⊢
  have hQ := Lib.hid hhQ
  clear hhQ hqn
  obtain ⟨en, hen⟩ : ∃ e, knowE q = e := ⟨_, rfl⟩
  have HE := Lib.hid hen
  clear hen
  have ch := Lib.hid (Below.refl w.heap.size w)
  go_enter Try.func8, Try.ntmps8
  go_wp2_with fail
  have hL0 := ProgsRow.lit (w := w) [.slice qa qn qc] [q] rfl (by simp) (fun j u l hu hl => match j, u, l, hu, hl with | 0, _, _, hu, hl => by cases hu; cases hl; exact hQ.out)
  obtain ⟨w1, hW⟩ : ∃ B, w.alloc (.cells #[.slice qa qn qc] 25) = B := ⟨_, rfl⟩
  rw [hW]
  have hq : Below w.heap.size w w1 := by rw [← hW]; exact (Below.refl _ _).alloc (Nat.le_refl _) _
  have hL := Lib.hid (show ProgsRow w1 w1.heap.size (.slice (some ⟨w.heap.size, 0, none⟩) 1 1) [q] by rw [← hW]; exact hL0)
  clear hW hL0
  have hQ := Lib.hid ((hQ.out.below hq).mono hq.size)
  have ch := Lib.hid (ch.out.trans (hq.mono ch.out.size))
  clear hq
  refine (small_one _ _ q _ hL.out).mono ?_
  rintro e w2 ⟨b1, rfl, hq⟩
  have hQ := Lib.hid ((hQ.out.below hq).mono hq.size)
  have hL := Lib.hid ((hL.out.below hq).mono hq.size)
  have ch := Lib.hid (ch.out.trans (hq.mono ch.out.size))
  clear hq
  clear hL
  cases b1 with
  | false =>
    go_wp2_with fail
    refine (awake7_any _).mono ?_
    rintro e wz ⟨rfl, hqz⟩
    go_wp2
    go_ret
    exact ⟨rfl, ch.out.trans (hqz.mono ch.out.size)⟩
  | true =>
    go_wp2_with fail
    refine (twin_any _ q _ hQ.out).mono ?_
    rintro e w3 ⟨vw, rfl, hWas, hq⟩
    have hQ := Lib.hid ((hQ.out.below hq).mono hq.size)
    have ch := Lib.hid (ch.out.trans (hq.mono ch.out.size))
    clear hq
    have hWas := Lib.hid hWas
    obtain ⟨bv, hbv⟩ : ∃ b, validB q = b := ⟨_, rfl⟩
    have HV := Lib.hid hbv
    clear hbv
    go_wp2_with fail
    obtain ⟨w4, hW⟩ : ∃ B, w3.alloc (.cells #[] 52) = B := ⟨_, rfl⟩
    rw [hW]
    have hq : Below w3.heap.size w3 w4 := by rw [← hW]; exact (Below.refl _ _).alloc (Nat.le_refl _) _
    have hD := Lib.hid (show InsRow w4 w4.heap.size (.slice (some ⟨w3.heap.size, 0, none⟩) 0 0) [] by rw [← hW]; exact (OwnI.lit w3 [] (by simp) (by simp)).row (by simp))
    clear hW
    have hQ := Lib.hid ((hQ.out.below hq).mono hq.size)
    have hWas := Lib.hid ((hWas.out.below hq).mono hq.size)
    have ch := Lib.hid (ch.out.trans (hq.mono ch.out.size))
    clear hq
    refine (cvalid_at bv HV.out hWas.out).mono ?_
    rintro e w5 ⟨rfl, hq⟩
    have hQ := Lib.hid ((hQ.out.below hq).mono hq.size)
    have hWas := Lib.hid ((hWas.out.below hq).mono hq.size)
    have hD := Lib.hid ((hD.out.below hq).mono hq.size)
    have ch := Lib.hid (ch.out.trans (hq.mono ch.out.size))
    clear hq
    cases bv with
    | false =>
      have he1 : en = 1 := by rw [← HE.out]; unfold knowE; rw [if_pos HV.out]
      subst he1
      have hD := Lib.hid (show InsRow _ _ _ (knowD q) from by unfold knowD; rw [if_neg (by rw [HE.out]; decide)]; exact hD.out)
      go_wp2
      have chB := Lib.hid ch.out
      go_loopg [6] 2 (fun gg i wr => ∃ k : Nat, k ≤ 2 ∧ gg = 2 - k ∧ i = .int .i64 k ∧ Below w5.heap.size w5 wr)
      case atStart => exact ⟨0, by omega, rfl, rfl, Below.refl _ _⟩
      case round =>
        obtain ⟨k, hk, hg, rfl, hq⟩ := hrel
        have HG := Lib.hid hg; clear hg
        have HB := Lib.hid hq
        have hQ := Lib.hid ((hQ.out.below hq).mono hq.size)
        have hWas := Lib.hid ((hWas.out.below hq).mono hq.size)
        have hD := Lib.hid ((hD.out.below hq).mono hq.size)
        clear hq ch
        by_cases hlt : k < 2
        · have hi1 : (k : Int) < 2 := by omega
          have ch := Lib.hid (Below.refl wr.heap.size wr)
          go_wp2_with fail
          refine (know_due _ _ q _ hQ.out HE.out).mono ?_
          rintro e w51 ⟨vp, rfl, hP, hq⟩
          have hQ := Lib.hid ((hQ.out.below hq).mono hq.size)
          have hWas := Lib.hid ((hWas.out.below hq).mono hq.size)
          have hD := Lib.hid ((hD.out.below hq).mono hq.size)
          have ch := Lib.hid (ch.out.trans (hq.mono ch.out.size))
          clear hq
          have hP := Lib.hid hP
          go_wp2_with fail
          refine (same_self (hP.out.row (by have := knowD_len q; omega)) hD.out).mono ?_
          rintro e w52 ⟨rfl, hq⟩
          have hQ := Lib.hid ((hQ.out.below hq).mono hq.size)
          have hWas := Lib.hid ((hWas.out.below hq).mono hq.size)
          have hD := Lib.hid ((hD.out.below hq).mono hq.size)
          have hP := Lib.hid (hP.out.below hq)
          have ch := Lib.hid (ch.out.trans (hq.mono ch.out.size))
          clear hq
          go_wp2_with fail
          refine (same_self hQ.out hWas.out).mono ?_
          rintro e w53 ⟨rfl, hq⟩
          have hQ := Lib.hid ((hQ.out.below hq).mono hq.size)
          have hWas := Lib.hid ((hWas.out.below hq).mono hq.size)
          have hD := Lib.hid ((hD.out.below hq).mono hq.size)
          have hP := Lib.hid (hP.out.below hq)
          have ch := Lib.hid (ch.out.trans (hq.mono ch.out.size))
          clear hq
          go_wp2_with fail
          refine (spoil_any vp _ _ _ hP.out (by have := knowD_len q; omega)).mono ?_
          rintro e wt ⟨rfl, hq⟩
          have HB2 := Lib.hid (HB.out.trans ((ch.out.trans hq).mono HB.out.size))
          clear hq hP hQ hWas hD
          go_wp2
          go_roundg (2 - (k + 1))
          case measure => rw [HG.out]; omega
          case rel => exact ⟨k + 1, by omega, rfl, by go_num, HB2.out⟩
        · have hkn : k = 2 := by omega
          subst hkn
          have ch := Lib.hid (chB.out.trans (HB.out.mono chB.out.size))
          go_wp2_with fail
          refine (same_self hQ.out hWas.out).mono ?_
          rintro e w51 ⟨rfl, hq⟩
          have hQ := Lib.hid ((hQ.out.below hq).mono hq.size)
          have hWas := Lib.hid ((hWas.out.below hq).mono hq.size)
          have hD := Lib.hid ((hD.out.below hq).mono hq.size)
          have ch := Lib.hid (ch.out.trans (hq.mono ch.out.size))
          clear hq
          go_wp2_with fail
          refine (awake7_any _).mono ?_
          rintro e wz ⟨rfl, hqz⟩
          go_wp2
          go_ret
          exact ⟨rfl, ch.out.trans (hqz.mono ch.out.size)⟩
    | true =>
      clear hD
      go_wp2_with fail
      refine (made7_any _ q _ hWas.out HV.out en HE.out).mono ?_
      rintro e w6 ⟨vd, rfl, hD, hq⟩
      have hQ := Lib.hid ((hQ.out.below hq).mono hq.size)
      have hWas := Lib.hid ((hWas.out.below hq).mono hq.size)
      have ch := Lib.hid (ch.out.trans (hq.mono ch.out.size))
      clear hq
      have hD := Lib.hid hD
      go_wp2
      have chB := Lib.hid ch.out
      go_loopg [6] 2 (fun gg i wr => ∃ k : Nat, k ≤ 2 ∧ gg = 2 - k ∧ i = .int .i64 k ∧ Below w6.heap.size w6 wr)
      case atStart => exact ⟨0, by omega, rfl, rfl, Below.refl _ _⟩
      case round =>
        obtain ⟨k, hk, hg, rfl, hq⟩ := hrel
        have HG := Lib.hid hg; clear hg
        have HB := Lib.hid hq
        have hQ := Lib.hid ((hQ.out.below hq).mono hq.size)
        have hWas := Lib.hid ((hWas.out.below hq).mono hq.size)
        have hD := Lib.hid ((hD.out.below hq).mono hq.size)
        clear hq ch
        by_cases hlt : k < 2
        · have hi1 : (k : Int) < 2 := by omega
          have ch := Lib.hid (Below.refl wr.heap.size wr)
          go_wp2_with fail
          refine (know_due _ _ q _ hQ.out HE.out).mono ?_
          rintro e w51 ⟨vp, rfl, hP, hq⟩
          have hQ := Lib.hid ((hQ.out.below hq).mono hq.size)
          have hWas := Lib.hid ((hWas.out.below hq).mono hq.size)
          have hD := Lib.hid ((hD.out.below hq).mono hq.size)
          have ch := Lib.hid (ch.out.trans (hq.mono ch.out.size))
          clear hq
          have hP := Lib.hid hP
          go_wp2_with fail
          refine (same_self (hP.out.row (by have := knowD_len q; omega)) hD.out).mono ?_
          rintro e w52 ⟨rfl, hq⟩
          have hQ := Lib.hid ((hQ.out.below hq).mono hq.size)
          have hWas := Lib.hid ((hWas.out.below hq).mono hq.size)
          have hD := Lib.hid ((hD.out.below hq).mono hq.size)
          have hP := Lib.hid (hP.out.below hq)
          have ch := Lib.hid (ch.out.trans (hq.mono ch.out.size))
          clear hq
          go_wp2_with fail
          refine (same_self hQ.out hWas.out).mono ?_
          rintro e w53 ⟨rfl, hq⟩
          have hQ := Lib.hid ((hQ.out.below hq).mono hq.size)
          have hWas := Lib.hid ((hWas.out.below hq).mono hq.size)
          have hD := Lib.hid ((hD.out.below hq).mono hq.size)
          have hP := Lib.hid (hP.out.below hq)
          have ch := Lib.hid (ch.out.trans (hq.mono ch.out.size))
          clear hq
          go_wp2_with fail
          refine (spoil_any vp _ _ _ hP.out (by have := knowD_len q; omega)).mono ?_
          rintro e wt ⟨rfl, hq⟩
          have HB2 := Lib.hid (HB.out.trans ((ch.out.trans hq).mono HB.out.size))
          clear hq hP hQ hWas hD
          go_wp2
          go_roundg (2 - (k + 1))
          case measure => rw [HG.out]; omega
          case rel => exact ⟨k + 1, by omega, rfl, by go_num, HB2.out⟩
        · have hkn : k = 2 := by omega
          subst hkn
          have ch := Lib.hid (chB.out.trans (HB.out.mono chB.out.size))
          go_wp2_with fail
          refine (same_self hQ.out hWas.out).mono ?_
          rintro e w51 ⟨rfl, hq⟩
          have hQ := Lib.hid ((hQ.out.below hq).mono hq.size)
          have hWas := Lib.hid ((hWas.out.below hq).mono hq.size)
          have hD := Lib.hid ((hD.out.below hq).mono hq.size)
          have ch := Lib.hid (ch.out.trans (hq.mono ch.out.size))
          clear hq
          go_wp2_with fail
          refine (awake7_any _).mono ?_
          rintro e wz ⟨rfl, hqz⟩
          go_wp2
          go_ret
          exact ⟨rfl, ch.out.trans (hqz.mono ch.out.size)⟩
end Go.Proofs.Ytaiomcjopgnfpaa


/- law09: DefeatMakes, DefeatLiars. -/
import Derived.Test.YtaiomcjopgnfpaaDef4
namespace Go.Proofs.Ytaiomcjopgnfpaa
open Go.RowKit

theorem defD_len (d y n : List Ins) : (defD d y n).length ≤ 4000 := by
  unfold defD
  split
  · rename_i h
    unfold defE at h
    split at h
    · split at h
      · cases h
      · split at h
        · exact validB_len (knowE_facts h).2.2.1
        · cases h
    · cases h
  · simp
theorem liarD_len (h : List Ins) : (liarD h).length ≤ 4000 := by
  unfold liarD
  split
  · rename_i h0
    unfold liarE at h0
    split at h0
    · split at h0
      · exact validB_len (knowE_facts h0).2.2.1
      · cases h0
    · cases h0
  · simp
set_option maxRecDepth 20000 in
set_option maxHeartbeats 16000000 in
theorem law_DefeatMakes {w : World} (vd : Value) (d : List Ins) (hhd : InsRow w w.heap.size vd d) (vy : Value) (y : List Ins) (hhy : InsRow w w.heap.size vy y) (vn : Value) (n : List Ins) (hhn : InsRow w w.heap.size vn n) :
    Calls Try.prog 13 #[vd, vy, vn] w fun e w' => e = .returned (.bool true) ∧ Below w.heap.size w w' := by
  obtain ⟨da, dc, rfl⟩ := hhd.len
  obtain ⟨dn, hdn⟩ : ∃ lz, d.length = lz := ⟨_, rfl⟩
  rw [hdn] at hhd ⊢
  have hd := Lib.hid hhd
  clear hhd hdn
  obtain ⟨ya, yc, rfl⟩ := hhy.len
  obtain ⟨yn, hyn⟩ : ∃ lz, y.length = lz := ⟨_, rfl⟩
  rw [hyn] at hhy ⊢
  have hy := Lib.hid hhy
  clear hhy hyn
  obtain ⟨na, nc, rfl⟩ := hhn.len
  obtain ⟨nn, hnn⟩ : ∃ lz, n.length = lz := ⟨_, rfl⟩
  rw [hnn] at hhn ⊢
  have hn := Lib.hid hhn
  clear hhn hnn
  obtain ⟨en, hen⟩ : ∃ e, defE d y n = e := ⟨_, rfl⟩
  have HE := Lib.hid hen
  clear hen
  have ch := Lib.hid (Below.refl w.heap.size w)
  go_enter Try.func13, Try.ntmps13
  go_wp2_with fail
  have hL0 := ProgsRow.lit (w := w) [.slice da dn dc, .slice ya yn yc, .slice na nn nc] [d, y, n] rfl (by simp) (fun j u l hu hl => match j, u, l, hu, hl with | 0, _, _, hu, hl => by cases hu; cases hl; exact hd.out | 1, _, _, hu, hl => by cases hu; cases hl; exact hy.out | 2, _, _, hu, hl => by cases hu; cases hl; exact hn.out)
  obtain ⟨w1, hW⟩ : ∃ B, w.alloc (.cells #[.slice da dn dc, .slice ya yn yc, .slice na nn nc] 25) = B := ⟨_, rfl⟩
  rw [hW]
  have hq : Below w.heap.size w w1 := by rw [← hW]; exact (Below.refl _ _).alloc (Nat.le_refl _) _
  have hL := Lib.hid (show ProgsRow w1 w1.heap.size (.slice (some ⟨w.heap.size, 0, none⟩) 3 3) [d, y, n] by rw [← hW]; exact hL0)
  clear hW hL0
  have hd := Lib.hid ((hd.out.below hq).mono hq.size)
  have hy := Lib.hid ((hy.out.below hq).mono hq.size)
  have hn := Lib.hid ((hn.out.below hq).mono hq.size)
  have ch := Lib.hid (ch.out.trans (hq.mono ch.out.size))
  clear hq
  refine (small_any _ _ _ (by simp) _ hL.out).mono ?_
  rintro e w2 ⟨b1, rfl, hq⟩
  have hd := Lib.hid ((hd.out.below hq).mono hq.size)
  have hy := Lib.hid ((hy.out.below hq).mono hq.size)
  have hn := Lib.hid ((hn.out.below hq).mono hq.size)
  have hL := Lib.hid ((hL.out.below hq).mono hq.size)
  have ch := Lib.hid (ch.out.trans (hq.mono ch.out.size))
  clear hq
  clear hL
  cases b1 with
  | false =>
    go_wp2_with fail
    refine (awake9_any _).mono ?_
    rintro e wz ⟨rfl, hqz⟩
    go_wp2
    go_ret
    exact ⟨rfl, ch.out.trans (hqz.mono ch.out.size)⟩
  | true =>
    go_wp2_with fail
    refine (twin_any _ d _ hd.out).mono ?_
    rintro e w3 ⟨td, rfl, gd, hq⟩
    have hd := Lib.hid ((hd.out.below hq).mono hq.size)
    have hy := Lib.hid ((hy.out.below hq).mono hq.size)
    have hn := Lib.hid ((hn.out.below hq).mono hq.size)
    have ch := Lib.hid (ch.out.trans (hq.mono ch.out.size))
    clear hq
    have gd := Lib.hid gd
    go_wp2_with fail
    refine (twin_any _ y _ hy.out).mono ?_
    rintro e w4 ⟨ty, rfl, gy, hq⟩
    have hd := Lib.hid ((hd.out.below hq).mono hq.size)
    have hy := Lib.hid ((hy.out.below hq).mono hq.size)
    have hn := Lib.hid ((hn.out.below hq).mono hq.size)
    have gd := Lib.hid ((gd.out.below hq).mono hq.size)
    have ch := Lib.hid (ch.out.trans (hq.mono ch.out.size))
    clear hq
    have gy := Lib.hid gy
    go_wp2_with fail
    refine (twin_any _ n _ hn.out).mono ?_
    rintro e w5 ⟨tn, rfl, gn, hq⟩
    have hd := Lib.hid ((hd.out.below hq).mono hq.size)
    have hy := Lib.hid ((hy.out.below hq).mono hq.size)
    have hn := Lib.hid ((hn.out.below hq).mono hq.size)
    have gd := Lib.hid ((gd.out.below hq).mono hq.size)
    have gy := Lib.hid ((gy.out.below hq).mono hq.size)
    have ch := Lib.hid (ch.out.trans (hq.mono ch.out.size))
    clear hq
    have gn := Lib.hid gn
    obtain ⟨bod, hbod⟩ : ∃ b, validB d = b := ⟨_, rfl⟩
    have Vd := Lib.hid hbod
    clear hbod
    obtain ⟨boy, hboy⟩ : ∃ b, validB y = b := ⟨_, rfl⟩
    have Vy := Lib.hid hboy
    clear hboy
    obtain ⟨bon, hbon⟩ : ∃ b, validB n = b := ⟨_, rfl⟩
    have Vn := Lib.hid hbon
    clear hbon
    go_wp2_with fail
    obtain ⟨w6, hW⟩ : ∃ B, w5.alloc (.cells #[] 52) = B := ⟨_, rfl⟩
    rw [hW]
    have hq : Below w5.heap.size w5 w6 := by rw [← hW]; exact (Below.refl _ _).alloc (Nat.le_refl _) _
    have hD := Lib.hid (show InsRow w6 w6.heap.size (.slice (some ⟨w5.heap.size, 0, none⟩) 0 0) [] by rw [← hW]; exact (OwnI.lit w5 [] (by simp) (by simp)).row (by simp))
    clear hW
    have hd := Lib.hid ((hd.out.below hq).mono hq.size)
    have hy := Lib.hid ((hy.out.below hq).mono hq.size)
    have hn := Lib.hid ((hn.out.below hq).mono hq.size)
    have gd := Lib.hid ((gd.out.below hq).mono hq.size)
    have gy := Lib.hid ((gy.out.below hq).mono hq.size)
    have gn := Lib.hid ((gn.out.below hq).mono hq.size)
    have ch := Lib.hid (ch.out.trans (hq.mono ch.out.size))
    clear hq
    refine (cvalid_at bod Vd.out gd.out).mono ?_
    rintro e w7 ⟨rfl, hq⟩
    have hd := Lib.hid ((hd.out.below hq).mono hq.size)
    have hy := Lib.hid ((hy.out.below hq).mono hq.size)
    have hn := Lib.hid ((hn.out.below hq).mono hq.size)
    have gd := Lib.hid ((gd.out.below hq).mono hq.size)
    have gy := Lib.hid ((gy.out.below hq).mono hq.size)
    have gn := Lib.hid ((gn.out.below hq).mono hq.size)
    have hD := Lib.hid ((hD.out.below hq).mono hq.size)
    have ch := Lib.hid (ch.out.trans (hq.mono ch.out.size))
    clear hq
    cases bod with
    | false =>
      have he1 : en = 1 := by rw [← HE.out]; exact defE_bad (l := d) (by simp) Vd.out
      subst he1
      have hD := Lib.hid (show InsRow _ _ _ (defD d y n) from by unfold defD; rw [if_neg (by rw [HE.out]; decide)]; exact hD.out)
      go_wp2
      have chB := Lib.hid ch.out
      go_loopg [12] 2 (fun gg i wr => ∃ k : Nat, k ≤ 2 ∧ gg = 2 - k ∧ i = .int .i64 k ∧ Below w7.heap.size w7 wr)
      case atStart => exact ⟨0, by omega, rfl, rfl, Below.refl _ _⟩
      case round =>
        obtain ⟨k, hk, hg, rfl, hq⟩ := hrel
        have HG := Lib.hid hg; clear hg
        have HB := Lib.hid hq
        have hd := Lib.hid ((hd.out.below hq).mono hq.size)
        have hy := Lib.hid ((hy.out.below hq).mono hq.size)
        have hn := Lib.hid ((hn.out.below hq).mono hq.size)
        have gd := Lib.hid ((gd.out.below hq).mono hq.size)
        have gy := Lib.hid ((gy.out.below hq).mono hq.size)
        have gn := Lib.hid ((gn.out.below hq).mono hq.size)
        have hD := Lib.hid ((hD.out.below hq).mono hq.size)
        clear hq ch
        by_cases hlt : k < 2
        · have hi1 : (k : Int) < 2 := by omega
          have ch := Lib.hid (Below.refl wr.heap.size wr)
          go_wp2_with fail
          refine (defeat_due _ _ _ _ d y n _ hd.out hy.out hn.out HE.out).mono ?_
          rintro e w51 ⟨vp, rfl, hP, hq⟩
          have hd := Lib.hid ((hd.out.below hq).mono hq.size)
          have hy := Lib.hid ((hy.out.below hq).mono hq.size)
          have hn := Lib.hid ((hn.out.below hq).mono hq.size)
          have gd := Lib.hid ((gd.out.below hq).mono hq.size)
          have gy := Lib.hid ((gy.out.below hq).mono hq.size)
          have gn := Lib.hid ((gn.out.below hq).mono hq.size)
          have hD := Lib.hid ((hD.out.below hq).mono hq.size)
          have ch := Lib.hid (ch.out.trans (hq.mono ch.out.size))
          clear hq
          have hP := Lib.hid hP
          go_wp2_with fail
          refine (same_self (hP.out.row (by have := defD_len d y n; omega)) hD.out).mono ?_
          rintro e w52 ⟨rfl, hq⟩
          have hd := Lib.hid ((hd.out.below hq).mono hq.size)
          have hy := Lib.hid ((hy.out.below hq).mono hq.size)
          have hn := Lib.hid ((hn.out.below hq).mono hq.size)
          have gd := Lib.hid ((gd.out.below hq).mono hq.size)
          have gy := Lib.hid ((gy.out.below hq).mono hq.size)
          have gn := Lib.hid ((gn.out.below hq).mono hq.size)
          have hD := Lib.hid ((hD.out.below hq).mono hq.size)
          have hP := Lib.hid (hP.out.below hq)
          have ch := Lib.hid (ch.out.trans (hq.mono ch.out.size))
          clear hq
          go_wp2_with fail
          refine (spoil9_any vp _ _ _ hP.out (by have := defD_len d y n; omega)).mono ?_
          rintro e wt ⟨rfl, hq⟩
          have HB2 := Lib.hid (HB.out.trans ((ch.out.trans hq).mono HB.out.size))
          clear hq hP hd hy hn gd gy gn hD
          go_wp2
          go_roundg (2 - (k + 1))
          case measure => rw [HG.out]; omega
          case rel => exact ⟨k + 1, by omega, rfl, by go_num, HB2.out⟩
        · have hkn : k = 2 := by omega
          subst hkn
          have ch := Lib.hid (chB.out.trans (HB.out.mono chB.out.size))
          go_wp2_with fail
          refine (same_self hd.out gd.out).mono ?_
          rintro e w51 ⟨rfl, hq⟩
          have hd := Lib.hid ((hd.out.below hq).mono hq.size)
          have hy := Lib.hid ((hy.out.below hq).mono hq.size)
          have hn := Lib.hid ((hn.out.below hq).mono hq.size)
          have gd := Lib.hid ((gd.out.below hq).mono hq.size)
          have gy := Lib.hid ((gy.out.below hq).mono hq.size)
          have gn := Lib.hid ((gn.out.below hq).mono hq.size)
          have hD := Lib.hid ((hD.out.below hq).mono hq.size)
          have ch := Lib.hid (ch.out.trans (hq.mono ch.out.size))
          clear hq
          go_wp2_with fail
          refine (same_self hy.out gy.out).mono ?_
          rintro e w52 ⟨rfl, hq⟩
          have hd := Lib.hid ((hd.out.below hq).mono hq.size)
          have hy := Lib.hid ((hy.out.below hq).mono hq.size)
          have hn := Lib.hid ((hn.out.below hq).mono hq.size)
          have gd := Lib.hid ((gd.out.below hq).mono hq.size)
          have gy := Lib.hid ((gy.out.below hq).mono hq.size)
          have gn := Lib.hid ((gn.out.below hq).mono hq.size)
          have hD := Lib.hid ((hD.out.below hq).mono hq.size)
          have ch := Lib.hid (ch.out.trans (hq.mono ch.out.size))
          clear hq
          go_wp2_with fail
          refine (same_self hn.out gn.out).mono ?_
          rintro e w53 ⟨rfl, hq⟩
          have hd := Lib.hid ((hd.out.below hq).mono hq.size)
          have hy := Lib.hid ((hy.out.below hq).mono hq.size)
          have hn := Lib.hid ((hn.out.below hq).mono hq.size)
          have gd := Lib.hid ((gd.out.below hq).mono hq.size)
          have gy := Lib.hid ((gy.out.below hq).mono hq.size)
          have gn := Lib.hid ((gn.out.below hq).mono hq.size)
          have hD := Lib.hid ((hD.out.below hq).mono hq.size)
          have ch := Lib.hid (ch.out.trans (hq.mono ch.out.size))
          clear hq
          go_wp2_with fail
          refine (awake9_any _).mono ?_
          rintro e wz ⟨rfl, hqz⟩
          go_wp2
          go_ret
          exact ⟨rfl, ch.out.trans (hqz.mono ch.out.size)⟩
    | true =>
      go_wp2_with fail
      refine (cvalid_at boy Vy.out gy.out).mono ?_
      rintro e w8 ⟨rfl, hq⟩
      have hd := Lib.hid ((hd.out.below hq).mono hq.size)
      have hy := Lib.hid ((hy.out.below hq).mono hq.size)
      have hn := Lib.hid ((hn.out.below hq).mono hq.size)
      have gd := Lib.hid ((gd.out.below hq).mono hq.size)
      have gy := Lib.hid ((gy.out.below hq).mono hq.size)
      have gn := Lib.hid ((gn.out.below hq).mono hq.size)
      have hD := Lib.hid ((hD.out.below hq).mono hq.size)
      have ch := Lib.hid (ch.out.trans (hq.mono ch.out.size))
      clear hq
      cases boy with
      | false =>
        have he1 : en = 1 := by rw [← HE.out]; exact defE_bad (l := y) (by simp) Vy.out
        subst he1
        have hD := Lib.hid (show InsRow _ _ _ (defD d y n) from by unfold defD; rw [if_neg (by rw [HE.out]; decide)]; exact hD.out)
        go_wp2
        have chB := Lib.hid ch.out
        go_loopg [12] 2 (fun gg i wr => ∃ k : Nat, k ≤ 2 ∧ gg = 2 - k ∧ i = .int .i64 k ∧ Below w8.heap.size w8 wr)
        case atStart => exact ⟨0, by omega, rfl, rfl, Below.refl _ _⟩
        case round =>
          obtain ⟨k, hk, hg, rfl, hq⟩ := hrel
          have HG := Lib.hid hg; clear hg
          have HB := Lib.hid hq
          have hd := Lib.hid ((hd.out.below hq).mono hq.size)
          have hy := Lib.hid ((hy.out.below hq).mono hq.size)
          have hn := Lib.hid ((hn.out.below hq).mono hq.size)
          have gd := Lib.hid ((gd.out.below hq).mono hq.size)
          have gy := Lib.hid ((gy.out.below hq).mono hq.size)
          have gn := Lib.hid ((gn.out.below hq).mono hq.size)
          have hD := Lib.hid ((hD.out.below hq).mono hq.size)
          clear hq ch
          by_cases hlt : k < 2
          · have hi1 : (k : Int) < 2 := by omega
            have ch := Lib.hid (Below.refl wr.heap.size wr)
            go_wp2_with fail
            refine (defeat_due _ _ _ _ d y n _ hd.out hy.out hn.out HE.out).mono ?_
            rintro e w51 ⟨vp, rfl, hP, hq⟩
            have hd := Lib.hid ((hd.out.below hq).mono hq.size)
            have hy := Lib.hid ((hy.out.below hq).mono hq.size)
            have hn := Lib.hid ((hn.out.below hq).mono hq.size)
            have gd := Lib.hid ((gd.out.below hq).mono hq.size)
            have gy := Lib.hid ((gy.out.below hq).mono hq.size)
            have gn := Lib.hid ((gn.out.below hq).mono hq.size)
            have hD := Lib.hid ((hD.out.below hq).mono hq.size)
            have ch := Lib.hid (ch.out.trans (hq.mono ch.out.size))
            clear hq
            have hP := Lib.hid hP
            go_wp2_with fail
            refine (same_self (hP.out.row (by have := defD_len d y n; omega)) hD.out).mono ?_
            rintro e w52 ⟨rfl, hq⟩
            have hd := Lib.hid ((hd.out.below hq).mono hq.size)
            have hy := Lib.hid ((hy.out.below hq).mono hq.size)
            have hn := Lib.hid ((hn.out.below hq).mono hq.size)
            have gd := Lib.hid ((gd.out.below hq).mono hq.size)
            have gy := Lib.hid ((gy.out.below hq).mono hq.size)
            have gn := Lib.hid ((gn.out.below hq).mono hq.size)
            have hD := Lib.hid ((hD.out.below hq).mono hq.size)
            have hP := Lib.hid (hP.out.below hq)
            have ch := Lib.hid (ch.out.trans (hq.mono ch.out.size))
            clear hq
            go_wp2_with fail
            refine (spoil9_any vp _ _ _ hP.out (by have := defD_len d y n; omega)).mono ?_
            rintro e wt ⟨rfl, hq⟩
            have HB2 := Lib.hid (HB.out.trans ((ch.out.trans hq).mono HB.out.size))
            clear hq hP hd hy hn gd gy gn hD
            go_wp2
            go_roundg (2 - (k + 1))
            case measure => rw [HG.out]; omega
            case rel => exact ⟨k + 1, by omega, rfl, by go_num, HB2.out⟩
          · have hkn : k = 2 := by omega
            subst hkn
            have ch := Lib.hid (chB.out.trans (HB.out.mono chB.out.size))
            go_wp2_with fail
            refine (same_self hd.out gd.out).mono ?_
            rintro e w51 ⟨rfl, hq⟩
            have hd := Lib.hid ((hd.out.below hq).mono hq.size)
            have hy := Lib.hid ((hy.out.below hq).mono hq.size)
            have hn := Lib.hid ((hn.out.below hq).mono hq.size)
            have gd := Lib.hid ((gd.out.below hq).mono hq.size)
            have gy := Lib.hid ((gy.out.below hq).mono hq.size)
            have gn := Lib.hid ((gn.out.below hq).mono hq.size)
            have hD := Lib.hid ((hD.out.below hq).mono hq.size)
            have ch := Lib.hid (ch.out.trans (hq.mono ch.out.size))
            clear hq
            go_wp2_with fail
            refine (same_self hy.out gy.out).mono ?_
            rintro e w52 ⟨rfl, hq⟩
            have hd := Lib.hid ((hd.out.below hq).mono hq.size)
            have hy := Lib.hid ((hy.out.below hq).mono hq.size)
            have hn := Lib.hid ((hn.out.below hq).mono hq.size)
            have gd := Lib.hid ((gd.out.below hq).mono hq.size)
            have gy := Lib.hid ((gy.out.below hq).mono hq.size)
            have gn := Lib.hid ((gn.out.below hq).mono hq.size)
            have hD := Lib.hid ((hD.out.below hq).mono hq.size)
            have ch := Lib.hid (ch.out.trans (hq.mono ch.out.size))
            clear hq
            go_wp2_with fail
            refine (same_self hn.out gn.out).mono ?_
            rintro e w53 ⟨rfl, hq⟩
            have hd := Lib.hid ((hd.out.below hq).mono hq.size)
            have hy := Lib.hid ((hy.out.below hq).mono hq.size)
            have hn := Lib.hid ((hn.out.below hq).mono hq.size)
            have gd := Lib.hid ((gd.out.below hq).mono hq.size)
            have gy := Lib.hid ((gy.out.below hq).mono hq.size)
            have gn := Lib.hid ((gn.out.below hq).mono hq.size)
            have hD := Lib.hid ((hD.out.below hq).mono hq.size)
            have ch := Lib.hid (ch.out.trans (hq.mono ch.out.size))
            clear hq
            go_wp2_with fail
            refine (awake9_any _).mono ?_
            rintro e wz ⟨rfl, hqz⟩
            go_wp2
            go_ret
            exact ⟨rfl, ch.out.trans (hqz.mono ch.out.size)⟩
      | true =>
        go_wp2_with fail
        refine (cvalid_at bon Vn.out gn.out).mono ?_
        rintro e w9 ⟨rfl, hq⟩
        have hd := Lib.hid ((hd.out.below hq).mono hq.size)
        have hy := Lib.hid ((hy.out.below hq).mono hq.size)
        have hn := Lib.hid ((hn.out.below hq).mono hq.size)
        have gd := Lib.hid ((gd.out.below hq).mono hq.size)
        have gy := Lib.hid ((gy.out.below hq).mono hq.size)
        have gn := Lib.hid ((gn.out.below hq).mono hq.size)
        have hD := Lib.hid ((hD.out.below hq).mono hq.size)
        have ch := Lib.hid (ch.out.trans (hq.mono ch.out.size))
        clear hq
        cases bon with
        | false =>
          have he1 : en = 1 := by rw [← HE.out]; exact defE_bad (l := n) (by simp) Vn.out
          subst he1
          have hD := Lib.hid (show InsRow _ _ _ (defD d y n) from by unfold defD; rw [if_neg (by rw [HE.out]; decide)]; exact hD.out)
          go_wp2
          have chB := Lib.hid ch.out
          go_loopg [12] 2 (fun gg i wr => ∃ k : Nat, k ≤ 2 ∧ gg = 2 - k ∧ i = .int .i64 k ∧ Below w9.heap.size w9 wr)
          case atStart => exact ⟨0, by omega, rfl, rfl, Below.refl _ _⟩
          case round =>
            obtain ⟨k, hk, hg, rfl, hq⟩ := hrel
            have HG := Lib.hid hg; clear hg
            have HB := Lib.hid hq
            have hd := Lib.hid ((hd.out.below hq).mono hq.size)
            have hy := Lib.hid ((hy.out.below hq).mono hq.size)
            have hn := Lib.hid ((hn.out.below hq).mono hq.size)
            have gd := Lib.hid ((gd.out.below hq).mono hq.size)
            have gy := Lib.hid ((gy.out.below hq).mono hq.size)
            have gn := Lib.hid ((gn.out.below hq).mono hq.size)
            have hD := Lib.hid ((hD.out.below hq).mono hq.size)
            clear hq ch
            by_cases hlt : k < 2
            · have hi1 : (k : Int) < 2 := by omega
              have ch := Lib.hid (Below.refl wr.heap.size wr)
              go_wp2_with fail
              refine (defeat_due _ _ _ _ d y n _ hd.out hy.out hn.out HE.out).mono ?_
              rintro e w51 ⟨vp, rfl, hP, hq⟩
              have hd := Lib.hid ((hd.out.below hq).mono hq.size)
              have hy := Lib.hid ((hy.out.below hq).mono hq.size)
              have hn := Lib.hid ((hn.out.below hq).mono hq.size)
              have gd := Lib.hid ((gd.out.below hq).mono hq.size)
              have gy := Lib.hid ((gy.out.below hq).mono hq.size)
              have gn := Lib.hid ((gn.out.below hq).mono hq.size)
              have hD := Lib.hid ((hD.out.below hq).mono hq.size)
              have ch := Lib.hid (ch.out.trans (hq.mono ch.out.size))
              clear hq
              have hP := Lib.hid hP
              go_wp2_with fail
              refine (same_self (hP.out.row (by have := defD_len d y n; omega)) hD.out).mono ?_
              rintro e w52 ⟨rfl, hq⟩
              have hd := Lib.hid ((hd.out.below hq).mono hq.size)
              have hy := Lib.hid ((hy.out.below hq).mono hq.size)
              have hn := Lib.hid ((hn.out.below hq).mono hq.size)
              have gd := Lib.hid ((gd.out.below hq).mono hq.size)
              have gy := Lib.hid ((gy.out.below hq).mono hq.size)
              have gn := Lib.hid ((gn.out.below hq).mono hq.size)
              have hD := Lib.hid ((hD.out.below hq).mono hq.size)
              have hP := Lib.hid (hP.out.below hq)
              have ch := Lib.hid (ch.out.trans (hq.mono ch.out.size))
              clear hq
              go_wp2_with fail
              refine (spoil9_any vp _ _ _ hP.out (by have := defD_len d y n; omega)).mono ?_
              rintro e wt ⟨rfl, hq⟩
              have HB2 := Lib.hid (HB.out.trans ((ch.out.trans hq).mono HB.out.size))
              clear hq hP hd hy hn gd gy gn hD
              go_wp2
              go_roundg (2 - (k + 1))
              case measure => rw [HG.out]; omega
              case rel => exact ⟨k + 1, by omega, rfl, by go_num, HB2.out⟩
            · have hkn : k = 2 := by omega
              subst hkn
              have ch := Lib.hid (chB.out.trans (HB.out.mono chB.out.size))
              go_wp2_with fail
              refine (same_self hd.out gd.out).mono ?_
              rintro e w51 ⟨rfl, hq⟩
              have hd := Lib.hid ((hd.out.below hq).mono hq.size)
              have hy := Lib.hid ((hy.out.below hq).mono hq.size)
              have hn := Lib.hid ((hn.out.below hq).mono hq.size)
              have gd := Lib.hid ((gd.out.below hq).mono hq.size)
              have gy := Lib.hid ((gy.out.below hq).mono hq.size)
              have gn := Lib.hid ((gn.out.below hq).mono hq.size)
              have hD := Lib.hid ((hD.out.below hq).mono hq.size)
              have ch := Lib.hid (ch.out.trans (hq.mono ch.out.size))
              clear hq
              go_wp2_with fail
              refine (same_self hy.out gy.out).mono ?_
              rintro e w52 ⟨rfl, hq⟩
              have hd := Lib.hid ((hd.out.below hq).mono hq.size)
              have hy := Lib.hid ((hy.out.below hq).mono hq.size)
              have hn := Lib.hid ((hn.out.below hq).mono hq.size)
              have gd := Lib.hid ((gd.out.below hq).mono hq.size)
              have gy := Lib.hid ((gy.out.below hq).mono hq.size)
              have gn := Lib.hid ((gn.out.below hq).mono hq.size)
              have hD := Lib.hid ((hD.out.below hq).mono hq.size)
              have ch := Lib.hid (ch.out.trans (hq.mono ch.out.size))
              clear hq
              go_wp2_with fail
              refine (same_self hn.out gn.out).mono ?_
              rintro e w53 ⟨rfl, hq⟩
              have hd := Lib.hid ((hd.out.below hq).mono hq.size)
              have hy := Lib.hid ((hy.out.below hq).mono hq.size)
              have hn := Lib.hid ((hn.out.below hq).mono hq.size)
              have gd := Lib.hid ((gd.out.below hq).mono hq.size)
              have gy := Lib.hid ((gy.out.below hq).mono hq.size)
              have gn := Lib.hid ((gn.out.below hq).mono hq.size)
              have hD := Lib.hid ((hD.out.below hq).mono hq.size)
              have ch := Lib.hid (ch.out.trans (hq.mono ch.out.size))
              clear hq
              go_wp2_with fail
              refine (awake9_any _).mono ?_
              rintro e wz ⟨rfl, hqz⟩
              go_wp2
              go_ret
              exact ⟨rfl, ch.out.trans (hqz.mono ch.out.size)⟩
        | true =>
          clear hD
          go_wp2_with fail
          refine (rdefeat_due en _ _ _ d y n _ gd.out gy.out gn.out (fun l hl => by rcases List.mem_cons.1 hl with rfl | hl; exact Vd.out; rcases List.mem_cons.1 hl with rfl | hl; exact Vy.out; rcases List.mem_cons.1 hl with rfl | hl; exact Vn.out; cases hl) HE.out).mono ?_
          rintro e w10 ⟨vd, rfl, hD, hq⟩
          have hd := Lib.hid ((hd.out.below hq).mono hq.size)
          have hy := Lib.hid ((hy.out.below hq).mono hq.size)
          have hn := Lib.hid ((hn.out.below hq).mono hq.size)
          have gd := Lib.hid ((gd.out.below hq).mono hq.size)
          have gy := Lib.hid ((gy.out.below hq).mono hq.size)
          have gn := Lib.hid ((gn.out.below hq).mono hq.size)
          have ch := Lib.hid (ch.out.trans (hq.mono ch.out.size))
          clear hq
          have hD := Lib.hid hD
          go_wp2
          have chB := Lib.hid ch.out
          go_loopg [12] 2 (fun gg i wr => ∃ k : Nat, k ≤ 2 ∧ gg = 2 - k ∧ i = .int .i64 k ∧ Below w10.heap.size w10 wr)
          case atStart => exact ⟨0, by omega, rfl, rfl, Below.refl _ _⟩
          case round =>
            obtain ⟨k, hk, hg, rfl, hq⟩ := hrel
            have HG := Lib.hid hg; clear hg
            have HB := Lib.hid hq
            have hd := Lib.hid ((hd.out.below hq).mono hq.size)
            have hy := Lib.hid ((hy.out.below hq).mono hq.size)
            have hn := Lib.hid ((hn.out.below hq).mono hq.size)
            have gd := Lib.hid ((gd.out.below hq).mono hq.size)
            have gy := Lib.hid ((gy.out.below hq).mono hq.size)
            have gn := Lib.hid ((gn.out.below hq).mono hq.size)
            have hD := Lib.hid ((hD.out.below hq).mono hq.size)
            clear hq ch
            by_cases hlt : k < 2
            · have hi1 : (k : Int) < 2 := by omega
              have ch := Lib.hid (Below.refl wr.heap.size wr)
              go_wp2_with fail
              refine (defeat_due _ _ _ _ d y n _ hd.out hy.out hn.out HE.out).mono ?_
              rintro e w51 ⟨vp, rfl, hP, hq⟩
              have hd := Lib.hid ((hd.out.below hq).mono hq.size)
              have hy := Lib.hid ((hy.out.below hq).mono hq.size)
              have hn := Lib.hid ((hn.out.below hq).mono hq.size)
              have gd := Lib.hid ((gd.out.below hq).mono hq.size)
              have gy := Lib.hid ((gy.out.below hq).mono hq.size)
              have gn := Lib.hid ((gn.out.below hq).mono hq.size)
              have hD := Lib.hid ((hD.out.below hq).mono hq.size)
              have ch := Lib.hid (ch.out.trans (hq.mono ch.out.size))
              clear hq
              have hP := Lib.hid hP
              go_wp2_with fail
              refine (same_self (hP.out.row (by have := defD_len d y n; omega)) hD.out).mono ?_
              rintro e w52 ⟨rfl, hq⟩
              have hd := Lib.hid ((hd.out.below hq).mono hq.size)
              have hy := Lib.hid ((hy.out.below hq).mono hq.size)
              have hn := Lib.hid ((hn.out.below hq).mono hq.size)
              have gd := Lib.hid ((gd.out.below hq).mono hq.size)
              have gy := Lib.hid ((gy.out.below hq).mono hq.size)
              have gn := Lib.hid ((gn.out.below hq).mono hq.size)
              have hD := Lib.hid ((hD.out.below hq).mono hq.size)
              have hP := Lib.hid (hP.out.below hq)
              have ch := Lib.hid (ch.out.trans (hq.mono ch.out.size))
              clear hq
              go_wp2_with fail
              refine (spoil9_any vp _ _ _ hP.out (by have := defD_len d y n; omega)).mono ?_
              rintro e wt ⟨rfl, hq⟩
              have HB2 := Lib.hid (HB.out.trans ((ch.out.trans hq).mono HB.out.size))
              clear hq hP hd hy hn gd gy gn hD
              go_wp2
              go_roundg (2 - (k + 1))
              case measure => rw [HG.out]; omega
              case rel => exact ⟨k + 1, by omega, rfl, by go_num, HB2.out⟩
            · have hkn : k = 2 := by omega
              subst hkn
              have ch := Lib.hid (chB.out.trans (HB.out.mono chB.out.size))
              go_wp2_with fail
              refine (same_self hd.out gd.out).mono ?_
              rintro e w51 ⟨rfl, hq⟩
              have hd := Lib.hid ((hd.out.below hq).mono hq.size)
              have hy := Lib.hid ((hy.out.below hq).mono hq.size)
              have hn := Lib.hid ((hn.out.below hq).mono hq.size)
              have gd := Lib.hid ((gd.out.below hq).mono hq.size)
              have gy := Lib.hid ((gy.out.below hq).mono hq.size)
              have gn := Lib.hid ((gn.out.below hq).mono hq.size)
              have hD := Lib.hid ((hD.out.below hq).mono hq.size)
              have ch := Lib.hid (ch.out.trans (hq.mono ch.out.size))
              clear hq
              go_wp2_with fail
              refine (same_self hy.out gy.out).mono ?_
              rintro e w52 ⟨rfl, hq⟩
              have hd := Lib.hid ((hd.out.below hq).mono hq.size)
              have hy := Lib.hid ((hy.out.below hq).mono hq.size)
              have hn := Lib.hid ((hn.out.below hq).mono hq.size)
              have gd := Lib.hid ((gd.out.below hq).mono hq.size)
              have gy := Lib.hid ((gy.out.below hq).mono hq.size)
              have gn := Lib.hid ((gn.out.below hq).mono hq.size)
              have hD := Lib.hid ((hD.out.below hq).mono hq.size)
              have ch := Lib.hid (ch.out.trans (hq.mono ch.out.size))
              clear hq
              go_wp2_with fail
              refine (same_self hn.out gn.out).mono ?_
              rintro e w53 ⟨rfl, hq⟩
              have hd := Lib.hid ((hd.out.below hq).mono hq.size)
              have hy := Lib.hid ((hy.out.below hq).mono hq.size)
              have hn := Lib.hid ((hn.out.below hq).mono hq.size)
              have gd := Lib.hid ((gd.out.below hq).mono hq.size)
              have gy := Lib.hid ((gy.out.below hq).mono hq.size)
              have gn := Lib.hid ((gn.out.below hq).mono hq.size)
              have hD := Lib.hid ((hD.out.below hq).mono hq.size)
              have ch := Lib.hid (ch.out.trans (hq.mono ch.out.size))
              clear hq
              go_wp2_with fail
              refine (awake9_any _).mono ?_
              rintro e wz ⟨rfl, hqz⟩
              go_wp2
              go_ret
              exact ⟨rfl, ch.out.trans (hqz.mono ch.out.size)⟩
set_option maxRecDepth 20000 in
set_option maxHeartbeats 16000000 in
theorem law_DefeatLiars {w : World} (vh : Value) (h : List Ins) (hhh : InsRow w w.heap.size vh h) :
    Calls Try.prog 14 #[vh] w fun e w' => e = .returned (.bool true) ∧ Below w.heap.size w w' := by
  obtain ⟨ha, hc, rfl⟩ := hhh.len
  obtain ⟨hn, hhn⟩ : ∃ lz, h.length = lz := ⟨_, rfl⟩
  rw [hhn] at hhh ⊢
  have hh := Lib.hid hhh
  clear hhh hhn
  obtain ⟨en, hen⟩ : ∃ e, liarE h = e := ⟨_, rfl⟩
  have HE := Lib.hid hen
  clear hen
  have ch := Lib.hid (Below.refl w.heap.size w)
  go_enter Try.func14, Try.ntmps14
  go_wp2_with fail
  have hL0 := ProgsRow.lit (w := w) [.slice ha hn hc] [h] rfl (by simp) (fun j u l hu hl => match j, u, l, hu, hl with | 0, _, _, hu, hl => by cases hu; cases hl; exact hh.out)
  obtain ⟨w1, hW⟩ : ∃ B, w.alloc (.cells #[.slice ha hn hc] 25) = B := ⟨_, rfl⟩
  rw [hW]
  have hq : Below w.heap.size w w1 := by rw [← hW]; exact (Below.refl _ _).alloc (Nat.le_refl _) _
  have hL := Lib.hid (show ProgsRow w1 w1.heap.size (.slice (some ⟨w.heap.size, 0, none⟩) 1 1) [h] by rw [← hW]; exact hL0)
  clear hW hL0
  have hh := Lib.hid ((hh.out.below hq).mono hq.size)
  have ch := Lib.hid (ch.out.trans (hq.mono ch.out.size))
  clear hq
  refine (small_any _ _ _ (by simp) _ hL.out).mono ?_
  rintro e w2 ⟨b1, rfl, hq⟩
  have hh := Lib.hid ((hh.out.below hq).mono hq.size)
  have hL := Lib.hid ((hL.out.below hq).mono hq.size)
  have ch := Lib.hid (ch.out.trans (hq.mono ch.out.size))
  clear hq
  clear hL
  cases b1 with
  | false =>
    go_wp2_with fail
    refine (awake9_any _).mono ?_
    rintro e wz ⟨rfl, hqz⟩
    go_wp2
    go_ret
    exact ⟨rfl, ch.out.trans (hqz.mono ch.out.size)⟩
  | true =>
    go_wp2_with fail
    refine (twin_any _ h _ hh.out).mono ?_
    rintro e w3 ⟨th, rfl, gh, hq⟩
    have hh := Lib.hid ((hh.out.below hq).mono hq.size)
    have ch := Lib.hid (ch.out.trans (hq.mono ch.out.size))
    clear hq
    have gh := Lib.hid gh
    obtain ⟨boh, hboh⟩ : ∃ b, validB h = b := ⟨_, rfl⟩
    have Vh := Lib.hid hboh
    clear hboh
    go_wp2_with fail
    obtain ⟨w4, hW⟩ : ∃ B, w3.alloc (.cells #[] 52) = B := ⟨_, rfl⟩
    rw [hW]
    have hq : Below w3.heap.size w3 w4 := by rw [← hW]; exact (Below.refl _ _).alloc (Nat.le_refl _) _
    have hD := Lib.hid (show InsRow w4 w4.heap.size (.slice (some ⟨w3.heap.size, 0, none⟩) 0 0) [] by rw [← hW]; exact (OwnI.lit w3 [] (by simp) (by simp)).row (by simp))
    clear hW
    have hh := Lib.hid ((hh.out.below hq).mono hq.size)
    have gh := Lib.hid ((gh.out.below hq).mono hq.size)
    have ch := Lib.hid (ch.out.trans (hq.mono ch.out.size))
    clear hq
    refine (cvalid_at boh Vh.out gh.out).mono ?_
    rintro e w5 ⟨rfl, hq⟩
    have hh := Lib.hid ((hh.out.below hq).mono hq.size)
    have gh := Lib.hid ((gh.out.below hq).mono hq.size)
    have hD := Lib.hid ((hD.out.below hq).mono hq.size)
    have ch := Lib.hid (ch.out.trans (hq.mono ch.out.size))
    clear hq
    cases boh with
    | false =>
      have he1 : en = 1 := by rw [← HE.out]; exact (by unfold liarE; rw [if_neg (by rw [Vh.out]; decide)])
      subst he1
      have hD := Lib.hid (show InsRow _ _ _ (liarD h) from by unfold liarD; rw [if_neg (by rw [HE.out]; decide)]; exact hD.out)
      go_wp2
      have chB := Lib.hid ch.out
      go_loopg [6] 2 (fun gg i wr => ∃ k : Nat, k ≤ 2 ∧ gg = 2 - k ∧ i = .int .i64 k ∧ Below w5.heap.size w5 wr)
      case atStart => exact ⟨0, by omega, rfl, rfl, Below.refl _ _⟩
      case round =>
        obtain ⟨k, hk, hg, rfl, hq⟩ := hrel
        have HG := Lib.hid hg; clear hg
        have HB := Lib.hid hq
        have hh := Lib.hid ((hh.out.below hq).mono hq.size)
        have gh := Lib.hid ((gh.out.below hq).mono hq.size)
        have hD := Lib.hid ((hD.out.below hq).mono hq.size)
        clear hq ch
        by_cases hlt : k < 2
        · have hi1 : (k : Int) < 2 := by omega
          have ch := Lib.hid (Below.refl wr.heap.size wr)
          go_wp2_with fail
          refine (liar_due _ _ h _ hh.out HE.out).mono ?_
          rintro e w51 ⟨vp, rfl, hP, hq⟩
          have hh := Lib.hid ((hh.out.below hq).mono hq.size)
          have gh := Lib.hid ((gh.out.below hq).mono hq.size)
          have hD := Lib.hid ((hD.out.below hq).mono hq.size)
          have ch := Lib.hid (ch.out.trans (hq.mono ch.out.size))
          clear hq
          have hP := Lib.hid hP
          go_wp2_with fail
          refine (same_self (hP.out.row (by have := liarD_len h; omega)) hD.out).mono ?_
          rintro e w52 ⟨rfl, hq⟩
          have hh := Lib.hid ((hh.out.below hq).mono hq.size)
          have gh := Lib.hid ((gh.out.below hq).mono hq.size)
          have hD := Lib.hid ((hD.out.below hq).mono hq.size)
          have hP := Lib.hid (hP.out.below hq)
          have ch := Lib.hid (ch.out.trans (hq.mono ch.out.size))
          clear hq
          go_wp2_with fail
          refine (spoil9_any vp _ _ _ hP.out (by have := liarD_len h; omega)).mono ?_
          rintro e wt ⟨rfl, hq⟩
          have HB2 := Lib.hid (HB.out.trans ((ch.out.trans hq).mono HB.out.size))
          clear hq hP hh gh hD
          go_wp2
          go_roundg (2 - (k + 1))
          case measure => rw [HG.out]; omega
          case rel => exact ⟨k + 1, by omega, rfl, by go_num, HB2.out⟩
        · have hkn : k = 2 := by omega
          subst hkn
          have ch := Lib.hid (chB.out.trans (HB.out.mono chB.out.size))
          go_wp2_with fail
          refine (same_self hh.out gh.out).mono ?_
          rintro e w51 ⟨rfl, hq⟩
          have hh := Lib.hid ((hh.out.below hq).mono hq.size)
          have gh := Lib.hid ((gh.out.below hq).mono hq.size)
          have hD := Lib.hid ((hD.out.below hq).mono hq.size)
          have ch := Lib.hid (ch.out.trans (hq.mono ch.out.size))
          clear hq
          go_wp2_with fail
          refine (awake9_any _).mono ?_
          rintro e wz ⟨rfl, hqz⟩
          go_wp2
          go_ret
          exact ⟨rfl, ch.out.trans (hqz.mono ch.out.size)⟩
    | true =>
      clear hD
      go_wp2_with fail
      refine (rliar_due en _ h _ gh.out Vh.out HE.out).mono ?_
      rintro e w6 ⟨vd, rfl, hD, hq⟩
      have hh := Lib.hid ((hh.out.below hq).mono hq.size)
      have gh := Lib.hid ((gh.out.below hq).mono hq.size)
      have ch := Lib.hid (ch.out.trans (hq.mono ch.out.size))
      clear hq
      have hD := Lib.hid hD
      go_wp2
      have chB := Lib.hid ch.out
      go_loopg [6] 2 (fun gg i wr => ∃ k : Nat, k ≤ 2 ∧ gg = 2 - k ∧ i = .int .i64 k ∧ Below w6.heap.size w6 wr)
      case atStart => exact ⟨0, by omega, rfl, rfl, Below.refl _ _⟩
      case round =>
        obtain ⟨k, hk, hg, rfl, hq⟩ := hrel
        have HG := Lib.hid hg; clear hg
        have HB := Lib.hid hq
        have hh := Lib.hid ((hh.out.below hq).mono hq.size)
        have gh := Lib.hid ((gh.out.below hq).mono hq.size)
        have hD := Lib.hid ((hD.out.below hq).mono hq.size)
        clear hq ch
        by_cases hlt : k < 2
        · have hi1 : (k : Int) < 2 := by omega
          have ch := Lib.hid (Below.refl wr.heap.size wr)
          go_wp2_with fail
          refine (liar_due _ _ h _ hh.out HE.out).mono ?_
          rintro e w51 ⟨vp, rfl, hP, hq⟩
          have hh := Lib.hid ((hh.out.below hq).mono hq.size)
          have gh := Lib.hid ((gh.out.below hq).mono hq.size)
          have hD := Lib.hid ((hD.out.below hq).mono hq.size)
          have ch := Lib.hid (ch.out.trans (hq.mono ch.out.size))
          clear hq
          have hP := Lib.hid hP
          go_wp2_with fail
          refine (same_self (hP.out.row (by have := liarD_len h; omega)) hD.out).mono ?_
          rintro e w52 ⟨rfl, hq⟩
          have hh := Lib.hid ((hh.out.below hq).mono hq.size)
          have gh := Lib.hid ((gh.out.below hq).mono hq.size)
          have hD := Lib.hid ((hD.out.below hq).mono hq.size)
          have hP := Lib.hid (hP.out.below hq)
          have ch := Lib.hid (ch.out.trans (hq.mono ch.out.size))
          clear hq
          go_wp2_with fail
          refine (spoil9_any vp _ _ _ hP.out (by have := liarD_len h; omega)).mono ?_
          rintro e wt ⟨rfl, hq⟩
          have HB2 := Lib.hid (HB.out.trans ((ch.out.trans hq).mono HB.out.size))
          clear hq hP hh gh hD
          go_wp2
          go_roundg (2 - (k + 1))
          case measure => rw [HG.out]; omega
          case rel => exact ⟨k + 1, by omega, rfl, by go_num, HB2.out⟩
        · have hkn : k = 2 := by omega
          subst hkn
          have ch := Lib.hid (chB.out.trans (HB.out.mono chB.out.size))
          go_wp2_with fail
          refine (same_self hh.out gh.out).mono ?_
          rintro e w51 ⟨rfl, hq⟩
          have hh := Lib.hid ((hh.out.below hq).mono hq.size)
          have gh := Lib.hid ((gh.out.below hq).mono hq.size)
          have hD := Lib.hid ((hD.out.below hq).mono hq.size)
          have ch := Lib.hid (ch.out.trans (hq.mono ch.out.size))
          clear hq
          go_wp2_with fail
          refine (awake9_any _).mono ?_
          rintro e wz ⟨rfl, hqz⟩
          go_wp2
          go_ret
          exact ⟨rfl, ch.out.trans (hqz.mono ch.out.size)⟩
end Go.Proofs.Ytaiomcjopgnfpaa


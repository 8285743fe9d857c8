/- law04's due and told. -/
import Derived.Test.YtaiomcjopgnfpaaCopy4
import Derived.Test.YtaiomcjopgnfpaaBuildV
namespace Go.Proofs.Ytaiomcjopgnfpaa
open Go.RowKit

theorem mostR_ge {ls : List (List Ins)} {k : Nat} {l : List Ins} (hl : ls[k]? = some l) : regN l ≤ mostR ls := by
  unfold mostR
  have hm : regN l ∈ ls.map regN := List.mem_map.2 ⟨l, List.mem_of_getElem? hl, rfl⟩
  revert hm
  generalize ls.map regN = m
  intro hm
  induction m with
  | nil => cases hm
  | cons a m ih =>
    simp only [List.foldr_cons]
    rcases List.mem_cons.1 hm with h | h
    · omega
    · have := ih h; omega

set_option maxHeartbeats 4000000 in
theorem due_any (v mv : Value) (ls : List (List Ins)) (ml : List Ins) (w : World) (hl : ProgsRow w w.heap.size v ls) (hm : InsRow w w.heap.size mv ml) :
    Calls Try.prog 25 #[v, mv] w fun e w' => e = .returned (.int .i64 (dueF ls ml)) ∧ Below w.heap.size w w' := by
  obtain ⟨ao, cap, rfl⟩ := hl.len
  have hn5 := hl.1
  obtain ⟨n, hn'⟩ : ∃ n, ls.length = n := ⟨_, rfl⟩
  rw [hn'] at hl hn5 ⊢
  have HN := Lib.hid hn'; clear hn'
  have HL := Lib.hid hl; clear hl
  have HM := Lib.hid hm; clear hm
  obtain ⟨R, hR⟩ : ∃ R, dueF ls ml = R := ⟨_, rfl⟩
  rw [hR]
  have HR := Lib.hid hR; clear hR
  go_enter Try.func25, Try.ntmps25
  go_wp2
  go_loopg [5] n (fun gg i wr => ∃ k : Nat, k ≤ n ∧ gg = n - k ∧ i = .int .i64 k ∧ Aside (allV (ls.take k) = true) ∧ Below w.heap.size w wr)
  case atStart => exact ⟨0, by omega, rfl, rfl, rfl, Below.refl _ _⟩
  case round =>
    obtain ⟨k, hk, hg, rfl, hva, hbw⟩ := hrel
    have HG := Lib.hid hg; clear hg
    have hva := Lib.hid hva.out
    by_cases hlt : k < n
    · obtain ⟨l, hx⟩ : ∃ s, ls[k]? = some s := ⟨_, List.getElem?_eq_getElem (by rw [HN.out]; exact hlt)⟩
      have hl2 := HL.out.step hbw
      obtain ⟨g, off, u, rfl, hg, c0, hu⟩ := hl2.get hx
      have hi0 : (0 : Int) ≤ (k : Int) := Int.natCast_nonneg _
      have hi1 : (k : Int) < (n : Int) := by omega
      have HX := Lib.hid hx
      clear hx hl2
      cases hv : validB l with
      | true =>
        have kr := cvalid_at true hv hu
        have HVV := Lib.hid hv
        clear hv hu
        go_wp2_with fail
        refine kr.mono ?_
        rintro e w1 ⟨rfl, hb1⟩
        have hb2 := hbw.trans (hb1.mono hbw.size)
        clear hb1 kr hbw c0
        go_wp2
        go_roundg (n - (k + 1))
        case measure => rw [HG.out]; omega
        case rel => exact ⟨k + 1, by omega, rfl, by go_num, by show _ = _; rw [allV_succ ls k HX.out, hva.out, HVV.out]; rfl, hb2⟩
      | false =>
        have kr := cvalid_at false hv hu
        have hf : Hid (R = 1) := Lib.hid (by rw [← HR.out]; unfold dueF; rw [if_pos (allV_false HX.out hv)])
        clear hv hu
        go_wp2_with fail
        refine kr.mono ?_
        rintro e w1 ⟨rfl, hb1⟩
        have hb2 := hbw.trans (hb1.mono hbw.size)
        clear hb1 kr hbw c0
        go_wp2
        refine bodyPost_ret (v := .int .i64 1) (by simp [results, Try.results25, go_sem]) rfl ?_
        exact ⟨by rw [hf.out], hb2⟩
    · have hkn : k = n := by omega
      subst hkn
      have hav : Hid (allV ls = true) := Lib.hid (allV_of_take hva.out (by rw [HN.out]; omega))
      clear hva hlt hk
      have HBW := Lib.hid hbw
      clear hbw
      go_wp2
      go_loopg [6] k (fun gg i wr' => ∃ j : Nat, j ≤ k ∧ gg = k - j ∧ i = .int .i64 j ∧ Aside (mostR (ls.take j) ≤ 28) ∧ Below w.heap.size w wr')
      case atStart => exact ⟨0, by omega, rfl, rfl, by show (1 : Nat) ≤ 28; decide, HBW.out⟩
      case round =>
        clear HBW
        obtain ⟨j, hk, hg, rfl, hvb, hbw⟩ := hrel
        have HG := Lib.hid hg; clear hg
        have hvb := Lib.hid hvb.out
        by_cases hlt : j < k
        · obtain ⟨l, hx⟩ : ∃ s, ls[j]? = some s := ⟨_, List.getElem?_eq_getElem (by rw [HN.out]; exact hlt)⟩
          have hl2 := HL.out.step hbw
          obtain ⟨g, off, u, rfl, hg, c0, hu⟩ := hl2.get hx
          have hi0 : (0 : Int) ≤ (j : Int) := Int.natCast_nonneg _
          have hi1 : (j : Int) < (k : Int) := by omega
          have HX := Lib.hid hx
          have kr := refRegs_ok u l _ hu (allV_get hav.out hx)
          have hge := mostR_ge hx
          obtain ⟨r, hr⟩ : ∃ r, regN l = r := ⟨_, rfl⟩
          rw [hr] at kr hge
          have HRR := Lib.hid hr
          have HGE := Lib.hid hge
          clear hx hl2 hr hge hu
          by_cases hbig : 28 < r
          · have hf : Hid (R = 8) := Lib.hid (by rw [← HR.out]; unfold dueF; rw [if_neg (by rw [hav.out]; simp), if_pos (by have := HGE.out; omega)])
            have hbI : (28 : Int) < (r : Int) := by omega
            go_wp2_with fail
            refine kr.mono ?_
            rintro e w1 ⟨rfl, hb1⟩
            have hb2 := hbw.trans (hb1.mono hbw.size)
            clear hb1 kr hbw c0
            go_wp2
            refine bodyPost_ret (v := .int .i64 8) (by simp [results, Try.results25, go_sem]) rfl ?_
            exact ⟨by rw [hf.out], hb2⟩
          · have hbI : ¬ (28 : Int) < (r : Int) := by omega
            go_wp2_with fail
            refine kr.mono ?_
            rintro e w1 ⟨rfl, hb1⟩
            have hb2 := hbw.trans (hb1.mono hbw.size)
            clear hb1 kr hbw c0
            go_wp2
            go_roundg (k - (j + 1))
            case measure => rw [HG.out]; omega
            case rel => exact ⟨j + 1, by omega, rfl, by go_num, by show _ ≤ _; rw [mostR_succ ls j HX.out, HRR.out]; have := hvb.out; omega, hb2⟩
        · have hkn : j = k := by omega
          subst hkn
          have hqm : Hid (mostR ls ≤ 28) := Lib.hid (by have h2 := hvb.out; rwa [List.take_of_length_le (by rw [HN.out]; omega)] at h2)
          clear hvb hlt hk
          have kf := fits4_ok mv ml _ ((HM.out.below hbw).mono hbw.size)
          cases hf : fitsP ml with
          | true =>
            have hf' : Hid (R = 0) := Lib.hid (by rw [← HR.out]; unfold dueF; rw [if_neg (by rw [hav.out]; simp), if_neg (by have := hqm.out; omega), if_pos hf])
            rw [hf] at kf
            clear hf
            go_wp2_with fail
            refine kf.mono ?_
            rintro e w1 ⟨rfl, hb1⟩
            have hb2 := hbw.trans (hb1.mono hbw.size)
            clear hb1 kf hbw
            go_wp2
            refine bodyPost_ret (v := .int .i64 0) (by simp [results, Try.results25, go_sem]) rfl ?_
            exact ⟨by rw [hf'.out], hb2⟩
          | false =>
            have hf' : Hid (R = 3) := Lib.hid (by rw [← HR.out]; unfold dueF; rw [if_neg (by rw [hav.out]; simp), if_neg (by have := hqm.out; omega), if_neg (by rw [hf]; simp)])
            rw [hf] at kf
            clear hf
            go_wp2_with fail
            refine kf.mono ?_
            rintro e w1 ⟨rfl, hb1⟩
            have hb2 := hbw.trans (hb1.mono hbw.size)
            clear hb1 kf hbw
            go_wp2
            refine bodyPost_ret (v := .int .i64 3) (by simp [results, Try.results25, go_sem]) rfl ?_
            exact ⟨by rw [hf'.out], hb2⟩

theorem told_bad (d : Int) (hd : d ≠ 0) (mv : Value) (w : World) :
    Calls Try.prog 24 #[.slice none 0 0, .int .i64 d, .int .i64 d, mv] w fun e w' => e = .returned (.bool true) ∧ Below w.heap.size w w' := by
  go_enter Try.func24, Try.ntmps24
  go_wp2
  go_ret
  exact ⟨rfl, Below.refl _ _⟩
theorem told_ok (v mv : Value) (ml : List Ins) (w : World) (h1 : InsRow w w.heap.size v ml) (h2 : InsRow w w.heap.size mv ml) :
    Calls Try.prog 24 #[v, .int .i64 0, .int .i64 0, mv] w fun e w' => e = .returned (.bool true) ∧ Below w.heap.size w w' := by
  have ks := same_self h1 h2
  go_enter Try.func24, Try.ntmps24
  go_wp2_with fail
  refine ks.mono ?_
  rintro e w1 ⟨rfl, hb1⟩
  go_wp2
  go_ret
  exact ⟨rfl, hb1⟩

end Go.Proofs.Ytaiomcjopgnfpaa


/- Programs out of programs: build.Then. -/
import Derived.Test.YtaiomcjopgnfpaaBuild5
namespace Go.Proofs.Ytaiomcjopgnfpaa
open Go.RowKit

theorem thenL_mono (ls : List (List Ins)) (k : Nat) : (thenL (ls.take k)).length ≤ (thenL ls).length := by
  cases ls with
  | nil => simp
  | cons x xs =>
    cases k with
    | zero => simp [thenL]
    | succ k =>
      simp only [List.take_succ_cons, thenL, List.length_append]
      have h : ((xs.take k).map cleanP).flatten.length ≤ (xs.map cleanP).flatten.length := by
        conv => rhs; rw [← List.take_append_drop k xs]
        rw [List.map_append, List.flatten_append, List.length_append]; omega
      omega
theorem valid_large {l : List Ins} (h : 4000 < l.length) : validB l = false := by
  cases hv : validB l with
  | false => rfl
  | true => have := validB_len hv; omega

set_option maxHeartbeats 4000000 in
theorem bThen_main (ao : Option Addr) (n cap : Nat) (ls : List (List Ins)) (w : World) (HL : Hid (ProgsRow w w.heap.size (.slice ao n cap) ls)) (HN : Hid (ls.length = n)) (HV : Hid (allV ls = true)) (m : Nat) (HM : Hid (mostR ls = m)) (hm : m ≤ 28) (d : Int) (HD : Hid ((if validB (thenL ls) = true then 0 else 3) = d)) (hn : n ≤ 5864062014805) :
    Calls Try.prog 20 #[.slice ao n cap] w (MadeOut w d (thenL ls)) := by
  have kc := check_any _ _ _ HL.out
  rw [show CheckOut ls = .tuple #[.int .i64 (m : Nat), .int .i64 0] by unfold CheckOut; rw [if_neg (by rw [HV.out]; simp), if_neg (by rw [HM.out]; omega), HM.out]] at kc
  go_enter Try.func20, Try.ntmps20
  go_wp2_with fail
  refine kc.mono ?_
  rintro e w1 ⟨rfl, hb1⟩
  have HL1 := Lib.hid (HL.out.step hb1)
  have HB1 := Lib.hid hb1
  clear kc hb1 HL
  go_wp2
  go_loopg [6, 19] n (fun gg o i wr => ∃ k : Nat, k ≤ n ∧ gg = n - k ∧ i = .int .i64 k ∧ Hid (OwnI wr w1.heap.size o (thenL (ls.take k)) ∧ Below w1.heap.size w1 wr ∧ (thenL (ls.take k)).length ≤ 4000))
  case atStart => exact ⟨0, by omega, rfl, rfl, OwnI.nil _ _, Below.refl _ _, by simp [thenL]⟩
  case round =>
    obtain ⟨k, hk, hg, rfl, hP⟩ := hrel
    have HG := Lib.hid hg; clear hg
    by_cases hlt : k < n
    · obtain ⟨l, hx⟩ : ∃ s, ls[k]? = some s := ⟨_, List.getElem?_eq_getElem (by rw [HN.out]; exact hlt)⟩
      have hl2 := HL1.out.step hP.out.2.1
      obtain ⟨g, off, u, rfl, hg, c0, hu⟩ := hl2.get hx
      have hi0 : (0 : Int) ≤ (k : Int) := Int.natCast_nonneg _
      have hi1 : (k : Int) < (n : Int) := by omega
      have hvl := allV_get HV.out hx
      have hn4 := validB_len hvl
      have HX := Lib.hid hx
      clear hx hl2
      by_cases hk0 : k = 0
      · subst hk0
        have ho0 := hP.out.1
        have hb0 := hP.out.2.1
        have hc0 : wr.cell? ⟨g, off, none⟩ = some u := by simpa using c0
        have hA := Lib.hid hP.out.2.2
        go_wp2_with (at_builtin; refine app_row rfl _ _ rfl (vx := u) rfl ho0 rfl hu ?c2 hb0 ?_)
        case c2 => have := hA.out; omega
        intro a' k' c' w' hk' ho' hb'
        have hnew : Hid (OwnI w' w1.heap.size (.slice a' k' c') (thenL (ls.take (0 + 1))) ∧ Below w1.heap.size w1 w' ∧ (thenL (ls.take (0 + 1))).length ≤ 4000) := Lib.hid ⟨by rw [thenL_succ ls 0 HX.out, if_pos rfl]; exact ho'.out, hb'.out, by rw [thenL_succ ls 0 HX.out, if_pos rfl]; simp [thenL]; omega⟩
        clear ho0 hb0 hP hu hc0 c0
        go_wp2
        go_roundg (n - (0 + 1))
        case measure => rw [HG.out]; omega
        case rel => exact ⟨0 + 1, by omega, rfl, by go_num, hnew⟩
      · have hkI : ¬ (k : Int) = 0 := by omega
        obtain ⟨ua, uc, rfl⟩ := hu.len
        go_wp2_with fail
        refine (fresh_len _ l _ hu hvl).mono ?_
        rintro e w2 ⟨ya, ky, yc, rfl, hky, hY, hb1⟩
        have ho0 := hP.out.1.below hb1
        have hb0 := hP.out.2.1.trans (hb1.mono hP.out.2.1.size)
        have hA := Lib.hid hP.out.2.2
        go_wp2_with (at_builtin; refine app_row rfl _ _ rfl (vx := .slice ya ky yc) rfl ho0 rfl hY ?c2 hb0 ?_)
        case c2 => have h1 := hA.out; have h2 := hky.out; rw [cleanP_length]; omega
        intro a' k' c' w' hk' ho' hb'
        have ho2 : Hid (OwnI w' w1.heap.size (.slice a' k' c') (thenL (ls.take (k + 1)))) := Lib.hid (by rw [thenL_succ ls k HX.out, if_neg hk0]; exact ho'.out)
        have hlen : Hid (k' = (thenL (ls.take (k + 1))).length) := Lib.hid (by rw [thenL_succ ls k HX.out, if_neg hk0, List.length_append]; exact hk'.out)
        have hk'0 : (0 : Int) ≤ (k' : Int) := Int.natCast_nonneg _
        clear ho0 hb0 hP hu c0 hY hb1 ho' hk'
        by_cases hbig : 4000 < k'
        · have hbI : (4000 : Int) < (k' : Int) := by omega
          have hd3 : Hid (d = 3) := Lib.hid (by rw [← HD.out, valid_large (by have := thenL_mono ls (k + 1); have := hlen.out; omega)]; rfl)
          have hch := HB1.out.trans (hb'.out.mono HB1.out.size)
          go_wp2
          refine bodyPost_ret (v := .tuple #[.slice none 0 0, .int .i64 3]) (by simp [results, Try.results20, go_sem]) rfl ?_
          rw [hd3.out]
          exact MadeOut.bad (by decide) rfl hch
        · have hbI : (k' : Int) ≤ (4000 : Int) := by omega
          have hnew : Hid (OwnI w' w1.heap.size (.slice a' k' c') (thenL (ls.take (k + 1))) ∧ Below w1.heap.size w1 w' ∧ (thenL (ls.take (k + 1))).length ≤ 4000) := Lib.hid ⟨ho2.out, hb'.out, by have := hlen.out; omega⟩
          go_wp2
          go_roundg (n - (k + 1))
          case measure => rw [HG.out]; omega
          case rel => exact ⟨k + 1, by omega, rfl, by go_num, hnew⟩
    · have hkn : k = n := by omega
      subst hkn
      have hfin := hP.out.1
      have hb0 := hP.out.2.1
      have hA := hP.out.2.2
      rw [List.take_of_length_le (by rw [HN.out]; omega)] at hfin hA
      have HROW := Lib.hid (hfin.row (by omega))
      have HB2 := Lib.hid (HB1.out.trans (hb0.mono HB1.out.size))
      obtain ⟨fa, fc, hv'⟩ := hfin.slice
      have HVV := Lib.hid hv'
      clear hfin hb0 hA hP hv'
      cases hvm : validB (thenL ls) with
      | false =>
        have hd3 : Hid (d = 3) := Lib.hid (by rw [← HD.out, hvm]; rfl)
        rw [HVV.out] at HROW ⊢
        have kd := done_bad fa _ fc _ wr HROW.out hvm
        clear hvm
        go_wp2_with fail
        refine kd.mono ?_
        rintro e w2 ⟨rfl, hb2⟩
        have hch := HB2.out.trans (hb2.mono HB2.out.size)
        go_wp2
        refine bodyPost_ret (v := .tuple #[.slice none 0 0, .int .i64 3]) (by simp [results, Try.results20, go_sem]) rfl ?_
        rw [hd3.out]
        exact MadeOut.bad (by decide) rfl hch
      | true =>
        have hd0 : Hid (d = 0) := Lib.hid (by rw [← HD.out, hvm]; rfl)
        rw [HVV.out] at HROW ⊢
        have kd := done_ok fa _ fc _ wr HROW.out hvm
        clear hvm
        go_wp2_with fail
        refine kd.mono ?_
        rintro e w2 ⟨rfl, hb2⟩
        have hch := HB2.out.trans (hb2.mono HB2.out.size)
        have HR2 := (HROW.out.below hb2).mono hb2.size
        go_wp2
        refine bodyPost_ret (v := .tuple #[.slice fa (thenL ls).length fc, .int .i64 0]) (by simp [results, Try.results20, go_sem]) rfl ?_
        rw [hd0.out]
        exact MadeOut.ok rfl rfl HR2 hch

theorem bThen_any (ao : Option Addr) (n cap : Nat) (ls : List (List Ins)) (w : World) (hl : ProgsRow w w.heap.size (.slice ao n cap) ls) :
    Calls Try.prog 20 #[.slice ao n cap] w (MadeOut w (dueN ls (thenL ls)) (thenL ls)) := by
  have hn : ls.length = n := by obtain ⟨a, c, h⟩ := hl.len; simp only [Value.slice.injEq] at h; exact h.2.1.symm
  have hn5 := hl.1
  have kc := check_any _ _ _ hl
  unfold dueN
  cases hv : allV ls with
  | false =>
    rw [if_pos rfl]
    rw [show CheckOut ls = .tuple #[.int .i64 0, .int .i64 1] by unfold CheckOut; rw [if_pos hv]] at kc
    clear hv hl hn hn5
    go_enter Try.func20, Try.ntmps20
    go_wp2_with fail
    refine kc.mono ?_
    rintro e w1 ⟨rfl, hb1⟩
    go_wp2
    refine bodyPost_ret (v := .tuple #[.slice none 0 0, .int .i64 1]) (by simp [results, Try.results20, go_sem]) rfl ?_
    exact MadeOut.bad (by decide) rfl hb1
  | true =>
    rw [if_neg (by simp)]
    by_cases hr : 28 < mostR ls
    · rw [if_pos hr]
      rw [show CheckOut ls = .tuple #[.int .i64 0, .int .i64 8] by unfold CheckOut; rw [if_neg (by rw [hv]; simp), if_pos hr]] at kc
      clear hv hl hn hn5 hr
      go_enter Try.func20, Try.ntmps20
      go_wp2_with fail
      refine kc.mono ?_
      rintro e w1 ⟨rfl, hb1⟩
      go_wp2
      refine bodyPost_ret (v := .tuple #[.slice none 0 0, .int .i64 8]) (by simp [results, Try.results20, go_sem]) rfl ?_
      exact MadeOut.bad (by decide) rfl hb1
    · rw [if_neg hr]
      exact bThen_main ao n cap ls w (Lib.hid hl) (Lib.hid hn) (Lib.hid hv) _ (Lib.hid rfl) (by omega) _ (Lib.hid rfl) (by omega)

end Go.Proofs.Ytaiomcjopgnfpaa


/- law04: BuildThens. -/
import Derived.Test.YtaiomcjopgnfpaaAwake4
namespace Go.Proofs.Ytaiomcjopgnfpaa
open Go.RowKit

theorem dueN_zero {ls : List (List Ins)} {m : List Ins} (h : dueN ls m = 0) : allV ls = true := by
  cases hv : allV ls with
  | true => rfl
  | false => unfold dueN at h; rw [if_pos hv] at h; cases h
theorem due_at (v mv : Value) (ls : List (List Ins)) (m ml : List Ins) (w : World) (hE : dueF ls m = dueN ls m) (hml : allV ls = true → ml = m) (hl : ProgsRow w w.heap.size v ls) (hm : InsRow w w.heap.size mv ml) :
    Calls Try.prog 25 #[v, mv] w fun e w' => e = .returned (.int .i64 (dueN ls m)) ∧ Below w.heap.size w w' := by
  have kd := due_any v mv ls ml w hl hm
  have hd : dueF ls ml = dueN ls m := by
    cases hv : allV ls with
    | true => rw [hml hv]; exact hE
    | false => unfold dueF dueN; rw [if_pos hv, if_pos hv]
  rwa [hd] at kd
theorem told_at (v mv : Value) (ls : List (List Ins)) (m ml : List Ins) (w : World) (hml : allV ls = true → ml = m) (h1 : TB w w.heap.size (dueN ls m) m v) (hm : InsRow w w.heap.size mv ml) :
    Calls Try.prog 24 #[v, .int .i64 (dueN ls m), .int .i64 (dueN ls m), mv] w fun e w' => e = .returned (.bool true) ∧ Below w.heap.size w w' :=
  told_any _ v mv m w h1 fun e => by rw [← hml (dueN_zero e)]; exact hm

theorem refThen_row (v : Value) (ls : List (List Ins)) (w : World) (hl : ProgsRow w w.heap.size v ls) (hv : allV ls = true) (hT : lenS ls + 32 * ls.length ≤ 500000000) :
    Calls Try.prog 23 #[v] w fun e w' => ∃ v', e = .returned v' ∧ InsRow w' w'.heap.size v' (thenL ls) ∧ Below w.heap.size w w' :=
  (refThen_ok v ls w hl hv hT).mono fun e w' ⟨v', h1, h2, h3⟩ => ⟨v', h1, h2.row (by have := thenL_len ls hv; omega), h3⟩

set_option maxHeartbeats 8000000 in
theorem law_BuildThens {w : World} (v : Value) (ls : List (List Ins)) (hl : ProgsRow w w.heap.size v ls) (hT : lenS ls + 32 * ls.length ≤ 500000000) :
    Calls Try.prog 3 #[v] w fun e w' => e = .returned (.bool true) ∧ Below w.heap.size w w' := by
  obtain ⟨ao, cap, rfl⟩ := hl.len
  have hn5 := hl.1
  obtain ⟨n, hn'⟩ : ∃ n, ls.length = n := ⟨_, rfl⟩
  rw [hn'] at hl hn5 ⊢
  have HN := Lib.hid hn'
  have HT := Lib.hid hT
  clear hn' hT
  have hL := Lib.hid hl
  clear hl
  have ch := Lib.hid (Below.refl w.heap.size w)
  go_enter Try.func3, Try.ntmps3
  go_wp2_with fail
  refine (copied_any _ ls _ hL.out).mono ?_
  rintro e w1 ⟨vw, rfl, hWas, hq⟩
  have hL := Lib.hid ((hL.out.below hq).mono hq.size)
  have ch := Lib.hid (ch.out.trans (hq.mono ch.out.size))
  clear hq
  have hWas := Lib.hid hWas
  go_wp2_with fail
  refine (made_tb (bThen_any _ _ _ ls _ hL.out)).mono ?_
  rintro e w2 ⟨vt, rfl, hB, hq⟩
  have hL := Lib.hid ((hL.out.below hq).mono hq.size)
  have hWas := Lib.hid ((hWas.out.below hq).mono hq.size)
  have ch := Lib.hid (ch.out.trans (hq.mono ch.out.size))
  clear hq
  have hB := Lib.hid hB
  go_wp2_with fail
  refine (alike_self _ _ ls _ hL.out hWas.out).mono ?_
  rintro e w3 ⟨rfl, hq⟩
  have hL := Lib.hid ((hL.out.below hq).mono hq.size)
  have hWas := Lib.hid ((hWas.out.below hq).mono hq.size)
  have hB := Lib.hid ((hB.out.below hq).mono hq.size)
  have ch := Lib.hid (ch.out.trans (hq.mono ch.out.size))
  clear hq
  clear hWas
  go_wp2
  go_loopg [7, 8] n (fun gg va i wr => ∃ k : Nat, k ≤ n ∧ gg = n - k ∧ i = .int .i64 k ∧ va = .bool (allV (ls.take k)) ∧ Below w3.heap.size w3 wr)
  case atStart => exact ⟨0, by omega, rfl, rfl, rfl, Below.refl _ _⟩
  case round =>
    obtain ⟨k, hk, hg, rfl, rfl, hq⟩ := hrel
    have HG := Lib.hid hg; clear hg
    have hL := Lib.hid ((hL.out.below hq).mono hq.size)
    have hB := Lib.hid ((hB.out.below hq).mono hq.size)
    have ch := Lib.hid (ch.out.trans (hq.mono ch.out.size))
    have HQ := Lib.hid hq
    clear hq
    by_cases hlt : k < n
    · obtain ⟨l, hx⟩ : ∃ s, ls[k]? = some s := ⟨_, List.getElem?_eq_getElem (by rw [HN.out]; exact hlt)⟩
      obtain ⟨g, off, u, hao, hg, c0, hu⟩ := hL.out.get hx
      have HGG := Lib.hid hg
      have hi0 : (0 : Int) ≤ (k : Int) := Int.natCast_nonneg _
      have hi1 : (k : Int) < (n : Int) := by omega
      have HX := Lib.hid hx
      have hs := Lib.hid (allV_succ ls k hx)
      clear hx hg
      cases hva : allV (ls.take k) with
      | true =>
        obtain ⟨q, hqq⟩ : ∃ q, validB l = q := ⟨_, rfl⟩
        have kr := cvalid_at q hqq hu
        have hs := Lib.hid (show allV (ls.take (k + 1)) = q by rw [hs.out, hva, hqq]; rfl)
        subst hao
        clear hqq hu hva
        go_wp2_with fail
        refine kr.mono ?_
        rintro e w9 ⟨rfl, hb1⟩
        have HB2 := Lib.hid (HQ.out.trans (hb1.mono HQ.out.size))
        clear hb1 kr c0
        go_wp2
        go_roundg (n - (k + 1))
        case measure => rw [HG.out]; omega
        case rel => exact ⟨k + 1, by omega, rfl, by go_num, by rw [hs.out], HB2.out⟩
      | false =>
        have hs := Lib.hid (show allV (ls.take (k + 1)) = false by rw [hs.out, hva]; rfl)
        subst hao
        clear hu hva c0
        go_wp2
        go_roundg (n - (k + 1))
        case measure => rw [HG.out]; omega
        case rel => exact ⟨k + 1, by omega, rfl, by go_num, by rw [hs.out], HQ.out⟩
    · have hkn : k = n := by omega
      subst hkn
      rw [List.take_of_length_le (by rw [HN.out]; omega)]
      clear hlt HQ HG
      cases hva : allV ls with
      | true =>
        have hT := HT.out
        have HV := Lib.hid hva
        clear hva
        go_wp2_with fail
        refine (refThen_row _ ls _ hL.out HV.out HT.out).mono ?_
        rintro e w4 ⟨vm, rfl, hM, hq⟩
        have hL := Lib.hid ((hL.out.below hq).mono hq.size)
        have hB := Lib.hid ((hB.out.below hq).mono hq.size)
        have ch := Lib.hid (ch.out.trans (hq.mono ch.out.size))
        clear hq
        have hM := Lib.hid hM
        go_wp2_with fail
        refine (due_at _ _ ls (thenL ls) (thenL ls) _ (dueF_then ls) (fun _ => rfl) hL.out hM.out).mono ?_
        rintro e w5 ⟨rfl, hq⟩
        have hL := Lib.hid ((hL.out.below hq).mono hq.size)
        have hB := Lib.hid ((hB.out.below hq).mono hq.size)
        have hM := Lib.hid ((hM.out.below hq).mono hq.size)
        have ch := Lib.hid (ch.out.trans (hq.mono ch.out.size))
        clear hq
        go_wp2_with fail
        refine (told_at _ _ ls (thenL ls) (thenL ls) _ (fun _ => rfl) hB.out hM.out).mono ?_
        rintro e w6 ⟨rfl, hq⟩
        have hL := Lib.hid ((hL.out.below hq).mono hq.size)
        have hB := Lib.hid ((hB.out.below hq).mono hq.size)
        have hM := Lib.hid ((hM.out.below hq).mono hq.size)
        have ch := Lib.hid (ch.out.trans (hq.mono ch.out.size))
        clear hq
        go_wp2_with fail
        refine (awake_any _).mono ?_
        rintro e w7 ⟨rfl, hq⟩
        have hL := Lib.hid ((hL.out.below hq).mono hq.size)
        have hB := Lib.hid ((hB.out.below hq).mono hq.size)
        have hM := Lib.hid ((hM.out.below hq).mono hq.size)
        have ch := Lib.hid (ch.out.trans (hq.mono ch.out.size))
        clear hq
        go_wp2
        go_ret
        exact ⟨rfl, ch.out⟩
      | false =>
        have hml := Lib.hid (show allV ls = true → [] = thenL ls from fun e => by rw [hva] at e; cases e)
        clear hva
        have hM := Lib.hid (row_nil wr wr.heap.size)
        go_wp2_with fail
        refine (due_at _ _ ls (thenL ls) [] _ (dueF_then ls) hml.out hL.out hM.out).mono ?_
        rintro e w4 ⟨rfl, hq⟩
        have hL := Lib.hid ((hL.out.below hq).mono hq.size)
        have hB := Lib.hid ((hB.out.below hq).mono hq.size)
        have hM := Lib.hid ((hM.out.below hq).mono hq.size)
        have ch := Lib.hid (ch.out.trans (hq.mono ch.out.size))
        clear hq
        go_wp2_with fail
        refine (told_at _ _ ls (thenL ls) [] _ hml.out hB.out hM.out).mono ?_
        rintro e w5 ⟨rfl, hq⟩
        have hL := Lib.hid ((hL.out.below hq).mono hq.size)
        have hB := Lib.hid ((hB.out.below hq).mono hq.size)
        have hM := Lib.hid ((hM.out.below hq).mono hq.size)
        have ch := Lib.hid (ch.out.trans (hq.mono ch.out.size))
        clear hq
        go_wp2_with fail
        refine (awake_any _).mono ?_
        rintro e w6 ⟨rfl, hq⟩
        have hL := Lib.hid ((hL.out.below hq).mono hq.size)
        have hB := Lib.hid ((hB.out.below hq).mono hq.size)
        have hM := Lib.hid ((hM.out.below hq).mono hq.size)
        have ch := Lib.hid (ch.out.trans (hq.mono ch.out.size))
        clear hq
        go_wp2
        go_ret
        exact ⟨rfl, ch.out⟩

end Go.Proofs.Ytaiomcjopgnfpaa


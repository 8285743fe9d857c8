/- Programs out of programs: Const, Then. -/
import Derived.Test.YtaiomcjopgnfpaaBuild4
namespace Go.Proofs.Ytaiomcjopgnfpaa
open Go.RowKit

theorem bConst_ok (d : ByteArray) (hs : d.size ≤ 140737488355328) (hd : isTree d = true) (w : World) :
    Calls Try.prog 36 #[.string d] w fun e w' => ∃ a c, e = .returned (.tuple #[.slice a 1 c, .int .i64 0]) ∧ InsRow w' w'.heap.size (.slice a 1 c) [setI 0 d] ∧ Below w.heap.size w w' := by
  have kt := treeValid_at d hs _ hd
  have hwf : ∀ x ∈ [setI 0 d], x.wf := by simp; exact setI_wf _ _ (by omega) hs
  go_enter Try.func36, Try.ntmps36
  go_wp2_with fail
  refine (kt _).mono ?_
  rintro e w1 ⟨rfl, hb⟩
  have hrow := (OwnI.lit w1 [setI 0 d] hwf (by simp)).row (by simp)
  have hb2 := hb.alloc hb.size (.cells (inscells [setI 0 d]).toArray 52)
  go_wp2
  refine bodyPost_ret (v := .tuple #[.slice (some ⟨w1.heap.size, 0, none⟩) 1 1, .int .i64 0]) (by simp [results, Try.results36, go_sem]) rfl ?_
  exact ⟨_, _, rfl, hrow, hb2⟩
theorem bConst_bad (d : ByteArray) (hs : d.size ≤ 140737488355328) (hd : isTree d = false) (w : World) :
    Calls Try.prog 36 #[.string d] w fun e w' => e = .returned (.tuple #[.slice none 0 0, .int .i64 1]) ∧ Below w.heap.size w w' := by
  have kt := treeValid_at d hs _ hd
  go_enter Try.func36, Try.ntmps36
  go_wp2_with fail
  refine (kt _).mono ?_
  rintro e w1 ⟨rfl, hb⟩
  go_wp2
  refine bodyPost_ret (v := .tuple #[.slice none 0 0, .int .i64 1]) (by simp [results, Try.results36, go_sem]) rfl ?_
  exact ⟨rfl, hb⟩
theorem refConst_ok (d : ByteArray) (hs : d.size ≤ 140737488355328) (w : World) :
    Calls Try.prog 40 #[.string d] w fun e w' => ∃ a c, e = .returned (.slice a 1 c) ∧ InsRow w' w'.heap.size (.slice a 1 c) [setI 0 d] ∧ Below w.heap.size w w' := by
  have hwf : ∀ x ∈ [setI 0 d], x.wf := by simp; exact setI_wf _ _ (by omega) hs
  go_enter Try.func40, Try.ntmps40
  go_wp2_with fail
  refine (rset_any 0 d _).mono ?_
  rintro e w1 ⟨rfl, hb⟩
  have hrow := (OwnI.lit w1 [setI 0 d] hwf (by simp)).row (by simp)
  have hb2 := hb.alloc hb.size (.cells (inscells [setI 0 d]).toArray 52)
  go_wp2
  go_ret
  exact ⟨_, _, rfl, hrow, hb2⟩

theorem thenL_succ (ls : List (List Ins)) (k : Nat) {l : List Ins} (hl : ls[k]? = some l) : thenL (ls.take (k + 1)) = thenL (ls.take k) ++ (if k = 0 then l else cleanP l) := by
  rw [take_snoc' _ _ _ hl]
  cases k with
  | zero => simp [thenL]
  | succ k =>
    cases ls with
    | nil => simp at hl
    | cons x xs => simp [thenL, List.take_succ_cons]
theorem thenL_len (ls : List (List Ins)) (hv : allV ls = true) : (thenL ls).length ≤ lenS ls + 32 * ls.length := by
  cases ls with
  | nil => simp [thenL]
  | cons x xs =>
    have : ∀ ys : List (List Ins), allV ys = true → ((ys.map cleanP).flatten).length ≤ lenS ys + 32 * ys.length := by
      intro ys
      induction ys with
      | nil => intro _; simp
      | cons y ys ih =>
        intro h
        simp only [allV, List.all_cons, Bool.and_eq_true] at h
        have h1 := ih h.2
        have h2 := mostN_lt (validB_all h.1) y.length (Nat.le_refl _)
        rw [mostN_all] at h2
        simp only [List.map_cons, List.flatten_cons, List.length_append, cleanP_length, List.length_cons, lenS, List.sum_cons] at h1 ⊢
        omega
    simp only [allV, List.all_cons, Bool.and_eq_true] at hv
    have h1 := this xs hv.2
    simp only [thenL, List.length_append, lenS, List.map_cons, List.sum_cons, List.length_cons] at h1 ⊢
    omega
theorem allV_take {ls : List (List Ins)} (h : allV ls = true) (k : Nat) : allV (ls.take k) = true := List.all_eq_true.2 fun x hx => List.all_eq_true.1 h x (List.mem_of_mem_take hx)

set_option maxHeartbeats 4000000 in
theorem refThen_ok (v : Value) (ls : List (List Ins)) (w : World) (hl : ProgsRow w w.heap.size v ls) (hv : allV ls = true) (hT : lenS ls + 32 * ls.length ≤ 500000000) :
    Calls Try.prog 23 #[v] w fun e w' => ∃ v', e = .returned v' ∧ OwnI w' w.heap.size v' (thenL ls) ∧ Below w.heap.size w w' := by
  obtain ⟨ao, cap, rfl⟩ := hl.len
  obtain ⟨n, hn'⟩ : ∃ n, ls.length = n := ⟨_, rfl⟩
  rw [hn'] at hl hT ⊢
  have HN := Lib.hid hn'; clear hn'
  have HL := Lib.hid hl; clear hl
  have HV := Lib.hid hv; clear hv
  go_enter Try.func23, Try.ntmps23
  go_wp2
  go_loopg [3, 4] n (fun gg o i wr => ∃ k : Nat, k ≤ n ∧ gg = n - k ∧ i = .int .i64 k ∧ Hid (OwnI wr w.heap.size o (thenL (ls.take k)) ∧ Below w.heap.size w wr))
  case atStart => exact ⟨0, by omega, rfl, rfl, OwnI.nil _ _, Below.refl _ _⟩
  case round =>
    obtain ⟨k, hk, hg, rfl, hP⟩ := hrel
    have HG := Lib.hid hg; clear hg
    by_cases hlt : k < n
    · obtain ⟨l, hx⟩ : ∃ s, ls[k]? = some s := ⟨_, List.getElem?_eq_getElem (by rw [HN.out]; exact hlt)⟩
      have hl2 := HL.out.step hP.out.2
      obtain ⟨g, off, u, rfl, hg, c0, hu⟩ := hl2.get hx
      have hi0 : (0 : Int) ≤ (k : Int) := Int.natCast_nonneg _
      have hi1 : (k : Int) < (n : Int) := by omega
      have hvl := allV_get HV.out hx
      have hn4 := validB_len hvl
      have hA : Hid ((thenL (ls.take k)).length ≤ 500000000) := Lib.hid (by
        have h1 := thenL_len (ls.take k) (allV_take HV.out k)
        have h2 := lenS_take ls k
        have h3 : (ls.take k).length ≤ n := by rw [List.length_take]; omega
        omega)
      have HX := Lib.hid hx
      clear hx hl2
      by_cases hk0 : k = 0
      · subst hk0
        have ho0 := hP.out.1
        have hb0 := hP.out.2
        have hc0 : wr.cell? ⟨g, off, none⟩ = some u := by simpa using c0
        go_wp2_with (at_builtin; refine app_row rfl _ _ rfl (vx := u) rfl ho0 rfl hu ?c2 hb0 ?_)
        case c2 => have := hA.out; omega
        intro a' k' c' w' hk' ho' hb'
        have hnew : Hid (OwnI w' w.heap.size (.slice a' k' c') (thenL (ls.take (0 + 1))) ∧ Below w.heap.size w w') := Lib.hid ⟨by rw [thenL_succ ls 0 HX.out, if_pos rfl]; exact ho'.out, hb'.out⟩
        clear ho0 hb0 hP hu hc0 c0
        go_wp2
        go_roundg (n - (0 + 1))
        case measure => rw [HG.out]; omega
        case rel => exact ⟨0 + 1, by omega, rfl, by go_num, hnew⟩
      · have hkI : ¬ (k : Int) = 0 := by omega
        go_wp2_with fail
        refine (refclean_len u l _ hu hvl).mono ?_
        rintro e w1 ⟨ya, ky, yc, rfl, hky, hY, hb1⟩
        have ho0 := hP.out.1.below hb1
        have hb0 := hP.out.2.trans (hb1.mono hP.out.2.size)
        go_wp2_with (at_builtin; refine app_row rfl _ _ rfl (vx := .slice ya ky yc) rfl ho0 rfl hY ?c2 hb0 ?_)
        case c2 => have h1 := hA.out; have h2 := hky.out; rw [cleanP_length]; omega
        intro a' k' c' w' hk' ho' hb'
        have hnew : Hid (OwnI w' w.heap.size (.slice a' k' c') (thenL (ls.take (k + 1))) ∧ Below w.heap.size w w') := Lib.hid ⟨by rw [thenL_succ ls k HX.out, if_neg hk0]; exact ho'.out, hb'.out⟩
        clear ho0 hb0 hP hu c0 hY hb1
        go_wp2
        go_roundg (n - (k + 1))
        case measure => rw [HG.out]; omega
        case rel => exact ⟨k + 1, by omega, rfl, by go_num, hnew⟩
    · have hkn : k = n := by omega
      subst hkn
      have hfin : Hid (OwnI wr w.heap.size _ (thenL ls)) := Lib.hid (by have := hP.out.1; rw [List.take_of_length_le (by rw [HN.out]; omega)] at this; exact this)
      go_wp2
      go_ret
      exact ⟨_, rfl, hfin.out, hP.out.2⟩

end Go.Proofs.Ytaiomcjopgnfpaa


/- The walks of narcissuslaw01: awake and TreeConses. -/
import Derived.Test.YtieocihlkpipmaaItems
import Derived.Test.YtieocihlkpipmaaRefL
import Derived.Test.YtieocihlkpipmaaDepth
namespace Go.Proofs.Ytieocihlkpipmaa
open Go.RowKit

def t3 : Tr := .pair (.pair .nil .nil) (.pair .nil .nil)
theorem aw_num (w : World) : Calls Try.prog 52 #[.int .i64 2] w fun e w' => e = .returned (.tuple #[.string ⟨#[49, 48, 49, 48, 48]⟩, .int .i64 0]) ∧ Below w.heap.size w w' := number_ok 2 (by decide) w
theorem aw_head (w : World) : Calls Try.prog 50 #[.string ⟨#[49, 49, 48, 48, 49, 48, 48]⟩] w fun e w' => e = .returned (.tuple #[.string ⟨#[49, 48, 48]⟩, .int .i64 0]) ∧ Below w.heap.size w w' := head_ok t3 (by decide) w
theorem aw_tail (w : World) : Calls Try.prog 51 #[.string ⟨#[49, 49, 48, 48, 49, 48, 48]⟩] w fun e w' => e = .returned (.tuple #[.string ⟨#[49, 48, 48]⟩, .int .i64 0]) ∧ Below w.heap.size w w' := tail_ok t3 (by decide) w
theorem aw_valid (s : ByteArray) (b : Bool) (hs : s.size ≤ 281474976710656) (h : isTree s = b) (w : World) : Calls Try.prog 44 #[.string s] w fun e w' => e = .returned (.bool b) ∧ Below w.heap.size w w' := by
  have := treeValid_any s hs w; rwa [h] at this
theorem aw_list (w : World) : Calls Try.prog 34 #[.slice (some ⟨w.heap.size, 0, none⟩) 2 2] (w.alloc (.cells #[.string ⟨#[48]⟩, .string ⟨#[49, 48, 48]⟩] 9)) fun e w' =>
    e = .returned (.tuple #[.string ⟨#[49, 48, 49, 49, 48, 48, 48]⟩, .int .i64 0]) ∧ Below w.heap.size w w' := by
  have hown : (w.alloc (.cells #[.string ⟨#[48]⟩, .string ⟨#[49, 48, 48]⟩] 9)).ownsRow w.heap.size 9 1 (.slice (some ⟨w.heap.size, 0, none⟩) 2 2) 2 ([(⟨#[48]⟩ : ByteArray), ⟨#[49, 48, 48]⟩].map Value.string) :=
    World.ownsRow_lit w _ 2 (Nat.le_refl _) (by decide) rfl
  have hr := StrRow.of_own hown (by intro s hs; simp at hs; rcases hs with rfl | rfl <;> decide) (by decide)
  refine (list_any _ _ _ hr (by decide)).mono fun e w' ⟨he, hb⟩ => ⟨?_, ?_⟩
  · rw [he]
    have hh := listS_TS [.nil, .pair .nil .nil] (by intro t ht; simp at ht; rcases ht with rfl | rfl <;> decide) (by decide)
    exact ret_se2 hh.1 hh.2
  · exact ((Below.refl _ w).alloc (Nat.le_refl _) _).trans (hb.mono (by simp))

set_option maxHeartbeats 2000000 in
theorem awake01 (w : World) : Calls Try.prog 36 #[] w fun e w' => e = .returned (.bool true) ∧ Below w.heap.size w w' := by
  go_enter Try.func36, Try.ntmps36
  go_wp2_with fail
  refine (aw_num _).mono ?_
  rintro e w1 ⟨rfl, h1⟩
  go_wp2_with fail
  refine (aw_head _).mono ?_
  rintro e w2 ⟨rfl, h2⟩
  go_wp2_with fail
  refine (aw_tail _).mono ?_
  rintro e w3 ⟨rfl, h3⟩
  go_wp2_with fail
  refine (aw_list _).mono ?_
  rintro e w4 ⟨rfl, h4⟩
  go_wp2_with fail
  refine (aw_valid _ true (by decide) (by decide) _).mono ?_
  rintro e w5 ⟨rfl, h5⟩
  go_wp2_with fail
  refine (aw_valid _ false (by decide) (by decide) _).mono ?_
  rintro e w6 ⟨rfl, h6⟩
  go_wp2_with fail
  refine (aw_valid _ false (by decide) (by decide) _).mono ?_
  rintro e w7 ⟨rfl, h7⟩
  go_wp2_with fail
  refine (aw_valid _ false (by decide) (by decide) _).mono ?_
  rintro e w8 ⟨rfl, h8⟩
  go_wp2_with fail
  refine (aw_valid _ false (by decide) (by decide) _).mono ?_
  rintro e w9 ⟨rfl, h9⟩
  go_wp2
  go_ret
  have k2 := h1.trans (h2.mono h1.size)
  have k3 := k2.trans (h3.mono k2.size)
  have k4 := k3.trans (h4.mono k3.size)
  have k5 := k4.trans (h5.mono k4.size)
  have k6 := k5.trans (h6.mono k5.size)
  have k7 := k6.trans (h7.mono k6.size)
  have k8 := k7.trans (h8.mono k7.size)
  exact ⟨rfl, k8.trans (h9.mono k8.size)⟩

theorem emp : ((⟨#[]⟩ : ByteArray).toList == []) = true := by rw [Lib.toList_data]; rfl
theorem refValid_at (s : ByteArray) (b : Bool) (hs : s.size ≤ 281474976710656) (h : isTree s = b) (w : World) : Calls Try.prog 24 #[.string s] w fun e w' => e = .returned (.bool b) ∧ w = w' := by
  have := refValid_any s hs w; rwa [h] at this

set_option maxHeartbeats 2000000 in
theorem law_TreeConses (a : ByteArray) (ha : a.size ≤ 140737488355328) (b : ByteArray) (hb : b.size ≤ 140737488355328) (w : World) :
    Calls Try.prog 12 #[.string a, .string b] w fun e w' => e = .returned (.bool true) ∧ Below w.heap.size w w' := by
  rcases valid_or a (by omega) with ⟨t, rfl, ht⟩ | h1
  · rcases valid_or b (by omega) with ⟨u, rfl, hu⟩ | h2
    · have v1 := fun w => refValid_at (TS t) true (by omega) (isTree_TS t ht) w
      have v2 := fun w => refValid_at (TS u) true (by omega) (isTree_TS u hu) w
      have z1 : (TS t).size = t.size := TS_size t
      have z2 : (TS u).size = u.size := TS_size u
      by_cases hsz : 2000000 ≤ t.size + u.size
      · have hc := fun w => cons_big t u ht hu hsz w
        have hd : (2000000 : Int) ≤ t.size + u.size := by omega
        clear hsz
        go_enter Try.func12, Try.ntmps12
        go_wp2_with fail
        refine (hc _).mono ?_
        rintro e w1 ⟨rfl, k1⟩
        go_wp2_with fail
        refine (v1 _).mono ?_
        rintro e w1' ⟨rfl, rfl⟩
        go_wp2_with fail
        refine (v2 _).mono ?_
        rintro e w1' ⟨rfl, rfl⟩
        go_wp2_with fail
        refine (awake01 _).mono ?_
        rintro e w2 ⟨rfl, k2⟩
        go_wp2
        go_ret
        exact ⟨rfl, k1.trans (k2.mono k1.size)⟩
      · have hc := fun w => cons_ok t u ht hu (by omega) w
        have hd : decide ((2000000 : Int) ≤ t.size + u.size) = false := decide_eq_false (by omega)
        have k1 := fun w => run_string_add_sum (P := Try.prog) w ⟨#[49]⟩ (TS t) (by rw [z1]; show 1 + t.size ≤ _; omega)
        have k2 := fun w => run_string_add_sum (P := Try.prog) w (⟨#[49]⟩ ++ TS t) (TS u) (by rw [ByteArray.size_append, z1, z2]; show 1 + t.size + u.size ≤ _; omega)
        have hr : (⟨#[49]⟩ ++ TS t) ++ TS u = TS (.pair t u) := ba_ext (by simp [TS_list, Tr.enc])
        rw [hr] at k2; clear hr
        generalize ⟨#[49]⟩ ++ TS t = r1 at k1 k2
        generalize TS (.pair t u) = r2 at k2 hc
        have hrr : (r2.toList == r2.toList) = true := by simp
        clear hsz
        go_enter Try.func12, Try.ntmps12
        go_wp2_with fail
        refine (hc _).mono ?_
        rintro e w1 ⟨rfl, k3⟩
        go_wp2_with fail
        refine (v1 _).mono ?_
        rintro e w1' ⟨rfl, rfl⟩
        go_wp2_with fail
        refine (v2 _).mono ?_
        rintro e w1' ⟨rfl, rfl⟩
        go_wp2_with fail
        refine (awake01 _).mono ?_
        rintro e w2 ⟨rfl, k4⟩
        go_wp2
        go_ret
        exact ⟨rfl, k3.trans (k4.mono k3.size)⟩
    · have v1 := fun w => refValid_at (TS t) true (by omega) (isTree_TS t ht) w
      have v2 := fun w => refValid_at b false (by omega) h2 w
      have hc := fun w => cons_bad2 t b ht (by omega) h2 w
      clear h2
      go_enter Try.func12, Try.ntmps12
      go_wp2_with fail
      refine (hc _).mono ?_
      rintro e w1 ⟨rfl, k1⟩
      go_wp2_with fail
      refine (v1 _).mono ?_
      rintro e w1' ⟨rfl, rfl⟩
      go_wp2_with fail
      refine (v2 _).mono ?_
      rintro e w1' ⟨rfl, rfl⟩
      go_wp2_with fail
      refine (awake01 _).mono ?_
      rintro e w2 ⟨rfl, k2⟩
      go_wp2
      go_ret
      exact ⟨rfl, k1.trans (k2.mono k1.size)⟩
  · have v1 := fun w => refValid_at a false (by omega) h1 w
    have hc := fun w => cons_bad1 a b (by omega) h1 w
    clear h1
    go_enter Try.func12, Try.ntmps12
    go_wp2_with fail
    refine (hc _).mono ?_
    rintro e w1 ⟨rfl, k1⟩
    go_wp2_with fail
    refine (v1 _).mono ?_
    rintro e w1' ⟨rfl, rfl⟩
    go_wp2_with fail
    refine (awake01 _).mono ?_
    rintro e w2 ⟨rfl, k2⟩
    go_wp2
    go_ret
    exact ⟨rfl, k1.trans (k2.mono k1.size)⟩

end Go.Proofs.Ytieocihlkpipmaa

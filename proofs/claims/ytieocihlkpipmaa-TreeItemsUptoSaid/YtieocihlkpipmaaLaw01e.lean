/- The walk of TreeLists. -/
import Derived.Test.YtieocihlkpipmaaLaw01d
import Derived.Test.YtieocihlkpipmaaOpen
namespace Go.Proofs.Ytieocihlkpipmaa
open Go.RowKit

theorem letters_len (l : List ByteArray) : l.length ≤ letters l := by
  induction l with
  | nil => exact Nat.zero_le _
  | cons s l ih => simp only [letters, List.map_cons, List.sum_cons, List.length_cons] at *; omega
theorem letters_mem {l : List ByteArray} {s : ByteArray} (h : s ∈ l) : s.size + 1 ≤ letters l := by
  induction l with
  | nil => cases h
  | cons u l ih =>
    simp only [letters, List.map_cons, List.sum_cons] at *
    rcases List.mem_cons.1 h with rfl | h
    · omega
    · have := ih h; omega
theorem letters_lwr (l : List ByteArray) : (lwr l).length = letters l := by
  induction l with
  | nil => rfl
  | cons s l ih =>
    have h : lwr (s :: l) = (49 :: s.data.toList) ++ lwr l := by simp [lwr]
    have h2 : s.data.toList.length = s.size := by simp
    rw [h, List.length_append, ih, List.length_cons, h2]; simp [letters]

/-- A copy of a slice of strings. -/
theorem copy_own {v : Value} {l : List ByteArray} {w : World} (hl : StrRow w w.heap.size v l) : Src (w.alloc (.cells #[] 9)) v l.length 1 (l.map Value.string) :=
  (hl.below ((Below.refl _ w).alloc (Nat.le_refl _) (.cells #[] 9))).src

theorem listE_all {l : List ByteArray} (h : allTree l = true) (hc : 2000000 < lcount l) : listE l = 3 ∧ listS l = ⟨#[]⟩ := by
  refine ⟨by unfold listE; rw [h, if_pos rfl, if_neg (by omega)], by unfold listS; rw [h, decide_eq_false (by omega)]; rfl⟩
theorem listE_ok {l : List ByteArray} (h : allTree l = true) (hc : lcount l ≤ 2000000) : listE l = 0 ∧ listS l = ⟨(lwr l ++ [48]).toArray⟩ := by
  refine ⟨by unfold listE; rw [h, if_pos rfl, if_pos hc], by unfold listS; rw [h, decide_eq_true hc]; rfl⟩
theorem allTree_snoc {l : List ByteArray} {k : Nat} {s : ByteArray} (h : allTree (l.take k) = true) (hs : l[k]? = some s) (ht : isTree s = true) : allTree (l.take (k + 1)) = true := by
  rw [take_snoc' _ _ _ hs]; unfold allTree at *; rw [List.all_append, h]; simp [ht]

set_option maxHeartbeats 4000000 in
set_option maxRecDepth 20000 in
theorem law_TreeLists (w : World) (v : Value) (l : List ByteArray) (hl : StrRow w w.heap.size v l) (z : letters l ≤ 1048576) :
    Calls Try.prog 7 #[v] w fun e w' => e = .returned (.bool true) ∧ Below w.heap.size w w' := by
  have hn : l.length ≤ 1048576 := Nat.le_trans (letters_len l) z
  have kl := fun w' (h : StrRow w' w'.heap.size v l) => list_any v l w' h (by omega)
  have kr := fun w' (h : StrRow w' w'.heap.size v l) => refList_any v l w' h (by omega) (by rw [letters_lwr]; omega)
  have ks := fun v2 w' B h1 h2 => same_refl v v2 l w' B h1 h2
  have hs := copy_own hl
  have hsz := Lib.hid (fun s (h : s ∈ l) => letters_mem h)
  have HZ := Lib.hid z; clear z
  obtain ⟨ao, cap, rfl⟩ := hl.len
  obtain ⟨n, hn'⟩ : ∃ n, l.length = n := ⟨_, rfl⟩
  rw [hn'] at hn hs kl kr ks hl ⊢
  have HN := Lib.hid hn'; clear hn'
  obtain ⟨r1, hr1⟩ : ∃ r, listS l = r := ⟨_, rfl⟩
  obtain ⟨r2, hr2⟩ : ∃ r, listE l = r := ⟨_, rfl⟩
  rw [hr1, hr2] at kl
  have H1 := Lib.hid hr1; clear hr1
  have H2 := Lib.hid hr2; clear hr2
  have hown : (w.alloc (.cells #[] 9)).ownsRow w.heap.size 9 1 (.slice (some ⟨w.heap.size, 0, none⟩) 0 0) 0 [] := World.ownsRow_lit w #[] 0 (Nat.le_refl _) (by decide) rfl
  have hb : Below w.heap.size w (w.alloc (.cells #[] 9)) := (Below.refl _ _).alloc (Nat.le_refl _) _
  go_enter Try.func7, Try.ntmps7
  go_wp2_with (at_builtin; refine app_src el_str (vx := .slice ao n cap) rfl _ _ rfl rfl hown rfl hs (by intro u hu; obtain ⟨s, _, rfl⟩ := List.mem_map.1 hu; rfl) ?c2 ?c3 (by simp) hb (Nat.le_refl _) ?_)
  case c2 => omega
  case c3 => unfold maxLen; omega
  intro v1 w1 hown1 hb1 hg1
  have hl1 := (hl.below hb1).mono hb1.size
  have hrow1 : StrRow w1 w1.heap.size v1 l := StrRow.of_own (by simpa using hown1) (fun s h => by have := hsz.out s h; have := HZ.out; omega) (by rw [HN.out]; omega)
  clear hown hs hb hown1 hg1
  go_wp2_with fail
  refine (kl _ hl1).mono ?_
  rintro e w2 ⟨rfl, k2⟩
  have hl2 := (hl1.below k2).mono k2.size
  have hrow2 := (hrow1.below k2).mono k2.size
  have c2 := hb1.trans (k2.mono hb1.size)
  clear k2 hb1 hl1 hrow1 kl
  go_wp2_with fail
  refine (ks _ _ _ hl2 hrow2).mono ?_
  rintro e w3 ⟨rfl, nq, rfl⟩
  have c3 := below_drewN c2 nq
  have hl3 := hl.below c3
  clear hl2 hrow2 c2 ks
  go_wp2
  generalize w2.drewN nq = w3 at *
  go_loopg [6, 7] n (fun g s i wr => ∃ k m : Nat, k ≤ n ∧ g = n - k ∧ i = .int .i64 k ∧ s = .int .i64 m ∧ m ≤ 2000001 ∧ Aside (m = min (lcount (l.take k)) 2000001) ∧ Aside (allTree (l.take k) = true) ∧ w3 = wr)
  case atStart => exact ⟨0, 1, Nat.zero_le _, rfl, rfl, rfl, by omega, rfl, rfl, rfl⟩
  case round =>
    obtain ⟨k, m, hk, hg, rfl, rfl, hm, hc, ha, rfl⟩ := hrel
    have HG := Lib.hid hg; clear hg
    have hmI : (m : Int) ≤ 2000001 := by omega
    by_cases hlt : k < n
    · obtain ⟨s, hs⟩ : ∃ s, l[k]? = some s := ⟨_, List.getElem?_eq_getElem (by rw [HN.out]; exact hlt)⟩
      obtain ⟨g, off, rfl, hg, hcell⟩ := hl3.get hs
      have hz : (s.size : Int) ≤ 1048576 := by have := hsz.out s (List.mem_of_getElem? hs); have := HZ.out; omega
      have HS := Lib.hid hs; clear hs
      have hv := fun w => refValid_any s (by omega) w
      cases htr : isTree s with
      | true =>
        rw [htr] at hv
        have hms : Hid (min (lcount (l.take (k + 1))) 2000001 = min (m + 1 + s.size) 2000001) := by
          show _ = _
          rw [take_snoc' _ _ _ HS.out, lcount_snoc, hc.out]
          have : min s.size 2000000 = s.size := by omega
          omega
        have HT := Lib.hid htr; clear htr
        have hmin : min ((m : Int) + 1 + s.size) 2000001 = ((min (m + 1 + s.size) 2000001 : Nat) : Int) := by omega
        go_wp2_with fail
        refine (hv _).mono ?_
        rintro e w' ⟨rfl, rfl⟩
        go_wp2
        go_roundg (n - (k + 1))
        case measure => rw [HG.out]; omega
        case rel => exact ⟨k + 1, min (m + 1 + s.size) 2000001, by omega, rfl, by go_num, by go_num, by omega, hms.out.symm, allTree_snoc ha.out HS.out HT.out, rfl⟩
      | false =>
        rw [htr] at hv
        obtain ⟨e2, e1⟩ := allTree_bad HS.out htr
        rw [H1.out] at e1; rw [H2.out] at e2
        subst e1 e2
        clear htr
        go_wp2_with fail
        refine (hv _).mono ?_
        rintro e w' ⟨rfl, rfl⟩
        go_wp2_with fail
        refine (awake01 _).mono ?_
        rintro e w4 ⟨rfl, k4⟩
        have c4 := c3.trans (k4.mono c3.size)
        go_wp2
        go_ret
        exact ⟨rfl, c4⟩
    · have hall : Hid (allTree l = true) := by have := ha.out; rwa [List.take_of_length_le (by rw [HN.out]; omega)] at this
      have hcm : Hid (m = min (lcount l) 2000001) := by have := hc.out; rwa [List.take_of_length_le (by rw [HN.out]; omega)] at this
      by_cases hbig : 2000000 < m
      · obtain ⟨e2, e1⟩ := listE_all hall.out (by have := hcm.out; omega)
        rw [H1.out] at e1; rw [H2.out] at e2
        subst e1 e2
        have hbI : ¬ (m : Int) ≤ 2000000 := by omega
        go_wp2_with fail
        refine (awake01 _).mono ?_
        rintro e w4 ⟨rfl, k4⟩
        have c4 := c3.trans (k4.mono c3.size)
        go_wp2
        go_ret
        exact ⟨rfl, c4⟩
      · obtain ⟨e2, e1⟩ := listE_ok hall.out (by have := hcm.out; omega)
        have hbI : (m : Int) ≤ 2000000 := by omega
        rw [H1.out] at e1; rw [H2.out] at e2
        rw [← e1] at kr
        subst e2
        have hrr : (r1.toList == r1.toList) = true := by simp
        have hl4 := hl3.mono c3.size
        clear e1
        go_wp2_with fail
        refine (kr _ hl4).mono ?_
        rintro e w4 ⟨rfl, k4⟩
        have c4 := c3.trans (k4.mono c3.size)
        clear k4
        go_wp2_with fail
        refine (awake01 _).mono ?_
        rintro e w5 ⟨rfl, k5⟩
        have c5 := c4.trans (k5.mono c4.size)
        go_wp2
        go_ret
        exact ⟨rfl, c5⟩

end Go.Proofs.Ytieocihlkpipmaa

/- The walk of TreeItems. -/
import Derived.Test.YtieocihlkpipmaaLaw01e
namespace Go.Proofs.Ytieocihlkpipmaa
open Go.RowKit

theorem list_cases (l : List ByteArray) : (listE l = 1 ∧ listS l = ⟨#[]⟩) ∨ (listE l = 3 ∧ listS l = ⟨#[]⟩) ∨ (listE l = 0 ∧ ∃ t : Tr, t.size ≤ 2000000 ∧ listS l = TS t ∧ t.items.map TS = l) := by
  cases ha : allTree l with
  | false => exact .inl ⟨by unfold listE; rw [ha]; rfl, by unfold listS; rw [ha]; rfl⟩
  | true =>
    by_cases hc : lcount l ≤ 2000000
    · obtain ⟨ts, rfl, hts⟩ := allTree_get ha
      have hsz : (Tr.ofList ts).size ≤ 2000000 := by rw [← lcount_TS ts hts]; exact hc
      have h := listS_TS ts hts hsz
      exact .inr (.inr ⟨h.2, Tr.ofList ts, hsz, h.1, by rw [Tr.items_ofList]⟩)
    · exact .inr (.inl (listE_all ha (by omega)))
theorem list_items (t : Tr) (ht : t.size ≤ 2000000) : listS (t.items.map TS) = TS t ∧ listE (t.items.map TS) = 0 := by
  have h := listS_TS t.items (fun u hu => Nat.le_trans (items_size_le t u hu) ht) (by rw [Tr.ofList_items]; exact ht)
  rwa [Tr.ofList_items] at h
theorem list_of_items (t : Tr) (ht : t.size ≤ 2000000) (v : Value) (w : World) (hl : StrRow w w.heap.size v (t.items.map TS)) :
    Calls Try.prog 34 #[v] w fun e w' => e = .returned (.tuple #[.string (TS t), .int .i64 0]) ∧ Below w.heap.size w w' := by
  have h := list_any v _ w hl (by have := items_length_le t; rw [List.length_map]; omega)
  rwa [(list_items t ht).1, (list_items t ht).2] at h

set_option maxHeartbeats 4000000 in
set_option maxRecDepth 20000 in
theorem items_v1 (w : World) (t : Tr) (ht : t.size ≤ 2000000) (v : Value) (l : List ByteArray) (hl : StrRow w w.heap.size v l) (z : letters l ≤ 1048576) (he : listE l = 1) (he2 : listS l = ⟨#[]⟩) :
    Calls Try.prog 16 #[.string (TS t), v] w fun e w' => e = .returned (.bool true) ∧ Below w.heap.size w w' := by
  have hn : l.length ≤ 1048576 := Nat.le_trans (letters_len l) z
  have kl := fun v' w' (h : StrRow w' w'.heap.size v' l) => list_any v' l w' h (by omega)
  rw [he, he2] at kl
  clear he2
  have hsz := Lib.hid (fun s (h : s ∈ l) => letters_mem h)
  have HZ := Lib.hid z; clear z he
  have aw := fun w => awake01 w
  have v1 := fun w => refValid_at (TS t) true (by rw [TS_size]; omega) (isTree_TS t ht) w
  have i1 := fun w => items_row t ht w
  have l1 := fun v w h => list_of_items t ht v w h
  have hrr : ((TS t).toList == (TS t).toList) = true := by simp
  have hrn : (!((TS t).toList == (TS t).toList)) = false := by rw [hrr]; rfl
  clear ht
  generalize t.items.map TS = L at *
  generalize TS t = S at *
  obtain ⟨ao, cap, rfl⟩ := hl.len
  obtain ⟨n, hn'⟩ : ∃ n, l.length = n := ⟨_, rfl⟩
  rw [hn'] at hn hl ⊢
  have HN := Lib.hid hn'; clear hn'
  go_enter Try.func16, Try.ntmps16
  go_wp2_with fail
  refine (v1 _).mono ?_
  rintro e w' ⟨rfl, rfl⟩
  go_wp2_with fail
  refine (i1 _).mono ?_
  rintro e w1 ⟨vi, rfl, hr1, k1⟩
  obtain ⟨ai, ci, rfl⟩ := hr1.len
  go_wp2_with fail
  refine (l1 _ _ hr1).mono ?_
  rintro e w2 ⟨rfl, k2⟩
  have c0 := k1.trans (k2.mono k1.size)
  clear k1 k2 hr1
  have hl2 := hl.below c0
  have hs2 := copy_own (hl2.mono c0.size)
  have hb2 := c0.alloc c0.size (.cells #[] 9)
  have hown2 : (w2.alloc (.cells #[] 9)).ownsRow w2.heap.size 9 1 (.slice (some ⟨w2.heap.size, 0, none⟩) 0 0) 0 [] := World.ownsRow_lit w2 #[] 0 (Nat.le_refl _) (by decide) rfl
  rw [HN.out] at hs2
  have hsz2 := c0.size
  have hb3 : Below w2.heap.size w2 (w2.alloc (.cells #[] 9)) := (Below.refl _ _).alloc (Nat.le_refl _) _
  go_wp2_with (at_builtin; refine app_src el_str (vx := .slice ao n cap) rfl _ _ rfl rfl hown2 rfl hs2 (by intro u hu; obtain ⟨s, _, rfl⟩ := List.mem_map.1 hu; rfl) ?c2 ?c3 (by simp) hb3 (Nat.le_refl _) ?_)
  case c2 => omega
  case c3 => unfold maxLen; omega
  intro v3 w3 hown3 hb4 hg3
  have c3 := c0.trans (hb4.mono c0.size)
  have hl3 := hl.below c3
  have hrow3 : StrRow w3 w3.heap.size v3 l := StrRow.of_own (by simpa using hown3) (fun s h => by have := hsz.out s h; have := HZ.out; omega) (by rw [HN.out]; omega)
  clear hown2 hs2 hb2 hown3 hg3 hb4 hb3 hl2 c0 hsz2
  go_wp2_with fail
  refine (kl _ _ hrow3).mono ?_
  rintro e w4 ⟨rfl, k4⟩
  have c4 := c3.trans (k4.mono c3.size)
  clear k4 c3 hrow3
  have c6 := c4
  go_wp2_with fail
  refine (aw _).mono ?_
  rintro e w7 ⟨rfl, k7⟩
  have c7 := c6.trans (k7.mono c6.size)
  go_wp2
  go_ret
  exact ⟨rfl, c7⟩

set_option maxHeartbeats 4000000 in
set_option maxRecDepth 20000 in
theorem items_v3 (w : World) (t : Tr) (ht : t.size ≤ 2000000) (v : Value) (l : List ByteArray) (hl : StrRow w w.heap.size v l) (z : letters l ≤ 1048576) (he : listE l = 3) (he2 : listS l = ⟨#[]⟩) :
    Calls Try.prog 16 #[.string (TS t), v] w fun e w' => e = .returned (.bool true) ∧ Below w.heap.size w w' := by
  have hn : l.length ≤ 1048576 := Nat.le_trans (letters_len l) z
  have kl := fun v' w' (h : StrRow w' w'.heap.size v' l) => list_any v' l w' h (by omega)
  rw [he, he2] at kl
  clear he2
  have hsz := Lib.hid (fun s (h : s ∈ l) => letters_mem h)
  have HZ := Lib.hid z; clear z he
  have aw := fun w => awake01 w
  have v1 := fun w => refValid_at (TS t) true (by rw [TS_size]; omega) (isTree_TS t ht) w
  have i1 := fun w => items_row t ht w
  have l1 := fun v w h => list_of_items t ht v w h
  have hrr : ((TS t).toList == (TS t).toList) = true := by simp
  have hrn : (!((TS t).toList == (TS t).toList)) = false := by rw [hrr]; rfl
  clear ht
  generalize t.items.map TS = L at *
  generalize TS t = S at *
  obtain ⟨ao, cap, rfl⟩ := hl.len
  obtain ⟨n, hn'⟩ : ∃ n, l.length = n := ⟨_, rfl⟩
  rw [hn'] at hn hl ⊢
  have HN := Lib.hid hn'; clear hn'
  go_enter Try.func16, Try.ntmps16
  go_wp2_with fail
  refine (v1 _).mono ?_
  rintro e w' ⟨rfl, rfl⟩
  go_wp2_with fail
  refine (i1 _).mono ?_
  rintro e w1 ⟨vi, rfl, hr1, k1⟩
  obtain ⟨ai, ci, rfl⟩ := hr1.len
  go_wp2_with fail
  refine (l1 _ _ hr1).mono ?_
  rintro e w2 ⟨rfl, k2⟩
  have c0 := k1.trans (k2.mono k1.size)
  clear k1 k2 hr1
  have hl2 := hl.below c0
  have hs2 := copy_own (hl2.mono c0.size)
  have hb2 := c0.alloc c0.size (.cells #[] 9)
  have hown2 : (w2.alloc (.cells #[] 9)).ownsRow w2.heap.size 9 1 (.slice (some ⟨w2.heap.size, 0, none⟩) 0 0) 0 [] := World.ownsRow_lit w2 #[] 0 (Nat.le_refl _) (by decide) rfl
  rw [HN.out] at hs2
  have hsz2 := c0.size
  have hb3 : Below w2.heap.size w2 (w2.alloc (.cells #[] 9)) := (Below.refl _ _).alloc (Nat.le_refl _) _
  go_wp2_with (at_builtin; refine app_src el_str (vx := .slice ao n cap) rfl _ _ rfl rfl hown2 rfl hs2 (by intro u hu; obtain ⟨s, _, rfl⟩ := List.mem_map.1 hu; rfl) ?c2 ?c3 (by simp) hb3 (Nat.le_refl _) ?_)
  case c2 => omega
  case c3 => unfold maxLen; omega
  intro v3 w3 hown3 hb4 hg3
  have c3 := c0.trans (hb4.mono c0.size)
  have hl3 := hl.below c3
  have hrow3 : StrRow w3 w3.heap.size v3 l := StrRow.of_own (by simpa using hown3) (fun s h => by have := hsz.out s h; have := HZ.out; omega) (by rw [HN.out]; omega)
  clear hown2 hs2 hb2 hown3 hg3 hb4 hb3 hl2 c0 hsz2
  go_wp2_with fail
  refine (kl _ _ hrow3).mono ?_
  rintro e w4 ⟨rfl, k4⟩
  have c4 := c3.trans (k4.mono c3.size)
  clear k4 c3 hrow3
  have c6 := c4
  go_wp2_with fail
  refine (aw _).mono ?_
  rintro e w7 ⟨rfl, k7⟩
  have c7 := c6.trans (k7.mono c6.size)
  go_wp2
  go_ret
  exact ⟨rfl, c7⟩

set_option maxHeartbeats 4000000 in
set_option maxRecDepth 20000 in
theorem items_v0 (w : World) (t : Tr) (ht : t.size ≤ 2000000) (v : Value) (l : List ByteArray) (hl : StrRow w w.heap.size v l) (z : letters l ≤ 1048576) (he : listE l = 0) (u : Tr) (hu : u.size ≤ 2000000) (he2 : listS l = TS u) (hi : u.items.map TS = l) :
    Calls Try.prog 16 #[.string (TS t), v] w fun e w' => e = .returned (.bool true) ∧ Below w.heap.size w w' := by
  have hn : l.length ≤ 1048576 := Nat.le_trans (letters_len l) z
  have kl := fun v' w' (h : StrRow w' w'.heap.size v' l) => list_any v' l w' h (by omega)
  rw [he, he2] at kl
  have ki := fun w => items_row u hu w
  rw [hi] at ki
  have kq := fun v1 v2 w' B h1 h2 => same_refl v1 v2 l w' B h1 h2
  clear hi hu he2
  generalize TS u = R at *
  have hsz := Lib.hid (fun s (h : s ∈ l) => letters_mem h)
  have HZ := Lib.hid z; clear z he
  have aw := fun w => awake01 w
  have v1 := fun w => refValid_at (TS t) true (by rw [TS_size]; omega) (isTree_TS t ht) w
  have i1 := fun w => items_row t ht w
  have l1 := fun v w h => list_of_items t ht v w h
  have hrr : ((TS t).toList == (TS t).toList) = true := by simp
  have hrn : (!((TS t).toList == (TS t).toList)) = false := by rw [hrr]; rfl
  clear ht
  generalize t.items.map TS = L at *
  generalize TS t = S at *
  obtain ⟨ao, cap, rfl⟩ := hl.len
  obtain ⟨n, hn'⟩ : ∃ n, l.length = n := ⟨_, rfl⟩
  rw [hn'] at hn hl ⊢
  have HN := Lib.hid hn'; clear hn'
  go_enter Try.func16, Try.ntmps16
  go_wp2_with fail
  refine (v1 _).mono ?_
  rintro e w' ⟨rfl, rfl⟩
  go_wp2_with fail
  refine (i1 _).mono ?_
  rintro e w1 ⟨vi, rfl, hr1, k1⟩
  obtain ⟨ai, ci, rfl⟩ := hr1.len
  go_wp2_with fail
  refine (l1 _ _ hr1).mono ?_
  rintro e w2 ⟨rfl, k2⟩
  have c0 := k1.trans (k2.mono k1.size)
  clear k1 k2 hr1
  have hl2 := hl.below c0
  have hs2 := copy_own (hl2.mono c0.size)
  have hb2 := c0.alloc c0.size (.cells #[] 9)
  have hown2 : (w2.alloc (.cells #[] 9)).ownsRow w2.heap.size 9 1 (.slice (some ⟨w2.heap.size, 0, none⟩) 0 0) 0 [] := World.ownsRow_lit w2 #[] 0 (Nat.le_refl _) (by decide) rfl
  rw [HN.out] at hs2
  have hsz2 := c0.size
  have hb3 : Below w2.heap.size w2 (w2.alloc (.cells #[] 9)) := (Below.refl _ _).alloc (Nat.le_refl _) _
  go_wp2_with (at_builtin; refine app_src el_str (vx := .slice ao n cap) rfl _ _ rfl rfl hown2 rfl hs2 (by intro u hu; obtain ⟨s, _, rfl⟩ := List.mem_map.1 hu; rfl) ?c2 ?c3 (by simp) hb3 (Nat.le_refl _) ?_)
  case c2 => omega
  case c3 => unfold maxLen; omega
  intro v3 w3 hown3 hb4 hg3
  have c3 := c0.trans (hb4.mono c0.size)
  have hl3 := hl.below c3
  have hrow3 : StrRow w3 w3.heap.size v3 l := StrRow.of_own (by simpa using hown3) (fun s h => by have := hsz.out s h; have := HZ.out; omega) (by rw [HN.out]; omega)
  clear hown2 hs2 hb2 hown3 hg3 hb4 hb3 hl2 c0 hsz2
  go_wp2_with fail
  refine (kl _ _ hrow3).mono ?_
  rintro e w4 ⟨rfl, k4⟩
  have c4 := c3.trans (k4.mono c3.size)
  clear k4 c3 hrow3
  go_wp2_with fail
  refine (ki _).mono ?_
  rintro e w5 ⟨v5, rfl, hr5, k5⟩
  have c5 := c4.trans (k5.mono c4.size)
  have hl5 := (hl.below c5).mono c5.size
  obtain ⟨a5, c5', rfl⟩ := hr5.len
  clear k5 c4
  go_wp2_with fail
  refine (kq _ _ _ _ hr5 hl5).mono ?_
  rintro e w6 ⟨rfl, nq, rfl⟩
  have c6 := below_drewN c5 nq
  clear c5 hr5 hl5
  go_wp2_with fail
  refine (aw _).mono ?_
  rintro e w7 ⟨rfl, k7⟩
  have c7 := c6.trans (k7.mono c6.size)
  go_wp2
  go_ret
  exact ⟨rfl, c7⟩

set_option maxHeartbeats 4000000 in
set_option maxRecDepth 20000 in
theorem items_n1 (w : World) (s : ByteArray) (hs : s.size ≤ 140737488355328) (hf : isTree s = false) (v : Value) (l : List ByteArray) (hl : StrRow w w.heap.size v l) (z : letters l ≤ 1048576) (he : listE l = 1) (he2 : listS l = ⟨#[]⟩) :
    Calls Try.prog 16 #[.string s, v] w fun e w' => e = .returned (.bool true) ∧ Below w.heap.size w w' := by
  have hn : l.length ≤ 1048576 := Nat.le_trans (letters_len l) z
  have kl := fun v' w' (h : StrRow w' w'.heap.size v' l) => list_any v' l w' h (by omega)
  rw [he, he2] at kl
  clear he2
  have hsz := Lib.hid (fun s (h : s ∈ l) => letters_mem h)
  have HZ := Lib.hid z; clear z he
  have aw := fun w => awake01 w
  have v1 := fun w => refValid_at s false (by omega) hf w
  obtain ⟨ao, cap, rfl⟩ := hl.len
  obtain ⟨n, hn'⟩ : ∃ n, l.length = n := ⟨_, rfl⟩
  rw [hn'] at hn hl ⊢
  have HN := Lib.hid hn'; clear hn'
  go_enter Try.func16, Try.ntmps16
  go_wp2_with fail
  refine (v1 _).mono ?_
  rintro e w' ⟨rfl, rfl⟩
  obtain ⟨w2, rfl⟩ : ∃ w2, w = w2 := ⟨_, rfl⟩
  have c0 := Below.refl w.heap.size w
  have hl2 := hl.below c0
  have hs2 := copy_own (hl2.mono c0.size)
  have hb2 := c0.alloc c0.size (.cells #[] 9)
  have hown2 : (w.alloc (.cells #[] 9)).ownsRow w.heap.size 9 1 (.slice (some ⟨w.heap.size, 0, none⟩) 0 0) 0 [] := World.ownsRow_lit w #[] 0 (Nat.le_refl _) (by decide) rfl
  rw [HN.out] at hs2
  have hsz2 := c0.size
  have hb3 : Below w.heap.size w (w.alloc (.cells #[] 9)) := (Below.refl _ _).alloc (Nat.le_refl _) _
  go_wp2_with (at_builtin; refine app_src el_str (vx := .slice ao n cap) rfl _ _ rfl rfl hown2 rfl hs2 (by intro u hu; obtain ⟨s, _, rfl⟩ := List.mem_map.1 hu; rfl) ?c2 ?c3 (by simp) hb3 (Nat.le_refl _) ?_)
  case c2 => omega
  case c3 => unfold maxLen; omega
  intro v3 w3 hown3 hb4 hg3
  have c3 := c0.trans (hb4.mono c0.size)
  have hl3 := hl.below c3
  have hrow3 : StrRow w3 w3.heap.size v3 l := StrRow.of_own (by simpa using hown3) (fun s h => by have := hsz.out s h; have := HZ.out; omega) (by rw [HN.out]; omega)
  clear hown2 hs2 hb2 hown3 hg3 hb4 hb3 hl2 c0 hsz2
  go_wp2_with fail
  refine (kl _ _ hrow3).mono ?_
  rintro e w4 ⟨rfl, k4⟩
  have c4 := c3.trans (k4.mono c3.size)
  clear k4 c3 hrow3
  have c6 := c4
  go_wp2_with fail
  refine (aw _).mono ?_
  rintro e w7 ⟨rfl, k7⟩
  have c7 := c6.trans (k7.mono c6.size)
  go_wp2
  go_ret
  exact ⟨rfl, c7⟩

set_option maxHeartbeats 4000000 in
set_option maxRecDepth 20000 in
theorem items_n3 (w : World) (s : ByteArray) (hs : s.size ≤ 140737488355328) (hf : isTree s = false) (v : Value) (l : List ByteArray) (hl : StrRow w w.heap.size v l) (z : letters l ≤ 1048576) (he : listE l = 3) (he2 : listS l = ⟨#[]⟩) :
    Calls Try.prog 16 #[.string s, v] w fun e w' => e = .returned (.bool true) ∧ Below w.heap.size w w' := by
  have hn : l.length ≤ 1048576 := Nat.le_trans (letters_len l) z
  have kl := fun v' w' (h : StrRow w' w'.heap.size v' l) => list_any v' l w' h (by omega)
  rw [he, he2] at kl
  clear he2
  have hsz := Lib.hid (fun s (h : s ∈ l) => letters_mem h)
  have HZ := Lib.hid z; clear z he
  have aw := fun w => awake01 w
  have v1 := fun w => refValid_at s false (by omega) hf w
  obtain ⟨ao, cap, rfl⟩ := hl.len
  obtain ⟨n, hn'⟩ : ∃ n, l.length = n := ⟨_, rfl⟩
  rw [hn'] at hn hl ⊢
  have HN := Lib.hid hn'; clear hn'
  go_enter Try.func16, Try.ntmps16
  go_wp2_with fail
  refine (v1 _).mono ?_
  rintro e w' ⟨rfl, rfl⟩
  obtain ⟨w2, rfl⟩ : ∃ w2, w = w2 := ⟨_, rfl⟩
  have c0 := Below.refl w.heap.size w
  have hl2 := hl.below c0
  have hs2 := copy_own (hl2.mono c0.size)
  have hb2 := c0.alloc c0.size (.cells #[] 9)
  have hown2 : (w.alloc (.cells #[] 9)).ownsRow w.heap.size 9 1 (.slice (some ⟨w.heap.size, 0, none⟩) 0 0) 0 [] := World.ownsRow_lit w #[] 0 (Nat.le_refl _) (by decide) rfl
  rw [HN.out] at hs2
  have hsz2 := c0.size
  have hb3 : Below w.heap.size w (w.alloc (.cells #[] 9)) := (Below.refl _ _).alloc (Nat.le_refl _) _
  go_wp2_with (at_builtin; refine app_src el_str (vx := .slice ao n cap) rfl _ _ rfl rfl hown2 rfl hs2 (by intro u hu; obtain ⟨s, _, rfl⟩ := List.mem_map.1 hu; rfl) ?c2 ?c3 (by simp) hb3 (Nat.le_refl _) ?_)
  case c2 => omega
  case c3 => unfold maxLen; omega
  intro v3 w3 hown3 hb4 hg3
  have c3 := c0.trans (hb4.mono c0.size)
  have hl3 := hl.below c3
  have hrow3 : StrRow w3 w3.heap.size v3 l := StrRow.of_own (by simpa using hown3) (fun s h => by have := hsz.out s h; have := HZ.out; omega) (by rw [HN.out]; omega)
  clear hown2 hs2 hb2 hown3 hg3 hb4 hb3 hl2 c0 hsz2
  go_wp2_with fail
  refine (kl _ _ hrow3).mono ?_
  rintro e w4 ⟨rfl, k4⟩
  have c4 := c3.trans (k4.mono c3.size)
  clear k4 c3 hrow3
  have c6 := c4
  go_wp2_with fail
  refine (aw _).mono ?_
  rintro e w7 ⟨rfl, k7⟩
  have c7 := c6.trans (k7.mono c6.size)
  go_wp2
  go_ret
  exact ⟨rfl, c7⟩

set_option maxHeartbeats 4000000 in
set_option maxRecDepth 20000 in
theorem items_n0 (w : World) (s : ByteArray) (hs : s.size ≤ 140737488355328) (hf : isTree s = false) (v : Value) (l : List ByteArray) (hl : StrRow w w.heap.size v l) (z : letters l ≤ 1048576) (he : listE l = 0) (u : Tr) (hu : u.size ≤ 2000000) (he2 : listS l = TS u) (hi : u.items.map TS = l) :
    Calls Try.prog 16 #[.string s, v] w fun e w' => e = .returned (.bool true) ∧ Below w.heap.size w w' := by
  have hn : l.length ≤ 1048576 := Nat.le_trans (letters_len l) z
  have kl := fun v' w' (h : StrRow w' w'.heap.size v' l) => list_any v' l w' h (by omega)
  rw [he, he2] at kl
  have ki := fun w => items_row u hu w
  rw [hi] at ki
  have kq := fun v1 v2 w' B h1 h2 => same_refl v1 v2 l w' B h1 h2
  clear hi hu he2
  generalize TS u = R at *
  have hsz := Lib.hid (fun s (h : s ∈ l) => letters_mem h)
  have HZ := Lib.hid z; clear z he
  have aw := fun w => awake01 w
  have v1 := fun w => refValid_at s false (by omega) hf w
  obtain ⟨ao, cap, rfl⟩ := hl.len
  obtain ⟨n, hn'⟩ : ∃ n, l.length = n := ⟨_, rfl⟩
  rw [hn'] at hn hl ⊢
  have HN := Lib.hid hn'; clear hn'
  go_enter Try.func16, Try.ntmps16
  go_wp2_with fail
  refine (v1 _).mono ?_
  rintro e w' ⟨rfl, rfl⟩
  obtain ⟨w2, rfl⟩ : ∃ w2, w = w2 := ⟨_, rfl⟩
  have c0 := Below.refl w.heap.size w
  have hl2 := hl.below c0
  have hs2 := copy_own (hl2.mono c0.size)
  have hb2 := c0.alloc c0.size (.cells #[] 9)
  have hown2 : (w.alloc (.cells #[] 9)).ownsRow w.heap.size 9 1 (.slice (some ⟨w.heap.size, 0, none⟩) 0 0) 0 [] := World.ownsRow_lit w #[] 0 (Nat.le_refl _) (by decide) rfl
  rw [HN.out] at hs2
  have hsz2 := c0.size
  have hb3 : Below w.heap.size w (w.alloc (.cells #[] 9)) := (Below.refl _ _).alloc (Nat.le_refl _) _
  go_wp2_with (at_builtin; refine app_src el_str (vx := .slice ao n cap) rfl _ _ rfl rfl hown2 rfl hs2 (by intro u hu; obtain ⟨s, _, rfl⟩ := List.mem_map.1 hu; rfl) ?c2 ?c3 (by simp) hb3 (Nat.le_refl _) ?_)
  case c2 => omega
  case c3 => unfold maxLen; omega
  intro v3 w3 hown3 hb4 hg3
  have c3 := c0.trans (hb4.mono c0.size)
  have hl3 := hl.below c3
  have hrow3 : StrRow w3 w3.heap.size v3 l := StrRow.of_own (by simpa using hown3) (fun s h => by have := hsz.out s h; have := HZ.out; omega) (by rw [HN.out]; omega)
  clear hown2 hs2 hb2 hown3 hg3 hb4 hb3 hl2 c0 hsz2
  go_wp2_with fail
  refine (kl _ _ hrow3).mono ?_
  rintro e w4 ⟨rfl, k4⟩
  have c4 := c3.trans (k4.mono c3.size)
  clear k4 c3 hrow3
  go_wp2_with fail
  refine (ki _).mono ?_
  rintro e w5 ⟨v5, rfl, hr5, k5⟩
  have c5 := c4.trans (k5.mono c4.size)
  have hl5 := (hl.below c5).mono c5.size
  obtain ⟨a5, c5', rfl⟩ := hr5.len
  clear k5 c4
  go_wp2_with fail
  refine (kq _ _ _ _ hr5 hl5).mono ?_
  rintro e w6 ⟨rfl, nq, rfl⟩
  have c6 := below_drewN c5 nq
  clear c5 hr5 hl5
  go_wp2_with fail
  refine (aw _).mono ?_
  rintro e w7 ⟨rfl, k7⟩
  have c7 := c6.trans (k7.mono c6.size)
  go_wp2
  go_ret
  exact ⟨rfl, c7⟩


theorem law_TreeItems (w : World) (s : ByteArray) (hs : s.size ≤ 140737488355328) (v : Value) (l : List ByteArray) (hl : StrRow w w.heap.size v l) (z : letters l ≤ 1048576) :
    Calls Try.prog 16 #[.string s, v] w fun e w' => e = .returned (.bool true) ∧ Below w.heap.size w w' := by
  rcases valid_or s (by omega) with ⟨t, rfl, ht⟩ | h1
  · rcases list_cases l with ⟨a, b⟩ | ⟨a, b⟩ | ⟨a, u, hu, b, c⟩
    · exact items_v1 w t ht v l hl z a b
    · exact items_v3 w t ht v l hl z a b
    · exact items_v0 w t ht v l hl z a u hu b c
  · rcases list_cases l with ⟨a, b⟩ | ⟨a, b⟩ | ⟨a, u, hu, b, c⟩
    · exact items_n1 w s hs h1 v l hl z a b
    · exact items_n3 w s hs h1 v l hl z a b
    · exact items_n0 w s hs h1 v l hl z a u hu b c

end Go.Proofs.Ytieocihlkpipmaa

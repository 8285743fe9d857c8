/- ref05: List. -/
import Derived.Test.YtlaeljkjdfffjaaMeta2
import Derived.Test.YtlaeljkjdfffjaaMB3
import Derived.Test.YtlaeljkjdfffjaaMB4
namespace Go.Proofs.Ytlaeljkjdfffjaa
open Go.RowKit

set_option maxRecDepth 40000 in
set_option maxHeartbeats 8000000 in
theorem rlist_any {w : World} (t d : Tr) (x y : Value) (hhx : NodeP 58 w t x) (hhy : NodeP 58 w d y) (hht : t.size ≤ 2000000) (hhd : d.size ≤ 2000000) :
    Calls Try.prog 41 #[x, y] w fun e w' => ∃ g, e = .returned (.pointer (some ⟨g, 0, none⟩)) ∧ NodeP 58 w' (metaT t d) (.pointer (some ⟨g, 0, none⟩)) ∧ Below w.heap.size w w' := by
  have hx := Lib.hid hhx
  have hy := Lib.hid hhy
  have ht := Lib.hid hht
  have hd := Lib.hid hhd
  clear hhx hhy hht hhd
  have ch := Lib.hid (Below.refl w.heap.size w)
  go_enter Try.func41, Try.ntmps41
  go_wp2_with fail
  refine (rhead_any ⟨#[48]⟩ (by decide) _).mono ?_
  rintro e wb ⟨rfl, hl, hq⟩
  obtain ⟨gl, hgl⟩ : ∃ z, w.heap.size = z := ⟨_, rfl⟩
  rw [hgl] at hl ⊢
  have hcells : wb.cell? ⟨gl, 5, none⟩ = some (.int .i64 2) ∧ wb.cell? ⟨gl, 6, none⟩ = some (.int .i64 0) ∧ wb.cell? ⟨gl, 7, none⟩ = some (.int .i64 1) ∧ wb.cell? ⟨gl, 8, none⟩ = some (.int .i64 0) ∧ wb.cell? ⟨gl, 9, none⟩ = some (.string ⟨#[]⟩) ∧ wb.cell? ⟨gl, 10, none⟩ = some (.int .i64 0) ∧ wb.cell? ⟨gl, 11, none⟩ = some (.int .i64 1) ∧ wb.cell? ⟨gl, 12, none⟩ = some (.int .i64 0) ∧ wb.cell? ⟨gl, 13, none⟩ = some (.int .i64 0) ∧ wb.cell? ⟨gl, 14, none⟩ = some (.string ⟨#[48]⟩) := by
    obtain ⟨_, h2⟩ := hl.out
    rcases h2 with ⟨h3, _⟩ | ⟨g, cap, cur, h3, _, h4, _, _, _, h5⟩
    · cases h3
    · injection h3 with h3 _ _
      injection h3 with h3
      injection h3 with h3
      subst h3
      obtain ⟨c, _⟩ := block_cells h4
      have key : ∀ (j : Nat) (u : Value), (inscells (specH ⟨#[48]⟩))[j]? = some u → wb.cell? ⟨gl, j, none⟩ = some u := fun j u hu => by
        rw [c j]
        have hj := (List.getElem?_eq_some_iff.1 hu).1
        rw [← h5, List.getElem?_take] at hu
        split at hu
        · rw [← Array.getElem?_toList]; exact hu
        · cases hu
      exact ⟨key 5 _ rfl, key 6 _ rfl, key 7 _ rfl, key 8 _ rfl, key 9 _ rfl, key 10 _ rfl, key 11 _ rfl, key 12 _ rfl, key 13 _ rfl, key 14 _ rfl⟩
  have hglt : gl < wb.heap.size := by
    obtain ⟨_, h2⟩ := hl.out
    rcases h2 with ⟨h3, _⟩ | ⟨g, cap, cur, h3, _, h4, _⟩
    · cases h3
    · injection h3 with h3 _ _
      injection h3 with h3
      injection h3 with h3
      subst h3
      exact (Array.getElem?_eq_some_iff.1 h4).1

  have KC := Lib.hid (fun (w' : World) (hb : Below wb.heap.size wb w') => (show w'.cell? ⟨gl, 5, none⟩ = some (.int .i64 2) ∧ w'.cell? ⟨gl, 6, none⟩ = some (.int .i64 0) ∧ w'.cell? ⟨gl, 7, none⟩ = some (.int .i64 1) ∧ w'.cell? ⟨gl, 8, none⟩ = some (.int .i64 0) ∧ w'.cell? ⟨gl, 9, none⟩ = some (.string ⟨#[]⟩) ∧ w'.cell? ⟨gl, 10, none⟩ = some (.int .i64 0) ∧ w'.cell? ⟨gl, 11, none⟩ = some (.int .i64 1) ∧ w'.cell? ⟨gl, 12, none⟩ = some (.int .i64 0) ∧ w'.cell? ⟨gl, 13, none⟩ = some (.int .i64 0) ∧ w'.cell? ⟨gl, 14, none⟩ = some (.string ⟨#[48]⟩) from by
    obtain ⟨a0, a1, a2, a3, a4, a5, a6, a7, a8, a9⟩ := hcells
    exact ⟨(hb.cell (p := ⟨gl, 5, none⟩) hglt).trans a0, (hb.cell (p := ⟨gl, 6, none⟩) hglt).trans a1, (hb.cell (p := ⟨gl, 7, none⟩) hglt).trans a2, (hb.cell (p := ⟨gl, 8, none⟩) hglt).trans a3, (hb.cell (p := ⟨gl, 9, none⟩) hglt).trans a4, (hb.cell (p := ⟨gl, 10, none⟩) hglt).trans a5, (hb.cell (p := ⟨gl, 11, none⟩) hglt).trans a6, (hb.cell (p := ⟨gl, 12, none⟩) hglt).trans a7, (hb.cell (p := ⟨gl, 13, none⟩) hglt).trans a8, (hb.cell (p := ⟨gl, 14, none⟩) hglt).trans a9⟩))
  obtain ⟨c0, c1, c2, c3, c4, c5, c6, c7, c8, c9⟩ := hcells
  clear hglt hl
  replace hx := Lib.hid (hx.out.kept (Kept.below hq))
  replace hy := Lib.hid (hy.out.kept (Kept.below hq))
  replace ch := Lib.hid hq
  clear hq hgl
  obtain ⟨s1, hs1⟩ : ∃ z, TS putI = z := ⟨_, rfl⟩
  obtain ⟨s2, hs2⟩ : ∃ z, TS clearI = z := ⟨_, rfl⟩
  have K1 := Lib.hid (fun (w' : World) (hb : Below wb.heap.size wb w') => (show Calls Try.prog 89 #[.agg #[.int .i64 2, .int .i64 0, .int .i64 1, .int .i64 0, .string ⟨#[]⟩]] w' fun e w'' => e = .returned (.string s1) ∧ Hid (Below wb.heap.size wb w'') from (cof_cons ⟨#[]⟩ 0 (by omega) 1 (by omega) 0 (by omega) w').mono (fun e w'' h => ⟨by rw [← hs1]; exact h.1, Lib.hid (hb.trans (h.2.mono hb.size))⟩)))
  have K2 := Lib.hid (fun (w' : World) (hb : Below wb.heap.size wb w') => (show Calls Try.prog 33 #[.string s1] w' fun e w'' => ∃ q, e = .returned (.pointer q) ∧ Hid (NodeP 58 w'' putI (.pointer q)) ∧ Hid (Below wb.heap.size wb w'') from by
    rw [← hs1]
    refine (read_ok putI (by decide +kernel) w').mono ?_
    rintro e w'' ⟨q, h1, h2, h3⟩
    exact ⟨q, h1, Lib.hid h2, Lib.hid (hb.trans (h3.mono hb.size))⟩))
  have K3 := Lib.hid (fun (w' : World) (hb : Below wb.heap.size wb w') => (show Calls Try.prog 89 #[.agg #[.int .i64 0, .int .i64 1, .int .i64 0, .int .i64 0, .string ⟨#[48]⟩]] w' fun e w'' => e = .returned (.string s2) ∧ Hid (Below w'.heap.size w' w'') ∧ Hid (Below wb.heap.size wb w'') from (cof_set 0 0 ⟨#[48]⟩ 1 (by omega) .nil rfl (by decide) w').mono (fun e w'' h => ⟨by rw [← hs2]; exact h.1, Lib.hid h.2, Lib.hid (hb.trans (h.2.mono hb.size))⟩)))
  have K4 := Lib.hid (fun (w' : World) (hb : Below wb.heap.size wb w') => (show Calls Try.prog 33 #[.string s2] w' fun e w'' => ∃ q, e = .returned (.pointer q) ∧ Hid (NodeP 58 w'' clearI (.pointer q)) ∧ Hid (Below w'.heap.size w' w'') ∧ Hid (Below wb.heap.size wb w'') from by
    rw [← hs2]
    refine (read_ok clearI (by decide +kernel) w').mono ?_
    rintro e w'' ⟨q, h1, h2, h3⟩
    exact ⟨q, h1, Lib.hid h2, Lib.hid h3, Lib.hid (hb.trans (h3.mono hb.size))⟩))
  have K5 := Lib.hid (fun (w' : World) (q : Value) (h0 : NodeP 58 w' clearI q) (hb : Below wb.heap.size wb w') => (show Calls Try.prog 93 #[q, x] w' fun e w'' => ∃ g, e = .returned (.pointer (some ⟨g, 0, none⟩)) ∧ Hid (NodeP 58 w'' (.pair clearI t) (.pointer (some ⟨g, 0, none⟩))) ∧ Hid (Below w'.heap.size w' w'') ∧ Hid (Below wb.heap.size wb w'') from by
    refine (rcons_at h0 (hx.out.kept (Kept.below hb)) (by rw [clearI_size]; omega) (by have := ht.out; omega)).mono ?_
    rintro e w'' ⟨g, h1, h2, h3⟩
    exact ⟨g, h1, Lib.hid h2, Lib.hid h3, Lib.hid (hb.trans (h3.mono hb.size))⟩))
  have K6 := Lib.hid (fun (w' : World) (q v : Value) (h0 : NodeP 58 w' putI q) (h4 : NodeP 58 w' (.pair clearI t) v) (hb : Below wb.heap.size wb w') => (show Calls Try.prog 93 #[q, v] w' fun e w'' => ∃ g, e = .returned (.pointer (some ⟨g, 0, none⟩)) ∧ Hid (NodeP 58 w'' (.pair putI (.pair clearI t)) (.pointer (some ⟨g, 0, none⟩))) ∧ Hid (Below wb.heap.size wb w'') from by
    refine (rcons_at h0 h4 (by rw [putI_size]; omega) (by simp only [Tr.size, clearI_size]; have := ht.out; omega)).mono ?_
    rintro e w'' ⟨g, h1, h2, h3⟩
    exact ⟨g, h1, Lib.hid h2, Lib.hid (hb.trans (h3.mono hb.size))⟩))
  clear hs1 hs2
  go_wp2_with fail
  go_region_held3 (fun w' => w'.cell? ⟨gl, 5, none⟩ = some (.int .i64 2) ∧ w'.cell? ⟨gl, 6, none⟩ = some (.int .i64 0) ∧ w'.cell? ⟨gl, 7, none⟩ = some (.int .i64 1) ∧ w'.cell? ⟨gl, 8, none⟩ = some (.int .i64 0) ∧ w'.cell? ⟨gl, 9, none⟩ = some (.string ⟨#[]⟩) ∧ w'.cell? ⟨gl, 10, none⟩ = some (.int .i64 0) ∧ w'.cell? ⟨gl, 11, none⟩ = some (.int .i64 1) ∧ w'.cell? ⟨gl, 12, none⟩ = some (.int .i64 0) ∧ w'.cell? ⟨gl, 13, none⟩ = some (.int .i64 0) ∧ w'.cell? ⟨gl, 14, none⟩ = some (.string ⟨#[48]⟩))
    (with_reducible (first | exact KC.out _ hW6.out | exact KC.out _ hW5.out | exact KC.out _ hW4.out | exact KC.out _ hW3.out | exact KC.out _ hW2.out | exact KC.out _ hW1.out | exact KC.out _ (Below.refl _ _) | exact KC.out _ (Below.refl _ _).drew | fail "keep"))
    ((first
      | ((with_reducible refine (K6.out _ _ _ (((hN1.out.kept (Kept.below hB3.out)).kept (Kept.below hB4.out)).kept (Kept.below hB5.out)) hN3.out hW5.out).mono ?_); rintro e w6 ⟨g6, rfl, hN4, hW6⟩)
      | ((with_reducible refine (K5.out _ _ hN2.out hW4.out).mono ?_); rintro e w5 ⟨g5, rfl, hN3, hB5, hW5⟩)
      | ((with_reducible refine (K4.out _ hW3.out).mono ?_); rintro e w4 ⟨q4, rfl, hN2, hB4, hW4⟩)
      | ((with_reducible refine (K3.out _ hW2.out).mono ?_); rintro e w3 ⟨rfl, hB3, hW3⟩)
      | ((with_reducible refine (K2.out _ hW1.out).mono ?_); rintro e w2 ⟨q2, rfl, hN1, hW2⟩)
      | ((with_reducible refine (K1.out _ (by first | exact Below.refl _ _ | exact (Below.refl _ _).drew)).mono ?_); rintro e w1 ⟨rfl, hW1⟩)
      | (fail "arm")))
  all_goals (
    replace hy := Lib.hid (hy.out.kept (Kept.below hW6.out))
    replace ch := Lib.hid (ch.out.trans (hW6.out.mono ch.out.size))
    clear K1 K2 K3 K4 K5 K6 KC
    try clear hN1 hN2 hN3 hB3 hB4 hB5 hW1 hW2 hW3 hW4 hW5
    clear hW6
    go_wp2_with fail
    refine (rnum_at 1 1 rfl (by omega) _ _ (Below.refl _ _)).mono ?_
    rintro e w7 ⟨rfl, hq⟩
    replace hy := Lib.hid (hy.out.kept (Kept.below hq))
    replace hN4 := Lib.hid (hN4.out.kept (Kept.below hq))
    replace ch := Lib.hid (ch.out.trans (hq.mono ch.out.size))
    clear hq
    go_wp2_with fail
    refine (read_ok (.num 1) (by decide) _).mono ?_
    rintro e w8 ⟨q8, rfl, hN5, hq⟩
    replace hy := Lib.hid (hy.out.kept (Kept.below hq))
    replace hN4 := Lib.hid (hN4.out.kept (Kept.below hq))
    replace ch := Lib.hid (ch.out.trans (hq.mono ch.out.size))
    clear hq
    replace hN5 := Lib.hid hN5
    go_wp2_with fail
    refine (rcons_at hN5.out hy.out (by decide) (by have := hd.out; omega)).mono ?_
    rintro e w9 ⟨g9, rfl, hN6, hq⟩
    replace hy := Lib.hid (hy.out.kept (Kept.below hq))
    replace hN4 := Lib.hid (hN4.out.kept (Kept.below hq))
    replace hN5 := Lib.hid (hN5.out.kept (Kept.below hq))
    replace ch := Lib.hid (ch.out.trans (hq.mono ch.out.size))
    clear hq
    replace hN6 := Lib.hid hN6
    go_wp2_with fail
    refine (rcons_at (a := .nil) (x := .pointer none) rfl hN6.out (by decide) (by simp only [Tr.size]; have := hd.out; have h1 : (Tr.num 1).size = 3 := rfl; omega)).mono ?_
    rintro e w10 ⟨g10, rfl, hN7, hq⟩
    replace hy := Lib.hid (hy.out.kept (Kept.below hq))
    replace hN4 := Lib.hid (hN4.out.kept (Kept.below hq))
    replace hN5 := Lib.hid (hN5.out.kept (Kept.below hq))
    replace hN6 := Lib.hid (hN6.out.kept (Kept.below hq))
    replace ch := Lib.hid (ch.out.trans (hq.mono ch.out.size))
    clear hq
    replace hN7 := Lib.hid hN7
    go_wp2_with fail
    refine (rcons_at hN7.out hN4.out (by simp only [Tr.size]; have := hd.out; have h1 : (Tr.num 1).size = 3 := rfl; omega) (by simp only [Tr.size, clearI_size, putI_size]; have := ht.out; omega)).mono ?_
    rintro e w11 ⟨g11, rfl, hN8, hq⟩
    replace hy := Lib.hid (hy.out.kept (Kept.below hq))
    replace hN4 := Lib.hid (hN4.out.kept (Kept.below hq))
    replace hN5 := Lib.hid (hN5.out.kept (Kept.below hq))
    replace hN6 := Lib.hid (hN6.out.kept (Kept.below hq))
    replace hN7 := Lib.hid (hN7.out.kept (Kept.below hq))
    replace ch := Lib.hid (ch.out.trans (hq.mono ch.out.size))
    clear hq
    replace hN8 := Lib.hid hN8
    go_wp2
    go_ret
    exact ⟨g11, rfl, hN8.out, ch.out⟩)
end Go.Proofs.Ytlaeljkjdfffjaa


/- narcissustop.code. -/
import Derived.Test.YtlaeljkjdfffjaaMB3
import Derived.Test.YtlaeljkjdfffjaaKnowFit
namespace Go.Proofs.Ytlaeljkjdfffjaa
open Go.RowKit

theorem tnum_neg (i : Int) (hi : i ≤ 0) (w : World) : Calls Try.prog 49 #[.int .i64 i] w fun e w' => ∃ p, e = .returned (.pointer p) ∧ NodeP 102 w' .nil (.pointer p) ∧ Below w.heap.size w w' := by
  go_enter Try.func49, Try.ntmps49
  go_wp2
  go_loopg [3, 4] 0 (fun gg c i wr => gg = 0 ∧ c = .pointer none ∧ i = .int .i64 0 ∧ w = wr)
  case atStart => exact ⟨rfl, rfl, rfl, rfl⟩
  case round =>
    obtain ⟨-, rfl, rfl, rfl⟩ := hrel
    go_wp2
    go_ret
    exact ⟨none, rfl, rfl, Below.refl _ _⟩
theorem codeT_drop (l : List Ins) : ∀ j, (codeT (l.drop j)).size ≤ (codeT l).size := by
  induction l with
  | nil => intro j; simp
  | cons x l ih =>
    intro j
    cases j with
    | zero => exact Nat.le_refl _
    | succ j =>
      have h1 := ih j
      have h2 : (codeT (x :: l)).size = 1 + (insT x).size + (codeT l).size := rfl
      rw [List.drop_succ_cons, h2]; omega
set_option maxRecDepth 20000 in
set_option maxHeartbeats 16000000 in
theorem tcode_any (v : Value) (l : List Ins) (w : World) (hl : InsRow w w.heap.size v l) (hv : validB l = true) (hz : codeN l ≤ 2000000) :
    Calls Try.prog 21 #[v] w fun e w' => ∃ p, e = .returned (.pointer p) ∧ NodeP 102 w' (codeT l) (.pointer p) ∧ Below w.heap.size w w' := by
  have hn4 := validB_len hv
  have HV := Lib.hid (validB_all hv)
  have hsz := Lib.hid (fun j => (show (codeT (l.drop j)).size ≤ 2000000 by have := codeT_drop l j; rw [codeT_size hv] at this; omega))
  obtain ⟨ao, cap, rfl⟩ := hl.len
  obtain ⟨n, hn'⟩ : ∃ n, l.length = n := ⟨_, rfl⟩
  rw [hn'] at hl hn4 ⊢
  have HN := Lib.hid hn'
  have hlw := Lib.hid hl
  have hnI : (n : Int) ≤ 4000 := by omega
  clear hn' hl hv hz
  go_enter Try.func21, Try.ntmps21
  go_wp2
  go_loopg [3, 4] n (fun gg c i wr => ∃ (j : Nat) (p : Option Addr), j ≤ n ∧ gg = j ∧ c = .pointer p ∧ i = .int .i64 ((j : Int) - 1) ∧ Hid (NodeP 102 wr (codeT (l.drop j)) (.pointer p)) ∧ Below w.heap.size w wr)
  case atStart => exact ⟨n, none, by omega, rfl, rfl, rfl, Lib.hid (by rw [List.drop_eq_nil_of_le (by rw [HN.out]; exact Nat.le_refl _)]; rfl), Below.refl _ _⟩
  case round =>
    obtain ⟨j, pc, hj, hg, rfl, hi, hC, hbw⟩ := hrel
    have HG := Lib.hid hg
    clear hg
    cases j with
    | zero =>
      rw [show (((0 : Nat) : Int) - 1) = -1 from rfl] at hi
      subst hi
      have hC2 := Lib.hid (show NodeP 102 wr (codeT l) (.pointer pc) from hC.out)
      clear hC
      go_wp2
      go_ret
      exact ⟨pc, rfl, hC2.out, hbw⟩
    | succ q =>
      rw [show (((q + 1 : Nat) : Int) - 1) = (q : Int) from by omega] at hi
      subst hi
      obtain ⟨⟨op, xa, xb, xc, tree⟩, hx⟩ : ∃ s, l[q]? = some s := ⟨_, List.getElem?_eq_getElem (by rw [HN.out]; omega)⟩
      have hl2 := hlw.out.below hbw
      obtain ⟨pg, off, rfl, hpg, p0, p1, p2, p3, p4⟩ := hl2.get hx
      have hts := (hl2.wf hx).2.2.2.2
      have hr := rightAll_get HV.out hx
      obtain ⟨ra, hra, ra32, hbc⟩ := right_nats hr
      have hopc := right_op hr
      have HR := Lib.hid hr
      have hdrop : l.drop q = ⟨op, xa, xb, xc, tree⟩ :: l.drop (q + 1) := by
        have := (List.getElem?_eq_some_iff.1 hx)
        obtain ⟨h1, h2⟩ := this
        rw [← h2]
        exact List.drop_eq_getElem_cons h1
      have hi0 : (0 : Int) ≤ (q : Int) := Int.natCast_nonneg _
      have hi1 : (q : Int) < (n : Int) := by omega
      simp only at hra hbc hopc p0 p1 p2 p3 p4 hts
      subst hra
      have HBC := Lib.hid hbc
      have HTS := Lib.hid hts
      have HD := Lib.hid hdrop
      have hsq := hsz.out q
      rw [hdrop] at hsq
      have hsi : (Tr.pair (insT ⟨op, (ra : Nat), xb, xc, tree⟩) (codeT (l.drop (q + 1)))).size ≤ 2000000 := hsq
      have HSI := Lib.hid (show (insT ⟨op, (ra : Nat), xb, xc, tree⟩).size ≤ 2000000 ∧ (codeT (l.drop (q + 1))).size ≤ 2000000 by simp only [Tr.size] at hsi; omega)
      have hbW0 := Lib.hid ((Below.refl wr.heap.size wr).alloc (Nat.le_refl _) (.cells #[.int .i64 op, .int .i64 (ra : Nat), .int .i64 xb, .int .i64 xc, .string tree] 41))
      have hbox := Lib.hid (heap_alloc_new wr (.cells #[.int .i64 op, .int .i64 (ra : Nat), .int .i64 xb, .int .i64 xc, .string tree] 41))
      have HBW := Lib.hid hbw
      have hC := Lib.hid (hC.out.kept (Kept.below hbW0.out))
      clear hl2 hr hbc hts hdrop hsq hsi hx hbw hj
      rcases hopc with hop | hop | hop | hop | hop | hop
      · subst hop
        have htr : isTree tree = true := by
          have hr := HR.out
          unfold rightB at hr
          rw [if_pos rfl] at hr
          simp only [Bool.and_eq_true] at hr
          exact hr.2.2
        have hgb : growB tree 2000000 = true := by
          unfold growB
          rw [htr, Bool.true_and]
          unfold isTree at htr
          simp only [Bool.and_eq_true] at htr
          exact htr.1
        have HGT := Lib.hid hgb
        have kg := Lib.hid (fun w => tgrow_any tree HTS.out 2000000 (by omega) w)
        clear htr hgb HBC HTS
        go_wp2_with fail
        obtain ⟨W1, hW1⟩ : ∃ B, wr.alloc (.cells #[.int .i64 0, .int .i64 (ra : Nat), .int .i64 xb, .int .i64 xc, .string tree] 41) = B := ⟨_, rfl⟩
        rw [hW1] at hbW0 hbox hC ⊢
        clear hW1
        have hlt1 := Lib.hid (show wr.heap.size < W1.heap.size from (Array.getElem?_eq_some_iff.1 hbox.out).1)
        have KK := Lib.hid (fun (w' : World) (hb : Below W1.heap.size W1 w') => (show w'.cell? ⟨wr.heap.size, 0, none⟩ = some (.int .i64 0) ∧ w'.cell? ⟨wr.heap.size, 1, none⟩ = some (.int .i64 (ra : Nat)) ∧ w'.cell? ⟨wr.heap.size, 2, none⟩ = some (.int .i64 xb) ∧ w'.cell? ⟨wr.heap.size, 3, none⟩ = some (.int .i64 xc) ∧ w'.cell? ⟨wr.heap.size, 4, none⟩ = some (.string tree) from by
          have bx := (block_cells hbox.out).1
          exact ⟨(hb.cell (p := ⟨wr.heap.size, 0, none⟩) hlt1.out).trans (bx 0), (hb.cell (p := ⟨wr.heap.size, 1, none⟩) hlt1.out).trans (bx 1), (hb.cell (p := ⟨wr.heap.size, 2, none⟩) hlt1.out).trans (bx 2), (hb.cell (p := ⟨wr.heap.size, 3, none⟩) hlt1.out).trans (bx 3), (hb.cell (p := ⟨wr.heap.size, 4, none⟩) hlt1.out).trans (bx 4)⟩))
        clear hbox
        refine (kg.out _).mono ?_
        rintro e W2 ⟨p2, rfl, hR2, -, hb2⟩
        rw [HGT.out]
        have HREST := Lib.hid (hR2 HGT.out)
        have CW := Lib.hid hb2
        have HCC := Lib.hid (hC.out.kept (Kept.below hb2))
        clear hR2 hb2 kg hC
        obtain ⟨c0x, c1x, c2x, c3x, c4x⟩ := KK.out W2 CW.out
        have hrest := HREST.out
        have hcc := HCC.out
        have KZ := Lib.hid (fun (w' : World) (hb : Below W2.heap.size W2 w') => KK.out w' (CW.out.trans (hb.mono CW.out.size)))
        have hin : insT ⟨0, (ra : Nat), xb, xc, tree⟩ = .pair (.num 0) (.pair (.num ra) (toTr tree)) := by unfold insT bodyT; simp
        have hsi := HSI.out
        rw [hin] at hsi
        have HIN := Lib.hid hin
        have HS1 := Lib.hid (show (toTr tree : Tr).size ≤ 2000000 ∧ (Tr.pair (.num ra) (toTr tree)).size ≤ 2000000 ∧ (Tr.pair (.num 0) (.pair (.num ra) (toTr tree))).size ≤ 2000000 ∧ (codeT (l.drop (q + 1))).size ≤ 2000000 ∧ (Tr.num 0).size ≤ 2000000 ∧ (Tr.num ra).size ≤ 2000000 by have h1 := hsi.1; have h2 := hsi.2; refine ⟨?_, ?_, h1, h2, ?_, ?_⟩ <;> simp only [Tr.size] at h1 ⊢ <;> omega)
        clear hin hsi
        generalize hWZ : W2 = WZ at *
        clear hWZ
        go_wp2
        go_region_held3 (fun w' => w'.cell? ⟨wr.heap.size, 0, none⟩ = some (.int .i64 0) ∧ w'.cell? ⟨wr.heap.size, 1, none⟩ = some (.int .i64 (ra : Nat)) ∧ w'.cell? ⟨wr.heap.size, 2, none⟩ = some (.int .i64 xb) ∧ w'.cell? ⟨wr.heap.size, 3, none⟩ = some (.int .i64 xc) ∧ w'.cell? ⟨wr.heap.size, 4, none⟩ = some (.string tree))
          (with_reducible (first | exact KZ.out _ c7 | exact KZ.out _ c7.drew | exact KZ.out _ c6 | exact KZ.out _ c6.drew | exact KZ.out _ c5 | exact KZ.out _ c5.drew | exact KZ.out _ c4 | exact KZ.out _ c4.drew | exact KZ.out _ c3 | exact KZ.out _ c3.drew | exact KZ.out _ c2 | exact KZ.out _ c2.drew | exact KZ.out _ (Below.refl _ _) | exact KZ.out _ (Below.refl _ _).drew | fail "keep"))
          ((first | ((with_reducible refine (tnum_at 0 0 rfl (by omega) _).mono ?_); rintro e v2 ⟨p2, rfl, h2, hb2⟩; have d2 : Below WZ.heap.size WZ v2 := (by first | exact hb2 | exact below_of_drew hb2); have c2 : Below WZ.heap.size WZ v2 := d2; have hrest := hrest.kept (Kept.below d2); have hcc := hcc.kept (Kept.below d2)) | ((with_reducible refine (tnum_at (ra : Int) ra rfl (by omega) _).mono ?_); rintro e v3 ⟨p3, rfl, h3, hb3⟩; have d3 : Below v2.heap.size v2 v3 := (by first | exact hb3 | exact below_of_drew hb3); have c3 : Below WZ.heap.size WZ v3 := c2.trans (d3.mono c2.size); have hrest := hrest.kept (Kept.below d3); have hcc := hcc.kept (Kept.below d3); have h2 := h2.kept (Kept.below d3)) | ((with_reducible refine (tpair_ok (.num ra) (toTr tree) _ _ _ (by first | exact h3 | exact h3.kept (Kept.drew (Kept.refl _ _))) (by first | exact hrest | exact hrest.kept (Kept.drew (Kept.refl _ _))) (by have := HS1.out; omega) (by have := HS1.out; omega)).mono ?_); rintro e v4 ⟨p4, rfl, h4, hb4⟩; have d4 : Below v3.heap.size v3 v4 := (by first | exact hb4 | exact below_of_drew hb4); have c4 : Below WZ.heap.size WZ v4 := c3.trans (d4.mono c3.size); have hcc := hcc.kept (Kept.below d4); have h2 := h2.kept (Kept.below d4)) | ((with_reducible refine (tpair_ok (.num 0) (.pair (.num ra) (toTr tree)) _ _ _ (by first | exact h2 | exact h2.kept (Kept.drew (Kept.refl _ _))) (by first | exact h4 | exact h4.kept (Kept.drew (Kept.refl _ _))) (by have := HS1.out; omega) (by have := HS1.out; omega)).mono ?_); rintro e v5 ⟨p5, rfl, h5, hb5⟩; have d5 : Below v4.heap.size v4 v5 := (by first | exact hb5 | exact below_of_drew hb5); have c5 : Below WZ.heap.size WZ v5 := c4.trans (d5.mono c4.size); have hcc := hcc.kept (Kept.below d5)) | ((with_reducible refine (tpair_ok (.pair (.num 0) (.pair (.num ra) (toTr tree))) (codeT (l.drop (q + 1))) _ _ _ (by first | exact h5 | exact h5.kept (Kept.drew (Kept.refl _ _))) (by first | exact hcc | exact hcc.kept (Kept.drew (Kept.refl _ _))) (by have := HS1.out; omega) (by have := HS1.out; omega)).mono ?_); rintro e v6 ⟨p6, rfl, h6, hb6⟩; have d6 : Below v5.heap.size v5 v6 := (by first | exact hb6 | exact below_of_drew hb6); have c6 : Below WZ.heap.size WZ v6 := c5.trans (d6.mono c5.size)) | (fail "arm")))
        all_goals (
          have HP6 := Lib.hid (show NodeP 102 v6 (codeT (l.drop q)) (.pointer (some p6)) from by rw [HD.out]; show NodeP _ _ (.pair (insT _) _) _; rw [HIN.out]; exact h6)
          have HB6 := Lib.hid (HBW.out.trans ((hbW0.out.trans ((CW.out.trans (c6.mono CW.out.size)).mono hbW0.out.size)).mono HBW.out.size))
          clear h6 c0x c1x c2x c3x c4x KZ hb6 d6 c6
          go_wp2
          go_roundg q
          case measure => rw [HG.out]; omega
          case rel => exact ⟨q, some p6, by omega, rfl, rfl, by go_num, HP6, HB6.out⟩)
      · subst hop
        obtain ⟨rb, rc, hb, hc, rb32, rc32⟩ := HBC.out (by decide)
        subst hb
        clear HBC HTS hc
        go_wp2_with fail
        obtain ⟨W1, hW1⟩ : ∃ B, wr.alloc (.cells #[.int .i64 1, .int .i64 (ra : Nat), .int .i64 (rb : Nat), .int .i64 xc, .string tree] 41) = B := ⟨_, rfl⟩
        rw [hW1] at hbW0 hbox hC ⊢
        clear hW1
        have hlt1 := Lib.hid (show wr.heap.size < W1.heap.size from (Array.getElem?_eq_some_iff.1 hbox.out).1)
        have KK := Lib.hid (fun (w' : World) (hb : Below W1.heap.size W1 w') => (show w'.cell? ⟨wr.heap.size, 0, none⟩ = some (.int .i64 1) ∧ w'.cell? ⟨wr.heap.size, 1, none⟩ = some (.int .i64 (ra : Nat)) ∧ w'.cell? ⟨wr.heap.size, 2, none⟩ = some (.int .i64 (rb : Nat)) ∧ w'.cell? ⟨wr.heap.size, 3, none⟩ = some (.int .i64 xc) ∧ w'.cell? ⟨wr.heap.size, 4, none⟩ = some (.string tree) from by
          have bx := (block_cells hbox.out).1
          exact ⟨(hb.cell (p := ⟨wr.heap.size, 0, none⟩) hlt1.out).trans (bx 0), (hb.cell (p := ⟨wr.heap.size, 1, none⟩) hlt1.out).trans (bx 1), (hb.cell (p := ⟨wr.heap.size, 2, none⟩) hlt1.out).trans (bx 2), (hb.cell (p := ⟨wr.heap.size, 3, none⟩) hlt1.out).trans (bx 3), (hb.cell (p := ⟨wr.heap.size, 4, none⟩) hlt1.out).trans (bx 4)⟩))
        clear hbox
        refine (tnum_at (rb : Int) rb rfl (by omega) _).mono ?_
        rintro e W2 ⟨p2, rfl, hR2, hb2⟩
        have HREST := Lib.hid hR2
        have CW := Lib.hid hb2
        have HCC := Lib.hid (hC.out.kept (Kept.below hb2))
        clear hR2 hb2 hC
        obtain ⟨c0x, c1x, c2x, c3x, c4x⟩ := KK.out W2 CW.out
        have hrest := HREST.out
        have hcc := HCC.out
        have KZ := Lib.hid (fun (w' : World) (hb : Below W2.heap.size W2 w') => KK.out w' (CW.out.trans (hb.mono CW.out.size)))
        have hin : insT ⟨1, (ra : Nat), (rb : Nat), xc, tree⟩ = .pair (.num 1) (.pair (.num ra) (.num rb)) := by unfold insT bodyT; simp
        have hsi := HSI.out
        rw [hin] at hsi
        have HIN := Lib.hid hin
        have HS1 := Lib.hid (show (.num rb : Tr).size ≤ 2000000 ∧ (Tr.pair (.num ra) (.num rb)).size ≤ 2000000 ∧ (Tr.pair (.num 1) (.pair (.num ra) (.num rb))).size ≤ 2000000 ∧ (codeT (l.drop (q + 1))).size ≤ 2000000 ∧ (Tr.num 1).size ≤ 2000000 ∧ (Tr.num ra).size ≤ 2000000 by have h1 := hsi.1; have h2 := hsi.2; refine ⟨?_, ?_, h1, h2, ?_, ?_⟩ <;> simp only [Tr.size] at h1 ⊢ <;> omega)
        clear hin hsi
        generalize hWZ : W2 = WZ at *
        clear hWZ
        go_wp2
        go_region_held3 (fun w' => w'.cell? ⟨wr.heap.size, 0, none⟩ = some (.int .i64 1) ∧ w'.cell? ⟨wr.heap.size, 1, none⟩ = some (.int .i64 (ra : Nat)) ∧ w'.cell? ⟨wr.heap.size, 2, none⟩ = some (.int .i64 (rb : Nat)) ∧ w'.cell? ⟨wr.heap.size, 3, none⟩ = some (.int .i64 xc) ∧ w'.cell? ⟨wr.heap.size, 4, none⟩ = some (.string tree))
          (with_reducible (first | exact KZ.out _ c7 | exact KZ.out _ c7.drew | exact KZ.out _ c6 | exact KZ.out _ c6.drew | exact KZ.out _ c5 | exact KZ.out _ c5.drew | exact KZ.out _ c4 | exact KZ.out _ c4.drew | exact KZ.out _ c3 | exact KZ.out _ c3.drew | exact KZ.out _ c2 | exact KZ.out _ c2.drew | exact KZ.out _ (Below.refl _ _) | exact KZ.out _ (Below.refl _ _).drew | fail "keep"))
          ((first | ((with_reducible refine (tnum_at 1 1 rfl (by omega) _).mono ?_); rintro e v2 ⟨p2, rfl, h2, hb2⟩; have d2 : Below WZ.heap.size WZ v2 := (by first | exact hb2 | exact below_of_drew hb2); have c2 : Below WZ.heap.size WZ v2 := d2; have hrest := hrest.kept (Kept.below d2); have hcc := hcc.kept (Kept.below d2)) | ((with_reducible refine (tnum_at (ra : Int) ra rfl (by omega) _).mono ?_); rintro e v3 ⟨p3, rfl, h3, hb3⟩; have d3 : Below v2.heap.size v2 v3 := (by first | exact hb3 | exact below_of_drew hb3); have c3 : Below WZ.heap.size WZ v3 := c2.trans (d3.mono c2.size); have hrest := hrest.kept (Kept.below d3); have hcc := hcc.kept (Kept.below d3); have h2 := h2.kept (Kept.below d3)) | ((with_reducible refine (tpair_ok (.num ra) (.num rb) _ _ _ (by first | exact h3 | exact h3.kept (Kept.drew (Kept.refl _ _))) (by first | exact hrest | exact hrest.kept (Kept.drew (Kept.refl _ _))) (by have := HS1.out; omega) (by have := HS1.out; omega)).mono ?_); rintro e v4 ⟨p4, rfl, h4, hb4⟩; have d4 : Below v3.heap.size v3 v4 := (by first | exact hb4 | exact below_of_drew hb4); have c4 : Below WZ.heap.size WZ v4 := c3.trans (d4.mono c3.size); have hcc := hcc.kept (Kept.below d4); have h2 := h2.kept (Kept.below d4)) | ((with_reducible refine (tpair_ok (.num 1) (.pair (.num ra) (.num rb)) _ _ _ (by first | exact h2 | exact h2.kept (Kept.drew (Kept.refl _ _))) (by first | exact h4 | exact h4.kept (Kept.drew (Kept.refl _ _))) (by have := HS1.out; omega) (by have := HS1.out; omega)).mono ?_); rintro e v5 ⟨p5, rfl, h5, hb5⟩; have d5 : Below v4.heap.size v4 v5 := (by first | exact hb5 | exact below_of_drew hb5); have c5 : Below WZ.heap.size WZ v5 := c4.trans (d5.mono c4.size); have hcc := hcc.kept (Kept.below d5)) | ((with_reducible refine (tpair_ok (.pair (.num 1) (.pair (.num ra) (.num rb))) (codeT (l.drop (q + 1))) _ _ _ (by first | exact h5 | exact h5.kept (Kept.drew (Kept.refl _ _))) (by first | exact hcc | exact hcc.kept (Kept.drew (Kept.refl _ _))) (by have := HS1.out; omega) (by have := HS1.out; omega)).mono ?_); rintro e v6 ⟨p6, rfl, h6, hb6⟩; have d6 : Below v5.heap.size v5 v6 := (by first | exact hb6 | exact below_of_drew hb6); have c6 : Below WZ.heap.size WZ v6 := c5.trans (d6.mono c5.size)) | (fail "arm")))
        all_goals (
          have HP6 := Lib.hid (show NodeP 102 v6 (codeT (l.drop q)) (.pointer (some p6)) from by rw [HD.out]; show NodeP _ _ (.pair (insT _) _) _; rw [HIN.out]; exact h6)
          have HB6 := Lib.hid (HBW.out.trans ((hbW0.out.trans ((CW.out.trans (c6.mono CW.out.size)).mono hbW0.out.size)).mono HBW.out.size))
          clear h6 c0x c1x c2x c3x c4x KZ hb6 d6 c6
          go_wp2
          go_roundg q
          case measure => rw [HG.out]; omega
          case rel => exact ⟨q, some p6, by omega, rfl, rfl, by go_num, HP6, HB6.out⟩)
      · subst hop
        obtain ⟨rb, rc, hb, hc, rb32, rc32⟩ := HBC.out (by decide)
        subst hb
        subst hc
        clear HBC HTS
        go_wp2
        obtain ⟨W1, hW1⟩ : ∃ B, wr.alloc (.cells #[.int .i64 2, .int .i64 (ra : Nat), .int .i64 (rb : Nat), .int .i64 (rc : Nat), .string tree] 41) = B := ⟨_, rfl⟩
        rw [hW1] at hbW0 hbox hC ⊢
        clear hW1
        have hlt1 := Lib.hid (show wr.heap.size < W1.heap.size from (Array.getElem?_eq_some_iff.1 hbox.out).1)
        have KK := Lib.hid (fun (w' : World) (hb : Below W1.heap.size W1 w') => (show w'.cell? ⟨wr.heap.size, 0, none⟩ = some (.int .i64 2) ∧ w'.cell? ⟨wr.heap.size, 1, none⟩ = some (.int .i64 (ra : Nat)) ∧ w'.cell? ⟨wr.heap.size, 2, none⟩ = some (.int .i64 (rb : Nat)) ∧ w'.cell? ⟨wr.heap.size, 3, none⟩ = some (.int .i64 (rc : Nat)) ∧ w'.cell? ⟨wr.heap.size, 4, none⟩ = some (.string tree) from by
          have bx := (block_cells hbox.out).1
          exact ⟨(hb.cell (p := ⟨wr.heap.size, 0, none⟩) hlt1.out).trans (bx 0), (hb.cell (p := ⟨wr.heap.size, 1, none⟩) hlt1.out).trans (bx 1), (hb.cell (p := ⟨wr.heap.size, 2, none⟩) hlt1.out).trans (bx 2), (hb.cell (p := ⟨wr.heap.size, 3, none⟩) hlt1.out).trans (bx 3), (hb.cell (p := ⟨wr.heap.size, 4, none⟩) hlt1.out).trans (bx 4)⟩))
        clear hbox
        have CW := Lib.hid (Below.refl W1.heap.size W1)
        obtain ⟨c0x, c1x, c2x, c3x, c4x⟩ := KK.out W1 CW.out
        have KZ := Lib.hid (fun (w' : World) (hb : Below W1.heap.size W1 w') => KK.out w' hb)
        have hzb : (Tr.num rb).size ≤ 100 := by rw [size_num]; omega
        have hzc : (Tr.num rc).size ≤ 100 := by rw [size_num]; omega
        have HZB := Lib.hid hzb
        have HZC := Lib.hid hzc
        clear hzb hzc
        go_region_held3 (fun w' => w'.cell? ⟨wr.heap.size, 0, none⟩ = some (.int .i64 2) ∧ w'.cell? ⟨wr.heap.size, 1, none⟩ = some (.int .i64 (ra : Nat)) ∧ w'.cell? ⟨wr.heap.size, 2, none⟩ = some (.int .i64 (rb : Nat)) ∧ w'.cell? ⟨wr.heap.size, 3, none⟩ = some (.int .i64 (rc : Nat)) ∧ w'.cell? ⟨wr.heap.size, 4, none⟩ = some (.string tree))
          (with_reducible (first | exact KZ.out _ c7 | exact KZ.out _ c7.drew | exact KZ.out _ c6 | exact KZ.out _ c6.drew | exact KZ.out _ c5 | exact KZ.out _ c5.drew | exact KZ.out _ c4 | exact KZ.out _ c4.drew | exact KZ.out _ c3 | exact KZ.out _ c3.drew | exact KZ.out _ c2 | exact KZ.out _ c2.drew | exact KZ.out _ (Below.refl _ _) | exact KZ.out _ (Below.refl _ _).drew | fail "keep"))
          ((first | ((with_reducible refine (tnum_at (rb : Int) rb rfl (by omega) _).mono ?_); rintro e v2 ⟨p2, rfl, h2, hb2⟩; have d2 : Below W1.heap.size W1 v2 := (by first | exact hb2 | exact below_of_drew hb2); have c2 : Below W1.heap.size W1 v2 := d2) | ((with_reducible refine (tnum_at (rc : Int) rc rfl (by omega) _).mono ?_); rintro e v3 ⟨p3, rfl, h3, hb3⟩; have d3 : Below v2.heap.size v2 v3 := (by first | exact hb3 | exact below_of_drew hb3); have c3 : Below W1.heap.size W1 v3 := c2.trans (d3.mono c2.size); have h2 := h2.kept (Kept.below d3)) | ((with_reducible refine (tpair_ok (.num rb) (.num rc) _ _ _ (by first | exact h2 | exact h2.kept (Kept.drew (Kept.refl _ _))) (by first | exact h3 | exact h3.kept (Kept.drew (Kept.refl _ _))) (by have := HZB.out; omega) (by have := HZC.out; omega)).mono ?_); rintro e v4 ⟨p4, rfl, h4, hb4⟩; have d4 : Below v3.heap.size v3 v4 := (by first | exact hb4 | exact below_of_drew hb4); have c4 : Below W1.heap.size W1 v4 := c3.trans (d4.mono c3.size)) | (fail "arm")))
        all_goals (
          have HREST := Lib.hid h4
          have HCC := Lib.hid (hC.out.kept (Kept.below c4))
          have CW := Lib.hid c4
          clear h4 c4 hb4 d4 KZ c0x c1x c2x c3x c4x
          obtain ⟨c0x, c1x, c2x, c3x, c4x⟩ := KK.out v4 CW.out
          have hrest := HREST.out
          have hcc := HCC.out
          have KZ := Lib.hid (fun (w' : World) (hb : Below v4.heap.size v4 w') => KK.out w' (CW.out.trans (hb.mono CW.out.size)))
          have hin : insT ⟨2, (ra : Nat), (rb : Nat), (rc : Nat), tree⟩ = .pair (.num 2) (.pair (.num ra) (.pair (.num rb) (.num rc))) := by unfold insT bodyT; simp
          have hsi := HSI.out
          rw [hin] at hsi
          have HIN := Lib.hid hin
          have HS1 := Lib.hid (show (.pair (.num rb) (.num rc) : Tr).size ≤ 2000000 ∧ (Tr.pair (.num ra) (.pair (.num rb) (.num rc))).size ≤ 2000000 ∧ (Tr.pair (.num 2) (.pair (.num ra) (.pair (.num rb) (.num rc)))).size ≤ 2000000 ∧ (codeT (l.drop (q + 1))).size ≤ 2000000 ∧ (Tr.num 2).size ≤ 2000000 ∧ (Tr.num ra).size ≤ 2000000 by have h1 := hsi.1; have h2 := hsi.2; refine ⟨?_, ?_, h1, h2, ?_, ?_⟩ <;> simp only [Tr.size] at h1 ⊢ <;> omega)
          clear hin hsi
          generalize hWZ : v4 = WZ at *
          clear hWZ
          go_wp2
          go_region_held3 (fun w' => w'.cell? ⟨wr.heap.size, 0, none⟩ = some (.int .i64 2) ∧ w'.cell? ⟨wr.heap.size, 1, none⟩ = some (.int .i64 (ra : Nat)) ∧ w'.cell? ⟨wr.heap.size, 2, none⟩ = some (.int .i64 (rb : Nat)) ∧ w'.cell? ⟨wr.heap.size, 3, none⟩ = some (.int .i64 (rc : Nat)) ∧ w'.cell? ⟨wr.heap.size, 4, none⟩ = some (.string tree))
            (with_reducible (first | exact KZ.out _ c7 | exact KZ.out _ c7.drew | exact KZ.out _ c6 | exact KZ.out _ c6.drew | exact KZ.out _ c5 | exact KZ.out _ c5.drew | exact KZ.out _ c4 | exact KZ.out _ c4.drew | exact KZ.out _ c3 | exact KZ.out _ c3.drew | exact KZ.out _ c2 | exact KZ.out _ c2.drew | exact KZ.out _ (Below.refl _ _) | exact KZ.out _ (Below.refl _ _).drew | fail "keep"))
            ((first | ((with_reducible refine (tnum_at 2 2 rfl (by omega) _).mono ?_); rintro e v2 ⟨p2, rfl, h2, hb2⟩; have d2 : Below WZ.heap.size WZ v2 := (by first | exact hb2 | exact below_of_drew hb2); have c2 : Below WZ.heap.size WZ v2 := d2; have hrest := hrest.kept (Kept.below d2); have hcc := hcc.kept (Kept.below d2)) | ((with_reducible refine (tnum_at (ra : Int) ra rfl (by omega) _).mono ?_); rintro e v3 ⟨p3, rfl, h3, hb3⟩; have d3 : Below v2.heap.size v2 v3 := (by first | exact hb3 | exact below_of_drew hb3); have c3 : Below WZ.heap.size WZ v3 := c2.trans (d3.mono c2.size); have hrest := hrest.kept (Kept.below d3); have hcc := hcc.kept (Kept.below d3); have h2 := h2.kept (Kept.below d3)) | ((with_reducible refine (tpair_ok (.num ra) (.pair (.num rb) (.num rc)) _ _ _ (by first | exact h3 | exact h3.kept (Kept.drew (Kept.refl _ _))) (by first | exact hrest | exact hrest.kept (Kept.drew (Kept.refl _ _))) (by have := HS1.out; omega) (by have := HS1.out; omega)).mono ?_); rintro e v4 ⟨p4, rfl, h4, hb4⟩; have d4 : Below v3.heap.size v3 v4 := (by first | exact hb4 | exact below_of_drew hb4); have c4 : Below WZ.heap.size WZ v4 := c3.trans (d4.mono c3.size); have hcc := hcc.kept (Kept.below d4); have h2 := h2.kept (Kept.below d4)) | ((with_reducible refine (tpair_ok (.num 2) (.pair (.num ra) (.pair (.num rb) (.num rc))) _ _ _ (by first | exact h2 | exact h2.kept (Kept.drew (Kept.refl _ _))) (by first | exact h4 | exact h4.kept (Kept.drew (Kept.refl _ _))) (by have := HS1.out; omega) (by have := HS1.out; omega)).mono ?_); rintro e v5 ⟨p5, rfl, h5, hb5⟩; have d5 : Below v4.heap.size v4 v5 := (by first | exact hb5 | exact below_of_drew hb5); have c5 : Below WZ.heap.size WZ v5 := c4.trans (d5.mono c4.size); have hcc := hcc.kept (Kept.below d5)) | ((with_reducible refine (tpair_ok (.pair (.num 2) (.pair (.num ra) (.pair (.num rb) (.num rc)))) (codeT (l.drop (q + 1))) _ _ _ (by first | exact h5 | exact h5.kept (Kept.drew (Kept.refl _ _))) (by first | exact hcc | exact hcc.kept (Kept.drew (Kept.refl _ _))) (by have := HS1.out; omega) (by have := HS1.out; omega)).mono ?_); rintro e v6 ⟨p6, rfl, h6, hb6⟩; have d6 : Below v5.heap.size v5 v6 := (by first | exact hb6 | exact below_of_drew hb6); have c6 : Below WZ.heap.size WZ v6 := c5.trans (d6.mono c5.size)) | (fail "arm")))
          all_goals (
            have HP6 := Lib.hid (show NodeP 102 v6 (codeT (l.drop q)) (.pointer (some p6)) from by rw [HD.out]; show NodeP _ _ (.pair (insT _) _) _; rw [HIN.out]; exact h6)
            have HB6 := Lib.hid (HBW.out.trans ((hbW0.out.trans ((CW.out.trans (c6.mono CW.out.size)).mono hbW0.out.size)).mono HBW.out.size))
            clear h6 c0x c1x c2x c3x c4x KZ hb6 d6 c6
            go_wp2
            go_roundg q
            case measure => rw [HG.out]; omega
            case rel => exact ⟨q, some p6, by omega, rfl, rfl, by go_num, HP6, HB6.out⟩))
      · subst hop
        obtain ⟨rb, rc, hb, hc, rb32, rc32⟩ := HBC.out (by decide)
        subst hb
        clear HBC HTS hc
        go_wp2_with fail
        obtain ⟨W1, hW1⟩ : ∃ B, wr.alloc (.cells #[.int .i64 3, .int .i64 (ra : Nat), .int .i64 (rb : Nat), .int .i64 xc, .string tree] 41) = B := ⟨_, rfl⟩
        rw [hW1] at hbW0 hbox hC ⊢
        clear hW1
        have hlt1 := Lib.hid (show wr.heap.size < W1.heap.size from (Array.getElem?_eq_some_iff.1 hbox.out).1)
        have KK := Lib.hid (fun (w' : World) (hb : Below W1.heap.size W1 w') => (show w'.cell? ⟨wr.heap.size, 0, none⟩ = some (.int .i64 3) ∧ w'.cell? ⟨wr.heap.size, 1, none⟩ = some (.int .i64 (ra : Nat)) ∧ w'.cell? ⟨wr.heap.size, 2, none⟩ = some (.int .i64 (rb : Nat)) ∧ w'.cell? ⟨wr.heap.size, 3, none⟩ = some (.int .i64 xc) ∧ w'.cell? ⟨wr.heap.size, 4, none⟩ = some (.string tree) from by
          have bx := (block_cells hbox.out).1
          exact ⟨(hb.cell (p := ⟨wr.heap.size, 0, none⟩) hlt1.out).trans (bx 0), (hb.cell (p := ⟨wr.heap.size, 1, none⟩) hlt1.out).trans (bx 1), (hb.cell (p := ⟨wr.heap.size, 2, none⟩) hlt1.out).trans (bx 2), (hb.cell (p := ⟨wr.heap.size, 3, none⟩) hlt1.out).trans (bx 3), (hb.cell (p := ⟨wr.heap.size, 4, none⟩) hlt1.out).trans (bx 4)⟩))
        clear hbox
        refine (tnum_at (rb : Int) rb rfl (by omega) _).mono ?_
        rintro e W2 ⟨p2, rfl, hR2, hb2⟩
        have HREST := Lib.hid hR2
        have CW := Lib.hid hb2
        have HCC := Lib.hid (hC.out.kept (Kept.below hb2))
        clear hR2 hb2 hC
        obtain ⟨c0x, c1x, c2x, c3x, c4x⟩ := KK.out W2 CW.out
        have hrest := HREST.out
        have hcc := HCC.out
        have KZ := Lib.hid (fun (w' : World) (hb : Below W2.heap.size W2 w') => KK.out w' (CW.out.trans (hb.mono CW.out.size)))
        have hin : insT ⟨3, (ra : Nat), (rb : Nat), xc, tree⟩ = .pair (.num 3) (.pair (.num ra) (.num rb)) := by unfold insT bodyT; simp
        have hsi := HSI.out
        rw [hin] at hsi
        have HIN := Lib.hid hin
        have HS1 := Lib.hid (show (.num rb : Tr).size ≤ 2000000 ∧ (Tr.pair (.num ra) (.num rb)).size ≤ 2000000 ∧ (Tr.pair (.num 3) (.pair (.num ra) (.num rb))).size ≤ 2000000 ∧ (codeT (l.drop (q + 1))).size ≤ 2000000 ∧ (Tr.num 3).size ≤ 2000000 ∧ (Tr.num ra).size ≤ 2000000 by have h1 := hsi.1; have h2 := hsi.2; refine ⟨?_, ?_, h1, h2, ?_, ?_⟩ <;> simp only [Tr.size] at h1 ⊢ <;> omega)
        clear hin hsi
        generalize hWZ : W2 = WZ at *
        clear hWZ
        go_wp2
        go_region_held3 (fun w' => w'.cell? ⟨wr.heap.size, 0, none⟩ = some (.int .i64 3) ∧ w'.cell? ⟨wr.heap.size, 1, none⟩ = some (.int .i64 (ra : Nat)) ∧ w'.cell? ⟨wr.heap.size, 2, none⟩ = some (.int .i64 (rb : Nat)) ∧ w'.cell? ⟨wr.heap.size, 3, none⟩ = some (.int .i64 xc) ∧ w'.cell? ⟨wr.heap.size, 4, none⟩ = some (.string tree))
          (with_reducible (first | exact KZ.out _ c7 | exact KZ.out _ c7.drew | exact KZ.out _ c6 | exact KZ.out _ c6.drew | exact KZ.out _ c5 | exact KZ.out _ c5.drew | exact KZ.out _ c4 | exact KZ.out _ c4.drew | exact KZ.out _ c3 | exact KZ.out _ c3.drew | exact KZ.out _ c2 | exact KZ.out _ c2.drew | exact KZ.out _ (Below.refl _ _) | exact KZ.out _ (Below.refl _ _).drew | fail "keep"))
          ((first | ((with_reducible refine (tnum_at 3 3 rfl (by omega) _).mono ?_); rintro e v2 ⟨p2, rfl, h2, hb2⟩; have d2 : Below WZ.heap.size WZ v2 := (by first | exact hb2 | exact below_of_drew hb2); have c2 : Below WZ.heap.size WZ v2 := d2; have hrest := hrest.kept (Kept.below d2); have hcc := hcc.kept (Kept.below d2)) | ((with_reducible refine (tnum_at (ra : Int) ra rfl (by omega) _).mono ?_); rintro e v3 ⟨p3, rfl, h3, hb3⟩; have d3 : Below v2.heap.size v2 v3 := (by first | exact hb3 | exact below_of_drew hb3); have c3 : Below WZ.heap.size WZ v3 := c2.trans (d3.mono c2.size); have hrest := hrest.kept (Kept.below d3); have hcc := hcc.kept (Kept.below d3); have h2 := h2.kept (Kept.below d3)) | ((with_reducible refine (tpair_ok (.num ra) (.num rb) _ _ _ (by first | exact h3 | exact h3.kept (Kept.drew (Kept.refl _ _))) (by first | exact hrest | exact hrest.kept (Kept.drew (Kept.refl _ _))) (by have := HS1.out; omega) (by have := HS1.out; omega)).mono ?_); rintro e v4 ⟨p4, rfl, h4, hb4⟩; have d4 : Below v3.heap.size v3 v4 := (by first | exact hb4 | exact below_of_drew hb4); have c4 : Below WZ.heap.size WZ v4 := c3.trans (d4.mono c3.size); have hcc := hcc.kept (Kept.below d4); have h2 := h2.kept (Kept.below d4)) | ((with_reducible refine (tpair_ok (.num 3) (.pair (.num ra) (.num rb)) _ _ _ (by first | exact h2 | exact h2.kept (Kept.drew (Kept.refl _ _))) (by first | exact h4 | exact h4.kept (Kept.drew (Kept.refl _ _))) (by have := HS1.out; omega) (by have := HS1.out; omega)).mono ?_); rintro e v5 ⟨p5, rfl, h5, hb5⟩; have d5 : Below v4.heap.size v4 v5 := (by first | exact hb5 | exact below_of_drew hb5); have c5 : Below WZ.heap.size WZ v5 := c4.trans (d5.mono c4.size); have hcc := hcc.kept (Kept.below d5)) | ((with_reducible refine (tpair_ok (.pair (.num 3) (.pair (.num ra) (.num rb))) (codeT (l.drop (q + 1))) _ _ _ (by first | exact h5 | exact h5.kept (Kept.drew (Kept.refl _ _))) (by first | exact hcc | exact hcc.kept (Kept.drew (Kept.refl _ _))) (by have := HS1.out; omega) (by have := HS1.out; omega)).mono ?_); rintro e v6 ⟨p6, rfl, h6, hb6⟩; have d6 : Below v5.heap.size v5 v6 := (by first | exact hb6 | exact below_of_drew hb6); have c6 : Below WZ.heap.size WZ v6 := c5.trans (d6.mono c5.size)) | (fail "arm")))
        all_goals (
          have HP6 := Lib.hid (show NodeP 102 v6 (codeT (l.drop q)) (.pointer (some p6)) from by rw [HD.out]; show NodeP _ _ (.pair (insT _) _) _; rw [HIN.out]; exact h6)
          have HB6 := Lib.hid (HBW.out.trans ((hbW0.out.trans ((CW.out.trans (c6.mono CW.out.size)).mono hbW0.out.size)).mono HBW.out.size))
          clear h6 c0x c1x c2x c3x c4x KZ hb6 d6 c6
          go_wp2
          go_roundg q
          case measure => rw [HG.out]; omega
          case rel => exact ⟨q, some p6, by omega, rfl, rfl, by go_num, HP6, HB6.out⟩)
      · subst hop
        obtain ⟨rb, rc, hb, hc, rb32, rc32⟩ := HBC.out (by decide)
        subst hb
        clear HBC HTS hc
        go_wp2_with fail
        obtain ⟨W1, hW1⟩ : ∃ B, wr.alloc (.cells #[.int .i64 4, .int .i64 (ra : Nat), .int .i64 (rb : Nat), .int .i64 xc, .string tree] 41) = B := ⟨_, rfl⟩
        rw [hW1] at hbW0 hbox hC ⊢
        clear hW1
        have hlt1 := Lib.hid (show wr.heap.size < W1.heap.size from (Array.getElem?_eq_some_iff.1 hbox.out).1)
        have KK := Lib.hid (fun (w' : World) (hb : Below W1.heap.size W1 w') => (show w'.cell? ⟨wr.heap.size, 0, none⟩ = some (.int .i64 4) ∧ w'.cell? ⟨wr.heap.size, 1, none⟩ = some (.int .i64 (ra : Nat)) ∧ w'.cell? ⟨wr.heap.size, 2, none⟩ = some (.int .i64 (rb : Nat)) ∧ w'.cell? ⟨wr.heap.size, 3, none⟩ = some (.int .i64 xc) ∧ w'.cell? ⟨wr.heap.size, 4, none⟩ = some (.string tree) from by
          have bx := (block_cells hbox.out).1
          exact ⟨(hb.cell (p := ⟨wr.heap.size, 0, none⟩) hlt1.out).trans (bx 0), (hb.cell (p := ⟨wr.heap.size, 1, none⟩) hlt1.out).trans (bx 1), (hb.cell (p := ⟨wr.heap.size, 2, none⟩) hlt1.out).trans (bx 2), (hb.cell (p := ⟨wr.heap.size, 3, none⟩) hlt1.out).trans (bx 3), (hb.cell (p := ⟨wr.heap.size, 4, none⟩) hlt1.out).trans (bx 4)⟩))
        clear hbox
        refine (tnum_at (rb : Int) rb rfl (by omega) _).mono ?_
        rintro e W2 ⟨p2, rfl, hR2, hb2⟩
        have HREST := Lib.hid hR2
        have CW := Lib.hid hb2
        have HCC := Lib.hid (hC.out.kept (Kept.below hb2))
        clear hR2 hb2 hC
        obtain ⟨c0x, c1x, c2x, c3x, c4x⟩ := KK.out W2 CW.out
        have hrest := HREST.out
        have hcc := HCC.out
        have KZ := Lib.hid (fun (w' : World) (hb : Below W2.heap.size W2 w') => KK.out w' (CW.out.trans (hb.mono CW.out.size)))
        have hin : insT ⟨4, (ra : Nat), (rb : Nat), xc, tree⟩ = .pair (.num 4) (.pair (.num ra) (.num rb)) := by unfold insT bodyT; simp
        have hsi := HSI.out
        rw [hin] at hsi
        have HIN := Lib.hid hin
        have HS1 := Lib.hid (show (.num rb : Tr).size ≤ 2000000 ∧ (Tr.pair (.num ra) (.num rb)).size ≤ 2000000 ∧ (Tr.pair (.num 4) (.pair (.num ra) (.num rb))).size ≤ 2000000 ∧ (codeT (l.drop (q + 1))).size ≤ 2000000 ∧ (Tr.num 4).size ≤ 2000000 ∧ (Tr.num ra).size ≤ 2000000 by have h1 := hsi.1; have h2 := hsi.2; refine ⟨?_, ?_, h1, h2, ?_, ?_⟩ <;> simp only [Tr.size] at h1 ⊢ <;> omega)
        clear hin hsi
        generalize hWZ : W2 = WZ at *
        clear hWZ
        go_wp2
        go_region_held3 (fun w' => w'.cell? ⟨wr.heap.size, 0, none⟩ = some (.int .i64 4) ∧ w'.cell? ⟨wr.heap.size, 1, none⟩ = some (.int .i64 (ra : Nat)) ∧ w'.cell? ⟨wr.heap.size, 2, none⟩ = some (.int .i64 (rb : Nat)) ∧ w'.cell? ⟨wr.heap.size, 3, none⟩ = some (.int .i64 xc) ∧ w'.cell? ⟨wr.heap.size, 4, none⟩ = some (.string tree))
          (with_reducible (first | exact KZ.out _ c7 | exact KZ.out _ c7.drew | exact KZ.out _ c6 | exact KZ.out _ c6.drew | exact KZ.out _ c5 | exact KZ.out _ c5.drew | exact KZ.out _ c4 | exact KZ.out _ c4.drew | exact KZ.out _ c3 | exact KZ.out _ c3.drew | exact KZ.out _ c2 | exact KZ.out _ c2.drew | exact KZ.out _ (Below.refl _ _) | exact KZ.out _ (Below.refl _ _).drew | fail "keep"))
          ((first | ((with_reducible refine (tnum_at 4 4 rfl (by omega) _).mono ?_); rintro e v2 ⟨p2, rfl, h2, hb2⟩; have d2 : Below WZ.heap.size WZ v2 := (by first | exact hb2 | exact below_of_drew hb2); have c2 : Below WZ.heap.size WZ v2 := d2; have hrest := hrest.kept (Kept.below d2); have hcc := hcc.kept (Kept.below d2)) | ((with_reducible refine (tnum_at (ra : Int) ra rfl (by omega) _).mono ?_); rintro e v3 ⟨p3, rfl, h3, hb3⟩; have d3 : Below v2.heap.size v2 v3 := (by first | exact hb3 | exact below_of_drew hb3); have c3 : Below WZ.heap.size WZ v3 := c2.trans (d3.mono c2.size); have hrest := hrest.kept (Kept.below d3); have hcc := hcc.kept (Kept.below d3); have h2 := h2.kept (Kept.below d3)) | ((with_reducible refine (tpair_ok (.num ra) (.num rb) _ _ _ (by first | exact h3 | exact h3.kept (Kept.drew (Kept.refl _ _))) (by first | exact hrest | exact hrest.kept (Kept.drew (Kept.refl _ _))) (by have := HS1.out; omega) (by have := HS1.out; omega)).mono ?_); rintro e v4 ⟨p4, rfl, h4, hb4⟩; have d4 : Below v3.heap.size v3 v4 := (by first | exact hb4 | exact below_of_drew hb4); have c4 : Below WZ.heap.size WZ v4 := c3.trans (d4.mono c3.size); have hcc := hcc.kept (Kept.below d4); have h2 := h2.kept (Kept.below d4)) | ((with_reducible refine (tpair_ok (.num 4) (.pair (.num ra) (.num rb)) _ _ _ (by first | exact h2 | exact h2.kept (Kept.drew (Kept.refl _ _))) (by first | exact h4 | exact h4.kept (Kept.drew (Kept.refl _ _))) (by have := HS1.out; omega) (by have := HS1.out; omega)).mono ?_); rintro e v5 ⟨p5, rfl, h5, hb5⟩; have d5 : Below v4.heap.size v4 v5 := (by first | exact hb5 | exact below_of_drew hb5); have c5 : Below WZ.heap.size WZ v5 := c4.trans (d5.mono c4.size); have hcc := hcc.kept (Kept.below d5)) | ((with_reducible refine (tpair_ok (.pair (.num 4) (.pair (.num ra) (.num rb))) (codeT (l.drop (q + 1))) _ _ _ (by first | exact h5 | exact h5.kept (Kept.drew (Kept.refl _ _))) (by first | exact hcc | exact hcc.kept (Kept.drew (Kept.refl _ _))) (by have := HS1.out; omega) (by have := HS1.out; omega)).mono ?_); rintro e v6 ⟨p6, rfl, h6, hb6⟩; have d6 : Below v5.heap.size v5 v6 := (by first | exact hb6 | exact below_of_drew hb6); have c6 : Below WZ.heap.size WZ v6 := c5.trans (d6.mono c5.size)) | (fail "arm")))
        all_goals (
          have HP6 := Lib.hid (show NodeP 102 v6 (codeT (l.drop q)) (.pointer (some p6)) from by rw [HD.out]; show NodeP _ _ (.pair (insT _) _) _; rw [HIN.out]; exact h6)
          have HB6 := Lib.hid (HBW.out.trans ((hbW0.out.trans ((CW.out.trans (c6.mono CW.out.size)).mono hbW0.out.size)).mono HBW.out.size))
          clear h6 c0x c1x c2x c3x c4x KZ hb6 d6 c6
          go_wp2
          go_roundg q
          case measure => rw [HG.out]; omega
          case rel => exact ⟨q, some p6, by omega, rfl, rfl, by go_num, HP6, HB6.out⟩)
      · subst hop
        have hjb := right_jump HR.out rfl
        have hjb1 : -(q : Int) ≤ xb ∧ xb ≤ (n : Int) - q := by have h := hjb; rw [HN.out] at h; exact h
        clear hjb HBC HTS
        by_cases hneg : xb < 0
        · obtain ⟨m, hm⟩ : ∃ m : Nat, -xb = m := ⟨(-xb).toNat, by omega⟩
          have hm4 : m ≤ 4000 := by omega
          have HMM := Lib.hid hm
          clear hm
          go_wp2_with fail
          obtain ⟨W1, hW1⟩ : ∃ B, wr.alloc (.cells #[.int .i64 5, .int .i64 (ra : Nat), .int .i64 xb, .int .i64 xc, .string tree] 41) = B := ⟨_, rfl⟩
          rw [hW1] at hbW0 hbox hC ⊢
          clear hW1
          have hlt1 := Lib.hid (show wr.heap.size < W1.heap.size from (Array.getElem?_eq_some_iff.1 hbox.out).1)
          have KK := Lib.hid (fun (w' : World) (hb : Below W1.heap.size W1 w') => (show w'.cell? ⟨wr.heap.size, 0, none⟩ = some (.int .i64 5) ∧ w'.cell? ⟨wr.heap.size, 1, none⟩ = some (.int .i64 (ra : Nat)) ∧ w'.cell? ⟨wr.heap.size, 2, none⟩ = some (.int .i64 xb) ∧ w'.cell? ⟨wr.heap.size, 3, none⟩ = some (.int .i64 xc) ∧ w'.cell? ⟨wr.heap.size, 4, none⟩ = some (.string tree) from by
            have bx := (block_cells hbox.out).1
            exact ⟨(hb.cell (p := ⟨wr.heap.size, 0, none⟩) hlt1.out).trans (bx 0), (hb.cell (p := ⟨wr.heap.size, 1, none⟩) hlt1.out).trans (bx 1), (hb.cell (p := ⟨wr.heap.size, 2, none⟩) hlt1.out).trans (bx 2), (hb.cell (p := ⟨wr.heap.size, 3, none⟩) hlt1.out).trans (bx 3), (hb.cell (p := ⟨wr.heap.size, 4, none⟩) hlt1.out).trans (bx 4)⟩))
          clear hbox
          refine (tnum_neg xb (by omega) _).mono ?_
          rintro e W2 ⟨p2, rfl, hR2, hb2⟩
          have CW := Lib.hid hb2
          have hC2 := Lib.hid (hC.out.kept (Kept.below hb2))
          obtain ⟨c0x, c1x, c2x, c3x, c4x⟩ := KK.out W2 CW.out
          clear hb2 hC
          go_wp2_with fail
          refine (tpair_ok .nil .nil _ _ _ rfl hR2 (by decide) (by decide)).mono ?_
          rintro e W3 ⟨p3, rfl, -, hb3⟩
          have CW := Lib.hid (CW.out.trans (hb3.mono CW.out.size))
          have hC := Lib.hid (hC2.out.kept (Kept.below hb3))
          obtain ⟨c0x, c1x, c2x, c3x, c4x⟩ := KK.out W3 CW.out
          clear hb3 hC2 hR2
          have KZ := Lib.hid (fun (w' : World) (hb : Below W3.heap.size W3 w') => KK.out w' (CW.out.trans (hb.mono CW.out.size)))
          have hzm : (Tr.num m).size ≤ 10000 := by rw [size_num]; omega
          have HZM := Lib.hid hzm
          clear hzm
          go_wp2
          go_region_held3 (fun w' => w'.cell? ⟨wr.heap.size, 0, none⟩ = some (.int .i64 5) ∧ w'.cell? ⟨wr.heap.size, 1, none⟩ = some (.int .i64 (ra : Nat)) ∧ w'.cell? ⟨wr.heap.size, 2, none⟩ = some (.int .i64 xb) ∧ w'.cell? ⟨wr.heap.size, 3, none⟩ = some (.int .i64 xc) ∧ w'.cell? ⟨wr.heap.size, 4, none⟩ = some (.string tree))
            (with_reducible (first | exact KZ.out _ c7 | exact KZ.out _ c7.drew | exact KZ.out _ c6 | exact KZ.out _ c6.drew | exact KZ.out _ c5 | exact KZ.out _ c5.drew | exact KZ.out _ c4 | exact KZ.out _ c4.drew | exact KZ.out _ c3 | exact KZ.out _ c3.drew | exact KZ.out _ c2 | exact KZ.out _ c2.drew | exact KZ.out _ (Below.refl _ _) | exact KZ.out _ (Below.refl _ _).drew | fail "keep"))
            ((first | ((with_reducible refine (tnum_at 1 1 rfl (by omega) _).mono ?_); rintro e v2 ⟨p2, rfl, h2, hb2⟩; have d2 : Below W3.heap.size W3 v2 := (by first | exact hb2 | exact below_of_drew hb2); have c2 : Below W3.heap.size W3 v2 := d2) | ((with_reducible refine (tnum_at _ m (by first | exact HMM.out | (rw [IntWalk.i64_in _ (by omega)]; exact HMM.out) | (have := HMM.out; omega)) (by omega) _).mono ?_); rintro e v3 ⟨p3, rfl, h3, hb3⟩; have d3 : Below v2.heap.size v2 v3 := (by first | exact hb3 | exact below_of_drew hb3); have c3 : Below W3.heap.size W3 v3 := c2.trans (d3.mono c2.size); have h2 := h2.kept (Kept.below d3)) | ((with_reducible refine (tpair_ok (.num 1) (.num m) _ _ _ (by first | exact h2 | exact h2.kept (Kept.drew (Kept.refl _ _))) (by first | exact h3 | exact h3.kept (Kept.drew (Kept.refl _ _))) (by decide) (by have := HZM.out; omega)).mono ?_); rintro e v4 ⟨p4, rfl, h4, hb4⟩; have d4 : Below v3.heap.size v3 v4 := (by first | exact hb4 | exact below_of_drew hb4); have c4 : Below W3.heap.size W3 v4 := c3.trans (d4.mono c3.size)) | (fail "arm")))
          all_goals (
            have HREST := Lib.hid h4
            have HCC := Lib.hid (hC.out.kept (Kept.below c4))
            have CW := Lib.hid (CW.out.trans (c4.mono CW.out.size))
            clear h4 c4 hb4 d4 KZ c0x c1x c2x c3x c4x hC
            obtain ⟨c0x, c1x, c2x, c3x, c4x⟩ := KK.out v4 CW.out
            have hrest := HREST.out
            have hcc := HCC.out
            have KZ := Lib.hid (fun (w' : World) (hb : Below v4.heap.size v4 w') => KK.out w' (CW.out.trans (hb.mono CW.out.size)))
            have hin : insT ⟨5, (ra : Nat), xb, xc, tree⟩ = .pair (.num 5) (.pair (.num ra) (.pair (.num 1) (.num m))) := by unfold insT bodyT; simp only [show ¬ (5 : Int) = 0 by decide, show ¬ (5 : Int) = 2 by decide, if_false, if_true]; rw [if_pos hneg, show (-xb).toNat = m by have := HMM.out; omega]; rfl
            have hsi := HSI.out
            rw [hin] at hsi
            have HIN := Lib.hid hin
            have HS1 := Lib.hid (show (.pair (.num 1) (.num m) : Tr).size ≤ 2000000 ∧ (Tr.pair (.num ra) (.pair (.num 1) (.num m))).size ≤ 2000000 ∧ (Tr.pair (.num 5) (.pair (.num ra) (.pair (.num 1) (.num m)))).size ≤ 2000000 ∧ (codeT (l.drop (q + 1))).size ≤ 2000000 ∧ (Tr.num 5).size ≤ 2000000 ∧ (Tr.num ra).size ≤ 2000000 by have h1 := hsi.1; have h2 := hsi.2; refine ⟨?_, ?_, h1, h2, ?_, ?_⟩ <;> simp only [Tr.size] at h1 ⊢ <;> omega)
            clear hin hsi
            generalize hWZ : v4 = WZ at *
            clear hWZ
            go_wp2
            go_region_held3 (fun w' => w'.cell? ⟨wr.heap.size, 0, none⟩ = some (.int .i64 5) ∧ w'.cell? ⟨wr.heap.size, 1, none⟩ = some (.int .i64 (ra : Nat)) ∧ w'.cell? ⟨wr.heap.size, 2, none⟩ = some (.int .i64 xb) ∧ w'.cell? ⟨wr.heap.size, 3, none⟩ = some (.int .i64 xc) ∧ w'.cell? ⟨wr.heap.size, 4, none⟩ = some (.string tree))
              (with_reducible (first | exact KZ.out _ c7 | exact KZ.out _ c7.drew | exact KZ.out _ c6 | exact KZ.out _ c6.drew | exact KZ.out _ c5 | exact KZ.out _ c5.drew | exact KZ.out _ c4 | exact KZ.out _ c4.drew | exact KZ.out _ c3 | exact KZ.out _ c3.drew | exact KZ.out _ c2 | exact KZ.out _ c2.drew | exact KZ.out _ (Below.refl _ _) | exact KZ.out _ (Below.refl _ _).drew | fail "keep"))
              ((first | ((with_reducible refine (tnum_at 5 5 rfl (by omega) _).mono ?_); rintro e v2 ⟨p2, rfl, h2, hb2⟩; have d2 : Below WZ.heap.size WZ v2 := (by first | exact hb2 | exact below_of_drew hb2); have c2 : Below WZ.heap.size WZ v2 := d2; have hrest := hrest.kept (Kept.below d2); have hcc := hcc.kept (Kept.below d2)) | ((with_reducible refine (tnum_at (ra : Int) ra rfl (by omega) _).mono ?_); rintro e v3 ⟨p3, rfl, h3, hb3⟩; have d3 : Below v2.heap.size v2 v3 := (by first | exact hb3 | exact below_of_drew hb3); have c3 : Below WZ.heap.size WZ v3 := c2.trans (d3.mono c2.size); have hrest := hrest.kept (Kept.below d3); have hcc := hcc.kept (Kept.below d3); have h2 := h2.kept (Kept.below d3)) | ((with_reducible refine (tpair_ok (.num ra) (.pair (.num 1) (.num m)) _ _ _ (by first | exact h3 | exact h3.kept (Kept.drew (Kept.refl _ _))) (by first | exact hrest | exact hrest.kept (Kept.drew (Kept.refl _ _))) (by have := HS1.out; omega) (by have := HS1.out; omega)).mono ?_); rintro e v4 ⟨p4, rfl, h4, hb4⟩; have d4 : Below v3.heap.size v3 v4 := (by first | exact hb4 | exact below_of_drew hb4); have c4 : Below WZ.heap.size WZ v4 := c3.trans (d4.mono c3.size); have hcc := hcc.kept (Kept.below d4); have h2 := h2.kept (Kept.below d4)) | ((with_reducible refine (tpair_ok (.num 5) (.pair (.num ra) (.pair (.num 1) (.num m))) _ _ _ (by first | exact h2 | exact h2.kept (Kept.drew (Kept.refl _ _))) (by first | exact h4 | exact h4.kept (Kept.drew (Kept.refl _ _))) (by have := HS1.out; omega) (by have := HS1.out; omega)).mono ?_); rintro e v5 ⟨p5, rfl, h5, hb5⟩; have d5 : Below v4.heap.size v4 v5 := (by first | exact hb5 | exact below_of_drew hb5); have c5 : Below WZ.heap.size WZ v5 := c4.trans (d5.mono c4.size); have hcc := hcc.kept (Kept.below d5)) | ((with_reducible refine (tpair_ok (.pair (.num 5) (.pair (.num ra) (.pair (.num 1) (.num m)))) (codeT (l.drop (q + 1))) _ _ _ (by first | exact h5 | exact h5.kept (Kept.drew (Kept.refl _ _))) (by first | exact hcc | exact hcc.kept (Kept.drew (Kept.refl _ _))) (by have := HS1.out; omega) (by have := HS1.out; omega)).mono ?_); rintro e v6 ⟨p6, rfl, h6, hb6⟩; have d6 : Below v5.heap.size v5 v6 := (by first | exact hb6 | exact below_of_drew hb6); have c6 : Below WZ.heap.size WZ v6 := c5.trans (d6.mono c5.size)) | (fail "arm")))
            all_goals (
              have HP6 := Lib.hid (show NodeP 102 v6 (codeT (l.drop q)) (.pointer (some p6)) from by rw [HD.out]; show NodeP _ _ (.pair (insT _) _) _; rw [HIN.out]; exact h6)
              have HB6 := Lib.hid (HBW.out.trans ((hbW0.out.trans ((CW.out.trans (c6.mono CW.out.size)).mono hbW0.out.size)).mono HBW.out.size))
              clear h6 c0x c1x c2x c3x c4x KZ hb6 d6 c6
              go_wp2
              go_roundg q
              case measure => rw [HG.out]; omega
              case rel => exact ⟨q, some p6, by omega, rfl, rfl, by go_num, HP6, HB6.out⟩))
        · obtain ⟨m, hm⟩ : ∃ m : Nat, xb = m := ⟨xb.toNat, by omega⟩
          subst hm
          have hm4 : m ≤ 4000 := by omega
          go_wp2_with fail
          obtain ⟨W1, hW1⟩ : ∃ B, wr.alloc (.cells #[.int .i64 5, .int .i64 (ra : Nat), .int .i64 (m : Nat), .int .i64 xc, .string tree] 41) = B := ⟨_, rfl⟩
          rw [hW1] at hbW0 hbox hC ⊢
          clear hW1
          have hlt1 := Lib.hid (show wr.heap.size < W1.heap.size from (Array.getElem?_eq_some_iff.1 hbox.out).1)
          have KK := Lib.hid (fun (w' : World) (hb : Below W1.heap.size W1 w') => (show w'.cell? ⟨wr.heap.size, 0, none⟩ = some (.int .i64 5) ∧ w'.cell? ⟨wr.heap.size, 1, none⟩ = some (.int .i64 (ra : Nat)) ∧ w'.cell? ⟨wr.heap.size, 2, none⟩ = some (.int .i64 (m : Nat)) ∧ w'.cell? ⟨wr.heap.size, 3, none⟩ = some (.int .i64 xc) ∧ w'.cell? ⟨wr.heap.size, 4, none⟩ = some (.string tree) from by
            have bx := (block_cells hbox.out).1
            exact ⟨(hb.cell (p := ⟨wr.heap.size, 0, none⟩) hlt1.out).trans (bx 0), (hb.cell (p := ⟨wr.heap.size, 1, none⟩) hlt1.out).trans (bx 1), (hb.cell (p := ⟨wr.heap.size, 2, none⟩) hlt1.out).trans (bx 2), (hb.cell (p := ⟨wr.heap.size, 3, none⟩) hlt1.out).trans (bx 3), (hb.cell (p := ⟨wr.heap.size, 4, none⟩) hlt1.out).trans (bx 4)⟩))
          clear hbox
          refine (tnum_at (m : Int) m rfl (by omega) _).mono ?_
          rintro e W2 ⟨p2, rfl, hR2, hb2⟩
          have CW := Lib.hid hb2
          have hC2 := Lib.hid (hC.out.kept (Kept.below hb2))
          obtain ⟨c0x, c1x, c2x, c3x, c4x⟩ := KK.out W2 CW.out
          clear hb2 hC
          go_wp2_with fail
          refine (tpair_ok .nil (.num m) _ _ _ rfl hR2 (by decide) (by rw [size_num]; omega)).mono ?_
          rintro e W3 ⟨p3, rfl, hR3, hb3⟩
          have CW := Lib.hid (CW.out.trans (hb3.mono CW.out.size))
          have HCC := Lib.hid (hC2.out.kept (Kept.below hb3))
          have HREST := Lib.hid hR3
          obtain ⟨c0x, c1x, c2x, c3x, c4x⟩ := KK.out W3 CW.out
          clear hb3 hC2 hR2 hR3
          obtain ⟨c0x, c1x, c2x, c3x, c4x⟩ := KK.out W3 CW.out
          have hrest := HREST.out
          have hcc := HCC.out
          have KZ := Lib.hid (fun (w' : World) (hb : Below W3.heap.size W3 w') => KK.out w' (CW.out.trans (hb.mono CW.out.size)))
          have hin : insT ⟨5, (ra : Nat), (m : Nat), xc, tree⟩ = .pair (.num 5) (.pair (.num ra) (.pair .nil (.num m))) := by unfold insT bodyT; simp
          have hsi := HSI.out
          rw [hin] at hsi
          have HIN := Lib.hid hin
          have HS1 := Lib.hid (show (.pair .nil (.num m) : Tr).size ≤ 2000000 ∧ (Tr.pair (.num ra) (.pair .nil (.num m))).size ≤ 2000000 ∧ (Tr.pair (.num 5) (.pair (.num ra) (.pair .nil (.num m)))).size ≤ 2000000 ∧ (codeT (l.drop (q + 1))).size ≤ 2000000 ∧ (Tr.num 5).size ≤ 2000000 ∧ (Tr.num ra).size ≤ 2000000 by have h1 := hsi.1; have h2 := hsi.2; refine ⟨?_, ?_, h1, h2, ?_, ?_⟩ <;> simp only [Tr.size] at h1 ⊢ <;> omega)
          clear hin hsi
          generalize hWZ : W3 = WZ at *
          clear hWZ
          go_wp2
          go_region_held3 (fun w' => w'.cell? ⟨wr.heap.size, 0, none⟩ = some (.int .i64 5) ∧ w'.cell? ⟨wr.heap.size, 1, none⟩ = some (.int .i64 (ra : Nat)) ∧ w'.cell? ⟨wr.heap.size, 2, none⟩ = some (.int .i64 (m : Nat)) ∧ w'.cell? ⟨wr.heap.size, 3, none⟩ = some (.int .i64 xc) ∧ w'.cell? ⟨wr.heap.size, 4, none⟩ = some (.string tree))
            (with_reducible (first | exact KZ.out _ c7 | exact KZ.out _ c7.drew | exact KZ.out _ c6 | exact KZ.out _ c6.drew | exact KZ.out _ c5 | exact KZ.out _ c5.drew | exact KZ.out _ c4 | exact KZ.out _ c4.drew | exact KZ.out _ c3 | exact KZ.out _ c3.drew | exact KZ.out _ c2 | exact KZ.out _ c2.drew | exact KZ.out _ (Below.refl _ _) | exact KZ.out _ (Below.refl _ _).drew | fail "keep"))
            ((first | ((with_reducible refine (tnum_at 5 5 rfl (by omega) _).mono ?_); rintro e v2 ⟨p2, rfl, h2, hb2⟩; have d2 : Below WZ.heap.size WZ v2 := (by first | exact hb2 | exact below_of_drew hb2); have c2 : Below WZ.heap.size WZ v2 := d2; have hrest := hrest.kept (Kept.below d2); have hcc := hcc.kept (Kept.below d2)) | ((with_reducible refine (tnum_at (ra : Int) ra rfl (by omega) _).mono ?_); rintro e v3 ⟨p3, rfl, h3, hb3⟩; have d3 : Below v2.heap.size v2 v3 := (by first | exact hb3 | exact below_of_drew hb3); have c3 : Below WZ.heap.size WZ v3 := c2.trans (d3.mono c2.size); have hrest := hrest.kept (Kept.below d3); have hcc := hcc.kept (Kept.below d3); have h2 := h2.kept (Kept.below d3)) | ((with_reducible refine (tpair_ok (.num ra) (.pair .nil (.num m)) _ _ _ (by first | exact h3 | exact h3.kept (Kept.drew (Kept.refl _ _))) (by first | exact hrest | exact hrest.kept (Kept.drew (Kept.refl _ _))) (by have := HS1.out; omega) (by have := HS1.out; omega)).mono ?_); rintro e v4 ⟨p4, rfl, h4, hb4⟩; have d4 : Below v3.heap.size v3 v4 := (by first | exact hb4 | exact below_of_drew hb4); have c4 : Below WZ.heap.size WZ v4 := c3.trans (d4.mono c3.size); have hcc := hcc.kept (Kept.below d4); have h2 := h2.kept (Kept.below d4)) | ((with_reducible refine (tpair_ok (.num 5) (.pair (.num ra) (.pair .nil (.num m))) _ _ _ (by first | exact h2 | exact h2.kept (Kept.drew (Kept.refl _ _))) (by first | exact h4 | exact h4.kept (Kept.drew (Kept.refl _ _))) (by have := HS1.out; omega) (by have := HS1.out; omega)).mono ?_); rintro e v5 ⟨p5, rfl, h5, hb5⟩; have d5 : Below v4.heap.size v4 v5 := (by first | exact hb5 | exact below_of_drew hb5); have c5 : Below WZ.heap.size WZ v5 := c4.trans (d5.mono c4.size); have hcc := hcc.kept (Kept.below d5)) | ((with_reducible refine (tpair_ok (.pair (.num 5) (.pair (.num ra) (.pair .nil (.num m)))) (codeT (l.drop (q + 1))) _ _ _ (by first | exact h5 | exact h5.kept (Kept.drew (Kept.refl _ _))) (by first | exact hcc | exact hcc.kept (Kept.drew (Kept.refl _ _))) (by have := HS1.out; omega) (by have := HS1.out; omega)).mono ?_); rintro e v6 ⟨p6, rfl, h6, hb6⟩; have d6 : Below v5.heap.size v5 v6 := (by first | exact hb6 | exact below_of_drew hb6); have c6 : Below WZ.heap.size WZ v6 := c5.trans (d6.mono c5.size)) | (fail "arm")))
          all_goals (
            have HP6 := Lib.hid (show NodeP 102 v6 (codeT (l.drop q)) (.pointer (some p6)) from by rw [HD.out]; show NodeP _ _ (.pair (insT _) _) _; rw [HIN.out]; exact h6)
            have HB6 := Lib.hid (HBW.out.trans ((hbW0.out.trans ((CW.out.trans (c6.mono CW.out.size)).mono hbW0.out.size)).mono HBW.out.size))
            clear h6 c0x c1x c2x c3x c4x KZ hb6 d6 c6
            go_wp2
            go_roundg q
            case measure => rw [HG.out]; omega
            case rel => exact ⟨q, some p6, by omega, rfl, rfl, by go_num, HP6, HB6.out⟩)
end Go.Proofs.Ytlaeljkjdfffjaa


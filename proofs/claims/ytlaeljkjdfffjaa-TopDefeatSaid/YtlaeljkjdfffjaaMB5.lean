/- narcissustop: what TopDefeat meets, in plain words. narcissustop: TopDefeat. -/
import Derived.Test.YtlaeljkjdfffjaaTop9
import Derived.Test.YtlaeljkjdfffjaaDef9
import Derived.Test.YtlaeljkjdfffjaaDef6
import Derived.Test.YtlaeljkjdfffjaaTop11
namespace Go.Proofs.Ytlaeljkjdfffjaa
open Go.RowKit

theorem defQ_trees (d y n : List Ins) (w : Nat) : trees (defQ d y n w) ≤ trees d + trees y + trees n + w + 10 := by
  unfold defQ
  simp only [trees_append]
  have h1 : ∀ m, trees (cleanK m) = m := fun m => by
    induction m with
    | zero => rfl
    | succ m ih => rw [cleanK_snoc, trees_append, ih]; rfl
  rw [h1]
  have e1 : trees [⟨4, w, 0, 0, ⟨#[]⟩⟩, ⟨3, 0, 0, 0, ⟨#[]⟩⟩] = 0 := rfl
  have e2 : trees [moveI (w + 1) 0] = 0 := rfl
  have e3 : trees [moveI 0 w, jumpI (w + 1) ((y.length : Int) + 3)] = 0 := rfl
  have e4 : trees [setI (w + 1) ⟨#[49, 48, 48]⟩, jumpI (w + 1) ((n.length : Int) + 1)] = 3 := rfl
  rw [e1, e2, e3, e4]
  omega
theorem few_def {d y n : List Ins} (h : fewB [d, y, n] = true) : defE d y n = 0 ∧ codeN (defD d y n) ≤ 1900000 ∧ validB (defD d y n) = true ∧ defW d y n ≤ 28 := by
  have h0 := fewB_get h (l := d) (by simp)
  have h1 := fewB_get h (l := y) (by simp)
  have h2 := fewB_get h (l := n) (by simp)
  have hW : defW d y n ≤ 28 := by unfold defW; omega
  have hp := defW_pos d y n
  have hR : rightAll (defQ d y n (defW d y n)) = true := defQ_right (validB_all h0.1) (validB_all h1.1) (validB_all h2.1) hp (by omega)
  have hl := defQ_length d y n (defW d y n) hp
  have ht := defQ_trees d y n (defW d y n)
  have hV : validB (defQ d y n (defW d y n)) = true := fits_valid hR (by omega) (by omega)
  have hK := know_fits hR (by omega) (by omega)
  have hE : defE d y n = 0 := by
    rw [defE_know (by intro l hl; simp at hl; rcases hl with rfl | rfl | rfl <;> first | exact h0.1 | exact h1.1 | exact h2.1) (by omega) hV]
    exact hK
  have hD : defD d y n = knowL (defQ d y n (defW d y n)) := by unfold defD; rw [if_pos hE]
  refine ⟨hE, ?_, ?_, hW⟩
  · rw [hD]; exact tknow_code hR (by omega) (by omega)
  · rw [hD]; exact (knowE_facts hK).2.2.1
theorem follow_done2 {P Q : List Ins} {t : Tr} {c j : Nat} {s : St} (hf : FollowP P t Q t c) (hq : goF Q 300 0 (startS t) = .done s j) : ∃ s', goF P (j + c) 0 (startS t) = .done s' (j + c) ∧ getR s'.regs 0 = getR s.regs 0 := by
  obtain ⟨s', h1, h2⟩ := follow_done hf hq 300 (Nat.le_refl _)
  exact ⟨s', goF_exact h1, h2⟩
theorem follow_fuel2 {P Q : List Ins} {t : Tr} {c j : Nat} {s : St} (hf : FollowP P t Q t c) (hq : goF Q 300 0 (startS t) = .fuel s j) : NotD P (startS t) (300 + c) := fun s2 m2 e2 => by
  rcases hf 300 with ⟨s3, s4, m3, f1, _⟩ | ⟨s3, f1, ⟨s4, f2⟩ | f2⟩ | ⟨f1, _⟩
  · rw [hq] at f1; cases f1
  · rw [f2] at e2; cases e2
  · rw [f2] at e2; cases e2
  · rw [hq] at f1; cases f1
theorem lit3 {w : World} {u1 u2 u3 : Value} {d y n : List Ins} (h1 : InsRow w w.heap.size u1 d) (h2 : InsRow w w.heap.size u2 y) (h3 : InsRow w w.heap.size u3 n) :
    ∀ (j : Nat) (u : Value) (l : List Ins), [u1, u2, u3][j]? = some u → [d, y, n][j]? = some l → InsRow w w.heap.size u l
  | 0, _, _, hu, hl => by cases hu; cases hl; exact h1
  | 1, _, _, hu, hl => by cases hu; cases hl; exact h2
  | 2, _, _, hu, hl => by cases hu; cases hl; exact h3
  | _ + 3, _, _, hu, _ => by simp at hu
/-- The twin of a program, behind others. -/
theorem twin_far (v : Value) (l : List Ins) (hn : l.length ≤ 1000000) (W : World) (hl : InsRow W W.heap.size v l) (w : World) (hW : Below W.heap.size W w) :
    Calls Try.prog 50 #[v] w fun e w' => ∃ v', e = .returned v' ∧ Hid (∀ w2, Below w'.heap.size w' w2 → InsRow w2 w2.heap.size v' l) ∧ Below w.heap.size w w' ∧ Below W.heap.size W w' := by
  refine (ttwin_any v l hn w ((hl.below hW).mono hW.size)).mono ?_
  rintro e w' ⟨a, c, rfl, ho, hb⟩
  exact ⟨_, rfl, Lib.hid fun w2 h2 => ((ho.row (by omega)).below h2).mono h2.size, hb, hW.trans (hb.mono hW.size)⟩
theorem regs_far (v : Value) (l : List Ins) (hv : validB l = true) (R : Nat) (hR : regN l = R) (W : World) (hl : InsRow W W.heap.size v l) (w : World) (hW : Below W.heap.size W w) :
    Calls Try.prog 56 #[v] w fun e w' => e = .returned (.int .i64 R) ∧ Below W.heap.size W w' := by
  subst hR
  exact (tregs_ok v l w ((hl.below hW).mono hW.size) hv).mono fun e w' h => ⟨h.1, hW.trans (h.2.mono hW.size)⟩
end Go.Proofs.Ytlaeljkjdfffjaa

namespace Go.Proofs.Ytlaeljkjdfffjaa
open Go.RowKit

set_option maxRecDepth 20000 in
set_option maxHeartbeats 32000000 in
theorem law_TopDefeat {w : World} (vd : Value) (d : List Ins) (hhd : InsRow w w.heap.size vd d) (vy : Value) (y : List Ins) (hhy : InsRow w w.heap.size vy y) (vn : Value) (n : List Ins) (hhn : InsRow w w.heap.size vn n) (x : ByteArray) (hxs : x.size ≤ 140737488355328) :
    Calls Try.prog 13 #[vd, .agg #[vy, vn], .string x] w fun e w' => e = .returned (.bool true) ∧ Below w.heap.size w w' := by
  obtain ⟨da, dc, rfl⟩ := hhd.len
  obtain ⟨ya, yc, rfl⟩ := hhy.len
  obtain ⟨na, nc, rfl⟩ := hhn.len
  obtain ⟨dn, hdn⟩ : ∃ k, d.length = k := ⟨_, rfl⟩
  obtain ⟨yn, hyn⟩ : ∃ k, y.length = k := ⟨_, rfl⟩
  obtain ⟨nn, hnn⟩ : ∃ k, n.length = k := ⟨_, rfl⟩
  rw [hdn] at hhd ⊢
  rw [hyn] at hhy ⊢
  rw [hnn] at hhn ⊢
  have hd := Lib.hid hhd
  have hy := Lib.hid hhy
  have hn := Lib.hid hhn
  have HXS := Lib.hid hxs
  obtain ⟨bg, hbg⟩ : ∃ b, growB x 2000 = b := ⟨_, rfl⟩
  have HBG := Lib.hid hbg
  obtain ⟨bf, hbf⟩ : ∃ b, fewB [d, y, n] = b := ⟨_, rfl⟩
  have HBF := Lib.hid hbf
  have kg := Lib.hid (fun w => tgrow_any x hxs 2000 (by omega) w)
  have hba := (Below.refl w.heap.size w).alloc (Nat.le_refl _) (.cells #[.slice ya yn yc, .slice na nn nc] 77)
  have HBA := Lib.hid hba
  have hblk := heap_alloc_new w (.cells #[.slice ya yn yc, .slice na nn nc] 77)
  have HBLK := Lib.hid hblk
  clear hhd hhy hhn hdn hyn hnn hxs hbg hbf hba hblk
  cases bg with
  | false =>
    have ch := Lib.hid (Below.refl w.heap.size w)
    go_enter Try.func13, Try.ntmps13
    go_wp2_with fail
    obtain ⟨w1, hW⟩ : ∃ B, w.alloc (.cells #[.slice ya yn yc, .slice na nn nc] 77) = B := ⟨_, rfl⟩
    have hq := HBA.out
    have hbx := HBLK.out
    rw [hW] at hq hbx ⊢
    clear hW HBA HBLK
    obtain ⟨bx, hbxe⟩ : ∃ z, w.heap.size = z := ⟨_, rfl⟩
    rw [hbxe] at hbx
    try rw [hbxe]
    clear hbxe
    have HBX := Lib.hid hbx
    clear hbx
    have hd := Lib.hid ((hd.out.below hq).mono hq.size)
    have hy := Lib.hid ((hy.out.below hq).mono hq.size)
    have hn := Lib.hid ((hn.out.below hq).mono hq.size)
    have ch := Lib.hid (ch.out.trans (hq.mono ch.out.size))
    clear hq
    refine (kg.out _).mono ?_
    rintro e w2 ⟨xq, rfl, hX, -, hq⟩
    have HBX := Lib.hid (blk_lift hq HBX.out)
    have hd := Lib.hid ((hd.out.below hq).mono hq.size)
    have hy := Lib.hid ((hy.out.below hq).mono hq.size)
    have hn := Lib.hid ((hn.out.below hq).mono hq.size)
    have ch := Lib.hid (ch.out.trans (hq.mono ch.out.size))
    clear hq
    rw [HBG.out]
    clear hX
    obtain ⟨c0, hcf⟩ := block_cells HBX.out
    have d0 := c0 0
    have d1 := c0 1
    simp only [List.getElem?_toArray, List.getElem?_cons_succ, List.getElem?_cons_zero] at d0 d1
    clear c0 hcf
    go_wp2_with fail
    have hL0 := ProgsRow.lit (w := w2) [.slice da dn dc, .slice ya yn yc, .slice na nn nc] [d, y, n] rfl (by simp) (lit3 hd.out hy.out hn.out)
    obtain ⟨w3, hW⟩ : ∃ B, w2.alloc (.cells #[.slice da dn dc, .slice ya yn yc, .slice na nn nc] 23) = B := ⟨_, rfl⟩
    rw [hW]
    have hq : Below w2.heap.size w2 w3 := by rw [← hW]; exact (Below.refl _ _).alloc (Nat.le_refl _) _
    have hL := Lib.hid (show ProgsRow w3 w3.heap.size (.slice (some ⟨w2.heap.size, 0, none⟩) 3 3) [d, y, n] by rw [← hW]; exact hL0)
    clear hW hL0 d0 d1
    have HBX := Lib.hid (blk_lift hq HBX.out)
    have hd := Lib.hid ((hd.out.below hq).mono hq.size)
    have hy := Lib.hid ((hy.out.below hq).mono hq.size)
    have hn := Lib.hid ((hn.out.below hq).mono hq.size)
    have ch := Lib.hid (ch.out.trans (hq.mono ch.out.size))
    clear hq
    have kfew := Lib.hid (tfew_any _ [d, y, n] (by simp) _ hL.out)
    rw [HBF.out] at kfew
    clear hL
    refine (kfew.out).mono ?_
    rintro e w4 ⟨rfl, hq⟩
    have HBX := Lib.hid (blk_lift hq HBX.out)
    have hd := Lib.hid ((hd.out.below hq).mono hq.size)
    have hy := Lib.hid ((hy.out.below hq).mono hq.size)
    have hn := Lib.hid ((hn.out.below hq).mono hq.size)
    have ch := Lib.hid (ch.out.trans (hq.mono ch.out.size))
    clear hq
    clear kfew
    cases bf with
    | false =>
      go_wp2_with fail
      refine (defeats_any _).mono ?_
      rintro e wz ⟨rfl, hqz⟩
      go_wp2
      go_ret
      exact ⟨rfl, ch.out.trans (hqz.mono ch.out.size)⟩
    | true =>
      go_wp2_with fail
      refine (defeats_any _).mono ?_
      rintro e wz ⟨rfl, hqz⟩
      go_wp2
      go_ret
      exact ⟨rfl, ch.out.trans (hqz.mono ch.out.size)⟩
  | true =>
    have ch := Lib.hid (Below.refl w.heap.size w)
    go_enter Try.func13, Try.ntmps13
    go_wp2_with fail
    obtain ⟨w1, hW⟩ : ∃ B, w.alloc (.cells #[.slice ya yn yc, .slice na nn nc] 77) = B := ⟨_, rfl⟩
    have hq := HBA.out
    have hbx := HBLK.out
    rw [hW] at hq hbx ⊢
    clear hW HBA HBLK
    obtain ⟨bx, hbxe⟩ : ∃ z, w.heap.size = z := ⟨_, rfl⟩
    rw [hbxe] at hbx
    try rw [hbxe]
    clear hbxe
    have HBX := Lib.hid hbx
    clear hbx
    have hd := Lib.hid ((hd.out.below hq).mono hq.size)
    have hy := Lib.hid ((hy.out.below hq).mono hq.size)
    have hn := Lib.hid ((hn.out.below hq).mono hq.size)
    have ch := Lib.hid (ch.out.trans (hq.mono ch.out.size))
    clear hq
    refine (kg.out _).mono ?_
    rintro e w2 ⟨xq, rfl, hX, -, hq⟩
    have HBX := Lib.hid (blk_lift hq HBX.out)
    have hd := Lib.hid ((hd.out.below hq).mono hq.size)
    have hy := Lib.hid ((hy.out.below hq).mono hq.size)
    have hn := Lib.hid ((hn.out.below hq).mono hq.size)
    have ch := Lib.hid (ch.out.trans (hq.mono ch.out.size))
    clear hq
    rw [HBG.out]
    have hX := hX HBG.out
    have hX := Lib.hid hX
    obtain ⟨c0, hcf⟩ := block_cells HBX.out
    have d0 := c0 0
    have d1 := c0 1
    simp only [List.getElem?_toArray, List.getElem?_cons_succ, List.getElem?_cons_zero] at d0 d1
    clear c0 hcf
    go_wp2_with fail
    have hL0 := ProgsRow.lit (w := w2) [.slice da dn dc, .slice ya yn yc, .slice na nn nc] [d, y, n] rfl (by simp) (lit3 hd.out hy.out hn.out)
    obtain ⟨w3, hW⟩ : ∃ B, w2.alloc (.cells #[.slice da dn dc, .slice ya yn yc, .slice na nn nc] 23) = B := ⟨_, rfl⟩
    rw [hW]
    have hq : Below w2.heap.size w2 w3 := by rw [← hW]; exact (Below.refl _ _).alloc (Nat.le_refl _) _
    have hL := Lib.hid (show ProgsRow w3 w3.heap.size (.slice (some ⟨w2.heap.size, 0, none⟩) 3 3) [d, y, n] by rw [← hW]; exact hL0)
    clear hW hL0 d0 d1
    have HBX := Lib.hid (blk_lift hq HBX.out)
    have hX := Lib.hid (hX.out.kept (Kept.below hq))
    have hd := Lib.hid ((hd.out.below hq).mono hq.size)
    have hy := Lib.hid ((hy.out.below hq).mono hq.size)
    have hn := Lib.hid ((hn.out.below hq).mono hq.size)
    have ch := Lib.hid (ch.out.trans (hq.mono ch.out.size))
    clear hq
    have kfew := Lib.hid (tfew_any _ [d, y, n] (by simp) _ hL.out)
    rw [HBF.out] at kfew
    clear hL
    refine (kfew.out).mono ?_
    rintro e w4 ⟨rfl, hq⟩
    have HBX := Lib.hid (blk_lift hq HBX.out)
    have hX := Lib.hid (hX.out.kept (Kept.below hq))
    have hd := Lib.hid ((hd.out.below hq).mono hq.size)
    have hy := Lib.hid ((hy.out.below hq).mono hq.size)
    have hn := Lib.hid ((hn.out.below hq).mono hq.size)
    have ch := Lib.hid (ch.out.trans (hq.mono ch.out.size))
    clear hq
    clear kfew
    cases bf with
    | false =>
      go_wp2_with fail
      refine (defeats_any _).mono ?_
      rintro e wz ⟨rfl, hqz⟩
      go_wp2
      go_ret
      exact ⟨rfl, ch.out.trans (hqz.mono ch.out.size)⟩
    | true =>
      have HF := Lib.hid (few_def HBF.out)
      have hgd := Lib.hid (fewB_get HBF.out (l := d) (by simp))
      have hgy := Lib.hid (fewB_get HBF.out (l := y) (by simp))
      have hgn := Lib.hid (fewB_get HBF.out (l := n) (by simp))
      have HXT := Lib.hid (show (toTr x).size ≤ 2000 by rw [growB_size HBG.out]; exact (growB_tree HBG.out).2)
      have HXT2 := Lib.hid (show (toTr x).size ≤ 2000000 by have := HXT.out; omega)
      have HCZ := Lib.hid (show (codeT (defD d y n)).size ≤ 1900000 by rw [codeT_size HF.out.2.2.1]; exact HF.out.2.1)
      have HPZ := Lib.hid (show (Tr.pair (codeT (defD d y n)) (toTr x)).size ≤ 2000000 by have h1 := HCZ.out; have h2 := HXT.out; simp only [Tr.size]; omega)
      have hall := Lib.hid (defeat_all HF.out.1 (toTr x) HPZ.out 500)
      have hplen := Lib.hid (show (defD d y n).length ≤ 4000 from validB_len HF.out.2.2.1)
      have KTd := Lib.hid (twin_far _ d (by have := hgd.out.2.2.1; omega) w4 hd.out)
      have KTy := Lib.hid (twin_far _ y (by have := hgy.out.2.2.1; omega) w4 hy.out)
      have KTn := Lib.hid (twin_far _ n (by have := hgn.out.2.2.1; omega) w4 hn.out)
      have KD := Lib.hid (fun (w' : World) (v1 v2 v3 : Value) (h1 : InsRow w' w'.heap.size v1 d) (h2 : InsRow w' w'.heap.size v2 y) (h3 : InsRow w' w'.heap.size v3 n) => (defeat_due 0 v1 v2 v3 d y n w' h1 h2 h3 HF.out.1).mono fun e w'' h => (show ∃ v', e = .returned (.tuple #[v', .int .i64 0]) ∧ Hid (InsRow w'' w''.heap.size v' (defD d y n)) ∧ Below w'.heap.size w' w'' from by
        obtain ⟨v', h1, h2, h3⟩ := h
        exact ⟨v', h1, Lib.hid (h2.row (by have := hplen.out; omega)), h3⟩))
      have KC := Lib.hid (fun (w' : World) (hb : Below w4.heap.size w4 w') => (show w'.cell? ⟨bx, 0, none⟩ = some (.slice ya yn yc) ∧ w'.cell? ⟨bx, 1, none⟩ = some (.slice na nn nc) from by
        have h := (block_cells (blk_lift hb HBX.out)).1
        exact ⟨h 0, h 1⟩))
      obtain ⟨d0, d1⟩ := KC.out w4 (Below.refl _ _)
      go_upto_region 4 with fail
      go_cut [9, 10] from 41 to 52 (fun s9 s10 wx => s10 = .int .i64 0 ∧ Hid (InsRow wx wx.heap.size s9 (defD d y n)) ∧ Hid (Below w4.heap.size w4 wx))
      case first =>
        go_region_held3 (fun w' => w'.cell? ⟨bx, 0, none⟩ = some (.slice ya yn yc) ∧ w'.cell? ⟨bx, 1, none⟩ = some (.slice na nn nc))
          (with_reducible (first | exact KC.out _ hWD | exact KC.out _ hWd | exact KC.out _ hWy | exact KC.out _ hWn | exact KC.out _ (Below.refl _ _) | exact KC.out _ (Below.refl _ _).drew | fail "keep"))
          ((first
            | ((with_reducible refine (KTd.out _ (by first | exact hWy | exact hWn | exact Below.refl _ _ | exact (Below.refl _ _).drew)).mono ?_); rintro e wd ⟨td, rfl, hRd, hBd, hWd⟩)
            | ((with_reducible refine (KTy.out _ (by first | exact hWd | exact hWn | exact Below.refl _ _ | exact (Below.refl _ _).drew)).mono ?_); rintro e wy ⟨ty, rfl, hRy, hBy, hWy⟩)
            | ((with_reducible refine (KTn.out _ (by first | exact hWd | exact hWy | exact Below.refl _ _ | exact (Below.refl _ _).drew)).mono ?_); rintro e wn ⟨tn, rfl, hRn, hBn, hWn⟩)
            | ((with_reducible refine (KD.out _ _ _ _ (hRd.out _ (by first | exact Below.refl _ _ | exact hBy | exact hBn | exact hBy.trans (hBn.mono hBy.size) | exact hBn.trans (hBy.mono hBn.size))) (hRy.out _ (by first | exact Below.refl _ _ | exact hBd | exact hBn | exact hBd.trans (hBn.mono hBd.size) | exact hBn.trans (hBd.mono hBn.size))) (hRn.out _ (by first | exact Below.refl _ _ | exact hBd | exact hBy | exact hBd.trans (hBy.mono hBd.size) | exact hBy.trans (hBd.mono hBy.size)))).mono ?_); rintro e wD ⟨vP, rfl, hRP, hBD⟩; have hWD := (show Below w4.heap.size w4 wD from by first | exact hWn.trans (hBD.mono hWn.size) | exact hWy.trans (hBD.mono hWy.size) | exact hWd.trans (hBD.mono hWd.size)))
            | (fail "arm")))
        all_goals (
          go_wp2
          go_meet
          exact ⟨rfl, hRP, Lib.hid hWD⟩)
      case rest =>
      obtain ⟨rfl, hE, hq'⟩ := hcut
      have hq := hq'.out
      clear hq' KTd KTy KTn KD d0 d1 KC
      rename World => WX
      obtain ⟨ea, ec, rfl⟩ := hE.out.len
      have HBX := Lib.hid (blk_lift hq HBX.out)
      have hX := Lib.hid (hX.out.kept (Kept.below hq))
      have hd := Lib.hid ((hd.out.below hq).mono hq.size)
      have hy := Lib.hid ((hy.out.below hq).mono hq.size)
      have hn := Lib.hid ((hn.out.below hq).mono hq.size)
      have ch := Lib.hid (ch.out.trans (hq.mono ch.out.size))
      clear hq
      obtain ⟨en, hen⟩ : ∃ k, (defD d y n).length = k := ⟨_, rfl⟩
      rw [hen] at hE ⊢
      clear hen
      go_wp2_with fail
      refine (twhole_any _ _ true HF.out.2.2.1 _ hE.out).mono ?_
      rintro e w5 ⟨rfl, hq⟩
      have HBX := Lib.hid (blk_lift hq HBX.out)
      have hX := Lib.hid (hX.out.kept (Kept.below hq))
      have hd := Lib.hid ((hd.out.below hq).mono hq.size)
      have hy := Lib.hid ((hy.out.below hq).mono hq.size)
      have hn := Lib.hid ((hn.out.below hq).mono hq.size)
      have hE := Lib.hid ((hE.out.below hq).mono hq.size)
      have ch := Lib.hid (ch.out.trans (hq.mono ch.out.size))
      clear hq
      go_wp2_with fail
      refine (tcode_any _ _ _ hE.out HF.out.2.2.1 (by have := HF.out.2.1; omega)).mono ?_
      rintro e w6 ⟨cq, rfl, hC, hq⟩
      have HBX := Lib.hid (blk_lift hq HBX.out)
      have hX := Lib.hid (hX.out.kept (Kept.below hq))
      have hd := Lib.hid ((hd.out.below hq).mono hq.size)
      have hy := Lib.hid ((hy.out.below hq).mono hq.size)
      have hn := Lib.hid ((hn.out.below hq).mono hq.size)
      have hE := Lib.hid ((hE.out.below hq).mono hq.size)
      have ch := Lib.hid (ch.out.trans (hq.mono ch.out.size))
      clear hq
      have hC := Lib.hid hC
      cases hg : goF d 500 0 (startS (codeT (defD d y n))) with
      | fuel s j =>
        have HG := Lib.hid hg
        have hnd := Lib.hid (show NotD (defD d y n) (startS (toTr x)) 500 from fun s2 m2 e2 => by
          rcases hall.out.2 (fun s k e => by rw [hg] at e; cases e) with ⟨s3, f⟩ | f
          · rw [f] at e2; cases e2
          · rw [f] at e2; cases e2)
        clear hg
        go_wp2_with fail
        refine (tplay_fuel 500 _ (by omega) (by omega) HG.out hd.out hgd.out.1 hC.out (by have := HCZ.out; omega)).mono ?_
        rintro e w7 ⟨yq, yk, rfl, hq⟩
        have HBX := Lib.hid (blk_lift hq HBX.out)
        have hX := Lib.hid (hX.out.kept (Kept.below hq))
        have hC := Lib.hid (hC.out.kept (Kept.below hq))
        have hd := Lib.hid ((hd.out.below hq).mono hq.size)
        have hy := Lib.hid ((hy.out.below hq).mono hq.size)
        have hn := Lib.hid ((hn.out.below hq).mono hq.size)
        have hE := Lib.hid ((hE.out.below hq).mono hq.size)
        have ch := Lib.hid (ch.out.trans (hq.mono ch.out.size))
        clear hq
        go_wp2_with fail
        refine (tlasts_ok 500 _ (by omega) (by omega) hE.out HF.out.2.2.1 hX.out HXT2.out hnd.out).mono ?_
        rintro e w8 ⟨rfl, hq⟩
        have HBX := Lib.hid (blk_lift hq HBX.out)
        have hX := Lib.hid (hX.out.kept (Kept.below hq))
        have hC := Lib.hid (hC.out.kept (Kept.below hq))
        have hd := Lib.hid ((hd.out.below hq).mono hq.size)
        have hy := Lib.hid ((hy.out.below hq).mono hq.size)
        have hn := Lib.hid ((hn.out.below hq).mono hq.size)
        have hE := Lib.hid ((hE.out.below hq).mono hq.size)
        have ch := Lib.hid (ch.out.trans (hq.mono ch.out.size))
        clear hq
        go_wp2_with fail
        refine (defeats_any _).mono ?_
        rintro e wz ⟨rfl, hqz⟩
        go_wp2
        go_ret
        exact ⟨rfl, ch.out.trans (hqz.mono ch.out.size)⟩
      | big =>
        have HG := Lib.hid hg
        clear hg
        go_wp2_with fail
        refine (tplay_big 500 _ (by omega) (by omega) HG.out hd.out hgd.out.1 hC.out (by have := HCZ.out; omega)).mono ?_
        rintro e w7 ⟨yq, yk, rfl, hq⟩
        have HBX := Lib.hid (blk_lift hq HBX.out)
        have hX := Lib.hid (hX.out.kept (Kept.below hq))
        have hC := Lib.hid (hC.out.kept (Kept.below hq))
        have hd := Lib.hid ((hd.out.below hq).mono hq.size)
        have hy := Lib.hid ((hy.out.below hq).mono hq.size)
        have hn := Lib.hid ((hn.out.below hq).mono hq.size)
        have hE := Lib.hid ((hE.out.below hq).mono hq.size)
        have ch := Lib.hid (ch.out.trans (hq.mono ch.out.size))
        clear hq
        go_wp2_with fail
        refine (defeats_any _).mono ?_
        rintro e wz ⟨rfl, hqz⟩
        go_wp2
        go_ret
        exact ⟨rfl, ch.out.trans (hqz.mono ch.out.size)⟩
      | done s j =>
        have hm0 := goF_steps hg
        have hjI : (j : Int) ≤ 500 := by omega
        have HG := Lib.hid hg
        have hfo := Lib.hid (hall.out.1 s j hg)
        have HSY := Lib.hid (show saysB (goF d 500 0 (startS (codeT (defD d y n)))) = (decide (getR s.regs 0 ≠ .nil), j, 0) by rw [hg]; rfl)
        clear hg hm0
        go_wp2_with fail
        refine (tplay_done 500 _ (by omega) (by omega) HG.out hd.out hgd.out.1 hC.out (by have := HCZ.out; omega)).mono ?_
        rintro e w7 ⟨yq, rfl, hY, hq⟩
        have HBX := Lib.hid (blk_lift hq HBX.out)
        have hX := Lib.hid (hX.out.kept (Kept.below hq))
        have hC := Lib.hid (hC.out.kept (Kept.below hq))
        have hd := Lib.hid ((hd.out.below hq).mono hq.size)
        have hy := Lib.hid ((hy.out.below hq).mono hq.size)
        have hn := Lib.hid ((hn.out.below hq).mono hq.size)
        have hE := Lib.hid ((hE.out.below hq).mono hq.size)
        have ch := Lib.hid (ch.out.trans (hq.mono ch.out.size))
        clear hq
        obtain ⟨D, hD0⟩ : ∃ D, regN d = D := ⟨_, rfl⟩
        obtain ⟨Y, hY0⟩ : ∃ D, regN y = D := ⟨_, rfl⟩
        obtain ⟨Z, hN0⟩ : ∃ D, regN n = D := ⟨_, rfl⟩
        have KRd := Lib.hid (regs_far _ d hgd.out.1 D hD0 w7 hd.out)
        have KRy := Lib.hid (regs_far _ y hgy.out.1 Y hY0 w7 hy.out)
        have KRn := Lib.hid (regs_far _ n hgn.out.1 Z hN0 w7 hn.out)
        have KC := Lib.hid (fun (w' : World) (hb : Below w7.heap.size w7 w') => (show w'.cell? ⟨bx, 0, none⟩ = some (.slice ya yn yc) ∧ w'.cell? ⟨bx, 1, none⟩ = some (.slice na nn nc) from by
          have h := (block_cells (blk_lift hb HBX.out)).1
          exact ⟨h 0, h 1⟩))
        obtain ⟨d0, d1⟩ := KC.out w7 (Below.refl _ _)
        obtain ⟨WW, hWW⟩ : ∃ W, defW d y n = W := ⟨_, rfl⟩
        have hWm : max (max D Y) Z = WW := by rw [← hD0, ← hY0, ← hN0]; exact hWW
        have hDI : D ≤ 28 := by rw [← hD0]; exact hgd.out.2.1
        have hYI : Y ≤ 28 := by rw [← hY0]; exact hgy.out.2.1
        have hZI : Z ≤ 28 := by rw [← hN0]; exact hgn.out.2.1
        have hmx : ∀ (w : World) (ts : Array TypeId) (t : TypeId), (Builtin.max_ ts t #[.int .i64 D, .int .i64 Y, .int .i64 Z]).run Try.prog w = .ok (.int .i64 WW) w := by
          intro w ts t
          rw [Go.run_max_int3]
          congr 2
          split <;> split <;> omega
        have hWI : (0 : Int) ≤ WW ∧ (WW : Int) ≤ 28 := by omega
        rw [hWW] at hfo
        clear hWm hDI hYI hZI hWW hD0 hY0 hN0
        go_upto_region 10 with fail
        go_cut [14] from 81 to 89 (fun s14 wx => s14 = .int .i64 (WW : Int) ∧ Hid (Below w7.heap.size w7 wx))
        case first =>
          go_region_held3 (fun w' => w'.cell? ⟨bx, 0, none⟩ = some (.slice ya yn yc) ∧ w'.cell? ⟨bx, 1, none⟩ = some (.slice na nn nc))
            (with_reducible (first | exact KC.out _ hWd | exact KC.out _ hWy | exact KC.out _ hWn | exact KC.out _ (Below.refl _ _) | exact KC.out _ (Below.refl _ _).drew | fail "keep"))
            ((first
              | ((with_reducible refine (KRd.out _ (by first | exact hWn | exact hWy | exact Below.refl _ _ | exact (Below.refl _ _).drew)).mono ?_); rintro e wd ⟨rfl, hWd⟩)
              | ((with_reducible refine (KRy.out _ (by first | exact hWd | exact hWn | exact Below.refl _ _ | exact (Below.refl _ _).drew)).mono ?_); rintro e wy ⟨rfl, hWy⟩)
              | ((with_reducible refine (KRn.out _ (by first | exact hWd | exact hWy | exact Below.refl _ _ | exact (Below.refl _ _).drew)).mono ?_); rintro e wn ⟨rfl, hWn⟩)
              | (fail "arm")))
          all_goals (
            go_wp2
            go_meet
            exact ⟨rfl, Lib.hid (by first | exact hWd | exact hWy | exact hWn)⟩)
        case rest =>
        obtain ⟨rfl, hq'⟩ := hcut
        have hq := hq'.out
        clear hq' KRd KRy KRn KC d0 d1 hmx
        rename World => WV
        have hY := Lib.hid hY
        have HBX := Lib.hid (blk_lift hq HBX.out)
        have hX := Lib.hid (hX.out.kept (Kept.below hq))
        have hC := Lib.hid (hC.out.kept (Kept.below hq))
        have hY := Lib.hid (hY.out.kept (Kept.below hq))
        have hd := Lib.hid ((hd.out.below hq).mono hq.size)
        have hy := Lib.hid ((hy.out.below hq).mono hq.size)
        have hn := Lib.hid ((hn.out.below hq).mono hq.size)
        have hE := Lib.hid ((hE.out.below hq).mono hq.size)
        have ch := Lib.hid (ch.out.trans (hq.mono ch.out.size))
        clear hq
        by_cases hz : getR s.regs 0 = .nil
        ·
          have hz0 : getR s.regs 0 = .nil := hz
          have hfp := Lib.hid (hfo.out.2 hz0)
          have HSZ := Lib.hid (show saysB (goF d 500 0 (startS (codeT (defD d y n)))) = (false, j, 0) by rw [HSY.out, hz0]; rfl)
          have hyn : yq = none := by have h := hY.out; rw [hz0] at h; exact node_nil h
          subst hyn
          clear hz hz0 hY
          obtain ⟨c, hc⟩ : ∃ c, j + WW + 25 = c := ⟨_, rfl⟩
          rw [hc] at hfp
          have hcI : (c : Int) = (j : Int) + WW + 25 := by omega
          have hc6 : c ≤ 600 := by omega
          clear hc
          obtain ⟨c0, hcf⟩ := block_cells HBX.out
          have d0 := c0 0
          have d1 := c0 1
          simp only [List.getElem?_toArray, List.getElem?_cons_succ, List.getElem?_cons_zero] at d0 d1
          clear c0 hcf
          cases hg2 : goF y 300 0 (startS (toTr x)) with
          | fuel s2 i =>
            have HG2 := Lib.hid hg2
            have hnd := Lib.hid (follow_fuel2 hfp.out hg2)
            clear hg2
            go_wp2_with fail
            refine (tplay_fuel 300 _ (by omega) (by omega) HG2.out hy.out hgy.out.1 hX.out HXT2.out).mono ?_
            rintro e w8 ⟨zq, zk, rfl, hq⟩
            have HBX := Lib.hid (blk_lift hq HBX.out)
            have hX := Lib.hid (hX.out.kept (Kept.below hq))
            have hC := Lib.hid (hC.out.kept (Kept.below hq))
            have hd := Lib.hid ((hd.out.below hq).mono hq.size)
            have hy := Lib.hid ((hy.out.below hq).mono hq.size)
            have hn := Lib.hid ((hn.out.below hq).mono hq.size)
            have hE := Lib.hid ((hE.out.below hq).mono hq.size)
            have ch := Lib.hid (ch.out.trans (hq.mono ch.out.size))
            clear hq
            go_wp2_with fail
            refine (tlasts_ok (300 + c) _ (by omega) (by omega) hE.out HF.out.2.2.1 hX.out HXT2.out hnd.out).mono ?_
            rintro e w9 ⟨rfl, hq⟩
            have HBX := Lib.hid (blk_lift hq HBX.out)
            have hX := Lib.hid (hX.out.kept (Kept.below hq))
            have hC := Lib.hid (hC.out.kept (Kept.below hq))
            have hd := Lib.hid ((hd.out.below hq).mono hq.size)
            have hy := Lib.hid ((hy.out.below hq).mono hq.size)
            have hn := Lib.hid ((hn.out.below hq).mono hq.size)
            have hE := Lib.hid ((hE.out.below hq).mono hq.size)
            have ch := Lib.hid (ch.out.trans (hq.mono ch.out.size))
            clear hq
            go_wp2_with fail
            refine (ttwin_any _ d (by have := hgd.out.2.2.1; omega) _ hd.out).mono ?_
            rintro e w10 ⟨t1a, t1c, rfl, hT1, hq⟩
            have HBX := Lib.hid (blk_lift hq HBX.out)
            have hX := Lib.hid (hX.out.kept (Kept.below hq))
            have hC := Lib.hid (hC.out.kept (Kept.below hq))
            have hd := Lib.hid ((hd.out.below hq).mono hq.size)
            have hy := Lib.hid ((hy.out.below hq).mono hq.size)
            have hn := Lib.hid ((hn.out.below hq).mono hq.size)
            have hE := Lib.hid ((hE.out.below hq).mono hq.size)
            have ch := Lib.hid (ch.out.trans (hq.mono ch.out.size))
            clear hq
            have hT1 := Lib.hid (hT1.row (by have := hgd.out.2.2.1; omega))
            go_wp2_with fail
            refine (ttwin_any _ (defD d y n) (by have := hplen.out; omega) _ hE.out).mono ?_
            rintro e w11 ⟨t2a, t2c, rfl, hT2, hq⟩
            have HBX := Lib.hid (blk_lift hq HBX.out)
            have hX := Lib.hid (hX.out.kept (Kept.below hq))
            have hC := Lib.hid (hC.out.kept (Kept.below hq))
            have hd := Lib.hid ((hd.out.below hq).mono hq.size)
            have hy := Lib.hid ((hy.out.below hq).mono hq.size)
            have hn := Lib.hid ((hn.out.below hq).mono hq.size)
            have hE := Lib.hid ((hE.out.below hq).mono hq.size)
            have hT1 := Lib.hid ((hT1.out.below hq).mono hq.size)
            have ch := Lib.hid (ch.out.trans (hq.mono ch.out.size))
            clear hq
            have hT2 := Lib.hid (hT2.row (by have := hplen.out; omega))
            go_wp2_with fail
            refine (says_ok _ _ d (defD d y n) 500 hT1.out hT2.out hgd.out.1 HF.out.2.2.1 (by omega) (by have := HF.out.2.1; omega) _ _ _ HSZ.out).mono ?_
            rintro e w12 ⟨rfl, hq⟩
            have HBX := Lib.hid (blk_lift hq HBX.out)
            have hX := Lib.hid (hX.out.kept (Kept.below hq))
            have hC := Lib.hid (hC.out.kept (Kept.below hq))
            have hd := Lib.hid ((hd.out.below hq).mono hq.size)
            have hy := Lib.hid ((hy.out.below hq).mono hq.size)
            have hn := Lib.hid ((hn.out.below hq).mono hq.size)
            have hE := Lib.hid ((hE.out.below hq).mono hq.size)
            have hT1 := Lib.hid ((hT1.out.below hq).mono hq.size)
            have hT2 := Lib.hid ((hT2.out.below hq).mono hq.size)
            have ch := Lib.hid (ch.out.trans (hq.mono ch.out.size))
            clear hq
            go_wp2_with fail
            refine (defeats_any _).mono ?_
            rintro e wz ⟨rfl, hqz⟩
            go_wp2
            go_ret
            exact ⟨rfl, ch.out.trans (hqz.mono ch.out.size)⟩
          | big =>
            have HG2 := Lib.hid hg2
            clear hg2
            go_wp2_with fail
            refine (tplay_big 300 _ (by omega) (by omega) HG2.out hy.out hgy.out.1 hX.out HXT2.out).mono ?_
            rintro e w8 ⟨zq, zk, rfl, hq⟩
            have HBX := Lib.hid (blk_lift hq HBX.out)
            have hX := Lib.hid (hX.out.kept (Kept.below hq))
            have hC := Lib.hid (hC.out.kept (Kept.below hq))
            have hd := Lib.hid ((hd.out.below hq).mono hq.size)
            have hy := Lib.hid ((hy.out.below hq).mono hq.size)
            have hn := Lib.hid ((hn.out.below hq).mono hq.size)
            have hE := Lib.hid ((hE.out.below hq).mono hq.size)
            have ch := Lib.hid (ch.out.trans (hq.mono ch.out.size))
            clear hq
            go_wp2_with fail
            refine (ttwin_any _ d (by have := hgd.out.2.2.1; omega) _ hd.out).mono ?_
            rintro e w9 ⟨t1a, t1c, rfl, hT1, hq⟩
            have HBX := Lib.hid (blk_lift hq HBX.out)
            have hX := Lib.hid (hX.out.kept (Kept.below hq))
            have hC := Lib.hid (hC.out.kept (Kept.below hq))
            have hd := Lib.hid ((hd.out.below hq).mono hq.size)
            have hy := Lib.hid ((hy.out.below hq).mono hq.size)
            have hn := Lib.hid ((hn.out.below hq).mono hq.size)
            have hE := Lib.hid ((hE.out.below hq).mono hq.size)
            have ch := Lib.hid (ch.out.trans (hq.mono ch.out.size))
            clear hq
            have hT1 := Lib.hid (hT1.row (by have := hgd.out.2.2.1; omega))
            go_wp2_with fail
            refine (ttwin_any _ (defD d y n) (by have := hplen.out; omega) _ hE.out).mono ?_
            rintro e w10 ⟨t2a, t2c, rfl, hT2, hq⟩
            have HBX := Lib.hid (blk_lift hq HBX.out)
            have hX := Lib.hid (hX.out.kept (Kept.below hq))
            have hC := Lib.hid (hC.out.kept (Kept.below hq))
            have hd := Lib.hid ((hd.out.below hq).mono hq.size)
            have hy := Lib.hid ((hy.out.below hq).mono hq.size)
            have hn := Lib.hid ((hn.out.below hq).mono hq.size)
            have hE := Lib.hid ((hE.out.below hq).mono hq.size)
            have hT1 := Lib.hid ((hT1.out.below hq).mono hq.size)
            have ch := Lib.hid (ch.out.trans (hq.mono ch.out.size))
            clear hq
            have hT2 := Lib.hid (hT2.row (by have := hplen.out; omega))
            go_wp2_with fail
            refine (says_ok _ _ d (defD d y n) 500 hT1.out hT2.out hgd.out.1 HF.out.2.2.1 (by omega) (by have := HF.out.2.1; omega) _ _ _ HSZ.out).mono ?_
            rintro e w11 ⟨rfl, hq⟩
            have HBX := Lib.hid (blk_lift hq HBX.out)
            have hX := Lib.hid (hX.out.kept (Kept.below hq))
            have hC := Lib.hid (hC.out.kept (Kept.below hq))
            have hd := Lib.hid ((hd.out.below hq).mono hq.size)
            have hy := Lib.hid ((hy.out.below hq).mono hq.size)
            have hn := Lib.hid ((hn.out.below hq).mono hq.size)
            have hE := Lib.hid ((hE.out.below hq).mono hq.size)
            have hT1 := Lib.hid ((hT1.out.below hq).mono hq.size)
            have hT2 := Lib.hid ((hT2.out.below hq).mono hq.size)
            have ch := Lib.hid (ch.out.trans (hq.mono ch.out.size))
            clear hq
            go_wp2_with fail
            refine (defeats_any _).mono ?_
            rintro e wz ⟨rfl, hqz⟩
            go_wp2
            go_ret
            exact ⟨rfl, ch.out.trans (hqz.mono ch.out.size)⟩
          | done s2 i =>
            have hm2 := goF_steps hg2
            have hiI : (i : Int) ≤ 300 := by omega
            have HG2 := Lib.hid hg2
            have hex := Lib.hid (follow_done2 hfp.out hg2)
            clear hg2 hm2
            go_wp2_with fail
            refine (tplay_done 300 _ (by omega) (by omega) HG2.out hy.out hgy.out.1 hX.out HXT2.out).mono ?_
            rintro e w8 ⟨zq, rfl, hZ, hq⟩
            have HBX := Lib.hid (blk_lift hq HBX.out)
            have hX := Lib.hid (hX.out.kept (Kept.below hq))
            have hC := Lib.hid (hC.out.kept (Kept.below hq))
            have hd := Lib.hid ((hd.out.below hq).mono hq.size)
            have hy := Lib.hid ((hy.out.below hq).mono hq.size)
            have hn := Lib.hid ((hn.out.below hq).mono hq.size)
            have hE := Lib.hid ((hE.out.below hq).mono hq.size)
            have ch := Lib.hid (ch.out.trans (hq.mono ch.out.size))
            clear hq
            have hZ := Lib.hid hZ
            go_wp2_with fail
            refine (treturns_ok (i + c) _ (by omega) (by omega) hE.out HF.out.2.2.1 hX.out hZ.out HXT2.out hex.out).mono ?_
            rintro e w9 ⟨rfl, hq⟩
            have HBX := Lib.hid (blk_lift hq HBX.out)
            have hX := Lib.hid (hX.out.kept (Kept.below hq))
            have hC := Lib.hid (hC.out.kept (Kept.below hq))
            have hZ := Lib.hid (hZ.out.kept (Kept.below hq))
            have hd := Lib.hid ((hd.out.below hq).mono hq.size)
            have hy := Lib.hid ((hy.out.below hq).mono hq.size)
            have hn := Lib.hid ((hn.out.below hq).mono hq.size)
            have hE := Lib.hid ((hE.out.below hq).mono hq.size)
            have ch := Lib.hid (ch.out.trans (hq.mono ch.out.size))
            clear hq
            clear hZ
            go_wp2_with fail
            refine (ttwin_any _ d (by have := hgd.out.2.2.1; omega) _ hd.out).mono ?_
            rintro e w10 ⟨t1a, t1c, rfl, hT1, hq⟩
            have HBX := Lib.hid (blk_lift hq HBX.out)
            have hX := Lib.hid (hX.out.kept (Kept.below hq))
            have hC := Lib.hid (hC.out.kept (Kept.below hq))
            have hd := Lib.hid ((hd.out.below hq).mono hq.size)
            have hy := Lib.hid ((hy.out.below hq).mono hq.size)
            have hn := Lib.hid ((hn.out.below hq).mono hq.size)
            have hE := Lib.hid ((hE.out.below hq).mono hq.size)
            have ch := Lib.hid (ch.out.trans (hq.mono ch.out.size))
            clear hq
            have hT1 := Lib.hid (hT1.row (by have := hgd.out.2.2.1; omega))
            go_wp2_with fail
            refine (ttwin_any _ (defD d y n) (by have := hplen.out; omega) _ hE.out).mono ?_
            rintro e w11 ⟨t2a, t2c, rfl, hT2, hq⟩
            have HBX := Lib.hid (blk_lift hq HBX.out)
            have hX := Lib.hid (hX.out.kept (Kept.below hq))
            have hC := Lib.hid (hC.out.kept (Kept.below hq))
            have hd := Lib.hid ((hd.out.below hq).mono hq.size)
            have hy := Lib.hid ((hy.out.below hq).mono hq.size)
            have hn := Lib.hid ((hn.out.below hq).mono hq.size)
            have hE := Lib.hid ((hE.out.below hq).mono hq.size)
            have hT1 := Lib.hid ((hT1.out.below hq).mono hq.size)
            have ch := Lib.hid (ch.out.trans (hq.mono ch.out.size))
            clear hq
            have hT2 := Lib.hid (hT2.row (by have := hplen.out; omega))
            go_wp2_with fail
            refine (says_ok _ _ d (defD d y n) 500 hT1.out hT2.out hgd.out.1 HF.out.2.2.1 (by omega) (by have := HF.out.2.1; omega) _ _ _ HSZ.out).mono ?_
            rintro e w12 ⟨rfl, hq⟩
            have HBX := Lib.hid (blk_lift hq HBX.out)
            have hX := Lib.hid (hX.out.kept (Kept.below hq))
            have hC := Lib.hid (hC.out.kept (Kept.below hq))
            have hd := Lib.hid ((hd.out.below hq).mono hq.size)
            have hy := Lib.hid ((hy.out.below hq).mono hq.size)
            have hn := Lib.hid ((hn.out.below hq).mono hq.size)
            have hE := Lib.hid ((hE.out.below hq).mono hq.size)
            have hT1 := Lib.hid ((hT1.out.below hq).mono hq.size)
            have hT2 := Lib.hid ((hT2.out.below hq).mono hq.size)
            have ch := Lib.hid (ch.out.trans (hq.mono ch.out.size))
            clear hq
            go_wp2_with fail
            refine (defeats_any _).mono ?_
            rintro e wz ⟨rfl, hqz⟩
            go_wp2
            go_ret
            exact ⟨rfl, ch.out.trans (hqz.mono ch.out.size)⟩
        ·
          have hfp := Lib.hid (hfo.out.1 hz)
          have HSZ := Lib.hid (show saysB (goF d 500 0 (startS (codeT (defD d y n)))) = (true, j, 0) by rw [HSY.out, decide_eq_true hz])
          obtain ⟨ag, rfl⟩ : ∃ ag, yq = some ag := by
            have h := hY.out
            cases hr : getR s.regs 0 with
            | nil => exact absurd hr hz
            | pair r1 r2 =>
              rw [hr] at h
              obtain ⟨pg, px, py, hpe, _⟩ := h.cells
              injection hpe with hpe
              exact ⟨_, hpe⟩
          clear hz hY
          obtain ⟨c, hc⟩ : ∃ c, j + WW + 23 = c := ⟨_, rfl⟩
          rw [hc] at hfp
          have hcI : (c : Int) = (j : Int) + WW + 23 := by omega
          have hc6 : c ≤ 600 := by omega
          clear hc
          obtain ⟨c0, hcf⟩ := block_cells HBX.out
          have d0 := c0 0
          have d1 := c0 1
          simp only [List.getElem?_toArray, List.getElem?_cons_succ, List.getElem?_cons_zero] at d0 d1
          clear c0 hcf
          cases hg2 : goF n 300 0 (startS (toTr x)) with
          | fuel s2 i =>
            have HG2 := Lib.hid hg2
            have hnd := Lib.hid (follow_fuel2 hfp.out hg2)
            clear hg2
            go_wp2_with fail
            refine (tplay_fuel 300 _ (by omega) (by omega) HG2.out hn.out hgn.out.1 hX.out HXT2.out).mono ?_
            rintro e w8 ⟨zq, zk, rfl, hq⟩
            have HBX := Lib.hid (blk_lift hq HBX.out)
            have hX := Lib.hid (hX.out.kept (Kept.below hq))
            have hC := Lib.hid (hC.out.kept (Kept.below hq))
            have hd := Lib.hid ((hd.out.below hq).mono hq.size)
            have hy := Lib.hid ((hy.out.below hq).mono hq.size)
            have hn := Lib.hid ((hn.out.below hq).mono hq.size)
            have hE := Lib.hid ((hE.out.below hq).mono hq.size)
            have ch := Lib.hid (ch.out.trans (hq.mono ch.out.size))
            clear hq
            go_wp2_with fail
            refine (tlasts_ok (300 + c) _ (by omega) (by omega) hE.out HF.out.2.2.1 hX.out HXT2.out hnd.out).mono ?_
            rintro e w9 ⟨rfl, hq⟩
            have HBX := Lib.hid (blk_lift hq HBX.out)
            have hX := Lib.hid (hX.out.kept (Kept.below hq))
            have hC := Lib.hid (hC.out.kept (Kept.below hq))
            have hd := Lib.hid ((hd.out.below hq).mono hq.size)
            have hy := Lib.hid ((hy.out.below hq).mono hq.size)
            have hn := Lib.hid ((hn.out.below hq).mono hq.size)
            have hE := Lib.hid ((hE.out.below hq).mono hq.size)
            have ch := Lib.hid (ch.out.trans (hq.mono ch.out.size))
            clear hq
            go_wp2_with fail
            refine (ttwin_any _ d (by have := hgd.out.2.2.1; omega) _ hd.out).mono ?_
            rintro e w10 ⟨t1a, t1c, rfl, hT1, hq⟩
            have HBX := Lib.hid (blk_lift hq HBX.out)
            have hX := Lib.hid (hX.out.kept (Kept.below hq))
            have hC := Lib.hid (hC.out.kept (Kept.below hq))
            have hd := Lib.hid ((hd.out.below hq).mono hq.size)
            have hy := Lib.hid ((hy.out.below hq).mono hq.size)
            have hn := Lib.hid ((hn.out.below hq).mono hq.size)
            have hE := Lib.hid ((hE.out.below hq).mono hq.size)
            have ch := Lib.hid (ch.out.trans (hq.mono ch.out.size))
            clear hq
            have hT1 := Lib.hid (hT1.row (by have := hgd.out.2.2.1; omega))
            go_wp2_with fail
            refine (ttwin_any _ (defD d y n) (by have := hplen.out; omega) _ hE.out).mono ?_
            rintro e w11 ⟨t2a, t2c, rfl, hT2, hq⟩
            have HBX := Lib.hid (blk_lift hq HBX.out)
            have hX := Lib.hid (hX.out.kept (Kept.below hq))
            have hC := Lib.hid (hC.out.kept (Kept.below hq))
            have hd := Lib.hid ((hd.out.below hq).mono hq.size)
            have hy := Lib.hid ((hy.out.below hq).mono hq.size)
            have hn := Lib.hid ((hn.out.below hq).mono hq.size)
            have hE := Lib.hid ((hE.out.below hq).mono hq.size)
            have hT1 := Lib.hid ((hT1.out.below hq).mono hq.size)
            have ch := Lib.hid (ch.out.trans (hq.mono ch.out.size))
            clear hq
            have hT2 := Lib.hid (hT2.row (by have := hplen.out; omega))
            go_wp2_with fail
            refine (says_ok _ _ d (defD d y n) 500 hT1.out hT2.out hgd.out.1 HF.out.2.2.1 (by omega) (by have := HF.out.2.1; omega) _ _ _ HSZ.out).mono ?_
            rintro e w12 ⟨rfl, hq⟩
            have HBX := Lib.hid (blk_lift hq HBX.out)
            have hX := Lib.hid (hX.out.kept (Kept.below hq))
            have hC := Lib.hid (hC.out.kept (Kept.below hq))
            have hd := Lib.hid ((hd.out.below hq).mono hq.size)
            have hy := Lib.hid ((hy.out.below hq).mono hq.size)
            have hn := Lib.hid ((hn.out.below hq).mono hq.size)
            have hE := Lib.hid ((hE.out.below hq).mono hq.size)
            have hT1 := Lib.hid ((hT1.out.below hq).mono hq.size)
            have hT2 := Lib.hid ((hT2.out.below hq).mono hq.size)
            have ch := Lib.hid (ch.out.trans (hq.mono ch.out.size))
            clear hq
            go_wp2_with fail
            refine (defeats_any _).mono ?_
            rintro e wz ⟨rfl, hqz⟩
            go_wp2
            go_ret
            exact ⟨rfl, ch.out.trans (hqz.mono ch.out.size)⟩
          | big =>
            have HG2 := Lib.hid hg2
            clear hg2
            go_wp2_with fail
            refine (tplay_big 300 _ (by omega) (by omega) HG2.out hn.out hgn.out.1 hX.out HXT2.out).mono ?_
            rintro e w8 ⟨zq, zk, rfl, hq⟩
            have HBX := Lib.hid (blk_lift hq HBX.out)
            have hX := Lib.hid (hX.out.kept (Kept.below hq))
            have hC := Lib.hid (hC.out.kept (Kept.below hq))
            have hd := Lib.hid ((hd.out.below hq).mono hq.size)
            have hy := Lib.hid ((hy.out.below hq).mono hq.size)
            have hn := Lib.hid ((hn.out.below hq).mono hq.size)
            have hE := Lib.hid ((hE.out.below hq).mono hq.size)
            have ch := Lib.hid (ch.out.trans (hq.mono ch.out.size))
            clear hq
            go_wp2_with fail
            refine (ttwin_any _ d (by have := hgd.out.2.2.1; omega) _ hd.out).mono ?_
            rintro e w9 ⟨t1a, t1c, rfl, hT1, hq⟩
            have HBX := Lib.hid (blk_lift hq HBX.out)
            have hX := Lib.hid (hX.out.kept (Kept.below hq))
            have hC := Lib.hid (hC.out.kept (Kept.below hq))
            have hd := Lib.hid ((hd.out.below hq).mono hq.size)
            have hy := Lib.hid ((hy.out.below hq).mono hq.size)
            have hn := Lib.hid ((hn.out.below hq).mono hq.size)
            have hE := Lib.hid ((hE.out.below hq).mono hq.size)
            have ch := Lib.hid (ch.out.trans (hq.mono ch.out.size))
            clear hq
            have hT1 := Lib.hid (hT1.row (by have := hgd.out.2.2.1; omega))
            go_wp2_with fail
            refine (ttwin_any _ (defD d y n) (by have := hplen.out; omega) _ hE.out).mono ?_
            rintro e w10 ⟨t2a, t2c, rfl, hT2, hq⟩
            have HBX := Lib.hid (blk_lift hq HBX.out)
            have hX := Lib.hid (hX.out.kept (Kept.below hq))
            have hC := Lib.hid (hC.out.kept (Kept.below hq))
            have hd := Lib.hid ((hd.out.below hq).mono hq.size)
            have hy := Lib.hid ((hy.out.below hq).mono hq.size)
            have hn := Lib.hid ((hn.out.below hq).mono hq.size)
            have hE := Lib.hid ((hE.out.below hq).mono hq.size)
            have hT1 := Lib.hid ((hT1.out.below hq).mono hq.size)
            have ch := Lib.hid (ch.out.trans (hq.mono ch.out.size))
            clear hq
            have hT2 := Lib.hid (hT2.row (by have := hplen.out; omega))
            go_wp2_with fail
            refine (says_ok _ _ d (defD d y n) 500 hT1.out hT2.out hgd.out.1 HF.out.2.2.1 (by omega) (by have := HF.out.2.1; omega) _ _ _ HSZ.out).mono ?_
            rintro e w11 ⟨rfl, hq⟩
            have HBX := Lib.hid (blk_lift hq HBX.out)
            have hX := Lib.hid (hX.out.kept (Kept.below hq))
            have hC := Lib.hid (hC.out.kept (Kept.below hq))
            have hd := Lib.hid ((hd.out.below hq).mono hq.size)
            have hy := Lib.hid ((hy.out.below hq).mono hq.size)
            have hn := Lib.hid ((hn.out.below hq).mono hq.size)
            have hE := Lib.hid ((hE.out.below hq).mono hq.size)
            have hT1 := Lib.hid ((hT1.out.below hq).mono hq.size)
            have hT2 := Lib.hid ((hT2.out.below hq).mono hq.size)
            have ch := Lib.hid (ch.out.trans (hq.mono ch.out.size))
            clear hq
            go_wp2_with fail
            refine (defeats_any _).mono ?_
            rintro e wz ⟨rfl, hqz⟩
            go_wp2
            go_ret
            exact ⟨rfl, ch.out.trans (hqz.mono ch.out.size)⟩
          | done s2 i =>
            have hm2 := goF_steps hg2
            have hiI : (i : Int) ≤ 300 := by omega
            have HG2 := Lib.hid hg2
            have hex := Lib.hid (follow_done2 hfp.out hg2)
            clear hg2 hm2
            go_wp2_with fail
            refine (tplay_done 300 _ (by omega) (by omega) HG2.out hn.out hgn.out.1 hX.out HXT2.out).mono ?_
            rintro e w8 ⟨zq, rfl, hZ, hq⟩
            have HBX := Lib.hid (blk_lift hq HBX.out)
            have hX := Lib.hid (hX.out.kept (Kept.below hq))
            have hC := Lib.hid (hC.out.kept (Kept.below hq))
            have hd := Lib.hid ((hd.out.below hq).mono hq.size)
            have hy := Lib.hid ((hy.out.below hq).mono hq.size)
            have hn := Lib.hid ((hn.out.below hq).mono hq.size)
            have hE := Lib.hid ((hE.out.below hq).mono hq.size)
            have ch := Lib.hid (ch.out.trans (hq.mono ch.out.size))
            clear hq
            have hZ := Lib.hid hZ
            go_wp2_with fail
            refine (treturns_ok (i + c) _ (by omega) (by omega) hE.out HF.out.2.2.1 hX.out hZ.out HXT2.out hex.out).mono ?_
            rintro e w9 ⟨rfl, hq⟩
            have HBX := Lib.hid (blk_lift hq HBX.out)
            have hX := Lib.hid (hX.out.kept (Kept.below hq))
            have hC := Lib.hid (hC.out.kept (Kept.below hq))
            have hZ := Lib.hid (hZ.out.kept (Kept.below hq))
            have hd := Lib.hid ((hd.out.below hq).mono hq.size)
            have hy := Lib.hid ((hy.out.below hq).mono hq.size)
            have hn := Lib.hid ((hn.out.below hq).mono hq.size)
            have hE := Lib.hid ((hE.out.below hq).mono hq.size)
            have ch := Lib.hid (ch.out.trans (hq.mono ch.out.size))
            clear hq
            clear hZ
            go_wp2_with fail
            refine (ttwin_any _ d (by have := hgd.out.2.2.1; omega) _ hd.out).mono ?_
            rintro e w10 ⟨t1a, t1c, rfl, hT1, hq⟩
            have HBX := Lib.hid (blk_lift hq HBX.out)
            have hX := Lib.hid (hX.out.kept (Kept.below hq))
            have hC := Lib.hid (hC.out.kept (Kept.below hq))
            have hd := Lib.hid ((hd.out.below hq).mono hq.size)
            have hy := Lib.hid ((hy.out.below hq).mono hq.size)
            have hn := Lib.hid ((hn.out.below hq).mono hq.size)
            have hE := Lib.hid ((hE.out.below hq).mono hq.size)
            have ch := Lib.hid (ch.out.trans (hq.mono ch.out.size))
            clear hq
            have hT1 := Lib.hid (hT1.row (by have := hgd.out.2.2.1; omega))
            go_wp2_with fail
            refine (ttwin_any _ (defD d y n) (by have := hplen.out; omega) _ hE.out).mono ?_
            rintro e w11 ⟨t2a, t2c, rfl, hT2, hq⟩
            have HBX := Lib.hid (blk_lift hq HBX.out)
            have hX := Lib.hid (hX.out.kept (Kept.below hq))
            have hC := Lib.hid (hC.out.kept (Kept.below hq))
            have hd := Lib.hid ((hd.out.below hq).mono hq.size)
            have hy := Lib.hid ((hy.out.below hq).mono hq.size)
            have hn := Lib.hid ((hn.out.below hq).mono hq.size)
            have hE := Lib.hid ((hE.out.below hq).mono hq.size)
            have hT1 := Lib.hid ((hT1.out.below hq).mono hq.size)
            have ch := Lib.hid (ch.out.trans (hq.mono ch.out.size))
            clear hq
            have hT2 := Lib.hid (hT2.row (by have := hplen.out; omega))
            go_wp2_with fail
            refine (says_ok _ _ d (defD d y n) 500 hT1.out hT2.out hgd.out.1 HF.out.2.2.1 (by omega) (by have := HF.out.2.1; omega) _ _ _ HSZ.out).mono ?_
            rintro e w12 ⟨rfl, hq⟩
            have HBX := Lib.hid (blk_lift hq HBX.out)
            have hX := Lib.hid (hX.out.kept (Kept.below hq))
            have hC := Lib.hid (hC.out.kept (Kept.below hq))
            have hd := Lib.hid ((hd.out.below hq).mono hq.size)
            have hy := Lib.hid ((hy.out.below hq).mono hq.size)
            have hn := Lib.hid ((hn.out.below hq).mono hq.size)
            have hE := Lib.hid ((hE.out.below hq).mono hq.size)
            have hT1 := Lib.hid ((hT1.out.below hq).mono hq.size)
            have hT2 := Lib.hid ((hT2.out.below hq).mono hq.size)
            have ch := Lib.hid (ch.out.trans (hq.mono ch.out.size))
            clear hq
            go_wp2_with fail
            refine (defeats_any _).mono ?_
            rintro e wz ⟨rfl, hqz⟩
            go_wp2
            go_ret
            exact ⟨rfl, ch.out.trans (hqz.mono ch.out.size)⟩
end Go.Proofs.Ytlaeljkjdfffjaa


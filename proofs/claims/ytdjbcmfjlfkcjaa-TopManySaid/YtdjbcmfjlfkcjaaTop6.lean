/- narcissustop: limits of programs that are put together; composes. -/
import Derived.Test.YtdjbcmfjlfkcjaaTop4
namespace Go.Proofs.Ytdjbcmfjlfkcjaa
open Go.RowKit

theorem trees_cleanK (m : Nat) : trees (cleanK m) = m := by
  induction m with
  | zero => rfl
  | succ m ih => rw [cleanK_succ, trees_append, ih]; rfl
theorem trees_cons (x : Ins) (l : List Ins) : trees (x :: l) = x.tree.size + trees l := by simp [trees]
theorem trees_nil : trees [] = 0 := rfl
theorem sz_move (a b : Nat) : (moveI a b).tree.size = 0 := rfl
theorem sz_jump (a : Nat) (b : Int) : (jumpI a b).tree.size = 0 := rfl
theorem sz_cons (a b c : Nat) : (consI a b c).tree.size = 0 := rfl
theorem sz_set (a : Nat) (t : ByteArray) : (setI a t).tree.size = t.size := rfl
theorem sz_100 : (⟨#[49, 48, 48]⟩ : ByteArray).size = 3 := rfl
theorem trees_cleanP (l : List Ins) : trees (cleanP l) = mostN l + trees l := by unfold cleanP cleanH; rw [trees_append, trees_cleanK]
theorem few_two {p q : List Ins} (h : fewB [p, q] = true) : allV [p, q] = true ∧ mostR [p, q] ≤ 28 := by
  have h1 := fewB_get h (l := p) (by simp)
  have h2 := fewB_get h (l := q) (by simp)
  refine ⟨by unfold allV; simp [h1.1, h2.1], by rw [mostR_two]; omega⟩
theorem few_three {c p q : List Ins} (h : fewB [c, p, q] = true) : allV [c, p, q] = true ∧ mostR [c, p, q] ≤ 28 := by
  have h0 := fewB_get h (l := c) (by simp)
  have h1 := fewB_get h (l := p) (by simp)
  have h2 := fewB_get h (l := q) (by simp)
  refine ⟨by unfold allV; simp [h0.1, h1.1, h2.1], by rw [mostR_three]; omega⟩
theorem dueN_ok {ls : List (List Ins)} {m : List Ins} (hv : allV ls = true) (hr : mostR ls ≤ 28) (hm : rightAll m = true) (h1 : m.length ≤ 4000) (h2 : trees m ≤ 2000000) : dueN ls m = 0 ∧ validB m = true := by
  have hvm : validB m = true := by rw [validB_fits hm]; unfold fitsP; simp [h1, h2]
  unfold dueN
  rw [if_neg (by rw [hv]; decide), if_neg (by omega), if_pos hvm]
  exact ⟨rfl, hvm⟩
theorem few_while {c p : List Ins} (h : fewB [c, p] = true) : dueN [c, p] (whileL c p) = 0 ∧ validB (whileL c p) = true := by
  obtain ⟨hv, hr⟩ := few_two h
  have h1 := fewB_get h (l := c) (by simp)
  have h2 := fewB_get h (l := p) (by simp)
  have m1 := mostN_lt32 (validB_all h1.1)
  have m2 := mostN_lt32 (validB_all h2.1)
  have hl0 : (whileH c p).length = (cleanP c).length + (cleanP p).length + 7 := by unfold whileH; simp; omega
  refine dueN_ok hv hr (whileL_right hv hr) ?_ ?_
  · have hl : (whileL c p).length = (cleanP c).length + (cleanP p).length + 8 := by unfold whileL; simp [hl0]
    rw [hl, cleanP_length, cleanP_length]; omega
  · have ht : trees (whileL c p) = (mostN c + trees c) + (mostN p + trees p) + 6 := by
      unfold whileL whileH
      simp only [List.cons_append, trees_append, trees_cons, trees_nil, trees_cleanP, sz_move, sz_jump, sz_set, sz_100]
      omega
    rw [ht]; omega
def gT : ByteArray := ⟨#[49, 48, 49, 48, 49, 48, 48]⟩
def gU : ByteArray := ⟨#[49, 48, 48]⟩
def tailP : List Ins := [⟨4, 0, 0, 0, ⟨#[]⟩⟩]
theorem comp_due : dueN [tailP, tailP] (thenL [tailP, tailP]) = 0 := by decide +kernel
theorem comp_valid : validB (thenL [tailP, tailP]) = true := by decide +kernel
theorem gT_ok : growB gT 10 = true := by decide +kernel
theorem gU_ok : growB gU 10 = true := by decide +kernel
theorem gU_size : (toTr gU).size ≤ 2000000 := by decide +kernel
theorem gT_size : (toTr gT).size ≤ 2000000 := by decide +kernel
theorem comp_tail : (toTr gT).tl.tl = toTr gU := by decide +kernel
theorem comp_run : ∃ s, goF (thenL [tailP, tailP]) 2 0 (startS (toTr gT)) = .done s 2 ∧ getR s.regs 0 = toTr gU := by
  have hP : thenL [tailP, tailP] = [⟨4, 0, 0, 0, ⟨#[]⟩⟩, ⟨4, 0, 0, 0, ⟨#[]⟩⟩] := by decide +kernel
  rw [hP]
  generalize hx : toTr gT = x
  have h1 : Runs [(⟨4, 0, 0, 0, ⟨#[]⟩⟩ : Ins), ⟨4, 0, 0, 0, ⟨#[]⟩⟩] 1 (startS x) ⟨1, x.tl :: List.replicate 31 .nil⟩ := tail_run 0 0 x.tl _ _ rfl rfl rfl
  have h2 : Runs [(⟨4, 0, 0, 0, ⟨#[]⟩⟩ : Ins), ⟨4, 0, 0, 0, ⟨#[]⟩⟩] 1 ⟨1, x.tl :: List.replicate 31 .nil⟩ ⟨2, x.tl.tl :: List.replicate 31 .nil⟩ := tail_run 0 0 x.tl.tl _ _ rfl rfl rfl
  refine ⟨_, (h1.trans h2).done rfl 2 (Nat.le_refl _), ?_⟩
  rw [← comp_tail, hx]; rfl
theorem tgrow_yes {s : ByteArray} {most : Nat} (hs : s.size ≤ 140737488355328) (hm : most ≤ 2000000) (h : growB s most = true) (w : World) : Calls Try.prog 20 #[.string s, .int .i64 most] w fun e w' => ∃ p, e = .returned (.tuple #[.pointer p, .bool true]) ∧ NodeP 101 w' (toTr s) (.pointer p) ∧ Below w.heap.size w w' := by
  refine (tgrow_any s hs most hm w).mono ?_
  rintro e w' ⟨p, h1, h2, h3, h4⟩
  rw [h] at h1
  exact ⟨p, h1, h2 h, h4⟩
theorem growB_tree {s : ByteArray} {most : Nat} (h : growB s most = true) : isTree s = true ∧ s.size ≤ most := by unfold growB at h; simpa using h
theorem growB_size {s : ByteArray} {most : Nat} (h : growB s most = true) : (toTr s).size = s.size := by
  obtain ⟨t, rfl, ht⟩ := isTree_get (growB_tree h).1
  rw [toTr_TS t ht, TS_size]
set_option maxRecDepth 20000 in
set_option maxHeartbeats 4000000 in
theorem composes_any (w : World) : Calls Try.prog 22 #[] w fun e w' => e = .returned (.bool true) ∧ Below w.heap.size w w' := by
  have ch := Lib.hid (Below.refl w.heap.size w)
  go_enter Try.func22, Try.ntmps22
  go_wp2_with fail
  refine (ttail_any _).mono ?_
  rintro e w1 ⟨v1, rfl, h1, hq⟩
  have ch := Lib.hid (ch.out.trans (hq.mono ch.out.size))
  clear hq
  have h1 := Lib.hid h1
  go_wp2_with fail
  refine (ttail_any _).mono ?_
  rintro e w2 ⟨v2, rfl, h2, hq⟩
  have h1 := Lib.hid ((h1.out.below hq).mono hq.size)
  have ch := Lib.hid (ch.out.trans (hq.mono ch.out.size))
  clear hq
  have h2 := Lib.hid h2
  obtain ⟨a1, c1, rfl⟩ := h1.out.len
  obtain ⟨a2, c2, rfl⟩ := h2.out.len
  go_wp2_with fail
  have hL0 := ProgsRow.lit (w := w2) [.slice a1 1 c1, .slice a2 1 c2] [tailP, tailP] rfl (by simp) (fun j u l hu hl => match j, u, l, hu, hl with | 0, _, _, hu, hl => by cases hu; cases hl; exact h1.out | 1, _, _, hu, hl => by cases hu; cases hl; exact h2.out)
  obtain ⟨w3, hW⟩ : ∃ B, w2.alloc (.cells #[.slice a1 1 c1, .slice a2 1 c2] 23) = B := ⟨_, rfl⟩
  rw [hW]
  have hq : Below w2.heap.size w2 w3 := by rw [← hW]; exact (Below.refl _ _).alloc (Nat.le_refl _) _
  have hL := Lib.hid (show ProgsRow w3 w3.heap.size (.slice (some ⟨w2.heap.size, 0, none⟩) 2 2) [tailP, tailP] by rw [← hW]; exact hL0)
  clear hW hL0
  have h1 := Lib.hid ((h1.out.below hq).mono hq.size)
  have h2 := Lib.hid ((h2.out.below hq).mono hq.size)
  have ch := Lib.hid (ch.out.trans (hq.mono ch.out.size))
  clear hq
  refine (made_d comp_due (bThen_any _ _ _ _ _ hL.out)).mono ?_
  rintro e w4 ⟨vP, rfl, hTB, hq⟩
  have h1 := Lib.hid ((h1.out.below hq).mono hq.size)
  have h2 := Lib.hid ((h2.out.below hq).mono hq.size)
  have hL := Lib.hid ((hL.out.below hq).mono hq.size)
  have ch := Lib.hid (ch.out.trans (hq.mono ch.out.size))
  clear hq
  clear hL h1 h2
  have hP := Lib.hid (hTB.1 rfl)
  go_wp2_with fail
  refine (tgrow_yes (s := gT) (most := 10) (by decide) (by omega) gT_ok _).mono ?_
  rintro e w5 ⟨xq, rfl, hX, hq⟩
  have hP := Lib.hid ((hP.out.below hq).mono hq.size)
  have ch := Lib.hid (ch.out.trans (hq.mono ch.out.size))
  clear hq
  have hX := Lib.hid hX
  go_wp2_with fail
  refine (tgrow_yes (s := gU) (most := 10) (by decide) (by omega) gU_ok _).mono ?_
  rintro e w6 ⟨yq, rfl, hY, hq⟩
  have hX := Lib.hid (hX.out.kept (Kept.below hq))
  have hP := Lib.hid ((hP.out.below hq).mono hq.size)
  have ch := Lib.hid (ch.out.trans (hq.mono ch.out.size))
  clear hq
  have hY := Lib.hid hY
  go_wp2_with fail
  refine (treturns_ok 2 _ rfl (by omega) hP.out comp_valid hX.out hY.out gT_size comp_run).mono ?_
  rintro e w7 ⟨rfl, hq⟩
  have hX := Lib.hid (hX.out.kept (Kept.below hq))
  have hY := Lib.hid (hY.out.kept (Kept.below hq))
  have hP := Lib.hid ((hP.out.below hq).mono hq.size)
  have ch := Lib.hid (ch.out.trans (hq.mono ch.out.size))
  clear hq
  go_wp2
  go_ret
  exact ⟨rfl, ch.out⟩
end Go.Proofs.Ytdjbcmfjlfkcjaa


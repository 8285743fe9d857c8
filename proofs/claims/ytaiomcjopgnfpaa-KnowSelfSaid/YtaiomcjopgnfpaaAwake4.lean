/- law04's awake: the examples of the chapter. -/
import Derived.Test.YtaiomcjopgnfpaaText4
namespace Go.Proofs.Ytaiomcjopgnfpaa
open Go.RowKit

/-- A program that was made, where an error may be due. -/
def TB (w : World) (B : Nat) (d : Int) (m : List Ins) (v : Value) : Prop := (d = 0 → InsRow w B v m) ∧ (d ≠ 0 → v = .slice none 0 0)
theorem TB.below {w w' : World} {B : Nat} {d : Int} {m : List Ins} {v : Value} (h : TB w B d m v) (hb : Below B w w') : TB w' B d m v := ⟨fun e => (h.1 e).below hb, h.2⟩
theorem TB.mono {w : World} {B B' : Nat} {d : Int} {m : List Ins} {v : Value} (h : TB w B d m v) (hB : B ≤ B') : TB w B' d m v := ⟨fun e => (h.1 e).mono hB, h.2⟩
theorem made_tb {f : Nat} {args : Array Value} {w : World} {d : Int} {m : List Ins} (h : Calls Try.prog f args w (MadeOut w d m)) : Calls Try.prog f args w fun e w' => ∃ v, e = .returned (.tuple #[v, .int .i64 d]) ∧ TB w' w'.heap.size d m v ∧ Below w.heap.size w w' := by
  refine h.mono ?_
  rintro e w' ⟨h1, h2⟩
  by_cases hd : d = 0
  · rw [if_pos hd] at h1
    obtain ⟨v, rfl, h3⟩ := h1
    exact ⟨v, by rw [hd], ⟨fun _ => h3, fun e => absurd hd e⟩, h2⟩
  · rw [if_neg hd] at h1
    exact ⟨_, h1, ⟨fun e => absurd e hd, fun _ => rfl⟩, h2⟩
theorem made_ok {f : Nat} {args : Array Value} {w : World} {ls : List (List Ins)} {m : List Ins} (hd : dueN ls m = 0) (h : Calls Try.prog f args w (MadeOut w (dueN ls m) m)) : Calls Try.prog f args w fun e w' => ∃ v, e = .returned (.tuple #[v, .int .i64 0]) ∧ InsRow w' w'.heap.size v m ∧ Below w.heap.size w w' := by
  rw [hd] at h
  refine (made_tb h).mono ?_
  rintro e w' ⟨v, rfl, h1, h2⟩
  exact ⟨v, rfl, h1.1 rfl, h2⟩
theorem told_any (d : Int) (v mv : Value) (ml : List Ins) (w : World) (h1 : TB w w.heap.size d ml v) (h2 : d = 0 → InsRow w w.heap.size mv ml) :
    Calls Try.prog 24 #[v, .int .i64 d, .int .i64 d, mv] w fun e w' => e = .returned (.bool true) ∧ Below w.heap.size w w' := by
  by_cases hd : d = 0
  · have h3 := h1.1 hd
    have h4 := h2 hd
    subst hd
    exact told_ok v mv ml w h3 h4
  · rw [h1.2 hd]; exact told_bad d hd mv w
theorem row_nil (w : World) (B : Nat) : InsRow w B (.slice none 0 0) [] := ⟨by simp, by simp, .inl ⟨rfl, .inl rfl⟩⟩
theorem returns_ok {l : List Ins} {t : Tr} {x y : ByteArray} (k : Nat) (hr : (goF l 2000 0 (startS t)).run = (y, k, 0)) (hv : validB l = true) (ht : t.size ≤ 2000000) (hS : TS t = x) (v : Value) (w : World) (hl : InsRow w w.heap.size v l) :
    Calls Try.prog 76 #[v, .string x, .string y] w fun e w' => e = .returned (.bool true) ∧ Below w.heap.size w w' := by
  have kr := runOk_at 2000 2000 y k 0 hr hv ht hS rfl (by decide) hl
  go_enter Try.func76, Try.ntmps76
  go_wp2_with fail
  refine kr.mono ?_
  rintro e w1 ⟨rfl, hb1⟩
  go_wp2
  go_ret
  exact ⟨rfl, hb1⟩

theorem thenDue : dueN [[tailI], [tailI]] (thenL [[tailI], [tailI]]) = 0 := by decide +kernel
theorem pairDue : dueN [[], []] (pairL [] []) = 0 := by decide +kernel
theorem whileDue : dueN [[], [tailI]] (whileL [] [tailI]) = 0 := by decide +kernel
def trL (n : Nat) : Tr := match n with | 0 => .nil | n + 1 => .pair .nil (trL n)
theorem runThen : (goF (thenL [[tailI], [tailI]]) 2000 0 (startS (trL 2))).run = (⟨#[48]⟩, 2, 0) := by decide +kernel
theorem runPair : (goF (pairL [] []) 2000 0 (startS (trL 0))).run = (⟨#[49, 48, 48]⟩, 4, 0) := by decide +kernel
theorem runWhile : (goF (whileL [] [tailI]) 2000 0 (startS (trL 3))).run = (⟨#[48]⟩, 23, 0) := by decide +kernel

set_option maxHeartbeats 4000000 in
theorem awake_any (w : World) : Calls Try.prog 26 #[] w fun e w' => e = .returned (.bool true) ∧ Below w.heap.size w w' := by
  have ch := Lib.hid (Below.refl w.heap.size w)
  go_enter Try.func26, Try.ntmps26
  go_wp2_with fail
  refine (tail4_any _).mono ?_
  rintro e w1 ⟨ta, tc, rfl, h1, hq⟩
  have ch := Lib.hid (ch.out.trans (hq.mono ch.out.size))
  clear hq
  have h1 := Lib.hid h1
  go_wp2_with fail
  refine (tail4_any _).mono ?_
  rintro e w2 ⟨ua, uc, rfl, h2, hq⟩
  have h1 := Lib.hid ((h1.out.below hq).mono hq.size)
  have ch := Lib.hid (ch.out.trans (hq.mono ch.out.size))
  clear hq
  have h2 := Lib.hid h2
  go_wp2_with fail
  have hL0 := ProgsRow.lit (w := w2) [.slice ta 1 tc, .slice ua 1 uc] [[tailI], [tailI]] rfl (by simp) (fun j u l hu hl => match j, u, l, hu, hl with | 0, _, _, hu, hl => by cases hu; cases hl; exact h1.out | 1, _, _, hu, hl => by cases hu; cases hl; exact h2.out)
  obtain ⟨w3, hW⟩ : ∃ B, w2.alloc (.cells #[.slice ta 1 tc, .slice ua 1 uc] 25) = B := ⟨_, rfl⟩
  rw [hW]
  have hq : Below w2.heap.size w2 w3 := by rw [← hW]; exact (Below.refl _ _).alloc (Nat.le_refl _) _
  have hL := Lib.hid (show ProgsRow w3 w3.heap.size (.slice (some ⟨w2.heap.size, 0, none⟩) 2 2) [[tailI], [tailI]] by rw [← hW]; exact hL0)
  clear hW hL0
  have h1 := Lib.hid ((h1.out.below hq).mono hq.size)
  have h2 := Lib.hid ((h2.out.below hq).mono hq.size)
  have ch := Lib.hid (ch.out.trans (hq.mono ch.out.size))
  clear hq
  refine (made_ok thenDue (bThen_any _ _ _ _ _ hL.out)).mono ?_
  rintro e w4 ⟨vt, rfl, hT, hq⟩
  have ch := Lib.hid (ch.out.trans (hq.mono ch.out.size))
  clear hq
  have hT := Lib.hid hT
  clear h1 h2 hL
  go_wp2_with fail
  refine (made_ok pairDue (bPair_any _ _ _ _ _ _ [] [] _ (row_nil _ _) (row_nil _ _))).mono ?_
  rintro e w5 ⟨vp, rfl, hP, hq⟩
  have hT := Lib.hid ((hT.out.below hq).mono hq.size)
  have ch := Lib.hid (ch.out.trans (hq.mono ch.out.size))
  clear hq
  have hP := Lib.hid hP
  go_wp2_with fail
  refine (tail4_any _).mono ?_
  rintro e w6 ⟨xa, xc, rfl, h3, hq⟩
  have hT := Lib.hid ((hT.out.below hq).mono hq.size)
  have hP := Lib.hid ((hP.out.below hq).mono hq.size)
  have ch := Lib.hid (ch.out.trans (hq.mono ch.out.size))
  clear hq
  have h3 := Lib.hid h3
  go_wp2_with fail
  refine (made_ok whileDue (bWhile_any _ _ _ _ _ _ [] [tailI] _ (row_nil _ _) h3.out)).mono ?_
  rintro e w7 ⟨vw, rfl, hW, hq⟩
  have hT := Lib.hid ((hT.out.below hq).mono hq.size)
  have hP := Lib.hid ((hP.out.below hq).mono hq.size)
  have h3 := Lib.hid ((h3.out.below hq).mono hq.size)
  have ch := Lib.hid (ch.out.trans (hq.mono ch.out.size))
  clear hq
  have hW := Lib.hid hW
  clear h3
  go_wp2_with fail
  refine (returns_ok 2 runThen (by decide +kernel) (by decide) (by decide) _ _ hT.out).mono ?_
  rintro e w8 ⟨rfl, hq⟩
  have hT := Lib.hid ((hT.out.below hq).mono hq.size)
  have hP := Lib.hid ((hP.out.below hq).mono hq.size)
  have hW := Lib.hid ((hW.out.below hq).mono hq.size)
  have ch := Lib.hid (ch.out.trans (hq.mono ch.out.size))
  clear hq
  go_wp2_with fail
  refine (returns_ok 4 runPair (by decide +kernel) (by decide) (by decide) _ _ hP.out).mono ?_
  rintro e w9 ⟨rfl, hq⟩
  have hT := Lib.hid ((hT.out.below hq).mono hq.size)
  have hP := Lib.hid ((hP.out.below hq).mono hq.size)
  have hW := Lib.hid ((hW.out.below hq).mono hq.size)
  have ch := Lib.hid (ch.out.trans (hq.mono ch.out.size))
  clear hq
  go_wp2_with fail
  refine (textPair_any _ _ hP.out).mono ?_
  rintro e w10 ⟨rfl, hq⟩
  have hT := Lib.hid ((hT.out.below hq).mono hq.size)
  have hP := Lib.hid ((hP.out.below hq).mono hq.size)
  have hW := Lib.hid ((hW.out.below hq).mono hq.size)
  have ch := Lib.hid (ch.out.trans (hq.mono ch.out.size))
  clear hq
  go_wp2_with fail
  refine (returns_ok 23 runWhile (by decide +kernel) (by decide) (by decide) _ _ hW.out).mono ?_
  rintro e w11 ⟨rfl, hq⟩
  have hT := Lib.hid ((hT.out.below hq).mono hq.size)
  have hP := Lib.hid ((hP.out.below hq).mono hq.size)
  have hW := Lib.hid ((hW.out.below hq).mono hq.size)
  have ch := Lib.hid (ch.out.trans (hq.mono ch.out.size))
  clear hq
  go_wp2
  go_ret
  exact ⟨rfl, ch.out⟩

end Go.Proofs.Ytaiomcjopgnfpaa


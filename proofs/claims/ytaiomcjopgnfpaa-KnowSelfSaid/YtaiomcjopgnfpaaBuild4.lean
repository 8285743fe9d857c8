/- Programs out of programs: build's Pair, If, While. -/
import Derived.Test.YtaiomcjopgnfpaaBuild3
namespace Go.Proofs.Ytaiomcjopgnfpaa
open Go.RowKit

/-- The error that is due for programs and for what is made of them; what is handed back. -/
def dueN (ls : List (List Ins)) (m : List Ins) : Int := if allV ls = false then 1 else if 28 < mostR ls then 8 else if validB m = true then 0 else 3
def MadeOut (w : World) (d : Int) (m : List Ins) (e : Ending) (w' : World) : Prop := (if d = 0 then ∃ v', e = .returned (.tuple #[v', .int .i64 0]) ∧ InsRow w' w'.heap.size v' m else e = .returned (.tuple #[.slice none 0 0, .int .i64 d])) ∧ Below w.heap.size w w'
theorem MadeOut.bad {w w' : World} {d : Int} {m : List Ins} {e : Ending} (hd : d ≠ 0) (he : e = .returned (.tuple #[.slice none 0 0, .int .i64 d])) (hb : Below w.heap.size w w') : MadeOut w d m e w' := ⟨by rw [if_neg hd]; exact he, hb⟩
theorem MadeOut.ok {w w' : World} {d : Int} {m : List Ins} {e : Ending} {v' : Value} (hd : d = 0) (he : e = .returned (.tuple #[v', .int .i64 0])) (hr : InsRow w' w'.heap.size v' m) (hb : Below w.heap.size w w') : MadeOut w d m e w' := ⟨by rw [if_pos hd]; exact ⟨v', he, hr⟩, hb⟩
theorem concat_len (v : Value) (ls : List (List Ins)) (w : World) (hl : ProgsRow w w.heap.size v ls) (hT : lenS ls ≤ 1000000000) :
    Calls Try.prog 81 #[v] w fun e w' => ∃ a k c, e = .returned (.slice a k c) ∧ Hid (k = lenS ls) ∧ OwnI w' w.heap.size (.slice a k c) ls.flatten ∧ Below w.heap.size w w' := by
  refine (concat_any v ls w hl hT).mono ?_
  rintro e w' ⟨v', rfl, h1, h2⟩
  obtain ⟨a, c, rfl⟩ := h1.slice
  rw [lenS_flatten] at h1 ⊢
  exact ⟨a, _, c, rfl, Lib.hid rfl, h1, h2⟩
theorem fresh_len (v : Value) (l : List Ins) (w : World) (hl : InsRow w w.heap.size v l) (hv : validB l = true) :
    Calls Try.prog 69 #[v] w fun e w' => ∃ a k c, e = .returned (.slice a k c) ∧ Hid (k = mostN l + l.length ∧ mostN l < 32) ∧ InsRow w' w'.heap.size (.slice a k c) (cleanP l) ∧ Below w.heap.size w w' := by
  have hm := mostN_lt (validB_all hv) l.length (Nat.le_refl _)
  rw [mostN_all] at hm
  refine (fresh_ok v l w hl hv).mono ?_
  rintro e w' ⟨v', rfl, h1, h2⟩
  obtain ⟨a, c, rfl⟩ := h1.len
  rw [cleanP_length] at h1 ⊢
  exact ⟨a, _, c, rfl, Lib.hid ⟨rfl, hm⟩, h1, h2⟩
theorem done_ok (a : Option Addr) (n c : Nat) (l : List Ins) (w : World) (hl : InsRow w w.heap.size (.slice a n c) l) (hv : validB l = true) :
    Calls Try.prog 70 #[.slice a n c] w fun e w' => e = .returned (.tuple #[.slice a n c, .int .i64 0]) ∧ Below w.heap.size w w' := by
  refine (done_any a n c l w hl).mono ?_
  rintro e w' ⟨rfl, h⟩
  exact ⟨by unfold DoneOut; rw [if_pos hv], h⟩
theorem done_bad (a : Option Addr) (n c : Nat) (l : List Ins) (w : World) (hl : InsRow w w.heap.size (.slice a n c) l) (hv : validB l = false) :
    Calls Try.prog 70 #[.slice a n c] w fun e w' => e = .returned (.tuple #[.slice none 0 0, .int .i64 3]) ∧ Below w.heap.size w w' := by
  refine (done_any a n c l w hl).mono ?_
  rintro e w' ⟨rfl, h⟩
  exact ⟨by unfold DoneOut; rw [if_neg (by rw [hv]; simp)], h⟩

set_option maxHeartbeats 4000000 in
theorem bPair_form (pa : Option Addr) (pn pc : Nat) (qa : Option Addr) (qn qc : Nat) (p q : List Ins) (w : World) (hhP : InsRow w w.heap.size (.slice pa pn pc) p) (hhQ : InsRow w w.heap.size (.slice qa qn qc) q) (HV : Hid (allV [p, q] = false)) :
    Calls Try.prog 37 #[.slice pa pn pc, .slice qa qn qc] w (MadeOut w 1 (pairL p q)) := by
  have hP := Lib.hid hhP
  clear hhP
  have hQ := Lib.hid hhQ
  clear hhQ
  have ch := Lib.hid (Below.refl w.heap.size w)
  go_enter Try.func37, Try.ntmps37
  go_wp2_with fail
  have hL0 := ProgsRow.lit (w := w) [.slice pa pn pc, .slice qa qn qc] [p, q] rfl (by simp) (fun j u l hu hl => match j, u, l, hu, hl with | 0, _, _, hu, hl => by cases hu; cases hl; exact hP.out | 1, _, _, hu, hl => by cases hu; cases hl; exact hQ.out)
  obtain ⟨w1, hW⟩ : ∃ B, w.alloc (.cells #[.slice pa pn pc, .slice qa qn qc] 25) = B := ⟨_, rfl⟩
  rw [hW]
  have hq : Below w.heap.size w w1 := by rw [← hW]; exact (Below.refl _ _).alloc (Nat.le_refl _) _
  have hL := Lib.hid (show ProgsRow w1 w1.heap.size (.slice (some ⟨w.heap.size, 0, none⟩) 2 2) [p, q] by rw [← hW]; exact hL0)
  clear hW hL0
  have hP := Lib.hid ((hP.out.below hq).mono hq.size)
  have hQ := Lib.hid ((hQ.out.below hq).mono hq.size)
  have ch := Lib.hid (ch.out.trans (hq.mono ch.out.size))
  clear hq
  have kc := check_any _ _ _ hL.out
  rw [show CheckOut [p, q] = .tuple #[.int .i64 0, .int .i64 1] by unfold CheckOut; rw [if_pos HV.out]] at kc
  refine (kc).mono ?_
  rintro e w2 ⟨rfl, hq⟩
  have hP := Lib.hid ((hP.out.below hq).mono hq.size)
  have hQ := Lib.hid ((hQ.out.below hq).mono hq.size)
  have ch := Lib.hid (ch.out.trans (hq.mono ch.out.size))
  clear hq
  clear kc hL
  go_wp2
  refine bodyPost_ret (v := .tuple #[.slice none 0 0, .int .i64 1]) (by simp [results, Try.results37, go_sem]) rfl ?_
  exact MadeOut.bad (by decide) rfl ch.out

set_option maxHeartbeats 4000000 in
theorem bPair_regs (pa : Option Addr) (pn pc : Nat) (qa : Option Addr) (qn qc : Nat) (p q : List Ins) (w : World) (hhP : InsRow w w.heap.size (.slice pa pn pc) p) (hhQ : InsRow w w.heap.size (.slice qa qn qc) q) (HV : Hid (allV [p, q] = true)) (HR : Hid (28 < mostR [p, q])) :
    Calls Try.prog 37 #[.slice pa pn pc, .slice qa qn qc] w (MadeOut w 8 (pairL p q)) := by
  have hP := Lib.hid hhP
  clear hhP
  have hQ := Lib.hid hhQ
  clear hhQ
  have ch := Lib.hid (Below.refl w.heap.size w)
  go_enter Try.func37, Try.ntmps37
  go_wp2_with fail
  have hL0 := ProgsRow.lit (w := w) [.slice pa pn pc, .slice qa qn qc] [p, q] rfl (by simp) (fun j u l hu hl => match j, u, l, hu, hl with | 0, _, _, hu, hl => by cases hu; cases hl; exact hP.out | 1, _, _, hu, hl => by cases hu; cases hl; exact hQ.out)
  obtain ⟨w1, hW⟩ : ∃ B, w.alloc (.cells #[.slice pa pn pc, .slice qa qn qc] 25) = B := ⟨_, rfl⟩
  rw [hW]
  have hq : Below w.heap.size w w1 := by rw [← hW]; exact (Below.refl _ _).alloc (Nat.le_refl _) _
  have hL := Lib.hid (show ProgsRow w1 w1.heap.size (.slice (some ⟨w.heap.size, 0, none⟩) 2 2) [p, q] by rw [← hW]; exact hL0)
  clear hW hL0
  have hP := Lib.hid ((hP.out.below hq).mono hq.size)
  have hQ := Lib.hid ((hQ.out.below hq).mono hq.size)
  have ch := Lib.hid (ch.out.trans (hq.mono ch.out.size))
  clear hq
  have kc := check_any _ _ _ hL.out
  rw [show CheckOut [p, q] = .tuple #[.int .i64 0, .int .i64 8] by unfold CheckOut; rw [if_neg (by rw [HV.out]; simp), if_pos HR.out]] at kc
  refine (kc).mono ?_
  rintro e w2 ⟨rfl, hq⟩
  have hP := Lib.hid ((hP.out.below hq).mono hq.size)
  have hQ := Lib.hid ((hQ.out.below hq).mono hq.size)
  have ch := Lib.hid (ch.out.trans (hq.mono ch.out.size))
  clear hq
  clear kc hL
  go_wp2
  refine bodyPost_ret (v := .tuple #[.slice none 0 0, .int .i64 8]) (by simp [results, Try.results37, go_sem]) rfl ?_
  exact MadeOut.bad (by decide) rfl ch.out

set_option maxHeartbeats 4000000 in
theorem bPair_ok (pa : Option Addr) (pn pc : Nat) (qa : Option Addr) (qn qc : Nat) (p q : List Ins) (w : World) (hhP : InsRow w w.heap.size (.slice pa pn pc) p) (hhQ : InsRow w w.heap.size (.slice qa qn qc) q) (HV : Hid (allV [p, q] = true)) (n : Nat) (HN : Hid (mostR [p, q] = n)) (hn28 : n ≤ 28) (d : Int) (HD : Hid ((if validB (pairL p q) = true then 0 else 3) = d)) :
    Calls Try.prog 37 #[.slice pa pn pc, .slice qa qn qc] w (MadeOut w d (pairL p q)) := by
  have hP := Lib.hid hhP
  clear hhP
  have hQ := Lib.hid hhQ
  clear hhQ
  have ch := Lib.hid (Below.refl w.heap.size w)
  go_enter Try.func37, Try.ntmps37
  go_wp2_with fail
  have hL0 := ProgsRow.lit (w := w) [.slice pa pn pc, .slice qa qn qc] [p, q] rfl (by simp) (fun j u l hu hl => match j, u, l, hu, hl with | 0, _, _, hu, hl => by cases hu; cases hl; exact hP.out | 1, _, _, hu, hl => by cases hu; cases hl; exact hQ.out)
  obtain ⟨w1, hW⟩ : ∃ B, w.alloc (.cells #[.slice pa pn pc, .slice qa qn qc] 25) = B := ⟨_, rfl⟩
  rw [hW]
  have hq : Below w.heap.size w w1 := by rw [← hW]; exact (Below.refl _ _).alloc (Nat.le_refl _) _
  have hL := Lib.hid (show ProgsRow w1 w1.heap.size (.slice (some ⟨w.heap.size, 0, none⟩) 2 2) [p, q] by rw [← hW]; exact hL0)
  clear hW hL0
  have hP := Lib.hid ((hP.out.below hq).mono hq.size)
  have hQ := Lib.hid ((hQ.out.below hq).mono hq.size)
  have ch := Lib.hid (ch.out.trans (hq.mono ch.out.size))
  clear hq
  have kc := check_any _ _ _ hL.out
  rw [show CheckOut [p, q] = .tuple #[.int .i64 (n : Nat), .int .i64 0] by unfold CheckOut; rw [if_neg (by rw [HV.out]; simp), if_neg (by rw [HN.out]; omega), HN.out]] at kc
  refine (kc).mono ?_
  rintro e w2 ⟨rfl, hq⟩
  have hP := Lib.hid ((hP.out.below hq).mono hq.size)
  have hQ := Lib.hid ((hQ.out.below hq).mono hq.size)
  have ch := Lib.hid (ch.out.trans (hq.mono ch.out.size))
  clear hq
  clear kc hL
  have hvp := allV_get HV.out (k := 0) (l := p) rfl
  have hvq := allV_get HV.out (k := 1) (l := q) rfl
  have hp4 := validB_len hvp
  have hq4 := validB_len hvq
  have hmax : Hid (max (regN p) (regN q) = n) := Lib.hid (by have h1 := HN.out; have h2 := regN_le (validB_all hvp); unfold mostR at h1; simp at h1; omega)
  have s1 : IntKind.i64.wrap ((n : Int) + 1) = (n : Int) + 1 := IntWalk.i64_in _ (by omega)
  go_wp2_with fail
  refine (bmove_any (n : Nat) 0 _).mono ?_
  rintro e w3 ⟨rfl, hq⟩
  have hP := Lib.hid ((hP.out.below hq).mono hq.size)
  have hQ := Lib.hid ((hQ.out.below hq).mono hq.size)
  have ch := Lib.hid (ch.out.trans (hq.mono ch.out.size))
  clear hq
  go_wp2_with fail
  obtain ⟨w4, hW⟩ : ∃ B, w3.alloc (.cells #[.int .i64 1, .int .i64 (n : Nat), .int .i64 0, .int .i64 0, .string ⟨#[]⟩] 52) = B := ⟨_, rfl⟩
  rw [hW]
  have hq : Below w3.heap.size w3 w4 := by rw [← hW]; exact (Below.refl _ _).alloc (Nat.le_refl _) _
  have hM1 := Lib.hid (show InsRow w4 w4.heap.size (.slice (some ⟨w3.heap.size, 0, none⟩) 1 1) [moveI n 0] by rw [← hW]; exact (OwnI.lit w3 [moveI n 0] (by simp; exact moveI_wf _ _ (by omega) (by omega)) (by simp)).row (by simp))
  clear hW
  have hP := Lib.hid ((hP.out.below hq).mono hq.size)
  have hQ := Lib.hid ((hQ.out.below hq).mono hq.size)
  have ch := Lib.hid (ch.out.trans (hq.mono ch.out.size))
  clear hq
  refine (bmove_any ((n : Int) + 1) 0 _).mono ?_
  rintro e w5 ⟨rfl, hq⟩
  have hP := Lib.hid ((hP.out.below hq).mono hq.size)
  have hQ := Lib.hid ((hQ.out.below hq).mono hq.size)
  have hM1 := Lib.hid ((hM1.out.below hq).mono hq.size)
  have ch := Lib.hid (ch.out.trans (hq.mono ch.out.size))
  clear hq
  go_wp2_with fail
  refine (bmove_any 0 (n : Nat) _).mono ?_
  rintro e w6 ⟨rfl, hq⟩
  have hP := Lib.hid ((hP.out.below hq).mono hq.size)
  have hQ := Lib.hid ((hQ.out.below hq).mono hq.size)
  have hM1 := Lib.hid ((hM1.out.below hq).mono hq.size)
  have ch := Lib.hid (ch.out.trans (hq.mono ch.out.size))
  clear hq
  go_wp2_with fail
  obtain ⟨w7, hW⟩ : ∃ B, w6.alloc (.cells #[.int .i64 1, .int .i64 ((n : Int) + 1), .int .i64 0, .int .i64 0, .string ⟨#[]⟩, .int .i64 1, .int .i64 0, .int .i64 (n : Nat), .int .i64 0, .string ⟨#[]⟩] 52) = B := ⟨_, rfl⟩
  rw [hW]
  have hq : Below w6.heap.size w6 w7 := by rw [← hW]; exact (Below.refl _ _).alloc (Nat.le_refl _) _
  have hM2 := Lib.hid (show InsRow w7 w7.heap.size (.slice (some ⟨w6.heap.size, 0, none⟩) 2 2) [moveI (n + 1) 0, moveI 0 n] by rw [← hW]; exact (OwnI.lit w6 [moveI (n + 1) 0, moveI 0 n] (by simp; exact ⟨moveI_wf _ _ (by omega) (by omega), moveI_wf _ _ (by omega) (by omega)⟩) (by simp)).row (by simp))
  clear hW
  have hP := Lib.hid ((hP.out.below hq).mono hq.size)
  have hQ := Lib.hid ((hQ.out.below hq).mono hq.size)
  have hM1 := Lib.hid ((hM1.out.below hq).mono hq.size)
  have ch := Lib.hid (ch.out.trans (hq.mono ch.out.size))
  clear hq
  refine (fresh_len _ q _ hQ.out hvq).mono ?_
  rintro e w8 ⟨fa, fk, fc, rfl, hfk, hF, hq⟩
  have hP := Lib.hid ((hP.out.below hq).mono hq.size)
  have hQ := Lib.hid ((hQ.out.below hq).mono hq.size)
  have hM1 := Lib.hid ((hM1.out.below hq).mono hq.size)
  have hM2 := Lib.hid ((hM2.out.below hq).mono hq.size)
  have ch := Lib.hid (ch.out.trans (hq.mono ch.out.size))
  clear hq
  have hF := Lib.hid hF
  go_wp2_with fail
  have hL0 := ProgsRow.lit (w := w8) [.slice (some ⟨w3.heap.size, 0, none⟩) 1 1, .slice pa pn pc, .slice (some ⟨w6.heap.size, 0, none⟩) 2 2, .slice fa fk fc] [[moveI n 0], p, [moveI (n + 1) 0, moveI 0 n], cleanP q] rfl (by simp) (fun j u l hu hl => match j, u, l, hu, hl with | 0, _, _, hu, hl => by cases hu; cases hl; exact hM1.out | 1, _, _, hu, hl => by cases hu; cases hl; exact hP.out | 2, _, _, hu, hl => by cases hu; cases hl; exact hM2.out | 3, _, _, hu, hl => by cases hu; cases hl; exact hF.out)
  obtain ⟨w9, hW⟩ : ∃ B, w8.alloc (.cells #[.slice (some ⟨w3.heap.size, 0, none⟩) 1 1, .slice pa pn pc, .slice (some ⟨w6.heap.size, 0, none⟩) 2 2, .slice fa fk fc] 25) = B := ⟨_, rfl⟩
  rw [hW]
  have hq : Below w8.heap.size w8 w9 := by rw [← hW]; exact (Below.refl _ _).alloc (Nat.le_refl _) _
  have hL := Lib.hid (show ProgsRow w9 w9.heap.size (.slice (some ⟨w8.heap.size, 0, none⟩) 4 4) [[moveI n 0], p, [moveI (n + 1) 0, moveI 0 n], cleanP q] by rw [← hW]; exact hL0)
  clear hW hL0
  have hP := Lib.hid ((hP.out.below hq).mono hq.size)
  have hQ := Lib.hid ((hQ.out.below hq).mono hq.size)
  have hM1 := Lib.hid ((hM1.out.below hq).mono hq.size)
  have hM2 := Lib.hid ((hM2.out.below hq).mono hq.size)
  have hF := Lib.hid ((hF.out.below hq).mono hq.size)
  have ch := Lib.hid (ch.out.trans (hq.mono ch.out.size))
  clear hq
  have q_hP := hP
  have q_hQ := hQ
  have q_hM1 := hM1
  have q_hM2 := hM2
  have q_hF := hF
  have rl := Lib.hid (Below.refl w9.heap.size w9)
  refine (concat_len _ _ _ hL.out (by simp [lenS, cleanP_length]; have := hfk.out; omega)).mono ?_
  rintro e w10 ⟨ca, ck, cc, rfl, hck, ho, hq⟩
  have hP := Lib.hid ((hP.out.below hq).mono hq.size)
  have hQ := Lib.hid ((hQ.out.below hq).mono hq.size)
  have hM1 := Lib.hid ((hM1.out.below hq).mono hq.size)
  have hM2 := Lib.hid ((hM2.out.below hq).mono hq.size)
  have hF := Lib.hid ((hF.out.below hq).mono hq.size)
  have rl := Lib.hid (rl.out.trans (hq.mono rl.out.size))
  clear hq
  have ho := Lib.hid ho
  have ho0 := ho.out
  have hb0 := rl.out
  go_wp2_with (at_builtin; refine app_lit rfl _ _ rfl (v := .slice ca ck cc) (n := 1) [consI 0 (n + 1) 0] rfl ho0 rfl rfl ?c1 ?c2 hb0 ?_)
  case c1 => simp; exact consI_wf _ _ _ (by omega) (by omega) (by omega)
  case c2 => simp [cleanP_length]; have := hfk.out; omega
  clear ho0 hb0 ho
  intro a11 k11 s11 w11 hk11 ho hb
  have rl := hb
  clear hb
  have hP := Lib.hid ((q_hP.out.below rl.out).mono rl.out.size)
  have hQ := Lib.hid ((q_hQ.out.below rl.out).mono rl.out.size)
  have hM1 := Lib.hid ((q_hM1.out.below rl.out).mono rl.out.size)
  have hM2 := Lib.hid ((q_hM2.out.below rl.out).mono rl.out.size)
  have hF := Lib.hid ((q_hF.out.below rl.out).mono rl.out.size)
  have heq : pairL p q = [[moveI n 0], p, [moveI (n + 1) 0, moveI 0 n], cleanP q].flatten ++ [consI 0 (n + 1) 0] := by unfold pairL; simp only [hmax.out]; simp
  have hrow := Lib.hid (show InsRow _ _ (.slice a11 k11 s11) (pairL p q) by rw [heq]; have h9 := ho.out.row (by simp [cleanP_length]; have := hfk.out; omega); simpa using h9)
  clear heq
  cases hvm : validB (pairL p q)
  · have HM := Lib.hid (hrow.out)
    go_wp2_with fail
    refine (done_bad _ _ _ _ _ HM.out hvm).mono ?_
    rintro e w12 ⟨rfl, hq⟩
    have hP := Lib.hid ((hP.out.below hq).mono hq.size)
    have hQ := Lib.hid ((hQ.out.below hq).mono hq.size)
    have hM1 := Lib.hid ((hM1.out.below hq).mono hq.size)
    have hM2 := Lib.hid ((hM2.out.below hq).mono hq.size)
    have hF := Lib.hid ((hF.out.below hq).mono hq.size)
    have HM := Lib.hid ((HM.out.below hq).mono hq.size)
    have rl := Lib.hid (rl.out.trans (hq.mono rl.out.size))
    clear hq
    go_wp2
    have hch := ch.out.trans (rl.out.mono ch.out.size)
    refine bodyPost_ret (v := .tuple #[.slice none 0 0, .int .i64 3]) (by simp [results, Try.results37, go_sem]) rfl ?_
    rw [← HD.out, hvm, if_neg (by simp)]
    exact MadeOut.bad (by decide) rfl hch
  · have HM := Lib.hid (hrow.out)
    go_wp2_with fail
    refine (done_ok _ _ _ _ _ HM.out hvm).mono ?_
    rintro e w12 ⟨rfl, hq⟩
    have hP := Lib.hid ((hP.out.below hq).mono hq.size)
    have hQ := Lib.hid ((hQ.out.below hq).mono hq.size)
    have hM1 := Lib.hid ((hM1.out.below hq).mono hq.size)
    have hM2 := Lib.hid ((hM2.out.below hq).mono hq.size)
    have hF := Lib.hid ((hF.out.below hq).mono hq.size)
    have HM := Lib.hid ((HM.out.below hq).mono hq.size)
    have rl := Lib.hid (rl.out.trans (hq.mono rl.out.size))
    clear hq
    go_wp2
    have hch := ch.out.trans (rl.out.mono ch.out.size)
    refine bodyPost_ret (v := .tuple #[.slice a11 k11 s11, .int .i64 0]) (by simp [results, Try.results37, go_sem]) rfl ?_
    rw [← HD.out, hvm, if_pos rfl]
    exact MadeOut.ok rfl rfl HM.out hch

theorem bPair_any (pa : Option Addr) (pn pc : Nat) (qa : Option Addr) (qn qc : Nat) (p q : List Ins) (w : World) (hhP : InsRow w w.heap.size (.slice pa pn pc) p) (hhQ : InsRow w w.heap.size (.slice qa qn qc) q) : Calls Try.prog 37 #[.slice pa pn pc, .slice qa qn qc] w (MadeOut w (dueN [p, q] (pairL p q)) (pairL p q)) := by
  unfold dueN
  cases hv : allV [p, q] with
  | false => rw [if_pos rfl]; exact bPair_form pa pn pc qa qn qc p q w hhP hhQ (Lib.hid hv)
  | true =>
    rw [if_neg (by simp)]
    by_cases hr : 28 < mostR [p, q]
    · rw [if_pos hr]; exact bPair_regs pa pn pc qa qn qc p q w hhP hhQ (Lib.hid hv) (Lib.hid hr)
    · rw [if_neg hr]; exact bPair_ok pa pn pc qa qn qc p q w hhP hhQ (Lib.hid hv) _ (Lib.hid rfl) (by omega) _ (Lib.hid rfl)

theorem leap_len (r : Nat) (hr : r ≤ 1000) (p : Int) (hp : i64 p) (w : World) :
    Calls Try.prog 80 #[.int .i64 r, .int .i64 p] w fun e w' => ∃ a c, e = .returned (.slice a 2 c) ∧ InsRow w' w'.heap.size (.slice a 2 c) [setI r ⟨#[49, 48, 48]⟩, jumpI r p] ∧ Below w.heap.size w w' := by
  refine (leap_any r hr p hp w).mono ?_
  rintro e w' ⟨v', rfl, h1, h2⟩
  obtain ⟨a, c, rfl⟩ := h1.len
  exact ⟨a, c, rfl, h1, h2⟩

set_option maxHeartbeats 4000000 in
theorem bIf_form (ca0 : Option Addr) (cn0 cc0 : Nat) (pa : Option Addr) (pn pc : Nat) (qa : Option Addr) (qn qc : Nat) (c p q : List Ins) (w : World) (hhC : InsRow w w.heap.size (.slice ca0 cn0 cc0) c) (hhP : InsRow w w.heap.size (.slice pa pn pc) p) (hhQ : InsRow w w.heap.size (.slice qa qn qc) q) (HV : Hid (allV [c, p, q] = false)) :
    Calls Try.prog 39 #[.slice ca0 cn0 cc0, .slice pa pn pc, .slice qa qn qc] w (MadeOut w 1 (ifL c p q)) := by
  have hC := Lib.hid hhC
  clear hhC
  have hP := Lib.hid hhP
  clear hhP
  have hQ := Lib.hid hhQ
  clear hhQ
  have ch := Lib.hid (Below.refl w.heap.size w)
  go_enter Try.func39, Try.ntmps39
  go_wp2_with fail
  have hL0 := ProgsRow.lit (w := w) [.slice ca0 cn0 cc0, .slice pa pn pc, .slice qa qn qc] [c, p, q] rfl (by simp) (fun j u l hu hl => match j, u, l, hu, hl with | 0, _, _, hu, hl => by cases hu; cases hl; exact hC.out | 1, _, _, hu, hl => by cases hu; cases hl; exact hP.out | 2, _, _, hu, hl => by cases hu; cases hl; exact hQ.out)
  obtain ⟨w1, hW⟩ : ∃ B, w.alloc (.cells #[.slice ca0 cn0 cc0, .slice pa pn pc, .slice qa qn qc] 25) = B := ⟨_, rfl⟩
  rw [hW]
  have hq : Below w.heap.size w w1 := by rw [← hW]; exact (Below.refl _ _).alloc (Nat.le_refl _) _
  have hL := Lib.hid (show ProgsRow w1 w1.heap.size (.slice (some ⟨w.heap.size, 0, none⟩) 3 3) [c, p, q] by rw [← hW]; exact hL0)
  clear hW hL0
  have hC := Lib.hid ((hC.out.below hq).mono hq.size)
  have hP := Lib.hid ((hP.out.below hq).mono hq.size)
  have hQ := Lib.hid ((hQ.out.below hq).mono hq.size)
  have ch := Lib.hid (ch.out.trans (hq.mono ch.out.size))
  clear hq
  have kc := check_any _ _ _ hL.out
  rw [show CheckOut [c, p, q] = .tuple #[.int .i64 0, .int .i64 1] by unfold CheckOut; rw [if_pos HV.out]] at kc
  refine (kc).mono ?_
  rintro e w2 ⟨rfl, hq⟩
  have hC := Lib.hid ((hC.out.below hq).mono hq.size)
  have hP := Lib.hid ((hP.out.below hq).mono hq.size)
  have hQ := Lib.hid ((hQ.out.below hq).mono hq.size)
  have ch := Lib.hid (ch.out.trans (hq.mono ch.out.size))
  clear hq
  clear kc hL
  go_wp2
  refine bodyPost_ret (v := .tuple #[.slice none 0 0, .int .i64 1]) (by simp [results, Try.results39, go_sem]) rfl ?_
  exact MadeOut.bad (by decide) rfl ch.out

set_option maxHeartbeats 4000000 in
theorem bIf_regs (ca0 : Option Addr) (cn0 cc0 : Nat) (pa : Option Addr) (pn pc : Nat) (qa : Option Addr) (qn qc : Nat) (c p q : List Ins) (w : World) (hhC : InsRow w w.heap.size (.slice ca0 cn0 cc0) c) (hhP : InsRow w w.heap.size (.slice pa pn pc) p) (hhQ : InsRow w w.heap.size (.slice qa qn qc) q) (HV : Hid (allV [c, p, q] = true)) (HR : Hid (28 < mostR [c, p, q])) :
    Calls Try.prog 39 #[.slice ca0 cn0 cc0, .slice pa pn pc, .slice qa qn qc] w (MadeOut w 8 (ifL c p q)) := by
  have hC := Lib.hid hhC
  clear hhC
  have hP := Lib.hid hhP
  clear hhP
  have hQ := Lib.hid hhQ
  clear hhQ
  have ch := Lib.hid (Below.refl w.heap.size w)
  go_enter Try.func39, Try.ntmps39
  go_wp2_with fail
  have hL0 := ProgsRow.lit (w := w) [.slice ca0 cn0 cc0, .slice pa pn pc, .slice qa qn qc] [c, p, q] rfl (by simp) (fun j u l hu hl => match j, u, l, hu, hl with | 0, _, _, hu, hl => by cases hu; cases hl; exact hC.out | 1, _, _, hu, hl => by cases hu; cases hl; exact hP.out | 2, _, _, hu, hl => by cases hu; cases hl; exact hQ.out)
  obtain ⟨w1, hW⟩ : ∃ B, w.alloc (.cells #[.slice ca0 cn0 cc0, .slice pa pn pc, .slice qa qn qc] 25) = B := ⟨_, rfl⟩
  rw [hW]
  have hq : Below w.heap.size w w1 := by rw [← hW]; exact (Below.refl _ _).alloc (Nat.le_refl _) _
  have hL := Lib.hid (show ProgsRow w1 w1.heap.size (.slice (some ⟨w.heap.size, 0, none⟩) 3 3) [c, p, q] by rw [← hW]; exact hL0)
  clear hW hL0
  have hC := Lib.hid ((hC.out.below hq).mono hq.size)
  have hP := Lib.hid ((hP.out.below hq).mono hq.size)
  have hQ := Lib.hid ((hQ.out.below hq).mono hq.size)
  have ch := Lib.hid (ch.out.trans (hq.mono ch.out.size))
  clear hq
  have kc := check_any _ _ _ hL.out
  rw [show CheckOut [c, p, q] = .tuple #[.int .i64 0, .int .i64 8] by unfold CheckOut; rw [if_neg (by rw [HV.out]; simp), if_pos HR.out]] at kc
  refine (kc).mono ?_
  rintro e w2 ⟨rfl, hq⟩
  have hC := Lib.hid ((hC.out.below hq).mono hq.size)
  have hP := Lib.hid ((hP.out.below hq).mono hq.size)
  have hQ := Lib.hid ((hQ.out.below hq).mono hq.size)
  have ch := Lib.hid (ch.out.trans (hq.mono ch.out.size))
  clear hq
  clear kc hL
  go_wp2
  refine bodyPost_ret (v := .tuple #[.slice none 0 0, .int .i64 8]) (by simp [results, Try.results39, go_sem]) rfl ?_
  exact MadeOut.bad (by decide) rfl ch.out

set_option maxHeartbeats 4000000 in
theorem bIf_ok (ca0 : Option Addr) (cn0 cc0 : Nat) (pa : Option Addr) (pn pc : Nat) (qa : Option Addr) (qn qc : Nat) (c p q : List Ins) (w : World) (hhC : InsRow w w.heap.size (.slice ca0 cn0 cc0) c) (hhP : InsRow w w.heap.size (.slice pa pn pc) p) (hhQ : InsRow w w.heap.size (.slice qa qn qc) q) (HV : Hid (allV [c, p, q] = true)) (n : Nat) (HN : Hid (mostR [c, p, q] = n)) (hn28 : n ≤ 28) (d : Int) (HD : Hid ((if validB (ifL c p q) = true then 0 else 3) = d)) :
    Calls Try.prog 39 #[.slice ca0 cn0 cc0, .slice pa pn pc, .slice qa qn qc] w (MadeOut w d (ifL c p q)) := by
  have hC := Lib.hid hhC
  clear hhC
  have hP := Lib.hid hhP
  clear hhP
  have hQ := Lib.hid hhQ
  clear hhQ
  have ch := Lib.hid (Below.refl w.heap.size w)
  go_enter Try.func39, Try.ntmps39
  go_wp2_with fail
  have hL0 := ProgsRow.lit (w := w) [.slice ca0 cn0 cc0, .slice pa pn pc, .slice qa qn qc] [c, p, q] rfl (by simp) (fun j u l hu hl => match j, u, l, hu, hl with | 0, _, _, hu, hl => by cases hu; cases hl; exact hC.out | 1, _, _, hu, hl => by cases hu; cases hl; exact hP.out | 2, _, _, hu, hl => by cases hu; cases hl; exact hQ.out)
  obtain ⟨w1, hW⟩ : ∃ B, w.alloc (.cells #[.slice ca0 cn0 cc0, .slice pa pn pc, .slice qa qn qc] 25) = B := ⟨_, rfl⟩
  rw [hW]
  have hq : Below w.heap.size w w1 := by rw [← hW]; exact (Below.refl _ _).alloc (Nat.le_refl _) _
  have hL := Lib.hid (show ProgsRow w1 w1.heap.size (.slice (some ⟨w.heap.size, 0, none⟩) 3 3) [c, p, q] by rw [← hW]; exact hL0)
  clear hW hL0
  have hC := Lib.hid ((hC.out.below hq).mono hq.size)
  have hP := Lib.hid ((hP.out.below hq).mono hq.size)
  have hQ := Lib.hid ((hQ.out.below hq).mono hq.size)
  have ch := Lib.hid (ch.out.trans (hq.mono ch.out.size))
  clear hq
  have kc := check_any _ _ _ hL.out
  rw [show CheckOut [c, p, q] = .tuple #[.int .i64 (n : Nat), .int .i64 0] by unfold CheckOut; rw [if_neg (by rw [HV.out]; simp), if_neg (by rw [HN.out]; omega), HN.out]] at kc
  refine (kc).mono ?_
  rintro e w2 ⟨rfl, hq⟩
  have hC := Lib.hid ((hC.out.below hq).mono hq.size)
  have hP := Lib.hid ((hP.out.below hq).mono hq.size)
  have hQ := Lib.hid ((hQ.out.below hq).mono hq.size)
  have ch := Lib.hid (ch.out.trans (hq.mono ch.out.size))
  clear hq
  clear kc hL
  have hvc := allV_get HV.out (k := 0) (l := c) rfl
  have hvp := allV_get HV.out (k := 1) (l := p) rfl
  have hvq := allV_get HV.out (k := 2) (l := q) rfl
  have hc4 := validB_len hvc
  have hp4 := validB_len hvp
  have hq4 := validB_len hvq
  have hmax : Hid (max (regN c) (max (regN p) (regN q)) = n) := Lib.hid (by have h1 := HN.out; have h2 := regN_le (validB_all hvp); unfold mostR at h1; simp at h1; omega)
  go_wp2_with fail
  refine (bmove_any 0 (n : Nat) _).mono ?_
  rintro e w3 ⟨rfl, hq⟩
  have hC := Lib.hid ((hC.out.below hq).mono hq.size)
  have hP := Lib.hid ((hP.out.below hq).mono hq.size)
  have hQ := Lib.hid ((hQ.out.below hq).mono hq.size)
  have ch := Lib.hid (ch.out.trans (hq.mono ch.out.size))
  clear hq
  go_wp2_with fail
  have q_hC := hC
  have q_hP := hP
  have q_hQ := hQ
  have rl := Lib.hid (Below.refl w3.heap.size w3)
  obtain ⟨w4, hW⟩ : ∃ B, w3.alloc (.cells #[.int .i64 1, .int .i64 0, .int .i64 (n : Nat), .int .i64 0, .string ⟨#[]⟩] 52) = B := ⟨_, rfl⟩
  rw [hW]
  have hq : Below w3.heap.size w3 w4 := by rw [← hW]; exact (Below.refl _ _).alloc (Nat.le_refl _) _
  have hy := Lib.hid (show OwnI w4 w3.heap.size (.slice (some ⟨w3.heap.size, 0, none⟩) 1 1) [moveI 0 n] by rw [← hW]; exact OwnI.lit w3 [moveI 0 n] (by simp; exact moveI_wf _ _ (by omega) (by omega)) (by simp))
  clear hW
  have hC := Lib.hid ((hC.out.below hq).mono hq.size)
  have hP := Lib.hid ((hP.out.below hq).mono hq.size)
  have hQ := Lib.hid ((hQ.out.below hq).mono hq.size)
  have rl := Lib.hid (rl.out.trans (hq.mono rl.out.size))
  clear hq
  refine (fresh_len _ p _ hP.out hvp).mono ?_
  rintro e w5 ⟨fa, fk, fc, rfl, hfk, hF, hq⟩
  have hC := Lib.hid ((hC.out.below hq).mono hq.size)
  have hP := Lib.hid ((hP.out.below hq).mono hq.size)
  have hQ := Lib.hid ((hQ.out.below hq).mono hq.size)
  have hy := Lib.hid (hy.out.below hq)
  have rl := Lib.hid (rl.out.trans (hq.mono rl.out.size))
  clear hq
  have hF := Lib.hid hF
  have ho0 := hy.out
  have hb0 := rl.out
  have hs0 := hF.out
  go_wp2_with (at_builtin; refine app_row rfl _ _ rfl (v := .slice (some ⟨w3.heap.size, 0, none⟩) 1 1) (vx := .slice fa fk fc) rfl ho0 rfl hs0 ?c2 hb0 ?_)
  case c2 => have := hfk.out; simp [cleanP_length]; omega
  clear ho0 hb0 hs0 hy
  intro a6 k6 s6 w6 hk6 hy hb
  have rl := hb
  clear hb
  have hC := Lib.hid ((q_hC.out.below rl.out).mono rl.out.size)
  have hP := Lib.hid ((q_hP.out.below rl.out).mono rl.out.size)
  have hQ := Lib.hid ((q_hQ.out.below rl.out).mono rl.out.size)
  clear hF
  have ch := Lib.hid (ch.out.trans (rl.out.mono ch.out.size))
  have hYes := Lib.hid (hy.out.row (by have := hfk.out; simp [cleanP_length]; omega))
  have hky : Hid (k6 = 1 + (mostN p + p.length)) := Lib.hid (by have h8 := hk6.out; simp [cleanP_length] at h8; omega)
  have hkyI : (k6 : Int) ≤ 5000 := by have := hky.out; have := hfk.out; omega
  have hky0 : (0 : Int) ≤ (k6 : Int) := Int.natCast_nonneg _
  go_wp2_with fail
  refine (bmove_any 0 (n : Nat) _).mono ?_
  rintro e w7 ⟨rfl, hq⟩
  have hC := Lib.hid ((hC.out.below hq).mono hq.size)
  have hP := Lib.hid ((hP.out.below hq).mono hq.size)
  have hQ := Lib.hid ((hQ.out.below hq).mono hq.size)
  have hYes := Lib.hid ((hYes.out.below hq).mono hq.size)
  have ch := Lib.hid (ch.out.trans (hq.mono ch.out.size))
  clear hq
  go_wp2_with fail
  obtain ⟨w8, hW⟩ : ∃ B, w7.alloc (.cells #[.int .i64 1, .int .i64 0, .int .i64 (n : Nat), .int .i64 0, .string ⟨#[]⟩] 52) = B := ⟨_, rfl⟩
  rw [hW]
  have hq : Below w7.heap.size w7 w8 := by rw [← hW]; exact (Below.refl _ _).alloc (Nat.le_refl _) _
  have hM1 := Lib.hid (show InsRow w8 w8.heap.size (.slice (some ⟨w7.heap.size, 0, none⟩) 1 1) [moveI 0 n] by rw [← hW]; exact (OwnI.lit w7 [moveI 0 n] (by simp; exact moveI_wf _ _ (by omega) (by omega)) (by simp)).row (by simp))
  clear hW
  have hC := Lib.hid ((hC.out.below hq).mono hq.size)
  have hP := Lib.hid ((hP.out.below hq).mono hq.size)
  have hQ := Lib.hid ((hQ.out.below hq).mono hq.size)
  have hYes := Lib.hid ((hYes.out.below hq).mono hq.size)
  have ch := Lib.hid (ch.out.trans (hq.mono ch.out.size))
  clear hq
  refine (fresh_len _ q _ hQ.out hvq).mono ?_
  rintro e w9 ⟨ga, gk, gc, rfl, hgk, hG, hq⟩
  have hC := Lib.hid ((hC.out.below hq).mono hq.size)
  have hP := Lib.hid ((hP.out.below hq).mono hq.size)
  have hQ := Lib.hid ((hQ.out.below hq).mono hq.size)
  have hYes := Lib.hid ((hYes.out.below hq).mono hq.size)
  have hM1 := Lib.hid ((hM1.out.below hq).mono hq.size)
  have ch := Lib.hid (ch.out.trans (hq.mono ch.out.size))
  clear hq
  have hG := Lib.hid hG
  go_wp2_with fail
  refine (leap_len (n : Nat) (by omega) (1 + (k6 : Int)) (by unfold i64; omega) _).mono ?_
  rintro e w10 ⟨la, lc, rfl, hLp, hq⟩
  have hC := Lib.hid ((hC.out.below hq).mono hq.size)
  have hP := Lib.hid ((hP.out.below hq).mono hq.size)
  have hQ := Lib.hid ((hQ.out.below hq).mono hq.size)
  have hYes := Lib.hid ((hYes.out.below hq).mono hq.size)
  have hM1 := Lib.hid ((hM1.out.below hq).mono hq.size)
  have hG := Lib.hid ((hG.out.below hq).mono hq.size)
  have ch := Lib.hid (ch.out.trans (hq.mono ch.out.size))
  clear hq
  have hLp := Lib.hid hLp
  go_wp2_with fail
  have hL0 := ProgsRow.lit (w := w10) [.slice (some ⟨w7.heap.size, 0, none⟩) 1 1, .slice ga gk gc, .slice la 2 lc] [[moveI 0 n], cleanP q, [setI n ⟨#[49, 48, 48]⟩, jumpI n (1 + (k6 : Int))]] rfl (by simp) (fun j u l hu hl => match j, u, l, hu, hl with | 0, _, _, hu, hl => by cases hu; cases hl; exact hM1.out | 1, _, _, hu, hl => by cases hu; cases hl; exact hG.out | 2, _, _, hu, hl => by cases hu; cases hl; exact hLp.out)
  obtain ⟨w11, hW⟩ : ∃ B, w10.alloc (.cells #[.slice (some ⟨w7.heap.size, 0, none⟩) 1 1, .slice ga gk gc, .slice la 2 lc] 25) = B := ⟨_, rfl⟩
  rw [hW]
  have hq : Below w10.heap.size w10 w11 := by rw [← hW]; exact (Below.refl _ _).alloc (Nat.le_refl _) _
  have hL := Lib.hid (show ProgsRow w11 w11.heap.size (.slice (some ⟨w10.heap.size, 0, none⟩) 3 3) [[moveI 0 n], cleanP q, [setI n ⟨#[49, 48, 48]⟩, jumpI n (1 + (k6 : Int))]] by rw [← hW]; exact hL0)
  clear hW hL0
  have hC := Lib.hid ((hC.out.below hq).mono hq.size)
  have hP := Lib.hid ((hP.out.below hq).mono hq.size)
  have hQ := Lib.hid ((hQ.out.below hq).mono hq.size)
  have hYes := Lib.hid ((hYes.out.below hq).mono hq.size)
  have hM1 := Lib.hid ((hM1.out.below hq).mono hq.size)
  have hG := Lib.hid ((hG.out.below hq).mono hq.size)
  have hLp := Lib.hid ((hLp.out.below hq).mono hq.size)
  have ch := Lib.hid (ch.out.trans (hq.mono ch.out.size))
  clear hq
  have q_hC := hC
  have q_hP := hP
  have q_hQ := hQ
  have q_hYes := hYes
  have q_hM1 := hM1
  have q_hG := hG
  have q_hLp := hLp
  have rl := Lib.hid (Below.refl w11.heap.size w11)
  refine (concat_len _ _ _ hL.out (by simp [lenS, cleanP_length]; have := hgk.out; omega)).mono ?_
  rintro e w12 ⟨ca, ck, cc, rfl, hck, ho, hq⟩
  have hC := Lib.hid ((hC.out.below hq).mono hq.size)
  have hP := Lib.hid ((hP.out.below hq).mono hq.size)
  have hQ := Lib.hid ((hQ.out.below hq).mono hq.size)
  have hYes := Lib.hid ((hYes.out.below hq).mono hq.size)
  have hM1 := Lib.hid ((hM1.out.below hq).mono hq.size)
  have hG := Lib.hid ((hG.out.below hq).mono hq.size)
  have hLp := Lib.hid ((hLp.out.below hq).mono hq.size)
  have rl := Lib.hid (rl.out.trans (hq.mono rl.out.size))
  clear hq
  have ho := Lib.hid ho
  have ch := Lib.hid (ch.out.trans (rl.out.mono ch.out.size))
  have hkn : Hid (ck = 3 + (mostN q + q.length)) := Lib.hid (by have h8 := hck.out; simp [lenS, cleanP_length] at h8; omega)
  have hknI : (ck : Int) ≤ 5000 := by have := hkn.out; have := hgk.out; omega
  have hkn0 : (0 : Int) ≤ (ck : Int) := Int.natCast_nonneg _
  have hNo := Lib.hid (ho.out.row (by simp [cleanP_length]; have := hgk.out; omega))
  go_wp2_with fail
  refine (bmove_any (n : Nat) 0 _).mono ?_
  rintro e w13 ⟨rfl, hq⟩
  have hC := Lib.hid ((hC.out.below hq).mono hq.size)
  have hP := Lib.hid ((hP.out.below hq).mono hq.size)
  have hQ := Lib.hid ((hQ.out.below hq).mono hq.size)
  have hYes := Lib.hid ((hYes.out.below hq).mono hq.size)
  have hM1 := Lib.hid ((hM1.out.below hq).mono hq.size)
  have hG := Lib.hid ((hG.out.below hq).mono hq.size)
  have hLp := Lib.hid ((hLp.out.below hq).mono hq.size)
  have hNo := Lib.hid ((hNo.out.below hq).mono hq.size)
  have ch := Lib.hid (ch.out.trans (hq.mono ch.out.size))
  clear hq
  go_wp2_with fail
  obtain ⟨w14, hW⟩ : ∃ B, w13.alloc (.cells #[.int .i64 1, .int .i64 (n : Nat), .int .i64 0, .int .i64 0, .string ⟨#[]⟩] 52) = B := ⟨_, rfl⟩
  rw [hW]
  have hq : Below w13.heap.size w13 w14 := by rw [← hW]; exact (Below.refl _ _).alloc (Nat.le_refl _) _
  have hA1 := Lib.hid (show InsRow w14 w14.heap.size (.slice (some ⟨w13.heap.size, 0, none⟩) 1 1) [moveI n 0] by rw [← hW]; exact (OwnI.lit w13 [moveI n 0] (by simp; exact moveI_wf _ _ (by omega) (by omega)) (by simp)).row (by simp))
  have hz_w14 : w14.heap.size = w13.heap.size + 1 := by rw [← hW]; simp
  clear hW
  have hC := Lib.hid ((hC.out.below hq).mono hq.size)
  have hP := Lib.hid ((hP.out.below hq).mono hq.size)
  have hQ := Lib.hid ((hQ.out.below hq).mono hq.size)
  have hYes := Lib.hid ((hYes.out.below hq).mono hq.size)
  have hM1 := Lib.hid ((hM1.out.below hq).mono hq.size)
  have hG := Lib.hid ((hG.out.below hq).mono hq.size)
  have hLp := Lib.hid ((hLp.out.below hq).mono hq.size)
  have hNo := Lib.hid ((hNo.out.below hq).mono hq.size)
  have ch := Lib.hid (ch.out.trans (hq.mono ch.out.size))
  clear hq
  obtain ⟨w15, hW⟩ : ∃ B, w14.alloc (.cells #[.int .i64 5, .int .i64 0, .int .i64 (1 + (ck : Int)), .int .i64 0, .string ⟨#[]⟩] 52) = B := ⟨_, rfl⟩
  rw [hW]
  have hq : Below w14.heap.size w14 w15 := by rw [← hW]; exact (Below.refl _ _).alloc (Nat.le_refl _) _
  have hJ := Lib.hid (show InsRow w15 w15.heap.size (.slice (some ⟨w13.heap.size + 1, 0, none⟩) 1 1) [jumpI 0 (1 + (ck : Int))] by rw [← hz_w14, ← hW]; exact (OwnI.lit w14 [jumpI 0 (1 + (ck : Int))] (by simp; exact jumpI_wf _ _ (by omega) (by omega)) (by simp)).row (by simp))
  have hz_w15 : w15.heap.size = w13.heap.size + 1 + 1 := by rw [← hW]; simp [hz_w14]
  clear hW
  have hC := Lib.hid ((hC.out.below hq).mono hq.size)
  have hP := Lib.hid ((hP.out.below hq).mono hq.size)
  have hQ := Lib.hid ((hQ.out.below hq).mono hq.size)
  have hYes := Lib.hid ((hYes.out.below hq).mono hq.size)
  have hM1 := Lib.hid ((hM1.out.below hq).mono hq.size)
  have hG := Lib.hid ((hG.out.below hq).mono hq.size)
  have hLp := Lib.hid ((hLp.out.below hq).mono hq.size)
  have hNo := Lib.hid ((hNo.out.below hq).mono hq.size)
  have hA1 := Lib.hid ((hA1.out.below hq).mono hq.size)
  have ch := Lib.hid (ch.out.trans (hq.mono ch.out.size))
  clear hq
  have hL20 := ProgsRow.lit (w := w15) [.slice (some ⟨w13.heap.size, 0, none⟩) 1 1, .slice ca0 cn0 cc0, .slice (some ⟨w13.heap.size + 1, 0, none⟩) 1 1, .slice ca ck cc, .slice a6 k6 s6] [[moveI n 0], c, [jumpI 0 (1 + (ck : Int))], [[moveI 0 n], cleanP q, [setI n ⟨#[49, 48, 48]⟩, jumpI n (1 + (k6 : Int))]].flatten, ([moveI 0 n] ++ cleanP p)] rfl (by simp) (fun j u l hu hl => match j, u, l, hu, hl with | 0, _, _, hu, hl => by cases hu; cases hl; exact hA1.out | 1, _, _, hu, hl => by cases hu; cases hl; exact hC.out | 2, _, _, hu, hl => by cases hu; cases hl; exact hJ.out | 3, _, _, hu, hl => by cases hu; cases hl; exact hNo.out | 4, _, _, hu, hl => by cases hu; cases hl; exact hYes.out)
  obtain ⟨w16, hW⟩ : ∃ B, w15.alloc (.cells #[.slice (some ⟨w13.heap.size, 0, none⟩) 1 1, .slice ca0 cn0 cc0, .slice (some ⟨w13.heap.size + 1, 0, none⟩) 1 1, .slice ca ck cc, .slice a6 k6 s6] 25) = B := ⟨_, rfl⟩
  rw [hW]
  have hq : Below w15.heap.size w15 w16 := by rw [← hW]; exact (Below.refl _ _).alloc (Nat.le_refl _) _
  have hL2 := Lib.hid (show ProgsRow w16 w16.heap.size (.slice (some ⟨w15.heap.size, 0, none⟩) 5 5) [[moveI n 0], c, [jumpI 0 (1 + (ck : Int))], [[moveI 0 n], cleanP q, [setI n ⟨#[49, 48, 48]⟩, jumpI n (1 + (k6 : Int))]].flatten, ([moveI 0 n] ++ cleanP p)] by rw [← hW]; exact hL20)
  rw [hz_w15] at hL2
  clear hW hL20
  have hC := Lib.hid ((hC.out.below hq).mono hq.size)
  have hP := Lib.hid ((hP.out.below hq).mono hq.size)
  have hQ := Lib.hid ((hQ.out.below hq).mono hq.size)
  have hYes := Lib.hid ((hYes.out.below hq).mono hq.size)
  have hM1 := Lib.hid ((hM1.out.below hq).mono hq.size)
  have hG := Lib.hid ((hG.out.below hq).mono hq.size)
  have hLp := Lib.hid ((hLp.out.below hq).mono hq.size)
  have hNo := Lib.hid ((hNo.out.below hq).mono hq.size)
  have hA1 := Lib.hid ((hA1.out.below hq).mono hq.size)
  have hJ := Lib.hid ((hJ.out.below hq).mono hq.size)
  have ch := Lib.hid (ch.out.trans (hq.mono ch.out.size))
  clear hq
  have q_hC := hC
  have q_hP := hP
  have q_hQ := hQ
  have q_hYes := hYes
  have q_hM1 := hM1
  have q_hG := hG
  have q_hLp := hLp
  have q_hNo := hNo
  have q_hA1 := hA1
  have q_hJ := hJ
  have rl := Lib.hid (Below.refl w16.heap.size w16)
  refine (concat_len _ _ _ hL2.out (by simp [lenS, cleanP_length]; have := hgk.out; have := hfk.out; omega)).mono ?_
  rintro e w17 ⟨da, dk, dc, rfl, hdk, ho2, hq⟩
  have hC := Lib.hid ((hC.out.below hq).mono hq.size)
  have hP := Lib.hid ((hP.out.below hq).mono hq.size)
  have hQ := Lib.hid ((hQ.out.below hq).mono hq.size)
  have hYes := Lib.hid ((hYes.out.below hq).mono hq.size)
  have hM1 := Lib.hid ((hM1.out.below hq).mono hq.size)
  have hG := Lib.hid ((hG.out.below hq).mono hq.size)
  have hLp := Lib.hid ((hLp.out.below hq).mono hq.size)
  have hNo := Lib.hid ((hNo.out.below hq).mono hq.size)
  have hA1 := Lib.hid ((hA1.out.below hq).mono hq.size)
  have hJ := Lib.hid ((hJ.out.below hq).mono hq.size)
  have rl := Lib.hid (rl.out.trans (hq.mono rl.out.size))
  clear hq
  have ho2 := Lib.hid ho2
  have e1 : ((cleanP q).length : Int) + 4 = 1 + (ck : Int) := by rw [cleanP_length]; have := hkn.out; omega
  have e2 : ((cleanP p).length : Int) + 2 = 1 + (k6 : Int) := by rw [cleanP_length]; have := hky.out; omega
  have heq : ifL c p q = [[moveI n 0], c, [jumpI 0 (1 + (ck : Int))], [[moveI 0 n], cleanP q, [setI n ⟨#[49, 48, 48]⟩, jumpI n (1 + (k6 : Int))]].flatten, [moveI 0 n] ++ cleanP p].flatten := by unfold ifL; simp only [hmax.out, e1, e2]; simp
  have hrow := Lib.hid (show InsRow _ _ (.slice da dk dc) (ifL c p q) by rw [heq]; have h9 := ho2.out.row (by simp [cleanP_length]; have := hgk.out; have := hfk.out; omega); simpa using h9)
  clear heq e1 e2
  cases hvm : validB (ifL c p q)
  · have HM := Lib.hid (hrow.out)
    go_wp2_with fail
    refine (done_bad _ _ _ _ _ HM.out hvm).mono ?_
    rintro e w18 ⟨rfl, hq⟩
    have hC := Lib.hid ((hC.out.below hq).mono hq.size)
    have hP := Lib.hid ((hP.out.below hq).mono hq.size)
    have hQ := Lib.hid ((hQ.out.below hq).mono hq.size)
    have hYes := Lib.hid ((hYes.out.below hq).mono hq.size)
    have hM1 := Lib.hid ((hM1.out.below hq).mono hq.size)
    have hG := Lib.hid ((hG.out.below hq).mono hq.size)
    have hLp := Lib.hid ((hLp.out.below hq).mono hq.size)
    have hNo := Lib.hid ((hNo.out.below hq).mono hq.size)
    have hA1 := Lib.hid ((hA1.out.below hq).mono hq.size)
    have hJ := Lib.hid ((hJ.out.below hq).mono hq.size)
    have HM := Lib.hid ((HM.out.below hq).mono hq.size)
    have rl := Lib.hid (rl.out.trans (hq.mono rl.out.size))
    clear hq
    go_wp2
    have hch := ch.out.trans (rl.out.mono ch.out.size)
    refine bodyPost_ret (v := .tuple #[.slice none 0 0, .int .i64 3]) (by simp [results, Try.results39, go_sem]) rfl ?_
    rw [← HD.out, hvm, if_neg (by simp)]
    exact MadeOut.bad (by decide) rfl hch
  · have HM := Lib.hid (hrow.out)
    go_wp2_with fail
    refine (done_ok _ _ _ _ _ HM.out hvm).mono ?_
    rintro e w18 ⟨rfl, hq⟩
    have hC := Lib.hid ((hC.out.below hq).mono hq.size)
    have hP := Lib.hid ((hP.out.below hq).mono hq.size)
    have hQ := Lib.hid ((hQ.out.below hq).mono hq.size)
    have hYes := Lib.hid ((hYes.out.below hq).mono hq.size)
    have hM1 := Lib.hid ((hM1.out.below hq).mono hq.size)
    have hG := Lib.hid ((hG.out.below hq).mono hq.size)
    have hLp := Lib.hid ((hLp.out.below hq).mono hq.size)
    have hNo := Lib.hid ((hNo.out.below hq).mono hq.size)
    have hA1 := Lib.hid ((hA1.out.below hq).mono hq.size)
    have hJ := Lib.hid ((hJ.out.below hq).mono hq.size)
    have HM := Lib.hid ((HM.out.below hq).mono hq.size)
    have rl := Lib.hid (rl.out.trans (hq.mono rl.out.size))
    clear hq
    go_wp2
    have hch := ch.out.trans (rl.out.mono ch.out.size)
    refine bodyPost_ret (v := .tuple #[.slice da dk dc, .int .i64 0]) (by simp [results, Try.results39, go_sem]) rfl ?_
    rw [← HD.out, hvm, if_pos rfl]
    exact MadeOut.ok rfl rfl HM.out hch

theorem bIf_any (ca0 : Option Addr) (cn0 cc0 : Nat) (pa : Option Addr) (pn pc : Nat) (qa : Option Addr) (qn qc : Nat) (c p q : List Ins) (w : World) (hhC : InsRow w w.heap.size (.slice ca0 cn0 cc0) c) (hhP : InsRow w w.heap.size (.slice pa pn pc) p) (hhQ : InsRow w w.heap.size (.slice qa qn qc) q) : Calls Try.prog 39 #[.slice ca0 cn0 cc0, .slice pa pn pc, .slice qa qn qc] w (MadeOut w (dueN [c, p, q] (ifL c p q)) (ifL c p q)) := by
  unfold dueN
  cases hv : allV [c, p, q] with
  | false => rw [if_pos rfl]; exact bIf_form ca0 cn0 cc0 pa pn pc qa qn qc c p q w hhC hhP hhQ (Lib.hid hv)
  | true =>
    rw [if_neg (by simp)]
    by_cases hr : 28 < mostR [c, p, q]
    · rw [if_pos hr]; exact bIf_regs ca0 cn0 cc0 pa pn pc qa qn qc c p q w hhC hhP hhQ (Lib.hid hv) (Lib.hid hr)
    · rw [if_neg hr]; exact bIf_ok ca0 cn0 cc0 pa pn pc qa qn qc c p q w hhC hhP hhQ (Lib.hid hv) _ (Lib.hid rfl) (by omega) _ (Lib.hid rfl)

end Go.Proofs.Ytaiomcjopgnfpaa


/- Programs out of programs: build.While. -/
import Derived.Test.YtaiomcjopgnfpaaAppG
namespace Go.Proofs.Ytaiomcjopgnfpaa
open Go.RowKit

set_option maxHeartbeats 4000000 in
theorem bWhile_form (ca0 : Option Addr) (cn0 cc0 : Nat) (pa : Option Addr) (pn pc : Nat) (c p : List Ins) (w : World) (hhC : InsRow w w.heap.size (.slice ca0 cn0 cc0) c) (hhP : InsRow w w.heap.size (.slice pa pn pc) p) (HV : Hid (allV [c, p] = false)) :
    Calls Try.prog 28 #[.slice ca0 cn0 cc0, .slice pa pn pc] w (MadeOut w 1 (whileL c p)) := by
  have hC := Lib.hid hhC
  clear hhC
  have hP := Lib.hid hhP
  clear hhP
  have ch := Lib.hid (Below.refl w.heap.size w)
  go_enter Try.func28, Try.ntmps28
  go_wp2_with fail
  have hL0 := ProgsRow.lit (w := w) [.slice ca0 cn0 cc0, .slice pa pn pc] [c, p] rfl (by simp) (fun j u l hu hl => match j, u, l, hu, hl with | 0, _, _, hu, hl => by cases hu; cases hl; exact hC.out | 1, _, _, hu, hl => by cases hu; cases hl; exact hP.out)
  obtain ⟨w1, hW⟩ : ∃ B, w.alloc (.cells #[.slice ca0 cn0 cc0, .slice pa pn pc] 25) = B := ⟨_, rfl⟩
  rw [hW]
  have hq : Below w.heap.size w w1 := by rw [← hW]; exact (Below.refl _ _).alloc (Nat.le_refl _) _
  have hL := Lib.hid (show ProgsRow w1 w1.heap.size (.slice (some ⟨w.heap.size, 0, none⟩) 2 2) [c, p] by rw [← hW]; exact hL0)
  clear hW hL0
  have hC := Lib.hid ((hC.out.below hq).mono hq.size)
  have hP := Lib.hid ((hP.out.below hq).mono hq.size)
  have ch := Lib.hid (ch.out.trans (hq.mono ch.out.size))
  clear hq
  have kc := check_any _ _ _ hL.out
  rw [show CheckOut [c, p] = .tuple #[.int .i64 0, .int .i64 1] by unfold CheckOut; rw [if_pos HV.out]] at kc
  refine (kc).mono ?_
  rintro e w2 ⟨rfl, hq⟩
  have hC := Lib.hid ((hC.out.below hq).mono hq.size)
  have hP := Lib.hid ((hP.out.below hq).mono hq.size)
  have ch := Lib.hid (ch.out.trans (hq.mono ch.out.size))
  clear hq
  clear kc hL
  go_wp2
  refine bodyPost_ret (v := .tuple #[.slice none 0 0, .int .i64 1]) (by simp [results, Try.results28, go_sem]) rfl ?_
  exact MadeOut.bad (by decide) rfl ch.out

set_option maxHeartbeats 4000000 in
theorem bWhile_regs (ca0 : Option Addr) (cn0 cc0 : Nat) (pa : Option Addr) (pn pc : Nat) (c p : List Ins) (w : World) (hhC : InsRow w w.heap.size (.slice ca0 cn0 cc0) c) (hhP : InsRow w w.heap.size (.slice pa pn pc) p) (HV : Hid (allV [c, p] = true)) (HR : Hid (28 < mostR [c, p])) :
    Calls Try.prog 28 #[.slice ca0 cn0 cc0, .slice pa pn pc] w (MadeOut w 8 (whileL c p)) := by
  have hC := Lib.hid hhC
  clear hhC
  have hP := Lib.hid hhP
  clear hhP
  have ch := Lib.hid (Below.refl w.heap.size w)
  go_enter Try.func28, Try.ntmps28
  go_wp2_with fail
  have hL0 := ProgsRow.lit (w := w) [.slice ca0 cn0 cc0, .slice pa pn pc] [c, p] rfl (by simp) (fun j u l hu hl => match j, u, l, hu, hl with | 0, _, _, hu, hl => by cases hu; cases hl; exact hC.out | 1, _, _, hu, hl => by cases hu; cases hl; exact hP.out)
  obtain ⟨w1, hW⟩ : ∃ B, w.alloc (.cells #[.slice ca0 cn0 cc0, .slice pa pn pc] 25) = B := ⟨_, rfl⟩
  rw [hW]
  have hq : Below w.heap.size w w1 := by rw [← hW]; exact (Below.refl _ _).alloc (Nat.le_refl _) _
  have hL := Lib.hid (show ProgsRow w1 w1.heap.size (.slice (some ⟨w.heap.size, 0, none⟩) 2 2) [c, p] by rw [← hW]; exact hL0)
  clear hW hL0
  have hC := Lib.hid ((hC.out.below hq).mono hq.size)
  have hP := Lib.hid ((hP.out.below hq).mono hq.size)
  have ch := Lib.hid (ch.out.trans (hq.mono ch.out.size))
  clear hq
  have kc := check_any _ _ _ hL.out
  rw [show CheckOut [c, p] = .tuple #[.int .i64 0, .int .i64 8] by unfold CheckOut; rw [if_neg (by rw [HV.out]; simp), if_pos HR.out]] at kc
  refine (kc).mono ?_
  rintro e w2 ⟨rfl, hq⟩
  have hC := Lib.hid ((hC.out.below hq).mono hq.size)
  have hP := Lib.hid ((hP.out.below hq).mono hq.size)
  have ch := Lib.hid (ch.out.trans (hq.mono ch.out.size))
  clear hq
  clear kc hL
  go_wp2
  refine bodyPost_ret (v := .tuple #[.slice none 0 0, .int .i64 8]) (by simp [results, Try.results28, go_sem]) rfl ?_
  exact MadeOut.bad (by decide) rfl ch.out

set_option maxHeartbeats 4000000 in
theorem bWhile_ok (ca0 : Option Addr) (cn0 cc0 : Nat) (pa : Option Addr) (pn pc : Nat) (c p : List Ins) (w : World) (hhC : InsRow w w.heap.size (.slice ca0 cn0 cc0) c) (hhP : InsRow w w.heap.size (.slice pa pn pc) p) (HV : Hid (allV [c, p] = true)) (n : Nat) (HN : Hid (mostR [c, p] = n)) (hn28 : n ≤ 28) (d : Int) (HD : Hid ((if validB (whileL c p) = true then 0 else 3) = d)) :
    Calls Try.prog 28 #[.slice ca0 cn0 cc0, .slice pa pn pc] w (MadeOut w d (whileL c p)) := by
  have hC := Lib.hid hhC
  clear hhC
  have hP := Lib.hid hhP
  clear hhP
  have ch := Lib.hid (Below.refl w.heap.size w)
  go_enter Try.func28, Try.ntmps28
  go_wp2_with fail
  have hL0 := ProgsRow.lit (w := w) [.slice ca0 cn0 cc0, .slice pa pn pc] [c, p] rfl (by simp) (fun j u l hu hl => match j, u, l, hu, hl with | 0, _, _, hu, hl => by cases hu; cases hl; exact hC.out | 1, _, _, hu, hl => by cases hu; cases hl; exact hP.out)
  obtain ⟨w1, hW⟩ : ∃ B, w.alloc (.cells #[.slice ca0 cn0 cc0, .slice pa pn pc] 25) = B := ⟨_, rfl⟩
  rw [hW]
  have hq : Below w.heap.size w w1 := by rw [← hW]; exact (Below.refl _ _).alloc (Nat.le_refl _) _
  have hL := Lib.hid (show ProgsRow w1 w1.heap.size (.slice (some ⟨w.heap.size, 0, none⟩) 2 2) [c, p] by rw [← hW]; exact hL0)
  clear hW hL0
  have hC := Lib.hid ((hC.out.below hq).mono hq.size)
  have hP := Lib.hid ((hP.out.below hq).mono hq.size)
  have ch := Lib.hid (ch.out.trans (hq.mono ch.out.size))
  clear hq
  have kc := check_any _ _ _ hL.out
  rw [show CheckOut [c, p] = .tuple #[.int .i64 (n : Nat), .int .i64 0] by unfold CheckOut; rw [if_neg (by rw [HV.out]; simp), if_neg (by rw [HN.out]; omega), HN.out]] at kc
  refine (kc).mono ?_
  rintro e w2 ⟨rfl, hq⟩
  have hC := Lib.hid ((hC.out.below hq).mono hq.size)
  have hP := Lib.hid ((hP.out.below hq).mono hq.size)
  have ch := Lib.hid (ch.out.trans (hq.mono ch.out.size))
  clear hq
  clear kc hL
  have hvc := allV_get HV.out (k := 0) (l := c) rfl
  have hvp := allV_get HV.out (k := 1) (l := p) rfl
  have hc4 := validB_len hvc
  have hp4 := validB_len hvp
  have hmax : Hid (max (regN c) (regN p) = n) := Lib.hid (by have h1 := HN.out; have h2 := regN_le (validB_all hvp); unfold mostR at h1; simp at h1; omega)
  go_wp2_with fail
  refine (bmove_any (n : Nat) 0 _).mono ?_
  rintro e w3 ⟨rfl, hq⟩
  have hC := Lib.hid ((hC.out.below hq).mono hq.size)
  have hP := Lib.hid ((hP.out.below hq).mono hq.size)
  have ch := Lib.hid (ch.out.trans (hq.mono ch.out.size))
  clear hq
  go_wp2_with fail
  have q_hC := hC
  have q_hP := hP
  have rl := Lib.hid (Below.refl w3.heap.size w3)
  obtain ⟨w4, hW⟩ : ∃ B, w3.alloc (.cells #[.int .i64 1, .int .i64 (n : Nat), .int .i64 0, .int .i64 0, .string ⟨#[]⟩] 52) = B := ⟨_, rfl⟩
  rw [hW]
  have hq : Below w3.heap.size w3 w4 := by rw [← hW]; exact (Below.refl _ _).alloc (Nat.le_refl _) _
  have hask := Lib.hid (show OwnI w4 w3.heap.size (.slice (some ⟨w3.heap.size, 0, none⟩) 1 1) [moveI n 0] by rw [← hW]; exact OwnI.lit w3 [moveI n 0] (by simp; exact moveI_wf _ _ (by omega) (by omega)) (by simp))
  clear hW
  have hC := Lib.hid ((hC.out.below hq).mono hq.size)
  have hP := Lib.hid ((hP.out.below hq).mono hq.size)
  have rl := Lib.hid (rl.out.trans (hq.mono rl.out.size))
  clear hq
  have hbA := Lib.hid ch.out.size
  refine (fresh_len _ c _ hC.out hvc).mono ?_
  rintro e w5 ⟨fa, fk, fc, rfl, hfk, hF, hq⟩
  have hC := Lib.hid ((hC.out.below hq).mono hq.size)
  have hP := Lib.hid ((hP.out.below hq).mono hq.size)
  have hask := Lib.hid (hask.out.below hq)
  have rl := Lib.hid (rl.out.trans (hq.mono rl.out.size))
  clear hq
  have hF := Lib.hid hF
  have ho0 := hask.out
  have hb0 := rl.out
  have hs0 := hF.out
  go_wp2_with (at_builtin; refine app_row rfl _ _ rfl (v := .slice (some ⟨w3.heap.size, 0, none⟩) 1 1) (vx := .slice fa fk fc) rfl ho0 rfl hs0 ?c2 hb0 ?_)
  case c2 => have := hfk.out; simp [cleanP_length]; omega
  clear ho0 hb0 hs0 hask
  intro a6 k6 s6 w6 hk6 hask hb
  have rl := hb
  clear hb
  have hC := Lib.hid ((q_hC.out.below rl.out).mono rl.out.size)
  have hP := Lib.hid ((q_hP.out.below rl.out).mono rl.out.size)
  clear hF
  have ch := Lib.hid (ch.out.trans (rl.out.mono ch.out.size))
  go_wp2_with fail
  refine (bmove_any 0 (n : Nat) _).mono ?_
  rintro e w7 ⟨rfl, hq⟩
  have hC := Lib.hid ((hC.out.below hq).mono hq.size)
  have hP := Lib.hid ((hP.out.below hq).mono hq.size)
  have hask := Lib.hid (hask.out.below hq)
  have ch := Lib.hid (ch.out.trans (hq.mono ch.out.size))
  clear hq
  go_wp2_with fail
  have q_hC := hC
  have q_hP := hP
  have q_hask := hask
  have rl := Lib.hid (Below.refl w7.heap.size w7)
  obtain ⟨w8, hW⟩ : ∃ B, w7.alloc (.cells #[.int .i64 1, .int .i64 0, .int .i64 (n : Nat), .int .i64 0, .string ⟨#[]⟩] 52) = B := ⟨_, rfl⟩
  rw [hW]
  have hq : Below w7.heap.size w7 w8 := by rw [← hW]; exact (Below.refl _ _).alloc (Nat.le_refl _) _
  have hwork := Lib.hid (show OwnI w8 w7.heap.size (.slice (some ⟨w7.heap.size, 0, none⟩) 1 1) [moveI 0 n] by rw [← hW]; exact OwnI.lit w7 [moveI 0 n] (by simp; exact moveI_wf _ _ (by omega) (by omega)) (by simp))
  clear hW
  have hC := Lib.hid ((hC.out.below hq).mono hq.size)
  have hP := Lib.hid ((hP.out.below hq).mono hq.size)
  have hask := Lib.hid (hask.out.below hq)
  have rl := Lib.hid (rl.out.trans (hq.mono rl.out.size))
  clear hq
  have hAb := Lib.hid (fun g hg => (q_hask.out.own.lt g hg).2)
  refine (fresh_len _ p _ hP.out hvp).mono ?_
  rintro e w9 ⟨ga, gk, gc, rfl, hgk, hG, hq⟩
  have hC := Lib.hid ((hC.out.below hq).mono hq.size)
  have hP := Lib.hid ((hP.out.below hq).mono hq.size)
  have hask := Lib.hid (hask.out.below hq)
  have hwork := Lib.hid (hwork.out.below hq)
  have rl := Lib.hid (rl.out.trans (hq.mono rl.out.size))
  clear hq
  have hG := Lib.hid hG
  have ho0 := hwork.out
  have hb0 := rl.out
  have hs0 := hG.out
  go_wp2_with (at_builtin; refine app_row rfl _ _ rfl (v := .slice (some ⟨w7.heap.size, 0, none⟩) 1 1) (vx := .slice ga gk gc) rfl ho0 rfl hs0 ?c2 hb0 ?_)
  case c2 => have := hgk.out; simp [cleanP_length]; omega
  clear ho0 hb0 hs0 hwork
  intro a10 k10 s10 w10 hk10 hwork hb
  have rl := hb
  clear hb
  have hC := Lib.hid ((q_hC.out.below rl.out).mono rl.out.size)
  have hP := Lib.hid ((q_hP.out.below rl.out).mono rl.out.size)
  clear hG
  have hask := Lib.hid (q_hask.out.below rl.out)
  have ch := Lib.hid (ch.out.trans (rl.out.mono ch.out.size))
  have hWb := Lib.hid (fun g hg => (hwork.out.own.lt g hg).1)
  have hWork := Lib.hid (hwork.out.row (by have := hgk.out; simp [cleanP_length]; omega))
  have hkw : Hid (k10 = 1 + (mostN p + p.length)) := Lib.hid (by have h8 := hk10.out; simp [cleanP_length] at h8; omega)
  have hkwI : (k10 : Int) ≤ 5000 := by have := hkw.out; have := hgk.out; omega
  have hkw0 : (0 : Int) ≤ (k10 : Int) := Int.natCast_nonneg _
  go_wp2_with fail
  refine (bmove_any 0 (n : Nat) _).mono ?_
  rintro e w11 ⟨rfl, hq⟩
  have hC := Lib.hid ((hC.out.below hq).mono hq.size)
  have hP := Lib.hid ((hP.out.below hq).mono hq.size)
  have hWork := Lib.hid ((hWork.out.below hq).mono hq.size)
  have hask := Lib.hid (hask.out.below hq)
  have ch := Lib.hid (ch.out.trans (hq.mono ch.out.size))
  clear hq
  go_wp2_with fail
  have q_hC := hC
  have q_hP := hP
  have q_hWork := hWork
  have q_hask := hask
  have rl := Lib.hid (Below.refl w11.heap.size w11)
  obtain ⟨w12, hW⟩ : ∃ B, w11.alloc (.cells #[.int .i64 1, .int .i64 0, .int .i64 (n : Nat), .int .i64 0, .string ⟨#[]⟩] 52) = B := ⟨_, rfl⟩
  rw [hW]
  have hq : Below w11.heap.size w11 w12 := by rw [← hW]; exact (Below.refl _ _).alloc (Nat.le_refl _) _
  have hlv := Lib.hid (show OwnI w12 w11.heap.size (.slice (some ⟨w11.heap.size, 0, none⟩) 1 1) [moveI 0 n] by rw [← hW]; exact OwnI.lit w11 [moveI 0 n] (by simp; exact moveI_wf _ _ (by omega) (by omega)) (by simp))
  clear hW
  have hC := Lib.hid ((hC.out.below hq).mono hq.size)
  have hP := Lib.hid ((hP.out.below hq).mono hq.size)
  have hWork := Lib.hid ((hWork.out.below hq).mono hq.size)
  have hask := Lib.hid (hask.out.below hq)
  have rl := Lib.hid (rl.out.trans (hq.mono rl.out.size))
  clear hq
  have hAb2 := Lib.hid (fun g hg => (q_hask.out.own.lt g hg).2)
  refine (leap_len (n : Nat) (by omega) ((k10 : Int) + 3) (by unfold i64; omega) _).mono ?_
  rintro e w13 ⟨la, lc, rfl, hLp, hq⟩
  have hC := Lib.hid ((hC.out.below hq).mono hq.size)
  have hP := Lib.hid ((hP.out.below hq).mono hq.size)
  have hWork := Lib.hid ((hWork.out.below hq).mono hq.size)
  have hask := Lib.hid (hask.out.below hq)
  have hlv := Lib.hid (hlv.out.below hq)
  have rl := Lib.hid (rl.out.trans (hq.mono rl.out.size))
  clear hq
  have hLp := Lib.hid hLp
  have ho0 := hlv.out
  have hb0 := rl.out
  have hs0 := hLp.out
  go_wp2_with (at_builtin; refine app_row rfl _ _ rfl (v := .slice (some ⟨w11.heap.size, 0, none⟩) 1 1) (vx := .slice la 2 lc) rfl ho0 rfl hs0 ?c2 hb0 ?_)
  case c2 => simp
  clear ho0 hb0 hs0 hlv
  intro a14 k14 s14 w14 hk14 hlv hb
  have rl := hb
  clear hb
  have hC := Lib.hid ((q_hC.out.below rl.out).mono rl.out.size)
  have hP := Lib.hid ((q_hP.out.below rl.out).mono rl.out.size)
  have hWork := Lib.hid ((q_hWork.out.below rl.out).mono rl.out.size)
  clear hLp
  have hask := Lib.hid (q_hask.out.below rl.out)
  have ch := Lib.hid (ch.out.trans (rl.out.mono ch.out.size))
  have hLb := Lib.hid (fun g hg => (hlv.out.own.lt g hg).1)
  have hLeave := Lib.hid (hlv.out.row (by simp))
  have hkl : Hid (k14 = 3) := Lib.hid (by have h8 := hk14.out; first | omega | (simp at h8; omega))
  have hklI : (k14 : Int) ≤ 5000 := by have := hkl.out; omega
  have hkl0 : (0 : Int) ≤ (k14 : Int) := Int.natCast_nonneg _
  have ho0 := hask.out.lower hbA.out
  have hb0 := ch.out
  go_wp2_with (at_builtin; refine app_litG rfl _ _ rfl (w0 := w) (v := .slice a6 k6 s6) (n := 1) [jumpI 0 (1 + (k14 : Int))] rfl ho0 rfl rfl ?c1 ?c2 hb0 ?_)
  case c1 => simp; exact jumpI_wf _ _ (by omega) (by omega)
  case c2 => have := hfk.out; simp [cleanP_length]; omega
  clear ho0 hb0
  intro a15 k15 s15 w15 hk15 hask2 hbn hgr
  have hWork := Lib.hid (hWork.out.grew hgr.out (fun g h1 h2 => by have h3 := hWb.out g h1; have h4 := hAb.out g h2; omega))
  have hLeave := Lib.hid (hLeave.out.grew hgr.out (fun g h1 h2 => by have h3 := hLb.out g h1; have h4 := hAb2.out g h2; omega))
  have ch := hbn
  have hAsk := Lib.hid (hask2.out.row (by have := hfk.out; simp [cleanP_length]; omega))
  clear hgr hbn hask2
  go_wp2_with fail
  have hL0 := ProgsRow.lit (w := w15) [.slice a15 k15 s15, .slice a14 k14 s14, .slice a10 k10 s10] [([moveI n 0] ++ cleanP c ++ [jumpI 0 (1 + (k14 : Int))]), ([moveI 0 n] ++ [setI n ⟨#[49, 48, 48]⟩, jumpI n ((k10 : Int) + 3)]), ([moveI 0 n] ++ cleanP p)] rfl (by simp) (fun j u l hu hl => match j, u, l, hu, hl with | 0, _, _, hu, hl => by cases hu; cases hl; exact hAsk.out | 1, _, _, hu, hl => by cases hu; cases hl; exact hLeave.out | 2, _, _, hu, hl => by cases hu; cases hl; exact hWork.out)
  obtain ⟨w16, hW⟩ : ∃ B, w15.alloc (.cells #[.slice a15 k15 s15, .slice a14 k14 s14, .slice a10 k10 s10] 25) = B := ⟨_, rfl⟩
  rw [hW]
  have hq : Below w15.heap.size w15 w16 := by rw [← hW]; exact (Below.refl _ _).alloc (Nat.le_refl _) _
  have hL := Lib.hid (show ProgsRow w16 w16.heap.size (.slice (some ⟨w15.heap.size, 0, none⟩) 3 3) [([moveI n 0] ++ cleanP c ++ [jumpI 0 (1 + (k14 : Int))]), ([moveI 0 n] ++ [setI n ⟨#[49, 48, 48]⟩, jumpI n ((k10 : Int) + 3)]), ([moveI 0 n] ++ cleanP p)] by rw [← hW]; exact hL0)
  clear hW hL0
  have hWork := Lib.hid ((hWork.out.below hq).mono hq.size)
  have hLeave := Lib.hid ((hLeave.out.below hq).mono hq.size)
  have hAsk := Lib.hid ((hAsk.out.below hq).mono hq.size)
  have ch := Lib.hid (ch.out.trans (hq.mono ch.out.size))
  clear hq
  have q_hWork := hWork
  have q_hLeave := hLeave
  have q_hAsk := hAsk
  have rl := Lib.hid (Below.refl w16.heap.size w16)
  refine (concat_len _ _ _ hL.out (by simp [lenS, cleanP_length]; have := hfk.out; have := hgk.out; omega)).mono ?_
  rintro e w17 ⟨xa, xk, xc, rfl, hxk, ho, hq⟩
  have hWork := Lib.hid ((hWork.out.below hq).mono hq.size)
  have hLeave := Lib.hid ((hLeave.out.below hq).mono hq.size)
  have hAsk := Lib.hid ((hAsk.out.below hq).mono hq.size)
  have rl := Lib.hid (rl.out.trans (hq.mono rl.out.size))
  clear hq
  have ho := Lib.hid ho
  have hxk2 : Hid (xk = 6 + (mostN c + c.length) + (mostN p + p.length)) := Lib.hid (by have h8 := hxk.out; simp [lenS, cleanP_length] at h8; omega)
  have hxI : (xk : Int) ≤ 20000 := by have := hxk2.out; have := hfk.out; have := hgk.out; omega
  have hx0 : (0 : Int) ≤ (xk : Int) := Int.natCast_nonneg _
  go_wp2_with fail
  refine (leap_len (n : Nat) (by omega) (-(xk : Int) - 1) (by unfold i64; omega) _).mono ?_
  rintro e w18 ⟨ma, mc, rfl, hLq, hq⟩
  have hWork := Lib.hid ((hWork.out.below hq).mono hq.size)
  have hLeave := Lib.hid ((hLeave.out.below hq).mono hq.size)
  have hAsk := Lib.hid ((hAsk.out.below hq).mono hq.size)
  have ho := Lib.hid (ho.out.below hq)
  have rl := Lib.hid (rl.out.trans (hq.mono rl.out.size))
  clear hq
  have hLq := Lib.hid hLq
  have ho0 := ho.out
  have hb0 := rl.out
  have hs0 := hLq.out
  go_wp2_with (at_builtin; refine app_row rfl _ _ rfl (v := .slice xa xk xc) (vx := .slice ma 2 mc) rfl ho0 rfl hs0 ?c2 hb0 ?_)
  case c2 => have := hfk.out; have := hgk.out; simp [cleanP_length]; omega
  clear ho0 hb0 hs0 ho
  intro a19 k19 s19 w19 hk19 ho hb
  have rl := hb
  clear hb
  have hWork := Lib.hid ((q_hWork.out.below rl.out).mono rl.out.size)
  have hLeave := Lib.hid ((q_hLeave.out.below rl.out).mono rl.out.size)
  have hAsk := Lib.hid ((q_hAsk.out.below rl.out).mono rl.out.size)
  clear hLq
  have e1 : ((cleanP p).length : Int) + 4 = (k10 : Int) + 3 := by rw [cleanP_length]; have := hkw.out; omega
  have e2 : (4 : Int) = 1 + (k14 : Int) := by have := hkl.out; omega
  have e3 : (-((whileH c p).length : Int)) = -(xk : Int) - 1 := by have h8 := hxk2.out; unfold whileH; simp [cleanP_length]; omega
  have heq : whileL c p = [[moveI n 0] ++ cleanP c ++ [jumpI 0 (1 + (k14 : Int))], [moveI 0 n] ++ [setI n ⟨#[49, 48, 48]⟩, jumpI n ((k10 : Int) + 3)], [moveI 0 n] ++ cleanP p].flatten ++ [setI n ⟨#[49, 48, 48]⟩, jumpI n (-(xk : Int) - 1)] := by unfold whileL; rw [e3]; unfold whileH; simp only [hmax.out, e1]; simp [← e2]
  have hrow := Lib.hid (show InsRow _ _ (.slice a19 k19 s19) (whileL c p) by rw [heq]; have h9 := ho.out.row (by simp [cleanP_length]; have := hfk.out; have := hgk.out; omega); simpa using h9)
  clear heq e1 e2 e3
  cases hvm : validB (whileL c p)
  · have HM := Lib.hid (hrow.out)
    go_wp2_with fail
    refine (done_bad _ _ _ _ _ HM.out hvm).mono ?_
    rintro e w20 ⟨rfl, hq⟩
    have hWork := Lib.hid ((hWork.out.below hq).mono hq.size)
    have hLeave := Lib.hid ((hLeave.out.below hq).mono hq.size)
    have hAsk := Lib.hid ((hAsk.out.below hq).mono hq.size)
    have HM := Lib.hid ((HM.out.below hq).mono hq.size)
    have rl := Lib.hid (rl.out.trans (hq.mono rl.out.size))
    clear hq
    go_wp2
    have hch := ch.out.trans (rl.out.mono ch.out.size)
    refine bodyPost_ret (v := .tuple #[.slice none 0 0, .int .i64 3]) (by simp [results, Try.results28, go_sem]) rfl ?_
    rw [← HD.out, hvm, if_neg (by simp)]
    exact MadeOut.bad (by decide) rfl hch
  · have HM := Lib.hid (hrow.out)
    go_wp2_with fail
    refine (done_ok _ _ _ _ _ HM.out hvm).mono ?_
    rintro e w20 ⟨rfl, hq⟩
    have hWork := Lib.hid ((hWork.out.below hq).mono hq.size)
    have hLeave := Lib.hid ((hLeave.out.below hq).mono hq.size)
    have hAsk := Lib.hid ((hAsk.out.below hq).mono hq.size)
    have HM := Lib.hid ((HM.out.below hq).mono hq.size)
    have rl := Lib.hid (rl.out.trans (hq.mono rl.out.size))
    clear hq
    go_wp2
    have hch := ch.out.trans (rl.out.mono ch.out.size)
    refine bodyPost_ret (v := .tuple #[.slice a19 k19 s19, .int .i64 0]) (by simp [results, Try.results28, go_sem]) rfl ?_
    rw [← HD.out, hvm, if_pos rfl]
    exact MadeOut.ok rfl rfl HM.out hch

theorem bWhile_any (ca0 : Option Addr) (cn0 cc0 : Nat) (pa : Option Addr) (pn pc : Nat) (c p : List Ins) (w : World) (hhC : InsRow w w.heap.size (.slice ca0 cn0 cc0) c) (hhP : InsRow w w.heap.size (.slice pa pn pc) p) : Calls Try.prog 28 #[.slice ca0 cn0 cc0, .slice pa pn pc] w (MadeOut w (dueN [c, p] (whileL c p)) (whileL c p)) := by
  unfold dueN
  cases hv : allV [c, p] with
  | false => rw [if_pos rfl]; exact bWhile_form ca0 cn0 cc0 pa pn pc c p w hhC hhP (Lib.hid hv)
  | true =>
    rw [if_neg (by simp)]
    by_cases hr : 28 < mostR [c, p]
    · rw [if_pos hr]; exact bWhile_regs ca0 cn0 cc0 pa pn pc c p w hhC hhP (Lib.hid hv) (Lib.hid hr)
    · rw [if_neg hr]; exact bWhile_ok ca0 cn0 cc0 pa pn pc c p w hhC hhP (Lib.hid hv) _ (Lib.hid rfl) (by omega) _ (Lib.hid rfl)

end Go.Proofs.Ytaiomcjopgnfpaa


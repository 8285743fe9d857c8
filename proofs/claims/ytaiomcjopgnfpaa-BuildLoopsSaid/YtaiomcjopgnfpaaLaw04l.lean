/- law04: BuildLoops. -/
import Derived.Test.YtaiomcjopgnfpaaSegs4
namespace Go.Proofs.Ytaiomcjopgnfpaa
open Go.RowKit

set_option maxRecDepth 100000 in
set_option maxHeartbeats 8000000 in
theorem loops_due {w : World} (ca : Option Addr) (cn cc : Nat) (pa : Option Addr) (pn pc : Nat) (c p : List Ins) (x : ByteArray) (_hxs : x.size ≤ 140737488355328) (hhC : InsRow w w.heap.size (.slice ca cn cc) c) (hhP : InsRow w w.heap.size (.slice pa pn pc) p) (d : Int) (HD : Hid (dueF [c, p] [] = d)) (hd : d ≠ 0) :
    Calls Try.prog 4 #[.slice ca cn cc, .slice pa pn pc, .string x] w fun e w' => e = .returned (.bool true) ∧ Below w.heap.size w w' := by
  have hC := Lib.hid hhC
  have hP := Lib.hid hhP
  clear hhC hhP
  have ch := Lib.hid (Below.refl w.heap.size w)
  go_enter Try.func4, Try.ntmps4
  go_wp2_with fail
  have hL0 := ProgsRow.lit (w := w) [.slice ca cn cc, .slice pa pn pc] [c, p] rfl (by simp) (fun j u l hu hl => match j, u, l, hu, hl with | 0, _, _, hu, hl => by cases hu; cases hl; exact hC.out | 1, _, _, hu, hl => by cases hu; cases hl; exact hP.out)
  obtain ⟨w1, hW⟩ : ∃ B, w.alloc (.cells #[.slice ca cn cc, .slice pa pn pc] 25) = B := ⟨_, rfl⟩
  rw [hW]
  have hq : Below w.heap.size w w1 := by rw [← hW]; exact (Below.refl _ _).alloc (Nat.le_refl _) _
  have hL := Lib.hid (show ProgsRow w1 w1.heap.size (.slice (some ⟨w.heap.size, 0, none⟩) 2 2) [c, p] by rw [← hW]; exact hL0)
  clear hW hL0
  have hC := Lib.hid ((hC.out.below hq).mono hq.size)
  have hP := Lib.hid ((hP.out.below hq).mono hq.size)
  have ch := Lib.hid (ch.out.trans (hq.mono ch.out.size))
  clear hq
  refine (due_val d _ _ [c, p] [] _ HD.out hL.out (row_nil _ _)).mono ?_
  rintro e w2 ⟨rfl, hq⟩
  have hC := Lib.hid ((hC.out.below hq).mono hq.size)
  have hP := Lib.hid ((hP.out.below hq).mono hq.size)
  have hL := Lib.hid ((hL.out.below hq).mono hq.size)
  have ch := Lib.hid (ch.out.trans (hq.mono ch.out.size))
  clear hq
  go_wp2_with fail
  refine (awake_any _).mono ?_
  rintro e w3 ⟨rfl, hq⟩
  have hC := Lib.hid ((hC.out.below hq).mono hq.size)
  have hP := Lib.hid ((hP.out.below hq).mono hq.size)
  have hL := Lib.hid ((hL.out.below hq).mono hq.size)
  have ch := Lib.hid (ch.out.trans (hq.mono ch.out.size))
  clear hq
  go_wp2
  go_ret
  exact ⟨rfl, ch.out⟩

set_option maxRecDepth 100000 in
set_option maxHeartbeats 8000000 in
theorem loops_notree {w : World} (ca : Option Addr) (cn cc : Nat) (pa : Option Addr) (pn pc : Nat) (c p : List Ins) (x : ByteArray) (hxs : x.size ≤ 140737488355328) (hhC : InsRow w w.heap.size (.slice ca cn cc) c) (hhP : InsRow w w.heap.size (.slice pa pn pc) p) (HD : Hid (dueF [c, p] [] = 0)) (HX : Hid (isTree x = false)) :
    Calls Try.prog 4 #[.slice ca cn cc, .slice pa pn pc, .string x] w fun e w' => e = .returned (.bool true) ∧ Below w.heap.size w w' := by
  have hC := Lib.hid hhC
  have hP := Lib.hid hhP
  clear hhC hhP
  have ch := Lib.hid (Below.refl w.heap.size w)
  have kT := fun w => tvalid_at x hxs false HX.out w
  go_enter Try.func4, Try.ntmps4
  go_wp2_with fail
  have hL0 := ProgsRow.lit (w := w) [.slice ca cn cc, .slice pa pn pc] [c, p] rfl (by simp) (fun j u l hu hl => match j, u, l, hu, hl with | 0, _, _, hu, hl => by cases hu; cases hl; exact hC.out | 1, _, _, hu, hl => by cases hu; cases hl; exact hP.out)
  obtain ⟨w1, hW⟩ : ∃ B, w.alloc (.cells #[.slice ca cn cc, .slice pa pn pc] 25) = B := ⟨_, rfl⟩
  rw [hW]
  have hq : Below w.heap.size w w1 := by rw [← hW]; exact (Below.refl _ _).alloc (Nat.le_refl _) _
  have hL := Lib.hid (show ProgsRow w1 w1.heap.size (.slice (some ⟨w.heap.size, 0, none⟩) 2 2) [c, p] by rw [← hW]; exact hL0)
  clear hW hL0
  have hC := Lib.hid ((hC.out.below hq).mono hq.size)
  have hP := Lib.hid ((hP.out.below hq).mono hq.size)
  have ch := Lib.hid (ch.out.trans (hq.mono ch.out.size))
  clear hq
  refine (due_val 0 _ _ [c, p] [] _ HD.out hL.out (row_nil _ _)).mono ?_
  rintro e w2 ⟨rfl, hq⟩
  have hC := Lib.hid ((hC.out.below hq).mono hq.size)
  have hP := Lib.hid ((hP.out.below hq).mono hq.size)
  have hL := Lib.hid ((hL.out.below hq).mono hq.size)
  have ch := Lib.hid (ch.out.trans (hq.mono ch.out.size))
  clear hq
  go_wp2_with fail
  refine (kT _).mono ?_
  rintro e w3 ⟨rfl, hq⟩
  have hC := Lib.hid ((hC.out.below hq).mono hq.size)
  have hP := Lib.hid ((hP.out.below hq).mono hq.size)
  have hL := Lib.hid ((hL.out.below hq).mono hq.size)
  have ch := Lib.hid (ch.out.trans (hq.mono ch.out.size))
  clear hq
  go_wp2_with fail
  refine (awake_any _).mono ?_
  rintro e w4 ⟨rfl, hq⟩
  have hC := Lib.hid ((hC.out.below hq).mono hq.size)
  have hP := Lib.hid ((hP.out.below hq).mono hq.size)
  have hL := Lib.hid ((hL.out.below hq).mono hq.size)
  have ch := Lib.hid (ch.out.trans (hq.mono ch.out.size))
  clear hq
  go_wp2
  go_ret
  exact ⟨rfl, ch.out⟩

set_option maxRecDepth 100000 in
set_option maxHeartbeats 8000000 in
theorem loops_big {w : World} (ca : Option Addr) (cn cc : Nat) (pa : Option Addr) (pn pc : Nat) (c p : List Ins) (x : ByteArray) (hxs : x.size ≤ 140737488355328) (hhC : InsRow w w.heap.size (.slice ca cn cc) c) (hhP : InsRow w w.heap.size (.slice pa pn pc) p) (HD : Hid (dueF [c, p] [] = 0)) (HX : Hid (isTree x = true)) (HD3 : Hid (dueN [c, p] (whileL c p) = 3)) :
    Calls Try.prog 4 #[.slice ca cn cc, .slice pa pn pc, .string x] w fun e w' => e = .returned (.bool true) ∧ Below w.heap.size w w' := by
  have hC := Lib.hid hhC
  have hP := Lib.hid hhP
  clear hhC hhP
  have ch := Lib.hid (Below.refl w.heap.size w)
  have kT := fun w => tvalid_at x hxs true HX.out w
  go_enter Try.func4, Try.ntmps4
  go_wp2_with fail
  have hL0 := ProgsRow.lit (w := w) [.slice ca cn cc, .slice pa pn pc] [c, p] rfl (by simp) (fun j u l hu hl => match j, u, l, hu, hl with | 0, _, _, hu, hl => by cases hu; cases hl; exact hC.out | 1, _, _, hu, hl => by cases hu; cases hl; exact hP.out)
  obtain ⟨w1, hW⟩ : ∃ B, w.alloc (.cells #[.slice ca cn cc, .slice pa pn pc] 25) = B := ⟨_, rfl⟩
  rw [hW]
  have hq : Below w.heap.size w w1 := by rw [← hW]; exact (Below.refl _ _).alloc (Nat.le_refl _) _
  have hL := Lib.hid (show ProgsRow w1 w1.heap.size (.slice (some ⟨w.heap.size, 0, none⟩) 2 2) [c, p] by rw [← hW]; exact hL0)
  clear hW hL0
  have hC := Lib.hid ((hC.out.below hq).mono hq.size)
  have hP := Lib.hid ((hP.out.below hq).mono hq.size)
  have ch := Lib.hid (ch.out.trans (hq.mono ch.out.size))
  clear hq
  refine (due_val 0 _ _ [c, p] [] _ HD.out hL.out (row_nil _ _)).mono ?_
  rintro e w2 ⟨rfl, hq⟩
  have hC := Lib.hid ((hC.out.below hq).mono hq.size)
  have hP := Lib.hid ((hP.out.below hq).mono hq.size)
  have hL := Lib.hid ((hL.out.below hq).mono hq.size)
  have ch := Lib.hid (ch.out.trans (hq.mono ch.out.size))
  clear hq
  clear hL
  go_wp2_with fail
  refine (kT _).mono ?_
  rintro e w3 ⟨rfl, hq⟩
  have hC := Lib.hid ((hC.out.below hq).mono hq.size)
  have hP := Lib.hid ((hP.out.below hq).mono hq.size)
  have ch := Lib.hid (ch.out.trans (hq.mono ch.out.size))
  clear hq
  go_wp2_with fail
  refine (made_d HD3.out (bWhile_any _ _ _ _ _ _ c p _ hC.out hP.out)).mono ?_
  rintro e w4 ⟨vt, rfl, hT, hq⟩
  have hC := Lib.hid ((hC.out.below hq).mono hq.size)
  have hP := Lib.hid ((hP.out.below hq).mono hq.size)
  have ch := Lib.hid (ch.out.trans (hq.mono ch.out.size))
  clear hq
  have hT := Lib.hid hT
  clear kT
  go_wp2_with fail
  refine (awake_any _).mono ?_
  rintro e w5 ⟨rfl, hq⟩
  have hC := Lib.hid ((hC.out.below hq).mono hq.size)
  have hP := Lib.hid ((hP.out.below hq).mono hq.size)
  have hT := Lib.hid ((hT.out.below hq).mono hq.size)
  have ch := Lib.hid (ch.out.trans (hq.mono ch.out.size))
  clear hq
  go_wp2
  go_ret
  exact ⟨rfl, ch.out⟩

set_option maxRecDepth 100000 in
set_option maxHeartbeats 8000000 in
theorem loops_main {w : World} (ca : Option Addr) (cn cc : Nat) (pa : Option Addr) (pn pc : Nat) (c p : List Ins) (x : ByteArray) (hxs : x.size ≤ 140737488355328) (hhC : InsRow w w.heap.size (.slice ca cn cc) c) (hhP : InsRow w w.heap.size (.slice pa pn pc) p) (HD : Hid (dueF [c, p] [] = 0)) (HX : Hid (isTree x = true)) (HD3 : Hid (dueN [c, p] (whileL c p) = 0)) (HV : Hid (validB (whileL c p) = true)) :
    Calls Try.prog 4 #[.slice ca cn cc, .slice pa pn pc, .string x] w fun e w' => e = .returned (.bool true) ∧ Below w.heap.size w w' := by
  have hC := Lib.hid hhC
  have hP := Lib.hid hhP
  clear hhC hhP
  have hvm := dueF_zero HD.out
  obtain ⟨hvc0, hvp0⟩ := allV_two hvm.1
  have HVc := Lib.hid hvc0
  have HVp := Lib.hid hvp0
  have hmr := hvm.2
  rw [mostR_two] at hmr
  have HMc := Lib.hid (show regN c = mostN c + 1 from rfl)
  have HMp := Lib.hid (show regN p = mostN p + 1 from rfl)
  obtain ⟨n, hn⟩ : ∃ n, max (regN c) (regN p) = n + 1 := ⟨max (mostN c) (mostN p), by have := HMc.out; have := HMp.out; omega⟩
  have sg := Lib.hid (while_segs c p n hn)
  have HB := Lib.hid (show n ≤ 27 ∧ mostN c ≤ n ∧ mostN p ≤ n by have := HMc.out; have := HMp.out; omega)
  clear hvm hvc0 hvp0 hmr hn
  have ch := Lib.hid (Below.refl w.heap.size w)
  have kT := fun w => tvalid_at x hxs true HX.out w
  go_enter Try.func4, Try.ntmps4
  go_wp2_with fail
  have hL0 := ProgsRow.lit (w := w) [.slice ca cn cc, .slice pa pn pc] [c, p] rfl (by simp) (fun j u l hu hl => match j, u, l, hu, hl with | 0, _, _, hu, hl => by cases hu; cases hl; exact hC.out | 1, _, _, hu, hl => by cases hu; cases hl; exact hP.out)
  obtain ⟨w1, hW⟩ : ∃ B, w.alloc (.cells #[.slice ca cn cc, .slice pa pn pc] 25) = B := ⟨_, rfl⟩
  rw [hW]
  have hq : Below w.heap.size w w1 := by rw [← hW]; exact (Below.refl _ _).alloc (Nat.le_refl _) _
  have hL := Lib.hid (show ProgsRow w1 w1.heap.size (.slice (some ⟨w.heap.size, 0, none⟩) 2 2) [c, p] by rw [← hW]; exact hL0)
  clear hW hL0
  have hC := Lib.hid ((hC.out.below hq).mono hq.size)
  have hP := Lib.hid ((hP.out.below hq).mono hq.size)
  have ch := Lib.hid (ch.out.trans (hq.mono ch.out.size))
  clear hq
  refine (due_val 0 _ _ [c, p] [] _ HD.out hL.out (row_nil _ _)).mono ?_
  rintro e w2 ⟨rfl, hq⟩
  have hC := Lib.hid ((hC.out.below hq).mono hq.size)
  have hP := Lib.hid ((hP.out.below hq).mono hq.size)
  have hL := Lib.hid ((hL.out.below hq).mono hq.size)
  have ch := Lib.hid (ch.out.trans (hq.mono ch.out.size))
  clear hq
  clear hL
  go_wp2_with fail
  refine (kT _).mono ?_
  rintro e w3 ⟨rfl, hq⟩
  have hC := Lib.hid ((hC.out.below hq).mono hq.size)
  have hP := Lib.hid ((hP.out.below hq).mono hq.size)
  have ch := Lib.hid (ch.out.trans (hq.mono ch.out.size))
  clear hq
  go_wp2_with fail
  refine (made_d HD3.out (bWhile_any _ _ _ _ _ _ c p _ hC.out hP.out)).mono ?_
  rintro e w4 ⟨vt, rfl, hT, hq⟩
  have hC := Lib.hid ((hC.out.below hq).mono hq.size)
  have hP := Lib.hid ((hP.out.below hq).mono hq.size)
  have ch := Lib.hid (ch.out.trans (hq.mono ch.out.size))
  clear hq
  have hT := Lib.hid hT
  clear kT
  have hT1 := Lib.hid (hT.out.1 rfl)
  clear hT
  go_wp2
  obtain ⟨b0, hW⟩ : ∃ B, w4.alloc (.cells #[.string x, .int .i64 0, .int .i64 0] 40) = B := ⟨_, rfl⟩
  rw [hW]
  have hq : Below w4.heap.size w4 b0 := by rw [← hW]; exact (Below.refl _ _).alloc (Nat.le_refl _) _
  have bx := Lib.hid (show Bx b0 w4.heap.size x 0 0 by unfold Bx; rw [← hW]; exact heap_alloc_new _ _)
  clear hW
  have hC := Lib.hid (hC.out.below hq)
  have hP := Lib.hid (hP.out.below hq)
  have hT1 := Lib.hid (hT1.out.below hq)
  have cb0 := Lib.hid hq
  clear hq
  have pg0 := Lib.hid ((Pg.begin (whileL c p) x HX.out).weaken fun s h => h.weak (R' := Holds []) fun rest _ => Holds.nil _)
  go_loopg [10] 60 (fun gg i wr => ∃ (k S : Nat) (E : Int) (X : ByteArray), k ≤ 60 ∧ gg = 60 - k ∧ i = .int .i64 k ∧ Hid (Bx wr w4.heap.size X S E) ∧ Hid (S ≤ 4300 * k) ∧ Hid (Pg (whileL c p) (startS (toTr x)) S E (AtX 0 X (Holds []))) ∧ Below w4.heap.size b0 wr)
  case atStart => exact ⟨0, 0, 0, x, by omega, rfl, rfl, bx, Lib.hid (Nat.le_refl _), pg0, Below.refl _ _⟩
  case round =>
    clear bx pg0
    obtain ⟨k, S0, E0, X, hk, hg, rfl, bx, hs0, pg, hq⟩ := hrel
    have HG := Lib.hid hg
    clear hg
    have hC := Lib.hid (hC.out.below hq)
    have hP := Lib.hid (hP.out.below hq)
    have hT1 := Lib.hid (hT1.out.below hq)
    have cb := Lib.hid (cb0.out.trans hq)
    have cl := Lib.hid hq
    clear hq
    have hi0 : (0 : Int) ≤ (k : Int) := Int.natCast_nonneg _
    obtain ⟨c0, c1, c2, f0, f1, f2⟩ := bx.out.cells
    by_cases hE : E0 = 0
    · subst hE
      by_cases hlt : k < 60
      · have hlI : (k : Int) < 60 := by omega
        have hs := Lib.hid (show S0 ≤ 4300 * k + 0 from hs0.out)
        have hK := Lib.hid hlt
        clear hlt
        have hty := Lib.hid (pg.out.tree rfl)
        go_wp2_with fail
        refine (other_pgE (AtX 1 X (Holds [(n, toTr X)])) _ w4.heap.size X S0 1 0 (by have := hs.out; have := hK.out; omega) bx.out pg.out (fun _ s h => at_save (by have := HB.out; omega) sg.out.m0 (fun p hp => by cases hp) h) 1 (by decide)).mono ?_
        rintro e b1 ⟨S1, rfl, bx, hs2, pg, hq⟩
        have hs := Lib.hid (show S1 ≤ 4300 * k + 1 by have h1 := hs.out; have h2 := hs2.out; omega)
        clear hs2
        have hC := Lib.hid (hC.out.below hq)
        have hP := Lib.hid (hP.out.below hq)
        have hT1 := Lib.hid (hT1.out.below hq)
        have cl := Lib.hid (cl.out.trans hq)
        have cb := Lib.hid (cb.out.trans hq)
        clear hq
        obtain ⟨c0, c1, c2, f0, f1, f2⟩ := bx.out.cells
        go_wp2_with fail
        refine (cleaned_pg _ w4.heap.size X S1 0 (.slice ca cn cc) X (by have := hs.out; have := hK.out; omega) bx.out hC.out HVc.out pg.out sg.out.s0 (by have := sg.out.len; omega) (by intro p hp; have := HB.out; simp at hp; subst hp; simp; omega)).mono ?_
        rintro e b2 ⟨y2, S2, E2, rfl, bx, hs2, pg, hq⟩
        have hs := Lib.hid (show S2 ≤ 4300 * k + 2101 by have h1 := hs.out; have h2 := hs2.out.1; omega)
        have hE2 := Lib.hid hs2.out.2.1
        clear hs2 c0 c1 c2 f0 f1 f2
        have hC := Lib.hid (hC.out.below hq)
        have hP := Lib.hid (hP.out.below hq)
        have hT1 := Lib.hid (hT1.out.below hq)
        have cl := Lib.hid (cl.out.trans hq)
        have cb := Lib.hid (cb.out.trans hq)
        clear hq
        cases heq : (y2.toList == [48]) with
        | true =>
          have hy := Lib.hid (show y2 = ⟨#[48]⟩ from ba_ext (by rw [← Lib.toList_data]; exact eq_of_beq heq))
          go_wp2_with fail
          refine (other_pgE (AtX (1 + (cleanP c).length + 1 + 1) X (Holds [(n, toTr X)])) _ w4.heap.size X S2 2 E2 (by have := hs.out; have := hK.out; omega) bx.out pg.out (fun _ => two_steps (K1 := AtX (1 + (cleanP c).length + 1) y2 (Holds [(n, toTr X)])) (fun s h => at_jump0_nil sg.out.m1 hy.out h) (fun s h => at_loadx sg.out.m2 (toTr_size X) (TS_toTr hty.out) (by simp) h)) 2 (by decide)).mono ?_
          rintro e b3 ⟨S3, rfl, bx, hs2, pg, hq⟩
          have hs := Lib.hid (show S3 ≤ 4300 * k + 2103 by have h1 := hs.out; have h2 := hs2.out; omega)
          clear hs2
          have hC := Lib.hid (hC.out.below hq)
          have hP := Lib.hid (hP.out.below hq)
          have hT1 := Lib.hid (hT1.out.below hq)
          have cl := Lib.hid (cl.out.trans hq)
          have cb := Lib.hid (cb.out.trans hq)
          clear hq
          go_wp2_with fail
          refine (other_pgE (AtX (whileL c p).length X (Holds [(n, toTr ⟨#[49, 48, 48]⟩)])) _ w4.heap.size X S3 2 E2 (by have := hs.out; have := hK.out; omega) bx.out pg.out (fun _ => two_steps (K1 := AtX (1 + (cleanP c).length + 3) X (Holds [(n, toTr ⟨#[49, 48, 48]⟩)])) (fun s h => at_set (hs := []) (by have := HB.out; omega) sg.out.m3 (fun p hp => by cases hp) (h.weak fun rest _ => Holds.nil _)) (fun s h => at_jump sg.out.m4 (List.mem_singleton.2 rfl) (by decide +kernel) _ (by rw [sg.out.len]; omega) h)) 2 (by decide)).mono ?_
          rintro e b4 ⟨S4, rfl, bx, hs2, pg, hq⟩
          have hs := Lib.hid (show S4 ≤ 4300 * k + 2105 by have h1 := hs.out; have h2 := hs2.out; omega)
          clear hs2
          have hC := Lib.hid (hC.out.below hq)
          have hP := Lib.hid (hP.out.below hq)
          have hT1 := Lib.hid (hT1.out.below hq)
          have cl := Lib.hid (cl.out.trans hq)
          have cb := Lib.hid (cb.out.trans hq)
          clear hq
          go_wp2_with fail
          refine (ends_any _ w4.heap.size X S4 E2 (by have := hs.out; have := hK.out; omega) bx.out vt _ x hT1.out HV.out HX.out pg.out.ended).mono ?_
          rintro e b5 ⟨rfl, hq⟩
          have hC := Lib.hid (hC.out.below hq)
          have hP := Lib.hid (hP.out.below hq)
          have hT1 := Lib.hid (hT1.out.below hq)
          have cl := Lib.hid (cl.out.trans hq)
          have cb := Lib.hid (cb.out.trans hq)
          clear hq
          go_wp2_with fail
          refine (awake_any _).mono ?_
          rintro e wz ⟨rfl, hqz⟩
          go_wp2
          go_ret
          exact ⟨rfl, (ch.out.trans (cb.out.mono ch.out.size)).trans (hqz.mono (Nat.le_trans ch.out.size cb.out.size))⟩
        | false =>
          have hy := Lib.hid (show ¬ y2 = ⟨#[48]⟩ from fun e => by rw [e, Lib.toList_data] at heq; simp at heq)
          go_wp2_with fail
          refine (other_pgE (AtX (1 + (cleanP c).length + 5) X (Holds [(n, toTr X)])) _ w4.heap.size X S2 2 E2 (by have := hs.out; have := hK.out; omega) bx.out pg.out (fun _ => two_steps (K1 := AtX (1 + (cleanP c).length + 4) y2 (Holds [(n, toTr X)])) (fun s h => at_jump0_far sg.out.m1 hy.out _ (by omega) h) (fun s h => at_loadx sg.out.m5 (toTr_size X) (TS_toTr hty.out) (by simp) h)) 2 (by decide)).mono ?_
          rintro e b3 ⟨S3, rfl, bx, hs2, pg, hq⟩
          have hs := Lib.hid (show S3 ≤ 4300 * k + 2103 by have h1 := hs.out; have h2 := hs2.out; omega)
          clear hs2
          have hC := Lib.hid (hC.out.below hq)
          have hP := Lib.hid (hP.out.below hq)
          have hT1 := Lib.hid (hT1.out.below hq)
          have cl := Lib.hid (cl.out.trans hq)
          have cb := Lib.hid (cb.out.trans hq)
          clear hq
          obtain ⟨c0, c1, c2, f0, f1, f2⟩ := bx.out.cells
          go_wp2_with fail
          refine (cleaned_pg _ w4.heap.size X S3 E2 (.slice pa pn pc) X (by have := hs.out; have := hK.out; omega) bx.out hP.out HVp.out pg.out sg.out.s1 (by have := sg.out.len; omega) (by intro p hp; have := HB.out; simp at hp; subst hp; simp; omega)).mono ?_
          rintro e b4 ⟨y4, S4, E4, rfl, bx, hs2, pg, hq⟩
          have hs := Lib.hid (show S4 ≤ 4300 * k + 4203 by have h1 := hs.out; have h2 := hs2.out.1; omega)
          have hE4 := Lib.hid hs2.out.2.1
          clear hs2 c0 c1 c2 f0 f1 f2
          have hC := Lib.hid (hC.out.below hq)
          have hP := Lib.hid (hP.out.below hq)
          have hT1 := Lib.hid (hT1.out.below hq)
          have cl := Lib.hid (cl.out.trans hq)
          have cb := Lib.hid (cb.out.trans hq)
          clear hq
          go_wp2_with fail
          refine (other_pgE (AtX 0 y4 (Holds [(n, toTr ⟨#[49, 48, 48]⟩)])) _ w4.heap.size X S4 2 E4 (by have := hs.out; have := hK.out; omega) bx.out pg.out (fun _ => two_steps (K1 := AtX (1 + (cleanP c).length + 5 + (cleanP p).length + 1) y4 (Holds [(n, toTr ⟨#[49, 48, 48]⟩)])) (fun s h => at_set (hs := []) (by have := HB.out; omega) sg.out.m6 (fun p hp => by cases hp) (h.weak fun rest _ => Holds.nil _)) (fun s h => at_jump sg.out.m7 (List.mem_singleton.2 rfl) (by decide +kernel) 0 (by omega) h)) 2 (by decide)).mono ?_
          rintro e b5 ⟨S5, rfl, bx, hs2, pg, hq⟩
          have hs := Lib.hid (show S5 ≤ 4300 * k + 4205 by have h1 := hs.out; have h2 := hs2.out; omega)
          clear hs2
          have hC := Lib.hid (hC.out.below hq)
          have hP := Lib.hid (hP.out.below hq)
          have hT1 := Lib.hid (hT1.out.below hq)
          have cl := Lib.hid (cl.out.trans hq)
          have cb := Lib.hid (cb.out.trans hq)
          clear hq
          obtain ⟨c0, c1, c2, f0, f1, f2⟩ := bx.out.cells
          by_cases hE4 : E4 = 0
          · rw [hE4] at c2 bx pg
            clear hE4
            go_wp2_with fail
            have hq : Below w4.heap.size b5 (b5.setCell ⟨w4.heap.size, 0, none⟩ (.string y4)) := (Below.refl _ _).setCell (p := ⟨w4.heap.size, 0, none⟩) (Nat.le_refl _) _
            go_roundg (60 - (k + 1))
            case measure => rw [HG.out]; have := hK.out; omega
            case rel => exact ⟨k + 1, S5, 0, y4, hK.out, rfl, by go_num, Lib.hid (bx.out.tree y4), Lib.hid (by have := hs.out; omega), Lib.hid (pg.out.weaken fun s h => h.weak fun rest _ => Holds.nil _), cl.out.trans hq⟩
          · go_wp2_with fail
            go_roundg (60 - (k + 1))
            case measure => rw [HG.out]; have := hK.out; omega
            case rel => exact ⟨k + 1, S5, E4, X, hK.out, rfl, by go_num, bx, Lib.hid (by have := hs.out; omega), Lib.hid (pg.out.bad hE4 _), cl.out⟩
      · have hk60 : k = 60 := by omega
        subst hk60
        go_wp2_with fail
        have hq := (Below.refl w4.heap.size wr).setCell (p := ⟨w4.heap.size, 2, none⟩) (Nat.le_refl _) (.int .i64 7)
        refine (ends_any _ w4.heap.size X S0 7 (by have := hs0.out; omega) (bx.out.err 7) vt _ x (hT1.out.below hq) HV.out HX.out (pg.out.rounds (by rw [sg.out.len]; omega))).mono ?_
        rintro e b9 ⟨rfl, hq2⟩
        have cb := Lib.hid ((cb.out.trans hq).trans hq2)
        go_wp2_with fail
        refine (awake_any _).mono ?_
        rintro e wz ⟨rfl, hqz⟩
        go_wp2
        go_ret
        exact ⟨rfl, (ch.out.trans (cb.out.mono ch.out.size)).trans (hqz.mono (Nat.le_trans ch.out.size cb.out.size))⟩
    · skip
      by_cases hlt : (k : Int) < 60
      all_goals (
      go_wp2_with fail
      refine (ends_any _ w4.heap.size X S0 E0 (by have := hs0.out; omega) bx.out vt _ x hT1.out HV.out HX.out (pg.out.endedE hE)).mono ?_
      rintro e b9 ⟨rfl, hq2⟩
      have cb := Lib.hid (cb.out.trans hq2)
      go_wp2_with fail
      refine (awake_any _).mono ?_
      rintro e wz ⟨rfl, hqz⟩
      go_wp2
      go_ret
      exact ⟨rfl, (ch.out.trans (cb.out.mono ch.out.size)).trans (hqz.mono (Nat.le_trans ch.out.size cb.out.size))⟩)

theorem law_BuildLoops {w : World} (vc : Value) (c : List Ins) (hc : InsRow w w.heap.size vc c) (vp : Value) (p : List Ins) (hp : InsRow w w.heap.size vp p) (x : ByteArray) (hx : x.size ≤ 140737488355328) :
    Calls Try.prog 4 #[vc, vp, .string x] w fun e w' => e = .returned (.bool true) ∧ Below w.heap.size w w' := by
  obtain ⟨ca, cc, rfl⟩ := hc.len
  obtain ⟨pa, pc, rfl⟩ := hp.len
  by_cases hd : dueF [c, p] [] = 0
  · cases ht : isTree x with
    | true =>
      have hz := dueF_zero hd
      rcases dueN_03 (whileL c p) hz.1 hz.2 with ⟨h1, h2⟩ | h1
      · exact loops_main _ _ _ _ _ _ c p x hx hc hp (Lib.hid hd) (Lib.hid ht) (Lib.hid h1) (Lib.hid h2)
      · exact loops_big _ _ _ _ _ _ c p x hx hc hp (Lib.hid hd) (Lib.hid ht) (Lib.hid h1)
    | false => exact loops_notree _ _ _ _ _ _ c p x hx hc hp (Lib.hid hd) (Lib.hid ht)
  · exact loops_due _ _ _ _ _ _ c p x hx hc hp _ (Lib.hid rfl) hd

end Go.Proofs.Ytaiomcjopgnfpaa

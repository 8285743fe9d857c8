/- law06: given, awake; ref06.Most; what runs of the universal program say. -/
import Derived.Test.YtlaeljkjdfffjaaUni5
import Derived.Test.YtlaeljkjdfffjaaUni6
import Derived.Test.YtlaeljkjdfffjaaMeta2
import Derived.Test.YtlaeljkjdfffjaaFixP
import Derived.Test.YtlaeljkjdfffjaaMB3
import Derived.Test.YtlaeljkjdfffjaaMB2
namespace Go.Proofs.Ytlaeljkjdfffjaa
open Go.RowKit

set_option maxRecDepth 20000 in
set_option maxHeartbeats 8000000 in
theorem given_code {w : World} (vp : Value) (p : List Ins) (hhp : InsRow w w.heap.size vp p) (t : Tr) (x : Value) (hhx : NodeP 58 w t x) (hht : t.size ≤ 2000000) (hhv : validB p = true) (hc : ¬ codeN p ≤ 2000000) : Calls Try.prog 32 #[vp, x] w fun e w' => e = .returned (.pointer none) ∧ Below w.heap.size w w' := by
  have hp := Lib.hid hhp
  have hx := Lib.hid hhx
  have HT := Lib.hid hht
  have HV := Lib.hid hhv
  obtain ⟨cs, hcs⟩ : ∃ z, codeOf p = z := ⟨_, rfl⟩
  obtain ⟨N, hN⟩ : ∃ z, cs.size = z := ⟨_, rfl⟩
  have hNc : N = codeN p := by rw [← hN, ← hcs, codeOf_size]; rfl
  have HCS := Lib.hid hcs
  have kc := Lib.hid (fun w1 (h : InsRow w1 w1.heap.size vp p) => rcode_any vp p w1 h HV.out)
  rw [hcs] at kc
  have hN' : (cs.size : Int) = (N : Int) := by rw [hN]
  clear hhp hhx hht hhv hcs
  have ch := Lib.hid (Below.refl w.heap.size w)
  go_enter Try.func32, Try.ntmps32
  go_wp2_with fail
  refine (kc.out _ hp.out).mono ?_
  rintro e w1 ⟨rfl, hq⟩
  replace hp := Lib.hid ((hp.out.below hq).mono hq.size)
  replace hx := Lib.hid (hx.out.kept (Kept.below hq))
  replace ch := Lib.hid (ch.out.trans (hq.mono ch.out.size))
  clear hq
  have hgt : (2000000 : Int) < (cs.size : Int) := by rw [hN, hNc]; omega
  clear hN hN' hNc
  go_wp2
  go_ret
  exact ⟨rfl, ch.out⟩

set_option maxRecDepth 20000 in
set_option maxHeartbeats 8000000 in
theorem given_large {w : World} (vp : Value) (p : List Ins) (hhp : InsRow w w.heap.size vp p) (t : Tr) (x : Value) (hhx : NodeP 58 w t x) (hht : t.size ≤ 2000000) (hhv : validB p = true) (hc : codeN p ≤ 2000000) (hz : ¬ (Tr.pair (codeT p) t).size ≤ 2000000) : Calls Try.prog 32 #[vp, x] w fun e w' => e = .returned (.pointer none) ∧ Below w.heap.size w w' := by
  have hp := Lib.hid hhp
  have hx := Lib.hid hhx
  have HT := Lib.hid hht
  have HV := Lib.hid hhv
  obtain ⟨cs, hcs⟩ : ∃ z, codeOf p = z := ⟨_, rfl⟩
  obtain ⟨N, hN⟩ : ∃ z, cs.size = z := ⟨_, rfl⟩
  have hNc : N = codeN p := by rw [← hN, ← hcs, codeOf_size]; rfl
  have HCS := Lib.hid hcs
  have kc := Lib.hid (fun w1 (h : InsRow w1 w1.heap.size vp p) => rcode_any vp p w1 h HV.out)
  rw [hcs] at kc
  have hN' : (cs.size : Int) = (N : Int) := by rw [hN]
  clear hhp hhx hht hhv hcs
  have ch := Lib.hid (Below.refl w.heap.size w)
  go_enter Try.func32, Try.ntmps32
  go_wp2_with fail
  refine (kc.out _ hp.out).mono ?_
  rintro e w1 ⟨rfl, hq⟩
  replace hp := Lib.hid ((hp.out.below hq).mono hq.size)
  replace hx := Lib.hid (hx.out.kept (Kept.below hq))
  replace ch := Lib.hid (ch.out.trans (hq.mono ch.out.size))
  clear hq
  have hgt : ¬ (2000000 : Int) < (cs.size : Int) := by rw [hN, hNc]; omega
  have HZC := Lib.hid (show (codeT p).size ≤ 2000000 by rw [codeT_size HV.out]; exact hc)
  have kr := Lib.hid (fun w1 => read_code p HV.out hc w1)
  rw [HCS.out] at kr
  clear hN hN' hNc hc
  obtain ⟨Z, hZ⟩ : ∃ z, (Tr.pair (codeT p) t).size = z := ⟨_, rfl⟩
  have HZ := Lib.hid hZ
  have hz2 :  (2000000 : Int) < (Z : Int) := by omega
  clear hZ hz
  go_wp2_with fail
  refine (kr.out _).mono ?_
  rintro e w2 ⟨pc, rfl, hy, hq⟩
  replace hp := Lib.hid ((hp.out.below hq).mono hq.size)
  replace hx := Lib.hid (hx.out.kept (Kept.below hq))
  replace ch := Lib.hid (ch.out.trans (hq.mono ch.out.size))
  clear hq
  replace hy := Lib.hid hy
  go_wp2_with fail
  refine (rcons_at hy.out hx.out (by have := HZC.out; omega) (by have := HT.out; omega)).mono ?_
  rintro e w3 ⟨g, rfl, hn, hq⟩
  replace hp := Lib.hid ((hp.out.below hq).mono hq.size)
  replace hx := Lib.hid (hx.out.kept (Kept.below hq))
  replace hy := Lib.hid (hy.out.kept (Kept.below hq))
  replace ch := Lib.hid (ch.out.trans (hq.mono ch.out.size))
  clear hq
  replace hn := Lib.hid hn
  have cn := node_count hn.out Z HZ.out
  go_wp2
  go_ret
  exact ⟨rfl, ch.out⟩

set_option maxRecDepth 20000 in
set_option maxHeartbeats 8000000 in
theorem given_ok {w : World} (vp : Value) (p : List Ins) (hhp : InsRow w w.heap.size vp p) (t : Tr) (x : Value) (hhx : NodeP 58 w t x) (hht : t.size ≤ 2000000) (hhv : validB p = true) (hc : codeN p ≤ 2000000) (hz : (Tr.pair (codeT p) t).size ≤ 2000000) : Calls Try.prog 32 #[vp, x] w fun e w' => ∃ g, e = .returned (.pointer (some ⟨g, 0, none⟩)) ∧ NodeP 58 w' (.pair (codeT p) t) (.pointer (some ⟨g, 0, none⟩)) ∧ Below w.heap.size w w' := by
  have hp := Lib.hid hhp
  have hx := Lib.hid hhx
  have HT := Lib.hid hht
  have HV := Lib.hid hhv
  obtain ⟨cs, hcs⟩ : ∃ z, codeOf p = z := ⟨_, rfl⟩
  obtain ⟨N, hN⟩ : ∃ z, cs.size = z := ⟨_, rfl⟩
  have hNc : N = codeN p := by rw [← hN, ← hcs, codeOf_size]; rfl
  have HCS := Lib.hid hcs
  have kc := Lib.hid (fun w1 (h : InsRow w1 w1.heap.size vp p) => rcode_any vp p w1 h HV.out)
  rw [hcs] at kc
  have hN' : (cs.size : Int) = (N : Int) := by rw [hN]
  clear hhp hhx hht hhv hcs
  have ch := Lib.hid (Below.refl w.heap.size w)
  go_enter Try.func32, Try.ntmps32
  go_wp2_with fail
  refine (kc.out _ hp.out).mono ?_
  rintro e w1 ⟨rfl, hq⟩
  replace hp := Lib.hid ((hp.out.below hq).mono hq.size)
  replace hx := Lib.hid (hx.out.kept (Kept.below hq))
  replace ch := Lib.hid (ch.out.trans (hq.mono ch.out.size))
  clear hq
  have hgt : ¬ (2000000 : Int) < (cs.size : Int) := by rw [hN, hNc]; omega
  have HZC := Lib.hid (show (codeT p).size ≤ 2000000 by rw [codeT_size HV.out]; exact hc)
  have kr := Lib.hid (fun w1 => read_code p HV.out hc w1)
  rw [HCS.out] at kr
  clear hN hN' hNc hc
  obtain ⟨Z, hZ⟩ : ∃ z, (Tr.pair (codeT p) t).size = z := ⟨_, rfl⟩
  have HZ := Lib.hid hZ
  have hz2 : ¬ (2000000 : Int) < (Z : Int) := by omega
  clear hZ hz
  go_wp2_with fail
  refine (kr.out _).mono ?_
  rintro e w2 ⟨pc, rfl, hy, hq⟩
  replace hp := Lib.hid ((hp.out.below hq).mono hq.size)
  replace hx := Lib.hid (hx.out.kept (Kept.below hq))
  replace ch := Lib.hid (ch.out.trans (hq.mono ch.out.size))
  clear hq
  replace hy := Lib.hid hy
  go_wp2_with fail
  refine (rcons_at hy.out hx.out (by have := HZC.out; omega) (by have := HT.out; omega)).mono ?_
  rintro e w3 ⟨g, rfl, hn, hq⟩
  replace hp := Lib.hid ((hp.out.below hq).mono hq.size)
  replace hx := Lib.hid (hx.out.kept (Kept.below hq))
  replace hy := Lib.hid (hy.out.kept (Kept.below hq))
  replace ch := Lib.hid (ch.out.trans (hq.mono ch.out.size))
  clear hq
  replace hn := Lib.hid hn
  have cn := node_count hn.out Z HZ.out
  go_wp2
  go_ret
  exact ⟨g, rfl, hn.out, ch.out⟩

theorem given_none {w : World} (vp : Value) (p : List Ins) (hhp : InsRow w w.heap.size vp p) (t : Tr) (x : Value) (hhx : NodeP 58 w t x) (hht : t.size ≤ 2000000) (hhv : validB p = true) (h : ¬ (codeN p ≤ 2000000 ∧ (Tr.pair (codeT p) t).size ≤ 2000000)) : Calls Try.prog 32 #[vp, x] w fun e w' => e = .returned (.pointer none) ∧ Below w.heap.size w w' := by
  by_cases hc : codeN p ≤ 2000000
  · exact given_large vp p hhp t x hhx hht hhv hc (fun hz => h ⟨hc, hz⟩)
  · exact given_code vp p hhp t x hhx hht hhv hc

def tlP : List Ins := [⟨4, 0, 0, 0, ⟨#[]⟩⟩]
def aw6S : ByteArray := ⟨#[49, 49, 49, 49, 48, 49, 48, 49, 48, 49, 48, 48, 49, 48, 48, 48, 49, 48, 49, 48, 48]⟩
def aw6T : Tr := .pair (codeT tlP) (toTr ⟨#[49, 48, 49, 48, 48]⟩)
theorem aw6_run : (goF univL 10000 0 (startS aw6T)).run = (⟨#[49, 48, 48]⟩, 45, 0) := by decide +kernel
theorem aw6_text : TS aw6T = aw6S := by decide +kernel
theorem aw6_size : aw6T.size ≤ 2000000 := by decide +kernel
def aw6U : Tr := .pair .nil (toTr ⟨#[49, 48, 49, 48, 48]⟩)
theorem aw6_run2 : (goF univL 10000 0 (startS aw6U)).run = (⟨#[49, 48, 49, 48, 48]⟩, 8, 0) := by decide +kernel
theorem aw6_text2 : TS aw6U = ⟨#[49, 48, 49, 48, 49, 48, 48]⟩ := by decide +kernel
theorem aw6_size2 : aw6U.size ≤ 2000000 := by decide +kernel
theorem tlP_valid : validB tlP = true := by decide +kernel
theorem tlP_code : codeOf tlP = ⟨#[49, 49, 49, 48, 49, 48, 49, 48, 49, 48, 48, 49, 48, 48, 48]⟩ := by decide +kernel
theorem tlP_wf : ∀ x ∈ tlP, x.wf := by
  intro x hx
  simp [tlP] at hx
  subst hx
  exact wf_lit _ _ _ _ _ (by unfold i64; decide) (by unfold i64; decide) (by unfold i64; decide) (by unfold i64; decide) (by decide)
theorem rcode_at (v : Value) (l : List Ins) (s : ByteArray) (w : World) (hl : InsRow w w.heap.size v l) (hv : validB l = true) (hs : codeOf l = s) :
    Calls Try.prog 27 #[v] w fun e w' => e = .returned (.string s) ∧ Below w.heap.size w w' := by
  subst hs
  exact rcode_any v l w hl hv
set_option maxRecDepth 20000 in
set_option maxHeartbeats 8000000 in
theorem awake06 (w : World) : Calls Try.prog 29 #[] w fun e w' => e = .returned (.bool true) ∧ Below w.heap.size w w' := by
  have ch := Lib.hid (Below.refl w.heap.size w)
  go_enter Try.func29, Try.ntmps29
  go_wp2_with fail
  refine (universal_any _).mono ?_
  rintro e w1 ⟨vu, rfl, hu, hq⟩
  replace ch := Lib.hid (ch.out.trans (hq.mono ch.out.size))
  clear hq
  obtain ⟨ua, uc, rfl⟩ := hu.slice
  rw [univ_len] at hu ⊢
  replace hu := Lib.hid (hu.row (by rw [univ_len]; omega))
  go_wp2_with fail
  obtain ⟨wL, hW⟩ : ∃ B, w1.alloc (.cells #[.int .i64 4, .int .i64 0, .int .i64 0, .int .i64 0, .string ⟨#[]⟩] 41) = B := ⟨_, rfl⟩
  rw [hW]
  have hq : Below w1.heap.size w1 wL := by rw [← hW]; exact (Below.refl _ _).alloc (Nat.le_refl _) _
  have h1 := Lib.hid (show InsRow wL wL.heap.size (.slice (some ⟨w1.heap.size, 0, none⟩) 1 1) tlP by rw [← hW]; exact (OwnI.lit w1 tlP tlP_wf (by decide)).row (by decide))
  clear hW
  replace hu := Lib.hid ((hu.out.below hq).mono hq.size)
  replace ch := Lib.hid (ch.out.trans (hq.mono ch.out.size))
  clear hq
  refine (rcode_at _ tlP _ _ h1.out tlP_valid tlP_code).mono ?_
  rintro e w2 ⟨rfl, hq⟩
  replace hu := Lib.hid ((hu.out.below hq).mono hq.size)
  replace ch := Lib.hid (ch.out.trans (hq.mono ch.out.size))
  clear hq
  clear h1
  go_wp2_with fail
  refine (runOk_at 10000 _ _ 45 0 aw6_run univ_valid aw6_size (aw6_text.trans (by decide +kernel)) rfl (by omega) hu.out).mono ?_
  rintro e w3 ⟨rfl, hq⟩
  replace hu := Lib.hid ((hu.out.below hq).mono hq.size)
  replace ch := Lib.hid (ch.out.trans (hq.mono ch.out.size))
  clear hq
  go_wp2_with fail
  refine (runOk_at 10000 _ _ 8 0 aw6_run2 univ_valid aw6_size2 aw6_text2 rfl (by omega) hu.out).mono ?_
  rintro e w4 ⟨rfl, hq⟩
  replace hu := Lib.hid ((hu.out.below hq).mono hq.size)
  replace ch := Lib.hid (ch.out.trans (hq.mono ch.out.size))
  clear hq
  go_wp2
  go_ret
  exact ⟨rfl, ch.out⟩

end Go.Proofs.Ytlaeljkjdfffjaa


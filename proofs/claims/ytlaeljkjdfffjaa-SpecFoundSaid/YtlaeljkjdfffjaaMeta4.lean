/- law05: SpecMeta, SpecAgain, SpecFound. -/
import Derived.Test.YtlaeljkjdfffjaaMeta3
import Derived.Test.YtlaeljkjdfffjaaMB3
import Derived.Test.YtlaeljkjdfffjaaMB2
import Derived.Test.YtlaeljkjdfffjaaDec5
namespace Go.Proofs.Ytlaeljkjdfffjaa
open Go.RowKit

set_option maxRecDepth 20000 in
set_option maxHeartbeats 8000000 in
theorem spf_a {w : World} (vp : Value) (p : List Ins) (hhp : InsRow w w.heap.size vp p) (d : ByteArray) (hd : d.size ≤ 140737488355328) (HV : Hid (validB p = false)) : Calls Try.prog 11 #[vp, .string d] w fun e w' => e = .returned (.bool true) ∧ Below w.heap.size w w' := by
  obtain ⟨pa, pc, rfl⟩ := hhp.len
  obtain ⟨pn, hpn⟩ : ∃ z, p.length = z := ⟨_, rfl⟩
  rw [hpn] at hhp ⊢
  have hp := Lib.hid hhp
  clear hhp
  clear hpn
  have ch := Lib.hid (Below.refl w.heap.size w)
  go_enter Try.func11, Try.ntmps11
  go_wp2_with fail
  refine (cvalid_at false HV.out hp.out).mono ?_
  rintro e w1 ⟨rfl, hq⟩
  replace hp := Lib.hid ((hp.out.below hq).mono hq.size)
  replace ch := Lib.hid (ch.out.trans (hq.mono ch.out.size))
  clear hq
  go_wp2_with fail
  refine (awake05 _).mono ?_
  rintro e w2 ⟨rfl, hq⟩
  replace hp := Lib.hid ((hp.out.below hq).mono hq.size)
  replace ch := Lib.hid (ch.out.trans (hq.mono ch.out.size))
  clear hq
  go_wp2
  go_ret
  exact ⟨rfl, ch.out⟩

set_option maxRecDepth 20000 in
set_option maxHeartbeats 8000000 in
theorem spf_b {w : World} (vp : Value) (p : List Ins) (hhp : InsRow w w.heap.size vp p) (d : ByteArray) (hd : d.size ≤ 140737488355328) (HV : Hid (validB p = true)) (HD : Hid (isTree d = false)) : Calls Try.prog 11 #[vp, .string d] w fun e w' => e = .returned (.bool true) ∧ Below w.heap.size w w' := by
  obtain ⟨pa, pc, rfl⟩ := hhp.len
  obtain ⟨pn, hpn⟩ : ∃ z, p.length = z := ⟨_, rfl⟩
  rw [hpn] at hhp ⊢
  have hp := Lib.hid hhp
  clear hhp
  clear hpn
  have ch := Lib.hid (Below.refl w.heap.size w)
  go_enter Try.func11, Try.ntmps11
  go_wp2_with fail
  refine (cvalid_at true HV.out hp.out).mono ?_
  rintro e w1 ⟨rfl, hq⟩
  replace hp := Lib.hid ((hp.out.below hq).mono hq.size)
  replace ch := Lib.hid (ch.out.trans (hq.mono ch.out.size))
  clear hq
  go_wp2_with fail
  refine (tvalid_at d hd false HD.out _).mono ?_
  rintro e w2 ⟨rfl, hq⟩
  replace hp := Lib.hid ((hp.out.below hq).mono hq.size)
  replace ch := Lib.hid (ch.out.trans (hq.mono ch.out.size))
  clear hq
  go_wp2_with fail
  refine (awake05 _).mono ?_
  rintro e w3 ⟨rfl, hq⟩
  replace hp := Lib.hid ((hp.out.below hq).mono hq.size)
  replace ch := Lib.hid (ch.out.trans (hq.mono ch.out.size))
  clear hq
  go_wp2
  go_ret
  exact ⟨rfl, ch.out⟩

set_option maxRecDepth 20000 in
set_option maxHeartbeats 8000000 in
theorem spf_c {w : World} (vp : Value) (p : List Ins) (hhp : InsRow w w.heap.size vp p) (d : ByteArray) (hd : d.size ≤ 140737488355328) (HV : Hid (validB p = true)) (HD : Hid (isTree d = true)) (HLN : Hid (p.length ≤ 2932031007402)) (HC : Hid (¬ codeN p ≤ 2000000)) (HS : Hid (¬ validB (specL d p) = true)) : Calls Try.prog 11 #[vp, .string d] w fun e w' => e = .returned (.bool true) ∧ Below w.heap.size w w' := by
  obtain ⟨pa, pc, rfl⟩ := hhp.len
  obtain ⟨pn, hpn⟩ : ∃ z, p.length = z := ⟨_, rfl⟩
  rw [hpn] at hhp ⊢
  have hp := Lib.hid hhp
  clear hhp
  have ch := Lib.hid (Below.refl w.heap.size w)
  go_enter Try.func11, Try.ntmps11
  have HPN := Lib.hid hpn
  clear hpn
  go_wp2_with fail
  refine (cvalid_at true HV.out hp.out).mono ?_
  rintro e w1 ⟨rfl, hq⟩
  replace hp := Lib.hid ((hp.out.below hq).mono hq.size)
  replace ch := Lib.hid (ch.out.trans (hq.mono ch.out.size))
  clear hq
  go_wp2_with fail
  refine (tvalid_at d hd true HD.out _).mono ?_
  rintro e w2 ⟨rfl, hq⟩
  replace hp := Lib.hid ((hp.out.below hq).mono hq.size)
  replace ch := Lib.hid (ch.out.trans (hq.mono ch.out.size))
  clear hq
  go_wp2_with fail
  refine (twin_own _ p _ hp.out).mono ?_
  rintro e w3 ⟨ta, tc, rfl, ht, hq⟩
  replace hp := Lib.hid ((hp.out.below hq).mono hq.size)
  replace ch := Lib.hid (ch.out.trans (hq.mono ch.out.size))
  clear hq
  rw [HPN.out] at ht ⊢
  replace ht := Lib.hid (ht.row HLN.out)
  go_wp2_with fail
  refine (code_large _ p _ ht.out HV.out HC.out).mono ?_
  rintro e w4 ⟨rfl, hq⟩
  replace hp := Lib.hid ((hp.out.below hq).mono hq.size)
  replace ht := Lib.hid ((ht.out.below hq).mono hq.size)
  replace ch := Lib.hid (ch.out.trans (hq.mono ch.out.size))
  clear hq
  go_wp2_with fail
  refine (twin_own _ p _ hp.out).mono ?_
  rintro e w5 ⟨ua, uc, rfl, hu, hq⟩
  replace hp := Lib.hid ((hp.out.below hq).mono hq.size)
  replace ht := Lib.hid ((ht.out.below hq).mono hq.size)
  replace ch := Lib.hid (ch.out.trans (hq.mono ch.out.size))
  clear hq
  rw [HPN.out] at hu ⊢
  replace hu := Lib.hid (hu.row HLN.out)
  go_wp2_with fail
  refine (spec_large _ p d _ hu.out HV.out HD.out HS.out).mono ?_
  rintro e w6 ⟨rfl, hq⟩
  replace hp := Lib.hid ((hp.out.below hq).mono hq.size)
  replace ht := Lib.hid ((ht.out.below hq).mono hq.size)
  replace hu := Lib.hid ((hu.out.below hq).mono hq.size)
  replace ch := Lib.hid (ch.out.trans (hq.mono ch.out.size))
  clear hq
  go_wp2_with fail
  refine (awake05 _).mono ?_
  rintro e w7 ⟨rfl, hq⟩
  replace hp := Lib.hid ((hp.out.below hq).mono hq.size)
  replace ht := Lib.hid ((ht.out.below hq).mono hq.size)
  replace hu := Lib.hid ((hu.out.below hq).mono hq.size)
  replace ch := Lib.hid (ch.out.trans (hq.mono ch.out.size))
  clear hq
  go_wp2
  go_ret
  exact ⟨rfl, ch.out⟩

set_option maxRecDepth 20000 in
set_option maxHeartbeats 8000000 in
theorem spf_d {w : World} (vp : Value) (p : List Ins) (hhp : InsRow w w.heap.size vp p) (d : ByteArray) (hd : d.size ≤ 140737488355328) (HV : Hid (validB p = true)) (HD : Hid (isTree d = true)) (HLN : Hid (p.length ≤ 2932031007402)) (HC : Hid (¬ codeN p ≤ 2000000)) (HS : Hid (validB (specL d p) = true)) : Calls Try.prog 11 #[vp, .string d] w fun e w' => e = .returned (.bool true) ∧ Below w.heap.size w w' := by
  obtain ⟨pa, pc, rfl⟩ := hhp.len
  obtain ⟨pn, hpn⟩ : ∃ z, p.length = z := ⟨_, rfl⟩
  rw [hpn] at hhp ⊢
  have hp := Lib.hid hhp
  clear hhp
  have ch := Lib.hid (Below.refl w.heap.size w)
  go_enter Try.func11, Try.ntmps11
  have HPN := Lib.hid hpn
  clear hpn
  go_wp2_with fail
  refine (cvalid_at true HV.out hp.out).mono ?_
  rintro e w1 ⟨rfl, hq⟩
  replace hp := Lib.hid ((hp.out.below hq).mono hq.size)
  replace ch := Lib.hid (ch.out.trans (hq.mono ch.out.size))
  clear hq
  go_wp2_with fail
  refine (tvalid_at d hd true HD.out _).mono ?_
  rintro e w2 ⟨rfl, hq⟩
  replace hp := Lib.hid ((hp.out.below hq).mono hq.size)
  replace ch := Lib.hid (ch.out.trans (hq.mono ch.out.size))
  clear hq
  go_wp2_with fail
  refine (twin_own _ p _ hp.out).mono ?_
  rintro e w3 ⟨ta, tc, rfl, ht, hq⟩
  replace hp := Lib.hid ((hp.out.below hq).mono hq.size)
  replace ch := Lib.hid (ch.out.trans (hq.mono ch.out.size))
  clear hq
  rw [HPN.out] at ht ⊢
  replace ht := Lib.hid (ht.row HLN.out)
  go_wp2_with fail
  refine (code_large _ p _ ht.out HV.out HC.out).mono ?_
  rintro e w4 ⟨rfl, hq⟩
  replace hp := Lib.hid ((hp.out.below hq).mono hq.size)
  replace ht := Lib.hid ((ht.out.below hq).mono hq.size)
  replace ch := Lib.hid (ch.out.trans (hq.mono ch.out.size))
  clear hq
  go_wp2_with fail
  refine (twin_own _ p _ hp.out).mono ?_
  rintro e w5 ⟨ua, uc, rfl, hu, hq⟩
  replace hp := Lib.hid ((hp.out.below hq).mono hq.size)
  replace ht := Lib.hid ((ht.out.below hq).mono hq.size)
  replace ch := Lib.hid (ch.out.trans (hq.mono ch.out.size))
  clear hq
  rw [HPN.out] at hu ⊢
  replace hu := Lib.hid (hu.row HLN.out)
  go_wp2_with fail
  refine (spec_fine _ p d _ hu.out HV.out HD.out HS.out).mono ?_
  rintro e w6 ⟨vq, rfl, hQ, hq⟩
  replace hp := Lib.hid ((hp.out.below hq).mono hq.size)
  replace ht := Lib.hid ((ht.out.below hq).mono hq.size)
  replace hu := Lib.hid ((hu.out.below hq).mono hq.size)
  replace ch := Lib.hid (ch.out.trans (hq.mono ch.out.size))
  clear hq
  replace hQ := Lib.hid hQ
  go_wp2_with fail
  refine (awake05 _).mono ?_
  rintro e w7 ⟨rfl, hq⟩
  replace hp := Lib.hid ((hp.out.below hq).mono hq.size)
  replace ht := Lib.hid ((ht.out.below hq).mono hq.size)
  replace hu := Lib.hid ((hu.out.below hq).mono hq.size)
  replace hQ := Lib.hid ((hQ.out.below hq).mono hq.size)
  replace ch := Lib.hid (ch.out.trans (hq.mono ch.out.size))
  clear hq
  go_wp2
  go_ret
  exact ⟨rfl, ch.out⟩

set_option maxRecDepth 20000 in
set_option maxHeartbeats 8000000 in
theorem spf_e {w : World} (vp : Value) (p : List Ins) (hhp : InsRow w w.heap.size vp p) (d : ByteArray) (hd : d.size ≤ 140737488355328) (HV : Hid (validB p = true)) (HD : Hid (isTree d = true)) (HLN : Hid (p.length ≤ 2932031007402)) (HC : Hid (codeN p ≤ 2000000)) (HS : Hid (¬ validB (specL d p) = true)) : Calls Try.prog 11 #[vp, .string d] w fun e w' => e = .returned (.bool true) ∧ Below w.heap.size w w' := by
  obtain ⟨pa, pc, rfl⟩ := hhp.len
  obtain ⟨pn, hpn⟩ : ∃ z, p.length = z := ⟨_, rfl⟩
  rw [hpn] at hhp ⊢
  have hp := Lib.hid hhp
  clear hhp
  have ch := Lib.hid (Below.refl w.heap.size w)
  go_enter Try.func11, Try.ntmps11
  have HPN := Lib.hid hpn
  clear hpn
  go_wp2_with fail
  refine (cvalid_at true HV.out hp.out).mono ?_
  rintro e w1 ⟨rfl, hq⟩
  replace hp := Lib.hid ((hp.out.below hq).mono hq.size)
  replace ch := Lib.hid (ch.out.trans (hq.mono ch.out.size))
  clear hq
  go_wp2_with fail
  refine (tvalid_at d hd true HD.out _).mono ?_
  rintro e w2 ⟨rfl, hq⟩
  replace hp := Lib.hid ((hp.out.below hq).mono hq.size)
  replace ch := Lib.hid (ch.out.trans (hq.mono ch.out.size))
  clear hq
  go_wp2_with fail
  refine (twin_own _ p _ hp.out).mono ?_
  rintro e w3 ⟨ta, tc, rfl, ht, hq⟩
  replace hp := Lib.hid ((hp.out.below hq).mono hq.size)
  replace ch := Lib.hid (ch.out.trans (hq.mono ch.out.size))
  clear hq
  rw [HPN.out] at ht ⊢
  replace ht := Lib.hid (ht.row HLN.out)
  go_wp2_with fail
  refine (code_fine _ p _ ht.out HV.out HC.out).mono ?_
  rintro e w4 ⟨rfl, hq⟩
  replace hp := Lib.hid ((hp.out.below hq).mono hq.size)
  replace ht := Lib.hid ((ht.out.below hq).mono hq.size)
  replace ch := Lib.hid (ch.out.trans (hq.mono ch.out.size))
  clear hq
  go_wp2_with fail
  refine (twin_own _ p _ hp.out).mono ?_
  rintro e w5 ⟨ua, uc, rfl, hu, hq⟩
  replace hp := Lib.hid ((hp.out.below hq).mono hq.size)
  replace ht := Lib.hid ((ht.out.below hq).mono hq.size)
  replace ch := Lib.hid (ch.out.trans (hq.mono ch.out.size))
  clear hq
  rw [HPN.out] at hu ⊢
  replace hu := Lib.hid (hu.row HLN.out)
  go_wp2_with fail
  refine (spec_large _ p d _ hu.out HV.out HD.out HS.out).mono ?_
  rintro e w6 ⟨rfl, hq⟩
  replace hp := Lib.hid ((hp.out.below hq).mono hq.size)
  replace ht := Lib.hid ((ht.out.below hq).mono hq.size)
  replace hu := Lib.hid ((hu.out.below hq).mono hq.size)
  replace ch := Lib.hid (ch.out.trans (hq.mono ch.out.size))
  clear hq
  go_wp2_with fail
  refine (awake05 _).mono ?_
  rintro e w7 ⟨rfl, hq⟩
  replace hp := Lib.hid ((hp.out.below hq).mono hq.size)
  replace ht := Lib.hid ((ht.out.below hq).mono hq.size)
  replace hu := Lib.hid ((hu.out.below hq).mono hq.size)
  replace ch := Lib.hid (ch.out.trans (hq.mono ch.out.size))
  clear hq
  go_wp2
  go_ret
  exact ⟨rfl, ch.out⟩

set_option maxRecDepth 20000 in
set_option maxHeartbeats 8000000 in
theorem spf_f {w : World} (vp : Value) (p : List Ins) (hhp : InsRow w w.heap.size vp p) (d : ByteArray) (hd : d.size ≤ 140737488355328) (HV : Hid (validB p = true)) (HD : Hid (isTree d = true)) (HLN : Hid (p.length ≤ 2932031007402)) (HC : Hid (codeN p ≤ 2000000)) (HS : Hid (validB (specL d p) = true)) : Calls Try.prog 11 #[vp, .string d] w fun e w' => e = .returned (.bool true) ∧ Below w.heap.size w w' := by
  obtain ⟨pa, pc, rfl⟩ := hhp.len
  obtain ⟨pn, hpn⟩ : ∃ z, p.length = z := ⟨_, rfl⟩
  rw [hpn] at hhp ⊢
  have hp := Lib.hid hhp
  clear hhp
  have ch := Lib.hid (Below.refl w.heap.size w)
  go_enter Try.func11, Try.ntmps11
  have HPN := Lib.hid hpn
  clear hpn
  go_wp2_with fail
  refine (cvalid_at true HV.out hp.out).mono ?_
  rintro e w1 ⟨rfl, hq⟩
  replace hp := Lib.hid ((hp.out.below hq).mono hq.size)
  replace ch := Lib.hid (ch.out.trans (hq.mono ch.out.size))
  clear hq
  go_wp2_with fail
  refine (tvalid_at d hd true HD.out _).mono ?_
  rintro e w2 ⟨rfl, hq⟩
  replace hp := Lib.hid ((hp.out.below hq).mono hq.size)
  replace ch := Lib.hid (ch.out.trans (hq.mono ch.out.size))
  clear hq
  go_wp2_with fail
  refine (twin_own _ p _ hp.out).mono ?_
  rintro e w3 ⟨ta, tc, rfl, ht, hq⟩
  replace hp := Lib.hid ((hp.out.below hq).mono hq.size)
  replace ch := Lib.hid (ch.out.trans (hq.mono ch.out.size))
  clear hq
  rw [HPN.out] at ht ⊢
  replace ht := Lib.hid (ht.row HLN.out)
  go_wp2_with fail
  refine (code_fine _ p _ ht.out HV.out HC.out).mono ?_
  rintro e w4 ⟨rfl, hq⟩
  replace hp := Lib.hid ((hp.out.below hq).mono hq.size)
  replace ht := Lib.hid ((ht.out.below hq).mono hq.size)
  replace ch := Lib.hid (ch.out.trans (hq.mono ch.out.size))
  clear hq
  go_wp2_with fail
  refine (twin_own _ p _ hp.out).mono ?_
  rintro e w5 ⟨ua, uc, rfl, hu, hq⟩
  replace hp := Lib.hid ((hp.out.below hq).mono hq.size)
  replace ht := Lib.hid ((ht.out.below hq).mono hq.size)
  replace ch := Lib.hid (ch.out.trans (hq.mono ch.out.size))
  clear hq
  rw [HPN.out] at hu ⊢
  replace hu := Lib.hid (hu.row HLN.out)
  go_wp2_with fail
  refine (spec_fine _ p d _ hu.out HV.out HD.out HS.out).mono ?_
  rintro e w6 ⟨vq, rfl, hQ, hq⟩
  replace hp := Lib.hid ((hp.out.below hq).mono hq.size)
  replace ht := Lib.hid ((ht.out.below hq).mono hq.size)
  replace hu := Lib.hid ((hu.out.below hq).mono hq.size)
  replace ch := Lib.hid (ch.out.trans (hq.mono ch.out.size))
  clear hq
  replace hQ := Lib.hid hQ
  have hct := codeOf_tree (validB_all HV.out) HC.out
  obtain ⟨cs, hcs⟩ : ∃ z, codeOf p = z := ⟨_, rfl⟩
  have hcz : cs.size ≤ 140737488355328 := by have := (str_tree _ hct).1; have h2 := (str_tree _ hct).2; rw [hcs] at this h2; rw [← this, TS_size]; omega
  have hctr : toTr cs = codeT p := by rw [← hcs, codeOf_TS (validB_all HV.out), toTr_TS _ (by rw [codeT_size HV.out]; exact HC.out)]
  rw [hcs] at hct ⊢
  clear hcs
  replace hct := Lib.hid hct
  have hcz2 := Lib.hid hcz
  clear hcz
  replace hctr := Lib.hid hctr
  have zd := Lib.hid (str_tree d HD.out).2
  have zc := Lib.hid (show (codeT p).size ≤ 2000000 by rw [codeT_size HV.out]; exact HC.out)
  go_wp2_with fail
  refine (tvalid_at cs hcz2.out true hct.out _).mono ?_
  rintro e w7 ⟨rfl, hq⟩
  replace hp := Lib.hid ((hp.out.below hq).mono hq.size)
  replace ht := Lib.hid ((ht.out.below hq).mono hq.size)
  replace hu := Lib.hid ((hu.out.below hq).mono hq.size)
  replace hQ := Lib.hid ((hQ.out.below hq).mono hq.size)
  replace ch := Lib.hid (ch.out.trans (hq.mono ch.out.size))
  clear hq
  go_wp2_with fail
  refine (read_str cs hct.out _).mono ?_
  rintro e w8 ⟨px, rfl, hx, hq⟩
  replace hp := Lib.hid ((hp.out.below hq).mono hq.size)
  replace ht := Lib.hid ((ht.out.below hq).mono hq.size)
  replace hu := Lib.hid ((hu.out.below hq).mono hq.size)
  replace hQ := Lib.hid ((hQ.out.below hq).mono hq.size)
  replace ch := Lib.hid (ch.out.trans (hq.mono ch.out.size))
  clear hq
  rw [hctr.out] at hx
  replace hx := Lib.hid hx
  go_wp2_with fail
  refine (read_str d HD.out _).mono ?_
  rintro e w9 ⟨py, rfl, hy, hq⟩
  replace hp := Lib.hid ((hp.out.below hq).mono hq.size)
  replace ht := Lib.hid ((ht.out.below hq).mono hq.size)
  replace hu := Lib.hid ((hu.out.below hq).mono hq.size)
  replace hQ := Lib.hid ((hQ.out.below hq).mono hq.size)
  replace hx := Lib.hid (hx.out.kept (Kept.below hq))
  replace ch := Lib.hid (ch.out.trans (hq.mono ch.out.size))
  clear hq
  replace hy := Lib.hid hy
  go_wp2_with fail
  refine (meta5_any _ _ _ _ hx.out hy.out zc.out zd.out).mono ?_
  rintro e w10 ⟨q, bz, rfl, hM, hq⟩
  replace hp := Lib.hid ((hp.out.below hq).mono hq.size)
  replace ht := Lib.hid ((ht.out.below hq).mono hq.size)
  replace hu := Lib.hid ((hu.out.below hq).mono hq.size)
  replace hQ := Lib.hid ((hQ.out.below hq).mono hq.size)
  replace hx := Lib.hid (hx.out.kept (Kept.below hq))
  replace hy := Lib.hid (hy.out.kept (Kept.below hq))
  replace ch := Lib.hid (ch.out.trans (hq.mono ch.out.size))
  clear hq
  cases bz with
  | false =>
    clear hM
    go_wp2_with fail
    refine (awake05 _).mono ?_
    rintro e w11 ⟨rfl, hq⟩
    replace hp := Lib.hid ((hp.out.below hq).mono hq.size)
    replace ht := Lib.hid ((ht.out.below hq).mono hq.size)
    replace hu := Lib.hid ((hu.out.below hq).mono hq.size)
    replace hQ := Lib.hid ((hQ.out.below hq).mono hq.size)
    replace hx := Lib.hid (hx.out.kept (Kept.below hq))
    replace hy := Lib.hid (hy.out.kept (Kept.below hq))
    replace ch := Lib.hid (ch.out.trans (hq.mono ch.out.size))
    clear hq
    go_wp2
    go_ret
    exact ⟨rfl, ch.out⟩
  | true =>
    obtain ⟨hM1, hz⟩ := hM rfl
    clear hM
    rw [← metaT_spec] at hM1 hz
    have hM := Lib.hid hM1
    clear hM1
    replace hz := Lib.hid hz
    go_wp2_with fail
    refine (rnodeText_any _ _ _ hM.out (by have := hz.out; omega)).mono ?_
    rintro e w11 ⟨rfl, hq⟩
    replace hp := Lib.hid ((hp.out.below hq).mono hq.size)
    replace ht := Lib.hid ((ht.out.below hq).mono hq.size)
    replace hu := Lib.hid ((hu.out.below hq).mono hq.size)
    replace hQ := Lib.hid ((hQ.out.below hq).mono hq.size)
    replace hx := Lib.hid (hx.out.kept (Kept.below hq))
    replace hy := Lib.hid (hy.out.kept (Kept.below hq))
    replace hM := Lib.hid (hM.out.kept (Kept.below hq))
    replace ch := Lib.hid (ch.out.trans (hq.mono ch.out.size))
    clear hq
    go_wp2_with fail
    refine (decode_any _ hz.out _).mono ?_
    rintro e w12 ⟨hq, hor⟩
    have hdc := decT_of HS.out
    rcases hor with ⟨l', v', h1, rfl, hR⟩ | ⟨h1, _⟩
    · have hqq := trivial
      rw [hdc] at h1
      cases h1
      clear hdc
      replace hp := Lib.hid ((hp.out.below hq).mono hq.size)
      replace ht := Lib.hid ((ht.out.below hq).mono hq.size)
      replace hu := Lib.hid ((hu.out.below hq).mono hq.size)
      replace hQ := Lib.hid ((hQ.out.below hq).mono hq.size)
      replace hx := Lib.hid (hx.out.kept (Kept.below hq))
      replace hy := Lib.hid (hy.out.kept (Kept.below hq))
      replace hM := Lib.hid (hM.out.kept (Kept.below hq))
      replace ch := Lib.hid (ch.out.trans (hq.mono ch.out.size))
      clear hq
      replace hR := Lib.hid (hR.row (by have := validB_len HS.out; omega))
      obtain ⟨qa, qc, rfl⟩ := hQ.out.len
      obtain ⟨ra, rc, rfl⟩ := hR.out.len
      go_wp2_with fail
      refine (same_self hQ.out hR.out).mono ?_
      rintro e w13 ⟨rfl, hq⟩
      replace hp := Lib.hid ((hp.out.below hq).mono hq.size)
      replace ht := Lib.hid ((ht.out.below hq).mono hq.size)
      replace hu := Lib.hid ((hu.out.below hq).mono hq.size)
      replace hQ := Lib.hid ((hQ.out.below hq).mono hq.size)
      replace hx := Lib.hid (hx.out.kept (Kept.below hq))
      replace hy := Lib.hid (hy.out.kept (Kept.below hq))
      replace hM := Lib.hid (hM.out.kept (Kept.below hq))
      replace hR := Lib.hid ((hR.out.below hq).mono hq.size)
      replace ch := Lib.hid (ch.out.trans (hq.mono ch.out.size))
      clear hq
      go_wp2_with fail
      refine (awake05 _).mono ?_
      rintro e w14 ⟨rfl, hq⟩
      replace hp := Lib.hid ((hp.out.below hq).mono hq.size)
      replace ht := Lib.hid ((ht.out.below hq).mono hq.size)
      replace hu := Lib.hid ((hu.out.below hq).mono hq.size)
      replace hQ := Lib.hid ((hQ.out.below hq).mono hq.size)
      replace hx := Lib.hid (hx.out.kept (Kept.below hq))
      replace hy := Lib.hid (hy.out.kept (Kept.below hq))
      replace hM := Lib.hid (hM.out.kept (Kept.below hq))
      replace hR := Lib.hid ((hR.out.below hq).mono hq.size)
      replace ch := Lib.hid (ch.out.trans (hq.mono ch.out.size))
      clear hq
      go_wp2
      go_ret
      exact ⟨rfl, ch.out⟩
    · rw [hdc] at h1; cases h1

theorem law_SpecFound {w : World} (vp : Value) (p : List Ins) (hhp : InsRow w w.heap.size vp p) (d : ByteArray) (hd : d.size ≤ 140737488355328) :
    Calls Try.prog 11 #[vp, .string d] w fun e w' => e = .returned (.bool true) ∧ Below w.heap.size w w' := by
  cases h1 : validB p with
  | false => exact spf_a vp p hhp d hd (Lib.hid h1)
  | true =>
    cases h2 : isTree d with
    | false => exact spf_b vp p hhp d hd (Lib.hid h1) (Lib.hid h2)
    | true =>
      have hl : p.length ≤ 2932031007402 := by have := validB_len h1; omega
      by_cases h3 : codeN p ≤ 2000000
      · by_cases h4 : validB (specL d p) = true
        · exact spf_f vp p hhp d hd (Lib.hid h1) (Lib.hid h2) (Lib.hid hl) (Lib.hid h3) (Lib.hid h4)
        · exact spf_e vp p hhp d hd (Lib.hid h1) (Lib.hid h2) (Lib.hid hl) (Lib.hid h3) (Lib.hid h4)
      · by_cases h4 : validB (specL d p) = true
        · exact spf_d vp p hhp d hd (Lib.hid h1) (Lib.hid h2) (Lib.hid hl) (Lib.hid h3) (Lib.hid h4)
        · exact spf_c vp p hhp d hd (Lib.hid h1) (Lib.hid h2) (Lib.hid hl) (Lib.hid h3) (Lib.hid h4)

end Go.Proofs.Ytlaeljkjdfffjaa


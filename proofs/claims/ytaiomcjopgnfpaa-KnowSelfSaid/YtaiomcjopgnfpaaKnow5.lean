/- ref07: Coded, Know, told, Made. -/
import Derived.Test.YtaiomcjopgnfpaaKnow4
import Derived.Test.YtaiomcjopgnfpaaLaw05
namespace Go.Proofs.Ytaiomcjopgnfpaa
open Go.RowKit

theorem behindL_right {q : List Ins} (hq : rightAll q = true) : rightAll (knowR q) = true := by
  have h16 : behindL.length = 16 := by simp [behindL, beforeL, clearL_length]
  refine RA.all ?_
  unfold knowR
  refine RA.append (fun i x hx => ?_) (RA.of hq (by rw [List.length_append, h16]; omega))
  have h0 : rightAll behindL = true := by decide +kernel
  exact rightAll_at h0 hx (by rw [List.length_append]; omega)
theorem codeOf_len (l : List Ins) : ((codeOf l).size : Int) = (codeN l : Int) := by rw [codeOf_size]; rfl
theorem coded_no (v : Value) (l : List Ins) (w : World) (hl : InsRow w w.heap.size v l) (hf : fitsP l = false) :
    Calls Try.prog 66 #[v] w fun e w' => e = .returned (.tuple #[.string ⟨#[]⟩, .bool false]) ∧ Below w.heap.size w w' := by
  have kf := fits4_ok v l w hl
  rw [hf] at kf
  go_enter Try.func66, Try.ntmps66
  go_wp2_with fail
  refine kf.mono ?_
  rintro e w1 ⟨rfl, hb1⟩
  go_wp2
  refine bodyPost_ret (v := .tuple #[.string ⟨#[]⟩, .bool false]) (by simp [results, Try.results66, go_sem]) rfl ?_
  exact ⟨rfl, hb1⟩
theorem coded_yes (v : Value) (l : List Ins) (w : World) (hl : InsRow w w.heap.size v l) (hv : validB l = true) :
    Calls Try.prog 66 #[v] w fun e w' => e = .returned (.tuple #[.string (codeOf l), .bool (decide (codeN l ≤ 2000000))]) ∧ Below w.heap.size w w' := by
  have kf := fits4_ok v l w hl
  have hf : fitsP l = true := by rw [← validB_fits (validB_all hv)]; exact hv
  rw [hf] at kf
  have hsz := codeOf_size l
  have hN : (codeLs l).length + 1 = codeN l := rfl
  rw [hN] at hsz
  obtain ⟨b, hb⟩ : ∃ b, decide (codeN l ≤ 2000000) = b := ⟨_, rfl⟩
  rw [hb]
  have HL := Lib.hid hl
  have HV := Lib.hid hv
  have kc := Lib.hid (fun (w' : World) (hb : Below w.heap.size w w') => rcode_any v l w' ((HL.out.below hb).mono hb.size) HV.out)
  obtain ⟨S, hS⟩ : ∃ S, codeOf l = S := ⟨_, rfl⟩
  rw [hS] at kc hsz ⊢
  have HSZ := Lib.hid hsz
  have hb' : Hid (b = decide (S.size ≤ 2000000)) := Lib.hid (by rw [hsz]; exact hb.symm)
  clear hl hv hN hb hS hsz hf
  cases b with
  | true =>
    have hle : (S.size : Int) ≤ 2000000 := by have := of_decide_eq_true hb'.out.symm; omega
    go_enter Try.func66, Try.ntmps66
    go_wp2_with fail
    refine kf.mono ?_
    rintro e w1 ⟨rfl, hb1⟩
    go_wp2_with fail
    refine (kc.out _ hb1).mono ?_
    rintro e w2 ⟨rfl, hb2⟩
    have hb := hb1.trans (hb2.mono hb1.size)
    go_wp2
    refine bodyPost_ret (v := .tuple #[.string S, .bool true]) (by simp [results, Try.results66, go_sem]) rfl ?_
    exact ⟨rfl, hb⟩
  | false =>
    have hle : ¬ (S.size : Int) ≤ 2000000 := by have := of_decide_eq_false hb'.out.symm; omega
    go_enter Try.func66, Try.ntmps66
    go_wp2_with fail
    refine kf.mono ?_
    rintro e w1 ⟨rfl, hb1⟩
    go_wp2_with fail
    refine (kc.out _ hb1).mono ?_
    rintro e w2 ⟨rfl, hb2⟩
    have hb := hb1.trans (hb2.mono hb1.size)
    go_wp2
    refine bodyPost_ret (v := .tuple #[.string S, .bool false]) (by simp [results, Try.results66, go_sem]; omega) rfl ?_
    exact ⟨rfl, hb⟩
theorem coded_b (b : Bool) (v : Value) (l : List Ins) (w : World) (hl : InsRow w w.heap.size v l) (hv : validB l = true) (hb : decide (codeN l ≤ 2000000) = b) :
    Calls Try.prog 66 #[v] w fun e w' => e = .returned (.tuple #[.string (codeOf l), .bool b]) ∧ Below w.heap.size w w' := by
  have := coded_yes v l w hl hv
  rwa [hb] at this
/-- What the reference's Know hands back. -/
def RKnowOut (w : World) (q : List Ins) (e : Ending) (w' : World) : Prop := ∃ v b, e = .returned (.tuple #[v, .bool b]) ∧ (b = true ↔ knowE q = 0) ∧ TB w' w'.heap.size (knowE q) (knowL q) v ∧ Below w.heap.size w w'
theorem RKnowOut.bad {w w' : World} {q : List Ins} {e : Ending} (hk : knowE q = 3) (he : e = .returned (.tuple #[.slice none 0 0, .bool false])) (hb : Below w.heap.size w w') : RKnowOut w q e w' := ⟨_, _, he, ⟨fun h => (by cases h), fun h => by rw [hk] at h; cases h⟩, by rw [hk]; exact tb_bad _ _ _ (by decide) _, hb⟩
theorem RKnowOut.ok {w w' : World} {q : List Ins} {e : Ending} {v : Value} (hk : knowE q = 0) (he : e = .returned (.tuple #[v, .bool true])) (hr : InsRow w' w'.heap.size v (knowL q)) (hb : Below w.heap.size w w') : RKnowOut w q e w' := ⟨_, _, he, ⟨fun _ => hk, fun _ => rfl⟩, by rw [hk]; exact ⟨fun _ => hr, fun e => absurd rfl e⟩, hb⟩

set_option maxRecDepth 20000 in
set_option maxHeartbeats 4000000 in
theorem rknow_join (qa : Option Addr) (qn qc : Nat) (q : List Ins) (w : World) (hhQ : InsRow w w.heap.size (.slice qa qn qc) q) (HV : Hid (validB q = true)) (HR : Hid (validB (knowR q) = false)) :
    Calls Try.prog 90 #[.slice qa qn qc] w (RKnowOut w q) := by
  have hQ := Lib.hid hhQ
  have hq4 := validB_len HV.out
  clear hhQ
  have ch := Lib.hid (Below.refl w.heap.size w)
  go_enter Try.func90, Try.ntmps90
  go_wp2_with fail
  refine (behind_any _ _ _ q _ hQ.out (by omega)).mono ?_
  rintro e w1 ⟨ra, rn, rc, rfl, hrn, hJ, hq⟩
  have hQ := Lib.hid ((hQ.out.below hq).mono hq.size)
  have ch := Lib.hid (ch.out.trans (hq.mono ch.out.size))
  clear hq
  have hJ := Lib.hid hJ
  go_wp2_with fail
  refine (coded_no _ (knowR q) _ hJ.out (by rw [← validB_fits (behindL_right (validB_all HV.out))]; exact HR.out)).mono ?_
  rintro e w2 ⟨rfl, hq⟩
  have hQ := Lib.hid ((hQ.out.below hq).mono hq.size)
  have hJ := Lib.hid ((hJ.out.below hq).mono hq.size)
  have ch := Lib.hid (ch.out.trans (hq.mono ch.out.size))
  clear hq
  go_wp2
  refine bodyPost_ret (v := .tuple #[.slice none 0 0, .bool false]) (by simp [results, Try.results90, go_sem]) rfl ?_
  exact RKnowOut.bad (knowE_bad HV.out (fun h => by rw [HR.out] at h; cases h.1)) rfl ch.out

set_option maxRecDepth 20000 in
set_option maxHeartbeats 4000000 in
theorem rknow_code (qa : Option Addr) (qn qc : Nat) (q : List Ins) (w : World) (hhQ : InsRow w w.heap.size (.slice qa qn qc) q) (HV : Hid (validB q = true)) (HR : Hid (validB (knowR q) = true)) (HC : Hid (¬ codeN (knowR q) ≤ 2000000)) :
    Calls Try.prog 90 #[.slice qa qn qc] w (RKnowOut w q) := by
  have hQ := Lib.hid hhQ
  have hq4 := validB_len HV.out
  clear hhQ
  have ch := Lib.hid (Below.refl w.heap.size w)
  go_enter Try.func90, Try.ntmps90
  go_wp2_with fail
  refine (behind_any _ _ _ q _ hQ.out (by omega)).mono ?_
  rintro e w1 ⟨ra, rn, rc, rfl, hrn, hJ, hq⟩
  have hQ := Lib.hid ((hQ.out.below hq).mono hq.size)
  have ch := Lib.hid (ch.out.trans (hq.mono ch.out.size))
  clear hq
  have hJ := Lib.hid hJ
  go_wp2_with fail
  refine (coded_b false _ (knowR q) _ hJ.out HR.out (decide_eq_false HC.out)).mono ?_
  rintro e w2 ⟨rfl, hq⟩
  have hQ := Lib.hid ((hQ.out.below hq).mono hq.size)
  have hJ := Lib.hid ((hJ.out.below hq).mono hq.size)
  have ch := Lib.hid (ch.out.trans (hq.mono ch.out.size))
  clear hq
  go_wp2
  refine bodyPost_ret (v := .tuple #[.slice none 0 0, .bool false]) (by simp [results, Try.results90, go_sem]) rfl ?_
  exact RKnowOut.bad (knowE_bad HV.out (fun h => HC.out h.2.1)) rfl ch.out

set_option maxRecDepth 20000 in
set_option maxHeartbeats 4000000 in
theorem rknow_spec (qa : Option Addr) (qn qc : Nat) (q : List Ins) (w : World) (hhQ : InsRow w w.heap.size (.slice qa qn qc) q) (HV : Hid (validB q = true)) (HR : Hid (validB (knowR q) = true)) (HC : Hid (codeN (knowR q) ≤ 2000000)) (HS : Hid (¬ validB (specL (codeOf (knowR q)) (knowR q)) = true)) :
    Calls Try.prog 90 #[.slice qa qn qc] w (RKnowOut w q) := by
  have hQ := Lib.hid hhQ
  have hq4 := validB_len HV.out
  clear hhQ
  have ch := Lib.hid (Below.refl w.heap.size w)
  go_enter Try.func90, Try.ntmps90
  go_wp2_with fail
  refine (behind_any _ _ _ q _ hQ.out (by omega)).mono ?_
  rintro e w1 ⟨ra, rn, rc, rfl, hrn, hJ, hq⟩
  have hQ := Lib.hid ((hQ.out.below hq).mono hq.size)
  have ch := Lib.hid (ch.out.trans (hq.mono ch.out.size))
  clear hq
  have hJ := Lib.hid hJ
  go_wp2_with fail
  refine (coded_b true _ (knowR q) _ hJ.out HR.out (decide_eq_true HC.out)).mono ?_
  rintro e w2 ⟨rfl, hq⟩
  have hQ := Lib.hid ((hQ.out.below hq).mono hq.size)
  have hJ := Lib.hid ((hJ.out.below hq).mono hq.size)
  have ch := Lib.hid (ch.out.trans (hq.mono ch.out.size))
  clear hq
  have htree := codeOf_tree (validB_all HR.out) HC.out
  have hds : (codeOf (knowR q)).size ≤ 140737488355328 := by rw [codeOf_size]; have h := HC.out; unfold codeN at h; omega
  go_wp2_with fail
  refine (rspec_any _ (knowR q) (validB_len HR.out) (codeOf (knowR q)) hds _ hJ.out).mono ?_
  rintro e w3 ⟨vs, rfl, hS, hq⟩
  have hQ := Lib.hid ((hQ.out.below hq).mono hq.size)
  have hJ := Lib.hid ((hJ.out.below hq).mono hq.size)
  have ch := Lib.hid (ch.out.trans (hq.mono ch.out.size))
  clear hq
  have hS := Lib.hid hS
  go_wp2_with fail
  refine (coded_no _ (knowL q) _ hS.out (by have h := HS.out; rw [specL_valid _ _ htree HR.out] at h; simpa [knowL] using h)).mono ?_
  rintro e w4 ⟨rfl, hq⟩
  have hQ := Lib.hid ((hQ.out.below hq).mono hq.size)
  have hJ := Lib.hid ((hJ.out.below hq).mono hq.size)
  have hS := Lib.hid ((hS.out.below hq).mono hq.size)
  have ch := Lib.hid (ch.out.trans (hq.mono ch.out.size))
  clear hq
  go_wp2
  refine bodyPost_ret (v := .tuple #[.slice none 0 0, .bool false]) (by simp [results, Try.results90, go_sem]) rfl ?_
  exact RKnowOut.bad (knowE_bad HV.out (fun h => HS.out h.2.2.1)) rfl ch.out

set_option maxRecDepth 20000 in
set_option maxHeartbeats 4000000 in
theorem rknow_last (qa : Option Addr) (qn qc : Nat) (q : List Ins) (w : World) (hhQ : InsRow w w.heap.size (.slice qa qn qc) q) (HV : Hid (validB q = true)) (HR : Hid (validB (knowR q) = true)) (HC : Hid (codeN (knowR q) ≤ 2000000)) (HS : Hid (validB (specL (codeOf (knowR q)) (knowR q)) = true)) (HD : Hid (¬ codeN (knowL q) ≤ 2000000)) :
    Calls Try.prog 90 #[.slice qa qn qc] w (RKnowOut w q) := by
  have hQ := Lib.hid hhQ
  have hq4 := validB_len HV.out
  clear hhQ
  have ch := Lib.hid (Below.refl w.heap.size w)
  go_enter Try.func90, Try.ntmps90
  go_wp2_with fail
  refine (behind_any _ _ _ q _ hQ.out (by omega)).mono ?_
  rintro e w1 ⟨ra, rn, rc, rfl, hrn, hJ, hq⟩
  have hQ := Lib.hid ((hQ.out.below hq).mono hq.size)
  have ch := Lib.hid (ch.out.trans (hq.mono ch.out.size))
  clear hq
  have hJ := Lib.hid hJ
  go_wp2_with fail
  refine (coded_b true _ (knowR q) _ hJ.out HR.out (decide_eq_true HC.out)).mono ?_
  rintro e w2 ⟨rfl, hq⟩
  have hQ := Lib.hid ((hQ.out.below hq).mono hq.size)
  have hJ := Lib.hid ((hJ.out.below hq).mono hq.size)
  have ch := Lib.hid (ch.out.trans (hq.mono ch.out.size))
  clear hq
  have htree := codeOf_tree (validB_all HR.out) HC.out
  have hds : (codeOf (knowR q)).size ≤ 140737488355328 := by rw [codeOf_size]; have h := HC.out; unfold codeN at h; omega
  go_wp2_with fail
  refine (rspec_any _ (knowR q) (validB_len HR.out) (codeOf (knowR q)) hds _ hJ.out).mono ?_
  rintro e w3 ⟨vs, rfl, hS, hq⟩
  have hQ := Lib.hid ((hQ.out.below hq).mono hq.size)
  have hJ := Lib.hid ((hJ.out.below hq).mono hq.size)
  have ch := Lib.hid (ch.out.trans (hq.mono ch.out.size))
  clear hq
  have hS := Lib.hid hS
  go_wp2_with fail
  refine (coded_b false _ (knowL q) _ hS.out HS.out (decide_eq_false HD.out)).mono ?_
  rintro e w4 ⟨rfl, hq⟩
  have hQ := Lib.hid ((hQ.out.below hq).mono hq.size)
  have hJ := Lib.hid ((hJ.out.below hq).mono hq.size)
  have hS := Lib.hid ((hS.out.below hq).mono hq.size)
  have ch := Lib.hid (ch.out.trans (hq.mono ch.out.size))
  clear hq
  go_wp2
  refine bodyPost_ret (v := .tuple #[.slice none 0 0, .bool false]) (by simp [results, Try.results90, go_sem]) rfl ?_
  exact RKnowOut.bad (knowE_bad HV.out (fun h => HD.out h.2.2.2)) rfl ch.out

set_option maxRecDepth 20000 in
set_option maxHeartbeats 4000000 in
theorem rknow_ok (qa : Option Addr) (qn qc : Nat) (q : List Ins) (w : World) (hhQ : InsRow w w.heap.size (.slice qa qn qc) q) (HV : Hid (validB q = true)) (HR : Hid (validB (knowR q) = true)) (HC : Hid (codeN (knowR q) ≤ 2000000)) (HS : Hid (validB (specL (codeOf (knowR q)) (knowR q)) = true)) (HD : Hid (codeN (knowL q) ≤ 2000000)) :
    Calls Try.prog 90 #[.slice qa qn qc] w (RKnowOut w q) := by
  have hQ := Lib.hid hhQ
  have hq4 := validB_len HV.out
  clear hhQ
  have ch := Lib.hid (Below.refl w.heap.size w)
  go_enter Try.func90, Try.ntmps90
  go_wp2_with fail
  refine (behind_any _ _ _ q _ hQ.out (by omega)).mono ?_
  rintro e w1 ⟨ra, rn, rc, rfl, hrn, hJ, hq⟩
  have hQ := Lib.hid ((hQ.out.below hq).mono hq.size)
  have ch := Lib.hid (ch.out.trans (hq.mono ch.out.size))
  clear hq
  have hJ := Lib.hid hJ
  go_wp2_with fail
  refine (coded_b true _ (knowR q) _ hJ.out HR.out (decide_eq_true HC.out)).mono ?_
  rintro e w2 ⟨rfl, hq⟩
  have hQ := Lib.hid ((hQ.out.below hq).mono hq.size)
  have hJ := Lib.hid ((hJ.out.below hq).mono hq.size)
  have ch := Lib.hid (ch.out.trans (hq.mono ch.out.size))
  clear hq
  have htree := codeOf_tree (validB_all HR.out) HC.out
  have hds : (codeOf (knowR q)).size ≤ 140737488355328 := by rw [codeOf_size]; have h := HC.out; unfold codeN at h; omega
  go_wp2_with fail
  refine (rspec_any _ (knowR q) (validB_len HR.out) (codeOf (knowR q)) hds _ hJ.out).mono ?_
  rintro e w3 ⟨vs, rfl, hS, hq⟩
  have hQ := Lib.hid ((hQ.out.below hq).mono hq.size)
  have hJ := Lib.hid ((hJ.out.below hq).mono hq.size)
  have ch := Lib.hid (ch.out.trans (hq.mono ch.out.size))
  clear hq
  have hS := Lib.hid hS
  go_wp2_with fail
  refine (coded_b true _ (knowL q) _ hS.out HS.out (decide_eq_true HD.out)).mono ?_
  rintro e w4 ⟨rfl, hq⟩
  have hQ := Lib.hid ((hQ.out.below hq).mono hq.size)
  have hJ := Lib.hid ((hJ.out.below hq).mono hq.size)
  have hS := Lib.hid ((hS.out.below hq).mono hq.size)
  have ch := Lib.hid (ch.out.trans (hq.mono ch.out.size))
  clear hq
  go_wp2
  refine bodyPost_ret (v := .tuple #[vs, .bool true]) (by simp [results, Try.results90, go_sem]) rfl ?_
  exact RKnowOut.ok (by unfold knowE; rw [if_neg (by rw [HV.out]; simp), if_pos ⟨HR.out, HC.out, HS.out, HD.out⟩]) rfl hS.out ch.out

theorem rknow_any (v : Value) (q : List Ins) (w : World) (hq : InsRow w w.heap.size v q) (h1 : validB q = true) : Calls Try.prog 90 #[v] w (RKnowOut w q) := by
  obtain ⟨qa, qc, rfl⟩ := hq.len
  cases h2 : validB (knowR q) with
  | false => exact rknow_join _ _ _ q w hq (Lib.hid h1) (Lib.hid h2)
  | true =>
    by_cases h3 : codeN (knowR q) ≤ 2000000
    · by_cases h4 : validB (specL (codeOf (knowR q)) (knowR q)) = true
      · by_cases h5 : codeN (knowL q) ≤ 2000000
        · exact rknow_ok _ _ _ q w hq (Lib.hid h1) (Lib.hid h2) (Lib.hid h3) (Lib.hid h4) (Lib.hid h5)
        · exact rknow_last _ _ _ q w hq (Lib.hid h1) (Lib.hid h2) (Lib.hid h3) (Lib.hid h4) (Lib.hid h5)
      · exact rknow_spec _ _ _ q w hq (Lib.hid h1) (Lib.hid h2) (Lib.hid h3) (Lib.hid h4)
    · exact rknow_code _ _ _ q w hq (Lib.hid h1) (Lib.hid h2) (Lib.hid h3)

end Go.Proofs.Ytaiomcjopgnfpaa


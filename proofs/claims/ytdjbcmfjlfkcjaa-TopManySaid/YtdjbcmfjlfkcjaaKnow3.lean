/- know.Know. -/
import Derived.Test.YtdjbcmfjlfkcjaaMB3
import Derived.Test.YtdjbcmfjlfkcjaaSpec
import Derived.Test.YtdjbcmfjlfkcjaaAwake4
namespace Go.Proofs.Ytdjbcmfjlfkcjaa
open Go.RowKit

def knowR (q : List Ins) : List Ins := behindL ++ q
def codeN (l : List Ins) : Nat := (codeLs l).length + 1
def knowL (q : List Ins) : List Ins := specL (codeOf (knowR q)) (knowR q)
/-- The error of Know. -/
def knowE (q : List Ins) : Int := if validB q = false then 1 else if validB (knowR q) = true ∧ codeN (knowR q) ≤ 2000000 ∧ validB (knowL q) = true ∧ codeN (knowL q) ≤ 2000000 then 0 else 3
theorem code_fine (v : Value) (l : List Ins) (w : World) (hl : InsRow w w.heap.size v l) (hv : validB l = true) (hz : codeN l ≤ 2000000) :
    Calls Try.prog 104 #[v] w fun e w' => e = .returned (.tuple #[.string (codeOf l), .int .i64 0]) ∧ Below w.heap.size w w' := code_at v l _ w hl hv rfl hz
theorem code_large (v : Value) (l : List Ins) (w : World) (hl : InsRow w w.heap.size v l) (hv : validB l = true) (hz : ¬ codeN l ≤ 2000000) :
    Calls Try.prog 104 #[v] w fun e w' => e = .returned (.tuple #[.string ⟨#[]⟩, .int .i64 3]) ∧ Below w.heap.size w w' := by
  have h := code_ok v l w hl hv
  rw [if_pos (by unfold codeN at hz; omega)] at h
  exact h
theorem spec_fine (v : Value) (l : List Ins) (d : ByteArray) (w : World) (hl : InsRow w w.heap.size v l) (hv : validB l = true) (hd : isTree d = true) (h : validB (specL d l) = true) :
    Calls Try.prog 105 #[v, .string d] w fun e w' => ∃ v', e = .returned (.tuple #[v', .int .i64 0]) ∧ InsRow w' w'.heap.size v' (specL d l) ∧ Below w.heap.size w w' := by
  obtain ⟨t, ht, hs⟩ := isTree_get hd
  have hds : d.size ≤ 140737488355328 := by rw [ht, TS_size]; omega
  refine (spec_any v l d hds w hl hv hd).mono ?_
  intro e w' hh
  rw [if_pos h] at hh
  exact hh
theorem spec_large (v : Value) (l : List Ins) (d : ByteArray) (w : World) (hl : InsRow w w.heap.size v l) (hv : validB l = true) (hd : isTree d = true) (h : ¬ validB (specL d l) = true) :
    Calls Try.prog 105 #[v, .string d] w fun e w' => e = .returned (.tuple #[.slice none 0 0, .int .i64 3]) ∧ Below w.heap.size w w' := by
  obtain ⟨t, ht, hs⟩ := isTree_get hd
  have hds : d.size ≤ 140737488355328 := by rw [ht, TS_size]; omega
  refine (spec_any v l d hds w hl hv hd).mono ?_
  intro e w' hh
  rw [if_neg h] at hh
  exact hh
theorem knowE_bad {q : List Ins} (hv : validB q = true) (h : ¬ (validB (knowR q) = true ∧ codeN (knowR q) ≤ 2000000 ∧ validB (knowL q) = true ∧ codeN (knowL q) ≤ 2000000)) : knowE q = 3 := by
  unfold knowE; rw [if_neg (by rw [hv]; simp), if_neg h]
theorem tb_bad (w : World) (B : Nat) (d : Int) (hd : d ≠ 0) (m : List Ins) : TB w B d m (.slice none 0 0) := ⟨fun e => absurd e hd, fun _ => rfl⟩
def KnowOut (w : World) (q : List Ins) (e : Ending) (w' : World) : Prop := ∃ v, e = .returned (.tuple #[v, .int .i64 (knowE q)]) ∧ TB w' w'.heap.size (knowE q) (knowL q) v ∧ Below w.heap.size w w'
theorem KnowOut.bad {w w' : World} {q : List Ins} {e : Ending} (d : Int) (hd : d ≠ 0) (hk : knowE q = d) (he : e = .returned (.tuple #[.slice none 0 0, .int .i64 d])) (hb : Below w.heap.size w w') : KnowOut w q e w' := ⟨_, by rw [hk]; exact he, by rw [hk]; exact tb_bad _ _ _ hd _, hb⟩
theorem KnowOut.ok {w w' : World} {q : List Ins} {e : Ending} {v : Value} (hk : knowE q = 0) (he : e = .returned (.tuple #[v, .int .i64 0])) (hr : InsRow w' w'.heap.size v (knowL q)) (hb : Below w.heap.size w w') : KnowOut w q e w' := ⟨v, by rw [hk]; exact he, by rw [hk]; exact ⟨fun _ => hr, fun e => absurd rfl e⟩, hb⟩

set_option maxRecDepth 20000 in
set_option maxHeartbeats 4000000 in
theorem know_form (qa : Option Addr) (qn qc : Nat) (q : List Ins) (w : World) (hhQ : InsRow w w.heap.size (.slice qa qn qc) q) (HV : Hid (validB q = false)) :
    Calls Try.prog 67 #[.slice qa qn qc] w (KnowOut w q) := by
  have hQ := Lib.hid hhQ
  clear hhQ
  have ch := Lib.hid (Below.refl w.heap.size w)
  have kv := codeValidP_at _ q w hQ.out _ HV.out
  go_enter Try.func67, Try.ntmps67
  go_wp2_with fail
  refine (kv).mono ?_
  rintro e w1 ⟨rfl, hq⟩
  have hQ := Lib.hid ((hQ.out.below hq).mono hq.size)
  have ch := Lib.hid (ch.out.trans (hq.mono ch.out.size))
  clear hq
  clear kv
  go_wp2
  refine bodyPost_ret (v := .tuple #[.slice none 0 0, .int .i64 1]) (by simp [results, Try.results67, go_sem]) rfl ?_
  exact KnowOut.bad 1 (by decide) (by unfold knowE; rw [if_pos HV.out]) rfl ch.out

set_option maxRecDepth 20000 in
set_option maxHeartbeats 4000000 in
theorem know_join (qa : Option Addr) (qn qc : Nat) (q : List Ins) (w : World) (hhQ : InsRow w w.heap.size (.slice qa qn qc) q) (HV : Hid (validB q = true)) (HR : Hid (validB (knowR q) = false)) :
    Calls Try.prog 67 #[.slice qa qn qc] w (KnowOut w q) := by
  have hQ := Lib.hid hhQ
  clear hhQ
  have ch := Lib.hid (Below.refl w.heap.size w)
  have kv := codeValidP_at _ q w hQ.out _ HV.out
  go_enter Try.func67, Try.ntmps67
  go_wp2_with fail
  refine (kv).mono ?_
  rintro e w1 ⟨rfl, hq⟩
  have hQ := Lib.hid ((hQ.out.below hq).mono hq.size)
  have ch := Lib.hid (ch.out.trans (hq.mono ch.out.size))
  clear hq
  clear kv
  go_wp2_with fail
  refine (before_any _).mono ?_
  rintro e w2 ⟨ba, bc, rfl, hB, hq⟩
  have hQ := Lib.hid ((hQ.out.below hq).mono hq.size)
  have ch := Lib.hid (ch.out.trans (hq.mono ch.out.size))
  clear hq
  have hB := Lib.hid hB
  go_wp2_with fail
  have hL0 := ProgsRow.lit (w := w2) [.slice ba 16 bc, .slice qa qn qc] [behindL, q] rfl (by simp) (fun j u l hu hl => match j, u, l, hu, hl with | 0, _, _, hu, hl => by cases hu; cases hl; exact hB.out | 1, _, _, hu, hl => by cases hu; cases hl; exact hQ.out)
  obtain ⟨w3, hW⟩ : ∃ B, w2.alloc (.cells #[.slice ba 16 bc, .slice qa qn qc] 23) = B := ⟨_, rfl⟩
  rw [hW]
  have hq : Below w2.heap.size w2 w3 := by rw [← hW]; exact (Below.refl _ _).alloc (Nat.le_refl _) _
  have hL := Lib.hid (show ProgsRow w3 w3.heap.size (.slice (some ⟨w2.heap.size, 0, none⟩) 2 2) [behindL, q] by rw [← hW]; exact hL0)
  clear hW hL0
  have hQ := Lib.hid ((hQ.out.below hq).mono hq.size)
  have hB := Lib.hid ((hB.out.below hq).mono hq.size)
  have ch := Lib.hid (ch.out.trans (hq.mono ch.out.size))
  clear hq
  have hq4 := validB_len HV.out
  have kj := join_any _ [behindL, q] _ hL.out (by simp [lenS, behindL, beforeL, clearL_length]; omega)
  rw [show ([behindL, q] : List (List Ins)).flatten = knowR q by simp [knowR], HR.out] at kj
  obtain ⟨N, hN⟩ : ∃ N, lenS [behindL, q] = N := ⟨_, rfl⟩
  rw [hN] at kj
  clear hN hq4
  refine (kj).mono ?_
  rintro e w4 ⟨ja, jc, rfl, hJ, hq⟩
  have hQ := Lib.hid ((hQ.out.below hq).mono hq.size)
  have hB := Lib.hid ((hB.out.below hq).mono hq.size)
  have hL := Lib.hid ((hL.out.below hq).mono hq.size)
  have ch := Lib.hid (ch.out.trans (hq.mono ch.out.size))
  clear hq
  have hJ := Lib.hid hJ
  clear kj hL hB
  go_wp2
  refine bodyPost_ret (v := .tuple #[.slice none 0 0, .int .i64 3]) (by simp [results, Try.results67, go_sem]) rfl ?_
  exact KnowOut.bad 3 (by decide) (knowE_bad HV.out (fun h => by rw [HR.out] at h; cases h.1)) rfl ch.out

set_option maxRecDepth 20000 in
set_option maxHeartbeats 4000000 in
theorem know_code (qa : Option Addr) (qn qc : Nat) (q : List Ins) (w : World) (hhQ : InsRow w w.heap.size (.slice qa qn qc) q) (HV : Hid (validB q = true)) (HR : Hid (validB (knowR q) = true)) (HC : Hid (¬ codeN (knowR q) ≤ 2000000)) :
    Calls Try.prog 67 #[.slice qa qn qc] w (KnowOut w q) := by
  have hQ := Lib.hid hhQ
  clear hhQ
  have ch := Lib.hid (Below.refl w.heap.size w)
  have kv := codeValidP_at _ q w hQ.out _ HV.out
  go_enter Try.func67, Try.ntmps67
  go_wp2_with fail
  refine (kv).mono ?_
  rintro e w1 ⟨rfl, hq⟩
  have hQ := Lib.hid ((hQ.out.below hq).mono hq.size)
  have ch := Lib.hid (ch.out.trans (hq.mono ch.out.size))
  clear hq
  clear kv
  go_wp2_with fail
  refine (before_any _).mono ?_
  rintro e w2 ⟨ba, bc, rfl, hB, hq⟩
  have hQ := Lib.hid ((hQ.out.below hq).mono hq.size)
  have ch := Lib.hid (ch.out.trans (hq.mono ch.out.size))
  clear hq
  have hB := Lib.hid hB
  go_wp2_with fail
  have hL0 := ProgsRow.lit (w := w2) [.slice ba 16 bc, .slice qa qn qc] [behindL, q] rfl (by simp) (fun j u l hu hl => match j, u, l, hu, hl with | 0, _, _, hu, hl => by cases hu; cases hl; exact hB.out | 1, _, _, hu, hl => by cases hu; cases hl; exact hQ.out)
  obtain ⟨w3, hW⟩ : ∃ B, w2.alloc (.cells #[.slice ba 16 bc, .slice qa qn qc] 23) = B := ⟨_, rfl⟩
  rw [hW]
  have hq : Below w2.heap.size w2 w3 := by rw [← hW]; exact (Below.refl _ _).alloc (Nat.le_refl _) _
  have hL := Lib.hid (show ProgsRow w3 w3.heap.size (.slice (some ⟨w2.heap.size, 0, none⟩) 2 2) [behindL, q] by rw [← hW]; exact hL0)
  clear hW hL0
  have hQ := Lib.hid ((hQ.out.below hq).mono hq.size)
  have hB := Lib.hid ((hB.out.below hq).mono hq.size)
  have ch := Lib.hid (ch.out.trans (hq.mono ch.out.size))
  clear hq
  have hq4 := validB_len HV.out
  have kj := join_any _ [behindL, q] _ hL.out (by simp [lenS, behindL, beforeL, clearL_length]; omega)
  rw [show ([behindL, q] : List (List Ins)).flatten = knowR q by simp [knowR], HR.out] at kj
  obtain ⟨N, hN⟩ : ∃ N, lenS [behindL, q] = N := ⟨_, rfl⟩
  rw [hN] at kj
  clear hN hq4
  refine (kj).mono ?_
  rintro e w4 ⟨ja, jc, rfl, hJ, hq⟩
  have hQ := Lib.hid ((hQ.out.below hq).mono hq.size)
  have hB := Lib.hid ((hB.out.below hq).mono hq.size)
  have hL := Lib.hid ((hL.out.below hq).mono hq.size)
  have ch := Lib.hid (ch.out.trans (hq.mono ch.out.size))
  clear hq
  have hJ := Lib.hid hJ
  clear kj hL hB
  go_wp2_with fail
  refine (code_large _ (knowR q) _ hJ.out HR.out HC.out).mono ?_
  rintro e w5 ⟨rfl, hq⟩
  have hQ := Lib.hid ((hQ.out.below hq).mono hq.size)
  have hJ := Lib.hid ((hJ.out.below hq).mono hq.size)
  have ch := Lib.hid (ch.out.trans (hq.mono ch.out.size))
  clear hq
  go_wp2
  refine bodyPost_ret (v := .tuple #[.slice none 0 0, .int .i64 3]) (by simp [results, Try.results67, go_sem]) rfl ?_
  exact KnowOut.bad 3 (by decide) (knowE_bad HV.out (fun h => HC.out h.2.1)) rfl ch.out

set_option maxRecDepth 20000 in
set_option maxHeartbeats 4000000 in
theorem know_spec (qa : Option Addr) (qn qc : Nat) (q : List Ins) (w : World) (hhQ : InsRow w w.heap.size (.slice qa qn qc) q) (HV : Hid (validB q = true)) (HR : Hid (validB (knowR q) = true)) (HC : Hid (codeN (knowR q) ≤ 2000000)) (HS : Hid (¬ validB (specL (codeOf (knowR q)) (knowR q)) = true)) :
    Calls Try.prog 67 #[.slice qa qn qc] w (KnowOut w q) := by
  have hQ := Lib.hid hhQ
  clear hhQ
  have ch := Lib.hid (Below.refl w.heap.size w)
  have kv := codeValidP_at _ q w hQ.out _ HV.out
  go_enter Try.func67, Try.ntmps67
  go_wp2_with fail
  refine (kv).mono ?_
  rintro e w1 ⟨rfl, hq⟩
  have hQ := Lib.hid ((hQ.out.below hq).mono hq.size)
  have ch := Lib.hid (ch.out.trans (hq.mono ch.out.size))
  clear hq
  clear kv
  go_wp2_with fail
  refine (before_any _).mono ?_
  rintro e w2 ⟨ba, bc, rfl, hB, hq⟩
  have hQ := Lib.hid ((hQ.out.below hq).mono hq.size)
  have ch := Lib.hid (ch.out.trans (hq.mono ch.out.size))
  clear hq
  have hB := Lib.hid hB
  go_wp2_with fail
  have hL0 := ProgsRow.lit (w := w2) [.slice ba 16 bc, .slice qa qn qc] [behindL, q] rfl (by simp) (fun j u l hu hl => match j, u, l, hu, hl with | 0, _, _, hu, hl => by cases hu; cases hl; exact hB.out | 1, _, _, hu, hl => by cases hu; cases hl; exact hQ.out)
  obtain ⟨w3, hW⟩ : ∃ B, w2.alloc (.cells #[.slice ba 16 bc, .slice qa qn qc] 23) = B := ⟨_, rfl⟩
  rw [hW]
  have hq : Below w2.heap.size w2 w3 := by rw [← hW]; exact (Below.refl _ _).alloc (Nat.le_refl _) _
  have hL := Lib.hid (show ProgsRow w3 w3.heap.size (.slice (some ⟨w2.heap.size, 0, none⟩) 2 2) [behindL, q] by rw [← hW]; exact hL0)
  clear hW hL0
  have hQ := Lib.hid ((hQ.out.below hq).mono hq.size)
  have hB := Lib.hid ((hB.out.below hq).mono hq.size)
  have ch := Lib.hid (ch.out.trans (hq.mono ch.out.size))
  clear hq
  have hq4 := validB_len HV.out
  have kj := join_any _ [behindL, q] _ hL.out (by simp [lenS, behindL, beforeL, clearL_length]; omega)
  rw [show ([behindL, q] : List (List Ins)).flatten = knowR q by simp [knowR], HR.out] at kj
  obtain ⟨N, hN⟩ : ∃ N, lenS [behindL, q] = N := ⟨_, rfl⟩
  rw [hN] at kj
  clear hN hq4
  refine (kj).mono ?_
  rintro e w4 ⟨ja, jc, rfl, hJ, hq⟩
  have hQ := Lib.hid ((hQ.out.below hq).mono hq.size)
  have hB := Lib.hid ((hB.out.below hq).mono hq.size)
  have hL := Lib.hid ((hL.out.below hq).mono hq.size)
  have ch := Lib.hid (ch.out.trans (hq.mono ch.out.size))
  clear hq
  have hJ := Lib.hid hJ
  clear kj hL hB
  go_wp2_with fail
  refine (code_fine _ (knowR q) _ hJ.out HR.out HC.out).mono ?_
  rintro e w5 ⟨rfl, hq⟩
  have hQ := Lib.hid ((hQ.out.below hq).mono hq.size)
  have hJ := Lib.hid ((hJ.out.below hq).mono hq.size)
  have ch := Lib.hid (ch.out.trans (hq.mono ch.out.size))
  clear hq
  have htree := codeOf_tree (validB_all HR.out) HC.out
  go_wp2_with fail
  refine (spec_large _ (knowR q) (codeOf (knowR q)) _ hJ.out HR.out htree HS.out).mono ?_
  rintro e w6 ⟨rfl, hq⟩
  have hQ := Lib.hid ((hQ.out.below hq).mono hq.size)
  have hJ := Lib.hid ((hJ.out.below hq).mono hq.size)
  have ch := Lib.hid (ch.out.trans (hq.mono ch.out.size))
  clear hq
  go_wp2
  refine bodyPost_ret (v := .tuple #[.slice none 0 0, .int .i64 3]) (by simp [results, Try.results67, go_sem]) rfl ?_
  exact KnowOut.bad 3 (by decide) (knowE_bad HV.out (fun h => HS.out h.2.2.1)) rfl ch.out

set_option maxRecDepth 20000 in
set_option maxHeartbeats 4000000 in
theorem know_last (qa : Option Addr) (qn qc : Nat) (q : List Ins) (w : World) (hhQ : InsRow w w.heap.size (.slice qa qn qc) q) (HV : Hid (validB q = true)) (HR : Hid (validB (knowR q) = true)) (HC : Hid (codeN (knowR q) ≤ 2000000)) (HS : Hid (validB (specL (codeOf (knowR q)) (knowR q)) = true)) (HD : Hid (¬ codeN (knowL q) ≤ 2000000)) :
    Calls Try.prog 67 #[.slice qa qn qc] w (KnowOut w q) := by
  have hQ := Lib.hid hhQ
  clear hhQ
  have ch := Lib.hid (Below.refl w.heap.size w)
  have kv := codeValidP_at _ q w hQ.out _ HV.out
  go_enter Try.func67, Try.ntmps67
  go_wp2_with fail
  refine (kv).mono ?_
  rintro e w1 ⟨rfl, hq⟩
  have hQ := Lib.hid ((hQ.out.below hq).mono hq.size)
  have ch := Lib.hid (ch.out.trans (hq.mono ch.out.size))
  clear hq
  clear kv
  go_wp2_with fail
  refine (before_any _).mono ?_
  rintro e w2 ⟨ba, bc, rfl, hB, hq⟩
  have hQ := Lib.hid ((hQ.out.below hq).mono hq.size)
  have ch := Lib.hid (ch.out.trans (hq.mono ch.out.size))
  clear hq
  have hB := Lib.hid hB
  go_wp2_with fail
  have hL0 := ProgsRow.lit (w := w2) [.slice ba 16 bc, .slice qa qn qc] [behindL, q] rfl (by simp) (fun j u l hu hl => match j, u, l, hu, hl with | 0, _, _, hu, hl => by cases hu; cases hl; exact hB.out | 1, _, _, hu, hl => by cases hu; cases hl; exact hQ.out)
  obtain ⟨w3, hW⟩ : ∃ B, w2.alloc (.cells #[.slice ba 16 bc, .slice qa qn qc] 23) = B := ⟨_, rfl⟩
  rw [hW]
  have hq : Below w2.heap.size w2 w3 := by rw [← hW]; exact (Below.refl _ _).alloc (Nat.le_refl _) _
  have hL := Lib.hid (show ProgsRow w3 w3.heap.size (.slice (some ⟨w2.heap.size, 0, none⟩) 2 2) [behindL, q] by rw [← hW]; exact hL0)
  clear hW hL0
  have hQ := Lib.hid ((hQ.out.below hq).mono hq.size)
  have hB := Lib.hid ((hB.out.below hq).mono hq.size)
  have ch := Lib.hid (ch.out.trans (hq.mono ch.out.size))
  clear hq
  have hq4 := validB_len HV.out
  have kj := join_any _ [behindL, q] _ hL.out (by simp [lenS, behindL, beforeL, clearL_length]; omega)
  rw [show ([behindL, q] : List (List Ins)).flatten = knowR q by simp [knowR], HR.out] at kj
  obtain ⟨N, hN⟩ : ∃ N, lenS [behindL, q] = N := ⟨_, rfl⟩
  rw [hN] at kj
  clear hN hq4
  refine (kj).mono ?_
  rintro e w4 ⟨ja, jc, rfl, hJ, hq⟩
  have hQ := Lib.hid ((hQ.out.below hq).mono hq.size)
  have hB := Lib.hid ((hB.out.below hq).mono hq.size)
  have hL := Lib.hid ((hL.out.below hq).mono hq.size)
  have ch := Lib.hid (ch.out.trans (hq.mono ch.out.size))
  clear hq
  have hJ := Lib.hid hJ
  clear kj hL hB
  go_wp2_with fail
  refine (code_fine _ (knowR q) _ hJ.out HR.out HC.out).mono ?_
  rintro e w5 ⟨rfl, hq⟩
  have hQ := Lib.hid ((hQ.out.below hq).mono hq.size)
  have hJ := Lib.hid ((hJ.out.below hq).mono hq.size)
  have ch := Lib.hid (ch.out.trans (hq.mono ch.out.size))
  clear hq
  have htree := codeOf_tree (validB_all HR.out) HC.out
  go_wp2_with fail
  refine (spec_fine _ (knowR q) (codeOf (knowR q)) _ hJ.out HR.out htree HS.out).mono ?_
  rintro e w6 ⟨vs, rfl, hS, hq⟩
  have hQ := Lib.hid ((hQ.out.below hq).mono hq.size)
  have hJ := Lib.hid ((hJ.out.below hq).mono hq.size)
  have ch := Lib.hid (ch.out.trans (hq.mono ch.out.size))
  clear hq
  have hS := Lib.hid hS
  go_wp2_with fail
  refine (code_large _ (knowL q) _ hS.out HS.out HD.out).mono ?_
  rintro e w7 ⟨rfl, hq⟩
  have hQ := Lib.hid ((hQ.out.below hq).mono hq.size)
  have hJ := Lib.hid ((hJ.out.below hq).mono hq.size)
  have hS := Lib.hid ((hS.out.below hq).mono hq.size)
  have ch := Lib.hid (ch.out.trans (hq.mono ch.out.size))
  clear hq
  go_wp2
  refine bodyPost_ret (v := .tuple #[.slice none 0 0, .int .i64 3]) (by simp [results, Try.results67, go_sem]) rfl ?_
  exact KnowOut.bad 3 (by decide) (knowE_bad HV.out (fun h => HD.out h.2.2.2)) rfl ch.out

set_option maxRecDepth 20000 in
set_option maxHeartbeats 4000000 in
theorem know_ok (qa : Option Addr) (qn qc : Nat) (q : List Ins) (w : World) (hhQ : InsRow w w.heap.size (.slice qa qn qc) q) (HV : Hid (validB q = true)) (HR : Hid (validB (knowR q) = true)) (HC : Hid (codeN (knowR q) ≤ 2000000)) (HS : Hid (validB (specL (codeOf (knowR q)) (knowR q)) = true)) (HD : Hid (codeN (knowL q) ≤ 2000000)) :
    Calls Try.prog 67 #[.slice qa qn qc] w (KnowOut w q) := by
  have hQ := Lib.hid hhQ
  clear hhQ
  have ch := Lib.hid (Below.refl w.heap.size w)
  have kv := codeValidP_at _ q w hQ.out _ HV.out
  go_enter Try.func67, Try.ntmps67
  go_wp2_with fail
  refine (kv).mono ?_
  rintro e w1 ⟨rfl, hq⟩
  have hQ := Lib.hid ((hQ.out.below hq).mono hq.size)
  have ch := Lib.hid (ch.out.trans (hq.mono ch.out.size))
  clear hq
  clear kv
  go_wp2_with fail
  refine (before_any _).mono ?_
  rintro e w2 ⟨ba, bc, rfl, hB, hq⟩
  have hQ := Lib.hid ((hQ.out.below hq).mono hq.size)
  have ch := Lib.hid (ch.out.trans (hq.mono ch.out.size))
  clear hq
  have hB := Lib.hid hB
  go_wp2_with fail
  have hL0 := ProgsRow.lit (w := w2) [.slice ba 16 bc, .slice qa qn qc] [behindL, q] rfl (by simp) (fun j u l hu hl => match j, u, l, hu, hl with | 0, _, _, hu, hl => by cases hu; cases hl; exact hB.out | 1, _, _, hu, hl => by cases hu; cases hl; exact hQ.out)
  obtain ⟨w3, hW⟩ : ∃ B, w2.alloc (.cells #[.slice ba 16 bc, .slice qa qn qc] 23) = B := ⟨_, rfl⟩
  rw [hW]
  have hq : Below w2.heap.size w2 w3 := by rw [← hW]; exact (Below.refl _ _).alloc (Nat.le_refl _) _
  have hL := Lib.hid (show ProgsRow w3 w3.heap.size (.slice (some ⟨w2.heap.size, 0, none⟩) 2 2) [behindL, q] by rw [← hW]; exact hL0)
  clear hW hL0
  have hQ := Lib.hid ((hQ.out.below hq).mono hq.size)
  have hB := Lib.hid ((hB.out.below hq).mono hq.size)
  have ch := Lib.hid (ch.out.trans (hq.mono ch.out.size))
  clear hq
  have hq4 := validB_len HV.out
  have kj := join_any _ [behindL, q] _ hL.out (by simp [lenS, behindL, beforeL, clearL_length]; omega)
  rw [show ([behindL, q] : List (List Ins)).flatten = knowR q by simp [knowR], HR.out] at kj
  obtain ⟨N, hN⟩ : ∃ N, lenS [behindL, q] = N := ⟨_, rfl⟩
  rw [hN] at kj
  clear hN hq4
  refine (kj).mono ?_
  rintro e w4 ⟨ja, jc, rfl, hJ, hq⟩
  have hQ := Lib.hid ((hQ.out.below hq).mono hq.size)
  have hB := Lib.hid ((hB.out.below hq).mono hq.size)
  have hL := Lib.hid ((hL.out.below hq).mono hq.size)
  have ch := Lib.hid (ch.out.trans (hq.mono ch.out.size))
  clear hq
  have hJ := Lib.hid hJ
  clear kj hL hB
  go_wp2_with fail
  refine (code_fine _ (knowR q) _ hJ.out HR.out HC.out).mono ?_
  rintro e w5 ⟨rfl, hq⟩
  have hQ := Lib.hid ((hQ.out.below hq).mono hq.size)
  have hJ := Lib.hid ((hJ.out.below hq).mono hq.size)
  have ch := Lib.hid (ch.out.trans (hq.mono ch.out.size))
  clear hq
  have htree := codeOf_tree (validB_all HR.out) HC.out
  go_wp2_with fail
  refine (spec_fine _ (knowR q) (codeOf (knowR q)) _ hJ.out HR.out htree HS.out).mono ?_
  rintro e w6 ⟨vs, rfl, hS, hq⟩
  have hQ := Lib.hid ((hQ.out.below hq).mono hq.size)
  have hJ := Lib.hid ((hJ.out.below hq).mono hq.size)
  have ch := Lib.hid (ch.out.trans (hq.mono ch.out.size))
  clear hq
  have hS := Lib.hid hS
  go_wp2_with fail
  refine (code_fine _ (knowL q) _ hS.out HS.out HD.out).mono ?_
  rintro e w7 ⟨rfl, hq⟩
  have hQ := Lib.hid ((hQ.out.below hq).mono hq.size)
  have hJ := Lib.hid ((hJ.out.below hq).mono hq.size)
  have hS := Lib.hid ((hS.out.below hq).mono hq.size)
  have ch := Lib.hid (ch.out.trans (hq.mono ch.out.size))
  clear hq
  go_wp2
  refine bodyPost_ret (v := .tuple #[vs, .int .i64 0]) (by simp [results, Try.results67, go_sem]) rfl ?_
  exact KnowOut.ok (by unfold knowE; rw [if_neg (by rw [HV.out]; simp), if_pos ⟨HR.out, HC.out, HS.out, HD.out⟩]) rfl hS.out ch.out

theorem know_any (v : Value) (q : List Ins) (w : World) (hq : InsRow w w.heap.size v q) : Calls Try.prog 67 #[v] w (KnowOut w q) := by
  obtain ⟨qa, qc, rfl⟩ := hq.len
  cases h1 : validB q with
  | false => exact know_form _ _ _ q w hq (Lib.hid h1)
  | true =>
    cases h2 : validB (knowR q) with
    | false => exact know_join _ _ _ q w hq (Lib.hid h1) (Lib.hid h2)
    | true =>
      by_cases h3 : codeN (knowR q) ≤ 2000000
      · by_cases h4 : validB (specL (codeOf (knowR q)) (knowR q)) = true
        · by_cases h5 : codeN (knowL q) ≤ 2000000
          · exact know_ok _ _ _ q w hq (Lib.hid h1) (Lib.hid h2) (Lib.hid h3) (Lib.hid h4) (Lib.hid h5)
          · exact know_last _ _ _ q w hq (Lib.hid h1) (Lib.hid h2) (Lib.hid h3) (Lib.hid h4) (Lib.hid h5)
        · exact know_spec _ _ _ q w hq (Lib.hid h1) (Lib.hid h2) (Lib.hid h3) (Lib.hid h4)
      · exact know_code _ _ _ q w hq (Lib.hid h1) (Lib.hid h2) (Lib.hid h3)

end Go.Proofs.Ytdjbcmfjlfkcjaa


/- Spec and Know, where their results lie. -/
import Derived.Test.YtdjbcmfjlfkcjaaKnow6
namespace Go.Proofs.Ytdjbcmfjlfkcjaa
open Go.RowKit

set_option maxHeartbeats 2000000 in
theorem spec_own (v : Value) (l : List Ins) (d : ByteArray) (hds : d.size ≤ 140737488355328) (w : World) (hl : InsRow w w.heap.size v l) (hv : validB l = true) (hd : isTree d = true) (hbb : validB (specL d l) = true) :
    Calls Try.prog 105 #[v, .string d] w fun e w' => ∃ v', e = .returned (.tuple #[v', .int .i64 0]) ∧ OwnI w' w.heap.size v' (specL d l) ∧ Below w.heap.size w w' := by
  have kv := codeValidP_at v l w hl _ hv
  have kt := treeValid_at d hds _ hd
  have hwf : ∀ x ∈ specL d l, x.wf := fun x hx => by rcases List.mem_append.1 hx with h | h; exact specH_wf d hds x h; exact hl.1 x h
  have hn4 := validB_len hv
  have hcells : inscells (specL d l) = inscells (specH d) ++ inscells l := by simp [specL, inscells]
  have hlen := specL_length d l
  have HC := Lib.hid hcells
  have HWF := Lib.hid hwf
  have HLEN := Lib.hid hlen
  have hl0 := hl
  obtain ⟨n, hn'⟩ : ∃ n, l.length = n := ⟨_, rfl⟩
  obtain ⟨ao, cap, rfl⟩ := hl.len
  rw [hn'] at hl0 kv hn4 ⊢
  have HN := Lib.hid hn'
  have hone := inscells_one l
  have HONE := Lib.hid hone
  clear hv hd hwf hcells hlen hl hn' hone
  have HBB := Lib.hid hbb
  clear hbb
  go_enter Try.func105, Try.ntmps105
  go_wp2_with fail
  refine kv.mono ?_
  rintro e w1 ⟨rfl, k1⟩
  go_wp2_with fail
  refine (kt _).mono ?_
  rintro e w2 ⟨rfl, k2⟩
  have hb2 := k1.trans (k2.mono k1.size)
  have hl2 := (hl0.below hb2).mono hb2.size
  have hown := specH_own w2 d
  have hb3 := hb2.alloc hb2.size (.cells #[.int .i64 0, .int .i64 1, .int .i64 0, .int .i64 0, .string d, .int .i64 2, .int .i64 0, .int .i64 1, .int .i64 0, .string ⟨#[]⟩, .int .i64 0, .int .i64 1, .int .i64 0, .int .i64 0, .string ⟨#[48]⟩] 75)
  have hs2 : Src (w2.alloc (.cells #[.int .i64 0, .int .i64 1, .int .i64 0, .int .i64 0, .string d, .int .i64 2, .int .i64 0, .int .i64 1, .int .i64 0, .string ⟨#[]⟩, .int .i64 0, .int .i64 1, .int .i64 0, .int .i64 0, .string ⟨#[48]⟩] 75)) (.slice ao n cap) n 5 (inscells l) := by
    have := (hl0.below hb3).src
    rwa [HN.out] at this
  have hsz := hb2.size
  clear kv kt k1 k2 hb2 hl2 hl0
  go_wp2_with (at_builtin; refine app_src el_ins (vx := .slice ao n cap) rfl _ _ rfl rfl hown rfl hs2 HONE.out ?c2 ?c3 (by simp) hb3 hsz ?_)
  case c2 => omega
  case c3 => unfold maxLen; omega
  intro v' w3 hown3 hb4 hg
  have hrow : InsRow w3 w3.heap.size v' (specL d l) := InsRow.of_own (n := 3 + n) (by rw [HC.out]; exact hown3) HWF.out (by rw [HLEN.out, HN.out]; omega)
  have kv2 := codeValidP_at v' _ w3 hrow _ HBB.out
  have hO := Lib.hid (OwnI.lower (B := w2.heap.size) (B' := w.heap.size) ⟨by rw [HC.out, HLEN.out, HN.out, Nat.add_comm n 3]; exact hown3, HWF.out⟩ hsz)
  obtain ⟨a2, c2, rfl⟩ := own_len hown3
  clear hown hs2 hb3 hown3 hg hrow
  go_wp2_with fail
  refine kv2.mono ?_
  rintro e w4 ⟨rfl, k4⟩
  clear kv2
  go_wp2
  go_ret2
  exact ⟨_, rfl, hO.out.below k4, hb4.trans (k4.mono hb4.size)⟩

set_option maxRecDepth 20000 in
set_option maxHeartbeats 4000000 in
theorem know_own1 (qa : Option Addr) (qn qc : Nat) (q : List Ins) (w : World) (hhQ : InsRow w w.heap.size (.slice qa qn qc) q) (HV : Hid (validB q = true)) (HR : Hid (validB (knowR q) = true)) (HC : Hid (codeN (knowR q) ≤ 2000000)) (HS : Hid (validB (specL (codeOf (knowR q)) (knowR q)) = true)) (HD : Hid (codeN (knowL q) ≤ 2000000)) :
    Calls Try.prog 67 #[.slice qa qn qc] w fun e w' => ∃ v, e = .returned (.tuple #[v, .int .i64 0]) ∧ OwnI w' w.heap.size v (knowL q) ∧ Below w.heap.size w w' := by
  have hQ := Lib.hid hhQ
  clear hhQ
  have kv := codeValidP_at _ q w hQ.out _ HV.out
  have ch := Lib.hid (Below.refl w.heap.size w)
  go_enter Try.func67, Try.ntmps67
  go_wp2_with fail
  refine (kv).mono ?_
  rintro e w1 ⟨rfl, hq⟩
  have hQ := Lib.hid ((hQ.out.below hq).mono hq.size)
  have ch := Lib.hid (ch.out.trans (hq.mono ch.out.size))
  clear hq
  clear kv
  go_wp2_with fail
  refine (before_any _).mono ?_
  rintro e w2 ⟨ba, bc, rfl, hB, hq⟩
  have hQ := Lib.hid ((hQ.out.below hq).mono hq.size)
  have ch := Lib.hid (ch.out.trans (hq.mono ch.out.size))
  clear hq
  have hB := Lib.hid hB
  go_wp2_with fail
  have hL0 := ProgsRow.lit (w := w2) [.slice ba 16 bc, .slice qa qn qc] [behindL, q] rfl (by simp) (fun j u l hu hl => match j, u, l, hu, hl with | 0, _, _, hu, hl => by cases hu; cases hl; exact hB.out | 1, _, _, hu, hl => by cases hu; cases hl; exact hQ.out)
  obtain ⟨w3, hW⟩ : ∃ B, w2.alloc (.cells #[.slice ba 16 bc, .slice qa qn qc] 23) = B := ⟨_, rfl⟩
  rw [hW]
  have hq : Below w2.heap.size w2 w3 := by rw [← hW]; exact (Below.refl _ _).alloc (Nat.le_refl _) _
  have hL := Lib.hid (show ProgsRow w3 w3.heap.size (.slice (some ⟨w2.heap.size, 0, none⟩) 2 2) [behindL, q] by rw [← hW]; exact hL0)
  clear hW hL0
  have hQ := Lib.hid ((hQ.out.below hq).mono hq.size)
  have hB := Lib.hid ((hB.out.below hq).mono hq.size)
  have ch := Lib.hid (ch.out.trans (hq.mono ch.out.size))
  clear hq
  have hq4 := validB_len HV.out
  have kj := join_any _ [behindL, q] _ hL.out (by simp [lenS, behindL, beforeL, clearL_length]; omega)
  rw [show ([behindL, q] : List (List Ins)).flatten = knowR q by simp [knowR], HR.out] at kj
  obtain ⟨N, hN⟩ : ∃ N, lenS [behindL, q] = N := ⟨_, rfl⟩
  rw [hN] at kj
  clear hN hq4
  refine (kj).mono ?_
  rintro e w4 ⟨ja, jc, rfl, hJ, hq⟩
  have hQ := Lib.hid ((hQ.out.below hq).mono hq.size)
  have hB := Lib.hid ((hB.out.below hq).mono hq.size)
  have hL := Lib.hid ((hL.out.below hq).mono hq.size)
  have ch := Lib.hid (ch.out.trans (hq.mono ch.out.size))
  clear hq
  have hJ := Lib.hid hJ
  clear kj hL hB
  go_wp2_with fail
  refine (code_fine _ (knowR q) _ hJ.out HR.out HC.out).mono ?_
  rintro e w5 ⟨rfl, hq⟩
  have hQ := Lib.hid ((hQ.out.below hq).mono hq.size)
  have hJ := Lib.hid ((hJ.out.below hq).mono hq.size)
  have ch := Lib.hid (ch.out.trans (hq.mono ch.out.size))
  clear hq
  have htree := codeOf_tree (validB_all HR.out) HC.out
  have hds : (codeOf (knowR q)).size ≤ 140737488355328 := by rw [codeOf_size]; have h := HC.out; unfold codeN at h; omega
  have hch0 := Lib.hid ch.out.size
  go_wp2_with fail
  refine (spec_own _ (knowR q) (codeOf (knowR q)) hds _ hJ.out HR.out htree HS.out).mono ?_
  rintro e w6 ⟨vs, rfl, hS, hq⟩
  have hQ := Lib.hid ((hQ.out.below hq).mono hq.size)
  have hJ := Lib.hid ((hJ.out.below hq).mono hq.size)
  have ch := Lib.hid (ch.out.trans (hq.mono ch.out.size))
  clear hq
  have hS := Lib.hid (OwnI.lower (B' := w.heap.size) hS hch0.out)
  go_wp2_with fail
  refine (code_fine _ (knowL q) _ (hS.out.row (by have := validB_len HS.out; show (specL (codeOf (knowR q)) (knowR q)).length ≤ _; omega)) HS.out HD.out).mono ?_
  rintro e w7 ⟨rfl, hq⟩
  have hQ := Lib.hid ((hQ.out.below hq).mono hq.size)
  have hJ := Lib.hid ((hJ.out.below hq).mono hq.size)
  have hS := Lib.hid (hS.out.below hq)
  have ch := Lib.hid (ch.out.trans (hq.mono ch.out.size))
  clear hq
  go_wp2
  refine bodyPost_ret (v := .tuple #[vs, .int .i64 0]) (by simp [results, Try.results67, go_sem]) rfl ?_
  exact ⟨_, rfl, hS.out, ch.out⟩

theorem knowE_zero {q : List Ins} (h : knowE q = 0) : validB q = true ∧ validB (knowR q) = true ∧ codeN (knowR q) ≤ 2000000 ∧ validB (knowL q) = true ∧ codeN (knowL q) ≤ 2000000 := by
  unfold knowE at h
  cases hv : validB q with
  | false => rw [if_pos hv] at h; cases h
  | true =>
    rw [if_neg (by rw [hv]; simp)] at h
    by_cases hc : validB (knowR q) = true ∧ codeN (knowR q) ≤ 2000000 ∧ validB (knowL q) = true ∧ codeN (knowL q) ≤ 2000000
    · exact ⟨rfl, hc⟩
    · rw [if_neg hc] at h; cases h
theorem know_own (v : Value) (q : List Ins) (w : World) (hq : InsRow w w.heap.size v q) (hk : knowE q = 0) :
    Calls Try.prog 67 #[v] w fun e w' => ∃ v, e = .returned (.tuple #[v, .int .i64 0]) ∧ OwnI w' w.heap.size v (knowL q) ∧ Below w.heap.size w w' := by
  obtain ⟨qa, qc, rfl⟩ := hq.len
  obtain ⟨h1, h2, h3, h4, h5⟩ := knowE_zero hk
  exact know_own1 _ _ _ q w hq (Lib.hid h1) (Lib.hid h2) (Lib.hid h3) (Lib.hid h4) (Lib.hid h5)

end Go.Proofs.Ytdjbcmfjlfkcjaa


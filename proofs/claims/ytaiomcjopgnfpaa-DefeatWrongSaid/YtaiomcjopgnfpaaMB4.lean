/- ref07: Behind. The walks of narcissuslaw05: SpecMakes and SpecSupplies. ref07: Coded, Know, told, Made. law07: Small, awake. Spec and Know, where their results lie. law07: spoil. law07: Know, Made, Self as they are used by the laws. -/
import Derived.Test.YtaiomcjopgnfpaaMB3
import Derived.Test.YtaiomcjopgnfpaaMB2
namespace Go.Proofs.Ytaiomcjopgnfpaa
open Go.RowKit

theorem r7set_any (a : Int) (s : ByteArray) (w : World) :
    Calls Try.prog 138 #[.int .i64 a, .string s] w fun e w' => e = .returned (.agg #[.int .i64 0, .int .i64 a, .int .i64 0, .int .i64 0, .string s]) ∧ Below w.heap.size w w' := by
  go_enter Try.func138, Try.ntmps138
  go_wp2
  refine bodyPost_ret (v := .agg #[.int .i64 0, .int .i64 a, .int .i64 0, .int .i64 0, .string s]) (by simp [results, Try.results138, go_sem]) rfl ?_
  exact ⟨rfl, (Below.refl _ _).alloc (Nat.le_refl _) _⟩

theorem r7cons_any (a b c : Int) (w : World) :
    Calls Try.prog 139 #[.int .i64 a, .int .i64 b, .int .i64 c] w fun e w' => e = .returned (.agg #[.int .i64 2, .int .i64 a, .int .i64 b, .int .i64 c, .string ⟨#[]⟩]) ∧ Below w.heap.size w w' := by
  go_enter Try.func139, Try.ntmps139
  go_wp2
  refine bodyPost_ret (v := .agg #[.int .i64 2, .int .i64 a, .int .i64 b, .int .i64 c, .string ⟨#[]⟩]) (by simp [results, Try.results139, go_sem]) rfl ?_
  exact ⟨rfl, (Below.refl _ _).alloc (Nat.le_refl _) _⟩

theorem r7head_any (a b : Int) (w : World) :
    Calls Try.prog 97 #[.int .i64 a, .int .i64 b] w fun e w' => e = .returned (.agg #[.int .i64 3, .int .i64 a, .int .i64 b, .int .i64 0, .string ⟨#[]⟩]) ∧ Below w.heap.size w w' := by
  go_enter Try.func97, Try.ntmps97
  go_wp2
  refine bodyPost_ret (v := .agg #[.int .i64 3, .int .i64 a, .int .i64 b, .int .i64 0, .string ⟨#[]⟩]) (by simp [results, Try.results97, go_sem]) rfl ?_
  exact ⟨rfl, (Below.refl _ _).alloc (Nat.le_refl _) _⟩

theorem r7tail_any (a b : Int) (w : World) :
    Calls Try.prog 137 #[.int .i64 a, .int .i64 b] w fun e w' => e = .returned (.agg #[.int .i64 4, .int .i64 a, .int .i64 b, .int .i64 0, .string ⟨#[]⟩]) ∧ Below w.heap.size w w' := by
  go_enter Try.func137, Try.ntmps137
  go_wp2
  refine bodyPost_ret (v := .agg #[.int .i64 4, .int .i64 a, .int .i64 b, .int .i64 0, .string ⟨#[]⟩]) (by simp [results, Try.results137, go_sem]) rfl ?_
  exact ⟨rfl, (Below.refl _ _).alloc (Nat.le_refl _) _⟩

set_option maxRecDepth 20000 in
set_option maxHeartbeats 4000000 in
theorem behind_any (qa : Option Addr) (qn qc : Nat) (q : List Ins) (w : World) (hhQ : InsRow w w.heap.size (.slice qa qn qc) q) (hq4 : q.length ≤ 100000000) :
    Calls Try.prog 119 #[.slice qa qn qc] w fun e w' => ∃ a k c, e = .returned (.slice a k c) ∧ Hid (k = 16 + q.length) ∧ InsRow w' w'.heap.size (.slice a k c) (knowR q) ∧ Below w.heap.size w w' := by
  have hQ := Lib.hid hhQ
  clear hhQ
  have ch := Lib.hid (Below.refl w.heap.size w)
  go_enter Try.func119, Try.ntmps119
  go_wp2_with fail
  refine (r7head_any 2 0 _).mono ?_
  rintro e w1 ⟨rfl, hq⟩
  have hQ := Lib.hid ((hQ.out.below hq).mono hq.size)
  have ch := Lib.hid (ch.out.trans (hq.mono ch.out.size))
  clear hq
  go_wp2_with fail
  refine (r7tail_any 3 0 _).mono ?_
  rintro e w2 ⟨rfl, hq⟩
  have hQ := Lib.hid ((hQ.out.below hq).mono hq.size)
  have ch := Lib.hid (ch.out.trans (hq.mono ch.out.size))
  clear hq
  go_wp2_with fail
  refine (r7set_any 4 _ _).mono ?_
  rintro e w3 ⟨rfl, hq⟩
  have hQ := Lib.hid ((hQ.out.below hq).mono hq.size)
  have ch := Lib.hid (ch.out.trans (hq.mono ch.out.size))
  clear hq
  go_wp2_with fail
  refine (r7cons_any 4 4 2 _).mono ?_
  rintro e w4 ⟨rfl, hq⟩
  have hQ := Lib.hid ((hQ.out.below hq).mono hq.size)
  have ch := Lib.hid (ch.out.trans (hq.mono ch.out.size))
  clear hq
  go_wp2_with fail
  refine (r7cons_any 4 1 4 _).mono ?_
  rintro e w5 ⟨rfl, hq⟩
  have hQ := Lib.hid ((hQ.out.below hq).mono hq.size)
  have ch := Lib.hid (ch.out.trans (hq.mono ch.out.size))
  clear hq
  go_wp2_with fail
  refine (r7set_any 5 _ _).mono ?_
  rintro e w6 ⟨rfl, hq⟩
  have hQ := Lib.hid ((hQ.out.below hq).mono hq.size)
  have ch := Lib.hid (ch.out.trans (hq.mono ch.out.size))
  clear hq
  go_wp2_with fail
  refine (r7cons_any 5 5 2 _).mono ?_
  rintro e w7 ⟨rfl, hq⟩
  have hQ := Lib.hid ((hQ.out.below hq).mono hq.size)
  have ch := Lib.hid (ch.out.trans (hq.mono ch.out.size))
  clear hq
  go_wp2_with fail
  refine (r7set_any 6 _ _).mono ?_
  rintro e w8 ⟨rfl, hq⟩
  have hQ := Lib.hid ((hQ.out.below hq).mono hq.size)
  have ch := Lib.hid (ch.out.trans (hq.mono ch.out.size))
  clear hq
  go_wp2_with fail
  refine (r7cons_any 5 6 5 _).mono ?_
  rintro e w9 ⟨rfl, hq⟩
  have hQ := Lib.hid ((hQ.out.below hq).mono hq.size)
  have ch := Lib.hid (ch.out.trans (hq.mono ch.out.size))
  clear hq
  go_wp2_with fail
  refine (r7cons_any 5 4 5 _).mono ?_
  rintro e w10 ⟨rfl, hq⟩
  have hQ := Lib.hid ((hQ.out.below hq).mono hq.size)
  have ch := Lib.hid (ch.out.trans (hq.mono ch.out.size))
  clear hq
  go_wp2_with fail
  refine (r7cons_any 0 5 3 _).mono ?_
  rintro e w11 ⟨rfl, hq⟩
  have hQ := Lib.hid ((hQ.out.below hq).mono hq.size)
  have ch := Lib.hid (ch.out.trans (hq.mono ch.out.size))
  clear hq
  go_wp2
  have q_ch := ch
  have q_hQ := hQ
  have rl := Lib.hid (Below.refl w11.heap.size w11)
  obtain ⟨w12, hW⟩ : ∃ B, w11.alloc (.cells #[.int .i64 3, .int .i64 2, .int .i64 0, .int .i64 0, .string ⟨#[]⟩, .int .i64 4, .int .i64 3, .int .i64 0, .int .i64 0, .string ⟨#[]⟩, .int .i64 0, .int .i64 4, .int .i64 0, .int .i64 0, .string ⟨#[49, 48, 48]⟩, .int .i64 2, .int .i64 4, .int .i64 4, .int .i64 2, .string ⟨#[]⟩, .int .i64 2, .int .i64 4, .int .i64 1, .int .i64 4, .string ⟨#[]⟩, .int .i64 0, .int .i64 5, .int .i64 0, .int .i64 0, .string ⟨#[49, 48, 49, 49, 48, 48, 48]⟩, .int .i64 2, .int .i64 5, .int .i64 5, .int .i64 2, .string ⟨#[]⟩, .int .i64 0, .int .i64 6, .int .i64 0, .int .i64 0, .string ⟨#[49, 49, 48, 49, 48, 48, 49, 48, 49, 49, 48, 48, 48]⟩, .int .i64 2, .int .i64 5, .int .i64 6, .int .i64 5, .string ⟨#[]⟩, .int .i64 2, .int .i64 5, .int .i64 4, .int .i64 5, .string ⟨#[]⟩, .int .i64 2, .int .i64 0, .int .i64 5, .int .i64 3, .string ⟨#[]⟩] 52) = B := ⟨_, rfl⟩
  rw [hW]
  have hq : Below w11.heap.size w11 w12 := by rw [← hW]; exact (Below.refl _ _).alloc (Nat.le_refl _) _
  have ho := Lib.hid (show OwnI w12 w11.heap.size (.slice (some ⟨w11.heap.size, 0, none⟩) 11 11) beforeL by rw [← hW]; exact OwnI.lit w11 beforeL (by exact beforeL_wf) (by first | simp | decide))
  clear hW
  have hQ := Lib.hid ((hQ.out.below hq).mono hq.size)
  have rl := Lib.hid (rl.out.trans (hq.mono rl.out.size))
  clear hq
  have hq0 := Lib.hid (show OwnI w12 w11.heap.size (.slice (some ⟨w11.heap.size, 0, none⟩) 11 11) (beforeL ++ clearL 2 0) ∧ Below w11.heap.size w11 w12 from ⟨by have h := ho.out; simpa [clearL] using h, rl.out⟩)
  have chB := Lib.hid ch.out
  clear ho rl hQ
  go_loopg [3, 4] 5 (fun gg o i wr => ∃ k : Nat, k ≤ 5 ∧ gg = 5 - k ∧ i = .int .i64 ((2 : Int) + k) ∧ Hid (OwnI wr w11.heap.size o (beforeL ++ clearL 2 k) ∧ Below w11.heap.size w11 wr))
  case atStart => exact ⟨0, by omega, rfl, rfl, hq0.out⟩
  case round =>
    clear hq0
    obtain ⟨k, hk, hg, rfl, hP⟩ := hrel
    have HG := Lib.hid hg
    clear hg
    have hsz := hP.out.2.size
    by_cases hlt : k < 5
    · have hi : (2 : Int) + (k : Int) ≤ 6 := by omega
      go_wp2_with fail
      refine (r7set_any _ _ _).mono ?_
      rintro e v1 ⟨rfl, hb1⟩
      have hP := Lib.hid (show OwnI v1 w11.heap.size _ (beforeL ++ clearL 2 k) ∧ Below w11.heap.size w11 v1 from ⟨hP.out.1.below hb1, hP.out.2.trans (hb1.mono hP.out.2.size)⟩)
      clear hb1 hsz
      have hown := hP.out.1.own
      have hlen : (beforeL ++ clearL 2 k).length = 11 + k := by simp [beforeL, clearL_length]; omega
      rw [hlen] at hown
      have hb := hP.out.2
      have hsz := hb.size
      go_wp2_with (at_builtin; refine app_new el_ins rfl _ _ rfl rfl hown (inscells [setI (2 + k) ⟨#[48]⟩]) 1 rfl rfl ?c1 ?c2 ?c3 hsz hb (Nat.le_refl _) ?_)
      case c1 => exact inscells_one _
      case c2 => omega
      case c3 => unfold maxLen; omega
      intro v' w' hown' hb' hgr
      have hnew : Hid (OwnI w' w11.heap.size v' (beforeL ++ clearL 2 (k + 1)) ∧ Below w11.heap.size w11 w') := Lib.hid ⟨by rw [clearL_succ, ← List.append_assoc]; exact OwnI.snoc (by rw [hlen]; exact hown') hP.out.1.wf (setI_wf _ _ (by omega) (by decide)), hb'⟩
      clear hown hown' hb hb' hgr hP hlen
      go_wp2
      go_roundg (5 - (k + 1))
      case measure => rw [HG.out]; omega
      case rel => exact ⟨k + 1, by omega, rfl, by first | rfl | (congr 1; omega), hnew⟩
    · have hk5 : k = 5 := by omega
      subst hk5
      have ho0 := hP.out.1
      have hb0 := hP.out.2
      have hs0 := (q_hQ.out.below hb0).mono hb0.size
      have hs1 := Lib.hid (show (beforeL ++ clearL 2 5).length + q.length ≤ 1000000000 by simp [beforeL, clearL_length]; omega)
      go_wp2_with (at_builtin; refine app_row rfl _ _ rfl (vx := .slice qa qn qc) rfl ho0 rfl hs0 ?c2 hb0 ?_)
      case c2 => exact hs1.out
      intro a1 k1 s1 w1 hk1 hn1 hbb
      have hrow := Lib.hid (show InsRow w1 w1.heap.size (.slice a1 k1 s1) (knowR q) from by
        have h := hn1.out.row (by have := hs1.out; simp only [List.length_append] at this ⊢; omega)
        simpa [knowR, behindL] using h)
      have hk2 := Lib.hid (show k1 = 16 + q.length by rw [hk1.out]; simp [beforeL, clearL_length])
      clear ho0 hb0 hs0 hk1 hn1
      go_wp2
      refine bodyPost_ret (v := .slice a1 k1 s1) (by simp [results, Try.results119, go_sem]) rfl ?_
      exact ⟨_, _, _, rfl, hk2, hrow.out, (q_ch.out).trans (hbb.out.mono q_ch.out.size)⟩
end Go.Proofs.Ytaiomcjopgnfpaa

namespace Go.Proofs.Ytaiomcjopgnfpaa
open Go.RowKit

set_option maxHeartbeats 1000000 in
theorem rhead_any (d : ByteArray) (_hd : d.size ≤ 140737488355328) (w : World) :
    Calls Try.prog 140 #[.string d] w fun e w' => e = .returned (.slice (some ⟨w.heap.size, 0, none⟩) 3 3) ∧ Hid (w'.ownsRow w.heap.size 52 5 (.slice (some ⟨w.heap.size, 0, none⟩) 3 3) 3 (inscells (specH d))) ∧ Below w.heap.size w w' := by
  have hown := Lib.hid (specH_own w d)
  go_enter Try.func140, Try.ntmps140
  go_wp2
  go_ret
  exact ⟨rfl, hown, (Below.refl _ _).alloc (Nat.le_refl _) _⟩

set_option maxHeartbeats 2000000 in
theorem rspec_any (v : Value) (l : List Ins) (hn4 : l.length ≤ 4000) (d : ByteArray) (hds : d.size ≤ 140737488355328) (w : World) (hl : InsRow w w.heap.size v l) :
    Calls Try.prog 120 #[v, .string d] w fun e w' => ∃ v', e = .returned v' ∧ InsRow w' w'.heap.size v' (specL d l) ∧ Below w.heap.size w w' := by
  have hwf : ∀ x ∈ specL d l, x.wf := fun x hx => by rcases List.mem_append.1 hx with h | h; exact specH_wf d hds x h; exact hl.1 x h
  have hcells : inscells (specL d l) = inscells (specH d) ++ inscells l := by simp [specL, inscells]
  have hlen := specL_length d l
  have HC := Lib.hid hcells
  have HWF := Lib.hid hwf
  have HLEN := Lib.hid hlen
  have hl0 := hl
  obtain ⟨n, hn'⟩ : ∃ n, l.length = n := ⟨_, rfl⟩
  obtain ⟨ao, cap, rfl⟩ := hl.len
  rw [hn'] at hl0 hn4 ⊢
  have HN := Lib.hid hn'
  have hone := inscells_one l
  have HONE := Lib.hid hone
  clear hwf hcells hlen hl hn' hone
  go_enter Try.func120, Try.ntmps120
  go_wp2_with fail
  refine (rhead_any d hds _).mono ?_
  rintro e w1 ⟨rfl, ho, hb1⟩
  have hs2 : Src w1 (.slice ao n cap) n 5 (inscells l) := by
    have := (hl0.below hb1).src
    rwa [HN.out] at this
  have hsz := hb1.size
  clear hl0
  go_wp2_with (at_builtin; refine app_src el_ins (vx := .slice ao n cap) rfl _ _ rfl rfl ho.out rfl hs2 HONE.out ?c2 ?c3 hsz hb1 (Nat.le_refl _) ?_)
  case c2 => omega
  case c3 => unfold maxLen; omega
  intro v' w3 hown3 hb4 hg
  have hrow : InsRow w3 w3.heap.size v' (specL d l) := InsRow.of_own (n := 3 + n) (by rw [HC.out]; exact hown3) HWF.out (by rw [HLEN.out, HN.out]; omega)
  have HROW := Lib.hid hrow
  obtain ⟨a2, c2, rfl⟩ := own_len hown3
  clear ho hs2 hown3 hg hrow
  go_wp2
  go_ret
  exact ⟨_, rfl, HROW.out, hb4⟩

set_option maxHeartbeats 1000000 in
theorem fits4_any (v : Value) (l : List Ins) (w : World) (B : Nat) (hl : InsRow w B v l) :
    Calls Try.prog 74 #[v] w fun e w' => e = .returned (.bool (fitsP l)) ∧ w = w' := by
  have hll := hl.2.1
  unfold fitsP
  by_cases h : l.length ≤ 4000
  · have kt := trees_any v l w B hl h
    obtain ⟨ao, cap, rfl⟩ := hl.len
    generalize trees l = tr at *
    obtain ⟨bt, hbt⟩ : ∃ b, decide (tr ≤ 2000000) = b := ⟨_, rfl⟩
    have hq : decide ((tr : Int) ≤ 2000000) = bt := by rw [← hbt]; exact decide_eq_decide.2 (by omega)
    rw [hbt]
    clear hbt
    have hI : (l.length : Int) ≤ 4000 := by omega
    generalize l.length = n at *
    clear hl
    simp only [h, decide_true, Bool.true_and]
    clear h
    go_enter Try.func74, Try.ntmps74
    go_wp2_with fail
    refine kt.mono ?_
    rintro e w1 ⟨rfl, rfl⟩
    go_wp2
    go_ret
    exact ⟨rfl, rfl⟩
  · obtain ⟨ao, cap, rfl⟩ := hl.len
    have hI : decide ((l.length : Int) ≤ 4000) = false := decide_eq_false (by omega)
    generalize l.length = n at *
    clear hl
    simp only [h, decide_false, Bool.false_and]
    clear h
    go_enter Try.func74, Try.ntmps74
    go_wp2
    go_ret
    exact ⟨rfl, rfl⟩

def awH : List Ins := [⟨3, 0, 0, 0, ⟨#[]⟩⟩]
theorem awH_new (w : World) : InsRow (w.alloc (.cells #[.int .i64 3, .int .i64 0, .int .i64 0, .int .i64 0, .string ⟨#[]⟩] 52)) (w.alloc (.cells #[.int .i64 3, .int .i64 0, .int .i64 0, .int .i64 0, .string ⟨#[]⟩] 52)).heap.size (.slice (some ⟨w.heap.size, 0, none⟩) 1 1) awH :=
  InsRow.new (w := w) (T := 52) awH (by intro x hx; simp [awH] at hx; subst hx; exact wf_lit _ _ _ _ _ (by unfold i64; decide) (by unfold i64; decide) (by unfold i64; decide) (by unfold i64; decide) (by decide)) (by decide)
theorem awH_run : (goF (specL ⟨#[49, 48, 48]⟩ awH) 10 0 (startS .nil)).run = (⟨#[49, 48, 48]⟩, 4, 0) := by rfl
theorem awNil_run : (goF (specL ⟨#[49, 48, 48]⟩ []) 10 0 (startS (.pair .nil (.pair .nil .nil)))).run = (⟨#[49, 49, 48, 48, 49, 48, 49, 48, 48]⟩, 3, 0) := by rfl
theorem awH_valid : validB awH = true := by decide +kernel
theorem awH_svalid : validB (specL ⟨#[49, 48, 48]⟩ awH) = true := by decide +kernel
theorem awNil_svalid : validB (specL ⟨#[49, 48, 48]⟩ []) = true := by decide +kernel
theorem isTree_100 : isTree ⟨#[49, 48, 48]⟩ = true := by decide +kernel
/-- Spec, relative to a world. -/
theorem specOk_ct {w w' : World} {v : Value} {l : List Ins} {d : ByteArray} (hds : d.size ≤ 140737488355328) (hl : InsRow w' w'.heap.size v l) (hv : validB l = true) (hd : isTree d = true) (hs : validB (specL d l) = true) (hb : Below w.heap.size w w') :
    Calls Try.prog 96 #[v, .string d] w' fun e w'' => ∃ v', e = .returned (.tuple #[v', .int .i64 0]) ∧ Hid (InsRow w'' w''.heap.size v' (specL d l)) ∧ Below w.heap.size w w'' := by
  refine (spec_any v l d hds w' hl hv hd).mono ?_
  intro e w'' h
  rw [if_pos hs] at h
  obtain ⟨v', h1, h2, h3⟩ := h
  exact ⟨v', h1, h2, hb.trans (h3.mono hb.size)⟩
theorem specBig_ct {w w' : World} {v : Value} {l : List Ins} {d : ByteArray} (hds : d.size ≤ 140737488355328) (hl : InsRow w' w'.heap.size v l) (hv : validB l = true) (hd : isTree d = true) (hs : validB (specL d l) = false) (hb : Below w.heap.size w w') :
    Calls Try.prog 96 #[v, .string d] w' fun e w'' => e = .returned (.tuple #[.slice none 0 0, .int .i64 3]) ∧ Below w.heap.size w w'' := by
  refine (spec_any v l d hds w' hl hv hd).mono ?_
  intro e w'' h
  rw [if_neg (by rw [hs]; simp)] at h
  exact ⟨h.1, hb.trans (h.2.mono hb.size)⟩
set_option maxHeartbeats 1000000 in
theorem spec_form (v : Value) (l : List Ins) (d : ByteArray) (hds : d.size ≤ 140737488355328) (w : World) (hl : InsRow w w.heap.size v l) (h : validB l = false ∨ isTree d = false) :
    Calls Try.prog 96 #[v, .string d] w (SpecBad w 1) := by
  cases hv : validB l with
  | false =>
    have kv := codeValidP_at v l w hl _ hv
    clear h hv
    obtain ⟨ao, cap, rfl⟩ := hl.len
    go_enter Try.func96, Try.ntmps96
    go_wp2_with fail
    refine kv.mono ?_
    rintro e w1 ⟨rfl, k1⟩
    go_wp2
    go_ret2
    exact ⟨rfl, k1⟩
  | true =>
    have hd : isTree d = false := by rcases h with h | h; rw [hv] at h; cases h; exact h
    have kv := codeValidP_at v l w hl _ hv
    have kt := treeValid_at d hds _ hd
    clear h hv
    obtain ⟨ao, cap, rfl⟩ := hl.len
    go_enter Try.func96, Try.ntmps96
    go_wp2_with fail
    refine kv.mono ?_
    rintro e w1 ⟨rfl, k1⟩
    go_wp2_with fail
    refine (kt _).mono ?_
    rintro e w2 ⟨rfl, k2⟩
    go_wp2
    go_ret2
    exact ⟨rfl, k1.trans (k2.mono k1.size)⟩
theorem specForm_ct {w : World} {v : Value} {l : List Ins} {d : ByteArray} (hds : d.size ≤ 140737488355328) (hl : InsRow w w.heap.size v l) (h : validB l = false ∨ isTree d = false) : Ct w 96 #[v, .string d] (.tuple #[.slice none 0 0, .int .i64 1]) :=
  Ct.of fun w' hb => spec_form v l d hds w' ((hl.below hb).mono hb.size) h

theorem aw5_1 (w w' : World) (hb : Below w.heap.size w w') : Calls Try.prog 96 #[.slice (some ⟨w'.heap.size, 0, none⟩) 1 1, .string ⟨#[49, 48, 48]⟩] (w'.alloc (.cells #[.int .i64 3, .int .i64 0, .int .i64 0, .int .i64 0, .string ⟨#[]⟩] 52)) fun e w'' => ∃ v', e = .returned (.tuple #[v', .int .i64 0]) ∧ Hid (InsRow w'' w''.heap.size v' (specL ⟨#[49, 48, 48]⟩ awH)) ∧ Below w.heap.size w w'' :=
  specOk_ct (by decide) (awH_new w') awH_valid isTree_100 awH_svalid (hb.alloc hb.size _)
theorem aw5_2 (w w' : World) (hb : Below w.heap.size w w') : Calls Try.prog 96 #[.slice none 0 0, .string ⟨#[49, 48, 48]⟩] w' fun e w'' => ∃ v', e = .returned (.tuple #[v', .int .i64 0]) ∧ Hid (InsRow w'' w''.heap.size v' (specL ⟨#[49, 48, 48]⟩ [])) ∧ Below w.heap.size w w'' :=
  specOk_ct (by decide) (nil_row w' _) awN_valid isTree_100 awNil_svalid hb

theorem specOk_at {w : World} {v : Value} {l : List Ins} {d : ByteArray} (hds : d.size ≤ 140737488355328) (hv : validB l = true) (hd : isTree d = true) (hs : validB (specL d l) = true) (hl : InsRow w w.heap.size v l) :
    Calls Try.prog 96 #[v, .string d] w fun e w' => ∃ v', e = .returned (.tuple #[v', .int .i64 0]) ∧ InsRow w' w'.heap.size v' (specL d l) ∧ Below w.heap.size w w' := specOk_ct hds hl hv hd hs (Below.refl _ _)
theorem specBig_at {w : World} {v : Value} {l : List Ins} {d : ByteArray} (hds : d.size ≤ 140737488355328) (hv : validB l = true) (hd : isTree d = true) (hs : validB (specL d l) = false) (hl : InsRow w w.heap.size v l) :
    Calls Try.prog 96 #[v, .string d] w fun e w' => e = .returned (.tuple #[.slice none 0 0, .int .i64 3]) ∧ Below w.heap.size w w' := specBig_ct hds hl hv hd hs (Below.refl _ _)
theorem fits4_at {w : World} {v : Value} {l : List Ins} (b : Bool) (hb : fitsP l = b) (hl : InsRow w w.heap.size v l) :
    Calls Try.prog 74 #[v] w fun e w' => e = .returned (.bool b) ∧ Below w.heap.size w w' :=
  (fits4_any v l w _ hl).mono fun e w' h => ⟨by rw [← hb]; exact h.1, by rw [← h.2]; exact Below.refl _ _⟩

end Go.Proofs.Ytaiomcjopgnfpaa

namespace Go.Proofs.Ytaiomcjopgnfpaa
open Go.RowKit

theorem behindL_right {q : List Ins} (hq : rightAll q = true) : rightAll (knowR q) = true := by
  have h16 : behindL.length = 16 := by simp [behindL, beforeL, clearL_length]
  refine RA.all ?_
  unfold knowR
  refine RA.append (fun i x hx => ?_) (RA.of hq (by rw [List.length_append, h16]; omega))
  have h0 : rightAll behindL = true := by decide +kernel
  exact rightAll_at h0 hx (by rw [List.length_append]; omega)
theorem codeOf_len (l : List Ins) : ((codeOf l).size : Int) = (codeN l : Int) := by rw [codeOf_size]; rfl
theorem coded_no (v : Value) (l : List Ins) (w : World) (hl : InsRow w w.heap.size v l) (hf : fitsP l = false) :
    Calls Try.prog 66 #[v] w fun e w' => e = .returned (.tuple #[.string ⟨#[]⟩, .bool false]) ∧ Below w.heap.size w w' := by
  have kf := fits4_ok v l w hl
  rw [hf] at kf
  go_enter Try.func66, Try.ntmps66
  go_wp2_with fail
  refine kf.mono ?_
  rintro e w1 ⟨rfl, hb1⟩
  go_wp2
  refine bodyPost_ret (v := .tuple #[.string ⟨#[]⟩, .bool false]) (by simp [results, Try.results66, go_sem]) rfl ?_
  exact ⟨rfl, hb1⟩
theorem coded_yes (v : Value) (l : List Ins) (w : World) (hl : InsRow w w.heap.size v l) (hv : validB l = true) :
    Calls Try.prog 66 #[v] w fun e w' => e = .returned (.tuple #[.string (codeOf l), .bool (decide (codeN l ≤ 2000000))]) ∧ Below w.heap.size w w' := by
  have kf := fits4_ok v l w hl
  have hf : fitsP l = true := by rw [← validB_fits (validB_all hv)]; exact hv
  rw [hf] at kf
  have hsz := codeOf_size l
  have hN : (codeLs l).length + 1 = codeN l := rfl
  rw [hN] at hsz
  obtain ⟨b, hb⟩ : ∃ b, decide (codeN l ≤ 2000000) = b := ⟨_, rfl⟩
  rw [hb]
  have HL := Lib.hid hl
  have HV := Lib.hid hv
  have kc := Lib.hid (fun (w' : World) (hb : Below w.heap.size w w') => rcode_any v l w' ((HL.out.below hb).mono hb.size) HV.out)
  obtain ⟨S, hS⟩ : ∃ S, codeOf l = S := ⟨_, rfl⟩
  rw [hS] at kc hsz ⊢
  have HSZ := Lib.hid hsz
  have hb' : Hid (b = decide (S.size ≤ 2000000)) := Lib.hid (by rw [hsz]; exact hb.symm)
  clear hl hv hN hb hS hsz hf
  cases b with
  | true =>
    have hle : (S.size : Int) ≤ 2000000 := by have := of_decide_eq_true hb'.out.symm; omega
    go_enter Try.func66, Try.ntmps66
    go_wp2_with fail
    refine kf.mono ?_
    rintro e w1 ⟨rfl, hb1⟩
    go_wp2_with fail
    refine (kc.out _ hb1).mono ?_
    rintro e w2 ⟨rfl, hb2⟩
    have hb := hb1.trans (hb2.mono hb1.size)
    go_wp2
    refine bodyPost_ret (v := .tuple #[.string S, .bool true]) (by simp [results, Try.results66, go_sem]) rfl ?_
    exact ⟨rfl, hb⟩
  | false =>
    have hle : ¬ (S.size : Int) ≤ 2000000 := by have := of_decide_eq_false hb'.out.symm; omega
    go_enter Try.func66, Try.ntmps66
    go_wp2_with fail
    refine kf.mono ?_
    rintro e w1 ⟨rfl, hb1⟩
    go_wp2_with fail
    refine (kc.out _ hb1).mono ?_
    rintro e w2 ⟨rfl, hb2⟩
    have hb := hb1.trans (hb2.mono hb1.size)
    go_wp2
    refine bodyPost_ret (v := .tuple #[.string S, .bool false]) (by simp [results, Try.results66, go_sem]; omega) rfl ?_
    exact ⟨rfl, hb⟩
theorem coded_b (b : Bool) (v : Value) (l : List Ins) (w : World) (hl : InsRow w w.heap.size v l) (hv : validB l = true) (hb : decide (codeN l ≤ 2000000) = b) :
    Calls Try.prog 66 #[v] w fun e w' => e = .returned (.tuple #[.string (codeOf l), .bool b]) ∧ Below w.heap.size w w' := by
  have := coded_yes v l w hl hv
  rwa [hb] at this
/-- What the reference's Know hands back. -/
def RKnowOut (w : World) (q : List Ins) (e : Ending) (w' : World) : Prop := ∃ v b, e = .returned (.tuple #[v, .bool b]) ∧ (b = true ↔ knowE q = 0) ∧ TB w' w'.heap.size (knowE q) (knowL q) v ∧ Below w.heap.size w w'
theorem RKnowOut.bad {w w' : World} {q : List Ins} {e : Ending} (hk : knowE q = 3) (he : e = .returned (.tuple #[.slice none 0 0, .bool false])) (hb : Below w.heap.size w w') : RKnowOut w q e w' := ⟨_, _, he, ⟨fun h => (by cases h), fun h => by rw [hk] at h; cases h⟩, by rw [hk]; exact tb_bad _ _ _ (by decide) _, hb⟩
theorem RKnowOut.ok {w w' : World} {q : List Ins} {e : Ending} {v : Value} (hk : knowE q = 0) (he : e = .returned (.tuple #[v, .bool true])) (hr : InsRow w' w'.heap.size v (knowL q)) (hb : Below w.heap.size w w') : RKnowOut w q e w' := ⟨_, _, he, ⟨fun _ => hk, fun _ => rfl⟩, by rw [hk]; exact ⟨fun _ => hr, fun e => absurd rfl e⟩, hb⟩

set_option maxRecDepth 20000 in
set_option maxHeartbeats 4000000 in
theorem rknow_join (qa : Option Addr) (qn qc : Nat) (q : List Ins) (w : World) (hhQ : InsRow w w.heap.size (.slice qa qn qc) q) (HV : Hid (validB q = true)) (HR : Hid (validB (knowR q) = false)) :
    Calls Try.prog 90 #[.slice qa qn qc] w (RKnowOut w q) := by
  have hQ := Lib.hid hhQ
  have hq4 := validB_len HV.out
  clear hhQ
  have ch := Lib.hid (Below.refl w.heap.size w)
  go_enter Try.func90, Try.ntmps90
  go_wp2_with fail
  refine (behind_any _ _ _ q _ hQ.out (by omega)).mono ?_
  rintro e w1 ⟨ra, rn, rc, rfl, hrn, hJ, hq⟩
  have hQ := Lib.hid ((hQ.out.below hq).mono hq.size)
  have ch := Lib.hid (ch.out.trans (hq.mono ch.out.size))
  clear hq
  have hJ := Lib.hid hJ
  go_wp2_with fail
  refine (coded_no _ (knowR q) _ hJ.out (by rw [← validB_fits (behindL_right (validB_all HV.out))]; exact HR.out)).mono ?_
  rintro e w2 ⟨rfl, hq⟩
  have hQ := Lib.hid ((hQ.out.below hq).mono hq.size)
  have hJ := Lib.hid ((hJ.out.below hq).mono hq.size)
  have ch := Lib.hid (ch.out.trans (hq.mono ch.out.size))
  clear hq
  go_wp2
  refine bodyPost_ret (v := .tuple #[.slice none 0 0, .bool false]) (by simp [results, Try.results90, go_sem]) rfl ?_
  exact RKnowOut.bad (knowE_bad HV.out (fun h => by rw [HR.out] at h; cases h.1)) rfl ch.out

set_option maxRecDepth 20000 in
set_option maxHeartbeats 4000000 in
theorem rknow_code (qa : Option Addr) (qn qc : Nat) (q : List Ins) (w : World) (hhQ : InsRow w w.heap.size (.slice qa qn qc) q) (HV : Hid (validB q = true)) (HR : Hid (validB (knowR q) = true)) (HC : Hid (¬ codeN (knowR q) ≤ 2000000)) :
    Calls Try.prog 90 #[.slice qa qn qc] w (RKnowOut w q) := by
  have hQ := Lib.hid hhQ
  have hq4 := validB_len HV.out
  clear hhQ
  have ch := Lib.hid (Below.refl w.heap.size w)
  go_enter Try.func90, Try.ntmps90
  go_wp2_with fail
  refine (behind_any _ _ _ q _ hQ.out (by omega)).mono ?_
  rintro e w1 ⟨ra, rn, rc, rfl, hrn, hJ, hq⟩
  have hQ := Lib.hid ((hQ.out.below hq).mono hq.size)
  have ch := Lib.hid (ch.out.trans (hq.mono ch.out.size))
  clear hq
  have hJ := Lib.hid hJ
  go_wp2_with fail
  refine (coded_b false _ (knowR q) _ hJ.out HR.out (decide_eq_false HC.out)).mono ?_
  rintro e w2 ⟨rfl, hq⟩
  have hQ := Lib.hid ((hQ.out.below hq).mono hq.size)
  have hJ := Lib.hid ((hJ.out.below hq).mono hq.size)
  have ch := Lib.hid (ch.out.trans (hq.mono ch.out.size))
  clear hq
  go_wp2
  refine bodyPost_ret (v := .tuple #[.slice none 0 0, .bool false]) (by simp [results, Try.results90, go_sem]) rfl ?_
  exact RKnowOut.bad (knowE_bad HV.out (fun h => HC.out h.2.1)) rfl ch.out

set_option maxRecDepth 20000 in
set_option maxHeartbeats 4000000 in
theorem rknow_spec (qa : Option Addr) (qn qc : Nat) (q : List Ins) (w : World) (hhQ : InsRow w w.heap.size (.slice qa qn qc) q) (HV : Hid (validB q = true)) (HR : Hid (validB (knowR q) = true)) (HC : Hid (codeN (knowR q) ≤ 2000000)) (HS : Hid (¬ validB (specL (codeOf (knowR q)) (knowR q)) = true)) :
    Calls Try.prog 90 #[.slice qa qn qc] w (RKnowOut w q) := by
  have hQ := Lib.hid hhQ
  have hq4 := validB_len HV.out
  clear hhQ
  have ch := Lib.hid (Below.refl w.heap.size w)
  go_enter Try.func90, Try.ntmps90
  go_wp2_with fail
  refine (behind_any _ _ _ q _ hQ.out (by omega)).mono ?_
  rintro e w1 ⟨ra, rn, rc, rfl, hrn, hJ, hq⟩
  have hQ := Lib.hid ((hQ.out.below hq).mono hq.size)
  have ch := Lib.hid (ch.out.trans (hq.mono ch.out.size))
  clear hq
  have hJ := Lib.hid hJ
  go_wp2_with fail
  refine (coded_b true _ (knowR q) _ hJ.out HR.out (decide_eq_true HC.out)).mono ?_
  rintro e w2 ⟨rfl, hq⟩
  have hQ := Lib.hid ((hQ.out.below hq).mono hq.size)
  have hJ := Lib.hid ((hJ.out.below hq).mono hq.size)
  have ch := Lib.hid (ch.out.trans (hq.mono ch.out.size))
  clear hq
  have htree := codeOf_tree (validB_all HR.out) HC.out
  have hds : (codeOf (knowR q)).size ≤ 140737488355328 := by rw [codeOf_size]; have h := HC.out; unfold codeN at h; omega
  go_wp2_with fail
  refine (rspec_any _ (knowR q) (validB_len HR.out) (codeOf (knowR q)) hds _ hJ.out).mono ?_
  rintro e w3 ⟨vs, rfl, hS, hq⟩
  have hQ := Lib.hid ((hQ.out.below hq).mono hq.size)
  have hJ := Lib.hid ((hJ.out.below hq).mono hq.size)
  have ch := Lib.hid (ch.out.trans (hq.mono ch.out.size))
  clear hq
  have hS := Lib.hid hS
  go_wp2_with fail
  refine (coded_no _ (knowL q) _ hS.out (by have h := HS.out; rw [specL_valid _ _ htree HR.out] at h; simpa [knowL] using h)).mono ?_
  rintro e w4 ⟨rfl, hq⟩
  have hQ := Lib.hid ((hQ.out.below hq).mono hq.size)
  have hJ := Lib.hid ((hJ.out.below hq).mono hq.size)
  have hS := Lib.hid ((hS.out.below hq).mono hq.size)
  have ch := Lib.hid (ch.out.trans (hq.mono ch.out.size))
  clear hq
  go_wp2
  refine bodyPost_ret (v := .tuple #[.slice none 0 0, .bool false]) (by simp [results, Try.results90, go_sem]) rfl ?_
  exact RKnowOut.bad (knowE_bad HV.out (fun h => HS.out h.2.2.1)) rfl ch.out

set_option maxRecDepth 20000 in
set_option maxHeartbeats 4000000 in
theorem rknow_last (qa : Option Addr) (qn qc : Nat) (q : List Ins) (w : World) (hhQ : InsRow w w.heap.size (.slice qa qn qc) q) (HV : Hid (validB q = true)) (HR : Hid (validB (knowR q) = true)) (HC : Hid (codeN (knowR q) ≤ 2000000)) (HS : Hid (validB (specL (codeOf (knowR q)) (knowR q)) = true)) (HD : Hid (¬ codeN (knowL q) ≤ 2000000)) :
    Calls Try.prog 90 #[.slice qa qn qc] w (RKnowOut w q) := by
  have hQ := Lib.hid hhQ
  have hq4 := validB_len HV.out
  clear hhQ
  have ch := Lib.hid (Below.refl w.heap.size w)
  go_enter Try.func90, Try.ntmps90
  go_wp2_with fail
  refine (behind_any _ _ _ q _ hQ.out (by omega)).mono ?_
  rintro e w1 ⟨ra, rn, rc, rfl, hrn, hJ, hq⟩
  have hQ := Lib.hid ((hQ.out.below hq).mono hq.size)
  have ch := Lib.hid (ch.out.trans (hq.mono ch.out.size))
  clear hq
  have hJ := Lib.hid hJ
  go_wp2_with fail
  refine (coded_b true _ (knowR q) _ hJ.out HR.out (decide_eq_true HC.out)).mono ?_
  rintro e w2 ⟨rfl, hq⟩
  have hQ := Lib.hid ((hQ.out.below hq).mono hq.size)
  have hJ := Lib.hid ((hJ.out.below hq).mono hq.size)
  have ch := Lib.hid (ch.out.trans (hq.mono ch.out.size))
  clear hq
  have htree := codeOf_tree (validB_all HR.out) HC.out
  have hds : (codeOf (knowR q)).size ≤ 140737488355328 := by rw [codeOf_size]; have h := HC.out; unfold codeN at h; omega
  go_wp2_with fail
  refine (rspec_any _ (knowR q) (validB_len HR.out) (codeOf (knowR q)) hds _ hJ.out).mono ?_
  rintro e w3 ⟨vs, rfl, hS, hq⟩
  have hQ := Lib.hid ((hQ.out.below hq).mono hq.size)
  have hJ := Lib.hid ((hJ.out.below hq).mono hq.size)
  have ch := Lib.hid (ch.out.trans (hq.mono ch.out.size))
  clear hq
  have hS := Lib.hid hS
  go_wp2_with fail
  refine (coded_b false _ (knowL q) _ hS.out HS.out (decide_eq_false HD.out)).mono ?_
  rintro e w4 ⟨rfl, hq⟩
  have hQ := Lib.hid ((hQ.out.below hq).mono hq.size)
  have hJ := Lib.hid ((hJ.out.below hq).mono hq.size)
  have hS := Lib.hid ((hS.out.below hq).mono hq.size)
  have ch := Lib.hid (ch.out.trans (hq.mono ch.out.size))
  clear hq
  go_wp2
  refine bodyPost_ret (v := .tuple #[.slice none 0 0, .bool false]) (by simp [results, Try.results90, go_sem]) rfl ?_
  exact RKnowOut.bad (knowE_bad HV.out (fun h => HD.out h.2.2.2)) rfl ch.out

set_option maxRecDepth 20000 in
set_option maxHeartbeats 4000000 in
theorem rknow_ok (qa : Option Addr) (qn qc : Nat) (q : List Ins) (w : World) (hhQ : InsRow w w.heap.size (.slice qa qn qc) q) (HV : Hid (validB q = true)) (HR : Hid (validB (knowR q) = true)) (HC : Hid (codeN (knowR q) ≤ 2000000)) (HS : Hid (validB (specL (codeOf (knowR q)) (knowR q)) = true)) (HD : Hid (codeN (knowL q) ≤ 2000000)) :
    Calls Try.prog 90 #[.slice qa qn qc] w (RKnowOut w q) := by
  have hQ := Lib.hid hhQ
  have hq4 := validB_len HV.out
  clear hhQ
  have ch := Lib.hid (Below.refl w.heap.size w)
  go_enter Try.func90, Try.ntmps90
  go_wp2_with fail
  refine (behind_any _ _ _ q _ hQ.out (by omega)).mono ?_
  rintro e w1 ⟨ra, rn, rc, rfl, hrn, hJ, hq⟩
  have hQ := Lib.hid ((hQ.out.below hq).mono hq.size)
  have ch := Lib.hid (ch.out.trans (hq.mono ch.out.size))
  clear hq
  have hJ := Lib.hid hJ
  go_wp2_with fail
  refine (coded_b true _ (knowR q) _ hJ.out HR.out (decide_eq_true HC.out)).mono ?_
  rintro e w2 ⟨rfl, hq⟩
  have hQ := Lib.hid ((hQ.out.below hq).mono hq.size)
  have hJ := Lib.hid ((hJ.out.below hq).mono hq.size)
  have ch := Lib.hid (ch.out.trans (hq.mono ch.out.size))
  clear hq
  have htree := codeOf_tree (validB_all HR.out) HC.out
  have hds : (codeOf (knowR q)).size ≤ 140737488355328 := by rw [codeOf_size]; have h := HC.out; unfold codeN at h; omega
  go_wp2_with fail
  refine (rspec_any _ (knowR q) (validB_len HR.out) (codeOf (knowR q)) hds _ hJ.out).mono ?_
  rintro e w3 ⟨vs, rfl, hS, hq⟩
  have hQ := Lib.hid ((hQ.out.below hq).mono hq.size)
  have hJ := Lib.hid ((hJ.out.below hq).mono hq.size)
  have ch := Lib.hid (ch.out.trans (hq.mono ch.out.size))
  clear hq
  have hS := Lib.hid hS
  go_wp2_with fail
  refine (coded_b true _ (knowL q) _ hS.out HS.out (decide_eq_true HD.out)).mono ?_
  rintro e w4 ⟨rfl, hq⟩
  have hQ := Lib.hid ((hQ.out.below hq).mono hq.size)
  have hJ := Lib.hid ((hJ.out.below hq).mono hq.size)
  have hS := Lib.hid ((hS.out.below hq).mono hq.size)
  have ch := Lib.hid (ch.out.trans (hq.mono ch.out.size))
  clear hq
  go_wp2
  refine bodyPost_ret (v := .tuple #[vs, .bool true]) (by simp [results, Try.results90, go_sem]) rfl ?_
  exact RKnowOut.ok (by unfold knowE; rw [if_neg (by rw [HV.out]; simp), if_pos ⟨HR.out, HC.out, HS.out, HD.out⟩]) rfl hS.out ch.out

theorem rknow_any (v : Value) (q : List Ins) (w : World) (hq : InsRow w w.heap.size v q) (h1 : validB q = true) : Calls Try.prog 90 #[v] w (RKnowOut w q) := by
  obtain ⟨qa, qc, rfl⟩ := hq.len
  cases h2 : validB (knowR q) with
  | false => exact rknow_join _ _ _ q w hq (Lib.hid h1) (Lib.hid h2)
  | true =>
    by_cases h3 : codeN (knowR q) ≤ 2000000
    · by_cases h4 : validB (specL (codeOf (knowR q)) (knowR q)) = true
      · by_cases h5 : codeN (knowL q) ≤ 2000000
        · exact rknow_ok _ _ _ q w hq (Lib.hid h1) (Lib.hid h2) (Lib.hid h3) (Lib.hid h4) (Lib.hid h5)
        · exact rknow_last _ _ _ q w hq (Lib.hid h1) (Lib.hid h2) (Lib.hid h3) (Lib.hid h4) (Lib.hid h5)
      · exact rknow_spec _ _ _ q w hq (Lib.hid h1) (Lib.hid h2) (Lib.hid h3) (Lib.hid h4)
    · exact rknow_code _ _ _ q w hq (Lib.hid h1) (Lib.hid h2) (Lib.hid h3)

end Go.Proofs.Ytaiomcjopgnfpaa

namespace Go.Proofs.Ytaiomcjopgnfpaa
open Go.RowKit

/-- However large: a number. -/
theorem trees_some (v : Value) (l : List Ins) (w : World) (B : Nat) (hl : InsRow w B v l) :
    Calls Try.prog 71 #[v] w fun e w' => ∃ z : Int, e = .returned (.int .i64 z) ∧ w = w' := by
  obtain ⟨ao, cap, rfl⟩ := hl.len
  have hn := hl.2.1
  obtain ⟨n, hn'⟩ : ∃ n, l.length = n := ⟨_, rfl⟩
  rw [hn'] at hl hn ⊢
  have HN := Lib.hid hn'; clear hn'
  go_enter Try.func71, Try.ntmps71
  go_wp2
  go_loopg [3, 4] n (fun g s i wr => ∃ (k : Nat) (m : Int), k ≤ n ∧ g = n - k ∧ i = .int .i64 k ∧ s = .int .i64 m ∧ w = wr)
  case atStart => exact ⟨0, 0, Nat.zero_le _, rfl, rfl, rfl, rfl⟩
  case round =>
    obtain ⟨k, m, hk, hg, rfl, rfl, rfl⟩ := hrel
    have HG := Lib.hid hg; clear hg
    by_cases hlt : k < n
    · obtain ⟨x, hx⟩ : ∃ s, l[k]? = some s := ⟨_, List.getElem?_eq_getElem (by rw [HN.out]; exact hlt)⟩
      obtain ⟨g, off, rfl, hg, c0, c1, c2, c3, c4⟩ := hl.get hx
      clear hx c0 c1 c2 c3
      go_wp2
      go_roundg (n - (k + 1))
      case measure => rw [HG.out]; omega
      case rel => exact ⟨k + 1, _, by omega, rfl, by go_num, rfl, rfl⟩
    · go_wp2
      go_ret
      exact ⟨_, rfl, rfl⟩
set_option maxHeartbeats 4000000 in
theorem small_one (most : Int) (v : Value) (l : List Ins) (w : World) (hl : ProgsRow w w.heap.size v [l]) :
    Calls Try.prog 44 #[.int .i64 most, v] w fun e w' => ∃ b, e = .returned (.bool b) ∧ Below w.heap.size w w' := by
  obtain ⟨ao, cap, rfl⟩ := hl.len
  have hn : ([l] : List (List Ins)).length = 1 := rfl
  rw [hn] at hl ⊢
  have HL := Lib.hid hl; clear hl hn
  go_enter Try.func44, Try.ntmps44
  go_wp2
  go_loopg [5, 6] 1 (fun g s i wr => ∃ (k : Nat) (m : Int), k ≤ 1 ∧ g = 1 - k ∧ i = .int .i64 k ∧ s = .int .i64 m ∧ Below w.heap.size w wr)
  case atStart => exact ⟨0, 0, by omega, rfl, rfl, rfl, Below.refl _ _⟩
  case round =>
    obtain ⟨k, m, hk, hg, rfl, rfl, hb⟩ := hrel
    have HG := Lib.hid hg; clear hg
    by_cases hlt : k < 1
    · obtain rfl : k = 0 := by omega
      have hl2 := HL.out.step hb
      obtain ⟨g, off, u, rfl, hg, c0, hu⟩ := hl2.get (k := 0) (l := l) rfl
      obtain ⟨ua, uc, rfl⟩ := hu.len
      have kt := Lib.hid (trees_some _ l _ _ hu)
      have c0 : wr.cell? ⟨g, off, none⟩ = some (.slice ua l.length uc) := by simpa using c0
      clear hl2 hu
      by_cases hbig : most < wrap64 (wrap64 (m + 1) + (l.length : Int))
      · go_wp2
        go_ret
        exact ⟨false, rfl, hb⟩
      · go_wp2_with fail
        refine kt.out.mono ?_
        rintro e w1 ⟨z, rfl, rfl⟩
        go_wp2
        go_roundg (1 - 1)
        case measure => rw [HG.out]; omega
        case rel => exact ⟨1, _, by omega, rfl, by first | rfl | simp, rfl, hb⟩
    · obtain rfl : k = 1 := by omega
      go_wp2
      go_ret
      exact ⟨_, rfl, hb⟩
theorem know0_at (v : Value) (q : List Ins) (w : World) (hq : InsRow w w.heap.size v q) (hk : knowE q = 0) : Calls Try.prog 47 #[v] w fun e w' => ∃ v', e = .returned (.tuple #[v', .int .i64 0]) ∧ InsRow w' w'.heap.size v' (knowL q) ∧ Below w.heap.size w w' := by
  refine (know_any v q w hq).mono ?_
  rintro e w' ⟨v', h1, h2, h3⟩
  rw [hk] at h1 h2
  exact ⟨v', h1, h2.1 rfl, h3⟩
theorem rknow0_at (v : Value) (q : List Ins) (w : World) (hq : InsRow w w.heap.size v q) (hv : validB q = true) (hk : knowE q = 0) : Calls Try.prog 90 #[v] w fun e w' => ∃ v', e = .returned (.tuple #[v', .bool true]) ∧ InsRow w' w'.heap.size v' (knowL q) ∧ Below w.heap.size w w' := by
  refine (rknow_any v q w hq hv).mono ?_
  rintro e w' ⟨v', b, h1, hb, h2, h3⟩
  rw [hk] at h2
  have : b = true := hb.2 hk
  subst this
  exact ⟨v', h1, h2.1 rfl, h3⟩
theorem knowE_nil : knowE [] = 0 := by decide +kernel
theorem knowE_tail : knowE [tailI] = 0 := by decide +kernel
set_option maxRecDepth 20000 in
set_option maxHeartbeats 4000000 in
theorem awake7_any (w : World) : Calls Try.prog 45 #[] w fun e w' => e = .returned (.bool true) ∧ Below w.heap.size w w' := by
  have ch := Lib.hid (Below.refl w.heap.size w)
  go_enter Try.func45, Try.ntmps45
  go_wp2_with fail
  refine (know0_at _ [] _ (row_nil _ _) knowE_nil).mono ?_
  rintro e w1 ⟨v1, rfl, h1, hq⟩
  have ch := Lib.hid (ch.out.trans (hq.mono ch.out.size))
  clear hq
  have h1 := Lib.hid h1
  go_wp2_with fail
  obtain ⟨w2, hW⟩ : ∃ B, w1.alloc (.cells #[.int .i64 4, .int .i64 0, .int .i64 0, .int .i64 0, .string ⟨#[]⟩] 52) = B := ⟨_, rfl⟩
  rw [hW]
  have hq : Below w1.heap.size w1 w2 := by rw [← hW]; exact (Below.refl _ _).alloc (Nat.le_refl _) _
  have ht := Lib.hid (show InsRow w2 w2.heap.size (.slice (some ⟨w1.heap.size, 0, none⟩) 1 1) [tailI] by rw [← hW]; exact (OwnI.lit w1 [tailI] (by simp; exact tailI_wf) (by simp)).row (by simp))
  clear hW
  have h1 := Lib.hid ((h1.out.below hq).mono hq.size)
  have ch := Lib.hid (ch.out.trans (hq.mono ch.out.size))
  clear hq
  refine (know0_at _ [tailI] _ ht.out knowE_tail).mono ?_
  rintro e w3 ⟨v2, rfl, h2, hq⟩
  have h1 := Lib.hid ((h1.out.below hq).mono hq.size)
  have ht := Lib.hid ((ht.out.below hq).mono hq.size)
  have ch := Lib.hid (ch.out.trans (hq.mono ch.out.size))
  clear hq
  have h2 := Lib.hid h2
  clear ht
  go_wp2_with fail
  refine (rknow0_at _ [] _ (row_nil _ _) (by decide) knowE_nil).mono ?_
  rintro e w4 ⟨v3, rfl, h3, hq⟩
  have h1 := Lib.hid ((h1.out.below hq).mono hq.size)
  have h2 := Lib.hid ((h2.out.below hq).mono hq.size)
  have ch := Lib.hid (ch.out.trans (hq.mono ch.out.size))
  clear hq
  have h3 := Lib.hid h3
  go_wp2_with fail
  obtain ⟨w5, hW⟩ : ∃ B, w4.alloc (.cells #[.int .i64 4, .int .i64 0, .int .i64 0, .int .i64 0, .string ⟨#[]⟩] 52) = B := ⟨_, rfl⟩
  rw [hW]
  have hq : Below w4.heap.size w4 w5 := by rw [← hW]; exact (Below.refl _ _).alloc (Nat.le_refl _) _
  have ht := Lib.hid (show InsRow w5 w5.heap.size (.slice (some ⟨w4.heap.size, 0, none⟩) 1 1) [tailI] by rw [← hW]; exact (OwnI.lit w4 [tailI] (by simp; exact tailI_wf) (by simp)).row (by simp))
  clear hW
  have h1 := Lib.hid ((h1.out.below hq).mono hq.size)
  have h2 := Lib.hid ((h2.out.below hq).mono hq.size)
  have h3 := Lib.hid ((h3.out.below hq).mono hq.size)
  have ch := Lib.hid (ch.out.trans (hq.mono ch.out.size))
  clear hq
  refine (rknow0_at _ [tailI] _ ht.out (by decide +kernel) knowE_tail).mono ?_
  rintro e w6 ⟨v4, rfl, h4, hq⟩
  have h1 := Lib.hid ((h1.out.below hq).mono hq.size)
  have h2 := Lib.hid ((h2.out.below hq).mono hq.size)
  have h3 := Lib.hid ((h3.out.below hq).mono hq.size)
  have ht := Lib.hid ((ht.out.below hq).mono hq.size)
  have ch := Lib.hid (ch.out.trans (hq.mono ch.out.size))
  clear hq
  have h4 := Lib.hid h4
  clear ht
  go_wp2_with fail
  refine (same_self h1.out h3.out).mono ?_
  rintro e w7 ⟨rfl, hq⟩
  have h1 := Lib.hid ((h1.out.below hq).mono hq.size)
  have h2 := Lib.hid ((h2.out.below hq).mono hq.size)
  have h3 := Lib.hid ((h3.out.below hq).mono hq.size)
  have h4 := Lib.hid ((h4.out.below hq).mono hq.size)
  have ch := Lib.hid (ch.out.trans (hq.mono ch.out.size))
  clear hq
  go_wp2_with fail
  refine (same_self h2.out h4.out).mono ?_
  rintro e w8 ⟨rfl, hq⟩
  have h1 := Lib.hid ((h1.out.below hq).mono hq.size)
  have h2 := Lib.hid ((h2.out.below hq).mono hq.size)
  have h3 := Lib.hid ((h3.out.below hq).mono hq.size)
  have h4 := Lib.hid ((h4.out.below hq).mono hq.size)
  have ch := Lib.hid (ch.out.trans (hq.mono ch.out.size))
  clear hq
  go_wp2
  go_ret
  exact ⟨rfl, ch.out⟩
end Go.Proofs.Ytaiomcjopgnfpaa

namespace Go.Proofs.Ytaiomcjopgnfpaa
open Go.RowKit

set_option maxHeartbeats 2000000 in
theorem spec_own (v : Value) (l : List Ins) (d : ByteArray) (hds : d.size ≤ 140737488355328) (w : World) (hl : InsRow w w.heap.size v l) (hv : validB l = true) (hd : isTree d = true) (hbb : validB (specL d l) = true) :
    Calls Try.prog 96 #[v, .string d] w fun e w' => ∃ v', e = .returned (.tuple #[v', .int .i64 0]) ∧ OwnI w' w.heap.size v' (specL d l) ∧ Below w.heap.size w w' := by
  have kv := codeValidP_at v l w hl _ hv
  have kt := treeValid_at d hds _ hd
  have hwf : ∀ x ∈ specL d l, x.wf := fun x hx => by rcases List.mem_append.1 hx with h | h; exact specH_wf d hds x h; exact hl.1 x h
  have hn4 := validB_len hv
  have hcells : inscells (specL d l) = inscells (specH d) ++ inscells l := by simp [specL, inscells]
  have hlen := specL_length d l
  have HC := Lib.hid hcells
  have HWF := Lib.hid hwf
  have HLEN := Lib.hid hlen
  have hl0 := hl
  obtain ⟨n, hn'⟩ : ∃ n, l.length = n := ⟨_, rfl⟩
  obtain ⟨ao, cap, rfl⟩ := hl.len
  rw [hn'] at hl0 kv hn4 ⊢
  have HN := Lib.hid hn'
  have hone := inscells_one l
  have HONE := Lib.hid hone
  clear hv hd hwf hcells hlen hl hn' hone
  have HBB := Lib.hid hbb
  clear hbb
  go_enter Try.func96, Try.ntmps96
  go_wp2_with fail
  refine kv.mono ?_
  rintro e w1 ⟨rfl, k1⟩
  go_wp2_with fail
  refine (kt _).mono ?_
  rintro e w2 ⟨rfl, k2⟩
  have hb2 := k1.trans (k2.mono k1.size)
  have hl2 := (hl0.below hb2).mono hb2.size
  have hown := specH_own w2 d
  have hb3 := hb2.alloc hb2.size (.cells #[.int .i64 0, .int .i64 1, .int .i64 0, .int .i64 0, .string d, .int .i64 2, .int .i64 0, .int .i64 1, .int .i64 0, .string ⟨#[]⟩, .int .i64 0, .int .i64 1, .int .i64 0, .int .i64 0, .string ⟨#[48]⟩] 52)
  have hs2 : Src (w2.alloc (.cells #[.int .i64 0, .int .i64 1, .int .i64 0, .int .i64 0, .string d, .int .i64 2, .int .i64 0, .int .i64 1, .int .i64 0, .string ⟨#[]⟩, .int .i64 0, .int .i64 1, .int .i64 0, .int .i64 0, .string ⟨#[48]⟩] 52)) (.slice ao n cap) n 5 (inscells l) := by
    have := (hl0.below hb3).src
    rwa [HN.out] at this
  have hsz := hb2.size
  clear kv kt k1 k2 hb2 hl2 hl0
  go_wp2_with (at_builtin; refine app_src el_ins (vx := .slice ao n cap) rfl _ _ rfl rfl hown rfl hs2 HONE.out ?c2 ?c3 (by simp) hb3 hsz ?_)
  case c2 => omega
  case c3 => unfold maxLen; omega
  intro v' w3 hown3 hb4 hg
  have hrow : InsRow w3 w3.heap.size v' (specL d l) := InsRow.of_own (n := 3 + n) (by rw [HC.out]; exact hown3) HWF.out (by rw [HLEN.out, HN.out]; omega)
  have kv2 := codeValidP_at v' _ w3 hrow _ HBB.out
  have hO := Lib.hid (OwnI.lower (B := w2.heap.size) (B' := w.heap.size) ⟨by rw [HC.out, HLEN.out, HN.out, Nat.add_comm n 3]; exact hown3, HWF.out⟩ hsz)
  obtain ⟨a2, c2, rfl⟩ := own_len hown3
  clear hown hs2 hb3 hown3 hg hrow
  go_wp2_with fail
  refine kv2.mono ?_
  rintro e w4 ⟨rfl, k4⟩
  clear kv2
  go_wp2
  go_ret2
  exact ⟨_, rfl, hO.out.below k4, hb4.trans (k4.mono hb4.size)⟩

set_option maxRecDepth 20000 in
set_option maxHeartbeats 4000000 in
theorem know_own1 (qa : Option Addr) (qn qc : Nat) (q : List Ins) (w : World) (hhQ : InsRow w w.heap.size (.slice qa qn qc) q) (HV : Hid (validB q = true)) (HR : Hid (validB (knowR q) = true)) (HC : Hid (codeN (knowR q) ≤ 2000000)) (HS : Hid (validB (specL (codeOf (knowR q)) (knowR q)) = true)) (HD : Hid (codeN (knowL q) ≤ 2000000)) :
    Calls Try.prog 47 #[.slice qa qn qc] w fun e w' => ∃ v, e = .returned (.tuple #[v, .int .i64 0]) ∧ OwnI w' w.heap.size v (knowL q) ∧ Below w.heap.size w w' := by
  have hQ := Lib.hid hhQ
  clear hhQ
  have kv := codeValidP_at _ q w hQ.out _ HV.out
  have ch := Lib.hid (Below.refl w.heap.size w)
  go_enter Try.func47, Try.ntmps47
  go_wp2_with fail
  refine (kv).mono ?_
  rintro e w1 ⟨rfl, hq⟩
  have hQ := Lib.hid ((hQ.out.below hq).mono hq.size)
  have ch := Lib.hid (ch.out.trans (hq.mono ch.out.size))
  clear hq
  clear kv
  go_wp2_with fail
  refine (before_any _).mono ?_
  rintro e w2 ⟨ba, bc, rfl, hB, hq⟩
  have hQ := Lib.hid ((hQ.out.below hq).mono hq.size)
  have ch := Lib.hid (ch.out.trans (hq.mono ch.out.size))
  clear hq
  have hB := Lib.hid hB
  go_wp2_with fail
  have hL0 := ProgsRow.lit (w := w2) [.slice ba 16 bc, .slice qa qn qc] [behindL, q] rfl (by simp) (fun j u l hu hl => match j, u, l, hu, hl with | 0, _, _, hu, hl => by cases hu; cases hl; exact hB.out | 1, _, _, hu, hl => by cases hu; cases hl; exact hQ.out)
  obtain ⟨w3, hW⟩ : ∃ B, w2.alloc (.cells #[.slice ba 16 bc, .slice qa qn qc] 25) = B := ⟨_, rfl⟩
  rw [hW]
  have hq : Below w2.heap.size w2 w3 := by rw [← hW]; exact (Below.refl _ _).alloc (Nat.le_refl _) _
  have hL := Lib.hid (show ProgsRow w3 w3.heap.size (.slice (some ⟨w2.heap.size, 0, none⟩) 2 2) [behindL, q] by rw [← hW]; exact hL0)
  clear hW hL0
  have hQ := Lib.hid ((hQ.out.below hq).mono hq.size)
  have hB := Lib.hid ((hB.out.below hq).mono hq.size)
  have ch := Lib.hid (ch.out.trans (hq.mono ch.out.size))
  clear hq
  have hq4 := validB_len HV.out
  have kj := join_any _ [behindL, q] _ hL.out (by simp [lenS, behindL, beforeL, clearL_length]; omega)
  rw [show ([behindL, q] : List (List Ins)).flatten = knowR q by simp [knowR], HR.out] at kj
  obtain ⟨N, hN⟩ : ∃ N, lenS [behindL, q] = N := ⟨_, rfl⟩
  rw [hN] at kj
  clear hN hq4
  refine (kj).mono ?_
  rintro e w4 ⟨ja, jc, rfl, hJ, hq⟩
  have hQ := Lib.hid ((hQ.out.below hq).mono hq.size)
  have hB := Lib.hid ((hB.out.below hq).mono hq.size)
  have hL := Lib.hid ((hL.out.below hq).mono hq.size)
  have ch := Lib.hid (ch.out.trans (hq.mono ch.out.size))
  clear hq
  have hJ := Lib.hid hJ
  clear kj hL hB
  go_wp2_with fail
  refine (code_fine _ (knowR q) _ hJ.out HR.out HC.out).mono ?_
  rintro e w5 ⟨rfl, hq⟩
  have hQ := Lib.hid ((hQ.out.below hq).mono hq.size)
  have hJ := Lib.hid ((hJ.out.below hq).mono hq.size)
  have ch := Lib.hid (ch.out.trans (hq.mono ch.out.size))
  clear hq
  have htree := codeOf_tree (validB_all HR.out) HC.out
  have hds : (codeOf (knowR q)).size ≤ 140737488355328 := by rw [codeOf_size]; have h := HC.out; unfold codeN at h; omega
  have hch0 := Lib.hid ch.out.size
  go_wp2_with fail
  refine (spec_own _ (knowR q) (codeOf (knowR q)) hds _ hJ.out HR.out htree HS.out).mono ?_
  rintro e w6 ⟨vs, rfl, hS, hq⟩
  have hQ := Lib.hid ((hQ.out.below hq).mono hq.size)
  have hJ := Lib.hid ((hJ.out.below hq).mono hq.size)
  have ch := Lib.hid (ch.out.trans (hq.mono ch.out.size))
  clear hq
  have hS := Lib.hid (OwnI.lower (B' := w.heap.size) hS hch0.out)
  go_wp2_with fail
  refine (code_fine _ (knowL q) _ (hS.out.row (by have := validB_len HS.out; show (specL (codeOf (knowR q)) (knowR q)).length ≤ _; omega)) HS.out HD.out).mono ?_
  rintro e w7 ⟨rfl, hq⟩
  have hQ := Lib.hid ((hQ.out.below hq).mono hq.size)
  have hJ := Lib.hid ((hJ.out.below hq).mono hq.size)
  have hS := Lib.hid (hS.out.below hq)
  have ch := Lib.hid (ch.out.trans (hq.mono ch.out.size))
  clear hq
  go_wp2
  refine bodyPost_ret (v := .tuple #[vs, .int .i64 0]) (by simp [results, Try.results47, go_sem]) rfl ?_
  exact ⟨_, rfl, hS.out, ch.out⟩

theorem knowE_zero {q : List Ins} (h : knowE q = 0) : validB q = true ∧ validB (knowR q) = true ∧ codeN (knowR q) ≤ 2000000 ∧ validB (knowL q) = true ∧ codeN (knowL q) ≤ 2000000 := by
  unfold knowE at h
  cases hv : validB q with
  | false => rw [if_pos hv] at h; cases h
  | true =>
    rw [if_neg (by rw [hv]; simp)] at h
    by_cases hc : validB (knowR q) = true ∧ codeN (knowR q) ≤ 2000000 ∧ validB (knowL q) = true ∧ codeN (knowL q) ≤ 2000000
    · exact ⟨rfl, hc⟩
    · rw [if_neg hc] at h; cases h
theorem know_own (v : Value) (q : List Ins) (w : World) (hq : InsRow w w.heap.size v q) (hk : knowE q = 0) :
    Calls Try.prog 47 #[v] w fun e w' => ∃ v, e = .returned (.tuple #[v, .int .i64 0]) ∧ OwnI w' w.heap.size v (knowL q) ∧ Below w.heap.size w w' := by
  obtain ⟨qa, qc, rfl⟩ := hq.len
  obtain ⟨h1, h2, h3, h4, h5⟩ := knowE_zero hk
  exact know_own1 _ _ _ q w hq (Lib.hid h1) (Lib.hid h2) (Lib.hid h3) (Lib.hid h4) (Lib.hid h5)

end Go.Proofs.Ytaiomcjopgnfpaa

namespace Go.Proofs.Ytaiomcjopgnfpaa
open Go.RowKit

set_option maxRecDepth 20000 in
set_option maxHeartbeats 4000000 in
theorem spoil_any (v : Value) (l : List Ins) (w : World) (B : Nat) (hl : OwnI w B v l) (hn9 : l.length ≤ 1000000) :
    Calls Try.prog 48 #[v] w fun e w' => e = .returned (.tuple #[]) ∧ Below B w w' := by
  obtain ⟨ao, cap, rfl⟩ := hl.slice
  have hcells := hl.own.1
  have hown := hl.own.2
  obtain ⟨n, hn'⟩ : ∃ n, l.length = n := ⟨_, rfl⟩
  rw [hn'] at hl hown hcells hn9 ⊢
  clear hn'
  rcases hown with ⟨h0, h1⟩ | ⟨g, cap', cur, hv, hBg, hg, hnc, hcm, hcs, htake⟩
  · subst h1
    clear hl hcells h0
    go_enter Try.func48, Try.ntmps48
    go_wp2
    go_loopg [2] 0 (fun gg i wr => i = .int .i64 0 ∧ w = wr)
    case atStart => exact ⟨rfl, rfl⟩
    case round =>
      obtain ⟨rfl, rfl⟩ := hrel
      go_wp2
      refine bodyPost_end (v := .tuple #[]) (by simp [results, Try.results48, go_sem]) rfl ?_
      exact ⟨rfl, Below.refl _ _⟩
  · simp only [Value.slice.injEq] at hv
    obtain ⟨rfl, -, rfl⟩ := hv
    have HG0 := Lib.hid hg
    have HBG := Lib.hid hBg
    have HCS := Lib.hid (show n * 5 ≤ cur.size by rw [hcs]; exact Nat.mul_le_mul_right _ hnc)
    clear hl hcells hg hBg hnc hcm hcs htake
    go_enter Try.func48, Try.ntmps48
    go_wp2
    go_loopg [2] n (fun gg i wr => ∃ (k : Nat) (cs : Array Value), k ≤ n ∧ gg = n - k ∧ i = .int .i64 k ∧ Hid (wr.heap[g]? = some (.cells cs 52 (0, 0)) ∧ n * 5 ≤ cs.size) ∧ Below B w wr)
    case atStart => exact ⟨0, cur, by omega, rfl, rfl, Lib.hid ⟨HG0.out, HCS.out⟩, Below.refl _ _⟩
    case round =>
      obtain ⟨k, cs, hk, hgg, rfl, hP, hb⟩ := hrel
      have HG := Lib.hid hgg
      clear hgg
      by_cases hlt : k < n
      · have hi0 : (0 : Int) ≤ (k : Int) := Int.natCast_nonneg _
        have hi1 : (k : Int) < (n : Int) := by omega
        have hsz := hP.out.2
        have cc := fun j => (block_cells hP.out.1).1 j
        have ff := fun j => (block_cells hP.out.1).2 j
        obtain ⟨x0, hx0⟩ : ∃ x, cs[k * 5]? = some x := ⟨_, Array.getElem?_eq_getElem (by omega)⟩
        obtain ⟨x1, hx1⟩ : ∃ x, cs[k * 5 + 1]? = some x := ⟨_, Array.getElem?_eq_getElem (by omega)⟩
        obtain ⟨x2, hx2⟩ : ∃ x, cs[k * 5 + 2]? = some x := ⟨_, Array.getElem?_eq_getElem (by omega)⟩
        obtain ⟨x3, hx3⟩ : ∃ x, cs[k * 5 + 3]? = some x := ⟨_, Array.getElem?_eq_getElem (by omega)⟩
        obtain ⟨x4, hx4⟩ : ∃ x, cs[k * 5 + 4]? = some x := ⟨_, Array.getElem?_eq_getElem (by omega)⟩
        have c0 := (cc (k * 5)).trans hx0
        have c1 := (cc (k * 5 + 1)).trans hx1
        have c2 := (cc (k * 5 + 2)).trans hx2
        have c3 := (cc (k * 5 + 3)).trans hx3
        have c4 := (cc (k * 5 + 4)).trans hx4
        have f0 := ff (k * 5)
        have f1 := ff (k * 5 + 1)
        have f2 := ff (k * 5 + 2)
        have f3 := ff (k * 5 + 3)
        have f4 := ff (k * 5 + 4)
        clear cc ff hx0 hx1 hx2 hx3 hx4 hsz
        go_wp2
        go_roundg (n - (k + 1))
        case measure => have := HG.out; omega
        case rel =>
         have hs := set_blk (set_blk (set_blk (set_blk (set_blk hP.out.1 (k * 5) (.int .i64 (-1))) (k * 5 + 1) (.int .i64 (-1))) (k * 5 + 2) (.int .i64 0)) (k * 5 + 3) (.int .i64 0)) (k * 5 + 4) (.string ⟨#[]⟩)
         refine ⟨k + 1, _, by omega, rfl, by go_num, Lib.hid ⟨hs, by simp only [Array.size_setIfInBounds]; exact hP.out.2⟩, ?_⟩
         exact ((((hb.setCell HBG.out _).setCell HBG.out _).setCell HBG.out _).setCell HBG.out _).setCell HBG.out _
      · have hkn : k = n := by omega
        subst hkn
        go_wp2
        refine bodyPost_end (v := .tuple #[]) (by simp [results, Try.results48, go_sem]) rfl ?_
        exact ⟨rfl, hb⟩

end Go.Proofs.Ytaiomcjopgnfpaa

namespace Go.Proofs.Ytaiomcjopgnfpaa
open Go.RowKit

/-- What Know hands back: the program, or nothing. -/
def knowD (q : List Ins) : List Ins := if knowE q = 0 then knowL q else []
theorem knowD_len (q : List Ins) : (knowD q).length ≤ 4000 := by
  unfold knowD
  split
  · rename_i h
    exact validB_len (knowE_zero h).2.2.2.1
  · simp
theorem know_due (en : Int) (v : Value) (q : List Ins) (w : World) (hq : InsRow w w.heap.size v q) (he : knowE q = en) :
    Calls Try.prog 47 #[v] w fun e w' => ∃ v', e = .returned (.tuple #[v', .int .i64 en]) ∧ OwnI w' w.heap.size v' (knowD q) ∧ Below w.heap.size w w' := by
  unfold knowD
  by_cases h : knowE q = 0
  · refine (know_own v q w hq h).mono ?_
    rintro e w' ⟨v', h1, h2, h3⟩
    rw [if_pos h]
    exact ⟨v', by rw [h1, ← he, h], h2, h3⟩
  · refine (know_any v q w hq).mono ?_
    rintro e w' ⟨v', h1, h2, h3⟩
    rw [if_neg h]
    obtain rfl := h2.2 h
    exact ⟨_, by rw [h1, he], OwnI.nil _ _, h3⟩
theorem told7_any (v : Value) (b : Bool) (w : World) :
    Calls Try.prog 91 #[v, .bool b] w fun e w' => e = .returned (.tuple #[if b then v else .slice none 0 0, .int .i64 (if b then 0 else 3)]) ∧ w' = w := by
  cases b with
  | true =>
    go_enter Try.func91, Try.ntmps91
    go_wp2
    refine bodyPost_ret (v := .tuple #[v, .int .i64 0]) (by simp [results, Try.results91, go_sem]) rfl ?_
    exact ⟨rfl, rfl⟩
  | false =>
    go_enter Try.func91, Try.ntmps91
    go_wp2
    refine bodyPost_ret (v := .tuple #[.slice none 0 0, .int .i64 3]) (by simp [results, Try.results91, go_sem]) rfl ?_
    exact ⟨rfl, rfl⟩
theorem knowE_ne {q : List Ins} (hv : validB q = true) (h : ¬ knowE q = 0) : knowE q = 3 := by
  unfold knowE at h ⊢
  rw [if_neg (by rw [hv]; simp)] at h ⊢
  split at h
  · exact absurd rfl h
  · rename_i hc
    rw [if_neg hc]
/-- The reference's Know: the list is knowD. -/
theorem rknow_due (v : Value) (q : List Ins) (w : World) (hq : InsRow w w.heap.size v q) (hv : validB q = true) (b : Bool) (hb : b = decide (knowE q = 0)) :
    Calls Try.prog 90 #[v] w fun e w' => ∃ v', e = .returned (.tuple #[v', .bool b]) ∧ InsRow w' w'.heap.size v' (knowD q) ∧ Below w.heap.size w w' := by
  refine (rknow_any v q w hq hv).mono ?_
  rintro e w' ⟨v', b', h1, hb', h2, h3⟩
  have hbb : b = b' := by
    cases b' with
    | true => rw [hb, decide_eq_true (hb'.1 rfl)]
    | false => rw [hb]; exact decide_eq_false fun h => by have := hb'.2 h; cases this
  subst hbb
  refine ⟨v', h1, ?_, h3⟩
  unfold knowD
  by_cases h : knowE q = 0
  · rw [if_pos h]; exact h2.1 h
  · rw [if_neg h, h2.2 h]; exact row_nil _ _
theorem made7_any (v : Value) (q : List Ins) (w : World) (hq : InsRow w w.heap.size v q) (hv : validB q = true) (en : Int) (he : knowE q = en) :
    Calls Try.prog 46 #[v] w fun e w' => ∃ v', e = .returned (.tuple #[v', .int .i64 en]) ∧ InsRow w' w'.heap.size v' (knowD q) ∧ Below w.heap.size w w' := by
  obtain ⟨qa, qc, rfl⟩ := hq.len
  obtain ⟨qn, hqn⟩ : ∃ n, q.length = n := ⟨_, rfl⟩
  rw [hqn] at hq ⊢
  have hQ := Lib.hid hq
  have hf := Lib.hid (show fitsP q = true by rw [← validB_fits (validB_all hv)]; exact hv)
  have HV := Lib.hid hv
  have HE := Lib.hid he
  clear hq hqn hv he
  have ch := Lib.hid (Below.refl w.heap.size w)
  go_enter Try.func46, Try.ntmps46
  go_wp2_with fail
  refine (fits4_at true hf.out hQ.out).mono ?_
  rintro e w1 ⟨rfl, hq⟩
  have hQ := Lib.hid ((hQ.out.below hq).mono hq.size)
  have ch := Lib.hid (ch.out.trans (hq.mono ch.out.size))
  clear hq
  obtain ⟨b, hb⟩ : ∃ b, b = decide (knowE q = 0) := ⟨_, rfl⟩
  have HB := Lib.hid hb
  clear hb
  go_wp2_with fail
  refine (rknow_due _ q _ hQ.out HV.out b HB.out).mono ?_
  rintro e w2 ⟨v, rfl, hM, hq⟩
  have hQ := Lib.hid ((hQ.out.below hq).mono hq.size)
  have ch := Lib.hid (ch.out.trans (hq.mono ch.out.size))
  clear hq
  have hM := Lib.hid hM
  go_wp2_with fail
  refine (told7_any _ _ _).mono ?_
  rintro e w3 ⟨rfl, rfl⟩
  cases b with
  | true =>
    have h0 : en = 0 := by rw [← HE.out]; exact of_decide_eq_true HB.out.symm
    subst h0
    go_wp2
    refine bodyPost_ret (v := .tuple #[v, .int .i64 0]) (by simp [results, Try.results46, go_sem]) rfl ?_
    exact ⟨_, rfl, hM.out, ch.out⟩
  | false =>
    have hn : ¬ knowE q = 0 := of_decide_eq_false HB.out.symm
    have h3 : en = 3 := by rw [← HE.out]; exact knowE_ne HV.out hn
    subst h3
    go_wp2
    refine bodyPost_ret (v := .tuple #[.slice none 0 0, .int .i64 3]) (by simp [results, Try.results46, go_sem]) rfl ?_
    exact ⟨_, rfl, by unfold knowD; rw [if_neg hn]; exact row_nil _ _, ch.out⟩
/-- head 0 0 -/
def headI : Ins := ⟨3, 0, 0, 0, ⟨#[]⟩⟩
theorem headI_wf : headI.wf := wf_lit _ _ _ _ _ (by unfold i64; decide) (by unfold i64; decide) (by unfold i64; decide) (by unfold i64; decide) (by decide)
theorem knowE_head : knowE [headI] = 0 := by decide +kernel
theorem knowD_head : knowD [headI] = knowL [headI] := if_pos knowE_head
theorem self7_any (w : World) : Calls Try.prog 53 #[] w fun e w' => ∃ v, e = .returned v ∧ OwnI w' w.heap.size v (knowD [headI]) ∧ Below w.heap.size w w' := by
  have ch := Lib.hid (Below.refl w.heap.size w)
  go_enter Try.func53, Try.ntmps53
  go_wp2_with fail
  obtain ⟨w1, hW⟩ : ∃ B, w.alloc (.cells #[.int .i64 3, .int .i64 0, .int .i64 0, .int .i64 0, .string ⟨#[]⟩] 52) = B := ⟨_, rfl⟩
  rw [hW]
  have hq : Below w.heap.size w w1 := by rw [← hW]; exact (Below.refl _ _).alloc (Nat.le_refl _) _
  have hQ := Lib.hid (show InsRow w1 w1.heap.size (.slice (some ⟨w.heap.size, 0, none⟩) 1 1) [headI] by rw [← hW]; exact (OwnI.lit w [headI] (by simp; exact headI_wf) (by simp)).row (by simp))
  clear hW
  have ch := Lib.hid (ch.out.trans (hq.mono ch.out.size))
  clear hq
  have hs0 := Lib.hid ch.out.size
  go_wp2_with fail
  refine (know_due 0 _ [headI] _ hQ.out knowE_head).mono ?_
  rintro e w2 ⟨v, rfl, hO, hq⟩
  have hQ := Lib.hid ((hQ.out.below hq).mono hq.size)
  have ch := Lib.hid (ch.out.trans (hq.mono ch.out.size))
  clear hq
  have hO := Lib.hid (OwnI.lower (B' := w.heap.size) hO hs0.out)
  go_wp2
  go_ret
  exact ⟨_, rfl, hO.out, ch.out⟩
theorem rself7_any (w : World) : Calls Try.prog 54 #[] w fun e w' => ∃ v, e = .returned v ∧ InsRow w' w'.heap.size v (knowD [headI]) ∧ Below w.heap.size w w' := by
  have ch := Lib.hid (Below.refl w.heap.size w)
  go_enter Try.func54, Try.ntmps54
  go_wp2_with fail
  refine (r7head_any _ _ _).mono ?_
  rintro e w1 ⟨rfl, hq⟩
  have ch := Lib.hid (ch.out.trans (hq.mono ch.out.size))
  clear hq
  go_wp2_with fail
  obtain ⟨w2, hW⟩ : ∃ B, w1.alloc (.cells #[.int .i64 3, .int .i64 0, .int .i64 0, .int .i64 0, .string ⟨#[]⟩] 52) = B := ⟨_, rfl⟩
  rw [hW]
  have hq : Below w1.heap.size w1 w2 := by rw [← hW]; exact (Below.refl _ _).alloc (Nat.le_refl _) _
  have hQ := Lib.hid (show InsRow w2 w2.heap.size (.slice (some ⟨w1.heap.size, 0, none⟩) 1 1) [headI] by rw [← hW]; exact (OwnI.lit w1 [headI] (by simp; exact headI_wf) (by simp)).row (by simp))
  clear hW
  have ch := Lib.hid (ch.out.trans (hq.mono ch.out.size))
  clear hq
  go_wp2_with fail
  refine (rknow_due _ [headI] _ hQ.out (by decide +kernel) true (by rw [knowE_head]; rfl)).mono ?_
  rintro e w3 ⟨v, rfl, hO, hq⟩
  have hQ := Lib.hid ((hQ.out.below hq).mono hq.size)
  have ch := Lib.hid (ch.out.trans (hq.mono ch.out.size))
  clear hq
  have hO := Lib.hid hO
  go_wp2
  go_ret
  exact ⟨_, rfl, hO.out, ch.out⟩
end Go.Proofs.Ytaiomcjopgnfpaa


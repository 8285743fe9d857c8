/- ref07: Behind. -/
import Derived.Test.YtaiomcjopgnfpaaRCode2
namespace Go.Proofs.Ytaiomcjopgnfpaa
open Go.RowKit

theorem r7set_any (a : Int) (s : ByteArray) (w : World) :
    Calls Try.prog 138 #[.int .i64 a, .string s] w fun e w' => e = .returned (.agg #[.int .i64 0, .int .i64 a, .int .i64 0, .int .i64 0, .string s]) ∧ Below w.heap.size w w' := by
  go_enter Try.func138, Try.ntmps138
  go_wp2
  refine bodyPost_ret (v := .agg #[.int .i64 0, .int .i64 a, .int .i64 0, .int .i64 0, .string s]) (by simp [results, Try.results138, go_sem]) rfl ?_
  exact ⟨rfl, (Below.refl _ _).alloc (Nat.le_refl _) _⟩

theorem r7cons_any (a b c : Int) (w : World) :
    Calls Try.prog 139 #[.int .i64 a, .int .i64 b, .int .i64 c] w fun e w' => e = .returned (.agg #[.int .i64 2, .int .i64 a, .int .i64 b, .int .i64 c, .string ⟨#[]⟩]) ∧ Below w.heap.size w w' := by
  go_enter Try.func139, Try.ntmps139
  go_wp2
  refine bodyPost_ret (v := .agg #[.int .i64 2, .int .i64 a, .int .i64 b, .int .i64 c, .string ⟨#[]⟩]) (by simp [results, Try.results139, go_sem]) rfl ?_
  exact ⟨rfl, (Below.refl _ _).alloc (Nat.le_refl _) _⟩

theorem r7head_any (a b : Int) (w : World) :
    Calls Try.prog 97 #[.int .i64 a, .int .i64 b] w fun e w' => e = .returned (.agg #[.int .i64 3, .int .i64 a, .int .i64 b, .int .i64 0, .string ⟨#[]⟩]) ∧ Below w.heap.size w w' := by
  go_enter Try.func97, Try.ntmps97
  go_wp2
  refine bodyPost_ret (v := .agg #[.int .i64 3, .int .i64 a, .int .i64 b, .int .i64 0, .string ⟨#[]⟩]) (by simp [results, Try.results97, go_sem]) rfl ?_
  exact ⟨rfl, (Below.refl _ _).alloc (Nat.le_refl _) _⟩

theorem r7tail_any (a b : Int) (w : World) :
    Calls Try.prog 137 #[.int .i64 a, .int .i64 b] w fun e w' => e = .returned (.agg #[.int .i64 4, .int .i64 a, .int .i64 b, .int .i64 0, .string ⟨#[]⟩]) ∧ Below w.heap.size w w' := by
  go_enter Try.func137, Try.ntmps137
  go_wp2
  refine bodyPost_ret (v := .agg #[.int .i64 4, .int .i64 a, .int .i64 b, .int .i64 0, .string ⟨#[]⟩]) (by simp [results, Try.results137, go_sem]) rfl ?_
  exact ⟨rfl, (Below.refl _ _).alloc (Nat.le_refl _) _⟩

set_option maxRecDepth 20000 in
set_option maxHeartbeats 4000000 in
theorem behind_any (qa : Option Addr) (qn qc : Nat) (q : List Ins) (w : World) (hhQ : InsRow w w.heap.size (.slice qa qn qc) q) (hq4 : q.length ≤ 100000000) :
    Calls Try.prog 119 #[.slice qa qn qc] w fun e w' => ∃ a k c, e = .returned (.slice a k c) ∧ Hid (k = 16 + q.length) ∧ InsRow w' w'.heap.size (.slice a k c) (knowR q) ∧ Below w.heap.size w w' := by
  have hQ := Lib.hid hhQ
  clear hhQ
  have ch := Lib.hid (Below.refl w.heap.size w)
  go_enter Try.func119, Try.ntmps119
  go_wp2_with fail
  refine (r7head_any 2 0 _).mono ?_
  rintro e w1 ⟨rfl, hq⟩
  have hQ := Lib.hid ((hQ.out.below hq).mono hq.size)
  have ch := Lib.hid (ch.out.trans (hq.mono ch.out.size))
  clear hq
  go_wp2_with fail
  refine (r7tail_any 3 0 _).mono ?_
  rintro e w2 ⟨rfl, hq⟩
  have hQ := Lib.hid ((hQ.out.below hq).mono hq.size)
  have ch := Lib.hid (ch.out.trans (hq.mono ch.out.size))
  clear hq
  go_wp2_with fail
  refine (r7set_any 4 _ _).mono ?_
  rintro e w3 ⟨rfl, hq⟩
  have hQ := Lib.hid ((hQ.out.below hq).mono hq.size)
  have ch := Lib.hid (ch.out.trans (hq.mono ch.out.size))
  clear hq
  go_wp2_with fail
  refine (r7cons_any 4 4 2 _).mono ?_
  rintro e w4 ⟨rfl, hq⟩
  have hQ := Lib.hid ((hQ.out.below hq).mono hq.size)
  have ch := Lib.hid (ch.out.trans (hq.mono ch.out.size))
  clear hq
  go_wp2_with fail
  refine (r7cons_any 4 1 4 _).mono ?_
  rintro e w5 ⟨rfl, hq⟩
  have hQ := Lib.hid ((hQ.out.below hq).mono hq.size)
  have ch := Lib.hid (ch.out.trans (hq.mono ch.out.size))
  clear hq
  go_wp2_with fail
  refine (r7set_any 5 _ _).mono ?_
  rintro e w6 ⟨rfl, hq⟩
  have hQ := Lib.hid ((hQ.out.below hq).mono hq.size)
  have ch := Lib.hid (ch.out.trans (hq.mono ch.out.size))
  clear hq
  go_wp2_with fail
  refine (r7cons_any 5 5 2 _).mono ?_
  rintro e w7 ⟨rfl, hq⟩
  have hQ := Lib.hid ((hQ.out.below hq).mono hq.size)
  have ch := Lib.hid (ch.out.trans (hq.mono ch.out.size))
  clear hq
  go_wp2_with fail
  refine (r7set_any 6 _ _).mono ?_
  rintro e w8 ⟨rfl, hq⟩
  have hQ := Lib.hid ((hQ.out.below hq).mono hq.size)
  have ch := Lib.hid (ch.out.trans (hq.mono ch.out.size))
  clear hq
  go_wp2_with fail
  refine (r7cons_any 5 6 5 _).mono ?_
  rintro e w9 ⟨rfl, hq⟩
  have hQ := Lib.hid ((hQ.out.below hq).mono hq.size)
  have ch := Lib.hid (ch.out.trans (hq.mono ch.out.size))
  clear hq
  go_wp2_with fail
  refine (r7cons_any 5 4 5 _).mono ?_
  rintro e w10 ⟨rfl, hq⟩
  have hQ := Lib.hid ((hQ.out.below hq).mono hq.size)
  have ch := Lib.hid (ch.out.trans (hq.mono ch.out.size))
  clear hq
  go_wp2_with fail
  refine (r7cons_any 0 5 3 _).mono ?_
  rintro e w11 ⟨rfl, hq⟩
  have hQ := Lib.hid ((hQ.out.below hq).mono hq.size)
  have ch := Lib.hid (ch.out.trans (hq.mono ch.out.size))
  clear hq
  go_wp2
  have q_ch := ch
  have q_hQ := hQ
  have rl := Lib.hid (Below.refl w11.heap.size w11)
  obtain ⟨w12, hW⟩ : ∃ B, w11.alloc (.cells #[.int .i64 3, .int .i64 2, .int .i64 0, .int .i64 0, .string ⟨#[]⟩, .int .i64 4, .int .i64 3, .int .i64 0, .int .i64 0, .string ⟨#[]⟩, .int .i64 0, .int .i64 4, .int .i64 0, .int .i64 0, .string ⟨#[49, 48, 48]⟩, .int .i64 2, .int .i64 4, .int .i64 4, .int .i64 2, .string ⟨#[]⟩, .int .i64 2, .int .i64 4, .int .i64 1, .int .i64 4, .string ⟨#[]⟩, .int .i64 0, .int .i64 5, .int .i64 0, .int .i64 0, .string ⟨#[49, 48, 49, 49, 48, 48, 48]⟩, .int .i64 2, .int .i64 5, .int .i64 5, .int .i64 2, .string ⟨#[]⟩, .int .i64 0, .int .i64 6, .int .i64 0, .int .i64 0, .string ⟨#[49, 49, 48, 49, 48, 48, 49, 48, 49, 49, 48, 48, 48]⟩, .int .i64 2, .int .i64 5, .int .i64 6, .int .i64 5, .string ⟨#[]⟩, .int .i64 2, .int .i64 5, .int .i64 4, .int .i64 5, .string ⟨#[]⟩, .int .i64 2, .int .i64 0, .int .i64 5, .int .i64 3, .string ⟨#[]⟩] 52) = B := ⟨_, rfl⟩
  rw [hW]
  have hq : Below w11.heap.size w11 w12 := by rw [← hW]; exact (Below.refl _ _).alloc (Nat.le_refl _) _
  have ho := Lib.hid (show OwnI w12 w11.heap.size (.slice (some ⟨w11.heap.size, 0, none⟩) 11 11) beforeL by rw [← hW]; exact OwnI.lit w11 beforeL (by exact beforeL_wf) (by first | simp | decide))
  clear hW
  have hQ := Lib.hid ((hQ.out.below hq).mono hq.size)
  have rl := Lib.hid (rl.out.trans (hq.mono rl.out.size))
  clear hq
  have hq0 := Lib.hid (show OwnI w12 w11.heap.size (.slice (some ⟨w11.heap.size, 0, none⟩) 11 11) (beforeL ++ clearL 2 0) ∧ Below w11.heap.size w11 w12 from ⟨by have h := ho.out; simpa [clearL] using h, rl.out⟩)
  have chB := Lib.hid ch.out
  clear ho rl hQ
  go_loopg [3, 4] 5 (fun gg o i wr => ∃ k : Nat, k ≤ 5 ∧ gg = 5 - k ∧ i = .int .i64 ((2 : Int) + k) ∧ Hid (OwnI wr w11.heap.size o (beforeL ++ clearL 2 k) ∧ Below w11.heap.size w11 wr))
  case atStart => exact ⟨0, by omega, rfl, rfl, hq0.out⟩
  case round =>
    clear hq0
    obtain ⟨k, hk, hg, rfl, hP⟩ := hrel
    have HG := Lib.hid hg
    clear hg
    have hsz := hP.out.2.size
    by_cases hlt : k < 5
    · have hi : (2 : Int) + (k : Int) ≤ 6 := by omega
      go_wp2_with fail
      refine (r7set_any _ _ _).mono ?_
      rintro e v1 ⟨rfl, hb1⟩
      have hP := Lib.hid (show OwnI v1 w11.heap.size _ (beforeL ++ clearL 2 k) ∧ Below w11.heap.size w11 v1 from ⟨hP.out.1.below hb1, hP.out.2.trans (hb1.mono hP.out.2.size)⟩)
      clear hb1 hsz
      have hown := hP.out.1.own
      have hlen : (beforeL ++ clearL 2 k).length = 11 + k := by simp [beforeL, clearL_length]; omega
      rw [hlen] at hown
      have hb := hP.out.2
      have hsz := hb.size
      go_wp2_with (at_builtin; refine app_new el_ins rfl _ _ rfl rfl hown (inscells [setI (2 + k) ⟨#[48]⟩]) 1 rfl rfl ?c1 ?c2 ?c3 hsz hb (Nat.le_refl _) ?_)
      case c1 => exact inscells_one _
      case c2 => omega
      case c3 => unfold maxLen; omega
      intro v' w' hown' hb' hgr
      have hnew : Hid (OwnI w' w11.heap.size v' (beforeL ++ clearL 2 (k + 1)) ∧ Below w11.heap.size w11 w') := Lib.hid ⟨by rw [clearL_succ, ← List.append_assoc]; exact OwnI.snoc (by rw [hlen]; exact hown') hP.out.1.wf (setI_wf _ _ (by omega) (by decide)), hb'⟩
      clear hown hown' hb hb' hgr hP hlen
      go_wp2
      go_roundg (5 - (k + 1))
      case measure => rw [HG.out]; omega
      case rel => exact ⟨k + 1, by omega, rfl, by first | rfl | (congr 1; omega), hnew⟩
    · have hk5 : k = 5 := by omega
      subst hk5
      have ho0 := hP.out.1
      have hb0 := hP.out.2
      have hs0 := (q_hQ.out.below hb0).mono hb0.size
      have hs1 := Lib.hid (show (beforeL ++ clearL 2 5).length + q.length ≤ 1000000000 by simp [beforeL, clearL_length]; omega)
      go_wp2_with (at_builtin; refine app_row rfl _ _ rfl (vx := .slice qa qn qc) rfl ho0 rfl hs0 ?c2 hb0 ?_)
      case c2 => exact hs1.out
      intro a1 k1 s1 w1 hk1 hn1 hbb
      have hrow := Lib.hid (show InsRow w1 w1.heap.size (.slice a1 k1 s1) (knowR q) from by
        have h := hn1.out.row (by have := hs1.out; simp only [List.length_append] at this ⊢; omega)
        simpa [knowR, behindL] using h)
      have hk2 := Lib.hid (show k1 = 16 + q.length by rw [hk1.out]; simp [beforeL, clearL_length])
      clear ho0 hb0 hs0 hk1 hn1
      go_wp2
      refine bodyPost_ret (v := .slice a1 k1 s1) (by simp [results, Try.results119, go_sem]) rfl ?_
      exact ⟨_, _, _, rfl, hk2, hrow.out, (q_ch.out).trans (hbb.out.mono q_ch.out.size)⟩
end Go.Proofs.Ytaiomcjopgnfpaa


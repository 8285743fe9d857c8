/- know: Clear, before, join. -/
import Derived.Test.YtaiomcjopgnfpaaCodeD
import Derived.Test.YtaiomcjopgnfpaaAppG
namespace Go.Proofs.Ytaiomcjopgnfpaa
open Go.RowKit

def clearL (f m : Nat) : List Ins := (List.range m).map fun j => setI (f + j) ⟨#[48]⟩
theorem clearL_succ (f m : Nat) : clearL f (m + 1) = clearL f m ++ [setI (f + m) ⟨#[48]⟩] := by unfold clearL; rw [List.range_succ, List.map_append]; rfl
theorem clearL_length (f m : Nat) : (clearL f m).length = m := by simp [clearL]
set_option maxHeartbeats 4000000 in
theorem kclear_any (f m : Nat) (hf : f ≤ 1000) (hm : m ≤ 1000) (w : World) (ti : Int) (hti : ti = (f : Int) + m - 1) :
    Calls Try.prog 107 #[.int .i64 f, .int .i64 ti] w fun e w' => ∃ a c, e = .returned (.slice a m c) ∧ OwnI w' w.heap.size (.slice a m c) (clearL f m) ∧ Below w.heap.size w w' := by
  have HT := Lib.hid hti
  clear hti
  go_enter Try.func107, Try.ntmps107
  go_wp2
  go_loopg [5, 6] m (fun gg o i wr => ∃ k : Nat, k ≤ m ∧ gg = m - k ∧ i = .int .i64 ((f : Int) + k) ∧ Hid (OwnI wr w.heap.size o (clearL f k) ∧ Below w.heap.size w wr))
  case atStart => exact ⟨0, by omega, rfl, by simp, OwnI.nil _ _, Below.refl _ _⟩
  case round =>
    obtain ⟨k, hk, hg, rfl, hP⟩ := hrel
    have HG := Lib.hid hg; clear hg
    by_cases hlt : k < m
    · have hi : (f : Int) + (k : Int) ≤ ti := by rw [HT.out]; omega
      have hown := hP.out.1.own
      rw [clearL_length] at hown
      have hb := hP.out.2
      have hsz := hb.size
      go_wp2_with (at_builtin; refine app_new el_ins rfl _ _ rfl rfl hown (inscells [setI (f + k) ⟨#[48]⟩]) 1 rfl rfl ?c1 ?c2 ?c3 hsz hb (Nat.le_refl _) ?_)
      case c1 => exact inscells_one _
      case c2 => omega
      case c3 => unfold maxLen; omega
      intro v' w' hown' hb' hgr
      have hnew : Hid (OwnI w' w.heap.size v' (clearL f (k + 1)) ∧ Below w.heap.size w w') := Lib.hid ⟨by rw [clearL_succ]; exact OwnI.snoc (by rw [clearL_length]; exact hown') hP.out.1.wf (setI_wf _ _ (by omega) (by decide)), hb'⟩
      clear hown hown' hb hb' hgr hP
      go_wp2
      go_roundg (m - (k + 1))
      case measure => rw [HG.out]; omega
      case rel => exact ⟨k + 1, by omega, rfl, by first | rfl | (congr 1; omega), hnew⟩
    · have hkm : k = m := by omega
      subst hkm
      have hi : ¬ (f : Int) + (k : Int) ≤ ti := by rw [HT.out]; omega
      have hsl := hP.out.1.slice
      rw [clearL_length] at hsl
      obtain ⟨a2, c2, rfl⟩ := hsl
      have hP1 := Lib.hid hP.out.1
      have hP2 := Lib.hid hP.out.2
      go_wp2
      refine bodyPost_ret (v := .slice a2 k c2) (by simp [results, Try.results107, go_sem]) rfl ?_
      exact ⟨_, _, rfl, hP1.out, hP2.out⟩
def beforeL : List Ins := [⟨3, 2, 0, 0, ⟨#[]⟩⟩, ⟨4, 3, 0, 0, ⟨#[]⟩⟩, setI 4 ⟨#[49, 48, 48]⟩, consI 4 4 2, consI 4 1 4, setI 5 ⟨#[49, 48, 49, 49, 48, 48, 48]⟩, consI 5 5 2, setI 6 ⟨#[49, 49, 48, 49, 48, 48, 49, 48, 49, 49, 48, 48, 48]⟩, consI 5 6 5, consI 5 4 5, consI 0 5 3]
def behindL : List Ins := beforeL ++ clearL 2 5
theorem beforeL_wf : ∀ x ∈ beforeL, x.wf := by
  intro x hx
  simp only [beforeL, List.mem_cons, List.not_mem_nil, or_false] at hx
  rcases hx with rfl | rfl | rfl | rfl | rfl | rfl | rfl | rfl | rfl | rfl | rfl
  all_goals exact wf_lit _ _ _ _ _ (by unfold i64; decide) (by unfold i64; decide) (by unfold i64; decide) (by unfold i64; decide) (by decide)
theorem kclear_row (f m : Nat) (hf : f ≤ 1000) (hm : m ≤ 1000) (w : World) (ti : Int) (hti : ti = (f : Int) + m - 1) :
    Calls Try.prog 107 #[.int .i64 f, .int .i64 ti] w fun e w' => ∃ a c, e = .returned (.slice a m c) ∧ InsRow w' w'.heap.size (.slice a m c) (clearL f m) ∧ Below w.heap.size w w' :=
  (kclear_any f m hf hm w ti hti).mono fun e w' ⟨a, c, h1, h2, h3⟩ => ⟨a, c, h1, h2.row (by rw [clearL_length]; omega), h3⟩
theorem put_code : codeOf [consI 0 1 0] = ⟨#[49, 49, 49, 48, 49, 48, 48, 49, 48, 49, 49, 48, 48, 48, 48]⟩ := by decide +kernel
theorem clear_code : codeOf [setI 1 ⟨#[48]⟩] = ⟨#[49, 49, 48, 49, 49, 48, 48, 48, 48]⟩ := by decide +kernel

theorem code_at (v : Value) (l : List Ins) (s : ByteArray) (w : World) (hl : InsRow w w.heap.size v l) (hv : validB l = true) (hs : codeOf l = s) (hz : (codeLs l).length + 1 ≤ 2000000) :
    Calls Try.prog 95 #[v] w fun e w' => e = .returned (.tuple #[.string s, .int .i64 0]) ∧ Below w.heap.size w w' := by
  have h := code_ok v l w hl hv
  rw [if_neg (by omega), hs] at h
  exact h
set_option maxRecDepth 20000 in
set_option maxHeartbeats 4000000 in
theorem before_any (w : World) : Calls Try.prog 94 #[] w fun e w' => ∃ a c, e = .returned (.slice a 16 c) ∧ InsRow w' w'.heap.size (.slice a 16 c) behindL ∧ Below w.heap.size w w' := by
  have ch := Lib.hid (Below.refl w.heap.size w)
  go_enter Try.func94, Try.ntmps94
  go_wp2_with fail
  obtain ⟨w1, hW⟩ : ∃ B, w.alloc (.cells #[.int .i64 2, .int .i64 0, .int .i64 1, .int .i64 0, .string ⟨#[]⟩] 52) = B := ⟨_, rfl⟩
  rw [hW]
  have hq : Below w.heap.size w w1 := by rw [← hW]; exact (Below.refl _ _).alloc (Nat.le_refl _) _
  have h1 := Lib.hid (show InsRow w1 w1.heap.size (.slice (some ⟨w.heap.size, 0, none⟩) 1 1) [consI 0 1 0] by rw [← hW]; exact (OwnI.lit w [consI 0 1 0] (by simp; exact consI_wf _ _ _ (by omega) (by omega) (by omega)) (by simp)).row (by simp))
  clear hW
  have ch := Lib.hid (ch.out.trans (hq.mono ch.out.size))
  clear hq
  refine (code_at _ [consI 0 1 0] _ _ h1.out (by decide +kernel) put_code (by decide +kernel)).mono ?_
  rintro e w2 ⟨rfl, hq⟩
  have h1 := Lib.hid ((h1.out.below hq).mono hq.size)
  have ch := Lib.hid (ch.out.trans (hq.mono ch.out.size))
  clear hq
  clear h1
  go_wp2_with fail
  obtain ⟨w3, hW⟩ : ∃ B, w2.alloc (.cells #[.int .i64 0, .int .i64 1, .int .i64 0, .int .i64 0, .string ⟨#[48]⟩] 52) = B := ⟨_, rfl⟩
  rw [hW]
  have hq : Below w2.heap.size w2 w3 := by rw [← hW]; exact (Below.refl _ _).alloc (Nat.le_refl _) _
  have h2 := Lib.hid (show InsRow w3 w3.heap.size (.slice (some ⟨w2.heap.size, 0, none⟩) 1 1) [setI 1 ⟨#[48]⟩] by rw [← hW]; exact (OwnI.lit w2 [setI 1 ⟨#[48]⟩] (by simp; exact setI_wf _ _ (by omega) (by decide)) (by simp)).row (by simp))
  clear hW
  have ch := Lib.hid (ch.out.trans (hq.mono ch.out.size))
  clear hq
  refine (code_at _ [setI 1 ⟨#[48]⟩] _ _ h2.out (by decide +kernel) clear_code (by decide +kernel)).mono ?_
  rintro e w4 ⟨rfl, hq⟩
  have h2 := Lib.hid ((h2.out.below hq).mono hq.size)
  have ch := Lib.hid (ch.out.trans (hq.mono ch.out.size))
  clear hq
  clear h2
  go_wp2_with fail
  rw [show (⟨#[49, 49, 48, 49, 49, 48, 48, 48, 48]⟩ : ByteArray).extract 1 8 = ⟨#[49, 48, 49, 49, 48, 48, 48]⟩ by decide +kernel, show (⟨#[49, 49, 49, 48, 49, 48, 48, 49, 48, 49, 49, 48, 48, 48, 48]⟩ : ByteArray).extract 1 14 = ⟨#[49, 49, 48, 49, 48, 48, 49, 48, 49, 49, 48, 48, 48]⟩ by decide +kernel]
  have rl := Lib.hid (Below.refl w4.heap.size w4)
  obtain ⟨w5, hW⟩ : ∃ B, w4.alloc (.cells #[.int .i64 3, .int .i64 2, .int .i64 0, .int .i64 0, .string ⟨#[]⟩, .int .i64 4, .int .i64 3, .int .i64 0, .int .i64 0, .string ⟨#[]⟩, .int .i64 0, .int .i64 4, .int .i64 0, .int .i64 0, .string ⟨#[49, 48, 48]⟩, .int .i64 2, .int .i64 4, .int .i64 4, .int .i64 2, .string ⟨#[]⟩, .int .i64 2, .int .i64 4, .int .i64 1, .int .i64 4, .string ⟨#[]⟩, .int .i64 0, .int .i64 5, .int .i64 0, .int .i64 0, .string ⟨#[49, 48, 49, 49, 48, 48, 48]⟩, .int .i64 2, .int .i64 5, .int .i64 5, .int .i64 2, .string ⟨#[]⟩, .int .i64 0, .int .i64 6, .int .i64 0, .int .i64 0, .string ⟨#[49, 49, 48, 49, 48, 48, 49, 48, 49, 49, 48, 48, 48]⟩, .int .i64 2, .int .i64 5, .int .i64 6, .int .i64 5, .string ⟨#[]⟩, .int .i64 2, .int .i64 5, .int .i64 4, .int .i64 5, .string ⟨#[]⟩, .int .i64 2, .int .i64 0, .int .i64 5, .int .i64 3, .string ⟨#[]⟩] 52) = B := ⟨_, rfl⟩
  rw [hW]
  have hq : Below w4.heap.size w4 w5 := by rw [← hW]; exact (Below.refl _ _).alloc (Nat.le_refl _) _
  have ho := Lib.hid (show OwnI w5 w4.heap.size (.slice (some ⟨w4.heap.size, 0, none⟩) 11 11) beforeL by rw [← hW]; exact OwnI.lit w4 beforeL (by exact beforeL_wf) (by first | simp | decide))
  clear hW
  have rl := Lib.hid (rl.out.trans (hq.mono rl.out.size))
  clear hq
  have hch := Lib.hid ch.out
  refine (kclear_row 2 5 (by decide) (by decide) _ 6 (by decide)).mono ?_
  rintro e w6 ⟨ca, cc, rfl, hcl, hq⟩
  have ho := Lib.hid (ho.out.below hq)
  have rl := Lib.hid (rl.out.trans (hq.mono rl.out.size))
  clear hq
  have hcl := Lib.hid hcl
  have ho0 := ho.out
  have hb0 := rl.out
  have hs0 := hcl.out
  go_wp2_with (at_builtin; refine app_row rfl _ _ rfl (v := .slice (some ⟨w4.heap.size, 0, none⟩) 11 11) (vx := .slice ca 5 cc) rfl ho0 rfl hs0 ?c2 hb0 ?_)
  case c2 => simp [beforeL, clearL_length]
  clear ho0 hb0 hs0 ho
  intro a7 k7 s7 w7 hk7 ho hb
  have rl := hb
  clear hb
  clear hcl
  have ch := Lib.hid (ch.out.trans (rl.out.mono ch.out.size))
  go_wp2
  have hk16 : k7 = 16 := by have := hk7.out; simpa [beforeL, clearL_length] using this
  subst hk16
  refine bodyPost_ret (v := .slice a7 16 s7) (by simp [results, Try.results94, go_sem]) rfl ?_
  exact ⟨_, _, rfl, ho.out.row (by simp [beforeL, clearL_length]), ch.out⟩
end Go.Proofs.Ytaiomcjopgnfpaa


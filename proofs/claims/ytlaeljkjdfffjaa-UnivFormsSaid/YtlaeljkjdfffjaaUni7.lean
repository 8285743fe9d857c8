/- law06: given, awake; ref06.Most; what runs of the universal program say. -/
import Derived.Test.YtlaeljkjdfffjaaUni5
import Derived.Test.YtlaeljkjdfffjaaUni6
import Derived.Test.YtlaeljkjdfffjaaMeta2
import Derived.Test.YtlaeljkjdfffjaaFixP
import Derived.Test.YtlaeljkjdfffjaaMB3
import Derived.Test.YtlaeljkjdfffjaaMB2
namespace Go.Proofs.Ytlaeljkjdfffjaa
open Go.RowKit

def tlP : List Ins := [⟨4, 0, 0, 0, ⟨#[]⟩⟩]
def aw6S : ByteArray := ⟨#[49, 49, 49, 49, 48, 49, 48, 49, 48, 49, 48, 48, 49, 48, 48, 48, 49, 48, 49, 48, 48]⟩
def aw6T : Tr := .pair (codeT tlP) (toTr ⟨#[49, 48, 49, 48, 48]⟩)
theorem aw6_run : (goF univL 10000 0 (startS aw6T)).run = (⟨#[49, 48, 48]⟩, 45, 0) := by decide +kernel
theorem aw6_text : TS aw6T = aw6S := by decide +kernel
theorem aw6_size : aw6T.size ≤ 2000000 := by decide +kernel
def aw6U : Tr := .pair .nil (toTr ⟨#[49, 48, 49, 48, 48]⟩)
theorem aw6_run2 : (goF univL 10000 0 (startS aw6U)).run = (⟨#[49, 48, 49, 48, 48]⟩, 8, 0) := by decide +kernel
theorem aw6_text2 : TS aw6U = ⟨#[49, 48, 49, 48, 49, 48, 48]⟩ := by decide +kernel
theorem aw6_size2 : aw6U.size ≤ 2000000 := by decide +kernel
theorem tlP_valid : validB tlP = true := by decide +kernel
theorem tlP_code : codeOf tlP = ⟨#[49, 49, 49, 48, 49, 48, 49, 48, 49, 48, 48, 49, 48, 48, 48]⟩ := by decide +kernel
theorem tlP_wf : ∀ x ∈ tlP, x.wf := by
  intro x hx
  simp [tlP] at hx
  subst hx
  exact wf_lit _ _ _ _ _ (by unfold i64; decide) (by unfold i64; decide) (by unfold i64; decide) (by unfold i64; decide) (by decide)
theorem rcode_at (v : Value) (l : List Ins) (s : ByteArray) (w : World) (hl : InsRow w w.heap.size v l) (hv : validB l = true) (hs : codeOf l = s) :
    Calls Try.prog 27 #[v] w fun e w' => e = .returned (.string s) ∧ Below w.heap.size w w' := by
  subst hs
  exact rcode_any v l w hl hv
set_option maxRecDepth 20000 in
set_option maxHeartbeats 8000000 in
theorem awake06 (w : World) : Calls Try.prog 29 #[] w fun e w' => e = .returned (.bool true) ∧ Below w.heap.size w w' := by
  have ch := Lib.hid (Below.refl w.heap.size w)
  go_enter Try.func29, Try.ntmps29
  go_wp2_with fail
  refine (universal_any _).mono ?_
  rintro e w1 ⟨vu, rfl, hu, hq⟩
  replace ch := Lib.hid (ch.out.trans (hq.mono ch.out.size))
  clear hq
  obtain ⟨ua, uc, rfl⟩ := hu.slice
  rw [univ_len] at hu ⊢
  replace hu := Lib.hid (hu.row (by rw [univ_len]; omega))
  go_wp2_with fail
  obtain ⟨wL, hW⟩ : ∃ B, w1.alloc (.cells #[.int .i64 4, .int .i64 0, .int .i64 0, .int .i64 0, .string ⟨#[]⟩] 41) = B := ⟨_, rfl⟩
  rw [hW]
  have hq : Below w1.heap.size w1 wL := by rw [← hW]; exact (Below.refl _ _).alloc (Nat.le_refl _) _
  have h1 := Lib.hid (show InsRow wL wL.heap.size (.slice (some ⟨w1.heap.size, 0, none⟩) 1 1) tlP by rw [← hW]; exact (OwnI.lit w1 tlP tlP_wf (by decide)).row (by decide))
  clear hW
  replace hu := Lib.hid ((hu.out.below hq).mono hq.size)
  replace ch := Lib.hid (ch.out.trans (hq.mono ch.out.size))
  clear hq
  refine (rcode_at _ tlP _ _ h1.out tlP_valid tlP_code).mono ?_
  rintro e w2 ⟨rfl, hq⟩
  replace hu := Lib.hid ((hu.out.below hq).mono hq.size)
  replace ch := Lib.hid (ch.out.trans (hq.mono ch.out.size))
  clear hq
  clear h1
  go_wp2_with fail
  refine (runOk_at 10000 _ _ 45 0 aw6_run univ_valid aw6_size (aw6_text.trans (by decide +kernel)) rfl (by omega) hu.out).mono ?_
  rintro e w3 ⟨rfl, hq⟩
  replace hu := Lib.hid ((hu.out.below hq).mono hq.size)
  replace ch := Lib.hid (ch.out.trans (hq.mono ch.out.size))
  clear hq
  go_wp2_with fail
  refine (runOk_at 10000 _ _ 8 0 aw6_run2 univ_valid aw6_size2 aw6_text2 rfl (by omega) hu.out).mono ?_
  rintro e w4 ⟨rfl, hq⟩
  replace hu := Lib.hid ((hu.out.below hq).mono hq.size)
  replace ch := Lib.hid (ch.out.trans (hq.mono ch.out.size))
  clear hq
  go_wp2
  go_ret
  exact ⟨rfl, ch.out⟩

end Go.Proofs.Ytlaeljkjdfffjaa


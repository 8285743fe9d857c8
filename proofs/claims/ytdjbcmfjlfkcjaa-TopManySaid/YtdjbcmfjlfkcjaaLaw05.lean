/- The walks of narcissuslaw05: SpecMakes and SpecSupplies. -/
import Derived.Test.YtdjbcmfjlfkcjaaSpec
import Derived.Test.YtdjbcmfjlfkcjaaMB2
namespace Go.Proofs.Ytdjbcmfjlfkcjaa
open Go.RowKit

set_option maxHeartbeats 1000000 in
theorem fits4_any (v : Value) (l : List Ins) (w : World) (B : Nat) (hl : InsRow w B v l) :
    Calls Try.prog 92 #[v] w fun e w' => e = .returned (.bool (fitsP l)) ∧ w = w' := by
  have hll := hl.2.1
  unfold fitsP
  by_cases h : l.length ≤ 4000
  · have kt := trees_any v l w B hl h
    obtain ⟨ao, cap, rfl⟩ := hl.len
    generalize trees l = tr at *
    obtain ⟨bt, hbt⟩ : ∃ b, decide (tr ≤ 2000000) = b := ⟨_, rfl⟩
    have hq : decide ((tr : Int) ≤ 2000000) = bt := by rw [← hbt]; exact decide_eq_decide.2 (by omega)
    rw [hbt]
    clear hbt
    have hI : (l.length : Int) ≤ 4000 := by omega
    generalize l.length = n at *
    clear hl
    simp only [h, decide_true, Bool.true_and]
    clear h
    go_enter Try.func92, Try.ntmps92
    go_wp2_with fail
    refine kt.mono ?_
    rintro e w1 ⟨rfl, rfl⟩
    go_wp2
    go_ret
    exact ⟨rfl, rfl⟩
  · obtain ⟨ao, cap, rfl⟩ := hl.len
    have hI : decide ((l.length : Int) ≤ 4000) = false := decide_eq_false (by omega)
    generalize l.length = n at *
    clear hl
    simp only [h, decide_false, Bool.false_and]
    clear h
    go_enter Try.func92, Try.ntmps92
    go_wp2
    go_ret
    exact ⟨rfl, rfl⟩

def awH : List Ins := [⟨3, 0, 0, 0, ⟨#[]⟩⟩]
theorem awH_new (w : World) : InsRow (w.alloc (.cells #[.int .i64 3, .int .i64 0, .int .i64 0, .int .i64 0, .string ⟨#[]⟩] 75)) (w.alloc (.cells #[.int .i64 3, .int .i64 0, .int .i64 0, .int .i64 0, .string ⟨#[]⟩] 75)).heap.size (.slice (some ⟨w.heap.size, 0, none⟩) 1 1) awH :=
  InsRow.new (w := w) (T := 75) awH (by intro x hx; simp [awH] at hx; subst hx; exact wf_lit _ _ _ _ _ (by unfold i64; decide) (by unfold i64; decide) (by unfold i64; decide) (by unfold i64; decide) (by decide)) (by decide)
theorem awH_run : (goF (specL ⟨#[49, 48, 48]⟩ awH) 10 0 (startS .nil)).run = (⟨#[49, 48, 48]⟩, 4, 0) := by rfl
theorem awNil_run : (goF (specL ⟨#[49, 48, 48]⟩ []) 10 0 (startS (.pair .nil (.pair .nil .nil)))).run = (⟨#[49, 49, 48, 48, 49, 48, 49, 48, 48]⟩, 3, 0) := by rfl
theorem awH_valid : validB awH = true := by decide +kernel
theorem awH_svalid : validB (specL ⟨#[49, 48, 48]⟩ awH) = true := by decide +kernel
theorem awNil_svalid : validB (specL ⟨#[49, 48, 48]⟩ []) = true := by decide +kernel
theorem isTree_100 : isTree ⟨#[49, 48, 48]⟩ = true := by decide +kernel
/-- Spec, relative to a world. -/
theorem specOk_ct {w w' : World} {v : Value} {l : List Ins} {d : ByteArray} (hds : d.size ≤ 140737488355328) (hl : InsRow w' w'.heap.size v l) (hv : validB l = true) (hd : isTree d = true) (hs : validB (specL d l) = true) (hb : Below w.heap.size w w') :
    Calls Try.prog 105 #[v, .string d] w' fun e w'' => ∃ v', e = .returned (.tuple #[v', .int .i64 0]) ∧ Hid (InsRow w'' w''.heap.size v' (specL d l)) ∧ Below w.heap.size w w'' := by
  refine (spec_any v l d hds w' hl hv hd).mono ?_
  intro e w'' h
  rw [if_pos hs] at h
  obtain ⟨v', h1, h2, h3⟩ := h
  exact ⟨v', h1, h2, hb.trans (h3.mono hb.size)⟩
theorem specBig_ct {w w' : World} {v : Value} {l : List Ins} {d : ByteArray} (hds : d.size ≤ 140737488355328) (hl : InsRow w' w'.heap.size v l) (hv : validB l = true) (hd : isTree d = true) (hs : validB (specL d l) = false) (hb : Below w.heap.size w w') :
    Calls Try.prog 105 #[v, .string d] w' fun e w'' => e = .returned (.tuple #[.slice none 0 0, .int .i64 3]) ∧ Below w.heap.size w w'' := by
  refine (spec_any v l d hds w' hl hv hd).mono ?_
  intro e w'' h
  rw [if_neg (by rw [hs]; simp)] at h
  exact ⟨h.1, hb.trans (h.2.mono hb.size)⟩
set_option maxHeartbeats 1000000 in
theorem spec_form (v : Value) (l : List Ins) (d : ByteArray) (hds : d.size ≤ 140737488355328) (w : World) (hl : InsRow w w.heap.size v l) (h : validB l = false ∨ isTree d = false) :
    Calls Try.prog 105 #[v, .string d] w (SpecBad w 1) := by
  cases hv : validB l with
  | false =>
    have kv := codeValidP_at v l w hl _ hv
    clear h hv
    obtain ⟨ao, cap, rfl⟩ := hl.len
    go_enter Try.func105, Try.ntmps105
    go_wp2_with fail
    refine kv.mono ?_
    rintro e w1 ⟨rfl, k1⟩
    go_wp2
    go_ret2
    exact ⟨rfl, k1⟩
  | true =>
    have hd : isTree d = false := by rcases h with h | h; rw [hv] at h; cases h; exact h
    have kv := codeValidP_at v l w hl _ hv
    have kt := treeValid_at d hds _ hd
    clear h hv
    obtain ⟨ao, cap, rfl⟩ := hl.len
    go_enter Try.func105, Try.ntmps105
    go_wp2_with fail
    refine kv.mono ?_
    rintro e w1 ⟨rfl, k1⟩
    go_wp2_with fail
    refine (kt _).mono ?_
    rintro e w2 ⟨rfl, k2⟩
    go_wp2
    go_ret2
    exact ⟨rfl, k1.trans (k2.mono k1.size)⟩
theorem specForm_ct {w : World} {v : Value} {l : List Ins} {d : ByteArray} (hds : d.size ≤ 140737488355328) (hl : InsRow w w.heap.size v l) (h : validB l = false ∨ isTree d = false) : Ct w 105 #[v, .string d] (.tuple #[.slice none 0 0, .int .i64 1]) :=
  Ct.of fun w' hb => spec_form v l d hds w' ((hl.below hb).mono hb.size) h

theorem aw5_1 (w w' : World) (hb : Below w.heap.size w w') : Calls Try.prog 105 #[.slice (some ⟨w'.heap.size, 0, none⟩) 1 1, .string ⟨#[49, 48, 48]⟩] (w'.alloc (.cells #[.int .i64 3, .int .i64 0, .int .i64 0, .int .i64 0, .string ⟨#[]⟩] 75)) fun e w'' => ∃ v', e = .returned (.tuple #[v', .int .i64 0]) ∧ Hid (InsRow w'' w''.heap.size v' (specL ⟨#[49, 48, 48]⟩ awH)) ∧ Below w.heap.size w w'' :=
  specOk_ct (by decide) (awH_new w') awH_valid isTree_100 awH_svalid (hb.alloc hb.size _)
theorem aw5_2 (w w' : World) (hb : Below w.heap.size w w') : Calls Try.prog 105 #[.slice none 0 0, .string ⟨#[49, 48, 48]⟩] w' fun e w'' => ∃ v', e = .returned (.tuple #[v', .int .i64 0]) ∧ Hid (InsRow w'' w''.heap.size v' (specL ⟨#[49, 48, 48]⟩ [])) ∧ Below w.heap.size w w'' :=
  specOk_ct (by decide) (nil_row w' _) awN_valid isTree_100 awNil_svalid hb

theorem specOk_at {w : World} {v : Value} {l : List Ins} {d : ByteArray} (hds : d.size ≤ 140737488355328) (hv : validB l = true) (hd : isTree d = true) (hs : validB (specL d l) = true) (hl : InsRow w w.heap.size v l) :
    Calls Try.prog 105 #[v, .string d] w fun e w' => ∃ v', e = .returned (.tuple #[v', .int .i64 0]) ∧ InsRow w' w'.heap.size v' (specL d l) ∧ Below w.heap.size w w' := specOk_ct hds hl hv hd hs (Below.refl _ _)
theorem specBig_at {w : World} {v : Value} {l : List Ins} {d : ByteArray} (hds : d.size ≤ 140737488355328) (hv : validB l = true) (hd : isTree d = true) (hs : validB (specL d l) = false) (hl : InsRow w w.heap.size v l) :
    Calls Try.prog 105 #[v, .string d] w fun e w' => e = .returned (.tuple #[.slice none 0 0, .int .i64 3]) ∧ Below w.heap.size w w' := specBig_ct hds hl hv hd hs (Below.refl _ _)
theorem fits4_at {w : World} {v : Value} {l : List Ins} (b : Bool) (hb : fitsP l = b) (hl : InsRow w w.heap.size v l) :
    Calls Try.prog 92 #[v] w fun e w' => e = .returned (.bool b) ∧ Below w.heap.size w w' :=
  (fits4_any v l w _ hl).mono fun e w' h => ⟨by rw [← hb]; exact h.1, by rw [← h.2]; exact Below.refl _ _⟩

end Go.Proofs.Ytdjbcmfjlfkcjaa


/- ref07: Coded, Know, told, Made. -/
import Derived.Test.YtdjbcmfjlfkcjaaKnow4
import Derived.Test.YtdjbcmfjlfkcjaaLaw05
namespace Go.Proofs.Ytdjbcmfjlfkcjaa
open Go.RowKit

theorem behindL_right {q : List Ins} (hq : rightAll q = true) : rightAll (knowR q) = true := by
  have h16 : behindL.length = 16 := by simp [behindL, beforeL, clearL_length]
  refine RA.all ?_
  unfold knowR
  refine RA.append (fun i x hx => ?_) (RA.of hq (by rw [List.length_append, h16]; omega))
  have h0 : rightAll behindL = true := by decide +kernel
  exact rightAll_at h0 hx (by rw [List.length_append]; omega)
theorem codeOf_len (l : List Ins) : ((codeOf l).size : Int) = (codeN l : Int) := by rw [codeOf_size]; rfl
theorem coded_no (v : Value) (l : List Ins) (w : World) (hl : InsRow w w.heap.size v l) (hf : fitsP l = false) :
    Calls Try.prog 51 #[v] w fun e w' => e = .returned (.tuple #[.string ⟨#[]⟩, .bool false]) ∧ Below w.heap.size w w' := by
  have kf := fits4_ok v l w hl
  rw [hf] at kf
  go_enter Try.func51, Try.ntmps51
  go_wp2_with fail
  refine kf.mono ?_
  rintro e w1 ⟨rfl, hb1⟩
  go_wp2
  refine bodyPost_ret (v := .tuple #[.string ⟨#[]⟩, .bool false]) (by simp [results, Try.results51, go_sem]) rfl ?_
  exact ⟨rfl, hb1⟩
theorem coded_yes (v : Value) (l : List Ins) (w : World) (hl : InsRow w w.heap.size v l) (hv : validB l = true) :
    Calls Try.prog 51 #[v] w fun e w' => e = .returned (.tuple #[.string (codeOf l), .bool (decide (codeN l ≤ 2000000))]) ∧ Below w.heap.size w w' := by
  have kf := fits4_ok v l w hl
  have hf : fitsP l = true := by rw [← validB_fits (validB_all hv)]; exact hv
  rw [hf] at kf
  have hsz := codeOf_size l
  have hN : (codeLs l).length + 1 = codeN l := rfl
  rw [hN] at hsz
  obtain ⟨b, hb⟩ : ∃ b, decide (codeN l ≤ 2000000) = b := ⟨_, rfl⟩
  rw [hb]
  have HL := Lib.hid hl
  have HV := Lib.hid hv
  have kc := Lib.hid (fun (w' : World) (hb : Below w.heap.size w w') => rcode_any v l w' ((HL.out.below hb).mono hb.size) HV.out)
  obtain ⟨S, hS⟩ : ∃ S, codeOf l = S := ⟨_, rfl⟩
  rw [hS] at kc hsz ⊢
  have HSZ := Lib.hid hsz
  have hb' : Hid (b = decide (S.size ≤ 2000000)) := Lib.hid (by rw [hsz]; exact hb.symm)
  clear hl hv hN hb hS hsz hf
  cases b with
  | true =>
    have hle : (S.size : Int) ≤ 2000000 := by have := of_decide_eq_true hb'.out.symm; omega
    go_enter Try.func51, Try.ntmps51
    go_wp2_with fail
    refine kf.mono ?_
    rintro e w1 ⟨rfl, hb1⟩
    go_wp2_with fail
    refine (kc.out _ hb1).mono ?_
    rintro e w2 ⟨rfl, hb2⟩
    have hb := hb1.trans (hb2.mono hb1.size)
    go_wp2
    refine bodyPost_ret (v := .tuple #[.string S, .bool true]) (by simp [results, Try.results51, go_sem]) rfl ?_
    exact ⟨rfl, hb⟩
  | false =>
    have hle : ¬ (S.size : Int) ≤ 2000000 := by have := of_decide_eq_false hb'.out.symm; omega
    go_enter Try.func51, Try.ntmps51
    go_wp2_with fail
    refine kf.mono ?_
    rintro e w1 ⟨rfl, hb1⟩
    go_wp2_with fail
    refine (kc.out _ hb1).mono ?_
    rintro e w2 ⟨rfl, hb2⟩
    have hb := hb1.trans (hb2.mono hb1.size)
    go_wp2
    refine bodyPost_ret (v := .tuple #[.string S, .bool false]) (by simp [results, Try.results51, go_sem]; omega) rfl ?_
    exact ⟨rfl, hb⟩
theorem coded_b (b : Bool) (v : Value) (l : List Ins) (w : World) (hl : InsRow w w.heap.size v l) (hv : validB l = true) (hb : decide (codeN l ≤ 2000000) = b) :
    Calls Try.prog 51 #[v] w fun e w' => e = .returned (.tuple #[.string (codeOf l), .bool b]) ∧ Below w.heap.size w w' := by
  have := coded_yes v l w hl hv
  rwa [hb] at this
/-- What the reference's Know hands back. -/
def RKnowOut (w : World) (q : List Ins) (e : Ending) (w' : World) : Prop := ∃ v b, e = .returned (.tuple #[v, .bool b]) ∧ (b = true ↔ knowE q = 0) ∧ TB w' w'.heap.size (knowE q) (knowL q) v ∧ Below w.heap.size w w'
theorem RKnowOut.bad {w w' : World} {q : List Ins} {e : Ending} (hk : knowE q = 3) (he : e = .returned (.tuple #[.slice none 0 0, .bool false])) (hb : Below w.heap.size w w') : RKnowOut w q e w' := ⟨_, _, he, ⟨fun h => (by cases h), fun h => by rw [hk] at h; cases h⟩, by rw [hk]; exact tb_bad _ _ _ (by decide) _, hb⟩
theorem RKnowOut.ok {w w' : World} {q : List Ins} {e : Ending} {v : Value} (hk : knowE q = 0) (he : e = .returned (.tuple #[v, .bool true])) (hr : InsRow w' w'.heap.size v (knowL q)) (hb : Below w.heap.size w w') : RKnowOut w q e w' := ⟨_, _, he, ⟨fun _ => hk, fun _ => rfl⟩, by rw [hk]; exact ⟨fun _ => hr, fun e => absurd rfl e⟩, hb⟩

end Go.Proofs.Ytdjbcmfjlfkcjaa


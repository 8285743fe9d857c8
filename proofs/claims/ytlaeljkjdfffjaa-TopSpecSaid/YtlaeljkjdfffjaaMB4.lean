/- The walks of narcissuslaw05: SpecMakes and SpecSupplies. ref07: Coded, Know, told, Made. law07: Small, awake. Spec and Know, where their results lie. law07: spoil. law07: Know, Made, Self as they are used by the laws. Plain: runs step by step; a run looks at no register that the program does not name; programs within others. Plain: how a program that knows its own code runs. Plain: programs that defeat deciders: what they are, and how they run. Plain: how programs that defeat deciders run. law04: BuildThens. law04: BuildMakes. law04: BuildMakes, where the string is no tree; the law. law04's play: a run of a program that is composed, by the runs of its parts. A run of a program that is composed, followed along its parts. law04's play, said of the program that it follows. Plain: where the parts stand in the programs that are put together. Plain: how programs that are put together run (said of trees). narcissustop: play, returns, lasts. -/
import Derived.Test.YtlaeljkjdfffjaaMB3
import Derived.Test.YtlaeljkjdfffjaaMB2
namespace Go.Proofs.Ytlaeljkjdfffjaa
open Go.RowKit

set_option maxHeartbeats 1000000 in
theorem rhead_any (d : ByteArray) (_hd : d.size ≤ 140737488355328) (w : World) :
    Calls Try.prog 100 #[.string d] w fun e w' => e = .returned (.slice (some ⟨w.heap.size, 0, none⟩) 3 3) ∧ Hid (w'.ownsRow w.heap.size 41 5 (.slice (some ⟨w.heap.size, 0, none⟩) 3 3) 3 (inscells (specH d))) ∧ Below w.heap.size w w' := by
  have hown := Lib.hid (specH_own w d)
  go_enter Try.func100, Try.ntmps100
  go_wp2
  go_ret
  exact ⟨rfl, hown, (Below.refl _ _).alloc (Nat.le_refl _) _⟩

def awH : List Ins := [⟨3, 0, 0, 0, ⟨#[]⟩⟩]
theorem awH_new (w : World) : InsRow (w.alloc (.cells #[.int .i64 3, .int .i64 0, .int .i64 0, .int .i64 0, .string ⟨#[]⟩] 41)) (w.alloc (.cells #[.int .i64 3, .int .i64 0, .int .i64 0, .int .i64 0, .string ⟨#[]⟩] 41)).heap.size (.slice (some ⟨w.heap.size, 0, none⟩) 1 1) awH :=
  InsRow.new (w := w) (T := 41) awH (by intro x hx; simp [awH] at hx; subst hx; exact wf_lit _ _ _ _ _ (by unfold i64; decide) (by unfold i64; decide) (by unfold i64; decide) (by unfold i64; decide) (by decide)) (by decide)
theorem awH_run : (goF (specL ⟨#[49, 48, 48]⟩ awH) 10 0 (startS .nil)).run = (⟨#[49, 48, 48]⟩, 4, 0) := by rfl
theorem awNil_run : (goF (specL ⟨#[49, 48, 48]⟩ []) 10 0 (startS (.pair .nil (.pair .nil .nil)))).run = (⟨#[49, 49, 48, 48, 49, 48, 49, 48, 48]⟩, 3, 0) := by rfl
theorem awH_valid : validB awH = true := by decide +kernel
theorem awH_svalid : validB (specL ⟨#[49, 48, 48]⟩ awH) = true := by decide +kernel
theorem awNil_svalid : validB (specL ⟨#[49, 48, 48]⟩ []) = true := by decide +kernel
theorem isTree_100 : isTree ⟨#[49, 48, 48]⟩ = true := by decide +kernel
/-- Spec, relative to a world. -/
theorem specOk_ct {w w' : World} {v : Value} {l : List Ins} {d : ByteArray} (hds : d.size ≤ 140737488355328) (hl : InsRow w' w'.heap.size v l) (hv : validB l = true) (hd : isTree d = true) (hs : validB (specL d l) = true) (hb : Below w.heap.size w w') :
    Calls Try.prog 44 #[v, .string d] w' fun e w'' => ∃ v', e = .returned (.tuple #[v', .int .i64 0]) ∧ Hid (InsRow w'' w''.heap.size v' (specL d l)) ∧ Below w.heap.size w w'' := by
  refine (spec_any v l d hds w' hl hv hd).mono ?_
  intro e w'' h
  rw [if_pos hs] at h
  obtain ⟨v', h1, h2, h3⟩ := h
  exact ⟨v', h1, h2, hb.trans (h3.mono hb.size)⟩
theorem specBig_ct {w w' : World} {v : Value} {l : List Ins} {d : ByteArray} (hds : d.size ≤ 140737488355328) (hl : InsRow w' w'.heap.size v l) (hv : validB l = true) (hd : isTree d = true) (hs : validB (specL d l) = false) (hb : Below w.heap.size w w') :
    Calls Try.prog 44 #[v, .string d] w' fun e w'' => e = .returned (.tuple #[.slice none 0 0, .int .i64 3]) ∧ Below w.heap.size w w'' := by
  refine (spec_any v l d hds w' hl hv hd).mono ?_
  intro e w'' h
  rw [if_neg (by rw [hs]; simp)] at h
  exact ⟨h.1, hb.trans (h.2.mono hb.size)⟩
set_option maxHeartbeats 1000000 in
theorem spec_form (v : Value) (l : List Ins) (d : ByteArray) (hds : d.size ≤ 140737488355328) (w : World) (hl : InsRow w w.heap.size v l) (h : validB l = false ∨ isTree d = false) :
    Calls Try.prog 44 #[v, .string d] w (SpecBad w 1) := by
  cases hv : validB l with
  | false =>
    have kv := codeValidP_at v l w hl _ hv
    clear h hv
    obtain ⟨ao, cap, rfl⟩ := hl.len
    go_enter Try.func44, Try.ntmps44
    go_wp2_with fail
    refine kv.mono ?_
    rintro e w1 ⟨rfl, k1⟩
    go_wp2
    go_ret2
    exact ⟨rfl, k1⟩
  | true =>
    have hd : isTree d = false := by rcases h with h | h; rw [hv] at h; cases h; exact h
    have kv := codeValidP_at v l w hl _ hv
    have kt := treeValid_at d hds _ hd
    clear h hv
    obtain ⟨ao, cap, rfl⟩ := hl.len
    go_enter Try.func44, Try.ntmps44
    go_wp2_with fail
    refine kv.mono ?_
    rintro e w1 ⟨rfl, k1⟩
    go_wp2_with fail
    refine (kt _).mono ?_
    rintro e w2 ⟨rfl, k2⟩
    go_wp2
    go_ret2
    exact ⟨rfl, k1.trans (k2.mono k1.size)⟩
theorem specForm_ct {w : World} {v : Value} {l : List Ins} {d : ByteArray} (hds : d.size ≤ 140737488355328) (hl : InsRow w w.heap.size v l) (h : validB l = false ∨ isTree d = false) : Ct w 44 #[v, .string d] (.tuple #[.slice none 0 0, .int .i64 1]) :=
  Ct.of fun w' hb => spec_form v l d hds w' ((hl.below hb).mono hb.size) h

theorem aw5_1 (w w' : World) (hb : Below w.heap.size w w') : Calls Try.prog 44 #[.slice (some ⟨w'.heap.size, 0, none⟩) 1 1, .string ⟨#[49, 48, 48]⟩] (w'.alloc (.cells #[.int .i64 3, .int .i64 0, .int .i64 0, .int .i64 0, .string ⟨#[]⟩] 41)) fun e w'' => ∃ v', e = .returned (.tuple #[v', .int .i64 0]) ∧ Hid (InsRow w'' w''.heap.size v' (specL ⟨#[49, 48, 48]⟩ awH)) ∧ Below w.heap.size w w'' :=
  specOk_ct (by decide) (awH_new w') awH_valid isTree_100 awH_svalid (hb.alloc hb.size _)
theorem aw5_2 (w w' : World) (hb : Below w.heap.size w w') : Calls Try.prog 44 #[.slice none 0 0, .string ⟨#[49, 48, 48]⟩] w' fun e w'' => ∃ v', e = .returned (.tuple #[v', .int .i64 0]) ∧ Hid (InsRow w'' w''.heap.size v' (specL ⟨#[49, 48, 48]⟩ [])) ∧ Below w.heap.size w w'' :=
  specOk_ct (by decide) (nil_row w' _) awN_valid isTree_100 awNil_svalid hb

set_option maxRecDepth 100000 in
set_option maxHeartbeats 2000000 in
theorem awake05 (w : World) : Calls Try.prog 39 #[] w fun e w' => e = .returned (.bool true) ∧ Below w.heap.size w w' := by
  go_enter Try.func39, Try.ntmps39
  go_wp2_with fail
  refine (aw5_1 w _ (Below.refl _ _)).mono ?_
  rintro e w1 ⟨v1, rfl, h1, hb1⟩
  have k2 := run_at (w := w) (l := specL ⟨#[49, 48, 48]⟩ awH) awH_svalid (t := .nil) (by decide) rfl 10 10 rfl (by decide) _ _ _ awH_run _ _ h1.out hb1
  clear h1
  go_wp2_with fail
  refine k2.mono ?_
  rintro e w2 ⟨rfl, hb2⟩
  clear hb1
  go_wp2_with fail
  refine (aw5_2 w _ hb2).mono ?_
  rintro e w3 ⟨v2, rfl, h2, hb3⟩
  clear hb2
  have k3 := run_at (w := w) (l := specL ⟨#[49, 48, 48]⟩ []) awNil_svalid (t := .pair .nil (.pair .nil .nil)) (by decide) rfl 10 10 rfl (by decide) _ _ _ awNil_run _ _ h2.out hb3
  clear h2
  go_wp2_with fail
  refine k3.mono ?_
  rintro e w4 ⟨rfl, hb4⟩
  clear hb3
  go_wp2
  go_ret
  exact ⟨rfl, hb4⟩
theorem awake05_ct (w : World) : Ct w 39 #[] (.bool true) := Ct.of_any awake05

theorem specOk_at {w : World} {v : Value} {l : List Ins} {d : ByteArray} (hds : d.size ≤ 140737488355328) (hv : validB l = true) (hd : isTree d = true) (hs : validB (specL d l) = true) (hl : InsRow w w.heap.size v l) :
    Calls Try.prog 44 #[v, .string d] w fun e w' => ∃ v', e = .returned (.tuple #[v', .int .i64 0]) ∧ InsRow w' w'.heap.size v' (specL d l) ∧ Below w.heap.size w w' := specOk_ct hds hl hv hd hs (Below.refl _ _)
theorem specBig_at {w : World} {v : Value} {l : List Ins} {d : ByteArray} (hds : d.size ≤ 140737488355328) (hv : validB l = true) (hd : isTree d = true) (hs : validB (specL d l) = false) (hl : InsRow w w.heap.size v l) :
    Calls Try.prog 44 #[v, .string d] w fun e w' => e = .returned (.tuple #[.slice none 0 0, .int .i64 3]) ∧ Below w.heap.size w w' := specBig_ct hds hl hv hd hs (Below.refl _ _)
end Go.Proofs.Ytlaeljkjdfffjaa

namespace Go.Proofs.Ytlaeljkjdfffjaa
open Go.RowKit

theorem behindL_right {q : List Ins} (hq : rightAll q = true) : rightAll (knowR q) = true := by
  have h16 : behindL.length = 16 := by simp [behindL, beforeL, clearL_length]
  refine RA.all ?_
  unfold knowR
  refine RA.append (fun i x hx => ?_) (RA.of hq (by rw [List.length_append, h16]; omega))
  have h0 : rightAll behindL = true := by decide +kernel
  exact rightAll_at h0 hx (by rw [List.length_append]; omega)
theorem codeOf_len (l : List Ins) : ((codeOf l).size : Int) = (codeN l : Int) := by rw [codeOf_size]; rfl
/-- What the reference's Know hands back. -/
def RKnowOut (w : World) (q : List Ins) (e : Ending) (w' : World) : Prop := ∃ v b, e = .returned (.tuple #[v, .bool b]) ∧ (b = true ↔ knowE q = 0) ∧ TB w' w'.heap.size (knowE q) (knowL q) v ∧ Below w.heap.size w w'
theorem RKnowOut.bad {w w' : World} {q : List Ins} {e : Ending} (hk : knowE q = 3) (he : e = .returned (.tuple #[.slice none 0 0, .bool false])) (hb : Below w.heap.size w w') : RKnowOut w q e w' := ⟨_, _, he, ⟨fun h => (by cases h), fun h => by rw [hk] at h; cases h⟩, by rw [hk]; exact tb_bad _ _ _ (by decide) _, hb⟩
theorem RKnowOut.ok {w w' : World} {q : List Ins} {e : Ending} {v : Value} (hk : knowE q = 0) (he : e = .returned (.tuple #[v, .bool true])) (hr : InsRow w' w'.heap.size v (knowL q)) (hb : Below w.heap.size w w') : RKnowOut w q e w' := ⟨_, _, he, ⟨fun _ => hk, fun _ => rfl⟩, by rw [hk]; exact ⟨fun _ => hr, fun e => absurd rfl e⟩, hb⟩

end Go.Proofs.Ytlaeljkjdfffjaa

namespace Go.Proofs.Ytlaeljkjdfffjaa
open Go.RowKit

/-- However large: a number. -/
theorem trees_some (v : Value) (l : List Ins) (w : World) (B : Nat) (hl : InsRow w B v l) :
    Calls Try.prog 87 #[v] w fun e w' => ∃ z : Int, e = .returned (.int .i64 z) ∧ w = w' := by
  obtain ⟨ao, cap, rfl⟩ := hl.len
  have hn := hl.2.1
  obtain ⟨n, hn'⟩ : ∃ n, l.length = n := ⟨_, rfl⟩
  rw [hn'] at hl hn ⊢
  have HN := Lib.hid hn'; clear hn'
  go_enter Try.func87, Try.ntmps87
  go_wp2
  go_loopg [3, 4] n (fun g s i wr => ∃ (k : Nat) (m : Int), k ≤ n ∧ g = n - k ∧ i = .int .i64 k ∧ s = .int .i64 m ∧ w = wr)
  case atStart => exact ⟨0, 0, Nat.zero_le _, rfl, rfl, rfl, rfl⟩
  case round =>
    obtain ⟨k, m, hk, hg, rfl, rfl, rfl⟩ := hrel
    have HG := Lib.hid hg; clear hg
    by_cases hlt : k < n
    · obtain ⟨x, hx⟩ : ∃ s, l[k]? = some s := ⟨_, List.getElem?_eq_getElem (by rw [HN.out]; exact hlt)⟩
      obtain ⟨g, off, rfl, hg, c0, c1, c2, c3, c4⟩ := hl.get hx
      clear hx c0 c1 c2 c3
      go_wp2
      go_roundg (n - (k + 1))
      case measure => rw [HG.out]; omega
      case rel => exact ⟨k + 1, _, by omega, rfl, by go_num, rfl, rfl⟩
    · go_wp2
      go_ret
      exact ⟨_, rfl, rfl⟩
theorem know0_at (v : Value) (q : List Ins) (w : World) (hq : InsRow w w.heap.size v q) (hk : knowE q = 0) : Calls Try.prog 117 #[v] w fun e w' => ∃ v', e = .returned (.tuple #[v', .int .i64 0]) ∧ InsRow w' w'.heap.size v' (knowL q) ∧ Below w.heap.size w w' := by
  refine (know_any v q w hq).mono ?_
  rintro e w' ⟨v', h1, h2, h3⟩
  rw [hk] at h1 h2
  exact ⟨v', h1, h2.1 rfl, h3⟩
theorem knowE_nil : knowE [] = 0 := by decide +kernel
theorem knowE_tail : knowE [tailI] = 0 := by decide +kernel
end Go.Proofs.Ytlaeljkjdfffjaa

namespace Go.Proofs.Ytlaeljkjdfffjaa
open Go.RowKit

set_option maxHeartbeats 2000000 in
theorem spec_own (v : Value) (l : List Ins) (d : ByteArray) (hds : d.size ≤ 140737488355328) (w : World) (hl : InsRow w w.heap.size v l) (hv : validB l = true) (hd : isTree d = true) (hbb : validB (specL d l) = true) :
    Calls Try.prog 44 #[v, .string d] w fun e w' => ∃ v', e = .returned (.tuple #[v', .int .i64 0]) ∧ OwnI w' w.heap.size v' (specL d l) ∧ Below w.heap.size w w' := by
  have kv := codeValidP_at v l w hl _ hv
  have kt := treeValid_at d hds _ hd
  have hwf : ∀ x ∈ specL d l, x.wf := fun x hx => by rcases List.mem_append.1 hx with h | h; exact specH_wf d hds x h; exact hl.1 x h
  have hn4 := validB_len hv
  have hcells : inscells (specL d l) = inscells (specH d) ++ inscells l := by simp [specL, inscells]
  have hlen := specL_length d l
  have HC := Lib.hid hcells
  have HWF := Lib.hid hwf
  have HLEN := Lib.hid hlen
  have hl0 := hl
  obtain ⟨n, hn'⟩ : ∃ n, l.length = n := ⟨_, rfl⟩
  obtain ⟨ao, cap, rfl⟩ := hl.len
  rw [hn'] at hl0 kv hn4 ⊢
  have HN := Lib.hid hn'
  have hone := inscells_one l
  have HONE := Lib.hid hone
  clear hv hd hwf hcells hlen hl hn' hone
  have HBB := Lib.hid hbb
  clear hbb
  go_enter Try.func44, Try.ntmps44
  go_wp2_with fail
  refine kv.mono ?_
  rintro e w1 ⟨rfl, k1⟩
  go_wp2_with fail
  refine (kt _).mono ?_
  rintro e w2 ⟨rfl, k2⟩
  have hb2 := k1.trans (k2.mono k1.size)
  have hl2 := (hl0.below hb2).mono hb2.size
  have hown := specH_own w2 d
  have hb3 := hb2.alloc hb2.size (.cells #[.int .i64 0, .int .i64 1, .int .i64 0, .int .i64 0, .string d, .int .i64 2, .int .i64 0, .int .i64 1, .int .i64 0, .string ⟨#[]⟩, .int .i64 0, .int .i64 1, .int .i64 0, .int .i64 0, .string ⟨#[48]⟩] 41)
  have hs2 : Src (w2.alloc (.cells #[.int .i64 0, .int .i64 1, .int .i64 0, .int .i64 0, .string d, .int .i64 2, .int .i64 0, .int .i64 1, .int .i64 0, .string ⟨#[]⟩, .int .i64 0, .int .i64 1, .int .i64 0, .int .i64 0, .string ⟨#[48]⟩] 41)) (.slice ao n cap) n 5 (inscells l) := by
    have := (hl0.below hb3).src
    rwa [HN.out] at this
  have hsz := hb2.size
  clear kv kt k1 k2 hb2 hl2 hl0
  go_wp2_with (at_builtin; refine app_src el_ins (vx := .slice ao n cap) rfl _ _ rfl rfl hown rfl hs2 HONE.out ?c2 ?c3 (by simp) hb3 hsz ?_)
  case c2 => omega
  case c3 => unfold maxLen; omega
  intro v' w3 hown3 hb4 hg
  have hrow : InsRow w3 w3.heap.size v' (specL d l) := InsRow.of_own (n := 3 + n) (by rw [HC.out]; exact hown3) HWF.out (by rw [HLEN.out, HN.out]; omega)
  have kv2 := codeValidP_at v' _ w3 hrow _ HBB.out
  have hO := Lib.hid (OwnI.lower (B := w2.heap.size) (B' := w.heap.size) ⟨by rw [HC.out, HLEN.out, HN.out, Nat.add_comm n 3]; exact hown3, HWF.out⟩ hsz)
  obtain ⟨a2, c2, rfl⟩ := own_len hown3
  clear hown hs2 hb3 hown3 hg hrow
  go_wp2_with fail
  refine kv2.mono ?_
  rintro e w4 ⟨rfl, k4⟩
  clear kv2
  go_wp2
  go_ret2
  exact ⟨_, rfl, hO.out.below k4, hb4.trans (k4.mono hb4.size)⟩

set_option maxRecDepth 20000 in
set_option maxHeartbeats 4000000 in
theorem know_own1 (qa : Option Addr) (qn qc : Nat) (q : List Ins) (w : World) (hhQ : InsRow w w.heap.size (.slice qa qn qc) q) (HV : Hid (validB q = true)) (HR : Hid (validB (knowR q) = true)) (HC : Hid (codeN (knowR q) ≤ 2000000)) (HS : Hid (validB (specL (codeOf (knowR q)) (knowR q)) = true)) (HD : Hid (codeN (knowL q) ≤ 2000000)) :
    Calls Try.prog 117 #[.slice qa qn qc] w fun e w' => ∃ v, e = .returned (.tuple #[v, .int .i64 0]) ∧ OwnI w' w.heap.size v (knowL q) ∧ Below w.heap.size w w' := by
  have hQ := Lib.hid hhQ
  clear hhQ
  have kv := codeValidP_at _ q w hQ.out _ HV.out
  have ch := Lib.hid (Below.refl w.heap.size w)
  go_enter Try.func117, Try.ntmps117
  go_wp2_with fail
  refine (kv).mono ?_
  rintro e w1 ⟨rfl, hq⟩
  have hQ := Lib.hid ((hQ.out.below hq).mono hq.size)
  have ch := Lib.hid (ch.out.trans (hq.mono ch.out.size))
  clear hq
  clear kv
  go_wp2_with fail
  refine (before_any _).mono ?_
  rintro e w2 ⟨ba, bc, rfl, hB, hq⟩
  have hQ := Lib.hid ((hQ.out.below hq).mono hq.size)
  have ch := Lib.hid (ch.out.trans (hq.mono ch.out.size))
  clear hq
  have hB := Lib.hid hB
  go_wp2_with fail
  have hL0 := ProgsRow.lit (w := w2) [.slice ba 16 bc, .slice qa qn qc] [behindL, q] rfl (by simp) (fun j u l hu hl => match j, u, l, hu, hl with | 0, _, _, hu, hl => by cases hu; cases hl; exact hB.out | 1, _, _, hu, hl => by cases hu; cases hl; exact hQ.out)
  obtain ⟨w3, hW⟩ : ∃ B, w2.alloc (.cells #[.slice ba 16 bc, .slice qa qn qc] 23) = B := ⟨_, rfl⟩
  rw [hW]
  have hq : Below w2.heap.size w2 w3 := by rw [← hW]; exact (Below.refl _ _).alloc (Nat.le_refl _) _
  have hL := Lib.hid (show ProgsRow w3 w3.heap.size (.slice (some ⟨w2.heap.size, 0, none⟩) 2 2) [behindL, q] by rw [← hW]; exact hL0)
  clear hW hL0
  have hQ := Lib.hid ((hQ.out.below hq).mono hq.size)
  have hB := Lib.hid ((hB.out.below hq).mono hq.size)
  have ch := Lib.hid (ch.out.trans (hq.mono ch.out.size))
  clear hq
  have hq4 := validB_len HV.out
  have kj := join_any _ [behindL, q] _ hL.out (by simp [lenS, behindL, beforeL, clearL_length]; omega)
  rw [show ([behindL, q] : List (List Ins)).flatten = knowR q by simp [knowR], HR.out] at kj
  obtain ⟨N, hN⟩ : ∃ N, lenS [behindL, q] = N := ⟨_, rfl⟩
  rw [hN] at kj
  clear hN hq4
  refine (kj).mono ?_
  rintro e w4 ⟨ja, jc, rfl, hJ, hq⟩
  have hQ := Lib.hid ((hQ.out.below hq).mono hq.size)
  have hB := Lib.hid ((hB.out.below hq).mono hq.size)
  have hL := Lib.hid ((hL.out.below hq).mono hq.size)
  have ch := Lib.hid (ch.out.trans (hq.mono ch.out.size))
  clear hq
  have hJ := Lib.hid hJ
  clear kj hL hB
  go_wp2_with fail
  refine (code_fine _ (knowR q) _ hJ.out HR.out HC.out).mono ?_
  rintro e w5 ⟨rfl, hq⟩
  have hQ := Lib.hid ((hQ.out.below hq).mono hq.size)
  have hJ := Lib.hid ((hJ.out.below hq).mono hq.size)
  have ch := Lib.hid (ch.out.trans (hq.mono ch.out.size))
  clear hq
  have htree := codeOf_tree (validB_all HR.out) HC.out
  have hds : (codeOf (knowR q)).size ≤ 140737488355328 := by rw [codeOf_size]; have h := HC.out; unfold codeN at h; omega
  have hch0 := Lib.hid ch.out.size
  go_wp2_with fail
  refine (spec_own _ (knowR q) (codeOf (knowR q)) hds _ hJ.out HR.out htree HS.out).mono ?_
  rintro e w6 ⟨vs, rfl, hS, hq⟩
  have hQ := Lib.hid ((hQ.out.below hq).mono hq.size)
  have hJ := Lib.hid ((hJ.out.below hq).mono hq.size)
  have ch := Lib.hid (ch.out.trans (hq.mono ch.out.size))
  clear hq
  have hS := Lib.hid (OwnI.lower (B' := w.heap.size) hS hch0.out)
  go_wp2_with fail
  refine (code_fine _ (knowL q) _ (hS.out.row (by have := validB_len HS.out; show (specL (codeOf (knowR q)) (knowR q)).length ≤ _; omega)) HS.out HD.out).mono ?_
  rintro e w7 ⟨rfl, hq⟩
  have hQ := Lib.hid ((hQ.out.below hq).mono hq.size)
  have hJ := Lib.hid ((hJ.out.below hq).mono hq.size)
  have hS := Lib.hid (hS.out.below hq)
  have ch := Lib.hid (ch.out.trans (hq.mono ch.out.size))
  clear hq
  go_wp2
  refine bodyPost_ret (v := .tuple #[vs, .int .i64 0]) (by simp [results, Try.results117, go_sem]) rfl ?_
  exact ⟨_, rfl, hS.out, ch.out⟩

theorem knowE_zero {q : List Ins} (h : knowE q = 0) : validB q = true ∧ validB (knowR q) = true ∧ codeN (knowR q) ≤ 2000000 ∧ validB (knowL q) = true ∧ codeN (knowL q) ≤ 2000000 := by
  unfold knowE at h
  cases hv : validB q with
  | false => rw [if_pos hv] at h; cases h
  | true =>
    rw [if_neg (by rw [hv]; simp)] at h
    by_cases hc : validB (knowR q) = true ∧ codeN (knowR q) ≤ 2000000 ∧ validB (knowL q) = true ∧ codeN (knowL q) ≤ 2000000
    · exact ⟨rfl, hc⟩
    · rw [if_neg hc] at h; cases h
theorem know_own (v : Value) (q : List Ins) (w : World) (hq : InsRow w w.heap.size v q) (hk : knowE q = 0) :
    Calls Try.prog 117 #[v] w fun e w' => ∃ v, e = .returned (.tuple #[v, .int .i64 0]) ∧ OwnI w' w.heap.size v (knowL q) ∧ Below w.heap.size w w' := by
  obtain ⟨qa, qc, rfl⟩ := hq.len
  obtain ⟨h1, h2, h3, h4, h5⟩ := knowE_zero hk
  exact know_own1 _ _ _ q w hq (Lib.hid h1) (Lib.hid h2) (Lib.hid h3) (Lib.hid h4) (Lib.hid h5)

end Go.Proofs.Ytlaeljkjdfffjaa

namespace Go.Proofs.Ytlaeljkjdfffjaa
open Go.RowKit

end Go.Proofs.Ytlaeljkjdfffjaa

namespace Go.Proofs.Ytlaeljkjdfffjaa
open Go.RowKit

/-- What Know hands back: the program, or nothing. -/
def knowD (q : List Ins) : List Ins := if knowE q = 0 then knowL q else []
theorem knowD_len (q : List Ins) : (knowD q).length ≤ 4000 := by
  unfold knowD
  split
  · rename_i h
    exact validB_len (knowE_zero h).2.2.2.1
  · simp
theorem know_due (en : Int) (v : Value) (q : List Ins) (w : World) (hq : InsRow w w.heap.size v q) (he : knowE q = en) :
    Calls Try.prog 117 #[v] w fun e w' => ∃ v', e = .returned (.tuple #[v', .int .i64 en]) ∧ OwnI w' w.heap.size v' (knowD q) ∧ Below w.heap.size w w' := by
  unfold knowD
  by_cases h : knowE q = 0
  · refine (know_own v q w hq h).mono ?_
    rintro e w' ⟨v', h1, h2, h3⟩
    rw [if_pos h]
    exact ⟨v', by rw [h1, ← he, h], h2, h3⟩
  · refine (know_any v q w hq).mono ?_
    rintro e w' ⟨v', h1, h2, h3⟩
    rw [if_neg h]
    obtain rfl := h2.2 h
    exact ⟨_, by rw [h1, he], OwnI.nil _ _, h3⟩
theorem knowE_ne {q : List Ins} (hv : validB q = true) (h : ¬ knowE q = 0) : knowE q = 3 := by
  unfold knowE at h ⊢
  rw [if_neg (by rw [hv]; simp)] at h ⊢
  split at h
  · exact absurd rfl h
  · rename_i hc
    rw [if_neg hc]
/-- head 0 0 -/
def headI : Ins := ⟨3, 0, 0, 0, ⟨#[]⟩⟩
theorem headI_wf : headI.wf := wf_lit _ _ _ _ _ (by unfold i64; decide) (by unfold i64; decide) (by unfold i64; decide) (by unfold i64; decide) (by decide)
theorem knowE_head : knowE [headI] = 0 := by decide +kernel
theorem knowD_head : knowD [headI] = knowL [headI] := if_pos knowE_head
theorem self7_any (w : World) : Calls Try.prog 118 #[] w fun e w' => ∃ v, e = .returned v ∧ OwnI w' w.heap.size v (knowD [headI]) ∧ Below w.heap.size w w' := by
  have ch := Lib.hid (Below.refl w.heap.size w)
  go_enter Try.func118, Try.ntmps118
  go_wp2_with fail
  obtain ⟨w1, hW⟩ : ∃ B, w.alloc (.cells #[.int .i64 3, .int .i64 0, .int .i64 0, .int .i64 0, .string ⟨#[]⟩] 41) = B := ⟨_, rfl⟩
  rw [hW]
  have hq : Below w.heap.size w w1 := by rw [← hW]; exact (Below.refl _ _).alloc (Nat.le_refl _) _
  have hQ := Lib.hid (show InsRow w1 w1.heap.size (.slice (some ⟨w.heap.size, 0, none⟩) 1 1) [headI] by rw [← hW]; exact (OwnI.lit w [headI] (by simp; exact headI_wf) (by simp)).row (by simp))
  clear hW
  have ch := Lib.hid (ch.out.trans (hq.mono ch.out.size))
  clear hq
  have hs0 := Lib.hid ch.out.size
  go_wp2_with fail
  refine (know_due 0 _ [headI] _ hQ.out knowE_head).mono ?_
  rintro e w2 ⟨v, rfl, hO, hq⟩
  have hQ := Lib.hid ((hQ.out.below hq).mono hq.size)
  have ch := Lib.hid (ch.out.trans (hq.mono ch.out.size))
  clear hq
  have hO := Lib.hid (OwnI.lower (B' := w.heap.size) hO hs0.out)
  go_wp2
  go_ret
  exact ⟨_, rfl, hO.out, ch.out⟩
end Go.Proofs.Ytlaeljkjdfffjaa

namespace Go.Proofs.Ytlaeljkjdfffjaa
open Go.RowKit

inductive Runs (P : List Ins) : Nat → St → St → Prop
  | refl (s : St) : Runs P 0 s s
  | step {m : Nat} {s t u : St} (h : s.pos ≠ P.length) (hs : stepP P s = some t) (r : Runs P m t u) : Runs P (m + 1) s u
theorem Runs.trans {P : List Ins} {a b : Nat} {s t u : St} (h : Runs P a s t) (g : Runs P b t u) : Runs P (a + b) s u := by
  induction h with
  | refl => rwa [Nat.zero_add]
  | step h hs _ ih => rw [Nat.add_right_comm]; exact .step h hs (ih g)
theorem Runs.one {P : List Ins} {s t : St} {x : Ins} (hx : P[s.pos]? = some x) (hs : stepX x s = some t) : Runs P 1 s t := by
  have hl := (List.getElem?_eq_some_iff.1 hx).1
  exact .step (by omega) (by unfold stepP; rw [hx]; exact hs) (.refl _)
theorem Runs.eq {P : List Ins} {m : Nat} {s t : St} (h : Runs P m s t) : ∀ f n, m ≤ f → goF P f n s = goF P (f - m) (n + m) t := by
  induction h with
  | refl => intro f n _; rfl
  | @step m s t u h hs _ ih =>
    intro f n hf
    obtain ⟨g, rfl⟩ : ∃ g, f = g + 1 := ⟨f - 1, by omega⟩
    rw [goF_step h hs, ih g (n + 1) (by omega), show g + 1 - (m + 1) = g - m by omega, show n + (m + 1) = n + 1 + m by omega]
theorem Runs.done {P : List Ins} {m : Nat} {s t : St} (h : Runs P m s t) (ht : t.pos = P.length) (f : Nat) (hf : m ≤ f) : goF P f 0 s = .done t m := by
  rw [h.eq f 0 hf, goF_done ht, Nat.zero_add]
theorem Runs.fuel {P : List Ins} {m : Nat} {s t : St} (h : Runs P m s t) (ht : t.pos ≠ P.length) : goF P m 0 s = .fuel t m := by
  rw [h.eq m 0 (Nat.le_refl _), Nat.sub_self, goF_zero ht, Nat.zero_add]
theorem Runs.big {P : List Ins} {m : Nat} {s t : St} (h : Runs P m s t) (ht : t.pos ≠ P.length) (hn : stepP P t = none) (f : Nat) (hf : m < f) : goF P f 0 s = .big := by
  obtain ⟨g, hg⟩ : ∃ g, f - m = g + 1 := ⟨f - m - 1, by omega⟩
  rw [h.eq f 0 (by omega), hg, goF_big ht hn]
/-- How a run goes. -/
theorem goF_how (l : List Ins) : ∀ (f n : Nat) (s : St),
    (∃ t m, goF l f n s = .done t (n + m) ∧ m ≤ f ∧ Runs l m s t ∧ t.pos = l.length) ∨
    (∃ t, goF l f n s = .fuel t (n + f) ∧ Runs l f s t ∧ t.pos ≠ l.length) ∨
    (∃ t m, goF l f n s = .big ∧ m < f ∧ Runs l m s t ∧ t.pos ≠ l.length ∧ stepP l t = none) := by
  intro f
  induction f with
  | zero =>
    intro n s
    by_cases hp : s.pos = l.length
    · exact .inl ⟨s, 0, goF_done hp, Nat.le_refl _, .refl _, hp⟩
    · exact .inr (.inl ⟨s, goF_zero hp, .refl _, hp⟩)
  | succ f ih =>
    intro n s
    by_cases hp : s.pos = l.length
    · exact .inl ⟨s, 0, goF_done hp, by omega, .refl _, hp⟩
    · cases hs : stepP l s with
      | none => exact .inr (.inr ⟨s, 0, goF_big hp hs, by omega, .refl _, hp, hs⟩)
      | some s1 =>
        rw [goF_step hp hs]
        rcases ih (n + 1) s1 with ⟨t, m, h1, h2, h3, h4⟩ | ⟨t, h1, h3, h4⟩ | ⟨t, m, h1, h2, h3, h4, h5⟩
        · exact .inl ⟨t, m + 1, by rw [h1, show n + 1 + m = n + (m + 1) by omega], by omega, .step hp hs h3, h4⟩
        · exact .inr (.inl ⟨t, by rw [h1, show n + 1 + f = n + (f + 1) by omega], .step hp hs h3, h4⟩)
        · exact .inr (.inr ⟨t, m + 1, h1, by omega, .step hp hs h3, h4, h5⟩)
theorem Runs.good {l : List Ins} (hv : rightAll l = true) {m : Nat} {s t : St} (h : Runs l m s t) (hg : Good l.length s) : Good l.length t := by
  induction h with
  | refl => exact hg
  | step h hs _ ih => exact ih (hg.step hv hs)

/-- The same, within another program. -/
theorem Seg.runs {P l : List Ins} {k : Nat} (h : Seg P k l) (hv : rightAll l = true) (hkl : k + l.length ≤ P.length) {m : Nat} {s t : St} (hR : Runs l m s t) : Runs P m ⟨k + s.pos, s.regs⟩ ⟨k + t.pos, t.regs⟩ := by
  induction hR with
  | refl => exact .refl _
  | @step m s t u hp hs _ ih =>
    have hlt : s.pos < l.length := by
      unfold stepP at hs
      cases hx : l[s.pos]? with
      | none => rw [hx] at hs; cases hs
      | some x => exact (List.getElem?_eq_some_iff.1 hx).1
    exact .step (by show k + s.pos ≠ P.length; omega) (by rw [h.step hv hlt, hs]; rfl) ih

/-- Registers that an instruction does not name. -/
theorem getR_app {A B : List Tr} {a : Int} (h : a.toNat < A.length) : getR (A ++ B) a = getR A a := by unfold getR; rw [List.getElem?_append_left h]
theorem setR_app {A B : List Tr} {a : Int} {t : Tr} (h : a.toNat < A.length) : setR (A ++ B) a t = setR A a t ++ B := by unfold setR; rw [List.set_append_left _ _ h]
theorem stepX_app {x : Ins} {A : List Tr} (hx : rX x < A.length) (p : Nat) (B : List Tr) : stepX x ⟨p, A ++ B⟩ = (stepX x ⟨p, A⟩).map fun s => ⟨s.pos, s.regs ++ B⟩ := by
  unfold rX at hx
  unfold stepX
  simp only
  by_cases h5 : x.op = 5
  · rw [if_pos h5] at hx
    rw [getR_app hx]
    simp only [h5]
    simp only [show ¬ (5 : Int) = 0 by decide, show ¬ (5 : Int) = 1 by decide, show ¬ (5 : Int) = 2 by decide, show ¬ (5 : Int) = 3 by decide, show ¬ (5 : Int) = 4 by decide, if_false]
    split <;> rfl
  · rw [if_neg h5] at hx
    have ha : x.a.toNat < A.length := by omega
    have hb : x.b.toNat < A.length := by omega
    have hc : x.c.toNat < A.length := by omega
    rw [getR_app ha, getR_app hb, getR_app hc, setR_app ha, setR_app ha, setR_app ha, setR_app ha, setR_app ha]
    split
    · rfl
    · split
      · rfl
      · split
        · split <;> rfl
        · split
          · rfl
          · split
            · rfl
            · split <;> rfl
theorem stepX_len {x : Ins} {s t : St} (h : stepX x s = some t) : t.regs.length = s.regs.length := by
  unfold stepX at h
  split at h
  · cases h; simp [setR]
  · split at h
    · cases h; simp [setR]
    · split at h
      · split at h
        · cases h; simp [setR]
        · cases h
      · split at h
        · cases h; simp [setR]
        · split at h
          · cases h; simp [setR]
          · split at h <;> cases h <;> rfl
theorem rX_le_most {l : List Ins} {x : Ins} (h : x ∈ l) : rX x ≤ mostN l := by
  unfold mostN
  have hm : rX x ∈ l.map rX := List.mem_map.2 ⟨x, h, rfl⟩
  revert hm
  generalize l.map rX = m
  intro hm
  induction m with
  | nil => cases hm
  | cons a m ih =>
    simp only [List.foldr_cons]
    rcases List.mem_cons.1 hm with h | h
    · omega
    · have := ih h; omega
theorem stepP_app {l : List Ins} {A : List Tr} (hA : mostN l < A.length) (p : Nat) (B : List Tr) : stepP l ⟨p, A ++ B⟩ = (stepP l ⟨p, A⟩).map fun s => ⟨s.pos, s.regs ++ B⟩ := by
  unfold stepP
  simp only
  cases hx : l[p]? with
  | none => rfl
  | some x => exact stepX_app (Nat.lt_of_le_of_lt (rX_le_most (List.mem_of_getElem? hx)) hA) p B
theorem stepP_len {l : List Ins} {s t : St} (h : stepP l s = some t) : t.regs.length = s.regs.length := by
  unfold stepP at h
  split at h
  · exact stepX_len h
  · cases h
/-- A run, whatever stands in the other registers. -/
theorem Runs.frame {l : List Ins} {m : Nat} {B : List Tr} : ∀ {s t : St}, Runs l m s t → ∀ {A : List Tr}, mostN l < A.length → s.regs = A ++ B →
    ∃ A', A'.length = A.length ∧ t.regs = A' ++ B ∧ ∀ C, Runs l m ⟨s.pos, A ++ C⟩ ⟨t.pos, A' ++ C⟩ := by
  intro s t h
  induction h with
  | refl s => intro A hA hs; exact ⟨A, rfl, hs, fun C => .refl _⟩
  | @step m s t u hp hs _ ih =>
    intro A hA hr
    have hs' : s = ⟨s.pos, A ++ B⟩ := by rw [← hr]
    rw [hs', stepP_app hA] at hs
    cases h1 : stepP l ⟨s.pos, A⟩ with
    | none => rw [h1] at hs; cases hs
    | some s1 =>
      rw [h1] at hs
      simp only [Option.map_some, Option.some.injEq] at hs
      have hl1 := stepP_len h1
      obtain ⟨A', h2, h3, h4⟩ := ih (A := s1.regs) (by rw [hl1]; exact hA) (by rw [← hs])
      refine ⟨A', by rw [h2, hl1], h3, fun C => .step hp (t := ⟨s1.pos, s1.regs ++ C⟩) ?_ ?_⟩
      · rw [stepP_app hA, h1]; rfl
      · have h5 := h4 C
        rwa [← hs] at h5

/-- Cleaned registers. -/
def Cleaned (m : Nat) (rest : List Tr) : Prop := rest.take m = List.replicate m .nil
theorem cleanRuns {P : List Ins} {k m : Nat} (h : Seg P k (cleanK m)) (a : Tr) (rest : List Tr) (hr : rest.length = 31) (hm : m < 32) : Runs P m ⟨k, a :: rest⟩ ⟨k + m, a :: (List.replicate m .nil ++ rest.drop m)⟩ := by
  have hmain : ∀ j, j ≤ m → Runs P j ⟨k, a :: rest⟩ ⟨k + j, a :: (List.replicate j .nil ++ rest.drop j)⟩ := by
    intro j
    induction j with
    | zero => intro _; exact .refl _
    | succ j ih =>
      intro hj
      refine (ih (by omega)).trans (Runs.one (x := setI (j + 1) ⟨#[48]⟩) (h j _ (by unfold cleanK; rw [List.getElem?_map, List.getElem?_range (by omega)]; rfl)) ?_)
      unfold stepX setI
      simp only [if_true]
      have ht : toTr ⟨#[48]⟩ = .nil := by decide
      have hset : setR (a :: (List.replicate j .nil ++ rest.drop j)) ((j + 1 : Nat) : Int) .nil = a :: (List.replicate (j + 1) .nil ++ rest.drop (j + 1)) := by
        unfold setR
        rw [show ((j + 1 : Nat) : Int).toNat = j + 1 by omega, List.set_cons_succ, List.set_append_right _ _ (by simp), List.length_replicate, Nat.sub_self]
        have hd : rest.drop j = rest[j] :: rest.drop (j + 1) := List.drop_eq_getElem_cons (by omega)
        rw [hd, List.set_cons_zero, List.replicate_succ', List.append_assoc]
        rfl
      rw [ht, hset]
      rfl
  exact hmain m (Nat.le_refl _)
theorem cleaned_self (m : Nat) (rest : List Tr) : Cleaned m (List.replicate m .nil ++ rest.drop m) := by unfold Cleaned; rw [List.take_append_of_le_length (by simp)]; simp
theorem cleaned_keep {m r : Nat} {rest : List Tr} (_hr : rest.length = 31) (hm : m ≤ r) (_hm2 : m ≤ 31) : (List.replicate m .nil ++ rest.drop m)[r]? = rest[r]? := by
  rw [List.getElem?_append_right (by simpa using hm), List.getElem?_drop, List.length_replicate, show m + (r - m) = r by omega]

/-- A part, run on a tree. -/
def partR (l : List Ins) (F : Nat) (y : Tr) : Res := goF l F 0 (startS y)
/-- How a part goes within another program. -/
theorem part_how {P l : List Ins} {k : Nat} (h : Seg P k l) (hv : rightAll l = true) (hkl : k + l.length ≤ P.length) (F : Nat) (y : Tr) (hy : y.size ≤ 2000000) :
    (∃ m b, (partR l F y).run = (TS b, m, 0) ∧ m ≤ F ∧ b.size ≤ 2000000 ∧ ∀ rest : List Tr, rest.length = 31 → Cleaned (mostN l) rest → ∃ rest' : List Tr, rest'.length = 31 ∧ (∀ r, mostN l ≤ r → rest'[r]? = rest[r]?) ∧ Runs P m ⟨k, y :: rest⟩ ⟨k + l.length, b :: rest'⟩) ∨
    ((partR l F y).run = (⟨#[]⟩, 0, 7) ∧ ∀ rest : List Tr, rest.length = 31 → Cleaned (mostN l) rest → ∃ t, Runs P F ⟨k, y :: rest⟩ t ∧ t.pos ≠ P.length) ∨
    ((partR l F y).run = (⟨#[]⟩, 0, 3) ∧ ∀ rest : List Tr, rest.length = 31 → Cleaned (mostN l) rest → ∃ m t, m < F ∧ Runs P m ⟨k, y :: rest⟩ t ∧ t.pos ≠ P.length ∧ stepP P t = none) := by
  have hm := mostN_lt32 hv
  -- the registers that the program names
  have hA : mostN l < (y :: List.replicate (mostN l) Tr.nil).length := by simp
  have hsp : (startS y).regs = (y :: List.replicate (mostN l) .nil) ++ List.replicate (31 - mostN l) .nil := by
    show y :: List.replicate 31 Tr.nil = _
    rw [List.cons_append, ← List.replicate_append_replicate.symm, show mostN l + (31 - mostN l) = 31 by omega] <;> rfl
  have hrest : ∀ rest : List Tr, rest.length = 31 → Cleaned (mostN l) rest → y :: rest = (y :: List.replicate (mostN l) .nil) ++ rest.drop (mostN l) := by
    intro rest hr hc
    unfold Cleaned at hc
    rw [List.cons_append, ← hc, List.take_append_drop]
  have hbound : ∀ {m : Nat} {t : St}, Runs l m (startS y) t → t.pos ≤ l.length := fun hR => (hR.good hv (Good.start _ y hy)).1
  rcases goF_how l F 0 (startS y) with ⟨t, m, h1, h2, h3, h4⟩ | ⟨t, h1, h3, h4⟩ | ⟨t, m, h1, h2, h3, h4, h5⟩
  · obtain ⟨A', a1, a2, a3⟩ := h3.frame hA hsp
    obtain ⟨b, A'', rfl⟩ : ∃ b A'', A' = b :: A'' := by
      cases A' with
      | nil => simp at a1
      | cons b A'' => exact ⟨b, A'', rfl⟩
    refine .inl ⟨m, b, ?_, h2, (h3.good hv (Good.start _ y hy)).2.2 b (by rw [a2]; simp), fun rest hr hc => ⟨A'' ++ rest.drop (mostN l), ?_, ?_, ?_⟩⟩
    · unfold partR
      rw [h1, Nat.zero_add]
      show (TS (getR t.regs 0), m, 0) = _
      rw [a2]; rfl
    · simp only [List.length_cons, List.length_replicate] at a1
      simp; omega
    · intro r hle
      simp only [List.length_cons, List.length_replicate] at a1
      rw [List.getElem?_append_right (by omega), List.getElem?_drop, show mostN l + (r - A''.length) = r by omega]
    · have := h.runs hv hkl (a3 (rest.drop (mostN l)))
      rw [hrest rest hr hc]
      rw [h4] at this
      exact this
  · obtain ⟨A', a1, a2, a3⟩ := h3.frame hA hsp
    refine .inr (.inl ⟨by unfold partR; rw [h1]; rfl, fun rest hr hc => ⟨⟨k + t.pos, A' ++ rest.drop (mostN l)⟩, ?_, ?_⟩⟩)
    · rw [hrest rest hr hc]; exact h.runs hv hkl (a3 (rest.drop (mostN l)))
    · have := hbound h3
      show k + t.pos ≠ P.length; omega
  · obtain ⟨A', a1, a2, a3⟩ := h3.frame hA hsp
    have hb := hbound h3
    have hA' : mostN l < A'.length := by rw [a1]; exact hA
    have hn : stepP l ⟨t.pos, A'⟩ = none := by
      have ht : t = ⟨t.pos, A' ++ List.replicate (31 - mostN l) .nil⟩ := by rw [← a2]
      rw [ht, stepP_app hA'] at h5
      simpa using h5
    refine .inr (.inr ⟨by unfold partR; rw [h1]; rfl, fun rest hr hc => ⟨m, ⟨k + t.pos, A' ++ rest.drop (mostN l)⟩, h2, ?_, ?_, ?_⟩⟩)
    · rw [hrest rest hr hc]; exact h.runs hv hkl (a3 (rest.drop (mostN l)))
    · show k + t.pos ≠ P.length; omega
    · have hlt : t.pos < l.length := by omega
      have h6 : stepP l ⟨t.pos, A' ++ rest.drop (mostN l)⟩ = none := by rw [stepP_app hA', hn]; rfl
      have h7 := h.step hv (s := ⟨t.pos, A' ++ rest.drop (mostN l)⟩) hlt
      rw [h6] at h7
      exact h7

end Go.Proofs.Ytlaeljkjdfffjaa

namespace Go.Proofs.Ytlaeljkjdfffjaa
open Go.RowKit

theorem tr_100 : toTr ⟨#[49, 48, 48]⟩ = .pair .nil .nil := by decide +kernel
theorem tr_clr : toTr ⟨#[49, 48, 49, 49, 48, 48, 48]⟩ = .pair .nil (.pair (.pair .nil .nil) .nil) := by decide +kernel
theorem tr_put : toTr ⟨#[49, 49, 48, 49, 48, 48, 49, 48, 49, 49, 48, 48, 48]⟩ = .pair (.num 2) (.pair .nil (.pair (.pair .nil .nil) .nil)) := by decide +kernel
theorem tr_nil : toTr ⟨#[48]⟩ = .nil := by decide +kernel
/-- What the code of the whole is, as a tree. -/
theorem knowL_code (q : List Ins) : codeT (knowL q) = .pair (insT (setI 1 (codeOf (knowR q)))) (.pair (insT (consI 0 1 0)) (.pair (insT (setI 1 ⟨#[48]⟩)) (codeT (knowR q)))) := rfl
theorem insT_set (d : ByteArray) : insT (setI 1 d) = .pair .nil (.pair (.pair .nil .nil) (toTr d)) := rfl
theorem insT_cons : insT (consI 0 1 0) = .pair (.num 2) (.pair .nil (.pair (.pair .nil .nil) .nil)) := rfl
theorem set_run {P : List Ins} {p : Nat} (a : Nat) (d : ByteArray) (v : Tr) (rs rs' : List Tr) (hx : P[p]? = some (setI a d)) (hv : toTr d = v) (hr : setR rs (a : Int) v = rs') : Runs P 1 ⟨p, rs⟩ ⟨p + 1, rs'⟩ := by
  refine Runs.one hx ?_
  subst hv; subst hr
  rfl
theorem cons_run {P : List Ins} {p : Nat} (a b c : Nat) (u v : Tr) (rs rs' : List Tr) (hx : P[p]? = some (consI a b c)) (hu : getR rs (b : Int) = u) (hv : getR rs (c : Int) = v) (hs : (Tr.pair u v).size ≤ 2000000) (hr : setR rs (a : Int) (.pair u v) = rs') : Runs P 1 ⟨p, rs⟩ ⟨p + 1, rs'⟩ := by
  refine Runs.one hx ?_
  subst hu; subst hv; subst hr
  unfold stepX consI
  simp [hs]
theorem head_run {P : List Ins} {p : Nat} (a b : Nat) (v : Tr) (rs rs' : List Tr) (hx : P[p]? = some ⟨3, a, b, 0, ⟨#[]⟩⟩) (hv : (getR rs (b : Int)).hd = v) (hr : setR rs (a : Int) v = rs') : Runs P 1 ⟨p, rs⟩ ⟨p + 1, rs'⟩ := by
  refine Runs.one hx ?_
  subst hv; subst hr
  rfl
theorem tail_run {P : List Ins} {p : Nat} (a b : Nat) (v : Tr) (rs rs' : List Tr) (hx : P[p]? = some ⟨4, a, b, 0, ⟨#[]⟩⟩) (hv : (getR rs (b : Int)).tl = v) (hr : setR rs (a : Int) v = rs') : Runs P 1 ⟨p, rs⟩ ⟨p + 1, rs'⟩ := by
  refine Runs.one hx ?_
  subst hv; subst hr
  rfl
def knowH (q : List Ins) : List Ins := [setI 1 (codeOf (knowR q)), consI 0 1 0, setI 1 ⟨#[48]⟩, ⟨3, 2, 0, 0, ⟨#[]⟩⟩, ⟨4, 3, 0, 0, ⟨#[]⟩⟩, setI 4 ⟨#[49, 48, 48]⟩, consI 4 4 2, consI 4 1 4, setI 5 ⟨#[49, 48, 49, 49, 48, 48, 48]⟩, consI 5 5 2, setI 6 ⟨#[49, 49, 48, 49, 48, 48, 49, 48, 49, 49, 48, 48, 48]⟩, consI 5 6 5, consI 5 4 5, consI 0 5 3, setI 2 ⟨#[48]⟩, setI 3 ⟨#[48]⟩, setI 4 ⟨#[48]⟩, setI 5 ⟨#[48]⟩, setI 6 ⟨#[48]⟩]
theorem knowL_heads (q : List Ins) : knowL q = knowH q ++ q := rfl
theorem know_at (q : List Ins) (k : Nat) (x : Ins) (h : (knowH q)[k]? = some x) : (knowL q)[k]? = some x := by
  rw [knowL_heads, List.getElem?_append_left (List.getElem?_eq_some_iff.1 h).1]; exact h
theorem known_head (q : List Ins) (t Y C : Tr) (hY : toTr (codeOf (knowR q)) = Y) (hC : C = .pair (.pair .nil (.pair (.pair .nil .nil) Y)) (.pair (.pair (.num 2) (.pair .nil (.pair (.pair .nil .nil) .nil))) (.pair (.pair .nil (.pair (.pair .nil .nil) .nil)) Y))) (hs : (Tr.pair C t).size ≤ 2000000) (R : List Tr) :
    Runs (knowL q) 19 ⟨0, [t, .nil, .nil, .nil, .nil, .nil, .nil] ++ R⟩ ⟨19, [.pair C t, .nil, .nil, .nil, .nil, .nil, .nil] ++ R⟩ := by
  have hn2 : (Tr.num 2).size = 5 := rfl
  have hs1 : 30 + 2 * Y.size + t.size ≤ (Tr.pair C t).size := by rw [hC]; simp [Tr.size, hn2]; omega
  have r0 : Runs (knowL q) 1 ⟨0, [(t), (.nil), (.nil), (.nil), (.nil), (.nil), (.nil)] ++ R⟩ ⟨1, [(t), (Y), (.nil), (.nil), (.nil), (.nil), (.nil)] ++ R⟩ := set_run 1 (codeOf (knowR q)) (Y) _ _ (know_at q 0 _ rfl) hY rfl
  have r1 : Runs (knowL q) 1 ⟨1, [(t), (Y), (.nil), (.nil), (.nil), (.nil), (.nil)] ++ R⟩ ⟨2, [(.pair (Y) (t)), (Y), (.nil), (.nil), (.nil), (.nil), (.nil)] ++ R⟩ := cons_run 0 1 0 (Y) (t) _ _ (know_at q 1 _ rfl) rfl rfl (by simp only [Tr.size]; omega) rfl
  have r2 : Runs (knowL q) 1 ⟨2, [(.pair (Y) (t)), (Y), (.nil), (.nil), (.nil), (.nil), (.nil)] ++ R⟩ ⟨3, [(.pair (Y) (t)), (.nil), (.nil), (.nil), (.nil), (.nil), (.nil)] ++ R⟩ := set_run 1 ⟨#[48]⟩ (.nil) _ _ (know_at q 2 _ rfl) tr_nil rfl
  have r3 : Runs (knowL q) 1 ⟨3, [(.pair (Y) (t)), (.nil), (.nil), (.nil), (.nil), (.nil), (.nil)] ++ R⟩ ⟨4, [(.pair (Y) (t)), (.nil), (Y), (.nil), (.nil), (.nil), (.nil)] ++ R⟩ := head_run 2 0 _ _ _ (know_at q 3 _ rfl) rfl rfl
  have r4 : Runs (knowL q) 1 ⟨4, [(.pair (Y) (t)), (.nil), (Y), (.nil), (.nil), (.nil), (.nil)] ++ R⟩ ⟨5, [(.pair (Y) (t)), (.nil), (Y), (t), (.nil), (.nil), (.nil)] ++ R⟩ := tail_run 3 0 _ _ _ (know_at q 4 _ rfl) rfl rfl
  have r5 : Runs (knowL q) 1 ⟨5, [(.pair (Y) (t)), (.nil), (Y), (t), (.nil), (.nil), (.nil)] ++ R⟩ ⟨6, [(.pair (Y) (t)), (.nil), (Y), (t), (.pair .nil .nil), (.nil), (.nil)] ++ R⟩ := set_run 4 ⟨#[49, 48, 48]⟩ (.pair .nil .nil) _ _ (know_at q 5 _ rfl) tr_100 rfl
  have r6 : Runs (knowL q) 1 ⟨6, [(.pair (Y) (t)), (.nil), (Y), (t), (.pair .nil .nil), (.nil), (.nil)] ++ R⟩ ⟨7, [(.pair (Y) (t)), (.nil), (Y), (t), (.pair (.pair .nil .nil) (Y)), (.nil), (.nil)] ++ R⟩ := cons_run 4 4 2 (.pair .nil .nil) (Y) _ _ (know_at q 6 _ rfl) rfl rfl (by simp only [Tr.size]; omega) rfl
  have r7 : Runs (knowL q) 1 ⟨7, [(.pair (Y) (t)), (.nil), (Y), (t), (.pair (.pair .nil .nil) (Y)), (.nil), (.nil)] ++ R⟩ ⟨8, [(.pair (Y) (t)), (.nil), (Y), (t), (.pair (.nil) (.pair (.pair .nil .nil) (Y))), (.nil), (.nil)] ++ R⟩ := cons_run 4 1 4 (.nil) (.pair (.pair .nil .nil) (Y)) _ _ (know_at q 7 _ rfl) rfl rfl (by simp only [Tr.size]; omega) rfl
  have r8 : Runs (knowL q) 1 ⟨8, [(.pair (Y) (t)), (.nil), (Y), (t), (.pair (.nil) (.pair (.pair .nil .nil) (Y))), (.nil), (.nil)] ++ R⟩ ⟨9, [(.pair (Y) (t)), (.nil), (Y), (t), (.pair (.nil) (.pair (.pair .nil .nil) (Y))), (.pair .nil (.pair (.pair .nil .nil) .nil)), (.nil)] ++ R⟩ := set_run 5 ⟨#[49, 48, 49, 49, 48, 48, 48]⟩ (.pair .nil (.pair (.pair .nil .nil) .nil)) _ _ (know_at q 8 _ rfl) tr_clr rfl
  have r9 : Runs (knowL q) 1 ⟨9, [(.pair (Y) (t)), (.nil), (Y), (t), (.pair (.nil) (.pair (.pair .nil .nil) (Y))), (.pair .nil (.pair (.pair .nil .nil) .nil)), (.nil)] ++ R⟩ ⟨10, [(.pair (Y) (t)), (.nil), (Y), (t), (.pair (.nil) (.pair (.pair .nil .nil) (Y))), (.pair (.pair .nil (.pair (.pair .nil .nil) .nil)) (Y)), (.nil)] ++ R⟩ := cons_run 5 5 2 (.pair .nil (.pair (.pair .nil .nil) .nil)) (Y) _ _ (know_at q 9 _ rfl) rfl rfl (by simp only [Tr.size]; omega) rfl
  have r10 : Runs (knowL q) 1 ⟨10, [(.pair (Y) (t)), (.nil), (Y), (t), (.pair (.nil) (.pair (.pair .nil .nil) (Y))), (.pair (.pair .nil (.pair (.pair .nil .nil) .nil)) (Y)), (.nil)] ++ R⟩ ⟨11, [(.pair (Y) (t)), (.nil), (Y), (t), (.pair (.nil) (.pair (.pair .nil .nil) (Y))), (.pair (.pair .nil (.pair (.pair .nil .nil) .nil)) (Y)), (.pair (.num 2) (.pair .nil (.pair (.pair .nil .nil) .nil)))] ++ R⟩ := set_run 6 ⟨#[49, 49, 48, 49, 48, 48, 49, 48, 49, 49, 48, 48, 48]⟩ (.pair (.num 2) (.pair .nil (.pair (.pair .nil .nil) .nil))) _ _ (know_at q 10 _ rfl) tr_put rfl
  have r11 : Runs (knowL q) 1 ⟨11, [(.pair (Y) (t)), (.nil), (Y), (t), (.pair (.nil) (.pair (.pair .nil .nil) (Y))), (.pair (.pair .nil (.pair (.pair .nil .nil) .nil)) (Y)), (.pair (.num 2) (.pair .nil (.pair (.pair .nil .nil) .nil)))] ++ R⟩ ⟨12, [(.pair (Y) (t)), (.nil), (Y), (t), (.pair (.nil) (.pair (.pair .nil .nil) (Y))), (.pair (.pair (.num 2) (.pair .nil (.pair (.pair .nil .nil) .nil))) (.pair (.pair .nil (.pair (.pair .nil .nil) .nil)) (Y))), (.pair (.num 2) (.pair .nil (.pair (.pair .nil .nil) .nil)))] ++ R⟩ := cons_run 5 6 5 (.pair (.num 2) (.pair .nil (.pair (.pair .nil .nil) .nil))) (.pair (.pair .nil (.pair (.pair .nil .nil) .nil)) (Y)) _ _ (know_at q 11 _ rfl) rfl rfl (by simp only [Tr.size, hn2]; omega) rfl
  have r12 : Runs (knowL q) 1 ⟨12, [(.pair (Y) (t)), (.nil), (Y), (t), (.pair (.nil) (.pair (.pair .nil .nil) (Y))), (.pair (.pair (.num 2) (.pair .nil (.pair (.pair .nil .nil) .nil))) (.pair (.pair .nil (.pair (.pair .nil .nil) .nil)) (Y))), (.pair (.num 2) (.pair .nil (.pair (.pair .nil .nil) .nil)))] ++ R⟩ ⟨13, [(.pair (Y) (t)), (.nil), (Y), (t), (.pair (.nil) (.pair (.pair .nil .nil) (Y))), (.pair (.pair (.nil) (.pair (.pair .nil .nil) (Y))) (.pair (.pair (.num 2) (.pair .nil (.pair (.pair .nil .nil) .nil))) (.pair (.pair .nil (.pair (.pair .nil .nil) .nil)) (Y)))), (.pair (.num 2) (.pair .nil (.pair (.pair .nil .nil) .nil)))] ++ R⟩ := cons_run 5 4 5 (.pair (.nil) (.pair (.pair .nil .nil) (Y))) (.pair (.pair (.num 2) (.pair .nil (.pair (.pair .nil .nil) .nil))) (.pair (.pair .nil (.pair (.pair .nil .nil) .nil)) (Y))) _ _ (know_at q 12 _ rfl) rfl rfl (by simp only [Tr.size, hn2]; omega) rfl
  have r13 : Runs (knowL q) 1 ⟨13, [(.pair (Y) (t)), (.nil), (Y), (t), (.pair (.nil) (.pair (.pair .nil .nil) (Y))), (.pair (.pair (.nil) (.pair (.pair .nil .nil) (Y))) (.pair (.pair (.num 2) (.pair .nil (.pair (.pair .nil .nil) .nil))) (.pair (.pair .nil (.pair (.pair .nil .nil) .nil)) (Y)))), (.pair (.num 2) (.pair .nil (.pair (.pair .nil .nil) .nil)))] ++ R⟩ ⟨14, [(.pair (.pair (.pair (.nil) (.pair (.pair .nil .nil) (Y))) (.pair (.pair (.num 2) (.pair .nil (.pair (.pair .nil .nil) .nil))) (.pair (.pair .nil (.pair (.pair .nil .nil) .nil)) (Y)))) (t)), (.nil), (Y), (t), (.pair (.nil) (.pair (.pair .nil .nil) (Y))), (.pair (.pair (.nil) (.pair (.pair .nil .nil) (Y))) (.pair (.pair (.num 2) (.pair .nil (.pair (.pair .nil .nil) .nil))) (.pair (.pair .nil (.pair (.pair .nil .nil) .nil)) (Y)))), (.pair (.num 2) (.pair .nil (.pair (.pair .nil .nil) .nil)))] ++ R⟩ := cons_run 0 5 3 (.pair (.pair (.nil) (.pair (.pair .nil .nil) (Y))) (.pair (.pair (.num 2) (.pair .nil (.pair (.pair .nil .nil) .nil))) (.pair (.pair .nil (.pair (.pair .nil .nil) .nil)) (Y)))) (t) _ _ (know_at q 13 _ rfl) rfl rfl (by rw [hC] at hs; exact hs) rfl
  have r14 : Runs (knowL q) 1 ⟨14, [(.pair (.pair (.pair (.nil) (.pair (.pair .nil .nil) (Y))) (.pair (.pair (.num 2) (.pair .nil (.pair (.pair .nil .nil) .nil))) (.pair (.pair .nil (.pair (.pair .nil .nil) .nil)) (Y)))) (t)), (.nil), (Y), (t), (.pair (.nil) (.pair (.pair .nil .nil) (Y))), (.pair (.pair (.nil) (.pair (.pair .nil .nil) (Y))) (.pair (.pair (.num 2) (.pair .nil (.pair (.pair .nil .nil) .nil))) (.pair (.pair .nil (.pair (.pair .nil .nil) .nil)) (Y)))), (.pair (.num 2) (.pair .nil (.pair (.pair .nil .nil) .nil)))] ++ R⟩ ⟨15, [(.pair (.pair (.pair (.nil) (.pair (.pair .nil .nil) (Y))) (.pair (.pair (.num 2) (.pair .nil (.pair (.pair .nil .nil) .nil))) (.pair (.pair .nil (.pair (.pair .nil .nil) .nil)) (Y)))) (t)), (.nil), (.nil), (t), (.pair (.nil) (.pair (.pair .nil .nil) (Y))), (.pair (.pair (.nil) (.pair (.pair .nil .nil) (Y))) (.pair (.pair (.num 2) (.pair .nil (.pair (.pair .nil .nil) .nil))) (.pair (.pair .nil (.pair (.pair .nil .nil) .nil)) (Y)))), (.pair (.num 2) (.pair .nil (.pair (.pair .nil .nil) .nil)))] ++ R⟩ := set_run 2 ⟨#[48]⟩ (.nil) _ _ (know_at q 14 _ rfl) tr_nil rfl
  have r15 : Runs (knowL q) 1 ⟨15, [(.pair (.pair (.pair (.nil) (.pair (.pair .nil .nil) (Y))) (.pair (.pair (.num 2) (.pair .nil (.pair (.pair .nil .nil) .nil))) (.pair (.pair .nil (.pair (.pair .nil .nil) .nil)) (Y)))) (t)), (.nil), (.nil), (t), (.pair (.nil) (.pair (.pair .nil .nil) (Y))), (.pair (.pair (.nil) (.pair (.pair .nil .nil) (Y))) (.pair (.pair (.num 2) (.pair .nil (.pair (.pair .nil .nil) .nil))) (.pair (.pair .nil (.pair (.pair .nil .nil) .nil)) (Y)))), (.pair (.num 2) (.pair .nil (.pair (.pair .nil .nil) .nil)))] ++ R⟩ ⟨16, [(.pair (.pair (.pair (.nil) (.pair (.pair .nil .nil) (Y))) (.pair (.pair (.num 2) (.pair .nil (.pair (.pair .nil .nil) .nil))) (.pair (.pair .nil (.pair (.pair .nil .nil) .nil)) (Y)))) (t)), (.nil), (.nil), (.nil), (.pair (.nil) (.pair (.pair .nil .nil) (Y))), (.pair (.pair (.nil) (.pair (.pair .nil .nil) (Y))) (.pair (.pair (.num 2) (.pair .nil (.pair (.pair .nil .nil) .nil))) (.pair (.pair .nil (.pair (.pair .nil .nil) .nil)) (Y)))), (.pair (.num 2) (.pair .nil (.pair (.pair .nil .nil) .nil)))] ++ R⟩ := set_run 3 ⟨#[48]⟩ (.nil) _ _ (know_at q 15 _ rfl) tr_nil rfl
  have r16 : Runs (knowL q) 1 ⟨16, [(.pair (.pair (.pair (.nil) (.pair (.pair .nil .nil) (Y))) (.pair (.pair (.num 2) (.pair .nil (.pair (.pair .nil .nil) .nil))) (.pair (.pair .nil (.pair (.pair .nil .nil) .nil)) (Y)))) (t)), (.nil), (.nil), (.nil), (.pair (.nil) (.pair (.pair .nil .nil) (Y))), (.pair (.pair (.nil) (.pair (.pair .nil .nil) (Y))) (.pair (.pair (.num 2) (.pair .nil (.pair (.pair .nil .nil) .nil))) (.pair (.pair .nil (.pair (.pair .nil .nil) .nil)) (Y)))), (.pair (.num 2) (.pair .nil (.pair (.pair .nil .nil) .nil)))] ++ R⟩ ⟨17, [(.pair (.pair (.pair (.nil) (.pair (.pair .nil .nil) (Y))) (.pair (.pair (.num 2) (.pair .nil (.pair (.pair .nil .nil) .nil))) (.pair (.pair .nil (.pair (.pair .nil .nil) .nil)) (Y)))) (t)), (.nil), (.nil), (.nil), (.nil), (.pair (.pair (.nil) (.pair (.pair .nil .nil) (Y))) (.pair (.pair (.num 2) (.pair .nil (.pair (.pair .nil .nil) .nil))) (.pair (.pair .nil (.pair (.pair .nil .nil) .nil)) (Y)))), (.pair (.num 2) (.pair .nil (.pair (.pair .nil .nil) .nil)))] ++ R⟩ := set_run 4 ⟨#[48]⟩ (.nil) _ _ (know_at q 16 _ rfl) tr_nil rfl
  have r17 : Runs (knowL q) 1 ⟨17, [(.pair (.pair (.pair (.nil) (.pair (.pair .nil .nil) (Y))) (.pair (.pair (.num 2) (.pair .nil (.pair (.pair .nil .nil) .nil))) (.pair (.pair .nil (.pair (.pair .nil .nil) .nil)) (Y)))) (t)), (.nil), (.nil), (.nil), (.nil), (.pair (.pair (.nil) (.pair (.pair .nil .nil) (Y))) (.pair (.pair (.num 2) (.pair .nil (.pair (.pair .nil .nil) .nil))) (.pair (.pair .nil (.pair (.pair .nil .nil) .nil)) (Y)))), (.pair (.num 2) (.pair .nil (.pair (.pair .nil .nil) .nil)))] ++ R⟩ ⟨18, [(.pair (.pair (.pair (.nil) (.pair (.pair .nil .nil) (Y))) (.pair (.pair (.num 2) (.pair .nil (.pair (.pair .nil .nil) .nil))) (.pair (.pair .nil (.pair (.pair .nil .nil) .nil)) (Y)))) (t)), (.nil), (.nil), (.nil), (.nil), (.nil), (.pair (.num 2) (.pair .nil (.pair (.pair .nil .nil) .nil)))] ++ R⟩ := set_run 5 ⟨#[48]⟩ (.nil) _ _ (know_at q 17 _ rfl) tr_nil rfl
  have r18 : Runs (knowL q) 1 ⟨18, [(.pair (.pair (.pair (.nil) (.pair (.pair .nil .nil) (Y))) (.pair (.pair (.num 2) (.pair .nil (.pair (.pair .nil .nil) .nil))) (.pair (.pair .nil (.pair (.pair .nil .nil) .nil)) (Y)))) (t)), (.nil), (.nil), (.nil), (.nil), (.nil), (.pair (.num 2) (.pair .nil (.pair (.pair .nil .nil) .nil)))] ++ R⟩ ⟨19, [(.pair (.pair (.pair (.nil) (.pair (.pair .nil .nil) (Y))) (.pair (.pair (.num 2) (.pair .nil (.pair (.pair .nil .nil) .nil))) (.pair (.pair .nil (.pair (.pair .nil .nil) .nil)) (Y)))) (t)), (.nil), (.nil), (.nil), (.nil), (.nil), (.nil)] ++ R⟩ := set_run 6 ⟨#[48]⟩ (.nil) _ _ (know_at q 18 _ rfl) tr_nil rfl
  have h := ((((((((((((((((((r0).trans r1).trans r2).trans r3).trans r4).trans r5).trans r6).trans r7).trans r8).trans r9).trans r10).trans r11).trans r12).trans r13).trans r14).trans r15).trans r16).trans r17).trans r18
  rw [hC]
  exact h
theorem knowE_facts {q : List Ins} (h : knowE q = 0) : validB q = true ∧ validB (knowR q) = true ∧ validB (knowL q) = true ∧ codeN (knowL q) ≤ 2000000 := ⟨(knowE_zero h).1, (knowE_zero h).2.1, (knowE_zero h).2.2.2.1, (knowE_zero h).2.2.2.2⟩
theorem codeT_size {l : List Ins} (hv : validB l = true) : (codeT l).size = codeN l := by rw [← TS_size, ← codeOf_TS (validB_all hv), codeOf_size]; rfl
theorem knowR_tr {q : List Ins} (h : knowE q = 0) : toTr (codeOf (knowR q)) = codeT (knowR q) := by
  obtain ⟨h1, h2, h3, h4, h5⟩ := knowE_zero h
  rw [codeOf_TS (validB_all h2), toTr_TS _ (by rw [codeT_size h2]; exact h3)]
/-- The first 19 steps. -/
theorem known_start {q : List Ins} (h : knowE q = 0) (t : Tr) (hs : (Tr.pair (codeT (knowL q)) t).size ≤ 2000000) : Runs (knowL q) 19 (startS t) ⟨19, (startS (.pair (codeT (knowL q)) t)).regs⟩ := by
  have hY := knowR_tr h
  have := known_head q t (codeT (knowR q)) (codeT (knowL q)) hY (by rw [knowL_code, insT_set, insT_cons, insT_set, tr_nil, hY]) hs (List.replicate 25 .nil)
  exact this
/-- A program that does on one input what another one does on another input, after so many steps more. -/
def FollowP (P : List Ins) (t : Tr) (Q : List Ins) (u : Tr) (c : Nat) : Prop := ∀ F,
  (∃ s s' m, goF Q F 0 (startS u) = .done s m ∧ m ≤ F ∧ goF P (F + c) 0 (startS t) = .done s' (m + c) ∧ getR s'.regs 0 = getR s.regs 0) ∨
  (∃ s : St, goF Q F 0 (startS u) = .fuel s F ∧ ((∃ s', goF P (F + c) 0 (startS t) = .fuel s' (F + c)) ∨ goF P (F + c) 0 (startS t) = .big)) ∨
  (goF Q F 0 (startS u) = .big ∧ goF P (F + c) 0 (startS t) = .big)
theorem follow_of {P Q : List Ins} {t u : Tr} {c k : Nat} (hR : Runs P c (startS t) ⟨k, (startS u).regs⟩) (hseg : Seg P k Q) (hv : rightAll Q = true) (hend : P.length = k + Q.length) (hu : u.size ≤ 2000000) : FollowP P t Q u c := by
  intro F
  have hbound : ∀ {m : Nat} {s : St}, Runs Q m (startS u) s → s.pos ≤ Q.length := fun hq => (hq.good hv (Good.start _ u hu)).1
  have hin : ∀ {m : Nat} {s : St}, Runs Q m (startS u) s → Runs P (c + m) (startS t) ⟨k + s.pos, s.regs⟩ := fun hq => by
    have := hseg.runs hv (by omega) hq
    exact hR.trans this
  rcases goF_how Q F 0 (startS u) with ⟨s, m, h1, h2, h3, h4⟩ | ⟨s, h1, h3, h4⟩ | ⟨s, m, h1, h2, h3, h4, h5⟩
  · refine .inl ⟨s, ⟨k + s.pos, s.regs⟩, m, by rw [h1, Nat.zero_add], h2, ?_, rfl⟩
    rw [Nat.add_comm m c]
    exact (hin h3).done (by show k + s.pos = _; rw [h4, hend]) _ (by omega)
  · refine .inr (.inl ⟨s, by rw [h1, Nat.zero_add], .inl ⟨⟨k + s.pos, s.regs⟩, ?_⟩⟩)
    have hb := hbound h3
    rw [Nat.add_comm F c]
    exact (hin h3).fuel (by show k + s.pos ≠ _; omega)
  · refine .inr (.inr ⟨h1, ?_⟩)
    have hb := hbound h3
    refine (hin h3).big (by show k + s.pos ≠ _; omega) ?_ _ (by omega)
    have := hseg.step hv (s := s) (by omega)
    rw [h5] at this
    exact this
/-- P7.1. -/
theorem know_follow {q : List Ins} (h : knowE q = 0) (t : Tr) (hs : (Tr.pair (codeT (knowL q)) t).size ≤ 2000000) : FollowP (knowL q) t q (.pair (codeT (knowL q)) t) 19 := by
  have hq := (knowE_facts h).1
  refine follow_of (k := 19) (known_start h t hs) (Seg.right (knowH q) q) (validB_all hq) ?_ hs
  rw [knowL_heads]; simp [knowH]; omega
/-- P7.3. -/
theorem self_run (t : Tr) (hs : (Tr.pair (codeT (knowL [headI])) t).size ≤ 2000000) : ∃ s, goF (knowL [headI]) 100 0 (startS t) = .done s 20 ∧ getR s.regs 0 = codeT (knowL [headI]) := by
  have h1 := known_start knowE_head t hs
  have h2 : Runs (knowL [headI]) 1 ⟨19, (startS (.pair (codeT (knowL [headI])) t)).regs⟩ ⟨20, codeT (knowL [headI]) :: List.replicate 31 .nil⟩ := head_run 0 0 (codeT (knowL [headI])) _ _ rfl rfl rfl
  have h3 := (h1.trans h2).done (by rw [knowL_heads]; rfl) 100 (by omega)
  exact ⟨_, h3, rfl⟩
end Go.Proofs.Ytlaeljkjdfffjaa

namespace Go.Proofs.Ytlaeljkjdfffjaa
open Go.RowKit

theorem Runs.short {P : List Ins} {m : Nat} {s t : St} (h : Runs P m s t) : ∀ f n, f < m → ∃ s', goF P f n s = .fuel s' (n + f) := by
  induction h with
  | refl => intro f n hf; omega
  | @step m s t u hp hs _ ih =>
    intro f n hf
    cases f with
    | zero => exact ⟨s, goF_zero hp⟩
    | succ f =>
      obtain ⟨s', h1⟩ := ih f (n + 1) (by omega)
      exact ⟨s', by rw [goF_step hp hs, h1, show n + 1 + f = n + (f + 1) by omega]⟩
/-- A run that has not ended after so many steps. -/
theorem Runs.fuel_le {P : List Ins} {m : Nat} {s t : St} (h : Runs P m s t) (ht : t.pos ≠ P.length) (f : Nat) (hf : f ≤ m) : ∃ s', goF P f 0 s = .fuel s' f := by
  by_cases e : f = m
  · exact ⟨t, by rw [e]; exact h.fuel ht⟩
  · obtain ⟨s', h1⟩ := h.short f 0 (by omega)
    exact ⟨s', by rw [h1, Nat.zero_add]⟩
theorem part_run {P l : List Ins} {k : Nat} (h : Seg P k l) (hv : rightAll l = true) (hkl : k + l.length ≤ P.length) (F : Nat) (y : Tr) (hy : y.size ≤ 2000000) :
    (∃ m s b, Runs l m (startS y) s ∧ s.pos = l.length ∧ getR s.regs 0 = b ∧ m ≤ F ∧ b.size ≤ 2000000 ∧ ∀ rest : List Tr, rest.length = 31 → Cleaned (mostN l) rest → ∃ rest' : List Tr, rest'.length = 31 ∧ (∀ r, mostN l ≤ r → rest'[r]? = rest[r]?) ∧ Runs P m ⟨k, y :: rest⟩ ⟨k + l.length, b :: rest'⟩) ∨
    (∃ s, Runs l F (startS y) s ∧ s.pos ≠ l.length ∧ ∀ rest : List Tr, rest.length = 31 → Cleaned (mostN l) rest → ∃ t, Runs P F ⟨k, y :: rest⟩ t ∧ t.pos ≠ P.length) ∨
    (∃ m s, m < F ∧ Runs l m (startS y) s ∧ s.pos ≠ l.length ∧ stepP l s = none ∧ ∀ rest : List Tr, rest.length = 31 → Cleaned (mostN l) rest → ∃ t, Runs P m ⟨k, y :: rest⟩ t ∧ t.pos ≠ P.length ∧ stepP P t = none) := by
  have hm := mostN_lt32 hv
  have hA : mostN l < (y :: List.replicate (mostN l) Tr.nil).length := by simp
  have hsp : (startS y).regs = (y :: List.replicate (mostN l) .nil) ++ List.replicate (31 - mostN l) .nil := by
    show y :: List.replicate 31 Tr.nil = _
    rw [List.cons_append, ← List.replicate_append_replicate.symm, show mostN l + (31 - mostN l) = 31 by omega] <;> rfl
  have hrest : ∀ rest : List Tr, rest.length = 31 → Cleaned (mostN l) rest → y :: rest = (y :: List.replicate (mostN l) .nil) ++ rest.drop (mostN l) := by
    intro rest hr hc
    unfold Cleaned at hc
    rw [List.cons_append, ← hc, List.take_append_drop]
  have hbound : ∀ {m : Nat} {t : St}, Runs l m (startS y) t → t.pos ≤ l.length := fun hR => (hR.good hv (Good.start _ y hy)).1
  rcases goF_how l F 0 (startS y) with ⟨t, m, h1, h2, h3, h4⟩ | ⟨t, h1, h3, h4⟩ | ⟨t, m, h1, h2, h3, h4, h5⟩
  · obtain ⟨A', a1, a2, a3⟩ := h3.frame hA hsp
    obtain ⟨b, A'', rfl⟩ : ∃ b A'', A' = b :: A'' := by
      cases A' with
      | nil => simp at a1
      | cons b A'' => exact ⟨b, A'', rfl⟩
    refine .inl ⟨m, t, b, h3, h4, by rw [a2]; rfl, h2, (h3.good hv (Good.start _ y hy)).2.2 b (by rw [a2]; simp), fun rest hr hc => ⟨A'' ++ rest.drop (mostN l), ?_, ?_, ?_⟩⟩
    · simp only [List.length_cons, List.length_replicate] at a1
      simp; omega
    · intro r hle
      simp only [List.length_cons, List.length_replicate] at a1
      rw [List.getElem?_append_right (by omega), List.getElem?_drop, show mostN l + (r - A''.length) = r by omega]
    · have := h.runs hv hkl (a3 (rest.drop (mostN l)))
      rw [hrest rest hr hc]
      rw [h4] at this
      exact this
  · obtain ⟨A', a1, a2, a3⟩ := h3.frame hA hsp
    refine .inr (.inl ⟨t, h3, h4, fun rest hr hc => ⟨⟨k + t.pos, A' ++ rest.drop (mostN l)⟩, ?_, ?_⟩⟩)
    · rw [hrest rest hr hc]; exact h.runs hv hkl (a3 (rest.drop (mostN l)))
    · have := hbound h3
      show k + t.pos ≠ P.length; omega
  · obtain ⟨A', a1, a2, a3⟩ := h3.frame hA hsp
    have hb := hbound h3
    have hA' : mostN l < A'.length := by rw [a1]; exact hA
    have hn : stepP l ⟨t.pos, A'⟩ = none := by
      have ht : t = ⟨t.pos, A' ++ List.replicate (31 - mostN l) .nil⟩ := by rw [← a2]
      rw [ht, stepP_app hA'] at h5
      simpa using h5
    refine .inr (.inr ⟨m, t, h2, h3, h4, h5, fun rest hr hc => ⟨⟨k + t.pos, A' ++ rest.drop (mostN l)⟩, ?_, ?_, ?_⟩⟩)
    · rw [hrest rest hr hc]; exact h.runs hv hkl (a3 (rest.drop (mostN l)))
    · show k + t.pos ≠ P.length; omega
    · have hlt : t.pos < l.length := by omega
      have h6 : stepP l ⟨t.pos, A' ++ rest.drop (mostN l)⟩ = none := by rw [stepP_app hA', hn]; rfl
      have h7 := h.step hv (s := ⟨t.pos, A' ++ rest.drop (mostN l)⟩) hlt
      rw [h6] at h7
      exact h7
/-- A program that comes to a part, and to its end so many steps behind it. -/
theorem follow_part {P Q : List Ins} {t u : Tr} {rest : List Tr} {c0 c1 k : Nat} (hR : Runs P c0 (startS t) ⟨k, u :: rest⟩) (hr : rest.length = 31) (hc : Cleaned (mostN Q) rest) (hseg : Seg P k Q) (hv : rightAll Q = true) (hkl : k + Q.length ≤ P.length) (hu : u.size ≤ 2000000)
    (hend : ∀ (b : Tr) (rest' : List Tr), rest'.length = 31 → (∀ r, mostN Q ≤ r → rest'[r]? = rest[r]?) → ∃ s', Runs P c1 ⟨k + Q.length, b :: rest'⟩ s' ∧ s'.pos = P.length ∧ getR s'.regs 0 = b) : FollowP P t Q u (c0 + c1) := by
  intro F
  rcases part_run hseg hv hkl (F + c1) u hu with ⟨m, s, b, h1, h2, h3, h4, -, h5⟩ | ⟨s, h1, h2, h5⟩ | ⟨m, s, h0, h1, h2, h3, h5⟩
  · obtain ⟨rest', r1, r2, r3⟩ := h5 rest hr hc
    obtain ⟨s', e1, e2, e3⟩ := hend b rest' r1 r2
    have hP := (hR.trans r3).trans e1
    by_cases hm : m ≤ F
    · refine .inl ⟨s, s', m, h1.done h2 F hm, hm, ?_, by rw [e3, h3]⟩
      rw [show m + (c0 + c1) = c0 + m + c1 by omega]
      exact hP.done e2 _ (by omega)
    · obtain ⟨q, g1⟩ := h1.short F 0 (by omega)
      obtain ⟨q', g2⟩ := hP.short (F + (c0 + c1)) 0 (by omega)
      exact .inr (.inl ⟨q, by rw [g1, Nat.zero_add], .inl ⟨q', by rw [g2, Nat.zero_add]⟩⟩)
  · obtain ⟨t', g1, g2⟩ := h5 rest hr hc
    have hP := (hR.trans g1).fuel g2
    obtain ⟨q, hq⟩ := h1.fuel_le h2 F (by omega)
    rw [show c0 + (F + c1) = F + (c0 + c1) by omega] at hP
    exact .inr (.inl ⟨q, hq, .inl ⟨t', hP⟩⟩)
  · obtain ⟨t', g1, g2, g3⟩ := h5 rest hr hc
    have hP := (hR.trans g1).big g2 g3 (F + (c0 + c1)) (by omega)
    by_cases hm : m < F
    · exact .inr (.inr ⟨h1.big h2 h3 F hm, hP⟩)
    · obtain ⟨q, hq⟩ := h1.fuel_le h2 F (by omega)
      exact .inr (.inl ⟨q, hq, .inr hP⟩)

/-- The instructions that defeat, for what uses w registers. -/
def defQ (d y n : List Ins) (w : Nat) : List Ins := ((((((([⟨4, w, 0, 0, ⟨#[]⟩⟩, ⟨3, 0, 0, 0, ⟨#[]⟩⟩] ++ d) ++ [moveI (w + 1) 0]) ++ cleanK (w - 1)) ++ [moveI 0 w, jumpI (w + 1) ((y.length : Int) + 3)]) ++ y) ++ [setI (w + 1) ⟨#[49, 48, 48]⟩, jumpI (w + 1) ((n.length : Int) + 1)]) ++ n)
def defW (d y n : List Ins) : Nat := max (max (regN d) (regN y)) (regN n)
theorem cleanK_len (m : Nat) : (cleanK m).length = m := by simp [cleanK]
theorem defQ_length (d y n : List Ins) (w : Nat) (hw : 1 ≤ w) : (defQ d y n w).length = 6 + d.length + w + y.length + n.length := by
  unfold defQ; simp [cleanK_len]; omega
theorem ra_head (a b k n : Nat) (ha : a < 32) (hb : b < 32) : rightB ⟨3, a, b, 0, ⟨#[]⟩⟩ k n = true := by unfold rightB regB; simp; omega
theorem ra_tail (a b k n : Nat) (ha : a < 32) (hb : b < 32) : rightB ⟨4, a, b, 0, ⟨#[]⟩⟩ k n = true := by unfold rightB regB; simp; omega
theorem defQ_right {d y n : List Ins} {w : Nat} (hd : rightAll d = true) (hy : rightAll y = true) (hn : rightAll n = true) (h1 : 1 ≤ w) (hw : w ≤ 30) : rightAll (defQ d y n w) = true := by
  refine RA.all ?_
  have hl := defQ_length d y n w h1
  rw [hl]
  unfold defQ
  refine RA.append (RA.append (RA.append (RA.append (RA.append (RA.append (RA.append ?_ ?_) ?_) ?_) ?_) ?_) ?_) ?_
  · exact RA.cons (ra_tail w 0 _ _ (by omega) (by omega)) (RA.cons (ra_head 0 0 _ _ (by omega) (by omega)) (RA.nil _ _))
  · exact RA.of hd (by simp; omega)
  · exact RA.cons (ra_move _ _ _ _ (by omega) (by omega)) (RA.nil _ _)
  · exact ra_cleanK _ _ _ (by omega)
  · exact RA.cons (ra_move _ _ _ _ (by omega) (by omega)) (RA.cons (ra_jump _ _ _ _ (by omega) (by simp; omega) (by simp [cleanK_len]; omega)) (RA.nil _ _))
  · exact RA.of hy (by simp [cleanK_len]; omega)
  · exact RA.cons (ra_set _ _ _ _ (by omega) (by decide)) (RA.cons (ra_jump _ _ _ _ (by omega) (by simp; omega) (by simp [cleanK_len]; omega)) (RA.nil _ _))
  · exact RA.of hn (by simp [cleanK_len]; omega)
/-- The error of Defeat. -/
def defE (d y n : List Ins) : Int := if validB d = true ∧ validB y = true ∧ validB n = true then (if 30 < defW d y n then 8 else if validB (defQ d y n (defW d y n)) = true then knowE (defQ d y n (defW d y n)) else 3) else 1

theorem Seg.fst {P a b : List Ins} {k : Nat} (h : Seg P k (a ++ b)) : Seg P k a := fun i x hx => h i x (by rw [List.getElem?_append_left (List.getElem?_eq_some_iff.1 hx).1]; exact hx)
theorem Seg.snd {P a b : List Ins} {k : Nat} (h : Seg P k (a ++ b)) : Seg P (k + a.length) b := fun i x hx => by
  have := h (a.length + i) x (by rw [List.getElem?_append_right (by omega), show a.length + i - a.length = i by omega]; exact hx)
  rwa [← Nat.add_assoc] at this
theorem Seg.head {P : List Ins} {x : Ins} {l : List Ins} {k : Nat} (h : Seg P k (x :: l)) : P[k]? = some x := h 0 x rfl
theorem Seg.next {P : List Ins} {x : Ins} {l : List Ins} {k : Nat} (h : Seg P k (x :: l)) : Seg P (k + 1) l := fun i y hy => by
  have := h (i + 1) y hy
  rwa [show k + (i + 1) = k + 1 + i by omega] at this

theorem getR_rest (a : Tr) (rest : List Tr) (r : Nat) : getR (a :: rest) ((r + 1 : Nat) : Int) = rest[r]?.getD .nil := by
  unfold getR; rw [show ((r + 1 : Nat) : Int).toNat = r + 1 by omega, List.getElem?_cons_succ]
theorem setR_rest (a t : Tr) (rest : List Tr) (r : Nat) : setR (a :: rest) ((r + 1 : Nat) : Int) t = a :: rest.set r t := by
  unfold setR; rw [show ((r + 1 : Nat) : Int).toNat = r + 1 by omega, List.set_cons_succ]
theorem getR_zero (a : Tr) (rest : List Tr) : getR (a :: rest) 0 = a := rfl
theorem setR_zero (a t : Tr) (rest : List Tr) : setR (a :: rest) 0 t = t :: rest := rfl
theorem move_run {P : List Ins} {p : Nat} (a b : Nat) (v : Tr) (rs rs' : List Tr) (hx : P[p]? = some (moveI a b)) (hv : getR rs (b : Int) = v) (hr : setR rs (a : Int) v = rs') : Runs P 1 ⟨p, rs⟩ ⟨p + 1, rs'⟩ := by
  refine Runs.one hx ?_
  subst hv; subst hr
  rfl
theorem stay_run {P : List Ins} {p : Nat} (a : Nat) (b : Int) (rs : List Tr) (hx : P[p]? = some (jumpI a b)) (hv : getR rs (a : Int) = .nil) : Runs P 1 ⟨p, rs⟩ ⟨p + 1, rs⟩ := by
  refine Runs.one hx ?_
  unfold stepX jumpI
  simp [hv]
theorem jump_run {P : List Ins} {p : Nat} (a : Nat) (b : Int) (rs : List Tr) (p' : Nat) (hx : P[p]? = some (jumpI a b)) (hv : getR rs (a : Int) ≠ .nil) (hp : (p : Int) + b = p') : Runs P 1 ⟨p, rs⟩ ⟨p', rs⟩ := by
  refine Runs.one hx ?_
  unfold stepX jumpI
  simp [hv]
  omega
/-- Where the parts stand. -/
structure SegsD (P d y n : List Ins) (m : Nat) : Prop where
  len : P.length = 26 + d.length + m + y.length + n.length
  tail : P[19]? = some ⟨4, (m + 1 : Nat), 0, 0, ⟨#[]⟩⟩
  head : P[20]? = some ⟨3, 0, 0, 0, ⟨#[]⟩⟩
  sd : Seg P 21 d
  mv : P[21 + d.length]? = some (moveI (m + 2) 0)
  cl : Seg P (22 + d.length) (cleanK m)
  bk : P[22 + d.length + m]? = some (moveI 0 (m + 1))
  jp : P[23 + d.length + m]? = some (jumpI (m + 2) ((y.length : Int) + 3))
  sy : Seg P (24 + d.length + m) y
  st : P[24 + d.length + m + y.length]? = some (setI (m + 2) ⟨#[49, 48, 48]⟩)
  je : P[25 + d.length + m + y.length]? = some (jumpI (m + 2) ((n.length : Int) + 1))
  sn : Seg P (26 + d.length + m + y.length) n
theorem segsD (d y n : List Ins) (m : Nat) : SegsD (knowL (defQ d y n (m + 1))) d y n m := by
  have h0 : Seg (knowL (defQ d y n (m + 1))) 19 (defQ d y n (m + 1)) := by rw [knowL_heads]; exact Seg.right (knowH _) _
  have hlen : (knowL (defQ d y n (m + 1))).length = 26 + d.length + m + y.length + n.length := by
    rw [knowL_heads, List.length_append, defQ_length _ _ _ _ (by omega)]
    simp [knowH]; omega
  generalize knowL (defQ d y n (m + 1)) = P at h0 hlen
  unfold defQ at h0
  have a8 := h0.snd
  have a7 := h0.fst.snd
  have a6 := h0.fst.fst.snd
  have a5 := h0.fst.fst.fst.snd
  have a4 := h0.fst.fst.fst.fst.snd
  have a3 := h0.fst.fst.fst.fst.fst.snd
  have a2 := h0.fst.fst.fst.fst.fst.fst.snd
  have a1 := h0.fst.fst.fst.fst.fst.fst.fst
  have hm : m + 1 - 1 = m := by omega
  simp only [List.length_append, List.length_cons, List.length_nil, cleanK_len, hm] at a2 a3 a4 a5 a6 a7 a8
  exact ⟨hlen, a1.head, a1.next.head, a2, (congrArg (P[·]?) (by omega)).trans a3.head, by rw [show 22 + d.length = 19 + (0 + 1 + 1 + d.length + (0 + 1)) by omega]; exact a4,
    (congrArg (P[·]?) (by omega)).trans a5.head, (congrArg (P[·]?) (by omega)).trans a5.next.head,
    by rw [show 24 + d.length + m = 19 + (0 + 1 + 1 + d.length + (0 + 1) + m + (0 + 1 + 1)) by omega]; exact a6,
    (congrArg (P[·]?) (by omega)).trans a7.head, (congrArg (P[·]?) (by omega)).trans a7.next.head,
    by rw [show 26 + d.length + m + y.length = 19 + (0 + 1 + 1 + d.length + (0 + 1) + m + (0 + 1 + 1) + y.length + (0 + 1 + 1)) by omega]; exact a8⟩
end Go.Proofs.Ytlaeljkjdfffjaa

namespace Go.Proofs.Ytlaeljkjdfffjaa
open Go.RowKit

theorem def_start {P d y n : List Ins} {m : Nat} (S : SegsD P d y n m) (_hm : m ≤ 29) (C t : Tr) (hR : Runs P 19 (startS t) ⟨19, (startS (.pair C t)).regs⟩) : Runs P 21 (startS t) ⟨21, C :: (List.replicate 31 .nil).set m t⟩ := by
  have h1 : Runs P 1 ⟨19, (startS (.pair C t)).regs⟩ ⟨20, .pair C t :: (List.replicate 31 .nil).set m t⟩ := tail_run (m + 1) 0 t _ _ S.tail rfl (setR_rest _ _ _ _)
  have h2 : Runs P 1 ⟨20, .pair C t :: (List.replicate 31 .nil).set m t⟩ ⟨21, C :: (List.replicate 31 .nil).set m t⟩ := head_run 0 0 C _ _ S.head rfl rfl
  exact (hR.trans h1).trans h2
theorem cleaned_le {a m : Nat} (h : a ≤ m) (rest : List Tr) : Cleaned a (List.replicate m .nil ++ rest) := by
  unfold Cleaned
  rw [List.take_append_of_le_length (by simp; exact h), List.take_replicate, Nat.min_eq_left h]
theorem cleaned_put {a m : Nat} (h : a ≤ m) (hm : m < 31) (t : Tr) : Cleaned a ((List.replicate 31 .nil).set m t) := by
  unfold Cleaned
  rw [List.take_set_of_le h, List.take_replicate, Nat.min_eq_left (by omega)]
/-- From the decider's end to the jump. -/
theorem def_mid {P d y n : List Ins} {m : Nat} (S : SegsD P d y n m) (hm : m ≤ 29) (b t : Tr) (rest : List Tr) (hr : rest.length = 31) (ht : rest[m]? = some t) :
    ∃ R2 : List Tr, R2.length = 31 ∧ R2[m]? = some t ∧ R2[m + 1]? = some b ∧ (∀ a, a ≤ m → Cleaned a R2) ∧ Runs P (m + 2) ⟨21 + d.length, b :: rest⟩ ⟨23 + d.length + m, t :: R2⟩ := by
  have h1 : Runs P 1 ⟨21 + d.length, b :: rest⟩ ⟨21 + d.length + 1, b :: rest.set (m + 1) b⟩ := move_run (m + 2) 0 b _ _ S.mv rfl (setR_rest _ _ _ _)
  have hr1 : (rest.set (m + 1) b).length = 31 := by rw [List.length_set]; exact hr
  have h2 := cleanRuns S.cl b (rest.set (m + 1) b) hr1 (by omega)
  have hm2 : (rest.set (m + 1) b)[m]? = some t := by rw [List.getElem?_set_ne (by omega)]; exact ht
  have hm3 : (rest.set (m + 1) b)[m + 1]? = some b := by rw [List.getElem?_set_self (by omega)]
  have k1 : (List.replicate m Tr.nil ++ (rest.set (m + 1) b).drop m)[m]? = some t := by rw [cleaned_keep hr1 (Nat.le_refl _) (by omega)]; exact hm2
  have k2 : (List.replicate m Tr.nil ++ (rest.set (m + 1) b).drop m)[m + 1]? = some b := by rw [cleaned_keep hr1 (by omega) (by omega)]; exact hm3
  have h3 : Runs P 1 ⟨22 + d.length + m, b :: (List.replicate m Tr.nil ++ (rest.set (m + 1) b).drop m)⟩ ⟨22 + d.length + m + 1, t :: (List.replicate m Tr.nil ++ (rest.set (m + 1) b).drop m)⟩ :=
    move_run 0 (m + 1) t _ _ S.bk (by rw [getR_rest, k1]; rfl) rfl
  refine ⟨_, ?_, k1, k2, fun a ha => cleaned_le ha _, ?_⟩
  · simp; omega
  · rw [show 21 + d.length + 1 = 22 + d.length by omega] at h1
    rw [show 22 + d.length + m + 1 = 23 + d.length + m by omega] at h3
    have := (h1.trans h2).trans h3
    rwa [show 1 + m + 1 = m + 2 by omega] at this
/-- What the decider returns decides. -/
theorem defeat_follow {P d y n : List Ins} {m : Nat} (S : SegsD P d y n m) (hm : m ≤ 29) (hd : rightAll d = true) (hy : rightAll y = true) (hn : rightAll n = true) (md : mostN d ≤ m) (my : mostN y ≤ m) (mn : mostN n ≤ m) (C t : Tr) (hR : Runs P 19 (startS t) ⟨19, (startS (.pair C t)).regs⟩) (hC : C.size ≤ 2000000) (ht : t.size ≤ 2000000)
    (F : Nat) (s : St) (k : Nat) (hg : goF d F 0 (startS C) = .done s k) :
    (getR s.regs 0 ≠ .nil → FollowP P t n t (k + m + 24)) ∧ (getR s.regs 0 = .nil → FollowP P t y t (k + m + 26)) := by
  have hlen := S.len
  have h21 := def_start S hm C t hR
  have hr0 : ((List.replicate 31 Tr.nil).set m t).length = 31 := by simp
  have hc0 : Cleaned (mostN d) ((List.replicate 31 Tr.nil).set m t) := cleaned_put md (by omega) t
  rcases part_run S.sd hd (by omega) F C hC with ⟨k', s', b, h1, h2, h3, h4, -, h5⟩ | ⟨s', h1, h2, -⟩ | ⟨k', s', h0, h1, h2, h3, -⟩
  · have e := h1.done h2 F h4
    rw [hg] at e
    injection e with e1 e2
    subst e1; subst e2
    obtain ⟨rest', r1, r2, r3⟩ := h5 _ hr0 hc0
    have hm1 : rest'[m]? = some t := by rw [r2 m md, List.getElem?_set_self (by simp; omega)]
    obtain ⟨R2, q1, q2, q3, q4, q5⟩ := def_mid S hm b t rest' r1 hm1
    have hR2 := (h21.trans r3).trans q5
    rw [h3]
    refine ⟨fun hb => ?_, fun hb => ?_⟩
    · have h6 := hR2.trans (jump_run (m + 2) _ (t :: R2) (26 + d.length + m + y.length) S.jp (by rw [getR_rest, q3]; exact hb) (by omega))
      have := follow_part (c1 := 0) h6 q1 (q4 _ mn) S.sn hn (by omega) ht (fun b' rest'' _ _ => ⟨_, .refl _, by show 26 + d.length + m + y.length + n.length = _; omega, rfl⟩)
      rwa [show 21 + k + (m + 2) + 1 + 0 = k + m + 24 by omega] at this
    · have h6 := hR2.trans (stay_run (m + 2) _ (t :: R2) S.jp (by rw [getR_rest, q3]; exact hb))
      rw [show 23 + d.length + m + 1 = 24 + d.length + m by omega] at h6
      have := follow_part (c1 := 2) h6 q1 (q4 _ my) S.sy hy (by omega) ht (fun b' rest'' l1 _ => by
        have g1 : Runs P 1 ⟨24 + d.length + m + y.length, b' :: rest''⟩ ⟨24 + d.length + m + y.length + 1, b' :: rest''.set (m + 1) (.pair .nil .nil)⟩ := set_run (m + 2) _ _ _ _ S.st tr_100 (setR_rest _ _ _ _)
        have g2 : Runs P 1 ⟨24 + d.length + m + y.length + 1, b' :: rest''.set (m + 1) (.pair .nil .nil)⟩ ⟨26 + d.length + m + y.length + n.length, b' :: rest''.set (m + 1) (.pair .nil .nil)⟩ :=
          jump_run (m + 2) _ _ _ (by rw [show 24 + d.length + m + y.length + 1 = 25 + d.length + m + y.length by omega]; exact S.je) (by rw [getR_rest, List.getElem?_set_self (by omega)]; intro e; cases e) (by omega)
        exact ⟨_, g1.trans g2, by show 26 + d.length + m + y.length + n.length = _; omega, rfl⟩)
      rwa [show 21 + k + (m + 2) + 1 + 2 = k + m + 26 by omega] at this
  · obtain ⟨q, hq⟩ := h1.fuel_le h2 F (Nat.le_refl _); rw [hg] at hq; cases hq
  · have hq := h1.big h2 h3 F h0; rw [hg] at hq; cases hq
/-- Where the decider returns nothing. -/
theorem defeat_none {P d y n : List Ins} {m : Nat} (S : SegsD P d y n m) (hm : m ≤ 29) (hd : rightAll d = true) (md : mostN d ≤ m) (C t : Tr) (hR : Runs P 19 (startS t) ⟨19, (startS (.pair C t)).regs⟩) (hC : C.size ≤ 2000000)
    (F : Nat) (hg : ∀ s k, goF d F 0 (startS C) ≠ .done s k) : (∃ s, goF P F 0 (startS t) = .fuel s F) ∨ goF P F 0 (startS t) = .big := by
  have hlen := S.len
  have h21 := def_start S hm C t hR
  have hr0 : ((List.replicate 31 Tr.nil).set m t).length = 31 := by simp
  have hc0 : Cleaned (mostN d) ((List.replicate 31 Tr.nil).set m t) := cleaned_put md (by omega) t
  rcases part_run S.sd hd (by omega) F C hC with ⟨k', s', b, h1, h2, h3, h4, -, h5⟩ | ⟨s', h1, h2, h5⟩ | ⟨k', s', h0, h1, h2, h3, h5⟩
  · exact absurd (h1.done h2 F h4) (hg _ _)
  · obtain ⟨t', g1, g2⟩ := h5 _ hr0 hc0
    exact .inl ((h21.trans g1).fuel_le g2 F (by omega))
  · obtain ⟨t', g1, g2, g3⟩ := h5 _ hr0 hc0
    by_cases hk : 21 + k' < F
    · exact .inr ((h21.trans g1).big g2 g3 F hk)
    · exact .inl ((h21.trans g1).fuel_le g2 F (by omega))

/-- The program of a liar. -/
def liarQ (h : List Ins) : List Ins := h ++ [jumpI 0 0]
theorem liarQ_right {h : List Ins} (hv : rightAll h = true) : rightAll (liarQ h) = true := by
  refine RA.all ?_
  unfold liarQ
  exact RA.append (RA.of hv (by simp)) (RA.cons (ra_jump _ _ _ _ (by omega) (by omega) (by simp; omega)) (RA.nil _ _))
def liarE (h : List Ins) : Int := if validB h = true then (if validB (liarQ h) = true then knowE (liarQ h) else 3) else 1
theorem liar_part {h : List Ins} (hv : rightAll h = true) (t u : Tr) (hR : Runs (knowL (liarQ h)) 19 (startS t) ⟨19, (startS u).regs⟩) (hu : u.size ≤ 2000000) (F : Nat) :
    (∃ s k b, goF h F 0 (startS u) = .done s k ∧ getR s.regs 0 = b ∧ k ≤ F ∧ (b = .nil → ∀ F', k + 20 ≤ F' → ∃ s', goF (knowL (liarQ h)) F' 0 (startS t) = .done s' (k + 20) ∧ getR s'.regs 0 = .nil) ∧ (b ≠ .nil → ∀ F', ∃ s', goF (knowL (liarQ h)) F' 0 (startS t) = .fuel s' F')) ∨
    (∃ s, goF h F 0 (startS u) = .fuel s F ∧ ∀ F' s' n, goF (knowL (liarQ h)) F' 0 (startS t) = .done s' n → F < n) ∨
    (goF h F 0 (startS u) = .big ∧ ∀ F', F + 19 ≤ F' → goF (knowL (liarQ h)) F' 0 (startS t) = .big) := by
  have hlen : (knowL (liarQ h)).length = 20 + h.length := by rw [knowL_heads]; simp [knowH, liarQ]; omega
  have hs0 : Seg (knowL (liarQ h)) 19 (h ++ [jumpI 0 0]) := by rw [knowL_heads]; exact Seg.right (knowH _) _
  generalize knowL (liarQ h) = P at hR hlen hs0
  have hj : P[19 + h.length]? = some (jumpI 0 0) := hs0.snd.head
  have hc0 : Cleaned (mostN h) (List.replicate 31 Tr.nil) := by unfold Cleaned; rw [List.take_replicate, Nat.min_eq_left (by have := mostN_lt32 hv; omega)]
  rcases part_run hs0.fst hv (by omega) F u hu with ⟨k, s, b, h1, h2, h3, h4, -, h5⟩ | ⟨s, h1, h2, h5⟩ | ⟨k, s, h0, h1, h2, h3, h5⟩
  · obtain ⟨rest', r1, r2, r3⟩ := h5 _ (by simp) hc0
    have hP := hR.trans r3
    refine .inl ⟨s, k, b, h1.done h2 F h4, h3, h4, fun hb F' hF => ?_, fun hb F' => ?_⟩
    · have g := hP.trans (stay_run 0 _ _ hj (by rw [hb]; rfl))
      have := g.done (by show 19 + h.length + 1 = _; omega) F' (by omega)
      rw [show 19 + k + 1 = k + 20 by omega] at this
      exact ⟨_, this, by rw [hb]; rfl⟩
    · have hloop : ∀ j, Runs P j ⟨19 + h.length, b :: rest'⟩ ⟨19 + h.length, b :: rest'⟩ := by
        intro j
        induction j with
        | zero => exact .refl _
        | succ j ih => exact ih.trans (jump_run 0 0 _ _ hj (by exact hb) (by omega))
      exact (hP.trans (hloop F')).fuel_le (by show 19 + h.length ≠ _; omega) F' (by omega)
  · obtain ⟨t', g1, g2⟩ := h5 _ (by simp) hc0
    obtain ⟨q, hq⟩ := h1.fuel_le h2 F (Nat.le_refl _)
    refine .inr (.inl ⟨q, hq, fun F' s' n hd => ?_⟩)
    rcases goF_how P F' 0 (startS t) with ⟨s2, n2, e1, e2, e3, e4⟩ | ⟨s2, e1, _⟩ | ⟨s2, n2, e1, _⟩
    · rw [hd, Nat.zero_add] at e1
      injection e1 with _ e1
      subst e1
      refine Nat.lt_of_not_le fun hle => ?_
      obtain ⟨q', hq'⟩ := (hR.trans g1).fuel_le g2 n (by omega)
      rw [e3.done e4 n (Nat.le_refl _)] at hq'
      cases hq'
    · rw [hd] at e1; cases e1
    · rw [hd] at e1; cases e1
  · obtain ⟨t', g1, g2, g3⟩ := h5 _ (by simp) hc0
    exact .inr (.inr ⟨h1.big h2 h3 F h0, fun F' hF => (hR.trans g1).big g2 g3 F' (by omega)⟩)
end Go.Proofs.Ytlaeljkjdfffjaa

namespace Go.Proofs.Ytlaeljkjdfffjaa
open Go.RowKit

theorem dueN_zero {ls : List (List Ins)} {m : List Ins} (h : dueN ls m = 0) : allV ls = true := by
  cases hv : allV ls with
  | true => rfl
  | false => unfold dueN at h; rw [if_pos hv] at h; cases h
end Go.Proofs.Ytlaeljkjdfffjaa

namespace Go.Proofs.Ytlaeljkjdfffjaa
open Go.RowKit

theorem ProgsRow.left {w : World} {B g : Nat} {c p q : List Ins} (h : ProgsRow w B (.slice (some ⟨g, 0, none⟩) 3 3) [c, p, q]) : ProgsRow w B (.slice (some ⟨g, 0, none⟩) 2 3) [c, p] := by
  refine ⟨by simp, .inr ⟨g, 0, 3, rfl, ?_, fun j l hj => ?_⟩⟩
  · obtain ⟨g', o', u, e, hg, _⟩ := h.get (k := 0) rfl
    simp only [Option.some.injEq, Addr.mk.injEq] at e; omega
  · have hj2 : [c, p, q][j]? = some l := by
      match j, hj with
      | 0, hj => exact hj
      | 1, hj => exact hj
    obtain ⟨g', o', u, e, hg, h1, h2⟩ := h.get hj2
    simp only [Option.some.injEq, Addr.mk.injEq, and_true] at e
    obtain ⟨rfl, rfl⟩ := e
    exact ⟨u, h1, h2⟩
theorem ProgsRow.right {w : World} {B g : Nat} {c p q : List Ins} (h : ProgsRow w B (.slice (some ⟨g, 0, none⟩) 3 3) [c, p, q]) : ProgsRow w B (.slice (some ⟨g, 1, none⟩) 2 2) [p, q] := by
  refine ⟨by simp, .inr ⟨g, 1, 2, rfl, ?_, fun j l hj => ?_⟩⟩
  · obtain ⟨g', o', u, e, hg, _⟩ := h.get (k := 0) rfl
    simp only [Option.some.injEq, Addr.mk.injEq] at e; omega
  · have hj2 : [c, p, q][j + 1]? = some l := by simpa using hj
    obtain ⟨g', o', u, e, hg, h1, h2⟩ := h.get hj2
    simp only [Option.some.injEq, Addr.mk.injEq, and_true] at e
    obtain ⟨rfl, rfl⟩ := e
    exact ⟨u, by rw [Nat.add_comm 1 j]; simpa using h1, h2⟩
theorem allV2 (p q : List Ins) : allV [p, q] = (validB p && validB q) := by simp [allV]
theorem allV3 (c p q : List Ins) : allV [c, p, q] = (validB c && validB p && validB q) := by simp [allV, Bool.and_assoc]

end Go.Proofs.Ytlaeljkjdfffjaa

namespace Go.Proofs.Ytlaeljkjdfffjaa
open Go.RowKit

end Go.Proofs.Ytlaeljkjdfffjaa

namespace Go.Proofs.Ytlaeljkjdfffjaa
open Go.RowKit

def otherS (n S : Nat) (E : Int) : Nat := if E = 0 then S + n else S
def partF (l : List Ins) (S : Nat) (E : Int) (x : ByteArray) : ByteArray × Nat × Int :=
  if E = 0 then ((partR l 2000 (toTr x)).run.1, S + (partR l 2000 (toTr x)).run.2.1 + (if (partR l 2000 (toTr x)).run.2.2 = 0 then 0 else 2000), (partR l 2000 (toTr x)).run.2.2) else (⟨#[]⟩, S, E)

theorem res_run_cases (r : Res) : (r.run.2.2 = 0) ∨ (r.run = (⟨#[]⟩, 0, 7)) ∨ (r.run = (⟨#[]⟩, 0, 3)) := by cases r <;> simp [Res.run]
theorem goF_steps_le (l : List Ins) (F : Nat) (s : St) : (goF l F 0 s).run.2.1 ≤ F := by
  rcases goF_how l F 0 s with ⟨t, m, h1, h2, _⟩ | ⟨t, h1, _⟩ | ⟨t, m, h1, _⟩
  · rw [h1]; show 0 + m ≤ F; omega
  · rw [h1]; exact Nat.zero_le _
  · rw [h1]; exact Nat.zero_le _

def cleanF (l : List Ins) (S : Nat) (E : Int) (x : ByteArray) : ByteArray × Nat × Int := partF l (otherS (mostN l) S E) E x
/-- What the play says at its end. -/
def Ended (P : List Ins) (s0 : St) (S : Nat) (E : Int) (X : ByteArray) : Prop := (E = 0 → (goF P S 0 s0).run = (X, S, 0)) ∧ (E ≠ 0 → (goF P S 0 s0).run = (⟨#[]⟩, 0, E))
end Go.Proofs.Ytlaeljkjdfffjaa

namespace Go.Proofs.Ytlaeljkjdfffjaa
open Go.RowKit

/-- So far the program has done so many steps, and is in such a state; or it ends with an error. -/
def Pg (P : List Ins) (s0 : St) (S : Nat) (E : Int) (K : St → Prop) : Prop := (E = 0 → ∃ s, Runs P S s0 s ∧ K s) ∧ (E ≠ 0 → (goF P S 0 s0).run = (⟨#[]⟩, 0, E))
/-- At a place, with a tree in register 0, and what is said of the other registers. -/
def AtX (k : Nat) (x : ByteArray) (R : List Tr → Prop) (s : St) : Prop := ∃ y rest, TS y = x ∧ y.size ≤ 2000000 ∧ s = ⟨k, y :: rest⟩ ∧ rest.length = 31 ∧ R rest
theorem Pg.start (P : List Ins) (s0 : St) : Pg P s0 0 0 (fun s => s = s0) := ⟨fun _ => ⟨s0, .refl _, rfl⟩, fun e => absurd rfl e⟩
theorem Pg.weaken {P : List Ins} {s0 : St} {S : Nat} {E : Int} {K K' : St → Prop} (h : Pg P s0 S E K) (hK : ∀ s, K s → K' s) : Pg P s0 S E K' := ⟨fun e => by obtain ⟨s, h1, h2⟩ := h.1 e; exact ⟨s, h1, hK s h2⟩, h.2⟩
theorem Pg.other {P : List Ins} {s0 : St} {S : Nat} {E : Int} {K K' : St → Prop} (h : Pg P s0 S E K) (n : Nat) (hK : ∀ s, K s → ∃ s', Runs P n s s' ∧ K' s') : Pg P s0 (otherS n S E) E K' := by
  refine ⟨fun e => ?_, fun e => ?_⟩
  · obtain ⟨s, h1, h2⟩ := h.1 e
    obtain ⟨s', h3, h4⟩ := hK s h2
    unfold otherS; rw [if_pos e]
    exact ⟨s', h1.trans h3, h4⟩
  · unfold otherS; rw [if_neg e]; exact h.2 e
theorem Pg.tree {P : List Ins} {s0 : St} {S : Nat} {E : Int} {k : Nat} {x : ByteArray} {R : List Tr → Prop} (h : Pg P s0 S E (AtX k x R)) : E = 0 → isTree x = true := fun e => by
  obtain ⟨s, _, y, rest, h1, h2, _⟩ := h.1 e
  rw [← h1]; exact isTree_TS y h2
theorem Pg.ended {P : List Ins} {s0 : St} {S : Nat} {E : Int} {X : ByteArray} {R : List Tr → Prop} (h : Pg P s0 S E (AtX P.length X R)) : Ended P s0 S E X := by
  refine ⟨fun e => ?_, h.2⟩
  obtain ⟨s, h1, y, rest, h2, h3, rfl, _⟩ := h.1 e
  rw [h1.done rfl S (Nat.le_refl _)]
  show (TS (getR (y :: rest) 0), S, (0 : Int)) = _
  rw [← h2]; rfl
theorem Pg.part {P l : List Ins} {s0 : St} {S : Nat} {E : Int} {k : Nat} {x : ByteArray} {R R' : List Tr → Prop} (h : Pg P s0 S E (AtX k x R)) (hseg : Seg P k l) (hv : rightAll l = true) (hkl : k + l.length ≤ P.length)
    (hR : ∀ rest, rest.length = 31 → R rest → Cleaned (mostN l) rest) (hR' : ∀ rest rest' : List Tr, rest.length = 31 → rest'.length = 31 → R rest → (∀ r, mostN l ≤ r → rest'[r]? = rest[r]?) → R' rest') :
    Pg P s0 (partF l S E x).2.1 (partF l S E x).2.2 (AtX (k + l.length) (partF l S E x).1 R') := by
  by_cases e : E = 0
  · obtain ⟨s, h1, y, rest, rfl, hy, rfl, hr, hr2⟩ := h.1 e
    have hp : partF l S E (TS y) = ((partR l 2000 y).run.1, S + (partR l 2000 y).run.2.1 + (if (partR l 2000 y).run.2.2 = 0 then 0 else 2000), (partR l 2000 y).run.2.2) := by
      unfold partF; rw [if_pos e, toTr_TS y hy]
    rw [hp]
    rcases part_how hseg hv hkl 2000 y hy with ⟨m, b, a1, a2, a2', a3⟩ | ⟨a1, a3⟩ | ⟨a1, a3⟩
    · rw [a1]
      obtain ⟨rest', b1, b2, b3⟩ := a3 rest hr (hR rest hr hr2)
      refine ⟨fun _ => ⟨_, h1.trans b3, b, rest', rfl, a2', rfl, b1, hR' rest rest' hr b1 hr2 b2⟩, fun e => absurd rfl e⟩
    · rw [a1]
      obtain ⟨t, b1, b2⟩ := a3 rest hr (hR rest hr hr2)
      refine ⟨fun e => absurd (show (7 : Int) = 0 from e) (by decide), fun _ => ?_⟩
      show (goF P (S + 0 + (if (7 : Int) = 0 then 0 else 2000)) 0 s0).run = _
      rw [show S + 0 + (if (7 : Int) = 0 then 0 else 2000) = S + 2000 from rfl, (h1.trans b1).fuel b2]; rfl
    · rw [a1]
      obtain ⟨m, t, b0, b1, b2, b3⟩ := a3 rest hr (hR rest hr hr2)
      refine ⟨fun e => absurd (show (3 : Int) = 0 from e) (by decide), fun _ => ?_⟩
      show (goF P (S + 0 + (if (3 : Int) = 0 then 0 else 2000)) 0 s0).run = _
      rw [show S + 0 + (if (3 : Int) = 0 then 0 else 2000) = S + 2000 from rfl, (h1.trans b1).big b2 b3 _ (by omega)]; rfl
  · have hp : partF l S E x = (⟨#[]⟩, S, E) := by unfold partF; rw [if_neg e]
    rw [hp]
    exact ⟨fun e2 => absurd e2 e, h.2⟩
/-- Some registers hold something. -/
def Holds (hs : List (Nat × Tr)) (rest : List Tr) : Prop := ∀ p ∈ hs, rest[p.1]? = some p.2
theorem Holds.nil (rest : List Tr) : Holds [] rest := fun p h => by cases h
theorem Pg.cleaned {P l : List Ins} {s0 : St} {S : Nat} {E : Int} {k : Nat} {x : ByteArray} {hs : List (Nat × Tr)} (h : Pg P s0 S E (AtX k x (Holds hs))) (hseg : Seg P k (cleanP l)) (hv : rightAll l = true) (hkl : k + (cleanP l).length ≤ P.length) (hh : ∀ p ∈ hs, mostN l ≤ p.1) :
    Pg P s0 (cleanF l S E x).2.1 (cleanF l S E x).2.2 (AtX (k + (cleanP l).length) (cleanF l S E x).1 (Holds hs)) := by
  have hm := mostN_lt32 hv
  have hs1 : Seg P k (cleanK (mostN l)) := fun i y hy => hseg i y (by unfold cleanP cleanH; rw [List.getElem?_append_left (List.getElem?_eq_some_iff.1 hy).1]; exact hy)
  have hs2 : Seg P (k + mostN l) l := fun i y hy => by
    have := hseg (mostN l + i) y (by unfold cleanP cleanH; rw [List.getElem?_append_right (by rw [cleanK_length]; omega), cleanK_length, Nat.add_sub_cancel_left]; exact hy)
    rwa [show k + (mostN l + i) = k + mostN l + i by omega] at this
  have h1 : Pg P s0 (otherS (mostN l) S E) E (AtX (k + mostN l) x fun rest => Holds hs rest ∧ Cleaned (mostN l) rest) := by
    refine h.other _ fun s hk => ?_
    obtain ⟨y, rest, a1, a2, rfl, a3, a4⟩ := hk
    refine ⟨_, cleanRuns hs1 y rest a3 hm, y, _, a1, a2, rfl, by simp; omega, fun p hp => ?_, cleaned_self _ _⟩
    rw [cleaned_keep a3 (hh p hp) (by omega)]; exact a4 p hp
  have hkl : k + mostN l + l.length ≤ P.length := by rw [cleanP_length] at hkl; omega
  have h2 := h1.part (R' := Holds hs) hs2 hv hkl (fun rest _ hr => hr.2) (fun rest rest' _ _ hr he p hp => by rw [he p.1 (hh p hp)]; exact hr.1 p hp)
  have h3 : k + mostN l + l.length = k + (cleanP l).length := by rw [cleanP_length]; omega
  rw [h3] at h2
  exact h2

/-- Single steps. -/
theorem at_save {P : List Ins} {k n : Nat} {x : ByteArray} {hs : List (Nat × Tr)} (hn : n ≤ 30) (hP : P[k]? = some (moveI (n + 1) 0)) (hh : ∀ p ∈ hs, p.1 ≠ n) {s : St} (h : AtX k x (Holds hs) s) : ∃ s', Runs P 1 s s' ∧ AtX (k + 1) x (Holds ((n, toTr x) :: hs)) s' := by
  obtain ⟨y, rest, rfl, a2, rfl, a3, a4⟩ := h
  refine ⟨_, Runs.one hP (t := ⟨k + 1, y :: rest.set n y⟩) (by unfold stepX moveI; simp only [show ¬ (1 : Int) = 0 by decide, if_false, if_true]; rfl), y, _, rfl, a2, rfl, by simpa using a3, fun p hp => ?_⟩
  rw [toTr_TS y a2] at hp
  rcases List.mem_cons.1 hp with rfl | hp
  · rw [List.getElem?_set_self (by omega)]
  · rw [List.getElem?_set_ne (fun e => hh p hp e.symm)]; exact a4 p hp
theorem at_load {P : List Ins} {k n : Nat} {x : ByteArray} {hs : List (Nat × Tr)} {t : Tr} (hP : P[k]? = some (moveI 0 (n + 1))) (ht : t.size ≤ 2000000) (hh : (n, t) ∈ hs) {s : St} (h : AtX k x (Holds hs) s) : ∃ s', Runs P 1 s s' ∧ AtX (k + 1) (TS t) (Holds hs) s' := by
  obtain ⟨y, rest, rfl, a2, rfl, a3, a4⟩ := h
  refine ⟨_, Runs.one hP (t := ⟨k + 1, t :: rest⟩) ?_, t, _, rfl, ht, rfl, a3, a4⟩
  have h1 := a4 _ hh
  unfold stepX moveI
  simp only [show ¬ (1 : Int) = 0 by decide, if_false, if_true]
  have : getR (y :: rest) ((n + 1 : Nat) : Int) = t := by unfold getR; rw [show ((n + 1 : Nat) : Int).toNat = n + 1 by omega, List.getElem?_cons_succ, h1]; rfl
  rw [this]; rfl
theorem at_set {P : List Ins} {k n : Nat} {x : ByteArray} {hs : List (Nat × Tr)} {b : ByteArray} (hn : n ≤ 30) (hP : P[k]? = some (setI (n + 1) b)) (hh : ∀ p ∈ hs, p.1 ≠ n) {s : St} (h : AtX k x (Holds hs) s) : ∃ s', Runs P 1 s s' ∧ AtX (k + 1) x (Holds ((n, toTr b) :: hs)) s' := by
  obtain ⟨y, rest, rfl, a2, rfl, a3, a4⟩ := h
  refine ⟨_, Runs.one hP (t := ⟨k + 1, y :: rest.set n (toTr b)⟩) (by unfold stepX setI; simp only [if_true]; rfl), y, _, rfl, a2, rfl, by simpa using a3, fun p hp => ?_⟩
  rcases List.mem_cons.1 hp with rfl | hp
  · rw [List.getElem?_set_self (by omega)]
  · rw [List.getElem?_set_ne (fun e => hh p hp e.symm)]; exact a4 p hp
/-- A jump by register 0. -/
theorem at_jump0 {P : List Ins} {k : Nat} {x : ByteArray} {R : List Tr → Prop} {d : Int} (hP : P[k]? = some (jumpI 0 d)) {s : St} (h : AtX k x R s) : ∃ s', Runs P 1 s s' ∧ AtX (if x = ⟨#[48]⟩ then k + 1 else ((k : Int) + d).toNat) x R s' := by
  obtain ⟨y, rest, rfl, a2, rfl, a3, a4⟩ := h
  have hy : (TS y = ⟨#[48]⟩) ↔ y = .nil := by
    constructor
    · intro e
      cases y with
      | nil => rfl
      | pair a b => exact absurd (congrArg (fun z : ByteArray => z.data.toList.head?) e) (by simp [TS, Tr.enc])
    · rintro rfl; rfl
  refine ⟨⟨if TS y = ⟨#[48]⟩ then k + 1 else ((k : Int) + d).toNat, y :: rest⟩, Runs.one hP ?_, y, rest, rfl, a2, rfl, a3, a4⟩
  unfold stepX jumpI
  simp only [show ¬ (5 : Int) = 0 by decide, show ¬ (5 : Int) = 1 by decide, show ¬ (5 : Int) = 2 by decide, show ¬ (5 : Int) = 3 by decide, show ¬ (5 : Int) = 4 by decide, if_false]
  have hg : getR (y :: rest) ((0 : Nat) : Int) = y := rfl
  rw [hg]
  by_cases h0 : y = .nil
  · rw [if_pos h0, if_pos (hy.2 h0)]
  · rw [if_neg h0, if_neg (fun e => h0 (hy.1 e))]
/-- A jump by a register that holds no nil. -/
theorem at_jump {P : List Ins} {k n : Nat} {x : ByteArray} {hs : List (Nat × Tr)} {t : Tr} {d : Int} (hP : P[k]? = some (jumpI (n + 1) d)) (hh : (n, t) ∈ hs) (ht : t ≠ .nil) (k' : Nat) (hk : (k : Int) + d = k') {s : St} (h : AtX k x (Holds hs) s) : ∃ s', Runs P 1 s s' ∧ AtX k' x (Holds hs) s' := by
  obtain ⟨y, rest, rfl, a2, rfl, a3, a4⟩ := h
  refine ⟨⟨k', y :: rest⟩, Runs.one hP ?_, y, rest, rfl, a2, rfl, a3, a4⟩
  unfold stepX jumpI
  simp only [show ¬ (5 : Int) = 0 by decide, show ¬ (5 : Int) = 1 by decide, show ¬ (5 : Int) = 2 by decide, show ¬ (5 : Int) = 3 by decide, show ¬ (5 : Int) = 4 by decide, if_false]
  have hg : getR (y :: rest) ((n + 1 : Nat) : Int) = t := by unfold getR; rw [show ((n + 1 : Nat) : Int).toNat = n + 1 by omega, List.getElem?_cons_succ, a4 _ hh]; rfl
  rw [hg, if_neg ht, hk]; rfl
/-- A pair, of another register and of register 0; or it is too large. -/
theorem at_cons {P : List Ins} {k n : Nat} {x : ByteArray} {hs : List (Nat × Tr)} {t : Tr} (hP : P[k]? = some (consI 0 (n + 1) 0)) (hh : (n, t) ∈ hs) {s : St} (h : AtX k x (Holds hs) s) :
    (1 + t.size + x.size ≤ 2000000 → ∃ s', Runs P 1 s s' ∧ AtX (k + 1) (⟨#[49]⟩ ++ TS t ++ x) (Holds hs) s') ∧ (¬ 1 + t.size + x.size ≤ 2000000 → s.pos ≠ P.length ∧ stepP P s = none) := by
  obtain ⟨y, rest, rfl, a2, rfl, a3, a4⟩ := h
  have hg : getR (y :: rest) ((n + 1 : Nat) : Int) = t := by unfold getR; rw [show ((n + 1 : Nat) : Int).toNat = n + 1 by omega, List.getElem?_cons_succ, a4 _ hh]; rfl
  have hg0 : getR (y :: rest) ((0 : Nat) : Int) = y := rfl
  have hsz : (Tr.pair t y).size = 1 + t.size + y.size := by simp [Tr.size]
  rw [TS_size]
  refine ⟨fun hle => ⟨⟨k + 1, .pair t y :: rest⟩, Runs.one hP ?_, .pair t y, rest, ?_, by rw [hsz]; exact hle, rfl, a3, a4⟩, fun hle => ⟨?_, ?_⟩⟩
  · unfold stepX consI
    simp only [show ¬ (2 : Int) = 0 by decide, show ¬ (2 : Int) = 1 by decide, if_false, if_true]
    rw [hg, hg0, if_pos (by rw [hsz]; exact hle)]; rfl
  · apply ByteArray.ext; simp [TS, Tr.enc]
  · have := (List.getElem?_eq_some_iff.1 hP).1
    show k ≠ P.length; omega
  · unfold stepP
    simp only [hP]
    unfold stepX consI
    simp only [show ¬ (2 : Int) = 0 by decide, show ¬ (2 : Int) = 1 by decide, if_false, if_true]
    rw [hg, hg0, if_neg (by rw [hsz]; exact hle)]

end Go.Proofs.Ytlaeljkjdfffjaa

namespace Go.Proofs.Ytlaeljkjdfffjaa
open Go.RowKit

theorem partF_le (l : List Ins) (S : Nat) (E : Int) (x : ByteArray) : (partF l S E x).2.1 ≤ S + 2000 := by
  unfold partF
  by_cases e : E = 0
  · rw [if_pos e]
    have h1 := goF_steps_le l 2000 (startS (toTr x))
    rcases res_run_cases (partR l 2000 (toTr x)) with h | h | h
    · show S + (partR l 2000 (toTr x)).run.2.1 + (if (partR l 2000 (toTr x)).run.2.2 = 0 then 0 else 2000) ≤ _
      rw [if_pos h]
      have h2 : (partR l 2000 (toTr x)).run.2.1 ≤ 2000 := h1
      omega
    · rw [h]; simp
    · rw [h]; simp
  · rw [if_neg e]; show S ≤ _; omega
theorem partF_err (l : List Ins) (S : Nat) (E : Int) (x : ByteArray) : (partF l S E x).2.2 = 0 → E = 0 := by
  unfold partF
  by_cases e : E = 0
  · exact fun _ => e
  · rw [if_neg e]; exact id
theorem partF_size (l : List Ins) (hv : rightAll l = true) (S : Nat) (E : Int) (x : ByteArray) : (partF l S E x).1.size ≤ 2000000 := by
  unfold partF
  by_cases e : E = 0
  · rw [if_pos e]
    show (partR l 2000 (toTr x)).run.1.size ≤ _
    unfold partR
    rcases goF_how l 2000 0 (startS (toTr x)) with ⟨t, m, h1, h2, h3, h4⟩ | ⟨t, h1, h3, h4⟩ | ⟨t, m, h1, h2, h3, h4, h5⟩
    · rw [h1]
      show (TS (getR t.regs 0)).size ≤ _
      rw [TS_size]
      exact getR_size (h3.good hv (Good.start _ _ (toTr_size x))).2.2 0
    · rw [h1]; exact Nat.zero_le _
    · rw [h1]; exact Nat.zero_le _
  · rw [if_neg e]; exact Nat.zero_le _
theorem otherS_le (n S : Nat) (E : Int) : otherS n S E ≤ S + n := by unfold otherS; split <;> omega
/-- Two steps one behind the other. -/
theorem two_steps {P : List Ins} {K K1 K2 : St → Prop} (h1 : ∀ s, K s → ∃ s', Runs P 1 s s' ∧ K1 s') (h2 : ∀ s, K1 s → ∃ s', Runs P 1 s s' ∧ K2 s') : ∀ s, K s → ∃ s', Runs P 2 s s' ∧ K2 s' := fun s hs => by
  obtain ⟨t, a, b⟩ := h1 s hs
  obtain ⟨u, c, d⟩ := h2 t b
  exact ⟨u, a.trans c, d⟩
/-- The last step of a pair. -/
theorem Pg.cons {P : List Ins} {s0 : St} {S : Nat} {E : Int} {k n : Nat} {y z : ByteArray} {hs : List (Nat × Tr)} (h : Pg P s0 S E (AtX k z (Holds hs))) (hP : P[k]? = some (consI 0 (n + 1) 0)) (hh : (n, toTr y) ∈ hs) (hy : E = 0 → isTree y = true) :
    (E ≠ 0 ∨ 1 + y.size + z.size ≤ 2000000 → Pg P s0 (otherS 1 S E) E (AtX (k + 1) (⟨#[49]⟩ ++ y ++ z) (Holds hs))) ∧ (E = 0 → ¬ 1 + y.size + z.size ≤ 2000000 → Pg P s0 (otherS 1 S E) 3 (AtX (k + 1) (⟨#[49]⟩ ++ y ++ z) (Holds hs))) := by
  refine ⟨fun hor => ?_, fun e hbig => ?_⟩
  · by_cases e : E = 0
    · refine h.other 1 fun s hk => ?_
      have h1 := (at_cons hP hh hk).1
      rw [← TS_size, TS_toTr (hy e)] at h1
      exact h1 (hor.resolve_left (fun f => f e))
    · exact ⟨fun f => absurd f e, fun _ => by unfold otherS; rw [if_neg e]; exact h.2 e⟩
  · refine ⟨fun f => absurd f (by decide), fun _ => ?_⟩
    obtain ⟨s, h1, h2⟩ := h.1 e
    have h3 := (at_cons hP hh h2).2
    rw [← TS_size, TS_toTr (hy e)] at h3
    obtain ⟨h4, h5⟩ := h3 hbig
    unfold otherS; rw [if_pos e, h1.big h4 h5 (S + 1) (by omega)]; rfl
/-- At the beginning. -/
theorem Pg.begin (P : List Ins) (x : ByteArray) (hx : isTree x = true) : Pg P (startS (toTr x)) 0 0 (AtX 0 x fun rest => rest = List.replicate 31 .nil) :=
  (Pg.start P _).weaken fun s hs => ⟨toTr x, _, TS_toTr hx, toTr_size x, hs, by simp, rfl⟩
theorem Pg.begin1 (P : List Ins) (x : ByteArray) (hx : isTree x = true) (n : Nat) (_hn : n ≤ 30) (hP : P[0]? = some (moveI (n + 1) 0)) : Pg P (startS (toTr x)) 1 0 (AtX 1 x fun rest => rest = (List.replicate 31 .nil).set n (toTr x)) := by
  refine ((Pg.start P _).other 1 (K' := AtX 1 x fun rest => rest = (List.replicate 31 .nil).set n (toTr x)) fun s hs => ?_)
  subst hs
  exact ⟨⟨1, toTr x :: (List.replicate 31 .nil).set n (toTr x)⟩, Runs.one hP (by unfold stepX moveI; simp only [show ¬ (1 : Int) = 0 by decide, if_false, if_true]; rfl), toTr x, _, TS_toTr hx, toTr_size x, rfl, by simp, rfl⟩
theorem cleaned_nils {m : Nat} (hm : m ≤ 31) : Cleaned m (List.replicate 31 .nil) := by unfold Cleaned; rw [List.take_replicate, Nat.min_eq_left hm]
theorem cleaned_set {m n : Nat} {t : Tr} (hm : m ≤ n) (hn : n ≤ 30) : Cleaned m ((List.replicate 31 .nil).set n t) := by unfold Cleaned; rw [List.take_set_of_le hm, List.take_replicate, Nat.min_eq_left (by omega)]
theorem holds_set {n m : Nat} {t : Tr} (hm : m ≤ n) (hn : n ≤ 30) (rest rest' : List Tr) (h : rest = (List.replicate 31 .nil).set n t) (he : ∀ r, m ≤ r → rest'[r]? = rest[r]?) : Holds [(n, t)] rest' := by
  intro p hp
  simp only [List.mem_singleton] at hp
  subst hp
  rw [he n hm, h, List.getElem?_set_self (by simp; omega)]

theorem at_loadx {P : List Ins} {k n : Nat} {x x' : ByteArray} {hs : List (Nat × Tr)} {t : Tr} (hP : P[k]? = some (moveI 0 (n + 1))) (ht : t.size ≤ 2000000) (hx : TS t = x') (hh : (n, t) ∈ hs) {s : St} (h : AtX k x (Holds hs) s) : ∃ s', Runs P 1 s s' ∧ AtX (k + 1) x' (Holds hs) s' := by
  subst hx; exact at_load hP ht hh h
theorem AtX.weak {k : Nat} {x : ByteArray} {R R' : List Tr → Prop} {s : St} (h : AtX k x R s) (hR : ∀ rest, R rest → R' rest) : AtX k x R' s := by
  obtain ⟨y, rest, a1, a2, a3, a4, a5⟩ := h
  exact ⟨y, rest, a1, a2, a3, a4, hR rest a5⟩
theorem at_jump0_nil {P : List Ins} {k : Nat} {x : ByteArray} {R : List Tr → Prop} {d : Int} (hP : P[k]? = some (jumpI 0 d)) (hx : x = ⟨#[48]⟩) {s : St} (h : AtX k x R s) : ∃ s', Runs P 1 s s' ∧ AtX (k + 1) x R s' := by
  have h1 := at_jump0 hP h
  rwa [if_pos hx] at h1
theorem at_jump0_far {P : List Ins} {k : Nat} {x : ByteArray} {R : List Tr → Prop} {d : Int} (hP : P[k]? = some (jumpI 0 d)) (hx : ¬ x = ⟨#[48]⟩) (k' : Nat) (hk : (k : Int) + d = k') {s : St} (h : AtX k x R s) : ∃ s', Runs P 1 s s' ∧ AtX k' x R s' := by
  have h1 := at_jump0 hP h
  rw [if_neg hx, hk] at h1
  exact h1

theorem Pg.otherE {P : List Ins} {s0 : St} {S : Nat} {E : Int} {K K' : St → Prop} (h : Pg P s0 S E K) (n : Nat) (hK : E = 0 → ∀ s, K s → ∃ s', Runs P n s s' ∧ K' s') : Pg P s0 (otherS n S E) E K' := by
  refine ⟨fun e => ?_, fun e => ?_⟩
  · obtain ⟨s, h1, h2⟩ := h.1 e
    obtain ⟨s', h3, h4⟩ := hK e s h2
    unfold otherS; rw [if_pos e]
    exact ⟨s', h1.trans h3, h4⟩
  · unfold otherS; rw [if_neg e]; exact h.2 e
theorem Pg.bad {P : List Ins} {s0 : St} {S : Nat} {E : Int} {K : St → Prop} (h : Pg P s0 S E K) (hE : E ≠ 0) (K' : St → Prop) : Pg P s0 S E K' := ⟨fun e => absurd e hE, h.2⟩
/-- The rounds are used up. -/
theorem Pg.rounds {P : List Ins} {s0 : St} {S k : Nat} {X : ByteArray} {R : List Tr → Prop} (h : Pg P s0 S 0 (AtX k X R)) (hk : k ≠ P.length) : Ended P s0 S 7 X := by
  refine ⟨fun e => absurd e (by decide), fun _ => ?_⟩
  obtain ⟨s, h1, y, rest, _, _, rfl, _⟩ := h.1 rfl
  rw [h1.fuel hk]; rfl
theorem Pg.endedE {P : List Ins} {s0 : St} {S : Nat} {E : Int} {X : ByteArray} {K : St → Prop} (h : Pg P s0 S E K) (hE : E ≠ 0) : Ended P s0 S E X := ⟨fun e => absurd e hE, h.2⟩

end Go.Proofs.Ytlaeljkjdfffjaa

namespace Go.Proofs.Ytlaeljkjdfffjaa
open Go.RowKit

theorem seg_at {P a l b : List Ins} {k : Nat} (hP : P = a ++ l ++ b) (hk : k = a.length) : Seg P k l := by subst hP; subst hk; exact Seg.mid a l b
theorem seg_one {P : List Ins} {k : Nat} {x : Ins} (h : Seg P k [x]) : P[k]? = some x := by have := h 0 x rfl; rwa [Nat.add_zero] at this
structure Segs3 (P c p q : List Ins) : Prop where
  s0 : Seg P 0 c
  s1 : Seg P (0 + c.length) (cleanP p)
  s2 : Seg P (0 + c.length + (cleanP p).length) (cleanP q)
  len : P.length = 0 + c.length + (cleanP p).length + (cleanP q).length
theorem then3_segs (c p q : List Ins) : Segs3 (thenL [c, p, q]) c p q := by
  have hP : thenL [c, p, q] = c ++ cleanP p ++ cleanP q := by simp [thenL]
  refine ⟨seg_at (a := []) (b := cleanP p ++ cleanP q) (by simp [hP]) rfl, seg_at (a := c) (b := cleanP q) (by simp [hP]) (by simp), seg_at (a := c ++ cleanP p) (b := []) (by simp [hP]) (by simp), ?_⟩
  rw [hP]; simp; omega
structure SegsP (P p q : List Ins) (n : Nat) : Prop where
  m0 : P[0]? = some (moveI (n + 1) 0)
  s0 : Seg P 1 p
  m1 : P[1 + p.length]? = some (moveI (n + 2) 0)
  m2 : P[1 + p.length + 1]? = some (moveI 0 (n + 1))
  s1 : Seg P (1 + p.length + 1 + 1) (cleanP q)
  m3 : P[1 + p.length + 1 + 1 + (cleanP q).length]? = some (consI 0 (n + 2) 0)
  len : P.length = 1 + p.length + 1 + 1 + (cleanP q).length + 1
theorem pair_segs (p q : List Ins) (n : Nat) (hn : max (regN p) (regN q) = n + 1) : SegsP (pairL p q) p q n := by
  have hP : pairL p q = [moveI (n + 1) 0] ++ p ++ [moveI (n + 2) 0] ++ [moveI 0 (n + 1)] ++ cleanP q ++ [consI 0 (n + 2) 0] := by unfold pairL; simp [hn]
  refine ⟨seg_one (seg_at (a := []) (l := [_]) (b := p ++ [moveI (n + 2) 0] ++ [moveI 0 (n + 1)] ++ cleanP q ++ [consI 0 (n + 2) 0]) (by simp [hP]) rfl), seg_at (a := [moveI (n + 1) 0]) (b := [moveI (n + 2) 0] ++ [moveI 0 (n + 1)] ++ cleanP q ++ [consI 0 (n + 2) 0]) (by simp [hP]) rfl,
    seg_one (seg_at (a := [moveI (n + 1) 0] ++ p) (l := [_]) (b := [moveI 0 (n + 1)] ++ cleanP q ++ [consI 0 (n + 2) 0]) (by simp [hP]) (by simp; omega)), seg_one (seg_at (a := [moveI (n + 1) 0] ++ p ++ [moveI (n + 2) 0]) (l := [_]) (b := cleanP q ++ [consI 0 (n + 2) 0]) (by simp [hP]) (by simp; omega)),
    seg_at (a := [moveI (n + 1) 0] ++ p ++ [moveI (n + 2) 0] ++ [moveI 0 (n + 1)]) (b := [consI 0 (n + 2) 0]) (by simp [hP]) (by simp; omega), seg_one (seg_at (a := [moveI (n + 1) 0] ++ p ++ [moveI (n + 2) 0] ++ [moveI 0 (n + 1)] ++ cleanP q) (l := [_]) (b := []) (by simp [hP]) (by simp; omega)), ?_⟩
  rw [hP]; simp; omega
structure SegsI (P c p q : List Ins) (n : Nat) : Prop where
  m0 : P[0]? = some (moveI (n + 1) 0)
  s0 : Seg P 1 c
  m1 : P[1 + c.length]? = some (jumpI 0 ((cleanP q).length + 4))
  m2 : P[1 + c.length + 1]? = some (moveI 0 (n + 1))
  s1 : Seg P (1 + c.length + 1 + 1) (cleanP q)
  m3 : P[1 + c.length + 1 + 1 + (cleanP q).length]? = some (setI (n + 1) ⟨#[49, 48, 48]⟩)
  m4 : P[1 + c.length + 1 + 1 + (cleanP q).length + 1]? = some (jumpI (n + 1) ((cleanP p).length + 2))
  m5 : P[1 + c.length + 1 + 1 + (cleanP q).length + 2]? = some (moveI 0 (n + 1))
  s2 : Seg P (1 + c.length + 1 + 1 + (cleanP q).length + 2 + 1) (cleanP p)
  len : P.length = 1 + c.length + 1 + 1 + (cleanP q).length + 2 + 1 + (cleanP p).length
theorem if_segs (c p q : List Ins) (n : Nat) (hn : max (regN c) (max (regN p) (regN q)) = n + 1) : SegsI (ifL c p q) c p q n := by
  have hP : ifL c p q = [moveI (n + 1) 0] ++ c ++ [jumpI 0 ((cleanP q).length + 4)] ++ [moveI 0 (n + 1)] ++ cleanP q ++ [setI (n + 1) ⟨#[49, 48, 48]⟩] ++ [jumpI (n + 1) ((cleanP p).length + 2)] ++ [moveI 0 (n + 1)] ++ cleanP p := by unfold ifL; simp [hn]
  refine ⟨seg_one (seg_at (a := []) (l := [_]) (b := c ++ [jumpI 0 ((cleanP q).length + 4)] ++ [moveI 0 (n + 1)] ++ cleanP q ++ [setI (n + 1) ⟨#[49, 48, 48]⟩] ++ [jumpI (n + 1) ((cleanP p).length + 2)] ++ [moveI 0 (n + 1)] ++ cleanP p) (by simp [hP]) rfl),
    seg_at (a := [moveI (n + 1) 0]) (b := [jumpI 0 ((cleanP q).length + 4)] ++ [moveI 0 (n + 1)] ++ cleanP q ++ [setI (n + 1) ⟨#[49, 48, 48]⟩] ++ [jumpI (n + 1) ((cleanP p).length + 2)] ++ [moveI 0 (n + 1)] ++ cleanP p) (by simp [hP]) rfl,
    seg_one (seg_at (a := [moveI (n + 1) 0] ++ c) (l := [_]) (b := [moveI 0 (n + 1)] ++ cleanP q ++ [setI (n + 1) ⟨#[49, 48, 48]⟩] ++ [jumpI (n + 1) ((cleanP p).length + 2)] ++ [moveI 0 (n + 1)] ++ cleanP p) (by simp [hP]) (by simp; omega)),
    seg_one (seg_at (a := [moveI (n + 1) 0] ++ c ++ [jumpI 0 ((cleanP q).length + 4)]) (l := [_]) (b := cleanP q ++ [setI (n + 1) ⟨#[49, 48, 48]⟩] ++ [jumpI (n + 1) ((cleanP p).length + 2)] ++ [moveI 0 (n + 1)] ++ cleanP p) (by simp [hP]) (by simp; omega)),
    seg_at (a := [moveI (n + 1) 0] ++ c ++ [jumpI 0 ((cleanP q).length + 4)] ++ [moveI 0 (n + 1)]) (b := [setI (n + 1) ⟨#[49, 48, 48]⟩] ++ [jumpI (n + 1) ((cleanP p).length + 2)] ++ [moveI 0 (n + 1)] ++ cleanP p) (by simp [hP]) (by simp; omega),
    seg_one (seg_at (a := [moveI (n + 1) 0] ++ c ++ [jumpI 0 ((cleanP q).length + 4)] ++ [moveI 0 (n + 1)] ++ cleanP q) (l := [_]) (b := [jumpI (n + 1) ((cleanP p).length + 2)] ++ [moveI 0 (n + 1)] ++ cleanP p) (by simp [hP]) (by simp; omega)),
    seg_one (seg_at (a := [moveI (n + 1) 0] ++ c ++ [jumpI 0 ((cleanP q).length + 4)] ++ [moveI 0 (n + 1)] ++ cleanP q ++ [setI (n + 1) ⟨#[49, 48, 48]⟩]) (l := [_]) (b := [moveI 0 (n + 1)] ++ cleanP p) (by simp [hP]) (by simp; omega)),
    seg_one (seg_at (a := [moveI (n + 1) 0] ++ c ++ [jumpI 0 ((cleanP q).length + 4)] ++ [moveI 0 (n + 1)] ++ cleanP q ++ [setI (n + 1) ⟨#[49, 48, 48]⟩] ++ [jumpI (n + 1) ((cleanP p).length + 2)]) (l := [_]) (b := cleanP p) (by simp [hP]) (by simp; omega)),
    seg_at (a := [moveI (n + 1) 0] ++ c ++ [jumpI 0 ((cleanP q).length + 4)] ++ [moveI 0 (n + 1)] ++ cleanP q ++ [setI (n + 1) ⟨#[49, 48, 48]⟩] ++ [jumpI (n + 1) ((cleanP p).length + 2)] ++ [moveI 0 (n + 1)]) (b := []) (by simp [hP]) (by simp; omega), ?_⟩
  rw [hP]; simp; omega
structure SegsW (P c p : List Ins) (n : Nat) : Prop where
  m0 : P[0]? = some (moveI (n + 1) 0)
  s0 : Seg P 1 (cleanP c)
  m1 : P[1 + (cleanP c).length]? = some (jumpI 0 4)
  m2 : P[1 + (cleanP c).length + 1]? = some (moveI 0 (n + 1))
  m3 : P[1 + (cleanP c).length + 2]? = some (setI (n + 1) ⟨#[49, 48, 48]⟩)
  m4 : P[1 + (cleanP c).length + 3]? = some (jumpI (n + 1) ((cleanP p).length + 4))
  m5 : P[1 + (cleanP c).length + 4]? = some (moveI 0 (n + 1))
  s1 : Seg P (1 + (cleanP c).length + 5) (cleanP p)
  m6 : P[1 + (cleanP c).length + 5 + (cleanP p).length]? = some (setI (n + 1) ⟨#[49, 48, 48]⟩)
  m7 : P[1 + (cleanP c).length + 5 + (cleanP p).length + 1]? = some (jumpI (n + 1) (-(((cleanP c).length + (cleanP p).length + 7 : Nat) : Int)))
  len : P.length = (cleanP c).length + (cleanP p).length + 8
theorem while_segs (c p : List Ins) (n : Nat) (hn : max (regN c) (regN p) = n + 1) : SegsW (whileL c p) c p n := by
  have hl0 : (whileH c p).length = (cleanP c).length + (cleanP p).length + 7 := by unfold whileH; simp; omega
  have hP : whileL c p = [moveI (n + 1) 0] ++ cleanP c ++ [jumpI 0 4] ++ [moveI 0 (n + 1)] ++ [setI (n + 1) ⟨#[49, 48, 48]⟩] ++ [jumpI (n + 1) ((cleanP p).length + 4)] ++ [moveI 0 (n + 1)] ++ cleanP p ++ [setI (n + 1) ⟨#[49, 48, 48]⟩] ++ [jumpI (n + 1) (-(((cleanP c).length + (cleanP p).length + 7 : Nat) : Int))] := by
    unfold whileL; rw [hl0, hn]; unfold whileH; simp [hn]
  refine ⟨?_, ?_, ?_, ?_, ?_, ?_, ?_, ?_, ?_, ?_, ?_⟩
  · exact seg_one (seg_at (a := []) (l := [_]) (b := cleanP c ++ [jumpI 0 4] ++ [moveI 0 (n + 1)] ++ [setI (n + 1) ⟨#[49, 48, 48]⟩] ++ [jumpI (n + 1) ((cleanP p).length + 4)] ++ [moveI 0 (n + 1)] ++ cleanP p ++ [setI (n + 1) ⟨#[49, 48, 48]⟩] ++ [jumpI (n + 1) (-(((cleanP c).length + (cleanP p).length + 7 : Nat) : Int))]) (by simp [hP]) rfl)
  · exact seg_at (a := [moveI (n + 1) 0]) (b := [jumpI 0 4] ++ [moveI 0 (n + 1)] ++ [setI (n + 1) ⟨#[49, 48, 48]⟩] ++ [jumpI (n + 1) ((cleanP p).length + 4)] ++ [moveI 0 (n + 1)] ++ cleanP p ++ [setI (n + 1) ⟨#[49, 48, 48]⟩] ++ [jumpI (n + 1) (-(((cleanP c).length + (cleanP p).length + 7 : Nat) : Int))]) (by simp [hP]) rfl
  · exact seg_one (seg_at (a := [moveI (n + 1) 0] ++ cleanP c) (l := [_]) (b := [moveI 0 (n + 1)] ++ [setI (n + 1) ⟨#[49, 48, 48]⟩] ++ [jumpI (n + 1) ((cleanP p).length + 4)] ++ [moveI 0 (n + 1)] ++ cleanP p ++ [setI (n + 1) ⟨#[49, 48, 48]⟩] ++ [jumpI (n + 1) (-(((cleanP c).length + (cleanP p).length + 7 : Nat) : Int))]) (by simp [hP]) (by simp; omega))
  · exact seg_one (seg_at (a := [moveI (n + 1) 0] ++ cleanP c ++ [jumpI 0 4]) (l := [_]) (b := [setI (n + 1) ⟨#[49, 48, 48]⟩] ++ [jumpI (n + 1) ((cleanP p).length + 4)] ++ [moveI 0 (n + 1)] ++ cleanP p ++ [setI (n + 1) ⟨#[49, 48, 48]⟩] ++ [jumpI (n + 1) (-(((cleanP c).length + (cleanP p).length + 7 : Nat) : Int))]) (by simp [hP]) (by simp; omega))
  · exact seg_one (seg_at (a := [moveI (n + 1) 0] ++ cleanP c ++ [jumpI 0 4] ++ [moveI 0 (n + 1)]) (l := [_]) (b := [jumpI (n + 1) ((cleanP p).length + 4)] ++ [moveI 0 (n + 1)] ++ cleanP p ++ [setI (n + 1) ⟨#[49, 48, 48]⟩] ++ [jumpI (n + 1) (-(((cleanP c).length + (cleanP p).length + 7 : Nat) : Int))]) (by simp [hP]) (by simp; omega))
  · exact seg_one (seg_at (a := [moveI (n + 1) 0] ++ cleanP c ++ [jumpI 0 4] ++ [moveI 0 (n + 1)] ++ [setI (n + 1) ⟨#[49, 48, 48]⟩]) (l := [_]) (b := [moveI 0 (n + 1)] ++ cleanP p ++ [setI (n + 1) ⟨#[49, 48, 48]⟩] ++ [jumpI (n + 1) (-(((cleanP c).length + (cleanP p).length + 7 : Nat) : Int))]) (by simp [hP]) (by simp; omega))
  · exact seg_one (seg_at (a := [moveI (n + 1) 0] ++ cleanP c ++ [jumpI 0 4] ++ [moveI 0 (n + 1)] ++ [setI (n + 1) ⟨#[49, 48, 48]⟩] ++ [jumpI (n + 1) ((cleanP p).length + 4)]) (l := [_]) (b := cleanP p ++ [setI (n + 1) ⟨#[49, 48, 48]⟩] ++ [jumpI (n + 1) (-(((cleanP c).length + (cleanP p).length + 7 : Nat) : Int))]) (by simp [hP]) (by simp; omega))
  · exact seg_at (a := [moveI (n + 1) 0] ++ cleanP c ++ [jumpI 0 4] ++ [moveI 0 (n + 1)] ++ [setI (n + 1) ⟨#[49, 48, 48]⟩] ++ [jumpI (n + 1) ((cleanP p).length + 4)] ++ [moveI 0 (n + 1)]) (b := [setI (n + 1) ⟨#[49, 48, 48]⟩] ++ [jumpI (n + 1) (-(((cleanP c).length + (cleanP p).length + 7 : Nat) : Int))]) (by simp [hP]) (by simp; omega)
  · exact seg_one (seg_at (a := [moveI (n + 1) 0] ++ cleanP c ++ [jumpI 0 4] ++ [moveI 0 (n + 1)] ++ [setI (n + 1) ⟨#[49, 48, 48]⟩] ++ [jumpI (n + 1) ((cleanP p).length + 4)] ++ [moveI 0 (n + 1)] ++ cleanP p) (l := [_]) (b := [jumpI (n + 1) (-(((cleanP c).length + (cleanP p).length + 7 : Nat) : Int))]) (by simp [hP]) (by simp; omega))
  · exact seg_one (seg_at (a := [moveI (n + 1) 0] ++ cleanP c ++ [jumpI 0 4] ++ [moveI 0 (n + 1)] ++ [setI (n + 1) ⟨#[49, 48, 48]⟩] ++ [jumpI (n + 1) ((cleanP p).length + 4)] ++ [moveI 0 (n + 1)] ++ cleanP p ++ [setI (n + 1) ⟨#[49, 48, 48]⟩]) (l := [_]) (b := []) (by simp [hP]) (by simp; omega))
  · unfold whileL; simp [hl0]
theorem dueF_zero {ls : List (List Ins)} (h : dueF ls [] = 0) : allV ls = true ∧ mostR ls ≤ 28 := by
  unfold dueF at h
  cases hv : allV ls with
  | false => rw [if_pos hv] at h; cases h
  | true =>
    rw [if_neg (by rw [hv]; simp)] at h
    by_cases h2 : 28 < mostR ls
    · rw [if_pos h2] at h; cases h
    · exact ⟨rfl, by omega⟩
theorem dueN_03 {ls : List (List Ins)} (m : List Ins) (hv : allV ls = true) (hm : mostR ls ≤ 28) : (dueN ls m = 0 ∧ validB m = true) ∨ dueN ls m = 3 := by
  unfold dueN
  rw [if_neg (by rw [hv]; simp), if_neg (by omega)]
  by_cases h : validB m = true
  · rw [if_pos h]; exact .inl ⟨rfl, h⟩
  · rw [if_neg h]; exact .inr rfl
theorem made_d {f : Nat} {args : Array Value} {w : World} {ls : List (List Ins)} {m : List Ins} {d : Int} (hd : dueN ls m = d) (h : Calls Try.prog f args w (MadeOut w (dueN ls m) m)) : Calls Try.prog f args w fun e w' => ∃ v, e = .returned (.tuple #[v, .int .i64 d]) ∧ TB w' w'.heap.size d m v ∧ Below w.heap.size w w' := by
  rw [hd] at h; exact made_tb h
end Go.Proofs.Ytlaeljkjdfffjaa

namespace Go.Proofs.Ytlaeljkjdfffjaa
open Go.RowKit

theorem goF_done_le {l : List Ins} {K F m : Nat} {s0 s : St} (h : goF l K 0 s0 = .done s m) (hF : K ≤ F) : goF l F 0 s0 = .done s m := by
  rcases goF_how l K 0 s0 with ⟨s', m', h1, h2, h3, h4⟩ | ⟨s', h1, _⟩ | ⟨s', m', h1, _⟩
  · rw [h, Nat.zero_add] at h1
    injection h1 with e1 e2
    subst e1; subst e2
    exact h3.done h4 F (by omega)
  · rw [h] at h1; cases h1
  · rw [h] at h1; cases h1
/-- Not ended after so many steps. -/
def NotD (P : List Ins) (s0 : St) (F : Nat) : Prop := ∀ s k, goF P F 0 s0 ≠ .done s k
theorem NotD.le {P : List Ins} {s0 : St} {F F' : Nat} (h : NotD P s0 F) (hF : F' ≤ F) : NotD P s0 F' := fun s k e => h s k (goF_done_le e hF)
theorem NotD.of {P : List Ins} {m : Nat} {s0 t : St} (h : Runs P m s0 t) (ht : t.pos ≠ P.length) : NotD P s0 m := fun s k e => by rw [h.fuel ht] at e; cases e
theorem NotD.big {P : List Ins} {m : Nat} {s0 t : St} (h : Runs P m s0 t) (ht : t.pos ≠ P.length) (hn : stepP P t = none) (F : Nat) : NotD P s0 F := fun s k e => by
  have h1 := h.big ht hn (max F (m + 1)) (by omega)
  rw [goF_done_le e (Nat.le_max_left _ _)] at h1
  cases h1
/-- A place in a run: what register 0 holds, and what the others do. -/
def AtR (P : List Ins) (s0 : St) (S k : Nat) (x : Tr) (R : List Tr → Prop) : Prop := ∃ rest, Runs P S s0 ⟨k, x :: rest⟩ ∧ rest.length = 31 ∧ R rest
theorem AtR.mono {P : List Ins} {s0 : St} {S k : Nat} {x : Tr} {R R' : List Tr → Prop} (h : AtR P s0 S k x R) (hR : ∀ rest, rest.length = 31 → R rest → R' rest) : AtR P s0 S k x R' := by
  obtain ⟨rest, h1, h2, h3⟩ := h
  exact ⟨rest, h1, h2, hR rest h2 h3⟩
theorem AtR.start (P : List Ins) (x : Tr) : AtR P (startS x) 0 0 x (fun rest => rest = List.replicate 31 .nil) := ⟨_, .refl _, by simp, rfl⟩
theorem AtR.done {P : List Ins} {s0 : St} {S : Nat} {x : Tr} {R : List Tr → Prop} (h : AtR P s0 S P.length x R) (F : Nat) (hF : S ≤ F) : ∃ s, goF P F 0 s0 = .done s S ∧ getR s.regs 0 = x := by
  obtain ⟨rest, h1, _, _⟩ := h
  exact ⟨_, h1.done rfl F hF, rfl⟩
theorem AtR.notD {P : List Ins} {s0 : St} {S k : Nat} {x : Tr} {R : List Tr → Prop} (h : AtR P s0 S k x R) (hk : k ≠ P.length) : NotD P s0 S := by
  obtain ⟨rest, h1, _, _⟩ := h
  exact NotD.of h1 hk
theorem AtR.step {P : List Ins} {s0 : St} {S k k' : Nat} {x x' : Tr} {R R' : List Tr → Prop} (h : AtR P s0 S k x R) (hs : ∀ rest, rest.length = 31 → R rest → ∃ rest', Runs P 1 ⟨k, x :: rest⟩ ⟨k', x' :: rest'⟩ ∧ rest'.length = 31 ∧ R' rest') : AtR P s0 (S + 1) k' x' R' := by
  obtain ⟨rest, h1, h2, h3⟩ := h
  obtain ⟨rest', g1, g2, g3⟩ := hs rest h2 h3
  exact ⟨rest', h1.trans g1, g2, g3⟩
/-- A part of the program, run where its registers are clean. -/
theorem AtR.part {P l : List Ins} {s0 : St} {S k : Nat} {x : Tr} {R R' : List Tr → Prop} (h : AtR P s0 S k x R) (hseg : Seg P k l) (hv : rightAll l = true) (hkl : k + l.length ≤ P.length) (hx : x.size ≤ 2000000) (hcl : ∀ rest, rest.length = 31 → R rest → Cleaned (mostN l) rest)
    (hkeep : ∀ rest rest' : List Tr, rest'.length = 31 → (∀ r, mostN l ≤ r → rest'[r]? = rest[r]?) → R rest → R' rest') (F : Nat) :
    (∀ s m, goF l F 0 (startS x) = .done s m → AtR P s0 (S + m) (k + l.length) (getR s.regs 0) R') ∧ (NotD l (startS x) F → NotD P s0 (S + F)) := by
  obtain ⟨rest, g1, g2, g3⟩ := h
  rcases part_run hseg hv hkl F x hx with ⟨m', s', b, h1, h2, h3, h4, -, h5⟩ | ⟨s', h1, h2, h5⟩ | ⟨m', s', h0, h1, h2, h3, h5⟩
  · refine ⟨fun s m e => ?_, fun hn => absurd (h1.done h2 F h4) (hn _ _)⟩
    rw [h1.done h2 F h4] at e
    injection e with e1 e2
    subst e1; subst e2
    obtain ⟨rest', r1, r2, r3⟩ := h5 rest g2 (hcl rest g2 g3)
    exact ⟨rest', by rw [h3]; exact g1.trans r3, r1, hkeep rest rest' r1 r2 g3⟩
  · refine ⟨fun s m e => (by rw [h1.fuel h2] at e; cases e), fun _ => ?_⟩
    obtain ⟨t', q1, q2⟩ := h5 rest g2 (hcl rest g2 g3)
    exact NotD.of (g1.trans q1) q2
  · refine ⟨fun s m e => (by rw [h1.big h2 h3 F h0] at e; cases e), fun _ => ?_⟩
    obtain ⟨t', q1, q2, q3⟩ := h5 rest g2 (hcl rest g2 g3)
    exact NotD.big (g1.trans q1) q2 q3 _
/-- A part behind instructions that clean. -/
theorem AtR.cleaned {P l : List Ins} {s0 : St} {S k : Nat} {x : Tr} {hs : List (Nat × Tr)} (h : AtR P s0 S k x (Holds hs)) (hseg : Seg P k (cleanP l)) (hv : rightAll l = true) (hkl : k + (cleanP l).length ≤ P.length) (hx : x.size ≤ 2000000) (hh : ∀ p ∈ hs, mostN l ≤ p.1) (F : Nat) :
    (∀ s m, goF l F 0 (startS x) = .done s m → AtR P s0 (S + mostN l + m) (k + (cleanP l).length) (getR s.regs 0) (Holds hs)) ∧ (NotD l (startS x) F → NotD P s0 (S + mostN l + F)) := by
  have hm := mostN_lt32 hv
  have hs1 : Seg P k (cleanK (mostN l)) := fun i y hy => hseg i y (by unfold cleanP cleanH; rw [List.getElem?_append_left (List.getElem?_eq_some_iff.1 hy).1]; exact hy)
  have hs2 : Seg P (k + mostN l) l := fun i y hy => by
    have := hseg (mostN l + i) y (by unfold cleanP cleanH; rw [List.getElem?_append_right (by rw [cleanK_length]; omega), cleanK_length, Nat.add_sub_cancel_left]; exact hy)
    rwa [show k + (mostN l + i) = k + mostN l + i by omega] at this
  have h1 : AtR P s0 (S + mostN l) (k + mostN l) x (fun rest => Holds hs rest ∧ Cleaned (mostN l) rest) := by
    obtain ⟨rest, a1, a3, a4⟩ := h
    refine ⟨_, a1.trans (cleanRuns hs1 x rest a3 hm), by simp; omega, fun p hp => ?_, cleaned_self _ _⟩
    rw [cleaned_keep a3 (hh p hp) (by have := (List.getElem?_eq_some_iff.1 (a4 p hp)).1; omega)]; exact a4 p hp
  have hkl2 : k + mostN l + l.length ≤ P.length := by rw [cleanP_length] at hkl; omega
  have h2 := h1.part (R' := Holds hs) hs2 hv hkl2 hx (fun rest _ hr => hr.2) (fun rest rest' _ he hr p hp => by rw [he p.1 (hh p hp)]; exact hr.1 p hp) F
  have h3 : k + mostN l + l.length = k + (cleanP l).length := by rw [cleanP_length]; omega
  rw [h3] at h2
  exact h2
theorem AtR.save {P : List Ins} {s0 : St} {S k n : Nat} {x : Tr} {hs : List (Nat × Tr)} (h : AtR P s0 S k x (Holds hs)) (hn : n ≤ 30) (hP : P[k]? = some (moveI (n + 1) 0)) (hh : ∀ p ∈ hs, p.1 ≠ n) : AtR P s0 (S + 1) (k + 1) x (Holds ((n, x) :: hs)) :=
  h.step fun rest hr hR => ⟨_, move_run (n + 1) 0 x _ _ hP rfl (setR_rest _ _ _ _), by simpa using hr, fun p hp => by
    rcases List.mem_cons.1 hp with rfl | hp
    · rw [List.getElem?_set_self (by omega)]
    · rw [List.getElem?_set_ne (fun e => hh p hp e.symm)]; exact hR p hp⟩
theorem AtR.load {P : List Ins} {s0 : St} {S k n : Nat} {x t : Tr} {hs : List (Nat × Tr)} (h : AtR P s0 S k x (Holds hs)) (hP : P[k]? = some (moveI 0 (n + 1))) (hh : (n, t) ∈ hs) : AtR P s0 (S + 1) (k + 1) t (Holds hs) :=
  h.step fun rest hr hR => ⟨rest, move_run 0 (n + 1) t _ _ hP (by rw [getR_rest, hR _ hh]; rfl) rfl, hr, hR⟩
theorem AtR.set {P : List Ins} {s0 : St} {S k n : Nat} {x v : Tr} {b : ByteArray} {hs : List (Nat × Tr)} (h : AtR P s0 S k x (Holds hs)) (hn : n ≤ 30) (hP : P[k]? = some (setI (n + 1) b)) (hv : toTr b = v) (hh : ∀ p ∈ hs, p.1 ≠ n) : AtR P s0 (S + 1) (k + 1) x (Holds ((n, v) :: hs)) :=
  h.step fun rest hr hR => ⟨_, set_run (n + 1) b v _ _ hP hv (setR_rest _ _ _ _), by simpa using hr, fun p hp => by
    rcases List.mem_cons.1 hp with rfl | hp
    · rw [List.getElem?_set_self (by omega)]
    · rw [List.getElem?_set_ne (fun e => hh p hp e.symm)]; exact hR p hp⟩
theorem AtR.stay0 {P : List Ins} {s0 : St} {S k : Nat} {x : Tr} {R : List Tr → Prop} {d : Int} (h : AtR P s0 S k x R) (hP : P[k]? = some (jumpI 0 d)) (hx : x = .nil) : AtR P s0 (S + 1) (k + 1) x R :=
  h.step fun rest hr hR => ⟨rest, stay_run 0 d _ hP (by subst hx; rfl), hr, hR⟩
theorem AtR.jump0 {P : List Ins} {s0 : St} {S k : Nat} {x : Tr} {R : List Tr → Prop} {d : Int} (h : AtR P s0 S k x R) (hP : P[k]? = some (jumpI 0 d)) (hx : x ≠ .nil) (k' : Nat) (hk : (k : Int) + d = k') : AtR P s0 (S + 1) k' x R :=
  h.step fun rest hr hR => ⟨rest, jump_run 0 d _ k' hP hx hk, hr, hR⟩
theorem AtR.jump {P : List Ins} {s0 : St} {S k n : Nat} {x t : Tr} {hs : List (Nat × Tr)} {d : Int} (h : AtR P s0 S k x (Holds hs)) (hP : P[k]? = some (jumpI (n + 1) d)) (hh : (n, t) ∈ hs) (ht : t ≠ .nil) (k' : Nat) (hk : (k : Int) + d = k') : AtR P s0 (S + 1) k' x (Holds hs) :=
  h.step fun rest hr hR => ⟨rest, jump_run (n + 1) d _ k' hP (by rw [getR_rest, hR _ hh]; exact ht) hk, hr, hR⟩
theorem AtR.cons {P : List Ins} {s0 : St} {S k n : Nat} {x t : Tr} {hs : List (Nat × Tr)} (h : AtR P s0 S k x (Holds hs)) (hP : P[k]? = some (consI 0 (n + 1) 0)) (hh : (n, t) ∈ hs) (hz : (Tr.pair t x).size ≤ 2000000) : AtR P s0 (S + 1) (k + 1) (.pair t x) (Holds hs) :=
  h.step fun rest hr hR => ⟨rest, cons_run 0 (n + 1) 0 t x _ _ hP (by rw [getR_rest, hR _ hh]; rfl) rfl hz rfl, hr, hR⟩
theorem cleaned_rep (a : Nat) (ha : a < 32) : Cleaned a (List.replicate 31 Tr.nil) := by unfold Cleaned; rw [List.take_replicate, Nat.min_eq_left (by omega)]
/-- The first part. -/
theorem first_part {P l : List Ins} (x : Tr) (hx : x.size ≤ 2000000) (hseg : Seg P 0 l) (hv : rightAll l = true) (hkl : l.length ≤ P.length) (F : Nat) :
    (∀ s m, goF l F 0 (startS x) = .done s m → AtR P (startS x) m l.length (getR s.regs 0) (Holds [])) ∧ (NotD l (startS x) F → NotD P (startS x) F) := by
  have h := (AtR.start P x).part (R' := Holds []) (k := 0) hseg hv (by omega) hx (fun rest _ hR => by subst hR; exact cleaned_rep _ (mostN_lt32 hv)) (fun _ _ _ _ _ => Holds.nil _) F
  simpa using h
/-- The first part, with the input kept. -/
theorem kept_part {P l : List Ins} {n : Nat} (x : Tr) (hx : x.size ≤ 2000000) (hm : P[0]? = some (moveI (n + 1) 0)) (hn : n ≤ 30) (hln : mostN l ≤ n) (hseg : Seg P 1 l) (hv : rightAll l = true) (hkl : 1 + l.length ≤ P.length) (F : Nat) :
    (∀ s m, goF l F 0 (startS x) = .done s m → AtR P (startS x) (1 + m) (1 + l.length) (getR s.regs 0) (Holds [(n, x)])) ∧ (NotD l (startS x) F → NotD P (startS x) (1 + F)) := by
  have h0 : AtR P (startS x) (0 + 1) 1 x (fun rest => rest = (List.replicate 31 .nil).set n x) := (AtR.start P x).step fun rest hr hR => ⟨_, move_run (n + 1) 0 x _ _ hm rfl (setR_rest _ _ _ _), by simpa using hr, by rw [hR]⟩
  have h := h0.part (R' := Holds [(n, x)]) hseg hv hkl hx (fun rest _ hR => by subst hR; exact cleaned_put hln (by omega) x) (fun rest rest' _ he hR p hp => by
    rw [List.mem_singleton] at hp
    subst hp
    show rest'[n]? = some x
    rw [he n hln, hR, List.getElem?_set_self (by simp; omega)]) F
  simpa using h

/-- One after the other. -/
theorem then_two (p q : List Ins) : thenL [p, q] = p ++ cleanP q := by simp [thenL]
theorem then_runs {p q : List Ins} (hp : rightAll p = true) (hq : rightAll q = true) (x : Tr) (hx : x.size ≤ 2000000) (F : Nat) :
    (∀ s k, goF p F 0 (startS x) = .done s k → (getR s.regs 0).size ≤ 2000000 → ∀ G, (∀ s' n, goF q G 0 (startS (getR s.regs 0)) = .done s' n → ∃ s2, goF (thenL [p, q]) (k + n + mostN q) 0 (startS x) = .done s2 (k + n + mostN q) ∧ getR s2.regs 0 = getR s'.regs 0) ∧ (NotD q (startS (getR s.regs 0)) G → NotD (thenL [p, q]) (startS x) (k + mostN q + G))) ∧
    (NotD p (startS x) F → NotD (thenL [p, q]) (startS x) F) := by
  have hP := then_two p q
  have s0 : Seg (thenL [p, q]) 0 p := seg_at (a := []) (b := cleanP q) (by simp [hP]) rfl
  have s1 : Seg (thenL [p, q]) p.length (cleanP q) := seg_at (a := p) (b := []) (by simp [hP]) rfl
  have hl : (thenL [p, q]).length = p.length + (cleanP q).length := by rw [hP]; simp
  have h := first_part x hx s0 hp (by omega) F
  refine ⟨fun s k e hb G => ?_, h.2⟩
  have h1 := (h.1 s k e).cleaned s1 hq (by omega) hb (fun p hp => by cases hp) G
  refine ⟨fun s' n e' => ?_, h1.2⟩
  have h2 := h1.1 s' n e'
  rw [← hl] at h2
  have := h2.done (k + n + mostN q) (by omega)
  rwa [show k + mostN q + n = k + n + mostN q by omega] at this
/-- A pair of both. -/
theorem pair_runs {p q : List Ins} (hp : rightAll p = true) (hq : rightAll q = true) (hm : max (regN p) (regN q) ≤ 28) (x : Tr) (hx : x.size ≤ 2000000) (F : Nat) :
    (∀ s k, goF p F 0 (startS x) = .done s k → ∀ G s' n, goF q G 0 (startS x) = .done s' n → (Tr.pair (getR s.regs 0) (getR s'.regs 0)).size ≤ 2000000 → ∃ s2, goF (pairL p q) (k + n + mostN q + 4) 0 (startS x) = .done s2 (k + n + mostN q + 4) ∧ getR s2.regs 0 = .pair (getR s.regs 0) (getR s'.regs 0)) ∧
    (NotD p (startS x) F → NotD (pairL p q) (startS x) F) := by
  obtain ⟨n0, hn0⟩ : ∃ n0, max (regN p) (regN q) = n0 + 1 := ⟨max (regN p) (regN q) - 1, by unfold regN; omega⟩
  have S := pair_segs p q n0 hn0
  have hmp : mostN p ≤ n0 := by unfold regN at hn0; omega
  have hmq : mostN q ≤ n0 := by unfold regN at hn0; omega
  have hlen := S.len
  have h := kept_part x hx S.m0 (by omega) hmp S.s0 hp (by omega) F
  refine ⟨fun s k e G s' n e' hz => ?_, fun hn => (h.2 hn).le (by omega)⟩
  have h1 := (h.1 s k e).save (n := n0 + 1) (by omega) S.m1 (fun p hp => by rw [List.mem_singleton.1 hp]; show n0 ≠ n0 + 1; omega)
  have h2 := h1.load (n := n0) (t := x) S.m2 (by simp)
  have h3 := (h2.cleaned (l := q) S.s1 hq (by omega) hx (fun p hp => by rcases List.mem_cons.1 hp with rfl | hp; exact Nat.le_succ_of_le hmq; rw [List.mem_singleton.1 hp]; exact hmq) G).1 s' n e'
  have h4 := h3.cons (n := n0 + 1) (t := getR s.regs 0) S.m3 (by simp) hz
  rw [← hlen] at h4
  have := h4.done (k + n + mostN q + 4) (by omega)
  rwa [show 1 + k + 1 + 1 + mostN q + n + 1 = k + n + mostN q + 4 by omega] at this
/-- By a condition. -/
theorem if_runs {c p q : List Ins} (hc : rightAll c = true) (hp : rightAll p = true) (hq : rightAll q = true) (hm : max (regN c) (max (regN p) (regN q)) ≤ 28) (x : Tr) (hx : x.size ≤ 2000000) (F : Nat) :
    (∀ s n, goF c F 0 (startS x) = .done s n → ∀ G,
      (getR s.regs 0 ≠ .nil → (∀ s' k, goF p G 0 (startS x) = .done s' k → ∃ s2, goF (ifL c p q) (n + regN p + 2 + k) 0 (startS x) = .done s2 (n + regN p + 2 + k) ∧ getR s2.regs 0 = getR s'.regs 0) ∧ (NotD p (startS x) G → NotD (ifL c p q) (startS x) G)) ∧
      (getR s.regs 0 = .nil → (∀ s' k, goF q G 0 (startS x) = .done s' k → ∃ s2, goF (ifL c p q) (n + regN q + 4 + k) 0 (startS x) = .done s2 (n + regN q + 4 + k) ∧ getR s2.regs 0 = getR s'.regs 0) ∧ (NotD q (startS x) G → NotD (ifL c p q) (startS x) G))) ∧
    (NotD c (startS x) F → NotD (ifL c p q) (startS x) F) := by
  obtain ⟨n0, hn0⟩ : ∃ n0, max (regN c) (max (regN p) (regN q)) = n0 + 1 := ⟨max (regN c) (max (regN p) (regN q)) - 1, by unfold regN; omega⟩
  have S := if_segs c p q n0 hn0
  have hmc : mostN c ≤ n0 := by unfold regN at hn0; omega
  have hmp : mostN p ≤ n0 := by unfold regN at hn0; omega
  have hmq : mostN q ≤ n0 := by unfold regN at hn0; omega
  have hlen := S.len
  have h := kept_part x hx S.m0 (by omega) hmc S.s0 hc (by omega) F
  refine ⟨fun s n e G => ⟨fun hb => ?_, fun hb => ?_⟩, fun hn => (h.2 hn).le (by omega)⟩
  · have h1 := (h.1 s n e).jump0 S.m1 hb (1 + c.length + 1 + 1 + (cleanP q).length + 2) (by omega)
    have h2 := h1.load (n := n0) (t := x) S.m5 (by simp)
    have h3 := h2.cleaned (l := p) S.s2 hp (by omega) hx (fun p hp => by rw [List.mem_singleton.1 hp]; exact hmp) G
    refine ⟨fun s' k e' => ?_, fun hn => (h3.2 hn).le (by omega)⟩
    have h4 := h3.1 s' k e'
    rw [← hlen] at h4
    have := h4.done (n + regN p + 2 + k) (by unfold regN; omega)
    rwa [show 1 + n + 1 + 1 + mostN p + k = n + regN p + 2 + k by unfold regN; omega] at this
  · have h1 := (h.1 s n e).stay0 S.m1 hb
    have h2 := h1.load (n := n0) (t := x) S.m2 (by simp)
    have h3 := h2.cleaned (l := q) S.s1 hq (by omega) hx (fun p hp => by rw [List.mem_singleton.1 hp]; exact hmq) G
    refine ⟨fun s' k e' => ?_, fun hn => (h3.2 hn).le (by omega)⟩
    have h4 := h3.1 s' k e'
    obtain ⟨rest, a1, a2, -⟩ := h4
    have h4' : AtR (ifL c p q) (startS x) (1 + n + 1 + 1 + mostN q + k) (1 + c.length + 1 + 1 + (cleanP q).length) (getR s'.regs 0) (Holds []) := ⟨rest, a1, a2, Holds.nil _⟩
    have h5 := h4'.set (n := n0) (by omega) S.m3 tr_100 (fun p hp => by cases hp)
    have h6 := h5.jump (n := n0) (t := .pair .nil .nil) S.m4 (by simp) (by intro h; cases h) (ifL c p q).length (by rw [hlen]; omega)
    have := h6.done (n + regN q + 4 + k) (by unfold regN; omega)
    rwa [show 1 + n + 1 + 1 + mostN q + k + 1 + 1 = n + regN q + 4 + k by unfold regN; omega] at this
/-- As long as: a round's begin. -/
def RoundAt (c p : List Ins) (x : Tr) (S : Nat) (y : Tr) : Prop := AtR (whileL c p) (startS x) S 0 y (Holds [])
theorem RoundAt.start (c p : List Ins) (x : Tr) : RoundAt c p x 0 x := (AtR.start _ x).mono fun _ _ _ => Holds.nil _
theorem while_runs {c p : List Ins} (hc : rightAll c = true) (hp : rightAll p = true) (hm : max (regN c) (regN p) ≤ 28) {x y : Tr} {S : Nat} (h : RoundAt c p x S y) (hy : y.size ≤ 2000000) (F : Nat) :
    (∀ s n, goF c F 0 (startS y) = .done s n →
      (getR s.regs 0 = .nil → ∃ s2, goF (whileL c p) (S + n + regN c + 4) 0 (startS x) = .done s2 (S + n + regN c + 4) ∧ getR s2.regs 0 = y) ∧
      (getR s.regs 0 ≠ .nil → ∀ G, (∀ s' k, goF p G 0 (startS y) = .done s' k → RoundAt c p x (S + (n + regN c + 1) + (k + regN p + 2)) (getR s'.regs 0)) ∧ (NotD p (startS y) G → NotD (whileL c p) (startS x) (S + G)))) ∧
    (NotD c (startS y) F → NotD (whileL c p) (startS x) (S + F)) := by
  obtain ⟨n0, hn0⟩ : ∃ n0, max (regN c) (regN p) = n0 + 1 := ⟨max (regN c) (regN p) - 1, by unfold regN; omega⟩
  have W := while_segs c p n0 hn0
  have hmc : mostN c ≤ n0 := by unfold regN at hn0; omega
  have hmp : mostN p ≤ n0 := by unfold regN at hn0; omega
  have hlen := W.len
  have h0 : AtR (whileL c p) (startS x) (S + 1) 1 y (Holds [(n0, y)]) := h.save (n := n0) (by omega) W.m0 (fun p hp => by cases hp)
  have h1 := h0.cleaned (l := c) W.s0 hc (by omega) hy (fun p hp => by rw [List.mem_singleton.1 hp]; exact hmc) F
  refine ⟨fun s n e => ⟨fun hz => ?_, fun hz G => ?_⟩, fun hn => (h1.2 hn).le (by omega)⟩
  · have h2 := (h1.1 s n e).stay0 W.m1 hz
    have h3 := h2.load (n := n0) (t := y) W.m2 (by simp)
    have h4 : AtR (whileL c p) (startS x) (S + 1 + mostN c + n + 1 + 1) (1 + (cleanP c).length + 2) y (Holds []) := by
      obtain ⟨rest, a1, a2, -⟩ := h3
      exact ⟨rest, a1, a2, Holds.nil _⟩
    have h5 := h4.set (n := n0) (by omega) W.m3 tr_100 (fun p hp => by cases hp)
    have h6 := h5.jump (n := n0) (t := .pair .nil .nil) (k' := (whileL c p).length) W.m4 (by simp) (by intro h; cases h) (by rw [hlen]; omega)
    have := h6.done (S + n + regN c + 4) (by unfold regN; omega)
    rwa [show S + 1 + mostN c + n + 1 + 1 + 1 + 1 = S + n + regN c + 4 by unfold regN; omega] at this
  · have h2 := (h1.1 s n e).jump0 W.m1 hz (1 + (cleanP c).length + 4) (by omega)
    have h3 := h2.load (n := n0) (t := y) W.m5 (by simp)
    have h4 := h3.cleaned (l := p) W.s1 hp (by omega) hy (fun p hp => by rw [List.mem_singleton.1 hp]; exact hmp) G
    refine ⟨fun s' k e' => ?_, fun hn => (h4.2 hn).le (by omega)⟩
    have h5 : AtR (whileL c p) (startS x) (S + 1 + mostN c + n + 1 + 1 + mostN p + k) (1 + (cleanP c).length + 5 + (cleanP p).length) (getR s'.regs 0) (Holds []) := by
      obtain ⟨rest, a1, a2, -⟩ := h4.1 s' k e'
      exact ⟨rest, a1, a2, Holds.nil _⟩
    have h6 := h5.set (n := n0) (by omega) W.m6 tr_100 (fun p hp => by cases hp)
    have h7 := h6.jump (n := n0) (t := .pair .nil .nil) (k' := 0) W.m7 (by simp) (by intro h; cases h) (by omega)
    have h8 : RoundAt c p x (S + 1 + mostN c + n + 1 + 1 + mostN p + k + 1 + 1) (getR s'.regs 0) := h7.mono fun _ _ _ => Holds.nil _
    rwa [show S + 1 + mostN c + n + 1 + 1 + mostN p + k + 1 + 1 = S + (n + regN c + 1) + (k + regN p + 2) by unfold regN; omega] at h8
end Go.Proofs.Ytlaeljkjdfffjaa

namespace Go.Proofs.Ytlaeljkjdfffjaa
open Go.RowKit

def PlayOut (w : World) (r : Res) (e : Ending) (w' : World) : Prop := ∃ q k, e = .returned (.tuple #[.pointer q, .int .i64 k, .int .i64 r.fol.2]) ∧ NodeP 102 w' r.fol.1 (.pointer q) ∧ (∀ s j, r = .done s j → k = j) ∧ Below w.heap.size w w'
theorem tplay_any (v : Value) (l : List Ins) (t : Tr) (x : Value) (K : Nat) (hK : K ≤ 100000000) (w : World) (hl : InsRow w w.heap.size v l) (hv : validB l = true) (hx : NodeP 102 w t x) (ht : t.size ≤ 2000000)
    : Calls Try.prog 19 #[v, x, .int .i64 K] w (PlayOut w (goF l K 0 (startS t))) := by
  have kf := Lib.hid (fol_start v l t x K hK w hl hv hx ht)
  obtain ⟨R, hR⟩ : ∃ R, goF l K 0 (startS t) = R := ⟨_, rfl⟩
  rw [hR] at kf ⊢
  obtain ⟨ao, cap, rfl⟩ := hl.len
  obtain ⟨xp, rfl⟩ := hx.ptr
  clear hR hl hv hx ht
  go_enter Try.func19, Try.ntmps19
  go_wp2_with fail
  refine kf.out.mono ?_
  rintro e w1 ⟨q, k, m, rfl, hn, hk, hb⟩
  have HN := Lib.hid hn
  have HK := Lib.hid hk
  have HB := Lib.hid hb
  obtain ⟨F2, hF2⟩ : ∃ z, R.fol.2 = z := ⟨_, rfl⟩
  rw [hF2]
  have HF := Lib.hid hF2
  clear hn hk hb hF2 kf
  go_wp2
  refine bodyPost_ret (v := .tuple #[.pointer q, .int .i64 k, .int .i64 F2]) (by simp [results, Try.results19, go_sem]) rfl ?_
  exact ⟨q, k, by rw [HF.out], HN.out, HK.out, HB.out⟩
theorem tplay_done {v x : Value} {l : List Ins} {t : Tr} {s : St} {m : Nat} (k : Nat) (K : Int) (hKk : K = k) (hK : k ≤ 100000000) (hR : goF l k 0 (startS t) = .done s m) {w : World} (hl : InsRow w w.heap.size v l) (hv : validB l = true) (hx : NodeP 102 w t x) (ht : t.size ≤ 2000000) :
    Calls Try.prog 19 #[v, x, .int .i64 K] w fun e w' => ∃ q, e = .returned (.tuple #[.pointer q, .int .i64 m, .int .i64 0]) ∧ NodeP 102 w' (getR s.regs 0) (.pointer q) ∧ Below w.heap.size w w' := by
  subst hKk
  refine (tplay_any v l t x k hK w hl hv hx ht).mono ?_
  rintro e w' ⟨q, j, h1, h2, h3, h4⟩
  rw [hR] at h1 h2 h3
  have := h3 s m rfl
  subst this
  exact ⟨q, h1, h2, h4⟩
theorem tplay_fuel {v x : Value} {l : List Ins} {t : Tr} {s : St} {m : Nat} (k : Nat) (K : Int) (hKk : K = k) (hK : k ≤ 100000000) (hR : goF l k 0 (startS t) = .fuel s m) {w : World} (hl : InsRow w w.heap.size v l) (hv : validB l = true) (hx : NodeP 102 w t x) (ht : t.size ≤ 2000000) :
    Calls Try.prog 19 #[v, x, .int .i64 K] w fun e w' => ∃ q j, e = .returned (.tuple #[.pointer q, .int .i64 j, .int .i64 1]) ∧ Below w.heap.size w w' := by
  subst hKk
  refine (tplay_any v l t x k hK w hl hv hx ht).mono ?_
  rintro e w' ⟨q, j, h1, h2, h3, h4⟩
  rw [hR] at h1
  exact ⟨q, j, h1, h4⟩
theorem tplay_big {v x : Value} {l : List Ins} {t : Tr} (k : Nat) (K : Int) (hKk : K = k) (hK : k ≤ 100000000) (hR : goF l k 0 (startS t) = .big) {w : World} (hl : InsRow w w.heap.size v l) (hv : validB l = true) (hx : NodeP 102 w t x) (ht : t.size ≤ 2000000) :
    Calls Try.prog 19 #[v, x, .int .i64 K] w fun e w' => ∃ q j, e = .returned (.tuple #[.pointer q, .int .i64 j, .int .i64 2]) ∧ Below w.heap.size w w' := by
  subst hKk
  refine (tplay_any v l t x k hK w hl hv hx ht).mono ?_
  rintro e w' ⟨q, j, h1, h2, h3, h4⟩
  rw [hR] at h1
  exact ⟨q, j, h1, h4⟩
theorem goF_size {l : List Ins} (hv : validB l = true) {k m : Nat} {t : Tr} {s : St} (ht : t.size ≤ 2000000) (hR : goF l k 0 (startS t) = .done s m) : (getR s.regs 0).size ≤ 2000000 := by
  have hg := (goF_good (validB_all hv) (f := k) (n := 0) (Good.start l.length t ht)).1 s m hR
  unfold getR
  cases h : s.regs[(0 : Int).toNat]? with
  | none => simp [Tr.size]
  | some x => exact hg.2.2 x (List.mem_of_getElem? h)
theorem goF_steps {l : List Ins} {k m : Nat} {t : Tr} {s : St} (hR : goF l k 0 (startS t) = .done s m) : m ≤ k := by
  rcases goF_how l k 0 (startS t) with ⟨s', m', h1, h2, _⟩ | ⟨s', h1, _⟩ | ⟨s', m', h1, _⟩
  · rw [hR] at h1; injection h1 with _ h; omega
  · rw [hR] at h1; cases h1
  · rw [hR] at h1; cases h1
/-- Returned with OK, valid, and returns this tree after just so many steps. -/
theorem treturns_ok {v x y : Value} {l : List Ins} {t u : Tr} (k : Nat) (K : Int) (hKk : K = k) (hK : k ≤ 1000000) {w : World} (hhL : InsRow w w.heap.size v l) (hv : validB l = true) (hx : NodeP 102 w t x) (hy : NodeP 102 w u y) (ht : t.size ≤ 2000000) (hR : ∃ s, goF l k 0 (startS t) = .done s k ∧ getR s.regs 0 = u) :
    Calls Try.prog 51 #[v, .int .i64 0, x, y, .int .i64 K] w fun e w' => e = .returned (.bool true) ∧ Below w.heap.size w w' := by
  subst hKk
  obtain ⟨s, hR, hu⟩ := hR
  obtain ⟨la, lc, rfl⟩ := hhL.len
  obtain ⟨ln, hln⟩ : ∃ n, l.length = n := ⟨_, rfl⟩
  rw [hln] at hhL ⊢
  obtain ⟨xp, rfl⟩ := hx.ptr
  obtain ⟨yp, rfl⟩ := hy.ptr
  have hsz := goF_size hv ht hR
  rw [hu] at hsz
  have hL := Lib.hid hhL
  have hX := Lib.hid hx
  have hY := Lib.hid hy
  have HV := Lib.hid hv
  have HT := Lib.hid ht
  have HR := Lib.hid hR
  have HU := Lib.hid hu
  have HSZ := Lib.hid hsz
  have hKI : (k : Int) ≤ 1000000 := by omega
  have HK := Lib.hid hK
  clear hhL hln hx hy hv ht hR hu hsz hK
  have ch := Lib.hid (Below.refl w.heap.size w)
  go_enter Try.func51, Try.ntmps51
  go_wp2_with fail
  refine (twhole_any _ l true HV.out _ hL.out).mono ?_
  rintro e w1 ⟨rfl, hq⟩
  have hX := Lib.hid (hX.out.kept (Kept.below hq))
  have hY := Lib.hid (hY.out.kept (Kept.below hq))
  have hL := Lib.hid ((hL.out.below hq).mono hq.size)
  have ch := Lib.hid (ch.out.trans (hq.mono ch.out.size))
  clear hq
  go_wp2_with fail
  refine (tplay_done k _ rfl (by have := HK.out; omega) HR.out hL.out HV.out hX.out HT.out).mono ?_
  rintro e w2 ⟨q, rfl, hZ, hq⟩
  have hX := Lib.hid (hX.out.kept (Kept.below hq))
  have hY := Lib.hid (hY.out.kept (Kept.below hq))
  have hL := Lib.hid ((hL.out.below hq).mono hq.size)
  have ch := Lib.hid (ch.out.trans (hq.mono ch.out.size))
  clear hq
  have hZ := Lib.hid hZ
  have hZ := Lib.hid (show NodeP 102 _ u _ by rw [← HU.out]; exact hZ.out)
  have kq := Lib.hid (tequal_any u u _ _ _ hZ.out hY.out (by have := HSZ.out; omega) (by have := HSZ.out; omega))
  rw [decide_eq_true rfl] at kq
  go_wp2_with fail
  refine (kq.out).mono ?_
  rintro e w3 ⟨rfl, hq⟩
  have hX := Lib.hid (hX.out.kept (Kept.below hq))
  have hY := Lib.hid (hY.out.kept (Kept.below hq))
  have hZ := Lib.hid (hZ.out.kept (Kept.below hq))
  have hL := Lib.hid ((hL.out.below hq).mono hq.size)
  have ch := Lib.hid (ch.out.trans (hq.mono ch.out.size))
  clear hq
  go_wp2
  go_ret
  exact ⟨rfl, ch.out⟩
/-- Returned with OK, valid, and not ended after so many steps. -/
theorem tlasts_ok {v x : Value} {l : List Ins} {t : Tr} (k : Nat) (K : Int) (hKk : K = k) (hK : k ≤ 1000000) {w : World} (hhL : InsRow w w.heap.size v l) (hv : validB l = true) (hx : NodeP 102 w t x) (ht : t.size ≤ 2000000) (hR : NotD l (startS t) k) :
    Calls Try.prog 52 #[v, .int .i64 0, x, .int .i64 K] w fun e w' => e = .returned (.bool true) ∧ Below w.heap.size w w' := by
  subst hKk
  obtain ⟨la, lc, rfl⟩ := hhL.len
  obtain ⟨ln, hln⟩ : ∃ n, l.length = n := ⟨_, rfl⟩
  rw [hln] at hhL ⊢
  obtain ⟨xp, rfl⟩ := hx.ptr
  have hL := Lib.hid hhL
  have hX := Lib.hid hx
  have HV := Lib.hid hv
  have HT := Lib.hid ht
  have HR := Lib.hid hR
  have hKI : (k : Int) ≤ 1000000 := by omega
  have HK := Lib.hid hK
  clear hhL hln hx hv ht hR hK
  cases hg : goF l k 0 (startS t) with
  | done s m => exact absurd hg (HR.out s m)
  | fuel s m =>
    have ch := Lib.hid (Below.refl w.heap.size w)
    have HG := Lib.hid hg
    clear hg
    go_enter Try.func52, Try.ntmps52
    go_wp2_with fail
    refine (twhole_any _ l true HV.out _ hL.out).mono ?_
    rintro e w1 ⟨rfl, hq⟩
    have hX := Lib.hid (hX.out.kept (Kept.below hq))
    have hL := Lib.hid ((hL.out.below hq).mono hq.size)
    have ch := Lib.hid (ch.out.trans (hq.mono ch.out.size))
    clear hq
    go_wp2_with fail
    refine (tplay_fuel k _ rfl (by have := HK.out; omega) HG.out hL.out HV.out hX.out HT.out).mono ?_
    rintro e w2 ⟨q, j, rfl, hq⟩
    have hX := Lib.hid (hX.out.kept (Kept.below hq))
    have hL := Lib.hid ((hL.out.below hq).mono hq.size)
    have ch := Lib.hid (ch.out.trans (hq.mono ch.out.size))
    clear hq
    go_wp2
    go_ret
    exact ⟨rfl, ch.out⟩
  | big =>
    have ch := Lib.hid (Below.refl w.heap.size w)
    have HG := Lib.hid hg
    clear hg
    go_enter Try.func52, Try.ntmps52
    go_wp2_with fail
    refine (twhole_any _ l true HV.out _ hL.out).mono ?_
    rintro e w1 ⟨rfl, hq⟩
    have hX := Lib.hid (hX.out.kept (Kept.below hq))
    have hL := Lib.hid ((hL.out.below hq).mono hq.size)
    have ch := Lib.hid (ch.out.trans (hq.mono ch.out.size))
    clear hq
    go_wp2_with fail
    refine (tplay_big k _ rfl (by have := HK.out; omega) HG.out hL.out HV.out hX.out HT.out).mono ?_
    rintro e w2 ⟨q, j, rfl, hq⟩
    have hX := Lib.hid (hX.out.kept (Kept.below hq))
    have hL := Lib.hid ((hL.out.below hq).mono hq.size)
    have ch := Lib.hid (ch.out.trans (hq.mono ch.out.size))
    clear hq
    go_wp2
    go_ret
    exact ⟨rfl, ch.out⟩
end Go.Proofs.Ytlaeljkjdfffjaa


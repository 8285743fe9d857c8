/- The walks of narcissusref03.After and Run. The walk of run.First. A range over a function whose iterator writes memory of its own between two rounds. The walk of the iterator of a run's states. The walk of run.Run. The walk of run.After. Plain: the programs of the laws of narcissuslaw03. And programs that are written out. The walks of narcissuslaw03: awake and doubles. -/
import Derived.Test.YtaiomcjopgnfpaaMB3
import Derived.RangeFuncFrom
import Derived.Test.YtaiomcjopgnfpaaMB2
import Derived.RangeFuncNested
import Derived.RangeFuncBound
import Derived.RangeFuncCalls
import Derived.RangeFuncLeaves
import Derived.Shelf.Abstract
import Derived.Shelf.RegionOpen
import Derived.WalkKit
import Derived.OwnWalkIn
import Derived.TacticsInMore
import Derived.LoopNIn
import Derived.LoopIn
namespace Go.Proofs.Ytaiomcjopgnfpaa
open Go.RowKit

theorem refstep_some {w : World} {T gm gs gr cp : Nat} {l : List Ins} {s s' : St} {pv tv : Value} {ps : List Value} (hm : RMachP w T gm l pv tv) (hs : RStP w T gs s (.slice (some ⟨gr, 0, none⟩) 32 cp) ps) (hgr : T ≤ gr) (hg : Good l.length s) (hn4 : l.length ≤ 4000) (hv : rightAll l = true) (hp : s.pos < l.length) (h : stepP l s = some s') :
    Calls Try.prog 129 #[.pointer (some ⟨gm, 0, none⟩), .pointer (some ⟨gs, 0, none⟩)] w fun e w' => e = .returned (.bool true) ∧ Hid ((∃ ps', RStP w' T gs s' (.slice (some ⟨gr, 0, none⟩) 32 cp) ps') ∧ Below T w w' ∧ Kept 69 w w') := by
  have h32 := hg.2.1
  have := refstep_any w T gm gs gr cp l s pv tv ps hm (by rw [h32]; exact hs) hgr hg hn4 hv hp
  refine this.mono ?_
  intro e w' ho
  unfold RStepOut at ho
  rw [h, h32] at ho
  obtain ⟨ps', h1, h2, h3, h4⟩ := ho
  exact ⟨h1, ⟨ps', h2⟩, h3, h4⟩
theorem refstep_none {w : World} {T gm gs gr cp : Nat} {l : List Ins} {s : St} {pv tv : Value} {ps : List Value} (hm : RMachP w T gm l pv tv) (hs : RStP w T gs s (.slice (some ⟨gr, 0, none⟩) 32 cp) ps) (hgr : T ≤ gr) (hg : Good l.length s) (hn4 : l.length ≤ 4000) (hv : rightAll l = true) (hp : s.pos < l.length) (h : stepP l s = none) :
    Calls Try.prog 129 #[.pointer (some ⟨gm, 0, none⟩), .pointer (some ⟨gs, 0, none⟩)] w fun e w' => e = .returned (.bool false) ∧ Hid ((∃ ps', RStP w' T gs s (.slice (some ⟨gr, 0, none⟩) 32 cp) ps') ∧ Below T w w' ∧ Kept 69 w w') := by
  have h32 := hg.2.1
  have := refstep_any w T gm gs gr cp l s pv tv ps hm (by rw [h32]; exact hs) hgr hg hn4 hv hp
  refine this.mono ?_
  intro e w' ho
  unfold RStepOut at ho
  rw [h, h32] at ho
  exact ⟨ho.1, ho.2⟩
theorem rended_at (b : Bool) (w : World) (B g h : Nat) (l : List Ins) (s : St) (pv tv rv : Value) (T : Nat) (ps : List Value) (hm : RMachP w B g l pv tv) (hs : RStP w T h s rv ps) (hb : ((s.pos : Int) == (l.length : Int)) = b) :
    Calls Try.prog 99 #[.pointer (some ⟨g, 0, none⟩), .pointer (some ⟨h, 0, none⟩)] w fun e w' => e = .returned (.bool b) ∧ Below w.heap.size w w' := by
  refine (rended_any w B g h l s pv tv rv T ps hm hs).mono ?_
  rintro e w' ⟨rfl, nq, rfl⟩
  exact ⟨by rw [hb], below_drewN (Below.refl _ _) nq⟩
/-- The reference's machine and its state. -/
structure RAt (w : World) (gm gs : Nat) (l : List Ins) (pv tv : Value) (s : St) (rv : Value) (wr : World) : Prop where
  m : RMachP wr w.heap.size gm l pv tv
  s : ∃ ps, RStP wr w.heap.size gs s rv ps
  b : Below w.heap.size w wr
theorem RAt.below {w : World} {gm gs : Nat} {l : List Ins} {pv tv rv : Value} {s : St} {A B : World} (h : RAt w gm gs l pv tv s rv A) (hb : Below A.heap.size A B) : RAt w gm gs l pv tv s rv B := by
  obtain ⟨ps, h1⟩ := h.s
  exact ⟨h.m.kept (hb.mono h.b.size) (Kept.below hb), ⟨ps, h1.kept hb⟩, h.b.trans (hb.mono h.b.size)⟩

/-- What After of the reference hands back. -/
def RAftOut (w : World) (s : St) (n : Nat) (e : Ending) (w' : World) : Prop :=
  ∃ gs gr cp ps, e = .returned (.tuple #[.pointer (some ⟨gs, 0, none⟩), .int .i64 n, .bool true]) ∧ RStP w' w.heap.size gs s (.slice (some ⟨gr, 0, none⟩) 32 cp) ps ∧ w.heap.size ≤ gr ∧ Below w.heap.size w w'
def RAftBig (w : World) (e : Ending) (w' : World) : Prop := ∃ p n, e = .returned (.tuple #[.pointer p, .int .i64 n, .bool false]) ∧ Below w.heap.size w w'
def RAft (w : World) : Res → Ending → World → Prop
  | .done s n => RAftOut w s n
  | .fuel s n => RAftOut w s n
  | .big => RAftBig w

set_option maxRecDepth 20000 in
set_option maxHeartbeats 2000000 in
theorem rafter_any (w : World) (gm : Nat) (l : List Ins) (pv tv : Value) (t : Tr) (x : Value) (K : Nat) (hK : K ≤ 100000000) (hm : RMachP w w.heap.size gm l pv tv) (hx : NodeP 69 w t x) (ht : t.size ≤ 2000000) (hv : rightAll l = true) (hn4 : l.length ≤ 4000) :
    Calls Try.prog 98 #[.pointer (some ⟨gm, 0, none⟩), x, .int .i64 K] w (RAft w (goF l K 0 (startS t))) := by
  obtain ⟨R, hR⟩ : ∃ R, goF l K 0 (startS t) = R := ⟨_, rfl⟩
  rw [hR]
  have HR := Lib.hid hR
  have kf := rfirst_any t x w hx
  have HG := Lib.hid (Good.start l.length t ht)
  have HV := Lib.hid hv
  obtain ⟨q, rfl⟩ := hx.ptr
  have HM := Lib.hid hm
  clear hR hx hv hm
  go_enter Try.func98, Try.ntmps98
  go_wp2_with fail
  refine kf.mono ?_
  rintro e w1 ⟨gs, ps, rfl, hs, hb1⟩
  have HA := Lib.hid (show RAt w gm gs l pv tv (startS t) (.slice (some ⟨w.heap.size, 0, none⟩) 32 32) w1 from ⟨HM.out.kept hb1 (Kept.below hb1), ⟨ps, hs⟩, hb1⟩)
  clear kf hs hb1
  go_wp2
  go_loopg [10] K (fun gg i wr => ∃ j : Nat, j ≤ K ∧ gg = K - j ∧ i = .int .i64 j ∧ Hid (Reach l (startS t) j) ∧ Hid (RAt w gm gs l pv tv (stN l (startS t) j) (.slice (some ⟨w.heap.size, 0, none⟩) 32 32) wr))
  case atStart => exact ⟨0, by omega, rfl, rfl, Reach.zero _ _, HA.out⟩
  case round =>
    obtain ⟨j, hj, hgg, rfl, hre, hat⟩ := hrel
    have HGG := Lib.hid hgg
    have HGJ := Lib.hid (hre.out.good HV.out HG.out)
    clear hgg HA
    by_cases hlt : j < K
    · obtain ⟨be, hbe⟩ : ∃ be, (((stN l (startS t) j).pos : Int) == (l.length : Int)) = be := ⟨_, rfl⟩
      obtain ⟨ps1, hs1⟩ := hat.out.s
      have ke := rended_at be wr _ gm gs l _ pv tv _ _ ps1 hat.out.m hs1 hbe
      have HBE := Lib.hid hbe
      clear hbe hs1
      cases be with
      | true =>
        have hfin : Hid (R = .done (stN l (startS t) j) j) := by
          rw [← HR.out, hre.out.goF K hj, goF_done (by have := eq_of_beq HBE.out; omega)]; exact rfl
        go_wp2_with fail
        refine ke.mono ?_
        rintro e w2 ⟨rfl, hb2⟩
        have HA2 := Lib.hid (hat.out.below hb2)
        clear ke hb2
        go_wp2
        go_ret3
        rw [hfin.out]
        obtain ⟨ps2, h2⟩ := HA2.out.s
        exact ⟨gs, _, _, ps2, rfl, h2, Nat.le_refl _, HA2.out.b⟩
      | false =>
        have hpos : (stN l (startS t) j).pos ≠ l.length := by
          intro h
          have h1 := HBE.out
          rw [h] at h1
          simp at h1
        have hpl : (stN l (startS t) j).pos < l.length := by have := HGJ.out.1; omega
        have HP := Lib.hid hpos
        have HPL := Lib.hid hpl
        clear hpos hpl
        go_wp2_with fail
        refine ke.mono ?_
        rintro e w2 ⟨rfl, hb2⟩
        have HA2 := Lib.hid (hat.out.below hb2)
        obtain ⟨ps2, hs2⟩ := HA2.out.s
        cases hst : stepP l (stN l (startS t) j) with
        | none =>
          have ks := refstep_none HA2.out.m hs2 (Nat.le_refl _) HGJ.out hn4 HV.out HPL.out hst
          have hfin : Hid (R = .big) := by
            rw [← HR.out, hre.out.goF K hj, show K - j = (K - j - 1) + 1 by omega, goF_big HP.out hst]; exact rfl
          clear ke hb2 hs2 hst
          go_wp2_with fail
          refine ks.mono ?_
          rintro e w3 ⟨rfl, hE⟩
          have HB3 := Lib.hid (HA2.out.b.trans hE.out.2.1)
          clear ks hE
          go_wp2
          go_ret3
          rw [hfin.out]
          exact ⟨_, _, rfl, HB3.out⟩
        | some s' =>
          have ks := refstep_some HA2.out.m hs2 (Nat.le_refl _) HGJ.out hn4 HV.out HPL.out hst
          have HRE := Lib.hid (hre.out.succ HP.out hst)
          have HST := Lib.hid (stN_succ hst)
          clear ke hb2 hs2 hst
          go_wp2_with fail
          refine ks.mono ?_
          rintro e w3 ⟨rfl, hE⟩
          have HA3 := Lib.hid (show RAt w gm gs l pv tv (stN l (startS t) (j + 1)) (.slice (some ⟨w.heap.size, 0, none⟩) 32 32) w3 from ⟨HA2.out.m.kept hE.out.2.1 hE.out.2.2, by rw [HST.out]; exact hE.out.1, HA2.out.b.trans hE.out.2.1⟩)
          clear ks hE
          go_wp2
          go_roundg (K - (j + 1))
          case measure => rw [HGG.out]; omega
          case rel => exact ⟨j + 1, by omega, rfl, by go_num, HRE, HA3⟩
    · have hjk : j = K := by omega
      have hfin : Hid (R = .done (stN l (startS t) j) j ∨ R = .fuel (stN l (startS t) j) j) := by
        show R = .done (stN l (startS t) j) j ∨ R = .fuel (stN l (startS t) j) j
        rw [← HR.out, hre.out.goF K hj, hjk, Nat.sub_self]
        by_cases h : (stN l (startS t) K).pos = l.length
        · exact .inl (goF_done h)
        · exact .inr (goF_zero h)
      clear hjk
      go_wp2
      go_ret3
      obtain ⟨ps2, h2⟩ := hat.out.s
      rcases hfin.out with h | h
      all_goals
        rw [h]
        exact ⟨gs, _, _, ps2, rfl, h2, Nat.le_refl _, hat.out.b⟩

/-- What Run of the reference hands back. -/
def Res.rrun : Res → Tr × Nat × Int
  | .done s n => (getR s.regs 0, n, 0)
  | .fuel _ _ => (.nil, 0, 7)
  | .big => (.nil, 0, 3)
def RRunOut (w : World) (y : Tr) (n : Nat) (er : Int) (e : Ending) (w' : World) : Prop := ∃ q, e = .returned (.tuple #[.pointer q, .int .i64 n, .int .i64 er]) ∧ NodeP 69 w' y (.pointer q) ∧ Below w.heap.size w w'
theorem goF_done_pos {l : List Ins} : ∀ {f n : Nat} {s s' : St} {k : Nat}, goF l f n s = .done s' k → s'.pos = l.length := by
  intro f
  induction f with
  | zero =>
    intro n s s' k h
    by_cases hp : s.pos = l.length
    · rw [goF_done hp] at h; cases h; exact hp
    · rw [goF_zero hp] at h; cases h
  | succ f ih =>
    intro n s s' k h
    by_cases hp : s.pos = l.length
    · rw [goF_done hp] at h; cases h; exact hp
    · cases hs : stepP l s with
      | none => rw [goF_big hp hs] at h; cases h
      | some s1 => rw [goF_step hp hs] at h; exact ih h
theorem goF_fuel_pos {l : List Ins} : ∀ {f n : Nat} {s s' : St} {k : Nat}, goF l f n s = .fuel s' k → s'.pos ≠ l.length := by
  intro f
  induction f with
  | zero =>
    intro n s s' k h
    by_cases hp : s.pos = l.length
    · rw [goF_done hp] at h; cases h
    · rw [goF_zero hp] at h; cases h; exact hp
  | succ f ih =>
    intro n s s' k h
    by_cases hp : s.pos = l.length
    · rw [goF_done hp] at h; cases h
    · cases hs : stepP l s with
      | none => rw [goF_big hp hs] at h; cases h
      | some s1 => rw [goF_step hp hs] at h; exact ih h
/-- Where a run goes on or ends the state is good. -/
theorem goF_good {l : List Ins} (hv : rightAll l = true) : ∀ {f n : Nat} {s : St}, Good l.length s → (∀ s' k, goF l f n s = .done s' k → Good l.length s') ∧ (∀ s' k, goF l f n s = .fuel s' k → Good l.length s') := by
  intro f
  induction f with
  | zero =>
    intro n s hg
    by_cases hp : s.pos = l.length
    · rw [goF_done hp]; exact ⟨(fun s' k h => by cases h; exact hg), (fun s' k h => by cases h)⟩
    · rw [goF_zero hp]; exact ⟨(fun s' k h => by cases h), (fun s' k h => by cases h; exact hg)⟩
  | succ f ih =>
    intro n s hg
    by_cases hp : s.pos = l.length
    · rw [goF_done hp]; exact ⟨(fun s' k h => by cases h; exact hg), (fun s' k h => by cases h)⟩
    · cases hs : stepP l s with
      | none => rw [goF_big hp hs]; exact ⟨(fun s' k h => by cases h), (fun s' k h => by cases h)⟩
      | some s1 => rw [goF_step hp hs]; exact ih (hg.step hv hs)

set_option maxHeartbeats 2000000 in
theorem rrun_any (w : World) (gm : Nat) (l : List Ins) (pv tv : Value) (t : Tr) (x : Value) (K : Nat) (hK : K ≤ 100000000) (hm : RMachP w w.heap.size gm l pv tv) (hx : NodeP 69 w t x) (ht : t.size ≤ 2000000) (hv : rightAll l = true) (hn4 : l.length ≤ 4000) :
    Calls Try.prog 56 #[.pointer (some ⟨gm, 0, none⟩), x, .int .i64 K] w (RRunOut w (goF l K 0 (startS t)).rrun.1 (goF l K 0 (startS t)).rrun.2.1 (goF l K 0 (startS t)).rrun.2.2) := by
  have ka := rafter_any w gm l pv tv t x K hK hm hx ht hv hn4
  have hgood := goF_good hv (f := K) (n := 0) (Good.start l.length t ht)
  obtain ⟨q, rfl⟩ := hx.ptr
  cases hR : goF l K 0 (startS t) with
  | big =>
    rw [hR] at ka
    clear hm hx hR hgood
    go_enter Try.func56, Try.ntmps56
    go_wp2_with fail
    refine ka.mono ?_
    rintro e w1 ⟨p, n, rfl, hb1⟩
    clear ka
    go_wp2
    go_ret3
    exact ⟨_, rfl, rfl, hb1⟩
  | fuel s n =>
    have hp := goF_fuel_pos hR
    rw [hR] at ka
    have hbe : ((s.pos : Int) == (l.length : Int)) = false := by rw [beq_eq_false_iff_ne]; omega
    have HM := Lib.hid hm
    have HBE := Lib.hid hbe
    clear hm hx hR hgood hp hbe
    go_enter Try.func56, Try.ntmps56
    go_wp2_with fail
    refine ka.mono ?_
    rintro e w1 ⟨gs, gr, cp, ps, rfl, hs, hgr, hb1⟩
    have ke := rended_at false w1 _ gm gs l s pv tv _ _ ps (HM.out.kept hb1 (Kept.below hb1)) hs HBE.out
    clear ka hs
    go_wp2_with fail
    refine ke.mono ?_
    rintro e w2 ⟨rfl, hb2⟩
    clear ke
    go_wp2
    go_ret3
    exact ⟨_, rfl, rfl, hb1.trans (hb2.mono hb1.size)⟩
  | done s n =>
    have hp := goF_done_pos hR
    have hg := hgood.1 s n hR
    rw [hR] at ka
    have hbe : ((s.pos : Int) == (l.length : Int)) = true := by rw [beq_iff_eq]; omega
    have HM := Lib.hid hm
    have HBE := Lib.hid hbe
    have HG := Lib.hid hg
    clear hm hx hR hgood hp hbe hg
    go_enter Try.func56, Try.ntmps56
    go_wp2_with fail
    refine ka.mono ?_
    rintro e w1 ⟨gs, gr, cp, ps, rfl, hs, hgr, hb1⟩
    have ke := rended_at true w1 _ gm gs l s pv tv _ _ ps (HM.out.kept hb1 (Kept.below hb1)) hs HBE.out
    have HS := Lib.hid hs
    clear ka hs
    go_wp2_with fail
    refine ke.mono ?_
    rintro e w2 ⟨rfl, hb2⟩
    have hs2 := HS.out.kept hb2
    rw [← HG.out.2.1] at hs2
    obtain ⟨d0, d1, df, dr, drf⟩ := hs2.cells
    rw [HG.out.2.1] at d1
    obtain ⟨t0, ht0⟩ : ∃ t, s.regs[0]? = some t := ⟨_, List.getElem?_eq_getElem (by rw [HG.out.2.1]; omega)⟩
    obtain ⟨q0, cq0, nq0⟩ := dr 0 t0 ht0
    have HN := Lib.hid nq0
    have HT := Lib.hid ht0
    clear ke hs2 dr drf df nq0 ht0
    go_wp2
    go_ret3
    refine ⟨q0, rfl, ?_, hb1.trans (hb2.mono hb1.size)⟩
    have : getR s.regs 0 = t0 := getR_nat (r := 0) HT.out
    show NodeP _ _ (getR s.regs 0) _
    rw [this]; exact HN.out

end Go.Proofs.Ytaiomcjopgnfpaa

namespace Go.Proofs.Ytaiomcjopgnfpaa
open Go.RowKit

/-- What First and Step hand back where it went well, and where not. -/
def StateOk (w : World) (s : St) (e : Ending) (w' : World) : Prop := ∃ v, e = .returned (.tuple #[.agg #[.int .i64 s.pos, v], .int .i64 0]) ∧ StrRow w' w'.heap.size v (s.regs.map TS) ∧ Below w.heap.size w w'
def StateBad (w : World) (er : Int) (e : Ending) (w' : World) : Prop := e = .returned (.tuple #[.agg #[.int .i64 0, .slice none 0 0], .int .i64 er]) ∧ Below w.heap.size w w'

theorem StrRow.set {w : World} {B b T : Nat} {cs : Array Value} {v : Value} {l : List ByteArray} (h : StrRow w B v l) (hb : w.heap[b]? = some (.cells cs T (0, 0))) (hns : ∀ (j : Nat) (s : ByteArray), cs[j]? ≠ some (.string s)) (j : Nat) (u : Value) : StrRow (w.setCell ⟨b, j, none⟩ u) B v l := by
  obtain ⟨h1, h2, h3⟩ := h
  refine ⟨h1, h2, ?_⟩
  rcases h3 with h3 | ⟨g, off, cap, hv, hg, hc⟩
  · exact .inl h3
  · refine .inr ⟨g, off, cap, hv, hg, fun i s hi => ?_⟩
    have h4 := hc i s hi
    by_cases e : g = b
    · subst e
      rw [(block_cells hb).1] at h4
      exact absurd h4 (hns _ _)
    · exact (World.cell?_of_block (Below.heap_setCell _ _ _ _ (by show g ≠ b; exact e))).trans h4
end Go.Proofs.Ytaiomcjopgnfpaa

namespace Go.Proofs.Ytaiomcjopgnfpaa
open Go Go.RowKit
variable {F : Fence} {n : Nat} {P : Program}

/-- How the body of a round may be left. -/
def rfPost {α : Type} (I' : α → World → Prop) (Ix : Code → World → Prop) (x : α) (W : World) : Exit → Act → World → Prop
  | .normal, _, W' => KeepsOthers W W' ∧ I' x W'
  | .ret, _, W' => KeepsOthers W W' ∧ Ix .ret W'
  | .exit id, _, W' => KeepsOthers W W' ∧ Ix (.exit id) W'
  | .goto t, _, W' => KeepsOthers W W' ∧ Ix (.goto t) W'
  | .panic _, _, _ => False
  | .outgrown, _, _ => False

/-- What an iterator owes: it asks for rounds where I holds; a round that goes on leaves I', one that does not ends all. -/
def SeqEnds {α : Type} (F : Fence) (n : Nat) (P : Program) (gf : Nat) (lb : Array Value) (encs : α → Array Value) (J0 : World → Prop) (I I' : α → World → Prop) : Prop :=
  ∀ (l : Nat) (Bk Bx : World → Prop), (∀ A B, KeepsOthers A B → Bk A → Bk B) →
    (∀ x W, I x W → Bk W → YieldAt F (n - 1) P l (encs x) W fun e W' => (e = .returned (.bool true) ∧ I' x W' ∧ Bk W') ∨ (e = .returned (.bool false) ∧ Bx W')) →
    ∀ W, J0 W → Bk W → CallsIn F n P gf (#[.func (.yield l) #[] #[]] ++ lb) W fun e W' => (∃ v, e = .returned v) ∧ Bx W'

theorem wpIn_rangeFunc_ends {α : Type} {g : Operand} {ps : Array Tmp} {assign body : Code} {Q : Exit → Act → World → Prop} {a : Act} {w : World}
    (hro : F.round = none) (h1 : 1 ≤ n) {gf : Nat} {lb : Array Value} (hg : a.eval g = .func (.func gf) #[] lb) (hFg : F.fn gf) (eg : ∀ args w, (callFunc gf args).run P w = .ok (.enter gf args) w)
    {encs : α → Array Value} (J0 : World → Prop) (I I' : α → World → Prop) (Ix : Code → World → Prop)
    (hseq : SeqEnds F (n - 1) P gf lb encs J0 I I') (hps : ∀ x, (encs x).size = ps.size)
    (hJ0 : OwnFrom w.heap.size (fun (_ : Unit) => J0)) (hI : OwnFrom w.heap.size I) (hI' : OwnFrom w.heap.size I') (hIx : ∀ c, OwnFrom w.heap.size (fun (_ : Unit) => Ix c)) (h0 : J0 w) (a₁ : α → Act)
    (hassign : ∀ (l : Nat) (x : α) (W : World) (K : Act → World → Prop), K (a₁ x) W →
      assign.wpIn (F.inRound l) (n - 1 - 1) P (Exit.then K (fun _ _ _ => False)) { tmps := (ps.zip (encs x)).foldl (fun t (p, v) => t.setIfInBounds p v) a.tmps, defers := [] } W)
    (hbody : ∀ (l : Nat) (x : α) (W : World), I x W → body.wpIn (F.inRound l) (n - 1 - 1) P (rfPost I' Ix x W) (a₁ x) W)
    (hstop : ∀ (D : Nat) (c : Code) (W : World), w.heap.size ≤ D → Ix c W → W.heap[D]? = some (.deferred (some [])) → c.wpIn F n P Q { a with defers := { target := .collected D, args := #[] } :: a.defers } W) :
    (Code.rangeFunc g ps assign body).wpIn F n P Q a w := by
  refine wpIn_rangeFunc ?_
  intro fn hfn
  rw [hro]
  obtain ⟨rec, hrec⟩ : ∃ rec : LoopState → Option Code → Loop, rec = fun st pe => { state := st, pending := pe, fn, tmps := a.tmps, params := ps, assign, body, defers := w.heap.size } := ⟨_, rfl⟩
  obtain ⟨W1, hW1⟩ : ∃ W1, (w.alloc (.deferred (some []))).alloc (.loop (rec .ready none)) = W1 := ⟨_, rfl⟩
  have hL1 : W1.heap[w.heap.size + 1]? = some (.loop (rec .ready none)) := by
    rw [← hW1]; have := World.alloc_heap_new (w.alloc (.deferred (some []))) (.loop (rec .ready none)); rwa [World.size_alloc] at this
  have hK1 : W1.heap[w.heap.size]? = some (.deferred (some [])) := by
    rw [← hW1]; exact (Below.heap_alloc _ _ _ (by simp)).trans (World.alloc_heap_new w _)
  have hI1 : J0 W1 := by rw [← hW1]; exact OwnFrom.alloc (s := ()) hJ0 _ (OwnFrom.alloc (s := ()) hJ0 _ h0)
  refine ⟨w.heap.size + 1, [{ target := .collected w.heap.size, args := #[] }], W1, { target := .fn (.func gf) lb, args := #[.func (.yield (w.heap.size + 1)) #[] #[]] }, W1, gf,
    #[.func (.yield (w.heap.size + 1)) #[] #[]] ++ lb, W1, ?_, ?_, ?_, ?_, fun _ => h1, ?_⟩
  · rw [← hW1, hrec]; exact run_enterLoop_outer _ _ _ _ _
  · simp only [resolve, hg]
    simp [go_sem]
  · intro f' hf'; simp [Target.leads] at hf'; subst hf'; exact hFg
  · simp [invoke, go_sem, eg]
  · refine (hseq (w.heap.size + 1)
      (fun W => W.heap[w.heap.size + 1]? = some (.loop (rec .ready none)) ∧ W.heap[w.heap.size]? = some (.deferred (some [])))
      (fun W => ∃ c, Ix c W ∧ W.heap[w.heap.size + 1]? = some (.loop (rec .done (some c))) ∧ W.heap[w.heap.size]? = some (.deferred (some [])))
      (fun A B hk h => ⟨hk.same _ _ h.1 rfl, hk.same _ _ h.2 rfl⟩) ?_ W1 hI1 ⟨hL1, hK1⟩).mono ?_
    · -- one round
      rintro x W hi ⟨hl, hk⟩
      have hlt : w.heap.size + 1 < W.heap.size := (Array.getElem?_eq_some_iff.1 hl).1
      have hy := run_yield (P := P) (args := encs x) hl (by rw [hrec]; exact hps x)
      rw [hrec] at hy
      refine ⟨fn, _, assign, body, hy, roundIn_of_wpIn hfn (hassign _ x W _ ⟨_, run_beginRound hl (by rw [hrec]), ?_⟩)⟩
      have hl2 : (W.putObj (w.heap.size + 1) (.loop { rec .ready none with state := .busy })).heap[w.heap.size + 1]? = some (.loop { rec .ready none with state := .busy }) := World.putObj_heap_same hlt
      have hk2 : (W.putObj (w.heap.size + 1) (.loop { rec .ready none with state := .busy })).heap[w.heap.size]? = some (.deferred (some [])) := (World.putObj_heap_other (by omega)).trans hk
      refine wpIn_mono (hbody _ x _ (hI.putObj _ hi (by omega) hl rfl)) ?_
      have fin : ∀ (jump : Option Code) (W3 : World), KeepsOthers (W.putObj (w.heap.size + 1) (.loop { rec .ready none with state := .busy })) W3 →
          (Instr.endRound (w.heap.size + 1) jump).run P W3 = .ok (.bool jump.isNone) (W3.putObj (w.heap.size + 1) (.loop (rec (if jump.isNone then .ready else .done) jump))) ∧
          W3.heap[w.heap.size + 1]? = some (.loop { rec .ready none with state := .busy }) ∧
          (W3.putObj (w.heap.size + 1) (.loop (rec (if jump.isNone then .ready else .done) jump))).heap[w.heap.size + 1]? = some (.loop (rec (if jump.isNone then .ready else .done) jump)) ∧
          (W3.putObj (w.heap.size + 1) (.loop (rec (if jump.isNone then .ready else .done) jump))).heap[w.heap.size]? = some (.deferred (some [])) := fun jump W3 hk3 => by
        have hl3 := hk3.same _ _ hl2 rfl
        have := run_endRound (P := P) jump hl3
        rw [hrec] at this ⊢
        exact ⟨this, by rw [hrec] at hl3; exact hl3, World.putObj_heap_same (Array.getElem?_eq_some_iff.1 hl3).1, (World.putObj_heap_other (by omega)).trans (hk3.same _ _ hk2 rfl)⟩
      rintro e a3 W3 hp
      cases e with
      | normal =>
        obtain ⟨hk3, hi3⟩ := hp
        obtain ⟨hr, hl3, hl4, hk4⟩ := fin none W3 hk3
        exact ⟨_, _, hr, .inl ⟨rfl, hI'.putObj _ hi3 (by omega) hl3 rfl, hl4, hk4⟩⟩
      | ret =>
        obtain ⟨hk3, hi3⟩ := hp
        obtain ⟨hr, hl3, hl4, hk4⟩ := fin (some .ret) W3 hk3
        exact ⟨_, _, hr, .inr ⟨rfl, .ret, (hIx _).putObj (s := ()) _ hi3 (by omega) hl3 rfl, hl4, hk4⟩⟩
      | exit id =>
        obtain ⟨hk3, hi3⟩ := hp
        obtain ⟨hr, hl3, hl4, hk4⟩ := fin (some (.exit id)) W3 hk3
        exact ⟨_, _, hr, .inr ⟨rfl, .exit id, (hIx _).putObj (s := ()) _ hi3 (by omega) hl3 rfl, hl4, hk4⟩⟩
      | goto t =>
        obtain ⟨hk3, hi3⟩ := hp
        obtain ⟨hr, hl3, hl4, hk4⟩ := fin (some (.goto t)) W3 hk3
        exact ⟨_, _, hr, .inr ⟨rfl, .goto t, (hIx _).putObj (s := ()) _ hi3 (by omega) hl3 rfl, hl4, hk4⟩⟩
      | panic ch => exact hp.elim
      | outgrown => exact hp.elim
    · -- behind the iterator
      rintro e W2 ⟨⟨v, rfl⟩, c, hi, hl, hk⟩
      exact ⟨some c, _, by have := run_endLoop (P := P) hl (by rw [hrec]; simp); rw [hrec] at this; exact this, hstop _ c _ (Nat.le_refl _) ((hIx c).putObj (s := ()) _ hi (by omega) hl rfl) ((World.putObj_heap_other (by omega)).trans hk)⟩

end Go.Proofs.Ytaiomcjopgnfpaa

namespace Go.Proofs.Ytaiomcjopgnfpaa
open Go.RowKit Go.Shelf
attribute [local go_sem] Oper.semAt_some

theorem els_keeps {g : Nat} {A B : World} {cs : Array Value} {T : Nat} {fr : Nat × Nat} (h : Els g A B) (hc : A.heap[g]? = some (.cells cs T fr)) : KeepsOthers A B :=
  ⟨h.size, fun k o hk ho => by
    by_cases e : k = g
    · subst e; rw [hc] at hk; cases hk; cases ho
    · exact (h.block k (Array.getElem?_eq_some_iff.1 hk).1 e).trans hk⟩
theorem MachP.grown {W W' : World} {row : Option Nat} {B g : Nat} {l : List Ins} {s : St} {pv sv : Value} {ps : List Value} (h : MachP W B g l s pv sv ps) (hg : W.grownBy W' row) (hr : ∀ r, row = some r → ∃ o : Obj, W.heap[r]? = some o ∧ o.isCells = false) : MachP W' B g l s pv sv ps := by
  have K : ∀ T, Kept T W W' := fun T k cs hk => (grownBy_keeps_cells hg hr hk rfl).trans hk
  obtain ⟨xs, h1, h2⟩ := h.sets
  refine ⟨K _ _ _ h.blk, h.regs.kept (K _), ⟨h.prog.1, h.prog.2.1, ?_⟩, h.le, xs, h1.kept (K _), own_kept h2 (K _)⟩
  rcases h.prog.2.2 with h3 | ⟨g', off, cap, hv, hlt, hc⟩
  · exact .inl h3
  · exact .inr ⟨g', off, cap, hv, hlt, fun j x hj k u hk => cell_kept (hc j x hj k u hk) hg hr⟩

/-- The machine is in its k-th state; what the caller owns stands. -/
def AtK (l : List Ins) (s0 : St) (B g mb : Nat) (pv sv : Value) (C : World → Prop) (k : Nat) (W : World) : Prop :=
  Reach l s0 k ∧ (∃ ps, MachP W B g l (stN l s0 k) pv sv ps) ∧ W.cell? ⟨mb, 0, none⟩ = some (.pointer (some ⟨g, 0, none⟩)) ∧ C W
def RI (fuel : Nat) (l : List Ins) (s0 : St) (B g mb : Nat) (pv sv : Value) (C : World → Prop) (x : Nat × Bool) (W : World) : Prop :=
  x.1 ≤ fuel ∧ AtK l s0 B g mb pv sv C x.1 W ∧ (x.2 = true → x.1 < fuel ∧ (stN l s0 x.1).pos ≠ l.length ∧ stepP l (stN l s0 x.1) = none)
def RI' (fuel : Nat) (l : List Ins) (s0 : St) (B g mb : Nat) (pv sv : Value) (C : World → Prop) (x : Nat × Bool) (W : World) : Prop :=
  x.1 < fuel ∧ x.2 = false ∧ (stN l s0 x.1).pos ≠ l.length ∧ AtK l s0 B g mb pv sv C x.1 W
theorem AtK.els {l : List Ins} {s0 : St} {B g mb : Nat} {pv sv : Value} {C : World → Prop} {k : Nat} {W W' : World} (h : AtK l s0 B g mb pv sv C k W) (hC : ∀ A B, Els g A B → C A → C B) (hb : Below W.heap.size W W') : AtK l s0 B g mb pv sv C k W' := by
  obtain ⟨h1, ⟨ps, h2⟩, h3, h4⟩ := h
  refine ⟨h1, ⟨ps, h2.kept hb⟩, ?_, hC _ _ (Els.of_below hb) h4⟩
  have : mb < W.heap.size := by
    obtain ⟨o, ho, _⟩ := cells_of_cell h3
    exact (Array.getElem?_eq_some_iff.1 ho).1
  exact (hb.cell (p := ⟨mb, 0, none⟩) this).trans h3

theorem ended_at (b : Bool) (w : World) (B g : Nat) (l : List Ins) (s : St) (pv sv : Value) (ps : List Value) (hm : MachP w B g l s pv sv ps) (hg : Good l.length s) (hb : ((s.pos : Int) == (l.length : Int)) = b) :
    Calls Try.prog 84 #[.pointer (some ⟨g, 0, none⟩)] w fun e w' => e = .returned (.bool b) ∧ Below w.heap.size w w' := by
  refine (ended_any w B g l s pv sv ps hm hg).mono ?_
  rintro e w' ⟨rfl, nq, rfl⟩
  exact ⟨by rw [hb], below_drewN (Below.refl _ _) nq⟩

theorem step_at_some {l : List Ins} {s s' : St} (w : World) (B g : Nat) (pv sv : Value) (ps : List Value) (hm : MachP w B g l s pv sv ps) (hg : Good l.length s) (hv : rightAll l = true) (hp : s.pos < l.length) (hn4 : l.length ≤ 4000) (hs : stepP l s = some s') :
    Calls Try.prog 116 #[.pointer (some ⟨g, 0, none⟩)] w fun e w' => e = .returned (.bool true) ∧ Hid ((∃ ps', MachP w' B g l s' pv sv ps') ∧ Els g w w') := by
  refine (step_any w B g l s pv sv ps hm hg hv hp hn4).mono ?_
  intro e w' h
  unfold StepOut at h
  rw [hs] at h
  obtain ⟨ps', h1, h2, h3⟩ := h
  exact ⟨h1, ⟨ps', h2⟩, h3⟩
theorem step_at_none {l : List Ins} {s : St} (w : World) (B g : Nat) (pv sv : Value) (ps : List Value) (hm : MachP w B g l s pv sv ps) (hg : Good l.length s) (hv : rightAll l = true) (hp : s.pos < l.length) (hn4 : l.length ≤ 4000) (hs : stepP l s = none) :
    Calls Try.prog 116 #[.pointer (some ⟨g, 0, none⟩)] w fun e w' => e = .returned (.bool false) ∧ Hid ((∃ ps', MachP w' B g l s pv sv ps') ∧ Els g w w') := by
  refine (step_any w B g l s pv sv ps hm hg hv hp hn4).mono ?_
  intro e w' h
  unfold StepOut at h
  rw [hs] at h
  exact ⟨h.1, ⟨ps, h.2.1⟩, h.2.2⟩

set_option maxHeartbeats 1000000 in
theorem states_any (p : Option Addr) (w : World) :
    Calls Try.prog 83 #[.pointer p] w fun e w' => e = .returned (.func (.func 115) #[] #[.pointer (some ⟨w.heap.size, 0, none⟩)]) ∧ w' = w.alloc (.cells #[.pointer p] 94) := by
  go_enter Try.func83, Try.ntmps83
  go_wp2
  go_ret
  exact ⟨rfl, rfl⟩

set_option maxRecDepth 100000 in
set_option maxHeartbeats 2000000 in
theorem states1_ends (n : Nat) (fuel : Nat) (hfuel : fuel ≤ 10000000) (l : List Ins) (s0 : St) (B g mb : Nat) (hmb : mb ≠ g) (pv sv : Value) (C : World → Prop) (hC : ∀ A B, Els g A B → C A → C B) (hG : Good l.length s0) (hv : rightAll l = true) (hn4 : l.length ≤ 4000) :
    SeqEnds Fence.wide n Try.prog 115 #[.pointer (some ⟨mb, 0, none⟩)] (fun x : Nat × Bool => #[.int .i64 x.1, .bool x.2]) (AtK l s0 B g mb pv sv C 0) (RI fuel l s0 B g mb pv sv C) (RI' fuel l s0 B g mb pv sv C) := by
  intro lr Bk Bx hBk hY W h0 hk0
  have HY := Lib.hid hY
  have HC := Lib.hid hC
  have HBk := Lib.hid hBk
  have HG := Lib.hid hG
  have HV := Lib.hid hv
  clear hY hC hBk hG hv
  refine callsIn_of_wp Try.func115 rfl trivial ?_ rfl
  simp only [Try.ntmps115, List.size_toArray, List.length_cons, List.length_nil, Nat.reduceAdd, Nat.reduceSub, Array.replicate_succ, Array.replicate_zero, List.push_toArray, List.append_toArray, List.nil_append, List.cons_append]
  gi_wp2
  gi_loopw [3] (fun p wr => ∃ k : Nat, p = .int .i64 k ∧ k ≤ fuel ∧ AtK l s0 B g mb pv sv C k wr ∧ Hid (Bk wr)) (fun p _ => fuel - (intOf p).toNat)
  case atStart => exact ⟨0, rfl, by omega, h0, hk0⟩
  case round =>
    obtain ⟨k, rfl, hk, hat, hbk⟩ := hrel
    have hg := HG.out
    have hgk := hat.1.good HV.out HG.out
    have hR0 := Lib.hid hat.1
    obtain ⟨ps, hm⟩ := hat.2.1
    have c0 := hat.2.2.1
    have HAT := Lib.hid hat
    clear hat
    cases hp : ((stN l s0 k).pos : Int) == (l.length : Int) with
    | true =>
      have ke := ended_at _ wr B g l _ pv sv ps hm hgk hp
      have hpos : (stN l s0 k).pos = l.length := by have := eq_of_beq hp; omega
      have HP := Lib.hid hpos
      clear hp hpos
      gi_wp2_with fail
      refine ⟨trivial, fun h => (by cases h), (callsIn_wide.2 ke).mono ?_⟩
      rintro e w1 ⟨rfl, hb1⟩
      have hat1 := HAT.out.els HC.out hb1
      obtain ⟨fn, tmps, assign, body, hy, hR⟩ := HY.out (k, false) w1 ⟨hk, hat1, by simp⟩ (HBk.out _ _ (els_keeps (Els.of_below hb1) hm.blk) hbk.out)
      clear ke hm hat1
      gi_wp2
      refine ⟨fun h => (by cases h), hR.mono ?_⟩
      rintro e W3 (⟨rfl, hI, hB3⟩ | ⟨rfl, hx3⟩)
      · exact absurd HP.out hI.2.2.1
      · gi_wp2
        refine bodyPost_ret (results_none rfl _ _ _) rfl ?_
        exact ⟨⟨_, rfl⟩, hx3⟩
    | false =>
      have ke := ended_at _ wr B g l _ pv sv ps hm hgk hp
      have hpos : (stN l s0 k).pos ≠ l.length := by
        intro h
        rw [h] at hp
        simp at hp
      have hpl : (stN l s0 k).pos < l.length := by have := hgk.1; omega
      have HP := Lib.hid hpos
      have HG2 := Lib.hid hgk
      clear hp hpos hgk hg
      gi_wp2_with fail
      refine ⟨trivial, fun h => (by cases h), (callsIn_wide.2 ke).mono ?_⟩
      rintro e w1 ⟨rfl, hb1⟩
      have hat1 := HAT.out.els HC.out hb1
      obtain ⟨fn, tmps, assign, body, hy, hR⟩ := HY.out (k, false) w1 ⟨hk, hat1, by simp⟩ (HBk.out _ _ (els_keeps (Els.of_below hb1) hm.blk) hbk.out)
      clear ke hm hat1 c0
      gi_wp2
      refine ⟨fun h => (by cases h), hR.mono ?_⟩
      rintro e W3 (⟨rfl, hI, hB3⟩ | ⟨rfl, hx3⟩)
      · obtain ⟨hlt, _, _, hat3⟩ := hI
        obtain ⟨ps3, hm3⟩ := hat3.2.1
        have c3 := hat3.2.2.1
        have HAT3 := Lib.hid hat3
        have HB3 := Lib.hid hB3
        clear hy hR hat3 hB3
        cases hs : stepP l (stN l s0 k) with
        | some s' =>
          have ks := step_at_some W3 B g pv sv ps3 hm3 HG2.out HV.out hpl hn4 hs
          have HM3 := Lib.hid hm3
          have HS := Lib.hid hs
          clear hs hm3
          gi_wp2_with fail
          refine ⟨trivial, fun h => (by cases h), (callsIn_wide.2 ks).mono ?_⟩
          rintro e w4 ⟨rfl, hE⟩
          clear ks
          have hnew : Hid (AtK l s0 B g mb pv sv C (k + 1) w4 ∧ Bk w4) := by
            obtain ⟨⟨ps', hm'⟩, hels⟩ := hE.out
            refine ⟨⟨hR0.out.succ HP.out HS.out, ⟨ps', by rw [stN_succ HS.out]; exact hm'⟩, ?_, HC.out _ _ hels HAT3.out.2.2.2⟩, HBk.out _ _ (els_keeps hels HM3.out.blk) HB3.out⟩
            have hmb' : mb < W3.heap.size := by
              obtain ⟨o, ho, _⟩ := cells_of_cell c3
              exact (Array.getElem?_eq_some_iff.1 ho).1
            exact (World.cell?_of_block (hels.block mb hmb' hmb)).trans c3
          clear hE c3
          gi_wp2
          go_roundw
          case rel => exact ⟨k + 1, by go_num, by omega, hnew.out.1, hnew.out.2⟩
          case measure => simp [intOf]; omega
        | none =>
          have ks := step_at_none W3 B g pv sv ps3 hm3 HG2.out HV.out hpl hn4 hs
          have HM3 := Lib.hid hm3
          have HS := Lib.hid hs
          clear hs hm3
          gi_wp2_with fail
          refine ⟨trivial, fun h => (by cases h), (callsIn_wide.2 ks).mono ?_⟩
          rintro e w4 ⟨rfl, hE⟩
          clear ks
          have hnew : AtK l s0 B g mb pv sv C k w4 ∧ Bk w4 := by
            obtain ⟨⟨ps', hm'⟩, hels⟩ := hE.out
            refine ⟨⟨hR0.out, ⟨ps', hm'⟩, ?_, HC.out _ _ hels HAT3.out.2.2.2⟩, HBk.out _ _ (els_keeps hels HM3.out.blk) HB3.out⟩
            have hmb' : mb < W3.heap.size := by
              obtain ⟨o, ho, _⟩ := cells_of_cell c3
              exact (Array.getElem?_eq_some_iff.1 ho).1
            exact (World.cell?_of_block (hels.block mb hmb' hmb)).trans c3
          obtain ⟨fn, tmps, assign, body, hy, hR⟩ := HY.out (k, true) w4 ⟨hk, hnew.1, fun _ => ⟨hlt, HP.out, HS.out⟩⟩ hnew.2
          clear hE c3 hnew
          gi_wp2
          refine ⟨fun h => (by cases h), hR.mono ?_⟩
          rintro e W5 (⟨rfl, hI5, _⟩ | ⟨rfl, hx5⟩)
          · exact absurd hI5.2.1 (by simp)
          · gi_wp2
            refine bodyPost_ret (results_none rfl _ _ _) rfl ?_
            exact ⟨⟨_, rfl⟩, hx5⟩
      · gi_wp2
        refine bodyPost_ret (results_none rfl _ _ _) rfl ?_
        exact ⟨⟨_, rfl⟩, hx3⟩

end Go.Proofs.Ytaiomcjopgnfpaa

namespace Go.Proofs.Ytaiomcjopgnfpaa
open Go.RowKit Go.Shelf
attribute [local go_sem] Oper.semAt_some

/-- What Run hands back. -/
def RunOut (w : World) (y : ByteArray) (k : Nat) (er : Int) (e : Ending) (w' : World) : Prop := e = .returned (.tuple #[.string y, .int .i64 k, .int .i64 er]) ∧ Below w.heap.size w w'

theorem els_blk {g b : Nat} {A B : World} {o : Obj} (h : Els g A B) (hne : b ≠ g) (hc : A.heap[b]? = some o) : B.heap[b]? = some o :=
  (h.block b (Array.getElem?_eq_some_iff.1 hc).1 hne).trans hc
theorem below_blk {n b : Nat} {A B : World} {o : Obj} (h : Below n A B) (hc : A.heap[b]? = some o) (hn : b < n) : B.heap[b]? = some o := (h.block b hn).trans hc
theorem grown_blk {b : Nat} {A B : World} {row : Option Nat} {cs : Array Value} {T : Nat} {fr : Nat × Nat} (hg : A.grownBy B row) (hr : ∀ r, row = some r → ∃ o : Obj, A.heap[r]? = some o ∧ o.isCells = false) (hc : A.heap[b]? = some (.cells cs T fr)) : B.heap[b]? = some (.cells cs T fr) :=
  (grownBy_keeps_cells hg hr hc rfl).trans hc

/-- What Run's own variables hold. -/
structure RunC (w : World) (bm : Nat) (mv : Value) (fuel : Int) (y : ByteArray) (k er : Int) (W : World) : Prop where
  f : W.heap[w.heap.size]? = some (.cells #[.int .i64 fuel] 3 (0, 0))
  y : W.heap[w.heap.size + 1]? = some (.cells #[.string y] 9 (0, 0))
  k : W.heap[w.heap.size + 1 + 1]? = some (.cells #[.int .i64 k] 3 (0, 0))
  e : W.heap[w.heap.size + 1 + 1 + 1]? = some (.cells #[.int .i64 er] 26 (0, 0))
  m : W.heap[bm]? = some (.cells #[mv] 94 (0, 0))
  b : Below w.heap.size w W
theorem RunC.els {w : World} {bm : Nat} {mv : Value} {fuel : Int} {y : ByteArray} {k er : Int} {A B : World} (h : RunC w bm mv fuel y k er A) {g : Nat} (hE : Els g A B) (hg : w.heap.size + 1 + 1 + 1 < g) (hm : bm ≠ g) : RunC w bm mv fuel y k er B :=
  ⟨els_blk hE (by omega) h.f, els_blk hE (by omega) h.y, els_blk hE (by omega) h.k, els_blk hE (by omega) h.e, els_blk hE hm h.m, h.b.trans (hE.below (by omega) h.b.size)⟩
theorem RunC.grown {w : World} {bm : Nat} {mv : Value} {fuel : Int} {y : ByteArray} {k er : Int} {A B : World} {row : Option Nat} (h : RunC w bm mv fuel y k er A) (hg : A.grownBy B row) (hr : ∀ r, row = some r → w.heap.size ≤ r ∧ ∃ o : Obj, A.heap[r]? = some o ∧ o.isCells = false) : RunC w bm mv fuel y k er B :=
  have hr' := fun r e => (hr r e).2
  ⟨grown_blk hg hr' h.f, grown_blk hg hr' h.y, grown_blk hg hr' h.k, grown_blk hg hr' h.e, grown_blk hg hr' h.m, h.b.grown hg h.b.size (fun k e => (hr k e).1)⟩

theorem RunC.put {w W : World} {bm : Nat} {mv : Value} {fuel : Int} {y0 : ByteArray} {k0 e0 : Int} (h : RunC w bm mv fuel y0 k0 e0 W) (hbm : w.heap.size + 1 + 1 + 1 < bm) (y : ByteArray) (k er : Int) :
    KeepsOthers W (((W.setCell ⟨w.heap.size + 1, 0, none⟩ (.string y)).setCell ⟨w.heap.size + 1 + 1, 0, none⟩ (.int .i64 k)).setCell ⟨w.heap.size + 1 + 1 + 1, 0, none⟩ (.int .i64 er)) ∧
    RunC w bm mv fuel y k er (((W.setCell ⟨w.heap.size + 1, 0, none⟩ (.string y)).setCell ⟨w.heap.size + 1 + 1, 0, none⟩ (.int .i64 k)).setCell ⟨w.heap.size + 1 + 1 + 1, 0, none⟩ (.int .i64 er)) := by
  refine ⟨((KeepsOthers.setCell _ _ _).trans (KeepsOthers.setCell _ _ _)).trans (KeepsOthers.setCell _ _ _), ?_⟩
  have e1 : ∀ (V : World) (b : Nat) (o : Obj) (c : Nat) (u : Value), b ≠ c → V.heap[b]? = some o → (V.setCell ⟨c, 0, none⟩ u).heap[b]? = some o := fun V b o c u hne h => (Below.heap_setCell _ _ _ _ (by show b ≠ c; exact hne)).trans h
  refine ⟨e1 _ _ _ _ _ (by omega) (e1 _ _ _ _ _ (by omega) (e1 _ _ _ _ _ (by omega) h.f)), e1 _ _ _ _ _ (by omega) (e1 _ _ _ _ _ (by omega) ?_), e1 _ _ _ _ _ (by omega) ?_, ?_, e1 _ _ _ _ _ (by omega) (e1 _ _ _ _ _ (by omega) (e1 _ _ _ _ _ (by omega) h.m)), ?_⟩
  · exact set_blk h.y 0 _
  · exact set_blk (e1 _ _ _ _ _ (by omega) h.k) 0 _
  · exact set_blk (e1 _ _ _ _ _ (by omega) (e1 _ _ _ _ _ (by omega) h.e)) 0 _
  · exact ((h.b.setCell (p := ⟨w.heap.size + 1, 0, none⟩) (by show w.heap.size ≤ w.heap.size + 1; omega) _).setCell (p := ⟨w.heap.size + 1 + 1, 0, none⟩) (by show w.heap.size ≤ w.heap.size + 1 + 1; omega) _).setCell (p := ⟨w.heap.size + 1 + 1 + 1, 0, none⟩) (by show w.heap.size ≤ w.heap.size + 1 + 1 + 1; omega) _
theorem RunC.below {w : World} {bm : Nat} {mv : Value} {fuel : Int} {y : ByteArray} {k er : Int} {A B : World} (h : RunC w bm mv fuel y k er A) (hE : Below A.heap.size A B) : RunC w bm mv fuel y k er B := by
  have q : ∀ (b : Nat) (o : Obj), A.heap[b]? = some o → B.heap[b]? = some o := fun b o ho => below_blk hE ho (Array.getElem?_eq_some_iff.1 ho).1
  exact ⟨q _ _ h.f, q _ _ h.y, q _ _ h.k, q _ _ h.e, q _ _ h.m, h.b.trans (hE.mono h.b.size)⟩
theorem below_keeps {A B : World} (h : Below A.heap.size A B) : KeepsOthers A B := ⟨h.size, fun _k _o hk _ => below_blk h hk (Array.getElem?_eq_some_iff.1 hk).1⟩

/-- Run's variables, before it begins. -/
def RunB0 (w : World) (fuel : Int) (W : World) : Prop :=
  W.heap[w.heap.size]? = some (.cells #[.int .i64 fuel] 3 (0, 0)) ∧ W.heap[w.heap.size + 1]? = some (.cells #[.string ⟨#[]⟩] 9 (0, 0)) ∧ W.heap[w.heap.size + 1 + 1]? = some (.cells #[.int .i64 0] 3 (0, 0)) ∧
  W.heap[w.heap.size + 1 + 1 + 1]? = some (.cells #[.int .i64 0] 26 (0, 0)) ∧ Below w.heap.size w W ∧ W.heap.size = w.heap.size + 1 + 1 + 1 + 1
theorem run_boxes (w : World) (fuel : Int) : RunB0 w fuel ((((w.alloc (.cells #[.int .i64 fuel] 3)).alloc (.cells #[.string ⟨#[]⟩] 9)).alloc (.cells #[.int .i64 0] 3)).alloc (.cells #[.int .i64 0] 26)) := by
  have x0 := heap_alloc_new w (.cells #[.int .i64 fuel] 3)
  have x1 := heap_alloc_new (w.alloc (.cells #[.int .i64 fuel] 3)) (.cells #[.string ⟨#[]⟩] 9)
  have x2 := heap_alloc_new ((w.alloc (.cells #[.int .i64 fuel] 3)).alloc (.cells #[.string ⟨#[]⟩] 9)) (.cells #[.int .i64 0] 3)
  have x3 := heap_alloc_new (((w.alloc (.cells #[.int .i64 fuel] 3)).alloc (.cells #[.string ⟨#[]⟩] 9)).alloc (.cells #[.int .i64 0] 3)) (.cells #[.int .i64 0] 26)
  have y0 := (Below.heap_alloc _ (.cells #[.int .i64 0] 26) _ (by simp only [World.size_alloc]; omega)).trans ((Below.heap_alloc _ (.cells #[.int .i64 0] 3) _ (by simp only [World.size_alloc]; omega)).trans ((Below.heap_alloc _ (.cells #[.string ⟨#[]⟩] 9) _ (by simp)).trans x0))
  have y1 := (Below.heap_alloc _ (.cells #[.int .i64 0] 26) _ (by simp only [World.size_alloc]; omega)).trans ((Below.heap_alloc _ (.cells #[.int .i64 0] 3) _ (by simp)).trans x1)
  have y2 := (Below.heap_alloc _ (.cells #[.int .i64 0] 26) _ (by simp)).trans x2
  simp only [World.size_alloc] at y0 y1 y2 x3
  exact ⟨y0, y1, y2, x3, ((((Below.refl _ w).alloc (Nat.le_refl _) _).alloc (by simp) _).alloc (by simp; omega) _).alloc (by simp; omega) _, by simp⟩
theorem RunB0.below {w W W1 : World} {fuel : Int} (h : RunB0 w fuel W) (hb : Below W.heap.size W W1) :
    W1.heap[w.heap.size]? = some (.cells #[.int .i64 fuel] 3 (0, 0)) ∧ W1.heap[w.heap.size + 1]? = some (.cells #[.string ⟨#[]⟩] 9 (0, 0)) ∧ W1.heap[w.heap.size + 1 + 1]? = some (.cells #[.int .i64 0] 3 (0, 0)) ∧
    W1.heap[w.heap.size + 1 + 1 + 1]? = some (.cells #[.int .i64 0] 26 (0, 0)) ∧ Below w.heap.size w W1 ∧ w.heap.size + 1 + 1 + 1 < W1.heap.size := by
  obtain ⟨y0, y1, y2, y3, hb0, hs⟩ := h
  exact ⟨below_blk hb y0 (by omega), below_blk hb y1 (by omega), below_blk hb y2 (by omega), below_blk hb y3 (by omega), hb0.trans (hb.mono (by omega)), by have := hb.size; omega⟩
theorem RunB0.start {w W w1 : World} {fuel : Int} (h : RunB0 w fuel W) (hb1 : Below W.heap.size W w1) (_ : w.heap.size + 1 + 1 + 1 < w1.heap.size) (mv : Value) :
    RunC w w1.heap.size mv fuel ⟨#[]⟩ 0 0 ((w1.alloc (.cells #[mv] 94)).alloc (.cells #[mv] 94)) := by
  obtain ⟨y0, y1, y2, y3, hb0, hs⟩ := h.below hb1
  have hb2 : Below w1.heap.size w1 ((w1.alloc (.cells #[mv] 94)).alloc (.cells #[mv] 94)) := ((Below.refl _ _).alloc (Nat.le_refl _) _).alloc (by simp) _
  exact ⟨below_blk hb2 y0 (by omega), below_blk hb2 y1 (by omega), below_blk hb2 y2 (by omega), below_blk hb2 y3 (by omega), (Below.heap_alloc _ _ _ (by simp)).trans (heap_alloc_new w1 _), hb0.trans (hb2.mono (by omega))⟩
theorem RunB0.start1 {w W w1 : World} {fuel : Int} (h : RunB0 w fuel W) (hb1 : Below W.heap.size W w1) (mv : Value) :
    RunC w w1.heap.size mv fuel ⟨#[]⟩ 0 0 (w1.alloc (.cells #[mv] 94)) := by
  obtain ⟨y0, y1, y2, y3, hb0, hs⟩ := h.below hb1
  have hb2 : Below w1.heap.size w1 (w1.alloc (.cells #[mv] 94)) := (Below.refl _ _).alloc (Nat.le_refl _) _
  exact ⟨below_blk hb2 y0 (by omega), below_blk hb2 y1 (by omega), below_blk hb2 y2 (by omega), below_blk hb2 y3 (by omega), heap_alloc_new w1 _, hb0.trans (hb2.mono (by omega))⟩

theorem AtK.grown {l : List Ins} {s0 : St} {B g mb : Nat} {pv sv : Value} {w : World} {bm : Nat} {mv : Value} {fuel : Int} {y : ByteArray} {k' er : Int} {k : Nat} {W W' : World} {row : Option Nat} (h : AtK l s0 B g mb pv sv (RunC w bm mv fuel y k' er) k W) (hg : W.grownBy W' row) (hr : ∀ r, row = some r → w.heap.size ≤ r ∧ ∃ o : Obj, W.heap[r]? = some o ∧ o.isCells = false) : AtK l s0 B g mb pv sv (RunC w bm mv fuel y k' er) k W' := by
  obtain ⟨h1, ⟨ps, h2⟩, h3, h4⟩ := h
  exact ⟨h1, ⟨ps, h2.grown hg (fun r e => (hr r e).2)⟩, cell_kept h3 hg (fun r e => (hr r e).2), h4.grown hg hr⟩

set_option maxRecDepth 100000 in
set_option maxHeartbeats 2000000 in
theorem run_ok (v : Value) (l : List Ins) (t : Tr) (ht : t.size ≤ 2000000) (fuel : Nat) (hk1 : fuel ≤ 10000000) (w : World) (hl : InsRow w w.heap.size v l) (hv : validB l = true) (y : ByteArray) (k : Nat) (er : Int) (hres : (goF l fuel 0 (startS t)).run = (y, k, er)) :
    Calls Try.prog 32 #[v, .string (TS t), .int .i64 fuel] w (RunOut w y k er) := by
  have kb := fun w' (h : InsRow w' w'.heap.size v l) => begin_ok v l t ht fuel w' h hv (by omega) (by omega)
  have HG := Lib.hid (Good.start l.length t ht)
  have HV := Lib.hid (validB_all hv)
  have hn4 := validB_len hv
  have HR := Lib.hid hres
  have hl0 := hl
  obtain ⟨ao, cap, rfl⟩ := hl.len
  have hb0 : Below w.heap.size w ((((w.alloc (.cells #[.int .i64 fuel] 3)).alloc (.cells #[.string ⟨#[]⟩] 9)).alloc (.cells #[.int .i64 0] 3)).alloc (.cells #[.int .i64 0] 26)) :=
    ((((Below.refl _ w).alloc (Nat.le_refl _) _).alloc (by simp) _).alloc (by simp; omega) _).alloc (by simp; omega) _
  have kb0 := kb _ ((hl0.below hb0).mono hb0.size)
  obtain ⟨S, hS⟩ : ∃ S, TS t = S := ⟨_, rfl⟩
  rw [hS] at kb0 ⊢
  clear hv hres kb hS hl hl0
  refine (callsIn_wide (n := 5)).1 ?_
  refine callsIn_of_wp_marks Try.func32 rfl trivial ?_ rfl
  simp only [Try.ntmps32, List.size_toArray, List.length_cons, List.length_nil, Nat.reduceAdd, Nat.reduceSub, Array.replicate_succ, Array.replicate_zero, List.push_toArray, List.append_toArray, List.nil_append, List.cons_append]
  gi_wp2_with fail
  refine ⟨trivial, (callsIn_wide.2 kb0).mono ?_⟩
  rintro e w1 ⟨B, g, sv, ps, rfl, hm, hB, hb1⟩
  have hBs : w.heap.size + 1 + 1 + 1 < B := by simp at hB; omega
  have hble := hm.le
  have hglt := hm.lt
  have HM := Lib.hid hm
  clear kb0 hm
  gi_wp2_with fail
  refine ⟨trivial, (callsIn_wide.2 (states_any _ _)).mono ?_⟩
  rintro e w2 ⟨rfl, rfl⟩
  have hb2 : Below w1.heap.size w1 ((w1.alloc (.cells #[.pointer (some ⟨g, 0, none⟩)] 94)).alloc (.cells #[.pointer (some ⟨g, 0, none⟩)] 94)) := ((Below.refl _ _).alloc (Nat.le_refl _) _).alloc (by simp) _
  have hws : w.heap.size + 1 + 1 + 1 < w1.heap.size := by have := hb1.size; simp at this; omega
  have hbw : Below w.heap.size w w1 := hb0.trans (hb1.mono (by simp; omega))
  have hC0 := (run_boxes w fuel).start hb1 hws (.pointer (some ⟨g, 0, none⟩))
  have hA0 : AtK l (startS t) B g (w1.heap.size + 1) (.slice ao l.length cap) sv (RunC w w1.heap.size (.pointer (some ⟨g, 0, none⟩)) fuel ⟨#[]⟩ 0 0) 0 ((w1.alloc (.cells #[.pointer (some ⟨g, 0, none⟩)] 94)).alloc (.cells #[.pointer (some ⟨g, 0, none⟩)] 94)) := by
    refine ⟨Reach.zero _ _, ⟨ps, HM.out.kept hb2⟩, ?_, hC0⟩
    have := heap_alloc_new (w1.alloc (.cells #[.pointer (some ⟨g, 0, none⟩)] 94)) (.cells #[.pointer (some ⟨g, 0, none⟩)] 94)
    rw [World.size_alloc] at this
    exact (block_cells this).1 0
  have HA0 := Lib.hid hA0
  have HB2 := Lib.hid hb2
  clear hA0 hC0 hb2 hb1 hb0
  gi_wp2_with fail
  refine wpIn_rangeFunc_ends (α := Nat × Bool) rfl (by decide) (gf := 115) (lb := #[.pointer (some ⟨w1.heap.size + 1, 0, none⟩)]) rfl trivial (enters_of Try.func115 (by kernel_rfl) rfl)
    (AtK l (startS t) B g (w1.heap.size + 1) (.slice ao l.length cap) sv (RunC w w1.heap.size (.pointer (some ⟨g, 0, none⟩)) fuel ⟨#[]⟩ 0 0) 0)
    (RI fuel l (startS t) B g (w1.heap.size + 1) (.slice ao l.length cap) sv (RunC w w1.heap.size (.pointer (some ⟨g, 0, none⟩)) fuel ⟨#[]⟩ 0 0))
    (RI' fuel l (startS t) B g (w1.heap.size + 1) (.slice ao l.length cap) sv (RunC w w1.heap.size (.pointer (some ⟨g, 0, none⟩)) fuel ⟨#[]⟩ 0 0))
    (fun c W => c = .ret ∧ RunC w w1.heap.size (.pointer (some ⟨g, 0, none⟩)) fuel y k er W)
    (states1_ends _ fuel hk1 l (startS t) B g (w1.heap.size + 1) (by omega) _ sv _ (fun A B h hc => hc.els h (by omega) (by omega)) HG.out HV.out hn4) (fun _ => rfl)
    (fun _ A B row h hg hr => h.grown hg (fun r e => ⟨by have := (hr r e).1; simp at this; omega, (hr r e).2⟩))
    (fun x A B row h hg hr => ⟨h.1, h.2.1.grown hg (fun r e => ⟨by have := (hr r e).1; simp at this; omega, (hr r e).2⟩), h.2.2⟩)
    (fun x A B row h hg hr => ⟨h.1, h.2.1, h.2.2.1, h.2.2.2.grown hg (fun r e => ⟨by have := (hr r e).1; simp at this; omega, (hr r e).2⟩)⟩)
    (fun c _ A B row h hg hr => ⟨h.1, h.2.grown hg (fun r e => ⟨by have := (hr r e).1; simp at this; omega, (hr r e).2⟩)⟩)
    HA0.out
    (fun x => { tmps := #[.slice ao l.length cap, .string S, .int .i64 fuel, undef, undef, .pointer (some ⟨w.heap.size, 0, none⟩), .pointer (some ⟨w.heap.size + 1, 0, none⟩), .pointer (some ⟨w.heap.size + 1 + 1, 0, none⟩), .pointer (some ⟨w.heap.size + 1 + 1 + 1, 0, none⟩), .pointer (some ⟨w1.heap.size, 0, none⟩), .int .i64 0, .int .i64 x.1, .bool x.2,
      .tuple #[.pointer (some ⟨g, 0, none⟩), .int .i64 0], .slice ao l.length cap, .string S, .int .i64 fuel, .tuple #[.pointer (some ⟨g, 0, none⟩), .int .i64 0], .pointer (some ⟨g, 0, none⟩), .int .i64 0, .int .i64 0, .bool false, undef, .pointer (some ⟨g, 0, none⟩), .func (.func 115) #[] #[.pointer (some ⟨w1.heap.size + 1, 0, none⟩)],
      .int .i64 x.1, .bool x.2, undef, undef, undef, undef, undef, undef, undef, undef, undef, undef, undef, undef, undef, undef, undef, undef], defers := [] }) ?assign ?body ?stop
  case assign =>
    intro lr x W K hK
    gi_wp2
    exact hK
  case stop =>
    rintro D c W hD ⟨rfl, hc⟩ hK
    have hc' := hc.grown (grownBy_putObj' W D (.deferred none)) (fun r e => by cases e; exact ⟨by simp at hD; omega, _, hK, rfl⟩)
    have q1 := (block_cells hc'.y).1 0
    have q2 := (block_cells hc'.k).1 0
    have q3 := (block_cells hc'.e).1 0
    simp only [List.getElem?_toArray, List.getElem?_cons_zero] at q1 q2 q3
    gi_wp2
    refine ⟨by simp, .inl ⟨_, _, rfl, run_takeDeferred hK, ?_⟩⟩
    refine ⟨.tuple #[.string y, .int .i64 k, .int .i64 er], ?_, rfl, hc'.b⟩
    simp [results, Try.f32, go_sem, q1, q2, q3]
  case body =>
    rintro lr ⟨k1, b⟩ W hI
    obtain ⟨hk1', ⟨hre, ⟨ps1, hm1⟩, hmb, hC⟩, hbig⟩ := hI
    dsimp only at hk1' hre hm1 hbig
    have c0 := (block_cells hC.f).1 0
    have c1 := (block_cells hC.y).1 0
    have c2 := (block_cells hC.k).1 0
    have c3 := (block_cells hC.e).1 0
    have c4 := (block_cells hC.m).1 0
    have f1 := (block_cells hC.y).2 0
    have f2 := (block_cells hC.k).2 0
    have f3 := (block_cells hC.e).2 0
    simp only [List.getElem?_toArray, List.getElem?_cons_zero] at c0 c1 c2 c3 c4
    have hgk := hre.good HV.out HG.out
    have HRE := Lib.hid hre
    have HC := Lib.hid hC
    have HBIG := Lib.hid hbig
    clear hre hC hbig
    cases b with
    | true =>
      have hfin : Hid (y = ⟨#[]⟩ ∧ k = 0 ∧ er = 3) := by
        obtain ⟨h1, h2, h3⟩ := HBIG.out rfl
        have hr := HR.out
        rw [HRE.out.goF fuel hk1', show fuel - k1 = (fuel - k1 - 1) + 1 by omega, goF_big h2 h3] at hr
        simp only [Res.run, Prod.mk.injEq] at hr
        exact ⟨hr.1.symm, hr.2.1.symm, hr.2.2.symm⟩
      clear hm1 hgk
      obtain ⟨rfl, rfl, rfl⟩ := hfin.out
      gi_wp2
      obtain ⟨z1, z2⟩ := HC.out.put hws ⟨#[]⟩ 0 3
      exact ⟨z1, rfl, z2⟩
    | false =>
      cases hp : ((stN l (startS t) k1).pos : Int) == (l.length : Int) with
      | true =>
        have ke := ended_at _ W B g l _ _ sv ps1 hm1 hgk hp
        have hpos : (stN l (startS t) k1).pos = l.length := by have := eq_of_beq hp; omega
        obtain ⟨tr, htr⟩ : ∃ tr, (stN l (startS t) k1).regs[0]? = some tr := ⟨_, List.getElem?_eq_getElem (by rw [hgk.2.1]; omega)⟩
        have hfin : Hid (y = TS tr ∧ k = k1 ∧ er = 0) := by
          have hr := HR.out
          rw [HRE.out.goF fuel hk1', goF_done hpos] at hr
          simp only [Res.run, Prod.mk.injEq] at hr
          exact ⟨by rw [← hr.1]; exact (congrArg TS (getR_nat (r := 0) htr)), hr.2.1.symm, hr.2.2.symm⟩
        obtain ⟨rfl, rfl, rfl⟩ := hfin.out
        obtain ⟨_, _, _, hrg, _⟩ := hm1.cells hgk.2.1
        obtain ⟨q, cq, nq⟩ := hrg 0 tr htr
        have hts := hgk.2.2 tr (List.mem_of_getElem? htr)
        have HQ := Lib.hid nq
        have kt : ∀ w', Below W.heap.size W w' → Calls Try.prog 85 #[.pointer q] w' fun e w'' => e = .returned (.string (TS tr)) ∧ Below W.heap.size W w'' := fun w' hb' =>
          (nodeText_any tr _ w' (HQ.out.kept (Kept.below hb')) hts).mono fun e w'' h => ⟨h.1, hb'.trans (h.2.mono hb'.size)⟩
        have hgl := hm1.lt
        clear hp hpos hrg hm1 hgk nq
        gi_wp2_with fail
        refine ⟨trivial, CallsIn.inRound lr ((callsIn_wide.2 ke).mono ?_)⟩
        rintro e W1 ⟨rfl, hb1⟩
        have HC1 := Lib.hid (HC.out.below hb1)
        have c0 := (block_cells HC1.out.f).1 0
        have c1 := (block_cells HC1.out.y).1 0
        have c2 := (block_cells HC1.out.k).1 0
        have c3 := (block_cells HC1.out.e).1 0
        have c4 := (block_cells HC1.out.m).1 0
        have f1 := (block_cells HC1.out.y).2 0
        have f2 := (block_cells HC1.out.k).2 0
        have f3 := (block_cells HC1.out.e).2 0
        simp only [List.getElem?_toArray, List.getElem?_cons_zero] at c0 c1 c2 c3 c4
        have cq1 := (hb1.cell (p := ⟨g, 2 + 0, none⟩) hgl).trans cq
        have kt1 := kt _ hb1
        clear kt ke cq
        gi_wp2_with fail
        refine ⟨trivial, CallsIn.inRound lr ((callsIn_wide.2 kt1).mono ?_)⟩
        rintro e W2 ⟨rfl, hb2⟩
        have HC2 := Lib.hid (HC.out.below hb2)
        have c0 := (block_cells HC2.out.f).1 0
        have c1 := (block_cells HC2.out.y).1 0
        have c2 := (block_cells HC2.out.k).1 0
        have c3 := (block_cells HC2.out.e).1 0
        have f1 := (block_cells HC2.out.y).2 0
        have f2 := (block_cells HC2.out.k).2 0
        have f3 := (block_cells HC2.out.e).2 0
        simp only [List.getElem?_toArray, List.getElem?_cons_zero] at c0 c1 c2 c3
        have HKO := Lib.hid (below_keeps hb2)
        obtain ⟨Y, hY⟩ : ∃ Y, TS tr = Y := ⟨_, rfl⟩
        rw [hY]
        have HY := Lib.hid hY
        clear hY kt1 c4 hb1 hb2 cq1
        gi_wp2
        obtain ⟨z1, z2⟩ := HC2.out.put hws Y k 0
        exact ⟨HKO.out.trans z1, rfl, by rw [HY.out]; exact z2⟩
      | false =>
        have ke := ended_at _ W B g l _ _ sv ps1 hm1 hgk hp
        have hpos : (stN l (startS t) k1).pos ≠ l.length := by
          intro h
          rw [h] at hp
          simp at hp
        have HP := Lib.hid hpos
        have HM1 := Lib.hid hm1
        by_cases hkf : k1 = fuel
        · have hfin : Hid (y = ⟨#[]⟩ ∧ k = 0 ∧ er = 7) := by
            have hr := HR.out
            rw [HRE.out.goF fuel hk1', hkf, Nat.sub_self, goF_zero (by rw [← hkf]; exact HP.out)] at hr
            simp only [Res.run, Prod.mk.injEq] at hr
            exact ⟨hr.1.symm, hr.2.1.symm, hr.2.2.symm⟩
          obtain ⟨rfl, rfl, rfl⟩ := hfin.out
          have hkk : ((k1 : Int) == (fuel : Int)) = true := by rw [hkf]; simp
          clear hp hpos hgk hm1 hkf
          gi_wp2_with fail
          refine ⟨trivial, CallsIn.inRound lr ((callsIn_wide.2 ke).mono ?_)⟩
          rintro e W1 ⟨rfl, hb1⟩
          have HC1 := Lib.hid (HC.out.below hb1)
          have HKO := Lib.hid (below_keeps hb1)
          have c0 := (block_cells HC1.out.f).1 0
          have c1 := (block_cells HC1.out.y).1 0
          have c2 := (block_cells HC1.out.k).1 0
          have c3 := (block_cells HC1.out.e).1 0
          have f1 := (block_cells HC1.out.y).2 0
          have f2 := (block_cells HC1.out.k).2 0
          have f3 := (block_cells HC1.out.e).2 0
          simp only [List.getElem?_toArray, List.getElem?_cons_zero] at c0 c1 c2 c3
          clear ke hb1
          gi_wp2
          obtain ⟨z1, z2⟩ := HC1.out.put hws ⟨#[]⟩ 0 7
          exact ⟨HKO.out.trans z1, rfl, z2⟩
        · have hkk : ((k1 : Int) == (fuel : Int)) = false := by rw [beq_eq_false_iff_ne]; omega
          have hlt : k1 < fuel := by omega
          clear hp hpos hgk hm1 hkf
          gi_wp2_with fail
          refine ⟨trivial, CallsIn.inRound lr ((callsIn_wide.2 ke).mono ?_)⟩
          rintro e W1 ⟨rfl, hb1⟩
          have HC1 := Lib.hid (HC.out.below hb1)
          have HKO := Lib.hid (below_keeps hb1)
          have HB1 := Lib.hid hb1
          have HMB := Lib.hid hmb
          have c0 := (block_cells HC1.out.f).1 0
          simp only [List.getElem?_toArray, List.getElem?_cons_zero] at c0
          clear ke hb1 hmb
          gi_wp2
          refine ⟨HKO.out, hlt, rfl, HP.out, HRE.out, ⟨ps1, HM1.out.kept HB1.out⟩, ?_, HC1.out⟩
          have : w1.heap.size + 1 < W.heap.size := by
            obtain ⟨o, ho, _⟩ := cells_of_cell HMB.out
            exact (Array.getElem?_eq_some_iff.1 ho).1
          exact (HB1.out.cell (p := ⟨w1.heap.size + 1, 0, none⟩) this).trans HMB.out

set_option maxHeartbeats 1000000 in
theorem run_bad (v : Value) (l : List Ins) (s : ByteArray) (fuel : Int) (w : World) (er : Int) (hl : InsRow w w.heap.size v l) (her : er = 1 ∨ er = 2)
    (kb : ∀ w', InsRow w' w'.heap.size v l → Calls Try.prog 82 #[v, .string s, .int .i64 fuel] w' fun e w'' => e = .returned (.tuple #[.pointer none, .int .i64 er]) ∧ Below w'.heap.size w' w'') :
    Calls Try.prog 32 #[v, .string s, .int .i64 fuel] w (RunOut w ⟨#[]⟩ 0 er) := by
  have hl0 := hl
  obtain ⟨ao, cap, rfl⟩ := hl.len
  have hb0 : Below w.heap.size w ((((w.alloc (.cells #[.int .i64 fuel] 3)).alloc (.cells #[.string ⟨#[]⟩] 9)).alloc (.cells #[.int .i64 0] 3)).alloc (.cells #[.int .i64 0] 26)) :=
    ((((Below.refl _ w).alloc (Nat.le_refl _) _).alloc (by simp) _).alloc (by simp; omega) _).alloc (by simp; omega) _
  have kb0 := kb _ ((hl0.below hb0).mono hb0.size)
  clear kb hl hl0
  have hne : (er != 0) = true := by rw [bne_iff_ne]; omega
  clear her
  go_enter Try.func32, Try.ntmps32
  go_wp2_with fail
  refine kb0.mono ?_
  rintro e w1 ⟨rfl, hb1⟩
  have hws : w.heap.size + 1 + 1 + 1 < w1.heap.size := by have := hb1.size; simp at this; omega
  have HC := Lib.hid ((run_boxes w fuel).start1 hb1 (.pointer none))
  have c0 := (block_cells HC.out.f).1 0
  have c1 := (block_cells HC.out.y).1 0
  have c2 := (block_cells HC.out.k).1 0
  have c3 := (block_cells HC.out.e).1 0
  have f1 := (block_cells HC.out.y).2 0
  have f2 := (block_cells HC.out.k).2 0
  have f3 := (block_cells HC.out.e).2 0
  simp only [List.getElem?_toArray, List.getElem?_cons_zero] at c0 c1 c2 c3
  clear kb0 hb1 hb0
  go_wp2
  obtain ⟨z1, z2⟩ := HC.out.put hws ⟨#[]⟩ 0 er
  have q1 := (block_cells z2.y).1 0
  have q2 := (block_cells z2.k).1 0
  have q3 := (block_cells z2.e).1 0
  simp only [List.getElem?_toArray, List.getElem?_cons_zero] at q1 q2 q3
  refine bodyPost_ret (v := .tuple #[.string ⟨#[]⟩, .int .i64 0, .int .i64 er]) (by simp [results, Try.results32, go_sem, q1, q2, q3]) rfl ?_
  exact ⟨rfl, z2.b⟩

end Go.Proofs.Ytaiomcjopgnfpaa

namespace Go.Proofs.Ytaiomcjopgnfpaa
open Go.RowKit Go.Shelf
attribute [local go_sem] Oper.semAt_some

/-- What After hands back. -/
def Res.after : Res → Int × List ByteArray × Nat × Int
  | .done s n => (s.pos, s.regs.map TS, n, 0)
  | .fuel s n => (s.pos, s.regs.map TS, n, 0)
  | .big => (0, [], 0, 3)
def AftOut (w : World) (n : Int) (L : List ByteArray) (k : Nat) (er : Int) (e : Ending) (w' : World) : Prop := ∃ v, e = .returned (.tuple #[.agg #[.int .i64 n, v], .int .i64 k, .int .i64 er]) ∧ StrRow w' w'.heap.size v L ∧ Below w.heap.size w w'

theorem StrRow.grown {W W' : World} {row : Option Nat} {v : Value} {L : List ByteArray} (h : StrRow W W.heap.size v L) (hg : W.grownBy W' row) (hr : ∀ r, row = some r → ∃ o : Obj, W.heap[r]? = some o ∧ o.isCells = false) : StrRow W' W'.heap.size v L := by
  obtain ⟨h1, h2, h3⟩ := h
  refine ⟨h1, h2, ?_⟩
  rcases h3 with h3 | ⟨g, off, cap, hv, hlt, hc⟩
  · exact .inl h3
  · exact .inr ⟨g, off, cap, hv, by have := hg.size; omega, fun j s hj => cell_kept (hc j s hj) hg hr⟩
end Go.Proofs.Ytaiomcjopgnfpaa

namespace Go.Proofs.Ytaiomcjopgnfpaa
open Go.RowKit

theorem InsRow.new {w : World} {T : Nat} (l : List Ins) (hwf : ∀ x ∈ l, x.wf) (hlen : l.length ≤ 4000) : InsRow (w.alloc (.cells (inscells l).toArray T)) (w.alloc (.cells (inscells l).toArray T)).heap.size (.slice (some ⟨w.heap.size, 0, none⟩) l.length l.length) l := by
  refine ⟨hwf, by omega, .inr ⟨w.heap.size, 0, l.length, rfl, by simp, fun j x hj k u hk => ?_⟩⟩
  rw [(block_cells (heap_alloc_new w _)).1, List.getElem?_toArray, Nat.zero_add]
  exact inscells_get l j x hj k u hk
theorem wf_lit (op a b c : Int) (s : ByteArray) (h1 : i64 op) (h2 : i64 a) (h3 : i64 b) (h4 : i64 c) (h5 : s.size ≤ 140737488355328) : (⟨op, a, b, c, s⟩ : Ins).wf := ⟨h1, h2, h3, h4, h5⟩

/-- A state in which a step changes nothing. -/
theorem goF_loop {l : List Ins} {s : St} (hp : s.pos ≠ l.length) (hs : stepP l s = some s) : ∀ f n, ∃ m, goF l f n s = .fuel s m := by
  intro f
  induction f with
  | zero => intro n; exact ⟨n, goF_zero hp⟩
  | succ f ih => intro n; rw [goF_step hp hs]; exact ih _

/-- The program that doubles register 0 again and again. -/
def dblP : List Ins := [⟨2, 0, 0, 0, ⟨#[]⟩⟩, ⟨5, 0, -1, 0, ⟨#[]⟩⟩]
def dblT (t : Tr) : Nat → Tr
  | 0 => t
  | k + 1 => .pair (dblT t k) (dblT t k)
theorem dblT_size (t : Tr) (k : Nat) : (dblT t k).size + 1 = 2 ^ k * (t.size + 1) := by
  induction k with
  | zero => simp [dblT]
  | succ k ih => simp only [dblT, Tr.size]; rw [Nat.pow_succ, Nat.mul_right_comm]; omega
theorem dblT_mono (t : Tr) (j k : Nat) (h : j ≤ k) : (dblT t j).size ≤ (dblT t k).size := by
  have h1 := dblT_size t j
  have h2 := dblT_size t k
  have h3 : 2 ^ j ≤ 2 ^ k := Nat.pow_le_pow_right (by omega) h
  have h4 := Nat.mul_le_mul_right (t.size + 1) h3
  omega
theorem dblT_comm (t : Tr) (k : Nat) : dblT (.pair t t) k = dblT t (k + 1) := by
  induction k with
  | zero => rfl
  | succ k ih => simp only [dblT] at *; rw [ih]
theorem stepX_cons {x : Ins} {s : St} (h2 : x.op = 2) (h : (Tr.pair (getR s.regs x.b) (getR s.regs x.c)).size ≤ 2000000) : stepX x s = some ⟨s.pos + 1, setR s.regs x.a (.pair (getR s.regs x.b) (getR s.regs x.c))⟩ := by
  unfold stepX
  rw [if_neg (by omega), if_neg (by omega), if_pos h2, if_pos h]
theorem stepX_big {x : Ins} {s : St} (h2 : x.op = 2) (h : 2000000 < (Tr.pair (getR s.regs x.b) (getR s.regs x.c)).size) : stepX x s = none := by
  unfold stepX
  rw [if_neg (by omega), if_neg (by omega), if_pos h2, if_neg (by omega)]
theorem stepX_go {x : Ins} {s : St} (h2 : x.op = 5) (h : getR s.regs x.a ≠ .nil) : stepX x s = some ⟨(s.pos + x.b).toNat, s.regs⟩ := by
  unfold stepX
  rw [if_neg (by omega), if_neg (by omega), if_neg (by omega), if_neg (by omega), if_neg (by omega), if_neg h]
theorem dbl_cons (t : Tr) (rs : List Tr) (h : (Tr.pair t t).size ≤ 2000000) : stepP dblP ⟨0, t :: rs⟩ = some ⟨1, .pair t t :: rs⟩ :=
  stepX_cons (x := ⟨2, 0, 0, 0, ⟨#[]⟩⟩) (s := ⟨0, t :: rs⟩) rfl h
theorem dbl_big (t : Tr) (rs : List Tr) (h : 2000000 < (Tr.pair t t).size) : stepP dblP ⟨0, t :: rs⟩ = none :=
  stepX_big (x := ⟨2, 0, 0, 0, ⟨#[]⟩⟩) (s := ⟨0, t :: rs⟩) rfl h
theorem dbl_jump (a b : Tr) (rs : List Tr) : stepP dblP ⟨1, .pair a b :: rs⟩ = some ⟨0, .pair a b :: rs⟩ :=
  stepX_go (x := ⟨5, 0, -1, 0, ⟨#[]⟩⟩) (s := ⟨1, .pair a b :: rs⟩) rfl (by show Tr.pair a b ≠ .nil; exact fun h => by cases h)
theorem dbl_run (rs : List Tr) : ∀ (k f n : Nat) (t : Tr), (dblT t k).size ≤ 2000000 → goF dblP (f + 2 * k) n ⟨0, t :: rs⟩ = goF dblP f (n + 2 * k) ⟨0, dblT t k :: rs⟩ := by
  intro k
  induction k with
  | zero => intro f n t _; rfl
  | succ k ih =>
    intro f n t h
    have h1 : (Tr.pair t t).size ≤ 2000000 := Nat.le_trans (dblT_mono t 1 (k + 1) (by omega)) h
    rw [show f + 2 * (k + 1) = (f + 2 * k) + 1 + 1 by omega, goF_step (by simp [dblP]) (dbl_cons t rs h1), goF_step (by simp [dblP]) (dbl_jump t t rs), ih _ _ _ (by rw [dblT_comm]; exact h), dblT_comm, show n + 1 + 1 + 2 * k = n + 2 * (k + 1) by omega]
theorem dbl_valid : validB dblP = true := by decide +kernel
theorem dbl_aw : (goF dblP 1000 0 (startS .nil)).run = (⟨#[]⟩, 0, 3) := by
  have h1 := dblT_size .nil 19
  have h2 := dblT_size .nil 20
  have h3 := dbl_run (List.replicate 31 .nil) 19 962 0 .nil (by simp only [Tr.size] at h1; omega)
  have h4 : goF dblP 1000 0 (startS .nil) = .big := by
    refine h3.trans (goF_big (by decide) (dbl_big _ _ ?_))
    show 2000000 < (dblT .nil 20).size
    simp only [Tr.size] at h2; omega
  rw [h4]; rfl

def awA : List Ins := [⟨4, 0, 0, 0, ⟨#[]⟩⟩]
def awB : List Ins := [⟨0, 1, 0, 0, ⟨#[49, 48, 48]⟩⟩, ⟨5, 1, 0, 0, ⟨#[]⟩⟩]
theorem awA_run : (goF awA 10 0 (startS (.pair .nil (.pair .nil .nil)))).run = (⟨#[49, 48, 48]⟩, 1, 0) := by rfl
theorem awN_run : (goF [] 0 0 (startS (.pair .nil .nil))).run = (⟨#[49, 48, 48]⟩, 0, 0) := by rfl
theorem awB_run : (goF awB 1000 0 (startS .nil)).run = (⟨#[]⟩, 0, 7) := by
  have h1 : stepP awB (startS .nil) = some ⟨1, .nil :: .pair .nil .nil :: List.replicate 30 .nil⟩ := by rfl
  have h2 : stepP awB ⟨1, .nil :: .pair .nil .nil :: List.replicate 30 .nil⟩ = some ⟨1, .nil :: .pair .nil .nil :: List.replicate 30 .nil⟩ := by rfl
  obtain ⟨m, hm⟩ := goF_loop (l := awB) (by decide) h2 999 1
  rw [show (1000 : Nat) = 999 + 1 from rfl, goF_step (by decide) h1, hm]; rfl
theorem awA_valid : validB awA = true := by decide +kernel
theorem awN_valid : validB [] = true := by decide
theorem awB_valid : validB awB = true := by decide +kernel

end Go.Proofs.Ytaiomcjopgnfpaa

namespace Go.Proofs.Ytaiomcjopgnfpaa
open Go.RowKit

/-- A contract relative to a world. -/
def Ct (w : World) (f : Nat) (args : Array Value) (v : Value) : Prop := ∀ w', Below w.heap.size w w' → Calls Try.prog f args w' fun e w'' => e = .returned v ∧ Below w.heap.size w w''
theorem Ct.of {w : World} {f : Nat} {args : Array Value} {v : Value} (h : ∀ w', Below w.heap.size w w' → Calls Try.prog f args w' fun e w'' => e = .returned v ∧ Below w'.heap.size w' w'') : Ct w f args v :=
  fun w' hb => (h w' hb).mono fun _e _w'' h2 => ⟨h2.1, hb.trans (h2.2.mono hb.size)⟩
theorem Ct.of_any {w : World} {f : Nat} {args : Array Value} {v : Value} (h : ∀ w', Calls Try.prog f args w' fun e w'' => e = .returned v ∧ Below w'.heap.size w' w'') : Ct w f args v := Ct.of fun w' _ => h w'
theorem Ct.of_same {w : World} {f : Nat} {args : Array Value} {v : Value} (h : ∀ w', Calls Try.prog f args w' fun e w'' => e = .returned v ∧ w' = w'') : Ct w f args v :=
  fun w' hb => (h w').mono fun e w'' h2 => ⟨h2.1, by rw [← h2.2]; exact hb⟩
theorem Ct.rebase {w w1 : World} {f : Nat} {args : Array Value} {v : Value} (h : Ct w f args v) (hb1 : Below w.heap.size w w1) : ∀ w', Below w1.heap.size w1 w' → Calls Try.prog f args w' fun e w'' => e = .returned v ∧ Below w.heap.size w w'' := fun w' hb => h w' (hb1.trans (hb.mono hb1.size))

/-- Run, where it may run. -/
theorem run_ct {w : World} {v : Value} {l : List Ins} (hl : InsRow w w.heap.size v l) (hv : validB l = true) (t : Tr) (ht : t.size ≤ 2000000) (fuel : Nat) (hf : fuel ≤ 10000000) (y : ByteArray) (k : Nat) (er : Int) (hres : (goF l fuel 0 (startS t)).run = (y, k, er)) :
    Ct w 32 #[v, .string (TS t), .int .i64 fuel] (.tuple #[.string y, .int .i64 k, .int .i64 er]) :=
  Ct.of fun w' hb => run_ok v l t ht fuel hf w' ((hl.below hb).mono hb.size) hv y k er hres

theorem awA_new (w : World) : InsRow (w.alloc (.cells #[.int .i64 4, .int .i64 0, .int .i64 0, .int .i64 0, .string ⟨#[]⟩] 52)) (w.alloc (.cells #[.int .i64 4, .int .i64 0, .int .i64 0, .int .i64 0, .string ⟨#[]⟩] 52)).heap.size (.slice (some ⟨w.heap.size, 0, none⟩) 1 1) awA :=
  InsRow.new (w := w) (T := 52) awA (by intro x hx; simp [awA] at hx; subst hx; exact wf_lit _ _ _ _ _ (by unfold i64; decide) (by unfold i64; decide) (by unfold i64; decide) (by unfold i64; decide) (by decide)) (by decide)
theorem awB_new (w : World) : InsRow (w.alloc (.cells #[.int .i64 0, .int .i64 1, .int .i64 0, .int .i64 0, .string ⟨#[49, 48, 48]⟩, .int .i64 5, .int .i64 1, .int .i64 0, .int .i64 0, .string ⟨#[]⟩] 52)) (w.alloc (.cells #[.int .i64 0, .int .i64 1, .int .i64 0, .int .i64 0, .string ⟨#[49, 48, 48]⟩, .int .i64 5, .int .i64 1, .int .i64 0, .int .i64 0, .string ⟨#[]⟩] 52)).heap.size (.slice (some ⟨w.heap.size, 0, none⟩) 2 2) awB :=
  InsRow.new (w := w) (T := 52) awB (by intro x hx; simp [awB] at hx; rcases hx with rfl | rfl <;> exact wf_lit _ _ _ _ _ (by unfold i64; decide) (by unfold i64; decide) (by unfold i64; decide) (by unfold i64; decide) (by decide)) (by decide)
theorem dblP_new (w : World) : InsRow (w.alloc (.cells #[.int .i64 2, .int .i64 0, .int .i64 0, .int .i64 0, .string ⟨#[]⟩, .int .i64 5, .int .i64 0, .int .i64 (-1), .int .i64 0, .string ⟨#[]⟩] 52)) (w.alloc (.cells #[.int .i64 2, .int .i64 0, .int .i64 0, .int .i64 0, .string ⟨#[]⟩, .int .i64 5, .int .i64 0, .int .i64 (-1), .int .i64 0, .string ⟨#[]⟩] 52)).heap.size (.slice (some ⟨w.heap.size, 0, none⟩) 2 2) dblP :=
  InsRow.new (w := w) (T := 52) dblP (by intro x hx; simp [dblP] at hx; rcases hx with rfl | rfl <;> exact wf_lit _ _ _ _ _ (by unfold i64; decide) (by unfold i64; decide) (by unfold i64; decide) (by unfold i64; decide) (by decide)) (by decide)
theorem nil_row (w : World) (B : Nat) : InsRow w B (.slice none 0 0) [] := ⟨by simp, by simp, .inl ⟨rfl, .inl rfl⟩⟩

theorem aw_run1 (w w' : World) (hb : Below w.heap.size w w') : Calls Try.prog 32 #[.slice (some ⟨w'.heap.size, 0, none⟩) 1 1, .string ⟨#[49, 48, 49, 48, 48]⟩, .int .i64 10] (w'.alloc (.cells #[.int .i64 4, .int .i64 0, .int .i64 0, .int .i64 0, .string ⟨#[]⟩] 52)) fun e w'' => e = .returned (.tuple #[.string ⟨#[49, 48, 48]⟩, .int .i64 1, .int .i64 0]) ∧ Below w.heap.size w w'' :=
  (run_ct (awA_new w') awA_valid (.pair .nil (.pair .nil .nil)) (by decide) 10 (by decide) _ _ _ awA_run _ (Below.refl _ _)).mono fun e w'' h => ⟨h.1, (hb.alloc hb.size _).trans (h.2.mono (by have := hb.size; simp; omega))⟩
theorem aw_run2 (w w' : World) (hb : Below w.heap.size w w') : Calls Try.prog 32 #[.slice none 0 0, .string ⟨#[49, 48, 48]⟩, .int .i64 0] w' fun e w'' => e = .returned (.tuple #[.string ⟨#[49, 48, 48]⟩, .int .i64 0, .int .i64 0]) ∧ Below w.heap.size w w'' :=
  (run_ct (nil_row w' _) awN_valid (.pair .nil .nil) (by decide) 0 (by decide) _ _ _ awN_run _ (Below.refl _ _)).mono fun e w'' h => ⟨h.1, hb.trans (h.2.mono hb.size)⟩
theorem aw_run3 (w w' : World) (hb : Below w.heap.size w w') : Calls Try.prog 32 #[.slice (some ⟨w'.heap.size, 0, none⟩) 2 2, .string ⟨#[48]⟩, .int .i64 1000] (w'.alloc (.cells #[.int .i64 0, .int .i64 1, .int .i64 0, .int .i64 0, .string ⟨#[49, 48, 48]⟩, .int .i64 5, .int .i64 1, .int .i64 0, .int .i64 0, .string ⟨#[]⟩] 52)) fun e w'' => e = .returned (.tuple #[.string ⟨#[]⟩, .int .i64 0, .int .i64 7]) ∧ Below w.heap.size w w'' :=
  (run_ct (awB_new w') awB_valid .nil (by decide) 1000 (by decide) _ _ _ awB_run _ (Below.refl _ _)).mono fun e w'' h => ⟨h.1, (hb.alloc hb.size _).trans (h.2.mono (by have := hb.size; simp; omega))⟩

end Go.Proofs.Ytaiomcjopgnfpaa


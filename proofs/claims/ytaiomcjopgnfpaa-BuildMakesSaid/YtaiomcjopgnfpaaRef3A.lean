/- The walks of narcissusref03.After and Run. -/
import Derived.Test.YtaiomcjopgnfpaaRef3R
import Derived.Test.YtaiomcjopgnfpaaRunG
namespace Go.Proofs.Ytaiomcjopgnfpaa
open Go.RowKit

theorem refstep_some {w : World} {T gm gs gr cp : Nat} {l : List Ins} {s s' : St} {pv tv : Value} {ps : List Value} (hm : RMachP w T gm l pv tv) (hs : RStP w T gs s (.slice (some ⟨gr, 0, none⟩) 32 cp) ps) (hgr : T ≤ gr) (hg : Good l.length s) (hn4 : l.length ≤ 4000) (hv : rightAll l = true) (hp : s.pos < l.length) (h : stepP l s = some s') :
    Calls Try.prog 129 #[.pointer (some ⟨gm, 0, none⟩), .pointer (some ⟨gs, 0, none⟩)] w fun e w' => e = .returned (.bool true) ∧ Hid ((∃ ps', RStP w' T gs s' (.slice (some ⟨gr, 0, none⟩) 32 cp) ps') ∧ Below T w w' ∧ Kept 69 w w') := by
  have h32 := hg.2.1
  have := refstep_any w T gm gs gr cp l s pv tv ps hm (by rw [h32]; exact hs) hgr hg hn4 hv hp
  refine this.mono ?_
  intro e w' ho
  unfold RStepOut at ho
  rw [h, h32] at ho
  obtain ⟨ps', h1, h2, h3, h4⟩ := ho
  exact ⟨h1, ⟨ps', h2⟩, h3, h4⟩
theorem refstep_none {w : World} {T gm gs gr cp : Nat} {l : List Ins} {s : St} {pv tv : Value} {ps : List Value} (hm : RMachP w T gm l pv tv) (hs : RStP w T gs s (.slice (some ⟨gr, 0, none⟩) 32 cp) ps) (hgr : T ≤ gr) (hg : Good l.length s) (hn4 : l.length ≤ 4000) (hv : rightAll l = true) (hp : s.pos < l.length) (h : stepP l s = none) :
    Calls Try.prog 129 #[.pointer (some ⟨gm, 0, none⟩), .pointer (some ⟨gs, 0, none⟩)] w fun e w' => e = .returned (.bool false) ∧ Hid ((∃ ps', RStP w' T gs s (.slice (some ⟨gr, 0, none⟩) 32 cp) ps') ∧ Below T w w' ∧ Kept 69 w w') := by
  have h32 := hg.2.1
  have := refstep_any w T gm gs gr cp l s pv tv ps hm (by rw [h32]; exact hs) hgr hg hn4 hv hp
  refine this.mono ?_
  intro e w' ho
  unfold RStepOut at ho
  rw [h, h32] at ho
  exact ⟨ho.1, ho.2⟩
theorem rended_at (b : Bool) (w : World) (B g h : Nat) (l : List Ins) (s : St) (pv tv rv : Value) (T : Nat) (ps : List Value) (hm : RMachP w B g l pv tv) (hs : RStP w T h s rv ps) (hb : ((s.pos : Int) == (l.length : Int)) = b) :
    Calls Try.prog 99 #[.pointer (some ⟨g, 0, none⟩), .pointer (some ⟨h, 0, none⟩)] w fun e w' => e = .returned (.bool b) ∧ Below w.heap.size w w' := by
  refine (rended_any w B g h l s pv tv rv T ps hm hs).mono ?_
  rintro e w' ⟨rfl, nq, rfl⟩
  exact ⟨by rw [hb], below_drewN (Below.refl _ _) nq⟩
/-- The reference's machine and its state. -/
structure RAt (w : World) (gm gs : Nat) (l : List Ins) (pv tv : Value) (s : St) (rv : Value) (wr : World) : Prop where
  m : RMachP wr w.heap.size gm l pv tv
  s : ∃ ps, RStP wr w.heap.size gs s rv ps
  b : Below w.heap.size w wr
theorem RAt.below {w : World} {gm gs : Nat} {l : List Ins} {pv tv rv : Value} {s : St} {A B : World} (h : RAt w gm gs l pv tv s rv A) (hb : Below A.heap.size A B) : RAt w gm gs l pv tv s rv B := by
  obtain ⟨ps, h1⟩ := h.s
  exact ⟨h.m.kept (hb.mono h.b.size) (Kept.below hb), ⟨ps, h1.kept hb⟩, h.b.trans (hb.mono h.b.size)⟩

/-- What After of the reference hands back. -/
def RAftOut (w : World) (s : St) (n : Nat) (e : Ending) (w' : World) : Prop :=
  ∃ gs gr cp ps, e = .returned (.tuple #[.pointer (some ⟨gs, 0, none⟩), .int .i64 n, .bool true]) ∧ RStP w' w.heap.size gs s (.slice (some ⟨gr, 0, none⟩) 32 cp) ps ∧ w.heap.size ≤ gr ∧ Below w.heap.size w w'
def RAftBig (w : World) (e : Ending) (w' : World) : Prop := ∃ p n, e = .returned (.tuple #[.pointer p, .int .i64 n, .bool false]) ∧ Below w.heap.size w w'
def RAft (w : World) : Res → Ending → World → Prop
  | .done s n => RAftOut w s n
  | .fuel s n => RAftOut w s n
  | .big => RAftBig w

set_option maxRecDepth 20000 in
set_option maxHeartbeats 2000000 in
theorem rafter_any (w : World) (gm : Nat) (l : List Ins) (pv tv : Value) (t : Tr) (x : Value) (K : Nat) (hK : K ≤ 100000000) (hm : RMachP w w.heap.size gm l pv tv) (hx : NodeP 69 w t x) (ht : t.size ≤ 2000000) (hv : rightAll l = true) (hn4 : l.length ≤ 4000) :
    Calls Try.prog 98 #[.pointer (some ⟨gm, 0, none⟩), x, .int .i64 K] w (RAft w (goF l K 0 (startS t))) := by
  obtain ⟨R, hR⟩ : ∃ R, goF l K 0 (startS t) = R := ⟨_, rfl⟩
  rw [hR]
  have HR := Lib.hid hR
  have kf := rfirst_any t x w hx
  have HG := Lib.hid (Good.start l.length t ht)
  have HV := Lib.hid hv
  obtain ⟨q, rfl⟩ := hx.ptr
  have HM := Lib.hid hm
  clear hR hx hv hm
  go_enter Try.func98, Try.ntmps98
  go_wp2_with fail
  refine kf.mono ?_
  rintro e w1 ⟨gs, ps, rfl, hs, hb1⟩
  have HA := Lib.hid (show RAt w gm gs l pv tv (startS t) (.slice (some ⟨w.heap.size, 0, none⟩) 32 32) w1 from ⟨HM.out.kept hb1 (Kept.below hb1), ⟨ps, hs⟩, hb1⟩)
  clear kf hs hb1
  go_wp2
  go_loopg [10] K (fun gg i wr => ∃ j : Nat, j ≤ K ∧ gg = K - j ∧ i = .int .i64 j ∧ Hid (Reach l (startS t) j) ∧ Hid (RAt w gm gs l pv tv (stN l (startS t) j) (.slice (some ⟨w.heap.size, 0, none⟩) 32 32) wr))
  case atStart => exact ⟨0, by omega, rfl, rfl, Reach.zero _ _, HA.out⟩
  case round =>
    obtain ⟨j, hj, hgg, rfl, hre, hat⟩ := hrel
    have HGG := Lib.hid hgg
    have HGJ := Lib.hid (hre.out.good HV.out HG.out)
    clear hgg HA
    by_cases hlt : j < K
    · obtain ⟨be, hbe⟩ : ∃ be, (((stN l (startS t) j).pos : Int) == (l.length : Int)) = be := ⟨_, rfl⟩
      obtain ⟨ps1, hs1⟩ := hat.out.s
      have ke := rended_at be wr _ gm gs l _ pv tv _ _ ps1 hat.out.m hs1 hbe
      have HBE := Lib.hid hbe
      clear hbe hs1
      cases be with
      | true =>
        have hfin : Hid (R = .done (stN l (startS t) j) j) := by
          rw [← HR.out, hre.out.goF K hj, goF_done (by have := eq_of_beq HBE.out; omega)]; exact rfl
        go_wp2_with fail
        refine ke.mono ?_
        rintro e w2 ⟨rfl, hb2⟩
        have HA2 := Lib.hid (hat.out.below hb2)
        clear ke hb2
        go_wp2
        go_ret3
        rw [hfin.out]
        obtain ⟨ps2, h2⟩ := HA2.out.s
        exact ⟨gs, _, _, ps2, rfl, h2, Nat.le_refl _, HA2.out.b⟩
      | false =>
        have hpos : (stN l (startS t) j).pos ≠ l.length := by
          intro h
          have h1 := HBE.out
          rw [h] at h1
          simp at h1
        have hpl : (stN l (startS t) j).pos < l.length := by have := HGJ.out.1; omega
        have HP := Lib.hid hpos
        have HPL := Lib.hid hpl
        clear hpos hpl
        go_wp2_with fail
        refine ke.mono ?_
        rintro e w2 ⟨rfl, hb2⟩
        have HA2 := Lib.hid (hat.out.below hb2)
        obtain ⟨ps2, hs2⟩ := HA2.out.s
        cases hst : stepP l (stN l (startS t) j) with
        | none =>
          have ks := refstep_none HA2.out.m hs2 (Nat.le_refl _) HGJ.out hn4 HV.out HPL.out hst
          have hfin : Hid (R = .big) := by
            rw [← HR.out, hre.out.goF K hj, show K - j = (K - j - 1) + 1 by omega, goF_big HP.out hst]; exact rfl
          clear ke hb2 hs2 hst
          go_wp2_with fail
          refine ks.mono ?_
          rintro e w3 ⟨rfl, hE⟩
          have HB3 := Lib.hid (HA2.out.b.trans hE.out.2.1)
          clear ks hE
          go_wp2
          go_ret3
          rw [hfin.out]
          exact ⟨_, _, rfl, HB3.out⟩
        | some s' =>
          have ks := refstep_some HA2.out.m hs2 (Nat.le_refl _) HGJ.out hn4 HV.out HPL.out hst
          have HRE := Lib.hid (hre.out.succ HP.out hst)
          have HST := Lib.hid (stN_succ hst)
          clear ke hb2 hs2 hst
          go_wp2_with fail
          refine ks.mono ?_
          rintro e w3 ⟨rfl, hE⟩
          have HA3 := Lib.hid (show RAt w gm gs l pv tv (stN l (startS t) (j + 1)) (.slice (some ⟨w.heap.size, 0, none⟩) 32 32) w3 from ⟨HA2.out.m.kept hE.out.2.1 hE.out.2.2, by rw [HST.out]; exact hE.out.1, HA2.out.b.trans hE.out.2.1⟩)
          clear ks hE
          go_wp2
          go_roundg (K - (j + 1))
          case measure => rw [HGG.out]; omega
          case rel => exact ⟨j + 1, by omega, rfl, by go_num, HRE, HA3⟩
    · have hjk : j = K := by omega
      have hfin : Hid (R = .done (stN l (startS t) j) j ∨ R = .fuel (stN l (startS t) j) j) := by
        show R = .done (stN l (startS t) j) j ∨ R = .fuel (stN l (startS t) j) j
        rw [← HR.out, hre.out.goF K hj, hjk, Nat.sub_self]
        by_cases h : (stN l (startS t) K).pos = l.length
        · exact .inl (goF_done h)
        · exact .inr (goF_zero h)
      clear hjk
      go_wp2
      go_ret3
      obtain ⟨ps2, h2⟩ := hat.out.s
      rcases hfin.out with h | h
      all_goals
        rw [h]
        exact ⟨gs, _, _, ps2, rfl, h2, Nat.le_refl _, hat.out.b⟩

/-- What Run of the reference hands back. -/
def Res.rrun : Res → Tr × Nat × Int
  | .done s n => (getR s.regs 0, n, 0)
  | .fuel _ _ => (.nil, 0, 7)
  | .big => (.nil, 0, 3)
def RRunOut (w : World) (y : Tr) (n : Nat) (er : Int) (e : Ending) (w' : World) : Prop := ∃ q, e = .returned (.tuple #[.pointer q, .int .i64 n, .int .i64 er]) ∧ NodeP 69 w' y (.pointer q) ∧ Below w.heap.size w w'
theorem goF_done_pos {l : List Ins} : ∀ {f n : Nat} {s s' : St} {k : Nat}, goF l f n s = .done s' k → s'.pos = l.length := by
  intro f
  induction f with
  | zero =>
    intro n s s' k h
    by_cases hp : s.pos = l.length
    · rw [goF_done hp] at h; cases h; exact hp
    · rw [goF_zero hp] at h; cases h
  | succ f ih =>
    intro n s s' k h
    by_cases hp : s.pos = l.length
    · rw [goF_done hp] at h; cases h; exact hp
    · cases hs : stepP l s with
      | none => rw [goF_big hp hs] at h; cases h
      | some s1 => rw [goF_step hp hs] at h; exact ih h
theorem goF_fuel_pos {l : List Ins} : ∀ {f n : Nat} {s s' : St} {k : Nat}, goF l f n s = .fuel s' k → s'.pos ≠ l.length := by
  intro f
  induction f with
  | zero =>
    intro n s s' k h
    by_cases hp : s.pos = l.length
    · rw [goF_done hp] at h; cases h
    · rw [goF_zero hp] at h; cases h; exact hp
  | succ f ih =>
    intro n s s' k h
    by_cases hp : s.pos = l.length
    · rw [goF_done hp] at h; cases h
    · cases hs : stepP l s with
      | none => rw [goF_big hp hs] at h; cases h
      | some s1 => rw [goF_step hp hs] at h; exact ih h
/-- Where a run goes on or ends the state is good. -/
theorem goF_good {l : List Ins} (hv : rightAll l = true) : ∀ {f n : Nat} {s : St}, Good l.length s → (∀ s' k, goF l f n s = .done s' k → Good l.length s') ∧ (∀ s' k, goF l f n s = .fuel s' k → Good l.length s') := by
  intro f
  induction f with
  | zero =>
    intro n s hg
    by_cases hp : s.pos = l.length
    · rw [goF_done hp]; exact ⟨(fun s' k h => by cases h; exact hg), (fun s' k h => by cases h)⟩
    · rw [goF_zero hp]; exact ⟨(fun s' k h => by cases h), (fun s' k h => by cases h; exact hg)⟩
  | succ f ih =>
    intro n s hg
    by_cases hp : s.pos = l.length
    · rw [goF_done hp]; exact ⟨(fun s' k h => by cases h; exact hg), (fun s' k h => by cases h)⟩
    · cases hs : stepP l s with
      | none => rw [goF_big hp hs]; exact ⟨(fun s' k h => by cases h), (fun s' k h => by cases h)⟩
      | some s1 => rw [goF_step hp hs]; exact ih (hg.step hv hs)

set_option maxHeartbeats 2000000 in
theorem rrun_any (w : World) (gm : Nat) (l : List Ins) (pv tv : Value) (t : Tr) (x : Value) (K : Nat) (hK : K ≤ 100000000) (hm : RMachP w w.heap.size gm l pv tv) (hx : NodeP 69 w t x) (ht : t.size ≤ 2000000) (hv : rightAll l = true) (hn4 : l.length ≤ 4000) :
    Calls Try.prog 56 #[.pointer (some ⟨gm, 0, none⟩), x, .int .i64 K] w (RRunOut w (goF l K 0 (startS t)).rrun.1 (goF l K 0 (startS t)).rrun.2.1 (goF l K 0 (startS t)).rrun.2.2) := by
  have ka := rafter_any w gm l pv tv t x K hK hm hx ht hv hn4
  have hgood := goF_good hv (f := K) (n := 0) (Good.start l.length t ht)
  obtain ⟨q, rfl⟩ := hx.ptr
  cases hR : goF l K 0 (startS t) with
  | big =>
    rw [hR] at ka
    clear hm hx hR hgood
    go_enter Try.func56, Try.ntmps56
    go_wp2_with fail
    refine ka.mono ?_
    rintro e w1 ⟨p, n, rfl, hb1⟩
    clear ka
    go_wp2
    go_ret3
    exact ⟨_, rfl, rfl, hb1⟩
  | fuel s n =>
    have hp := goF_fuel_pos hR
    rw [hR] at ka
    have hbe : ((s.pos : Int) == (l.length : Int)) = false := by rw [beq_eq_false_iff_ne]; omega
    have HM := Lib.hid hm
    have HBE := Lib.hid hbe
    clear hm hx hR hgood hp hbe
    go_enter Try.func56, Try.ntmps56
    go_wp2_with fail
    refine ka.mono ?_
    rintro e w1 ⟨gs, gr, cp, ps, rfl, hs, hgr, hb1⟩
    have ke := rended_at false w1 _ gm gs l s pv tv _ _ ps (HM.out.kept hb1 (Kept.below hb1)) hs HBE.out
    clear ka hs
    go_wp2_with fail
    refine ke.mono ?_
    rintro e w2 ⟨rfl, hb2⟩
    clear ke
    go_wp2
    go_ret3
    exact ⟨_, rfl, rfl, hb1.trans (hb2.mono hb1.size)⟩
  | done s n =>
    have hp := goF_done_pos hR
    have hg := hgood.1 s n hR
    rw [hR] at ka
    have hbe : ((s.pos : Int) == (l.length : Int)) = true := by rw [beq_iff_eq]; omega
    have HM := Lib.hid hm
    have HBE := Lib.hid hbe
    have HG := Lib.hid hg
    clear hm hx hR hgood hp hbe hg
    go_enter Try.func56, Try.ntmps56
    go_wp2_with fail
    refine ka.mono ?_
    rintro e w1 ⟨gs, gr, cp, ps, rfl, hs, hgr, hb1⟩
    have ke := rended_at true w1 _ gm gs l s pv tv _ _ ps (HM.out.kept hb1 (Kept.below hb1)) hs HBE.out
    have HS := Lib.hid hs
    clear ka hs
    go_wp2_with fail
    refine ke.mono ?_
    rintro e w2 ⟨rfl, hb2⟩
    have hs2 := HS.out.kept hb2
    rw [← HG.out.2.1] at hs2
    obtain ⟨d0, d1, df, dr, drf⟩ := hs2.cells
    rw [HG.out.2.1] at d1
    obtain ⟨t0, ht0⟩ : ∃ t, s.regs[0]? = some t := ⟨_, List.getElem?_eq_getElem (by rw [HG.out.2.1]; omega)⟩
    obtain ⟨q0, cq0, nq0⟩ := dr 0 t0 ht0
    have HN := Lib.hid nq0
    have HT := Lib.hid ht0
    clear ke hs2 dr drf df nq0 ht0
    go_wp2
    go_ret3
    refine ⟨q0, rfl, ?_, hb1.trans (hb2.mono hb1.size)⟩
    have : getR s.regs 0 = t0 := getR_nat (r := 0) HT.out
    show NodeP _ _ (getR s.regs 0) _
    rw [this]; exact HN.out

end Go.Proofs.Ytaiomcjopgnfpaa

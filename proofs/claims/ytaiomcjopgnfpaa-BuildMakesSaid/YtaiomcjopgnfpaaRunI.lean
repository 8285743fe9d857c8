/- The walk of the iterator of a run's states. -/
import Derived.Test.YtaiomcjopgnfpaaRunT
import Derived.Test.YtaiomcjopgnfpaaRunG
import Derived.Test.YtaiomcjopgnfpaaRFunc
import Derived.RangeFuncNested
import Derived.RangeFuncBound
import Derived.RangeFuncCalls
import Derived.RangeFuncLeaves
import Derived.Shelf.Abstract
import Derived.Shelf.RegionOpen
import Derived.WalkKit
import Derived.OwnWalkIn
import Derived.TacticsInMore
import Derived.LoopNIn
import Derived.LoopIn
namespace Go.Proofs.Ytaiomcjopgnfpaa
open Go.RowKit Go.Shelf
attribute [local go_sem] Oper.semAt_some

theorem els_keeps {g : Nat} {A B : World} {cs : Array Value} {T : Nat} {fr : Nat × Nat} (h : Els g A B) (hc : A.heap[g]? = some (.cells cs T fr)) : KeepsOthers A B :=
  ⟨h.size, fun k o hk ho => by
    by_cases e : k = g
    · subst e; rw [hc] at hk; cases hk; cases ho
    · exact (h.block k (Array.getElem?_eq_some_iff.1 hk).1 e).trans hk⟩
theorem MachP.grown {W W' : World} {row : Option Nat} {B g : Nat} {l : List Ins} {s : St} {pv sv : Value} {ps : List Value} (h : MachP W B g l s pv sv ps) (hg : W.grownBy W' row) (hr : ∀ r, row = some r → ∃ o : Obj, W.heap[r]? = some o ∧ o.isCells = false) : MachP W' B g l s pv sv ps := by
  have K : ∀ T, Kept T W W' := fun T k cs hk => (grownBy_keeps_cells hg hr hk rfl).trans hk
  obtain ⟨xs, h1, h2⟩ := h.sets
  refine ⟨K _ _ _ h.blk, h.regs.kept (K _), ⟨h.prog.1, h.prog.2.1, ?_⟩, h.le, xs, h1.kept (K _), own_kept h2 (K _)⟩
  rcases h.prog.2.2 with h3 | ⟨g', off, cap, hv, hlt, hc⟩
  · exact .inl h3
  · exact .inr ⟨g', off, cap, hv, hlt, fun j x hj k u hk => cell_kept (hc j x hj k u hk) hg hr⟩

/-- The machine is in its k-th state; what the caller owns stands. -/
def AtK (l : List Ins) (s0 : St) (B g mb : Nat) (pv sv : Value) (C : World → Prop) (k : Nat) (W : World) : Prop :=
  Reach l s0 k ∧ (∃ ps, MachP W B g l (stN l s0 k) pv sv ps) ∧ W.cell? ⟨mb, 0, none⟩ = some (.pointer (some ⟨g, 0, none⟩)) ∧ C W
def RI (fuel : Nat) (l : List Ins) (s0 : St) (B g mb : Nat) (pv sv : Value) (C : World → Prop) (x : Nat × Bool) (W : World) : Prop :=
  x.1 ≤ fuel ∧ AtK l s0 B g mb pv sv C x.1 W ∧ (x.2 = true → x.1 < fuel ∧ (stN l s0 x.1).pos ≠ l.length ∧ stepP l (stN l s0 x.1) = none)
def RI' (fuel : Nat) (l : List Ins) (s0 : St) (B g mb : Nat) (pv sv : Value) (C : World → Prop) (x : Nat × Bool) (W : World) : Prop :=
  x.1 < fuel ∧ x.2 = false ∧ (stN l s0 x.1).pos ≠ l.length ∧ AtK l s0 B g mb pv sv C x.1 W
theorem AtK.els {l : List Ins} {s0 : St} {B g mb : Nat} {pv sv : Value} {C : World → Prop} {k : Nat} {W W' : World} (h : AtK l s0 B g mb pv sv C k W) (hC : ∀ A B, Els g A B → C A → C B) (hb : Below W.heap.size W W') : AtK l s0 B g mb pv sv C k W' := by
  obtain ⟨h1, ⟨ps, h2⟩, h3, h4⟩ := h
  refine ⟨h1, ⟨ps, h2.kept hb⟩, ?_, hC _ _ (Els.of_below hb) h4⟩
  have : mb < W.heap.size := by
    obtain ⟨o, ho, _⟩ := cells_of_cell h3
    exact (Array.getElem?_eq_some_iff.1 ho).1
  exact (hb.cell (p := ⟨mb, 0, none⟩) this).trans h3

theorem ended_at (b : Bool) (w : World) (B g : Nat) (l : List Ins) (s : St) (pv sv : Value) (ps : List Value) (hm : MachP w B g l s pv sv ps) (hg : Good l.length s) (hb : ((s.pos : Int) == (l.length : Int)) = b) :
    Calls Try.prog 84 #[.pointer (some ⟨g, 0, none⟩)] w fun e w' => e = .returned (.bool b) ∧ Below w.heap.size w w' := by
  refine (ended_any w B g l s pv sv ps hm hg).mono ?_
  rintro e w' ⟨rfl, nq, rfl⟩
  exact ⟨by rw [hb], below_drewN (Below.refl _ _) nq⟩

theorem step_at_some {l : List Ins} {s s' : St} (w : World) (B g : Nat) (pv sv : Value) (ps : List Value) (hm : MachP w B g l s pv sv ps) (hg : Good l.length s) (hv : rightAll l = true) (hp : s.pos < l.length) (hn4 : l.length ≤ 4000) (hs : stepP l s = some s') :
    Calls Try.prog 116 #[.pointer (some ⟨g, 0, none⟩)] w fun e w' => e = .returned (.bool true) ∧ Hid ((∃ ps', MachP w' B g l s' pv sv ps') ∧ Els g w w') := by
  refine (step_any w B g l s pv sv ps hm hg hv hp hn4).mono ?_
  intro e w' h
  unfold StepOut at h
  rw [hs] at h
  obtain ⟨ps', h1, h2, h3⟩ := h
  exact ⟨h1, ⟨ps', h2⟩, h3⟩
theorem step_at_none {l : List Ins} {s : St} (w : World) (B g : Nat) (pv sv : Value) (ps : List Value) (hm : MachP w B g l s pv sv ps) (hg : Good l.length s) (hv : rightAll l = true) (hp : s.pos < l.length) (hn4 : l.length ≤ 4000) (hs : stepP l s = none) :
    Calls Try.prog 116 #[.pointer (some ⟨g, 0, none⟩)] w fun e w' => e = .returned (.bool false) ∧ Hid ((∃ ps', MachP w' B g l s pv sv ps') ∧ Els g w w') := by
  refine (step_any w B g l s pv sv ps hm hg hv hp hn4).mono ?_
  intro e w' h
  unfold StepOut at h
  rw [hs] at h
  exact ⟨h.1, ⟨ps, h.2.1⟩, h.2.2⟩

set_option maxHeartbeats 1000000 in
theorem states_any (p : Option Addr) (w : World) :
    Calls Try.prog 83 #[.pointer p] w fun e w' => e = .returned (.func (.func 115) #[] #[.pointer (some ⟨w.heap.size, 0, none⟩)]) ∧ w' = w.alloc (.cells #[.pointer p] 94) := by
  go_enter Try.func83, Try.ntmps83
  go_wp2
  go_ret
  exact ⟨rfl, rfl⟩

set_option maxRecDepth 100000 in
set_option maxHeartbeats 2000000 in
theorem states1_ends (n : Nat) (fuel : Nat) (hfuel : fuel ≤ 10000000) (l : List Ins) (s0 : St) (B g mb : Nat) (hmb : mb ≠ g) (pv sv : Value) (C : World → Prop) (hC : ∀ A B, Els g A B → C A → C B) (hG : Good l.length s0) (hv : rightAll l = true) (hn4 : l.length ≤ 4000) :
    SeqEnds Fence.wide n Try.prog 115 #[.pointer (some ⟨mb, 0, none⟩)] (fun x : Nat × Bool => #[.int .i64 x.1, .bool x.2]) (AtK l s0 B g mb pv sv C 0) (RI fuel l s0 B g mb pv sv C) (RI' fuel l s0 B g mb pv sv C) := by
  intro lr Bk Bx hBk hY W h0 hk0
  have HY := Lib.hid hY
  have HC := Lib.hid hC
  have HBk := Lib.hid hBk
  have HG := Lib.hid hG
  have HV := Lib.hid hv
  clear hY hC hBk hG hv
  refine callsIn_of_wp Try.func115 rfl trivial ?_ rfl
  simp only [Try.ntmps115, List.size_toArray, List.length_cons, List.length_nil, Nat.reduceAdd, Nat.reduceSub, Array.replicate_succ, Array.replicate_zero, List.push_toArray, List.append_toArray, List.nil_append, List.cons_append]
  gi_wp2
  gi_loopw [3] (fun p wr => ∃ k : Nat, p = .int .i64 k ∧ k ≤ fuel ∧ AtK l s0 B g mb pv sv C k wr ∧ Hid (Bk wr)) (fun p _ => fuel - (intOf p).toNat)
  case atStart => exact ⟨0, rfl, by omega, h0, hk0⟩
  case round =>
    obtain ⟨k, rfl, hk, hat, hbk⟩ := hrel
    have hg := HG.out
    have hgk := hat.1.good HV.out HG.out
    have hR0 := Lib.hid hat.1
    obtain ⟨ps, hm⟩ := hat.2.1
    have c0 := hat.2.2.1
    have HAT := Lib.hid hat
    clear hat
    cases hp : ((stN l s0 k).pos : Int) == (l.length : Int) with
    | true =>
      have ke := ended_at _ wr B g l _ pv sv ps hm hgk hp
      have hpos : (stN l s0 k).pos = l.length := by have := eq_of_beq hp; omega
      have HP := Lib.hid hpos
      clear hp hpos
      gi_wp2_with fail
      refine ⟨trivial, fun h => (by cases h), (callsIn_wide.2 ke).mono ?_⟩
      rintro e w1 ⟨rfl, hb1⟩
      have hat1 := HAT.out.els HC.out hb1
      obtain ⟨fn, tmps, assign, body, hy, hR⟩ := HY.out (k, false) w1 ⟨hk, hat1, by simp⟩ (HBk.out _ _ (els_keeps (Els.of_below hb1) hm.blk) hbk.out)
      clear ke hm hat1
      gi_wp2
      refine ⟨fun h => (by cases h), hR.mono ?_⟩
      rintro e W3 (⟨rfl, hI, hB3⟩ | ⟨rfl, hx3⟩)
      · exact absurd HP.out hI.2.2.1
      · gi_wp2
        refine bodyPost_ret (results_none rfl _ _ _) rfl ?_
        exact ⟨⟨_, rfl⟩, hx3⟩
    | false =>
      have ke := ended_at _ wr B g l _ pv sv ps hm hgk hp
      have hpos : (stN l s0 k).pos ≠ l.length := by
        intro h
        rw [h] at hp
        simp at hp
      have hpl : (stN l s0 k).pos < l.length := by have := hgk.1; omega
      have HP := Lib.hid hpos
      have HG2 := Lib.hid hgk
      clear hp hpos hgk hg
      gi_wp2_with fail
      refine ⟨trivial, fun h => (by cases h), (callsIn_wide.2 ke).mono ?_⟩
      rintro e w1 ⟨rfl, hb1⟩
      have hat1 := HAT.out.els HC.out hb1
      obtain ⟨fn, tmps, assign, body, hy, hR⟩ := HY.out (k, false) w1 ⟨hk, hat1, by simp⟩ (HBk.out _ _ (els_keeps (Els.of_below hb1) hm.blk) hbk.out)
      clear ke hm hat1 c0
      gi_wp2
      refine ⟨fun h => (by cases h), hR.mono ?_⟩
      rintro e W3 (⟨rfl, hI, hB3⟩ | ⟨rfl, hx3⟩)
      · obtain ⟨hlt, _, _, hat3⟩ := hI
        obtain ⟨ps3, hm3⟩ := hat3.2.1
        have c3 := hat3.2.2.1
        have HAT3 := Lib.hid hat3
        have HB3 := Lib.hid hB3
        clear hy hR hat3 hB3
        cases hs : stepP l (stN l s0 k) with
        | some s' =>
          have ks := step_at_some W3 B g pv sv ps3 hm3 HG2.out HV.out hpl hn4 hs
          have HM3 := Lib.hid hm3
          have HS := Lib.hid hs
          clear hs hm3
          gi_wp2_with fail
          refine ⟨trivial, fun h => (by cases h), (callsIn_wide.2 ks).mono ?_⟩
          rintro e w4 ⟨rfl, hE⟩
          clear ks
          have hnew : Hid (AtK l s0 B g mb pv sv C (k + 1) w4 ∧ Bk w4) := by
            obtain ⟨⟨ps', hm'⟩, hels⟩ := hE.out
            refine ⟨⟨hR0.out.succ HP.out HS.out, ⟨ps', by rw [stN_succ HS.out]; exact hm'⟩, ?_, HC.out _ _ hels HAT3.out.2.2.2⟩, HBk.out _ _ (els_keeps hels HM3.out.blk) HB3.out⟩
            have hmb' : mb < W3.heap.size := by
              obtain ⟨o, ho, _⟩ := cells_of_cell c3
              exact (Array.getElem?_eq_some_iff.1 ho).1
            exact (World.cell?_of_block (hels.block mb hmb' hmb)).trans c3
          clear hE c3
          gi_wp2
          go_roundw
          case rel => exact ⟨k + 1, by go_num, by omega, hnew.out.1, hnew.out.2⟩
          case measure => simp [intOf]; omega
        | none =>
          have ks := step_at_none W3 B g pv sv ps3 hm3 HG2.out HV.out hpl hn4 hs
          have HM3 := Lib.hid hm3
          have HS := Lib.hid hs
          clear hs hm3
          gi_wp2_with fail
          refine ⟨trivial, fun h => (by cases h), (callsIn_wide.2 ks).mono ?_⟩
          rintro e w4 ⟨rfl, hE⟩
          clear ks
          have hnew : AtK l s0 B g mb pv sv C k w4 ∧ Bk w4 := by
            obtain ⟨⟨ps', hm'⟩, hels⟩ := hE.out
            refine ⟨⟨hR0.out, ⟨ps', hm'⟩, ?_, HC.out _ _ hels HAT3.out.2.2.2⟩, HBk.out _ _ (els_keeps hels HM3.out.blk) HB3.out⟩
            have hmb' : mb < W3.heap.size := by
              obtain ⟨o, ho, _⟩ := cells_of_cell c3
              exact (Array.getElem?_eq_some_iff.1 ho).1
            exact (World.cell?_of_block (hels.block mb hmb' hmb)).trans c3
          obtain ⟨fn, tmps, assign, body, hy, hR⟩ := HY.out (k, true) w4 ⟨hk, hnew.1, fun _ => ⟨hlt, HP.out, HS.out⟩⟩ hnew.2
          clear hE c3 hnew
          gi_wp2
          refine ⟨fun h => (by cases h), hR.mono ?_⟩
          rintro e W5 (⟨rfl, hI5, _⟩ | ⟨rfl, hx5⟩)
          · exact absurd hI5.2.1 (by simp)
          · gi_wp2
            refine bodyPost_ret (results_none rfl _ _ _) rfl ?_
            exact ⟨⟨_, rfl⟩, hx5⟩
      · gi_wp2
        refine bodyPost_ret (results_none rfl _ _ _) rfl ?_
        exact ⟨⟨_, rfl⟩, hx3⟩

end Go.Proofs.Ytaiomcjopgnfpaa

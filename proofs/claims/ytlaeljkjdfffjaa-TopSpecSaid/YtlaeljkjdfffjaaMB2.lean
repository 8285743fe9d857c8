/- The walk of the iterator of a run's states. The walk of run.Run. The walk of run.After. Plain: the programs of the laws of narcissuslaw03. And programs that are written out. The walks of narcissuslaw03: awake and doubles. The walks of the laws of narcissuslaw03: RunRuns. The walks of the laws of narcissuslaw03: RunMore. The walks of the laws of narcissuslaw03: RunAfters. Contracts at a world, for walks that go from call to call. How many registers a program uses: code.Regs, the reference's Regs. code.number and how the fields of an instruction are written. code.fields. code.Code. Programs out of programs: the makers of single instructions, the cleaning. Programs out of programs: a program behind its cleaning. slices.Grow at api.Program, from the shelf. Lists of programs in memory; build's check, done, leap; slices.Concat. append, said of programs. Programs out of programs: the reference's Pair, If, While. Programs out of programs: build's Pair, If, While. Programs out of programs: Const, Then. Programs out of programs: build.Then. append to a row while later rows live. Programs out of programs: build.While. Plain: a program that stands within another one; which programs are valid. -/
import Derived.Test.YtlaeljkjdfffjaaMB1
import Derived.RangeFuncNested
import Derived.RangeFuncBound
import Derived.RangeFuncCalls
import Derived.RangeFuncLeaves
import Derived.Shelf.Abstract
import Derived.Shelf.RegionOpen
import Derived.WalkKit
import Derived.OwnWalkIn
import Derived.TacticsInMore
import Derived.LoopNIn
import Derived.LoopIn
import Derived.Test.YtlaeljkjdfffjaaMB0
import Derived.Laws.EntriesVeiled
import Derived.Shelf.Spec.SlicesGrow
namespace Go.Proofs.Ytlaeljkjdfffjaa
open Go.RowKit Go.Shelf
attribute [local go_sem] Oper.semAt_some

theorem els_keeps {g : Nat} {A B : World} {cs : Array Value} {T : Nat} {fr : Nat × Nat} (h : Els g A B) (hc : A.heap[g]? = some (.cells cs T fr)) : KeepsOthers A B :=
  ⟨h.size, fun k o hk ho => by
    by_cases e : k = g
    · subst e; rw [hc] at hk; cases hk; cases ho
    · exact (h.block k (Array.getElem?_eq_some_iff.1 hk).1 e).trans hk⟩
theorem MachP.grown {W W' : World} {row : Option Nat} {B g : Nat} {l : List Ins} {s : St} {pv sv : Value} {ps : List Value} (h : MachP W B g l s pv sv ps) (hg : W.grownBy W' row) (hr : ∀ r, row = some r → ∃ o : Obj, W.heap[r]? = some o ∧ o.isCells = false) : MachP W' B g l s pv sv ps := by
  have K : ∀ T, Kept T W W' := fun T k cs hk => (grownBy_keeps_cells hg hr hk rfl).trans hk
  obtain ⟨xs, h1, h2⟩ := h.sets
  refine ⟨K _ _ _ h.blk, h.regs.kept (K _), ⟨h.prog.1, h.prog.2.1, ?_⟩, h.le, xs, h1.kept (K _), own_kept h2 (K _)⟩
  rcases h.prog.2.2 with h3 | ⟨g', off, cap, hv, hlt, hc⟩
  · exact .inl h3
  · exact .inr ⟨g', off, cap, hv, hlt, fun j x hj k u hk => cell_kept (hc j x hj k u hk) hg hr⟩

/-- The machine is in its k-th state; what the caller owns stands. -/
def AtK (l : List Ins) (s0 : St) (B g mb : Nat) (pv sv : Value) (C : World → Prop) (k : Nat) (W : World) : Prop :=
  Reach l s0 k ∧ (∃ ps, MachP W B g l (stN l s0 k) pv sv ps) ∧ W.cell? ⟨mb, 0, none⟩ = some (.pointer (some ⟨g, 0, none⟩)) ∧ C W
def RI (fuel : Nat) (l : List Ins) (s0 : St) (B g mb : Nat) (pv sv : Value) (C : World → Prop) (x : Nat × Bool) (W : World) : Prop :=
  x.1 ≤ fuel ∧ AtK l s0 B g mb pv sv C x.1 W ∧ (x.2 = true → x.1 < fuel ∧ (stN l s0 x.1).pos ≠ l.length ∧ stepP l (stN l s0 x.1) = none)
def RI' (fuel : Nat) (l : List Ins) (s0 : St) (B g mb : Nat) (pv sv : Value) (C : World → Prop) (x : Nat × Bool) (W : World) : Prop :=
  x.1 < fuel ∧ x.2 = false ∧ (stN l s0 x.1).pos ≠ l.length ∧ AtK l s0 B g mb pv sv C x.1 W
theorem AtK.els {l : List Ins} {s0 : St} {B g mb : Nat} {pv sv : Value} {C : World → Prop} {k : Nat} {W W' : World} (h : AtK l s0 B g mb pv sv C k W) (hC : ∀ A B, Els g A B → C A → C B) (hb : Below W.heap.size W W') : AtK l s0 B g mb pv sv C k W' := by
  obtain ⟨h1, ⟨ps, h2⟩, h3, h4⟩ := h
  refine ⟨h1, ⟨ps, h2.kept hb⟩, ?_, hC _ _ (Els.of_below hb) h4⟩
  have : mb < W.heap.size := by
    obtain ⟨o, ho, _⟩ := cells_of_cell h3
    exact (Array.getElem?_eq_some_iff.1 ho).1
  exact (hb.cell (p := ⟨mb, 0, none⟩) this).trans h3

theorem ended_at (b : Bool) (w : World) (B g : Nat) (l : List Ins) (s : St) (pv sv : Value) (ps : List Value) (hm : MachP w B g l s pv sv ps) (hg : Good l.length s) (hb : ((s.pos : Int) == (l.length : Int)) = b) :
    Calls Try.prog 129 #[.pointer (some ⟨g, 0, none⟩)] w fun e w' => e = .returned (.bool b) ∧ Below w.heap.size w w' := by
  refine (ended_any w B g l s pv sv ps hm hg).mono ?_
  rintro e w' ⟨rfl, nq, rfl⟩
  exact ⟨by rw [hb], below_drewN (Below.refl _ _) nq⟩

theorem step_at_some {l : List Ins} {s s' : St} (w : World) (B g : Nat) (pv sv : Value) (ps : List Value) (hm : MachP w B g l s pv sv ps) (hg : Good l.length s) (hv : rightAll l = true) (hp : s.pos < l.length) (hn4 : l.length ≤ 4000) (hs : stepP l s = some s') :
    Calls Try.prog 153 #[.pointer (some ⟨g, 0, none⟩)] w fun e w' => e = .returned (.bool true) ∧ Hid ((∃ ps', MachP w' B g l s' pv sv ps') ∧ Els g w w') := by
  refine (step_any w B g l s pv sv ps hm hg hv hp hn4).mono ?_
  intro e w' h
  unfold StepOut at h
  rw [hs] at h
  obtain ⟨ps', h1, h2, h3⟩ := h
  exact ⟨h1, ⟨ps', h2⟩, h3⟩
theorem step_at_none {l : List Ins} {s : St} (w : World) (B g : Nat) (pv sv : Value) (ps : List Value) (hm : MachP w B g l s pv sv ps) (hg : Good l.length s) (hv : rightAll l = true) (hp : s.pos < l.length) (hn4 : l.length ≤ 4000) (hs : stepP l s = none) :
    Calls Try.prog 153 #[.pointer (some ⟨g, 0, none⟩)] w fun e w' => e = .returned (.bool false) ∧ Hid ((∃ ps', MachP w' B g l s pv sv ps') ∧ Els g w w') := by
  refine (step_any w B g l s pv sv ps hm hg hv hp hn4).mono ?_
  intro e w' h
  unfold StepOut at h
  rw [hs] at h
  exact ⟨h.1, ⟨ps, h.2.1⟩, h.2.2⟩

set_option maxHeartbeats 1000000 in
theorem states_any (p : Option Addr) (w : World) :
    Calls Try.prog 128 #[.pointer p] w fun e w' => e = .returned (.func (.func 152) #[] #[.pointer (some ⟨w.heap.size, 0, none⟩)]) ∧ w' = w.alloc (.cells #[.pointer p] 162) := by
  go_enter Try.func128, Try.ntmps128
  go_wp2
  go_ret
  exact ⟨rfl, rfl⟩

set_option maxRecDepth 100000 in
set_option maxHeartbeats 2000000 in
theorem states1_ends (n : Nat) (fuel : Nat) (hfuel : fuel ≤ 10000000) (l : List Ins) (s0 : St) (B g mb : Nat) (hmb : mb ≠ g) (pv sv : Value) (C : World → Prop) (hC : ∀ A B, Els g A B → C A → C B) (hG : Good l.length s0) (hv : rightAll l = true) (hn4 : l.length ≤ 4000) :
    SeqEnds Fence.wide n Try.prog 152 #[.pointer (some ⟨mb, 0, none⟩)] (fun x : Nat × Bool => #[.int .i64 x.1, .bool x.2]) (AtK l s0 B g mb pv sv C 0) (RI fuel l s0 B g mb pv sv C) (RI' fuel l s0 B g mb pv sv C) := by
  intro lr Bk Bx hBk hY W h0 hk0
  have HY := Lib.hid hY
  have HC := Lib.hid hC
  have HBk := Lib.hid hBk
  have HG := Lib.hid hG
  have HV := Lib.hid hv
  clear hY hC hBk hG hv
  refine callsIn_of_wp Try.func152 rfl trivial ?_ rfl
  simp only [Try.ntmps152, List.size_toArray, List.length_cons, List.length_nil, Nat.reduceAdd, Nat.reduceSub, Array.replicate_succ, Array.replicate_zero, List.push_toArray, List.append_toArray, List.nil_append, List.cons_append]
  gi_wp2
  gi_loopw [3] (fun p wr => ∃ k : Nat, p = .int .i64 k ∧ k ≤ fuel ∧ AtK l s0 B g mb pv sv C k wr ∧ Hid (Bk wr)) (fun p _ => fuel - (intOf p).toNat)
  case atStart => exact ⟨0, rfl, by omega, h0, hk0⟩
  case round =>
    obtain ⟨k, rfl, hk, hat, hbk⟩ := hrel
    have hg := HG.out
    have hgk := hat.1.good HV.out HG.out
    have hR0 := Lib.hid hat.1
    obtain ⟨ps, hm⟩ := hat.2.1
    have c0 := hat.2.2.1
    have HAT := Lib.hid hat
    clear hat
    cases hp : ((stN l s0 k).pos : Int) == (l.length : Int) with
    | true =>
      have ke := ended_at _ wr B g l _ pv sv ps hm hgk hp
      have hpos : (stN l s0 k).pos = l.length := by have := eq_of_beq hp; omega
      have HP := Lib.hid hpos
      clear hp hpos
      gi_wp2_with fail
      refine ⟨trivial, fun h => (by cases h), (callsIn_wide.2 ke).mono ?_⟩
      rintro e w1 ⟨rfl, hb1⟩
      have hat1 := HAT.out.els HC.out hb1
      obtain ⟨fn, tmps, assign, body, hy, hR⟩ := HY.out (k, false) w1 ⟨hk, hat1, by simp⟩ (HBk.out _ _ (els_keeps (Els.of_below hb1) hm.blk) hbk.out)
      clear ke hm hat1
      gi_wp2
      refine ⟨fun h => (by cases h), hR.mono ?_⟩
      rintro e W3 (⟨rfl, hI, hB3⟩ | ⟨rfl, hx3⟩)
      · exact absurd HP.out hI.2.2.1
      · gi_wp2
        refine bodyPost_ret (results_none rfl _ _ _) rfl ?_
        exact ⟨⟨_, rfl⟩, hx3⟩
    | false =>
      have ke := ended_at _ wr B g l _ pv sv ps hm hgk hp
      have hpos : (stN l s0 k).pos ≠ l.length := by
        intro h
        rw [h] at hp
        simp at hp
      have hpl : (stN l s0 k).pos < l.length := by have := hgk.1; omega
      have HP := Lib.hid hpos
      have HG2 := Lib.hid hgk
      clear hp hpos hgk hg
      gi_wp2_with fail
      refine ⟨trivial, fun h => (by cases h), (callsIn_wide.2 ke).mono ?_⟩
      rintro e w1 ⟨rfl, hb1⟩
      have hat1 := HAT.out.els HC.out hb1
      obtain ⟨fn, tmps, assign, body, hy, hR⟩ := HY.out (k, false) w1 ⟨hk, hat1, by simp⟩ (HBk.out _ _ (els_keeps (Els.of_below hb1) hm.blk) hbk.out)
      clear ke hm hat1 c0
      gi_wp2
      refine ⟨fun h => (by cases h), hR.mono ?_⟩
      rintro e W3 (⟨rfl, hI, hB3⟩ | ⟨rfl, hx3⟩)
      · obtain ⟨hlt, _, _, hat3⟩ := hI
        obtain ⟨ps3, hm3⟩ := hat3.2.1
        have c3 := hat3.2.2.1
        have HAT3 := Lib.hid hat3
        have HB3 := Lib.hid hB3
        clear hy hR hat3 hB3
        cases hs : stepP l (stN l s0 k) with
        | some s' =>
          have ks := step_at_some W3 B g pv sv ps3 hm3 HG2.out HV.out hpl hn4 hs
          have HM3 := Lib.hid hm3
          have HS := Lib.hid hs
          clear hs hm3
          gi_wp2_with fail
          refine ⟨trivial, fun h => (by cases h), (callsIn_wide.2 ks).mono ?_⟩
          rintro e w4 ⟨rfl, hE⟩
          clear ks
          have hnew : Hid (AtK l s0 B g mb pv sv C (k + 1) w4 ∧ Bk w4) := by
            obtain ⟨⟨ps', hm'⟩, hels⟩ := hE.out
            refine ⟨⟨hR0.out.succ HP.out HS.out, ⟨ps', by rw [stN_succ HS.out]; exact hm'⟩, ?_, HC.out _ _ hels HAT3.out.2.2.2⟩, HBk.out _ _ (els_keeps hels HM3.out.blk) HB3.out⟩
            have hmb' : mb < W3.heap.size := by
              obtain ⟨o, ho, _⟩ := cells_of_cell c3
              exact (Array.getElem?_eq_some_iff.1 ho).1
            exact (World.cell?_of_block (hels.block mb hmb' hmb)).trans c3
          clear hE c3
          gi_wp2
          go_roundw
          case rel => exact ⟨k + 1, by go_num, by omega, hnew.out.1, hnew.out.2⟩
          case measure => simp [intOf]; omega
        | none =>
          have ks := step_at_none W3 B g pv sv ps3 hm3 HG2.out HV.out hpl hn4 hs
          have HM3 := Lib.hid hm3
          have HS := Lib.hid hs
          clear hs hm3
          gi_wp2_with fail
          refine ⟨trivial, fun h => (by cases h), (callsIn_wide.2 ks).mono ?_⟩
          rintro e w4 ⟨rfl, hE⟩
          clear ks
          have hnew : AtK l s0 B g mb pv sv C k w4 ∧ Bk w4 := by
            obtain ⟨⟨ps', hm'⟩, hels⟩ := hE.out
            refine ⟨⟨hR0.out, ⟨ps', hm'⟩, ?_, HC.out _ _ hels HAT3.out.2.2.2⟩, HBk.out _ _ (els_keeps hels HM3.out.blk) HB3.out⟩
            have hmb' : mb < W3.heap.size := by
              obtain ⟨o, ho, _⟩ := cells_of_cell c3
              exact (Array.getElem?_eq_some_iff.1 ho).1
            exact (World.cell?_of_block (hels.block mb hmb' hmb)).trans c3
          obtain ⟨fn, tmps, assign, body, hy, hR⟩ := HY.out (k, true) w4 ⟨hk, hnew.1, fun _ => ⟨hlt, HP.out, HS.out⟩⟩ hnew.2
          clear hE c3 hnew
          gi_wp2
          refine ⟨fun h => (by cases h), hR.mono ?_⟩
          rintro e W5 (⟨rfl, hI5, _⟩ | ⟨rfl, hx5⟩)
          · exact absurd hI5.2.1 (by simp)
          · gi_wp2
            refine bodyPost_ret (results_none rfl _ _ _) rfl ?_
            exact ⟨⟨_, rfl⟩, hx5⟩
      · gi_wp2
        refine bodyPost_ret (results_none rfl _ _ _) rfl ?_
        exact ⟨⟨_, rfl⟩, hx3⟩

end Go.Proofs.Ytlaeljkjdfffjaa

namespace Go.Proofs.Ytlaeljkjdfffjaa
open Go.RowKit Go.Shelf
attribute [local go_sem] Oper.semAt_some

/-- What Run hands back. -/
def RunOut (w : World) (y : ByteArray) (k : Nat) (er : Int) (e : Ending) (w' : World) : Prop := e = .returned (.tuple #[.string y, .int .i64 k, .int .i64 er]) ∧ Below w.heap.size w w'

theorem els_blk {g b : Nat} {A B : World} {o : Obj} (h : Els g A B) (hne : b ≠ g) (hc : A.heap[b]? = some o) : B.heap[b]? = some o :=
  (h.block b (Array.getElem?_eq_some_iff.1 hc).1 hne).trans hc
theorem below_blk {n b : Nat} {A B : World} {o : Obj} (h : Below n A B) (hc : A.heap[b]? = some o) (hn : b < n) : B.heap[b]? = some o := (h.block b hn).trans hc
theorem grown_blk {b : Nat} {A B : World} {row : Option Nat} {cs : Array Value} {T : Nat} {fr : Nat × Nat} (hg : A.grownBy B row) (hr : ∀ r, row = some r → ∃ o : Obj, A.heap[r]? = some o ∧ o.isCells = false) (hc : A.heap[b]? = some (.cells cs T fr)) : B.heap[b]? = some (.cells cs T fr) :=
  (grownBy_keeps_cells hg hr hc rfl).trans hc

/-- What Run's own variables hold. -/
structure RunC (w : World) (bm : Nat) (mv : Value) (fuel : Int) (y : ByteArray) (k er : Int) (W : World) : Prop where
  f : W.heap[w.heap.size]? = some (.cells #[.int .i64 fuel] 3 (0, 0))
  y : W.heap[w.heap.size + 1]? = some (.cells #[.string y] 9 (0, 0))
  k : W.heap[w.heap.size + 1 + 1]? = some (.cells #[.int .i64 k] 3 (0, 0))
  e : W.heap[w.heap.size + 1 + 1 + 1]? = some (.cells #[.int .i64 er] 50 (0, 0))
  m : W.heap[bm]? = some (.cells #[mv] 162 (0, 0))
  b : Below w.heap.size w W
theorem RunC.els {w : World} {bm : Nat} {mv : Value} {fuel : Int} {y : ByteArray} {k er : Int} {A B : World} (h : RunC w bm mv fuel y k er A) {g : Nat} (hE : Els g A B) (hg : w.heap.size + 1 + 1 + 1 < g) (hm : bm ≠ g) : RunC w bm mv fuel y k er B :=
  ⟨els_blk hE (by omega) h.f, els_blk hE (by omega) h.y, els_blk hE (by omega) h.k, els_blk hE (by omega) h.e, els_blk hE hm h.m, h.b.trans (hE.below (by omega) h.b.size)⟩
theorem RunC.grown {w : World} {bm : Nat} {mv : Value} {fuel : Int} {y : ByteArray} {k er : Int} {A B : World} {row : Option Nat} (h : RunC w bm mv fuel y k er A) (hg : A.grownBy B row) (hr : ∀ r, row = some r → w.heap.size ≤ r ∧ ∃ o : Obj, A.heap[r]? = some o ∧ o.isCells = false) : RunC w bm mv fuel y k er B :=
  have hr' := fun r e => (hr r e).2
  ⟨grown_blk hg hr' h.f, grown_blk hg hr' h.y, grown_blk hg hr' h.k, grown_blk hg hr' h.e, grown_blk hg hr' h.m, h.b.grown hg h.b.size (fun k e => (hr k e).1)⟩

theorem RunC.put {w W : World} {bm : Nat} {mv : Value} {fuel : Int} {y0 : ByteArray} {k0 e0 : Int} (h : RunC w bm mv fuel y0 k0 e0 W) (hbm : w.heap.size + 1 + 1 + 1 < bm) (y : ByteArray) (k er : Int) :
    KeepsOthers W (((W.setCell ⟨w.heap.size + 1, 0, none⟩ (.string y)).setCell ⟨w.heap.size + 1 + 1, 0, none⟩ (.int .i64 k)).setCell ⟨w.heap.size + 1 + 1 + 1, 0, none⟩ (.int .i64 er)) ∧
    RunC w bm mv fuel y k er (((W.setCell ⟨w.heap.size + 1, 0, none⟩ (.string y)).setCell ⟨w.heap.size + 1 + 1, 0, none⟩ (.int .i64 k)).setCell ⟨w.heap.size + 1 + 1 + 1, 0, none⟩ (.int .i64 er)) := by
  refine ⟨((KeepsOthers.setCell _ _ _).trans (KeepsOthers.setCell _ _ _)).trans (KeepsOthers.setCell _ _ _), ?_⟩
  have e1 : ∀ (V : World) (b : Nat) (o : Obj) (c : Nat) (u : Value), b ≠ c → V.heap[b]? = some o → (V.setCell ⟨c, 0, none⟩ u).heap[b]? = some o := fun V b o c u hne h => (Below.heap_setCell _ _ _ _ (by show b ≠ c; exact hne)).trans h
  refine ⟨e1 _ _ _ _ _ (by omega) (e1 _ _ _ _ _ (by omega) (e1 _ _ _ _ _ (by omega) h.f)), e1 _ _ _ _ _ (by omega) (e1 _ _ _ _ _ (by omega) ?_), e1 _ _ _ _ _ (by omega) ?_, ?_, e1 _ _ _ _ _ (by omega) (e1 _ _ _ _ _ (by omega) (e1 _ _ _ _ _ (by omega) h.m)), ?_⟩
  · exact set_blk h.y 0 _
  · exact set_blk (e1 _ _ _ _ _ (by omega) h.k) 0 _
  · exact set_blk (e1 _ _ _ _ _ (by omega) (e1 _ _ _ _ _ (by omega) h.e)) 0 _
  · exact ((h.b.setCell (p := ⟨w.heap.size + 1, 0, none⟩) (by show w.heap.size ≤ w.heap.size + 1; omega) _).setCell (p := ⟨w.heap.size + 1 + 1, 0, none⟩) (by show w.heap.size ≤ w.heap.size + 1 + 1; omega) _).setCell (p := ⟨w.heap.size + 1 + 1 + 1, 0, none⟩) (by show w.heap.size ≤ w.heap.size + 1 + 1 + 1; omega) _
theorem RunC.below {w : World} {bm : Nat} {mv : Value} {fuel : Int} {y : ByteArray} {k er : Int} {A B : World} (h : RunC w bm mv fuel y k er A) (hE : Below A.heap.size A B) : RunC w bm mv fuel y k er B := by
  have q : ∀ (b : Nat) (o : Obj), A.heap[b]? = some o → B.heap[b]? = some o := fun b o ho => below_blk hE ho (Array.getElem?_eq_some_iff.1 ho).1
  exact ⟨q _ _ h.f, q _ _ h.y, q _ _ h.k, q _ _ h.e, q _ _ h.m, h.b.trans (hE.mono h.b.size)⟩
theorem below_keeps {A B : World} (h : Below A.heap.size A B) : KeepsOthers A B := ⟨h.size, fun _k _o hk _ => below_blk h hk (Array.getElem?_eq_some_iff.1 hk).1⟩

/-- Run's variables, before it begins. -/
def RunB0 (w : World) (fuel : Int) (W : World) : Prop :=
  W.heap[w.heap.size]? = some (.cells #[.int .i64 fuel] 3 (0, 0)) ∧ W.heap[w.heap.size + 1]? = some (.cells #[.string ⟨#[]⟩] 9 (0, 0)) ∧ W.heap[w.heap.size + 1 + 1]? = some (.cells #[.int .i64 0] 3 (0, 0)) ∧
  W.heap[w.heap.size + 1 + 1 + 1]? = some (.cells #[.int .i64 0] 50 (0, 0)) ∧ Below w.heap.size w W ∧ W.heap.size = w.heap.size + 1 + 1 + 1 + 1
theorem run_boxes (w : World) (fuel : Int) : RunB0 w fuel ((((w.alloc (.cells #[.int .i64 fuel] 3)).alloc (.cells #[.string ⟨#[]⟩] 9)).alloc (.cells #[.int .i64 0] 3)).alloc (.cells #[.int .i64 0] 50)) := by
  have x0 := heap_alloc_new w (.cells #[.int .i64 fuel] 3)
  have x1 := heap_alloc_new (w.alloc (.cells #[.int .i64 fuel] 3)) (.cells #[.string ⟨#[]⟩] 9)
  have x2 := heap_alloc_new ((w.alloc (.cells #[.int .i64 fuel] 3)).alloc (.cells #[.string ⟨#[]⟩] 9)) (.cells #[.int .i64 0] 3)
  have x3 := heap_alloc_new (((w.alloc (.cells #[.int .i64 fuel] 3)).alloc (.cells #[.string ⟨#[]⟩] 9)).alloc (.cells #[.int .i64 0] 3)) (.cells #[.int .i64 0] 50)
  have y0 := (Below.heap_alloc _ (.cells #[.int .i64 0] 50) _ (by simp only [World.size_alloc]; omega)).trans ((Below.heap_alloc _ (.cells #[.int .i64 0] 3) _ (by simp only [World.size_alloc]; omega)).trans ((Below.heap_alloc _ (.cells #[.string ⟨#[]⟩] 9) _ (by simp)).trans x0))
  have y1 := (Below.heap_alloc _ (.cells #[.int .i64 0] 50) _ (by simp only [World.size_alloc]; omega)).trans ((Below.heap_alloc _ (.cells #[.int .i64 0] 3) _ (by simp)).trans x1)
  have y2 := (Below.heap_alloc _ (.cells #[.int .i64 0] 50) _ (by simp)).trans x2
  simp only [World.size_alloc] at y0 y1 y2 x3
  exact ⟨y0, y1, y2, x3, ((((Below.refl _ w).alloc (Nat.le_refl _) _).alloc (by simp) _).alloc (by simp; omega) _).alloc (by simp; omega) _, by simp⟩
theorem RunB0.below {w W W1 : World} {fuel : Int} (h : RunB0 w fuel W) (hb : Below W.heap.size W W1) :
    W1.heap[w.heap.size]? = some (.cells #[.int .i64 fuel] 3 (0, 0)) ∧ W1.heap[w.heap.size + 1]? = some (.cells #[.string ⟨#[]⟩] 9 (0, 0)) ∧ W1.heap[w.heap.size + 1 + 1]? = some (.cells #[.int .i64 0] 3 (0, 0)) ∧
    W1.heap[w.heap.size + 1 + 1 + 1]? = some (.cells #[.int .i64 0] 50 (0, 0)) ∧ Below w.heap.size w W1 ∧ w.heap.size + 1 + 1 + 1 < W1.heap.size := by
  obtain ⟨y0, y1, y2, y3, hb0, hs⟩ := h
  exact ⟨below_blk hb y0 (by omega), below_blk hb y1 (by omega), below_blk hb y2 (by omega), below_blk hb y3 (by omega), hb0.trans (hb.mono (by omega)), by have := hb.size; omega⟩
theorem RunB0.start {w W w1 : World} {fuel : Int} (h : RunB0 w fuel W) (hb1 : Below W.heap.size W w1) (_ : w.heap.size + 1 + 1 + 1 < w1.heap.size) (mv : Value) :
    RunC w w1.heap.size mv fuel ⟨#[]⟩ 0 0 ((w1.alloc (.cells #[mv] 162)).alloc (.cells #[mv] 162)) := by
  obtain ⟨y0, y1, y2, y3, hb0, hs⟩ := h.below hb1
  have hb2 : Below w1.heap.size w1 ((w1.alloc (.cells #[mv] 162)).alloc (.cells #[mv] 162)) := ((Below.refl _ _).alloc (Nat.le_refl _) _).alloc (by simp) _
  exact ⟨below_blk hb2 y0 (by omega), below_blk hb2 y1 (by omega), below_blk hb2 y2 (by omega), below_blk hb2 y3 (by omega), (Below.heap_alloc _ _ _ (by simp)).trans (heap_alloc_new w1 _), hb0.trans (hb2.mono (by omega))⟩
theorem RunB0.start1 {w W w1 : World} {fuel : Int} (h : RunB0 w fuel W) (hb1 : Below W.heap.size W w1) (mv : Value) :
    RunC w w1.heap.size mv fuel ⟨#[]⟩ 0 0 (w1.alloc (.cells #[mv] 162)) := by
  obtain ⟨y0, y1, y2, y3, hb0, hs⟩ := h.below hb1
  have hb2 : Below w1.heap.size w1 (w1.alloc (.cells #[mv] 162)) := (Below.refl _ _).alloc (Nat.le_refl _) _
  exact ⟨below_blk hb2 y0 (by omega), below_blk hb2 y1 (by omega), below_blk hb2 y2 (by omega), below_blk hb2 y3 (by omega), heap_alloc_new w1 _, hb0.trans (hb2.mono (by omega))⟩

theorem AtK.grown {l : List Ins} {s0 : St} {B g mb : Nat} {pv sv : Value} {w : World} {bm : Nat} {mv : Value} {fuel : Int} {y : ByteArray} {k' er : Int} {k : Nat} {W W' : World} {row : Option Nat} (h : AtK l s0 B g mb pv sv (RunC w bm mv fuel y k' er) k W) (hg : W.grownBy W' row) (hr : ∀ r, row = some r → w.heap.size ≤ r ∧ ∃ o : Obj, W.heap[r]? = some o ∧ o.isCells = false) : AtK l s0 B g mb pv sv (RunC w bm mv fuel y k' er) k W' := by
  obtain ⟨h1, ⟨ps, h2⟩, h3, h4⟩ := h
  exact ⟨h1, ⟨ps, h2.grown hg (fun r e => (hr r e).2)⟩, cell_kept h3 hg (fun r e => (hr r e).2), h4.grown hg hr⟩

set_option maxRecDepth 100000 in
set_option maxHeartbeats 2000000 in
theorem run_ok (v : Value) (l : List Ins) (t : Tr) (ht : t.size ≤ 2000000) (fuel : Nat) (hk1 : fuel ≤ 10000000) (w : World) (hl : InsRow w w.heap.size v l) (hv : validB l = true) (y : ByteArray) (k : Nat) (er : Int) (hres : (goF l fuel 0 (startS t)).run = (y, k, er)) :
    Calls Try.prog 91 #[v, .string (TS t), .int .i64 fuel] w (RunOut w y k er) := by
  have kb := fun w' (h : InsRow w' w'.heap.size v l) => begin_ok v l t ht fuel w' h hv (by omega) (by omega)
  have HG := Lib.hid (Good.start l.length t ht)
  have HV := Lib.hid (validB_all hv)
  have hn4 := validB_len hv
  have HR := Lib.hid hres
  have hl0 := hl
  obtain ⟨ao, cap, rfl⟩ := hl.len
  have hb0 : Below w.heap.size w ((((w.alloc (.cells #[.int .i64 fuel] 3)).alloc (.cells #[.string ⟨#[]⟩] 9)).alloc (.cells #[.int .i64 0] 3)).alloc (.cells #[.int .i64 0] 50)) :=
    ((((Below.refl _ w).alloc (Nat.le_refl _) _).alloc (by simp) _).alloc (by simp; omega) _).alloc (by simp; omega) _
  have kb0 := kb _ ((hl0.below hb0).mono hb0.size)
  obtain ⟨S, hS⟩ : ∃ S, TS t = S := ⟨_, rfl⟩
  rw [hS] at kb0 ⊢
  clear hv hres kb hS hl hl0
  refine (callsIn_wide (n := 5)).1 ?_
  refine callsIn_of_wp_marks Try.func91 rfl trivial ?_ rfl
  simp only [Try.ntmps91, List.size_toArray, List.length_cons, List.length_nil, Nat.reduceAdd, Nat.reduceSub, Array.replicate_succ, Array.replicate_zero, List.push_toArray, List.append_toArray, List.nil_append, List.cons_append]
  gi_wp2_with fail
  refine ⟨trivial, (callsIn_wide.2 kb0).mono ?_⟩
  rintro e w1 ⟨B, g, sv, ps, rfl, hm, hB, hb1⟩
  have hBs : w.heap.size + 1 + 1 + 1 < B := by simp at hB; omega
  have hble := hm.le
  have hglt := hm.lt
  have HM := Lib.hid hm
  clear kb0 hm
  gi_wp2_with fail
  refine ⟨trivial, (callsIn_wide.2 (states_any _ _)).mono ?_⟩
  rintro e w2 ⟨rfl, rfl⟩
  have hb2 : Below w1.heap.size w1 ((w1.alloc (.cells #[.pointer (some ⟨g, 0, none⟩)] 162)).alloc (.cells #[.pointer (some ⟨g, 0, none⟩)] 162)) := ((Below.refl _ _).alloc (Nat.le_refl _) _).alloc (by simp) _
  have hws : w.heap.size + 1 + 1 + 1 < w1.heap.size := by have := hb1.size; simp at this; omega
  have hbw : Below w.heap.size w w1 := hb0.trans (hb1.mono (by simp; omega))
  have hC0 := (run_boxes w fuel).start hb1 hws (.pointer (some ⟨g, 0, none⟩))
  have hA0 : AtK l (startS t) B g (w1.heap.size + 1) (.slice ao l.length cap) sv (RunC w w1.heap.size (.pointer (some ⟨g, 0, none⟩)) fuel ⟨#[]⟩ 0 0) 0 ((w1.alloc (.cells #[.pointer (some ⟨g, 0, none⟩)] 162)).alloc (.cells #[.pointer (some ⟨g, 0, none⟩)] 162)) := by
    refine ⟨Reach.zero _ _, ⟨ps, HM.out.kept hb2⟩, ?_, hC0⟩
    have := heap_alloc_new (w1.alloc (.cells #[.pointer (some ⟨g, 0, none⟩)] 162)) (.cells #[.pointer (some ⟨g, 0, none⟩)] 162)
    rw [World.size_alloc] at this
    exact (block_cells this).1 0
  have HA0 := Lib.hid hA0
  have HB2 := Lib.hid hb2
  clear hA0 hC0 hb2 hb1 hb0
  gi_wp2_with fail
  refine wpIn_rangeFunc_ends (α := Nat × Bool) rfl (by decide) (gf := 152) (lb := #[.pointer (some ⟨w1.heap.size + 1, 0, none⟩)]) rfl trivial (enters_of Try.func152 (by kernel_rfl) rfl)
    (AtK l (startS t) B g (w1.heap.size + 1) (.slice ao l.length cap) sv (RunC w w1.heap.size (.pointer (some ⟨g, 0, none⟩)) fuel ⟨#[]⟩ 0 0) 0)
    (RI fuel l (startS t) B g (w1.heap.size + 1) (.slice ao l.length cap) sv (RunC w w1.heap.size (.pointer (some ⟨g, 0, none⟩)) fuel ⟨#[]⟩ 0 0))
    (RI' fuel l (startS t) B g (w1.heap.size + 1) (.slice ao l.length cap) sv (RunC w w1.heap.size (.pointer (some ⟨g, 0, none⟩)) fuel ⟨#[]⟩ 0 0))
    (fun c W => c = .ret ∧ RunC w w1.heap.size (.pointer (some ⟨g, 0, none⟩)) fuel y k er W)
    (states1_ends _ fuel hk1 l (startS t) B g (w1.heap.size + 1) (by omega) _ sv _ (fun A B h hc => hc.els h (by omega) (by omega)) HG.out HV.out hn4) (fun _ => rfl)
    (fun _ A B row h hg hr => h.grown hg (fun r e => ⟨by have := (hr r e).1; simp at this; omega, (hr r e).2⟩))
    (fun x A B row h hg hr => ⟨h.1, h.2.1.grown hg (fun r e => ⟨by have := (hr r e).1; simp at this; omega, (hr r e).2⟩), h.2.2⟩)
    (fun x A B row h hg hr => ⟨h.1, h.2.1, h.2.2.1, h.2.2.2.grown hg (fun r e => ⟨by have := (hr r e).1; simp at this; omega, (hr r e).2⟩)⟩)
    (fun c _ A B row h hg hr => ⟨h.1, h.2.grown hg (fun r e => ⟨by have := (hr r e).1; simp at this; omega, (hr r e).2⟩)⟩)
    HA0.out
    (fun x => { tmps := #[.slice ao l.length cap, .string S, .int .i64 fuel, undef, undef, .pointer (some ⟨w.heap.size, 0, none⟩), .pointer (some ⟨w.heap.size + 1, 0, none⟩), .pointer (some ⟨w.heap.size + 1 + 1, 0, none⟩), .pointer (some ⟨w.heap.size + 1 + 1 + 1, 0, none⟩), .pointer (some ⟨w1.heap.size, 0, none⟩), .int .i64 0, .int .i64 x.1, .bool x.2,
      .tuple #[.pointer (some ⟨g, 0, none⟩), .int .i64 0], .slice ao l.length cap, .string S, .int .i64 fuel, .tuple #[.pointer (some ⟨g, 0, none⟩), .int .i64 0], .pointer (some ⟨g, 0, none⟩), .int .i64 0, .int .i64 0, .bool false, undef, .pointer (some ⟨g, 0, none⟩), .func (.func 152) #[] #[.pointer (some ⟨w1.heap.size + 1, 0, none⟩)],
      .int .i64 x.1, .bool x.2, undef, undef, undef, undef, undef, undef, undef, undef, undef, undef, undef, undef, undef, undef, undef, undef], defers := [] }) ?assign ?body ?stop
  case assign =>
    intro lr x W K hK
    gi_wp2
    exact hK
  case stop =>
    rintro D c W hD ⟨rfl, hc⟩ hK
    have hc' := hc.grown (grownBy_putObj' W D (.deferred none)) (fun r e => by cases e; exact ⟨by simp at hD; omega, _, hK, rfl⟩)
    have q1 := (block_cells hc'.y).1 0
    have q2 := (block_cells hc'.k).1 0
    have q3 := (block_cells hc'.e).1 0
    simp only [List.getElem?_toArray, List.getElem?_cons_zero] at q1 q2 q3
    gi_wp2
    refine ⟨by simp, .inl ⟨_, _, rfl, run_takeDeferred hK, ?_⟩⟩
    refine ⟨.tuple #[.string y, .int .i64 k, .int .i64 er], ?_, rfl, hc'.b⟩
    simp [results, Try.f91, go_sem, q1, q2, q3]
  case body =>
    rintro lr ⟨k1, b⟩ W hI
    obtain ⟨hk1', ⟨hre, ⟨ps1, hm1⟩, hmb, hC⟩, hbig⟩ := hI
    dsimp only at hk1' hre hm1 hbig
    have c0 := (block_cells hC.f).1 0
    have c1 := (block_cells hC.y).1 0
    have c2 := (block_cells hC.k).1 0
    have c3 := (block_cells hC.e).1 0
    have c4 := (block_cells hC.m).1 0
    have f1 := (block_cells hC.y).2 0
    have f2 := (block_cells hC.k).2 0
    have f3 := (block_cells hC.e).2 0
    simp only [List.getElem?_toArray, List.getElem?_cons_zero] at c0 c1 c2 c3 c4
    have hgk := hre.good HV.out HG.out
    have HRE := Lib.hid hre
    have HC := Lib.hid hC
    have HBIG := Lib.hid hbig
    clear hre hC hbig
    cases b with
    | true =>
      have hfin : Hid (y = ⟨#[]⟩ ∧ k = 0 ∧ er = 3) := by
        obtain ⟨h1, h2, h3⟩ := HBIG.out rfl
        have hr := HR.out
        rw [HRE.out.goF fuel hk1', show fuel - k1 = (fuel - k1 - 1) + 1 by omega, goF_big h2 h3] at hr
        simp only [Res.run, Prod.mk.injEq] at hr
        exact ⟨hr.1.symm, hr.2.1.symm, hr.2.2.symm⟩
      clear hm1 hgk
      obtain ⟨rfl, rfl, rfl⟩ := hfin.out
      gi_wp2
      obtain ⟨z1, z2⟩ := HC.out.put hws ⟨#[]⟩ 0 3
      exact ⟨z1, rfl, z2⟩
    | false =>
      cases hp : ((stN l (startS t) k1).pos : Int) == (l.length : Int) with
      | true =>
        have ke := ended_at _ W B g l _ _ sv ps1 hm1 hgk hp
        have hpos : (stN l (startS t) k1).pos = l.length := by have := eq_of_beq hp; omega
        obtain ⟨tr, htr⟩ : ∃ tr, (stN l (startS t) k1).regs[0]? = some tr := ⟨_, List.getElem?_eq_getElem (by rw [hgk.2.1]; omega)⟩
        have hfin : Hid (y = TS tr ∧ k = k1 ∧ er = 0) := by
          have hr := HR.out
          rw [HRE.out.goF fuel hk1', goF_done hpos] at hr
          simp only [Res.run, Prod.mk.injEq] at hr
          exact ⟨by rw [← hr.1]; exact (congrArg TS (getR_nat (r := 0) htr)), hr.2.1.symm, hr.2.2.symm⟩
        obtain ⟨rfl, rfl, rfl⟩ := hfin.out
        obtain ⟨_, _, _, hrg, _⟩ := hm1.cells hgk.2.1
        obtain ⟨q, cq, nq⟩ := hrg 0 tr htr
        have hts := hgk.2.2 tr (List.mem_of_getElem? htr)
        have HQ := Lib.hid nq
        have kt : ∀ w', Below W.heap.size W w' → Calls Try.prog 130 #[.pointer q] w' fun e w'' => e = .returned (.string (TS tr)) ∧ Below W.heap.size W w'' := fun w' hb' =>
          (nodeText_any tr _ w' (HQ.out.kept (Kept.below hb')) hts).mono fun e w'' h => ⟨h.1, hb'.trans (h.2.mono hb'.size)⟩
        have hgl := hm1.lt
        clear hp hpos hrg hm1 hgk nq
        gi_wp2_with fail
        refine ⟨trivial, CallsIn.inRound lr ((callsIn_wide.2 ke).mono ?_)⟩
        rintro e W1 ⟨rfl, hb1⟩
        have HC1 := Lib.hid (HC.out.below hb1)
        have c0 := (block_cells HC1.out.f).1 0
        have c1 := (block_cells HC1.out.y).1 0
        have c2 := (block_cells HC1.out.k).1 0
        have c3 := (block_cells HC1.out.e).1 0
        have c4 := (block_cells HC1.out.m).1 0
        have f1 := (block_cells HC1.out.y).2 0
        have f2 := (block_cells HC1.out.k).2 0
        have f3 := (block_cells HC1.out.e).2 0
        simp only [List.getElem?_toArray, List.getElem?_cons_zero] at c0 c1 c2 c3 c4
        have cq1 := (hb1.cell (p := ⟨g, 2 + 0, none⟩) hgl).trans cq
        have kt1 := kt _ hb1
        clear kt ke cq
        gi_wp2_with fail
        refine ⟨trivial, CallsIn.inRound lr ((callsIn_wide.2 kt1).mono ?_)⟩
        rintro e W2 ⟨rfl, hb2⟩
        have HC2 := Lib.hid (HC.out.below hb2)
        have c0 := (block_cells HC2.out.f).1 0
        have c1 := (block_cells HC2.out.y).1 0
        have c2 := (block_cells HC2.out.k).1 0
        have c3 := (block_cells HC2.out.e).1 0
        have f1 := (block_cells HC2.out.y).2 0
        have f2 := (block_cells HC2.out.k).2 0
        have f3 := (block_cells HC2.out.e).2 0
        simp only [List.getElem?_toArray, List.getElem?_cons_zero] at c0 c1 c2 c3
        have HKO := Lib.hid (below_keeps hb2)
        obtain ⟨Y, hY⟩ : ∃ Y, TS tr = Y := ⟨_, rfl⟩
        rw [hY]
        have HY := Lib.hid hY
        clear hY kt1 c4 hb1 hb2 cq1
        gi_wp2
        obtain ⟨z1, z2⟩ := HC2.out.put hws Y k 0
        exact ⟨HKO.out.trans z1, rfl, by rw [HY.out]; exact z2⟩
      | false =>
        have ke := ended_at _ W B g l _ _ sv ps1 hm1 hgk hp
        have hpos : (stN l (startS t) k1).pos ≠ l.length := by
          intro h
          rw [h] at hp
          simp at hp
        have HP := Lib.hid hpos
        have HM1 := Lib.hid hm1
        by_cases hkf : k1 = fuel
        · have hfin : Hid (y = ⟨#[]⟩ ∧ k = 0 ∧ er = 7) := by
            have hr := HR.out
            rw [HRE.out.goF fuel hk1', hkf, Nat.sub_self, goF_zero (by rw [← hkf]; exact HP.out)] at hr
            simp only [Res.run, Prod.mk.injEq] at hr
            exact ⟨hr.1.symm, hr.2.1.symm, hr.2.2.symm⟩
          obtain ⟨rfl, rfl, rfl⟩ := hfin.out
          have hkk : ((k1 : Int) == (fuel : Int)) = true := by rw [hkf]; simp
          clear hp hpos hgk hm1 hkf
          gi_wp2_with fail
          refine ⟨trivial, CallsIn.inRound lr ((callsIn_wide.2 ke).mono ?_)⟩
          rintro e W1 ⟨rfl, hb1⟩
          have HC1 := Lib.hid (HC.out.below hb1)
          have HKO := Lib.hid (below_keeps hb1)
          have c0 := (block_cells HC1.out.f).1 0
          have c1 := (block_cells HC1.out.y).1 0
          have c2 := (block_cells HC1.out.k).1 0
          have c3 := (block_cells HC1.out.e).1 0
          have f1 := (block_cells HC1.out.y).2 0
          have f2 := (block_cells HC1.out.k).2 0
          have f3 := (block_cells HC1.out.e).2 0
          simp only [List.getElem?_toArray, List.getElem?_cons_zero] at c0 c1 c2 c3
          clear ke hb1
          gi_wp2
          obtain ⟨z1, z2⟩ := HC1.out.put hws ⟨#[]⟩ 0 7
          exact ⟨HKO.out.trans z1, rfl, z2⟩
        · have hkk : ((k1 : Int) == (fuel : Int)) = false := by rw [beq_eq_false_iff_ne]; omega
          have hlt : k1 < fuel := by omega
          clear hp hpos hgk hm1 hkf
          gi_wp2_with fail
          refine ⟨trivial, CallsIn.inRound lr ((callsIn_wide.2 ke).mono ?_)⟩
          rintro e W1 ⟨rfl, hb1⟩
          have HC1 := Lib.hid (HC.out.below hb1)
          have HKO := Lib.hid (below_keeps hb1)
          have HB1 := Lib.hid hb1
          have HMB := Lib.hid hmb
          have c0 := (block_cells HC1.out.f).1 0
          simp only [List.getElem?_toArray, List.getElem?_cons_zero] at c0
          clear ke hb1 hmb
          gi_wp2
          refine ⟨HKO.out, hlt, rfl, HP.out, HRE.out, ⟨ps1, HM1.out.kept HB1.out⟩, ?_, HC1.out⟩
          have : w1.heap.size + 1 < W.heap.size := by
            obtain ⟨o, ho, _⟩ := cells_of_cell HMB.out
            exact (Array.getElem?_eq_some_iff.1 ho).1
          exact (HB1.out.cell (p := ⟨w1.heap.size + 1, 0, none⟩) this).trans HMB.out

set_option maxHeartbeats 1000000 in
theorem run_bad (v : Value) (l : List Ins) (s : ByteArray) (fuel : Int) (w : World) (er : Int) (hl : InsRow w w.heap.size v l) (her : er = 1 ∨ er = 2)
    (kb : ∀ w', InsRow w' w'.heap.size v l → Calls Try.prog 127 #[v, .string s, .int .i64 fuel] w' fun e w'' => e = .returned (.tuple #[.pointer none, .int .i64 er]) ∧ Below w'.heap.size w' w'') :
    Calls Try.prog 91 #[v, .string s, .int .i64 fuel] w (RunOut w ⟨#[]⟩ 0 er) := by
  have hl0 := hl
  obtain ⟨ao, cap, rfl⟩ := hl.len
  have hb0 : Below w.heap.size w ((((w.alloc (.cells #[.int .i64 fuel] 3)).alloc (.cells #[.string ⟨#[]⟩] 9)).alloc (.cells #[.int .i64 0] 3)).alloc (.cells #[.int .i64 0] 50)) :=
    ((((Below.refl _ w).alloc (Nat.le_refl _) _).alloc (by simp) _).alloc (by simp; omega) _).alloc (by simp; omega) _
  have kb0 := kb _ ((hl0.below hb0).mono hb0.size)
  clear kb hl hl0
  have hne : (er != 0) = true := by rw [bne_iff_ne]; omega
  clear her
  go_enter Try.func91, Try.ntmps91
  go_wp2_with fail
  refine kb0.mono ?_
  rintro e w1 ⟨rfl, hb1⟩
  have hws : w.heap.size + 1 + 1 + 1 < w1.heap.size := by have := hb1.size; simp at this; omega
  have HC := Lib.hid ((run_boxes w fuel).start1 hb1 (.pointer none))
  have c0 := (block_cells HC.out.f).1 0
  have c1 := (block_cells HC.out.y).1 0
  have c2 := (block_cells HC.out.k).1 0
  have c3 := (block_cells HC.out.e).1 0
  have f1 := (block_cells HC.out.y).2 0
  have f2 := (block_cells HC.out.k).2 0
  have f3 := (block_cells HC.out.e).2 0
  simp only [List.getElem?_toArray, List.getElem?_cons_zero] at c0 c1 c2 c3
  clear kb0 hb1 hb0
  go_wp2
  obtain ⟨z1, z2⟩ := HC.out.put hws ⟨#[]⟩ 0 er
  have q1 := (block_cells z2.y).1 0
  have q2 := (block_cells z2.k).1 0
  have q3 := (block_cells z2.e).1 0
  simp only [List.getElem?_toArray, List.getElem?_cons_zero] at q1 q2 q3
  refine bodyPost_ret (v := .tuple #[.string ⟨#[]⟩, .int .i64 0, .int .i64 er]) (by simp [results, Try.results91, go_sem, q1, q2, q3]) rfl ?_
  exact ⟨rfl, z2.b⟩

end Go.Proofs.Ytlaeljkjdfffjaa

namespace Go.Proofs.Ytlaeljkjdfffjaa
open Go.RowKit Go.Shelf
attribute [local go_sem] Oper.semAt_some

/-- What After hands back. -/
def Res.after : Res → Int × List ByteArray × Nat × Int
  | .done s n => (s.pos, s.regs.map TS, n, 0)
  | .fuel s n => (s.pos, s.regs.map TS, n, 0)
  | .big => (0, [], 0, 3)
def AftOut (w : World) (n : Int) (L : List ByteArray) (k : Nat) (er : Int) (e : Ending) (w' : World) : Prop := ∃ v, e = .returned (.tuple #[.agg #[.int .i64 n, v], .int .i64 k, .int .i64 er]) ∧ StrRow w' w'.heap.size v L ∧ Below w.heap.size w w'

theorem StrRow.grown {W W' : World} {row : Option Nat} {v : Value} {L : List ByteArray} (h : StrRow W W.heap.size v L) (hg : W.grownBy W' row) (hr : ∀ r, row = some r → ∃ o : Obj, W.heap[r]? = some o ∧ o.isCells = false) : StrRow W' W'.heap.size v L := by
  obtain ⟨h1, h2, h3⟩ := h
  refine ⟨h1, h2, ?_⟩
  rcases h3 with h3 | ⟨g, off, cap, hv, hlt, hc⟩
  · exact .inl h3
  · exact .inr ⟨g, off, cap, hv, by have := hg.size; omega, fun j s hj => cell_kept (hc j s hj) hg hr⟩
end Go.Proofs.Ytlaeljkjdfffjaa

namespace Go.Proofs.Ytlaeljkjdfffjaa
open Go.RowKit

theorem InsRow.new {w : World} {T : Nat} (l : List Ins) (hwf : ∀ x ∈ l, x.wf) (hlen : l.length ≤ 4000) : InsRow (w.alloc (.cells (inscells l).toArray T)) (w.alloc (.cells (inscells l).toArray T)).heap.size (.slice (some ⟨w.heap.size, 0, none⟩) l.length l.length) l := by
  refine ⟨hwf, by omega, .inr ⟨w.heap.size, 0, l.length, rfl, by simp, fun j x hj k u hk => ?_⟩⟩
  rw [(block_cells (heap_alloc_new w _)).1, List.getElem?_toArray, Nat.zero_add]
  exact inscells_get l j x hj k u hk
theorem wf_lit (op a b c : Int) (s : ByteArray) (h1 : i64 op) (h2 : i64 a) (h3 : i64 b) (h4 : i64 c) (h5 : s.size ≤ 140737488355328) : (⟨op, a, b, c, s⟩ : Ins).wf := ⟨h1, h2, h3, h4, h5⟩

/-- A state in which a step changes nothing. -/
theorem goF_loop {l : List Ins} {s : St} (hp : s.pos ≠ l.length) (hs : stepP l s = some s) : ∀ f n, ∃ m, goF l f n s = .fuel s m := by
  intro f
  induction f with
  | zero => intro n; exact ⟨n, goF_zero hp⟩
  | succ f ih => intro n; rw [goF_step hp hs]; exact ih _

/-- The program that doubles register 0 again and again. -/
def dblP : List Ins := [⟨2, 0, 0, 0, ⟨#[]⟩⟩, ⟨5, 0, -1, 0, ⟨#[]⟩⟩]
def dblT (t : Tr) : Nat → Tr
  | 0 => t
  | k + 1 => .pair (dblT t k) (dblT t k)
theorem dblT_size (t : Tr) (k : Nat) : (dblT t k).size + 1 = 2 ^ k * (t.size + 1) := by
  induction k with
  | zero => simp [dblT]
  | succ k ih => simp only [dblT, Tr.size]; rw [Nat.pow_succ, Nat.mul_right_comm]; omega
theorem dblT_mono (t : Tr) (j k : Nat) (h : j ≤ k) : (dblT t j).size ≤ (dblT t k).size := by
  have h1 := dblT_size t j
  have h2 := dblT_size t k
  have h3 : 2 ^ j ≤ 2 ^ k := Nat.pow_le_pow_right (by omega) h
  have h4 := Nat.mul_le_mul_right (t.size + 1) h3
  omega
theorem dblT_comm (t : Tr) (k : Nat) : dblT (.pair t t) k = dblT t (k + 1) := by
  induction k with
  | zero => rfl
  | succ k ih => simp only [dblT] at *; rw [ih]
theorem stepX_cons {x : Ins} {s : St} (h2 : x.op = 2) (h : (Tr.pair (getR s.regs x.b) (getR s.regs x.c)).size ≤ 2000000) : stepX x s = some ⟨s.pos + 1, setR s.regs x.a (.pair (getR s.regs x.b) (getR s.regs x.c))⟩ := by
  unfold stepX
  rw [if_neg (by omega), if_neg (by omega), if_pos h2, if_pos h]
theorem stepX_big {x : Ins} {s : St} (h2 : x.op = 2) (h : 2000000 < (Tr.pair (getR s.regs x.b) (getR s.regs x.c)).size) : stepX x s = none := by
  unfold stepX
  rw [if_neg (by omega), if_neg (by omega), if_pos h2, if_neg (by omega)]
theorem stepX_go {x : Ins} {s : St} (h2 : x.op = 5) (h : getR s.regs x.a ≠ .nil) : stepX x s = some ⟨(s.pos + x.b).toNat, s.regs⟩ := by
  unfold stepX
  rw [if_neg (by omega), if_neg (by omega), if_neg (by omega), if_neg (by omega), if_neg (by omega), if_neg h]
theorem dbl_cons (t : Tr) (rs : List Tr) (h : (Tr.pair t t).size ≤ 2000000) : stepP dblP ⟨0, t :: rs⟩ = some ⟨1, .pair t t :: rs⟩ :=
  stepX_cons (x := ⟨2, 0, 0, 0, ⟨#[]⟩⟩) (s := ⟨0, t :: rs⟩) rfl h
theorem dbl_big (t : Tr) (rs : List Tr) (h : 2000000 < (Tr.pair t t).size) : stepP dblP ⟨0, t :: rs⟩ = none :=
  stepX_big (x := ⟨2, 0, 0, 0, ⟨#[]⟩⟩) (s := ⟨0, t :: rs⟩) rfl h
theorem dbl_jump (a b : Tr) (rs : List Tr) : stepP dblP ⟨1, .pair a b :: rs⟩ = some ⟨0, .pair a b :: rs⟩ :=
  stepX_go (x := ⟨5, 0, -1, 0, ⟨#[]⟩⟩) (s := ⟨1, .pair a b :: rs⟩) rfl (by show Tr.pair a b ≠ .nil; exact fun h => by cases h)
theorem dbl_run (rs : List Tr) : ∀ (k f n : Nat) (t : Tr), (dblT t k).size ≤ 2000000 → goF dblP (f + 2 * k) n ⟨0, t :: rs⟩ = goF dblP f (n + 2 * k) ⟨0, dblT t k :: rs⟩ := by
  intro k
  induction k with
  | zero => intro f n t _; rfl
  | succ k ih =>
    intro f n t h
    have h1 : (Tr.pair t t).size ≤ 2000000 := Nat.le_trans (dblT_mono t 1 (k + 1) (by omega)) h
    rw [show f + 2 * (k + 1) = (f + 2 * k) + 1 + 1 by omega, goF_step (by simp [dblP]) (dbl_cons t rs h1), goF_step (by simp [dblP]) (dbl_jump t t rs), ih _ _ _ (by rw [dblT_comm]; exact h), dblT_comm, show n + 1 + 1 + 2 * k = n + 2 * (k + 1) by omega]
theorem dbl_valid : validB dblP = true := by decide +kernel
theorem dbl_aw : (goF dblP 1000 0 (startS .nil)).run = (⟨#[]⟩, 0, 3) := by
  have h1 := dblT_size .nil 19
  have h2 := dblT_size .nil 20
  have h3 := dbl_run (List.replicate 31 .nil) 19 962 0 .nil (by simp only [Tr.size] at h1; omega)
  have h4 : goF dblP 1000 0 (startS .nil) = .big := by
    refine h3.trans (goF_big (by decide) (dbl_big _ _ ?_))
    show 2000000 < (dblT .nil 20).size
    simp only [Tr.size] at h2; omega
  rw [h4]; rfl

def awA : List Ins := [⟨4, 0, 0, 0, ⟨#[]⟩⟩]
def awB : List Ins := [⟨0, 1, 0, 0, ⟨#[49, 48, 48]⟩⟩, ⟨5, 1, 0, 0, ⟨#[]⟩⟩]
theorem awA_run : (goF awA 10 0 (startS (.pair .nil (.pair .nil .nil)))).run = (⟨#[49, 48, 48]⟩, 1, 0) := by rfl
theorem awN_run : (goF [] 0 0 (startS (.pair .nil .nil))).run = (⟨#[49, 48, 48]⟩, 0, 0) := by rfl
theorem awB_run : (goF awB 1000 0 (startS .nil)).run = (⟨#[]⟩, 0, 7) := by
  have h1 : stepP awB (startS .nil) = some ⟨1, .nil :: .pair .nil .nil :: List.replicate 30 .nil⟩ := by rfl
  have h2 : stepP awB ⟨1, .nil :: .pair .nil .nil :: List.replicate 30 .nil⟩ = some ⟨1, .nil :: .pair .nil .nil :: List.replicate 30 .nil⟩ := by rfl
  obtain ⟨m, hm⟩ := goF_loop (l := awB) (by decide) h2 999 1
  rw [show (1000 : Nat) = 999 + 1 from rfl, goF_step (by decide) h1, hm]; rfl
theorem awA_valid : validB awA = true := by decide +kernel
theorem awN_valid : validB [] = true := by decide
theorem awB_valid : validB awB = true := by decide +kernel

end Go.Proofs.Ytlaeljkjdfffjaa

namespace Go.Proofs.Ytlaeljkjdfffjaa
open Go.RowKit

/-- A contract relative to a world. -/
def Ct (w : World) (f : Nat) (args : Array Value) (v : Value) : Prop := ∀ w', Below w.heap.size w w' → Calls Try.prog f args w' fun e w'' => e = .returned v ∧ Below w.heap.size w w''
theorem Ct.of {w : World} {f : Nat} {args : Array Value} {v : Value} (h : ∀ w', Below w.heap.size w w' → Calls Try.prog f args w' fun e w'' => e = .returned v ∧ Below w'.heap.size w' w'') : Ct w f args v :=
  fun w' hb => (h w' hb).mono fun _e _w'' h2 => ⟨h2.1, hb.trans (h2.2.mono hb.size)⟩
theorem Ct.of_any {w : World} {f : Nat} {args : Array Value} {v : Value} (h : ∀ w', Calls Try.prog f args w' fun e w'' => e = .returned v ∧ Below w'.heap.size w' w'') : Ct w f args v := Ct.of fun w' _ => h w'
theorem Ct.of_same {w : World} {f : Nat} {args : Array Value} {v : Value} (h : ∀ w', Calls Try.prog f args w' fun e w'' => e = .returned v ∧ w' = w'') : Ct w f args v :=
  fun w' hb => (h w').mono fun e w'' h2 => ⟨h2.1, by rw [← h2.2]; exact hb⟩
theorem Ct.rebase {w w1 : World} {f : Nat} {args : Array Value} {v : Value} (h : Ct w f args v) (hb1 : Below w.heap.size w w1) : ∀ w', Below w1.heap.size w1 w' → Calls Try.prog f args w' fun e w'' => e = .returned v ∧ Below w.heap.size w w'' := fun w' hb => h w' (hb1.trans (hb.mono hb1.size))

/-- Run, where it may run. -/
theorem run_ct {w : World} {v : Value} {l : List Ins} (hl : InsRow w w.heap.size v l) (hv : validB l = true) (t : Tr) (ht : t.size ≤ 2000000) (fuel : Nat) (hf : fuel ≤ 10000000) (y : ByteArray) (k : Nat) (er : Int) (hres : (goF l fuel 0 (startS t)).run = (y, k, er)) :
    Ct w 91 #[v, .string (TS t), .int .i64 fuel] (.tuple #[.string y, .int .i64 k, .int .i64 er]) :=
  Ct.of fun w' hb => run_ok v l t ht fuel hf w' ((hl.below hb).mono hb.size) hv y k er hres

theorem awA_new (w : World) : InsRow (w.alloc (.cells #[.int .i64 4, .int .i64 0, .int .i64 0, .int .i64 0, .string ⟨#[]⟩] 41)) (w.alloc (.cells #[.int .i64 4, .int .i64 0, .int .i64 0, .int .i64 0, .string ⟨#[]⟩] 41)).heap.size (.slice (some ⟨w.heap.size, 0, none⟩) 1 1) awA :=
  InsRow.new (w := w) (T := 41) awA (by intro x hx; simp [awA] at hx; subst hx; exact wf_lit _ _ _ _ _ (by unfold i64; decide) (by unfold i64; decide) (by unfold i64; decide) (by unfold i64; decide) (by decide)) (by decide)
theorem awB_new (w : World) : InsRow (w.alloc (.cells #[.int .i64 0, .int .i64 1, .int .i64 0, .int .i64 0, .string ⟨#[49, 48, 48]⟩, .int .i64 5, .int .i64 1, .int .i64 0, .int .i64 0, .string ⟨#[]⟩] 41)) (w.alloc (.cells #[.int .i64 0, .int .i64 1, .int .i64 0, .int .i64 0, .string ⟨#[49, 48, 48]⟩, .int .i64 5, .int .i64 1, .int .i64 0, .int .i64 0, .string ⟨#[]⟩] 41)).heap.size (.slice (some ⟨w.heap.size, 0, none⟩) 2 2) awB :=
  InsRow.new (w := w) (T := 41) awB (by intro x hx; simp [awB] at hx; rcases hx with rfl | rfl <;> exact wf_lit _ _ _ _ _ (by unfold i64; decide) (by unfold i64; decide) (by unfold i64; decide) (by unfold i64; decide) (by decide)) (by decide)
theorem dblP_new (w : World) : InsRow (w.alloc (.cells #[.int .i64 2, .int .i64 0, .int .i64 0, .int .i64 0, .string ⟨#[]⟩, .int .i64 5, .int .i64 0, .int .i64 (-1), .int .i64 0, .string ⟨#[]⟩] 41)) (w.alloc (.cells #[.int .i64 2, .int .i64 0, .int .i64 0, .int .i64 0, .string ⟨#[]⟩, .int .i64 5, .int .i64 0, .int .i64 (-1), .int .i64 0, .string ⟨#[]⟩] 41)).heap.size (.slice (some ⟨w.heap.size, 0, none⟩) 2 2) dblP :=
  InsRow.new (w := w) (T := 41) dblP (by intro x hx; simp [dblP] at hx; rcases hx with rfl | rfl <;> exact wf_lit _ _ _ _ _ (by unfold i64; decide) (by unfold i64; decide) (by unfold i64; decide) (by unfold i64; decide) (by decide)) (by decide)
theorem nil_row (w : World) (B : Nat) : InsRow w B (.slice none 0 0) [] := ⟨by simp, by simp, .inl ⟨rfl, .inl rfl⟩⟩

theorem aw_run1 (w w' : World) (hb : Below w.heap.size w w') : Calls Try.prog 91 #[.slice (some ⟨w'.heap.size, 0, none⟩) 1 1, .string ⟨#[49, 48, 49, 48, 48]⟩, .int .i64 10] (w'.alloc (.cells #[.int .i64 4, .int .i64 0, .int .i64 0, .int .i64 0, .string ⟨#[]⟩] 41)) fun e w'' => e = .returned (.tuple #[.string ⟨#[49, 48, 48]⟩, .int .i64 1, .int .i64 0]) ∧ Below w.heap.size w w'' :=
  (run_ct (awA_new w') awA_valid (.pair .nil (.pair .nil .nil)) (by decide) 10 (by decide) _ _ _ awA_run _ (Below.refl _ _)).mono fun e w'' h => ⟨h.1, (hb.alloc hb.size _).trans (h.2.mono (by have := hb.size; simp; omega))⟩
theorem aw_run2 (w w' : World) (hb : Below w.heap.size w w') : Calls Try.prog 91 #[.slice none 0 0, .string ⟨#[49, 48, 48]⟩, .int .i64 0] w' fun e w'' => e = .returned (.tuple #[.string ⟨#[49, 48, 48]⟩, .int .i64 0, .int .i64 0]) ∧ Below w.heap.size w w'' :=
  (run_ct (nil_row w' _) awN_valid (.pair .nil .nil) (by decide) 0 (by decide) _ _ _ awN_run _ (Below.refl _ _)).mono fun e w'' h => ⟨h.1, hb.trans (h.2.mono hb.size)⟩
theorem aw_run3 (w w' : World) (hb : Below w.heap.size w w') : Calls Try.prog 91 #[.slice (some ⟨w'.heap.size, 0, none⟩) 2 2, .string ⟨#[48]⟩, .int .i64 1000] (w'.alloc (.cells #[.int .i64 0, .int .i64 1, .int .i64 0, .int .i64 0, .string ⟨#[49, 48, 48]⟩, .int .i64 5, .int .i64 1, .int .i64 0, .int .i64 0, .string ⟨#[]⟩] 41)) fun e w'' => e = .returned (.tuple #[.string ⟨#[]⟩, .int .i64 0, .int .i64 7]) ∧ Below w.heap.size w w'' :=
  (run_ct (awB_new w') awB_valid .nil (by decide) 1000 (by decide) _ _ _ awB_run _ (Below.refl _ _)).mono fun e w'' h => ⟨h.1, (hb.alloc hb.size _).trans (h.2.mono (by have := hb.size; simp; omega))⟩

end Go.Proofs.Ytlaeljkjdfffjaa

namespace Go.Proofs.Ytlaeljkjdfffjaa
open Go.RowKit

theorem RMachP.mono {w : World} {T T' g : Nat} {l : List Ins} {pv tv : Value} (h : RMachP w T g l pv tv) (hT : T ≤ T') : RMachP w T' g l pv tv := by
  obtain ⟨xs, base, h1, h2, h3⟩ := h.sets
  exact ⟨h.blk, by have := h.lt; omega, h.prog.mono hT, xs, base, h1, h2, fun k hk => by have := h3 k hk; omega⟩
theorem RMachP.below {w w' : World} {g : Nat} {l : List Ins} {pv tv : Value} (h : RMachP w w.heap.size g l pv tv) (hb : Below w.heap.size w w') : RMachP w' w'.heap.size g l pv tv := (h.kept hb (Kept.below hb)).mono hb.size
theorem run_form_ct {w : World} {v : Value} {l : List Ins} (hl : InsRow w w.heap.size v l) (s : ByteArray) (hs : s.size ≤ 140737488355328) (fuel : Int) (h : validB l = false ∨ isTree s = false) :
    Ct w 91 #[v, .string s, .int .i64 fuel] (.tuple #[.string ⟨#[]⟩, .int .i64 0, .int .i64 1]) :=
  Ct.of fun w' hb => run_bad v l s fuel w' 1 ((hl.below hb).mono hb.size) (.inl rfl) (fun w2 h2 => begin_form v l s fuel w2 h2 hs h)
theorem run_arg_ct {w : World} {v : Value} {l : List Ins} (hl : InsRow w w.heap.size v l) (s : ByteArray) (hs : s.size ≤ 140737488355328) (fuel : Int) (hv : validB l = true) (ht : isTree s = true) (hk : fuel < 0 ∨ 10000000 < fuel) :
    Ct w 91 #[v, .string s, .int .i64 fuel] (.tuple #[.string ⟨#[]⟩, .int .i64 0, .int .i64 2]) :=
  Ct.of fun w' hb => run_bad v l s fuel w' 2 ((hl.below hb).mono hb.size) (.inr rfl) (fun w2 h2 => begin_arg v l s fuel w2 h2 hs hv ht hk)
theorem sameP_self (l : List Ins) : sameP l l = true := by unfold sameP; exact decide_eq_true rfl
theorem same_ct {w : World} {v v' : Value} {l l' : List Ins} (h1 : InsRow w w.heap.size v l) (h2 : InsRow w w.heap.size v' l') (b : Bool) (hb : sameP l l' = b) : Ct w 28 #[v, v'] (.bool b) := fun w' hb' =>
  (sameP_any v v' l l' w' w.heap.size (h1.below hb') (h2.below hb')).mono fun e w'' h => ⟨by rw [← hb]; exact h.1, by obtain ⟨nq, rfl⟩ := h.2; exact below_drewN hb' nq⟩
theorem cvalid_ct {w : World} {v : Value} {l : List Ins} (h1 : InsRow w w.heap.size v l) (b : Bool) (hb : validB l = b) : Ct w 25 #[v] (.bool b) := Ct.of fun w' hb' => by
  rw [← hb]; exact refValidP_any v l w' ((h1.below hb').mono hb'.size)
theorem tvalid_ct {w : World} (s : ByteArray) (hs : s.size ≤ 140737488355328) (b : Bool) (hb : isTree s = b) : Ct w 30 #[.string s] (.bool b) := Ct.of_same fun w' => by
  rw [← hb]; exact refValid_any s (by omega) w'
/-- The reference's machine, loaded; a tree, read; what it returns. -/
theorem load_ct {w : World} {v : Value} {l : List Ins} (hl : InsRow w w.heap.size v l) (hv : validB l = true) : ∀ w', Below w.heap.size w w' → Calls Try.prog 35 #[v] w' fun e w'' => ∃ gm tv, e = .returned (.pointer (some ⟨gm, 0, none⟩)) ∧ Hid (RMachP w'' w''.heap.size gm l v tv) ∧ Below w.heap.size w w'' := fun w' hb =>
  (load_any v l w' ((hl.below hb).mono hb.size) hv).mono fun _e _w'' ⟨gm, tv, h1, h2, h3⟩ => ⟨gm, tv, h1, h2, hb.trans (h3.mono hb.size)⟩
theorem read_ct {w : World} (t : Tr) (ht : t.size ≤ 2000000) : ∀ w', Below w.heap.size w w' → Calls Try.prog 33 #[.string (TS t)] w' fun e w'' => ∃ q, e = .returned (.pointer q) ∧ Hid (NodeP 58 w'' t (.pointer q) ∧ Below w'.heap.size w' w'') ∧ Below w.heap.size w w'' := fun w' hb =>
  (read_ok t ht w').mono fun _e _w'' ⟨q, h1, h2, h3⟩ => ⟨q, h1, ⟨h2, h3⟩, hb.trans (h3.mono hb.size)⟩
theorem rrun_ct {w w' : World} {gm : Nat} {l : List Ins} {pv tv : Value} {t : Tr} {q : Option Addr} {K : Nat} (hK : K ≤ 100000000) (hm : RMachP w' w'.heap.size gm l pv tv) (hx : NodeP 58 w' t (.pointer q)) (ht : t.size ≤ 2000000) (hv : validB l = true) (y : Tr) (n : Nat) (er : Int) (hr : (goF l K 0 (startS t)).rrun = (y, n, er)) (hb : Below w.heap.size w w') :
    Calls Try.prog 36 #[.pointer (some ⟨gm, 0, none⟩), .pointer q, .int .i64 K] w' fun e w'' => ∃ q', e = .returned (.tuple #[.pointer q', .int .i64 n, .int .i64 er]) ∧ Hid (NodeP 58 w'' y (.pointer q')) ∧ Below w.heap.size w w'' := by
  have := rrun_any w' gm l pv tv t _ K hK hm hx ht (validB_all hv) (validB_len hv)
  rw [hr] at this
  exact this.mono fun e w'' ⟨q', h1, h2, h3⟩ => ⟨q', h1, h2, hb.trans (h3.mono hb.size)⟩
theorem text_ct {w w' : World} {t : Tr} {q : Option Addr} (hx : NodeP 58 w' t (.pointer q)) (ht : t.size ≤ 2000000) (hb : Below w.heap.size w w') :
    Calls Try.prog 46 #[.pointer q] w' fun e w'' => e = .returned (.string (TS t)) ∧ Below w.heap.size w w'' :=
  (rnodeText_any t _ w' hx (by omega)).mono fun e w'' h => ⟨h.1, hb.trans (h.2.mono hb.size)⟩

end Go.Proofs.Ytlaeljkjdfffjaa

namespace Go.Proofs.Ytlaeljkjdfffjaa
open Go.RowKit

theorem goF_more_done {l : List Ins} : ∀ {f n : Nat} {s s' : St} {k : Nat}, goF l f n s = .done s' k → ∀ m, goF l (f + m) n s = .done s' k := by
  intro f
  induction f with
  | zero =>
    intro n s s' k h m
    by_cases hp : s.pos = l.length
    · rw [goF_done hp] at h ⊢; exact h
    · rw [goF_zero hp] at h; cases h
  | succ f ih =>
    intro n s s' k h m
    by_cases hp : s.pos = l.length
    · rw [goF_done hp] at h ⊢; exact h
    · rw [show f + 1 + m = (f + m) + 1 by omega]
      cases hs : stepP l s with
      | none => rw [goF_big hp hs] at h; cases h
      | some s1 => rw [goF_step hp hs] at h ⊢; exact ih h m
theorem goF_more_big {l : List Ins} : ∀ {f n : Nat} {s : St}, goF l f n s = .big → ∀ m, goF l (f + m) n s = .big := by
  intro f
  induction f with
  | zero =>
    intro n s h m
    by_cases hp : s.pos = l.length
    · rw [goF_done hp] at h; cases h
    · rw [goF_zero hp] at h; cases h
  | succ f ih =>
    intro n s h m
    by_cases hp : s.pos = l.length
    · rw [goF_done hp] at h; cases h
    · rw [show f + 1 + m = (f + m) + 1 by omega]
      cases hs : stepP l s with
      | none => rw [goF_big hp hs]
      | some s1 => rw [goF_step hp hs] at h ⊢; exact ih h m
theorem goF_count {l : List Ins} : ∀ {f n : Nat} {s s' : St} {k : Nat}, goF l f n s = .done s' k → n ≤ k ∧ k ≤ n + f ∧ goF l (k - n) n s = .done s' k ∧ ∀ j, j < k - n → ∃ s2 m, goF l j n s = .fuel s2 m := by
  intro f
  induction f with
  | zero =>
    intro n s s' k h
    by_cases hp : s.pos = l.length
    · rw [goF_done hp] at h; cases h; exact ⟨Nat.le_refl _, by omega, goF_done hp, fun j hj => by omega⟩
    · rw [goF_zero hp] at h; cases h
  | succ f ih =>
    intro n s s' k h
    by_cases hp : s.pos = l.length
    · rw [goF_done hp] at h; cases h; exact ⟨Nat.le_refl _, by omega, goF_done hp, fun j hj => by omega⟩
    · cases hs : stepP l s with
      | none => rw [goF_big hp hs] at h; cases h
      | some s1 =>
        rw [goF_step hp hs] at h
        obtain ⟨h1, h2, h3, h4⟩ := ih h
        refine ⟨by omega, by omega, ?_, fun j hj => ?_⟩
        · rw [show k - n = (k - (n + 1)) + 1 by omega, goF_step hp hs]; exact h3
        · cases j with
          | zero => exact ⟨_, _, goF_zero hp⟩
          | succ j => rw [goF_step hp hs]; exact h4 j (by omega)
theorem twin_ct {w : World} {v : Value} {l : List Ins} (hl : InsRow w w.heap.size v l) : ∀ w', Below w.heap.size w w' → Calls Try.prog 24 #[v] w' fun e w'' => ∃ v', e = .returned v' ∧ Hid (InsRow w'' w''.heap.size v' l) ∧ Below w.heap.size w w'' := fun w' hb =>
  (twin_any v l w' ((hl.below hb).mono hb.size)).mono fun _e _w'' ⟨v', h1, h2, h3⟩ => ⟨v', h1, h2, hb.trans (h3.mono hb.size)⟩
/-- Run at any place. -/
theorem run_at {w : World} {l : List Ins} (hv : validB l = true) {t : Tr} (ht : t.size ≤ 2000000) {S : ByteArray} (hS : TS t = S) : ∀ (K : Nat) (Ki : Int), Ki = K → K ≤ 10000000 → ∀ y k er, (goF l K 0 (startS t)).run = (y, k, er) → ∀ w' v', InsRow w' w'.heap.size v' l → Below w.heap.size w w' →
    Calls Try.prog 91 #[v', .string S, .int .i64 Ki] w' fun e w'' => e = .returned (.tuple #[.string y, .int .i64 k, .int .i64 er]) ∧ Below w.heap.size w w'' := by
  rintro K _ rfl hK y k er hr w' v' hl hb
  rw [← hS]
  exact (run_ct hl hv t ht K hK y k er hr w' (Below.refl _ _)).mono fun e w'' h => ⟨h.1, hb.trans (h.2.mono hb.size)⟩

end Go.Proofs.Ytlaeljkjdfffjaa

namespace Go.Proofs.Ytlaeljkjdfffjaa
open Go.RowKit

theorem raft_ct {w w' : World} {gm : Nat} {l : List Ins} {pv tv : Value} {t : Tr} {q : Option Addr} {K : Nat} (hK : K ≤ 100000000) (hm : RMachP w' w'.heap.size gm l pv tv) (hx : NodeP 58 w' t (.pointer q)) (ht : t.size ≤ 2000000) (hv : validB l = true) (R : Res) (hr : goF l K 0 (startS t) = R) (_ : Below w.heap.size w w') :
    Calls Try.prog 98 #[.pointer (some ⟨gm, 0, none⟩), .pointer q, .int .i64 K] w' (RAft w' R) := by
  rw [← hr]; exact rafter_any w' gm l pv tv t _ K hK hm hx ht (validB_all hv) (validB_len hv)

theorem sameB_self (l : List ByteArray) : sameB l l = true := by unfold sameB; exact decide_eq_true rfl

end Go.Proofs.Ytlaeljkjdfffjaa

namespace Go.Proofs.Ytlaeljkjdfffjaa
open Go.RowKit

theorem blk_lift {A B : World} {b : Nat} {o : Obj} (hb : Below A.heap.size A B) (h : A.heap[b]? = some o) : B.heap[b]? = some o := below_blk hb h (Array.getElem?_eq_some_iff.1 h).1
theorem same_at {w : World} {v v' : Value} {l l' : List Ins} (b : Bool) (h1 : InsRow w w.heap.size v l) (h2 : InsRow w w.heap.size v' l') (hb : sameP l l' = b) : Calls Try.prog 28 #[v, v'] w fun e w' => e = .returned (.bool b) ∧ Below w.heap.size w w' := same_ct h1 h2 b hb w (Below.refl _ _)
theorem same_self {w : World} {v v' : Value} {l : List Ins} (h1 : InsRow w w.heap.size v l) (h2 : InsRow w w.heap.size v' l) : Calls Try.prog 28 #[v, v'] w fun e w' => e = .returned (.bool true) ∧ Below w.heap.size w w' := same_at true h1 h2 (sameP_self l)
theorem cvalid_at {w : World} {v : Value} {l : List Ins} (b : Bool) (hb : validB l = b) (h1 : InsRow w w.heap.size v l) : Calls Try.prog 25 #[v] w fun e w' => e = .returned (.bool b) ∧ Below w.heap.size w w' := cvalid_ct h1 b hb w (Below.refl _ _)
theorem tvalid_at (s : ByteArray) (hs : s.size ≤ 140737488355328) (b : Bool) (hb : isTree s = b) (w : World) : Calls Try.prog 30 #[.string s] w fun e w' => e = .returned (.bool b) ∧ Below w.heap.size w w' := tvalid_ct s hs b hb w (Below.refl _ _)
/-- Run, where it may run. -/
theorem runOk_at {w : World} {v : Value} {l : List Ins} {t : Tr} {S : ByteArray} (K : Nat) (Ki : Int) (y : ByteArray) (k : Nat) (er : Int) (hr : (goF l K 0 (startS t)).run = (y, k, er)) (hv : validB l = true) (ht : t.size ≤ 2000000) (hS : TS t = S) (hKi : Ki = K) (hK : K ≤ 10000000) (hl : InsRow w w.heap.size v l) :
    Calls Try.prog 91 #[v, .string S, .int .i64 Ki] w fun e w' => e = .returned (.tuple #[.string y, .int .i64 k, .int .i64 er]) ∧ Below w.heap.size w w' := run_at hv ht hS K Ki hKi hK y k er hr w v hl (Below.refl _ _)

end Go.Proofs.Ytlaeljkjdfffjaa

namespace Go.Proofs.Ytlaeljkjdfffjaa
open Go.RowKit

/-- The greatest register of an instruction, of a program. -/
def rX (x : Ins) : Nat := if x.op = 5 then x.a.toNat else max x.a.toNat (max x.b.toNat x.c.toNat)
def mostN (l : List Ins) : Nat := (l.map rX).foldr max 0
def regN (l : List Ins) : Nat := mostN l + 1
theorem foldr_max_snoc (l : List Nat) (n : Nat) : (l ++ [n]).foldr max 0 = max (l.foldr max 0) n := by
  induction l with
  | nil => simp
  | cons a l ih => simp only [List.cons_append, List.foldr_cons, ih]; omega
theorem mostN_snoc (l : List Ins) (x : Ins) : mostN (l ++ [x]) = max (mostN l) (rX x) := by unfold mostN; rw [List.map_append, List.map_cons, List.map_nil, foldr_max_snoc]
theorem mostN_append (l m : List Ins) : mostN (l ++ m) = max (mostN l) (mostN m) := by
  unfold mostN
  rw [List.map_append]
  induction l with
  | nil => simp
  | cons a l ih => simp only [List.map_cons, List.cons_append, List.foldr_cons, ih]; omega
theorem mostN_succ (l : List Ins) (k : Nat) {x : Ins} (hx : l[k]? = some x) : mostN (l.take (k + 1)) = max (mostN (l.take k)) (rX x) := by rw [take_snoc' _ _ _ hx, mostN_snoc]
theorem mostN_all (l : List Ins) : mostN (l.take l.length) = mostN l := by rw [List.take_of_length_le (Nat.le_refl _)]
/-- The numbers of a valid instruction. -/
theorem right_nats {x : Ins} {i n : Int} (h : rightB x i n = true) : ∃ a : Nat, x.a = a ∧ a < 32 ∧ (x.op ≠ 5 → ∃ b c : Nat, x.b = b ∧ x.c = c ∧ b < 32 ∧ c < 32) := by
  unfold rightB at h
  simp only [Bool.and_eq_true, Bool.or_eq_true, beq_iff_eq] at h
  obtain ⟨⟨⟨h1, h2⟩, h3⟩, h4⟩ := h
  obtain ⟨a, ha, ha2⟩ := regB_nat h1
  refine ⟨a, ha, ha2, fun ho => ?_⟩
  by_cases o0 : x.op = 0
  · rw [if_pos o0] at h4
    simp only [Bool.and_eq_true, beq_iff_eq] at h4
    refine ⟨0, 0, h4.1, ?_, by omega, by omega⟩
    rcases h3 with h3 | h3
    · omega
    · exact h3
  rw [if_neg o0] at h4
  by_cases o1 : x.op = 1 ∨ x.op = 3 ∨ x.op = 4
  · rw [if_pos o1] at h4
    obtain ⟨b, hb, hb2⟩ := regB_nat h4
    refine ⟨b, 0, hb, ?_, hb2, by omega⟩
    rcases h3 with h3 | h3
    · omega
    · exact h3
  rw [if_neg o1] at h4
  by_cases o2 : x.op = 2
  · rw [if_pos o2] at h4
    simp only [Bool.and_eq_true] at h4
    obtain ⟨b, hb, hb2⟩ := regB_nat h4.1
    obtain ⟨c, hc, hc2⟩ := regB_nat h4.2
    exact ⟨b, c, hb, hc, hb2, hc2⟩
  rw [if_neg o2, if_neg ho] at h4
  cases h4
theorem rX_lt {x : Ins} {i n : Int} (h : rightB x i n = true) : rX x < 32 := by
  obtain ⟨a, ha, ha2, h2⟩ := right_nats h
  unfold rX
  split
  · omega
  · obtain ⟨b, c, hb, hc, hb2, hc2⟩ := h2 (by assumption)
    omega
theorem mostN_lt {l : List Ins} (hv : rightAll l = true) (k : Nat) (hk : k ≤ l.length) : mostN (l.take k) < 32 := by
  induction k with
  | zero => simp [mostN]
  | succ k ih =>
    obtain ⟨x, hx⟩ : ∃ x, l[k]? = some x := ⟨_, List.getElem?_eq_getElem (by omega)⟩
    rw [mostN_succ l k hx]
    have := ih (by omega)
    have := rX_lt (rightAll_get hv hx)
    omega
theorem regN_le {l : List Ins} (hv : rightAll l = true) : 1 ≤ regN l ∧ regN l ≤ 32 := by
  have := mostN_lt hv l.length (Nat.le_refl _)
  rw [mostN_all] at this
  unfold regN; omega

set_option maxHeartbeats 4000000 in
theorem codeRegs_ok (v : Value) (l : List Ins) (w : World) (hl : InsRow w w.heap.size v l) (hv : validB l = true) :
    Calls Try.prog 114 #[v] w fun e w' => e = .returned (.tuple #[.int .i64 (regN l : Nat), .int .i64 0]) ∧ Below w.heap.size w w' := by
  have kv := codeValidP_at v l w hl _ hv
  have hn4 := validB_len hv
  have HV := Lib.hid (validB_all hv)
  obtain ⟨ao, cap, rfl⟩ := hl.len
  obtain ⟨n, hn'⟩ : ∃ n, l.length = n := ⟨_, rfl⟩
  rw [hn'] at hl hn4 kv ⊢
  have HN := Lib.hid hn'; clear hn' hv
  obtain ⟨R, hR⟩ : ∃ R, regN l = R := ⟨_, rfl⟩
  rw [hR]
  have HR := Lib.hid hR; clear hR
  have hlw := Lib.hid hl
  go_enter Try.func114, Try.ntmps114
  go_wp2_with fail
  refine kv.mono ?_
  rintro e w1 ⟨rfl, hb1⟩
  have hl1 := Lib.hid ((hl.below hb1).mono hb1.size)
  have HB1 := Lib.hid hb1
  clear kv hl hb1
  go_wp2
  go_loopg [4, 12] n (fun gg m i wr => ∃ k q : Nat, k ≤ n ∧ gg = n - k ∧ i = .int .i64 k ∧ m = .int .i64 q ∧ q < 32 ∧ Aside (q = mostN (l.take k)) ∧ Below w1.heap.size w1 wr)
  case atStart => exact ⟨0, 0, by omega, rfl, rfl, rfl, by omega, rfl, Below.refl _ _⟩
  case round =>
    obtain ⟨k, q, hk, hg, rfl, rfl, hq, hs, hbw⟩ := hrel
    have HG := Lib.hid hg; clear hg
    by_cases hlt : k < n
    · obtain ⟨x, hx⟩ : ∃ s, l[k]? = some s := ⟨_, List.getElem?_eq_getElem (by rw [HN.out]; exact hlt)⟩
      have hl2 := hl1.out.below hbw
      obtain ⟨g, off, rfl, hg, c0, c1, c2, c3, c4⟩ := hl2.get hx
      have hr := rightAll_get HV.out hx
      obtain ⟨a, ha, ha2, hbc⟩ := right_nats hr
      have hsn : Hid (mostN (l.take (k + 1)) = max q (rX x)) := by show _ = _; rw [mostN_succ l k hx, hs.out]
      have hi0 : (0 : Int) ≤ (k : Int) := Int.natCast_nonneg _
      have hi1 : (k : Int) < (n : Int) := by omega
      have hb2 := hbw.alloc hbw.size (.cells #[.int .i64 x.op, .int .i64 x.a, .int .i64 x.b, .int .i64 x.c, .string x.tree] 41)
      by_cases ho : x.op = 5
      · have hop : (x.op == 5) = true := by rw [ho]; rfl
        have hrx : Hid (rX x = a) := by show _ = _; unfold rX; rw [if_pos ho, ha]; simp
        clear ho hr hx hl2 hbc
        rw [ha] at c1 hb2
        clear ha
        go_wp2
        go_roundg (n - (k + 1))
        case measure => rw [HG.out]; omega
        case rel => exact ⟨k + 1, max q a, by omega, rfl, by go_num, by congr 1; omega, by omega, by show _ = _; rw [hsn.out, hrx.out], hb2⟩
      · have hop : (x.op == 5) = false := by rw [beq_eq_false_iff_ne]; exact ho
        obtain ⟨b, c, hb, hc, hb32, hc32⟩ := hbc ho
        have hrx : Hid (rX x = max a (max b c)) := by show _ = _; unfold rX; rw [if_neg ho, ha, hb, hc]; simp
        clear ho hr hx hl2 hbc
        rw [ha, hb, hc] at hb2
        rw [ha] at c1
        rw [hb] at c2
        rw [hc] at c3
        clear ha hb hc
        go_wp2
        all_goals (
        go_roundg (n - (k + 1))
        case measure => rw [HG.out]; omega
        case rel => exact ⟨k + 1, max q (max a (max b c)), by omega, rfl, by go_num, by congr 1; omega, by omega, by show _ = _; rw [hsn.out, hrx.out], hb2⟩)
    · have hkn : k = n := by omega
      subst hkn
      have hR1 : Hid ((q : Int) + 1 = (R : Nat)) := Lib.hid (by have h1 := HR.out; have h2 := hs.out; unfold regN at h1; rw [← HN.out, mostN_all] at h2; omega)
      have HBW := Lib.hid (HB1.out.trans (hbw.mono HB1.out.size))
      clear hlt hk hs HG
      go_wp2
      refine bodyPost_ret (v := .tuple #[.int .i64 ((q : Int) + 1), .int .i64 0]) (by simp [results, Try.results114, go_sem]) rfl ?_
      exact ⟨by rw [hR1.out], HBW.out⟩

theorem codeRegs_bad (v : Value) (l : List Ins) (w : World) (hl : InsRow w w.heap.size v l) (hv : validB l = false) :
    Calls Try.prog 114 #[v] w fun e w' => e = .returned (.tuple #[.int .i64 0, .int .i64 1]) ∧ Below w.heap.size w w' := by
  have kv := codeValidP_at v l w hl _ hv
  go_enter Try.func114, Try.ntmps114
  go_wp2_with fail
  refine kv.mono ?_
  rintro e w1 ⟨rfl, hb1⟩
  go_wp2
  refine bodyPost_ret (v := .tuple #[.int .i64 0, .int .i64 1]) (by simp [results, Try.results114, go_sem]) rfl ?_
  exact ⟨rfl, hb1⟩

set_option maxHeartbeats 4000000 in
theorem refRegs_ok (v : Value) (l : List Ins) (w : World) (hl : InsRow w w.heap.size v l) (hv : validB l = true) :
    Calls Try.prog 26 #[v] w fun e w' => e = .returned (.int .i64 (regN l : Nat)) ∧ Below w.heap.size w w' := by
  have hn4 := validB_len hv
  have HV := Lib.hid (validB_all hv)
  obtain ⟨ao, cap, rfl⟩ := hl.len
  obtain ⟨n, hn'⟩ : ∃ n, l.length = n := ⟨_, rfl⟩
  rw [hn'] at hl hn4 ⊢
  have HN := Lib.hid hn'; clear hn' hv
  obtain ⟨R, hR⟩ : ∃ R, regN l = R := ⟨_, rfl⟩
  rw [hR]
  have HR := Lib.hid hR; clear hR
  have hl1 := Lib.hid hl
  clear hl
  go_enter Try.func26, Try.ntmps26
  go_wp2
  go_loopg [3, 4] n (fun gg m i wr => ∃ k q : Nat, k ≤ n ∧ gg = n - k ∧ i = .int .i64 k ∧ m = .int .i64 ((q : Int) + 1) ∧ q < 32 ∧ Aside (q = mostN (l.take k)) ∧ Below w.heap.size w wr)
  case atStart => exact ⟨0, 0, by omega, rfl, rfl, rfl, by omega, rfl, Below.refl _ _⟩
  case round =>
    obtain ⟨k, q, hk, hg, rfl, rfl, hq, hs, hbw⟩ := hrel
    have HG := Lib.hid hg; clear hg
    by_cases hlt : k < n
    · obtain ⟨x, hx⟩ : ∃ s, l[k]? = some s := ⟨_, List.getElem?_eq_getElem (by rw [HN.out]; exact hlt)⟩
      have hl2 := hl1.out.below hbw
      obtain ⟨g, off, rfl, hg, c0, c1, c2, c3, c4⟩ := hl2.get hx
      have hr := rightAll_get HV.out hx
      obtain ⟨a, ha, ha2, hbc⟩ := right_nats hr
      have hsn : Hid (mostN (l.take (k + 1)) = max q (rX x)) := by show _ = _; rw [mostN_succ l k hx, hs.out]
      have hi0 : (0 : Int) ≤ (k : Int) := Int.natCast_nonneg _
      have hi1 : (k : Int) < (n : Int) := by omega
      have s0 : IntKind.i64.wrap ((a : Int) + 1) = (a : Int) + 1 := IntWalk.i64_in _ (by omega)
      by_cases ho : x.op = 5
      · have hop : (x.op == 5) = true := by rw [ho]; rfl
        have hrx : Hid (rX x = a) := by show _ = _; unfold rX; rw [if_pos ho, ha]; simp
        clear ho hr hx hl2 hbc
        rw [ha] at c1
        clear ha
        go_wp2
        all_goals (
        go_roundg (n - (k + 1))
        case measure => rw [HG.out]; omega
        case rel => exact ⟨k + 1, max q a, by omega, rfl, by go_num, by congr 1; omega, by omega, by show _ = _; rw [hsn.out, hrx.out], hbw⟩)
      · have hop : (x.op == 5) = false := by rw [beq_eq_false_iff_ne]; exact ho
        obtain ⟨b, c, hb, hc, hb32, hc32⟩ := hbc ho
        have hrx : Hid (rX x = max a (max b c)) := by show _ = _; unfold rX; rw [if_neg ho, ha, hb, hc]; simp
        have s1 : IntKind.i64.wrap ((b : Int) + 1) = (b : Int) + 1 := IntWalk.i64_in _ (by omega)
        have s2 : IntKind.i64.wrap ((c : Int) + 1) = (c : Int) + 1 := IntWalk.i64_in _ (by omega)
        clear ho hr hx hl2 hbc
        rw [ha] at c1
        rw [hb] at c2
        rw [hc] at c3
        clear ha hb hc
        go_wp2
        go_quiet (fail)
        go_wp2
        all_goals (
        go_roundg (n - (k + 1))
        case measure => rw [HG.out]; omega
        case rel => exact ⟨k + 1, max q (max a (max b c)), by omega, rfl, by go_num, by congr 1; omega, by omega, by show _ = _; rw [hsn.out, hrx.out], below_drewN hbw _⟩)
    · have hkn : k = n := by omega
      subst hkn
      have hR1 : Hid ((q : Int) + 1 = (R : Nat)) := Lib.hid (by have h1 := HR.out; have h2 := hs.out; unfold regN at h1; rw [← HN.out, mostN_all] at h2; omega)
      have HBW := Lib.hid hbw
      clear hlt hk hs HG hbw
      go_wp2
      go_ret
      exact ⟨by rw [hR1.out]; rfl, HBW.out⟩

end Go.Proofs.Ytlaeljkjdfffjaa

namespace Go.Proofs.Ytlaeljkjdfffjaa
open Go.RowKit

/-- The fields of an instruction as a tree. -/
def bodyB (x : Ins) : ByteArray :=
  if x.op = 0 then ⟨#[49]⟩ ++ TS (.num x.a.toNat) ++ x.tree
  else if x.op = 2 then ⟨#[49]⟩ ++ TS (.num x.a.toNat) ++ ⟨#[49]⟩ ++ TS (.num x.b.toNat) ++ TS (.num x.c.toNat)
  else if x.op = 5 then (if x.b < 0 then ⟨#[49]⟩ ++ TS (.num x.a.toNat) ++ ⟨#[49, 49, 48, 48]⟩ ++ TS (.num (-x.b).toNat) else ⟨#[49]⟩ ++ TS (.num x.a.toNat) ++ ⟨#[49, 48]⟩ ++ TS (.num x.b.toNat))
  else ⟨#[49]⟩ ++ TS (.num x.a.toNat) ++ TS (.num x.b.toNat)
theorem num_size (n : Nat) : (TS (.num n)).size = 2 * n + 1 := by rw [TS_size, size_num]
theorem cnum_any (n : Nat) (h : n ≤ 100000) (w : World) : Calls Try.prog 104 #[.int .i64 n] w fun e w' => e = .returned (.string (TS (.num n))) ∧ Below w.heap.size w w' := by
  have k1 := fun w => rep_add0 n (by omega) w
  have hc := fun w => repeat10 n (by omega) w
  clear h
  generalize TS (.num n) = r at k1 ⊢
  generalize rep10 n = q at k1 hc
  go_enter Try.func104, Try.ntmps104
  go_wp2_with fail
  refine (hc _).mono ?_
  rintro e w1 ⟨rfl, hb⟩
  go_wp2
  go_ret
  exact ⟨rfl, hb⟩
/-- The same, where the number is given as an integer. -/
theorem cnum_at (i : Int) (n : Nat) (hi : i = n) (h : n ≤ 100000) (r : ByteArray) (hr : TS (.num n) = r) (w0 w : World) (hb : Below w0.heap.size w0 w) : Calls Try.prog 104 #[.int .i64 i] w fun e w' => e = .returned (.string r) ∧ Below w0.heap.size w0 w' := by
  subst hi; subst hr
  exact (cnum_any n h w).mono fun e w' h => ⟨h.1, hb.trans (h.2.mono hb.size)⟩

set_option maxHeartbeats 4000000 in
theorem put_set (op : Int) (b : Int) (c : Int) (t : ByteArray) (ht : t.size ≤ 2000000) (i : Nat) (zi : i ≤ 100000)  (w : World) : Calls Try.prog 136 #[.agg #[.int .i64 op, .int .i64 ((i : Int)), .int .i64 (b), .int .i64 (c), .string t]] w fun e w' => e = .returned (.string (⟨#[49]⟩ ++ TS (.num i) ++ t)) ∧ Below w.heap.size w w' := by
  obtain ⟨ri, hri⟩ : ∃ r, TS (.num i) = r := ⟨_, rfl⟩
  have si : ri.size ≤ 300000 := by rw [← hri, num_size]; omega
  rw [hri]
  obtain ⟨q0, hq0⟩ : ∃ q, (⟨#[49]⟩ ++ ri : ByteArray) = q := ⟨_, rfl⟩
  have sq0 : q0.size ≤ 2000020 := by rw [← hq0, ByteArray.size_append]; have h1 : (⟨#[49]⟩ : ByteArray).size ≤ 10 := (by decide); have h2 : (ri : ByteArray).size ≤ 2000000 := (by omega); omega
  have A0 := fun w => run_string_add_sum (P := Try.prog) (w := w) (⟨#[49]⟩) (ri) (by have h1 : (⟨#[49]⟩ : ByteArray).size ≤ 10 := (by decide); have h2 : (ri : ByteArray).size ≤ 2000000 := (by omega); omega)
  rw [hq0] at A0
  obtain ⟨q1, hq1⟩ : ∃ q, (q0 ++ t : ByteArray) = q := ⟨_, rfl⟩
  have sq1 : q1.size ≤ 4000030 := by rw [← hq1, ByteArray.size_append]; have h1 : (q0 : ByteArray).size ≤ 2000020 := sq0; have h2 : (t : ByteArray).size ≤ 2000000 := (by omega); omega
  have A1 := fun w => run_string_add_sum (P := Try.prog) (w := w) (q0) (t) (by have h1 : (q0 : ByteArray).size ≤ 2000020 := sq0; have h2 : (t : ByteArray).size ≤ 2000000 := (by omega); omega)
  rw [hq1] at A1
  rw [hq0, hq1]
  clear hq0 sq0 hq1 sq1
  have hb0 := (Below.refl w.heap.size w).alloc (Nat.le_refl _) (.cells #[.int .i64 op, .int .i64 ((i : Int)), .int .i64 (b), .int .i64 (c), .string t] 41)
  have hblk := heap_alloc_new w (.cells #[.int .i64 op, .int .i64 ((i : Int)), .int .i64 (b), .int .i64 (c), .string t] 41)
  obtain ⟨w1, hW⟩ : ∃ B, w.alloc (.cells #[.int .i64 op, .int .i64 ((i : Int)), .int .i64 (b), .int .i64 (c), .string t] 41) = B := ⟨_, rfl⟩
  have hsz : w1.heap.size = w.heap.size + 1 := by rw [← hW]; simp
  rw [hW] at hb0 hblk
  have cc := (block_cells hblk).1
  have KK := Lib.hid (fun (w' : World) (hb : Below w1.heap.size w1 w') => (show w'.cell? ⟨w.heap.size, 1, none⟩ = some (.int .i64 ((i : Int))) ∧ w'.cell? ⟨w.heap.size, 2, none⟩ = some (.int .i64 (b)) ∧ w'.cell? ⟨w.heap.size, 3, none⟩ = some (.int .i64 (c)) ∧ w'.cell? ⟨w.heap.size, 4, none⟩ = some (.string t) from
    ⟨(hb.cell (p := ⟨w.heap.size, 1, none⟩) (by show w.heap.size < w1.heap.size; omega)).trans (cc 1), (hb.cell (p := ⟨w.heap.size, 2, none⟩) (by show w.heap.size < w1.heap.size; omega)).trans (cc 2), (hb.cell (p := ⟨w.heap.size, 3, none⟩) (by show w.heap.size < w1.heap.size; omega)).trans (cc 3), (hb.cell (p := ⟨w.heap.size, 4, none⟩) (by show w.heap.size < w1.heap.size; omega)).trans (cc 4)⟩))
  obtain ⟨c1, c2, c3, c4⟩ := KK.out w1 (Below.refl _ _)
  have Ki := Lib.hid (cnum_at ((i : Int)) i rfl zi ri hri w1)
  have HB0 := Lib.hid hb0
  clear hblk cc hsz hb0 hri
  go_enter Try.func136, Try.ntmps136
  go_wp2
  go_region_held3 (fun w' => w'.cell? ⟨w.heap.size, 1, none⟩ = some (.int .i64 ((i : Int))) ∧ w'.cell? ⟨w.heap.size, 2, none⟩ = some (.int .i64 (b)) ∧ w'.cell? ⟨w.heap.size, 3, none⟩ = some (.int .i64 (c)) ∧ w'.cell? ⟨w.heap.size, 4, none⟩ = some (.string t))
    (with_reducible (first | exact KK.out _ hb1 | exact KK.out _ (Below.refl _ _) | exact KK.out _ (Below.refl _ _).drew | fail "keep"))
    ((first | ((with_reducible refine (Ki.out _ (by first | exact hb3 | exact hb2 | exact hb1 | exact Below.refl _ _ | exact hb3.drew | exact hb2.drew | exact hb1.drew | exact (Below.refl _ _).drew)).mono ?_); rintro e v1 ⟨rfl, hb1⟩) | (fail "arm")))
  all_goals (
  go_wp2
  go_ret
  exact ⟨rfl, by first | exact HB0.out.trans (hb1.mono HB0.out.size)⟩)

set_option maxHeartbeats 4000000 in
theorem put_regs (op : Int) (c : Int) (t : ByteArray) (_ht : t.size ≤ 2000000) (i : Nat) (zi : i ≤ 100000) (j : Nat) (zj : j ≤ 100000)  (w : World) : Calls Try.prog 160 #[.agg #[.int .i64 op, .int .i64 ((i : Int)), .int .i64 ((j : Int)), .int .i64 (c), .string t]] w fun e w' => e = .returned (.string (⟨#[49]⟩ ++ TS (.num i) ++ TS (.num j))) ∧ Below w.heap.size w w' := by
  obtain ⟨ri, hri⟩ : ∃ r, TS (.num i) = r := ⟨_, rfl⟩
  have si : ri.size ≤ 300000 := by rw [← hri, num_size]; omega
  obtain ⟨rj, hrj⟩ : ∃ r, TS (.num j) = r := ⟨_, rfl⟩
  have sj : rj.size ≤ 300000 := by rw [← hrj, num_size]; omega
  rw [hri, hrj]
  obtain ⟨q0, hq0⟩ : ∃ q, (⟨#[49]⟩ ++ ri : ByteArray) = q := ⟨_, rfl⟩
  have sq0 : q0.size ≤ 2000020 := by rw [← hq0, ByteArray.size_append]; have h1 : (⟨#[49]⟩ : ByteArray).size ≤ 10 := (by decide); have h2 : (ri : ByteArray).size ≤ 2000000 := (by omega); omega
  have A0 := fun w => run_string_add_sum (P := Try.prog) (w := w) (⟨#[49]⟩) (ri) (by have h1 : (⟨#[49]⟩ : ByteArray).size ≤ 10 := (by decide); have h2 : (ri : ByteArray).size ≤ 2000000 := (by omega); omega)
  rw [hq0] at A0
  obtain ⟨q1, hq1⟩ : ∃ q, (q0 ++ rj : ByteArray) = q := ⟨_, rfl⟩
  have sq1 : q1.size ≤ 4000030 := by rw [← hq1, ByteArray.size_append]; have h1 : (q0 : ByteArray).size ≤ 2000020 := sq0; have h2 : (rj : ByteArray).size ≤ 2000000 := (by omega); omega
  have A1 := fun w => run_string_add_sum (P := Try.prog) (w := w) (q0) (rj) (by have h1 : (q0 : ByteArray).size ≤ 2000020 := sq0; have h2 : (rj : ByteArray).size ≤ 2000000 := (by omega); omega)
  rw [hq1] at A1
  rw [hq0, hq1]
  clear hq0 sq0 hq1 sq1
  have hb0 := (Below.refl w.heap.size w).alloc (Nat.le_refl _) (.cells #[.int .i64 op, .int .i64 ((i : Int)), .int .i64 ((j : Int)), .int .i64 (c), .string t] 41)
  have hblk := heap_alloc_new w (.cells #[.int .i64 op, .int .i64 ((i : Int)), .int .i64 ((j : Int)), .int .i64 (c), .string t] 41)
  obtain ⟨w1, hW⟩ : ∃ B, w.alloc (.cells #[.int .i64 op, .int .i64 ((i : Int)), .int .i64 ((j : Int)), .int .i64 (c), .string t] 41) = B := ⟨_, rfl⟩
  have hsz : w1.heap.size = w.heap.size + 1 := by rw [← hW]; simp
  rw [hW] at hb0 hblk
  have cc := (block_cells hblk).1
  have KK := Lib.hid (fun (w' : World) (hb : Below w1.heap.size w1 w') => (show w'.cell? ⟨w.heap.size, 1, none⟩ = some (.int .i64 ((i : Int))) ∧ w'.cell? ⟨w.heap.size, 2, none⟩ = some (.int .i64 ((j : Int))) ∧ w'.cell? ⟨w.heap.size, 3, none⟩ = some (.int .i64 (c)) ∧ w'.cell? ⟨w.heap.size, 4, none⟩ = some (.string t) from
    ⟨(hb.cell (p := ⟨w.heap.size, 1, none⟩) (by show w.heap.size < w1.heap.size; omega)).trans (cc 1), (hb.cell (p := ⟨w.heap.size, 2, none⟩) (by show w.heap.size < w1.heap.size; omega)).trans (cc 2), (hb.cell (p := ⟨w.heap.size, 3, none⟩) (by show w.heap.size < w1.heap.size; omega)).trans (cc 3), (hb.cell (p := ⟨w.heap.size, 4, none⟩) (by show w.heap.size < w1.heap.size; omega)).trans (cc 4)⟩))
  obtain ⟨c1, c2, c3, c4⟩ := KK.out w1 (Below.refl _ _)
  have Ki := Lib.hid (cnum_at ((i : Int)) i rfl zi ri hri w1)
  have Kj := Lib.hid (cnum_at ((j : Int)) j rfl zj rj hrj w1)
  have HB0 := Lib.hid hb0
  clear hblk cc hsz hb0 hri hrj
  go_enter Try.func160, Try.ntmps160
  go_wp2
  go_region_held3 (fun w' => w'.cell? ⟨w.heap.size, 1, none⟩ = some (.int .i64 ((i : Int))) ∧ w'.cell? ⟨w.heap.size, 2, none⟩ = some (.int .i64 ((j : Int))) ∧ w'.cell? ⟨w.heap.size, 3, none⟩ = some (.int .i64 (c)) ∧ w'.cell? ⟨w.heap.size, 4, none⟩ = some (.string t))
    (with_reducible (first | exact KK.out _ hb2 | exact KK.out _ hb1 | exact KK.out _ (Below.refl _ _) | exact KK.out _ (Below.refl _ _).drew | fail "keep"))
    ((first | ((with_reducible refine (Ki.out _ (by first | exact hb3 | exact hb2 | exact hb1 | exact Below.refl _ _ | exact hb3.drew | exact hb2.drew | exact hb1.drew | exact (Below.refl _ _).drew)).mono ?_); rintro e v1 ⟨rfl, hb1⟩) | ((with_reducible refine (Kj.out _ (by first | exact hb3 | exact hb2 | exact hb1 | exact Below.refl _ _ | exact hb3.drew | exact hb2.drew | exact hb1.drew | exact (Below.refl _ _).drew)).mono ?_); rintro e v2 ⟨rfl, hb2⟩) | (fail "arm")))
  all_goals (
  go_wp2
  go_ret
  exact ⟨rfl, by first | exact HB0.out.trans (hb2.mono HB0.out.size) | exact HB0.out.trans (hb1.mono HB0.out.size)⟩)

set_option maxHeartbeats 4000000 in
theorem put_cons (op : Int) (t : ByteArray) (_ht : t.size ≤ 2000000) (i : Nat) (zi : i ≤ 100000) (j : Nat) (zj : j ≤ 100000) (k : Nat) (zk : k ≤ 100000)  (w : World) : Calls Try.prog 138 #[.agg #[.int .i64 op, .int .i64 ((i : Int)), .int .i64 ((j : Int)), .int .i64 ((k : Int)), .string t]] w fun e w' => e = .returned (.string (⟨#[49]⟩ ++ TS (.num i) ++ ⟨#[49]⟩ ++ TS (.num j) ++ TS (.num k))) ∧ Below w.heap.size w w' := by
  obtain ⟨ri, hri⟩ : ∃ r, TS (.num i) = r := ⟨_, rfl⟩
  have si : ri.size ≤ 300000 := by rw [← hri, num_size]; omega
  obtain ⟨rj, hrj⟩ : ∃ r, TS (.num j) = r := ⟨_, rfl⟩
  have sj : rj.size ≤ 300000 := by rw [← hrj, num_size]; omega
  obtain ⟨rk, hrk⟩ : ∃ r, TS (.num k) = r := ⟨_, rfl⟩
  have sk : rk.size ≤ 300000 := by rw [← hrk, num_size]; omega
  rw [hri, hrj, hrk]
  obtain ⟨q0, hq0⟩ : ∃ q, (⟨#[49]⟩ ++ ri : ByteArray) = q := ⟨_, rfl⟩
  have sq0 : q0.size ≤ 2000020 := by rw [← hq0, ByteArray.size_append]; have h1 : (⟨#[49]⟩ : ByteArray).size ≤ 10 := (by decide); have h2 : (ri : ByteArray).size ≤ 2000000 := (by omega); omega
  have A0 := fun w => run_string_add_sum (P := Try.prog) (w := w) (⟨#[49]⟩) (ri) (by have h1 : (⟨#[49]⟩ : ByteArray).size ≤ 10 := (by decide); have h2 : (ri : ByteArray).size ≤ 2000000 := (by omega); omega)
  rw [hq0] at A0
  obtain ⟨q1, hq1⟩ : ∃ q, (q0 ++ ⟨#[49]⟩ : ByteArray) = q := ⟨_, rfl⟩
  have sq1 : q1.size ≤ 4000030 := by rw [← hq1, ByteArray.size_append]; have h1 : (q0 : ByteArray).size ≤ 2000020 := sq0; have h2 : (⟨#[49]⟩ : ByteArray).size ≤ 2000000 := (by decide); omega
  have A1 := fun w => run_string_add_sum (P := Try.prog) (w := w) (q0) (⟨#[49]⟩) (by have h1 : (q0 : ByteArray).size ≤ 2000020 := sq0; have h2 : (⟨#[49]⟩ : ByteArray).size ≤ 2000000 := (by decide); omega)
  rw [hq1] at A1
  obtain ⟨q2, hq2⟩ : ∃ q, (q1 ++ rj : ByteArray) = q := ⟨_, rfl⟩
  have sq2 : q2.size ≤ 6000040 := by rw [← hq2, ByteArray.size_append]; have h1 : (q1 : ByteArray).size ≤ 4000030 := sq1; have h2 : (rj : ByteArray).size ≤ 2000000 := (by omega); omega
  have A2 := fun w => run_string_add_sum (P := Try.prog) (w := w) (q1) (rj) (by have h1 : (q1 : ByteArray).size ≤ 4000030 := sq1; have h2 : (rj : ByteArray).size ≤ 2000000 := (by omega); omega)
  rw [hq2] at A2
  obtain ⟨q3, hq3⟩ : ∃ q, (q2 ++ rk : ByteArray) = q := ⟨_, rfl⟩
  have sq3 : q3.size ≤ 8000050 := by rw [← hq3, ByteArray.size_append]; have h1 : (q2 : ByteArray).size ≤ 6000040 := sq2; have h2 : (rk : ByteArray).size ≤ 2000000 := (by omega); omega
  have A3 := fun w => run_string_add_sum (P := Try.prog) (w := w) (q2) (rk) (by have h1 : (q2 : ByteArray).size ≤ 6000040 := sq2; have h2 : (rk : ByteArray).size ≤ 2000000 := (by omega); omega)
  rw [hq3] at A3
  rw [hq0, hq1, hq2, hq3]
  clear hq0 sq0 hq1 sq1 hq2 sq2 hq3 sq3
  have hb0 := (Below.refl w.heap.size w).alloc (Nat.le_refl _) (.cells #[.int .i64 op, .int .i64 ((i : Int)), .int .i64 ((j : Int)), .int .i64 ((k : Int)), .string t] 41)
  have hblk := heap_alloc_new w (.cells #[.int .i64 op, .int .i64 ((i : Int)), .int .i64 ((j : Int)), .int .i64 ((k : Int)), .string t] 41)
  obtain ⟨w1, hW⟩ : ∃ B, w.alloc (.cells #[.int .i64 op, .int .i64 ((i : Int)), .int .i64 ((j : Int)), .int .i64 ((k : Int)), .string t] 41) = B := ⟨_, rfl⟩
  have hsz : w1.heap.size = w.heap.size + 1 := by rw [← hW]; simp
  rw [hW] at hb0 hblk
  have cc := (block_cells hblk).1
  have KK := Lib.hid (fun (w' : World) (hb : Below w1.heap.size w1 w') => (show w'.cell? ⟨w.heap.size, 1, none⟩ = some (.int .i64 ((i : Int))) ∧ w'.cell? ⟨w.heap.size, 2, none⟩ = some (.int .i64 ((j : Int))) ∧ w'.cell? ⟨w.heap.size, 3, none⟩ = some (.int .i64 ((k : Int))) ∧ w'.cell? ⟨w.heap.size, 4, none⟩ = some (.string t) from
    ⟨(hb.cell (p := ⟨w.heap.size, 1, none⟩) (by show w.heap.size < w1.heap.size; omega)).trans (cc 1), (hb.cell (p := ⟨w.heap.size, 2, none⟩) (by show w.heap.size < w1.heap.size; omega)).trans (cc 2), (hb.cell (p := ⟨w.heap.size, 3, none⟩) (by show w.heap.size < w1.heap.size; omega)).trans (cc 3), (hb.cell (p := ⟨w.heap.size, 4, none⟩) (by show w.heap.size < w1.heap.size; omega)).trans (cc 4)⟩))
  obtain ⟨c1, c2, c3, c4⟩ := KK.out w1 (Below.refl _ _)
  have Ki := Lib.hid (cnum_at ((i : Int)) i rfl zi ri hri w1)
  have Kj := Lib.hid (cnum_at ((j : Int)) j rfl zj rj hrj w1)
  have Kk := Lib.hid (cnum_at ((k : Int)) k rfl zk rk hrk w1)
  have HB0 := Lib.hid hb0
  clear hblk cc hsz hb0 hri hrj hrk
  go_enter Try.func138, Try.ntmps138
  go_wp2
  go_region_held3 (fun w' => w'.cell? ⟨w.heap.size, 1, none⟩ = some (.int .i64 ((i : Int))) ∧ w'.cell? ⟨w.heap.size, 2, none⟩ = some (.int .i64 ((j : Int))) ∧ w'.cell? ⟨w.heap.size, 3, none⟩ = some (.int .i64 ((k : Int))) ∧ w'.cell? ⟨w.heap.size, 4, none⟩ = some (.string t))
    (with_reducible (first | exact KK.out _ hb3 | exact KK.out _ hb2 | exact KK.out _ hb1 | exact KK.out _ (Below.refl _ _) | exact KK.out _ (Below.refl _ _).drew | fail "keep"))
    ((first | ((with_reducible refine (Ki.out _ (by first | exact hb3 | exact hb2 | exact hb1 | exact Below.refl _ _ | exact hb3.drew | exact hb2.drew | exact hb1.drew | exact (Below.refl _ _).drew)).mono ?_); rintro e v1 ⟨rfl, hb1⟩) | ((with_reducible refine (Kj.out _ (by first | exact hb3 | exact hb2 | exact hb1 | exact Below.refl _ _ | exact hb3.drew | exact hb2.drew | exact hb1.drew | exact (Below.refl _ _).drew)).mono ?_); rintro e v2 ⟨rfl, hb2⟩) | ((with_reducible refine (Kk.out _ (by first | exact hb3 | exact hb2 | exact hb1 | exact Below.refl _ _ | exact hb3.drew | exact hb2.drew | exact hb1.drew | exact (Below.refl _ _).drew)).mono ?_); rintro e v3 ⟨rfl, hb3⟩) | (fail "arm")))
  all_goals (
  go_wp2
  go_ret
  exact ⟨rfl, by first | exact HB0.out.trans (hb3.mono HB0.out.size) | exact HB0.out.trans (hb2.mono HB0.out.size) | exact HB0.out.trans (hb1.mono HB0.out.size)⟩)

set_option maxHeartbeats 4000000 in
theorem put_back (op : Int) (c : Int) (t : ByteArray) (_ht : t.size ≤ 2000000) (i : Nat) (zi : i ≤ 100000) (j : Nat) (zj : j ≤ 100000) (hneg : 0 < j) (w : World) : Calls Try.prog 140 #[.agg #[.int .i64 op, .int .i64 ((i : Int)), .int .i64 (-(j : Int)), .int .i64 (c), .string t]] w fun e w' => e = .returned (.string (⟨#[49]⟩ ++ TS (.num i) ++ ⟨#[49, 49, 48, 48]⟩ ++ TS (.num j))) ∧ Below w.heap.size w w' := by
  obtain ⟨ri, hri⟩ : ∃ r, TS (.num i) = r := ⟨_, rfl⟩
  have si : ri.size ≤ 300000 := by rw [← hri, num_size]; omega
  obtain ⟨rj, hrj⟩ : ∃ r, TS (.num j) = r := ⟨_, rfl⟩
  have sj : rj.size ≤ 300000 := by rw [← hrj, num_size]; omega
  rw [hri, hrj]
  obtain ⟨q0, hq0⟩ : ∃ q, (⟨#[49]⟩ ++ ri : ByteArray) = q := ⟨_, rfl⟩
  have sq0 : q0.size ≤ 2000020 := by rw [← hq0, ByteArray.size_append]; have h1 : (⟨#[49]⟩ : ByteArray).size ≤ 10 := (by decide); have h2 : (ri : ByteArray).size ≤ 2000000 := (by omega); omega
  have A0 := fun w => run_string_add_sum (P := Try.prog) (w := w) (⟨#[49]⟩) (ri) (by have h1 : (⟨#[49]⟩ : ByteArray).size ≤ 10 := (by decide); have h2 : (ri : ByteArray).size ≤ 2000000 := (by omega); omega)
  rw [hq0] at A0
  obtain ⟨q1, hq1⟩ : ∃ q, (q0 ++ ⟨#[49, 49, 48, 48]⟩ : ByteArray) = q := ⟨_, rfl⟩
  have sq1 : q1.size ≤ 4000030 := by rw [← hq1, ByteArray.size_append]; have h1 : (q0 : ByteArray).size ≤ 2000020 := sq0; have h2 : (⟨#[49, 49, 48, 48]⟩ : ByteArray).size ≤ 2000000 := (by decide); omega
  have A1 := fun w => run_string_add_sum (P := Try.prog) (w := w) (q0) (⟨#[49, 49, 48, 48]⟩) (by have h1 : (q0 : ByteArray).size ≤ 2000020 := sq0; have h2 : (⟨#[49, 49, 48, 48]⟩ : ByteArray).size ≤ 2000000 := (by decide); omega)
  rw [hq1] at A1
  obtain ⟨q2, hq2⟩ : ∃ q, (q1 ++ rj : ByteArray) = q := ⟨_, rfl⟩
  have sq2 : q2.size ≤ 6000040 := by rw [← hq2, ByteArray.size_append]; have h1 : (q1 : ByteArray).size ≤ 4000030 := sq1; have h2 : (rj : ByteArray).size ≤ 2000000 := (by omega); omega
  have A2 := fun w => run_string_add_sum (P := Try.prog) (w := w) (q1) (rj) (by have h1 : (q1 : ByteArray).size ≤ 4000030 := sq1; have h2 : (rj : ByteArray).size ≤ 2000000 := (by omega); omega)
  rw [hq2] at A2
  rw [hq0, hq1, hq2]
  clear hq0 sq0 hq1 sq1 hq2 sq2
  have hb0 := (Below.refl w.heap.size w).alloc (Nat.le_refl _) (.cells #[.int .i64 op, .int .i64 ((i : Int)), .int .i64 (-(j : Int)), .int .i64 (c), .string t] 41)
  have hblk := heap_alloc_new w (.cells #[.int .i64 op, .int .i64 ((i : Int)), .int .i64 (-(j : Int)), .int .i64 (c), .string t] 41)
  obtain ⟨w1, hW⟩ : ∃ B, w.alloc (.cells #[.int .i64 op, .int .i64 ((i : Int)), .int .i64 (-(j : Int)), .int .i64 (c), .string t] 41) = B := ⟨_, rfl⟩
  have hsz : w1.heap.size = w.heap.size + 1 := by rw [← hW]; simp
  rw [hW] at hb0 hblk
  have cc := (block_cells hblk).1
  have KK := Lib.hid (fun (w' : World) (hb : Below w1.heap.size w1 w') => (show w'.cell? ⟨w.heap.size, 1, none⟩ = some (.int .i64 ((i : Int))) ∧ w'.cell? ⟨w.heap.size, 2, none⟩ = some (.int .i64 (-(j : Int))) ∧ w'.cell? ⟨w.heap.size, 3, none⟩ = some (.int .i64 (c)) ∧ w'.cell? ⟨w.heap.size, 4, none⟩ = some (.string t) from
    ⟨(hb.cell (p := ⟨w.heap.size, 1, none⟩) (by show w.heap.size < w1.heap.size; omega)).trans (cc 1), (hb.cell (p := ⟨w.heap.size, 2, none⟩) (by show w.heap.size < w1.heap.size; omega)).trans (cc 2), (hb.cell (p := ⟨w.heap.size, 3, none⟩) (by show w.heap.size < w1.heap.size; omega)).trans (cc 3), (hb.cell (p := ⟨w.heap.size, 4, none⟩) (by show w.heap.size < w1.heap.size; omega)).trans (cc 4)⟩))
  obtain ⟨c1, c2, c3, c4⟩ := KK.out w1 (Below.refl _ _)
  have Ki := Lib.hid (cnum_at ((i : Int)) i rfl zi ri hri w1)
  have Kj := Lib.hid (cnum_at ((j : Int)) j rfl zj rj hrj w1)
  have Kn := Lib.hid (cnum_at (IntKind.i64.wrap (j : Int)) j (IntWalk.i64_in _ (by omega)) zj rj hrj w1)
  have HB0 := Lib.hid hb0
  clear hblk cc hsz hb0 hri hrj
  have hnegI : -(j : Int) < 0 := by omega
  go_enter Try.func140, Try.ntmps140
  go_wp2
  go_region_held3 (fun w' => w'.cell? ⟨w.heap.size, 1, none⟩ = some (.int .i64 ((i : Int))) ∧ w'.cell? ⟨w.heap.size, 2, none⟩ = some (.int .i64 (-(j : Int))) ∧ w'.cell? ⟨w.heap.size, 3, none⟩ = some (.int .i64 (c)) ∧ w'.cell? ⟨w.heap.size, 4, none⟩ = some (.string t))
    (with_reducible (first | exact KK.out _ hb2 | exact KK.out _ hb1 | exact KK.out _ (Below.refl _ _) | exact KK.out _ (Below.refl _ _).drew | fail "keep"))
    ((first | ((with_reducible refine (Ki.out _ (by first | exact hb3 | exact hb2 | exact hb1 | exact Below.refl _ _ | exact hb3.drew | exact hb2.drew | exact hb1.drew | exact (Below.refl _ _).drew)).mono ?_); rintro e v1 ⟨rfl, hb1⟩) | ((with_reducible refine (Kj.out _ (by first | exact hb3 | exact hb2 | exact hb1 | exact Below.refl _ _ | exact hb3.drew | exact hb2.drew | exact hb1.drew | exact (Below.refl _ _).drew)).mono ?_); rintro e v2 ⟨rfl, hb2⟩) | ((with_reducible refine (Kn.out _ (by first | exact hb3 | exact hb2 | exact hb1 | exact Below.refl _ _ | exact hb3.drew | exact hb2.drew | exact hb1.drew | exact (Below.refl _ _).drew)).mono ?_); rintro e v2 ⟨rfl, hb2⟩) | (fail "arm")))
  all_goals (
  go_wp2
  go_ret
  exact ⟨rfl, by first | exact HB0.out.trans (hb2.mono HB0.out.size) | exact HB0.out.trans (hb1.mono HB0.out.size)⟩)

set_option maxHeartbeats 4000000 in
theorem put_on (op : Int) (c : Int) (t : ByteArray) (_ht : t.size ≤ 2000000) (i : Nat) (zi : i ≤ 100000) (j : Nat) (zj : j ≤ 100000)  (w : World) : Calls Try.prog 140 #[.agg #[.int .i64 op, .int .i64 ((i : Int)), .int .i64 ((j : Int)), .int .i64 (c), .string t]] w fun e w' => e = .returned (.string (⟨#[49]⟩ ++ TS (.num i) ++ ⟨#[49, 48]⟩ ++ TS (.num j))) ∧ Below w.heap.size w w' := by
  obtain ⟨ri, hri⟩ : ∃ r, TS (.num i) = r := ⟨_, rfl⟩
  have si : ri.size ≤ 300000 := by rw [← hri, num_size]; omega
  obtain ⟨rj, hrj⟩ : ∃ r, TS (.num j) = r := ⟨_, rfl⟩
  have sj : rj.size ≤ 300000 := by rw [← hrj, num_size]; omega
  rw [hri, hrj]
  obtain ⟨q0, hq0⟩ : ∃ q, (⟨#[49]⟩ ++ ri : ByteArray) = q := ⟨_, rfl⟩
  have sq0 : q0.size ≤ 2000020 := by rw [← hq0, ByteArray.size_append]; have h1 : (⟨#[49]⟩ : ByteArray).size ≤ 10 := (by decide); have h2 : (ri : ByteArray).size ≤ 2000000 := (by omega); omega
  have A0 := fun w => run_string_add_sum (P := Try.prog) (w := w) (⟨#[49]⟩) (ri) (by have h1 : (⟨#[49]⟩ : ByteArray).size ≤ 10 := (by decide); have h2 : (ri : ByteArray).size ≤ 2000000 := (by omega); omega)
  rw [hq0] at A0
  obtain ⟨q1, hq1⟩ : ∃ q, (q0 ++ ⟨#[49, 48]⟩ : ByteArray) = q := ⟨_, rfl⟩
  have sq1 : q1.size ≤ 4000030 := by rw [← hq1, ByteArray.size_append]; have h1 : (q0 : ByteArray).size ≤ 2000020 := sq0; have h2 : (⟨#[49, 48]⟩ : ByteArray).size ≤ 2000000 := (by decide); omega
  have A1 := fun w => run_string_add_sum (P := Try.prog) (w := w) (q0) (⟨#[49, 48]⟩) (by have h1 : (q0 : ByteArray).size ≤ 2000020 := sq0; have h2 : (⟨#[49, 48]⟩ : ByteArray).size ≤ 2000000 := (by decide); omega)
  rw [hq1] at A1
  obtain ⟨q2, hq2⟩ : ∃ q, (q1 ++ rj : ByteArray) = q := ⟨_, rfl⟩
  have sq2 : q2.size ≤ 6000040 := by rw [← hq2, ByteArray.size_append]; have h1 : (q1 : ByteArray).size ≤ 4000030 := sq1; have h2 : (rj : ByteArray).size ≤ 2000000 := (by omega); omega
  have A2 := fun w => run_string_add_sum (P := Try.prog) (w := w) (q1) (rj) (by have h1 : (q1 : ByteArray).size ≤ 4000030 := sq1; have h2 : (rj : ByteArray).size ≤ 2000000 := (by omega); omega)
  rw [hq2] at A2
  rw [hq0, hq1, hq2]
  clear hq0 sq0 hq1 sq1 hq2 sq2
  have hb0 := (Below.refl w.heap.size w).alloc (Nat.le_refl _) (.cells #[.int .i64 op, .int .i64 ((i : Int)), .int .i64 ((j : Int)), .int .i64 (c), .string t] 41)
  have hblk := heap_alloc_new w (.cells #[.int .i64 op, .int .i64 ((i : Int)), .int .i64 ((j : Int)), .int .i64 (c), .string t] 41)
  obtain ⟨w1, hW⟩ : ∃ B, w.alloc (.cells #[.int .i64 op, .int .i64 ((i : Int)), .int .i64 ((j : Int)), .int .i64 (c), .string t] 41) = B := ⟨_, rfl⟩
  have hsz : w1.heap.size = w.heap.size + 1 := by rw [← hW]; simp
  rw [hW] at hb0 hblk
  have cc := (block_cells hblk).1
  have KK := Lib.hid (fun (w' : World) (hb : Below w1.heap.size w1 w') => (show w'.cell? ⟨w.heap.size, 1, none⟩ = some (.int .i64 ((i : Int))) ∧ w'.cell? ⟨w.heap.size, 2, none⟩ = some (.int .i64 ((j : Int))) ∧ w'.cell? ⟨w.heap.size, 3, none⟩ = some (.int .i64 (c)) ∧ w'.cell? ⟨w.heap.size, 4, none⟩ = some (.string t) from
    ⟨(hb.cell (p := ⟨w.heap.size, 1, none⟩) (by show w.heap.size < w1.heap.size; omega)).trans (cc 1), (hb.cell (p := ⟨w.heap.size, 2, none⟩) (by show w.heap.size < w1.heap.size; omega)).trans (cc 2), (hb.cell (p := ⟨w.heap.size, 3, none⟩) (by show w.heap.size < w1.heap.size; omega)).trans (cc 3), (hb.cell (p := ⟨w.heap.size, 4, none⟩) (by show w.heap.size < w1.heap.size; omega)).trans (cc 4)⟩))
  obtain ⟨c1, c2, c3, c4⟩ := KK.out w1 (Below.refl _ _)
  have Ki := Lib.hid (cnum_at ((i : Int)) i rfl zi ri hri w1)
  have Kj := Lib.hid (cnum_at ((j : Int)) j rfl zj rj hrj w1)
  have HB0 := Lib.hid hb0
  clear hblk cc hsz hb0 hri hrj
  have hnegI : ¬ (j : Int) < 0 := by omega
  go_enter Try.func140, Try.ntmps140
  go_wp2
  go_region_held3 (fun w' => w'.cell? ⟨w.heap.size, 1, none⟩ = some (.int .i64 ((i : Int))) ∧ w'.cell? ⟨w.heap.size, 2, none⟩ = some (.int .i64 ((j : Int))) ∧ w'.cell? ⟨w.heap.size, 3, none⟩ = some (.int .i64 (c)) ∧ w'.cell? ⟨w.heap.size, 4, none⟩ = some (.string t))
    (with_reducible (first | exact KK.out _ hb2 | exact KK.out _ hb1 | exact KK.out _ (Below.refl _ _) | exact KK.out _ (Below.refl _ _).drew | fail "keep"))
    ((first | ((with_reducible refine (Ki.out _ (by first | exact hb3 | exact hb2 | exact hb1 | exact Below.refl _ _ | exact hb3.drew | exact hb2.drew | exact hb1.drew | exact (Below.refl _ _).drew)).mono ?_); rintro e v1 ⟨rfl, hb1⟩) | ((with_reducible refine (Kj.out _ (by first | exact hb3 | exact hb2 | exact hb1 | exact Below.refl _ _ | exact hb3.drew | exact hb2.drew | exact hb1.drew | exact (Below.refl _ _).drew)).mono ?_); rintro e v2 ⟨rfl, hb2⟩) | (fail "arm")))
  all_goals (
  go_wp2
  go_ret
  exact ⟨rfl, by first | exact HB0.out.trans (hb2.mono HB0.out.size) | exact HB0.out.trans (hb1.mono HB0.out.size)⟩)

end Go.Proofs.Ytlaeljkjdfffjaa

namespace Go.Proofs.Ytlaeljkjdfffjaa
open Go.RowKit

theorem regs_any (w : World) : Calls Try.prog 142 #[] w fun e w' => e = .returned (.agg #[.func (.func 160) #[] #[], .func (.func 161) #[] #[]]) ∧ Below w.heap.size w w' := by
  have hb0 := (Below.refl w.heap.size w).alloc (Nat.le_refl _) (.cells #[.func (.func 160) #[] #[], .func (.func 161) #[] #[]] 134)
  go_enter Try.func142, Try.ntmps142
  go_wp2
  refine bodyPost_ret (v := .agg #[.func (.func 160) #[] #[], .func (.func 161) #[] #[]]) (by simp [results, Try.results142, go_sem]) rfl ?_
  exact ⟨rfl, hb0⟩

set_option maxRecDepth 20000 in
theorem fields_set (w : World) : Calls Try.prog 105 #[.int .i64 0] w fun e w' => ∃ g, e = .returned (.agg #[.func (.func 136) #[] #[], g]) ∧ Below w.heap.size w w' := by
  have hb0 := (Below.refl w.heap.size w).alloc (Nat.le_refl _) (.cells #[.func (.func 136) #[] #[], .func (.func 137) #[] #[]] 134)
  go_enter Try.func105, Try.ntmps105
  go_wp2
  refine bodyPost_ret (v := .agg #[.func (.func 136) #[] #[], .func (.func 137) #[] #[]]) (by simp [results, Try.results105, go_sem]) rfl ?_
  exact ⟨_, rfl, hb0⟩

set_option maxRecDepth 20000 in
theorem fields_cons (w : World) : Calls Try.prog 105 #[.int .i64 2] w fun e w' => ∃ g, e = .returned (.agg #[.func (.func 138) #[] #[], g]) ∧ Below w.heap.size w w' := by
  have hb0 := (Below.refl w.heap.size w).alloc (Nat.le_refl _) (.cells #[.func (.func 138) #[] #[], .func (.func 139) #[] #[]] 134)
  go_enter Try.func105, Try.ntmps105
  go_wp2
  refine bodyPost_ret (v := .agg #[.func (.func 138) #[] #[], .func (.func 139) #[] #[]]) (by simp [results, Try.results105, go_sem]) rfl ?_
  exact ⟨_, rfl, hb0⟩

set_option maxRecDepth 20000 in
theorem fields_jump (w : World) : Calls Try.prog 105 #[.int .i64 5] w fun e w' => ∃ g, e = .returned (.agg #[.func (.func 140) #[] #[], g]) ∧ Below w.heap.size w w' := by
  have hb0 := (Below.refl w.heap.size w).alloc (Nat.le_refl _) (.cells #[.func (.func 140) #[] #[], .func (.func 141) #[] #[]] 134)
  go_enter Try.func105, Try.ntmps105
  go_wp2
  refine bodyPost_ret (v := .agg #[.func (.func 140) #[] #[], .func (.func 141) #[] #[]]) (by simp [results, Try.results105, go_sem]) rfl ?_
  exact ⟨_, rfl, hb0⟩

set_option maxRecDepth 20000 in
theorem fields_r1 (w : World) : Calls Try.prog 105 #[.int .i64 1] w fun e w' => ∃ g, e = .returned (.agg #[.func (.func 160) #[] #[], g]) ∧ Below w.heap.size w w' := by
  have hb0 := (Below.refl w.heap.size w).alloc (Nat.le_refl _) (.cells #[.nilFunc, .nilFunc] 134)
  have hblk := heap_alloc_new w (.cells #[.nilFunc, .nilFunc] 134)
  have kr := Lib.hid (fun w => regs_any w)
  have HW := Lib.hid hblk
  have HB := Lib.hid hb0
  clear hblk hb0
  go_enter Try.func105, Try.ntmps105
  go_wp2_with fail
  refine (kr.out _).mono ?_
  rintro e w1 ⟨rfl, hb1⟩
  have h2 := (hb1.block w.heap.size (by simp)).trans HW.out
  have cc := (block_cells h2).1
  have c0 := cc 0
  have c1 := cc 1
  have f0 := (block_cells h2).2 0
  have f1 := (block_cells h2).2 1
  simp only [List.getElem?_toArray, List.getElem?_cons_zero, List.getElem?_cons_succ] at c0 c1
  have hb0 := ((HB.out.trans (hb1.mono HB.out.size)).setCell (p := ⟨w.heap.size, 0, none⟩) (Nat.le_refl _) (.func (.func 160) #[] #[])).setCell (p := ⟨w.heap.size, 1, none⟩) (Nat.le_refl _) (.func (.func 161) #[] #[])
  have hs1 := set_blk (set_blk h2 0 (.func (.func 160) #[] #[])) 1 (.func (.func 161) #[] #[])
  have q0 := (block_cells hs1).1 0
  have q1 := (block_cells hs1).1 1
  simp only [List.setIfInBounds_toArray, List.set_cons_zero, List.set_cons_succ, List.getElem?_toArray, List.getElem?_cons_zero, List.getElem?_cons_succ] at q0 q1
  clear cc
  go_wp2
  refine bodyPost_ret (v := .agg #[.func (.func 160) #[] #[], .func (.func 161) #[] #[]]) (by simp [results, Try.results105, go_sem, q0, q1]) rfl ?_
  exact ⟨_, rfl, hb0⟩

set_option maxRecDepth 20000 in
theorem fields_r3 (w : World) : Calls Try.prog 105 #[.int .i64 3] w fun e w' => ∃ g, e = .returned (.agg #[.func (.func 160) #[] #[], g]) ∧ Below w.heap.size w w' := by
  have hb0 := (Below.refl w.heap.size w).alloc (Nat.le_refl _) (.cells #[.nilFunc, .nilFunc] 134)
  have hblk := heap_alloc_new w (.cells #[.nilFunc, .nilFunc] 134)
  have kr := Lib.hid (fun w => regs_any w)
  have HW := Lib.hid hblk
  have HB := Lib.hid hb0
  clear hblk hb0
  go_enter Try.func105, Try.ntmps105
  go_wp2_with fail
  refine (kr.out _).mono ?_
  rintro e w1 ⟨rfl, hb1⟩
  have h2 := (hb1.block w.heap.size (by simp)).trans HW.out
  have cc := (block_cells h2).1
  have c0 := cc 0
  have c1 := cc 1
  have f0 := (block_cells h2).2 0
  have f1 := (block_cells h2).2 1
  simp only [List.getElem?_toArray, List.getElem?_cons_zero, List.getElem?_cons_succ] at c0 c1
  have hb0 := ((HB.out.trans (hb1.mono HB.out.size)).setCell (p := ⟨w.heap.size, 0, none⟩) (Nat.le_refl _) (.func (.func 160) #[] #[])).setCell (p := ⟨w.heap.size, 1, none⟩) (Nat.le_refl _) (.func (.func 161) #[] #[])
  have hs1 := set_blk (set_blk h2 0 (.func (.func 160) #[] #[])) 1 (.func (.func 161) #[] #[])
  have q0 := (block_cells hs1).1 0
  have q1 := (block_cells hs1).1 1
  simp only [List.setIfInBounds_toArray, List.set_cons_zero, List.set_cons_succ, List.getElem?_toArray, List.getElem?_cons_zero, List.getElem?_cons_succ] at q0 q1
  clear cc
  go_wp2
  refine bodyPost_ret (v := .agg #[.func (.func 160) #[] #[], .func (.func 161) #[] #[]]) (by simp [results, Try.results105, go_sem, q0, q1]) rfl ?_
  exact ⟨_, rfl, hb0⟩

set_option maxRecDepth 20000 in
theorem fields_r4 (w : World) : Calls Try.prog 105 #[.int .i64 4] w fun e w' => ∃ g, e = .returned (.agg #[.func (.func 160) #[] #[], g]) ∧ Below w.heap.size w w' := by
  have hb0 := (Below.refl w.heap.size w).alloc (Nat.le_refl _) (.cells #[.nilFunc, .nilFunc] 134)
  have hblk := heap_alloc_new w (.cells #[.nilFunc, .nilFunc] 134)
  have kr := Lib.hid (fun w => regs_any w)
  have HW := Lib.hid hblk
  have HB := Lib.hid hb0
  clear hblk hb0
  go_enter Try.func105, Try.ntmps105
  go_wp2_with fail
  refine (kr.out _).mono ?_
  rintro e w1 ⟨rfl, hb1⟩
  have h2 := (hb1.block w.heap.size (by simp)).trans HW.out
  have cc := (block_cells h2).1
  have c0 := cc 0
  have c1 := cc 1
  have f0 := (block_cells h2).2 0
  have f1 := (block_cells h2).2 1
  simp only [List.getElem?_toArray, List.getElem?_cons_zero, List.getElem?_cons_succ] at c0 c1
  have hb0 := ((HB.out.trans (hb1.mono HB.out.size)).setCell (p := ⟨w.heap.size, 0, none⟩) (Nat.le_refl _) (.func (.func 160) #[] #[])).setCell (p := ⟨w.heap.size, 1, none⟩) (Nat.le_refl _) (.func (.func 161) #[] #[])
  have hs1 := set_blk (set_blk h2 0 (.func (.func 160) #[] #[])) 1 (.func (.func 161) #[] #[])
  have q0 := (block_cells hs1).1 0
  have q1 := (block_cells hs1).1 1
  simp only [List.setIfInBounds_toArray, List.set_cons_zero, List.set_cons_succ, List.getElem?_toArray, List.getElem?_cons_zero, List.getElem?_cons_succ] at q0 q1
  clear cc
  go_wp2
  refine bodyPost_ret (v := .agg #[.func (.func 160) #[] #[], .func (.func 161) #[] #[]]) (by simp [results, Try.results105, go_sem, q0, q1]) rfl ?_
  exact ⟨_, rfl, hb0⟩

end Go.Proofs.Ytlaeljkjdfffjaa

namespace Go.Proofs.Ytlaeljkjdfffjaa
open Go.RowKit

theorem isB_below {T e : TypeId} {B b : Nat} {bs : List Value} {w w' : World} (h : Lib.IsBuilder T e B b bs w) (hb : Below w.heap.size w w') : Lib.IsBuilder T e B b bs w' := by
  rcases h with ⟨h1, v, h2, h3, h4⟩ | ⟨h1, v, h2, h3, h4⟩
  · exact .inl ⟨h1, v, (hb.block b (Array.getElem?_eq_some_iff.1 h2).1).trans h2, own_below h3 hb, h4⟩
  · exact .inr ⟨h1, v, (hb.block b (Array.getElem?_eq_some_iff.1 h2).1).trans h2, own_below h3 hb, h4⟩
theorem isB_lt {T e : TypeId} {B b : Nat} {bs : List Value} {w : World} (h : Lib.IsBuilder T e B b bs w) : b < w.heap.size := by
  rcases h with ⟨_, v, h2, _⟩ | ⟨_, v, h2, _⟩ <;> exact (Array.getElem?_eq_some_iff.1 h2).1
/-- The code of a program, without its end. -/
def ciL (x : Ins) : List UInt8 := (⟨#[49, 49]⟩ ++ TS (.num x.op.toNat)).data.toList ++ (bodyB x).data.toList
def codeLs (l : List Ins) : List UInt8 := (l.map ciL).flatten
def codeOf (l : List Ins) : ByteArray := ⟨(codeLs l ++ [48]).toArray⟩
theorem codeLs_succ (l : List Ins) (k : Nat) {x : Ins} (hx : l[k]? = some x) : codeLs (l.take (k + 1)) = codeLs (l.take k) ++ ciL x := by rw [take_snoc' _ _ _ hx]; unfold codeLs; simp
theorem codeLs_take (l : List Ins) (k : Nat) : (codeLs (l.take k)).length ≤ (codeLs l).length := by
  have h : codeLs l = codeLs (l.take k) ++ codeLs (l.drop k) := by
    conv => lhs; rw [← List.take_append_drop k l]
    unfold codeLs; rw [List.map_append, List.flatten_append]
  rw [h]; simp
theorem right_op {x : Ins} {i n : Int} (h : rightB x i n = true) : x.op = 0 ∨ x.op = 1 ∨ x.op = 2 ∨ x.op = 3 ∨ x.op = 4 ∨ x.op = 5 := by
  unfold rightB at h
  simp only [Bool.and_eq_true] at h
  have h3 := h.2
  by_cases h0 : x.op = 0
  · exact .inl h0
  · rw [if_neg h0] at h3
    by_cases h1 : x.op = 1 ∨ x.op = 3 ∨ x.op = 4
    · rcases h1 with h | h | h <;> simp [h]
    · rw [if_neg h1] at h3
      by_cases h2 : x.op = 2
      · simp [h2]
      · rw [if_neg h2] at h3
        by_cases h5 : x.op = 5
        · simp [h5]
        · rw [if_neg h5] at h3; cases h3
theorem right_tree {x : Ins} {i n : Int} (h : rightB x i n = true) : x.tree.size ≤ 2000000 := by
  unfold rightB at h
  simp only [Bool.and_eq_true] at h
  by_cases h0 : x.op = 0
  · have h3 := h.2
    rw [if_pos h0, Bool.and_eq_true] at h3
    obtain ⟨t, ht, hs⟩ := isTree_get h3.2
    rw [ht, TS_size]; exact hs
  · have h4 := h.1.1.2
    have : x.tree.toList.isEmpty = true := by
      rw [Bool.or_eq_true] at h4
      exact h4.resolve_left (fun e => h0 (by simpa using e))
    have hz : x.tree.toList = [] := by simpa using this
    have h5 : x.tree.size = x.tree.toList.length := by rw [Lib.toList_data]; simp
    rw [h5, hz]; simp
theorem right_jump {x : Ins} {i n : Int} (h : rightB x i n = true) (h5 : x.op = 5) : -i ≤ x.b ∧ x.b ≤ n - i := by
  unfold rightB at h
  simp only [Bool.and_eq_true] at h
  have h3 := h.2
  rw [if_neg (by omega), if_neg (by omega), if_neg (by omega), if_pos h5] at h3
  simpa using h3
/-- The writer of an instruction's fields, and what it writes. -/
theorem fields_put {x : Ins} {i n : Int} (hr : rightB x i n = true) (hi : 0 ≤ i ∧ i ≤ 4000 ∧ n ≤ 4000) : ∃ PF : Nat,
    (∀ w : World, Calls Try.prog 105 #[.int .i64 x.op] w fun e w' => ∃ g, e = .returned (.agg #[.func (.func PF) #[] #[], g]) ∧ Below w.heap.size w w') ∧
    (∀ w : World, Calls Try.prog PF #[.agg #[.int .i64 x.op, .int .i64 x.a, .int .i64 x.b, .int .i64 x.c, .string x.tree]] w fun e w' => e = .returned (.string (bodyB x)) ∧ Below w.heap.size w w') ∧ (∀ args w, (callFunc PF args).run Try.prog w = .ok (.enter PF args) w) ∧ (bodyB x).size ≤ 4000000 ∧ ∃ m : Nat, x.op = m ∧ m ≤ 5 := by
  have ht := right_tree hr
  obtain ⟨a, ha, ha2, hbc⟩ := right_nats hr
  have hop := right_op hr
  have hsz : ∀ n : Nat, (TS (.num n)).size = 2 * n + 1 := num_size
  obtain ⟨op, xa, b, c, t⟩ := x
  simp only at ha hop hbc ht
  subst ha
  rcases hop with rfl | rfl | rfl | rfl | rfl | rfl
  · refine ⟨_, fields_set, fun w => put_set 0 b c t ht a (by omega) w, enters_of Try.func136 (by kernel_rfl) rfl, ?_, 0, rfl, by omega⟩
    simp [bodyB, ByteArray.size_append, hsz]
    show 1 + (2 * a + 1) + t.size ≤ _
    omega
  · obtain ⟨b', c', rfl, rfl, h1, h2⟩ := hbc (by decide)
    refine ⟨_, fields_r1, fun w => put_regs 1 c' t ht a (by omega) b' (by omega) w, enters_of Try.func160 (by kernel_rfl) rfl, ?_, 1, rfl, by omega⟩
    simp [bodyB, ByteArray.size_append, hsz]
    show 1 + (2 * a + 1) + (2 * b' + 1) ≤ _
    omega
  · obtain ⟨b', c', rfl, rfl, h1, h2⟩ := hbc (by decide)
    refine ⟨_, fields_cons, fun w => put_cons 2 t ht a (by omega) b' (by omega) c' (by omega) w, enters_of Try.func138 (by kernel_rfl) rfl, ?_, 2, rfl, by omega⟩
    simp [bodyB, ByteArray.size_append, hsz]
    show 1 + (2 * a + 1) + 1 + (2 * b' + 1) + (2 * c' + 1) ≤ _
    omega
  · obtain ⟨b', c', rfl, rfl, h1, h2⟩ := hbc (by decide)
    refine ⟨_, fields_r3, fun w => put_regs 3 c' t ht a (by omega) b' (by omega) w, enters_of Try.func160 (by kernel_rfl) rfl, ?_, 3, rfl, by omega⟩
    simp [bodyB, ByteArray.size_append, hsz]
    show 1 + (2 * a + 1) + (2 * b' + 1) ≤ _
    omega
  · obtain ⟨b', c', rfl, rfl, h1, h2⟩ := hbc (by decide)
    refine ⟨_, fields_r4, fun w => put_regs 4 c' t ht a (by omega) b' (by omega) w, enters_of Try.func160 (by kernel_rfl) rfl, ?_, 4, rfl, by omega⟩
    simp [bodyB, ByteArray.size_append, hsz]
    show 1 + (2 * a + 1) + (2 * b' + 1) ≤ _
    omega
  · have hj := right_jump hr rfl
    simp only at hj
    by_cases hneg : b < 0
    · obtain ⟨j, rfl⟩ : ∃ j : Nat, b = -(j : Int) := ⟨(-b).toNat, by omega⟩
      refine ⟨_, fields_jump, fun w => ?_, enters_of Try.func140 (by kernel_rfl) rfl, ?_, 5, rfl, by omega⟩
      · have := put_back 5 c t ht a (by omega) j (by omega) (by omega) w
        unfold bodyB
        simp only [show ¬ (5 : Int) = 0 by decide, show ¬ (5 : Int) = 2 by decide, if_false, if_true, if_pos hneg]
        rw [show (-(-(j : Int))).toNat = j by omega, Int.toNat_natCast]
        exact this
      · unfold bodyB
        simp only [show ¬ (5 : Int) = 0 by decide, show ¬ (5 : Int) = 2 by decide, if_false, if_true, if_pos hneg]
        rw [show (-(-(j : Int))).toNat = j by omega, Int.toNat_natCast]
        simp [ByteArray.size_append, hsz]
        show 1 + (2 * a + 1) + 4 + (2 * j + 1) ≤ _
        omega
    · obtain ⟨j, rfl⟩ : ∃ j : Nat, b = (j : Int) := ⟨b.toNat, by omega⟩
      refine ⟨_, fields_jump, fun w => ?_, enters_of Try.func140 (by kernel_rfl) rfl, ?_, 5, rfl, by omega⟩
      · have := put_on 5 c t ht a (by omega) j (by omega) w
        unfold bodyB
        simp only [show ¬ (5 : Int) = 0 by decide, show ¬ (5 : Int) = 2 by decide, if_false, if_true, if_neg hneg]
        rw [Int.toNat_natCast, Int.toNat_natCast]
        exact this
      · unfold bodyB
        simp only [show ¬ (5 : Int) = 0 by decide, show ¬ (5 : Int) = 2 by decide, if_false, if_true, if_neg hneg]
        rw [Int.toNat_natCast, Int.toNat_natCast]
        simp [ByteArray.size_append, hsz]
        show 1 + (2 * a + 1) + 2 + (2 * j + 1) ≤ _
        omega

end Go.Proofs.Ytlaeljkjdfffjaa

namespace Go.Proofs.Ytlaeljkjdfffjaa
open Go.RowKit

def setI (a : Nat) (t : ByteArray) : Ins := ⟨0, a, 0, 0, t⟩
def moveI (a b : Nat) : Ins := ⟨1, a, b, 0, ⟨#[]⟩⟩
def consI (a b c : Nat) : Ins := ⟨2, a, b, c, ⟨#[]⟩⟩
def jumpI (a : Nat) (b : Int) : Ins := ⟨5, a, b, 0, ⟨#[]⟩⟩
def cleanK (k : Nat) : List Ins := (List.range k).map fun j => setI (j + 1) ⟨#[48]⟩
def cleanH (l : List Ins) : List Ins := cleanK (mostN l)
def cleanP (l : List Ins) : List Ins := cleanH l ++ l
def thenL : List (List Ins) → List Ins
  | [] => []
  | l :: ls => l ++ (ls.map cleanP).flatten
def pairL (p q : List Ins) : List Ins :=
  let n := max (regN p) (regN q)
  moveI n 0 :: p ++ [moveI (n + 1) 0, moveI 0 n] ++ cleanP q ++ [consI 0 (n + 1) 0]
def ifL (c p q : List Ins) : List Ins :=
  let n := max (regN c) (max (regN p) (regN q))
  moveI n 0 :: c ++ [jumpI 0 ((cleanP q).length + 4), moveI 0 n] ++ cleanP q ++ [setI n ⟨#[49, 48, 48]⟩, jumpI n ((cleanP p).length + 2), moveI 0 n] ++ cleanP p
def whileH (c p : List Ins) : List Ins :=
  let n := max (regN c) (regN p)
  moveI n 0 :: cleanP c ++ [jumpI 0 4, moveI 0 n, setI n ⟨#[49, 48, 48]⟩, jumpI n ((cleanP p).length + 4), moveI 0 n] ++ cleanP p ++ [setI n ⟨#[49, 48, 48]⟩]
def whileL (c p : List Ins) : List Ins := whileH c p ++ [jumpI (max (regN c) (regN p)) (-((whileH c p).length : Int))]

theorem inscells_append (l m : List Ins) : inscells (l ++ m) = inscells l ++ inscells m := by simp [inscells]
theorem cleanK_succ (k : Nat) : cleanK (k + 1) = cleanK k ++ [setI (k + 1) ⟨#[48]⟩] := by unfold cleanK; rw [List.range_succ, List.map_append]; rfl
theorem cleanK_length (k : Nat) : (cleanK k).length = k := by simp [cleanK]
theorem setI_wf (a : Nat) (t : ByteArray) (ha : a ≤ 1000000) (ht : t.size ≤ 140737488355328) : (setI a t).wf := wf_lit _ _ _ _ _ (by unfold i64; decide) (by unfold i64; omega) (by unfold i64; decide) (by unfold i64; decide) ht
theorem cleanK_wf (k : Nat) (hk : k ≤ 1000) : ∀ x ∈ cleanK k, x.wf := by
  intro x hx
  simp only [cleanK, List.mem_map, List.mem_range] at hx
  obtain ⟨j, hj, rfl⟩ := hx
  exact setI_wf _ _ (by omega) (by decide)
theorem wf_append {l m : List Ins} (h1 : ∀ x ∈ l, x.wf) (h2 : ∀ x ∈ m, x.wf) : ∀ x ∈ l ++ m, x.wf := fun x hx => (List.mem_append.1 hx).elim (h1 x) (h2 x)
/-- A program in a row of one's own. -/
structure OwnI (w : World) (B : Nat) (v : Value) (l : List Ins) : Prop where
  own : w.ownsRow B 41 5 v l.length (inscells l)
  wf : ∀ x ∈ l, x.wf
theorem OwnI.row {w : World} {B : Nat} {v : Value} {l : List Ins} (h : OwnI w B v l) (hn : l.length ≤ 2932031007402) : InsRow w w.heap.size v l := InsRow.of_own h.own h.wf hn
theorem OwnI.nil (w : World) (B : Nat) : OwnI w B (.slice none 0 0) [] := ⟨⟨rfl, .inl ⟨rfl, rfl⟩⟩, by simp⟩
theorem OwnI.below {w w' : World} {B : Nat} {v : Value} {l : List Ins} (h : OwnI w B v l) (hb : Below w.heap.size w w') : OwnI w' B v l := ⟨own_below h.own hb, h.wf⟩
theorem OwnI.slice {w : World} {B : Nat} {v : Value} {l : List Ins} (h : OwnI w B v l) : ∃ a c, v = .slice a l.length c := own_len h.own
theorem OwnI.lit (w : World) (l : List Ins) (hwf : ∀ x ∈ l, x.wf) (hl : l.length ≤ 4611686018427387904) : OwnI (w.alloc (.cells (inscells l).toArray 41)) w.heap.size (.slice (some ⟨w.heap.size, 0, none⟩) l.length l.length) l :=
  ⟨World.ownsRow_lit w (inscells l).toArray l.length (Nat.le_refl _) (by unfold maxLen; omega) (by simp [inscells_length]), hwf⟩

end Go.Proofs.Ytlaeljkjdfffjaa

namespace Go.Proofs.Ytlaeljkjdfffjaa
open Go.RowKit

theorem OwnI.snoc {w : World} {B : Nat} {v : Value} {l : List Ins} {x : Ins} (h : w.ownsRow B 41 5 v (l.length + 1) (inscells l ++ inscells [x])) (hw : ∀ y ∈ l, y.wf) (hx : x.wf) : OwnI w B v (l ++ [x]) :=
  ⟨by rw [inscells_append, List.length_append]; exact h, wf_append hw (by simpa using hx)⟩
theorem OwnI.app {w : World} {B n : Nat} {v : Value} {l m : List Ins} (h : w.ownsRow B 41 5 v n (inscells l ++ inscells m)) (hn : n = l.length + m.length) (hw : ∀ y ∈ l, y.wf) (hx : ∀ y ∈ m, y.wf) : OwnI w B v (l ++ m) :=
  ⟨by rw [inscells_append, List.length_append, ← hn]; exact h, wf_append hw hx⟩
theorem InsRow.slice_src {w : World} {B : Nat} {v : Value} {l : List Ins} (h : InsRow w B v l) : Src w v l.length 5 (inscells l) := h.src

end Go.Proofs.Ytlaeljkjdfffjaa

namespace Go.Proofs.Ytlaeljkjdfffjaa
open Go.RowKit Go.Shelf

end Go.Proofs.Ytlaeljkjdfffjaa

namespace Go.Proofs.Ytlaeljkjdfffjaa
open Go.RowKit

/-- A list of programs in memory, all below block B. -/
def ProgsRow (w : World) (B : Nat) (v : Value) (ls : List (List Ins)) : Prop :=
  ls.length ≤ 5864062014805 ∧ ((ls = [] ∧ (v = .slice none 0 0 ∨ ∃ a c, v = .slice (some a) 0 c)) ∨ ∃ g off cap, v = .slice (some ⟨g, off, none⟩) ls.length cap ∧ g < B ∧ ∀ j l, ls[j]? = some l → ∃ u, w.cell? ⟨g, off + j, none⟩ = some u ∧ InsRow w B u l)
theorem ProgsRow.below {w w' : World} {B : Nat} {v : Value} {ls : List (List Ins)} (h : ProgsRow w B v ls) (hb : Below B w w') : ProgsRow w' B v ls := by
  refine ⟨h.1, h.2.elim .inl fun ⟨g, off, cap, h1, h2, h3⟩ => .inr ⟨g, off, cap, h1, h2, fun j l hj => ?_⟩⟩
  obtain ⟨u, h4, h5⟩ := h3 j l hj
  exact ⟨u, (hb.cell (p := ⟨g, off + j, none⟩) h2).trans h4, h5.below hb⟩
theorem ProgsRow.mono {w : World} {B B' : Nat} {v : Value} {ls : List (List Ins)} (h : ProgsRow w B v ls) (hB : B ≤ B') : ProgsRow w B' v ls := by
  refine ⟨h.1, h.2.elim .inl fun ⟨g, off, cap, h1, h2, h3⟩ => .inr ⟨g, off, cap, h1, by omega, fun j l hj => ?_⟩⟩
  obtain ⟨u, h4, h5⟩ := h3 j l hj
  exact ⟨u, h4, h5.mono hB⟩
theorem ProgsRow.step {A B : World} {v : Value} {ls : List (List Ins)} (h : ProgsRow A A.heap.size v ls) (hb : Below A.heap.size A B) : ProgsRow B B.heap.size v ls := (h.below hb).mono hb.size
theorem ProgsRow.len {w : World} {B : Nat} {v : Value} {ls : List (List Ins)} (h : ProgsRow w B v ls) : ∃ a c, v = .slice a ls.length c := by
  rcases h.2 with ⟨rfl, rfl | ⟨a, c, rfl⟩⟩ | ⟨g, off, cap, rfl, _⟩
  · exact ⟨_, _, rfl⟩
  · exact ⟨_, _, rfl⟩
  · exact ⟨_, _, rfl⟩
theorem ProgsRow.get {w : World} {B : Nat} {ao : Option Addr} {n cap : Nat} {ls : List (List Ins)} (h : ProgsRow w B (.slice ao n cap) ls) {k : Nat} {l : List Ins} (hk : ls[k]? = some l) :
    ∃ g off u, ao = some ⟨g, off, none⟩ ∧ g < B ∧ w.cell? ⟨g, off + k, none⟩ = some u ∧ InsRow w B u l := by
  rcases h.2 with ⟨rfl, _⟩ | ⟨g, off, cap', hv, hg, hc⟩
  · simp at hk
  · simp only [Value.slice.injEq] at hv
    obtain ⟨rfl, -, -⟩ := hv
    obtain ⟨u, h1, h2⟩ := hc k l hk
    exact ⟨g, off, u, rfl, hg, h1, h2⟩
/-- A list of programs that was just laid. -/
theorem ProgsRow.lit {w : World} (us : List Value) (ls : List (List Ins)) (hn : us.length = ls.length) (hb : ls.length ≤ 1000) (h : ∀ (j : Nat) (u : Value) (l : List Ins), us[j]? = some u → ls[j]? = some l → InsRow w w.heap.size u l) :
    ProgsRow (w.alloc (.cells us.toArray 23)) (w.alloc (.cells us.toArray 23)).heap.size (.slice (some ⟨w.heap.size, 0, none⟩) us.length us.length) ls := by
  have hb0 : Below w.heap.size w (w.alloc (.cells us.toArray 23)) := (Below.refl _ _).alloc (Nat.le_refl _) _
  refine ⟨by omega, .inr ⟨w.heap.size, 0, us.length, by rw [hn], by simp, fun j l hj => ?_⟩⟩
  have hlt := (List.getElem?_eq_some_iff.1 hj).1
  obtain ⟨u, hu⟩ : ∃ u, us[j]? = some u := ⟨_, List.getElem?_eq_getElem (by omega)⟩
  refine ⟨u, ?_, ((h j u l hu hj).below hb0).mono hb0.size⟩
  have h1 := block_cells (heap_alloc_new w (.cells us.toArray 23))
  have h2 := h1.1 (0 + j)
  rw [h2, Nat.zero_add, List.getElem?_toArray]
  exact hu

/-- How many registers a list of programs uses; their joint length. -/
def mostR (ls : List (List Ins)) : Nat := (ls.map regN).foldr max 1
def allV (ls : List (List Ins)) : Bool := ls.all validB
theorem foldr_max1_snoc (l : List Nat) (n : Nat) : (l ++ [n]).foldr max 1 = max (l.foldr max 1) n := by
  induction l with
  | nil => simp; omega
  | cons a l ih => simp only [List.cons_append, List.foldr_cons, ih]; omega
theorem mostR_succ (ls : List (List Ins)) (k : Nat) {l : List Ins} (hl : ls[k]? = some l) : mostR (ls.take (k + 1)) = max (mostR (ls.take k)) (regN l) := by
  rw [take_snoc' _ _ _ hl]; unfold mostR; rw [List.map_append, List.map_cons, List.map_nil, foldr_max1_snoc]
theorem allV_succ (ls : List (List Ins)) (k : Nat) {l : List Ins} (hl : ls[k]? = some l) : allV (ls.take (k + 1)) = (allV (ls.take k) && validB l) := by
  rw [take_snoc' _ _ _ hl]; unfold allV; rw [List.all_append]; simp
theorem allV_get {ls : List (List Ins)} (h : allV ls = true) {k : Nat} {l : List Ins} (hl : ls[k]? = some l) : validB l = true := List.all_eq_true.1 h l (List.mem_of_getElem? hl)
theorem allV_false {ls : List (List Ins)} {k : Nat} {l : List Ins} (hl : ls[k]? = some l) (h : validB l = false) : allV ls = false := by
  rw [← Bool.not_eq_true]; intro h2; rw [allV_get h2 hl] at h; cases h
theorem allV_of_take {ls : List (List Ins)} {k : Nat} (h : allV (ls.take k) = true) (hk : ls.length ≤ k) : allV ls = true := by rwa [List.take_of_length_le hk] at h

def CheckOut (ls : List (List Ins)) : Value := if allV ls = false then .tuple #[.int .i64 0, .int .i64 1] else if 28 < mostR ls then .tuple #[.int .i64 0, .int .i64 8] else .tuple #[.int .i64 (mostR ls : Nat), .int .i64 0]

/-- What done hands back. -/
def DoneOut (l : List Ins) (v : Value) : Value := if validB l = true then .tuple #[v, .int .i64 0] else .tuple #[.slice none 0 0, .int .i64 3]
/-- slices.Concat: one row of one's own. -/
def lenS (ls : List (List Ins)) : Nat := (ls.map List.length).sum
theorem lenS_flatten (ls : List (List Ins)) : ls.flatten.length = lenS ls := by unfold lenS; rw [List.length_flatten]
theorem lenS_succ (ls : List (List Ins)) (k : Nat) {l : List Ins} (hl : ls[k]? = some l) : lenS (ls.take (k + 1)) = lenS (ls.take k) + l.length := by rw [take_snoc' _ _ _ hl]; unfold lenS; simp
theorem lenS_take (ls : List (List Ins)) (k : Nat) : lenS (ls.take k) ≤ lenS ls := by
  conv => rhs; rw [← List.take_append_drop k ls]
  unfold lenS; rw [List.map_append, List.sum_append]; omega
theorem flat_succ (ls : List (List Ins)) (k : Nat) {l : List Ins} (hl : ls[k]? = some l) : (ls.take (k + 1)).flatten = (ls.take k).flatten ++ l := by rw [take_snoc' _ _ _ hl]; simp

end Go.Proofs.Ytlaeljkjdfffjaa

namespace Go.Proofs.Ytlaeljkjdfffjaa
open Go.RowKit

/-- append of a program to a row of one's own. -/
theorem app_row {ops : Array Oper} {rest : List Oper} {o : Oper} {a : Act} {Q : Exit → Act → World → Prop} (hgd : o.guard = none) (s x : Operand)
    (ho : o.op = .call { callee := .builtin .append, args := #[s, x], argTypes := #[23, 23] }) {w w0 : World} {v vx : Value} {m l : List Ins} {B : Nat}
    (hs : a.eval s = v) (hown : OwnI w w0.heap.size v m) (hx : a.eval x = vx) (hsrc : InsRow w B vx l) (hlen : m.length + l.length ≤ 1000000000) (hb : Below w0.heap.size w0 w)
    (h : ∀ a' k c' w', Hid (k = m.length + l.length) → Hid (OwnI w' w0.heap.size (.slice a' k c') (m ++ l)) → Hid (Below w0.heap.size w0 w') → wpList Try.prog ops Q rest (a.put o.dst (.slice a' k c')) w') :
    wpList Try.prog ops Q (o :: rest) a w := by
  refine app_src el_ins hgd s x ho hs hown.own hx hsrc.src (inscells_one l) (by omega) (by unfold maxLen; omega) hb.size hb (Nat.le_refl _) ?_
  intro v' w' h1 h2 _
  obtain ⟨a', c', rfl⟩ := own_len h1
  exact h a' _ c' w' (Lib.hid rfl) (Lib.hid (OwnI.app h1 rfl hown.wf hsrc.1)) (Lib.hid h2)
/-- append of single instructions to a row of one's own. -/
theorem app_lit {ops : Array Oper} {rest : List Oper} {o : Oper} {a : Act} {Q : Exit → Act → World → Prop} (hgd : o.guard = none) (s x : Operand)
    (ho : o.op = .call { callee := .builtin .append, args := #[s, x], argTypes := #[23, 23] }) {w w0 : World} {v : Value} {m : List Ins} (l : List Ins) {n : Nat}
    (hs : a.eval s = v) (hown : OwnI w w0.heap.size v m) (hx : a.eval x = .slice (some ⟨w.heap.size, 0, none⟩) n n) (hn : l.length = n) (hwf : ∀ y ∈ l, y.wf) (hlen : m.length + n ≤ 1000000000) (hb : Below w0.heap.size w0 w)
    (h : ∀ a' k c' w', Hid (k = m.length + n) → Hid (OwnI w' w0.heap.size (.slice a' k c') (m ++ l)) → Hid (Below w0.heap.size w0 w') → wpList Try.prog ops Q rest (a.put o.dst (.slice a' k c')) w') :
    wpList Try.prog ops Q (o :: rest) a (w.alloc (.cells (inscells l).toArray 41)) := by
  refine app_new el_ins hgd s x ho hs hown.own (inscells l) n hx (by rw [inscells_length, hn]) (inscells_one l) (by omega) (by unfold maxLen; omega) hb.size hb (Nat.le_refl _) ?_
  intro v' w' h1 h2 _
  obtain ⟨a', c', rfl⟩ := own_len h1
  exact h a' _ c' w' (Lib.hid rfl) (Lib.hid (OwnI.app h1 (by rw [hn]) hown.wf hwf)) (Lib.hid h2)
/-- append of a program to single instructions. -/
theorem lit_row {ops : Array Oper} {rest : List Oper} {o : Oper} {a : Act} {Q : Exit → Act → World → Prop} (hgd : o.guard = none) (s x : Operand)
    (ho : o.op = .call { callee := .builtin .append, args := #[s, x], argTypes := #[23, 23] }) {w : World} {vx : Value} (m : List Ins) {l : List Ins} {n : Nat}
    (hs : a.eval s = .slice (some ⟨w.heap.size, 0, none⟩) n n) (hn : m.length = n) (hwf : ∀ y ∈ m, y.wf) (hx : a.eval x = vx) (hsrc : InsRow w w.heap.size vx l) (hlen : n + l.length ≤ 1000000000)
    (h : ∀ a' k c' w', Hid (k = n + l.length) → Hid (OwnI w' w.heap.size (.slice a' k c') (m ++ l)) → Hid (Below w.heap.size w w') → wpList Try.prog ops Q rest (a.put o.dst (.slice a' k c')) w') :
    wpList Try.prog ops Q (o :: rest) a (w.alloc (.cells (inscells m).toArray 41)) := by
  have hb : Below w.heap.size w (w.alloc (.cells (inscells m).toArray 41)) := (Below.refl _ _).alloc (Nat.le_refl _) _
  have ho' := OwnI.lit w m hwf (by omega)
  rw [hn] at ho'
  refine app_row hgd s x ho hs ho' hx (hsrc.below hb) (by rw [hn]; exact hlen) hb ?_
  rw [hn]; exact h
theorem OwnI.lower {w : World} {B B' : Nat} {v : Value} {l : List Ins} (h : OwnI w B v l) (hB : B' ≤ B) : OwnI w B' v l := by
  refine ⟨⟨h.own.1, ?_⟩, h.wf⟩
  rcases h.own.2 with h1 | ⟨g, cap, cur, h1, h2, h3⟩
  · exact .inl h1
  · exact .inr ⟨g, cap, cur, h1, by omega, h3⟩
theorem moveI_wf (a b : Nat) (ha : a ≤ 1000) (hb : b ≤ 1000) : (moveI a b).wf := wf_lit _ _ _ _ _ (by unfold i64; decide) (by unfold i64; omega) (by unfold i64; omega) (by unfold i64; decide) (by decide)
theorem consI_wf (a b c : Nat) (ha : a ≤ 1000) (hb : b ≤ 1000) (hc : c ≤ 1000) : (consI a b c).wf := wf_lit _ _ _ _ _ (by unfold i64; decide) (by unfold i64; omega) (by unfold i64; omega) (by unfold i64; omega) (by decide)
theorem jumpI_wf (a : Nat) (b : Int) (ha : a ≤ 1000) (hb : -1000000000 ≤ b ∧ b ≤ 1000000000) : (jumpI a b).wf := wf_lit _ _ _ _ _ (by unfold i64; decide) (by unfold i64; omega) (by unfold i64; omega) (by unfold i64; decide) (by decide)
theorem cleanP_length (l : List Ins) : (cleanP l).length = mostN l + l.length := by unfold cleanP cleanH; rw [List.length_append, cleanK_length]

end Go.Proofs.Ytlaeljkjdfffjaa

namespace Go.Proofs.Ytlaeljkjdfffjaa
open Go.RowKit

end Go.Proofs.Ytlaeljkjdfffjaa

namespace Go.Proofs.Ytlaeljkjdfffjaa
open Go.RowKit

/-- The error that is due for programs and for what is made of them; what is handed back. -/
def dueN (ls : List (List Ins)) (m : List Ins) : Int := if allV ls = false then 1 else if 28 < mostR ls then 8 else if validB m = true then 0 else 3
def MadeOut (w : World) (d : Int) (m : List Ins) (e : Ending) (w' : World) : Prop := (if d = 0 then ∃ v', e = .returned (.tuple #[v', .int .i64 0]) ∧ InsRow w' w'.heap.size v' m else e = .returned (.tuple #[.slice none 0 0, .int .i64 d])) ∧ Below w.heap.size w w'
theorem MadeOut.bad {w w' : World} {d : Int} {m : List Ins} {e : Ending} (hd : d ≠ 0) (he : e = .returned (.tuple #[.slice none 0 0, .int .i64 d])) (hb : Below w.heap.size w w') : MadeOut w d m e w' := ⟨by rw [if_neg hd]; exact he, hb⟩
theorem MadeOut.ok {w w' : World} {d : Int} {m : List Ins} {e : Ending} {v' : Value} (hd : d = 0) (he : e = .returned (.tuple #[v', .int .i64 0])) (hr : InsRow w' w'.heap.size v' m) (hb : Below w.heap.size w w') : MadeOut w d m e w' := ⟨by rw [if_pos hd]; exact ⟨v', he, hr⟩, hb⟩
end Go.Proofs.Ytlaeljkjdfffjaa

namespace Go.Proofs.Ytlaeljkjdfffjaa
open Go.RowKit

theorem thenL_succ (ls : List (List Ins)) (k : Nat) {l : List Ins} (hl : ls[k]? = some l) : thenL (ls.take (k + 1)) = thenL (ls.take k) ++ (if k = 0 then l else cleanP l) := by
  rw [take_snoc' _ _ _ hl]
  cases k with
  | zero => simp [thenL]
  | succ k =>
    cases ls with
    | nil => simp at hl
    | cons x xs => simp [thenL, List.take_succ_cons]
theorem thenL_len (ls : List (List Ins)) (hv : allV ls = true) : (thenL ls).length ≤ lenS ls + 32 * ls.length := by
  cases ls with
  | nil => simp [thenL]
  | cons x xs =>
    have : ∀ ys : List (List Ins), allV ys = true → ((ys.map cleanP).flatten).length ≤ lenS ys + 32 * ys.length := by
      intro ys
      induction ys with
      | nil => intro _; simp
      | cons y ys ih =>
        intro h
        simp only [allV, List.all_cons, Bool.and_eq_true] at h
        have h1 := ih h.2
        have h2 := mostN_lt (validB_all h.1) y.length (Nat.le_refl _)
        rw [mostN_all] at h2
        simp only [List.map_cons, List.flatten_cons, List.length_append, cleanP_length, List.length_cons, lenS, List.sum_cons] at h1 ⊢
        omega
    simp only [allV, List.all_cons, Bool.and_eq_true] at hv
    have h1 := this xs hv.2
    simp only [thenL, List.length_append, lenS, List.map_cons, List.sum_cons, List.length_cons] at h1 ⊢
    omega
theorem allV_take {ls : List (List Ins)} (h : allV ls = true) (k : Nat) : allV (ls.take k) = true := List.all_eq_true.2 fun x hx => List.all_eq_true.1 h x (List.mem_of_mem_take hx)

end Go.Proofs.Ytlaeljkjdfffjaa

namespace Go.Proofs.Ytlaeljkjdfffjaa
open Go.RowKit

theorem thenL_mono (ls : List (List Ins)) (k : Nat) : (thenL (ls.take k)).length ≤ (thenL ls).length := by
  cases ls with
  | nil => simp
  | cons x xs =>
    cases k with
    | zero => simp [thenL]
    | succ k =>
      simp only [List.take_succ_cons, thenL, List.length_append]
      have h : ((xs.take k).map cleanP).flatten.length ≤ (xs.map cleanP).flatten.length := by
        conv => rhs; rw [← List.take_append_drop k xs]
        rw [List.map_append, List.flatten_append, List.length_append]; omega
      omega
theorem valid_large {l : List Ins} (h : 4000 < l.length) : validB l = false := by
  cases hv : validB l with
  | false => rfl
  | true => have := validB_len hv; omega

end Go.Proofs.Ytlaeljkjdfffjaa

namespace Go.Proofs.Ytlaeljkjdfffjaa
open Go.RowKit

theorem InsRow.grew {w w' : World} {v v' vx : Value} {m : Nat} {l : List Ins} (h : InsRow w w.heap.size vx l) (hg : Grew w w' v v' m) (hne : ∀ g, vx.ownBlock = some g → v.ownBlock ≠ some g) : InsRow w' w'.heap.size vx l := by
  refine ⟨h.1, h.2.1, ?_⟩
  rcases h.2.2 with h3 | ⟨g, off, cap, rfl, hgl, hc⟩
  · exact .inl h3
  · exact .inr ⟨g, off, cap, rfl, by have := hg.lt; omega, fun j x hj k u hk => (World.cell?_of_block (hg.old g hgl (fun e => hne g rfl e.symm))).trans (hc j x hj k u hk)⟩
theorem app_litG {ops : Array Oper} {rest : List Oper} {o : Oper} {a : Act} {Q : Exit → Act → World → Prop} (hgd : o.guard = none) (s x : Operand)
    (ho : o.op = .call { callee := .builtin .append, args := #[s, x], argTypes := #[23, 23] }) {w w0 : World} {v : Value} {m : List Ins} (l : List Ins) {n : Nat}
    (hs : a.eval s = v) (hown : OwnI w w0.heap.size v m) (hx : a.eval x = .slice (some ⟨w.heap.size, 0, none⟩) n n) (hn : l.length = n) (hwf : ∀ y ∈ l, y.wf) (hlen : m.length + n ≤ 1000000000) (hb : Below w0.heap.size w0 w)
    (h : ∀ a' k c' w', Hid (k = m.length + n) → Hid (OwnI w' w0.heap.size (.slice a' k c') (m ++ l)) → Hid (Below w0.heap.size w0 w') → Hid (Grew w w' v (.slice a' k c') n) → wpList Try.prog ops Q rest (a.put o.dst (.slice a' k c')) w') :
    wpList Try.prog ops Q (o :: rest) a (w.alloc (.cells (inscells l).toArray 41)) := by
  refine app_new el_ins hgd s x ho hs hown.own (inscells l) n hx (by rw [inscells_length, hn]) (inscells_one l) (by omega) (by unfold maxLen; omega) hb.size hb (Nat.le_refl _) ?_
  intro v' w' h1 h2 h3
  obtain ⟨a', c', rfl⟩ := own_len h1
  exact h a' _ c' w' (Lib.hid rfl) (Lib.hid (OwnI.app h1 (by rw [hn]) hown.wf hwf)) (Lib.hid h2) (Lib.hid h3)

end Go.Proofs.Ytlaeljkjdfffjaa

namespace Go.Proofs.Ytlaeljkjdfffjaa
open Go.RowKit

end Go.Proofs.Ytlaeljkjdfffjaa

namespace Go.Proofs.Ytlaeljkjdfffjaa
open Go.RowKit

theorem rightB_mono {x : Ins} {i n i' n' : Int} (h : rightB x i n = true) (h1 : i ≤ i') (h2 : n - i ≤ n' - i') : rightB x i' n' = true := by
  unfold rightB at h ⊢
  simp only [Bool.and_eq_true] at h ⊢
  refine ⟨h.1, ?_⟩
  have h3 := h.2
  split at h3
  · rename_i e; rw [if_pos e]; exact h3
  · rename_i e
    rw [if_neg e]
    split at h3
    · rename_i e; rw [if_pos e]; exact h3
    · rename_i e
      rw [if_neg e]
      split at h3
      · rename_i e; rw [if_pos e]; exact h3
      · rename_i e
        rw [if_neg e]
        split at h3
        · rename_i e
          rw [if_pos e]
          simp only [Bool.and_eq_true, decide_eq_true_eq] at h3 ⊢
          omega
        · cases h3
theorem rightAll_iff {l : List Ins} : rightAll l = true ↔ ∀ (i : Nat) x, l[i]? = some x → rightB x i l.length = true := by
  constructor
  · intro h i x hx; exact rightAll_get h hx
  · intro h
    unfold rightAll
    rw [List.all_eq_true]
    intro i hi
    cases hx : l[i]? with
    | none => rfl
    | some x => exact h i x hx
/-- A valid program, at another place. -/
theorem rightAll_at {l : List Ins} (h : rightAll l = true) {i : Nat} {x : Ins} (hx : l[i]? = some x) {k n : Nat} (hn : k + l.length ≤ n) : rightB x ((k + i : Nat) : Int) n = true :=
  rightB_mono (rightAll_get h hx) (by omega) (by omega)
theorem rightAll_append {a b : List Ins} (ha : ∀ (i : Nat) x, a[i]? = some x → rightB x i (a ++ b).length = true) (hb : ∀ (i : Nat) x, b[i]? = some x → rightB x ((a.length + i : Nat) : Int) (a ++ b).length = true) : rightAll (a ++ b) = true := by
  rw [rightAll_iff]
  intro i x hx
  by_cases h : i < a.length
  · rw [List.getElem?_append_left h] at hx; exact ha i x hx
  · rw [List.getElem?_append_right (by omega)] at hx
    have := hb (i - a.length) x hx
    rwa [show a.length + (i - a.length) = i by omega] at this
/-- Within the limits. -/
def fitsP (l : List Ins) : Bool := decide (l.length ≤ 4000) && decide (trees l ≤ 2000000)
theorem validB_fits {l : List Ins} (h : rightAll l = true) : validB l = fitsP l := by unfold validB fitsP; rw [h, Bool.and_true]
theorem trees_append (a b : List Ins) : trees (a ++ b) = trees a + trees b := by simp [trees]

/-- A program stands within another one. -/
def Seg (P : List Ins) (k : Nat) (l : List Ins) : Prop := ∀ (i : Nat) x, l[i]? = some x → P[k + i]? = some x
theorem Seg.len {P l : List Ins} {k : Nat} (h : Seg P k l) (hl : 0 < l.length) : k + l.length ≤ P.length := by
  have := h (l.length - 1) l[l.length - 1] (List.getElem?_eq_getElem (by omega))
  have := (List.getElem?_eq_some_iff.1 this).1
  omega
theorem Seg.mid (a l b : List Ins) : Seg (a ++ l ++ b) a.length l := by
  intro i x hx
  have hi := (List.getElem?_eq_some_iff.1 hx).1
  rw [List.getElem?_append_left (by simp; omega), List.getElem?_append_right (by omega), show a.length + i - a.length = i by omega, hx]
theorem Seg.right (a l : List Ins) : Seg (a ++ l) a.length l := by have := Seg.mid a l []; rwa [List.append_nil] at this

/-- A step within. -/
theorem Seg.step {P l : List Ins} {k : Nat} (h : Seg P k l) (hv : rightAll l = true) {s : St} (hp : s.pos < l.length) :
    stepP P ⟨k + s.pos, s.regs⟩ = (stepP l s).map fun s' => ⟨k + s'.pos, s'.regs⟩ := by
  obtain ⟨x, hx⟩ : ∃ x, l[s.pos]? = some x := ⟨_, List.getElem?_eq_getElem hp⟩
  have hr := rightAll_get hv hx
  unfold stepP
  rw [hx]
  simp only [h _ _ hx]
  unfold rightB at hr
  simp only [Bool.and_eq_true] at hr
  have h3 := hr.2
  unfold stepX
  split
  · simp [Nat.add_assoc]
  · split
    · simp [Nat.add_assoc]
    · split
      · split <;> simp [Nat.add_assoc]
      · split
        · simp [Nat.add_assoc]
        · split
          · simp [Nat.add_assoc]
          · rename_i h0 h1 h2 h4 h5
            rw [if_neg h0, if_neg (by omega), if_neg h2] at h3
            split
            · simp [Nat.add_assoc]
            · split at h3
              · simp only [Bool.and_eq_true, decide_eq_true_eq] at h3
                simp only [Option.map_some, Option.some.injEq, St.mk.injEq, and_true]
                omega
              · simp at h3
/-- How a run within another one goes. -/
theorem Seg.run {P l : List Ins} {k : Nat} (h : Seg P k l) (hv : rightAll l = true) (hkl : k + l.length ≤ P.length) : ∀ (f n : Nat) (s : St), Good l.length s →
    (∀ s' m, goF l f n s = .done s' m → n ≤ m ∧ m ≤ n + f ∧ goF P f n ⟨k + s.pos, s.regs⟩ = goF P (f - (m - n)) m ⟨k + l.length, s'.regs⟩) ∧
    (∀ s' m, goF l f n s = .fuel s' m → goF P f n ⟨k + s.pos, s.regs⟩ = .fuel ⟨k + s'.pos, s'.regs⟩ m) ∧
    (goF l f n s = .big → goF P f n ⟨k + s.pos, s.regs⟩ = .big) := by
  intro f
  induction f with
  | zero =>
    intro n s hg
    by_cases hp : s.pos = l.length
    · rw [goF_done hp]
      refine ⟨?_, ?_, ?_⟩
      · intro s' m e; cases e; exact ⟨Nat.le_refl _, by omega, by rw [hp, Nat.sub_self]⟩
      · intro s' m e; cases e
      · intro e; cases e
    · rw [goF_zero hp]
      have hP : k + s.pos ≠ P.length := by have := hg.1; omega
      refine ⟨?_, ?_, ?_⟩
      · intro s' m e; cases e
      · intro s' m e; cases e; exact goF_zero hP
      · intro e; cases e
  | succ f ih =>
    intro n s hg
    by_cases hp : s.pos = l.length
    · rw [goF_done hp]
      refine ⟨?_, ?_, ?_⟩
      · intro s' m e; cases e; exact ⟨Nat.le_refl _, by omega, by rw [hp, Nat.sub_self]; rfl⟩
      · intro s' m e; cases e
      · intro e; cases e
    · have hpl : s.pos < l.length := by have := hg.1; omega
      have hP : k + s.pos ≠ P.length := by omega
      have hst := h.step hv hpl
      cases hs : stepP l s with
      | none =>
        rw [goF_big hp hs]
        rw [hs] at hst
        refine ⟨?_, ?_, ?_⟩
        · intro s' m e; cases e
        · intro s' m e; cases e
        · intro _; exact goF_big hP hst
      | some s1 =>
        rw [hs] at hst
        rw [goF_step hp hs, goF_step hP hst]
        obtain ⟨i1, i2, i3⟩ := ih (n + 1) s1 (hg.step hv hs)
        refine ⟨?_, i2, i3⟩
        intro s' m e
        obtain ⟨j1, j2, j3⟩ := i1 s' m e
        exact ⟨by omega, by omega, by rw [j3, show f - (m - (n + 1)) = f + 1 - (m - n) by omega]⟩

end Go.Proofs.Ytlaeljkjdfffjaa


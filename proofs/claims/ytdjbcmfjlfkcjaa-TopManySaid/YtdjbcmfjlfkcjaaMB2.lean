/- The walk of the iterator of a run's states. The walk of run.Run. The walk of run.After. Plain: the programs of the laws of narcissuslaw03. And programs that are written out. The walks of narcissuslaw03: awake and doubles. The walks of the laws of narcissuslaw03: RunRuns. The walks of the laws of narcissuslaw03: RunMore. The walks of the laws of narcissuslaw03: RunAfters. Contracts at a world, for walks that go from call to call. order, the plain part: in how many ways words go on; the table. order.counted. order, the plain part: words (the trees that have not ended, and the pairs that are left), their ranks, the next one. order.Count, Rank. How many registers a program uses: code.Regs, the reference's Regs. Programs out of programs: the makers of single instructions, the cleaning. Programs out of programs: a program behind its cleaning. slices.Grow at api.Program, from the shelf. Lists of programs in memory; build's check, done, leap; slices.Concat. append, said of programs. Programs out of programs: the reference's Pair, If, While. Programs out of programs: build's Pair, If, While. append to a row while later rows live. code.number and how the fields of an instruction are written. code.fields. -/
import Derived.Test.YtdjbcmfjlfkcjaaMB1
import Derived.RangeFuncNested
import Derived.RangeFuncBound
import Derived.RangeFuncCalls
import Derived.RangeFuncLeaves
import Derived.Shelf.Abstract
import Derived.Shelf.RegionOpen
import Derived.WalkKit
import Derived.OwnWalkIn
import Derived.TacticsInMore
import Derived.LoopNIn
import Derived.LoopIn
import Derived.Test.YtdjbcmfjlfkcjaaMB0
import Derived.Shelf.Spec.SlicesGrow
import Derived.Laws.EntriesVeiled
namespace Go.Proofs.Ytdjbcmfjlfkcjaa
open Go.RowKit Go.Shelf
attribute [local go_sem] Oper.semAt_some

theorem els_keeps {g : Nat} {A B : World} {cs : Array Value} {T : Nat} {fr : Nat × Nat} (h : Els g A B) (hc : A.heap[g]? = some (.cells cs T fr)) : KeepsOthers A B :=
  ⟨h.size, fun k o hk ho => by
    by_cases e : k = g
    · subst e; rw [hc] at hk; cases hk; cases ho
    · exact (h.block k (Array.getElem?_eq_some_iff.1 hk).1 e).trans hk⟩
theorem MachP.grown {W W' : World} {row : Option Nat} {B g : Nat} {l : List Ins} {s : St} {pv sv : Value} {ps : List Value} (h : MachP W B g l s pv sv ps) (hg : W.grownBy W' row) (hr : ∀ r, row = some r → ∃ o : Obj, W.heap[r]? = some o ∧ o.isCells = false) : MachP W' B g l s pv sv ps := by
  have K : ∀ T, Kept T W W' := fun T k cs hk => (grownBy_keeps_cells hg hr hk rfl).trans hk
  obtain ⟨xs, h1, h2⟩ := h.sets
  refine ⟨K _ _ _ h.blk, h.regs.kept (K _), ⟨h.prog.1, h.prog.2.1, ?_⟩, h.le, xs, h1.kept (K _), own_kept h2 (K _)⟩
  rcases h.prog.2.2 with h3 | ⟨g', off, cap, hv, hlt, hc⟩
  · exact .inl h3
  · exact .inr ⟨g', off, cap, hv, hlt, fun j x hj k u hk => cell_kept (hc j x hj k u hk) hg hr⟩

/-- The machine is in its k-th state; what the caller owns stands. -/
def AtK (l : List Ins) (s0 : St) (B g mb : Nat) (pv sv : Value) (C : World → Prop) (k : Nat) (W : World) : Prop :=
  Reach l s0 k ∧ (∃ ps, MachP W B g l (stN l s0 k) pv sv ps) ∧ W.cell? ⟨mb, 0, none⟩ = some (.pointer (some ⟨g, 0, none⟩)) ∧ C W
def RI (fuel : Nat) (l : List Ins) (s0 : St) (B g mb : Nat) (pv sv : Value) (C : World → Prop) (x : Nat × Bool) (W : World) : Prop :=
  x.1 ≤ fuel ∧ AtK l s0 B g mb pv sv C x.1 W ∧ (x.2 = true → x.1 < fuel ∧ (stN l s0 x.1).pos ≠ l.length ∧ stepP l (stN l s0 x.1) = none)
def RI' (fuel : Nat) (l : List Ins) (s0 : St) (B g mb : Nat) (pv sv : Value) (C : World → Prop) (x : Nat × Bool) (W : World) : Prop :=
  x.1 < fuel ∧ x.2 = false ∧ (stN l s0 x.1).pos ≠ l.length ∧ AtK l s0 B g mb pv sv C x.1 W
theorem AtK.els {l : List Ins} {s0 : St} {B g mb : Nat} {pv sv : Value} {C : World → Prop} {k : Nat} {W W' : World} (h : AtK l s0 B g mb pv sv C k W) (hC : ∀ A B, Els g A B → C A → C B) (hb : Below W.heap.size W W') : AtK l s0 B g mb pv sv C k W' := by
  obtain ⟨h1, ⟨ps, h2⟩, h3, h4⟩ := h
  refine ⟨h1, ⟨ps, h2.kept hb⟩, ?_, hC _ _ (Els.of_below hb) h4⟩
  have : mb < W.heap.size := by
    obtain ⟨o, ho, _⟩ := cells_of_cell h3
    exact (Array.getElem?_eq_some_iff.1 ho).1
  exact (hb.cell (p := ⟨mb, 0, none⟩) this).trans h3

theorem ended_at (b : Bool) (w : World) (B g : Nat) (l : List Ins) (s : St) (pv sv : Value) (ps : List Value) (hm : MachP w B g l s pv sv ps) (hg : Good l.length s) (hb : ((s.pos : Int) == (l.length : Int)) = b) :
    Calls Try.prog 135 #[.pointer (some ⟨g, 0, none⟩)] w fun e w' => e = .returned (.bool b) ∧ Below w.heap.size w w' := by
  refine (ended_any w B g l s pv sv ps hm hg).mono ?_
  rintro e w' ⟨rfl, nq, rfl⟩
  exact ⟨by rw [hb], below_drewN (Below.refl _ _) nq⟩

theorem step_at_some {l : List Ins} {s s' : St} (w : World) (B g : Nat) (pv sv : Value) (ps : List Value) (hm : MachP w B g l s pv sv ps) (hg : Good l.length s) (hv : rightAll l = true) (hp : s.pos < l.length) (hn4 : l.length ≤ 4000) (hs : stepP l s = some s') :
    Calls Try.prog 160 #[.pointer (some ⟨g, 0, none⟩)] w fun e w' => e = .returned (.bool true) ∧ Hid ((∃ ps', MachP w' B g l s' pv sv ps') ∧ Els g w w') := by
  refine (step_any w B g l s pv sv ps hm hg hv hp hn4).mono ?_
  intro e w' h
  unfold StepOut at h
  rw [hs] at h
  obtain ⟨ps', h1, h2, h3⟩ := h
  exact ⟨h1, ⟨ps', h2⟩, h3⟩
theorem step_at_none {l : List Ins} {s : St} (w : World) (B g : Nat) (pv sv : Value) (ps : List Value) (hm : MachP w B g l s pv sv ps) (hg : Good l.length s) (hv : rightAll l = true) (hp : s.pos < l.length) (hn4 : l.length ≤ 4000) (hs : stepP l s = none) :
    Calls Try.prog 160 #[.pointer (some ⟨g, 0, none⟩)] w fun e w' => e = .returned (.bool false) ∧ Hid ((∃ ps', MachP w' B g l s pv sv ps') ∧ Els g w w') := by
  refine (step_any w B g l s pv sv ps hm hg hv hp hn4).mono ?_
  intro e w' h
  unfold StepOut at h
  rw [hs] at h
  exact ⟨h.1, ⟨ps, h.2.1⟩, h.2.2⟩

set_option maxHeartbeats 1000000 in
theorem states_any (p : Option Addr) (w : World) :
    Calls Try.prog 134 #[.pointer p] w fun e w' => e = .returned (.func (.func 159) #[] #[.pointer (some ⟨w.heap.size, 0, none⟩)]) ∧ w' = w.alloc (.cells #[.pointer p] 175) := by
  go_enter Try.func134, Try.ntmps134
  go_wp2
  go_ret
  exact ⟨rfl, rfl⟩

set_option maxRecDepth 100000 in
set_option maxHeartbeats 2000000 in
theorem states1_ends (n : Nat) (fuel : Nat) (hfuel : fuel ≤ 10000000) (l : List Ins) (s0 : St) (B g mb : Nat) (hmb : mb ≠ g) (pv sv : Value) (C : World → Prop) (hC : ∀ A B, Els g A B → C A → C B) (hG : Good l.length s0) (hv : rightAll l = true) (hn4 : l.length ≤ 4000) :
    SeqEnds Fence.wide n Try.prog 159 #[.pointer (some ⟨mb, 0, none⟩)] (fun x : Nat × Bool => #[.int .i64 x.1, .bool x.2]) (AtK l s0 B g mb pv sv C 0) (RI fuel l s0 B g mb pv sv C) (RI' fuel l s0 B g mb pv sv C) := by
  intro lr Bk Bx hBk hY W h0 hk0
  have HY := Lib.hid hY
  have HC := Lib.hid hC
  have HBk := Lib.hid hBk
  have HG := Lib.hid hG
  have HV := Lib.hid hv
  clear hY hC hBk hG hv
  refine callsIn_of_wp Try.func159 rfl trivial ?_ rfl
  simp only [Try.ntmps159, List.size_toArray, List.length_cons, List.length_nil, Nat.reduceAdd, Nat.reduceSub, Array.replicate_succ, Array.replicate_zero, List.push_toArray, List.append_toArray, List.nil_append, List.cons_append]
  gi_wp2
  gi_loopw [3] (fun p wr => ∃ k : Nat, p = .int .i64 k ∧ k ≤ fuel ∧ AtK l s0 B g mb pv sv C k wr ∧ Hid (Bk wr)) (fun p _ => fuel - (intOf p).toNat)
  case atStart => exact ⟨0, rfl, by omega, h0, hk0⟩
  case round =>
    obtain ⟨k, rfl, hk, hat, hbk⟩ := hrel
    have hg := HG.out
    have hgk := hat.1.good HV.out HG.out
    have hR0 := Lib.hid hat.1
    obtain ⟨ps, hm⟩ := hat.2.1
    have c0 := hat.2.2.1
    have HAT := Lib.hid hat
    clear hat
    cases hp : ((stN l s0 k).pos : Int) == (l.length : Int) with
    | true =>
      have ke := ended_at _ wr B g l _ pv sv ps hm hgk hp
      have hpos : (stN l s0 k).pos = l.length := by have := eq_of_beq hp; omega
      have HP := Lib.hid hpos
      clear hp hpos
      gi_wp2_with fail
      refine ⟨trivial, fun h => (by cases h), (callsIn_wide.2 ke).mono ?_⟩
      rintro e w1 ⟨rfl, hb1⟩
      have hat1 := HAT.out.els HC.out hb1
      obtain ⟨fn, tmps, assign, body, hy, hR⟩ := HY.out (k, false) w1 ⟨hk, hat1, by simp⟩ (HBk.out _ _ (els_keeps (Els.of_below hb1) hm.blk) hbk.out)
      clear ke hm hat1
      gi_wp2
      refine ⟨fun h => (by cases h), hR.mono ?_⟩
      rintro e W3 (⟨rfl, hI, hB3⟩ | ⟨rfl, hx3⟩)
      · exact absurd HP.out hI.2.2.1
      · gi_wp2
        refine bodyPost_ret (results_none rfl _ _ _) rfl ?_
        exact ⟨⟨_, rfl⟩, hx3⟩
    | false =>
      have ke := ended_at _ wr B g l _ pv sv ps hm hgk hp
      have hpos : (stN l s0 k).pos ≠ l.length := by
        intro h
        rw [h] at hp
        simp at hp
      have hpl : (stN l s0 k).pos < l.length := by have := hgk.1; omega
      have HP := Lib.hid hpos
      have HG2 := Lib.hid hgk
      clear hp hpos hgk hg
      gi_wp2_with fail
      refine ⟨trivial, fun h => (by cases h), (callsIn_wide.2 ke).mono ?_⟩
      rintro e w1 ⟨rfl, hb1⟩
      have hat1 := HAT.out.els HC.out hb1
      obtain ⟨fn, tmps, assign, body, hy, hR⟩ := HY.out (k, false) w1 ⟨hk, hat1, by simp⟩ (HBk.out _ _ (els_keeps (Els.of_below hb1) hm.blk) hbk.out)
      clear ke hm hat1 c0
      gi_wp2
      refine ⟨fun h => (by cases h), hR.mono ?_⟩
      rintro e W3 (⟨rfl, hI, hB3⟩ | ⟨rfl, hx3⟩)
      · obtain ⟨hlt, _, _, hat3⟩ := hI
        obtain ⟨ps3, hm3⟩ := hat3.2.1
        have c3 := hat3.2.2.1
        have HAT3 := Lib.hid hat3
        have HB3 := Lib.hid hB3
        clear hy hR hat3 hB3
        cases hs : stepP l (stN l s0 k) with
        | some s' =>
          have ks := step_at_some W3 B g pv sv ps3 hm3 HG2.out HV.out hpl hn4 hs
          have HM3 := Lib.hid hm3
          have HS := Lib.hid hs
          clear hs hm3
          gi_wp2_with fail
          refine ⟨trivial, fun h => (by cases h), (callsIn_wide.2 ks).mono ?_⟩
          rintro e w4 ⟨rfl, hE⟩
          clear ks
          have hnew : Hid (AtK l s0 B g mb pv sv C (k + 1) w4 ∧ Bk w4) := by
            obtain ⟨⟨ps', hm'⟩, hels⟩ := hE.out
            refine ⟨⟨hR0.out.succ HP.out HS.out, ⟨ps', by rw [stN_succ HS.out]; exact hm'⟩, ?_, HC.out _ _ hels HAT3.out.2.2.2⟩, HBk.out _ _ (els_keeps hels HM3.out.blk) HB3.out⟩
            have hmb' : mb < W3.heap.size := by
              obtain ⟨o, ho, _⟩ := cells_of_cell c3
              exact (Array.getElem?_eq_some_iff.1 ho).1
            exact (World.cell?_of_block (hels.block mb hmb' hmb)).trans c3
          clear hE c3
          gi_wp2
          go_roundw
          case rel => exact ⟨k + 1, by go_num, by omega, hnew.out.1, hnew.out.2⟩
          case measure => simp [intOf]; omega
        | none =>
          have ks := step_at_none W3 B g pv sv ps3 hm3 HG2.out HV.out hpl hn4 hs
          have HM3 := Lib.hid hm3
          have HS := Lib.hid hs
          clear hs hm3
          gi_wp2_with fail
          refine ⟨trivial, fun h => (by cases h), (callsIn_wide.2 ks).mono ?_⟩
          rintro e w4 ⟨rfl, hE⟩
          clear ks
          have hnew : AtK l s0 B g mb pv sv C k w4 ∧ Bk w4 := by
            obtain ⟨⟨ps', hm'⟩, hels⟩ := hE.out
            refine ⟨⟨hR0.out, ⟨ps', hm'⟩, ?_, HC.out _ _ hels HAT3.out.2.2.2⟩, HBk.out _ _ (els_keeps hels HM3.out.blk) HB3.out⟩
            have hmb' : mb < W3.heap.size := by
              obtain ⟨o, ho, _⟩ := cells_of_cell c3
              exact (Array.getElem?_eq_some_iff.1 ho).1
            exact (World.cell?_of_block (hels.block mb hmb' hmb)).trans c3
          obtain ⟨fn, tmps, assign, body, hy, hR⟩ := HY.out (k, true) w4 ⟨hk, hnew.1, fun _ => ⟨hlt, HP.out, HS.out⟩⟩ hnew.2
          clear hE c3 hnew
          gi_wp2
          refine ⟨fun h => (by cases h), hR.mono ?_⟩
          rintro e W5 (⟨rfl, hI5, _⟩ | ⟨rfl, hx5⟩)
          · exact absurd hI5.2.1 (by simp)
          · gi_wp2
            refine bodyPost_ret (results_none rfl _ _ _) rfl ?_
            exact ⟨⟨_, rfl⟩, hx5⟩
      · gi_wp2
        refine bodyPost_ret (results_none rfl _ _ _) rfl ?_
        exact ⟨⟨_, rfl⟩, hx3⟩

end Go.Proofs.Ytdjbcmfjlfkcjaa

namespace Go.Proofs.Ytdjbcmfjlfkcjaa
open Go.RowKit Go.Shelf
attribute [local go_sem] Oper.semAt_some

/-- What Run hands back. -/
def RunOut (w : World) (y : ByteArray) (k : Nat) (er : Int) (e : Ending) (w' : World) : Prop := e = .returned (.tuple #[.string y, .int .i64 k, .int .i64 er]) ∧ Below w.heap.size w w'

theorem els_blk {g b : Nat} {A B : World} {o : Obj} (h : Els g A B) (hne : b ≠ g) (hc : A.heap[b]? = some o) : B.heap[b]? = some o :=
  (h.block b (Array.getElem?_eq_some_iff.1 hc).1 hne).trans hc
theorem below_blk {n b : Nat} {A B : World} {o : Obj} (h : Below n A B) (hc : A.heap[b]? = some o) (hn : b < n) : B.heap[b]? = some o := (h.block b hn).trans hc
theorem grown_blk {b : Nat} {A B : World} {row : Option Nat} {cs : Array Value} {T : Nat} {fr : Nat × Nat} (hg : A.grownBy B row) (hr : ∀ r, row = some r → ∃ o : Obj, A.heap[r]? = some o ∧ o.isCells = false) (hc : A.heap[b]? = some (.cells cs T fr)) : B.heap[b]? = some (.cells cs T fr) :=
  (grownBy_keeps_cells hg hr hc rfl).trans hc

/-- What Run's own variables hold. -/
structure RunC (w : World) (bm : Nat) (mv : Value) (fuel : Int) (y : ByteArray) (k er : Int) (W : World) : Prop where
  f : W.heap[w.heap.size]? = some (.cells #[.int .i64 fuel] 3 (0, 0))
  y : W.heap[w.heap.size + 1]? = some (.cells #[.string y] 9 (0, 0))
  k : W.heap[w.heap.size + 1 + 1]? = some (.cells #[.int .i64 k] 3 (0, 0))
  e : W.heap[w.heap.size + 1 + 1 + 1]? = some (.cells #[.int .i64 er] 29 (0, 0))
  m : W.heap[bm]? = some (.cells #[mv] 175 (0, 0))
  b : Below w.heap.size w W
theorem RunC.els {w : World} {bm : Nat} {mv : Value} {fuel : Int} {y : ByteArray} {k er : Int} {A B : World} (h : RunC w bm mv fuel y k er A) {g : Nat} (hE : Els g A B) (hg : w.heap.size + 1 + 1 + 1 < g) (hm : bm ≠ g) : RunC w bm mv fuel y k er B :=
  ⟨els_blk hE (by omega) h.f, els_blk hE (by omega) h.y, els_blk hE (by omega) h.k, els_blk hE (by omega) h.e, els_blk hE hm h.m, h.b.trans (hE.below (by omega) h.b.size)⟩
theorem RunC.grown {w : World} {bm : Nat} {mv : Value} {fuel : Int} {y : ByteArray} {k er : Int} {A B : World} {row : Option Nat} (h : RunC w bm mv fuel y k er A) (hg : A.grownBy B row) (hr : ∀ r, row = some r → w.heap.size ≤ r ∧ ∃ o : Obj, A.heap[r]? = some o ∧ o.isCells = false) : RunC w bm mv fuel y k er B :=
  have hr' := fun r e => (hr r e).2
  ⟨grown_blk hg hr' h.f, grown_blk hg hr' h.y, grown_blk hg hr' h.k, grown_blk hg hr' h.e, grown_blk hg hr' h.m, h.b.grown hg h.b.size (fun k e => (hr k e).1)⟩

theorem RunC.put {w W : World} {bm : Nat} {mv : Value} {fuel : Int} {y0 : ByteArray} {k0 e0 : Int} (h : RunC w bm mv fuel y0 k0 e0 W) (hbm : w.heap.size + 1 + 1 + 1 < bm) (y : ByteArray) (k er : Int) :
    KeepsOthers W (((W.setCell ⟨w.heap.size + 1, 0, none⟩ (.string y)).setCell ⟨w.heap.size + 1 + 1, 0, none⟩ (.int .i64 k)).setCell ⟨w.heap.size + 1 + 1 + 1, 0, none⟩ (.int .i64 er)) ∧
    RunC w bm mv fuel y k er (((W.setCell ⟨w.heap.size + 1, 0, none⟩ (.string y)).setCell ⟨w.heap.size + 1 + 1, 0, none⟩ (.int .i64 k)).setCell ⟨w.heap.size + 1 + 1 + 1, 0, none⟩ (.int .i64 er)) := by
  refine ⟨((KeepsOthers.setCell _ _ _).trans (KeepsOthers.setCell _ _ _)).trans (KeepsOthers.setCell _ _ _), ?_⟩
  have e1 : ∀ (V : World) (b : Nat) (o : Obj) (c : Nat) (u : Value), b ≠ c → V.heap[b]? = some o → (V.setCell ⟨c, 0, none⟩ u).heap[b]? = some o := fun V b o c u hne h => (Below.heap_setCell _ _ _ _ (by show b ≠ c; exact hne)).trans h
  refine ⟨e1 _ _ _ _ _ (by omega) (e1 _ _ _ _ _ (by omega) (e1 _ _ _ _ _ (by omega) h.f)), e1 _ _ _ _ _ (by omega) (e1 _ _ _ _ _ (by omega) ?_), e1 _ _ _ _ _ (by omega) ?_, ?_, e1 _ _ _ _ _ (by omega) (e1 _ _ _ _ _ (by omega) (e1 _ _ _ _ _ (by omega) h.m)), ?_⟩
  · exact set_blk h.y 0 _
  · exact set_blk (e1 _ _ _ _ _ (by omega) h.k) 0 _
  · exact set_blk (e1 _ _ _ _ _ (by omega) (e1 _ _ _ _ _ (by omega) h.e)) 0 _
  · exact ((h.b.setCell (p := ⟨w.heap.size + 1, 0, none⟩) (by show w.heap.size ≤ w.heap.size + 1; omega) _).setCell (p := ⟨w.heap.size + 1 + 1, 0, none⟩) (by show w.heap.size ≤ w.heap.size + 1 + 1; omega) _).setCell (p := ⟨w.heap.size + 1 + 1 + 1, 0, none⟩) (by show w.heap.size ≤ w.heap.size + 1 + 1 + 1; omega) _
theorem RunC.below {w : World} {bm : Nat} {mv : Value} {fuel : Int} {y : ByteArray} {k er : Int} {A B : World} (h : RunC w bm mv fuel y k er A) (hE : Below A.heap.size A B) : RunC w bm mv fuel y k er B := by
  have q : ∀ (b : Nat) (o : Obj), A.heap[b]? = some o → B.heap[b]? = some o := fun b o ho => below_blk hE ho (Array.getElem?_eq_some_iff.1 ho).1
  exact ⟨q _ _ h.f, q _ _ h.y, q _ _ h.k, q _ _ h.e, q _ _ h.m, h.b.trans (hE.mono h.b.size)⟩
theorem below_keeps {A B : World} (h : Below A.heap.size A B) : KeepsOthers A B := ⟨h.size, fun _k _o hk _ => below_blk h hk (Array.getElem?_eq_some_iff.1 hk).1⟩

/-- Run's variables, before it begins. -/
def RunB0 (w : World) (fuel : Int) (W : World) : Prop :=
  W.heap[w.heap.size]? = some (.cells #[.int .i64 fuel] 3 (0, 0)) ∧ W.heap[w.heap.size + 1]? = some (.cells #[.string ⟨#[]⟩] 9 (0, 0)) ∧ W.heap[w.heap.size + 1 + 1]? = some (.cells #[.int .i64 0] 3 (0, 0)) ∧
  W.heap[w.heap.size + 1 + 1 + 1]? = some (.cells #[.int .i64 0] 29 (0, 0)) ∧ Below w.heap.size w W ∧ W.heap.size = w.heap.size + 1 + 1 + 1 + 1
theorem run_boxes (w : World) (fuel : Int) : RunB0 w fuel ((((w.alloc (.cells #[.int .i64 fuel] 3)).alloc (.cells #[.string ⟨#[]⟩] 9)).alloc (.cells #[.int .i64 0] 3)).alloc (.cells #[.int .i64 0] 29)) := by
  have x0 := heap_alloc_new w (.cells #[.int .i64 fuel] 3)
  have x1 := heap_alloc_new (w.alloc (.cells #[.int .i64 fuel] 3)) (.cells #[.string ⟨#[]⟩] 9)
  have x2 := heap_alloc_new ((w.alloc (.cells #[.int .i64 fuel] 3)).alloc (.cells #[.string ⟨#[]⟩] 9)) (.cells #[.int .i64 0] 3)
  have x3 := heap_alloc_new (((w.alloc (.cells #[.int .i64 fuel] 3)).alloc (.cells #[.string ⟨#[]⟩] 9)).alloc (.cells #[.int .i64 0] 3)) (.cells #[.int .i64 0] 29)
  have y0 := (Below.heap_alloc _ (.cells #[.int .i64 0] 29) _ (by simp only [World.size_alloc]; omega)).trans ((Below.heap_alloc _ (.cells #[.int .i64 0] 3) _ (by simp only [World.size_alloc]; omega)).trans ((Below.heap_alloc _ (.cells #[.string ⟨#[]⟩] 9) _ (by simp)).trans x0))
  have y1 := (Below.heap_alloc _ (.cells #[.int .i64 0] 29) _ (by simp only [World.size_alloc]; omega)).trans ((Below.heap_alloc _ (.cells #[.int .i64 0] 3) _ (by simp)).trans x1)
  have y2 := (Below.heap_alloc _ (.cells #[.int .i64 0] 29) _ (by simp)).trans x2
  simp only [World.size_alloc] at y0 y1 y2 x3
  exact ⟨y0, y1, y2, x3, ((((Below.refl _ w).alloc (Nat.le_refl _) _).alloc (by simp) _).alloc (by simp; omega) _).alloc (by simp; omega) _, by simp⟩
theorem RunB0.below {w W W1 : World} {fuel : Int} (h : RunB0 w fuel W) (hb : Below W.heap.size W W1) :
    W1.heap[w.heap.size]? = some (.cells #[.int .i64 fuel] 3 (0, 0)) ∧ W1.heap[w.heap.size + 1]? = some (.cells #[.string ⟨#[]⟩] 9 (0, 0)) ∧ W1.heap[w.heap.size + 1 + 1]? = some (.cells #[.int .i64 0] 3 (0, 0)) ∧
    W1.heap[w.heap.size + 1 + 1 + 1]? = some (.cells #[.int .i64 0] 29 (0, 0)) ∧ Below w.heap.size w W1 ∧ w.heap.size + 1 + 1 + 1 < W1.heap.size := by
  obtain ⟨y0, y1, y2, y3, hb0, hs⟩ := h
  exact ⟨below_blk hb y0 (by omega), below_blk hb y1 (by omega), below_blk hb y2 (by omega), below_blk hb y3 (by omega), hb0.trans (hb.mono (by omega)), by have := hb.size; omega⟩
theorem RunB0.start {w W w1 : World} {fuel : Int} (h : RunB0 w fuel W) (hb1 : Below W.heap.size W w1) (_ : w.heap.size + 1 + 1 + 1 < w1.heap.size) (mv : Value) :
    RunC w w1.heap.size mv fuel ⟨#[]⟩ 0 0 ((w1.alloc (.cells #[mv] 175)).alloc (.cells #[mv] 175)) := by
  obtain ⟨y0, y1, y2, y3, hb0, hs⟩ := h.below hb1
  have hb2 : Below w1.heap.size w1 ((w1.alloc (.cells #[mv] 175)).alloc (.cells #[mv] 175)) := ((Below.refl _ _).alloc (Nat.le_refl _) _).alloc (by simp) _
  exact ⟨below_blk hb2 y0 (by omega), below_blk hb2 y1 (by omega), below_blk hb2 y2 (by omega), below_blk hb2 y3 (by omega), (Below.heap_alloc _ _ _ (by simp)).trans (heap_alloc_new w1 _), hb0.trans (hb2.mono (by omega))⟩
theorem RunB0.start1 {w W w1 : World} {fuel : Int} (h : RunB0 w fuel W) (hb1 : Below W.heap.size W w1) (mv : Value) :
    RunC w w1.heap.size mv fuel ⟨#[]⟩ 0 0 (w1.alloc (.cells #[mv] 175)) := by
  obtain ⟨y0, y1, y2, y3, hb0, hs⟩ := h.below hb1
  have hb2 : Below w1.heap.size w1 (w1.alloc (.cells #[mv] 175)) := (Below.refl _ _).alloc (Nat.le_refl _) _
  exact ⟨below_blk hb2 y0 (by omega), below_blk hb2 y1 (by omega), below_blk hb2 y2 (by omega), below_blk hb2 y3 (by omega), heap_alloc_new w1 _, hb0.trans (hb2.mono (by omega))⟩

theorem AtK.grown {l : List Ins} {s0 : St} {B g mb : Nat} {pv sv : Value} {w : World} {bm : Nat} {mv : Value} {fuel : Int} {y : ByteArray} {k' er : Int} {k : Nat} {W W' : World} {row : Option Nat} (h : AtK l s0 B g mb pv sv (RunC w bm mv fuel y k' er) k W) (hg : W.grownBy W' row) (hr : ∀ r, row = some r → w.heap.size ≤ r ∧ ∃ o : Obj, W.heap[r]? = some o ∧ o.isCells = false) : AtK l s0 B g mb pv sv (RunC w bm mv fuel y k' er) k W' := by
  obtain ⟨h1, ⟨ps, h2⟩, h3, h4⟩ := h
  exact ⟨h1, ⟨ps, h2.grown hg (fun r e => (hr r e).2)⟩, cell_kept h3 hg (fun r e => (hr r e).2), h4.grown hg hr⟩

set_option maxRecDepth 100000 in
set_option maxHeartbeats 2000000 in
theorem run_ok (v : Value) (l : List Ins) (t : Tr) (ht : t.size ≤ 2000000) (fuel : Nat) (hk1 : fuel ≤ 10000000) (w : World) (hl : InsRow w w.heap.size v l) (hv : validB l = true) (y : ByteArray) (k : Nat) (er : Int) (hres : (goF l fuel 0 (startS t)).run = (y, k, er)) :
    Calls Try.prog 110 #[v, .string (TS t), .int .i64 fuel] w (RunOut w y k er) := by
  have kb := fun w' (h : InsRow w' w'.heap.size v l) => begin_ok v l t ht fuel w' h hv (by omega) (by omega)
  have HG := Lib.hid (Good.start l.length t ht)
  have HV := Lib.hid (validB_all hv)
  have hn4 := validB_len hv
  have HR := Lib.hid hres
  have hl0 := hl
  obtain ⟨ao, cap, rfl⟩ := hl.len
  have hb0 : Below w.heap.size w ((((w.alloc (.cells #[.int .i64 fuel] 3)).alloc (.cells #[.string ⟨#[]⟩] 9)).alloc (.cells #[.int .i64 0] 3)).alloc (.cells #[.int .i64 0] 29)) :=
    ((((Below.refl _ w).alloc (Nat.le_refl _) _).alloc (by simp) _).alloc (by simp; omega) _).alloc (by simp; omega) _
  have kb0 := kb _ ((hl0.below hb0).mono hb0.size)
  obtain ⟨S, hS⟩ : ∃ S, TS t = S := ⟨_, rfl⟩
  rw [hS] at kb0 ⊢
  clear hv hres kb hS hl hl0
  refine (callsIn_wide (n := 5)).1 ?_
  refine callsIn_of_wp_marks Try.func110 rfl trivial ?_ rfl
  simp only [Try.ntmps110, List.size_toArray, List.length_cons, List.length_nil, Nat.reduceAdd, Nat.reduceSub, Array.replicate_succ, Array.replicate_zero, List.push_toArray, List.append_toArray, List.nil_append, List.cons_append]
  gi_wp2_with fail
  refine ⟨trivial, (callsIn_wide.2 kb0).mono ?_⟩
  rintro e w1 ⟨B, g, sv, ps, rfl, hm, hB, hb1⟩
  have hBs : w.heap.size + 1 + 1 + 1 < B := by simp at hB; omega
  have hble := hm.le
  have hglt := hm.lt
  have HM := Lib.hid hm
  clear kb0 hm
  gi_wp2_with fail
  refine ⟨trivial, (callsIn_wide.2 (states_any _ _)).mono ?_⟩
  rintro e w2 ⟨rfl, rfl⟩
  have hb2 : Below w1.heap.size w1 ((w1.alloc (.cells #[.pointer (some ⟨g, 0, none⟩)] 175)).alloc (.cells #[.pointer (some ⟨g, 0, none⟩)] 175)) := ((Below.refl _ _).alloc (Nat.le_refl _) _).alloc (by simp) _
  have hws : w.heap.size + 1 + 1 + 1 < w1.heap.size := by have := hb1.size; simp at this; omega
  have hbw : Below w.heap.size w w1 := hb0.trans (hb1.mono (by simp; omega))
  have hC0 := (run_boxes w fuel).start hb1 hws (.pointer (some ⟨g, 0, none⟩))
  have hA0 : AtK l (startS t) B g (w1.heap.size + 1) (.slice ao l.length cap) sv (RunC w w1.heap.size (.pointer (some ⟨g, 0, none⟩)) fuel ⟨#[]⟩ 0 0) 0 ((w1.alloc (.cells #[.pointer (some ⟨g, 0, none⟩)] 175)).alloc (.cells #[.pointer (some ⟨g, 0, none⟩)] 175)) := by
    refine ⟨Reach.zero _ _, ⟨ps, HM.out.kept hb2⟩, ?_, hC0⟩
    have := heap_alloc_new (w1.alloc (.cells #[.pointer (some ⟨g, 0, none⟩)] 175)) (.cells #[.pointer (some ⟨g, 0, none⟩)] 175)
    rw [World.size_alloc] at this
    exact (block_cells this).1 0
  have HA0 := Lib.hid hA0
  have HB2 := Lib.hid hb2
  clear hA0 hC0 hb2 hb1 hb0
  gi_wp2_with fail
  refine wpIn_rangeFunc_ends (α := Nat × Bool) rfl (by decide) (gf := 159) (lb := #[.pointer (some ⟨w1.heap.size + 1, 0, none⟩)]) rfl trivial (enters_of Try.func159 (by kernel_rfl) rfl)
    (AtK l (startS t) B g (w1.heap.size + 1) (.slice ao l.length cap) sv (RunC w w1.heap.size (.pointer (some ⟨g, 0, none⟩)) fuel ⟨#[]⟩ 0 0) 0)
    (RI fuel l (startS t) B g (w1.heap.size + 1) (.slice ao l.length cap) sv (RunC w w1.heap.size (.pointer (some ⟨g, 0, none⟩)) fuel ⟨#[]⟩ 0 0))
    (RI' fuel l (startS t) B g (w1.heap.size + 1) (.slice ao l.length cap) sv (RunC w w1.heap.size (.pointer (some ⟨g, 0, none⟩)) fuel ⟨#[]⟩ 0 0))
    (fun c W => c = .ret ∧ RunC w w1.heap.size (.pointer (some ⟨g, 0, none⟩)) fuel y k er W)
    (states1_ends _ fuel hk1 l (startS t) B g (w1.heap.size + 1) (by omega) _ sv _ (fun A B h hc => hc.els h (by omega) (by omega)) HG.out HV.out hn4) (fun _ => rfl)
    (fun _ A B row h hg hr => h.grown hg (fun r e => ⟨by have := (hr r e).1; simp at this; omega, (hr r e).2⟩))
    (fun x A B row h hg hr => ⟨h.1, h.2.1.grown hg (fun r e => ⟨by have := (hr r e).1; simp at this; omega, (hr r e).2⟩), h.2.2⟩)
    (fun x A B row h hg hr => ⟨h.1, h.2.1, h.2.2.1, h.2.2.2.grown hg (fun r e => ⟨by have := (hr r e).1; simp at this; omega, (hr r e).2⟩)⟩)
    (fun c _ A B row h hg hr => ⟨h.1, h.2.grown hg (fun r e => ⟨by have := (hr r e).1; simp at this; omega, (hr r e).2⟩)⟩)
    HA0.out
    (fun x => { tmps := #[.slice ao l.length cap, .string S, .int .i64 fuel, undef, undef, .pointer (some ⟨w.heap.size, 0, none⟩), .pointer (some ⟨w.heap.size + 1, 0, none⟩), .pointer (some ⟨w.heap.size + 1 + 1, 0, none⟩), .pointer (some ⟨w.heap.size + 1 + 1 + 1, 0, none⟩), .pointer (some ⟨w1.heap.size, 0, none⟩), .int .i64 0, .int .i64 x.1, .bool x.2,
      .tuple #[.pointer (some ⟨g, 0, none⟩), .int .i64 0], .slice ao l.length cap, .string S, .int .i64 fuel, .tuple #[.pointer (some ⟨g, 0, none⟩), .int .i64 0], .pointer (some ⟨g, 0, none⟩), .int .i64 0, .int .i64 0, .bool false, undef, .pointer (some ⟨g, 0, none⟩), .func (.func 159) #[] #[.pointer (some ⟨w1.heap.size + 1, 0, none⟩)],
      .int .i64 x.1, .bool x.2, undef, undef, undef, undef, undef, undef, undef, undef, undef, undef, undef, undef, undef, undef, undef, undef], defers := [] }) ?assign ?body ?stop
  case assign =>
    intro lr x W K hK
    gi_wp2
    exact hK
  case stop =>
    rintro D c W hD ⟨rfl, hc⟩ hK
    have hc' := hc.grown (grownBy_putObj' W D (.deferred none)) (fun r e => by cases e; exact ⟨by simp at hD; omega, _, hK, rfl⟩)
    have q1 := (block_cells hc'.y).1 0
    have q2 := (block_cells hc'.k).1 0
    have q3 := (block_cells hc'.e).1 0
    simp only [List.getElem?_toArray, List.getElem?_cons_zero] at q1 q2 q3
    gi_wp2
    refine ⟨by simp, .inl ⟨_, _, rfl, run_takeDeferred hK, ?_⟩⟩
    refine ⟨.tuple #[.string y, .int .i64 k, .int .i64 er], ?_, rfl, hc'.b⟩
    simp [results, Try.f110, go_sem, q1, q2, q3]
  case body =>
    rintro lr ⟨k1, b⟩ W hI
    obtain ⟨hk1', ⟨hre, ⟨ps1, hm1⟩, hmb, hC⟩, hbig⟩ := hI
    dsimp only at hk1' hre hm1 hbig
    have c0 := (block_cells hC.f).1 0
    have c1 := (block_cells hC.y).1 0
    have c2 := (block_cells hC.k).1 0
    have c3 := (block_cells hC.e).1 0
    have c4 := (block_cells hC.m).1 0
    have f1 := (block_cells hC.y).2 0
    have f2 := (block_cells hC.k).2 0
    have f3 := (block_cells hC.e).2 0
    simp only [List.getElem?_toArray, List.getElem?_cons_zero] at c0 c1 c2 c3 c4
    have hgk := hre.good HV.out HG.out
    have HRE := Lib.hid hre
    have HC := Lib.hid hC
    have HBIG := Lib.hid hbig
    clear hre hC hbig
    cases b with
    | true =>
      have hfin : Hid (y = ⟨#[]⟩ ∧ k = 0 ∧ er = 3) := by
        obtain ⟨h1, h2, h3⟩ := HBIG.out rfl
        have hr := HR.out
        rw [HRE.out.goF fuel hk1', show fuel - k1 = (fuel - k1 - 1) + 1 by omega, goF_big h2 h3] at hr
        simp only [Res.run, Prod.mk.injEq] at hr
        exact ⟨hr.1.symm, hr.2.1.symm, hr.2.2.symm⟩
      clear hm1 hgk
      obtain ⟨rfl, rfl, rfl⟩ := hfin.out
      gi_wp2
      obtain ⟨z1, z2⟩ := HC.out.put hws ⟨#[]⟩ 0 3
      exact ⟨z1, rfl, z2⟩
    | false =>
      cases hp : ((stN l (startS t) k1).pos : Int) == (l.length : Int) with
      | true =>
        have ke := ended_at _ W B g l _ _ sv ps1 hm1 hgk hp
        have hpos : (stN l (startS t) k1).pos = l.length := by have := eq_of_beq hp; omega
        obtain ⟨tr, htr⟩ : ∃ tr, (stN l (startS t) k1).regs[0]? = some tr := ⟨_, List.getElem?_eq_getElem (by rw [hgk.2.1]; omega)⟩
        have hfin : Hid (y = TS tr ∧ k = k1 ∧ er = 0) := by
          have hr := HR.out
          rw [HRE.out.goF fuel hk1', goF_done hpos] at hr
          simp only [Res.run, Prod.mk.injEq] at hr
          exact ⟨by rw [← hr.1]; exact (congrArg TS (getR_nat (r := 0) htr)), hr.2.1.symm, hr.2.2.symm⟩
        obtain ⟨rfl, rfl, rfl⟩ := hfin.out
        obtain ⟨_, _, _, hrg, _⟩ := hm1.cells hgk.2.1
        obtain ⟨q, cq, nq⟩ := hrg 0 tr htr
        have hts := hgk.2.2 tr (List.mem_of_getElem? htr)
        have HQ := Lib.hid nq
        have kt : ∀ w', Below W.heap.size W w' → Calls Try.prog 136 #[.pointer q] w' fun e w'' => e = .returned (.string (TS tr)) ∧ Below W.heap.size W w'' := fun w' hb' =>
          (nodeText_any tr _ w' (HQ.out.kept (Kept.below hb')) hts).mono fun e w'' h => ⟨h.1, hb'.trans (h.2.mono hb'.size)⟩
        have hgl := hm1.lt
        clear hp hpos hrg hm1 hgk nq
        gi_wp2_with fail
        refine ⟨trivial, CallsIn.inRound lr ((callsIn_wide.2 ke).mono ?_)⟩
        rintro e W1 ⟨rfl, hb1⟩
        have HC1 := Lib.hid (HC.out.below hb1)
        have c0 := (block_cells HC1.out.f).1 0
        have c1 := (block_cells HC1.out.y).1 0
        have c2 := (block_cells HC1.out.k).1 0
        have c3 := (block_cells HC1.out.e).1 0
        have c4 := (block_cells HC1.out.m).1 0
        have f1 := (block_cells HC1.out.y).2 0
        have f2 := (block_cells HC1.out.k).2 0
        have f3 := (block_cells HC1.out.e).2 0
        simp only [List.getElem?_toArray, List.getElem?_cons_zero] at c0 c1 c2 c3 c4
        have cq1 := (hb1.cell (p := ⟨g, 2 + 0, none⟩) hgl).trans cq
        have kt1 := kt _ hb1
        clear kt ke cq
        gi_wp2_with fail
        refine ⟨trivial, CallsIn.inRound lr ((callsIn_wide.2 kt1).mono ?_)⟩
        rintro e W2 ⟨rfl, hb2⟩
        have HC2 := Lib.hid (HC.out.below hb2)
        have c0 := (block_cells HC2.out.f).1 0
        have c1 := (block_cells HC2.out.y).1 0
        have c2 := (block_cells HC2.out.k).1 0
        have c3 := (block_cells HC2.out.e).1 0
        have f1 := (block_cells HC2.out.y).2 0
        have f2 := (block_cells HC2.out.k).2 0
        have f3 := (block_cells HC2.out.e).2 0
        simp only [List.getElem?_toArray, List.getElem?_cons_zero] at c0 c1 c2 c3
        have HKO := Lib.hid (below_keeps hb2)
        obtain ⟨Y, hY⟩ : ∃ Y, TS tr = Y := ⟨_, rfl⟩
        rw [hY]
        have HY := Lib.hid hY
        clear hY kt1 c4 hb1 hb2 cq1
        gi_wp2
        obtain ⟨z1, z2⟩ := HC2.out.put hws Y k 0
        exact ⟨HKO.out.trans z1, rfl, by rw [HY.out]; exact z2⟩
      | false =>
        have ke := ended_at _ W B g l _ _ sv ps1 hm1 hgk hp
        have hpos : (stN l (startS t) k1).pos ≠ l.length := by
          intro h
          rw [h] at hp
          simp at hp
        have HP := Lib.hid hpos
        have HM1 := Lib.hid hm1
        by_cases hkf : k1 = fuel
        · have hfin : Hid (y = ⟨#[]⟩ ∧ k = 0 ∧ er = 7) := by
            have hr := HR.out
            rw [HRE.out.goF fuel hk1', hkf, Nat.sub_self, goF_zero (by rw [← hkf]; exact HP.out)] at hr
            simp only [Res.run, Prod.mk.injEq] at hr
            exact ⟨hr.1.symm, hr.2.1.symm, hr.2.2.symm⟩
          obtain ⟨rfl, rfl, rfl⟩ := hfin.out
          have hkk : ((k1 : Int) == (fuel : Int)) = true := by rw [hkf]; simp
          clear hp hpos hgk hm1 hkf
          gi_wp2_with fail
          refine ⟨trivial, CallsIn.inRound lr ((callsIn_wide.2 ke).mono ?_)⟩
          rintro e W1 ⟨rfl, hb1⟩
          have HC1 := Lib.hid (HC.out.below hb1)
          have HKO := Lib.hid (below_keeps hb1)
          have c0 := (block_cells HC1.out.f).1 0
          have c1 := (block_cells HC1.out.y).1 0
          have c2 := (block_cells HC1.out.k).1 0
          have c3 := (block_cells HC1.out.e).1 0
          have f1 := (block_cells HC1.out.y).2 0
          have f2 := (block_cells HC1.out.k).2 0
          have f3 := (block_cells HC1.out.e).2 0
          simp only [List.getElem?_toArray, List.getElem?_cons_zero] at c0 c1 c2 c3
          clear ke hb1
          gi_wp2
          obtain ⟨z1, z2⟩ := HC1.out.put hws ⟨#[]⟩ 0 7
          exact ⟨HKO.out.trans z1, rfl, z2⟩
        · have hkk : ((k1 : Int) == (fuel : Int)) = false := by rw [beq_eq_false_iff_ne]; omega
          have hlt : k1 < fuel := by omega
          clear hp hpos hgk hm1 hkf
          gi_wp2_with fail
          refine ⟨trivial, CallsIn.inRound lr ((callsIn_wide.2 ke).mono ?_)⟩
          rintro e W1 ⟨rfl, hb1⟩
          have HC1 := Lib.hid (HC.out.below hb1)
          have HKO := Lib.hid (below_keeps hb1)
          have HB1 := Lib.hid hb1
          have HMB := Lib.hid hmb
          have c0 := (block_cells HC1.out.f).1 0
          simp only [List.getElem?_toArray, List.getElem?_cons_zero] at c0
          clear ke hb1 hmb
          gi_wp2
          refine ⟨HKO.out, hlt, rfl, HP.out, HRE.out, ⟨ps1, HM1.out.kept HB1.out⟩, ?_, HC1.out⟩
          have : w1.heap.size + 1 < W.heap.size := by
            obtain ⟨o, ho, _⟩ := cells_of_cell HMB.out
            exact (Array.getElem?_eq_some_iff.1 ho).1
          exact (HB1.out.cell (p := ⟨w1.heap.size + 1, 0, none⟩) this).trans HMB.out

set_option maxHeartbeats 1000000 in
theorem run_bad (v : Value) (l : List Ins) (s : ByteArray) (fuel : Int) (w : World) (er : Int) (hl : InsRow w w.heap.size v l) (her : er = 1 ∨ er = 2)
    (kb : ∀ w', InsRow w' w'.heap.size v l → Calls Try.prog 133 #[v, .string s, .int .i64 fuel] w' fun e w'' => e = .returned (.tuple #[.pointer none, .int .i64 er]) ∧ Below w'.heap.size w' w'') :
    Calls Try.prog 110 #[v, .string s, .int .i64 fuel] w (RunOut w ⟨#[]⟩ 0 er) := by
  have hl0 := hl
  obtain ⟨ao, cap, rfl⟩ := hl.len
  have hb0 : Below w.heap.size w ((((w.alloc (.cells #[.int .i64 fuel] 3)).alloc (.cells #[.string ⟨#[]⟩] 9)).alloc (.cells #[.int .i64 0] 3)).alloc (.cells #[.int .i64 0] 29)) :=
    ((((Below.refl _ w).alloc (Nat.le_refl _) _).alloc (by simp) _).alloc (by simp; omega) _).alloc (by simp; omega) _
  have kb0 := kb _ ((hl0.below hb0).mono hb0.size)
  clear kb hl hl0
  have hne : (er != 0) = true := by rw [bne_iff_ne]; omega
  clear her
  go_enter Try.func110, Try.ntmps110
  go_wp2_with fail
  refine kb0.mono ?_
  rintro e w1 ⟨rfl, hb1⟩
  have hws : w.heap.size + 1 + 1 + 1 < w1.heap.size := by have := hb1.size; simp at this; omega
  have HC := Lib.hid ((run_boxes w fuel).start1 hb1 (.pointer none))
  have c0 := (block_cells HC.out.f).1 0
  have c1 := (block_cells HC.out.y).1 0
  have c2 := (block_cells HC.out.k).1 0
  have c3 := (block_cells HC.out.e).1 0
  have f1 := (block_cells HC.out.y).2 0
  have f2 := (block_cells HC.out.k).2 0
  have f3 := (block_cells HC.out.e).2 0
  simp only [List.getElem?_toArray, List.getElem?_cons_zero] at c0 c1 c2 c3
  clear kb0 hb1 hb0
  go_wp2
  obtain ⟨z1, z2⟩ := HC.out.put hws ⟨#[]⟩ 0 er
  have q1 := (block_cells z2.y).1 0
  have q2 := (block_cells z2.k).1 0
  have q3 := (block_cells z2.e).1 0
  simp only [List.getElem?_toArray, List.getElem?_cons_zero] at q1 q2 q3
  refine bodyPost_ret (v := .tuple #[.string ⟨#[]⟩, .int .i64 0, .int .i64 er]) (by simp [results, Try.results110, go_sem, q1, q2, q3]) rfl ?_
  exact ⟨rfl, z2.b⟩

end Go.Proofs.Ytdjbcmfjlfkcjaa

namespace Go.Proofs.Ytdjbcmfjlfkcjaa
open Go.RowKit Go.Shelf
attribute [local go_sem] Oper.semAt_some

/-- What After hands back. -/
def Res.after : Res → Int × List ByteArray × Nat × Int
  | .done s n => (s.pos, s.regs.map TS, n, 0)
  | .fuel s n => (s.pos, s.regs.map TS, n, 0)
  | .big => (0, [], 0, 3)
def AftOut (w : World) (n : Int) (L : List ByteArray) (k : Nat) (er : Int) (e : Ending) (w' : World) : Prop := ∃ v, e = .returned (.tuple #[.agg #[.int .i64 n, v], .int .i64 k, .int .i64 er]) ∧ StrRow w' w'.heap.size v L ∧ Below w.heap.size w w'

theorem StrRow.grown {W W' : World} {row : Option Nat} {v : Value} {L : List ByteArray} (h : StrRow W W.heap.size v L) (hg : W.grownBy W' row) (hr : ∀ r, row = some r → ∃ o : Obj, W.heap[r]? = some o ∧ o.isCells = false) : StrRow W' W'.heap.size v L := by
  obtain ⟨h1, h2, h3⟩ := h
  refine ⟨h1, h2, ?_⟩
  rcases h3 with h3 | ⟨g, off, cap, hv, hlt, hc⟩
  · exact .inl h3
  · exact .inr ⟨g, off, cap, hv, by have := hg.size; omega, fun j s hj => cell_kept (hc j s hj) hg hr⟩
end Go.Proofs.Ytdjbcmfjlfkcjaa

namespace Go.Proofs.Ytdjbcmfjlfkcjaa
open Go.RowKit

theorem InsRow.new {w : World} {T : Nat} (l : List Ins) (hwf : ∀ x ∈ l, x.wf) (hlen : l.length ≤ 4000) : InsRow (w.alloc (.cells (inscells l).toArray T)) (w.alloc (.cells (inscells l).toArray T)).heap.size (.slice (some ⟨w.heap.size, 0, none⟩) l.length l.length) l := by
  refine ⟨hwf, by omega, .inr ⟨w.heap.size, 0, l.length, rfl, by simp, fun j x hj k u hk => ?_⟩⟩
  rw [(block_cells (heap_alloc_new w _)).1, List.getElem?_toArray, Nat.zero_add]
  exact inscells_get l j x hj k u hk
theorem wf_lit (op a b c : Int) (s : ByteArray) (h1 : i64 op) (h2 : i64 a) (h3 : i64 b) (h4 : i64 c) (h5 : s.size ≤ 140737488355328) : (⟨op, a, b, c, s⟩ : Ins).wf := ⟨h1, h2, h3, h4, h5⟩

/-- A state in which a step changes nothing. -/
theorem goF_loop {l : List Ins} {s : St} (hp : s.pos ≠ l.length) (hs : stepP l s = some s) : ∀ f n, ∃ m, goF l f n s = .fuel s m := by
  intro f
  induction f with
  | zero => intro n; exact ⟨n, goF_zero hp⟩
  | succ f ih => intro n; rw [goF_step hp hs]; exact ih _

/-- The program that doubles register 0 again and again. -/
def dblP : List Ins := [⟨2, 0, 0, 0, ⟨#[]⟩⟩, ⟨5, 0, -1, 0, ⟨#[]⟩⟩]
def dblT (t : Tr) : Nat → Tr
  | 0 => t
  | k + 1 => .pair (dblT t k) (dblT t k)
theorem dblT_size (t : Tr) (k : Nat) : (dblT t k).size + 1 = 2 ^ k * (t.size + 1) := by
  induction k with
  | zero => simp [dblT]
  | succ k ih => simp only [dblT, Tr.size]; rw [Nat.pow_succ, Nat.mul_right_comm]; omega
theorem dblT_mono (t : Tr) (j k : Nat) (h : j ≤ k) : (dblT t j).size ≤ (dblT t k).size := by
  have h1 := dblT_size t j
  have h2 := dblT_size t k
  have h3 : 2 ^ j ≤ 2 ^ k := Nat.pow_le_pow_right (by omega) h
  have h4 := Nat.mul_le_mul_right (t.size + 1) h3
  omega
theorem dblT_comm (t : Tr) (k : Nat) : dblT (.pair t t) k = dblT t (k + 1) := by
  induction k with
  | zero => rfl
  | succ k ih => simp only [dblT] at *; rw [ih]
theorem stepX_cons {x : Ins} {s : St} (h2 : x.op = 2) (h : (Tr.pair (getR s.regs x.b) (getR s.regs x.c)).size ≤ 2000000) : stepX x s = some ⟨s.pos + 1, setR s.regs x.a (.pair (getR s.regs x.b) (getR s.regs x.c))⟩ := by
  unfold stepX
  rw [if_neg (by omega), if_neg (by omega), if_pos h2, if_pos h]
theorem stepX_big {x : Ins} {s : St} (h2 : x.op = 2) (h : 2000000 < (Tr.pair (getR s.regs x.b) (getR s.regs x.c)).size) : stepX x s = none := by
  unfold stepX
  rw [if_neg (by omega), if_neg (by omega), if_pos h2, if_neg (by omega)]
theorem stepX_go {x : Ins} {s : St} (h2 : x.op = 5) (h : getR s.regs x.a ≠ .nil) : stepX x s = some ⟨(s.pos + x.b).toNat, s.regs⟩ := by
  unfold stepX
  rw [if_neg (by omega), if_neg (by omega), if_neg (by omega), if_neg (by omega), if_neg (by omega), if_neg h]
theorem dbl_cons (t : Tr) (rs : List Tr) (h : (Tr.pair t t).size ≤ 2000000) : stepP dblP ⟨0, t :: rs⟩ = some ⟨1, .pair t t :: rs⟩ :=
  stepX_cons (x := ⟨2, 0, 0, 0, ⟨#[]⟩⟩) (s := ⟨0, t :: rs⟩) rfl h
theorem dbl_big (t : Tr) (rs : List Tr) (h : 2000000 < (Tr.pair t t).size) : stepP dblP ⟨0, t :: rs⟩ = none :=
  stepX_big (x := ⟨2, 0, 0, 0, ⟨#[]⟩⟩) (s := ⟨0, t :: rs⟩) rfl h
theorem dbl_jump (a b : Tr) (rs : List Tr) : stepP dblP ⟨1, .pair a b :: rs⟩ = some ⟨0, .pair a b :: rs⟩ :=
  stepX_go (x := ⟨5, 0, -1, 0, ⟨#[]⟩⟩) (s := ⟨1, .pair a b :: rs⟩) rfl (by show Tr.pair a b ≠ .nil; exact fun h => by cases h)
theorem dbl_run (rs : List Tr) : ∀ (k f n : Nat) (t : Tr), (dblT t k).size ≤ 2000000 → goF dblP (f + 2 * k) n ⟨0, t :: rs⟩ = goF dblP f (n + 2 * k) ⟨0, dblT t k :: rs⟩ := by
  intro k
  induction k with
  | zero => intro f n t _; rfl
  | succ k ih =>
    intro f n t h
    have h1 : (Tr.pair t t).size ≤ 2000000 := Nat.le_trans (dblT_mono t 1 (k + 1) (by omega)) h
    rw [show f + 2 * (k + 1) = (f + 2 * k) + 1 + 1 by omega, goF_step (by simp [dblP]) (dbl_cons t rs h1), goF_step (by simp [dblP]) (dbl_jump t t rs), ih _ _ _ (by rw [dblT_comm]; exact h), dblT_comm, show n + 1 + 1 + 2 * k = n + 2 * (k + 1) by omega]
theorem dbl_valid : validB dblP = true := by decide +kernel
theorem dbl_aw : (goF dblP 1000 0 (startS .nil)).run = (⟨#[]⟩, 0, 3) := by
  have h1 := dblT_size .nil 19
  have h2 := dblT_size .nil 20
  have h3 := dbl_run (List.replicate 31 .nil) 19 962 0 .nil (by simp only [Tr.size] at h1; omega)
  have h4 : goF dblP 1000 0 (startS .nil) = .big := by
    refine h3.trans (goF_big (by decide) (dbl_big _ _ ?_))
    show 2000000 < (dblT .nil 20).size
    simp only [Tr.size] at h2; omega
  rw [h4]; rfl

def awA : List Ins := [⟨4, 0, 0, 0, ⟨#[]⟩⟩]
def awB : List Ins := [⟨0, 1, 0, 0, ⟨#[49, 48, 48]⟩⟩, ⟨5, 1, 0, 0, ⟨#[]⟩⟩]
theorem awA_run : (goF awA 10 0 (startS (.pair .nil (.pair .nil .nil)))).run = (⟨#[49, 48, 48]⟩, 1, 0) := by rfl
theorem awN_run : (goF [] 0 0 (startS (.pair .nil .nil))).run = (⟨#[49, 48, 48]⟩, 0, 0) := by rfl
theorem awB_run : (goF awB 1000 0 (startS .nil)).run = (⟨#[]⟩, 0, 7) := by
  have h1 : stepP awB (startS .nil) = some ⟨1, .nil :: .pair .nil .nil :: List.replicate 30 .nil⟩ := by rfl
  have h2 : stepP awB ⟨1, .nil :: .pair .nil .nil :: List.replicate 30 .nil⟩ = some ⟨1, .nil :: .pair .nil .nil :: List.replicate 30 .nil⟩ := by rfl
  obtain ⟨m, hm⟩ := goF_loop (l := awB) (by decide) h2 999 1
  rw [show (1000 : Nat) = 999 + 1 from rfl, goF_step (by decide) h1, hm]; rfl
theorem awA_valid : validB awA = true := by decide +kernel
theorem awN_valid : validB [] = true := by decide
theorem awB_valid : validB awB = true := by decide +kernel

end Go.Proofs.Ytdjbcmfjlfkcjaa

namespace Go.Proofs.Ytdjbcmfjlfkcjaa
open Go.RowKit

/-- A contract relative to a world. -/
def Ct (w : World) (f : Nat) (args : Array Value) (v : Value) : Prop := ∀ w', Below w.heap.size w w' → Calls Try.prog f args w' fun e w'' => e = .returned v ∧ Below w.heap.size w w''
theorem Ct.of {w : World} {f : Nat} {args : Array Value} {v : Value} (h : ∀ w', Below w.heap.size w w' → Calls Try.prog f args w' fun e w'' => e = .returned v ∧ Below w'.heap.size w' w'') : Ct w f args v :=
  fun w' hb => (h w' hb).mono fun _e _w'' h2 => ⟨h2.1, hb.trans (h2.2.mono hb.size)⟩
theorem Ct.of_any {w : World} {f : Nat} {args : Array Value} {v : Value} (h : ∀ w', Calls Try.prog f args w' fun e w'' => e = .returned v ∧ Below w'.heap.size w' w'') : Ct w f args v := Ct.of fun w' _ => h w'
theorem Ct.of_same {w : World} {f : Nat} {args : Array Value} {v : Value} (h : ∀ w', Calls Try.prog f args w' fun e w'' => e = .returned v ∧ w' = w'') : Ct w f args v :=
  fun w' hb => (h w').mono fun e w'' h2 => ⟨h2.1, by rw [← h2.2]; exact hb⟩
theorem Ct.rebase {w w1 : World} {f : Nat} {args : Array Value} {v : Value} (h : Ct w f args v) (hb1 : Below w.heap.size w w1) : ∀ w', Below w1.heap.size w1 w' → Calls Try.prog f args w' fun e w'' => e = .returned v ∧ Below w.heap.size w w'' := fun w' hb => h w' (hb1.trans (hb.mono hb1.size))

/-- Run, where it may run. -/
theorem run_ct {w : World} {v : Value} {l : List Ins} (hl : InsRow w w.heap.size v l) (hv : validB l = true) (t : Tr) (ht : t.size ≤ 2000000) (fuel : Nat) (hf : fuel ≤ 10000000) (y : ByteArray) (k : Nat) (er : Int) (hres : (goF l fuel 0 (startS t)).run = (y, k, er)) :
    Ct w 110 #[v, .string (TS t), .int .i64 fuel] (.tuple #[.string y, .int .i64 k, .int .i64 er]) :=
  Ct.of fun w' hb => run_ok v l t ht fuel hf w' ((hl.below hb).mono hb.size) hv y k er hres

theorem awA_new (w : World) : InsRow (w.alloc (.cells #[.int .i64 4, .int .i64 0, .int .i64 0, .int .i64 0, .string ⟨#[]⟩] 75)) (w.alloc (.cells #[.int .i64 4, .int .i64 0, .int .i64 0, .int .i64 0, .string ⟨#[]⟩] 75)).heap.size (.slice (some ⟨w.heap.size, 0, none⟩) 1 1) awA :=
  InsRow.new (w := w) (T := 75) awA (by intro x hx; simp [awA] at hx; subst hx; exact wf_lit _ _ _ _ _ (by unfold i64; decide) (by unfold i64; decide) (by unfold i64; decide) (by unfold i64; decide) (by decide)) (by decide)
theorem awB_new (w : World) : InsRow (w.alloc (.cells #[.int .i64 0, .int .i64 1, .int .i64 0, .int .i64 0, .string ⟨#[49, 48, 48]⟩, .int .i64 5, .int .i64 1, .int .i64 0, .int .i64 0, .string ⟨#[]⟩] 75)) (w.alloc (.cells #[.int .i64 0, .int .i64 1, .int .i64 0, .int .i64 0, .string ⟨#[49, 48, 48]⟩, .int .i64 5, .int .i64 1, .int .i64 0, .int .i64 0, .string ⟨#[]⟩] 75)).heap.size (.slice (some ⟨w.heap.size, 0, none⟩) 2 2) awB :=
  InsRow.new (w := w) (T := 75) awB (by intro x hx; simp [awB] at hx; rcases hx with rfl | rfl <;> exact wf_lit _ _ _ _ _ (by unfold i64; decide) (by unfold i64; decide) (by unfold i64; decide) (by unfold i64; decide) (by decide)) (by decide)
theorem dblP_new (w : World) : InsRow (w.alloc (.cells #[.int .i64 2, .int .i64 0, .int .i64 0, .int .i64 0, .string ⟨#[]⟩, .int .i64 5, .int .i64 0, .int .i64 (-1), .int .i64 0, .string ⟨#[]⟩] 75)) (w.alloc (.cells #[.int .i64 2, .int .i64 0, .int .i64 0, .int .i64 0, .string ⟨#[]⟩, .int .i64 5, .int .i64 0, .int .i64 (-1), .int .i64 0, .string ⟨#[]⟩] 75)).heap.size (.slice (some ⟨w.heap.size, 0, none⟩) 2 2) dblP :=
  InsRow.new (w := w) (T := 75) dblP (by intro x hx; simp [dblP] at hx; rcases hx with rfl | rfl <;> exact wf_lit _ _ _ _ _ (by unfold i64; decide) (by unfold i64; decide) (by unfold i64; decide) (by unfold i64; decide) (by decide)) (by decide)
theorem nil_row (w : World) (B : Nat) : InsRow w B (.slice none 0 0) [] := ⟨by simp, by simp, .inl ⟨rfl, .inl rfl⟩⟩

theorem aw_run1 (w w' : World) (hb : Below w.heap.size w w') : Calls Try.prog 110 #[.slice (some ⟨w'.heap.size, 0, none⟩) 1 1, .string ⟨#[49, 48, 49, 48, 48]⟩, .int .i64 10] (w'.alloc (.cells #[.int .i64 4, .int .i64 0, .int .i64 0, .int .i64 0, .string ⟨#[]⟩] 75)) fun e w'' => e = .returned (.tuple #[.string ⟨#[49, 48, 48]⟩, .int .i64 1, .int .i64 0]) ∧ Below w.heap.size w w'' :=
  (run_ct (awA_new w') awA_valid (.pair .nil (.pair .nil .nil)) (by decide) 10 (by decide) _ _ _ awA_run _ (Below.refl _ _)).mono fun e w'' h => ⟨h.1, (hb.alloc hb.size _).trans (h.2.mono (by have := hb.size; simp; omega))⟩
theorem aw_run2 (w w' : World) (hb : Below w.heap.size w w') : Calls Try.prog 110 #[.slice none 0 0, .string ⟨#[49, 48, 48]⟩, .int .i64 0] w' fun e w'' => e = .returned (.tuple #[.string ⟨#[49, 48, 48]⟩, .int .i64 0, .int .i64 0]) ∧ Below w.heap.size w w'' :=
  (run_ct (nil_row w' _) awN_valid (.pair .nil .nil) (by decide) 0 (by decide) _ _ _ awN_run _ (Below.refl _ _)).mono fun e w'' h => ⟨h.1, hb.trans (h.2.mono hb.size)⟩
theorem aw_run3 (w w' : World) (hb : Below w.heap.size w w') : Calls Try.prog 110 #[.slice (some ⟨w'.heap.size, 0, none⟩) 2 2, .string ⟨#[48]⟩, .int .i64 1000] (w'.alloc (.cells #[.int .i64 0, .int .i64 1, .int .i64 0, .int .i64 0, .string ⟨#[49, 48, 48]⟩, .int .i64 5, .int .i64 1, .int .i64 0, .int .i64 0, .string ⟨#[]⟩] 75)) fun e w'' => e = .returned (.tuple #[.string ⟨#[]⟩, .int .i64 0, .int .i64 7]) ∧ Below w.heap.size w w'' :=
  (run_ct (awB_new w') awB_valid .nil (by decide) 1000 (by decide) _ _ _ awB_run _ (Below.refl _ _)).mono fun e w'' h => ⟨h.1, (hb.alloc hb.size _).trans (h.2.mono (by have := hb.size; simp; omega))⟩

end Go.Proofs.Ytdjbcmfjlfkcjaa

namespace Go.Proofs.Ytdjbcmfjlfkcjaa
open Go.RowKit

theorem RMachP.mono {w : World} {T T' g : Nat} {l : List Ins} {pv tv : Value} (h : RMachP w T g l pv tv) (hT : T ≤ T') : RMachP w T' g l pv tv := by
  obtain ⟨xs, base, h1, h2, h3⟩ := h.sets
  exact ⟨h.blk, by have := h.lt; omega, h.prog.mono hT, xs, base, h1, h2, fun k hk => by have := h3 k hk; omega⟩
theorem RMachP.below {w w' : World} {g : Nat} {l : List Ins} {pv tv : Value} (h : RMachP w w.heap.size g l pv tv) (hb : Below w.heap.size w w') : RMachP w' w'.heap.size g l pv tv := (h.kept hb (Kept.below hb)).mono hb.size
theorem run_form_ct {w : World} {v : Value} {l : List Ins} (hl : InsRow w w.heap.size v l) (s : ByteArray) (hs : s.size ≤ 140737488355328) (fuel : Int) (h : validB l = false ∨ isTree s = false) :
    Ct w 110 #[v, .string s, .int .i64 fuel] (.tuple #[.string ⟨#[]⟩, .int .i64 0, .int .i64 1]) :=
  Ct.of fun w' hb => run_bad v l s fuel w' 1 ((hl.below hb).mono hb.size) (.inl rfl) (fun w2 h2 => begin_form v l s fuel w2 h2 hs h)
theorem run_arg_ct {w : World} {v : Value} {l : List Ins} (hl : InsRow w w.heap.size v l) (s : ByteArray) (hs : s.size ≤ 140737488355328) (fuel : Int) (hv : validB l = true) (ht : isTree s = true) (hk : fuel < 0 ∨ 10000000 < fuel) :
    Ct w 110 #[v, .string s, .int .i64 fuel] (.tuple #[.string ⟨#[]⟩, .int .i64 0, .int .i64 2]) :=
  Ct.of fun w' hb => run_bad v l s fuel w' 2 ((hl.below hb).mono hb.size) (.inr rfl) (fun w2 h2 => begin_arg v l s fuel w2 h2 hs hv ht hk)
theorem sameP_self (l : List Ins) : sameP l l = true := by unfold sameP; exact decide_eq_true rfl
theorem same_ct {w : World} {v v' : Value} {l l' : List Ins} (h1 : InsRow w w.heap.size v l) (h2 : InsRow w w.heap.size v' l') (b : Bool) (hb : sameP l l' = b) : Ct w 58 #[v, v'] (.bool b) := fun w' hb' =>
  (sameP_any v v' l l' w' w.heap.size (h1.below hb') (h2.below hb')).mono fun e w'' h => ⟨by rw [← hb]; exact h.1, by obtain ⟨nq, rfl⟩ := h.2; exact below_drewN hb' nq⟩
theorem cvalid_ct {w : World} {v : Value} {l : List Ins} (h1 : InsRow w w.heap.size v l) (b : Bool) (hb : validB l = b) : Ct w 50 #[v] (.bool b) := Ct.of fun w' hb' => by
  rw [← hb]; exact refValidP_any v l w' ((h1.below hb').mono hb'.size)
theorem tvalid_ct {w : World} (s : ByteArray) (hs : s.size ≤ 140737488355328) (b : Bool) (hb : isTree s = b) : Ct w 36 #[.string s] (.bool b) := Ct.of_same fun w' => by
  rw [← hb]; exact refValid_any s (by omega) w'
/-- The reference's machine, loaded; a tree, read; what it returns. -/
theorem load_ct {w : World} {v : Value} {l : List Ins} (hl : InsRow w w.heap.size v l) (hv : validB l = true) : ∀ w', Below w.heap.size w w' → Calls Try.prog 96 #[v] w' fun e w'' => ∃ gm tv, e = .returned (.pointer (some ⟨gm, 0, none⟩)) ∧ Hid (RMachP w'' w''.heap.size gm l v tv) ∧ Below w.heap.size w w'' := fun w' hb =>
  (load_any v l w' ((hl.below hb).mono hb.size) hv).mono fun _e _w'' ⟨gm, tv, h1, h2, h3⟩ => ⟨gm, tv, h1, h2, hb.trans (h3.mono hb.size)⟩
theorem read_ct {w : World} (t : Tr) (ht : t.size ≤ 2000000) : ∀ w', Below w.heap.size w w' → Calls Try.prog 59 #[.string (TS t)] w' fun e w'' => ∃ q, e = .returned (.pointer q) ∧ Hid (NodeP 163 w'' t (.pointer q) ∧ Below w'.heap.size w' w'') ∧ Below w.heap.size w w'' := fun w' hb =>
  (read_ok t ht w').mono fun _e _w'' ⟨q, h1, h2, h3⟩ => ⟨q, h1, ⟨h2, h3⟩, hb.trans (h3.mono hb.size)⟩
theorem rrun_ct {w w' : World} {gm : Nat} {l : List Ins} {pv tv : Value} {t : Tr} {q : Option Addr} {K : Nat} (hK : K ≤ 100000000) (hm : RMachP w' w'.heap.size gm l pv tv) (hx : NodeP 163 w' t (.pointer q)) (ht : t.size ≤ 2000000) (hv : validB l = true) (y : Tr) (n : Nat) (er : Int) (hr : (goF l K 0 (startS t)).rrun = (y, n, er)) (hb : Below w.heap.size w w') :
    Calls Try.prog 97 #[.pointer (some ⟨gm, 0, none⟩), .pointer q, .int .i64 K] w' fun e w'' => ∃ q', e = .returned (.tuple #[.pointer q', .int .i64 n, .int .i64 er]) ∧ Hid (NodeP 163 w'' y (.pointer q')) ∧ Below w.heap.size w w'' := by
  have := rrun_any w' gm l pv tv t _ K hK hm hx ht (validB_all hv) (validB_len hv)
  rw [hr] at this
  exact this.mono fun e w'' ⟨q', h1, h2, h3⟩ => ⟨q', h1, h2, hb.trans (h3.mono hb.size)⟩
end Go.Proofs.Ytdjbcmfjlfkcjaa

namespace Go.Proofs.Ytdjbcmfjlfkcjaa
open Go.RowKit

theorem goF_more_done {l : List Ins} : ∀ {f n : Nat} {s s' : St} {k : Nat}, goF l f n s = .done s' k → ∀ m, goF l (f + m) n s = .done s' k := by
  intro f
  induction f with
  | zero =>
    intro n s s' k h m
    by_cases hp : s.pos = l.length
    · rw [goF_done hp] at h ⊢; exact h
    · rw [goF_zero hp] at h; cases h
  | succ f ih =>
    intro n s s' k h m
    by_cases hp : s.pos = l.length
    · rw [goF_done hp] at h ⊢; exact h
    · rw [show f + 1 + m = (f + m) + 1 by omega]
      cases hs : stepP l s with
      | none => rw [goF_big hp hs] at h; cases h
      | some s1 => rw [goF_step hp hs] at h ⊢; exact ih h m
theorem goF_more_big {l : List Ins} : ∀ {f n : Nat} {s : St}, goF l f n s = .big → ∀ m, goF l (f + m) n s = .big := by
  intro f
  induction f with
  | zero =>
    intro n s h m
    by_cases hp : s.pos = l.length
    · rw [goF_done hp] at h; cases h
    · rw [goF_zero hp] at h; cases h
  | succ f ih =>
    intro n s h m
    by_cases hp : s.pos = l.length
    · rw [goF_done hp] at h; cases h
    · rw [show f + 1 + m = (f + m) + 1 by omega]
      cases hs : stepP l s with
      | none => rw [goF_big hp hs]
      | some s1 => rw [goF_step hp hs] at h ⊢; exact ih h m
theorem goF_count {l : List Ins} : ∀ {f n : Nat} {s s' : St} {k : Nat}, goF l f n s = .done s' k → n ≤ k ∧ k ≤ n + f ∧ goF l (k - n) n s = .done s' k ∧ ∀ j, j < k - n → ∃ s2 m, goF l j n s = .fuel s2 m := by
  intro f
  induction f with
  | zero =>
    intro n s s' k h
    by_cases hp : s.pos = l.length
    · rw [goF_done hp] at h; cases h; exact ⟨Nat.le_refl _, by omega, goF_done hp, fun j hj => by omega⟩
    · rw [goF_zero hp] at h; cases h
  | succ f ih =>
    intro n s s' k h
    by_cases hp : s.pos = l.length
    · rw [goF_done hp] at h; cases h; exact ⟨Nat.le_refl _, by omega, goF_done hp, fun j hj => by omega⟩
    · cases hs : stepP l s with
      | none => rw [goF_big hp hs] at h; cases h
      | some s1 =>
        rw [goF_step hp hs] at h
        obtain ⟨h1, h2, h3, h4⟩ := ih h
        refine ⟨by omega, by omega, ?_, fun j hj => ?_⟩
        · rw [show k - n = (k - (n + 1)) + 1 by omega, goF_step hp hs]; exact h3
        · cases j with
          | zero => exact ⟨_, _, goF_zero hp⟩
          | succ j => rw [goF_step hp hs]; exact h4 j (by omega)
theorem twin_ct {w : World} {v : Value} {l : List Ins} (hl : InsRow w w.heap.size v l) : ∀ w', Below w.heap.size w w' → Calls Try.prog 55 #[v] w' fun e w'' => ∃ v', e = .returned v' ∧ Hid (InsRow w'' w''.heap.size v' l) ∧ Below w.heap.size w w'' := fun w' hb =>
  (twin_any v l w' ((hl.below hb).mono hb.size)).mono fun _e _w'' ⟨v', h1, h2, h3⟩ => ⟨v', h1, h2, hb.trans (h3.mono hb.size)⟩
/-- Run at any place. -/
theorem run_at {w : World} {l : List Ins} (hv : validB l = true) {t : Tr} (ht : t.size ≤ 2000000) {S : ByteArray} (hS : TS t = S) : ∀ (K : Nat) (Ki : Int), Ki = K → K ≤ 10000000 → ∀ y k er, (goF l K 0 (startS t)).run = (y, k, er) → ∀ w' v', InsRow w' w'.heap.size v' l → Below w.heap.size w w' →
    Calls Try.prog 110 #[v', .string S, .int .i64 Ki] w' fun e w'' => e = .returned (.tuple #[.string y, .int .i64 k, .int .i64 er]) ∧ Below w.heap.size w w'' := by
  rintro K _ rfl hK y k er hr w' v' hl hb
  rw [← hS]
  exact (run_ct hl hv t ht K hK y k er hr w' (Below.refl _ _)).mono fun e w'' h => ⟨h.1, hb.trans (h.2.mono hb.size)⟩

end Go.Proofs.Ytdjbcmfjlfkcjaa

namespace Go.Proofs.Ytdjbcmfjlfkcjaa
open Go.RowKit

theorem raft_ct {w w' : World} {gm : Nat} {l : List Ins} {pv tv : Value} {t : Tr} {q : Option Addr} {K : Nat} (hK : K ≤ 100000000) (hm : RMachP w' w'.heap.size gm l pv tv) (hx : NodeP 163 w' t (.pointer q)) (ht : t.size ≤ 2000000) (hv : validB l = true) (R : Res) (hr : goF l K 0 (startS t) = R) (_ : Below w.heap.size w w') :
    Calls Try.prog 128 #[.pointer (some ⟨gm, 0, none⟩), .pointer q, .int .i64 K] w' (RAft w' R) := by
  rw [← hr]; exact rafter_any w' gm l pv tv t _ K hK hm hx ht (validB_all hv) (validB_len hv)

theorem sameB_self (l : List ByteArray) : sameB l l = true := by unfold sameB; exact decide_eq_true rfl

end Go.Proofs.Ytdjbcmfjlfkcjaa

namespace Go.Proofs.Ytdjbcmfjlfkcjaa
open Go.RowKit

theorem blk_lift {A B : World} {b : Nat} {o : Obj} (hb : Below A.heap.size A B) (h : A.heap[b]? = some o) : B.heap[b]? = some o := below_blk hb h (Array.getElem?_eq_some_iff.1 h).1
theorem same_at {w : World} {v v' : Value} {l l' : List Ins} (b : Bool) (h1 : InsRow w w.heap.size v l) (h2 : InsRow w w.heap.size v' l') (hb : sameP l l' = b) : Calls Try.prog 58 #[v, v'] w fun e w' => e = .returned (.bool b) ∧ Below w.heap.size w w' := same_ct h1 h2 b hb w (Below.refl _ _)
theorem same_self {w : World} {v v' : Value} {l : List Ins} (h1 : InsRow w w.heap.size v l) (h2 : InsRow w w.heap.size v' l) : Calls Try.prog 58 #[v, v'] w fun e w' => e = .returned (.bool true) ∧ Below w.heap.size w w' := same_at true h1 h2 (sameP_self l)
theorem cvalid_at {w : World} {v : Value} {l : List Ins} (b : Bool) (hb : validB l = b) (h1 : InsRow w w.heap.size v l) : Calls Try.prog 50 #[v] w fun e w' => e = .returned (.bool b) ∧ Below w.heap.size w w' := cvalid_ct h1 b hb w (Below.refl _ _)
theorem tvalid_at (s : ByteArray) (hs : s.size ≤ 140737488355328) (b : Bool) (hb : isTree s = b) (w : World) : Calls Try.prog 36 #[.string s] w fun e w' => e = .returned (.bool b) ∧ Below w.heap.size w w' := tvalid_ct s hs b hb w (Below.refl _ _)
/-- Run, where it may run. -/
theorem runOk_at {w : World} {v : Value} {l : List Ins} {t : Tr} {S : ByteArray} (K : Nat) (Ki : Int) (y : ByteArray) (k : Nat) (er : Int) (hr : (goF l K 0 (startS t)).run = (y, k, er)) (hv : validB l = true) (ht : t.size ≤ 2000000) (hS : TS t = S) (hKi : Ki = K) (hK : K ≤ 10000000) (hl : InsRow w w.heap.size v l) :
    Calls Try.prog 110 #[v, .string S, .int .i64 Ki] w fun e w' => e = .returned (.tuple #[.string y, .int .i64 k, .int .i64 er]) ∧ Below w.heap.size w w' := run_at hv ht hS K Ki hKi hK y k er hr w v hl (Below.refl _ _)

end Go.Proofs.Ytdjbcmfjlfkcjaa

namespace Go.Proofs.Ytdjbcmfjlfkcjaa
open Go.RowKit

/-- In how many ways words go on: k pairs are left, n trees have not ended. -/
def wy : Nat → Nat → Nat
  | 0, _ => 1
  | _ + 1, 0 => 0
  | k + 1, n + 1 => wy (k + 1) n + wy k (n + 2)
termination_by k n => (k, n)
theorem wy_zero (n : Nat) : wy 0 n = 1 := by rw [wy]
theorem wy_none (k : Nat) : wy (k + 1) 0 = 0 := by rw [wy]
theorem wy_step (k n : Nat) : wy (k + 1) (n + 1) = wy (k + 1) n + wy k (n + 2) := by rw [wy]
theorem wy_le : ∀ k n : Nat, wy k n ≤ 2 ^ (2 * k + n)
  | 0, n => by rw [wy_zero]; exact Nat.one_le_two_pow
  | k + 1, 0 => by rw [wy_none]; exact Nat.zero_le _
  | k + 1, n + 1 => by
    rw [wy_step]
    have h1 := wy_le (k + 1) n
    have h2 := wy_le k (n + 2)
    rw [show 2 * (k + 1) + n = 2 * k + n + 2 by omega] at h1
    rw [show 2 * k + (n + 2) = 2 * k + n + 2 by omega] at h2
    rw [show 2 * (k + 1) + (n + 1) = 2 * k + n + 2 + 1 by omega, Nat.pow_succ]
    omega
termination_by k n => (k, n)
theorem wy_lt {k n : Nat} (h : n + k ≤ 31) (hk : k ≤ 30) : wy k n < 4611686018427387904 := by
  have h1 := wy_le k n
  have h2 : 2 ^ (2 * k + n) ≤ 2 ^ 61 := Nat.pow_le_pow_right (by omega) (by omega)
  have h3 : (2 : Nat) ^ 61 < 4611686018427387904 := by decide
  omega
/-- The table, filled in up to (p, o). -/
def TabIn (p o : Nat) (C : Array Value) : Prop :=
  C.size = 992 ∧ (∀ k, k ≤ 30 → C[k * 32]? = some (.int .i64 (wy k 0))) ∧ ∀ k n, k ≤ 30 → n + k ≤ 31 → (k < p ∨ k = p ∧ n < o) → C[k * 32 + n]? = some (.int .i64 (wy k n))
theorem TabIn.get {p o : Nat} {C : Array Value} (h : TabIn p o C) {k n : Nat} (hk : k ≤ 30) (hn : n + k ≤ 31) (hd : n = 0 ∨ k < p ∨ k = p ∧ n < o) : C[k * 32 + n]? = some (.int .i64 (wy k n)) := by
  rcases hd with rfl | hd
  · exact h.2.1 k hk
  · exact h.2.2 k n hk hn hd
theorem TabIn.put {p o : Nat} {C : Array Value} (h : TabIn p o C) (ho : 1 ≤ o) (hp : p ≤ 30) (hpo : o + p ≤ 31) : TabIn p (o + 1) (C.setIfInBounds (p * 32 + o) (.int .i64 (wy p o))) := by
  obtain ⟨h0, h1, h2⟩ := h
  refine ⟨by simpa using h0, fun k hk => ?_, fun k n hk hn hd => ?_⟩
  · rw [Array.getElem?_setIfInBounds, if_neg (by omega)]; exact h1 k hk
  · rw [Array.getElem?_setIfInBounds]
    by_cases he : p * 32 + o = k * 32 + n
    · have hkp : k = p := by omega
      subst hkp
      have hno : n = o := by omega
      subst hno
      rw [if_pos rfl, if_pos (by omega)]
    · rw [if_neg he]
      refine h2 k n hk hn ?_
      rcases hd with hd | ⟨rfl, hd⟩
      · exact .inl hd
      · exact .inr ⟨rfl, by omega⟩
theorem TabIn.put' {p o : Nat} {C : Array Value} (h : TabIn p o C) (ho : 1 ≤ o) (hpo : o + p ≤ 31) (v : Value) : TabIn p o (C.setIfInBounds (p * 32 + o) v) := by
  obtain ⟨h0, h1, h2⟩ := h
  refine ⟨by simpa using h0, fun k hk => ?_, fun k n hk hn hd => ?_⟩
  · rw [Array.getElem?_setIfInBounds, if_neg (by omega)]; exact h1 k hk
  · rw [Array.getElem?_setIfInBounds, if_neg (by omega)]
    exact h2 k n hk hn hd
theorem TabIn.next {p o : Nat} {C : Array Value} (h : TabIn p o C) (hpo : 31 < o + p) : TabIn (p + 1) 1 C :=
  ⟨h.1, h.2.1, fun k n hk hn hd => by
    rcases hd with hd | ⟨rfl, hd⟩
    · refine h.2.2 k n hk hn ?_
      by_cases hkp : k = p
      · exact .inr ⟨hkp, by omega⟩
      · exact .inl (by omega)
    · obtain rfl : n = 0 := by omega
      exact h.2.1 _ hk⟩
theorem TabIn.start : TabIn 0 1 ((Array.replicate 992 (Value.int .i64 0)).setIfInBounds 0 (.int .i64 1)) := by
  refine ⟨by simp, fun k hk => ?_, fun k n hk hn hd => ?_⟩
  · rw [Array.getElem?_setIfInBounds]
    cases k with
    | zero => simp [wy_zero]
    | succ k => rw [if_neg (by omega), wy_none, Array.getElem?_replicate, if_pos (by omega)]; rfl
  · obtain ⟨rfl, rfl⟩ : k = 0 ∧ n = 0 := by omega
    simp [wy_zero]
/-- The block holds the table. -/
def Table (w : World) (g : Nat) : Prop := ∃ C, w.heap[g]? = some (.cells C 144 (0, 0)) ∧ TabIn 31 1 C
theorem Table.cell {w : World} {g : Nat} (h : Table w g) {k n : Nat} (hk : k ≤ 30) (hn : n + k ≤ 31) : w.cell? ⟨g, k * 32 + n, none⟩ = some (.int .i64 (wy k n)) := by
  obtain ⟨C, h1, h2⟩ := h
  rw [(block_cells h1).1 (k * 32 + n)]
  exact h2.2.2 k n hk hn (.inl (by omega))
theorem Table.lt {w : World} {g : Nat} (h : Table w g) : g < w.heap.size := by
  obtain ⟨C, h1, _⟩ := h
  exact (Array.getElem?_eq_some_iff.1 h1).1
theorem Table.below {w w' : World} {g B : Nat} (h : Table w g) (hg : g < B) (hb : Below B w w') : Table w' g := by
  obtain ⟨C, h1, h2⟩ := h
  exact ⟨C, (hb.block g hg).trans h1, h2⟩
end Go.Proofs.Ytdjbcmfjlfkcjaa

namespace Go.Proofs.Ytdjbcmfjlfkcjaa
open Go.RowKit

theorem zero_tab : Try.zeroCells144 = Array.replicate 992 (Value.int .i64 0) := by kernel_rfl
/-- The table under way. -/
def TabAt (w : World) (g p o : Nat) : Prop := ∃ C, w.heap[g]? = some (.cells C 144 (0, 0)) ∧ TabIn p o C
theorem TabAt.cell {w : World} {g p o : Nat} (h : TabAt w g p o) {k n : Nat} (hk : k ≤ 30) (hn : n + k ≤ 31) (hd : n = 0 ∨ k < p ∨ k = p ∧ n < o) : w.cell? ⟨g, k * 32 + n, none⟩ = some (.int .i64 (wy k n)) := by
  obtain ⟨C, h1, h2⟩ := h
  rw [(block_cells h1).1 (k * 32 + n)]
  exact h2.get hk hn hd
theorem TabAt.any {w : World} {g p o : Nat} (h : TabAt w g p o) {k n : Nat} (hk : k ≤ 30) (hn : n ≤ 31) : ∃ v, w.cell? ⟨g, k * 32 + n, none⟩ = some v := by
  obtain ⟨C, h1, h2⟩ := h
  rw [(block_cells h1).1 (k * 32 + n)]
  exact ⟨_, Array.getElem?_eq_getElem (by rw [h2.1]; omega)⟩
theorem TabAt.froz {w : World} {g p o : Nat} (h : TabAt w g p o) (j : Nat) : w.frozen? ⟨g, j, none⟩ = false := by
  obtain ⟨C, h1, h2⟩ := h
  exact (block_cells h1).2 j
theorem TabAt.put {w : World} {g p o : Nat} (h : TabAt w g p o) (ho : 1 ≤ o) (hp : p ≤ 30) (hpo : o + p ≤ 31) : TabAt (w.setCell ⟨g, p * 32 + o, none⟩ (.int .i64 (wy p o))) g p (o + 1) := by
  obtain ⟨C, h1, h2⟩ := h
  exact ⟨_, heap_setCell_same w g _ C _ _ h1, h2.put ho hp hpo⟩
theorem TabAt.put' {w : World} {g p o : Nat} (h : TabAt w g p o) (ho : 1 ≤ o) (hpo : o + p ≤ 31) (v : Value) : TabAt (w.setCell ⟨g, p * 32 + o, none⟩ v) g p o := by
  obtain ⟨C, h1, h2⟩ := h
  exact ⟨_, heap_setCell_same w g _ C _ _ h1, h2.put' ho hpo v⟩
theorem TabAt.drew {w : World} {g p o : Nat} (h : TabAt w g p o) : TabAt w.drew g p o := h
theorem TabAt.next {w : World} {g p o : Nat} (h : TabAt w g p o) (hpo : 31 < o + p) : TabAt w g (p + 1) 1 := by
  obtain ⟨C, h1, h2⟩ := h
  exact ⟨C, h1, h2.next hpo⟩
set_option maxRecDepth 20000 in
set_option maxHeartbeats 4000000 in
theorem counted_any (w : World) :
    Calls Try.prog 84 #[] w fun e w' => ∃ g, e = .returned (.pointer (some ⟨g, 0, none⟩)) ∧ w.heap.size ≤ g ∧ Table w' g ∧ Below w.heap.size w w' := by
  go_enter Try.func84, Try.ntmps84
  go_wp2
  obtain ⟨g, hg⟩ : ∃ g, w.heap.size = g := ⟨_, rfl⟩
  have h0 : TabAt (w.alloc (.cells (Try.zeroCells144.setIfInBounds 0 (.int .i64 1)) 144)) w.heap.size 0 1 := ⟨_, heap_alloc_new w _, by rw [zero_tab]; exact TabIn.start⟩
  have hb0 : Below w.heap.size w (w.alloc (.cells (Try.zeroCells144.setIfInBounds 0 (.int .i64 1)) 144)) := (Below.refl _ _).alloc (Nat.le_refl _) _
  rw [hg] at h0
  have HB0 := Lib.hid hb0
  have H0 := Lib.hid h0
  clear h0 hb0
  simp only [hg]
  have HG := Lib.hid hg
  clear hg
  go_loopg [10] 31 (fun gg i wr => ∃ p : Nat, p ≤ 31 ∧ gg = 31 - p ∧ i = .int .i64 (p : Int) ∧ Hid (TabAt wr g p 1) ∧ Hid (Below w.heap.size w wr))
  case atStart => exact ⟨0, by omega, rfl, rfl, H0, HB0⟩
  case round =>
    obtain ⟨p, hp, hgg, rfl, hT, hB⟩ := hrel
    have HGG := Lib.hid hgg; clear hgg H0 HB0
    by_cases hlt : p < 31
    · have hltI : (p : Int) < 31 := by omega
      go_wp2
      have H1 := Lib.hid (show TabAt wr g p (0 + 1) from hT.out)
      clear hT
      go_loopg [3] (31 - p) (fun gg i wr => ∃ q : Nat, q + p ≤ 31 ∧ gg = 31 - p - q ∧ i = .int .i64 ((q : Int) + 1) ∧ Hid (TabAt wr g p (q + 1)) ∧ Hid (Below w.heap.size w wr))
      case atStart => exact ⟨0, by omega, rfl, rfl, H1, hB⟩
      case round =>
        obtain ⟨q, hq, hgq, rfl, hT, hB⟩ := hrel
        have HGQ := Lib.hid hgq; clear hgq H1
        by_cases hq1 : q + 1 + p ≤ 31
        · have hqI : (q : Int) + 1 ≤ 30 - p + 1 := by omega
          have hp30 : (p : Int) ≤ 30 := by omega
          have hq30 : (q : Int) ≤ 30 := by omega
          obtain ⟨v1, c1⟩ := hT.out.any (k := p) (n := q + 1) (by omega) (by omega)
          have f1 := hT.out.froz (p * 32 + (q + 1))
          have hown : ∀ v x : Value, Below w.heap.size w ((wr.setCell ⟨g, p * 32 + (q + 1), none⟩ v).drew) ∧ Below w.heap.size w (((wr.setCell ⟨g, p * 32 + (q + 1), none⟩ v).drew.setCell ⟨g, p * 32 + (q + 1), none⟩ x).drew) := fun v x =>
            ⟨(hB.out.setCell (p := ⟨g, p * 32 + (q + 1), none⟩) (Nat.le_of_eq HG.out) v).drew, ((hB.out.setCell (p := ⟨g, p * 32 + (q + 1), none⟩) (Nat.le_of_eq HG.out) v).drew.setCell (p := ⟨g, p * 32 + (q + 1), none⟩) (Nat.le_of_eq HG.out) x).drew⟩
          have HOWN := Lib.hid hown
          clear hown
          cases p with
          | zero =>
            have c0 := hT.out.cell (k := 0) (n := q) (by omega) (by omega) (by omega)
            rw [wy_zero] at c0
            simp only [Nat.zero_mul, Nat.zero_add] at c0 c1 f1 HOWN
            go_wp2
            go_region
            go_wp2
            go_roundg (31 - (q + 1))
            case measure => rw [HGQ.out]; omega
            case rel =>
              have h2 := hT.out.put (by omega) (by omega) (by omega)
              rw [wy_zero] at h2
              simp only [Nat.zero_mul, Nat.zero_add] at h2
              exact ⟨q + 1, by omega, by omega, by go_num, Lib.hid h2.drew, Lib.hid (HOWN.out _ (.bool true)).1⟩
          | succ r =>
            obtain ⟨x0, hx0⟩ : ∃ x : Int, ((wy (r + 1) q : Nat) : Int) = x := ⟨_, rfl⟩
            obtain ⟨x1, hx1⟩ : ∃ x : Int, ((wy r (q + 2) : Nat) : Int) = x := ⟨_, rfl⟩
            have c0 := hT.out.cell (k := r + 1) (n := q) (by omega) (by omega) (by omega)
            have hT2 := (hT.out.put' (by omega) (by omega) (Value.int .i64 x0)).drew
            have c2 := hT2.cell (k := r) (n := q + 2) (by omega) (by omega) (by omega)
            have c3 : (wr.setCell ⟨g, (r + 1) * 32 + (q + 1), none⟩ (Value.int .i64 x0)).drew.cell? ⟨g, (r + 1) * 32 + (q + 1), none⟩ = some (Value.int .i64 x0) := World.cell?_setCell_same _ _ _ c1
            have f3 := hT2.froz ((r + 1) * 32 + (q + 1))
            have b0 : 0 ≤ x0 ∧ x0 < 4611686018427387904 := by have := wy_lt (k := r + 1) (n := q) (by omega) (by omega); omega
            have b1 : 0 ≤ x1 ∧ x1 < 4611686018427387904 := by have := wy_lt (k := r) (n := q + 2) (by omega) (by omega); omega
            have hsum : ((wy (r + 1) (q + 1) : Nat) : Int) = x0 + x1 := by rw [wy_step]; omega
            rw [hx0] at c0
            rw [hx1] at c2
            have HSUM := Lib.hid hsum
            have hqJ : (q : Int) ≤ 30 - ((r : Int) + 1) := by omega
            have hrI : (r : Int) ≤ 30 := by omega
            have HT2 := Lib.hid hT2
            clear hx0 hx1 hT2 hsum
            go_wp2
            go_region
            generalize hW : (wr.setCell ⟨g, (r + 1) * 32 + (q + 1), none⟩ (Value.int .i64 x0)).drew = wd at *
            have HW := Lib.hid hW
            clear hW
            go_wp2
            go_region
            go_wp2
            go_roundg (31 - (r + 1) - (q + 1))
            case measure => rw [HGQ.out]; omega
            case rel =>
              have h2 := HT2.out.put (by omega) (by omega) (by omega)
              rw [HSUM.out] at h2
              exact ⟨q + 1, by omega, by omega, by go_num, Lib.hid h2.drew, Lib.hid (by rw [← HW.out]; exact (HOWN.out _ _).2)⟩
        · have hqI : ¬ ((q : Int) + 1 ≤ 30 - p + 1) := by omega
          go_wp2
          go_roundg (31 - (p + 1))
          case measure => rw [HGG.out]; omega
          case rel => exact ⟨p + 1, by omega, rfl, by go_num, Lib.hid (hT.out.next (by omega)), hB⟩
    · have hltI : ¬ (p : Int) < 31 := by omega
      obtain rfl : p = 31 := by omega
      go_wp2
      go_ret
      exact ⟨g, rfl, Nat.le_of_eq HG.out, hT.out, hB.out⟩
end Go.Proofs.Ytdjbcmfjlfkcjaa

namespace Go.Proofs.Ytdjbcmfjlfkcjaa
open Go.RowKit

/-- n trees with k pairs together. -/
inductive Wd : Nat → Nat → List UInt8 → Prop
  | nil : Wd 0 0 []
  | zero {k n : Nat} {l : List UInt8} : Wd k n l → Wd k (n + 1) (48 :: l)
  | one {k n : Nat} {l : List UInt8} : Wd k (n + 2) l → Wd (k + 1) (n + 1) (49 :: l)
theorem Wd.tree (t : Tr) : ∀ {k n : Nat} {l : List UInt8}, Wd k n l → Wd (k + t.pairs) (n + 1) (t.enc ++ l) := by
  induction t with
  | nil => intro k n l h; exact .zero h
  | pair a b iha ihb =>
    intro k n l h
    have h1 := iha (ihb h)
    simp only [Tr.enc, Tr.pairs, List.cons_append, List.append_assoc]
    rw [show k + (1 + a.pairs + b.pairs) = k + b.pairs + a.pairs + 1 by omega]
    exact .one h1
theorem Wd.enc (t : Tr) : Wd t.pairs 1 t.enc := by
  have := Wd.tree t .nil
  simpa using this
theorem Wd.pf {k n : Nat} {l : List UInt8} (h : Wd k n l) : ∃ ts, pf l = some ts ∧ ts.length = n ∧ (ts.map Tr.pairs).sum = k := by
  induction h with
  | nil => exact ⟨[], rfl, rfl, rfl⟩
  | zero _ ih =>
    obtain ⟨ts, h1, h2, h3⟩ := ih
    exact ⟨.nil :: ts, pf_48 h1, by simp [h2], by simp [Tr.pairs, h3]⟩
  | one _ ih =>
    obtain ⟨ts, h1, h2, h3⟩ := ih
    match ts, h2 with
    | a :: b :: ts, h2 =>
      refine ⟨.pair a b :: ts, pf_49 h1, by simp at h2 ⊢; omega, ?_⟩
      simp [Tr.pairs] at h3 ⊢
      omega
theorem Wd.get {k : Nat} {l : List UInt8} (h : Wd k 1 l) : ∃ t : Tr, l = t.enc ∧ t.pairs = k := by
  obtain ⟨ts, h1, h2, h3⟩ := h.pf
  match ts, h2 with
  | [t], _ =>
    refine ⟨t, ?_, by simpa using h3⟩
    have := pf_flat l [t] h1
    simpa using this
theorem Wd.len {k n : Nat} {l : List UInt8} (h : Wd k n l) : l.length = 2 * k + n := by
  induction h with
  | nil => rfl
  | zero _ ih => simp [ih]; omega
  | one _ ih => simp [ih]; omega
/-- The number of words before a word, of those that go on alike. -/
def wrk : Nat → Nat → List UInt8 → Nat
  | _, _, [] => 0
  | k, n, c :: l => if c = 48 then wrk k (n - 1) l else wy k (n - 1) + wrk (k - 1) (n + 1) l
theorem wrk_48 (k n : Nat) (l : List UInt8) : wrk k (n + 1) (48 :: l) = wrk k n l := by simp [wrk]
theorem wrk_49 (k n : Nat) (l : List UInt8) : wrk (k + 1) (n + 1) (49 :: l) = wy (k + 1) n + wrk k (n + 2) l := by simp [wrk]
theorem Wd.rank_lt {k n : Nat} {l : List UInt8} (h : Wd k n l) : wrk k n l < wy k n := by
  induction h with
  | nil => rw [wy_zero]; exact Nat.one_pos
  | @zero k n l _ ih =>
    rw [wrk_48]
    cases k with
    | zero => rw [wy_zero] at *; exact ih
    | succ k => rw [wy_step]; omega
  | @one k n l _ ih => rw [wrk_49, wy_step]; omega
/-- The word with a rank. -/
def unw : Nat → Nat → Nat → List UInt8
  | _, 0, _ => []
  | 0, n + 1, r => 48 :: unw 0 n r
  | k + 1, n + 1, r => if r < wy (k + 1) n then 48 :: unw (k + 1) n r else 49 :: unw k (n + 2) (r - wy (k + 1) n)
termination_by k n => (k, n)
theorem unw_none (k r : Nat) : unw k 0 r = [] := by rw [unw]
theorem unw_zero (n r : Nat) : unw 0 (n + 1) r = 48 :: unw 0 n r := by rw [unw]
theorem unw_lt {k n r : Nat} (h : r < wy k n) : unw k (n + 1) r = 48 :: unw k n r := by
  cases k with
  | zero => exact unw_zero n r
  | succ k => rw [unw, if_pos h]
theorem unw_ge {k n r : Nat} (h : ¬ r < wy (k + 1) n) : unw (k + 1) (n + 1) r = 49 :: unw k (n + 2) (r - wy (k + 1) n) := by rw [unw, if_neg h]
theorem unw_word : ∀ k n r : Nat, r < wy k n → Wd k n (unw k n r) ∧ wrk k n (unw k n r) = r
  | 0, 0, r, h => by rw [wy_zero] at h; rw [unw_none]; exact ⟨.nil, by simp [wrk]; omega⟩
  | k + 1, 0, r, h => by rw [wy_none] at h; omega
  | 0, n + 1, r, h => by
    have h1 : r < wy 0 n := by rw [wy_zero] at *; exact h
    obtain ⟨h2, h3⟩ := unw_word 0 n r h1
    rw [unw_zero]
    exact ⟨.zero h2, by rw [wrk_48, h3]⟩
  | k + 1, n + 1, r, h => by
    by_cases h1 : r < wy (k + 1) n
    · obtain ⟨h2, h3⟩ := unw_word (k + 1) n r h1
      rw [unw_lt h1]
      exact ⟨.zero h2, by rw [wrk_48, h3]⟩
    · have h4 : r - wy (k + 1) n < wy k (n + 2) := by rw [wy_step] at h; omega
      obtain ⟨h2, h3⟩ := unw_word k (n + 2) (r - wy (k + 1) n) h4
      rw [unw_ge h1]
      exact ⟨.one h2, by rw [wrk_49, h3]; omega⟩
termination_by k n => (k, n)
theorem Wd.unw_rank {k n : Nat} {l : List UInt8} (h : Wd k n l) : unw k n (wrk k n l) = l := by
  induction h with
  | nil => rw [unw_none]
  | @zero k n l hl ih => rw [wrk_48, unw_lt hl.rank_lt, ih]
  | @one k n l hl ih =>
    rw [wrk_49, unw_ge (by omega), Nat.add_sub_cancel_left, ih]
/-- Words before one another, as texts. -/
theorem Wd.order {k n : Nat} {l : List UInt8} (h : Wd k n l) : ∀ {m : List UInt8}, Wd k n m → (wrk k n l < wrk k n m ↔ l < m) := by
  induction h with
  | nil =>
    intro m hm
    cases hm
    simp [wrk]
  | @zero k n l hl ih =>
    intro m hm
    cases hm with
    | @zero _ _ m hm =>
      rw [wrk_48, wrk_48, ih hm, List.cons_lt_cons_iff]
      simp
    | @one k _ m hm =>
      rw [wrk_48, wrk_49]
      have h1 := hl.rank_lt
      have h2 : (48 :: l) < (49 :: m) := List.cons_lt_cons_iff.2 (.inl (by decide))
      exact ⟨fun _ => h2, fun _ => by omega⟩
  | @one k n l hl ih =>
    intro m hm
    cases hm with
    | @zero _ _ m hm =>
      rw [wrk_48, wrk_49]
      have h1 := hm.rank_lt
      have h2 : ¬ (49 :: l) < (48 :: m) := by
        rw [List.cons_lt_cons_iff]
        rintro (h | ⟨h, _⟩)
        · exact absurd h (by decide)
        · exact absurd h (by decide)
      exact ⟨fun h => by omega, fun h => absurd h h2⟩
    | @one _ _ m hm =>
      rw [wrk_49, wrk_49, List.cons_lt_cons_iff]
      have h1 := ih hm
      constructor
      · intro h; exact .inr ⟨rfl, h1.1 (by omega)⟩
      · rintro (h | ⟨_, h⟩)
        · exact absurd h (by decide)
        · have := h1.2 h; omega
/-- The first word. -/
def lst (k n : Nat) : List UInt8 := List.replicate (n - 1) 48 ++ rep10 k ++ [48]
theorem rep10_cons (k : Nat) : rep10 (k + 1) = 49 :: 48 :: rep10 k := by unfold rep10; rfl
theorem lst_last : ∀ k : Nat, Wd k 1 (rep10 k ++ [48]) ∧ wrk k 1 (rep10 k ++ [48]) = 0
  | 0 => ⟨.zero .nil, by simp [rep10, Lib.repeatL, wrk]⟩
  | k + 1 => by
    obtain ⟨h1, h2⟩ := lst_last k
    rw [rep10_cons]
    simp only [List.cons_append]
    refine ⟨.one (.zero h1), ?_⟩
    rw [wrk_49, wrk_48, h2, wy_none]
theorem lst_word (k : Nat) : ∀ n : Nat, Wd k (n + 1) (lst k (n + 1)) ∧ wrk k (n + 1) (lst k (n + 1)) = 0
  | 0 => by have := lst_last k; simpa [lst] using this
  | n + 1 => by
    obtain ⟨h1, h2⟩ := lst_word k n
    have h3 : lst k (n + 1 + 1) = 48 :: lst k (n + 1) := by simp [lst, List.replicate_succ]
    rw [h3]
    exact ⟨.zero h1, by rw [wrk_48, h2]⟩
/-- How many pairs. -/
def onesW : List UInt8 → Nat | [] => 0 | c :: l => (if c = 49 then 1 else 0) + onesW l
theorem Wd.ones {k n : Nat} {l : List UInt8} (h : Wd k n l) : onesW l = k := by
  induction h with
  | nil => rfl
  | zero _ ih => simp [Go.Proofs.Ytdjbcmfjlfkcjaa.onesW, ih]
  | one _ ih => simp [Go.Proofs.Ytdjbcmfjlfkcjaa.onesW, ih]; omega
theorem Wd.end {n : Nat} {l : List UInt8} {k : Nat} (h : Wd k n l) : k = 0 → wrk k n l = 0 := by
  intro hk
  have := h.rank_lt
  subst hk
  rw [wy_zero] at this
  omega
/-- The next word, of those that go on alike. -/
def nxt : Nat → List UInt8 → Option (List UInt8)
  | _, [] => none
  | n, c :: l =>
    match nxt (if c = 49 then n + 1 else n - 1) l with
    | some m => some (c :: m)
    | none => if c = 48 ∧ 0 < onesW l then some (49 :: lst (onesW l - 1) (n + 1)) else none
theorem Wd.next {k n : Nat} {l : List UInt8} (h : Wd k n l) : (nxt n l = none → wrk k n l + 1 = wy k n) ∧ (∀ m, nxt n l = some m → Wd k n m ∧ wrk k n m = wrk k n l + 1) := by
  induction h with
  | nil => exact ⟨fun _ => by rw [wy_zero]; rfl, fun m hm => by simp [nxt] at hm⟩
  | @zero k n l hl ih =>
    have e : (if (48 : UInt8) = 49 then n + 1 + 1 else n + 1 - 1) = n := by simp
    cases hx : nxt n l with
    | some m =>
      obtain ⟨h1, h2⟩ := ih.2 m hx
      have h3 : nxt (n + 1) (48 :: l) = some (48 :: m) := by simp only [nxt, e, hx]
      refine ⟨fun h => absurd (h3.symm.trans h) (by simp), fun m' hm => ?_⟩
      rw [h3] at hm
      injection hm with hm
      subst hm
      exact ⟨.zero h1, by rw [wrk_48, wrk_48, h2]⟩
    | none =>
      have h1 := ih.1 hx
      have ho := hl.ones
      cases k with
      | zero =>
        have h3 : nxt (n + 1) (48 :: l) = none := by simp only [nxt, e, hx, ho]; simp
        refine ⟨fun _ => ?_, fun m hm => absurd (h3.symm.trans hm) (by simp)⟩
        rw [wrk_48, wy_zero]
        rw [wy_zero] at h1
        exact h1
      | succ k =>
        have h3 : nxt (n + 1) (48 :: l) = some (49 :: lst k (n + 2)) := by simp only [nxt, e, hx, ho]; simp
        refine ⟨fun h => absurd (h3.symm.trans h) (by simp), fun m hm => ?_⟩
        rw [h3] at hm
        injection hm with hm
        subst hm
        obtain ⟨h4, h5⟩ := lst_word k (n + 1)
        exact ⟨.one h4, by rw [wrk_49, wrk_48, h5]; omega⟩
  | @one k n l hl ih =>
    have e : (if (49 : UInt8) = 49 then n + 1 + 1 else n + 1 - 1) = n + 2 := by simp
    cases hx : nxt (n + 2) l with
    | some m =>
      obtain ⟨h1, h2⟩ := ih.2 m hx
      have h3 : nxt (n + 1) (49 :: l) = some (49 :: m) := by rw [nxt, e, hx]
      refine ⟨fun h => absurd (h3.symm.trans h) (by simp), fun m' hm => ?_⟩
      rw [h3] at hm
      injection hm with hm
      subst hm
      exact ⟨.one h1, by rw [wrk_49, wrk_49, h2]; omega⟩
    | none =>
      have h1 := ih.1 hx
      have h3 : nxt (n + 1) (49 :: l) = none := by rw [nxt, e, hx]; simp
      refine ⟨fun _ => ?_, fun m hm => absurd (h3.symm.trans hm) (by simp)⟩
      rw [wrk_49, wy_step]
      omega
/-- How many trees have fewer pairs. -/
def wsum : Nat → Nat | 0 => 0 | k + 1 => wsum k + wy k 1
/-- The rank of a tree. -/
def trk (t : Tr) : Nat := wsum t.pairs + wrk t.pairs 1 t.enc
/-- The tree that follows. -/
def tnx (t : Tr) : List UInt8 := (nxt 1 t.enc).getD (rep10 (t.pairs + 1) ++ [48])
theorem tnx_tree (t : Tr) : ∃ u : Tr, tnx t = u.enc ∧ trk u = trk t + 1 := by
  have h := (Wd.enc t).next
  unfold tnx
  cases hx : nxt 1 t.enc with
  | none =>
    have h1 := h.1 hx
    obtain ⟨h2, h3⟩ := lst_last (t.pairs + 1)
    obtain ⟨u, hu, hp⟩ := h2.get
    refine ⟨u, hu, ?_⟩
    unfold trk
    rw [hp, ← hu, h3, wsum]
    omega
  | some m =>
    obtain ⟨h1, h2⟩ := h.2 m hx
    obtain ⟨u, hu, hp⟩ := h1.get
    refine ⟨u, hu, ?_⟩
    unfold trk
    rw [hp, ← hu, h2]
    omega
theorem wsum_mono {a b : Nat} (h : a ≤ b) : wsum a ≤ wsum b := by
  induction h with
  | refl => exact Nat.le_refl _
  | step _ ih => exact Nat.le_trans ih (by rw [wsum]; omega)
theorem trk_lt (t : Tr) : wsum t.pairs ≤ trk t ∧ trk t < wsum (t.pairs + 1) := by
  have := (Wd.enc t).rank_lt
  unfold trk
  rw [wsum]
  omega
theorem trk_inj {t u : Tr} (h : trk t = trk u) : t = u := by
  have h1 := trk_lt t
  have h2 := trk_lt u
  have hp : t.pairs = u.pairs := by
    rcases Nat.lt_trichotomy t.pairs u.pairs with h3 | h3 | h3
    · have := wsum_mono (show t.pairs + 1 ≤ u.pairs from h3); omega
    · exact h3
    · have := wsum_mono (show u.pairs + 1 ≤ t.pairs from h3); omega
  unfold trk at h
  rw [hp] at h
  have h3 : wrk u.pairs 1 t.enc = wrk u.pairs 1 u.enc := by omega
  have e1 := (Wd.enc t).unw_rank
  have e2 := (Wd.enc u).unw_rank
  rw [hp] at e1
  rw [h3, e2] at e1
  exact enc_inj e1.symm
theorem trk_order {t u : Tr} : trk t < trk u ↔ (t.size < u.size ∨ t.size = u.size ∧ t.enc < u.enc) := by
  have h1 := trk_lt t
  have h2 := trk_lt u
  rw [Tr.size_pairs, Tr.size_pairs]
  rcases Nat.lt_trichotomy t.pairs u.pairs with h3 | h3 | h3
  · have := wsum_mono (show t.pairs + 1 ≤ u.pairs from h3)
    exact ⟨fun _ => .inl (by omega), fun _ => by omega⟩
  · have h4 := (Wd.enc t).order (m := u.enc) (by rw [h3]; exact Wd.enc u)
    unfold trk
    rw [← h3, ← h4]
    omega
  · have := wsum_mono (show u.pairs + 1 ≤ t.pairs from h3)
    exact ⟨fun _ => by omega, fun h => by omega⟩
end Go.Proofs.Ytdjbcmfjlfkcjaa

namespace Go.Proofs.Ytdjbcmfjlfkcjaa
open Go.RowKit

theorem wsum_le (k : Nat) : wsum k ≤ 2 ^ (2 * k) := by
  induction k with
  | zero => decide
  | succ k ih =>
    have := wy_le k 1
    rw [wsum, show 2 * (k + 1) = 2 * k + 1 + 1 by omega, Nat.pow_succ, Nat.pow_succ]
    rw [Nat.pow_succ] at this
    omega
theorem wsum_lt {k : Nat} (h : k ≤ 31) : wsum k ≤ 4611686018427387904 := by
  have h1 := wsum_le k
  have h2 : 2 ^ (2 * k) ≤ 2 ^ 62 := Nat.pow_le_pow_right (by omega) (by omega)
  have h3 : (2 : Nat) ^ 62 = 4611686018427387904 := by decide
  omega
/-- Small enough for sums (kept under a name: the walk must not see the numeral). -/
structure Sm62 (n : Nat) : Prop where
  lt : n < 4611686018427387904
set_option maxRecDepth 20000 in
set_option maxHeartbeats 2000000 in
theorem count_ok (k : Nat) (hk : k ≤ 30) (w : World) :
    Calls Try.prog 53 #[.int .i64 k] w fun e w' => e = .returned (.tuple #[.int .i64 (wy k 1 : Nat), .int .i64 0]) ∧ Below w.heap.size w w' := by
  have h0 : (k : Int) ≤ 30 := by omega
  obtain ⟨x, hx⟩ : ∃ x : Int, ((wy k 1 : Nat) : Int) = x := ⟨_, rfl⟩
  have HX := Lib.hid hx
  rw [hx]
  clear hx
  go_enter Try.func53, Try.ntmps53
  go_wp2_with fail
  refine (counted_any _).mono ?_
  rintro e w1 ⟨g, rfl, hg, hT, hb⟩
  have hlt := hT.lt
  have c0 := hT.cell (k := k) (n := 1) hk (by omega)
  rw [HX.out] at c0
  have HT := Lib.hid hT
  clear hT
  go_wp2
  go_ret2
  exact ⟨rfl, hb⟩
theorem count_bad (k : Int) (hk : k < 0 ∨ 30 < k) (w : World) :
    Calls Try.prog 53 #[.int .i64 k] w fun e w' => e = .returned (.tuple #[.int .i64 0, .int .i64 2]) ∧ Below w.heap.size w w' := by
  rcases hk with hk | hk
  · go_enter Try.func53, Try.ntmps53
    go_wp2
    go_ret2
    exact ⟨rfl, Below.refl _ _⟩
  · go_enter Try.func53, Try.ntmps53
    go_wp2
    go_ret2
    exact ⟨rfl, Below.refl _ _⟩
theorem rank_bad (s : ByteArray) (hs : s.size ≤ 281474976710656) (h : isTree s = false) (w : World) :
    Calls Try.prog 40 #[.string s] w fun e w' => e = .returned (.tuple #[.int .i64 0, .int .i64 1]) ∧ Below w.heap.size w w' := by
  have kv := Lib.hid (fun w => valid_bad s hs h w)
  clear h
  go_enter Try.func40, Try.ntmps40
  go_wp2_with fail
  refine (kv.out _).mono ?_
  rintro e w1 ⟨rfl, hb⟩
  go_wp2
  go_ret2
  exact ⟨rfl, hb⟩
theorem rank_big (t : Tr) (ht : t.size ≤ 2000000) (hp : 30 < t.pairs) (w : World) :
    Calls Try.prog 40 #[.string (TS t)] w fun e w' => e = .returned (.tuple #[.int .i64 0, .int .i64 3]) ∧ Below w.heap.size w w' := by
  have kv := Lib.hid (fun w => valid_ok t ht w)
  have hsz : (TS t).size = 2 * t.pairs + 1 := by rw [TS_size, t.size_pairs]
  obtain ⟨s, hs⟩ : ∃ s, TS t = s := ⟨_, rfl⟩
  rw [hs] at kv hsz ⊢
  have hsI : 30 < (s.size : Int) / 2 := by omega
  have hsJ : (s.size : Int) ≤ 2000000 := by have := t.size_pairs; omega
  clear hs hsz ht hp
  go_enter Try.func40, Try.ntmps40
  go_wp2_with fail
  refine (kv.out _).mono ?_
  rintro e w1 ⟨rfl, hb⟩
  go_wp2
  go_ret2
  exact ⟨rfl, hb⟩
set_option maxRecDepth 20000 in
set_option maxHeartbeats 4000000 in
theorem rank_ok (t : Tr) (hp : t.pairs ≤ 30) (w : World) :
    Calls Try.prog 40 #[.string (TS t)] w fun e w' => e = .returned (.tuple #[.int .i64 (trk t), .int .i64 0]) ∧ Below w.heap.size w w' := by
  have hts := t.size_pairs
  have kv := Lib.hid (fun w => valid_ok t (by omega) w)
  have hsz : (TS t).size = 2 * t.pairs + 1 := by rw [TS_size, hts]
  have hW := Wd.enc t
  have hbt := trk_lt t
  have hw31 := wsum_lt (k := t.pairs + 1) (by omega)
  obtain ⟨R, hR⟩ : ∃ R, trk t = R := ⟨_, rfl⟩
  rw [← TS_list] at hW
  obtain ⟨P, hP⟩ : ∃ P, t.pairs = P := ⟨_, rfl⟩
  have hrk : wsum P + wrk P 1 (TS t).data.toList = R := by rw [← hR, ← hP, TS_list]; rfl
  obtain ⟨s, hs⟩ : ∃ s, TS t = s := ⟨_, rfl⟩
  rw [hs] at kv hsz hW hrk ⊢
  rw [hR] at hbt ⊢
  rw [hP] at hbt hw31 hsz hW hp
  have hRI : Sm62 R := ⟨by omega⟩
  have HSZ := Lib.hid hsz
  have HW := Lib.hid hW
  have HRK := Lib.hid hrk
  have hdiv : (s.size : Int) / 2 = P := by omega
  have hpI : (P : Int) ≤ 30 := by omega
  have hsI : (s.size : Int) ≤ 61 := by omega
  clear hs hsz hW hrk hts hR hP hbt hw31
  go_enter Try.func40, Try.ntmps40
  go_wp2_with fail
  refine (kv.out _).mono ?_
  rintro e w1 ⟨rfl, hb⟩
  go_wp2_with fail
  clear hdiv
  have HSI := Lib.hid hsI
  clear hsI
  refine (counted_any _).mono ?_
  rintro e w2 ⟨g, rfl, hg, hT, hb2⟩
  have HB := Lib.hid (hb.trans (hb2.mono hb.size))
  have hlt := hT.lt
  have HT := Lib.hid hT
  clear hT hb2 hb kv
  have hWS := fun k (h : k ≤ P) => wsum_mono h
  have hRW : wsum P ≤ R := by have := HRK.out; omega
  have HWS := Lib.hid (fun k (h : k ≤ P) => Nat.le_trans (wsum_mono h) hRW)
  clear hWS hRW
  go_wp2
  go_loopg [6, 21] P (fun gg a i wr => ∃ k : Nat, k ≤ P ∧ gg = P - k ∧ i = .int .i64 (k : Int) ∧ a = .int .i64 (wsum k : Nat) ∧ Hid (Table wr g) ∧ Hid (Below w.heap.size w wr))
  case atStart => exact ⟨0, by omega, rfl, rfl, rfl, HT, HB⟩
  case round =>
    obtain ⟨k, hk, hgg, rfl, rfl, hT, hB⟩ := hrel
    clear HT HB
    have HGG := Lib.hid hgg; clear hgg
    by_cases hkP : k < P
    · have hkI : (k : Int) < P := by omega
      have c0 := hT.out.cell (k := k) (n := 1) (by omega) (by omega)
      have h1 := HWS.out (k + 1) hkP
      have h2 : wsum (k + 1) = wsum k + wy k 1 := rfl
      obtain ⟨x, hx⟩ : ∃ x : Int, ((wy k 1 : Nat) : Int) = x := ⟨_, rfl⟩
      obtain ⟨y, hy⟩ : ∃ y : Int, ((wsum k : Nat) : Int) = y := ⟨_, rfl⟩
      rw [hx] at c0
      have hxy : 0 ≤ x ∧ 0 ≤ y ∧ y + x < 4611686018427387904 := by have := hRI.lt; omega
      have hn : y + x = ((wsum (k + 1) : Nat) : Int) := by omega
      have hk31 : (k : Int) < 31 := by omega
      have HN := Lib.hid hn
      rw [hy]
      clear hx hy hn h1 h2
      go_wp2
      go_roundg (P - (k + 1))
      case measure => rw [HGG.out]; omega
      case rel => exact ⟨k + 1, hkP, rfl, by go_num, by rw [← HN.out], hT, hB⟩
    · obtain rfl : k = P := by omega
      have h1 := HWS.out k (Nat.le_refl _)
      have hst : wsum k + wrk k 1 (s.data.toList.drop 0) = R := by rw [List.drop_zero]; exact HRK.out
      have hst2 : Wd k 1 (s.data.toList.drop 0) := by rw [List.drop_zero]; exact HW.out
      have HST := Lib.hid hst
      have HST2 := Lib.hid hst2
      clear hst hst2 h1
      go_wp2
      have hgs : g < wr.heap.size := hT.out.lt
      have hsI := HSI.out
      go_loopg [4, 6, 8] s.size (fun gg a b c wz => ∃ (i p n acc : Nat), i ≤ s.size ∧ gg = s.size - i ∧ a = .int .i64 (p : Int) ∧ b = .int .i64 (acc : Int) ∧ c = .int .i64 (n : Int) ∧ p ≤ 30 ∧ n + p ≤ 31 ∧ Hid (Wd p n (s.data.toList.drop i)) ∧ Hid (acc + wrk p n (s.data.toList.drop i) = R) ∧ wz = wr.iter s i)
      case atStart => exact ⟨0, k, 1, wsum k, by omega, rfl, rfl, rfl, rfl, by omega, by omega, HST2, HST, rfl⟩
      case round =>
        obtain ⟨i, p, n, acc, hi, hgg, rfl, rfl, rfl, hp30, hnp, hWd, hAcc, rfl⟩ := hrel
        have HGG := Lib.hid hgg; clear hgg HST HST2
        by_cases hiS : i < s.size
        · have hWd2 := hWd.out
          have hAc2 := hAcc.out
          rw [drop_cons s i hiS] at hWd2 hAc2
          obtain ⟨l, hl⟩ : ∃ l, s.data.toList.drop (i + 1) = l := ⟨_, rfl⟩
          obtain ⟨c, hc⟩ : ∃ c, s[i] = c := ⟨_, rfl⟩
          rw [hl, hc] at hWd2 hAc2
          clear hWd hAcc
          have HL := Lib.hid hl
          cases hWd2 with
          | @zero _ n _ hW3 =>
            have hch : (s[i].toNat : Int) = 48 := by rw [hc]; rfl
            have hnx := fun ty => run_next_ascii (P := Try.prog) wr s i ty hiS (by omega)
            rw [wrk_48] at hAc2
            have HW3 := Lib.hid hW3
            have HA3 := Lib.hid hAc2
            clear hW3 hAc2 hl hc
            go_wp2
            go_roundg (s.size - (i + 1))
            case measure => rw [HGG.out]; omega
            case rel => exact ⟨i + 1, p, n, acc, hiS, rfl, rfl, rfl, by go_num, hp30, by omega, by rw [HL.out]; exact HW3, by rw [HL.out]; exact HA3, rfl⟩
          | @one p n _ hW3 =>
            have hch : (s[i].toNat : Int) = 49 := by rw [hc]; rfl
            have hnx := fun ty => run_next_ascii (P := Try.prog) wr s i ty hiS (by omega)
            rw [wrk_49] at hAc2
            have c0 := (hT.out.below hgs (below_iter wr s (i + 1))).cell (k := p + 1) (n := n) hp30 (by omega)
            obtain ⟨x, hx⟩ : ∃ x : Int, ((wy (p + 1) n : Nat) : Int) = x := ⟨_, rfl⟩
            rw [hx] at c0
            have hxA : 0 ≤ x ∧ (acc : Int) + x < 4611686018427387904 := by have := hRI.lt; omega
            have hA3 : (acc + wy (p + 1) n) + wrk p (n + 2) l = R := by omega
            have hn3 : (acc : Int) + x = ((acc + wy (p + 1) n : Nat) : Int) := by omega
            have hp30I : (p : Int) + 1 ≤ 30 ∧ (n : Int) + p ≤ 30 := by omega
            have HW3 := Lib.hid hW3
            have HA3 := Lib.hid hA3
            have HN3 := Lib.hid hn3
            clear hW3 hAc2 hl hc hA3 hn3 hx
            go_wp2
            go_roundg (s.size - (i + 1))
            case measure => rw [HGG.out]; omega
            case rel => exact ⟨i + 1, p, n + 2, acc + wy (p + 1) n, hiS, rfl, by go_num, by rw [← HN3.out], by go_num, by omega, by omega, by rw [HL.out]; exact HW3, by rw [HL.out]; exact HA3, rfl⟩
        · obtain rfl : i = s.size := by omega
          have hnx := fun ty => run_next_end (P := Try.prog) wr s s.size ty hiS
          have hA := hAcc.out
          have hD := hWd.out
          have hnil : s.data.toList.drop s.size = [] := List.drop_eq_nil_of_le (Nat.le_of_eq (by simp))
          rw [hnil] at hA
          have hA2 : acc = R := by simpa [wrk] using hA
          clear hA hD hnil
          subst hA2
          go_wp2
          go_ret2
          exact ⟨rfl, hB.out.trans ((below_iter wr s s.size).mono hB.out.size)⟩
end Go.Proofs.Ytdjbcmfjlfkcjaa

namespace Go.Proofs.Ytdjbcmfjlfkcjaa
open Go.RowKit

/-- The greatest register of an instruction, of a program. -/
def rX (x : Ins) : Nat := if x.op = 5 then x.a.toNat else max x.a.toNat (max x.b.toNat x.c.toNat)
def mostN (l : List Ins) : Nat := (l.map rX).foldr max 0
def regN (l : List Ins) : Nat := mostN l + 1
theorem foldr_max_snoc (l : List Nat) (n : Nat) : (l ++ [n]).foldr max 0 = max (l.foldr max 0) n := by
  induction l with
  | nil => simp
  | cons a l ih => simp only [List.cons_append, List.foldr_cons, ih]; omega
theorem mostN_snoc (l : List Ins) (x : Ins) : mostN (l ++ [x]) = max (mostN l) (rX x) := by unfold mostN; rw [List.map_append, List.map_cons, List.map_nil, foldr_max_snoc]
theorem mostN_append (l m : List Ins) : mostN (l ++ m) = max (mostN l) (mostN m) := by
  unfold mostN
  rw [List.map_append]
  induction l with
  | nil => simp
  | cons a l ih => simp only [List.map_cons, List.cons_append, List.foldr_cons, ih]; omega
theorem mostN_succ (l : List Ins) (k : Nat) {x : Ins} (hx : l[k]? = some x) : mostN (l.take (k + 1)) = max (mostN (l.take k)) (rX x) := by rw [take_snoc' _ _ _ hx, mostN_snoc]
theorem mostN_all (l : List Ins) : mostN (l.take l.length) = mostN l := by rw [List.take_of_length_le (Nat.le_refl _)]
/-- The numbers of a valid instruction. -/
theorem right_nats {x : Ins} {i n : Int} (h : rightB x i n = true) : ∃ a : Nat, x.a = a ∧ a < 32 ∧ (x.op ≠ 5 → ∃ b c : Nat, x.b = b ∧ x.c = c ∧ b < 32 ∧ c < 32) := by
  unfold rightB at h
  simp only [Bool.and_eq_true, Bool.or_eq_true, beq_iff_eq] at h
  obtain ⟨⟨⟨h1, h2⟩, h3⟩, h4⟩ := h
  obtain ⟨a, ha, ha2⟩ := regB_nat h1
  refine ⟨a, ha, ha2, fun ho => ?_⟩
  by_cases o0 : x.op = 0
  · rw [if_pos o0] at h4
    simp only [Bool.and_eq_true, beq_iff_eq] at h4
    refine ⟨0, 0, h4.1, ?_, by omega, by omega⟩
    rcases h3 with h3 | h3
    · omega
    · exact h3
  rw [if_neg o0] at h4
  by_cases o1 : x.op = 1 ∨ x.op = 3 ∨ x.op = 4
  · rw [if_pos o1] at h4
    obtain ⟨b, hb, hb2⟩ := regB_nat h4
    refine ⟨b, 0, hb, ?_, hb2, by omega⟩
    rcases h3 with h3 | h3
    · omega
    · exact h3
  rw [if_neg o1] at h4
  by_cases o2 : x.op = 2
  · rw [if_pos o2] at h4
    simp only [Bool.and_eq_true] at h4
    obtain ⟨b, hb, hb2⟩ := regB_nat h4.1
    obtain ⟨c, hc, hc2⟩ := regB_nat h4.2
    exact ⟨b, c, hb, hc, hb2, hc2⟩
  rw [if_neg o2, if_neg ho] at h4
  cases h4
theorem rX_lt {x : Ins} {i n : Int} (h : rightB x i n = true) : rX x < 32 := by
  obtain ⟨a, ha, ha2, h2⟩ := right_nats h
  unfold rX
  split
  · omega
  · obtain ⟨b, c, hb, hc, hb2, hc2⟩ := h2 (by assumption)
    omega
theorem mostN_lt {l : List Ins} (hv : rightAll l = true) (k : Nat) (hk : k ≤ l.length) : mostN (l.take k) < 32 := by
  induction k with
  | zero => simp [mostN]
  | succ k ih =>
    obtain ⟨x, hx⟩ : ∃ x, l[k]? = some x := ⟨_, List.getElem?_eq_getElem (by omega)⟩
    rw [mostN_succ l k hx]
    have := ih (by omega)
    have := rX_lt (rightAll_get hv hx)
    omega
theorem regN_le {l : List Ins} (hv : rightAll l = true) : 1 ≤ regN l ∧ regN l ≤ 32 := by
  have := mostN_lt hv l.length (Nat.le_refl _)
  rw [mostN_all] at this
  unfold regN; omega

set_option maxHeartbeats 4000000 in
theorem codeRegs_ok (v : Value) (l : List Ins) (w : World) (hl : InsRow w w.heap.size v l) (hv : validB l = true) :
    Calls Try.prog 107 #[v] w fun e w' => e = .returned (.tuple #[.int .i64 (regN l : Nat), .int .i64 0]) ∧ Below w.heap.size w w' := by
  have kv := codeValidP_at v l w hl _ hv
  have hn4 := validB_len hv
  have HV := Lib.hid (validB_all hv)
  obtain ⟨ao, cap, rfl⟩ := hl.len
  obtain ⟨n, hn'⟩ : ∃ n, l.length = n := ⟨_, rfl⟩
  rw [hn'] at hl hn4 kv ⊢
  have HN := Lib.hid hn'; clear hn' hv
  obtain ⟨R, hR⟩ : ∃ R, regN l = R := ⟨_, rfl⟩
  rw [hR]
  have HR := Lib.hid hR; clear hR
  have hlw := Lib.hid hl
  go_enter Try.func107, Try.ntmps107
  go_wp2_with fail
  refine kv.mono ?_
  rintro e w1 ⟨rfl, hb1⟩
  have hl1 := Lib.hid ((hl.below hb1).mono hb1.size)
  have HB1 := Lib.hid hb1
  clear kv hl hb1
  go_wp2
  go_loopg [4, 12] n (fun gg m i wr => ∃ k q : Nat, k ≤ n ∧ gg = n - k ∧ i = .int .i64 k ∧ m = .int .i64 q ∧ q < 32 ∧ Aside (q = mostN (l.take k)) ∧ Below w1.heap.size w1 wr)
  case atStart => exact ⟨0, 0, by omega, rfl, rfl, rfl, by omega, rfl, Below.refl _ _⟩
  case round =>
    obtain ⟨k, q, hk, hg, rfl, rfl, hq, hs, hbw⟩ := hrel
    have HG := Lib.hid hg; clear hg
    by_cases hlt : k < n
    · obtain ⟨x, hx⟩ : ∃ s, l[k]? = some s := ⟨_, List.getElem?_eq_getElem (by rw [HN.out]; exact hlt)⟩
      have hl2 := hl1.out.below hbw
      obtain ⟨g, off, rfl, hg, c0, c1, c2, c3, c4⟩ := hl2.get hx
      have hr := rightAll_get HV.out hx
      obtain ⟨a, ha, ha2, hbc⟩ := right_nats hr
      have hsn : Hid (mostN (l.take (k + 1)) = max q (rX x)) := by show _ = _; rw [mostN_succ l k hx, hs.out]
      have hi0 : (0 : Int) ≤ (k : Int) := Int.natCast_nonneg _
      have hi1 : (k : Int) < (n : Int) := by omega
      have hb2 := hbw.alloc hbw.size (.cells #[.int .i64 x.op, .int .i64 x.a, .int .i64 x.b, .int .i64 x.c, .string x.tree] 75)
      by_cases ho : x.op = 5
      · have hop : (x.op == 5) = true := by rw [ho]; rfl
        have hrx : Hid (rX x = a) := by show _ = _; unfold rX; rw [if_pos ho, ha]; simp
        clear ho hr hx hl2 hbc
        rw [ha] at c1 hb2
        clear ha
        go_wp2
        go_roundg (n - (k + 1))
        case measure => rw [HG.out]; omega
        case rel => exact ⟨k + 1, max q a, by omega, rfl, by go_num, by congr 1; omega, by omega, by show _ = _; rw [hsn.out, hrx.out], hb2⟩
      · have hop : (x.op == 5) = false := by rw [beq_eq_false_iff_ne]; exact ho
        obtain ⟨b, c, hb, hc, hb32, hc32⟩ := hbc ho
        have hrx : Hid (rX x = max a (max b c)) := by show _ = _; unfold rX; rw [if_neg ho, ha, hb, hc]; simp
        clear ho hr hx hl2 hbc
        rw [ha, hb, hc] at hb2
        rw [ha] at c1
        rw [hb] at c2
        rw [hc] at c3
        clear ha hb hc
        go_wp2
        all_goals (
        go_roundg (n - (k + 1))
        case measure => rw [HG.out]; omega
        case rel => exact ⟨k + 1, max q (max a (max b c)), by omega, rfl, by go_num, by congr 1; omega, by omega, by show _ = _; rw [hsn.out, hrx.out], hb2⟩)
    · have hkn : k = n := by omega
      subst hkn
      have hR1 : Hid ((q : Int) + 1 = (R : Nat)) := Lib.hid (by have h1 := HR.out; have h2 := hs.out; unfold regN at h1; rw [← HN.out, mostN_all] at h2; omega)
      have HBW := Lib.hid (HB1.out.trans (hbw.mono HB1.out.size))
      clear hlt hk hs HG
      go_wp2
      refine bodyPost_ret (v := .tuple #[.int .i64 ((q : Int) + 1), .int .i64 0]) (by simp [results, Try.results107, go_sem]) rfl ?_
      exact ⟨by rw [hR1.out], HBW.out⟩

theorem codeRegs_bad (v : Value) (l : List Ins) (w : World) (hl : InsRow w w.heap.size v l) (hv : validB l = false) :
    Calls Try.prog 107 #[v] w fun e w' => e = .returned (.tuple #[.int .i64 0, .int .i64 1]) ∧ Below w.heap.size w w' := by
  have kv := codeValidP_at v l w hl _ hv
  go_enter Try.func107, Try.ntmps107
  go_wp2_with fail
  refine kv.mono ?_
  rintro e w1 ⟨rfl, hb1⟩
  go_wp2
  refine bodyPost_ret (v := .tuple #[.int .i64 0, .int .i64 1]) (by simp [results, Try.results107, go_sem]) rfl ?_
  exact ⟨rfl, hb1⟩

end Go.Proofs.Ytdjbcmfjlfkcjaa

namespace Go.Proofs.Ytdjbcmfjlfkcjaa
open Go.RowKit

def setI (a : Nat) (t : ByteArray) : Ins := ⟨0, a, 0, 0, t⟩
def moveI (a b : Nat) : Ins := ⟨1, a, b, 0, ⟨#[]⟩⟩
def consI (a b c : Nat) : Ins := ⟨2, a, b, c, ⟨#[]⟩⟩
def jumpI (a : Nat) (b : Int) : Ins := ⟨5, a, b, 0, ⟨#[]⟩⟩
def cleanK (k : Nat) : List Ins := (List.range k).map fun j => setI (j + 1) ⟨#[48]⟩
def cleanH (l : List Ins) : List Ins := cleanK (mostN l)
def cleanP (l : List Ins) : List Ins := cleanH l ++ l
def thenL : List (List Ins) → List Ins
  | [] => []
  | l :: ls => l ++ (ls.map cleanP).flatten
def pairL (p q : List Ins) : List Ins :=
  let n := max (regN p) (regN q)
  moveI n 0 :: p ++ [moveI (n + 1) 0, moveI 0 n] ++ cleanP q ++ [consI 0 (n + 1) 0]
def ifL (c p q : List Ins) : List Ins :=
  let n := max (regN c) (max (regN p) (regN q))
  moveI n 0 :: c ++ [jumpI 0 ((cleanP q).length + 4), moveI 0 n] ++ cleanP q ++ [setI n ⟨#[49, 48, 48]⟩, jumpI n ((cleanP p).length + 2), moveI 0 n] ++ cleanP p
def whileH (c p : List Ins) : List Ins :=
  let n := max (regN c) (regN p)
  moveI n 0 :: cleanP c ++ [jumpI 0 4, moveI 0 n, setI n ⟨#[49, 48, 48]⟩, jumpI n ((cleanP p).length + 4), moveI 0 n] ++ cleanP p ++ [setI n ⟨#[49, 48, 48]⟩]
def whileL (c p : List Ins) : List Ins := whileH c p ++ [jumpI (max (regN c) (regN p)) (-((whileH c p).length : Int))]

theorem inscells_append (l m : List Ins) : inscells (l ++ m) = inscells l ++ inscells m := by simp [inscells]
theorem cleanK_succ (k : Nat) : cleanK (k + 1) = cleanK k ++ [setI (k + 1) ⟨#[48]⟩] := by unfold cleanK; rw [List.range_succ, List.map_append]; rfl
theorem cleanK_length (k : Nat) : (cleanK k).length = k := by simp [cleanK]
theorem setI_wf (a : Nat) (t : ByteArray) (ha : a ≤ 1000000) (ht : t.size ≤ 140737488355328) : (setI a t).wf := wf_lit _ _ _ _ _ (by unfold i64; decide) (by unfold i64; omega) (by unfold i64; decide) (by unfold i64; decide) ht
theorem cleanK_wf (k : Nat) (hk : k ≤ 1000) : ∀ x ∈ cleanK k, x.wf := by
  intro x hx
  simp only [cleanK, List.mem_map, List.mem_range] at hx
  obtain ⟨j, hj, rfl⟩ := hx
  exact setI_wf _ _ (by omega) (by decide)
theorem wf_append {l m : List Ins} (h1 : ∀ x ∈ l, x.wf) (h2 : ∀ x ∈ m, x.wf) : ∀ x ∈ l ++ m, x.wf := fun x hx => (List.mem_append.1 hx).elim (h1 x) (h2 x)
/-- A program in a row of one's own. -/
structure OwnI (w : World) (B : Nat) (v : Value) (l : List Ins) : Prop where
  own : w.ownsRow B 75 5 v l.length (inscells l)
  wf : ∀ x ∈ l, x.wf
theorem OwnI.row {w : World} {B : Nat} {v : Value} {l : List Ins} (h : OwnI w B v l) (hn : l.length ≤ 2932031007402) : InsRow w w.heap.size v l := InsRow.of_own h.own h.wf hn
theorem OwnI.nil (w : World) (B : Nat) : OwnI w B (.slice none 0 0) [] := ⟨⟨rfl, .inl ⟨rfl, rfl⟩⟩, by simp⟩
theorem OwnI.below {w w' : World} {B : Nat} {v : Value} {l : List Ins} (h : OwnI w B v l) (hb : Below w.heap.size w w') : OwnI w' B v l := ⟨own_below h.own hb, h.wf⟩
theorem OwnI.slice {w : World} {B : Nat} {v : Value} {l : List Ins} (h : OwnI w B v l) : ∃ a c, v = .slice a l.length c := own_len h.own
theorem OwnI.lit (w : World) (l : List Ins) (hwf : ∀ x ∈ l, x.wf) (hl : l.length ≤ 4611686018427387904) : OwnI (w.alloc (.cells (inscells l).toArray 75)) w.heap.size (.slice (some ⟨w.heap.size, 0, none⟩) l.length l.length) l :=
  ⟨World.ownsRow_lit w (inscells l).toArray l.length (Nat.le_refl _) (by unfold maxLen; omega) (by simp [inscells_length]), hwf⟩

theorem bmove_any (a b : Int) (w : World) :
    Calls Try.prog 74 #[.int .i64 a, .int .i64 b] w fun e w' => e = .returned (.agg #[.int .i64 1, .int .i64 a, .int .i64 b, .int .i64 0, .string ⟨#[]⟩]) ∧ Below w.heap.size w w' := by
  go_enter Try.func74, Try.ntmps74
  go_wp2
  refine bodyPost_ret (v := .agg #[.int .i64 1, .int .i64 a, .int .i64 b, .int .i64 0, .string ⟨#[]⟩]) (by simp [results, Try.results74, go_sem]) rfl ?_
  exact ⟨rfl, (Below.refl _ _).alloc (Nat.le_refl _) _⟩

end Go.Proofs.Ytdjbcmfjlfkcjaa

namespace Go.Proofs.Ytdjbcmfjlfkcjaa
open Go.RowKit

theorem OwnI.snoc {w : World} {B : Nat} {v : Value} {l : List Ins} {x : Ins} (h : w.ownsRow B 75 5 v (l.length + 1) (inscells l ++ inscells [x])) (hw : ∀ y ∈ l, y.wf) (hx : x.wf) : OwnI w B v (l ++ [x]) :=
  ⟨by rw [inscells_append, List.length_append]; exact h, wf_append hw (by simpa using hx)⟩
theorem OwnI.app {w : World} {B n : Nat} {v : Value} {l m : List Ins} (h : w.ownsRow B 75 5 v n (inscells l ++ inscells m)) (hn : n = l.length + m.length) (hw : ∀ y ∈ l, y.wf) (hx : ∀ y ∈ m, y.wf) : OwnI w B v (l ++ m) :=
  ⟨by rw [inscells_append, List.length_append, ← hn]; exact h, wf_append hw hx⟩
theorem InsRow.slice_src {w : World} {B : Nat} {v : Value} {l : List Ins} (h : InsRow w B v l) : Src w v l.length 5 (inscells l) := h.src

set_option maxHeartbeats 4000000 in
theorem fresh_ok (v : Value) (l : List Ins) (w : World) (hl : InsRow w w.heap.size v l) (hv : validB l = true) :
    Calls Try.prog 75 #[v] w fun e w' => ∃ v', e = .returned v' ∧ InsRow w' w'.heap.size v' (cleanP l) ∧ Below w.heap.size w w' := by
  have kv := codeRegs_ok v l w hl hv
  have hn4 := validB_len hv
  have hm := mostN_lt (validB_all hv) l.length (Nat.le_refl _)
  rw [mostN_all] at hm
  obtain ⟨M, hM⟩ : ∃ M, mostN l = M := ⟨_, rfl⟩
  have hR : ((regN l : Nat) : Int) = (M : Int) + 1 := by unfold regN; omega
  rw [hR] at kv
  rw [hM] at hm
  have HM := Lib.hid hM
  clear hR hM hv
  have HL0 := Lib.hid hl
  go_enter Try.func75, Try.ntmps75
  go_wp2_with fail
  refine kv.mono ?_
  rintro e w1 ⟨rfl, hb1⟩
  have hl1 := Lib.hid ((HL0.out.below hb1).mono hb1.size)
  have HB1 := Lib.hid hb1
  clear kv hl hb1
  go_wp2
  go_loopg [5, 6] M (fun gg o i wr => ∃ k : Nat, k ≤ M ∧ gg = M - k ∧ i = .int .i64 ((k : Int) + 1) ∧ Hid (OwnI wr w1.heap.size o (cleanK k) ∧ Below w1.heap.size w1 wr))
  case atStart => exact ⟨0, by omega, rfl, rfl, OwnI.nil _ _, Below.refl _ _⟩
  case round =>
    obtain ⟨k, hk, hg, rfl, hP⟩ := hrel
    have HG := Lib.hid hg; clear hg
    have hsz := hP.out.2.size
    by_cases hlt : k < M
    · have hlt1 : (k : Int) + 1 < (M : Int) + 1 := by omega
      have hown := hP.out.1.own
      rw [cleanK_length] at hown
      have hb := hP.out.2
      go_wp2_with (at_builtin; refine app_new el_ins rfl _ _ rfl rfl hown (inscells [setI (k + 1) ⟨#[48]⟩]) 1 rfl rfl ?c1 ?c2 ?c3 hsz hb (Nat.le_refl _) ?_)
      case c1 => exact inscells_one _
      case c2 => omega
      case c3 => unfold maxLen; omega
      intro v' w' hown' hb' hgr
      have hnew : Hid (OwnI w' w1.heap.size v' (cleanK (k + 1)) ∧ Below w1.heap.size w1 w') := Lib.hid ⟨by rw [cleanK_succ]; exact OwnI.snoc (by rw [cleanK_length]; exact hown') (cleanK_wf k (by omega)) (setI_wf _ _ (by omega) (by decide)), hb'⟩
      clear hown hown' hb hb' hgr hP
      go_wp2
      go_roundg (M - (k + 1))
      case measure => rw [HG.out]; omega
      case rel => exact ⟨k + 1, by omega, rfl, by go_num, hnew⟩
    · have hkM : k = M := by omega
      subst hkM
      have hown := hP.out.1.own
      rw [cleanK_length] at hown
      have hb := hP.out.2
      have hs2 := (hl1.out.below hb).src
      have hnl : l.length ≤ 4000 := hn4
      go_wp2_with (at_builtin; refine app_src el_ins (vx := v) rfl _ _ rfl rfl hown rfl hs2 (inscells_one l) ?c2 ?c3 hsz hb (Nat.le_refl _) ?_)
      case c2 => omega
      case c3 => unfold maxLen; omega
      intro v' w' hown' hb' hgr
      have hnew : Hid (OwnI w' w1.heap.size v' (cleanP l)) := Lib.hid (by unfold cleanP cleanH; rw [HM.out]; exact OwnI.app hown' (by rw [cleanK_length]) (cleanK_wf k (by omega)) HL0.out.1)
      have hrow : Hid (InsRow w' w'.heap.size v' (cleanP l)) := Lib.hid (hnew.out.row (by unfold cleanP cleanH; rw [List.length_append, cleanK_length, HM.out]; omega))
      have HB2 := Lib.hid (HB1.out.trans (hb'.mono HB1.out.size))
      clear hown hown' hb hb' hgr hP hs2
      go_wp2
      go_ret
      exact ⟨_, rfl, hrow.out, HB2.out⟩

end Go.Proofs.Ytdjbcmfjlfkcjaa

namespace Go.Proofs.Ytdjbcmfjlfkcjaa
open Go.RowKit Go.Shelf

def growRen : Go.Shelf.Ren := ⟨fun | 4 => 111 | n => n, fun | 22 => 23 | 25 => 75 | 0 => 0 | 3 => 3 | 4 => 4 | 9 => 9 | 20 => 20 | n => n, fun | n => n⟩
theorem growLays : Go.Proofs.Lays8.n4 Try.prog growRen := {
  mixed := by kernel_rfl
  f4 := ⟨Try.f111.name, by kernel_rfl, Try.func111.trans (congrArg some (by kernel_rfl))⟩
  t0 := Try.underlying0
  a0 := Try.isAgg0
  z0 := Try.sizeOf0
  v0 := Try.zeroValue0
  t3 := Try.underlying3
  a3 := Try.isAgg3
  z3 := Try.sizeOf3
  v3 := Try.zeroValue3
  t4 := Try.underlying4
  a4 := Try.isAgg4
  z4 := Try.sizeOf4
  v4 := Try.zeroValue4
  t9 := Try.underlying9
  a9 := Try.isAgg9
  z9 := Try.sizeOf9
  v9 := Try.zeroValue9
  t20 := Try.underlying20
  a20 := Try.isAgg20
  z20 := Try.sizeOf20
  v20 := Try.zeroValue20
  t22 := Try.underlying23
  a22 := Try.isAgg23
  z22 := Try.sizeOf23
  v22 := Try.zeroValue23 }
theorem grow_any (T : Nat) (hT : T ≤ 1000000000) (w : World) :
    Calls Try.prog 111 #[.slice none 0 0, .int .i64 T] w fun e w' => ∃ v', e = .returned v' ∧ OwnI w' w.heap.size v' [] ∧ Below w.heap.size w w' := by
  by_cases h0 : T = 0
  · subst h0
    refine (Any8.slices_Grow_room growLays none 0 0 0 w (Nat.le_refl _) (by omega) (by omega) (by omega)).mono ?_
    rintro e w' ⟨rfl, rfl⟩
    exact ⟨_, rfl, OwnI.nil _ _, Below.refl _ _⟩
  · obtain ⟨i, hi, hz, hsize, hbytes⟩ := info_parts el_ins.hi
    refine (Any8.slices_Grow_grow growLays i _ hi hz (by omega) none 0 0 T [] w (Nat.le_refl _) (by omega) (by rw [hbytes]; omega) (by omega) (by simp) (fun _ => rfl) (fun a h => by cases h)).mono ?_
    rintro e w' ⟨rfl, rfl⟩
    have hc1 := grownCap_ge w (0 + T) 0 75
    have hc2 := grownCap_le_maxLen w (0 + T) 0 75 (by unfold maxLen; omega)
    refine ⟨_, rfl, ⟨⟨rfl, .inr ⟨w.heap.size, _, _, rfl, Nat.le_refl _, heap_alloc_new w.drew _, Nat.zero_le _, hc2, ?_, ?_⟩⟩, by simp⟩, (Below.refl _ w).drew.alloc (by simp) _⟩
    · have hc3 : 0 + T ≤ grownCap w (0 + T) 0 (growRen.t 25) := hc1
      have hzz : ∀ n, (Builtin.zeroCells (Value.agg #[.int .i64 0, .int .i64 0, .int .i64 0, .int .i64 0, .string ⟨#[]⟩]).cells n).size = n * 5 := fun n => by simp [Builtin.zeroCells, Value.cells]
      simp only [Array.size_append, hzz, List.size_toArray, List.length_nil]
      omega
    · rfl

end Go.Proofs.Ytdjbcmfjlfkcjaa

namespace Go.Proofs.Ytdjbcmfjlfkcjaa
open Go.RowKit

/-- A list of programs in memory, all below block B. -/
def ProgsRow (w : World) (B : Nat) (v : Value) (ls : List (List Ins)) : Prop :=
  ls.length ≤ 5864062014805 ∧ ((ls = [] ∧ (v = .slice none 0 0 ∨ ∃ a c, v = .slice (some a) 0 c)) ∨ ∃ g off cap, v = .slice (some ⟨g, off, none⟩) ls.length cap ∧ g < B ∧ ∀ j l, ls[j]? = some l → ∃ u, w.cell? ⟨g, off + j, none⟩ = some u ∧ InsRow w B u l)
theorem ProgsRow.below {w w' : World} {B : Nat} {v : Value} {ls : List (List Ins)} (h : ProgsRow w B v ls) (hb : Below B w w') : ProgsRow w' B v ls := by
  refine ⟨h.1, h.2.elim .inl fun ⟨g, off, cap, h1, h2, h3⟩ => .inr ⟨g, off, cap, h1, h2, fun j l hj => ?_⟩⟩
  obtain ⟨u, h4, h5⟩ := h3 j l hj
  exact ⟨u, (hb.cell (p := ⟨g, off + j, none⟩) h2).trans h4, h5.below hb⟩
theorem ProgsRow.mono {w : World} {B B' : Nat} {v : Value} {ls : List (List Ins)} (h : ProgsRow w B v ls) (hB : B ≤ B') : ProgsRow w B' v ls := by
  refine ⟨h.1, h.2.elim .inl fun ⟨g, off, cap, h1, h2, h3⟩ => .inr ⟨g, off, cap, h1, by omega, fun j l hj => ?_⟩⟩
  obtain ⟨u, h4, h5⟩ := h3 j l hj
  exact ⟨u, h4, h5.mono hB⟩
theorem ProgsRow.step {A B : World} {v : Value} {ls : List (List Ins)} (h : ProgsRow A A.heap.size v ls) (hb : Below A.heap.size A B) : ProgsRow B B.heap.size v ls := (h.below hb).mono hb.size
theorem ProgsRow.len {w : World} {B : Nat} {v : Value} {ls : List (List Ins)} (h : ProgsRow w B v ls) : ∃ a c, v = .slice a ls.length c := by
  rcases h.2 with ⟨rfl, rfl | ⟨a, c, rfl⟩⟩ | ⟨g, off, cap, rfl, _⟩
  · exact ⟨_, _, rfl⟩
  · exact ⟨_, _, rfl⟩
  · exact ⟨_, _, rfl⟩
theorem ProgsRow.get {w : World} {B : Nat} {ao : Option Addr} {n cap : Nat} {ls : List (List Ins)} (h : ProgsRow w B (.slice ao n cap) ls) {k : Nat} {l : List Ins} (hk : ls[k]? = some l) :
    ∃ g off u, ao = some ⟨g, off, none⟩ ∧ g < B ∧ w.cell? ⟨g, off + k, none⟩ = some u ∧ InsRow w B u l := by
  rcases h.2 with ⟨rfl, _⟩ | ⟨g, off, cap', hv, hg, hc⟩
  · simp at hk
  · simp only [Value.slice.injEq] at hv
    obtain ⟨rfl, -, -⟩ := hv
    obtain ⟨u, h1, h2⟩ := hc k l hk
    exact ⟨g, off, u, rfl, hg, h1, h2⟩
/-- A list of programs that was just laid. -/
theorem ProgsRow.lit {w : World} (us : List Value) (ls : List (List Ins)) (hn : us.length = ls.length) (hb : ls.length ≤ 1000) (h : ∀ (j : Nat) (u : Value) (l : List Ins), us[j]? = some u → ls[j]? = some l → InsRow w w.heap.size u l) :
    ProgsRow (w.alloc (.cells us.toArray 23)) (w.alloc (.cells us.toArray 23)).heap.size (.slice (some ⟨w.heap.size, 0, none⟩) us.length us.length) ls := by
  have hb0 : Below w.heap.size w (w.alloc (.cells us.toArray 23)) := (Below.refl _ _).alloc (Nat.le_refl _) _
  refine ⟨by omega, .inr ⟨w.heap.size, 0, us.length, by rw [hn], by simp, fun j l hj => ?_⟩⟩
  have hlt := (List.getElem?_eq_some_iff.1 hj).1
  obtain ⟨u, hu⟩ : ∃ u, us[j]? = some u := ⟨_, List.getElem?_eq_getElem (by omega)⟩
  refine ⟨u, ?_, ((h j u l hu hj).below hb0).mono hb0.size⟩
  have h1 := block_cells (heap_alloc_new w (.cells us.toArray 23))
  have h2 := h1.1 (0 + j)
  rw [h2, Nat.zero_add, List.getElem?_toArray]
  exact hu

/-- How many registers a list of programs uses; their joint length. -/
def mostR (ls : List (List Ins)) : Nat := (ls.map regN).foldr max 1
def allV (ls : List (List Ins)) : Bool := ls.all validB
theorem foldr_max1_snoc (l : List Nat) (n : Nat) : (l ++ [n]).foldr max 1 = max (l.foldr max 1) n := by
  induction l with
  | nil => simp; omega
  | cons a l ih => simp only [List.cons_append, List.foldr_cons, ih]; omega
theorem mostR_succ (ls : List (List Ins)) (k : Nat) {l : List Ins} (hl : ls[k]? = some l) : mostR (ls.take (k + 1)) = max (mostR (ls.take k)) (regN l) := by
  rw [take_snoc' _ _ _ hl]; unfold mostR; rw [List.map_append, List.map_cons, List.map_nil, foldr_max1_snoc]
theorem allV_succ (ls : List (List Ins)) (k : Nat) {l : List Ins} (hl : ls[k]? = some l) : allV (ls.take (k + 1)) = (allV (ls.take k) && validB l) := by
  rw [take_snoc' _ _ _ hl]; unfold allV; rw [List.all_append]; simp
theorem allV_get {ls : List (List Ins)} (h : allV ls = true) {k : Nat} {l : List Ins} (hl : ls[k]? = some l) : validB l = true := List.all_eq_true.1 h l (List.mem_of_getElem? hl)
theorem allV_false {ls : List (List Ins)} {k : Nat} {l : List Ins} (hl : ls[k]? = some l) (h : validB l = false) : allV ls = false := by
  rw [← Bool.not_eq_true]; intro h2; rw [allV_get h2 hl] at h; cases h
theorem allV_of_take {ls : List (List Ins)} {k : Nat} (h : allV (ls.take k) = true) (hk : ls.length ≤ k) : allV ls = true := by rwa [List.take_of_length_le hk] at h

def CheckOut (ls : List (List Ins)) : Value := if allV ls = false then .tuple #[.int .i64 0, .int .i64 1] else if 28 < mostR ls then .tuple #[.int .i64 0, .int .i64 8] else .tuple #[.int .i64 (mostR ls : Nat), .int .i64 0]

set_option maxHeartbeats 4000000 in
theorem check_any (v : Value) (ls : List (List Ins)) (w : World) (hl : ProgsRow w w.heap.size v ls) :
    Calls Try.prog 73 #[v] w fun e w' => e = .returned (CheckOut ls) ∧ Below w.heap.size w w' := by
  obtain ⟨ao, cap, rfl⟩ := hl.len
  have hn5 := hl.1
  obtain ⟨n, hn'⟩ : ∃ n, ls.length = n := ⟨_, rfl⟩
  rw [hn'] at hl hn5 ⊢
  have HN := Lib.hid hn'; clear hn'
  have HL := Lib.hid hl; clear hl
  obtain ⟨R, hR⟩ : ∃ R, CheckOut ls = R := ⟨_, rfl⟩
  rw [hR]
  have HR := Lib.hid hR; clear hR
  go_enter Try.func73, Try.ntmps73
  go_wp2
  go_loopg [4, 11] n (fun gg m i wr => ∃ k q : Nat, k ≤ n ∧ gg = n - k ∧ i = .int .i64 k ∧ m = .int .i64 q ∧ q ≤ 32 ∧ Aside (q = mostR (ls.take k)) ∧ Aside (allV (ls.take k) = true) ∧ Below w.heap.size w wr)
  case atStart => exact ⟨0, 1, by omega, rfl, rfl, rfl, by omega, rfl, rfl, Below.refl _ _⟩
  case round =>
    obtain ⟨k, q, hk, hg, rfl, rfl, hq, hs, hva, hbw⟩ := hrel
    have HG := Lib.hid hg; clear hg
    by_cases hlt : k < n
    · obtain ⟨l, hx⟩ : ∃ s, ls[k]? = some s := ⟨_, List.getElem?_eq_getElem (by rw [HN.out]; exact hlt)⟩
      have hl2 := HL.out.step hbw
      obtain ⟨g, off, u, rfl, hg, c0, hu⟩ := hl2.get hx
      have hi0 : (0 : Int) ≤ (k : Int) := Int.natCast_nonneg _
      have hi1 : (k : Int) < (n : Int) := by omega
      have HX := Lib.hid hx
      have hva := Lib.hid hva
      have hs := Lib.hid hs
      clear hx hl2
      cases hv : validB l with
      | true =>
        have kr := codeRegs_ok u l wr hu hv
        have hrn := regN_le (validB_all hv)
        obtain ⟨r, hr⟩ : ∃ r, regN l = r := ⟨_, rfl⟩
        rw [hr] at kr hrn
        have HRR := Lib.hid hr
        have HVV := Lib.hid hv
        clear hr hv hu
        go_wp2_with fail
        refine kr.mono ?_
        rintro e w1 ⟨rfl, hb1⟩
        have hb2 := hbw.trans (hb1.mono hbw.size)
        clear hb1 kr hbw
        go_wp2
        all_goals (
        go_roundg (n - (k + 1))
        case measure => rw [HG.out]; omega
        case rel => exact ⟨k + 1, max q r, by omega, rfl, by go_num, by congr 1; omega, by omega, by show _ = _; rw [mostR_succ ls k HX.out, ← hs.out, HRR.out], by show _ = _; rw [allV_succ ls k HX.out, hva.out, HVV.out]; rfl, hb2⟩)
      | false =>
        have kr := codeRegs_bad u l wr hu hv
        have hf : Hid (CheckOut ls = .tuple #[.int .i64 0, .int .i64 1]) := Lib.hid (by unfold CheckOut; rw [if_pos (allV_false HX.out hv)])
        clear hv hu
        go_wp2_with fail
        refine kr.mono ?_
        rintro e w1 ⟨rfl, hb1⟩
        have hb2 := hbw.trans (hb1.mono hbw.size)
        clear hb1 kr hbw
        go_wp2
        refine bodyPost_ret (v := .tuple #[.int .i64 0, .int .i64 1]) (by simp [results, Try.results73, go_sem]) rfl ?_
        exact ⟨by rw [← HR.out, hf.out], hb2⟩
    · have hkn : k = n := by omega
      subst hkn
      have hqm : Hid (mostR ls = q) := Lib.hid (by have h2 := hs.out; rw [List.take_of_length_le (by rw [HN.out]; omega)] at h2; exact h2.symm)
      have hav : Hid (allV ls = true) := Lib.hid (allV_of_take hva.out (by rw [HN.out]; omega))
      clear hs hva hlt hk
      by_cases hbig : 28 < q
      · have hf : Hid (CheckOut ls = .tuple #[.int .i64 0, .int .i64 8]) := Lib.hid (by unfold CheckOut; rw [if_neg (by rw [hav.out]; simp), if_pos (by rw [hqm.out]; exact hbig)])
        have hbI : (28 : Int) < (q : Int) := by omega
        go_wp2
        refine bodyPost_ret (v := .tuple #[.int .i64 0, .int .i64 8]) (by simp [results, Try.results73, go_sem]) rfl ?_
        exact ⟨by rw [← HR.out, hf.out], hbw⟩
      · have hf : Hid (CheckOut ls = .tuple #[.int .i64 (q : Nat), .int .i64 0]) := Lib.hid (by unfold CheckOut; rw [if_neg (by rw [hav.out]; simp), if_neg (by rw [hqm.out]; exact hbig), hqm.out])
        have hbI : (q : Int) ≤ (28 : Int) := by omega
        go_wp2
        refine bodyPost_ret (v := .tuple #[.int .i64 (q : Nat), .int .i64 0]) (by simp [results, Try.results73, go_sem]) rfl ?_
        exact ⟨by rw [← HR.out, hf.out], hbw⟩

/-- What done hands back. -/
def DoneOut (l : List Ins) (v : Value) : Value := if validB l = true then .tuple #[v, .int .i64 0] else .tuple #[.slice none 0 0, .int .i64 3]
theorem done_any (a : Option Addr) (n c : Nat) (l : List Ins) (w : World) (hl : InsRow w w.heap.size (.slice a n c) l) :
    Calls Try.prog 78 #[.slice a n c] w fun e w' => e = .returned (DoneOut l (.slice a n c)) ∧ Below w.heap.size w w' := by
  unfold DoneOut
  cases hv : validB l with
  | true =>
    have kv := codeValidP_at _ l w hl _ hv
    clear hv
    rw [if_pos rfl]
    go_enter Try.func78, Try.ntmps78
    go_wp2_with fail
    refine kv.mono ?_
    rintro e w1 ⟨rfl, hb1⟩
    go_wp2
    refine bodyPost_ret (v := .tuple #[.slice a n c, .int .i64 0]) (by simp [results, Try.results78, go_sem]) rfl ?_
    exact ⟨rfl, hb1⟩
  | false =>
    have kv := codeValidP_at _ l w hl _ hv
    clear hv
    rw [if_neg (by simp)]
    go_enter Try.func78, Try.ntmps78
    go_wp2_with fail
    refine kv.mono ?_
    rintro e w1 ⟨rfl, hb1⟩
    go_wp2
    refine bodyPost_ret (v := .tuple #[.slice none 0 0, .int .i64 3]) (by simp [results, Try.results78, go_sem]) rfl ?_
    exact ⟨rfl, hb1⟩

theorem leap_any (r : Nat) (hr : r ≤ 1000) (p : Int) (hp : i64 p) (w : World) :
    Calls Try.prog 76 #[.int .i64 r, .int .i64 p] w fun e w' => ∃ v', e = .returned v' ∧ InsRow w' w'.heap.size v' [setI r ⟨#[49, 48, 48]⟩, jumpI r p] ∧ Below w.heap.size w w' := by
  have hwf : ∀ x ∈ [setI r ⟨#[49, 48, 48]⟩, jumpI r p], x.wf := by
    intro x hx
    simp only [List.mem_cons, List.not_mem_nil, or_false] at hx
    rcases hx with rfl | rfl
    · exact setI_wf _ _ (by omega) (by decide)
    · exact wf_lit _ _ _ _ _ (by unfold i64; decide) (by unfold i64; omega) hp (by unfold i64; decide) (by decide)
  have hrow := (OwnI.lit w _ hwf (by simp)).row (by simp)
  go_enter Try.func76, Try.ntmps76
  go_wp2
  go_ret
  exact ⟨_, rfl, hrow, (Below.refl _ _).alloc (Nat.le_refl _) _⟩

/-- slices.Concat: one row of one's own. -/
def lenS (ls : List (List Ins)) : Nat := (ls.map List.length).sum
theorem lenS_flatten (ls : List (List Ins)) : ls.flatten.length = lenS ls := by unfold lenS; rw [List.length_flatten]
theorem lenS_succ (ls : List (List Ins)) (k : Nat) {l : List Ins} (hl : ls[k]? = some l) : lenS (ls.take (k + 1)) = lenS (ls.take k) + l.length := by rw [take_snoc' _ _ _ hl]; unfold lenS; simp
theorem lenS_take (ls : List (List Ins)) (k : Nat) : lenS (ls.take k) ≤ lenS ls := by
  conv => rhs; rw [← List.take_append_drop k ls]
  unfold lenS; rw [List.map_append, List.sum_append]; omega
theorem flat_succ (ls : List (List Ins)) (k : Nat) {l : List Ins} (hl : ls[k]? = some l) : (ls.take (k + 1)).flatten = (ls.take k).flatten ++ l := by rw [take_snoc' _ _ _ hl]; simp

set_option maxHeartbeats 4000000 in
theorem concat_any (v : Value) (ls : List (List Ins)) (w : World) (hl : ProgsRow w w.heap.size v ls) (hT : lenS ls ≤ 1000000000) :
    Calls Try.prog 77 #[v] w fun e w' => ∃ v', e = .returned v' ∧ OwnI w' w.heap.size v' ls.flatten ∧ Below w.heap.size w w' := by
  obtain ⟨ao, cap, rfl⟩ := hl.len
  have hn5 := hl.1
  obtain ⟨n, hn'⟩ : ∃ n, ls.length = n := ⟨_, rfl⟩
  rw [hn'] at hl hn5 ⊢
  have HN := Lib.hid hn'; clear hn'
  have HL := Lib.hid hl; clear hl
  obtain ⟨T, hTT⟩ : ∃ T, lenS ls = T := ⟨_, rfl⟩
  rw [hTT] at hT
  have HT := Lib.hid hTT; clear hTT
  go_enter Try.func77, Try.ntmps77
  go_wp2
  go_loopg [3, 11] n (fun gg m i wr => ∃ k q : Nat, k ≤ n ∧ gg = n - k ∧ i = .int .i64 k ∧ m = .int .i64 q ∧ q ≤ T ∧ Aside (q = lenS (ls.take k)) ∧ wr = w)
  case atStart => exact ⟨0, 0, by omega, rfl, rfl, rfl, by omega, rfl, rfl⟩
  case round =>
    obtain ⟨k, q, hk, hg, rfl, rfl, hq, hs, rfl⟩ := hrel
    rename World => wA
    have HG := Lib.hid hg; clear hg
    by_cases hlt : k < n
    · obtain ⟨l, hx⟩ : ∃ s, ls[k]? = some s := ⟨_, List.getElem?_eq_getElem (by rw [HN.out]; exact hlt)⟩
      obtain ⟨g, off, u, rfl, hg, c0, hu⟩ := HL.out.get hx
      obtain ⟨ua, uc, rfl⟩ := hu.len
      have hi0 : (0 : Int) ≤ (k : Int) := Int.natCast_nonneg _
      have hi1 : (k : Int) < (n : Int) := by omega
      have hsn := lenS_succ ls k hx
      have hle := lenS_take ls (k + 1)
      have hqI : (q : Int) + (l.length : Int) ≤ 1000000000 := by have h1 := hs.out; have h2 := HT.out; omega
      have hq' : Hid (q + l.length ≤ T ∧ q + l.length = lenS (ls.take (k + 1))) := Lib.hid (by have h1 := hs.out; have h2 := HT.out; omega)
      have hq0 : (0 : Int) ≤ (q : Int) := Int.natCast_nonneg _
      have hl0 : (0 : Int) ≤ (l.length : Int) := Int.natCast_nonneg _
      clear hx hu hsn hle
      go_wp2
      go_roundg (n - (k + 1))
      case measure => rw [HG.out]; omega
      case rel => exact ⟨k + 1, q + l.length, by omega, rfl, by go_num, by go_num, hq'.out.1, hq'.out.2, rfl⟩
    · have hkn : k = n := by omega
      subst hkn
      have hqT : q = T := by have h1 := hs.out; have h2 := HT.out; rw [List.take_of_length_le (by rw [HN.out]; omega)] at h1; omega
      subst hqT
      clear hs hlt hk HG
      go_wp2_with fail
      refine (grow_any q hT _).mono ?_
      rintro e w1 ⟨v1, rfl, ho, hb1⟩
      have HO := Lib.hid ho
      have HB1 := Lib.hid hb1
      clear ho hb1
      go_wp2
      go_loopg [6, 27] k (fun gg o i wr2 => ∃ j : Nat, j ≤ k ∧ gg = k - j ∧ i = .int .i64 j ∧ Hid (OwnI wr2 wA.heap.size o (ls.take j).flatten ∧ Below wA.heap.size wA wr2))
      case atStart => exact ⟨0, by omega, rfl, rfl, HO.out, HB1.out⟩
      case round =>
        obtain ⟨j, hj, hg, rfl, hP⟩ := hrel
        have HG := Lib.hid hg; clear hg
        by_cases hlt : j < k
        · obtain ⟨l, hx⟩ : ∃ s, ls[j]? = some s := ⟨_, List.getElem?_eq_getElem (by rw [HN.out]; exact hlt)⟩
          have hl2 := HL.out.below hP.out.2
          obtain ⟨g, off, u, rfl, hg, c0, hu⟩ := hl2.get hx
          have hi0 : (0 : Int) ≤ (j : Int) := Int.natCast_nonneg _
          have hi1 : (j : Int) < (k : Int) := by omega
          have hsn := lenS_succ ls j hx
          have hle := lenS_take ls (j + 1)
          have hfl : (ls.take j).flatten.length = lenS (ls.take j) := lenS_flatten _
          have hown := hP.out.1.own
          have hb := hP.out.2
          have hsz := hb.size
          have hs2 := hu.src
          have HUW := Lib.hid hu.1
          have HX := Lib.hid hx
          obtain ⟨A, hA⟩ : ∃ A, (ls.take j).flatten.length = A := ⟨_, rfl⟩
          rw [hA] at hown hfl
          have HA := Lib.hid hA
          have hAl : A + l.length ≤ 1000000000 := by have h2 := HT.out; omega
          clear hx hu hsn hle hfl hA hl2
          go_wp2_with (at_builtin; refine app_src el_ins (vx := u) rfl _ _ rfl rfl hown rfl hs2 (inscells_one l) ?c2 ?c3 hsz hb (Nat.le_refl _) ?_)
          case c2 => omega
          case c3 => unfold maxLen; omega
          intro v' w' hown' hb' hgr
          have hnew : Hid (OwnI w' wA.heap.size v' (ls.take (j + 1)).flatten ∧ Below wA.heap.size wA w') := Lib.hid ⟨by rw [flat_succ ls j HX.out]; exact OwnI.app hown' (by rw [HA.out]) hP.out.1.wf HUW.out, hb'⟩
          clear hown hown' hb hb' hgr hs2 hP c0
          go_wp2
          go_roundg (k - (j + 1))
          case measure => rw [HG.out]; omega
          case rel => exact ⟨j + 1, by omega, rfl, by go_num, hnew⟩
        · have hjk : j = k := by omega
          subst hjk
          have hfin : Hid (OwnI wr wA.heap.size _ ls.flatten) := Lib.hid (by have := hP.out.1; rw [List.take_of_length_le (by rw [HN.out]; omega)] at this; exact this)
          go_wp2
          go_ret
          exact ⟨_, rfl, hfin.out, hP.out.2⟩

end Go.Proofs.Ytdjbcmfjlfkcjaa

namespace Go.Proofs.Ytdjbcmfjlfkcjaa
open Go.RowKit

/-- append of a program to a row of one's own. -/
theorem app_row {ops : Array Oper} {rest : List Oper} {o : Oper} {a : Act} {Q : Exit → Act → World → Prop} (hgd : o.guard = none) (s x : Operand)
    (ho : o.op = .call { callee := .builtin .append, args := #[s, x], argTypes := #[23, 23] }) {w w0 : World} {v vx : Value} {m l : List Ins} {B : Nat}
    (hs : a.eval s = v) (hown : OwnI w w0.heap.size v m) (hx : a.eval x = vx) (hsrc : InsRow w B vx l) (hlen : m.length + l.length ≤ 1000000000) (hb : Below w0.heap.size w0 w)
    (h : ∀ a' k c' w', Hid (k = m.length + l.length) → Hid (OwnI w' w0.heap.size (.slice a' k c') (m ++ l)) → Hid (Below w0.heap.size w0 w') → wpList Try.prog ops Q rest (a.put o.dst (.slice a' k c')) w') :
    wpList Try.prog ops Q (o :: rest) a w := by
  refine app_src el_ins hgd s x ho hs hown.own hx hsrc.src (inscells_one l) (by omega) (by unfold maxLen; omega) hb.size hb (Nat.le_refl _) ?_
  intro v' w' h1 h2 _
  obtain ⟨a', c', rfl⟩ := own_len h1
  exact h a' _ c' w' (Lib.hid rfl) (Lib.hid (OwnI.app h1 rfl hown.wf hsrc.1)) (Lib.hid h2)
/-- append of single instructions to a row of one's own. -/
theorem app_lit {ops : Array Oper} {rest : List Oper} {o : Oper} {a : Act} {Q : Exit → Act → World → Prop} (hgd : o.guard = none) (s x : Operand)
    (ho : o.op = .call { callee := .builtin .append, args := #[s, x], argTypes := #[23, 23] }) {w w0 : World} {v : Value} {m : List Ins} (l : List Ins) {n : Nat}
    (hs : a.eval s = v) (hown : OwnI w w0.heap.size v m) (hx : a.eval x = .slice (some ⟨w.heap.size, 0, none⟩) n n) (hn : l.length = n) (hwf : ∀ y ∈ l, y.wf) (hlen : m.length + n ≤ 1000000000) (hb : Below w0.heap.size w0 w)
    (h : ∀ a' k c' w', Hid (k = m.length + n) → Hid (OwnI w' w0.heap.size (.slice a' k c') (m ++ l)) → Hid (Below w0.heap.size w0 w') → wpList Try.prog ops Q rest (a.put o.dst (.slice a' k c')) w') :
    wpList Try.prog ops Q (o :: rest) a (w.alloc (.cells (inscells l).toArray 75)) := by
  refine app_new el_ins hgd s x ho hs hown.own (inscells l) n hx (by rw [inscells_length, hn]) (inscells_one l) (by omega) (by unfold maxLen; omega) hb.size hb (Nat.le_refl _) ?_
  intro v' w' h1 h2 _
  obtain ⟨a', c', rfl⟩ := own_len h1
  exact h a' _ c' w' (Lib.hid rfl) (Lib.hid (OwnI.app h1 (by rw [hn]) hown.wf hwf)) (Lib.hid h2)
/-- append of a program to single instructions. -/
theorem lit_row {ops : Array Oper} {rest : List Oper} {o : Oper} {a : Act} {Q : Exit → Act → World → Prop} (hgd : o.guard = none) (s x : Operand)
    (ho : o.op = .call { callee := .builtin .append, args := #[s, x], argTypes := #[23, 23] }) {w : World} {vx : Value} (m : List Ins) {l : List Ins} {n : Nat}
    (hs : a.eval s = .slice (some ⟨w.heap.size, 0, none⟩) n n) (hn : m.length = n) (hwf : ∀ y ∈ m, y.wf) (hx : a.eval x = vx) (hsrc : InsRow w w.heap.size vx l) (hlen : n + l.length ≤ 1000000000)
    (h : ∀ a' k c' w', Hid (k = n + l.length) → Hid (OwnI w' w.heap.size (.slice a' k c') (m ++ l)) → Hid (Below w.heap.size w w') → wpList Try.prog ops Q rest (a.put o.dst (.slice a' k c')) w') :
    wpList Try.prog ops Q (o :: rest) a (w.alloc (.cells (inscells m).toArray 75)) := by
  have hb : Below w.heap.size w (w.alloc (.cells (inscells m).toArray 75)) := (Below.refl _ _).alloc (Nat.le_refl _) _
  have ho' := OwnI.lit w m hwf (by omega)
  rw [hn] at ho'
  refine app_row hgd s x ho hs ho' hx (hsrc.below hb) (by rw [hn]; exact hlen) hb ?_
  rw [hn]; exact h
theorem OwnI.lower {w : World} {B B' : Nat} {v : Value} {l : List Ins} (h : OwnI w B v l) (hB : B' ≤ B) : OwnI w B' v l := by
  refine ⟨⟨h.own.1, ?_⟩, h.wf⟩
  rcases h.own.2 with h1 | ⟨g, cap, cur, h1, h2, h3⟩
  · exact .inl h1
  · exact .inr ⟨g, cap, cur, h1, by omega, h3⟩
theorem moveI_wf (a b : Nat) (ha : a ≤ 1000) (hb : b ≤ 1000) : (moveI a b).wf := wf_lit _ _ _ _ _ (by unfold i64; decide) (by unfold i64; omega) (by unfold i64; omega) (by unfold i64; decide) (by decide)
theorem consI_wf (a b c : Nat) (ha : a ≤ 1000) (hb : b ≤ 1000) (hc : c ≤ 1000) : (consI a b c).wf := wf_lit _ _ _ _ _ (by unfold i64; decide) (by unfold i64; omega) (by unfold i64; omega) (by unfold i64; omega) (by decide)
theorem jumpI_wf (a : Nat) (b : Int) (ha : a ≤ 1000) (hb : -1000000000 ≤ b ∧ b ≤ 1000000000) : (jumpI a b).wf := wf_lit _ _ _ _ _ (by unfold i64; decide) (by unfold i64; omega) (by unfold i64; omega) (by unfold i64; decide) (by decide)
theorem cleanP_length (l : List Ins) : (cleanP l).length = mostN l + l.length := by unfold cleanP cleanH; rw [List.length_append, cleanK_length]

end Go.Proofs.Ytdjbcmfjlfkcjaa

namespace Go.Proofs.Ytdjbcmfjlfkcjaa
open Go.RowKit

end Go.Proofs.Ytdjbcmfjlfkcjaa

namespace Go.Proofs.Ytdjbcmfjlfkcjaa
open Go.RowKit

/-- The error that is due for programs and for what is made of them; what is handed back. -/
def dueN (ls : List (List Ins)) (m : List Ins) : Int := if allV ls = false then 1 else if 28 < mostR ls then 8 else if validB m = true then 0 else 3
def MadeOut (w : World) (d : Int) (m : List Ins) (e : Ending) (w' : World) : Prop := (if d = 0 then ∃ v', e = .returned (.tuple #[v', .int .i64 0]) ∧ InsRow w' w'.heap.size v' m else e = .returned (.tuple #[.slice none 0 0, .int .i64 d])) ∧ Below w.heap.size w w'
theorem MadeOut.bad {w w' : World} {d : Int} {m : List Ins} {e : Ending} (hd : d ≠ 0) (he : e = .returned (.tuple #[.slice none 0 0, .int .i64 d])) (hb : Below w.heap.size w w') : MadeOut w d m e w' := ⟨by rw [if_neg hd]; exact he, hb⟩
theorem MadeOut.ok {w w' : World} {d : Int} {m : List Ins} {e : Ending} {v' : Value} (hd : d = 0) (he : e = .returned (.tuple #[v', .int .i64 0])) (hr : InsRow w' w'.heap.size v' m) (hb : Below w.heap.size w w') : MadeOut w d m e w' := ⟨by rw [if_pos hd]; exact ⟨v', he, hr⟩, hb⟩
theorem concat_len (v : Value) (ls : List (List Ins)) (w : World) (hl : ProgsRow w w.heap.size v ls) (hT : lenS ls ≤ 1000000000) :
    Calls Try.prog 77 #[v] w fun e w' => ∃ a k c, e = .returned (.slice a k c) ∧ Hid (k = lenS ls) ∧ OwnI w' w.heap.size (.slice a k c) ls.flatten ∧ Below w.heap.size w w' := by
  refine (concat_any v ls w hl hT).mono ?_
  rintro e w' ⟨v', rfl, h1, h2⟩
  obtain ⟨a, c, rfl⟩ := h1.slice
  rw [lenS_flatten] at h1 ⊢
  exact ⟨a, _, c, rfl, Lib.hid rfl, h1, h2⟩
theorem fresh_len (v : Value) (l : List Ins) (w : World) (hl : InsRow w w.heap.size v l) (hv : validB l = true) :
    Calls Try.prog 75 #[v] w fun e w' => ∃ a k c, e = .returned (.slice a k c) ∧ Hid (k = mostN l + l.length ∧ mostN l < 32) ∧ InsRow w' w'.heap.size (.slice a k c) (cleanP l) ∧ Below w.heap.size w w' := by
  have hm := mostN_lt (validB_all hv) l.length (Nat.le_refl _)
  rw [mostN_all] at hm
  refine (fresh_ok v l w hl hv).mono ?_
  rintro e w' ⟨v', rfl, h1, h2⟩
  obtain ⟨a, c, rfl⟩ := h1.len
  rw [cleanP_length] at h1 ⊢
  exact ⟨a, _, c, rfl, Lib.hid ⟨rfl, hm⟩, h1, h2⟩
theorem done_ok (a : Option Addr) (n c : Nat) (l : List Ins) (w : World) (hl : InsRow w w.heap.size (.slice a n c) l) (hv : validB l = true) :
    Calls Try.prog 78 #[.slice a n c] w fun e w' => e = .returned (.tuple #[.slice a n c, .int .i64 0]) ∧ Below w.heap.size w w' := by
  refine (done_any a n c l w hl).mono ?_
  rintro e w' ⟨rfl, h⟩
  exact ⟨by unfold DoneOut; rw [if_pos hv], h⟩
theorem done_bad (a : Option Addr) (n c : Nat) (l : List Ins) (w : World) (hl : InsRow w w.heap.size (.slice a n c) l) (hv : validB l = false) :
    Calls Try.prog 78 #[.slice a n c] w fun e w' => e = .returned (.tuple #[.slice none 0 0, .int .i64 3]) ∧ Below w.heap.size w w' := by
  refine (done_any a n c l w hl).mono ?_
  rintro e w' ⟨rfl, h⟩
  exact ⟨by unfold DoneOut; rw [if_neg (by rw [hv]; simp)], h⟩

set_option maxHeartbeats 4000000 in
theorem bPair_form (pa : Option Addr) (pn pc : Nat) (qa : Option Addr) (qn qc : Nat) (p q : List Ins) (w : World) (hhP : InsRow w w.heap.size (.slice pa pn pc) p) (hhQ : InsRow w w.heap.size (.slice qa qn qc) q) (HV : Hid (allV [p, q] = false)) :
    Calls Try.prog 31 #[.slice pa pn pc, .slice qa qn qc] w (MadeOut w 1 (pairL p q)) := by
  have hP := Lib.hid hhP
  clear hhP
  have hQ := Lib.hid hhQ
  clear hhQ
  have ch := Lib.hid (Below.refl w.heap.size w)
  go_enter Try.func31, Try.ntmps31
  go_wp2_with fail
  have hL0 := ProgsRow.lit (w := w) [.slice pa pn pc, .slice qa qn qc] [p, q] rfl (by simp) (fun j u l hu hl => match j, u, l, hu, hl with | 0, _, _, hu, hl => by cases hu; cases hl; exact hP.out | 1, _, _, hu, hl => by cases hu; cases hl; exact hQ.out)
  obtain ⟨w1, hW⟩ : ∃ B, w.alloc (.cells #[.slice pa pn pc, .slice qa qn qc] 23) = B := ⟨_, rfl⟩
  rw [hW]
  have hq : Below w.heap.size w w1 := by rw [← hW]; exact (Below.refl _ _).alloc (Nat.le_refl _) _
  have hL := Lib.hid (show ProgsRow w1 w1.heap.size (.slice (some ⟨w.heap.size, 0, none⟩) 2 2) [p, q] by rw [← hW]; exact hL0)
  clear hW hL0
  have hP := Lib.hid ((hP.out.below hq).mono hq.size)
  have hQ := Lib.hid ((hQ.out.below hq).mono hq.size)
  have ch := Lib.hid (ch.out.trans (hq.mono ch.out.size))
  clear hq
  have kc := check_any _ _ _ hL.out
  rw [show CheckOut [p, q] = .tuple #[.int .i64 0, .int .i64 1] by unfold CheckOut; rw [if_pos HV.out]] at kc
  refine (kc).mono ?_
  rintro e w2 ⟨rfl, hq⟩
  have hP := Lib.hid ((hP.out.below hq).mono hq.size)
  have hQ := Lib.hid ((hQ.out.below hq).mono hq.size)
  have ch := Lib.hid (ch.out.trans (hq.mono ch.out.size))
  clear hq
  clear kc hL
  go_wp2
  refine bodyPost_ret (v := .tuple #[.slice none 0 0, .int .i64 1]) (by simp [results, Try.results31, go_sem]) rfl ?_
  exact MadeOut.bad (by decide) rfl ch.out

set_option maxHeartbeats 4000000 in
theorem bPair_regs (pa : Option Addr) (pn pc : Nat) (qa : Option Addr) (qn qc : Nat) (p q : List Ins) (w : World) (hhP : InsRow w w.heap.size (.slice pa pn pc) p) (hhQ : InsRow w w.heap.size (.slice qa qn qc) q) (HV : Hid (allV [p, q] = true)) (HR : Hid (28 < mostR [p, q])) :
    Calls Try.prog 31 #[.slice pa pn pc, .slice qa qn qc] w (MadeOut w 8 (pairL p q)) := by
  have hP := Lib.hid hhP
  clear hhP
  have hQ := Lib.hid hhQ
  clear hhQ
  have ch := Lib.hid (Below.refl w.heap.size w)
  go_enter Try.func31, Try.ntmps31
  go_wp2_with fail
  have hL0 := ProgsRow.lit (w := w) [.slice pa pn pc, .slice qa qn qc] [p, q] rfl (by simp) (fun j u l hu hl => match j, u, l, hu, hl with | 0, _, _, hu, hl => by cases hu; cases hl; exact hP.out | 1, _, _, hu, hl => by cases hu; cases hl; exact hQ.out)
  obtain ⟨w1, hW⟩ : ∃ B, w.alloc (.cells #[.slice pa pn pc, .slice qa qn qc] 23) = B := ⟨_, rfl⟩
  rw [hW]
  have hq : Below w.heap.size w w1 := by rw [← hW]; exact (Below.refl _ _).alloc (Nat.le_refl _) _
  have hL := Lib.hid (show ProgsRow w1 w1.heap.size (.slice (some ⟨w.heap.size, 0, none⟩) 2 2) [p, q] by rw [← hW]; exact hL0)
  clear hW hL0
  have hP := Lib.hid ((hP.out.below hq).mono hq.size)
  have hQ := Lib.hid ((hQ.out.below hq).mono hq.size)
  have ch := Lib.hid (ch.out.trans (hq.mono ch.out.size))
  clear hq
  have kc := check_any _ _ _ hL.out
  rw [show CheckOut [p, q] = .tuple #[.int .i64 0, .int .i64 8] by unfold CheckOut; rw [if_neg (by rw [HV.out]; simp), if_pos HR.out]] at kc
  refine (kc).mono ?_
  rintro e w2 ⟨rfl, hq⟩
  have hP := Lib.hid ((hP.out.below hq).mono hq.size)
  have hQ := Lib.hid ((hQ.out.below hq).mono hq.size)
  have ch := Lib.hid (ch.out.trans (hq.mono ch.out.size))
  clear hq
  clear kc hL
  go_wp2
  refine bodyPost_ret (v := .tuple #[.slice none 0 0, .int .i64 8]) (by simp [results, Try.results31, go_sem]) rfl ?_
  exact MadeOut.bad (by decide) rfl ch.out

set_option maxHeartbeats 4000000 in
theorem bPair_ok (pa : Option Addr) (pn pc : Nat) (qa : Option Addr) (qn qc : Nat) (p q : List Ins) (w : World) (hhP : InsRow w w.heap.size (.slice pa pn pc) p) (hhQ : InsRow w w.heap.size (.slice qa qn qc) q) (HV : Hid (allV [p, q] = true)) (n : Nat) (HN : Hid (mostR [p, q] = n)) (hn28 : n ≤ 28) (d : Int) (HD : Hid ((if validB (pairL p q) = true then 0 else 3) = d)) :
    Calls Try.prog 31 #[.slice pa pn pc, .slice qa qn qc] w (MadeOut w d (pairL p q)) := by
  have hP := Lib.hid hhP
  clear hhP
  have hQ := Lib.hid hhQ
  clear hhQ
  have ch := Lib.hid (Below.refl w.heap.size w)
  go_enter Try.func31, Try.ntmps31
  go_wp2_with fail
  have hL0 := ProgsRow.lit (w := w) [.slice pa pn pc, .slice qa qn qc] [p, q] rfl (by simp) (fun j u l hu hl => match j, u, l, hu, hl with | 0, _, _, hu, hl => by cases hu; cases hl; exact hP.out | 1, _, _, hu, hl => by cases hu; cases hl; exact hQ.out)
  obtain ⟨w1, hW⟩ : ∃ B, w.alloc (.cells #[.slice pa pn pc, .slice qa qn qc] 23) = B := ⟨_, rfl⟩
  rw [hW]
  have hq : Below w.heap.size w w1 := by rw [← hW]; exact (Below.refl _ _).alloc (Nat.le_refl _) _
  have hL := Lib.hid (show ProgsRow w1 w1.heap.size (.slice (some ⟨w.heap.size, 0, none⟩) 2 2) [p, q] by rw [← hW]; exact hL0)
  clear hW hL0
  have hP := Lib.hid ((hP.out.below hq).mono hq.size)
  have hQ := Lib.hid ((hQ.out.below hq).mono hq.size)
  have ch := Lib.hid (ch.out.trans (hq.mono ch.out.size))
  clear hq
  have kc := check_any _ _ _ hL.out
  rw [show CheckOut [p, q] = .tuple #[.int .i64 (n : Nat), .int .i64 0] by unfold CheckOut; rw [if_neg (by rw [HV.out]; simp), if_neg (by rw [HN.out]; omega), HN.out]] at kc
  refine (kc).mono ?_
  rintro e w2 ⟨rfl, hq⟩
  have hP := Lib.hid ((hP.out.below hq).mono hq.size)
  have hQ := Lib.hid ((hQ.out.below hq).mono hq.size)
  have ch := Lib.hid (ch.out.trans (hq.mono ch.out.size))
  clear hq
  clear kc hL
  have hvp := allV_get HV.out (k := 0) (l := p) rfl
  have hvq := allV_get HV.out (k := 1) (l := q) rfl
  have hp4 := validB_len hvp
  have hq4 := validB_len hvq
  have hmax : Hid (max (regN p) (regN q) = n) := Lib.hid (by have h1 := HN.out; have h2 := regN_le (validB_all hvp); unfold mostR at h1; simp at h1; omega)
  have s1 : IntKind.i64.wrap ((n : Int) + 1) = (n : Int) + 1 := IntWalk.i64_in _ (by omega)
  go_wp2_with fail
  refine (bmove_any (n : Nat) 0 _).mono ?_
  rintro e w3 ⟨rfl, hq⟩
  have hP := Lib.hid ((hP.out.below hq).mono hq.size)
  have hQ := Lib.hid ((hQ.out.below hq).mono hq.size)
  have ch := Lib.hid (ch.out.trans (hq.mono ch.out.size))
  clear hq
  go_wp2_with fail
  obtain ⟨w4, hW⟩ : ∃ B, w3.alloc (.cells #[.int .i64 1, .int .i64 (n : Nat), .int .i64 0, .int .i64 0, .string ⟨#[]⟩] 75) = B := ⟨_, rfl⟩
  rw [hW]
  have hq : Below w3.heap.size w3 w4 := by rw [← hW]; exact (Below.refl _ _).alloc (Nat.le_refl _) _
  have hM1 := Lib.hid (show InsRow w4 w4.heap.size (.slice (some ⟨w3.heap.size, 0, none⟩) 1 1) [moveI n 0] by rw [← hW]; exact (OwnI.lit w3 [moveI n 0] (by simp; exact moveI_wf _ _ (by omega) (by omega)) (by simp)).row (by simp))
  clear hW
  have hP := Lib.hid ((hP.out.below hq).mono hq.size)
  have hQ := Lib.hid ((hQ.out.below hq).mono hq.size)
  have ch := Lib.hid (ch.out.trans (hq.mono ch.out.size))
  clear hq
  refine (bmove_any ((n : Int) + 1) 0 _).mono ?_
  rintro e w5 ⟨rfl, hq⟩
  have hP := Lib.hid ((hP.out.below hq).mono hq.size)
  have hQ := Lib.hid ((hQ.out.below hq).mono hq.size)
  have hM1 := Lib.hid ((hM1.out.below hq).mono hq.size)
  have ch := Lib.hid (ch.out.trans (hq.mono ch.out.size))
  clear hq
  go_wp2_with fail
  refine (bmove_any 0 (n : Nat) _).mono ?_
  rintro e w6 ⟨rfl, hq⟩
  have hP := Lib.hid ((hP.out.below hq).mono hq.size)
  have hQ := Lib.hid ((hQ.out.below hq).mono hq.size)
  have hM1 := Lib.hid ((hM1.out.below hq).mono hq.size)
  have ch := Lib.hid (ch.out.trans (hq.mono ch.out.size))
  clear hq
  go_wp2_with fail
  obtain ⟨w7, hW⟩ : ∃ B, w6.alloc (.cells #[.int .i64 1, .int .i64 ((n : Int) + 1), .int .i64 0, .int .i64 0, .string ⟨#[]⟩, .int .i64 1, .int .i64 0, .int .i64 (n : Nat), .int .i64 0, .string ⟨#[]⟩] 75) = B := ⟨_, rfl⟩
  rw [hW]
  have hq : Below w6.heap.size w6 w7 := by rw [← hW]; exact (Below.refl _ _).alloc (Nat.le_refl _) _
  have hM2 := Lib.hid (show InsRow w7 w7.heap.size (.slice (some ⟨w6.heap.size, 0, none⟩) 2 2) [moveI (n + 1) 0, moveI 0 n] by rw [← hW]; exact (OwnI.lit w6 [moveI (n + 1) 0, moveI 0 n] (by simp; exact ⟨moveI_wf _ _ (by omega) (by omega), moveI_wf _ _ (by omega) (by omega)⟩) (by simp)).row (by simp))
  clear hW
  have hP := Lib.hid ((hP.out.below hq).mono hq.size)
  have hQ := Lib.hid ((hQ.out.below hq).mono hq.size)
  have hM1 := Lib.hid ((hM1.out.below hq).mono hq.size)
  have ch := Lib.hid (ch.out.trans (hq.mono ch.out.size))
  clear hq
  refine (fresh_len _ q _ hQ.out hvq).mono ?_
  rintro e w8 ⟨fa, fk, fc, rfl, hfk, hF, hq⟩
  have hP := Lib.hid ((hP.out.below hq).mono hq.size)
  have hQ := Lib.hid ((hQ.out.below hq).mono hq.size)
  have hM1 := Lib.hid ((hM1.out.below hq).mono hq.size)
  have hM2 := Lib.hid ((hM2.out.below hq).mono hq.size)
  have ch := Lib.hid (ch.out.trans (hq.mono ch.out.size))
  clear hq
  have hF := Lib.hid hF
  go_wp2_with fail
  have hL0 := ProgsRow.lit (w := w8) [.slice (some ⟨w3.heap.size, 0, none⟩) 1 1, .slice pa pn pc, .slice (some ⟨w6.heap.size, 0, none⟩) 2 2, .slice fa fk fc] [[moveI n 0], p, [moveI (n + 1) 0, moveI 0 n], cleanP q] rfl (by simp) (fun j u l hu hl => match j, u, l, hu, hl with | 0, _, _, hu, hl => by cases hu; cases hl; exact hM1.out | 1, _, _, hu, hl => by cases hu; cases hl; exact hP.out | 2, _, _, hu, hl => by cases hu; cases hl; exact hM2.out | 3, _, _, hu, hl => by cases hu; cases hl; exact hF.out)
  obtain ⟨w9, hW⟩ : ∃ B, w8.alloc (.cells #[.slice (some ⟨w3.heap.size, 0, none⟩) 1 1, .slice pa pn pc, .slice (some ⟨w6.heap.size, 0, none⟩) 2 2, .slice fa fk fc] 23) = B := ⟨_, rfl⟩
  rw [hW]
  have hq : Below w8.heap.size w8 w9 := by rw [← hW]; exact (Below.refl _ _).alloc (Nat.le_refl _) _
  have hL := Lib.hid (show ProgsRow w9 w9.heap.size (.slice (some ⟨w8.heap.size, 0, none⟩) 4 4) [[moveI n 0], p, [moveI (n + 1) 0, moveI 0 n], cleanP q] by rw [← hW]; exact hL0)
  clear hW hL0
  have hP := Lib.hid ((hP.out.below hq).mono hq.size)
  have hQ := Lib.hid ((hQ.out.below hq).mono hq.size)
  have hM1 := Lib.hid ((hM1.out.below hq).mono hq.size)
  have hM2 := Lib.hid ((hM2.out.below hq).mono hq.size)
  have hF := Lib.hid ((hF.out.below hq).mono hq.size)
  have ch := Lib.hid (ch.out.trans (hq.mono ch.out.size))
  clear hq
  have q_hP := hP
  have q_hQ := hQ
  have q_hM1 := hM1
  have q_hM2 := hM2
  have q_hF := hF
  have rl := Lib.hid (Below.refl w9.heap.size w9)
  refine (concat_len _ _ _ hL.out (by simp [lenS, cleanP_length]; have := hfk.out; omega)).mono ?_
  rintro e w10 ⟨ca, ck, cc, rfl, hck, ho, hq⟩
  have hP := Lib.hid ((hP.out.below hq).mono hq.size)
  have hQ := Lib.hid ((hQ.out.below hq).mono hq.size)
  have hM1 := Lib.hid ((hM1.out.below hq).mono hq.size)
  have hM2 := Lib.hid ((hM2.out.below hq).mono hq.size)
  have hF := Lib.hid ((hF.out.below hq).mono hq.size)
  have rl := Lib.hid (rl.out.trans (hq.mono rl.out.size))
  clear hq
  have ho := Lib.hid ho
  have ho0 := ho.out
  have hb0 := rl.out
  go_wp2_with (at_builtin; refine app_lit rfl _ _ rfl (v := .slice ca ck cc) (n := 1) [consI 0 (n + 1) 0] rfl ho0 rfl rfl ?c1 ?c2 hb0 ?_)
  case c1 => simp; exact consI_wf _ _ _ (by omega) (by omega) (by omega)
  case c2 => simp [cleanP_length]; have := hfk.out; omega
  clear ho0 hb0 ho
  intro a11 k11 s11 w11 hk11 ho hb
  have rl := hb
  clear hb
  have hP := Lib.hid ((q_hP.out.below rl.out).mono rl.out.size)
  have hQ := Lib.hid ((q_hQ.out.below rl.out).mono rl.out.size)
  have hM1 := Lib.hid ((q_hM1.out.below rl.out).mono rl.out.size)
  have hM2 := Lib.hid ((q_hM2.out.below rl.out).mono rl.out.size)
  have hF := Lib.hid ((q_hF.out.below rl.out).mono rl.out.size)
  have heq : pairL p q = [[moveI n 0], p, [moveI (n + 1) 0, moveI 0 n], cleanP q].flatten ++ [consI 0 (n + 1) 0] := by unfold pairL; simp only [hmax.out]; simp
  have hrow := Lib.hid (show InsRow _ _ (.slice a11 k11 s11) (pairL p q) by rw [heq]; have h9 := ho.out.row (by simp [cleanP_length]; have := hfk.out; omega); simpa using h9)
  clear heq
  cases hvm : validB (pairL p q)
  · have HM := Lib.hid (hrow.out)
    go_wp2_with fail
    refine (done_bad _ _ _ _ _ HM.out hvm).mono ?_
    rintro e w12 ⟨rfl, hq⟩
    have hP := Lib.hid ((hP.out.below hq).mono hq.size)
    have hQ := Lib.hid ((hQ.out.below hq).mono hq.size)
    have hM1 := Lib.hid ((hM1.out.below hq).mono hq.size)
    have hM2 := Lib.hid ((hM2.out.below hq).mono hq.size)
    have hF := Lib.hid ((hF.out.below hq).mono hq.size)
    have HM := Lib.hid ((HM.out.below hq).mono hq.size)
    have rl := Lib.hid (rl.out.trans (hq.mono rl.out.size))
    clear hq
    go_wp2
    have hch := ch.out.trans (rl.out.mono ch.out.size)
    refine bodyPost_ret (v := .tuple #[.slice none 0 0, .int .i64 3]) (by simp [results, Try.results31, go_sem]) rfl ?_
    rw [← HD.out, hvm, if_neg (by simp)]
    exact MadeOut.bad (by decide) rfl hch
  · have HM := Lib.hid (hrow.out)
    go_wp2_with fail
    refine (done_ok _ _ _ _ _ HM.out hvm).mono ?_
    rintro e w12 ⟨rfl, hq⟩
    have hP := Lib.hid ((hP.out.below hq).mono hq.size)
    have hQ := Lib.hid ((hQ.out.below hq).mono hq.size)
    have hM1 := Lib.hid ((hM1.out.below hq).mono hq.size)
    have hM2 := Lib.hid ((hM2.out.below hq).mono hq.size)
    have hF := Lib.hid ((hF.out.below hq).mono hq.size)
    have HM := Lib.hid ((HM.out.below hq).mono hq.size)
    have rl := Lib.hid (rl.out.trans (hq.mono rl.out.size))
    clear hq
    go_wp2
    have hch := ch.out.trans (rl.out.mono ch.out.size)
    refine bodyPost_ret (v := .tuple #[.slice a11 k11 s11, .int .i64 0]) (by simp [results, Try.results31, go_sem]) rfl ?_
    rw [← HD.out, hvm, if_pos rfl]
    exact MadeOut.ok rfl rfl HM.out hch

theorem bPair_any (pa : Option Addr) (pn pc : Nat) (qa : Option Addr) (qn qc : Nat) (p q : List Ins) (w : World) (hhP : InsRow w w.heap.size (.slice pa pn pc) p) (hhQ : InsRow w w.heap.size (.slice qa qn qc) q) : Calls Try.prog 31 #[.slice pa pn pc, .slice qa qn qc] w (MadeOut w (dueN [p, q] (pairL p q)) (pairL p q)) := by
  unfold dueN
  cases hv : allV [p, q] with
  | false => rw [if_pos rfl]; exact bPair_form pa pn pc qa qn qc p q w hhP hhQ (Lib.hid hv)
  | true =>
    rw [if_neg (by simp)]
    by_cases hr : 28 < mostR [p, q]
    · rw [if_pos hr]; exact bPair_regs pa pn pc qa qn qc p q w hhP hhQ (Lib.hid hv) (Lib.hid hr)
    · rw [if_neg hr]; exact bPair_ok pa pn pc qa qn qc p q w hhP hhQ (Lib.hid hv) _ (Lib.hid rfl) (by omega) _ (Lib.hid rfl)

theorem leap_len (r : Nat) (hr : r ≤ 1000) (p : Int) (hp : i64 p) (w : World) :
    Calls Try.prog 76 #[.int .i64 r, .int .i64 p] w fun e w' => ∃ a c, e = .returned (.slice a 2 c) ∧ InsRow w' w'.heap.size (.slice a 2 c) [setI r ⟨#[49, 48, 48]⟩, jumpI r p] ∧ Below w.heap.size w w' := by
  refine (leap_any r hr p hp w).mono ?_
  rintro e w' ⟨v', rfl, h1, h2⟩
  obtain ⟨a, c, rfl⟩ := h1.len
  exact ⟨a, c, rfl, h1, h2⟩

set_option maxHeartbeats 4000000 in
theorem bIf_form (ca0 : Option Addr) (cn0 cc0 : Nat) (pa : Option Addr) (pn pc : Nat) (qa : Option Addr) (qn qc : Nat) (c p q : List Ins) (w : World) (hhC : InsRow w w.heap.size (.slice ca0 cn0 cc0) c) (hhP : InsRow w w.heap.size (.slice pa pn pc) p) (hhQ : InsRow w w.heap.size (.slice qa qn qc) q) (HV : Hid (allV [c, p, q] = false)) :
    Calls Try.prog 32 #[.slice ca0 cn0 cc0, .slice pa pn pc, .slice qa qn qc] w (MadeOut w 1 (ifL c p q)) := by
  have hC := Lib.hid hhC
  clear hhC
  have hP := Lib.hid hhP
  clear hhP
  have hQ := Lib.hid hhQ
  clear hhQ
  have ch := Lib.hid (Below.refl w.heap.size w)
  go_enter Try.func32, Try.ntmps32
  go_wp2_with fail
  have hL0 := ProgsRow.lit (w := w) [.slice ca0 cn0 cc0, .slice pa pn pc, .slice qa qn qc] [c, p, q] rfl (by simp) (fun j u l hu hl => match j, u, l, hu, hl with | 0, _, _, hu, hl => by cases hu; cases hl; exact hC.out | 1, _, _, hu, hl => by cases hu; cases hl; exact hP.out | 2, _, _, hu, hl => by cases hu; cases hl; exact hQ.out)
  obtain ⟨w1, hW⟩ : ∃ B, w.alloc (.cells #[.slice ca0 cn0 cc0, .slice pa pn pc, .slice qa qn qc] 23) = B := ⟨_, rfl⟩
  rw [hW]
  have hq : Below w.heap.size w w1 := by rw [← hW]; exact (Below.refl _ _).alloc (Nat.le_refl _) _
  have hL := Lib.hid (show ProgsRow w1 w1.heap.size (.slice (some ⟨w.heap.size, 0, none⟩) 3 3) [c, p, q] by rw [← hW]; exact hL0)
  clear hW hL0
  have hC := Lib.hid ((hC.out.below hq).mono hq.size)
  have hP := Lib.hid ((hP.out.below hq).mono hq.size)
  have hQ := Lib.hid ((hQ.out.below hq).mono hq.size)
  have ch := Lib.hid (ch.out.trans (hq.mono ch.out.size))
  clear hq
  have kc := check_any _ _ _ hL.out
  rw [show CheckOut [c, p, q] = .tuple #[.int .i64 0, .int .i64 1] by unfold CheckOut; rw [if_pos HV.out]] at kc
  refine (kc).mono ?_
  rintro e w2 ⟨rfl, hq⟩
  have hC := Lib.hid ((hC.out.below hq).mono hq.size)
  have hP := Lib.hid ((hP.out.below hq).mono hq.size)
  have hQ := Lib.hid ((hQ.out.below hq).mono hq.size)
  have ch := Lib.hid (ch.out.trans (hq.mono ch.out.size))
  clear hq
  clear kc hL
  go_wp2
  refine bodyPost_ret (v := .tuple #[.slice none 0 0, .int .i64 1]) (by simp [results, Try.results32, go_sem]) rfl ?_
  exact MadeOut.bad (by decide) rfl ch.out

set_option maxHeartbeats 4000000 in
theorem bIf_regs (ca0 : Option Addr) (cn0 cc0 : Nat) (pa : Option Addr) (pn pc : Nat) (qa : Option Addr) (qn qc : Nat) (c p q : List Ins) (w : World) (hhC : InsRow w w.heap.size (.slice ca0 cn0 cc0) c) (hhP : InsRow w w.heap.size (.slice pa pn pc) p) (hhQ : InsRow w w.heap.size (.slice qa qn qc) q) (HV : Hid (allV [c, p, q] = true)) (HR : Hid (28 < mostR [c, p, q])) :
    Calls Try.prog 32 #[.slice ca0 cn0 cc0, .slice pa pn pc, .slice qa qn qc] w (MadeOut w 8 (ifL c p q)) := by
  have hC := Lib.hid hhC
  clear hhC
  have hP := Lib.hid hhP
  clear hhP
  have hQ := Lib.hid hhQ
  clear hhQ
  have ch := Lib.hid (Below.refl w.heap.size w)
  go_enter Try.func32, Try.ntmps32
  go_wp2_with fail
  have hL0 := ProgsRow.lit (w := w) [.slice ca0 cn0 cc0, .slice pa pn pc, .slice qa qn qc] [c, p, q] rfl (by simp) (fun j u l hu hl => match j, u, l, hu, hl with | 0, _, _, hu, hl => by cases hu; cases hl; exact hC.out | 1, _, _, hu, hl => by cases hu; cases hl; exact hP.out | 2, _, _, hu, hl => by cases hu; cases hl; exact hQ.out)
  obtain ⟨w1, hW⟩ : ∃ B, w.alloc (.cells #[.slice ca0 cn0 cc0, .slice pa pn pc, .slice qa qn qc] 23) = B := ⟨_, rfl⟩
  rw [hW]
  have hq : Below w.heap.size w w1 := by rw [← hW]; exact (Below.refl _ _).alloc (Nat.le_refl _) _
  have hL := Lib.hid (show ProgsRow w1 w1.heap.size (.slice (some ⟨w.heap.size, 0, none⟩) 3 3) [c, p, q] by rw [← hW]; exact hL0)
  clear hW hL0
  have hC := Lib.hid ((hC.out.below hq).mono hq.size)
  have hP := Lib.hid ((hP.out.below hq).mono hq.size)
  have hQ := Lib.hid ((hQ.out.below hq).mono hq.size)
  have ch := Lib.hid (ch.out.trans (hq.mono ch.out.size))
  clear hq
  have kc := check_any _ _ _ hL.out
  rw [show CheckOut [c, p, q] = .tuple #[.int .i64 0, .int .i64 8] by unfold CheckOut; rw [if_neg (by rw [HV.out]; simp), if_pos HR.out]] at kc
  refine (kc).mono ?_
  rintro e w2 ⟨rfl, hq⟩
  have hC := Lib.hid ((hC.out.below hq).mono hq.size)
  have hP := Lib.hid ((hP.out.below hq).mono hq.size)
  have hQ := Lib.hid ((hQ.out.below hq).mono hq.size)
  have ch := Lib.hid (ch.out.trans (hq.mono ch.out.size))
  clear hq
  clear kc hL
  go_wp2
  refine bodyPost_ret (v := .tuple #[.slice none 0 0, .int .i64 8]) (by simp [results, Try.results32, go_sem]) rfl ?_
  exact MadeOut.bad (by decide) rfl ch.out

set_option maxHeartbeats 4000000 in
theorem bIf_ok (ca0 : Option Addr) (cn0 cc0 : Nat) (pa : Option Addr) (pn pc : Nat) (qa : Option Addr) (qn qc : Nat) (c p q : List Ins) (w : World) (hhC : InsRow w w.heap.size (.slice ca0 cn0 cc0) c) (hhP : InsRow w w.heap.size (.slice pa pn pc) p) (hhQ : InsRow w w.heap.size (.slice qa qn qc) q) (HV : Hid (allV [c, p, q] = true)) (n : Nat) (HN : Hid (mostR [c, p, q] = n)) (hn28 : n ≤ 28) (d : Int) (HD : Hid ((if validB (ifL c p q) = true then 0 else 3) = d)) :
    Calls Try.prog 32 #[.slice ca0 cn0 cc0, .slice pa pn pc, .slice qa qn qc] w (MadeOut w d (ifL c p q)) := by
  have hC := Lib.hid hhC
  clear hhC
  have hP := Lib.hid hhP
  clear hhP
  have hQ := Lib.hid hhQ
  clear hhQ
  have ch := Lib.hid (Below.refl w.heap.size w)
  go_enter Try.func32, Try.ntmps32
  go_wp2_with fail
  have hL0 := ProgsRow.lit (w := w) [.slice ca0 cn0 cc0, .slice pa pn pc, .slice qa qn qc] [c, p, q] rfl (by simp) (fun j u l hu hl => match j, u, l, hu, hl with | 0, _, _, hu, hl => by cases hu; cases hl; exact hC.out | 1, _, _, hu, hl => by cases hu; cases hl; exact hP.out | 2, _, _, hu, hl => by cases hu; cases hl; exact hQ.out)
  obtain ⟨w1, hW⟩ : ∃ B, w.alloc (.cells #[.slice ca0 cn0 cc0, .slice pa pn pc, .slice qa qn qc] 23) = B := ⟨_, rfl⟩
  rw [hW]
  have hq : Below w.heap.size w w1 := by rw [← hW]; exact (Below.refl _ _).alloc (Nat.le_refl _) _
  have hL := Lib.hid (show ProgsRow w1 w1.heap.size (.slice (some ⟨w.heap.size, 0, none⟩) 3 3) [c, p, q] by rw [← hW]; exact hL0)
  clear hW hL0
  have hC := Lib.hid ((hC.out.below hq).mono hq.size)
  have hP := Lib.hid ((hP.out.below hq).mono hq.size)
  have hQ := Lib.hid ((hQ.out.below hq).mono hq.size)
  have ch := Lib.hid (ch.out.trans (hq.mono ch.out.size))
  clear hq
  have kc := check_any _ _ _ hL.out
  rw [show CheckOut [c, p, q] = .tuple #[.int .i64 (n : Nat), .int .i64 0] by unfold CheckOut; rw [if_neg (by rw [HV.out]; simp), if_neg (by rw [HN.out]; omega), HN.out]] at kc
  refine (kc).mono ?_
  rintro e w2 ⟨rfl, hq⟩
  have hC := Lib.hid ((hC.out.below hq).mono hq.size)
  have hP := Lib.hid ((hP.out.below hq).mono hq.size)
  have hQ := Lib.hid ((hQ.out.below hq).mono hq.size)
  have ch := Lib.hid (ch.out.trans (hq.mono ch.out.size))
  clear hq
  clear kc hL
  have hvc := allV_get HV.out (k := 0) (l := c) rfl
  have hvp := allV_get HV.out (k := 1) (l := p) rfl
  have hvq := allV_get HV.out (k := 2) (l := q) rfl
  have hc4 := validB_len hvc
  have hp4 := validB_len hvp
  have hq4 := validB_len hvq
  have hmax : Hid (max (regN c) (max (regN p) (regN q)) = n) := Lib.hid (by have h1 := HN.out; have h2 := regN_le (validB_all hvp); unfold mostR at h1; simp at h1; omega)
  go_wp2_with fail
  refine (bmove_any 0 (n : Nat) _).mono ?_
  rintro e w3 ⟨rfl, hq⟩
  have hC := Lib.hid ((hC.out.below hq).mono hq.size)
  have hP := Lib.hid ((hP.out.below hq).mono hq.size)
  have hQ := Lib.hid ((hQ.out.below hq).mono hq.size)
  have ch := Lib.hid (ch.out.trans (hq.mono ch.out.size))
  clear hq
  go_wp2_with fail
  have q_hC := hC
  have q_hP := hP
  have q_hQ := hQ
  have rl := Lib.hid (Below.refl w3.heap.size w3)
  obtain ⟨w4, hW⟩ : ∃ B, w3.alloc (.cells #[.int .i64 1, .int .i64 0, .int .i64 (n : Nat), .int .i64 0, .string ⟨#[]⟩] 75) = B := ⟨_, rfl⟩
  rw [hW]
  have hq : Below w3.heap.size w3 w4 := by rw [← hW]; exact (Below.refl _ _).alloc (Nat.le_refl _) _
  have hy := Lib.hid (show OwnI w4 w3.heap.size (.slice (some ⟨w3.heap.size, 0, none⟩) 1 1) [moveI 0 n] by rw [← hW]; exact OwnI.lit w3 [moveI 0 n] (by simp; exact moveI_wf _ _ (by omega) (by omega)) (by simp))
  clear hW
  have hC := Lib.hid ((hC.out.below hq).mono hq.size)
  have hP := Lib.hid ((hP.out.below hq).mono hq.size)
  have hQ := Lib.hid ((hQ.out.below hq).mono hq.size)
  have rl := Lib.hid (rl.out.trans (hq.mono rl.out.size))
  clear hq
  refine (fresh_len _ p _ hP.out hvp).mono ?_
  rintro e w5 ⟨fa, fk, fc, rfl, hfk, hF, hq⟩
  have hC := Lib.hid ((hC.out.below hq).mono hq.size)
  have hP := Lib.hid ((hP.out.below hq).mono hq.size)
  have hQ := Lib.hid ((hQ.out.below hq).mono hq.size)
  have hy := Lib.hid (hy.out.below hq)
  have rl := Lib.hid (rl.out.trans (hq.mono rl.out.size))
  clear hq
  have hF := Lib.hid hF
  have ho0 := hy.out
  have hb0 := rl.out
  have hs0 := hF.out
  go_wp2_with (at_builtin; refine app_row rfl _ _ rfl (v := .slice (some ⟨w3.heap.size, 0, none⟩) 1 1) (vx := .slice fa fk fc) rfl ho0 rfl hs0 ?c2 hb0 ?_)
  case c2 => have := hfk.out; simp [cleanP_length]; omega
  clear ho0 hb0 hs0 hy
  intro a6 k6 s6 w6 hk6 hy hb
  have rl := hb
  clear hb
  have hC := Lib.hid ((q_hC.out.below rl.out).mono rl.out.size)
  have hP := Lib.hid ((q_hP.out.below rl.out).mono rl.out.size)
  have hQ := Lib.hid ((q_hQ.out.below rl.out).mono rl.out.size)
  clear hF
  have ch := Lib.hid (ch.out.trans (rl.out.mono ch.out.size))
  have hYes := Lib.hid (hy.out.row (by have := hfk.out; simp [cleanP_length]; omega))
  have hky : Hid (k6 = 1 + (mostN p + p.length)) := Lib.hid (by have h8 := hk6.out; simp [cleanP_length] at h8; omega)
  have hkyI : (k6 : Int) ≤ 5000 := by have := hky.out; have := hfk.out; omega
  have hky0 : (0 : Int) ≤ (k6 : Int) := Int.natCast_nonneg _
  go_wp2_with fail
  refine (bmove_any 0 (n : Nat) _).mono ?_
  rintro e w7 ⟨rfl, hq⟩
  have hC := Lib.hid ((hC.out.below hq).mono hq.size)
  have hP := Lib.hid ((hP.out.below hq).mono hq.size)
  have hQ := Lib.hid ((hQ.out.below hq).mono hq.size)
  have hYes := Lib.hid ((hYes.out.below hq).mono hq.size)
  have ch := Lib.hid (ch.out.trans (hq.mono ch.out.size))
  clear hq
  go_wp2_with fail
  obtain ⟨w8, hW⟩ : ∃ B, w7.alloc (.cells #[.int .i64 1, .int .i64 0, .int .i64 (n : Nat), .int .i64 0, .string ⟨#[]⟩] 75) = B := ⟨_, rfl⟩
  rw [hW]
  have hq : Below w7.heap.size w7 w8 := by rw [← hW]; exact (Below.refl _ _).alloc (Nat.le_refl _) _
  have hM1 := Lib.hid (show InsRow w8 w8.heap.size (.slice (some ⟨w7.heap.size, 0, none⟩) 1 1) [moveI 0 n] by rw [← hW]; exact (OwnI.lit w7 [moveI 0 n] (by simp; exact moveI_wf _ _ (by omega) (by omega)) (by simp)).row (by simp))
  clear hW
  have hC := Lib.hid ((hC.out.below hq).mono hq.size)
  have hP := Lib.hid ((hP.out.below hq).mono hq.size)
  have hQ := Lib.hid ((hQ.out.below hq).mono hq.size)
  have hYes := Lib.hid ((hYes.out.below hq).mono hq.size)
  have ch := Lib.hid (ch.out.trans (hq.mono ch.out.size))
  clear hq
  refine (fresh_len _ q _ hQ.out hvq).mono ?_
  rintro e w9 ⟨ga, gk, gc, rfl, hgk, hG, hq⟩
  have hC := Lib.hid ((hC.out.below hq).mono hq.size)
  have hP := Lib.hid ((hP.out.below hq).mono hq.size)
  have hQ := Lib.hid ((hQ.out.below hq).mono hq.size)
  have hYes := Lib.hid ((hYes.out.below hq).mono hq.size)
  have hM1 := Lib.hid ((hM1.out.below hq).mono hq.size)
  have ch := Lib.hid (ch.out.trans (hq.mono ch.out.size))
  clear hq
  have hG := Lib.hid hG
  go_wp2_with fail
  refine (leap_len (n : Nat) (by omega) (1 + (k6 : Int)) (by unfold i64; omega) _).mono ?_
  rintro e w10 ⟨la, lc, rfl, hLp, hq⟩
  have hC := Lib.hid ((hC.out.below hq).mono hq.size)
  have hP := Lib.hid ((hP.out.below hq).mono hq.size)
  have hQ := Lib.hid ((hQ.out.below hq).mono hq.size)
  have hYes := Lib.hid ((hYes.out.below hq).mono hq.size)
  have hM1 := Lib.hid ((hM1.out.below hq).mono hq.size)
  have hG := Lib.hid ((hG.out.below hq).mono hq.size)
  have ch := Lib.hid (ch.out.trans (hq.mono ch.out.size))
  clear hq
  have hLp := Lib.hid hLp
  go_wp2_with fail
  have hL0 := ProgsRow.lit (w := w10) [.slice (some ⟨w7.heap.size, 0, none⟩) 1 1, .slice ga gk gc, .slice la 2 lc] [[moveI 0 n], cleanP q, [setI n ⟨#[49, 48, 48]⟩, jumpI n (1 + (k6 : Int))]] rfl (by simp) (fun j u l hu hl => match j, u, l, hu, hl with | 0, _, _, hu, hl => by cases hu; cases hl; exact hM1.out | 1, _, _, hu, hl => by cases hu; cases hl; exact hG.out | 2, _, _, hu, hl => by cases hu; cases hl; exact hLp.out)
  obtain ⟨w11, hW⟩ : ∃ B, w10.alloc (.cells #[.slice (some ⟨w7.heap.size, 0, none⟩) 1 1, .slice ga gk gc, .slice la 2 lc] 23) = B := ⟨_, rfl⟩
  rw [hW]
  have hq : Below w10.heap.size w10 w11 := by rw [← hW]; exact (Below.refl _ _).alloc (Nat.le_refl _) _
  have hL := Lib.hid (show ProgsRow w11 w11.heap.size (.slice (some ⟨w10.heap.size, 0, none⟩) 3 3) [[moveI 0 n], cleanP q, [setI n ⟨#[49, 48, 48]⟩, jumpI n (1 + (k6 : Int))]] by rw [← hW]; exact hL0)
  clear hW hL0
  have hC := Lib.hid ((hC.out.below hq).mono hq.size)
  have hP := Lib.hid ((hP.out.below hq).mono hq.size)
  have hQ := Lib.hid ((hQ.out.below hq).mono hq.size)
  have hYes := Lib.hid ((hYes.out.below hq).mono hq.size)
  have hM1 := Lib.hid ((hM1.out.below hq).mono hq.size)
  have hG := Lib.hid ((hG.out.below hq).mono hq.size)
  have hLp := Lib.hid ((hLp.out.below hq).mono hq.size)
  have ch := Lib.hid (ch.out.trans (hq.mono ch.out.size))
  clear hq
  have q_hC := hC
  have q_hP := hP
  have q_hQ := hQ
  have q_hYes := hYes
  have q_hM1 := hM1
  have q_hG := hG
  have q_hLp := hLp
  have rl := Lib.hid (Below.refl w11.heap.size w11)
  refine (concat_len _ _ _ hL.out (by simp [lenS, cleanP_length]; have := hgk.out; omega)).mono ?_
  rintro e w12 ⟨ca, ck, cc, rfl, hck, ho, hq⟩
  have hC := Lib.hid ((hC.out.below hq).mono hq.size)
  have hP := Lib.hid ((hP.out.below hq).mono hq.size)
  have hQ := Lib.hid ((hQ.out.below hq).mono hq.size)
  have hYes := Lib.hid ((hYes.out.below hq).mono hq.size)
  have hM1 := Lib.hid ((hM1.out.below hq).mono hq.size)
  have hG := Lib.hid ((hG.out.below hq).mono hq.size)
  have hLp := Lib.hid ((hLp.out.below hq).mono hq.size)
  have rl := Lib.hid (rl.out.trans (hq.mono rl.out.size))
  clear hq
  have ho := Lib.hid ho
  have ch := Lib.hid (ch.out.trans (rl.out.mono ch.out.size))
  have hkn : Hid (ck = 3 + (mostN q + q.length)) := Lib.hid (by have h8 := hck.out; simp [lenS, cleanP_length] at h8; omega)
  have hknI : (ck : Int) ≤ 5000 := by have := hkn.out; have := hgk.out; omega
  have hkn0 : (0 : Int) ≤ (ck : Int) := Int.natCast_nonneg _
  have hNo := Lib.hid (ho.out.row (by simp [cleanP_length]; have := hgk.out; omega))
  go_wp2_with fail
  refine (bmove_any (n : Nat) 0 _).mono ?_
  rintro e w13 ⟨rfl, hq⟩
  have hC := Lib.hid ((hC.out.below hq).mono hq.size)
  have hP := Lib.hid ((hP.out.below hq).mono hq.size)
  have hQ := Lib.hid ((hQ.out.below hq).mono hq.size)
  have hYes := Lib.hid ((hYes.out.below hq).mono hq.size)
  have hM1 := Lib.hid ((hM1.out.below hq).mono hq.size)
  have hG := Lib.hid ((hG.out.below hq).mono hq.size)
  have hLp := Lib.hid ((hLp.out.below hq).mono hq.size)
  have hNo := Lib.hid ((hNo.out.below hq).mono hq.size)
  have ch := Lib.hid (ch.out.trans (hq.mono ch.out.size))
  clear hq
  go_wp2_with fail
  obtain ⟨w14, hW⟩ : ∃ B, w13.alloc (.cells #[.int .i64 1, .int .i64 (n : Nat), .int .i64 0, .int .i64 0, .string ⟨#[]⟩] 75) = B := ⟨_, rfl⟩
  rw [hW]
  have hq : Below w13.heap.size w13 w14 := by rw [← hW]; exact (Below.refl _ _).alloc (Nat.le_refl _) _
  have hA1 := Lib.hid (show InsRow w14 w14.heap.size (.slice (some ⟨w13.heap.size, 0, none⟩) 1 1) [moveI n 0] by rw [← hW]; exact (OwnI.lit w13 [moveI n 0] (by simp; exact moveI_wf _ _ (by omega) (by omega)) (by simp)).row (by simp))
  have hz_w14 : w14.heap.size = w13.heap.size + 1 := by rw [← hW]; simp
  clear hW
  have hC := Lib.hid ((hC.out.below hq).mono hq.size)
  have hP := Lib.hid ((hP.out.below hq).mono hq.size)
  have hQ := Lib.hid ((hQ.out.below hq).mono hq.size)
  have hYes := Lib.hid ((hYes.out.below hq).mono hq.size)
  have hM1 := Lib.hid ((hM1.out.below hq).mono hq.size)
  have hG := Lib.hid ((hG.out.below hq).mono hq.size)
  have hLp := Lib.hid ((hLp.out.below hq).mono hq.size)
  have hNo := Lib.hid ((hNo.out.below hq).mono hq.size)
  have ch := Lib.hid (ch.out.trans (hq.mono ch.out.size))
  clear hq
  obtain ⟨w15, hW⟩ : ∃ B, w14.alloc (.cells #[.int .i64 5, .int .i64 0, .int .i64 (1 + (ck : Int)), .int .i64 0, .string ⟨#[]⟩] 75) = B := ⟨_, rfl⟩
  rw [hW]
  have hq : Below w14.heap.size w14 w15 := by rw [← hW]; exact (Below.refl _ _).alloc (Nat.le_refl _) _
  have hJ := Lib.hid (show InsRow w15 w15.heap.size (.slice (some ⟨w13.heap.size + 1, 0, none⟩) 1 1) [jumpI 0 (1 + (ck : Int))] by rw [← hz_w14, ← hW]; exact (OwnI.lit w14 [jumpI 0 (1 + (ck : Int))] (by simp; exact jumpI_wf _ _ (by omega) (by omega)) (by simp)).row (by simp))
  have hz_w15 : w15.heap.size = w13.heap.size + 1 + 1 := by rw [← hW]; simp [hz_w14]
  clear hW
  have hC := Lib.hid ((hC.out.below hq).mono hq.size)
  have hP := Lib.hid ((hP.out.below hq).mono hq.size)
  have hQ := Lib.hid ((hQ.out.below hq).mono hq.size)
  have hYes := Lib.hid ((hYes.out.below hq).mono hq.size)
  have hM1 := Lib.hid ((hM1.out.below hq).mono hq.size)
  have hG := Lib.hid ((hG.out.below hq).mono hq.size)
  have hLp := Lib.hid ((hLp.out.below hq).mono hq.size)
  have hNo := Lib.hid ((hNo.out.below hq).mono hq.size)
  have hA1 := Lib.hid ((hA1.out.below hq).mono hq.size)
  have ch := Lib.hid (ch.out.trans (hq.mono ch.out.size))
  clear hq
  have hL20 := ProgsRow.lit (w := w15) [.slice (some ⟨w13.heap.size, 0, none⟩) 1 1, .slice ca0 cn0 cc0, .slice (some ⟨w13.heap.size + 1, 0, none⟩) 1 1, .slice ca ck cc, .slice a6 k6 s6] [[moveI n 0], c, [jumpI 0 (1 + (ck : Int))], [[moveI 0 n], cleanP q, [setI n ⟨#[49, 48, 48]⟩, jumpI n (1 + (k6 : Int))]].flatten, ([moveI 0 n] ++ cleanP p)] rfl (by simp) (fun j u l hu hl => match j, u, l, hu, hl with | 0, _, _, hu, hl => by cases hu; cases hl; exact hA1.out | 1, _, _, hu, hl => by cases hu; cases hl; exact hC.out | 2, _, _, hu, hl => by cases hu; cases hl; exact hJ.out | 3, _, _, hu, hl => by cases hu; cases hl; exact hNo.out | 4, _, _, hu, hl => by cases hu; cases hl; exact hYes.out)
  obtain ⟨w16, hW⟩ : ∃ B, w15.alloc (.cells #[.slice (some ⟨w13.heap.size, 0, none⟩) 1 1, .slice ca0 cn0 cc0, .slice (some ⟨w13.heap.size + 1, 0, none⟩) 1 1, .slice ca ck cc, .slice a6 k6 s6] 23) = B := ⟨_, rfl⟩
  rw [hW]
  have hq : Below w15.heap.size w15 w16 := by rw [← hW]; exact (Below.refl _ _).alloc (Nat.le_refl _) _
  have hL2 := Lib.hid (show ProgsRow w16 w16.heap.size (.slice (some ⟨w15.heap.size, 0, none⟩) 5 5) [[moveI n 0], c, [jumpI 0 (1 + (ck : Int))], [[moveI 0 n], cleanP q, [setI n ⟨#[49, 48, 48]⟩, jumpI n (1 + (k6 : Int))]].flatten, ([moveI 0 n] ++ cleanP p)] by rw [← hW]; exact hL20)
  rw [hz_w15] at hL2
  clear hW hL20
  have hC := Lib.hid ((hC.out.below hq).mono hq.size)
  have hP := Lib.hid ((hP.out.below hq).mono hq.size)
  have hQ := Lib.hid ((hQ.out.below hq).mono hq.size)
  have hYes := Lib.hid ((hYes.out.below hq).mono hq.size)
  have hM1 := Lib.hid ((hM1.out.below hq).mono hq.size)
  have hG := Lib.hid ((hG.out.below hq).mono hq.size)
  have hLp := Lib.hid ((hLp.out.below hq).mono hq.size)
  have hNo := Lib.hid ((hNo.out.below hq).mono hq.size)
  have hA1 := Lib.hid ((hA1.out.below hq).mono hq.size)
  have hJ := Lib.hid ((hJ.out.below hq).mono hq.size)
  have ch := Lib.hid (ch.out.trans (hq.mono ch.out.size))
  clear hq
  have q_hC := hC
  have q_hP := hP
  have q_hQ := hQ
  have q_hYes := hYes
  have q_hM1 := hM1
  have q_hG := hG
  have q_hLp := hLp
  have q_hNo := hNo
  have q_hA1 := hA1
  have q_hJ := hJ
  have rl := Lib.hid (Below.refl w16.heap.size w16)
  refine (concat_len _ _ _ hL2.out (by simp [lenS, cleanP_length]; have := hgk.out; have := hfk.out; omega)).mono ?_
  rintro e w17 ⟨da, dk, dc, rfl, hdk, ho2, hq⟩
  have hC := Lib.hid ((hC.out.below hq).mono hq.size)
  have hP := Lib.hid ((hP.out.below hq).mono hq.size)
  have hQ := Lib.hid ((hQ.out.below hq).mono hq.size)
  have hYes := Lib.hid ((hYes.out.below hq).mono hq.size)
  have hM1 := Lib.hid ((hM1.out.below hq).mono hq.size)
  have hG := Lib.hid ((hG.out.below hq).mono hq.size)
  have hLp := Lib.hid ((hLp.out.below hq).mono hq.size)
  have hNo := Lib.hid ((hNo.out.below hq).mono hq.size)
  have hA1 := Lib.hid ((hA1.out.below hq).mono hq.size)
  have hJ := Lib.hid ((hJ.out.below hq).mono hq.size)
  have rl := Lib.hid (rl.out.trans (hq.mono rl.out.size))
  clear hq
  have ho2 := Lib.hid ho2
  have e1 : ((cleanP q).length : Int) + 4 = 1 + (ck : Int) := by rw [cleanP_length]; have := hkn.out; omega
  have e2 : ((cleanP p).length : Int) + 2 = 1 + (k6 : Int) := by rw [cleanP_length]; have := hky.out; omega
  have heq : ifL c p q = [[moveI n 0], c, [jumpI 0 (1 + (ck : Int))], [[moveI 0 n], cleanP q, [setI n ⟨#[49, 48, 48]⟩, jumpI n (1 + (k6 : Int))]].flatten, [moveI 0 n] ++ cleanP p].flatten := by unfold ifL; simp only [hmax.out, e1, e2]; simp
  have hrow := Lib.hid (show InsRow _ _ (.slice da dk dc) (ifL c p q) by rw [heq]; have h9 := ho2.out.row (by simp [cleanP_length]; have := hgk.out; have := hfk.out; omega); simpa using h9)
  clear heq e1 e2
  cases hvm : validB (ifL c p q)
  · have HM := Lib.hid (hrow.out)
    go_wp2_with fail
    refine (done_bad _ _ _ _ _ HM.out hvm).mono ?_
    rintro e w18 ⟨rfl, hq⟩
    have hC := Lib.hid ((hC.out.below hq).mono hq.size)
    have hP := Lib.hid ((hP.out.below hq).mono hq.size)
    have hQ := Lib.hid ((hQ.out.below hq).mono hq.size)
    have hYes := Lib.hid ((hYes.out.below hq).mono hq.size)
    have hM1 := Lib.hid ((hM1.out.below hq).mono hq.size)
    have hG := Lib.hid ((hG.out.below hq).mono hq.size)
    have hLp := Lib.hid ((hLp.out.below hq).mono hq.size)
    have hNo := Lib.hid ((hNo.out.below hq).mono hq.size)
    have hA1 := Lib.hid ((hA1.out.below hq).mono hq.size)
    have hJ := Lib.hid ((hJ.out.below hq).mono hq.size)
    have HM := Lib.hid ((HM.out.below hq).mono hq.size)
    have rl := Lib.hid (rl.out.trans (hq.mono rl.out.size))
    clear hq
    go_wp2
    have hch := ch.out.trans (rl.out.mono ch.out.size)
    refine bodyPost_ret (v := .tuple #[.slice none 0 0, .int .i64 3]) (by simp [results, Try.results32, go_sem]) rfl ?_
    rw [← HD.out, hvm, if_neg (by simp)]
    exact MadeOut.bad (by decide) rfl hch
  · have HM := Lib.hid (hrow.out)
    go_wp2_with fail
    refine (done_ok _ _ _ _ _ HM.out hvm).mono ?_
    rintro e w18 ⟨rfl, hq⟩
    have hC := Lib.hid ((hC.out.below hq).mono hq.size)
    have hP := Lib.hid ((hP.out.below hq).mono hq.size)
    have hQ := Lib.hid ((hQ.out.below hq).mono hq.size)
    have hYes := Lib.hid ((hYes.out.below hq).mono hq.size)
    have hM1 := Lib.hid ((hM1.out.below hq).mono hq.size)
    have hG := Lib.hid ((hG.out.below hq).mono hq.size)
    have hLp := Lib.hid ((hLp.out.below hq).mono hq.size)
    have hNo := Lib.hid ((hNo.out.below hq).mono hq.size)
    have hA1 := Lib.hid ((hA1.out.below hq).mono hq.size)
    have hJ := Lib.hid ((hJ.out.below hq).mono hq.size)
    have HM := Lib.hid ((HM.out.below hq).mono hq.size)
    have rl := Lib.hid (rl.out.trans (hq.mono rl.out.size))
    clear hq
    go_wp2
    have hch := ch.out.trans (rl.out.mono ch.out.size)
    refine bodyPost_ret (v := .tuple #[.slice da dk dc, .int .i64 0]) (by simp [results, Try.results32, go_sem]) rfl ?_
    rw [← HD.out, hvm, if_pos rfl]
    exact MadeOut.ok rfl rfl HM.out hch

theorem bIf_any (ca0 : Option Addr) (cn0 cc0 : Nat) (pa : Option Addr) (pn pc : Nat) (qa : Option Addr) (qn qc : Nat) (c p q : List Ins) (w : World) (hhC : InsRow w w.heap.size (.slice ca0 cn0 cc0) c) (hhP : InsRow w w.heap.size (.slice pa pn pc) p) (hhQ : InsRow w w.heap.size (.slice qa qn qc) q) : Calls Try.prog 32 #[.slice ca0 cn0 cc0, .slice pa pn pc, .slice qa qn qc] w (MadeOut w (dueN [c, p, q] (ifL c p q)) (ifL c p q)) := by
  unfold dueN
  cases hv : allV [c, p, q] with
  | false => rw [if_pos rfl]; exact bIf_form ca0 cn0 cc0 pa pn pc qa qn qc c p q w hhC hhP hhQ (Lib.hid hv)
  | true =>
    rw [if_neg (by simp)]
    by_cases hr : 28 < mostR [c, p, q]
    · rw [if_pos hr]; exact bIf_regs ca0 cn0 cc0 pa pn pc qa qn qc c p q w hhC hhP hhQ (Lib.hid hv) (Lib.hid hr)
    · rw [if_neg hr]; exact bIf_ok ca0 cn0 cc0 pa pn pc qa qn qc c p q w hhC hhP hhQ (Lib.hid hv) _ (Lib.hid rfl) (by omega) _ (Lib.hid rfl)

end Go.Proofs.Ytdjbcmfjlfkcjaa

namespace Go.Proofs.Ytdjbcmfjlfkcjaa
open Go.RowKit

theorem InsRow.grew {w w' : World} {v v' vx : Value} {m : Nat} {l : List Ins} (h : InsRow w w.heap.size vx l) (hg : Grew w w' v v' m) (hne : ∀ g, vx.ownBlock = some g → v.ownBlock ≠ some g) : InsRow w' w'.heap.size vx l := by
  refine ⟨h.1, h.2.1, ?_⟩
  rcases h.2.2 with h3 | ⟨g, off, cap, rfl, hgl, hc⟩
  · exact .inl h3
  · exact .inr ⟨g, off, cap, rfl, by have := hg.lt; omega, fun j x hj k u hk => (World.cell?_of_block (hg.old g hgl (fun e => hne g rfl e.symm))).trans (hc j x hj k u hk)⟩
theorem app_litG {ops : Array Oper} {rest : List Oper} {o : Oper} {a : Act} {Q : Exit → Act → World → Prop} (hgd : o.guard = none) (s x : Operand)
    (ho : o.op = .call { callee := .builtin .append, args := #[s, x], argTypes := #[23, 23] }) {w w0 : World} {v : Value} {m : List Ins} (l : List Ins) {n : Nat}
    (hs : a.eval s = v) (hown : OwnI w w0.heap.size v m) (hx : a.eval x = .slice (some ⟨w.heap.size, 0, none⟩) n n) (hn : l.length = n) (hwf : ∀ y ∈ l, y.wf) (hlen : m.length + n ≤ 1000000000) (hb : Below w0.heap.size w0 w)
    (h : ∀ a' k c' w', Hid (k = m.length + n) → Hid (OwnI w' w0.heap.size (.slice a' k c') (m ++ l)) → Hid (Below w0.heap.size w0 w') → Hid (Grew w w' v (.slice a' k c') n) → wpList Try.prog ops Q rest (a.put o.dst (.slice a' k c')) w') :
    wpList Try.prog ops Q (o :: rest) a (w.alloc (.cells (inscells l).toArray 75)) := by
  refine app_new el_ins hgd s x ho hs hown.own (inscells l) n hx (by rw [inscells_length, hn]) (inscells_one l) (by omega) (by unfold maxLen; omega) hb.size hb (Nat.le_refl _) ?_
  intro v' w' h1 h2 h3
  obtain ⟨a', c', rfl⟩ := own_len h1
  exact h a' _ c' w' (Lib.hid rfl) (Lib.hid (OwnI.app h1 (by rw [hn]) hown.wf hwf)) (Lib.hid h2) (Lib.hid h3)

end Go.Proofs.Ytdjbcmfjlfkcjaa

namespace Go.Proofs.Ytdjbcmfjlfkcjaa
open Go.RowKit

/-- The fields of an instruction as a tree. -/
def bodyB (x : Ins) : ByteArray :=
  if x.op = 0 then ⟨#[49]⟩ ++ TS (.num x.a.toNat) ++ x.tree
  else if x.op = 2 then ⟨#[49]⟩ ++ TS (.num x.a.toNat) ++ ⟨#[49]⟩ ++ TS (.num x.b.toNat) ++ TS (.num x.c.toNat)
  else if x.op = 5 then (if x.b < 0 then ⟨#[49]⟩ ++ TS (.num x.a.toNat) ++ ⟨#[49, 49, 48, 48]⟩ ++ TS (.num (-x.b).toNat) else ⟨#[49]⟩ ++ TS (.num x.a.toNat) ++ ⟨#[49, 48]⟩ ++ TS (.num x.b.toNat))
  else ⟨#[49]⟩ ++ TS (.num x.a.toNat) ++ TS (.num x.b.toNat)
theorem num_size (n : Nat) : (TS (.num n)).size = 2 * n + 1 := by rw [TS_size, size_num]
theorem cnum_any (n : Nat) (h : n ≤ 100000) (w : World) : Calls Try.prog 131 #[.int .i64 n] w fun e w' => e = .returned (.string (TS (.num n))) ∧ Below w.heap.size w w' := by
  have k1 := fun w => rep_add0 n (by omega) w
  have hc := fun w => repeat10 n (by omega) w
  clear h
  generalize TS (.num n) = r at k1 ⊢
  generalize rep10 n = q at k1 hc
  go_enter Try.func131, Try.ntmps131
  go_wp2_with fail
  refine (hc _).mono ?_
  rintro e w1 ⟨rfl, hb⟩
  go_wp2
  go_ret
  exact ⟨rfl, hb⟩
/-- The same, where the number is given as an integer. -/
theorem cnum_at (i : Int) (n : Nat) (hi : i = n) (h : n ≤ 100000) (r : ByteArray) (hr : TS (.num n) = r) (w0 w : World) (hb : Below w0.heap.size w0 w) : Calls Try.prog 131 #[.int .i64 i] w fun e w' => e = .returned (.string r) ∧ Below w0.heap.size w0 w' := by
  subst hi; subst hr
  exact (cnum_any n h w).mono fun e w' h => ⟨h.1, hb.trans (h.2.mono hb.size)⟩

set_option maxHeartbeats 4000000 in
theorem put_set (op : Int) (b : Int) (c : Int) (t : ByteArray) (ht : t.size ≤ 2000000) (i : Nat) (zi : i ≤ 100000)  (w : World) : Calls Try.prog 146 #[.agg #[.int .i64 op, .int .i64 ((i : Int)), .int .i64 (b), .int .i64 (c), .string t]] w fun e w' => e = .returned (.string (⟨#[49]⟩ ++ TS (.num i) ++ t)) ∧ Below w.heap.size w w' := by
  obtain ⟨ri, hri⟩ : ∃ r, TS (.num i) = r := ⟨_, rfl⟩
  have si : ri.size ≤ 300000 := by rw [← hri, num_size]; omega
  rw [hri]
  obtain ⟨q0, hq0⟩ : ∃ q, (⟨#[49]⟩ ++ ri : ByteArray) = q := ⟨_, rfl⟩
  have sq0 : q0.size ≤ 2000020 := by rw [← hq0, ByteArray.size_append]; have h1 : (⟨#[49]⟩ : ByteArray).size ≤ 10 := (by decide); have h2 : (ri : ByteArray).size ≤ 2000000 := (by omega); omega
  have A0 := fun w => run_string_add_sum (P := Try.prog) (w := w) (⟨#[49]⟩) (ri) (by have h1 : (⟨#[49]⟩ : ByteArray).size ≤ 10 := (by decide); have h2 : (ri : ByteArray).size ≤ 2000000 := (by omega); omega)
  rw [hq0] at A0
  obtain ⟨q1, hq1⟩ : ∃ q, (q0 ++ t : ByteArray) = q := ⟨_, rfl⟩
  have sq1 : q1.size ≤ 4000030 := by rw [← hq1, ByteArray.size_append]; have h1 : (q0 : ByteArray).size ≤ 2000020 := sq0; have h2 : (t : ByteArray).size ≤ 2000000 := (by omega); omega
  have A1 := fun w => run_string_add_sum (P := Try.prog) (w := w) (q0) (t) (by have h1 : (q0 : ByteArray).size ≤ 2000020 := sq0; have h2 : (t : ByteArray).size ≤ 2000000 := (by omega); omega)
  rw [hq1] at A1
  rw [hq0, hq1]
  clear hq0 sq0 hq1 sq1
  have hb0 := (Below.refl w.heap.size w).alloc (Nat.le_refl _) (.cells #[.int .i64 op, .int .i64 ((i : Int)), .int .i64 (b), .int .i64 (c), .string t] 75)
  have hblk := heap_alloc_new w (.cells #[.int .i64 op, .int .i64 ((i : Int)), .int .i64 (b), .int .i64 (c), .string t] 75)
  obtain ⟨w1, hW⟩ : ∃ B, w.alloc (.cells #[.int .i64 op, .int .i64 ((i : Int)), .int .i64 (b), .int .i64 (c), .string t] 75) = B := ⟨_, rfl⟩
  have hsz : w1.heap.size = w.heap.size + 1 := by rw [← hW]; simp
  rw [hW] at hb0 hblk
  have cc := (block_cells hblk).1
  have KK := Lib.hid (fun (w' : World) (hb : Below w1.heap.size w1 w') => (show w'.cell? ⟨w.heap.size, 1, none⟩ = some (.int .i64 ((i : Int))) ∧ w'.cell? ⟨w.heap.size, 2, none⟩ = some (.int .i64 (b)) ∧ w'.cell? ⟨w.heap.size, 3, none⟩ = some (.int .i64 (c)) ∧ w'.cell? ⟨w.heap.size, 4, none⟩ = some (.string t) from
    ⟨(hb.cell (p := ⟨w.heap.size, 1, none⟩) (by show w.heap.size < w1.heap.size; omega)).trans (cc 1), (hb.cell (p := ⟨w.heap.size, 2, none⟩) (by show w.heap.size < w1.heap.size; omega)).trans (cc 2), (hb.cell (p := ⟨w.heap.size, 3, none⟩) (by show w.heap.size < w1.heap.size; omega)).trans (cc 3), (hb.cell (p := ⟨w.heap.size, 4, none⟩) (by show w.heap.size < w1.heap.size; omega)).trans (cc 4)⟩))
  obtain ⟨c1, c2, c3, c4⟩ := KK.out w1 (Below.refl _ _)
  have Ki := Lib.hid (cnum_at ((i : Int)) i rfl zi ri hri w1)
  have HB0 := Lib.hid hb0
  clear hblk cc hsz hb0 hri
  go_enter Try.func146, Try.ntmps146
  go_wp2
  go_region_held3 (fun w' => w'.cell? ⟨w.heap.size, 1, none⟩ = some (.int .i64 ((i : Int))) ∧ w'.cell? ⟨w.heap.size, 2, none⟩ = some (.int .i64 (b)) ∧ w'.cell? ⟨w.heap.size, 3, none⟩ = some (.int .i64 (c)) ∧ w'.cell? ⟨w.heap.size, 4, none⟩ = some (.string t))
    (with_reducible (first | exact KK.out _ hb1 | exact KK.out _ (Below.refl _ _) | exact KK.out _ (Below.refl _ _).drew | fail "keep"))
    ((first | ((with_reducible refine (Ki.out _ (by first | exact hb3 | exact hb2 | exact hb1 | exact Below.refl _ _ | exact hb3.drew | exact hb2.drew | exact hb1.drew | exact (Below.refl _ _).drew)).mono ?_); rintro e v1 ⟨rfl, hb1⟩) | (fail "arm")))
  all_goals (
  go_wp2
  go_ret
  exact ⟨rfl, by first | exact HB0.out.trans (hb1.mono HB0.out.size)⟩)

set_option maxHeartbeats 4000000 in
theorem put_regs (op : Int) (c : Int) (t : ByteArray) (_ht : t.size ≤ 2000000) (i : Nat) (zi : i ≤ 100000) (j : Nat) (zj : j ≤ 100000)  (w : World) : Calls Try.prog 166 #[.agg #[.int .i64 op, .int .i64 ((i : Int)), .int .i64 ((j : Int)), .int .i64 (c), .string t]] w fun e w' => e = .returned (.string (⟨#[49]⟩ ++ TS (.num i) ++ TS (.num j))) ∧ Below w.heap.size w w' := by
  obtain ⟨ri, hri⟩ : ∃ r, TS (.num i) = r := ⟨_, rfl⟩
  have si : ri.size ≤ 300000 := by rw [← hri, num_size]; omega
  obtain ⟨rj, hrj⟩ : ∃ r, TS (.num j) = r := ⟨_, rfl⟩
  have sj : rj.size ≤ 300000 := by rw [← hrj, num_size]; omega
  rw [hri, hrj]
  obtain ⟨q0, hq0⟩ : ∃ q, (⟨#[49]⟩ ++ ri : ByteArray) = q := ⟨_, rfl⟩
  have sq0 : q0.size ≤ 2000020 := by rw [← hq0, ByteArray.size_append]; have h1 : (⟨#[49]⟩ : ByteArray).size ≤ 10 := (by decide); have h2 : (ri : ByteArray).size ≤ 2000000 := (by omega); omega
  have A0 := fun w => run_string_add_sum (P := Try.prog) (w := w) (⟨#[49]⟩) (ri) (by have h1 : (⟨#[49]⟩ : ByteArray).size ≤ 10 := (by decide); have h2 : (ri : ByteArray).size ≤ 2000000 := (by omega); omega)
  rw [hq0] at A0
  obtain ⟨q1, hq1⟩ : ∃ q, (q0 ++ rj : ByteArray) = q := ⟨_, rfl⟩
  have sq1 : q1.size ≤ 4000030 := by rw [← hq1, ByteArray.size_append]; have h1 : (q0 : ByteArray).size ≤ 2000020 := sq0; have h2 : (rj : ByteArray).size ≤ 2000000 := (by omega); omega
  have A1 := fun w => run_string_add_sum (P := Try.prog) (w := w) (q0) (rj) (by have h1 : (q0 : ByteArray).size ≤ 2000020 := sq0; have h2 : (rj : ByteArray).size ≤ 2000000 := (by omega); omega)
  rw [hq1] at A1
  rw [hq0, hq1]
  clear hq0 sq0 hq1 sq1
  have hb0 := (Below.refl w.heap.size w).alloc (Nat.le_refl _) (.cells #[.int .i64 op, .int .i64 ((i : Int)), .int .i64 ((j : Int)), .int .i64 (c), .string t] 75)
  have hblk := heap_alloc_new w (.cells #[.int .i64 op, .int .i64 ((i : Int)), .int .i64 ((j : Int)), .int .i64 (c), .string t] 75)
  obtain ⟨w1, hW⟩ : ∃ B, w.alloc (.cells #[.int .i64 op, .int .i64 ((i : Int)), .int .i64 ((j : Int)), .int .i64 (c), .string t] 75) = B := ⟨_, rfl⟩
  have hsz : w1.heap.size = w.heap.size + 1 := by rw [← hW]; simp
  rw [hW] at hb0 hblk
  have cc := (block_cells hblk).1
  have KK := Lib.hid (fun (w' : World) (hb : Below w1.heap.size w1 w') => (show w'.cell? ⟨w.heap.size, 1, none⟩ = some (.int .i64 ((i : Int))) ∧ w'.cell? ⟨w.heap.size, 2, none⟩ = some (.int .i64 ((j : Int))) ∧ w'.cell? ⟨w.heap.size, 3, none⟩ = some (.int .i64 (c)) ∧ w'.cell? ⟨w.heap.size, 4, none⟩ = some (.string t) from
    ⟨(hb.cell (p := ⟨w.heap.size, 1, none⟩) (by show w.heap.size < w1.heap.size; omega)).trans (cc 1), (hb.cell (p := ⟨w.heap.size, 2, none⟩) (by show w.heap.size < w1.heap.size; omega)).trans (cc 2), (hb.cell (p := ⟨w.heap.size, 3, none⟩) (by show w.heap.size < w1.heap.size; omega)).trans (cc 3), (hb.cell (p := ⟨w.heap.size, 4, none⟩) (by show w.heap.size < w1.heap.size; omega)).trans (cc 4)⟩))
  obtain ⟨c1, c2, c3, c4⟩ := KK.out w1 (Below.refl _ _)
  have Ki := Lib.hid (cnum_at ((i : Int)) i rfl zi ri hri w1)
  have Kj := Lib.hid (cnum_at ((j : Int)) j rfl zj rj hrj w1)
  have HB0 := Lib.hid hb0
  clear hblk cc hsz hb0 hri hrj
  go_enter Try.func166, Try.ntmps166
  go_wp2
  go_region_held3 (fun w' => w'.cell? ⟨w.heap.size, 1, none⟩ = some (.int .i64 ((i : Int))) ∧ w'.cell? ⟨w.heap.size, 2, none⟩ = some (.int .i64 ((j : Int))) ∧ w'.cell? ⟨w.heap.size, 3, none⟩ = some (.int .i64 (c)) ∧ w'.cell? ⟨w.heap.size, 4, none⟩ = some (.string t))
    (with_reducible (first | exact KK.out _ hb2 | exact KK.out _ hb1 | exact KK.out _ (Below.refl _ _) | exact KK.out _ (Below.refl _ _).drew | fail "keep"))
    ((first | ((with_reducible refine (Ki.out _ (by first | exact hb3 | exact hb2 | exact hb1 | exact Below.refl _ _ | exact hb3.drew | exact hb2.drew | exact hb1.drew | exact (Below.refl _ _).drew)).mono ?_); rintro e v1 ⟨rfl, hb1⟩) | ((with_reducible refine (Kj.out _ (by first | exact hb3 | exact hb2 | exact hb1 | exact Below.refl _ _ | exact hb3.drew | exact hb2.drew | exact hb1.drew | exact (Below.refl _ _).drew)).mono ?_); rintro e v2 ⟨rfl, hb2⟩) | (fail "arm")))
  all_goals (
  go_wp2
  go_ret
  exact ⟨rfl, by first | exact HB0.out.trans (hb2.mono HB0.out.size) | exact HB0.out.trans (hb1.mono HB0.out.size)⟩)

set_option maxHeartbeats 4000000 in
theorem put_cons (op : Int) (t : ByteArray) (_ht : t.size ≤ 2000000) (i : Nat) (zi : i ≤ 100000) (j : Nat) (zj : j ≤ 100000) (k : Nat) (zk : k ≤ 100000)  (w : World) : Calls Try.prog 148 #[.agg #[.int .i64 op, .int .i64 ((i : Int)), .int .i64 ((j : Int)), .int .i64 ((k : Int)), .string t]] w fun e w' => e = .returned (.string (⟨#[49]⟩ ++ TS (.num i) ++ ⟨#[49]⟩ ++ TS (.num j) ++ TS (.num k))) ∧ Below w.heap.size w w' := by
  obtain ⟨ri, hri⟩ : ∃ r, TS (.num i) = r := ⟨_, rfl⟩
  have si : ri.size ≤ 300000 := by rw [← hri, num_size]; omega
  obtain ⟨rj, hrj⟩ : ∃ r, TS (.num j) = r := ⟨_, rfl⟩
  have sj : rj.size ≤ 300000 := by rw [← hrj, num_size]; omega
  obtain ⟨rk, hrk⟩ : ∃ r, TS (.num k) = r := ⟨_, rfl⟩
  have sk : rk.size ≤ 300000 := by rw [← hrk, num_size]; omega
  rw [hri, hrj, hrk]
  obtain ⟨q0, hq0⟩ : ∃ q, (⟨#[49]⟩ ++ ri : ByteArray) = q := ⟨_, rfl⟩
  have sq0 : q0.size ≤ 2000020 := by rw [← hq0, ByteArray.size_append]; have h1 : (⟨#[49]⟩ : ByteArray).size ≤ 10 := (by decide); have h2 : (ri : ByteArray).size ≤ 2000000 := (by omega); omega
  have A0 := fun w => run_string_add_sum (P := Try.prog) (w := w) (⟨#[49]⟩) (ri) (by have h1 : (⟨#[49]⟩ : ByteArray).size ≤ 10 := (by decide); have h2 : (ri : ByteArray).size ≤ 2000000 := (by omega); omega)
  rw [hq0] at A0
  obtain ⟨q1, hq1⟩ : ∃ q, (q0 ++ ⟨#[49]⟩ : ByteArray) = q := ⟨_, rfl⟩
  have sq1 : q1.size ≤ 4000030 := by rw [← hq1, ByteArray.size_append]; have h1 : (q0 : ByteArray).size ≤ 2000020 := sq0; have h2 : (⟨#[49]⟩ : ByteArray).size ≤ 2000000 := (by decide); omega
  have A1 := fun w => run_string_add_sum (P := Try.prog) (w := w) (q0) (⟨#[49]⟩) (by have h1 : (q0 : ByteArray).size ≤ 2000020 := sq0; have h2 : (⟨#[49]⟩ : ByteArray).size ≤ 2000000 := (by decide); omega)
  rw [hq1] at A1
  obtain ⟨q2, hq2⟩ : ∃ q, (q1 ++ rj : ByteArray) = q := ⟨_, rfl⟩
  have sq2 : q2.size ≤ 6000040 := by rw [← hq2, ByteArray.size_append]; have h1 : (q1 : ByteArray).size ≤ 4000030 := sq1; have h2 : (rj : ByteArray).size ≤ 2000000 := (by omega); omega
  have A2 := fun w => run_string_add_sum (P := Try.prog) (w := w) (q1) (rj) (by have h1 : (q1 : ByteArray).size ≤ 4000030 := sq1; have h2 : (rj : ByteArray).size ≤ 2000000 := (by omega); omega)
  rw [hq2] at A2
  obtain ⟨q3, hq3⟩ : ∃ q, (q2 ++ rk : ByteArray) = q := ⟨_, rfl⟩
  have sq3 : q3.size ≤ 8000050 := by rw [← hq3, ByteArray.size_append]; have h1 : (q2 : ByteArray).size ≤ 6000040 := sq2; have h2 : (rk : ByteArray).size ≤ 2000000 := (by omega); omega
  have A3 := fun w => run_string_add_sum (P := Try.prog) (w := w) (q2) (rk) (by have h1 : (q2 : ByteArray).size ≤ 6000040 := sq2; have h2 : (rk : ByteArray).size ≤ 2000000 := (by omega); omega)
  rw [hq3] at A3
  rw [hq0, hq1, hq2, hq3]
  clear hq0 sq0 hq1 sq1 hq2 sq2 hq3 sq3
  have hb0 := (Below.refl w.heap.size w).alloc (Nat.le_refl _) (.cells #[.int .i64 op, .int .i64 ((i : Int)), .int .i64 ((j : Int)), .int .i64 ((k : Int)), .string t] 75)
  have hblk := heap_alloc_new w (.cells #[.int .i64 op, .int .i64 ((i : Int)), .int .i64 ((j : Int)), .int .i64 ((k : Int)), .string t] 75)
  obtain ⟨w1, hW⟩ : ∃ B, w.alloc (.cells #[.int .i64 op, .int .i64 ((i : Int)), .int .i64 ((j : Int)), .int .i64 ((k : Int)), .string t] 75) = B := ⟨_, rfl⟩
  have hsz : w1.heap.size = w.heap.size + 1 := by rw [← hW]; simp
  rw [hW] at hb0 hblk
  have cc := (block_cells hblk).1
  have KK := Lib.hid (fun (w' : World) (hb : Below w1.heap.size w1 w') => (show w'.cell? ⟨w.heap.size, 1, none⟩ = some (.int .i64 ((i : Int))) ∧ w'.cell? ⟨w.heap.size, 2, none⟩ = some (.int .i64 ((j : Int))) ∧ w'.cell? ⟨w.heap.size, 3, none⟩ = some (.int .i64 ((k : Int))) ∧ w'.cell? ⟨w.heap.size, 4, none⟩ = some (.string t) from
    ⟨(hb.cell (p := ⟨w.heap.size, 1, none⟩) (by show w.heap.size < w1.heap.size; omega)).trans (cc 1), (hb.cell (p := ⟨w.heap.size, 2, none⟩) (by show w.heap.size < w1.heap.size; omega)).trans (cc 2), (hb.cell (p := ⟨w.heap.size, 3, none⟩) (by show w.heap.size < w1.heap.size; omega)).trans (cc 3), (hb.cell (p := ⟨w.heap.size, 4, none⟩) (by show w.heap.size < w1.heap.size; omega)).trans (cc 4)⟩))
  obtain ⟨c1, c2, c3, c4⟩ := KK.out w1 (Below.refl _ _)
  have Ki := Lib.hid (cnum_at ((i : Int)) i rfl zi ri hri w1)
  have Kj := Lib.hid (cnum_at ((j : Int)) j rfl zj rj hrj w1)
  have Kk := Lib.hid (cnum_at ((k : Int)) k rfl zk rk hrk w1)
  have HB0 := Lib.hid hb0
  clear hblk cc hsz hb0 hri hrj hrk
  go_enter Try.func148, Try.ntmps148
  go_wp2
  go_region_held3 (fun w' => w'.cell? ⟨w.heap.size, 1, none⟩ = some (.int .i64 ((i : Int))) ∧ w'.cell? ⟨w.heap.size, 2, none⟩ = some (.int .i64 ((j : Int))) ∧ w'.cell? ⟨w.heap.size, 3, none⟩ = some (.int .i64 ((k : Int))) ∧ w'.cell? ⟨w.heap.size, 4, none⟩ = some (.string t))
    (with_reducible (first | exact KK.out _ hb3 | exact KK.out _ hb2 | exact KK.out _ hb1 | exact KK.out _ (Below.refl _ _) | exact KK.out _ (Below.refl _ _).drew | fail "keep"))
    ((first | ((with_reducible refine (Ki.out _ (by first | exact hb3 | exact hb2 | exact hb1 | exact Below.refl _ _ | exact hb3.drew | exact hb2.drew | exact hb1.drew | exact (Below.refl _ _).drew)).mono ?_); rintro e v1 ⟨rfl, hb1⟩) | ((with_reducible refine (Kj.out _ (by first | exact hb3 | exact hb2 | exact hb1 | exact Below.refl _ _ | exact hb3.drew | exact hb2.drew | exact hb1.drew | exact (Below.refl _ _).drew)).mono ?_); rintro e v2 ⟨rfl, hb2⟩) | ((with_reducible refine (Kk.out _ (by first | exact hb3 | exact hb2 | exact hb1 | exact Below.refl _ _ | exact hb3.drew | exact hb2.drew | exact hb1.drew | exact (Below.refl _ _).drew)).mono ?_); rintro e v3 ⟨rfl, hb3⟩) | (fail "arm")))
  all_goals (
  go_wp2
  go_ret
  exact ⟨rfl, by first | exact HB0.out.trans (hb3.mono HB0.out.size) | exact HB0.out.trans (hb2.mono HB0.out.size) | exact HB0.out.trans (hb1.mono HB0.out.size)⟩)

set_option maxHeartbeats 4000000 in
theorem put_back (op : Int) (c : Int) (t : ByteArray) (_ht : t.size ≤ 2000000) (i : Nat) (zi : i ≤ 100000) (j : Nat) (zj : j ≤ 100000) (hneg : 0 < j) (w : World) : Calls Try.prog 150 #[.agg #[.int .i64 op, .int .i64 ((i : Int)), .int .i64 (-(j : Int)), .int .i64 (c), .string t]] w fun e w' => e = .returned (.string (⟨#[49]⟩ ++ TS (.num i) ++ ⟨#[49, 49, 48, 48]⟩ ++ TS (.num j))) ∧ Below w.heap.size w w' := by
  obtain ⟨ri, hri⟩ : ∃ r, TS (.num i) = r := ⟨_, rfl⟩
  have si : ri.size ≤ 300000 := by rw [← hri, num_size]; omega
  obtain ⟨rj, hrj⟩ : ∃ r, TS (.num j) = r := ⟨_, rfl⟩
  have sj : rj.size ≤ 300000 := by rw [← hrj, num_size]; omega
  rw [hri, hrj]
  obtain ⟨q0, hq0⟩ : ∃ q, (⟨#[49]⟩ ++ ri : ByteArray) = q := ⟨_, rfl⟩
  have sq0 : q0.size ≤ 2000020 := by rw [← hq0, ByteArray.size_append]; have h1 : (⟨#[49]⟩ : ByteArray).size ≤ 10 := (by decide); have h2 : (ri : ByteArray).size ≤ 2000000 := (by omega); omega
  have A0 := fun w => run_string_add_sum (P := Try.prog) (w := w) (⟨#[49]⟩) (ri) (by have h1 : (⟨#[49]⟩ : ByteArray).size ≤ 10 := (by decide); have h2 : (ri : ByteArray).size ≤ 2000000 := (by omega); omega)
  rw [hq0] at A0
  obtain ⟨q1, hq1⟩ : ∃ q, (q0 ++ ⟨#[49, 49, 48, 48]⟩ : ByteArray) = q := ⟨_, rfl⟩
  have sq1 : q1.size ≤ 4000030 := by rw [← hq1, ByteArray.size_append]; have h1 : (q0 : ByteArray).size ≤ 2000020 := sq0; have h2 : (⟨#[49, 49, 48, 48]⟩ : ByteArray).size ≤ 2000000 := (by decide); omega
  have A1 := fun w => run_string_add_sum (P := Try.prog) (w := w) (q0) (⟨#[49, 49, 48, 48]⟩) (by have h1 : (q0 : ByteArray).size ≤ 2000020 := sq0; have h2 : (⟨#[49, 49, 48, 48]⟩ : ByteArray).size ≤ 2000000 := (by decide); omega)
  rw [hq1] at A1
  obtain ⟨q2, hq2⟩ : ∃ q, (q1 ++ rj : ByteArray) = q := ⟨_, rfl⟩
  have sq2 : q2.size ≤ 6000040 := by rw [← hq2, ByteArray.size_append]; have h1 : (q1 : ByteArray).size ≤ 4000030 := sq1; have h2 : (rj : ByteArray).size ≤ 2000000 := (by omega); omega
  have A2 := fun w => run_string_add_sum (P := Try.prog) (w := w) (q1) (rj) (by have h1 : (q1 : ByteArray).size ≤ 4000030 := sq1; have h2 : (rj : ByteArray).size ≤ 2000000 := (by omega); omega)
  rw [hq2] at A2
  rw [hq0, hq1, hq2]
  clear hq0 sq0 hq1 sq1 hq2 sq2
  have hb0 := (Below.refl w.heap.size w).alloc (Nat.le_refl _) (.cells #[.int .i64 op, .int .i64 ((i : Int)), .int .i64 (-(j : Int)), .int .i64 (c), .string t] 75)
  have hblk := heap_alloc_new w (.cells #[.int .i64 op, .int .i64 ((i : Int)), .int .i64 (-(j : Int)), .int .i64 (c), .string t] 75)
  obtain ⟨w1, hW⟩ : ∃ B, w.alloc (.cells #[.int .i64 op, .int .i64 ((i : Int)), .int .i64 (-(j : Int)), .int .i64 (c), .string t] 75) = B := ⟨_, rfl⟩
  have hsz : w1.heap.size = w.heap.size + 1 := by rw [← hW]; simp
  rw [hW] at hb0 hblk
  have cc := (block_cells hblk).1
  have KK := Lib.hid (fun (w' : World) (hb : Below w1.heap.size w1 w') => (show w'.cell? ⟨w.heap.size, 1, none⟩ = some (.int .i64 ((i : Int))) ∧ w'.cell? ⟨w.heap.size, 2, none⟩ = some (.int .i64 (-(j : Int))) ∧ w'.cell? ⟨w.heap.size, 3, none⟩ = some (.int .i64 (c)) ∧ w'.cell? ⟨w.heap.size, 4, none⟩ = some (.string t) from
    ⟨(hb.cell (p := ⟨w.heap.size, 1, none⟩) (by show w.heap.size < w1.heap.size; omega)).trans (cc 1), (hb.cell (p := ⟨w.heap.size, 2, none⟩) (by show w.heap.size < w1.heap.size; omega)).trans (cc 2), (hb.cell (p := ⟨w.heap.size, 3, none⟩) (by show w.heap.size < w1.heap.size; omega)).trans (cc 3), (hb.cell (p := ⟨w.heap.size, 4, none⟩) (by show w.heap.size < w1.heap.size; omega)).trans (cc 4)⟩))
  obtain ⟨c1, c2, c3, c4⟩ := KK.out w1 (Below.refl _ _)
  have Ki := Lib.hid (cnum_at ((i : Int)) i rfl zi ri hri w1)
  have Kj := Lib.hid (cnum_at ((j : Int)) j rfl zj rj hrj w1)
  have Kn := Lib.hid (cnum_at (IntKind.i64.wrap (j : Int)) j (IntWalk.i64_in _ (by omega)) zj rj hrj w1)
  have HB0 := Lib.hid hb0
  clear hblk cc hsz hb0 hri hrj
  have hnegI : -(j : Int) < 0 := by omega
  go_enter Try.func150, Try.ntmps150
  go_wp2
  go_region_held3 (fun w' => w'.cell? ⟨w.heap.size, 1, none⟩ = some (.int .i64 ((i : Int))) ∧ w'.cell? ⟨w.heap.size, 2, none⟩ = some (.int .i64 (-(j : Int))) ∧ w'.cell? ⟨w.heap.size, 3, none⟩ = some (.int .i64 (c)) ∧ w'.cell? ⟨w.heap.size, 4, none⟩ = some (.string t))
    (with_reducible (first | exact KK.out _ hb2 | exact KK.out _ hb1 | exact KK.out _ (Below.refl _ _) | exact KK.out _ (Below.refl _ _).drew | fail "keep"))
    ((first | ((with_reducible refine (Ki.out _ (by first | exact hb3 | exact hb2 | exact hb1 | exact Below.refl _ _ | exact hb3.drew | exact hb2.drew | exact hb1.drew | exact (Below.refl _ _).drew)).mono ?_); rintro e v1 ⟨rfl, hb1⟩) | ((with_reducible refine (Kj.out _ (by first | exact hb3 | exact hb2 | exact hb1 | exact Below.refl _ _ | exact hb3.drew | exact hb2.drew | exact hb1.drew | exact (Below.refl _ _).drew)).mono ?_); rintro e v2 ⟨rfl, hb2⟩) | ((with_reducible refine (Kn.out _ (by first | exact hb3 | exact hb2 | exact hb1 | exact Below.refl _ _ | exact hb3.drew | exact hb2.drew | exact hb1.drew | exact (Below.refl _ _).drew)).mono ?_); rintro e v2 ⟨rfl, hb2⟩) | (fail "arm")))
  all_goals (
  go_wp2
  go_ret
  exact ⟨rfl, by first | exact HB0.out.trans (hb2.mono HB0.out.size) | exact HB0.out.trans (hb1.mono HB0.out.size)⟩)

set_option maxHeartbeats 4000000 in
theorem put_on (op : Int) (c : Int) (t : ByteArray) (_ht : t.size ≤ 2000000) (i : Nat) (zi : i ≤ 100000) (j : Nat) (zj : j ≤ 100000)  (w : World) : Calls Try.prog 150 #[.agg #[.int .i64 op, .int .i64 ((i : Int)), .int .i64 ((j : Int)), .int .i64 (c), .string t]] w fun e w' => e = .returned (.string (⟨#[49]⟩ ++ TS (.num i) ++ ⟨#[49, 48]⟩ ++ TS (.num j))) ∧ Below w.heap.size w w' := by
  obtain ⟨ri, hri⟩ : ∃ r, TS (.num i) = r := ⟨_, rfl⟩
  have si : ri.size ≤ 300000 := by rw [← hri, num_size]; omega
  obtain ⟨rj, hrj⟩ : ∃ r, TS (.num j) = r := ⟨_, rfl⟩
  have sj : rj.size ≤ 300000 := by rw [← hrj, num_size]; omega
  rw [hri, hrj]
  obtain ⟨q0, hq0⟩ : ∃ q, (⟨#[49]⟩ ++ ri : ByteArray) = q := ⟨_, rfl⟩
  have sq0 : q0.size ≤ 2000020 := by rw [← hq0, ByteArray.size_append]; have h1 : (⟨#[49]⟩ : ByteArray).size ≤ 10 := (by decide); have h2 : (ri : ByteArray).size ≤ 2000000 := (by omega); omega
  have A0 := fun w => run_string_add_sum (P := Try.prog) (w := w) (⟨#[49]⟩) (ri) (by have h1 : (⟨#[49]⟩ : ByteArray).size ≤ 10 := (by decide); have h2 : (ri : ByteArray).size ≤ 2000000 := (by omega); omega)
  rw [hq0] at A0
  obtain ⟨q1, hq1⟩ : ∃ q, (q0 ++ ⟨#[49, 48]⟩ : ByteArray) = q := ⟨_, rfl⟩
  have sq1 : q1.size ≤ 4000030 := by rw [← hq1, ByteArray.size_append]; have h1 : (q0 : ByteArray).size ≤ 2000020 := sq0; have h2 : (⟨#[49, 48]⟩ : ByteArray).size ≤ 2000000 := (by decide); omega
  have A1 := fun w => run_string_add_sum (P := Try.prog) (w := w) (q0) (⟨#[49, 48]⟩) (by have h1 : (q0 : ByteArray).size ≤ 2000020 := sq0; have h2 : (⟨#[49, 48]⟩ : ByteArray).size ≤ 2000000 := (by decide); omega)
  rw [hq1] at A1
  obtain ⟨q2, hq2⟩ : ∃ q, (q1 ++ rj : ByteArray) = q := ⟨_, rfl⟩
  have sq2 : q2.size ≤ 6000040 := by rw [← hq2, ByteArray.size_append]; have h1 : (q1 : ByteArray).size ≤ 4000030 := sq1; have h2 : (rj : ByteArray).size ≤ 2000000 := (by omega); omega
  have A2 := fun w => run_string_add_sum (P := Try.prog) (w := w) (q1) (rj) (by have h1 : (q1 : ByteArray).size ≤ 4000030 := sq1; have h2 : (rj : ByteArray).size ≤ 2000000 := (by omega); omega)
  rw [hq2] at A2
  rw [hq0, hq1, hq2]
  clear hq0 sq0 hq1 sq1 hq2 sq2
  have hb0 := (Below.refl w.heap.size w).alloc (Nat.le_refl _) (.cells #[.int .i64 op, .int .i64 ((i : Int)), .int .i64 ((j : Int)), .int .i64 (c), .string t] 75)
  have hblk := heap_alloc_new w (.cells #[.int .i64 op, .int .i64 ((i : Int)), .int .i64 ((j : Int)), .int .i64 (c), .string t] 75)
  obtain ⟨w1, hW⟩ : ∃ B, w.alloc (.cells #[.int .i64 op, .int .i64 ((i : Int)), .int .i64 ((j : Int)), .int .i64 (c), .string t] 75) = B := ⟨_, rfl⟩
  have hsz : w1.heap.size = w.heap.size + 1 := by rw [← hW]; simp
  rw [hW] at hb0 hblk
  have cc := (block_cells hblk).1
  have KK := Lib.hid (fun (w' : World) (hb : Below w1.heap.size w1 w') => (show w'.cell? ⟨w.heap.size, 1, none⟩ = some (.int .i64 ((i : Int))) ∧ w'.cell? ⟨w.heap.size, 2, none⟩ = some (.int .i64 ((j : Int))) ∧ w'.cell? ⟨w.heap.size, 3, none⟩ = some (.int .i64 (c)) ∧ w'.cell? ⟨w.heap.size, 4, none⟩ = some (.string t) from
    ⟨(hb.cell (p := ⟨w.heap.size, 1, none⟩) (by show w.heap.size < w1.heap.size; omega)).trans (cc 1), (hb.cell (p := ⟨w.heap.size, 2, none⟩) (by show w.heap.size < w1.heap.size; omega)).trans (cc 2), (hb.cell (p := ⟨w.heap.size, 3, none⟩) (by show w.heap.size < w1.heap.size; omega)).trans (cc 3), (hb.cell (p := ⟨w.heap.size, 4, none⟩) (by show w.heap.size < w1.heap.size; omega)).trans (cc 4)⟩))
  obtain ⟨c1, c2, c3, c4⟩ := KK.out w1 (Below.refl _ _)
  have Ki := Lib.hid (cnum_at ((i : Int)) i rfl zi ri hri w1)
  have Kj := Lib.hid (cnum_at ((j : Int)) j rfl zj rj hrj w1)
  have HB0 := Lib.hid hb0
  clear hblk cc hsz hb0 hri hrj
  have hnegI : ¬ (j : Int) < 0 := by omega
  go_enter Try.func150, Try.ntmps150
  go_wp2
  go_region_held3 (fun w' => w'.cell? ⟨w.heap.size, 1, none⟩ = some (.int .i64 ((i : Int))) ∧ w'.cell? ⟨w.heap.size, 2, none⟩ = some (.int .i64 ((j : Int))) ∧ w'.cell? ⟨w.heap.size, 3, none⟩ = some (.int .i64 (c)) ∧ w'.cell? ⟨w.heap.size, 4, none⟩ = some (.string t))
    (with_reducible (first | exact KK.out _ hb2 | exact KK.out _ hb1 | exact KK.out _ (Below.refl _ _) | exact KK.out _ (Below.refl _ _).drew | fail "keep"))
    ((first | ((with_reducible refine (Ki.out _ (by first | exact hb3 | exact hb2 | exact hb1 | exact Below.refl _ _ | exact hb3.drew | exact hb2.drew | exact hb1.drew | exact (Below.refl _ _).drew)).mono ?_); rintro e v1 ⟨rfl, hb1⟩) | ((with_reducible refine (Kj.out _ (by first | exact hb3 | exact hb2 | exact hb1 | exact Below.refl _ _ | exact hb3.drew | exact hb2.drew | exact hb1.drew | exact (Below.refl _ _).drew)).mono ?_); rintro e v2 ⟨rfl, hb2⟩) | (fail "arm")))
  all_goals (
  go_wp2
  go_ret
  exact ⟨rfl, by first | exact HB0.out.trans (hb2.mono HB0.out.size) | exact HB0.out.trans (hb1.mono HB0.out.size)⟩)

end Go.Proofs.Ytdjbcmfjlfkcjaa

namespace Go.Proofs.Ytdjbcmfjlfkcjaa
open Go.RowKit

theorem regs_any (w : World) : Calls Try.prog 152 #[] w fun e w' => e = .returned (.agg #[.func (.func 166) #[] #[], .func (.func 167) #[] #[]]) ∧ Below w.heap.size w w' := by
  have hb0 := (Below.refl w.heap.size w).alloc (Nat.le_refl _) (.cells #[.func (.func 166) #[] #[], .func (.func 167) #[] #[]] 156)
  go_enter Try.func152, Try.ntmps152
  go_wp2
  refine bodyPost_ret (v := .agg #[.func (.func 166) #[] #[], .func (.func 167) #[] #[]]) (by simp [results, Try.results152, go_sem]) rfl ?_
  exact ⟨rfl, hb0⟩

set_option maxRecDepth 20000 in
theorem fields_set (w : World) : Calls Try.prog 118 #[.int .i64 0] w fun e w' => ∃ g, e = .returned (.agg #[.func (.func 146) #[] #[], g]) ∧ Below w.heap.size w w' := by
  have hb0 := (Below.refl w.heap.size w).alloc (Nat.le_refl _) (.cells #[.func (.func 146) #[] #[], .func (.func 147) #[] #[]] 156)
  go_enter Try.func118, Try.ntmps118
  go_wp2
  refine bodyPost_ret (v := .agg #[.func (.func 146) #[] #[], .func (.func 147) #[] #[]]) (by simp [results, Try.results118, go_sem]) rfl ?_
  exact ⟨_, rfl, hb0⟩

set_option maxRecDepth 20000 in
theorem fields_cons (w : World) : Calls Try.prog 118 #[.int .i64 2] w fun e w' => ∃ g, e = .returned (.agg #[.func (.func 148) #[] #[], g]) ∧ Below w.heap.size w w' := by
  have hb0 := (Below.refl w.heap.size w).alloc (Nat.le_refl _) (.cells #[.func (.func 148) #[] #[], .func (.func 149) #[] #[]] 156)
  go_enter Try.func118, Try.ntmps118
  go_wp2
  refine bodyPost_ret (v := .agg #[.func (.func 148) #[] #[], .func (.func 149) #[] #[]]) (by simp [results, Try.results118, go_sem]) rfl ?_
  exact ⟨_, rfl, hb0⟩

set_option maxRecDepth 20000 in
theorem fields_jump (w : World) : Calls Try.prog 118 #[.int .i64 5] w fun e w' => ∃ g, e = .returned (.agg #[.func (.func 150) #[] #[], g]) ∧ Below w.heap.size w w' := by
  have hb0 := (Below.refl w.heap.size w).alloc (Nat.le_refl _) (.cells #[.func (.func 150) #[] #[], .func (.func 151) #[] #[]] 156)
  go_enter Try.func118, Try.ntmps118
  go_wp2
  refine bodyPost_ret (v := .agg #[.func (.func 150) #[] #[], .func (.func 151) #[] #[]]) (by simp [results, Try.results118, go_sem]) rfl ?_
  exact ⟨_, rfl, hb0⟩

set_option maxRecDepth 20000 in
theorem fields_r1 (w : World) : Calls Try.prog 118 #[.int .i64 1] w fun e w' => ∃ g, e = .returned (.agg #[.func (.func 166) #[] #[], g]) ∧ Below w.heap.size w w' := by
  have hb0 := (Below.refl w.heap.size w).alloc (Nat.le_refl _) (.cells #[.nilFunc, .nilFunc] 156)
  have hblk := heap_alloc_new w (.cells #[.nilFunc, .nilFunc] 156)
  have kr := Lib.hid (fun w => regs_any w)
  have HW := Lib.hid hblk
  have HB := Lib.hid hb0
  clear hblk hb0
  go_enter Try.func118, Try.ntmps118
  go_wp2_with fail
  refine (kr.out _).mono ?_
  rintro e w1 ⟨rfl, hb1⟩
  have h2 := (hb1.block w.heap.size (by simp)).trans HW.out
  have cc := (block_cells h2).1
  have c0 := cc 0
  have c1 := cc 1
  have f0 := (block_cells h2).2 0
  have f1 := (block_cells h2).2 1
  simp only [List.getElem?_toArray, List.getElem?_cons_zero, List.getElem?_cons_succ] at c0 c1
  have hb0 := ((HB.out.trans (hb1.mono HB.out.size)).setCell (p := ⟨w.heap.size, 0, none⟩) (Nat.le_refl _) (.func (.func 166) #[] #[])).setCell (p := ⟨w.heap.size, 1, none⟩) (Nat.le_refl _) (.func (.func 167) #[] #[])
  have hs1 := set_blk (set_blk h2 0 (.func (.func 166) #[] #[])) 1 (.func (.func 167) #[] #[])
  have q0 := (block_cells hs1).1 0
  have q1 := (block_cells hs1).1 1
  simp only [List.setIfInBounds_toArray, List.set_cons_zero, List.set_cons_succ, List.getElem?_toArray, List.getElem?_cons_zero, List.getElem?_cons_succ] at q0 q1
  clear cc
  go_wp2
  refine bodyPost_ret (v := .agg #[.func (.func 166) #[] #[], .func (.func 167) #[] #[]]) (by simp [results, Try.results118, go_sem, q0, q1]) rfl ?_
  exact ⟨_, rfl, hb0⟩

set_option maxRecDepth 20000 in
theorem fields_r3 (w : World) : Calls Try.prog 118 #[.int .i64 3] w fun e w' => ∃ g, e = .returned (.agg #[.func (.func 166) #[] #[], g]) ∧ Below w.heap.size w w' := by
  have hb0 := (Below.refl w.heap.size w).alloc (Nat.le_refl _) (.cells #[.nilFunc, .nilFunc] 156)
  have hblk := heap_alloc_new w (.cells #[.nilFunc, .nilFunc] 156)
  have kr := Lib.hid (fun w => regs_any w)
  have HW := Lib.hid hblk
  have HB := Lib.hid hb0
  clear hblk hb0
  go_enter Try.func118, Try.ntmps118
  go_wp2_with fail
  refine (kr.out _).mono ?_
  rintro e w1 ⟨rfl, hb1⟩
  have h2 := (hb1.block w.heap.size (by simp)).trans HW.out
  have cc := (block_cells h2).1
  have c0 := cc 0
  have c1 := cc 1
  have f0 := (block_cells h2).2 0
  have f1 := (block_cells h2).2 1
  simp only [List.getElem?_toArray, List.getElem?_cons_zero, List.getElem?_cons_succ] at c0 c1
  have hb0 := ((HB.out.trans (hb1.mono HB.out.size)).setCell (p := ⟨w.heap.size, 0, none⟩) (Nat.le_refl _) (.func (.func 166) #[] #[])).setCell (p := ⟨w.heap.size, 1, none⟩) (Nat.le_refl _) (.func (.func 167) #[] #[])
  have hs1 := set_blk (set_blk h2 0 (.func (.func 166) #[] #[])) 1 (.func (.func 167) #[] #[])
  have q0 := (block_cells hs1).1 0
  have q1 := (block_cells hs1).1 1
  simp only [List.setIfInBounds_toArray, List.set_cons_zero, List.set_cons_succ, List.getElem?_toArray, List.getElem?_cons_zero, List.getElem?_cons_succ] at q0 q1
  clear cc
  go_wp2
  refine bodyPost_ret (v := .agg #[.func (.func 166) #[] #[], .func (.func 167) #[] #[]]) (by simp [results, Try.results118, go_sem, q0, q1]) rfl ?_
  exact ⟨_, rfl, hb0⟩

set_option maxRecDepth 20000 in
theorem fields_r4 (w : World) : Calls Try.prog 118 #[.int .i64 4] w fun e w' => ∃ g, e = .returned (.agg #[.func (.func 166) #[] #[], g]) ∧ Below w.heap.size w w' := by
  have hb0 := (Below.refl w.heap.size w).alloc (Nat.le_refl _) (.cells #[.nilFunc, .nilFunc] 156)
  have hblk := heap_alloc_new w (.cells #[.nilFunc, .nilFunc] 156)
  have kr := Lib.hid (fun w => regs_any w)
  have HW := Lib.hid hblk
  have HB := Lib.hid hb0
  clear hblk hb0
  go_enter Try.func118, Try.ntmps118
  go_wp2_with fail
  refine (kr.out _).mono ?_
  rintro e w1 ⟨rfl, hb1⟩
  have h2 := (hb1.block w.heap.size (by simp)).trans HW.out
  have cc := (block_cells h2).1
  have c0 := cc 0
  have c1 := cc 1
  have f0 := (block_cells h2).2 0
  have f1 := (block_cells h2).2 1
  simp only [List.getElem?_toArray, List.getElem?_cons_zero, List.getElem?_cons_succ] at c0 c1
  have hb0 := ((HB.out.trans (hb1.mono HB.out.size)).setCell (p := ⟨w.heap.size, 0, none⟩) (Nat.le_refl _) (.func (.func 166) #[] #[])).setCell (p := ⟨w.heap.size, 1, none⟩) (Nat.le_refl _) (.func (.func 167) #[] #[])
  have hs1 := set_blk (set_blk h2 0 (.func (.func 166) #[] #[])) 1 (.func (.func 167) #[] #[])
  have q0 := (block_cells hs1).1 0
  have q1 := (block_cells hs1).1 1
  simp only [List.setIfInBounds_toArray, List.set_cons_zero, List.set_cons_succ, List.getElem?_toArray, List.getElem?_cons_zero, List.getElem?_cons_succ] at q0 q1
  clear cc
  go_wp2
  refine bodyPost_ret (v := .agg #[.func (.func 166) #[] #[], .func (.func 167) #[] #[]]) (by simp [results, Try.results118, go_sem, q0, q1]) rfl ?_
  exact ⟨_, rfl, hb0⟩

end Go.Proofs.Ytdjbcmfjlfkcjaa


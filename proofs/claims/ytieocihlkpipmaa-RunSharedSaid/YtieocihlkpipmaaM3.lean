/- The walk of run.Run. The walk of run.After. The walks of narcissusref01.Depth and tree.Depth. The walks of narcissusref01's nodes: Size, First, Rest, Text, Cons, Read. The reference's machine and states in memory. The walks of narcissusref01.List, Items, Same. The walks of narcissusref03.Ended and SameState. The walk of narcissusref03.Fits. The walk of narcissusref03.Step: each operation. narcissusref03.Step, put together. -/
import Derived.Test.YtieocihlkpipmaaM2
import Derived.Test.YtieocihlkpipmaaM1
import Derived.StillTailTactics
namespace Go.Proofs.Ytieocihlkpipmaa
open Go.RowKit Go.Shelf
attribute [local go_sem] Oper.semAt_some

/-- What Run hands back. -/
def RunOut (w : World) (y : ByteArray) (k : Nat) (er : Int) (e : Ending) (w' : World) : Prop := e = .returned (.tuple #[.string y, .int .i64 k, .int .i64 er]) ∧ Below w.heap.size w w'

theorem els_blk {g b : Nat} {A B : World} {o : Obj} (h : Els g A B) (hne : b ≠ g) (hc : A.heap[b]? = some o) : B.heap[b]? = some o :=
  (h.block b (Array.getElem?_eq_some_iff.1 hc).1 hne).trans hc
theorem below_blk {n b : Nat} {A B : World} {o : Obj} (h : Below n A B) (hc : A.heap[b]? = some o) (hn : b < n) : B.heap[b]? = some o := (h.block b hn).trans hc
theorem grown_blk {b : Nat} {A B : World} {row : Option Nat} {cs : Array Value} {T : Nat} {fr : Nat × Nat} (hg : A.grownBy B row) (hr : ∀ r, row = some r → ∃ o : Obj, A.heap[r]? = some o ∧ o.isCells = false) (hc : A.heap[b]? = some (.cells cs T fr)) : B.heap[b]? = some (.cells cs T fr) :=
  (grownBy_keeps_cells hg hr hc rfl).trans hc

/-- What Run's own variables hold. -/
structure RunC (w : World) (bm : Nat) (mv : Value) (fuel : Int) (y : ByteArray) (k er : Int) (W : World) : Prop where
  f : W.heap[w.heap.size]? = some (.cells #[.int .i64 fuel] 3 (0, 0))
  y : W.heap[w.heap.size + 1]? = some (.cells #[.string y] 9 (0, 0))
  k : W.heap[w.heap.size + 1 + 1]? = some (.cells #[.int .i64 k] 3 (0, 0))
  e : W.heap[w.heap.size + 1 + 1 + 1]? = some (.cells #[.int .i64 er] 25 (0, 0))
  m : W.heap[bm]? = some (.cells #[mv] 91 (0, 0))
  b : Below w.heap.size w W
theorem RunC.els {w : World} {bm : Nat} {mv : Value} {fuel : Int} {y : ByteArray} {k er : Int} {A B : World} (h : RunC w bm mv fuel y k er A) {g : Nat} (hE : Els g A B) (hg : w.heap.size + 1 + 1 + 1 < g) (hm : bm ≠ g) : RunC w bm mv fuel y k er B :=
  ⟨els_blk hE (by omega) h.f, els_blk hE (by omega) h.y, els_blk hE (by omega) h.k, els_blk hE (by omega) h.e, els_blk hE hm h.m, h.b.trans (hE.below (by omega) h.b.size)⟩
theorem RunC.grown {w : World} {bm : Nat} {mv : Value} {fuel : Int} {y : ByteArray} {k er : Int} {A B : World} {row : Option Nat} (h : RunC w bm mv fuel y k er A) (hg : A.grownBy B row) (hr : ∀ r, row = some r → w.heap.size ≤ r ∧ ∃ o : Obj, A.heap[r]? = some o ∧ o.isCells = false) : RunC w bm mv fuel y k er B :=
  have hr' := fun r e => (hr r e).2
  ⟨grown_blk hg hr' h.f, grown_blk hg hr' h.y, grown_blk hg hr' h.k, grown_blk hg hr' h.e, grown_blk hg hr' h.m, h.b.grown hg h.b.size (fun k e => (hr k e).1)⟩

theorem RunC.put {w W : World} {bm : Nat} {mv : Value} {fuel : Int} {y0 : ByteArray} {k0 e0 : Int} (h : RunC w bm mv fuel y0 k0 e0 W) (hbm : w.heap.size + 1 + 1 + 1 < bm) (y : ByteArray) (k er : Int) :
    KeepsOthers W (((W.setCell ⟨w.heap.size + 1, 0, none⟩ (.string y)).setCell ⟨w.heap.size + 1 + 1, 0, none⟩ (.int .i64 k)).setCell ⟨w.heap.size + 1 + 1 + 1, 0, none⟩ (.int .i64 er)) ∧
    RunC w bm mv fuel y k er (((W.setCell ⟨w.heap.size + 1, 0, none⟩ (.string y)).setCell ⟨w.heap.size + 1 + 1, 0, none⟩ (.int .i64 k)).setCell ⟨w.heap.size + 1 + 1 + 1, 0, none⟩ (.int .i64 er)) := by
  refine ⟨((KeepsOthers.setCell _ _ _).trans (KeepsOthers.setCell _ _ _)).trans (KeepsOthers.setCell _ _ _), ?_⟩
  have e1 : ∀ (V : World) (b : Nat) (o : Obj) (c : Nat) (u : Value), b ≠ c → V.heap[b]? = some o → (V.setCell ⟨c, 0, none⟩ u).heap[b]? = some o := fun V b o c u hne h => (Below.heap_setCell _ _ _ _ (by show b ≠ c; exact hne)).trans h
  refine ⟨e1 _ _ _ _ _ (by omega) (e1 _ _ _ _ _ (by omega) (e1 _ _ _ _ _ (by omega) h.f)), e1 _ _ _ _ _ (by omega) (e1 _ _ _ _ _ (by omega) ?_), e1 _ _ _ _ _ (by omega) ?_, ?_, e1 _ _ _ _ _ (by omega) (e1 _ _ _ _ _ (by omega) (e1 _ _ _ _ _ (by omega) h.m)), ?_⟩
  · exact set_blk h.y 0 _
  · exact set_blk (e1 _ _ _ _ _ (by omega) h.k) 0 _
  · exact set_blk (e1 _ _ _ _ _ (by omega) (e1 _ _ _ _ _ (by omega) h.e)) 0 _
  · exact ((h.b.setCell (p := ⟨w.heap.size + 1, 0, none⟩) (by show w.heap.size ≤ w.heap.size + 1; omega) _).setCell (p := ⟨w.heap.size + 1 + 1, 0, none⟩) (by show w.heap.size ≤ w.heap.size + 1 + 1; omega) _).setCell (p := ⟨w.heap.size + 1 + 1 + 1, 0, none⟩) (by show w.heap.size ≤ w.heap.size + 1 + 1 + 1; omega) _
theorem RunC.below {w : World} {bm : Nat} {mv : Value} {fuel : Int} {y : ByteArray} {k er : Int} {A B : World} (h : RunC w bm mv fuel y k er A) (hE : Below A.heap.size A B) : RunC w bm mv fuel y k er B := by
  have q : ∀ (b : Nat) (o : Obj), A.heap[b]? = some o → B.heap[b]? = some o := fun b o ho => below_blk hE ho (Array.getElem?_eq_some_iff.1 ho).1
  exact ⟨q _ _ h.f, q _ _ h.y, q _ _ h.k, q _ _ h.e, q _ _ h.m, h.b.trans (hE.mono h.b.size)⟩
theorem below_keeps {A B : World} (h : Below A.heap.size A B) : KeepsOthers A B := ⟨h.size, fun k o hk _ => below_blk h hk (Array.getElem?_eq_some_iff.1 hk).1⟩

/-- Run's variables, before it begins. -/
def RunB0 (w : World) (fuel : Int) (W : World) : Prop :=
  W.heap[w.heap.size]? = some (.cells #[.int .i64 fuel] 3 (0, 0)) ∧ W.heap[w.heap.size + 1]? = some (.cells #[.string ⟨#[]⟩] 9 (0, 0)) ∧ W.heap[w.heap.size + 1 + 1]? = some (.cells #[.int .i64 0] 3 (0, 0)) ∧
  W.heap[w.heap.size + 1 + 1 + 1]? = some (.cells #[.int .i64 0] 25 (0, 0)) ∧ Below w.heap.size w W ∧ W.heap.size = w.heap.size + 1 + 1 + 1 + 1
theorem run_boxes (w : World) (fuel : Int) : RunB0 w fuel ((((w.alloc (.cells #[.int .i64 fuel] 3)).alloc (.cells #[.string ⟨#[]⟩] 9)).alloc (.cells #[.int .i64 0] 3)).alloc (.cells #[.int .i64 0] 25)) := by
  have x0 := heap_alloc_new w (.cells #[.int .i64 fuel] 3)
  have x1 := heap_alloc_new (w.alloc (.cells #[.int .i64 fuel] 3)) (.cells #[.string ⟨#[]⟩] 9)
  have x2 := heap_alloc_new ((w.alloc (.cells #[.int .i64 fuel] 3)).alloc (.cells #[.string ⟨#[]⟩] 9)) (.cells #[.int .i64 0] 3)
  have x3 := heap_alloc_new (((w.alloc (.cells #[.int .i64 fuel] 3)).alloc (.cells #[.string ⟨#[]⟩] 9)).alloc (.cells #[.int .i64 0] 3)) (.cells #[.int .i64 0] 25)
  have y0 := (Below.heap_alloc _ (.cells #[.int .i64 0] 25) _ (by simp only [World.size_alloc]; omega)).trans ((Below.heap_alloc _ (.cells #[.int .i64 0] 3) _ (by simp only [World.size_alloc]; omega)).trans ((Below.heap_alloc _ (.cells #[.string ⟨#[]⟩] 9) _ (by simp)).trans x0))
  have y1 := (Below.heap_alloc _ (.cells #[.int .i64 0] 25) _ (by simp only [World.size_alloc]; omega)).trans ((Below.heap_alloc _ (.cells #[.int .i64 0] 3) _ (by simp)).trans x1)
  have y2 := (Below.heap_alloc _ (.cells #[.int .i64 0] 25) _ (by simp)).trans x2
  simp only [World.size_alloc] at y0 y1 y2 x3
  exact ⟨y0, y1, y2, x3, ((((Below.refl _ w).alloc (Nat.le_refl _) _).alloc (by simp) _).alloc (by simp; omega) _).alloc (by simp; omega) _, by simp⟩
theorem RunB0.below {w W W1 : World} {fuel : Int} (h : RunB0 w fuel W) (hb : Below W.heap.size W W1) :
    W1.heap[w.heap.size]? = some (.cells #[.int .i64 fuel] 3 (0, 0)) ∧ W1.heap[w.heap.size + 1]? = some (.cells #[.string ⟨#[]⟩] 9 (0, 0)) ∧ W1.heap[w.heap.size + 1 + 1]? = some (.cells #[.int .i64 0] 3 (0, 0)) ∧
    W1.heap[w.heap.size + 1 + 1 + 1]? = some (.cells #[.int .i64 0] 25 (0, 0)) ∧ Below w.heap.size w W1 ∧ w.heap.size + 1 + 1 + 1 < W1.heap.size := by
  obtain ⟨y0, y1, y2, y3, hb0, hs⟩ := h
  exact ⟨below_blk hb y0 (by omega), below_blk hb y1 (by omega), below_blk hb y2 (by omega), below_blk hb y3 (by omega), hb0.trans (hb.mono (by omega)), by have := hb.size; omega⟩
theorem RunB0.start {w W w1 : World} {fuel : Int} (h : RunB0 w fuel W) (hb1 : Below W.heap.size W w1) (_ : w.heap.size + 1 + 1 + 1 < w1.heap.size) (mv : Value) :
    RunC w w1.heap.size mv fuel ⟨#[]⟩ 0 0 ((w1.alloc (.cells #[mv] 91)).alloc (.cells #[mv] 91)) := by
  obtain ⟨y0, y1, y2, y3, hb0, hs⟩ := h.below hb1
  have hb2 : Below w1.heap.size w1 ((w1.alloc (.cells #[mv] 91)).alloc (.cells #[mv] 91)) := ((Below.refl _ _).alloc (Nat.le_refl _) _).alloc (by simp) _
  exact ⟨below_blk hb2 y0 (by omega), below_blk hb2 y1 (by omega), below_blk hb2 y2 (by omega), below_blk hb2 y3 (by omega), (Below.heap_alloc _ _ _ (by simp)).trans (heap_alloc_new w1 _), hb0.trans (hb2.mono (by omega))⟩
theorem RunB0.start1 {w W w1 : World} {fuel : Int} (h : RunB0 w fuel W) (hb1 : Below W.heap.size W w1) (mv : Value) :
    RunC w w1.heap.size mv fuel ⟨#[]⟩ 0 0 (w1.alloc (.cells #[mv] 91)) := by
  obtain ⟨y0, y1, y2, y3, hb0, hs⟩ := h.below hb1
  have hb2 : Below w1.heap.size w1 (w1.alloc (.cells #[mv] 91)) := (Below.refl _ _).alloc (Nat.le_refl _) _
  exact ⟨below_blk hb2 y0 (by omega), below_blk hb2 y1 (by omega), below_blk hb2 y2 (by omega), below_blk hb2 y3 (by omega), heap_alloc_new w1 _, hb0.trans (hb2.mono (by omega))⟩

theorem AtK.grown {l : List Ins} {s0 : St} {B g mb : Nat} {pv sv : Value} {w : World} {bm : Nat} {mv : Value} {fuel : Int} {y : ByteArray} {k' er : Int} {k : Nat} {W W' : World} {row : Option Nat} (h : AtK l s0 B g mb pv sv (RunC w bm mv fuel y k' er) k W) (hg : W.grownBy W' row) (hr : ∀ r, row = some r → w.heap.size ≤ r ∧ ∃ o : Obj, W.heap[r]? = some o ∧ o.isCells = false) : AtK l s0 B g mb pv sv (RunC w bm mv fuel y k' er) k W' := by
  obtain ⟨h1, ⟨ps, h2⟩, h3, h4⟩ := h
  exact ⟨h1, ⟨ps, h2.grown hg (fun r e => (hr r e).2)⟩, cell_kept h3 hg (fun r e => (hr r e).2), h4.grown hg hr⟩

set_option maxRecDepth 100000 in
set_option maxHeartbeats 2000000 in
theorem run_ok (v : Value) (l : List Ins) (t : Tr) (ht : t.size ≤ 2000000) (fuel : Nat) (hk1 : fuel ≤ 10000000) (w : World) (hl : InsRow w w.heap.size v l) (hv : validB l = true) (y : ByteArray) (k : Nat) (er : Int) (hres : (goF l fuel 0 (startS t)).run = (y, k, er)) :
    Calls Try.prog 21 #[v, .string (TS t), .int .i64 fuel] w (RunOut w y k er) := by
  have kb := fun w' (h : InsRow w' w'.heap.size v l) => begin_ok v l t ht fuel w' h hv (by omega) (by omega)
  have HG := Lib.hid (Good.start l.length t ht)
  have HV := Lib.hid (validB_all hv)
  have hn4 := validB_len hv
  have HR := Lib.hid hres
  have hl0 := hl
  obtain ⟨ao, cap, rfl⟩ := hl.len
  have hb0 : Below w.heap.size w ((((w.alloc (.cells #[.int .i64 fuel] 3)).alloc (.cells #[.string ⟨#[]⟩] 9)).alloc (.cells #[.int .i64 0] 3)).alloc (.cells #[.int .i64 0] 25)) :=
    ((((Below.refl _ w).alloc (Nat.le_refl _) _).alloc (by simp) _).alloc (by simp; omega) _).alloc (by simp; omega) _
  have kb0 := kb _ ((hl0.below hb0).mono hb0.size)
  obtain ⟨S, hS⟩ : ∃ S, TS t = S := ⟨_, rfl⟩
  rw [hS] at kb0 ⊢
  clear hv hres kb hS hl hl0
  refine (callsIn_wide (n := 5)).1 ?_
  refine callsIn_of_wp_marks Try.func21 rfl trivial ?_ rfl
  simp only [Try.ntmps21, List.size_toArray, List.length_cons, List.length_nil, Nat.reduceAdd, Nat.reduceSub, Array.replicate_succ, Array.replicate_zero, List.push_toArray, List.append_toArray, List.nil_append, List.cons_append]
  gi_wp2_with fail
  refine ⟨trivial, (callsIn_wide.2 kb0).mono ?_⟩
  rintro e w1 ⟨B, g, sv, ps, rfl, hm, hB, hb1⟩
  have hBs : w.heap.size + 1 + 1 + 1 < B := by simp at hB; omega
  have hble := hm.le
  have hglt := hm.lt
  have HM := Lib.hid hm
  clear kb0 hm
  gi_wp2_with fail
  refine ⟨trivial, (callsIn_wide.2 (states_any _ _)).mono ?_⟩
  rintro e w2 ⟨rfl, rfl⟩
  have hb2 : Below w1.heap.size w1 ((w1.alloc (.cells #[.pointer (some ⟨g, 0, none⟩)] 91)).alloc (.cells #[.pointer (some ⟨g, 0, none⟩)] 91)) := ((Below.refl _ _).alloc (Nat.le_refl _) _).alloc (by simp) _
  have hws : w.heap.size + 1 + 1 + 1 < w1.heap.size := by have := hb1.size; simp at this; omega
  have hbw : Below w.heap.size w w1 := hb0.trans (hb1.mono (by simp; omega))
  have hC0 := (run_boxes w fuel).start hb1 hws (.pointer (some ⟨g, 0, none⟩))
  have hA0 : AtK l (startS t) B g (w1.heap.size + 1) (.slice ao l.length cap) sv (RunC w w1.heap.size (.pointer (some ⟨g, 0, none⟩)) fuel ⟨#[]⟩ 0 0) 0 ((w1.alloc (.cells #[.pointer (some ⟨g, 0, none⟩)] 91)).alloc (.cells #[.pointer (some ⟨g, 0, none⟩)] 91)) := by
    refine ⟨Reach.zero _ _, ⟨ps, HM.out.kept hb2⟩, ?_, hC0⟩
    have := heap_alloc_new (w1.alloc (.cells #[.pointer (some ⟨g, 0, none⟩)] 91)) (.cells #[.pointer (some ⟨g, 0, none⟩)] 91)
    rw [World.size_alloc] at this
    exact (block_cells this).1 0
  have HA0 := Lib.hid hA0
  have HB2 := Lib.hid hb2
  clear hA0 hC0 hb2 hb1 hb0
  gi_wp2_with fail
  refine wpIn_rangeFunc_ends (α := Nat × Bool) rfl (by decide) (gf := 93) (lb := #[.pointer (some ⟨w1.heap.size + 1, 0, none⟩)]) rfl trivial (enters_of Try.func93 (by kernel_rfl) rfl)
    (AtK l (startS t) B g (w1.heap.size + 1) (.slice ao l.length cap) sv (RunC w w1.heap.size (.pointer (some ⟨g, 0, none⟩)) fuel ⟨#[]⟩ 0 0) 0)
    (RI fuel l (startS t) B g (w1.heap.size + 1) (.slice ao l.length cap) sv (RunC w w1.heap.size (.pointer (some ⟨g, 0, none⟩)) fuel ⟨#[]⟩ 0 0))
    (RI' fuel l (startS t) B g (w1.heap.size + 1) (.slice ao l.length cap) sv (RunC w w1.heap.size (.pointer (some ⟨g, 0, none⟩)) fuel ⟨#[]⟩ 0 0))
    (fun c W => c = .ret ∧ RunC w w1.heap.size (.pointer (some ⟨g, 0, none⟩)) fuel y k er W)
    (states1_ends _ fuel hk1 l (startS t) B g (w1.heap.size + 1) (by omega) _ sv _ (fun A B h hc => hc.els h (by omega) (by omega)) HG.out HV.out hn4) (fun _ => rfl)
    (fun _ A B row h hg hr => h.grown hg (fun r e => ⟨by have := (hr r e).1; simp at this; omega, (hr r e).2⟩))
    (fun x A B row h hg hr => ⟨h.1, h.2.1.grown hg (fun r e => ⟨by have := (hr r e).1; simp at this; omega, (hr r e).2⟩), h.2.2⟩)
    (fun x A B row h hg hr => ⟨h.1, h.2.1, h.2.2.1, h.2.2.2.grown hg (fun r e => ⟨by have := (hr r e).1; simp at this; omega, (hr r e).2⟩)⟩)
    (fun c _ A B row h hg hr => ⟨h.1, h.2.grown hg (fun r e => ⟨by have := (hr r e).1; simp at this; omega, (hr r e).2⟩)⟩)
    HA0.out
    (fun x => { tmps := #[.slice ao l.length cap, .string S, .int .i64 fuel, undef, undef, .pointer (some ⟨w.heap.size, 0, none⟩), .pointer (some ⟨w.heap.size + 1, 0, none⟩), .pointer (some ⟨w.heap.size + 1 + 1, 0, none⟩), .pointer (some ⟨w.heap.size + 1 + 1 + 1, 0, none⟩), .pointer (some ⟨w1.heap.size, 0, none⟩), .int .i64 0, .int .i64 x.1, .bool x.2,
      .tuple #[.pointer (some ⟨g, 0, none⟩), .int .i64 0], .slice ao l.length cap, .string S, .int .i64 fuel, .tuple #[.pointer (some ⟨g, 0, none⟩), .int .i64 0], .pointer (some ⟨g, 0, none⟩), .int .i64 0, .int .i64 0, .bool false, undef, .pointer (some ⟨g, 0, none⟩), .func (.func 93) #[] #[.pointer (some ⟨w1.heap.size + 1, 0, none⟩)],
      .int .i64 x.1, .bool x.2, undef, undef, undef, undef, undef, undef, undef, undef, undef, undef, undef, undef, undef, undef, undef, undef], defers := [] }) ?assign ?body ?stop
  case assign =>
    intro lr x W K hK
    gi_wp2
    exact hK
  case stop =>
    rintro D c W hD ⟨rfl, hc⟩ hK
    have hc' := hc.grown (grownBy_putObj' W D (.deferred none)) (fun r e => by cases e; exact ⟨by simp at hD; omega, _, hK, rfl⟩)
    have q1 := (block_cells hc'.y).1 0
    have q2 := (block_cells hc'.k).1 0
    have q3 := (block_cells hc'.e).1 0
    simp only [List.getElem?_toArray, List.getElem?_cons_zero] at q1 q2 q3
    gi_wp2
    refine ⟨by simp, .inl ⟨_, _, rfl, run_takeDeferred hK, ?_⟩⟩
    refine ⟨.tuple #[.string y, .int .i64 k, .int .i64 er], ?_, rfl, hc'.b⟩
    simp [results, Try.f21, go_sem, q1, q2, q3]
  case body =>
    rintro lr ⟨k1, b⟩ W hI
    obtain ⟨hk1', ⟨hre, ⟨ps1, hm1⟩, hmb, hC⟩, hbig⟩ := hI
    dsimp only at hk1' hre hm1 hbig
    have c0 := (block_cells hC.f).1 0
    have c1 := (block_cells hC.y).1 0
    have c2 := (block_cells hC.k).1 0
    have c3 := (block_cells hC.e).1 0
    have c4 := (block_cells hC.m).1 0
    have f1 := (block_cells hC.y).2 0
    have f2 := (block_cells hC.k).2 0
    have f3 := (block_cells hC.e).2 0
    simp only [List.getElem?_toArray, List.getElem?_cons_zero] at c0 c1 c2 c3 c4
    have hgk := hre.good HV.out HG.out
    have HRE := Lib.hid hre
    have HC := Lib.hid hC
    have HBIG := Lib.hid hbig
    clear hre hC hbig
    cases b with
    | true =>
      have hfin : Hid (y = ⟨#[]⟩ ∧ k = 0 ∧ er = 3) := by
        obtain ⟨h1, h2, h3⟩ := HBIG.out rfl
        have hr := HR.out
        rw [HRE.out.goF fuel hk1', show fuel - k1 = (fuel - k1 - 1) + 1 by omega, goF_big h2 h3] at hr
        simp only [Res.run, Prod.mk.injEq] at hr
        exact ⟨hr.1.symm, hr.2.1.symm, hr.2.2.symm⟩
      clear hm1 hgk
      obtain ⟨rfl, rfl, rfl⟩ := hfin.out
      gi_wp2
      obtain ⟨z1, z2⟩ := HC.out.put hws ⟨#[]⟩ 0 3
      exact ⟨z1, rfl, z2⟩
    | false =>
      cases hp : ((stN l (startS t) k1).pos : Int) == (l.length : Int) with
      | true =>
        have ke := ended_at _ W B g l _ _ sv ps1 hm1 hgk hp
        have hpos : (stN l (startS t) k1).pos = l.length := by have := eq_of_beq hp; omega
        obtain ⟨tr, htr⟩ : ∃ tr, (stN l (startS t) k1).regs[0]? = some tr := ⟨_, List.getElem?_eq_getElem (by rw [hgk.2.1]; omega)⟩
        have hfin : Hid (y = TS tr ∧ k = k1 ∧ er = 0) := by
          have hr := HR.out
          rw [HRE.out.goF fuel hk1', goF_done hpos] at hr
          simp only [Res.run, Prod.mk.injEq, getR_nat (r := 0) htr] at hr
          exact ⟨by rw [← hr.1]; exact (congrArg TS (getR_nat (r := 0) htr)), hr.2.1.symm, hr.2.2.symm⟩
        obtain ⟨rfl, rfl, rfl⟩ := hfin.out
        obtain ⟨_, _, _, hrg, _⟩ := hm1.cells hgk.2.1
        obtain ⟨q, cq, nq⟩ := hrg 0 tr htr
        have hts := hgk.2.2 tr (List.mem_of_getElem? htr)
        have HQ := Lib.hid nq
        have kt : ∀ w', Below W.heap.size W w' → Calls Try.prog 71 #[.pointer q] w' fun e w'' => e = .returned (.string (TS tr)) ∧ Below W.heap.size W w'' := fun w' hb' =>
          (nodeText_any tr _ w' (HQ.out.kept (Kept.below hb')) hts).mono fun e w'' h => ⟨h.1, hb'.trans (h.2.mono hb'.size)⟩
        have hgl := hm1.lt
        clear hp hpos hrg hm1 hgk nq
        gi_wp2_with fail
        refine ⟨trivial, CallsIn.inRound lr ((callsIn_wide.2 ke).mono ?_)⟩
        rintro e W1 ⟨rfl, hb1⟩
        have HC1 := Lib.hid (HC.out.below hb1)
        have c0 := (block_cells HC1.out.f).1 0
        have c1 := (block_cells HC1.out.y).1 0
        have c2 := (block_cells HC1.out.k).1 0
        have c3 := (block_cells HC1.out.e).1 0
        have c4 := (block_cells HC1.out.m).1 0
        have f1 := (block_cells HC1.out.y).2 0
        have f2 := (block_cells HC1.out.k).2 0
        have f3 := (block_cells HC1.out.e).2 0
        simp only [List.getElem?_toArray, List.getElem?_cons_zero] at c0 c1 c2 c3 c4
        have cq1 := (hb1.cell (p := ⟨g, 2 + 0, none⟩) hgl).trans cq
        have kt1 := kt _ hb1
        clear kt ke cq
        gi_wp2_with fail
        refine ⟨trivial, CallsIn.inRound lr ((callsIn_wide.2 kt1).mono ?_)⟩
        rintro e W2 ⟨rfl, hb2⟩
        have HC2 := Lib.hid (HC.out.below hb2)
        have c0 := (block_cells HC2.out.f).1 0
        have c1 := (block_cells HC2.out.y).1 0
        have c2 := (block_cells HC2.out.k).1 0
        have c3 := (block_cells HC2.out.e).1 0
        have f1 := (block_cells HC2.out.y).2 0
        have f2 := (block_cells HC2.out.k).2 0
        have f3 := (block_cells HC2.out.e).2 0
        simp only [List.getElem?_toArray, List.getElem?_cons_zero] at c0 c1 c2 c3
        have HKO := Lib.hid (below_keeps hb2)
        obtain ⟨Y, hY⟩ : ∃ Y, TS tr = Y := ⟨_, rfl⟩
        rw [hY]
        have HY := Lib.hid hY
        clear hY kt1 c4 hb1 hb2 cq1
        gi_wp2
        obtain ⟨z1, z2⟩ := HC2.out.put hws Y k 0
        exact ⟨HKO.out.trans z1, rfl, by rw [HY.out]; exact z2⟩
      | false =>
        have ke := ended_at _ W B g l _ _ sv ps1 hm1 hgk hp
        have hpos : (stN l (startS t) k1).pos ≠ l.length := by
          intro h
          rw [h] at hp
          simp at hp
        have HP := Lib.hid hpos
        have HM1 := Lib.hid hm1
        by_cases hkf : k1 = fuel
        · have hfin : Hid (y = ⟨#[]⟩ ∧ k = 0 ∧ er = 7) := by
            have hr := HR.out
            rw [HRE.out.goF fuel hk1', hkf, Nat.sub_self, goF_zero (by rw [← hkf]; exact HP.out)] at hr
            simp only [Res.run, Prod.mk.injEq] at hr
            exact ⟨hr.1.symm, hr.2.1.symm, hr.2.2.symm⟩
          obtain ⟨rfl, rfl, rfl⟩ := hfin.out
          have hkk : ((k1 : Int) == (fuel : Int)) = true := by rw [hkf]; simp
          clear hp hpos hgk hm1 hkf
          gi_wp2_with fail
          refine ⟨trivial, CallsIn.inRound lr ((callsIn_wide.2 ke).mono ?_)⟩
          rintro e W1 ⟨rfl, hb1⟩
          have HC1 := Lib.hid (HC.out.below hb1)
          have HKO := Lib.hid (below_keeps hb1)
          have c0 := (block_cells HC1.out.f).1 0
          have c1 := (block_cells HC1.out.y).1 0
          have c2 := (block_cells HC1.out.k).1 0
          have c3 := (block_cells HC1.out.e).1 0
          have f1 := (block_cells HC1.out.y).2 0
          have f2 := (block_cells HC1.out.k).2 0
          have f3 := (block_cells HC1.out.e).2 0
          simp only [List.getElem?_toArray, List.getElem?_cons_zero] at c0 c1 c2 c3
          clear ke hb1
          gi_wp2
          obtain ⟨z1, z2⟩ := HC1.out.put hws ⟨#[]⟩ 0 7
          exact ⟨HKO.out.trans z1, rfl, z2⟩
        · have hkk : ((k1 : Int) == (fuel : Int)) = false := by rw [beq_eq_false_iff_ne]; omega
          have hlt : k1 < fuel := by omega
          clear hp hpos hgk hm1 hkf
          gi_wp2_with fail
          refine ⟨trivial, CallsIn.inRound lr ((callsIn_wide.2 ke).mono ?_)⟩
          rintro e W1 ⟨rfl, hb1⟩
          have HC1 := Lib.hid (HC.out.below hb1)
          have HKO := Lib.hid (below_keeps hb1)
          have HB1 := Lib.hid hb1
          have HMB := Lib.hid hmb
          have c0 := (block_cells HC1.out.f).1 0
          simp only [List.getElem?_toArray, List.getElem?_cons_zero] at c0
          clear ke hb1 hmb
          gi_wp2
          refine ⟨HKO.out, hlt, rfl, HP.out, HRE.out, ⟨ps1, HM1.out.kept HB1.out⟩, ?_, HC1.out⟩
          have : w1.heap.size + 1 < W.heap.size := by
            obtain ⟨o, ho, _⟩ := cells_of_cell HMB.out
            exact (Array.getElem?_eq_some_iff.1 ho).1
          exact (HB1.out.cell (p := ⟨w1.heap.size + 1, 0, none⟩) this).trans HMB.out

set_option maxHeartbeats 1000000 in
theorem run_bad (v : Value) (l : List Ins) (s : ByteArray) (fuel : Int) (w : World) (er : Int) (hl : InsRow w w.heap.size v l) (her : er = 1 ∨ er = 2)
    (kb : ∀ w', InsRow w' w'.heap.size v l → Calls Try.prog 68 #[v, .string s, .int .i64 fuel] w' fun e w'' => e = .returned (.tuple #[.pointer none, .int .i64 er]) ∧ Below w'.heap.size w' w'') :
    Calls Try.prog 21 #[v, .string s, .int .i64 fuel] w (RunOut w ⟨#[]⟩ 0 er) := by
  have hl0 := hl
  obtain ⟨ao, cap, rfl⟩ := hl.len
  have hb0 : Below w.heap.size w ((((w.alloc (.cells #[.int .i64 fuel] 3)).alloc (.cells #[.string ⟨#[]⟩] 9)).alloc (.cells #[.int .i64 0] 3)).alloc (.cells #[.int .i64 0] 25)) :=
    ((((Below.refl _ w).alloc (Nat.le_refl _) _).alloc (by simp) _).alloc (by simp; omega) _).alloc (by simp; omega) _
  have kb0 := kb _ ((hl0.below hb0).mono hb0.size)
  clear kb hl hl0
  have hne : (er != 0) = true := by rw [bne_iff_ne]; omega
  clear her
  go_enter Try.func21, Try.ntmps21
  go_wp2_with fail
  refine kb0.mono ?_
  rintro e w1 ⟨rfl, hb1⟩
  have hws : w.heap.size + 1 + 1 + 1 < w1.heap.size := by have := hb1.size; simp at this; omega
  have HC := Lib.hid ((run_boxes w fuel).start1 hb1 (.pointer none))
  have c0 := (block_cells HC.out.f).1 0
  have c1 := (block_cells HC.out.y).1 0
  have c2 := (block_cells HC.out.k).1 0
  have c3 := (block_cells HC.out.e).1 0
  have f1 := (block_cells HC.out.y).2 0
  have f2 := (block_cells HC.out.k).2 0
  have f3 := (block_cells HC.out.e).2 0
  simp only [List.getElem?_toArray, List.getElem?_cons_zero] at c0 c1 c2 c3
  clear kb0 hb1 hb0
  go_wp2
  obtain ⟨z1, z2⟩ := HC.out.put hws ⟨#[]⟩ 0 er
  have q1 := (block_cells z2.y).1 0
  have q2 := (block_cells z2.k).1 0
  have q3 := (block_cells z2.e).1 0
  simp only [List.getElem?_toArray, List.getElem?_cons_zero] at q1 q2 q3
  refine bodyPost_ret (v := .tuple #[.string ⟨#[]⟩, .int .i64 0, .int .i64 er]) (by simp [results, Try.results21, go_sem, q1, q2, q3]) rfl ?_
  exact ⟨rfl, z2.b⟩

end Go.Proofs.Ytieocihlkpipmaa

namespace Go.Proofs.Ytieocihlkpipmaa
open Go.RowKit Go.Shelf
attribute [local go_sem] Oper.semAt_some

/-- What After hands back. -/
def Res.after : Res → Int × List ByteArray × Nat × Int
  | .done s n => (s.pos, s.regs.map TS, n, 0)
  | .fuel s n => (s.pos, s.regs.map TS, n, 0)
  | .big => (0, [], 0, 3)
def AftOut (w : World) (n : Int) (L : List ByteArray) (k : Nat) (er : Int) (e : Ending) (w' : World) : Prop := ∃ v, e = .returned (.tuple #[.agg #[.int .i64 n, v], .int .i64 k, .int .i64 er]) ∧ StrRow w' w'.heap.size v L ∧ Below w.heap.size w w'

/-- What After's own variables hold. -/
structure AftC (w : World) (bm : Nat) (mv : Value) (fuel : Int) (n : Int) (u : Value) (k er : Int) (W : World) : Prop where
  f : W.heap[w.heap.size]? = some (.cells #[.int .i64 fuel] 3 (0, 0))
  y : W.heap[w.heap.size + 1]? = some (.cells #[.int .i64 n, u] 53 (0, 0))
  k : W.heap[w.heap.size + 1 + 1]? = some (.cells #[.int .i64 k] 3 (0, 0))
  e : W.heap[w.heap.size + 1 + 1 + 1]? = some (.cells #[.int .i64 er] 25 (0, 0))
  m : W.heap[bm]? = some (.cells #[mv] 91 (0, 0))
  b : Below w.heap.size w W
theorem AftC.els {w : World} {bm : Nat} {mv : Value} {fuel : Int} {n : Int} {u : Value} {k er : Int} {A B : World} (h : AftC w bm mv fuel n u k er A) {g : Nat} (hE : Els g A B) (hg : w.heap.size + 1 + 1 + 1 < g) (hm : bm ≠ g) : AftC w bm mv fuel n u k er B :=
  ⟨els_blk hE (by omega) h.f, els_blk hE (by omega) h.y, els_blk hE (by omega) h.k, els_blk hE (by omega) h.e, els_blk hE hm h.m, h.b.trans (hE.below (by omega) h.b.size)⟩
theorem AftC.grown {w : World} {bm : Nat} {mv : Value} {fuel : Int} {n : Int} {u : Value} {k er : Int} {A B : World} {row : Option Nat} (h : AftC w bm mv fuel n u k er A) (hg : A.grownBy B row) (hr : ∀ r, row = some r → w.heap.size ≤ r ∧ ∃ o : Obj, A.heap[r]? = some o ∧ o.isCells = false) : AftC w bm mv fuel n u k er B :=
  have hr' := fun r e => (hr r e).2
  ⟨grown_blk hg hr' h.f, grown_blk hg hr' h.y, grown_blk hg hr' h.k, grown_blk hg hr' h.e, grown_blk hg hr' h.m, h.b.grown hg h.b.size (fun k e => (hr k e).1)⟩

theorem AftC.put {w W : World} {bm : Nat} {mv : Value} {fuel : Int} {n0 : Int} {u0 : Value} {k0 e0 : Int} (h : AftC w bm mv fuel n0 u0 k0 e0 W) (hbm : w.heap.size + 1 + 1 + 1 < bm) (n : Int) (u : Value) (k er : Int) :
    KeepsOthers W ((((W.setCell ⟨w.heap.size + 1, 0, none⟩ (.int .i64 n)).setCell ⟨w.heap.size + 1, 1, none⟩ u).setCell ⟨w.heap.size + 1 + 1, 0, none⟩ (.int .i64 k)).setCell ⟨w.heap.size + 1 + 1 + 1, 0, none⟩ (.int .i64 er)) ∧
    AftC w bm mv fuel n u k er ((((W.setCell ⟨w.heap.size + 1, 0, none⟩ (.int .i64 n)).setCell ⟨w.heap.size + 1, 1, none⟩ u).setCell ⟨w.heap.size + 1 + 1, 0, none⟩ (.int .i64 k)).setCell ⟨w.heap.size + 1 + 1 + 1, 0, none⟩ (.int .i64 er)) := by
  refine ⟨(((KeepsOthers.setCell _ _ _).trans (KeepsOthers.setCell _ _ _)).trans (KeepsOthers.setCell _ _ _)).trans (KeepsOthers.setCell _ _ _), ?_⟩
  have e1 : ∀ (V : World) (b : Nat) (o : Obj) (c j : Nat) (u : Value), b ≠ c → V.heap[b]? = some o → (V.setCell ⟨c, j, none⟩ u).heap[b]? = some o := fun V b o c j u hne h => (Below.heap_setCell _ _ _ _ (by show b ≠ c; exact hne)).trans h
  refine ⟨e1 _ _ _ _ _ _ (by omega) (e1 _ _ _ _ _ _ (by omega) (e1 _ _ _ _ _ _ (by omega) (e1 _ _ _ _ _ _ (by omega) h.f))), e1 _ _ _ _ _ _ (by omega) (e1 _ _ _ _ _ _ (by omega) ?_), e1 _ _ _ _ _ _ (by omega) ?_, ?_, e1 _ _ _ _ _ _ (by omega) (e1 _ _ _ _ _ _ (by omega) (e1 _ _ _ _ _ _ (by omega) (e1 _ _ _ _ _ _ (by omega) h.m))), ?_⟩
  · exact set_blk (set_blk h.y 0 _) 1 _
  · exact set_blk (e1 _ _ _ _ _ _ (by omega) (e1 _ _ _ _ _ _ (by omega) h.k)) 0 _
  · exact set_blk (e1 _ _ _ _ _ _ (by omega) (e1 _ _ _ _ _ _ (by omega) (e1 _ _ _ _ _ _ (by omega) h.e))) 0 _
  · exact (((h.b.setCell (p := ⟨w.heap.size + 1, 0, none⟩) (by show w.heap.size ≤ w.heap.size + 1; omega) _).setCell (p := ⟨w.heap.size + 1, 1, none⟩) (by show w.heap.size ≤ w.heap.size + 1; omega) _).setCell (p := ⟨w.heap.size + 1 + 1, 0, none⟩) (by show w.heap.size ≤ w.heap.size + 1 + 1; omega) _).setCell (p := ⟨w.heap.size + 1 + 1 + 1, 0, none⟩) (by show w.heap.size ≤ w.heap.size + 1 + 1 + 1; omega) _
/-- The row of the registers stands while the results are stored. -/
theorem AftC.putRow {w W : World} {bm : Nat} {mv : Value} {fuel : Int} {n0 : Int} {u0 : Value} {k0 e0 : Int} (h : AftC w bm mv fuel n0 u0 k0 e0 W) (hu0 : ∀ s, u0 ≠ .string s) (n : Int) (v u : Value) (hv : ∀ s, v ≠ .string s) (k er : Int) {L : List ByteArray} (hr : StrRow W W.heap.size u L) :
    StrRow ((((W.setCell ⟨w.heap.size + 1, 0, none⟩ (.int .i64 n)).setCell ⟨w.heap.size + 1, 1, none⟩ v).setCell ⟨w.heap.size + 1 + 1, 0, none⟩ (.int .i64 k)).setCell ⟨w.heap.size + 1 + 1 + 1, 0, none⟩ (.int .i64 er))
      ((((W.setCell ⟨w.heap.size + 1, 0, none⟩ (.int .i64 n)).setCell ⟨w.heap.size + 1, 1, none⟩ v).setCell ⟨w.heap.size + 1 + 1, 0, none⟩ (.int .i64 k)).setCell ⟨w.heap.size + 1 + 1 + 1, 0, none⟩ (.int .i64 er)).heap.size u L := by
  have hs : ((((W.setCell ⟨w.heap.size + 1, 0, none⟩ (.int .i64 n)).setCell ⟨w.heap.size + 1, 1, none⟩ v).setCell ⟨w.heap.size + 1 + 1, 0, none⟩ (.int .i64 k)).setCell ⟨w.heap.size + 1 + 1 + 1, 0, none⟩ (.int .i64 er)).heap.size = W.heap.size := by simp [World.setCell]
  rw [hs]
  have e1 : ∀ (V : World) (b : Nat) (o : Obj) (c j : Nat) (u : Value), b ≠ c → V.heap[b]? = some o → (V.setCell ⟨c, j, none⟩ u).heap[b]? = some o := fun V b o c j u hne h => (Below.heap_setCell _ _ _ _ (by show b ≠ c; exact hne)).trans h
  have two : ∀ (x y : Value), (∀ s, x ≠ .string s) → (∀ s, y ≠ .string s) → ∀ (j : Nat) (s : ByteArray), (#[x, y] : Array Value)[j]? ≠ some (.string s) := by
    intro x y hx hy j s e
    match j with
    | 0 => simp at e; exact hx s e
    | 1 => simp at e; exact hy s e
    | j + 2 => simp at e
  have one : ∀ (x : Value), (∀ s, x ≠ .string s) → ∀ (j : Nat) (s : ByteArray), (#[x] : Array Value)[j]? ≠ some (.string s) := by
    intro x hx j s e
    match j with
    | 0 => simp at e; exact hx s e
    | j + 1 => simp at e
  have b1 := set_blk h.y 0 (.int .i64 n)
  simp only [List.setIfInBounds_toArray, List.set_cons_zero] at b1
  refine (((hr.set h.y (two _ _ (by simp) hu0) 0 _).set b1 (two _ _ (by simp) hu0) 1 _).set (e1 _ _ _ _ _ _ (by omega) (e1 _ _ _ _ _ _ (by omega) h.k)) (one _ (by simp)) 0 _).set (e1 _ _ _ _ _ _ (by omega) (e1 _ _ _ _ _ _ (by omega) (e1 _ _ _ _ _ _ (by omega) h.e))) (one _ (by simp)) 0 _
theorem StrRow.grown {W W' : World} {row : Option Nat} {v : Value} {L : List ByteArray} (h : StrRow W W.heap.size v L) (hg : W.grownBy W' row) (hr : ∀ r, row = some r → ∃ o : Obj, W.heap[r]? = some o ∧ o.isCells = false) : StrRow W' W'.heap.size v L := by
  obtain ⟨h1, h2, h3⟩ := h
  refine ⟨h1, h2, ?_⟩
  rcases h3 with h3 | ⟨g, off, cap, hv, hlt, hc⟩
  · exact .inl h3
  · exact .inr ⟨g, off, cap, hv, by have := hg.size; omega, fun j s hj => cell_kept (hc j s hj) hg hr⟩
theorem AftC.below {w : World} {bm : Nat} {mv : Value} {fuel : Int} {n : Int} {u : Value} {k er : Int} {A B : World} (h : AftC w bm mv fuel n u k er A) (hE : Below A.heap.size A B) : AftC w bm mv fuel n u k er B := by
  have q : ∀ (b : Nat) (o : Obj), A.heap[b]? = some o → B.heap[b]? = some o := fun b o ho => below_blk hE ho (Array.getElem?_eq_some_iff.1 ho).1
  exact ⟨q _ _ h.f, q _ _ h.y, q _ _ h.k, q _ _ h.e, q _ _ h.m, h.b.trans (hE.mono h.b.size)⟩
/-- After's variables, before it begins. -/
def AftB0 (w : World) (fuel : Int) (W : World) : Prop :=
  W.heap[w.heap.size]? = some (.cells #[.int .i64 fuel] 3 (0, 0)) ∧ W.heap[w.heap.size + 1]? = some (.cells #[.int .i64 0, .slice none 0 0] 53 (0, 0)) ∧ W.heap[w.heap.size + 1 + 1]? = some (.cells #[.int .i64 0] 3 (0, 0)) ∧
  W.heap[w.heap.size + 1 + 1 + 1]? = some (.cells #[.int .i64 0] 25 (0, 0)) ∧ Below w.heap.size w W ∧ W.heap.size = w.heap.size + 1 + 1 + 1 + 1
theorem aft_boxes (w : World) (fuel : Int) : AftB0 w fuel ((((w.alloc (.cells #[.int .i64 fuel] 3)).alloc (.cells #[.int .i64 0, .slice none 0 0] 53)).alloc (.cells #[.int .i64 0] 3)).alloc (.cells #[.int .i64 0] 25)) := by
  have x0 := heap_alloc_new w (.cells #[.int .i64 fuel] 3)
  have x1 := heap_alloc_new (w.alloc (.cells #[.int .i64 fuel] 3)) (.cells #[.int .i64 0, .slice none 0 0] 53)
  have x2 := heap_alloc_new ((w.alloc (.cells #[.int .i64 fuel] 3)).alloc (.cells #[.int .i64 0, .slice none 0 0] 53)) (.cells #[.int .i64 0] 3)
  have x3 := heap_alloc_new (((w.alloc (.cells #[.int .i64 fuel] 3)).alloc (.cells #[.int .i64 0, .slice none 0 0] 53)).alloc (.cells #[.int .i64 0] 3)) (.cells #[.int .i64 0] 25)
  have y0 := (Below.heap_alloc _ (.cells #[.int .i64 0] 25) _ (by simp only [World.size_alloc]; omega)).trans ((Below.heap_alloc _ (.cells #[.int .i64 0] 3) _ (by simp only [World.size_alloc]; omega)).trans ((Below.heap_alloc _ (.cells #[.int .i64 0, .slice none 0 0] 53) _ (by simp)).trans x0))
  have y1 := (Below.heap_alloc _ (.cells #[.int .i64 0] 25) _ (by simp only [World.size_alloc]; omega)).trans ((Below.heap_alloc _ (.cells #[.int .i64 0] 3) _ (by simp)).trans x1)
  have y2 := (Below.heap_alloc _ (.cells #[.int .i64 0] 25) _ (by simp)).trans x2
  simp only [World.size_alloc] at y0 y1 y2 x3
  exact ⟨y0, y1, y2, x3, ((((Below.refl _ w).alloc (Nat.le_refl _) _).alloc (by simp) _).alloc (by simp; omega) _).alloc (by simp; omega) _, by simp⟩
theorem AftB0.below {w W W1 : World} {fuel : Int} (h : AftB0 w fuel W) (hb : Below W.heap.size W W1) :
    W1.heap[w.heap.size]? = some (.cells #[.int .i64 fuel] 3 (0, 0)) ∧ W1.heap[w.heap.size + 1]? = some (.cells #[.int .i64 0, .slice none 0 0] 53 (0, 0)) ∧ W1.heap[w.heap.size + 1 + 1]? = some (.cells #[.int .i64 0] 3 (0, 0)) ∧
    W1.heap[w.heap.size + 1 + 1 + 1]? = some (.cells #[.int .i64 0] 25 (0, 0)) ∧ Below w.heap.size w W1 ∧ w.heap.size + 1 + 1 + 1 < W1.heap.size := by
  obtain ⟨y0, y1, y2, y3, hb0, hs⟩ := h
  exact ⟨below_blk hb y0 (by omega), below_blk hb y1 (by omega), below_blk hb y2 (by omega), below_blk hb y3 (by omega), hb0.trans (hb.mono (by omega)), by have := hb.size; omega⟩
theorem AftB0.start {w W w1 : World} {fuel : Int} (h : AftB0 w fuel W) (hb1 : Below W.heap.size W w1) (_ : w.heap.size + 1 + 1 + 1 < w1.heap.size) (mv : Value) :
    AftC w w1.heap.size mv fuel 0 (.slice none 0 0) 0 0 ((w1.alloc (.cells #[mv] 91)).alloc (.cells #[mv] 91)) := by
  obtain ⟨y0, y1, y2, y3, hb0, hs⟩ := h.below hb1
  have hb2 : Below w1.heap.size w1 ((w1.alloc (.cells #[mv] 91)).alloc (.cells #[mv] 91)) := ((Below.refl _ _).alloc (Nat.le_refl _) _).alloc (by simp) _
  exact ⟨below_blk hb2 y0 (by omega), below_blk hb2 y1 (by omega), below_blk hb2 y2 (by omega), below_blk hb2 y3 (by omega), (Below.heap_alloc _ _ _ (by simp)).trans (heap_alloc_new w1 _), hb0.trans (hb2.mono (by omega))⟩
theorem AftB0.start1 {w W w1 : World} {fuel : Int} (h : AftB0 w fuel W) (hb1 : Below W.heap.size W w1) (mv : Value) :
    AftC w w1.heap.size mv fuel 0 (.slice none 0 0) 0 0 (w1.alloc (.cells #[mv] 91)) := by
  obtain ⟨y0, y1, y2, y3, hb0, hs⟩ := h.below hb1
  have hb2 : Below w1.heap.size w1 (w1.alloc (.cells #[mv] 91)) := (Below.refl _ _).alloc (Nat.le_refl _) _
  exact ⟨below_blk hb2 y0 (by omega), below_blk hb2 y1 (by omega), below_blk hb2 y2 (by omega), below_blk hb2 y3 (by omega), heap_alloc_new w1 _, hb0.trans (hb2.mono (by omega))⟩

theorem AtK.grownA {l : List Ins} {s0 : St} {B g mb : Nat} {pv sv : Value} {w : World} {bm : Nat} {mv : Value} {fuel : Int} {n : Int} {u : Value} {k' er : Int} {k : Nat} {W W' : World} {row : Option Nat} (h : AtK l s0 B g mb pv sv (AftC w bm mv fuel n u k' er) k W) (hg : W.grownBy W' row) (hr : ∀ r, row = some r → w.heap.size ≤ r ∧ ∃ o : Obj, W.heap[r]? = some o ∧ o.isCells = false) : AtK l s0 B g mb pv sv (AftC w bm mv fuel n u k' er) k W' := by
  obtain ⟨h1, ⟨ps, h2⟩, h3, h4⟩ := h
  exact ⟨h1, ⟨ps, h2.grown hg (fun r e => (hr r e).2)⟩, cell_kept h3 hg (fun r e => (hr r e).2), h4.grown hg hr⟩

set_option maxRecDepth 100000 in
set_option maxHeartbeats 2000000 in
theorem after_ok (v : Value) (l : List Ins) (t : Tr) (ht : t.size ≤ 2000000) (fuel : Nat) (hk1 : fuel ≤ 10000000) (w : World) (hl : InsRow w w.heap.size v l) (hv : validB l = true) (n : Int) (L : List ByteArray) (k : Nat) (er : Int) (hres : (goF l fuel 0 (startS t)).after = (n, L, k, er)) :
    Calls Try.prog 38 #[v, .string (TS t), .int .i64 fuel] w (AftOut w n L k er) := by
  have kb := fun w' (h : InsRow w' w'.heap.size v l) => begin_ok v l t ht fuel w' h hv (by omega) (by omega)
  have HG := Lib.hid (Good.start l.length t ht)
  have HV := Lib.hid (validB_all hv)
  have hn4 := validB_len hv
  have HR := Lib.hid hres
  have hl0 := hl
  obtain ⟨ao, cap, rfl⟩ := hl.len
  have hb0 : Below w.heap.size w ((((w.alloc (.cells #[.int .i64 fuel] 3)).alloc (.cells #[.int .i64 0, .slice none 0 0] 53)).alloc (.cells #[.int .i64 0] 3)).alloc (.cells #[.int .i64 0] 25)) :=
    ((((Below.refl _ w).alloc (Nat.le_refl _) _).alloc (by simp) _).alloc (by simp; omega) _).alloc (by simp; omega) _
  have kb0 := kb _ ((hl0.below hb0).mono hb0.size)
  obtain ⟨S, hS⟩ : ∃ S, TS t = S := ⟨_, rfl⟩
  rw [hS] at kb0 ⊢
  clear hv hres kb hS hl hl0
  refine (callsIn_wide (n := 5)).1 ?_
  refine callsIn_of_wp_marks Try.func38 rfl trivial ?_ rfl
  simp only [Try.ntmps38, List.size_toArray, List.length_cons, List.length_nil, Nat.reduceAdd, Nat.reduceSub, Array.replicate_succ, Array.replicate_zero, List.push_toArray, List.append_toArray, List.nil_append, List.cons_append]
  gi_wp2_with fail
  refine ⟨trivial, (callsIn_wide.2 kb0).mono ?_⟩
  rintro e w1 ⟨B, g, sv, ps, rfl, hm, hB, hb1⟩
  have hBs : w.heap.size + 1 + 1 + 1 < B := by simp at hB; omega
  have hble := hm.le
  have hglt := hm.lt
  have HM := Lib.hid hm
  clear kb0 hm
  gi_wp2_with fail
  refine ⟨trivial, (callsIn_wide.2 (states_any _ _)).mono ?_⟩
  rintro e w2 ⟨rfl, rfl⟩
  have hb2 : Below w1.heap.size w1 ((w1.alloc (.cells #[.pointer (some ⟨g, 0, none⟩)] 91)).alloc (.cells #[.pointer (some ⟨g, 0, none⟩)] 91)) := ((Below.refl _ _).alloc (Nat.le_refl _) _).alloc (by simp) _
  have hws : w.heap.size + 1 + 1 + 1 < w1.heap.size := by have := hb1.size; simp at this; omega
  have hbw : Below w.heap.size w w1 := hb0.trans (hb1.mono (by simp; omega))
  have hC0 := (aft_boxes w fuel).start hb1 hws (.pointer (some ⟨g, 0, none⟩))
  have hA0 : AtK l (startS t) B g (w1.heap.size + 1) (.slice ao l.length cap) sv (AftC w w1.heap.size (.pointer (some ⟨g, 0, none⟩)) fuel 0 (.slice none 0 0) 0 0) 0 ((w1.alloc (.cells #[.pointer (some ⟨g, 0, none⟩)] 91)).alloc (.cells #[.pointer (some ⟨g, 0, none⟩)] 91)) := by
    refine ⟨Reach.zero _ _, ⟨ps, HM.out.kept hb2⟩, ?_, hC0⟩
    have := heap_alloc_new (w1.alloc (.cells #[.pointer (some ⟨g, 0, none⟩)] 91)) (.cells #[.pointer (some ⟨g, 0, none⟩)] 91)
    rw [World.size_alloc] at this
    exact (block_cells this).1 0
  have HA0 := Lib.hid hA0
  have HB2 := Lib.hid hb2
  clear hA0 hC0 hb2 hb1 hb0
  gi_wp2_with fail
  refine wpIn_rangeFunc_ends (α := Nat × Bool) rfl (by decide) (gf := 93) (lb := #[.pointer (some ⟨w1.heap.size + 1, 0, none⟩)]) rfl trivial (enters_of Try.func93 (by kernel_rfl) rfl)
    (AtK l (startS t) B g (w1.heap.size + 1) (.slice ao l.length cap) sv (AftC w w1.heap.size (.pointer (some ⟨g, 0, none⟩)) fuel 0 (.slice none 0 0) 0 0) 0)
    (RI fuel l (startS t) B g (w1.heap.size + 1) (.slice ao l.length cap) sv (AftC w w1.heap.size (.pointer (some ⟨g, 0, none⟩)) fuel 0 (.slice none 0 0) 0 0))
    (RI' fuel l (startS t) B g (w1.heap.size + 1) (.slice ao l.length cap) sv (AftC w w1.heap.size (.pointer (some ⟨g, 0, none⟩)) fuel 0 (.slice none 0 0) 0 0))
    (fun c W => c = .ret ∧ ∃ u, AftC w w1.heap.size (.pointer (some ⟨g, 0, none⟩)) fuel n u k er W ∧ StrRow W W.heap.size u L)
    (states1_ends _ fuel hk1 l (startS t) B g (w1.heap.size + 1) (by omega) _ sv _ (fun A B h hc => hc.els h (by omega) (by omega)) HG.out HV.out hn4) (fun _ => rfl)
    (fun _ A B row h hg hr => h.grownA hg (fun r e => ⟨by have := (hr r e).1; simp at this; omega, (hr r e).2⟩))
    (fun x A B row h hg hr => ⟨h.1, h.2.1.grownA hg (fun r e => ⟨by have := (hr r e).1; simp at this; omega, (hr r e).2⟩), h.2.2⟩)
    (fun x A B row h hg hr => ⟨h.1, h.2.1, h.2.2.1, h.2.2.2.grownA hg (fun r e => ⟨by have := (hr r e).1; simp at this; omega, (hr r e).2⟩)⟩)
    ?hix
    HA0.out
    (fun x => { tmps := #[.slice ao l.length cap, .string S, .int .i64 fuel, undef, undef, .pointer (some ⟨w.heap.size, 0, none⟩), .pointer (some ⟨w.heap.size + 1, 0, none⟩), .pointer (some ⟨w.heap.size + 1 + 1, 0, none⟩), .pointer (some ⟨w.heap.size + 1 + 1 + 1, 0, none⟩), .pointer (some ⟨w1.heap.size, 0, none⟩), .int .i64 0, .int .i64 x.1, .bool x.2,
      .tuple #[.pointer (some ⟨g, 0, none⟩), .int .i64 0], .slice ao l.length cap, .string S, .int .i64 fuel, .tuple #[.pointer (some ⟨g, 0, none⟩), .int .i64 0], .pointer (some ⟨g, 0, none⟩), .int .i64 0, .int .i64 0, .bool false, undef, undef, .pointer (some ⟨g, 0, none⟩), .func (.func 93) #[] #[.pointer (some ⟨w1.heap.size + 1, 0, none⟩)],
      .int .i64 x.1, .bool x.2, undef, undef, undef, undef, undef, undef, undef, undef, undef, undef, undef, undef, undef, undef, undef], defers := [] }) ?assign ?body ?stop
  case hix =>
    intro c _ A B row h hg hr
    obtain ⟨h1, u, h2, h3⟩ := h
    exact ⟨h1, u, h2.grown hg (fun r e => ⟨by have := (hr r e).1; simp at this; omega, (hr r e).2⟩), h3.grown hg (fun r e => (hr r e).2)⟩
  case assign =>
    intro lr x W K hK
    gi_wp2
    exact hK
  case stop =>
    rintro D c W hD ⟨rfl, u, hc, hu⟩ hK
    have hg' := grownBy_putObj' W D (.deferred none)
    have hc' := hc.grown hg' (fun r e => by cases e; exact ⟨by simp at hD; omega, _, hK, rfl⟩)
    have hu' := hu.grown hg' (fun r e => by cases e; exact ⟨_, hK, rfl⟩)
    have q1 := (block_cells hc'.y).1 0
    have q1' := (block_cells hc'.y).1 1
    have q2 := (block_cells hc'.k).1 0
    have q3 := (block_cells hc'.e).1 0
    simp only [List.getElem?_toArray, List.getElem?_cons_zero, List.getElem?_cons_succ] at q1 q1' q2 q3
    gi_wp2
    refine ⟨by simp, .inl ⟨_, _, rfl, run_takeDeferred hK, ?_⟩⟩
    refine ⟨.tuple #[.agg #[.int .i64 n, u], .int .i64 k, .int .i64 er], ?_, u, rfl, hu', hc'.b⟩
    obtain ⟨ua, uc, rfl⟩ := hu'.len
    simp [results, Try.f38, go_sem, q1, q1', q2, q3]
  case body =>
    rintro lr ⟨k1, b⟩ W hI
    obtain ⟨hk1', ⟨hre, ⟨ps1, hm1⟩, hmb, hC⟩, hbig⟩ := hI
    dsimp only at hk1' hre hm1 hbig
    have c0 := (block_cells hC.f).1 0
    have c1 := (block_cells hC.y).1 0
    have c1' := (block_cells hC.y).1 1
    have c2 := (block_cells hC.k).1 0
    have c3 := (block_cells hC.e).1 0
    have c4 := (block_cells hC.m).1 0
    have f1 := (block_cells hC.y).2 0
    have f1' := (block_cells hC.y).2 1
    have f2 := (block_cells hC.k).2 0
    have f3 := (block_cells hC.e).2 0
    simp only [List.getElem?_toArray, List.getElem?_cons_zero, List.getElem?_cons_succ] at c0 c1 c1' c2 c3 c4
    have hgk := hre.good HV.out HG.out
    have HRE := Lib.hid hre
    have HC := Lib.hid hC
    have HBIG := Lib.hid hbig
    clear hre hC hbig
    cases b with
    | true =>
      have hfin : Hid (n = 0 ∧ L = [] ∧ k = 0 ∧ er = 3) := by
        obtain ⟨h1, h2, h3⟩ := HBIG.out rfl
        have hr := HR.out
        rw [HRE.out.goF fuel hk1', show fuel - k1 = (fuel - k1 - 1) + 1 by omega, goF_big h2 h3] at hr
        simp only [Res.after, Prod.mk.injEq] at hr
        exact ⟨hr.1.symm, hr.2.1.symm, hr.2.2.1.symm, hr.2.2.2.symm⟩
      clear hm1 hgk
      obtain ⟨rfl, rfl, rfl, rfl⟩ := hfin.out
      gi_wp2
      obtain ⟨z1, z2⟩ := HC.out.put hws 0 (.slice none 0 0) 0 3
      exact ⟨z1, rfl, _, z2, by simp, by simp, .inl ⟨rfl, .inl rfl⟩⟩
    | false =>
      have hgd : ∀ z : Bool, ((stN l (startS t) k1).pos = l.length ∨ k1 = fuel) → Hid (n = ((stN l (startS t) k1).pos : Int) ∧ L = (stN l (startS t) k1).regs.map TS ∧ k = k1 ∧ er = 0) := by
        intro z hor
        have hr := HR.out
        rw [HRE.out.goF fuel hk1'] at hr
        by_cases hpos : (stN l (startS t) k1).pos = l.length
        · rw [goF_done hpos] at hr
          simp only [Res.after, Prod.mk.injEq] at hr
          exact ⟨hr.1.symm, hr.2.1.symm, hr.2.2.1.symm, hr.2.2.2.symm⟩
        · have hkf : k1 = fuel := by rcases hor with h | h; exact absurd h hpos; exact h
          rw [hkf, Nat.sub_self, goF_zero (by rw [← hkf]; exact hpos)] at hr
          simp only [Res.after, Prod.mk.injEq] at hr
          rw [hkf]
          exact ⟨hr.1.symm, hr.2.1.symm, hr.2.2.1.symm, hr.2.2.2.symm⟩
      have HGD := Lib.hid (hgd true)
      have HGK := Lib.hid hgk
      clear hgd
      obtain ⟨pe, hp⟩ : ∃ pe, (((stN l (startS t) k1).pos : Int) == (l.length : Int)) = pe := ⟨_, rfl⟩
      obtain ⟨pf, hkk⟩ : ∃ pf, ((k1 : Int) == (fuel : Int)) = pf := ⟨_, rfl⟩
      have ke := ended_at _ W B g l _ _ sv ps1 hm1 hgk hp
      have HP := Lib.hid hp
      have HM1 := Lib.hid hm1
      have HKK := Lib.hid hkk
      clear hp hm1 hgk
      by_cases hgo : pe = true ∨ pf = true
      · have hor : (stN l (startS t) k1).pos = l.length ∨ k1 = fuel := by
          rcases hgo with h | h
          · have h1 := HP.out; rw [h] at h1; have := eq_of_beq h1; left; omega
          · have h1 := HKK.out; rw [h] at h1; have := eq_of_beq h1; right; omega
        obtain ⟨rfl, rfl, rfl, rfl⟩ := (HGD.out hor).out
        clear hor
        rcases (by cases pe <;> simp_all : (pe = true) ∨ (pe = false ∧ pf = true)) with rfl | ⟨rfl, rfl⟩
        all_goals
          clear hgo
          gi_wp2_with fail
          refine ⟨trivial, CallsIn.inRound lr ((callsIn_wide.2 ke).mono ?_)⟩
          rintro e W1 ⟨rfl, hb1⟩
          have HC1 := Lib.hid (HC.out.below hb1)
          have c0 := (block_cells HC1.out.f).1 0
          have c1 := (block_cells HC1.out.y).1 0
          have c1' := (block_cells HC1.out.y).1 1
          have c2 := (block_cells HC1.out.k).1 0
          have c3 := (block_cells HC1.out.e).1 0
          have c4 := (block_cells HC1.out.m).1 0
          have f1 := (block_cells HC1.out.y).2 0
          have f1' := (block_cells HC1.out.y).2 1
          have f2 := (block_cells HC1.out.k).2 0
          have f3 := (block_cells HC1.out.e).2 0
          simp only [List.getElem?_toArray, List.getElem?_cons_zero, List.getElem?_cons_succ] at c0 c1 c1' c2 c3 c4
          have hm2 := HM1.out.kept hb1
          have ks := state_any _ _ _ _ _ _ _ _ hm2 HGK.out
          have HB1 := Lib.hid hb1
          clear ke hm2 hb1
          gi_wp2_with fail
          refine ⟨trivial, CallsIn.inRound lr ((callsIn_wide.2 ks).mono ?_)⟩
          rintro e W2 ⟨vs, rfl, hvs, hb2⟩
          obtain ⟨LL, hLL⟩ : ∃ LL, (stN l (startS t) k).regs.map TS = LL := ⟨_, rfl⟩
          rw [hLL] at hvs
          have HLL := Lib.hid hLL
          obtain ⟨va, vc, rfl⟩ := hvs.len
          have HVS := Lib.hid hvs
          have hb12 := HB1.out.trans (hb2.mono HB1.out.size)
          have HC2 := Lib.hid (HC.out.below hb12)
          have HKO := Lib.hid (below_keeps hb12)
          have c0 := (block_cells HC2.out.f).1 0
          have c1 := (block_cells HC2.out.y).1 0
          have c1' := (block_cells HC2.out.y).1 1
          have c2 := (block_cells HC2.out.k).1 0
          have c3 := (block_cells HC2.out.e).1 0
          have f1 := (block_cells HC2.out.y).2 0
          have f1' := (block_cells HC2.out.y).2 1
          have f2 := (block_cells HC2.out.k).2 0
          have f3 := (block_cells HC2.out.e).2 0
          simp only [List.getElem?_toArray, List.getElem?_cons_zero, List.getElem?_cons_succ] at c0 c1 c1' c2 c3
          clear ks hb2 hb12 hvs hLL
          gi_wp2
          obtain ⟨z1, z2⟩ := HC2.out.put hws (stN l (startS t) k).pos (.slice va LL.length vc) k 0
          exact ⟨HKO.out.trans z1, rfl, _, z2, by rw [HLL.out]; exact HC2.out.putRow (by simp) _ _ _ (by simp) _ _ HVS.out⟩
      · have hpe : pe = false := by cases pe <;> simp_all
        have hpf : pf = false := by cases pf <;> simp_all
        subst hpe hpf
        have hpos : (stN l (startS t) k1).pos ≠ l.length := by
          intro h
          have h1 := HP.out
          rw [h] at h1
          simp at h1
        have hlt : k1 < fuel := by
          have : k1 ≠ fuel := by
            intro h
            have h1 := HKK.out
            rw [h] at h1
            simp at h1
          omega
        have HP2 := Lib.hid hpos
        clear hgo hpos
        gi_wp2_with fail
        refine ⟨trivial, CallsIn.inRound lr ((callsIn_wide.2 ke).mono ?_)⟩
        rintro e W1 ⟨rfl, hb1⟩
        have HC1 := Lib.hid (HC.out.below hb1)
        have HKO := Lib.hid (below_keeps hb1)
        have HB1 := Lib.hid hb1
        have HMB := Lib.hid hmb
        have c0 := (block_cells HC1.out.f).1 0
        simp only [List.getElem?_toArray, List.getElem?_cons_zero] at c0
        clear ke hb1 hmb
        gi_wp2
        refine ⟨HKO.out, hlt, rfl, HP2.out, HRE.out, ⟨ps1, HM1.out.kept HB1.out⟩, ?_, HC1.out⟩
        have : w1.heap.size + 1 < W.heap.size := by
          obtain ⟨o, ho, _⟩ := cells_of_cell HMB.out
          exact (Array.getElem?_eq_some_iff.1 ho).1
        exact (HB1.out.cell (p := ⟨w1.heap.size + 1, 0, none⟩) this).trans HMB.out

set_option maxHeartbeats 1000000 in
theorem after_bad (v : Value) (l : List Ins) (s : ByteArray) (fuel : Int) (w : World) (er : Int) (hl : InsRow w w.heap.size v l) (her : er = 1 ∨ er = 2)
    (kb : ∀ w', InsRow w' w'.heap.size v l → Calls Try.prog 68 #[v, .string s, .int .i64 fuel] w' fun e w'' => e = .returned (.tuple #[.pointer none, .int .i64 er]) ∧ Below w'.heap.size w' w'') :
    Calls Try.prog 38 #[v, .string s, .int .i64 fuel] w (AftOut w 0 [] 0 er) := by
  have hl0 := hl
  obtain ⟨ao, cap, rfl⟩ := hl.len
  have hb0 : Below w.heap.size w ((((w.alloc (.cells #[.int .i64 fuel] 3)).alloc (.cells #[.int .i64 0, .slice none 0 0] 53)).alloc (.cells #[.int .i64 0] 3)).alloc (.cells #[.int .i64 0] 25)) :=
    ((((Below.refl _ w).alloc (Nat.le_refl _) _).alloc (by simp) _).alloc (by simp; omega) _).alloc (by simp; omega) _
  have kb0 := kb _ ((hl0.below hb0).mono hb0.size)
  clear kb hl hl0
  have hne : (er != 0) = true := by rw [bne_iff_ne]; omega
  clear her
  go_enter Try.func38, Try.ntmps38
  go_wp2_with fail
  refine kb0.mono ?_
  rintro e w1 ⟨rfl, hb1⟩
  have hws : w.heap.size + 1 + 1 + 1 < w1.heap.size := by have := hb1.size; simp at this; omega
  have HC := Lib.hid ((aft_boxes w fuel).start1 hb1 (.pointer none))
  have c0 := (block_cells HC.out.f).1 0
  have c1 := (block_cells HC.out.y).1 0
  have c1' := (block_cells HC.out.y).1 1
  have c2 := (block_cells HC.out.k).1 0
  have c3 := (block_cells HC.out.e).1 0
  have f1 := (block_cells HC.out.y).2 0
  have f1' := (block_cells HC.out.y).2 1
  have f2 := (block_cells HC.out.k).2 0
  have f3 := (block_cells HC.out.e).2 0
  simp only [List.getElem?_toArray, List.getElem?_cons_zero, List.getElem?_cons_succ] at c0 c1 c1' c2 c3
  clear kb0 hb1 hb0
  go_wp2
  obtain ⟨z1, z2⟩ := HC.out.put hws 0 (.slice none 0 0) 0 er
  have q1 := (block_cells z2.y).1 0
  have q1' := (block_cells z2.y).1 1
  have q2 := (block_cells z2.k).1 0
  have q3 := (block_cells z2.e).1 0
  simp only [List.getElem?_toArray, List.getElem?_cons_zero, List.getElem?_cons_succ] at q1 q1' q2 q3
  refine bodyPost_ret (v := .tuple #[.agg #[.int .i64 0, .slice none 0 0], .int .i64 0, .int .i64 er]) (by simp [results, Try.results38, go_sem, q1, q1', q2, q3]) rfl ?_
  exact ⟨_, rfl, ⟨by simp, by simp, .inl ⟨rfl, .inl rfl⟩⟩, z2.b⟩

end Go.Proofs.Ytieocihlkpipmaa

namespace Go.Proofs.Ytieocihlkpipmaa
open Go.RowKit

/-- The stack of depths. -/
def dstack (ts : List Tr) : List Value := (ts.map fun t => Value.int .i64 t.depth).reverse
theorem dstack_length (ts : List Tr) : (dstack ts).length = ts.length := by simp [dstack]
theorem dstack_cons (t : Tr) (ts : List Tr) : dstack (t :: ts) = dstack ts ++ [.int .i64 t.depth] := by simp [dstack]

theorem pf_at (t : Tr) (q : Nat) (h : q < (TS t).size) : ∃ us ts, pf (t.enc.drop (q + 1)) = some us ∧ pf (t.enc.drop q) = some ts ∧
    ((((TS t)[q].toNat : Int) = 48 ∧ ts = .nil :: us) ∨ (((TS t)[q].toNat : Int) = 49 ∧ ∃ a b r, us = a :: b :: r ∧ ts = .pair a b :: r)) := by
  obtain ⟨us, hu⟩ := pf_drop _ _ (pf_one t) (q + 1)
  obtain ⟨ts, ht⟩ := pf_drop _ _ (pf_one t) q
  have hl : q < t.enc.length := by rw [TS_size, ← Tr.enc_length] at h; exact h
  have e : t.enc.drop q = t.enc[q] :: t.enc.drop (q + 1) := List.drop_eq_getElem_cons hl
  refine ⟨us, ts, hu, ht, ?_⟩
  rw [TS_get]
  rw [e] at ht
  by_cases h8 : t.enc[q] = 48
  · rw [h8, pf_48 hu] at ht
    rw [h8]; exact .inl ⟨rfl, by simpa using ht.symm⟩
  · by_cases h9 : t.enc[q] = 49
    · rw [h9] at ht ⊢
      match us, hu with
      | a :: b :: r, hu => rw [pf_49 hu] at ht; exact .inr ⟨rfl, a, b, r, rfl, by simpa using ht.symm⟩
      | [], hu => rw [pf_49_few hu (by simp)] at ht; cases ht
      | [a], hu => rw [pf_49_few hu (by simp)] at ht; cases ht
    · rw [pf_else h8 h9] at ht; cases ht

set_option maxHeartbeats 1000000 in
theorem refDepth_ok (t : Tr) (hs : t.size ≤ 2000000) (w : World) :
    Calls Try.prog 66 #[.string (TS t)] w fun e w' => e = .returned (.int .i64 t.depth) ∧ Below w.heap.size w w' := by
  have hz : (TS t).size = t.size := TS_size t
  have h1 : (1 : Int) ≤ t.size := by have := t.size_pos; omega
  have h2 : (t.size : Int) ≤ 2000000 := by omega
  have hf : pf (t.enc.drop t.size) = some [] := by rw [List.drop_eq_nil_of_le (by rw [Tr.enc_length]; exact Nat.le_refl _)]; rfl
  have HF := Lib.hid hf; clear hf hs
  go_enter Try.func66, Try.ntmps66
  go_wp2
  go_loopg [3, 4] t.size (fun g v i wr => ∃ (j : Nat) (ts : List Tr), j ≤ t.size ∧ g = j ∧ i = .int .i64 ((j : Int) - 1) ∧ Aside (pf (t.enc.drop j) = some ts) ∧ wr.ownsRow w.heap.size 3 1 v ts.length (dstack ts) ∧ Below w.heap.size w wr)
  case atStart => exact ⟨t.size, [], Nat.le_refl _, rfl, rfl, HF.out, World.ownsRow_nil _ _ _ _, Below.refl _ _⟩
  case round =>
    obtain ⟨j, ts, hj, hg, hi, hp, hown, hb⟩ := hrel
    have HG := Lib.hid hg; clear hg
    have hsz := hb.size
    have hlen := pf_length _ _ hp.out
    rw [List.length_drop, Tr.enc_length] at hlen
    cases j with
    | succ q =>
      rw [show (((q + 1 : Nat) : Int) - 1) = (q : Int) from by omega] at hi
      subst hi
      have hq : q < (TS t).size := by omega
      obtain ⟨us, ts', hu, ht, hcase⟩ := pf_at t q hq
      obtain rfl : us = ts := by have := hp.out; rw [hu] at this; simpa using this
      clear hp hu
      have HT : Aside (pf (t.enc.drop q) = some ts') := ht
      clear ht
      rcases hcase with ⟨h8, rfl⟩ | ⟨h9, a, b, r, rfl, rfl⟩
      · go_wp2_with (at_builtin; refine app_new el_int rfl _ _ rfl rfl hown [.int .i64 0] 1 rfl rfl ?c1 ?c2 ?c3 hsz hb (Nat.le_refl _) ?_)
        case c1 => intro u hu; simp at hu; rcases hu with rfl; rfl
        case c2 => omega
        case c3 => unfold maxLen; omega
        intro v' w' hown' hb' hgr
        clear hown hb
        go_wp2
        go_roundg q
        case measure => rw [HG.out]; omega
        case rel => exact ⟨q, .nil :: us, by omega, rfl, rfl, HT, by rw [dstack_cons]; exact hown', hb'⟩
      · have b8 : (((TS t)[q].toNat : Int) == 48) = false := beq_eq_false_iff_ne.2 (by omega)
        obtain ⟨g, cap, rfl, hg1, hg2, hnc, hcm, hcell, hfz⟩ := own_cells hown (by simp)
        have c1 : wr.cell? ⟨g, r.length + 1, none⟩ = some (.int .i64 a.depth) := by
          rw [hcell _ (by simp), dstack_cons, List.getElem?_append_right (by simp [dstack_length])]; simp [dstack_length]
        have c2 : wr.cell? ⟨g, r.length, none⟩ = some (.int .i64 b.depth) := by
          rw [hcell _ (by simp; omega), dstack_cons, dstack_cons, List.append_assoc, List.getElem?_append_right (by simp [dstack_length])]; simp [dstack_length]
        clear hcell hfz
        obtain ⟨n, hn⟩ : ∃ n, (a :: b :: r).length = n + 2 := ⟨r.length, by simp⟩
        have hn' : r.length = n := by simpa using hn
        rw [hn] at hown hnc hlen ⊢
        rw [hn'] at c1 c2
        have e1 : ((n : Int) + 2 - 1).toNat = n + 1 := by omega
        have e2 : ((n : Int) + 2 - 2).toNat = n := by omega
        have o1 : (0 : Int) ≤ (n : Int) + 2 - 1 := by omega
        have o2 : (n : Int) + 2 - 1 < (n : Int) + 2 := by omega
        have o3 : (0 : Int) ≤ (n : Int) + 2 - 2 := by omega
        have o4 : (n : Int) + 2 - 2 < (n : Int) + 2 := by omega
        have HN := Lib.hid hn'; clear hn' hn
        have hda := (Tr.pair a b).depth_le
        have hzab : (Tr.pair a b).size ≤ t.size := by
          have h3 := congrArg List.length (pf_flat _ _ HT.out)
          simp [Tr.enc_length] at h3; omega
        have hw : wrap64 (1 + max (a.depth : Int) (b.depth : Int)) = ((Tr.pair a b).depth : Nat) := by
          have h3 : ((Tr.pair a b).depth : Int) = 1 + max (a.depth : Int) (b.depth : Int) := by simp [Tr.depth]; omega
          unfold wrap64; omega
        clear hda hzab
        go_wp2
        go_quiet (fail)
        have hb2 : Below w.heap.size w (wr.drewN nq) := below_drewN hb _
        have hown2 : (wr.drewN nq).ownsRow w.heap.size 3 1 (.slice (some ⟨g, 0, none⟩) n cap) n (dstack r) := by
          have : wr.ownsRow w.heap.size 3 1 (.slice (some ⟨g, 0, none⟩) n cap) n (dstack r) := by
            refine ownsRow_pop (last := [.int .i64 b.depth]) (by rw [dstack_length, HN.out, Nat.mul_one]) (ownsRow_pop (last := [.int .i64 a.depth]) (by simp [dstack_length, HN.out]) ?_)
            rw [dstack_cons, dstack_cons] at hown; exact hown
          exact this
        have hs2 : w.heap.size ≤ (wr.drewN nq).heap.size := hsz
        clear c1 c2 hown
        generalize wr.drewN nq = w2 at *
        go_wp2_with (at_builtin; refine app_new el_int rfl _ _ rfl rfl hown2 [.int .i64 (Tr.pair a b).depth] 1 rfl rfl ?c1 ?c2 ?c3 hs2 hb2 (Nat.le_refl _) ?_)
        case c1 => intro u hu; simp at hu; rcases hu with rfl; rfl
        case c2 => omega
        case c3 => unfold maxLen at *; omega
        intro v' w' hown' hb' hgr
        clear hown2 hb2
        go_wp2
        go_roundg q
        case measure => rw [HG.out]; omega
        case rel => exact ⟨q, .pair a b :: r, by omega, rfl, rfl, HT, by rw [dstack_cons, List.length_cons, HN.out]; exact hown', hb'⟩
    | zero =>
      rw [show (((0 : Nat) : Int) - 1) = -1 from rfl] at hi
      subst hi
      have hp' := hp.out
      rw [List.drop_zero, pf_one] at hp'
      obtain rfl : [t] = ts := by simpa using hp'
      obtain ⟨g, cap, rfl, hg1, hg2, hnc, hcm, hcell, hfz⟩ := own_cells hown (by simp)
      have c1 : wr.cell? ⟨g, 0, none⟩ = some (.int .i64 t.depth) := by rw [hcell _ (by simp)]; rfl
      clear hcell hfz hp' hp hown
      go_wp2
      go_ret
      exact ⟨rfl, hb⟩

set_option maxHeartbeats 1000000 in
theorem treeDepth_ok (t : Tr) (hs : t.size ≤ 2000000) (w : World) :
    Calls Try.prog 61 #[.string (TS t)] w fun e w' => e = .returned (.tuple #[.int .i64 t.depth, .int .i64 0]) ∧ Below w.heap.size w w' := by
  have hz : (TS t).size = t.size := TS_size t
  have h1 : (1 : Int) ≤ t.size := by have := t.size_pos; omega
  have h2 : (t.size : Int) ≤ 2000000 := by omega
  have hf : pf (t.enc.drop t.size) = some [] := by rw [List.drop_eq_nil_of_le (by rw [Tr.enc_length]; exact Nat.le_refl _)]; rfl
  have HF := Lib.hid hf; clear hf
  have hv := fun w => valid_ok t hs w
  clear hs
  go_enter Try.func61, Try.ntmps61
  go_wp2_with (go_at_call 44; refine (hv _).mono ?_; rintro e w1 ⟨rfl, hb0⟩)
  clear hv
  go_loopg [4, 5] t.size (fun g v i wr => ∃ (j : Nat) (ts : List Tr), j ≤ t.size ∧ g = j ∧ i = .int .i64 ((j : Int) - 1) ∧ Aside (pf (t.enc.drop j) = some ts) ∧ wr.ownsRow w.heap.size 3 1 v ts.length (dstack ts) ∧ Below w.heap.size w wr)
  case atStart => exact ⟨t.size, [], Nat.le_refl _, rfl, rfl, HF.out, World.ownsRow_nil _ _ _ _, hb0⟩
  case round =>
    obtain ⟨j, ts, hj, hg, hi, hp, hown, hb⟩ := hrel
    have HG := Lib.hid hg; clear hg
    have hsz := hb.size
    have hlen := pf_length _ _ hp.out
    rw [List.length_drop, Tr.enc_length] at hlen
    cases j with
    | succ q =>
      rw [show (((q + 1 : Nat) : Int) - 1) = (q : Int) from by omega] at hi
      subst hi
      have hq : q < (TS t).size := by omega
      obtain ⟨us, ts', hu, ht, hcase⟩ := pf_at t q hq
      obtain rfl : us = ts := by have := hp.out; rw [hu] at this; simpa using this
      clear hp hu
      have HT : Aside (pf (t.enc.drop q) = some ts') := ht
      clear ht
      rcases hcase with ⟨h8, rfl⟩ | ⟨h9, a, b, r, rfl, rfl⟩
      · go_wp2_with (at_builtin; refine app_new el_int rfl _ _ rfl rfl hown [.int .i64 0] 1 rfl rfl ?c1 ?c2 ?c3 hsz hb (Nat.le_refl _) ?_)
        case c1 => intro u hu; simp at hu; rcases hu with rfl; rfl
        case c2 => omega
        case c3 => unfold maxLen; omega
        intro v' w' hown' hb' hgr
        clear hown hb
        go_wp2
        go_roundg q
        case measure => rw [HG.out]; omega
        case rel => exact ⟨q, .nil :: us, by omega, rfl, rfl, HT, by rw [dstack_cons]; exact hown', hb'⟩
      · have b8 : (((TS t)[q].toNat : Int) == 48) = false := beq_eq_false_iff_ne.2 (by omega)
        obtain ⟨g, cap, rfl, hg1, hg2, hnc, hcm, hcell, hfz⟩ := own_cells hown (by simp)
        have c1 : wr.cell? ⟨g, r.length + 1, none⟩ = some (.int .i64 a.depth) := by
          rw [hcell _ (by simp), dstack_cons, List.getElem?_append_right (by simp [dstack_length])]; simp [dstack_length]
        have c2 : wr.cell? ⟨g, r.length, none⟩ = some (.int .i64 b.depth) := by
          rw [hcell _ (by simp; omega), dstack_cons, dstack_cons, List.append_assoc, List.getElem?_append_right (by simp [dstack_length])]; simp [dstack_length]
        clear hcell hfz
        obtain ⟨n, hn⟩ : ∃ n, (a :: b :: r).length = n + 2 := ⟨r.length, by simp⟩
        have hn' : r.length = n := by simpa using hn
        rw [hn] at hown hnc hlen ⊢
        rw [hn'] at c1 c2
        have e1 : ((n : Int) + 2 - 1).toNat = n + 1 := by omega
        have e2 : ((n : Int) + 2 - 2).toNat = n := by omega
        have o1 : (0 : Int) ≤ (n : Int) + 2 - 1 := by omega
        have o2 : (n : Int) + 2 - 1 < (n : Int) + 2 := by omega
        have o3 : (0 : Int) ≤ (n : Int) + 2 - 2 := by omega
        have o4 : (n : Int) + 2 - 2 < (n : Int) + 2 := by omega
        have HN := Lib.hid hn'; clear hn' hn
        have hda := (Tr.pair a b).depth_le
        have hzab : (Tr.pair a b).size ≤ t.size := by
          have h3 := congrArg List.length (pf_flat _ _ HT.out)
          simp [Tr.enc_length] at h3; omega
        have W3 : IntKind.i64.wrap (1 + max (a.depth : Int) (b.depth : Int)) = ((Tr.pair a b).depth : Nat) := by
          have h3 : ((Tr.pair a b).depth : Int) = 1 + max (a.depth : Int) (b.depth : Int) := by simp [Tr.depth]; omega
          rw [IntWalk.i64_in _ (by omega)]; omega
        have hw : wrap64 (1 + max (a.depth : Int) (b.depth : Int)) = ((Tr.pair a b).depth : Nat) := by
          have h3 : ((Tr.pair a b).depth : Int) = 1 + max (a.depth : Int) (b.depth : Int) := by simp [Tr.depth]; omega
          unfold wrap64; omega
        clear hda hzab
        go_wp2
        have o5 : (n : Int) + 2 - 2 ≤ (cap : Int) := by omega
        have hb2 : Below w.heap.size w wr.drew := hb.drew
        have hown2 : wr.drew.ownsRow w.heap.size 3 1 (.slice (some ⟨g, 0, none⟩) n cap) n (dstack r) := by
          have : wr.ownsRow w.heap.size 3 1 (.slice (some ⟨g, 0, none⟩) n cap) n (dstack r) := by
            refine ownsRow_pop (last := [.int .i64 b.depth]) (by rw [dstack_length, HN.out, Nat.mul_one]) (ownsRow_pop (last := [.int .i64 a.depth]) (by simp [dstack_length, HN.out]) ?_)
            rw [dstack_cons, dstack_cons] at hown; exact hown
          exact this
        have hs2 : w.heap.size ≤ wr.drew.heap.size := hsz
        have n1 : (n + 1) * 8 ≤ 140737488355328 := by omega
        have n2 : n + 1 ≤ maxLen := by unfold maxLen; omega
        have W1 : IntKind.i64.wrap (n : Int) = n := IntWalk.i64_in _ (by omega)
        have W2 : IntKind.i64.wrap ((n : Int) + 2 - 1) = (n : Int) + 1 := by rw [IntWalk.i64_in _ (by omega)]; omega
        have e3 : ((n : Int) + 1).toNat = n + 1 := by omega
        have o6 : (n : Int) + 1 < (n : Int) + 2 := by omega
        have o7 : (0 : Int) ≤ (n : Int) + 1 := by omega
        have o8 : (n : Int) ≤ (cap : Int) := by omega
        have o9 : (n : Int) < (n : Int) + 2 := by omega
        have HB := Lib.hid hb2; clear hb2
        have HO := Lib.hid hown2; clear hown2
        clear hown hb
        go_region_law ((refine step_new el_int (by rfl) _ _ (by rfl) (by rfl) HO.out [.int .i64 (Tr.pair a b).depth] 1 (by rfl) (by rfl) (by decide) (by intro u hu; simp at hu; rcases hu with rfl; rfl) n1 n2 hs2 HB.out (Nat.le_refl _) ?_; intro g' cap' w2 hown' hb' hgr))
        all_goals
          go_wp2
          go_roundg q
          case measure => rw [HG.out]; omega
          case rel => exact ⟨q, .pair a b :: r, by omega, rfl, rfl, HT, by rw [dstack_cons, List.length_cons, HN.out]; exact hown', hb'⟩
    | zero =>
      rw [show (((0 : Nat) : Int) - 1) = -1 from rfl] at hi
      subst hi
      have hp' := hp.out
      rw [List.drop_zero, pf_one] at hp'
      obtain rfl : [t] = ts := by simpa using hp'
      obtain ⟨g, cap, rfl, hg1, hg2, hnc, hcm, hcell, hfz⟩ := own_cells hown (by simp)
      have c1 : wr.cell? ⟨g, 0, none⟩ = some (.int .i64 t.depth) := by rw [hcell _ (by simp)]; rfl
      clear hcell hfz hp' hp hown
      go_wp2
      go_ret2
      exact ⟨rfl, hb⟩

end Go.Proofs.Ytieocihlkpipmaa

namespace Go.Proofs.Ytieocihlkpipmaa
open Go.RowKit

theorem rnodeSize_any (t : Tr) (v : Value) (w : World) (h : NodeP 114 w t v) :
    Calls Try.prog 76 #[v] w fun e w' => e = .returned (.int .i64 t.size) ∧ w = w' := by
  cases t with
  | nil =>
    have hv : v = .pointer none := h
    subst hv
    go_enter Try.func76, Try.ntmps76
    go_wp2
    go_ret
    exact ⟨rfl, rfl⟩
  | pair a b =>
    obtain ⟨g, x, y, rfl, hg, c0, c1, c2, ha, hb⟩ := h.cells
    go_enter Try.func76, Try.ntmps76
    go_wp2
    go_ret
    exact ⟨rfl, rfl⟩
theorem rnodeHead_any (t : Tr) (v : Value) (w : World) (h : NodeP 114 w t v) :
    Calls Try.prog 90 #[v] w fun e w' => ∃ x, e = .returned (.pointer x) ∧ NodeP 114 w t.hd (.pointer x) ∧ w = w' := by
  cases t with
  | nil =>
    have hv : v = .pointer none := h
    subst hv
    go_enter Try.func90, Try.ntmps90
    go_wp2
    go_ret
    exact ⟨none, rfl, rfl, rfl⟩
  | pair a b =>
    obtain ⟨g, x, y, rfl, hg, c0, c1, c2, ha, hb⟩ := h.cells
    go_enter Try.func90, Try.ntmps90
    go_wp2
    go_ret
    exact ⟨x, rfl, ha, rfl⟩
theorem rnodeTail_any (t : Tr) (v : Value) (w : World) (h : NodeP 114 w t v) :
    Calls Try.prog 91 #[v] w fun e w' => ∃ x, e = .returned (.pointer x) ∧ NodeP 114 w t.tl (.pointer x) ∧ w = w' := by
  cases t with
  | nil =>
    have hv : v = .pointer none := h
    subst hv
    go_enter Try.func91, Try.ntmps91
    go_wp2
    go_ret
    exact ⟨none, rfl, rfl, rfl⟩
  | pair a b =>
    obtain ⟨g, x, y, rfl, hg, c0, c1, c2, ha, hb⟩ := h.cells
    go_enter Try.func91, Try.ntmps91
    go_wp2
    go_ret
    exact ⟨y, rfl, hb, rfl⟩

set_option maxHeartbeats 2000000 in
theorem rnodeText_any (t : Tr) (v : Value) (w : World) (h : NodeP 114 w t v) (hs : t.size ≤ 4000001) :
    Calls Try.prog 29 #[v] w fun e w' => e = .returned (.string (TS t)) ∧ Below w.heap.size w w' := by
  have hsI : (t.size : Int) ≤ 4000001 := by omega
  have hs1 : (1 : Int) ≤ t.size := by have := t.size_pos; omega
  obtain ⟨i0, hi0, hz0, hz1, hz2⟩ := info_parts el_u8.hi
  obtain ⟨pv, rfl⟩ := h.ptr
  obtain ⟨S, hS⟩ : ∃ S, TS t = S := ⟨_, rfl⟩
  rw [hS]
  have HS := Lib.hid hS; clear hS
  have hsize := rnodeSize_any t _ w h
  go_enter Try.func29, Try.ntmps29
  go_wp2_with fail
  refine hsize.mono ?_
  rintro e w1 ⟨rfl, rfl⟩
  clear hsize
  go_wp2_with (at_make; refine wpList_make_own _ rfl _ _ 111 rfl w.heap.size 5 i0 _ 1 el_u8.ht hi0 hz0 hz1 _ _ _ t.size rfl rfl rfl ?b1 ?b2 ?b3 ?_)
  case b1 => rw [hz2]; omega
  case b2 => unfold maxLen; omega
  case b3 => exact Nat.le_refl _
  intro w1 hown hg
  have hb : Below w.heap.size w w1 := (Below.refl _ _).grown hg (Nat.le_refl _) (by simp)
  have hsz1 := hb.size
  have hk1 : Kept 114 w w1 := Kept.below hb
  have hN : NodeP 114 w1 t (.pointer pv) := h.kept hk1
  clear hg hk1 h
  go_wp2
  have hst : (w1.alloc (.cells #[.pointer pv] 32)).ownsRow w.heap.size 32 1 (.slice (some ⟨w1.heap.size, 0, none⟩) 1 1) 1 [.pointer pv] := World.ownsRow_lit w1 _ 1 hsz1 (by decide) rfl
  have hown2 := hown.alloc (.cells #[.pointer pv] 32)
  have hN2 : NodeP 114 (w1.alloc (.cells #[.pointer pv] 32)) t (.pointer pv) := hN.kept ((Kept.refl _ _).alloc _)
  have hb2 : Below w.heap.size w (w1.alloc (.cells #[.pointer pv] 32)) := hb.alloc hsz1 _
  clear hown hb hN
  generalize w1.alloc (.cells #[.pointer pv] 32) = w2 at *
  go_loopg [3, 4] t.size (fun g ov sv wr => ∃ (us : List Tr) (vals : List Value) (done : List UInt8) (n m : Nat), Aside (g = szs us) ∧ n ≤ t.size ∧ m ≤ t.size ∧ Aside (t.enc = done ++ (us.map Tr.enc).flatten) ∧ Nodes 114 wr us vals ∧ Aside (m = us.length) ∧
      wr.ownsRow w.heap.size 5 1 ov n (Lib.byteCells done) ∧ wr.ownsRow w.heap.size 32 1 sv m vals.reverse ∧ Below w.heap.size w wr)
  case atStart => exact ⟨[t], [.pointer pv], [], 0, 1, (by show _ = _; simp [szs]), by omega, by omega, (by show _ = _; simp), ⟨hN2, trivial⟩, rfl, hown2, hst, hb2⟩
  case round =>
    clear hst hown2 hN2 hb2
    obtain ⟨us, vals, done, n, m, hg, hn, hm, he, hNs, hml, hown, hst, hb⟩ := hrel
    have hsz := hb.size
    have hnd : n = done.length := by have := hown.1; simpa [Lib.byteCells] using this.symm
    have hlen : done.length + szs us = t.size := by
      have h3 := congrArg List.length he.out
      rw [List.length_append, szs_flat, Tr.enc_length] at h3; omega
    cases us with
    | nil =>
      have hm0 : m = 0 := hml.out
      subst hm0
      obtain ⟨sa, sc, rfl⟩ := own_len hst
      have hed : t.enc = done := by have := he.out; simpa using this
      have hcv := own_bytes (P := Try.prog) done hown 111 Try.underlying111 Try.underlying5 9 Try.underlying9
      have HE := Lib.hid hed
      clear hed hg he hml hlen hnd hown
      go_wp2
      go_ret
      exact ⟨by rw [← HS.out]; unfold TS; rw [HE.out]; rfl, hb⟩
    | cons u us =>
      obtain ⟨v, vals, rfl, hv, hvs⟩ := hNs.uncons
      obtain ⟨m, rfl⟩ : ∃ q, m = q + 1 := ⟨us.length, hml.out⟩
      have hul := u.size_pos
      have hszs : szs (u :: us) = u.size + szs us := by simp [szs]
      have hus : us.length ≤ szs us := by
        have : ∀ l : List Tr, l.length ≤ szs l := fun l => by
          induction l with
          | nil => simp [szs]
          | cons a l ih => have := a.size_pos; simp [szs] at *; omega
        exact this us
      have hmu : m = us.length := by have := hml.out; simpa using this
      obtain ⟨sg, cap, rfl, hg1, hg2, hnc, hcm, hcell, hfz⟩ := own_cells hst (by omega)
      have hvl := hvs.length
      have c1 : wr.cell? ⟨sg, m, none⟩ = some v := by
        rw [hcell _ (by omega), List.reverse_cons, List.getElem?_append_right (by simp; omega)]; simp [hvl, hmu]
      have hpop : wr.ownsRow w.heap.size 32 1 (.slice (some ⟨sg, 0, none⟩) m cap) m vals.reverse := ownsRow_pop (last := [v]) (by simp [hvl, hmu]) (by rw [List.reverse_cons] at hst; exact hst)
      have hmI : (m : Int) ≤ (cap : Int) := by omega
      have hm2 : (m : Int) ≤ 4000001 := by omega
      have hn2 : (n : Int) ≤ 4000001 := by omega
      have HND := Lib.hid hnd; have HL := Lib.hid hlen; have HZ := Lib.hid hszs; have HU := Lib.hid hus; have HMU := Lib.hid hmu
      clear hnd hlen hszs hus hmu hcell hfz hst hvl hNs hml
      cases u with
      | nil =>
        have hv0 : v = .pointer none := hv
        subst hv0
        have hb1 : n + 1 ≤ t.size := by have := HL.out; have := HZ.out; have := HND.out; omega
        go_wp2_with (at_builtin; refine app_new el_u8 rfl _ _ rfl rfl hown [.int .u8 48] 1 rfl rfl ?c1 ?c2 ?c3 hsz hb (Nat.le_refl _) ?_)
        case c1 => intro u hu; simp at hu; rcases hu with rfl; rfl
        case c2 => omega
        case c3 => unfold maxLen; omega
        intro ov' w3 hown' hb' hgr
        have hN' := hvs.kept (Kept.grew hown hgr (by decide))
        have hst' := own_other hown hpop hgr (by decide)
        clear hown hpop hb hvs hv c1
        go_wp2
        go_roundg (szs us)
        case measure => rw [hg.out, HZ.out]; omega
        case rel =>
          refine ⟨us, vals, done ++ [48], n + 1, m, rfl, hb1, by omega, ?_, hN', HMU.out, ?_, hst', hb'⟩
          · show _ = _; rw [he.out]; simp [Tr.enc]
          · simpa [Lib.byteCells] using hown'
      | pair a b =>
        obtain ⟨ng, x, y, rfl, hng, d0, d1, d2, ha, hb9⟩ := hv.cells
        obtain ⟨ng', x', y', hvv, hblk, _, _⟩ := hv
        obtain rfl : ng = ng' := by simpa using hvv
        have hx' : x' = .pointer x := by have h3 := (block_cells hblk).1 0; rw [d0] at h3; simpa using h3.symm
        have hy' : y' = .pointer y := by have h3 := (block_cells hblk).1 1; rw [d1] at h3; simpa using h3.symm
        subst hx'; subst hy'
        have hab : (Tr.pair a b).size = 1 + a.size + b.size := rfl
        have ha1 := a.size_pos
        have hb1' := b.size_pos
        have hb1 : n + 1 ≤ t.size := by have := HL.out; have := HZ.out; have := HND.out; omega
        have hm3 : m + 2 ≤ t.size := by have := HL.out; have := HZ.out; have := HU.out; have := HMU.out; omega
        go_wp2_with (at_builtin; refine app_new el_u8 rfl _ _ rfl rfl hown [.int .u8 49] 1 rfl rfl ?c1 ?c2 ?c3 hsz hb (Nat.le_refl _) ?_)
        case c1 => intro u hu; simp at hu; rcases hu with rfl; rfl
        case c2 => omega
        case c3 => unfold maxLen; omega
        intro ov' w3 hown' hb' hgr
        have hkk : Kept 114 wr w3 := Kept.grew hown hgr (by decide)
        have hblk3 := hkk _ _ hblk
        have hvs3 := hvs.kept hkk
        have ha3 := ha.kept hkk
        have hb3 := hb9.kept hkk
        have hst' := own_other hown hpop hgr (by decide)
        have hsz3 := hb'.size
        have hab' := hab
        have HAB := Lib.hid hab
        clear hab hab' hown hpop hb hvs c1 d0 d1 d2 ha hb9 hblk hkk hgr
        have e0 := (block_cells hblk3).1 0
        have e1 := (block_cells hblk3).1 1
        have HB3 := Lib.hid hblk3; clear hblk3
        go_wp2
        go_region_held3 (fun w' => w'.cell? ⟨ng, 0, none⟩ = some (.pointer x) ∧ w'.cell? ⟨ng, 1, none⟩ = some (.pointer y))
          (first | exact keepS HB3.out (Kept.drew (Kept.refl _ _)) | exact keepS HB3.out (Kept.drew ((Kept.refl _ _).alloc _)) | exact keepS HB3.out (Kept.of_drew (Kept.grew hst'.drew hgr4 (by decide))))
          ((refine step_new el_rnode (by rfl) _ _ (by rfl) (by rfl) (hst'.drew) [.pointer y, .pointer x] 2 (by rfl) (by rfl) (by decide) (by intro u hu; simp at hu; rcases hu with rfl | rfl <;> rfl) (by omega) (by unfold maxLen; omega) hsz3 hb'.drew (Nat.le_refl _) ?_; intro g4 cap4 w4 hst4 hb4 hgr4))
        all_goals
          have hkk4 : Kept 114 w3 w4 := Kept.of_drew (Kept.grew hst'.drew hgr4 (by decide))
          have hN4 := hvs3.kept hkk4
          have ha4 := ha3.kept hkk4
          have hb44 := hb3.kept hkk4
          have hown4 := own_other hst'.drew hown'.drew hgr4 (by decide)
          clear hvs3 ha3 hb3 hown' hst' e0 e1
          go_wp2
          go_roundg (szs (a :: b :: us))
          case measure => rw [hg.out, HZ.out, HAB.out]; simp [szs]; omega
          case rel =>
            refine ⟨a :: b :: us, .pointer x :: .pointer y :: vals, done ++ [49], n + 1, m + 2, rfl, hb1, hm3, ?_, ⟨ha4, hb44, hN4⟩, ?_, ?_, ?_, hb4⟩
            · show _ = _; rw [he.out]; simp [Tr.enc]
            · show _ = _; rw [HMU.out]; simp
            · simpa [Lib.byteCells] using hown4
            · simpa using hst4

theorem rnodeCons_ok (a b : Tr) (x y : Value) (w : World) (ha : NodeP 114 w a x) (hb : NodeP 114 w b y) (h1 : a.size ≤ 4000001) (h2 : b.size ≤ 4000001) :
    Calls Try.prog 75 #[x, y] w fun e w' => ∃ p, e = .returned (.pointer (some p)) ∧ NodeP 114 w' (.pair a b) (.pointer (some p)) ∧ Below w.heap.size w w' := by
  have s1 := rnodeSize_any a x w ha
  have s2 := rnodeSize_any b y w hb
  have hn := NodeP.new ha hb
  obtain ⟨x, rfl⟩ := ha.ptr
  obtain ⟨y, rfl⟩ := hb.ptr
  obtain ⟨sz, hsz⟩ : ∃ q, (Tr.pair a b).size = q := ⟨_, rfl⟩
  rw [hsz] at hn
  have ht : ((1 + a.size + b.size : Nat) : Int) = sz := by rw [← hsz]; rfl
  have e1 : (1 : Int) + a.size + b.size = sz := by omega
  have a1 : (a.size : Int) ≤ 4000001 := by omega
  have a2 : (b.size : Int) ≤ 4000001 := by omega
  clear hsz ht h1 h2
  go_enter Try.func75, Try.ntmps75
  go_wp2_with fail
  refine s1.mono ?_
  rintro e w1 ⟨rfl, rfl⟩
  go_wp2_with fail
  refine s2.mono ?_
  rintro e w1 ⟨rfl, rfl⟩
  clear s1 s2
  go_wp2
  go_ret
  exact ⟨_, rfl, hn, (Below.refl _ _).alloc (Nat.le_refl _) _⟩

set_option maxHeartbeats 4000000 in
theorem read_ok (t : Tr) (hs : t.size ≤ 2000000) (w : World) :
    Calls Try.prog 28 #[.string (TS t)] w fun e w' => ∃ p, e = .returned (.pointer p) ∧ NodeP 114 w' t (.pointer p) ∧ Below w.heap.size w w' := by
  have hz : (TS t).size = t.size := TS_size t
  have h1 : (1 : Int) ≤ t.size := by have := t.size_pos; omega
  have h2 : (t.size : Int) ≤ 2000000 := by omega
  have hf : pf (t.enc.drop t.size) = some [] := by rw [List.drop_eq_nil_of_le (by rw [Tr.enc_length]; exact Nat.le_refl _)]; rfl
  have HF := Lib.hid hf; clear hf hs
  go_enter Try.func28, Try.ntmps28
  go_wp2
  go_loopg [3, 4] t.size (fun g v i wr => ∃ (j n : Nat) (ts : List Tr) (vals : List Value), j ≤ t.size ∧ g = j ∧ i = .int .i64 ((j : Int) - 1) ∧ Aside (pf (t.enc.drop j) = some ts) ∧ Aside (n = ts.length) ∧ Nodes 114 wr ts vals ∧
    wr.ownsRow w.heap.size 32 1 v n vals.reverse ∧ Below w.heap.size w wr)
  case atStart => exact ⟨t.size, 0, [], [], Nat.le_refl _, rfl, rfl, HF.out, rfl, trivial, World.ownsRow_nil _ _ _ _, Below.refl _ _⟩
  case round =>
    obtain ⟨j, n, ts, vals, hj, hg, hi, hp, hnl, hNs, hown, hb⟩ := hrel
    have HG := Lib.hid hg; clear hg
    have hsz := hb.size
    have hlen := pf_length _ _ hp.out
    rw [List.length_drop, Tr.enc_length] at hlen
    have hnn : n ≤ t.size - j := by rw [hnl.out]; exact hlen
    clear hlen
    obtain ⟨sa, sc, rfl⟩ := own_len hown
    cases j with
    | succ q =>
      rw [show (((q + 1 : Nat) : Int) - 1) = (q : Int) from by omega] at hi
      subst hi
      have hq : q < (TS t).size := by omega
      have hnI : (n : Int) ≤ 2000000 := by omega
      obtain ⟨us, ts', hu, ht, hcase⟩ := pf_at t q hq
      obtain rfl : us = ts := by have := hp.out; rw [hu] at this; simpa using this
      clear hp hu
      have HT : Aside (pf (t.enc.drop q) = some ts') := ht
      clear ht
      rcases hcase with ⟨h8, rfl⟩ | ⟨h9, a, b, r, rfl, rfl⟩
      · go_wp2_with (at_builtin; refine app_new el_rnode rfl _ _ rfl rfl hown [.pointer none] 1 rfl rfl ?c1 ?c2 ?c3 hsz hb (Nat.le_refl _) ?_)
        case c1 => intro u hu; simp at hu; rcases hu with rfl; rfl
        case c2 => omega
        case c3 => unfold maxLen; omega
        intro v' w' hown' hb' hgr
        have hN' := hNs.kept (Kept.grew hown hgr (by decide))
        clear hown hb hNs
        go_wp2
        go_roundg q
        case measure => rw [HG.out]; omega
        case rel => exact ⟨q, n + 1, .nil :: us, .pointer none :: vals, by omega, rfl, rfl, HT, (by show _ = _; rw [hnl.out]; rfl), ⟨rfl, hN'⟩, by simpa using hown', hb'⟩
      · have b8 : (((TS t)[q].toNat : Int) == 48) = false := beq_eq_false_iff_ne.2 (by omega)
        have hn2 : n = r.length + 2 := by have := hnl.out; simpa using this
        obtain ⟨m, hm⟩ : ∃ m, r.length = m := ⟨_, rfl⟩
        rw [hm] at hn2
        subst hn2
        obtain ⟨va, vals, rfl, ha, hNq⟩ := hNs.uncons
        obtain ⟨vb, vals, rfl, hbb, hNr⟩ := hNq.uncons
        clear hNs hNq
        have hvl := hNr.length
        obtain ⟨sg, cap, hsv, hg1, hg2, hnc, hcm, hcell, hfz⟩ := own_cells hown (by omega)
        simp only [Value.slice.injEq] at hsv
        obtain ⟨rfl, -, rfl⟩ := hsv
        have c1 : wr.cell? ⟨sg, m + 1, none⟩ = some va := by
          rw [hcell _ (by omega), List.reverse_cons, List.getElem?_append_right (by simp; omega)]; simp [hvl, hm]
        have c2 : wr.cell? ⟨sg, m, none⟩ = some vb := by
          rw [hcell _ (by omega), List.reverse_cons, List.reverse_cons, List.append_assoc, List.getElem?_append_right (by simp; omega)]; simp [hvl, hm]
        have hpop : wr.ownsRow w.heap.size 32 1 (.slice (some ⟨sg, 0, none⟩) m sc) m vals.reverse :=
          ownsRow_pop (last := [vb]) (by simp [hvl, hm]) (ownsRow_pop (last := [va]) (by simp [hvl, hm]) (by rw [List.reverse_cons, List.reverse_cons] at hown; exact hown))
        have hzab : (Tr.pair a b).size ≤ t.size := by
          have h3 := congrArg List.length (pf_flat _ _ HT.out)
          simp [Tr.enc_length] at h3; omega
        have hzz : (Tr.pair a b).size = 1 + a.size + b.size := rfl
        obtain ⟨va, rfl⟩ := ha.ptr
        obtain ⟨vb, rfl⟩ := hbb.ptr
        have e1 : ((m : Int) + 2 - 1).toNat = m + 1 := by omega
        have e3 : ((m : Int) + 1).toNat = m + 1 := by omega
        have o1 : (0 : Int) ≤ (m : Int) + 1 := by omega
        have o2 : (m : Int) + 1 < (m : Int) + 2 := by omega
        have o3 : (m : Int) < (m : Int) + 2 := by omega
        have o8 : (m : Int) ≤ (sc : Int) := by omega
        have hc0 := rnodeCons_ok a b _ _ wr.drew (ha.kept (Kept.drew (Kept.refl _ _))) (hbb.kept (Kept.drew (Kept.refl _ _))) (by omega) (by omega)
        have HC := Lib.hid hc0
        have HV := Lib.hid hvl; have HR := Lib.hid hm
        clear hc0 hzab hzz hcell hfz hown hvl hm ha hbb
        go_wp2
        have W1 : IntKind.i64.wrap (m : Int) = m := IntWalk.i64_in _ (by omega)
        have W2 : IntKind.i64.wrap ((m : Int) + 2 - 1) = (m : Int) + 1 := by rw [IntWalk.i64_in _ (by omega)]; omega
        go_region_held3 (fun w' => w'.cell? ⟨sg, m + 1, none⟩ = some (.pointer va) ∧ w'.cell? ⟨sg, m, none⟩ = some (.pointer vb))
          (first | exact ⟨c1, c2⟩ | exact ⟨(k5.cell (p := ⟨sg, m + 1, none⟩) hg2).trans c1, (k5.cell (p := ⟨sg, m, none⟩) hg2).trans c2⟩)
          ((go_at_call 75; refine HC.out.mono ?_; rintro e w5 ⟨p5, rfl, hp5, k5⟩))
        all_goals
          have k6 : Below wr.heap.size wr w5 := below_of_drew k5
          have hb5 : Below w.heap.size w w5 := hb.trans (k6.mono hsz)
          have hN5 := hNr.kept (Kept.below k6)
          have hpop5 := own_below hpop k6
          have hs5 := hb5.size
          clear hNr hpop c1 c2 k5 k6 hb HC W1 W2
          go_wp2_with (at_builtin; refine app_new el_rnode rfl _ _ rfl rfl hpop5 [.pointer (some p5)] 1 rfl rfl ?c1 ?c2 ?c3 hs5 hb5 (Nat.le_refl _) ?_)
          case c1 => intro u hu; simp at hu; rcases hu with rfl; rfl
          case c2 => omega
          case c3 => unfold maxLen; omega
          intro v' w' hown' hb' hgr
          have hkk := Kept.grew (T := 114) hpop5 hgr (by decide)
          have hN' := hN5.kept hkk
          have hp' := hp5.kept hkk
          clear hpop5 hb5 hN5 hp5 hkk
          go_wp2
          go_roundg q
          case measure => rw [HG.out]; omega
          case rel => exact ⟨q, m + 1, .pair a b :: r, .pointer (some p5) :: vals, by omega, rfl, rfl, HT, (by show _ = _; rw [List.length_cons, HR.out]), ⟨hp', hN'⟩, by simpa using hown', hb'⟩
    | zero =>
      rw [show (((0 : Nat) : Int) - 1) = -1 from rfl] at hi
      subst hi
      have hp' := hp.out
      rw [List.drop_zero, pf_one] at hp'
      obtain rfl : [t] = ts := by simpa using hp'
      have hn1 : n = 1 := hnl.out
      subst hn1
      obtain ⟨v, us, rfl, hv, hus⟩ := hNs.uncons
      obtain rfl := hus.nil_iff
      obtain ⟨sg, cap, hsv, hg1, hg2, hnc, hcm, hcell, hfz⟩ := own_cells hown (by omega)
      simp only [Value.slice.injEq] at hsv
      obtain ⟨rfl, -, rfl⟩ := hsv
      obtain ⟨pv, rfl⟩ := hv.ptr
      have c1 : wr.cell? ⟨sg, 0, none⟩ = some (.pointer pv) := by rw [hcell _ (by omega)]; rfl
      clear hcell hfz hown hp' hp
      go_wp2
      go_ret
      exact ⟨pv, rfl, hv, hb⟩

end Go.Proofs.Ytieocihlkpipmaa

namespace Go.Proofs.Ytieocihlkpipmaa
open Go.RowKit

/-- The reference's machine at block g; all of it lies below block T. -/
structure RMachP (w : World) (T g : Nat) (l : List Ins) (pv tv : Value) : Prop where
  blk : w.heap[g]? = some (.cells #[pv, tv] 107 (0, 0))
  lt : g < T
  prog : InsRow w T pv l
  sets : ∃ xs base, Nodes 114 w (l.map fun x => toTr x.tree) xs ∧ w.ownsRow base 32 1 tv l.length xs ∧ ∀ k, tv.ownBlock = some k → k < T
/-- A state of the reference at block g, from block T on. -/
structure RStP (w : World) (T g : Nat) (s : St) (rv : Value) (ps : List Value) : Prop where
  blk : w.heap[g]? = some (.cells #[.int .i64 s.pos, rv] 109 (0, 0))
  le : T ≤ g
  regs : Nodes 114 w s.regs ps
  own : w.ownsRow T 32 1 rv s.regs.length ps
theorem RMachP.kept {w w' : World} {T g : Nat} {l : List Ins} {pv tv : Value} (h : RMachP w T g l pv tv) (hb : Below T w w') (hk : Kept 114 w w') : RMachP w' T g l pv tv := by
  obtain ⟨xs, base, h1, h2, h3⟩ := h.sets
  refine ⟨(hb.block g h.lt).trans h.blk, h.lt, h.prog.below hb, xs, base, h1.kept hk, ⟨h2.1, ?_⟩, h3⟩
  rcases h2.2 with h4 | ⟨g', cap, cur, hv, hbb, hgg, r⟩
  · exact .inl h4
  · exact .inr ⟨g', cap, cur, hv, hbb, (hb.block g' (h3 g' (by rw [hv]; rfl))).trans hgg, r⟩
theorem RStP.kept {w w' : World} {T g : Nat} {s : St} {rv : Value} {ps : List Value} (h : RStP w T g s rv ps) (hb : Below w.heap.size w w') : RStP w' T g s rv ps :=
  ⟨(hb.block g (Array.getElem?_eq_some_iff.1 h.blk).1).trans h.blk, h.le, h.regs.kept (Kept.below hb), own_below h.own hb⟩

/-- An element of an owned row, written. -/
theorem own_set {w : World} {base e : Nat} {g n cap : Nat} {xs : List Value} (h : w.ownsRow base e 1 (.slice (some ⟨g, 0, none⟩) n cap) n xs) (j : Nat) (v : Value) : (w.setCell ⟨g, j, none⟩ v).ownsRow base e 1 (.slice (some ⟨g, 0, none⟩) n cap) n (xs.set j v) := by
  refine ⟨by rw [List.length_set]; exact h.1, ?_⟩
  rcases h.2 with ⟨h0, _⟩ | ⟨g', cap', cur, hv, hb, hg, hnc, hcm, hcs, htake⟩
  · cases h0
  · simp only [Value.slice.injEq, Option.some.injEq, Addr.mk.injEq] at hv
    obtain ⟨⟨rfl, -, -⟩, -, rfl⟩ := hv
    refine .inr ⟨g, cap, cur.setIfInBounds j v, rfl, hb, set_blk hg j v, hnc, hcm, by simpa using hcs, ?_⟩
    rw [Array.toList_setIfInBounds, List.take_set, htake]

end Go.Proofs.Ytieocihlkpipmaa

namespace Go.Proofs.Ytieocihlkpipmaa
open Go.RowKit

theorem lwr_take_le (l : List ByteArray) (k : Nat) : (lwr (l.take k)).length ≤ (lwr l).length := by
  have h : lwr l = lwr (l.take k) ++ lwr (l.drop k) := by
    conv => lhs; rw [← List.take_append_drop k l]
    unfold lwr; rw [List.map_append, List.flatten_append]
  rw [h]; simp

set_option maxHeartbeats 2000000 in
theorem refList_any (v : Value) (l : List ByteArray) (w : World) (hl : StrRow w w.heap.size v l) (hn : l.length ≤ 4000000000) (htot : (lwr l).length ≤ 4000000000) :
    Calls Try.prog 37 #[v] w fun e w' => e = .returned (.string ⟨(lwr l ++ [48]).toArray⟩) ∧ Below w.heap.size w w' := by
  obtain ⟨ao, cap, rfl⟩ := hl.len
  obtain ⟨n, hn'⟩ : ∃ n, l.length = n := ⟨_, rfl⟩
  rw [hn'] at hn hl ⊢
  have HN := Lib.hid hn'; clear hn'
  have HT := Lib.hid htot; clear htot
  obtain ⟨r1, hr1⟩ : ∃ r, (⟨(lwr l ++ [48]).toArray⟩ : ByteArray) = r := ⟨_, rfl⟩
  rw [hr1]
  have H1 := Lib.hid hr1; clear hr1
  go_enter Try.func37, Try.ntmps37
  go_wp2
  go_loopg [3, 4] n (fun g v i wr => ∃ k m : Nat, k ≤ n ∧ g = n - k ∧ i = .int .i64 k ∧ Aside (m = (lwr (l.take k)).length) ∧ wr.ownsRow w.heap.size 5 1 v m (Lib.byteCells (lwr (l.take k))) ∧ Below w.heap.size w wr)
  case atStart => exact ⟨0, 0, Nat.zero_le _, rfl, rfl, rfl, World.ownsRow_nil _ _ _ _, Below.refl _ _⟩
  case round =>
    obtain ⟨k, m, hk, hg, rfl, hm, hown, hb⟩ := hrel
    have HG := Lib.hid hg; clear hg
    have hmb : m ≤ 4000000000 := by rw [hm.out]; exact Nat.le_trans (lwr_take_le l k) HT.out
    have hsz := hb.size
    by_cases hlt : k < n
    · obtain ⟨s, hs⟩ : ∃ s, l[k]? = some s := ⟨_, List.getElem?_eq_getElem (by rw [HN.out]; exact hlt)⟩
      have hlr := hl.below hb
      obtain ⟨g, off, rfl, hg, hcell⟩ := hlr.get hs
      have hm2 : m + 1 + s.size ≤ 4000000000 := by
        have h1 := Nat.le_trans (lwr_take_le l (k + 1)) HT.out
        rw [take_snoc' l k s hs, lwr_snoc] at h1
        have hss : s.data.toList.length = s.size := by simp
        simp only [List.length_append, List.length_cons, hss] at h1
        rw [hm.out]; omega
      have HS := Lib.hid hs; clear hs
      obtain ⟨av, cv, rfl⟩ := own_len hown
      have hi0 : (0 : Int) ≤ (k : Int) := Int.natCast_nonneg _
      have hi1 : (k : Int) < (n : Int) := by omega
      have hlr' := Lib.hid hl
      clear hlr
      go_wp2
      go_region_held3 (fun w' => w'.cell? ⟨g, off + k, none⟩ = some (.string s))
        (first | assumption | exact hcell | exact (hb1.cell (p := ⟨g, off + k, none⟩) hg).trans ((hb.cell (p := ⟨g, off + k, none⟩) hg).symm.trans hcell) | exact (hb2.cell (p := ⟨g, off + k, none⟩) hg).trans ((hb.cell (p := ⟨g, off + k, none⟩) hg).symm.trans hcell) | exact ((hb.alloc hsz _).drew.cell (p := ⟨g, off + k, none⟩) hg).trans ((hb.cell (p := ⟨g, off + k, none⟩) hg).symm.trans hcell))
        ((first | (refine step_str el_u8 Try.underlying9 (by rfl) _ _ (by rfl) (by rfl) hown1 s (by rfl) (by omega) hb1.size hb1 (Nat.le_refl _) ?_; intro v2 w2 hown2 hb2 hgr2) | (refine step_new el_u8 (by rfl) _ _ (by rfl) (by rfl) (hown.drew) [.int .u8 49] 1 (by rfl) (by rfl) (by decide) (by intro u hu; simp at hu; rcases hu with rfl; rfl) (by omega) (by unfold maxLen; omega) hsz hb.drew (Nat.le_refl _) ?_; intro g1 cap1 w1 hown1 hb1 hgr1)))
      all_goals
        go_wp2
        go_roundg (n - (k + 1))
        case measure => rw [HG.out]; omega
        case rel =>
          refine ⟨k + 1, m + 1 + s.size, by omega, rfl, by go_num, ?_, ?_, hb2⟩
          · show _ = _; rw [take_snoc' l k s HS.out, lwr_snoc, List.length_append, ← hm.out]; simp; omega
          · have : Lib.byteCells (lwr (l.take (k + 1))) = Lib.byteCells (lwr (l.take k)) ++ [.int .u8 49] ++ Lib.strCells s := by
              rw [take_snoc' l k s HS.out, lwr_snoc]; simp [Lib.byteCells, Lib.strCells]
            rw [this]; exact hown2
    · have hta : l.take k = l := List.take_of_length_le (by rw [HN.out]; omega)
      rw [hta] at hown
      clear hta hm
      go_wp2_with (at_builtin; refine app_new el_u8 rfl _ _ rfl rfl hown [.int .u8 48] 1 rfl rfl ?c1 ?c2 ?c3 hsz hb (Nat.le_refl _) ?_)
      case c1 => intro u hu; simp at hu; rcases hu with rfl; rfl
      case c2 => omega
      case c3 => unfold maxLen; omega
      intro v' w' hown' hb' hgr
      have hcv := own_bytes (P := Try.prog) (lwr l ++ [48]) (by simpa [Lib.byteCells] using hown') 111 Try.underlying111 Try.underlying5 9 Try.underlying9
      clear hown hb hown'
      go_wp2
      go_ret
      exact ⟨by rw [← H1.out]; rfl, hb'⟩

/-- Two lists of strings are equal. -/
def sameB (a b : List ByteArray) : Bool := decide (a = b)
theorem same_take {a b : List ByteArray} {k : Nat} {s u : ByteArray} (h : a.take k = b.take k) (h1 : a[k]? = some s) (h2 : b[k]? = some u) (he : s = u) : a.take (k + 1) = b.take (k + 1) := by
  rw [take_snoc' _ _ _ h1, take_snoc' _ _ _ h2, h, he]

set_option maxHeartbeats 2000000 in
theorem same_any (v1 v2 : Value) (l1 l2 : List ByteArray) (w : World) (B : Nat) (hl1 : StrRow w B v1 l1) (hl2 : StrRow w B v2 l2) :
    Calls Try.prog 35 #[v1, v2] w fun e w' => e = .returned (.bool (sameB l1 l2)) ∧ ∃ nq, w' = w.drewN nq := by
  obtain ⟨ao1, cap1, rfl⟩ := hl1.len
  obtain ⟨ao2, cap2, rfl⟩ := hl2.len
  obtain ⟨n1, hn1⟩ : ∃ n, l1.length = n := ⟨_, rfl⟩
  obtain ⟨n2, hn2⟩ : ∃ n, l2.length = n := ⟨_, rfl⟩
  have hb1 := hl1.2.1
  have hb2 := hl2.2.1
  rw [hn1] at hl1 hb1 ⊢
  rw [hn2] at hl2 hb2 ⊢
  have HN1 := Lib.hid hn1; clear hn1
  have HN2 := Lib.hid hn2; clear hn2
  obtain ⟨r, hr⟩ : ∃ r, sameB l1 l2 = r := ⟨_, rfl⟩
  rw [hr]
  have HR := Lib.hid hr; clear hr
  by_cases hne : n1 = n2
  · subst hne
    go_enter Try.func35, Try.ntmps35
    go_wp2
    go_loopg [5] n1 (fun g i wr => ∃ k q : Nat, k ≤ n1 ∧ g = n1 - k ∧ i = .int .i64 k ∧ Aside (l1.take k = l2.take k) ∧ wr = w.drewN q)
    case atStart => exact ⟨0, 0, Nat.zero_le _, rfl, rfl, rfl, rfl⟩
    case round =>
      obtain ⟨k, q, hk, hg, rfl, hv, rfl⟩ := hrel
      have HG := Lib.hid hg; clear hg
      by_cases hlt : k < n1
      · obtain ⟨s, hs⟩ : ∃ s, l1[k]? = some s := ⟨_, List.getElem?_eq_getElem (by rw [HN1.out]; exact hlt)⟩
        obtain ⟨u, hu⟩ : ∃ s, l2[k]? = some s := ⟨_, List.getElem?_eq_getElem (by rw [HN2.out]; exact hlt)⟩
        obtain ⟨g1, off1, rfl, hg1, hc1⟩ := hl1.get hs
        obtain ⟨g2, off2, rfl, hg2, hc2⟩ := hl2.get hu
        have hi0 : (0 : Int) ≤ (k : Int) := Int.natCast_nonneg _
        have hi1 : (k : Int) < (n1 : Int) := by omega
        have HS := Lib.hid hs; have HU := Lib.hid hu
        clear hs hu
        cases heq : (s.toList == u.toList) with
        | true =>
          have hn := Lib.hid (same_take hv.out HS.out HU.out (ba_ext (by rw [← Lib.toList_data, ← Lib.toList_data]; exact eq_of_beq heq)))
          go_wp2
          go_quiet (fail)
          go_wp2
          go_roundg (n1 - (k + 1))
          case measure => rw [HG.out]; omega
          case rel => exact ⟨k + 1, _, by omega, rfl, by go_num, hn, rfl⟩
        | false =>
          have hn : Hid (sameB l1 l2 = false) := by
            refine decide_eq_false fun e => ?_
            subst e
            have := HS.out; rw [HU.out] at this
            simp only [Option.some.injEq] at this; subst this
            simp at heq
          go_wp2
          go_quiet (fail)
          go_wp2
          go_ret
          exact ⟨by rw [← HR.out, hn.out]; rfl, q + nq, by rw [World.drewN_drewN]⟩
      · have hn : Hid (sameB l1 l2 = true) := by
          refine decide_eq_true ?_
          have := hv.out
          rwa [List.take_of_length_le (by rw [HN1.out]; omega), List.take_of_length_le (by rw [HN2.out]; omega)] at this
        go_wp2
        go_ret
        exact ⟨by rw [← HR.out, hn.out]; rfl, _, rfl⟩
  · have hb : ((n1 : Int) != (n2 : Int)) = true := by rw [bne_iff_ne]; omega
    have hn : Hid (sameB l1 l2 = false) := decide_eq_false fun e => hne (by rw [← HN1.out, ← HN2.out, e])
    go_enter Try.func35, Try.ntmps35
    go_wp2
    go_ret
    exact ⟨by rw [← HR.out, hn.out]; rfl, 0, rfl⟩

/-- Where the rest of a tree, as a list, begins. -/
def ITail (t u : Tr) (p : Nat) : Prop := p + u.size = t.size ∧ t.enc.drop p = u.enc
theorem ITail.get {t u : Tr} {p : Nat} (h : ITail t u p) (hp : p < (TS t).size) : ((TS t)[p].toNat : Int) = (if u = .nil then 48 else 49 : Int) := by
  rw [TS_get]
  have e : t.enc.drop p = t.enc[p]'(by rw [TS_size, ← Tr.enc_length] at hp; exact hp) :: t.enc.drop (p + 1) := List.drop_eq_getElem_cons _
  rw [h.2] at e
  cases u with
  | nil => simp only [Tr.enc, List.cons.injEq] at e; rw [← e.1]; rfl
  | pair a b => simp only [Tr.enc, List.cons.injEq] at e; rw [← e.1]; rfl
theorem ITail.next {t a b : Tr} {p : Nat} (h : ITail t (.pair a b) p) : ITail t b (p + 1 + a.size) ∧ endI (TS t) (p + 1) 1 = (p + 1 + a.size : Nat) ∧ (TS t).extract (p + 1) (p + 1 + a.size) = TS a := by
  have e1 : t.enc.drop (p + 1) = a.enc ++ b.enc := by
    have : t.enc.drop (p + 1) = (t.enc.drop p).drop 1 := by rw [List.drop_drop]
    rw [this, h.2]; rfl
  have hs := h.1
  simp only [Tr.size] at hs
  refine ⟨⟨by omega, ?_⟩, ?_, ?_⟩
  · have : t.enc.drop (p + 1 + a.size) = (t.enc.drop (p + 1)).drop a.size := by rw [List.drop_drop]
    rw [this, e1, List.drop_append, Tr.enc_length]; simp [← Tr.enc_length]
  · unfold endI
    rw [TS_list, e1]
    have := endF_enc a b.enc 0
    rw [this]; simp [endF]
  · apply ba_ext
    rw [Lib.extract_data, TS_list, TS_list, e1]
    simp [List.take_append, Tr.enc_length]

set_option maxHeartbeats 2000000 in
theorem refItems_ok (t : Tr) (ht : t.size ≤ 2000000) (w : World) :
    Calls Try.prog 67 #[.string (TS t)] w fun e w' => ∃ v n, e = .returned v ∧ w'.ownsRow w.heap.size 9 1 v n ((t.items.map TS).map Value.string) ∧ Below w.heap.size w w' := by
  have hz : (TS t).size = t.size := TS_size t
  obtain ⟨S, hS⟩ : ∃ S, S = TS t := ⟨_, rfl⟩
  have HSS := Lib.hid hS
  rw [← hS] at hz ⊢; clear hS
  go_enter Try.func67, Try.ntmps67
  go_wp2
  go_loopg [3, 4] t.size (fun g v i wr => ∃ (u : Tr) (done : List Tr) (p n : Nat), i = .int .i64 p ∧ Aside (g = u.size) ∧ p < t.size ∧ n ≤ p ∧ ITail t u p ∧ Aside (t.items = done ++ u.items) ∧ wr.ownsRow w.heap.size 9 1 v n ((done.map TS).map Value.string) ∧ Below w.heap.size w wr)
  case atStart => exact ⟨t, [], 0, 0, rfl, rfl, t.size_pos, Nat.le_refl _, ⟨by omega, by simp⟩, rfl, World.ownsRow_nil _ _ _ _, Below.refl _ _⟩
  case round =>
    obtain ⟨u, done, p, n, rfl, hg, hp, hnp, hi, hd, hown, hb⟩ := hrel
    have hps : p < S.size := by omega
    have hsz := hb.size
    have hch : (S[p].toNat : Int) = (if u = .nil then 48 else 49 : Int) := by have := HSS.out; subst this; exact hi.get hps
    cases u with
    | nil =>
      rw [if_pos rfl] at hch
      have e : Hid (t.items = done) := Lib.hid (by have := hd.out; simpa [Tr.items] using this)
      obtain ⟨ao, cc, rfl⟩ := own_len hown
      go_wp2
      refine bodyPost_ret (v := .slice ao n cc) (by simp [results, Try.results67, go_sem]) rfl ?_
      exact ⟨_, n, rfl, by rw [e.out]; exact hown, hb⟩
    | pair a c =>
      rw [if_neg (by simp)] at hch
      obtain ⟨h1, h2, h3⟩ := hi.next
      have hsz1 := h1.1
      have hc1 := c.size_pos
      have ha1 := a.size_pos
      have hE := fun w => refEnd_any S (p + 1) (by omega) (by omega) w
      rw [HSS.out, h2, ← HSS.out] at hE
      have hx : S.extract (p + 1) (p + 1 + a.size) = TS a := by rw [HSS.out]; exact h3
      have HX := Lib.hid hx
      have HI := h1
      clear h2 h3 hi hx
      obtain ⟨q, hq⟩ : ∃ q, p + 1 + a.size = q := ⟨_, rfl⟩
      rw [hq] at hE HX HI hsz1
      have hq1 : p + 1 ≤ q := by omega
      have hq2 : q < t.size := by omega
      have hqI : (q : Int) < t.size := by omega
      have hqI1 : (p : Int) + 1 ≤ (q : Int) := by omega
      have HQ := Lib.hid hq; clear hq hsz1 h1
      have e1 : ((p : Int) + 1).toNat = p + 1 := by omega
      go_wp2_with fail
      refine (hE _).mono ?_
      rintro e w1 ⟨rfl, rfl⟩
      clear hE
      go_wp2_with (at_builtin; refine app_new el_str rfl _ _ rfl rfl hown [.string (S.extract (p + 1) q)] 1 rfl rfl ?c1 ?c2 ?c3 hsz hb (Nat.le_refl _) ?_)
      case c1 => intro u hu; simp at hu; rcases hu with rfl; rfl
      case c2 => omega
      case c3 => unfold maxLen; omega
      intro v' w2 hown' hb' hgr
      clear hown hb
      go_wp2
      go_roundg c.size
      case measure => rw [hg.out]; simp only [Tr.size]; omega
      case rel => exact ⟨c, done ++ [a], q, n + 1, rfl, rfl, hq2, by omega, HI, by show _ = _; rw [hd.out]; simp [Tr.items], by have h9 := hown'; rw [HX.out] at h9; simpa using h9, hb'⟩

end Go.Proofs.Ytieocihlkpipmaa

namespace Go.Proofs.Ytieocihlkpipmaa
open Go.RowKit

set_option maxHeartbeats 1000000 in
theorem rended_any (w : World) (B g h : Nat) (l : List Ins) (s : St) (pv tv rv : Value) (T : Nat) (ps : List Value) (hm : RMachP w B g l pv tv) (hs : RStP w T h s rv ps) :
    Calls Try.prog 58 #[.pointer (some ⟨g, 0, none⟩), .pointer (some ⟨h, 0, none⟩)] w fun e w' => e = .returned (.bool ((s.pos : Int) == (l.length : Int))) ∧ ∃ nq, w' = w.drewN nq := by
  obtain ⟨ao, cap, rfl⟩ := hm.prog.len
  have c0 := (block_cells hm.blk).1 0
  have d0 := (block_cells hs.blk).1 0
  simp only [List.getElem?_toArray, List.getElem?_cons_zero] at c0 d0
  obtain ⟨n, hn'⟩ : ∃ n, l.length = n := ⟨_, rfl⟩
  rw [hn'] at c0 ⊢
  clear hm hs hn'
  go_enter Try.func58, Try.ntmps58
  go_wp2
  go_quiet (fail)
  go_wp2
  go_ret
  exact ⟨rfl, _, rfl⟩

/-- Two states with trees as strings are equal. -/
def sameS (n m : Int) (l1 l2 : List ByteArray) : Bool := (n == m) && sameB l1 l2
set_option maxHeartbeats 1000000 in
theorem sameState_any (n m : Int) (u v : Value) (l1 l2 : List ByteArray) (w : World) (h1 : StrRow w w.heap.size u l1) (h2 : StrRow w w.heap.size v l2) :
    Calls Try.prog 41 #[.agg #[.int .i64 n, u], .agg #[.int .i64 m, v]] w fun e w' => e = .returned (.bool (sameS n m l1 l2)) ∧ Below w.heap.size w w' := by
  have k := fun w' (h1 : StrRow w' w.heap.size u l1) (h2 : StrRow w' w.heap.size v l2) => same_any u v l1 l2 w' w.heap.size h1 h2
  obtain ⟨r, hr⟩ : ∃ r, sameB l1 l2 = r := ⟨_, rfl⟩
  unfold sameS
  rw [hr] at k ⊢
  clear hr
  obtain ⟨a1, c1, rfl⟩ := h1.len
  obtain ⟨a2, c2, rfl⟩ := h2.len
  have hb : Below w.heap.size w ((w.alloc (.cells #[.int .i64 n, .slice a1 l1.length c1] 53)).alloc (.cells #[.int .i64 m, .slice a2 l2.length c2] 53)) := ((Below.refl _ w).alloc (Nat.le_refl _) _).alloc (by simp) _
  have k1 := k _ (h1.below hb) (h2.below hb)
  clear k h1 h2
  generalize l1.length = n1 at *
  generalize l2.length = n2 at *
  cases hnm : (n == m) with
  | true =>
    go_enter Try.func41, Try.ntmps41
    go_wp2_with fail
    refine k1.mono ?_
    rintro e w1 ⟨rfl, nq, rfl⟩
    go_wp2
    go_ret
    exact ⟨by simp, below_drewN hb nq⟩
  | false =>
    go_enter Try.func41, Try.ntmps41
    go_wp2
    go_ret
    exact ⟨rfl, hb⟩

end Go.Proofs.Ytieocihlkpipmaa

namespace Go.Proofs.Ytieocihlkpipmaa
open Go.RowKit

/-- A state that is one of a program of some length. -/
def fitsB (n : Int) (len : Nat) (l : List ByteArray) : Bool := decide (0 ≤ n) && decide (n ≤ len) && decide (l.length = 32) && l.all isTree

set_option maxHeartbeats 2000000 in
theorem fits_any (pv : Value) (pl : List Ins) (n : Int) (u : Value) (l : List ByteArray) (w : World) (hp : InsRow w w.heap.size pv pl) (hn : i64 n) (hl : StrRow w w.heap.size u l) :
    Calls Try.prog 46 #[pv, .agg #[.int .i64 n, u]] w fun e w' => e = .returned (.bool (fitsB n pl.length l)) ∧ Below w.heap.size w w' := by
  obtain ⟨r, hr⟩ : ∃ r, fitsB n pl.length l = r := ⟨_, rfl⟩
  rw [hr]
  unfold fitsB at hr
  obtain ⟨ap, cp, rfl⟩ := hp.len
  have hpn := hp.2.1
  obtain ⟨au, cu, rfl⟩ := hl.len
  obtain ⟨z, hz⟩ : ∃ z, pl.length = z := ⟨_, rfl⟩
  obtain ⟨m, hm⟩ : ∃ m, l.length = m := ⟨_, rfl⟩
  have hml := hl.2.1
  rw [hz] at hr hpn ⊢
  rw [hm] at hr hl hml ⊢
  have HM := Lib.hid hm
  unfold i64 at hn
  have hb : Below w.heap.size w (w.alloc (.cells #[.int .i64 n, .slice au m cu] 53)) := (Below.refl _ w).alloc (Nat.le_refl _) _
  clear hz hm hp
  by_cases h0 : 0 ≤ n
  · by_cases h1 : n ≤ z
    · by_cases h2 : m = 32
      · subst h2
        simp only [h0, h1, decide_true, Bool.true_and] at hr
        have HR := Lib.hid hr
        clear hr
        go_enter Try.func46, Try.ntmps46
        go_wp2
        go_loopg [5] 32 (fun g i wr => ∃ k : Nat, k ≤ 32 ∧ g = 32 - k ∧ i = .int .i64 k ∧ Aside (∀ s ∈ l.take k, isTree s = true) ∧ (w.alloc (.cells #[.int .i64 n, .slice au 32 cu] 53)) = wr)
        case atStart => exact ⟨0, by omega, rfl, rfl, (fun s hs => by simp at hs), rfl⟩
        case round =>
          obtain ⟨k, hk, hg, rfl, hv, rfl⟩ := hrel
          have HG := Lib.hid hg; clear hg
          by_cases hlt : k < 32
          · obtain ⟨s, hs⟩ : ∃ s, l[k]? = some s := ⟨_, List.getElem?_eq_getElem (by rw [HM.out]; exact hlt)⟩
            have hl2 := hl.below hb
            obtain ⟨g, off, rfl, hg, hcell⟩ := hl2.get hs
            have hz := hl.size hs
            have kv := fun w => refValid_any s hz w
            have HS := Lib.hid hs
            clear hs hl2
            have hi0 : (0 : Int) ≤ (k : Int) := Int.natCast_nonneg _
            have hi1 : (k : Int) < 32 := by omega
            cases ht : isTree s with
            | true =>
              rw [ht] at kv
              have HT := Lib.hid ht
              clear ht
              go_wp2_with fail
              refine (kv _).mono ?_
              rintro e w' ⟨rfl, rfl⟩
              go_wp2
              go_roundg (32 - (k + 1))
              case measure => rw [HG.out]; omega
              case rel => exact ⟨k + 1, by omega, rfl, by go_num, (by intro y hy; rw [take_snoc' _ _ _ HS.out] at hy; rcases List.mem_append.1 hy with h | h; exact hv.out y h; simp at h; subst h; exact HT.out), rfl⟩
            | false =>
              rw [ht] at kv
              have hf : Hid (r = false) := HR.out.symm.trans (by
                rw [Bool.eq_false_iff]; intro h
                have := List.all_eq_true.1 h s (List.mem_of_getElem? HS.out)
                rw [ht] at this; cases this)
              go_wp2_with fail
              refine (kv _).mono ?_
              rintro e w' ⟨rfl, rfl⟩
              go_wp2
              go_ret
              exact ⟨by rw [hf.out]; rfl, hb⟩
          · have hf : Hid (r = true) := HR.out.symm.trans (List.all_eq_true.2 (by have := hv.out; rwa [List.take_of_length_le (by rw [HM.out]; omega)] at this))
            go_wp2
            go_ret
            exact ⟨by rw [hf.out]; rfl, hb⟩
      · have hne : ((m : Int) != 32) = true := by rw [bne_iff_ne]; omega
        simp only [h2, decide_false, Bool.and_false, Bool.false_and] at hr
        subst hr
        clear h2 hl
        go_enter Try.func46, Try.ntmps46
        go_wp2
        go_ret
        exact ⟨rfl, hb⟩
    · simp only [h1, decide_false, Bool.and_false, Bool.false_and] at hr
      subst hr
      clear hl
      go_enter Try.func46, Try.ntmps46
      go_wp2
      go_ret
      exact ⟨rfl, hb⟩
  · simp only [h0, decide_false, Bool.false_and] at hr
    subst hr
    clear hl
    go_enter Try.func46, Try.ntmps46
    go_wp2
    go_ret
    exact ⟨rfl, hb⟩

end Go.Proofs.Ytieocihlkpipmaa

namespace Go.Proofs.Ytieocihlkpipmaa
open Go.RowKit

/-- A step of the reference went well. -/
def RStepOk (w : World) (T gs : Nat) (s' : St) (rv : Value) (e : Ending) (w' : World) : Prop :=
  ∃ ps', e = .returned (.bool true) ∧ RStP w' T gs s' rv ps' ∧ Below T w w' ∧ Kept 114 w w'
theorem RStP.cells {w : World} {T g gr cp : Nat} {s : St} {ps : List Value} (h : RStP w T g s (.slice (some ⟨gr, 0, none⟩) s.regs.length cp) ps) : w.cell? ⟨g, 0, none⟩ = some (.int .i64 s.pos) ∧ w.cell? ⟨g, 1, none⟩ = some (.slice (some ⟨gr, 0, none⟩) s.regs.length cp) ∧ (∀ j, w.frozen? ⟨g, j, none⟩ = false) ∧
    (∀ j t, s.regs[j]? = some t → ∃ q, w.cell? ⟨gr, j, none⟩ = some (.pointer q) ∧ NodeP 114 w t (.pointer q)) ∧ (∀ j, w.frozen? ⟨gr, j, none⟩ = false) := by
  have c0 := (block_cells h.blk).1 0
  have c1 := (block_cells h.blk).1 1
  simp only [List.getElem?_toArray, List.getElem?_cons_zero, List.getElem?_cons_succ] at c0 c1
  refine ⟨c0, c1, (block_cells h.blk).2, ?_, fun j => ?_⟩
  · intro j t hj
    obtain ⟨v, hv, hn⟩ := h.regs.get hj
    obtain ⟨q, rfl⟩ := hn.ptr
    exact ⟨q, by rw [World.ownsRow.cellAt h.own j (by have := (List.getElem?_eq_some_iff.1 hj).1; omega), hv], hn⟩
  · exact World.ownsRow.frozenAt h.own j

theorem rstep_fin {w wd : World} {T gs gr cp : Nat} {s : St} {ps : List Value} (hs : RStP wd T gs s (.slice (some ⟨gr, 0, none⟩) s.regs.length cp) ps) (hb : Below T w wd) (hk : Kept 114 w wd) (ra : Nat) {t : Tr} {q : Option Addr} (hn : NodeP 114 wd t (.pointer q)) (hgr : T ≤ gr) (z : Int) (p : Nat) (hz : z = p) :
    ∃ ps', RStP ((wd.setCell ⟨gr, ra, none⟩ (.pointer q)).setCell ⟨gs, 0, none⟩ (.int .i64 z)) T gs ⟨p, s.regs.set ra t⟩ (.slice (some ⟨gr, 0, none⟩) s.regs.length cp) ps' ∧ Below T w ((wd.setCell ⟨gr, ra, none⟩ (.pointer q)).setCell ⟨gs, 0, none⟩ (.int .i64 z)) ∧
      Kept 114 w ((wd.setCell ⟨gr, ra, none⟩ (.pointer q)).setCell ⟨gs, 0, none⟩ (.int .i64 z)) := by
  subst hz
  have hrow : ∃ cur, wd.heap[gr]? = some (.cells cur 32 (0, 0)) := by
    rcases hs.own.2 with ⟨h0, _⟩ | ⟨g', cap', cur, hv, _, hg, _⟩
    · cases h0
    · simp only [Value.slice.injEq, Option.some.injEq, Addr.mk.injEq] at hv
      obtain ⟨⟨rfl, -, -⟩, -, -⟩ := hv
      exact ⟨cur, hg⟩
  obtain ⟨cur, hcur⟩ := hrow
  have hne : gs ≠ gr := by
    rintro rfl
    have := hs.blk; rw [hcur] at this
    simp only [Option.some.injEq, Obj.cells.injEq] at this
    exact absurd this.2.1 (by decide)
  have hblk1 : (wd.setCell ⟨gr, ra, none⟩ (.pointer q)).heap[gs]? = some (.cells #[.int .i64 s.pos, .slice (some ⟨gr, 0, none⟩) s.regs.length cp] 109 (0, 0)) := (Below.heap_setCell _ _ _ _ (by show gs ≠ gr; exact hne)).trans hs.blk
  have hk1 : Kept 114 wd (wd.setCell ⟨gr, ra, none⟩ (.pointer q)) := (Kept.refl _ wd).setCell hcur (by decide) _
  have hk2 : Kept 114 wd ((wd.setCell ⟨gr, ra, none⟩ (.pointer q)).setCell ⟨gs, 0, none⟩ (.int .i64 p)) := hk1.setCell hblk1 (by decide) _
  refine ⟨ps.set ra (.pointer q), ⟨set_blk hblk1 0 _, hs.le, (hs.regs.set ra hn).kept hk2, ?_⟩, (hb.setCell (p := ⟨gr, ra, none⟩) hgr _).setCell (p := ⟨gs, 0, none⟩) hs.le _, hk.trans hk2⟩
  rw [List.length_set]
  exact own_kept (own_set hs.own ra _) ((Kept.refl _ _).setCell hblk1 (by decide) _)

theorem rnodeHead_at (t : Tr) (v : Value) (w : World) (h : NodeP 114 w t v) :
    ∃ q, NodeP 114 w t.hd (.pointer q) ∧ ∀ w', Kept 114 w w' → Calls Try.prog 90 #[v] w' fun e w'' => e = .returned (.pointer q) ∧ w'' = w' := by
  cases t with
  | nil =>
    have hv : v = .pointer none := h
    subst hv
    refine ⟨none, rfl, fun w' _ => ?_⟩
    go_enter Try.func90, Try.ntmps90
    go_wp2
    go_ret
    exact ⟨rfl, rfl⟩
  | pair a b =>
    obtain ⟨g, x, y, hv, hg, ha, hb⟩ := h
    obtain ⟨x, rfl⟩ := ha.ptr
    obtain ⟨y, rfl⟩ := hb.ptr
    subst hv
    refine ⟨x, ha, fun w' hk => ?_⟩
    have c0 := (block_cells (hk _ _ hg)).1 0
    have c1 := (block_cells (hk _ _ hg)).1 1
    simp only [List.getElem?_toArray, List.getElem?_cons_zero, List.getElem?_cons_succ] at c0 c1
    clear ha hb hg hk
    go_enter Try.func90, Try.ntmps90
    go_wp2
    go_ret
    exact ⟨rfl, rfl⟩
theorem rnodeTail_at (t : Tr) (v : Value) (w : World) (h : NodeP 114 w t v) :
    ∃ q, NodeP 114 w t.tl (.pointer q) ∧ ∀ w', Kept 114 w w' → Calls Try.prog 91 #[v] w' fun e w'' => e = .returned (.pointer q) ∧ w'' = w' := by
  cases t with
  | nil =>
    have hv : v = .pointer none := h
    subst hv
    refine ⟨none, rfl, fun w' _ => ?_⟩
    go_enter Try.func91, Try.ntmps91
    go_wp2
    go_ret
    exact ⟨rfl, rfl⟩
  | pair a b =>
    obtain ⟨g, x, y, hv, hg, ha, hb⟩ := h
    obtain ⟨x, rfl⟩ := ha.ptr
    obtain ⟨y, rfl⟩ := hb.ptr
    subst hv
    refine ⟨y, hb, fun w' hk => ?_⟩
    have c0 := (block_cells (hk _ _ hg)).1 0
    have c1 := (block_cells (hk _ _ hg)).1 1
    simp only [List.getElem?_toArray, List.getElem?_cons_zero, List.getElem?_cons_succ] at c0 c1
    clear ha hb hg hk
    go_enter Try.func91, Try.ntmps91
    go_wp2
    go_ret
    exact ⟨rfl, rfl⟩
theorem rstep_fin_drew {w w' : World} {T gs : Nat} {s' : St} {rv : Value} (h : ∃ ps', RStP w' T gs s' rv ps' ∧ Below T w w' ∧ Kept 114 w w') : ∃ ps', RStP w'.drew T gs s' rv ps' ∧ Below T w w'.drew ∧ Kept 114 w w'.drew := by
  obtain ⟨ps', h1, h2, h3⟩ := h
  exact ⟨ps', h1.kept (Below.refl _ _).drew, h2.drew, h3.drew⟩
theorem RStepOk.mk' {w : World} {T gs : Nat} {s' : St} {rv : Value} {e : Ending} {w' : World} (he : e = .returned (.bool true)) (h : ∃ ps', RStP w' T gs s' rv ps' ∧ Below T w w' ∧ Kept 114 w w') : RStepOk w T gs s' rv e w' := by
  obtain ⟨ps', h1, h2, h3⟩ := h
  exact ⟨ps', he, h1, h2, h3⟩
theorem RStP.apart {wd : World} {T gs gr cp : Nat} {s : St} {ps : List Value} (hs : RStP wd T gs s (.slice (some ⟨gr, 0, none⟩) s.regs.length cp) ps) : gs ≠ gr := by
  have hrow : ∃ cur, wd.heap[gr]? = some (.cells cur 32 (0, 0)) := by
    rcases hs.own.2 with ⟨h0, _⟩ | ⟨g', cap', cur, hv, _, hg, _⟩
    · cases h0
    · simp only [Value.slice.injEq, Option.some.injEq, Addr.mk.injEq] at hv
      obtain ⟨⟨rfl, -, -⟩, -, -⟩ := hv
      exact ⟨cur, hg⟩
  obtain ⟨cur, hcur⟩ := hrow
  rintro rfl
  have := hs.blk; rw [hcur] at this
  simp only [Option.some.injEq, Obj.cells.injEq] at this
  exact absurd this.2.1 (by decide)
theorem RStP.rlt {wd : World} {T gs gr cp : Nat} {s : St} {ps : List Value} (hs : RStP wd T gs s (.slice (some ⟨gr, 0, none⟩) s.regs.length cp) ps) : gr < wd.heap.size := by
  rcases hs.own.2 with ⟨h0, _⟩ | ⟨g', cap', cur, hv, _, hg, _⟩
  · cases h0
  · simp only [Value.slice.injEq, Option.some.injEq, Addr.mk.injEq] at hv
    obtain ⟨⟨rfl, -, -⟩, -, -⟩ := hv
    exact (Array.getElem?_eq_some_iff.1 hg).1
theorem rstep_jfin {w wd : World} {T gs gr cp : Nat} {s : St} {ps : List Value} (hs : RStP wd T gs s (.slice (some ⟨gr, 0, none⟩) s.regs.length cp) ps) (hb : Below T w wd) (hk : Kept 114 w wd) (z : Int) (p : Nat) (hz : z = p) :
    ∃ ps', RStP (wd.setCell ⟨gs, 0, none⟩ (.int .i64 z)) T gs ⟨p, s.regs⟩ (.slice (some ⟨gr, 0, none⟩) s.regs.length cp) ps' ∧ Below T w (wd.setCell ⟨gs, 0, none⟩ (.int .i64 z)) ∧ Kept 114 w (wd.setCell ⟨gs, 0, none⟩ (.int .i64 z)) := by
  subst hz
  have hk2 : Kept 114 wd (wd.setCell ⟨gs, 0, none⟩ (.int .i64 p)) := (Kept.refl _ wd).setCell hs.blk (by decide) _
  exact ⟨ps, ⟨set_blk hs.blk 0 _, hs.le, hs.regs.kept hk2, own_kept hs.own ((Kept.refl _ _).setCell hs.blk (by decide) _)⟩, hb.setCell (p := ⟨gs, 0, none⟩) hs.le _, hk.trans hk2⟩


set_option maxRecDepth 20000 in
set_option maxHeartbeats 4000000 in
theorem rstep_set (w : World) (T gm gs gr cp : Nat) (l : List Ins) (s : St) (pv tv : Value) (ps : List Value) (hm : RMachP w T gm l pv tv) (hs : RStP w T gs s (.slice (some ⟨gr, 0, none⟩) s.regs.length cp) ps) (hgr : T ≤ gr) (hg : Good l.length s) (hn4 : l.length ≤ 4000) (ra : Nat) (ha : ra < 32) (b c : Int) (tree : ByteArray)
    (hx : l[s.pos]? = some ⟨0, (ra : Nat), b, c, tree⟩) :
    Calls Try.prog 59 #[.pointer (some ⟨gm, 0, none⟩), .pointer (some ⟨gs, 0, none⟩)] w (RStepOk w T gs ⟨s.pos + 1, s.regs.set ra (toTr tree)⟩ (.slice (some ⟨gr, 0, none⟩) s.regs.length cp)) := by
  have hp : s.pos < l.length := (List.getElem?_eq_some_iff.1 hx).1
  obtain ⟨ao, cap, rfl⟩ := hm.prog.len
  have c0 := (block_cells hm.blk).1 0
  simp only [List.getElem?_toArray, List.getElem?_cons_zero] at c0
  have s0 := hs.cells.1
  have hl := hm.prog
  have hlt := hm.lt
  have hgl : gs < w.heap.size := (Array.getElem?_eq_some_iff.1 hs.blk).1
  have hgm : gm < w.heap.size := (Array.getElem?_eq_some_iff.1 hm.blk).1
  have hle := hs.le
  obtain ⟨n, hn'⟩ : ∃ n, l.length = n := ⟨_, rfl⟩
  rw [hn'] at hl c0 hp hn4
  obtain ⟨pg, off, rfl, hpg, p0, p1, p2, p3, p4⟩ := hl.get hx
  dsimp only at p0 p1 p2 p3 p4
  have h32 := hg.2.1
  have HX := Lib.hid hx
  have HN := Lib.hid hn'
  have hi0 : (0 : Int) ≤ (s.pos : Int) := Int.natCast_nonneg _
  have hi1 : (s.pos : Int) < (n : Int) := by omega
  obtain ⟨wd, hwd⟩ : ∃ wd, (w.alloc (.cells #[.int .i64 (0), .int .i64 (ra : Nat), .int .i64 (b), .int .i64 (c), .string tree] 73)).drew = wd := ⟨_, rfl⟩
  have hbd : Below w.heap.size w wd := by rw [← hwd]; exact ((Below.refl _ _).alloc (Nat.le_refl _) _).drew
  have hbox : wd.heap[w.heap.size]? = some (.cells #[.int .i64 (0), .int .i64 (ra : Nat), .int .i64 (b), .int .i64 (c), .string tree] 73 (0, 0)) := by rw [← hwd]; exact heap_alloc_new w _
  have keep : ∀ w', Below w.heap.size w w' → w'.cell? ⟨gm, 0, none⟩ = some (.slice (some ⟨pg, off, none⟩) n cap) ∧ w'.cell? ⟨gs, 0, none⟩ = some (.int .i64 s.pos) ∧ w'.cell? ⟨pg, off + s.pos * 5, none⟩ = some (.int .i64 (0)) ∧ w'.cell? ⟨pg, off + s.pos * 5 + 1, none⟩ = some (.int .i64 (ra : Nat)) ∧
      w'.cell? ⟨pg, off + s.pos * 5 + 2, none⟩ = some (.int .i64 (b)) ∧ w'.cell? ⟨pg, off + s.pos * 5 + 3, none⟩ = some (.int .i64 (c)) ∧ w'.cell? ⟨pg, off + s.pos * 5 + 4, none⟩ = some (.string tree) := fun w' hb => by
    refine ⟨(hb.cell (p := ⟨gm, 0, none⟩) hgm).trans c0, (hb.cell (p := ⟨gs, 0, none⟩) hgl).trans s0, (hb.cell (p := ⟨pg, off + s.pos * 5, none⟩) (by show pg < _; omega)).trans p0, (hb.cell (p := ⟨pg, off + s.pos * 5 + 1, none⟩) (by show pg < _; omega)).trans p1, (hb.cell (p := ⟨pg, off + s.pos * 5 + 2, none⟩) (by show pg < _; omega)).trans p2, (hb.cell (p := ⟨pg, off + s.pos * 5 + 3, none⟩) (by show pg < _; omega)).trans p3, (hb.cell (p := ⟨pg, off + s.pos * 5 + 4, none⟩) (by show pg < _; omega)).trans p4⟩
  have hsd := hs.kept hbd
  obtain ⟨d0, d1, df, dr, drf⟩ := hsd.cells
  have kkd := Kept.below hbd (T := 114)
  have e0 := (block_cells hbox).1 0
  have e1 := (block_cells hbox).1 1
  have e2 := (block_cells hbox).1 2
  have e3 := (block_cells hbox).1 3
  simp only [List.getElem?_toArray, List.getElem?_cons_zero, List.getElem?_cons_succ] at e0 e1 e2 e3
  have hbl : w.heap.size < wd.heap.size := (Array.getElem?_eq_some_iff.1 hbox).1
  have hbT : Below T w wd := hbd.mono (by omega)
  have HSD := Lib.hid hsd
  have hap1 : ¬ gs = gr := hsd.apart
  have hap2 : ¬ gr = gs := fun h => hap1 h.symm
  have hrl := hsd.rlt
  rw [h32] at d1
  clear hsd hbox
  obtain ⟨tra, htra⟩ : ∃ t, s.regs[ra]? = some t := ⟨_, List.getElem?_eq_getElem (by omega)⟩
  obtain ⟨qra, fra, nra⟩ := dr ra tra htra
  have zra := drf ra
  obtain ⟨xs, base, hxs, hown, hob⟩ := hm.sets
  obtain ⟨v0, hv0, hnv⟩ := hxs.get (j := s.pos) (t := toTr tree) (by rw [List.getElem?_map, hx]; rfl)
  obtain ⟨sp, rfl⟩ := hnv.ptr
  have hnd := hnv.kept kkd
  rw [hn'] at hown
  have hown' := own_below hown hbd
  obtain ⟨sg, scp, rfl, hsr⟩ := own_cells hown' (by omega)
  have hm1 := (block_cells hm.blk).1 1
  simp only [List.getElem?_toArray, List.getElem?_cons_zero, List.getElem?_cons_succ] at hm1
  have gm1 := (hbd.cell (p := ⟨gm, 1, none⟩) hgm).trans hm1

  clear hm hs hg hl hx hn' hle hpg
  go_enter Try.func59, Try.ntmps59
  go_wp2
  go_region_held3 (fun w' => w'.cell? ⟨gm, 0, none⟩ = some (.slice (some ⟨pg, off, none⟩) n cap) ∧ w'.cell? ⟨gs, 0, none⟩ = some (.int .i64 s.pos) ∧ w'.cell? ⟨pg, off + s.pos * 5, none⟩ = some (.int .i64 (0)) ∧ w'.cell? ⟨pg, off + s.pos * 5 + 1, none⟩ = some (.int .i64 (ra : Nat)) ∧
      w'.cell? ⟨pg, off + s.pos * 5 + 2, none⟩ = some (.int .i64 (b)) ∧ w'.cell? ⟨pg, off + s.pos * 5 + 3, none⟩ = some (.int .i64 (c)) ∧ w'.cell? ⟨pg, off + s.pos * 5 + 4, none⟩ = some (.string tree))
    (exact keep _ (by first | exact hbd | exact (Below.refl _ _).drew | exact ((Below.refl _ _).drew).alloc (Nat.le_refl _) _))
    (fail)
  try rw [hwd]
  clear keep hwd p0 p1 p2 p3 p4 c0 s0
  have hset : wd.cell? ⟨sg, s.pos, none⟩ = some (.pointer sp) := by rw [hsr.2.2.2.2.1 s.pos (by omega), hv0]
  have HND := Lib.hid hnd
  have df0 := df 0
  clear dr df drf hsr hnd hnv hxs hown hown' hob hm1 nra
  go_wp2
  go_region
  go_wp2
  go_ret
  refine RStepOk.mk' rfl ?_
  first
  | exact rstep_fin_drew (rstep_fin HSD.out hbT kkd ra HND.out hgr _ _ (by omega))
  | exact rstep_fin (HSD.out.kept (Below.refl _ _).drew) hbT.drew kkd.drew ra (HND.out.kept (Kept.refl _ _).drew) hgr _ _ (by omega)

set_option maxRecDepth 20000 in
set_option maxHeartbeats 4000000 in
theorem rstep_move (w : World) (T gm gs gr cp : Nat) (l : List Ins) (s : St) (pv tv : Value) (ps : List Value) (hm : RMachP w T gm l pv tv) (hs : RStP w T gs s (.slice (some ⟨gr, 0, none⟩) s.regs.length cp) ps) (hgr : T ≤ gr) (hg : Good l.length s) (hn4 : l.length ≤ 4000) (ra : Nat) (ha : ra < 32) (rb : Nat) (hb : rb < 32) (t : Tr) (ht : s.regs[rb]? = some t) (c : Int) (tree : ByteArray)
    (hx : l[s.pos]? = some ⟨1, (ra : Nat), (rb : Nat), c, tree⟩) :
    Calls Try.prog 59 #[.pointer (some ⟨gm, 0, none⟩), .pointer (some ⟨gs, 0, none⟩)] w (RStepOk w T gs ⟨s.pos + 1, s.regs.set ra t⟩ (.slice (some ⟨gr, 0, none⟩) s.regs.length cp)) := by
  have hp : s.pos < l.length := (List.getElem?_eq_some_iff.1 hx).1
  obtain ⟨ao, cap, rfl⟩ := hm.prog.len
  have c0 := (block_cells hm.blk).1 0
  simp only [List.getElem?_toArray, List.getElem?_cons_zero] at c0
  have s0 := hs.cells.1
  have hl := hm.prog
  have hlt := hm.lt
  have hgl : gs < w.heap.size := (Array.getElem?_eq_some_iff.1 hs.blk).1
  have hgm : gm < w.heap.size := (Array.getElem?_eq_some_iff.1 hm.blk).1
  have hle := hs.le
  obtain ⟨n, hn'⟩ : ∃ n, l.length = n := ⟨_, rfl⟩
  rw [hn'] at hl c0 hp hn4
  obtain ⟨pg, off, rfl, hpg, p0, p1, p2, p3, p4⟩ := hl.get hx
  dsimp only at p0 p1 p2 p3 p4
  have h32 := hg.2.1
  have HX := Lib.hid hx
  have HN := Lib.hid hn'
  have hi0 : (0 : Int) ≤ (s.pos : Int) := Int.natCast_nonneg _
  have hi1 : (s.pos : Int) < (n : Int) := by omega
  obtain ⟨wd, hwd⟩ : ∃ wd, (w.alloc (.cells #[.int .i64 (1), .int .i64 (ra : Nat), .int .i64 (rb : Nat), .int .i64 (c), .string tree] 73)).drew = wd := ⟨_, rfl⟩
  have hbd : Below w.heap.size w wd := by rw [← hwd]; exact ((Below.refl _ _).alloc (Nat.le_refl _) _).drew
  have hbox : wd.heap[w.heap.size]? = some (.cells #[.int .i64 (1), .int .i64 (ra : Nat), .int .i64 (rb : Nat), .int .i64 (c), .string tree] 73 (0, 0)) := by rw [← hwd]; exact heap_alloc_new w _
  have keep : ∀ w', Below w.heap.size w w' → w'.cell? ⟨gm, 0, none⟩ = some (.slice (some ⟨pg, off, none⟩) n cap) ∧ w'.cell? ⟨gs, 0, none⟩ = some (.int .i64 s.pos) ∧ w'.cell? ⟨pg, off + s.pos * 5, none⟩ = some (.int .i64 (1)) ∧ w'.cell? ⟨pg, off + s.pos * 5 + 1, none⟩ = some (.int .i64 (ra : Nat)) ∧
      w'.cell? ⟨pg, off + s.pos * 5 + 2, none⟩ = some (.int .i64 (rb : Nat)) ∧ w'.cell? ⟨pg, off + s.pos * 5 + 3, none⟩ = some (.int .i64 (c)) ∧ w'.cell? ⟨pg, off + s.pos * 5 + 4, none⟩ = some (.string tree) := fun w' hb => by
    refine ⟨(hb.cell (p := ⟨gm, 0, none⟩) hgm).trans c0, (hb.cell (p := ⟨gs, 0, none⟩) hgl).trans s0, (hb.cell (p := ⟨pg, off + s.pos * 5, none⟩) (by show pg < _; omega)).trans p0, (hb.cell (p := ⟨pg, off + s.pos * 5 + 1, none⟩) (by show pg < _; omega)).trans p1, (hb.cell (p := ⟨pg, off + s.pos * 5 + 2, none⟩) (by show pg < _; omega)).trans p2, (hb.cell (p := ⟨pg, off + s.pos * 5 + 3, none⟩) (by show pg < _; omega)).trans p3, (hb.cell (p := ⟨pg, off + s.pos * 5 + 4, none⟩) (by show pg < _; omega)).trans p4⟩
  have hsd := hs.kept hbd
  obtain ⟨d0, d1, df, dr, drf⟩ := hsd.cells
  have kkd := Kept.below hbd (T := 114)
  have e0 := (block_cells hbox).1 0
  have e1 := (block_cells hbox).1 1
  have e2 := (block_cells hbox).1 2
  have e3 := (block_cells hbox).1 3
  simp only [List.getElem?_toArray, List.getElem?_cons_zero, List.getElem?_cons_succ] at e0 e1 e2 e3
  have hbl : w.heap.size < wd.heap.size := (Array.getElem?_eq_some_iff.1 hbox).1
  have hbT : Below T w wd := hbd.mono (by omega)
  have HSD := Lib.hid hsd
  have hap1 : ¬ gs = gr := hsd.apart
  have hap2 : ¬ gr = gs := fun h => hap1 h.symm
  have hrl := hsd.rlt
  rw [h32] at d1
  clear hsd hbox
  obtain ⟨tra, htra⟩ : ∃ t, s.regs[ra]? = some t := ⟨_, List.getElem?_eq_getElem (by omega)⟩
  obtain ⟨qra, fra, nra⟩ := dr ra tra htra
  have zra := drf ra
  obtain ⟨qb, fb, nb⟩ := dr rb t ht

  clear hm hs hg hl hx hn' hle hpg
  go_enter Try.func59, Try.ntmps59
  go_wp2
  go_region_held3 (fun w' => w'.cell? ⟨gm, 0, none⟩ = some (.slice (some ⟨pg, off, none⟩) n cap) ∧ w'.cell? ⟨gs, 0, none⟩ = some (.int .i64 s.pos) ∧ w'.cell? ⟨pg, off + s.pos * 5, none⟩ = some (.int .i64 (1)) ∧ w'.cell? ⟨pg, off + s.pos * 5 + 1, none⟩ = some (.int .i64 (ra : Nat)) ∧
      w'.cell? ⟨pg, off + s.pos * 5 + 2, none⟩ = some (.int .i64 (rb : Nat)) ∧ w'.cell? ⟨pg, off + s.pos * 5 + 3, none⟩ = some (.int .i64 (c)) ∧ w'.cell? ⟨pg, off + s.pos * 5 + 4, none⟩ = some (.string tree))
    (exact keep _ (by first | exact hbd | exact (Below.refl _ _).drew | exact ((Below.refl _ _).drew).alloc (Nat.le_refl _) _))
    (fail)
  try rw [hwd]
  clear keep hwd p0 p1 p2 p3 p4 c0 s0
  have HND := Lib.hid nb
  have df0 := df 0
  clear dr df drf nb nra
  go_wp2
  go_region
  go_wp2
  go_ret
  refine RStepOk.mk' rfl ?_
  first
  | exact rstep_fin_drew (rstep_fin HSD.out hbT kkd ra HND.out hgr _ _ (by omega))
  | exact rstep_fin (HSD.out.kept (Below.refl _ _).drew) hbT.drew kkd.drew ra (HND.out.kept (Kept.refl _ _).drew) hgr _ _ (by omega)

set_option maxRecDepth 20000 in
set_option maxHeartbeats 4000000 in
theorem rstep_head (w : World) (T gm gs gr cp : Nat) (l : List Ins) (s : St) (pv tv : Value) (ps : List Value) (hm : RMachP w T gm l pv tv) (hs : RStP w T gs s (.slice (some ⟨gr, 0, none⟩) s.regs.length cp) ps) (hgr : T ≤ gr) (hg : Good l.length s) (hn4 : l.length ≤ 4000) (ra : Nat) (ha : ra < 32) (rb : Nat) (hb : rb < 32) (t : Tr) (ht : s.regs[rb]? = some t) (c : Int) (tree : ByteArray)
    (hx : l[s.pos]? = some ⟨3, (ra : Nat), (rb : Nat), c, tree⟩) :
    Calls Try.prog 59 #[.pointer (some ⟨gm, 0, none⟩), .pointer (some ⟨gs, 0, none⟩)] w (RStepOk w T gs ⟨s.pos + 1, s.regs.set ra t.hd⟩ (.slice (some ⟨gr, 0, none⟩) s.regs.length cp)) := by
  have hp : s.pos < l.length := (List.getElem?_eq_some_iff.1 hx).1
  obtain ⟨ao, cap, rfl⟩ := hm.prog.len
  have c0 := (block_cells hm.blk).1 0
  simp only [List.getElem?_toArray, List.getElem?_cons_zero] at c0
  have s0 := hs.cells.1
  have hl := hm.prog
  have hlt := hm.lt
  have hgl : gs < w.heap.size := (Array.getElem?_eq_some_iff.1 hs.blk).1
  have hgm : gm < w.heap.size := (Array.getElem?_eq_some_iff.1 hm.blk).1
  have hle := hs.le
  obtain ⟨n, hn'⟩ : ∃ n, l.length = n := ⟨_, rfl⟩
  rw [hn'] at hl c0 hp hn4
  obtain ⟨pg, off, rfl, hpg, p0, p1, p2, p3, p4⟩ := hl.get hx
  dsimp only at p0 p1 p2 p3 p4
  have h32 := hg.2.1
  have HX := Lib.hid hx
  have HN := Lib.hid hn'
  have hi0 : (0 : Int) ≤ (s.pos : Int) := Int.natCast_nonneg _
  have hi1 : (s.pos : Int) < (n : Int) := by omega
  obtain ⟨wd, hwd⟩ : ∃ wd, (w.alloc (.cells #[.int .i64 (3), .int .i64 (ra : Nat), .int .i64 (rb : Nat), .int .i64 (c), .string tree] 73)).drew = wd := ⟨_, rfl⟩
  have hbd : Below w.heap.size w wd := by rw [← hwd]; exact ((Below.refl _ _).alloc (Nat.le_refl _) _).drew
  have hbox : wd.heap[w.heap.size]? = some (.cells #[.int .i64 (3), .int .i64 (ra : Nat), .int .i64 (rb : Nat), .int .i64 (c), .string tree] 73 (0, 0)) := by rw [← hwd]; exact heap_alloc_new w _
  have keep : ∀ w', Below w.heap.size w w' → w'.cell? ⟨gm, 0, none⟩ = some (.slice (some ⟨pg, off, none⟩) n cap) ∧ w'.cell? ⟨gs, 0, none⟩ = some (.int .i64 s.pos) ∧ w'.cell? ⟨pg, off + s.pos * 5, none⟩ = some (.int .i64 (3)) ∧ w'.cell? ⟨pg, off + s.pos * 5 + 1, none⟩ = some (.int .i64 (ra : Nat)) ∧
      w'.cell? ⟨pg, off + s.pos * 5 + 2, none⟩ = some (.int .i64 (rb : Nat)) ∧ w'.cell? ⟨pg, off + s.pos * 5 + 3, none⟩ = some (.int .i64 (c)) ∧ w'.cell? ⟨pg, off + s.pos * 5 + 4, none⟩ = some (.string tree) := fun w' hb => by
    refine ⟨(hb.cell (p := ⟨gm, 0, none⟩) hgm).trans c0, (hb.cell (p := ⟨gs, 0, none⟩) hgl).trans s0, (hb.cell (p := ⟨pg, off + s.pos * 5, none⟩) (by show pg < _; omega)).trans p0, (hb.cell (p := ⟨pg, off + s.pos * 5 + 1, none⟩) (by show pg < _; omega)).trans p1, (hb.cell (p := ⟨pg, off + s.pos * 5 + 2, none⟩) (by show pg < _; omega)).trans p2, (hb.cell (p := ⟨pg, off + s.pos * 5 + 3, none⟩) (by show pg < _; omega)).trans p3, (hb.cell (p := ⟨pg, off + s.pos * 5 + 4, none⟩) (by show pg < _; omega)).trans p4⟩
  have hsd := hs.kept hbd
  obtain ⟨d0, d1, df, dr, drf⟩ := hsd.cells
  have kkd := Kept.below hbd (T := 114)
  have e0 := (block_cells hbox).1 0
  have e1 := (block_cells hbox).1 1
  have e2 := (block_cells hbox).1 2
  have e3 := (block_cells hbox).1 3
  simp only [List.getElem?_toArray, List.getElem?_cons_zero, List.getElem?_cons_succ] at e0 e1 e2 e3
  have hbl : w.heap.size < wd.heap.size := (Array.getElem?_eq_some_iff.1 hbox).1
  have hbT : Below T w wd := hbd.mono (by omega)
  have HSD := Lib.hid hsd
  have hap1 : ¬ gs = gr := hsd.apart
  have hap2 : ¬ gr = gs := fun h => hap1 h.symm
  have hrl := hsd.rlt
  rw [h32] at d1
  clear hsd hbox
  obtain ⟨tra, htra⟩ : ∃ t, s.regs[ra]? = some t := ⟨_, List.getElem?_eq_getElem (by omega)⟩
  obtain ⟨qra, fra, nra⟩ := dr ra tra htra
  have zra := drf ra
  obtain ⟨qb, fb, nb⟩ := dr rb t ht

  clear hm hs hg hl hx hn' hle hpg
  go_enter Try.func59, Try.ntmps59
  go_wp2
  go_region_held3 (fun w' => w'.cell? ⟨gm, 0, none⟩ = some (.slice (some ⟨pg, off, none⟩) n cap) ∧ w'.cell? ⟨gs, 0, none⟩ = some (.int .i64 s.pos) ∧ w'.cell? ⟨pg, off + s.pos * 5, none⟩ = some (.int .i64 (3)) ∧ w'.cell? ⟨pg, off + s.pos * 5 + 1, none⟩ = some (.int .i64 (ra : Nat)) ∧
      w'.cell? ⟨pg, off + s.pos * 5 + 2, none⟩ = some (.int .i64 (rb : Nat)) ∧ w'.cell? ⟨pg, off + s.pos * 5 + 3, none⟩ = some (.int .i64 (c)) ∧ w'.cell? ⟨pg, off + s.pos * 5 + 4, none⟩ = some (.string tree))
    (exact keep _ (by first | exact hbd | exact (Below.refl _ _).drew | exact ((Below.refl _ _).drew).alloc (Nat.le_refl _) _))
    (fail)
  try rw [hwd]
  clear keep hwd p0 p1 p2 p3 p4 c0 s0
  obtain ⟨xq, nxq, kx⟩ := rnodeHead_at t _ wd nb
  have kx1 := kx wd.drew (Kept.refl _ _).drew
  have HND := Lib.hid nxq
  have df0 := df 0
  have ib0 : (0 : Int) ≤ (rb : Int) := Int.natCast_nonneg _
  have ib1 : (rb : Int) < 32 := by omega
  have ia0 : (0 : Int) ≤ (ra : Int) := Int.natCast_nonneg _
  have ia1 : (ra : Int) < 32 := by omega
  clear dr df drf nb nra nxq kx
  go_wp2
  refine wp_region_still_tail 16 (by kernel_rfl) (by kernel_rfl) ?_
  simp only [List.take_succ_cons, List.take_zero, List.drop_succ_cons, List.drop_zero]
  repeat still_step
  still_call kx1
  repeat still_step
  try refine wpStill_nil ?_
  go_wp2
  go_ret
  refine RStepOk.mk' rfl ?_
  first
  | exact rstep_fin_drew (rstep_fin HSD.out hbT kkd ra HND.out hgr _ _ (by omega))
  | exact rstep_fin (HSD.out.kept (Below.refl _ _).drew) hbT.drew kkd.drew ra (HND.out.kept (Kept.refl _ _).drew) hgr _ _ (by omega)

set_option maxRecDepth 20000 in
set_option maxHeartbeats 4000000 in
theorem rstep_tail (w : World) (T gm gs gr cp : Nat) (l : List Ins) (s : St) (pv tv : Value) (ps : List Value) (hm : RMachP w T gm l pv tv) (hs : RStP w T gs s (.slice (some ⟨gr, 0, none⟩) s.regs.length cp) ps) (hgr : T ≤ gr) (hg : Good l.length s) (hn4 : l.length ≤ 4000) (ra : Nat) (ha : ra < 32) (rb : Nat) (hb : rb < 32) (t : Tr) (ht : s.regs[rb]? = some t) (c : Int) (tree : ByteArray)
    (hx : l[s.pos]? = some ⟨4, (ra : Nat), (rb : Nat), c, tree⟩) :
    Calls Try.prog 59 #[.pointer (some ⟨gm, 0, none⟩), .pointer (some ⟨gs, 0, none⟩)] w (RStepOk w T gs ⟨s.pos + 1, s.regs.set ra t.tl⟩ (.slice (some ⟨gr, 0, none⟩) s.regs.length cp)) := by
  have hp : s.pos < l.length := (List.getElem?_eq_some_iff.1 hx).1
  obtain ⟨ao, cap, rfl⟩ := hm.prog.len
  have c0 := (block_cells hm.blk).1 0
  simp only [List.getElem?_toArray, List.getElem?_cons_zero] at c0
  have s0 := hs.cells.1
  have hl := hm.prog
  have hlt := hm.lt
  have hgl : gs < w.heap.size := (Array.getElem?_eq_some_iff.1 hs.blk).1
  have hgm : gm < w.heap.size := (Array.getElem?_eq_some_iff.1 hm.blk).1
  have hle := hs.le
  obtain ⟨n, hn'⟩ : ∃ n, l.length = n := ⟨_, rfl⟩
  rw [hn'] at hl c0 hp hn4
  obtain ⟨pg, off, rfl, hpg, p0, p1, p2, p3, p4⟩ := hl.get hx
  dsimp only at p0 p1 p2 p3 p4
  have h32 := hg.2.1
  have HX := Lib.hid hx
  have HN := Lib.hid hn'
  have hi0 : (0 : Int) ≤ (s.pos : Int) := Int.natCast_nonneg _
  have hi1 : (s.pos : Int) < (n : Int) := by omega
  obtain ⟨wd, hwd⟩ : ∃ wd, (w.alloc (.cells #[.int .i64 (4), .int .i64 (ra : Nat), .int .i64 (rb : Nat), .int .i64 (c), .string tree] 73)).drew = wd := ⟨_, rfl⟩
  have hbd : Below w.heap.size w wd := by rw [← hwd]; exact ((Below.refl _ _).alloc (Nat.le_refl _) _).drew
  have hbox : wd.heap[w.heap.size]? = some (.cells #[.int .i64 (4), .int .i64 (ra : Nat), .int .i64 (rb : Nat), .int .i64 (c), .string tree] 73 (0, 0)) := by rw [← hwd]; exact heap_alloc_new w _
  have keep : ∀ w', Below w.heap.size w w' → w'.cell? ⟨gm, 0, none⟩ = some (.slice (some ⟨pg, off, none⟩) n cap) ∧ w'.cell? ⟨gs, 0, none⟩ = some (.int .i64 s.pos) ∧ w'.cell? ⟨pg, off + s.pos * 5, none⟩ = some (.int .i64 (4)) ∧ w'.cell? ⟨pg, off + s.pos * 5 + 1, none⟩ = some (.int .i64 (ra : Nat)) ∧
      w'.cell? ⟨pg, off + s.pos * 5 + 2, none⟩ = some (.int .i64 (rb : Nat)) ∧ w'.cell? ⟨pg, off + s.pos * 5 + 3, none⟩ = some (.int .i64 (c)) ∧ w'.cell? ⟨pg, off + s.pos * 5 + 4, none⟩ = some (.string tree) := fun w' hb => by
    refine ⟨(hb.cell (p := ⟨gm, 0, none⟩) hgm).trans c0, (hb.cell (p := ⟨gs, 0, none⟩) hgl).trans s0, (hb.cell (p := ⟨pg, off + s.pos * 5, none⟩) (by show pg < _; omega)).trans p0, (hb.cell (p := ⟨pg, off + s.pos * 5 + 1, none⟩) (by show pg < _; omega)).trans p1, (hb.cell (p := ⟨pg, off + s.pos * 5 + 2, none⟩) (by show pg < _; omega)).trans p2, (hb.cell (p := ⟨pg, off + s.pos * 5 + 3, none⟩) (by show pg < _; omega)).trans p3, (hb.cell (p := ⟨pg, off + s.pos * 5 + 4, none⟩) (by show pg < _; omega)).trans p4⟩
  have hsd := hs.kept hbd
  obtain ⟨d0, d1, df, dr, drf⟩ := hsd.cells
  have kkd := Kept.below hbd (T := 114)
  have e0 := (block_cells hbox).1 0
  have e1 := (block_cells hbox).1 1
  have e2 := (block_cells hbox).1 2
  have e3 := (block_cells hbox).1 3
  simp only [List.getElem?_toArray, List.getElem?_cons_zero, List.getElem?_cons_succ] at e0 e1 e2 e3
  have hbl : w.heap.size < wd.heap.size := (Array.getElem?_eq_some_iff.1 hbox).1
  have hbT : Below T w wd := hbd.mono (by omega)
  have HSD := Lib.hid hsd
  have hap1 : ¬ gs = gr := hsd.apart
  have hap2 : ¬ gr = gs := fun h => hap1 h.symm
  have hrl := hsd.rlt
  rw [h32] at d1
  clear hsd hbox
  obtain ⟨tra, htra⟩ : ∃ t, s.regs[ra]? = some t := ⟨_, List.getElem?_eq_getElem (by omega)⟩
  obtain ⟨qra, fra, nra⟩ := dr ra tra htra
  have zra := drf ra
  obtain ⟨qb, fb, nb⟩ := dr rb t ht

  clear hm hs hg hl hx hn' hle hpg
  go_enter Try.func59, Try.ntmps59
  go_wp2
  go_region_held3 (fun w' => w'.cell? ⟨gm, 0, none⟩ = some (.slice (some ⟨pg, off, none⟩) n cap) ∧ w'.cell? ⟨gs, 0, none⟩ = some (.int .i64 s.pos) ∧ w'.cell? ⟨pg, off + s.pos * 5, none⟩ = some (.int .i64 (4)) ∧ w'.cell? ⟨pg, off + s.pos * 5 + 1, none⟩ = some (.int .i64 (ra : Nat)) ∧
      w'.cell? ⟨pg, off + s.pos * 5 + 2, none⟩ = some (.int .i64 (rb : Nat)) ∧ w'.cell? ⟨pg, off + s.pos * 5 + 3, none⟩ = some (.int .i64 (c)) ∧ w'.cell? ⟨pg, off + s.pos * 5 + 4, none⟩ = some (.string tree))
    (exact keep _ (by first | exact hbd | exact (Below.refl _ _).drew | exact ((Below.refl _ _).drew).alloc (Nat.le_refl _) _))
    (fail)
  try rw [hwd]
  clear keep hwd p0 p1 p2 p3 p4 c0 s0
  obtain ⟨xq, nxq, kx⟩ := rnodeTail_at t _ wd nb
  have kx1 := kx wd.drew (Kept.refl _ _).drew
  have HND := Lib.hid nxq
  have df0 := df 0
  have ib0 : (0 : Int) ≤ (rb : Int) := Int.natCast_nonneg _
  have ib1 : (rb : Int) < 32 := by omega
  have ia0 : (0 : Int) ≤ (ra : Int) := Int.natCast_nonneg _
  have ia1 : (ra : Int) < 32 := by omega
  clear dr df drf nb nra nxq kx
  go_wp2
  refine wp_region_still_tail 16 (by kernel_rfl) (by kernel_rfl) ?_
  simp only [List.take_succ_cons, List.take_zero, List.drop_succ_cons, List.drop_zero]
  repeat still_step
  still_call kx1
  repeat still_step
  try refine wpStill_nil ?_
  go_wp2
  go_ret
  refine RStepOk.mk' rfl ?_
  first
  | exact rstep_fin_drew (rstep_fin HSD.out hbT kkd ra HND.out hgr _ _ (by omega))
  | exact rstep_fin (HSD.out.kept (Below.refl _ _).drew) hbT.drew kkd.drew ra (HND.out.kept (Kept.refl _ _).drew) hgr _ _ (by omega)

set_option maxRecDepth 20000 in
set_option maxHeartbeats 4000000 in
theorem rstep_cons_ok (w : World) (T gm gs gr cp : Nat) (l : List Ins) (s : St) (pv tv : Value) (ps : List Value) (hm : RMachP w T gm l pv tv) (hs : RStP w T gs s (.slice (some ⟨gr, 0, none⟩) s.regs.length cp) ps) (hgr : T ≤ gr) (hg : Good l.length s) (hn4 : l.length ≤ 4000) (ra : Nat) (ha : ra < 32) (rb : Nat) (hb : rb < 32) (rc : Nat) (hc : rc < 32) (t : Tr) (ht : s.regs[rb]? = some t) (u : Tr) (hu : s.regs[rc]? = some u) (tree : ByteArray) (hsz : (Tr.pair t u).size ≤ 2000000)
    (hx : l[s.pos]? = some ⟨2, (ra : Nat), (rb : Nat), (rc : Nat), tree⟩) :
    Calls Try.prog 59 #[.pointer (some ⟨gm, 0, none⟩), .pointer (some ⟨gs, 0, none⟩)] w (RStepOk w T gs ⟨s.pos + 1, s.regs.set ra (.pair t u)⟩ (.slice (some ⟨gr, 0, none⟩) s.regs.length cp)) := by
  have hp : s.pos < l.length := (List.getElem?_eq_some_iff.1 hx).1
  obtain ⟨ao, cap, rfl⟩ := hm.prog.len
  have c0 := (block_cells hm.blk).1 0
  simp only [List.getElem?_toArray, List.getElem?_cons_zero] at c0
  have s0 := hs.cells.1
  have hl := hm.prog
  have hlt := hm.lt
  have hgl : gs < w.heap.size := (Array.getElem?_eq_some_iff.1 hs.blk).1
  have hgm : gm < w.heap.size := (Array.getElem?_eq_some_iff.1 hm.blk).1
  have hle := hs.le
  obtain ⟨n, hn'⟩ : ∃ n, l.length = n := ⟨_, rfl⟩
  rw [hn'] at hl c0 hp hn4
  obtain ⟨pg, off, rfl, hpg, p0, p1, p2, p3, p4⟩ := hl.get hx
  dsimp only at p0 p1 p2 p3 p4
  have h32 := hg.2.1
  have HX := Lib.hid hx
  have HN := Lib.hid hn'
  have hi0 : (0 : Int) ≤ (s.pos : Int) := Int.natCast_nonneg _
  have hi1 : (s.pos : Int) < (n : Int) := by omega
  obtain ⟨wd, hwd⟩ : ∃ wd, (w.alloc (.cells #[.int .i64 (2), .int .i64 (ra : Nat), .int .i64 (rb : Nat), .int .i64 (rc : Nat), .string tree] 73)).drew = wd := ⟨_, rfl⟩
  have hbd : Below w.heap.size w wd := by rw [← hwd]; exact ((Below.refl _ _).alloc (Nat.le_refl _) _).drew
  have hbox : wd.heap[w.heap.size]? = some (.cells #[.int .i64 (2), .int .i64 (ra : Nat), .int .i64 (rb : Nat), .int .i64 (rc : Nat), .string tree] 73 (0, 0)) := by rw [← hwd]; exact heap_alloc_new w _
  have keep : ∀ w', Below w.heap.size w w' → w'.cell? ⟨gm, 0, none⟩ = some (.slice (some ⟨pg, off, none⟩) n cap) ∧ w'.cell? ⟨gs, 0, none⟩ = some (.int .i64 s.pos) ∧ w'.cell? ⟨pg, off + s.pos * 5, none⟩ = some (.int .i64 (2)) ∧ w'.cell? ⟨pg, off + s.pos * 5 + 1, none⟩ = some (.int .i64 (ra : Nat)) ∧
      w'.cell? ⟨pg, off + s.pos * 5 + 2, none⟩ = some (.int .i64 (rb : Nat)) ∧ w'.cell? ⟨pg, off + s.pos * 5 + 3, none⟩ = some (.int .i64 (rc : Nat)) ∧ w'.cell? ⟨pg, off + s.pos * 5 + 4, none⟩ = some (.string tree) := fun w' hb => by
    refine ⟨(hb.cell (p := ⟨gm, 0, none⟩) hgm).trans c0, (hb.cell (p := ⟨gs, 0, none⟩) hgl).trans s0, (hb.cell (p := ⟨pg, off + s.pos * 5, none⟩) (by show pg < _; omega)).trans p0, (hb.cell (p := ⟨pg, off + s.pos * 5 + 1, none⟩) (by show pg < _; omega)).trans p1, (hb.cell (p := ⟨pg, off + s.pos * 5 + 2, none⟩) (by show pg < _; omega)).trans p2, (hb.cell (p := ⟨pg, off + s.pos * 5 + 3, none⟩) (by show pg < _; omega)).trans p3, (hb.cell (p := ⟨pg, off + s.pos * 5 + 4, none⟩) (by show pg < _; omega)).trans p4⟩
  have hsd := hs.kept hbd
  obtain ⟨d0, d1, df, dr, drf⟩ := hsd.cells
  have kkd := Kept.below hbd (T := 114)
  have e0 := (block_cells hbox).1 0
  have e1 := (block_cells hbox).1 1
  have e2 := (block_cells hbox).1 2
  have e3 := (block_cells hbox).1 3
  simp only [List.getElem?_toArray, List.getElem?_cons_zero, List.getElem?_cons_succ] at e0 e1 e2 e3
  have hbl : w.heap.size < wd.heap.size := (Array.getElem?_eq_some_iff.1 hbox).1
  have hbT : Below T w wd := hbd.mono (by omega)
  have HSD := Lib.hid hsd
  have hap1 : ¬ gs = gr := hsd.apart
  have hap2 : ¬ gr = gs := fun h => hap1 h.symm
  have hrl := hsd.rlt
  rw [h32] at d1
  clear hsd hbox
  have ib0 : (0 : Int) ≤ (rb : Int) := Int.natCast_nonneg _
  have ib1 : (rb : Int) < 32 := by omega
  have ic0 : (0 : Int) ≤ (rc : Int) := Int.natCast_nonneg _
  have ic1 : (rc : Int) < 32 := by omega
  obtain ⟨qb, fb, nb⟩ := dr rb t ht
  obtain ⟨qc, fc, nc⟩ := dr rc u hu
  have h1 := Lib.hid (hg.2.2 _ (List.mem_of_getElem? ht))
  have h2 := Lib.hid (hg.2.2 _ (List.mem_of_getElem? hu))

  clear hm hs hg hl hx hn' hle hpg
  go_enter Try.func59, Try.ntmps59
  go_wp2
  go_region_held3 (fun w' => w'.cell? ⟨gm, 0, none⟩ = some (.slice (some ⟨pg, off, none⟩) n cap) ∧ w'.cell? ⟨gs, 0, none⟩ = some (.int .i64 s.pos) ∧ w'.cell? ⟨pg, off + s.pos * 5, none⟩ = some (.int .i64 (2)) ∧ w'.cell? ⟨pg, off + s.pos * 5 + 1, none⟩ = some (.int .i64 (ra : Nat)) ∧
      w'.cell? ⟨pg, off + s.pos * 5 + 2, none⟩ = some (.int .i64 (rb : Nat)) ∧ w'.cell? ⟨pg, off + s.pos * 5 + 3, none⟩ = some (.int .i64 (rc : Nat)) ∧ w'.cell? ⟨pg, off + s.pos * 5 + 4, none⟩ = some (.string tree))
    (exact keep _ (by first | exact hbd | exact (Below.refl _ _).drew | exact ((Below.refl _ _).drew).alloc (Nat.le_refl _) _))
    (fail)
  try rw [hwd]
  clear keep hwd p0 p1 p2 p3 p4 c0 s0
  have HNB := Lib.hid nb
  have HNC := Lib.hid nc
  have kc : ∀ w', Below wd.heap.size wd w' → Calls Try.prog 75 #[.pointer qb, .pointer qc] w' fun e w'' => ∃ p, e = .returned (.pointer (some p)) ∧ Hid (NodeP 114 w'' (.pair t u) (.pointer (some p))) ∧ Below wd.heap.size wd w'' := fun w' hb' => by
    refine (rnodeCons_ok t u _ _ w' (HNB.out.kept (Kept.below hb')) (HNC.out.kept (Kept.below hb')) (by have := h1.out; omega) (by have := h2.out; omega)).mono ?_
    rintro e w'' ⟨p, he, hp, hb2⟩
    exact ⟨p, he, hp, hb'.trans (hb2.mono hb'.size)⟩
  have keep2 : ∀ w', Below wd.heap.size wd w' → w'.cell? ⟨w.heap.size, 2, none⟩ = some (.int .i64 (rb : Nat)) ∧ w'.cell? ⟨w.heap.size, 3, none⟩ = some (.int .i64 (rc : Nat)) ∧ w'.cell? ⟨gr, rb, none⟩ = some (.pointer qb) ∧ w'.cell? ⟨gr, rc, none⟩ = some (.pointer qc) ∧ w'.cell? ⟨gs, 1, none⟩ = some (.slice (some ⟨gr, 0, none⟩) 32 cp) := fun w' hb' =>
    ⟨(hb'.cell (p := ⟨w.heap.size, 2, none⟩) hbl).trans e2, (hb'.cell (p := ⟨w.heap.size, 3, none⟩) hbl).trans e3, (hb'.cell (p := ⟨gr, rb, none⟩) hrl).trans fb, (hb'.cell (p := ⟨gr, rc, none⟩) hrl).trans fc, (hb'.cell (p := ⟨gs, 1, none⟩) (by show gs < _; omega)).trans d1⟩
  clear dr df drf nb nc
  have HSZ := Lib.hid hsz
  clear hsz
  go_wp2
  go_region_held3 (fun w' => w'.cell? ⟨w.heap.size, 2, none⟩ = some (.int .i64 (rb : Nat)) ∧ w'.cell? ⟨w.heap.size, 3, none⟩ = some (.int .i64 (rc : Nat)) ∧ w'.cell? ⟨gr, rb, none⟩ = some (.pointer qb) ∧ w'.cell? ⟨gr, rc, none⟩ = some (.pointer qc) ∧ w'.cell? ⟨gs, 1, none⟩ = some (.slice (some ⟨gr, 0, none⟩) 32 cp))
    (exact keep2 _ (by first | exact (Below.refl _ _) | exact (Below.refl _ _).drew | exact hb2 | exact hb2.drew))
    ((refine (kc _ (by first | exact Below.refl _ _ | exact (Below.refl _ _).drew)).mono ?_; rintro e w2 ⟨⟨xb, xo, xf⟩, rfl, hnx, hb2⟩))
  all_goals
    obtain ⟨gx, x1, x2, hgx, hblk, _, _⟩ := hnx.out
    simp only [Value.pointer.injEq, Option.some.injEq, Addr.mk.injEq] at hgx
    obtain ⟨rfl, rfl, rfl⟩ := hgx
    have cx := (block_cells hblk).1 2
    simp only [List.getElem?_toArray, List.getElem?_cons_zero, List.getElem?_cons_succ] at cx
    have hsz1 := (Tr.pair t u).size_pos
    have hs1 : ((Tr.pair t u).size : Int) ≤ 4000001 := by have := h1.out; have := h2.out; simp only [Tr.size]; omega
    have hsd2 := HSD.out.kept hb2
    obtain ⟨k0, k1, kf, kr, krf⟩ := hsd2.cells
    rw [h32] at k1
    have htest : ((Tr.pair t u).size : Int) ≤ 2000000 := by have := HSZ.out; omega
    obtain ⟨ta, hta⟩ : ∃ t, s.regs[ra]? = some t := ⟨_, List.getElem?_eq_getElem (by omega)⟩
    obtain ⟨qa, fa, na⟩ := kr ra ta hta
    have za := krf ra
    have kf0 := kf 0
    have ia0 : (0 : Int) ≤ (ra : Int) := Int.natCast_nonneg _
    have ia1 : (ra : Int) < 32 := by omega
    have b1 := (hb2.cell (p := ⟨w.heap.size, 1, none⟩) hbl).trans e1
    have HS2 := Lib.hid hsd2
    have hbe := hbd.trans (hb2.mono hbd.size)
    have HBE := Lib.hid hbe
    have hbT2 : Below T w w2 := hbT.trans (hb2.mono (by omega))
    have HBT2 := Lib.hid hbT2
    generalize hPS : (Tr.pair t u).size = psz at *
    clear kr kf krf hsd2 keep2 kc e0 e1 e2 e3 d0 d1 na hta hb2 hblk
    try clear fb fc
    go_wp2
    go_region
    go_wp2
    go_ret
    refine RStepOk.mk' rfl ?_
    first
    | exact rstep_fin_drew (rstep_fin HS2.out HBT2.out (Kept.below HBE.out) ra hnx.out hgr _ _ (by omega))
    | exact rstep_fin (HS2.out.kept (Below.refl _ _).drew) HBT2.out.drew (Kept.below HBE.out).drew ra (hnx.out.kept (Kept.refl _ _).drew) hgr _ _ (by omega)

set_option maxRecDepth 20000 in
set_option maxHeartbeats 4000000 in
theorem rstep_cons_big (w : World) (T gm gs gr cp : Nat) (l : List Ins) (s : St) (pv tv : Value) (ps : List Value) (hm : RMachP w T gm l pv tv) (hs : RStP w T gs s (.slice (some ⟨gr, 0, none⟩) s.regs.length cp) ps) (hgr : T ≤ gr) (hg : Good l.length s) (hn4 : l.length ≤ 4000) (ra : Nat) (ha : ra < 32) (rb : Nat) (hb : rb < 32) (rc : Nat) (hc : rc < 32) (t : Tr) (ht : s.regs[rb]? = some t) (u : Tr) (hu : s.regs[rc]? = some u) (tree : ByteArray) (hsz : 2000000 < (Tr.pair t u).size)
    (hx : l[s.pos]? = some ⟨2, (ra : Nat), (rb : Nat), (rc : Nat), tree⟩) :
    Calls Try.prog 59 #[.pointer (some ⟨gm, 0, none⟩), .pointer (some ⟨gs, 0, none⟩)] w (fun e w' => e = .returned (.bool false) ∧ (∃ ps', RStP w' T gs s (.slice (some ⟨gr, 0, none⟩) s.regs.length cp) ps') ∧ Below T w w' ∧ Kept 114 w w') := by
  have hp : s.pos < l.length := (List.getElem?_eq_some_iff.1 hx).1
  obtain ⟨ao, cap, rfl⟩ := hm.prog.len
  have c0 := (block_cells hm.blk).1 0
  simp only [List.getElem?_toArray, List.getElem?_cons_zero] at c0
  have s0 := hs.cells.1
  have hl := hm.prog
  have hlt := hm.lt
  have hgl : gs < w.heap.size := (Array.getElem?_eq_some_iff.1 hs.blk).1
  have hgm : gm < w.heap.size := (Array.getElem?_eq_some_iff.1 hm.blk).1
  have hle := hs.le
  obtain ⟨n, hn'⟩ : ∃ n, l.length = n := ⟨_, rfl⟩
  rw [hn'] at hl c0 hp hn4
  obtain ⟨pg, off, rfl, hpg, p0, p1, p2, p3, p4⟩ := hl.get hx
  dsimp only at p0 p1 p2 p3 p4
  have h32 := hg.2.1
  have HX := Lib.hid hx
  have HN := Lib.hid hn'
  have hi0 : (0 : Int) ≤ (s.pos : Int) := Int.natCast_nonneg _
  have hi1 : (s.pos : Int) < (n : Int) := by omega
  obtain ⟨wd, hwd⟩ : ∃ wd, (w.alloc (.cells #[.int .i64 (2), .int .i64 (ra : Nat), .int .i64 (rb : Nat), .int .i64 (rc : Nat), .string tree] 73)).drew = wd := ⟨_, rfl⟩
  have hbd : Below w.heap.size w wd := by rw [← hwd]; exact ((Below.refl _ _).alloc (Nat.le_refl _) _).drew
  have hbox : wd.heap[w.heap.size]? = some (.cells #[.int .i64 (2), .int .i64 (ra : Nat), .int .i64 (rb : Nat), .int .i64 (rc : Nat), .string tree] 73 (0, 0)) := by rw [← hwd]; exact heap_alloc_new w _
  have keep : ∀ w', Below w.heap.size w w' → w'.cell? ⟨gm, 0, none⟩ = some (.slice (some ⟨pg, off, none⟩) n cap) ∧ w'.cell? ⟨gs, 0, none⟩ = some (.int .i64 s.pos) ∧ w'.cell? ⟨pg, off + s.pos * 5, none⟩ = some (.int .i64 (2)) ∧ w'.cell? ⟨pg, off + s.pos * 5 + 1, none⟩ = some (.int .i64 (ra : Nat)) ∧
      w'.cell? ⟨pg, off + s.pos * 5 + 2, none⟩ = some (.int .i64 (rb : Nat)) ∧ w'.cell? ⟨pg, off + s.pos * 5 + 3, none⟩ = some (.int .i64 (rc : Nat)) ∧ w'.cell? ⟨pg, off + s.pos * 5 + 4, none⟩ = some (.string tree) := fun w' hb => by
    refine ⟨(hb.cell (p := ⟨gm, 0, none⟩) hgm).trans c0, (hb.cell (p := ⟨gs, 0, none⟩) hgl).trans s0, (hb.cell (p := ⟨pg, off + s.pos * 5, none⟩) (by show pg < _; omega)).trans p0, (hb.cell (p := ⟨pg, off + s.pos * 5 + 1, none⟩) (by show pg < _; omega)).trans p1, (hb.cell (p := ⟨pg, off + s.pos * 5 + 2, none⟩) (by show pg < _; omega)).trans p2, (hb.cell (p := ⟨pg, off + s.pos * 5 + 3, none⟩) (by show pg < _; omega)).trans p3, (hb.cell (p := ⟨pg, off + s.pos * 5 + 4, none⟩) (by show pg < _; omega)).trans p4⟩
  have hsd := hs.kept hbd
  obtain ⟨d0, d1, df, dr, drf⟩ := hsd.cells
  have kkd := Kept.below hbd (T := 114)
  have e0 := (block_cells hbox).1 0
  have e1 := (block_cells hbox).1 1
  have e2 := (block_cells hbox).1 2
  have e3 := (block_cells hbox).1 3
  simp only [List.getElem?_toArray, List.getElem?_cons_zero, List.getElem?_cons_succ] at e0 e1 e2 e3
  have hbl : w.heap.size < wd.heap.size := (Array.getElem?_eq_some_iff.1 hbox).1
  have hbT : Below T w wd := hbd.mono (by omega)
  have HSD := Lib.hid hsd
  have hap1 : ¬ gs = gr := hsd.apart
  have hap2 : ¬ gr = gs := fun h => hap1 h.symm
  have hrl := hsd.rlt
  rw [h32] at d1
  clear hsd hbox
  have ib0 : (0 : Int) ≤ (rb : Int) := Int.natCast_nonneg _
  have ib1 : (rb : Int) < 32 := by omega
  have ic0 : (0 : Int) ≤ (rc : Int) := Int.natCast_nonneg _
  have ic1 : (rc : Int) < 32 := by omega
  obtain ⟨qb, fb, nb⟩ := dr rb t ht
  obtain ⟨qc, fc, nc⟩ := dr rc u hu
  have h1 := Lib.hid (hg.2.2 _ (List.mem_of_getElem? ht))
  have h2 := Lib.hid (hg.2.2 _ (List.mem_of_getElem? hu))

  clear hm hs hg hl hx hn' hle hpg
  go_enter Try.func59, Try.ntmps59
  go_wp2
  go_region_held3 (fun w' => w'.cell? ⟨gm, 0, none⟩ = some (.slice (some ⟨pg, off, none⟩) n cap) ∧ w'.cell? ⟨gs, 0, none⟩ = some (.int .i64 s.pos) ∧ w'.cell? ⟨pg, off + s.pos * 5, none⟩ = some (.int .i64 (2)) ∧ w'.cell? ⟨pg, off + s.pos * 5 + 1, none⟩ = some (.int .i64 (ra : Nat)) ∧
      w'.cell? ⟨pg, off + s.pos * 5 + 2, none⟩ = some (.int .i64 (rb : Nat)) ∧ w'.cell? ⟨pg, off + s.pos * 5 + 3, none⟩ = some (.int .i64 (rc : Nat)) ∧ w'.cell? ⟨pg, off + s.pos * 5 + 4, none⟩ = some (.string tree))
    (exact keep _ (by first | exact hbd | exact (Below.refl _ _).drew | exact ((Below.refl _ _).drew).alloc (Nat.le_refl _) _))
    (fail)
  try rw [hwd]
  clear keep hwd p0 p1 p2 p3 p4 c0 s0
  have HNB := Lib.hid nb
  have HNC := Lib.hid nc
  have kc : ∀ w', Below wd.heap.size wd w' → Calls Try.prog 75 #[.pointer qb, .pointer qc] w' fun e w'' => ∃ p, e = .returned (.pointer (some p)) ∧ Hid (NodeP 114 w'' (.pair t u) (.pointer (some p))) ∧ Below wd.heap.size wd w'' := fun w' hb' => by
    refine (rnodeCons_ok t u _ _ w' (HNB.out.kept (Kept.below hb')) (HNC.out.kept (Kept.below hb')) (by have := h1.out; omega) (by have := h2.out; omega)).mono ?_
    rintro e w'' ⟨p, he, hp, hb2⟩
    exact ⟨p, he, hp, hb'.trans (hb2.mono hb'.size)⟩
  have keep2 : ∀ w', Below wd.heap.size wd w' → w'.cell? ⟨w.heap.size, 2, none⟩ = some (.int .i64 (rb : Nat)) ∧ w'.cell? ⟨w.heap.size, 3, none⟩ = some (.int .i64 (rc : Nat)) ∧ w'.cell? ⟨gr, rb, none⟩ = some (.pointer qb) ∧ w'.cell? ⟨gr, rc, none⟩ = some (.pointer qc) ∧ w'.cell? ⟨gs, 1, none⟩ = some (.slice (some ⟨gr, 0, none⟩) 32 cp) := fun w' hb' =>
    ⟨(hb'.cell (p := ⟨w.heap.size, 2, none⟩) hbl).trans e2, (hb'.cell (p := ⟨w.heap.size, 3, none⟩) hbl).trans e3, (hb'.cell (p := ⟨gr, rb, none⟩) hrl).trans fb, (hb'.cell (p := ⟨gr, rc, none⟩) hrl).trans fc, (hb'.cell (p := ⟨gs, 1, none⟩) (by show gs < _; omega)).trans d1⟩
  clear dr df drf nb nc
  have HSZ := Lib.hid hsz
  clear hsz
  go_wp2
  go_region_held3 (fun w' => w'.cell? ⟨w.heap.size, 2, none⟩ = some (.int .i64 (rb : Nat)) ∧ w'.cell? ⟨w.heap.size, 3, none⟩ = some (.int .i64 (rc : Nat)) ∧ w'.cell? ⟨gr, rb, none⟩ = some (.pointer qb) ∧ w'.cell? ⟨gr, rc, none⟩ = some (.pointer qc) ∧ w'.cell? ⟨gs, 1, none⟩ = some (.slice (some ⟨gr, 0, none⟩) 32 cp))
    (exact keep2 _ (by first | exact (Below.refl _ _) | exact (Below.refl _ _).drew | exact hb2 | exact hb2.drew))
    ((refine (kc _ (by first | exact Below.refl _ _ | exact (Below.refl _ _).drew)).mono ?_; rintro e w2 ⟨⟨xb, xo, xf⟩, rfl, hnx, hb2⟩))
  all_goals
    obtain ⟨gx, x1, x2, hgx, hblk, _, _⟩ := hnx.out
    simp only [Value.pointer.injEq, Option.some.injEq, Addr.mk.injEq] at hgx
    obtain ⟨rfl, rfl, rfl⟩ := hgx
    have cx := (block_cells hblk).1 2
    simp only [List.getElem?_toArray, List.getElem?_cons_zero, List.getElem?_cons_succ] at cx
    have hsz1 := (Tr.pair t u).size_pos
    have hs1 : ((Tr.pair t u).size : Int) ≤ 4000001 := by have := h1.out; have := h2.out; simp only [Tr.size]; omega
    have hsd2 := HSD.out.kept hb2
    obtain ⟨k0, k1, kf, kr, krf⟩ := hsd2.cells
    rw [h32] at k1
    have htest : 2000000 < ((Tr.pair t u).size : Int) := by have := HSZ.out; omega
    have HS2 := Lib.hid hsd2
    have hbe := hbd.trans (hb2.mono hbd.size)
    have HBE := Lib.hid hbe
    have hbT2 : Below T w w2 := hbT.trans (hb2.mono (by omega))
    have HBT2 := Lib.hid hbT2
    generalize hPS : (Tr.pair t u).size = psz at *
    clear kr kf krf hsd2 keep2 kc e0 e1 e2 e3 d0 d1 hb2 hblk
    try clear fb fc
    go_wp2
    go_ret
    first
    | exact ⟨rfl, ⟨_, HS2.out⟩, HBT2.out, Kept.below HBE.out⟩
    | exact ⟨rfl, ⟨_, HS2.out.kept (Below.refl _ _).drew⟩, HBT2.out.drew, (Kept.below HBE.out).drew⟩

set_option maxRecDepth 20000 in
set_option maxHeartbeats 4000000 in
theorem rstep_jump_no (w : World) (T gm gs gr cp : Nat) (l : List Ins) (s : St) (pv tv : Value) (ps : List Value) (hm : RMachP w T gm l pv tv) (hs : RStP w T gs s (.slice (some ⟨gr, 0, none⟩) s.regs.length cp) ps) (hgr : T ≤ gr) (hg : Good l.length s) (hn4 : l.length ≤ 4000) (ra : Nat) (ha : ra < 32) (t : Tr) (ht : s.regs[ra]? = some t) (htn : t = .nil) (b c : Int) (tree : ByteArray) (hb1 : -(s.pos : Int) ≤ b) (hb2 : b ≤ (l.length : Int) - s.pos)
    (hx : l[s.pos]? = some ⟨5, (ra : Nat), b, c, tree⟩) :
    Calls Try.prog 59 #[.pointer (some ⟨gm, 0, none⟩), .pointer (some ⟨gs, 0, none⟩)] w (RStepOk w T gs ⟨s.pos + 1, s.regs⟩ (.slice (some ⟨gr, 0, none⟩) s.regs.length cp)) := by
  have hp : s.pos < l.length := (List.getElem?_eq_some_iff.1 hx).1
  obtain ⟨ao, cap, rfl⟩ := hm.prog.len
  have c0 := (block_cells hm.blk).1 0
  simp only [List.getElem?_toArray, List.getElem?_cons_zero] at c0
  have s0 := hs.cells.1
  have hl := hm.prog
  have hlt := hm.lt
  have hgl : gs < w.heap.size := (Array.getElem?_eq_some_iff.1 hs.blk).1
  have hgm : gm < w.heap.size := (Array.getElem?_eq_some_iff.1 hm.blk).1
  have hle := hs.le
  obtain ⟨n, hn'⟩ : ∃ n, l.length = n := ⟨_, rfl⟩
  rw [hn'] at hl c0 hp hn4
  obtain ⟨pg, off, rfl, hpg, p0, p1, p2, p3, p4⟩ := hl.get hx
  dsimp only at p0 p1 p2 p3 p4
  have h32 := hg.2.1
  have HX := Lib.hid hx
  have HN := Lib.hid hn'
  have hi0 : (0 : Int) ≤ (s.pos : Int) := Int.natCast_nonneg _
  have hi1 : (s.pos : Int) < (n : Int) := by omega
  obtain ⟨wd, hwd⟩ : ∃ wd, (w.alloc (.cells #[.int .i64 (5), .int .i64 (ra : Nat), .int .i64 (b), .int .i64 (c), .string tree] 73)).drew = wd := ⟨_, rfl⟩
  have hbd : Below w.heap.size w wd := by rw [← hwd]; exact ((Below.refl _ _).alloc (Nat.le_refl _) _).drew
  have hbox : wd.heap[w.heap.size]? = some (.cells #[.int .i64 (5), .int .i64 (ra : Nat), .int .i64 (b), .int .i64 (c), .string tree] 73 (0, 0)) := by rw [← hwd]; exact heap_alloc_new w _
  have keep : ∀ w', Below w.heap.size w w' → w'.cell? ⟨gm, 0, none⟩ = some (.slice (some ⟨pg, off, none⟩) n cap) ∧ w'.cell? ⟨gs, 0, none⟩ = some (.int .i64 s.pos) ∧ w'.cell? ⟨pg, off + s.pos * 5, none⟩ = some (.int .i64 (5)) ∧ w'.cell? ⟨pg, off + s.pos * 5 + 1, none⟩ = some (.int .i64 (ra : Nat)) ∧
      w'.cell? ⟨pg, off + s.pos * 5 + 2, none⟩ = some (.int .i64 (b)) ∧ w'.cell? ⟨pg, off + s.pos * 5 + 3, none⟩ = some (.int .i64 (c)) ∧ w'.cell? ⟨pg, off + s.pos * 5 + 4, none⟩ = some (.string tree) := fun w' hb => by
    refine ⟨(hb.cell (p := ⟨gm, 0, none⟩) hgm).trans c0, (hb.cell (p := ⟨gs, 0, none⟩) hgl).trans s0, (hb.cell (p := ⟨pg, off + s.pos * 5, none⟩) (by show pg < _; omega)).trans p0, (hb.cell (p := ⟨pg, off + s.pos * 5 + 1, none⟩) (by show pg < _; omega)).trans p1, (hb.cell (p := ⟨pg, off + s.pos * 5 + 2, none⟩) (by show pg < _; omega)).trans p2, (hb.cell (p := ⟨pg, off + s.pos * 5 + 3, none⟩) (by show pg < _; omega)).trans p3, (hb.cell (p := ⟨pg, off + s.pos * 5 + 4, none⟩) (by show pg < _; omega)).trans p4⟩
  have hsd := hs.kept hbd
  obtain ⟨d0, d1, df, dr, drf⟩ := hsd.cells
  have kkd := Kept.below hbd (T := 114)
  have e0 := (block_cells hbox).1 0
  have e1 := (block_cells hbox).1 1
  have e2 := (block_cells hbox).1 2
  have e3 := (block_cells hbox).1 3
  simp only [List.getElem?_toArray, List.getElem?_cons_zero, List.getElem?_cons_succ] at e0 e1 e2 e3
  have hbl : w.heap.size < wd.heap.size := (Array.getElem?_eq_some_iff.1 hbox).1
  have hbT : Below T w wd := hbd.mono (by omega)
  have HSD := Lib.hid hsd
  have hap1 : ¬ gs = gr := hsd.apart
  have hap2 : ¬ gr = gs := fun h => hap1 h.symm
  have hrl := hsd.rlt
  rw [h32] at d1
  clear hsd hbox
  obtain ⟨qa, fa, na⟩ := dr ra t ht
  rw [hn'] at hb2
  have ia0 : (0 : Int) ≤ (ra : Int) := Int.natCast_nonneg _
  have ia1 : (ra : Int) < 32 := by omega

  clear hm hs hg hl hx hn' hle hpg
  go_enter Try.func59, Try.ntmps59
  go_wp2
  go_region_held3 (fun w' => w'.cell? ⟨gm, 0, none⟩ = some (.slice (some ⟨pg, off, none⟩) n cap) ∧ w'.cell? ⟨gs, 0, none⟩ = some (.int .i64 s.pos) ∧ w'.cell? ⟨pg, off + s.pos * 5, none⟩ = some (.int .i64 (5)) ∧ w'.cell? ⟨pg, off + s.pos * 5 + 1, none⟩ = some (.int .i64 (ra : Nat)) ∧
      w'.cell? ⟨pg, off + s.pos * 5 + 2, none⟩ = some (.int .i64 (b)) ∧ w'.cell? ⟨pg, off + s.pos * 5 + 3, none⟩ = some (.int .i64 (c)) ∧ w'.cell? ⟨pg, off + s.pos * 5 + 4, none⟩ = some (.string tree))
    (exact keep _ (by first | exact hbd | exact (Below.refl _ _).drew | exact ((Below.refl _ _).drew).alloc (Nat.le_refl _) _))
    (fail)
  try rw [hwd]
  clear keep hwd p0 p1 p2 p3 p4 c0 s0
  subst htn
  have hq : qa = none := by have : Value.pointer qa = .pointer none := na; simpa using this
  subst hq
  have df0 := df 0
  clear dr df drf na ht
  have hnI : (n : Int) ≤ 4000 := by omega
  go_wp2
  go_quiet (fail)
  go_wp2
  go_ret
  refine RStepOk.mk' rfl ?_
  have hq1 := below_drewN (Below.refl wd.heap.size wd) nq
  first
  | exact rstep_jfin (HSD.out.kept hq1) (hbT.trans (hq1.mono (by omega))) (kkd.trans (Kept.below hq1)) _ _ (by omega)
  | exact rstep_fin_drew (rstep_jfin (HSD.out.kept hq1) (hbT.trans (hq1.mono (by omega))) (kkd.trans (Kept.below hq1)) _ _ (by omega))

set_option maxRecDepth 20000 in
set_option maxHeartbeats 4000000 in
theorem rstep_jump_go (w : World) (T gm gs gr cp : Nat) (l : List Ins) (s : St) (pv tv : Value) (ps : List Value) (hm : RMachP w T gm l pv tv) (hs : RStP w T gs s (.slice (some ⟨gr, 0, none⟩) s.regs.length cp) ps) (hgr : T ≤ gr) (hg : Good l.length s) (hn4 : l.length ≤ 4000) (ra : Nat) (ha : ra < 32) (t : Tr) (ht : s.regs[ra]? = some t) (htn : t ≠ .nil) (b c : Int) (tree : ByteArray) (hb1 : -(s.pos : Int) ≤ b) (hb2 : b ≤ (l.length : Int) - s.pos)
    (hx : l[s.pos]? = some ⟨5, (ra : Nat), b, c, tree⟩) :
    Calls Try.prog 59 #[.pointer (some ⟨gm, 0, none⟩), .pointer (some ⟨gs, 0, none⟩)] w (RStepOk w T gs ⟨((s.pos : Int) + b).toNat, s.regs⟩ (.slice (some ⟨gr, 0, none⟩) s.regs.length cp)) := by
  have hp : s.pos < l.length := (List.getElem?_eq_some_iff.1 hx).1
  obtain ⟨ao, cap, rfl⟩ := hm.prog.len
  have c0 := (block_cells hm.blk).1 0
  simp only [List.getElem?_toArray, List.getElem?_cons_zero] at c0
  have s0 := hs.cells.1
  have hl := hm.prog
  have hlt := hm.lt
  have hgl : gs < w.heap.size := (Array.getElem?_eq_some_iff.1 hs.blk).1
  have hgm : gm < w.heap.size := (Array.getElem?_eq_some_iff.1 hm.blk).1
  have hle := hs.le
  obtain ⟨n, hn'⟩ : ∃ n, l.length = n := ⟨_, rfl⟩
  rw [hn'] at hl c0 hp hn4
  obtain ⟨pg, off, rfl, hpg, p0, p1, p2, p3, p4⟩ := hl.get hx
  dsimp only at p0 p1 p2 p3 p4
  have h32 := hg.2.1
  have HX := Lib.hid hx
  have HN := Lib.hid hn'
  have hi0 : (0 : Int) ≤ (s.pos : Int) := Int.natCast_nonneg _
  have hi1 : (s.pos : Int) < (n : Int) := by omega
  obtain ⟨wd, hwd⟩ : ∃ wd, (w.alloc (.cells #[.int .i64 (5), .int .i64 (ra : Nat), .int .i64 (b), .int .i64 (c), .string tree] 73)).drew = wd := ⟨_, rfl⟩
  have hbd : Below w.heap.size w wd := by rw [← hwd]; exact ((Below.refl _ _).alloc (Nat.le_refl _) _).drew
  have hbox : wd.heap[w.heap.size]? = some (.cells #[.int .i64 (5), .int .i64 (ra : Nat), .int .i64 (b), .int .i64 (c), .string tree] 73 (0, 0)) := by rw [← hwd]; exact heap_alloc_new w _
  have keep : ∀ w', Below w.heap.size w w' → w'.cell? ⟨gm, 0, none⟩ = some (.slice (some ⟨pg, off, none⟩) n cap) ∧ w'.cell? ⟨gs, 0, none⟩ = some (.int .i64 s.pos) ∧ w'.cell? ⟨pg, off + s.pos * 5, none⟩ = some (.int .i64 (5)) ∧ w'.cell? ⟨pg, off + s.pos * 5 + 1, none⟩ = some (.int .i64 (ra : Nat)) ∧
      w'.cell? ⟨pg, off + s.pos * 5 + 2, none⟩ = some (.int .i64 (b)) ∧ w'.cell? ⟨pg, off + s.pos * 5 + 3, none⟩ = some (.int .i64 (c)) ∧ w'.cell? ⟨pg, off + s.pos * 5 + 4, none⟩ = some (.string tree) := fun w' hb => by
    refine ⟨(hb.cell (p := ⟨gm, 0, none⟩) hgm).trans c0, (hb.cell (p := ⟨gs, 0, none⟩) hgl).trans s0, (hb.cell (p := ⟨pg, off + s.pos * 5, none⟩) (by show pg < _; omega)).trans p0, (hb.cell (p := ⟨pg, off + s.pos * 5 + 1, none⟩) (by show pg < _; omega)).trans p1, (hb.cell (p := ⟨pg, off + s.pos * 5 + 2, none⟩) (by show pg < _; omega)).trans p2, (hb.cell (p := ⟨pg, off + s.pos * 5 + 3, none⟩) (by show pg < _; omega)).trans p3, (hb.cell (p := ⟨pg, off + s.pos * 5 + 4, none⟩) (by show pg < _; omega)).trans p4⟩
  have hsd := hs.kept hbd
  obtain ⟨d0, d1, df, dr, drf⟩ := hsd.cells
  have kkd := Kept.below hbd (T := 114)
  have e0 := (block_cells hbox).1 0
  have e1 := (block_cells hbox).1 1
  have e2 := (block_cells hbox).1 2
  have e3 := (block_cells hbox).1 3
  simp only [List.getElem?_toArray, List.getElem?_cons_zero, List.getElem?_cons_succ] at e0 e1 e2 e3
  have hbl : w.heap.size < wd.heap.size := (Array.getElem?_eq_some_iff.1 hbox).1
  have hbT : Below T w wd := hbd.mono (by omega)
  have HSD := Lib.hid hsd
  have hap1 : ¬ gs = gr := hsd.apart
  have hap2 : ¬ gr = gs := fun h => hap1 h.symm
  have hrl := hsd.rlt
  rw [h32] at d1
  clear hsd hbox
  obtain ⟨qa, fa, na⟩ := dr ra t ht
  rw [hn'] at hb2
  have ia0 : (0 : Int) ≤ (ra : Int) := Int.natCast_nonneg _
  have ia1 : (ra : Int) < 32 := by omega

  clear hm hs hg hl hx hn' hle hpg
  go_enter Try.func59, Try.ntmps59
  go_wp2
  go_region_held3 (fun w' => w'.cell? ⟨gm, 0, none⟩ = some (.slice (some ⟨pg, off, none⟩) n cap) ∧ w'.cell? ⟨gs, 0, none⟩ = some (.int .i64 s.pos) ∧ w'.cell? ⟨pg, off + s.pos * 5, none⟩ = some (.int .i64 (5)) ∧ w'.cell? ⟨pg, off + s.pos * 5 + 1, none⟩ = some (.int .i64 (ra : Nat)) ∧
      w'.cell? ⟨pg, off + s.pos * 5 + 2, none⟩ = some (.int .i64 (b)) ∧ w'.cell? ⟨pg, off + s.pos * 5 + 3, none⟩ = some (.int .i64 (c)) ∧ w'.cell? ⟨pg, off + s.pos * 5 + 4, none⟩ = some (.string tree))
    (exact keep _ (by first | exact hbd | exact (Below.refl _ _).drew | exact ((Below.refl _ _).drew).alloc (Nat.le_refl _) _))
    (fail)
  try rw [hwd]
  clear keep hwd p0 p1 p2 p3 p4 c0 s0
  obtain ⟨qg, hq⟩ : ∃ qg, qa = some ⟨qg, 0, none⟩ := by
    cases t with
    | nil => exact absurd rfl htn
    | pair a1 a2 => obtain ⟨g1, x1, y1, hv1, _⟩ := na; simp only [Value.pointer.injEq] at hv1; exact ⟨g1, hv1⟩
  subst hq
  have hpb : (s.pos : Int) + b = (((s.pos : Int) + b).toNat : Int) := by omega
  have hpb2 : (0 : Int) ≤ (s.pos : Int) + b := by omega
  have hpb3 : (s.pos : Int) + b ≤ n := by omega
  have HPB := Lib.hid hpb
  clear hpb
  have df0 := df 0
  clear dr df drf na ht
  have hnI : (n : Int) ≤ 4000 := by omega
  go_wp2
  go_quiet (fail)
  go_wp2
  go_region
  go_wp2
  go_ret
  refine RStepOk.mk' rfl ?_
  have hq1 := below_drewN (Below.refl wd.heap.size wd) nq
  first
  | exact rstep_jfin (HSD.out.kept hq1) (hbT.trans (hq1.mono (by omega))) (kkd.trans (Kept.below hq1)) _ _ HPB.out
  | exact rstep_fin_drew (rstep_jfin (HSD.out.kept hq1) (hbT.trans (hq1.mono (by omega))) (kkd.trans (Kept.below hq1)) _ _ HPB.out)

end Go.Proofs.Ytieocihlkpipmaa

namespace Go.Proofs.Ytieocihlkpipmaa
open Go.RowKit

/-- What a step of the reference leaves. -/
def RStepOut (w : World) (T gs : Nat) (l : List Ins) (s : St) (rv : Value) (e : Ending) (w' : World) : Prop :=
  match stepP l s with
  | some s' => RStepOk w T gs s' rv e w'
  | none => e = .returned (.bool false) ∧ (∃ ps', RStP w' T gs s rv ps') ∧ Below T w w' ∧ Kept 114 w w'

theorem refstep_any (w : World) (T gm gs gr cp : Nat) (l : List Ins) (s : St) (pv tv : Value) (ps : List Value) (hm : RMachP w T gm l pv tv) (hs : RStP w T gs s (.slice (some ⟨gr, 0, none⟩) s.regs.length cp) ps) (hgr : T ≤ gr) (hg : Good l.length s) (hn4 : l.length ≤ 4000) (hv : rightAll l = true) (hp : s.pos < l.length) :
    Calls Try.prog 59 #[.pointer (some ⟨gm, 0, none⟩), .pointer (some ⟨gs, 0, none⟩)] w (RStepOut w T gs l s (.slice (some ⟨gr, 0, none⟩) s.regs.length cp)) := by
  obtain ⟨x, hx⟩ : ∃ x, l[s.pos]? = some x := ⟨_, List.getElem?_eq_getElem hp⟩
  have hr := rightAll_get hv hx
  unfold RStepOut stepP
  rw [hx]
  dsimp only
  obtain ⟨op, a, b, c, tree⟩ := x
  unfold rightB at hr
  simp only [Bool.and_eq_true] at hr
  obtain ⟨⟨⟨ha, h1⟩, h2⟩, h3⟩ := hr
  obtain ⟨ra, rfl, hra⟩ := regB_nat ha
  have gt : ∀ r : Nat, r < 32 → ∃ t, s.regs[r]? = some t := fun r h => ⟨_, List.getElem?_eq_getElem (by rw [hg.2.1]; exact h)⟩
  obtain ⟨ta, hta⟩ := gt ra hra
  unfold stepX
  dsimp only
  by_cases o0 : op = 0
  · subst o0
    simp only [if_true, setR, Int.toNat_natCast]
    exact rstep_set w T gm gs gr cp l s pv tv ps hm hs hgr hg hn4 ra hra b c tree hx
  · rw [if_neg o0] at h3 ⊢
    by_cases o1 : op = 1
    · subst o1
      rw [if_pos (.inl rfl)] at h3
      obtain ⟨rb, rfl, hrb⟩ := regB_nat h3
      obtain ⟨t, ht⟩ := gt rb hrb
      simp only [if_true, setR, Int.toNat_natCast, getR_nat ht]
      exact rstep_move w T gm gs gr cp l s pv tv ps hm hs hgr hg hn4 ra hra rb hrb t ht c tree hx
    · rw [if_neg o1]
      by_cases o2 : op = 2
      · subst o2
        rw [if_neg (by omega), if_pos rfl] at h3
        simp only [Bool.and_eq_true] at h3
        obtain ⟨rb, rfl, hrb⟩ := regB_nat h3.1
        obtain ⟨rc, rfl, hrc⟩ := regB_nat h3.2
        obtain ⟨t, ht⟩ := gt rb hrb
        obtain ⟨u, hu⟩ := gt rc hrc
        simp only [if_true, setR, Int.toNat_natCast, getR_nat ht, getR_nat hu]
        by_cases hsz : (Tr.pair t u).size ≤ 2000000
        · rw [if_pos hsz]
          exact rstep_cons_ok w T gm gs gr cp l s pv tv ps hm hs hgr hg hn4 ra hra rb hrb rc hrc t ht u hu tree hsz hx
        · rw [if_neg hsz]
          exact rstep_cons_big w T gm gs gr cp l s pv tv ps hm hs hgr hg hn4 ra hra rb hrb rc hrc t ht u hu tree (by omega) hx
      · rw [if_neg o2]
        by_cases o3 : op = 3
        · subst o3
          rw [if_pos (.inr (.inl rfl))] at h3
          obtain ⟨rb, rfl, hrb⟩ := regB_nat h3
          obtain ⟨t, ht⟩ := gt rb hrb
          simp only [if_true, setR, Int.toNat_natCast, getR_nat ht]
          exact rstep_head w T gm gs gr cp l s pv tv ps hm hs hgr hg hn4 ra hra rb hrb t ht c tree hx
        · rw [if_neg o3]
          by_cases o4 : op = 4
          · subst o4
            rw [if_pos (.inr (.inr rfl))] at h3
            obtain ⟨rb, rfl, hrb⟩ := regB_nat h3
            obtain ⟨t, ht⟩ := gt rb hrb
            simp only [if_true, setR, Int.toNat_natCast, getR_nat ht]
            exact rstep_tail w T gm gs gr cp l s pv tv ps hm hs hgr hg hn4 ra hra rb hrb t ht c tree hx
          · rw [if_neg o4]
            rw [if_neg (by omega), if_neg o2] at h3
            by_cases o5 : op = 5
            · subst o5
              rw [if_pos rfl] at h3
              simp only [Bool.and_eq_true, decide_eq_true_eq] at h3
              rw [getR_nat hta]
              by_cases hn : ta = .nil
              · rw [if_pos hn]
                exact rstep_jump_no w T gm gs gr cp l s pv tv ps hm hs hgr hg hn4 ra hra ta hta hn b c tree h3.1 h3.2 hx
              · rw [if_neg hn]
                exact rstep_jump_go w T gm gs gr cp l s pv tv ps hm hs hgr hg hn4 ra hra ta hta hn b c tree h3.1 h3.2 hx
            · rw [if_neg o5] at h3; cases h3

end Go.Proofs.Ytieocihlkpipmaa


/- The walk of run.Run. -/
import Derived.Test.YtaiomcjopgnfpaaRunI
import Derived.Test.YtaiomcjopgnfpaaRunF
namespace Go.Proofs.Ytaiomcjopgnfpaa
open Go.RowKit Go.Shelf
attribute [local go_sem] Oper.semAt_some

/-- What Run hands back. -/
def RunOut (w : World) (y : ByteArray) (k : Nat) (er : Int) (e : Ending) (w' : World) : Prop := e = .returned (.tuple #[.string y, .int .i64 k, .int .i64 er]) ∧ Below w.heap.size w w'

theorem els_blk {g b : Nat} {A B : World} {o : Obj} (h : Els g A B) (hne : b ≠ g) (hc : A.heap[b]? = some o) : B.heap[b]? = some o :=
  (h.block b (Array.getElem?_eq_some_iff.1 hc).1 hne).trans hc
theorem below_blk {n b : Nat} {A B : World} {o : Obj} (h : Below n A B) (hc : A.heap[b]? = some o) (hn : b < n) : B.heap[b]? = some o := (h.block b hn).trans hc
theorem grown_blk {b : Nat} {A B : World} {row : Option Nat} {cs : Array Value} {T : Nat} {fr : Nat × Nat} (hg : A.grownBy B row) (hr : ∀ r, row = some r → ∃ o : Obj, A.heap[r]? = some o ∧ o.isCells = false) (hc : A.heap[b]? = some (.cells cs T fr)) : B.heap[b]? = some (.cells cs T fr) :=
  (grownBy_keeps_cells hg hr hc rfl).trans hc

/-- What Run's own variables hold. -/
structure RunC (w : World) (bm : Nat) (mv : Value) (fuel : Int) (y : ByteArray) (k er : Int) (W : World) : Prop where
  f : W.heap[w.heap.size]? = some (.cells #[.int .i64 fuel] 3 (0, 0))
  y : W.heap[w.heap.size + 1]? = some (.cells #[.string y] 9 (0, 0))
  k : W.heap[w.heap.size + 1 + 1]? = some (.cells #[.int .i64 k] 3 (0, 0))
  e : W.heap[w.heap.size + 1 + 1 + 1]? = some (.cells #[.int .i64 er] 26 (0, 0))
  m : W.heap[bm]? = some (.cells #[mv] 94 (0, 0))
  b : Below w.heap.size w W
theorem RunC.els {w : World} {bm : Nat} {mv : Value} {fuel : Int} {y : ByteArray} {k er : Int} {A B : World} (h : RunC w bm mv fuel y k er A) {g : Nat} (hE : Els g A B) (hg : w.heap.size + 1 + 1 + 1 < g) (hm : bm ≠ g) : RunC w bm mv fuel y k er B :=
  ⟨els_blk hE (by omega) h.f, els_blk hE (by omega) h.y, els_blk hE (by omega) h.k, els_blk hE (by omega) h.e, els_blk hE hm h.m, h.b.trans (hE.below (by omega) h.b.size)⟩
theorem RunC.grown {w : World} {bm : Nat} {mv : Value} {fuel : Int} {y : ByteArray} {k er : Int} {A B : World} {row : Option Nat} (h : RunC w bm mv fuel y k er A) (hg : A.grownBy B row) (hr : ∀ r, row = some r → w.heap.size ≤ r ∧ ∃ o : Obj, A.heap[r]? = some o ∧ o.isCells = false) : RunC w bm mv fuel y k er B :=
  have hr' := fun r e => (hr r e).2
  ⟨grown_blk hg hr' h.f, grown_blk hg hr' h.y, grown_blk hg hr' h.k, grown_blk hg hr' h.e, grown_blk hg hr' h.m, h.b.grown hg h.b.size (fun k e => (hr k e).1)⟩

theorem RunC.put {w W : World} {bm : Nat} {mv : Value} {fuel : Int} {y0 : ByteArray} {k0 e0 : Int} (h : RunC w bm mv fuel y0 k0 e0 W) (hbm : w.heap.size + 1 + 1 + 1 < bm) (y : ByteArray) (k er : Int) :
    KeepsOthers W (((W.setCell ⟨w.heap.size + 1, 0, none⟩ (.string y)).setCell ⟨w.heap.size + 1 + 1, 0, none⟩ (.int .i64 k)).setCell ⟨w.heap.size + 1 + 1 + 1, 0, none⟩ (.int .i64 er)) ∧
    RunC w bm mv fuel y k er (((W.setCell ⟨w.heap.size + 1, 0, none⟩ (.string y)).setCell ⟨w.heap.size + 1 + 1, 0, none⟩ (.int .i64 k)).setCell ⟨w.heap.size + 1 + 1 + 1, 0, none⟩ (.int .i64 er)) := by
  refine ⟨((KeepsOthers.setCell _ _ _).trans (KeepsOthers.setCell _ _ _)).trans (KeepsOthers.setCell _ _ _), ?_⟩
  have e1 : ∀ (V : World) (b : Nat) (o : Obj) (c : Nat) (u : Value), b ≠ c → V.heap[b]? = some o → (V.setCell ⟨c, 0, none⟩ u).heap[b]? = some o := fun V b o c u hne h => (Below.heap_setCell _ _ _ _ (by show b ≠ c; exact hne)).trans h
  refine ⟨e1 _ _ _ _ _ (by omega) (e1 _ _ _ _ _ (by omega) (e1 _ _ _ _ _ (by omega) h.f)), e1 _ _ _ _ _ (by omega) (e1 _ _ _ _ _ (by omega) ?_), e1 _ _ _ _ _ (by omega) ?_, ?_, e1 _ _ _ _ _ (by omega) (e1 _ _ _ _ _ (by omega) (e1 _ _ _ _ _ (by omega) h.m)), ?_⟩
  · exact set_blk h.y 0 _
  · exact set_blk (e1 _ _ _ _ _ (by omega) h.k) 0 _
  · exact set_blk (e1 _ _ _ _ _ (by omega) (e1 _ _ _ _ _ (by omega) h.e)) 0 _
  · exact ((h.b.setCell (p := ⟨w.heap.size + 1, 0, none⟩) (by show w.heap.size ≤ w.heap.size + 1; omega) _).setCell (p := ⟨w.heap.size + 1 + 1, 0, none⟩) (by show w.heap.size ≤ w.heap.size + 1 + 1; omega) _).setCell (p := ⟨w.heap.size + 1 + 1 + 1, 0, none⟩) (by show w.heap.size ≤ w.heap.size + 1 + 1 + 1; omega) _
theorem RunC.below {w : World} {bm : Nat} {mv : Value} {fuel : Int} {y : ByteArray} {k er : Int} {A B : World} (h : RunC w bm mv fuel y k er A) (hE : Below A.heap.size A B) : RunC w bm mv fuel y k er B := by
  have q : ∀ (b : Nat) (o : Obj), A.heap[b]? = some o → B.heap[b]? = some o := fun b o ho => below_blk hE ho (Array.getElem?_eq_some_iff.1 ho).1
  exact ⟨q _ _ h.f, q _ _ h.y, q _ _ h.k, q _ _ h.e, q _ _ h.m, h.b.trans (hE.mono h.b.size)⟩
theorem below_keeps {A B : World} (h : Below A.heap.size A B) : KeepsOthers A B := ⟨h.size, fun k o hk _ => below_blk h hk (Array.getElem?_eq_some_iff.1 hk).1⟩

/-- Run's variables, before it begins. -/
def RunB0 (w : World) (fuel : Int) (W : World) : Prop :=
  W.heap[w.heap.size]? = some (.cells #[.int .i64 fuel] 3 (0, 0)) ∧ W.heap[w.heap.size + 1]? = some (.cells #[.string ⟨#[]⟩] 9 (0, 0)) ∧ W.heap[w.heap.size + 1 + 1]? = some (.cells #[.int .i64 0] 3 (0, 0)) ∧
  W.heap[w.heap.size + 1 + 1 + 1]? = some (.cells #[.int .i64 0] 26 (0, 0)) ∧ Below w.heap.size w W ∧ W.heap.size = w.heap.size + 1 + 1 + 1 + 1
theorem run_boxes (w : World) (fuel : Int) : RunB0 w fuel ((((w.alloc (.cells #[.int .i64 fuel] 3)).alloc (.cells #[.string ⟨#[]⟩] 9)).alloc (.cells #[.int .i64 0] 3)).alloc (.cells #[.int .i64 0] 26)) := by
  have x0 := heap_alloc_new w (.cells #[.int .i64 fuel] 3)
  have x1 := heap_alloc_new (w.alloc (.cells #[.int .i64 fuel] 3)) (.cells #[.string ⟨#[]⟩] 9)
  have x2 := heap_alloc_new ((w.alloc (.cells #[.int .i64 fuel] 3)).alloc (.cells #[.string ⟨#[]⟩] 9)) (.cells #[.int .i64 0] 3)
  have x3 := heap_alloc_new (((w.alloc (.cells #[.int .i64 fuel] 3)).alloc (.cells #[.string ⟨#[]⟩] 9)).alloc (.cells #[.int .i64 0] 3)) (.cells #[.int .i64 0] 26)
  have y0 := (Below.heap_alloc _ (.cells #[.int .i64 0] 26) _ (by simp only [World.size_alloc]; omega)).trans ((Below.heap_alloc _ (.cells #[.int .i64 0] 3) _ (by simp only [World.size_alloc]; omega)).trans ((Below.heap_alloc _ (.cells #[.string ⟨#[]⟩] 9) _ (by simp)).trans x0))
  have y1 := (Below.heap_alloc _ (.cells #[.int .i64 0] 26) _ (by simp only [World.size_alloc]; omega)).trans ((Below.heap_alloc _ (.cells #[.int .i64 0] 3) _ (by simp)).trans x1)
  have y2 := (Below.heap_alloc _ (.cells #[.int .i64 0] 26) _ (by simp)).trans x2
  simp only [World.size_alloc] at y0 y1 y2 x3
  exact ⟨y0, y1, y2, x3, ((((Below.refl _ w).alloc (Nat.le_refl _) _).alloc (by simp) _).alloc (by simp; omega) _).alloc (by simp; omega) _, by simp⟩
theorem RunB0.below {w W W1 : World} {fuel : Int} (h : RunB0 w fuel W) (hb : Below W.heap.size W W1) :
    W1.heap[w.heap.size]? = some (.cells #[.int .i64 fuel] 3 (0, 0)) ∧ W1.heap[w.heap.size + 1]? = some (.cells #[.string ⟨#[]⟩] 9 (0, 0)) ∧ W1.heap[w.heap.size + 1 + 1]? = some (.cells #[.int .i64 0] 3 (0, 0)) ∧
    W1.heap[w.heap.size + 1 + 1 + 1]? = some (.cells #[.int .i64 0] 26 (0, 0)) ∧ Below w.heap.size w W1 ∧ w.heap.size + 1 + 1 + 1 < W1.heap.size := by
  obtain ⟨y0, y1, y2, y3, hb0, hs⟩ := h
  exact ⟨below_blk hb y0 (by omega), below_blk hb y1 (by omega), below_blk hb y2 (by omega), below_blk hb y3 (by omega), hb0.trans (hb.mono (by omega)), by have := hb.size; omega⟩
theorem RunB0.start {w W w1 : World} {fuel : Int} (h : RunB0 w fuel W) (hb1 : Below W.heap.size W w1) (_ : w.heap.size + 1 + 1 + 1 < w1.heap.size) (mv : Value) :
    RunC w w1.heap.size mv fuel ⟨#[]⟩ 0 0 ((w1.alloc (.cells #[mv] 94)).alloc (.cells #[mv] 94)) := by
  obtain ⟨y0, y1, y2, y3, hb0, hs⟩ := h.below hb1
  have hb2 : Below w1.heap.size w1 ((w1.alloc (.cells #[mv] 94)).alloc (.cells #[mv] 94)) := ((Below.refl _ _).alloc (Nat.le_refl _) _).alloc (by simp) _
  exact ⟨below_blk hb2 y0 (by omega), below_blk hb2 y1 (by omega), below_blk hb2 y2 (by omega), below_blk hb2 y3 (by omega), (Below.heap_alloc _ _ _ (by simp)).trans (heap_alloc_new w1 _), hb0.trans (hb2.mono (by omega))⟩
theorem RunB0.start1 {w W w1 : World} {fuel : Int} (h : RunB0 w fuel W) (hb1 : Below W.heap.size W w1) (mv : Value) :
    RunC w w1.heap.size mv fuel ⟨#[]⟩ 0 0 (w1.alloc (.cells #[mv] 94)) := by
  obtain ⟨y0, y1, y2, y3, hb0, hs⟩ := h.below hb1
  have hb2 : Below w1.heap.size w1 (w1.alloc (.cells #[mv] 94)) := (Below.refl _ _).alloc (Nat.le_refl _) _
  exact ⟨below_blk hb2 y0 (by omega), below_blk hb2 y1 (by omega), below_blk hb2 y2 (by omega), below_blk hb2 y3 (by omega), heap_alloc_new w1 _, hb0.trans (hb2.mono (by omega))⟩

theorem AtK.grown {l : List Ins} {s0 : St} {B g mb : Nat} {pv sv : Value} {w : World} {bm : Nat} {mv : Value} {fuel : Int} {y : ByteArray} {k' er : Int} {k : Nat} {W W' : World} {row : Option Nat} (h : AtK l s0 B g mb pv sv (RunC w bm mv fuel y k' er) k W) (hg : W.grownBy W' row) (hr : ∀ r, row = some r → w.heap.size ≤ r ∧ ∃ o : Obj, W.heap[r]? = some o ∧ o.isCells = false) : AtK l s0 B g mb pv sv (RunC w bm mv fuel y k' er) k W' := by
  obtain ⟨h1, ⟨ps, h2⟩, h3, h4⟩ := h
  exact ⟨h1, ⟨ps, h2.grown hg (fun r e => (hr r e).2)⟩, cell_kept h3 hg (fun r e => (hr r e).2), h4.grown hg hr⟩

set_option maxRecDepth 100000 in
set_option maxHeartbeats 2000000 in
theorem run_ok (v : Value) (l : List Ins) (t : Tr) (ht : t.size ≤ 2000000) (fuel : Nat) (hk1 : fuel ≤ 10000000) (w : World) (hl : InsRow w w.heap.size v l) (hv : validB l = true) (y : ByteArray) (k : Nat) (er : Int) (hres : (goF l fuel 0 (startS t)).run = (y, k, er)) :
    Calls Try.prog 32 #[v, .string (TS t), .int .i64 fuel] w (RunOut w y k er) := by
  have kb := fun w' (h : InsRow w' w'.heap.size v l) => begin_ok v l t ht fuel w' h hv (by omega) (by omega)
  have HG := Lib.hid (Good.start l.length t ht)
  have HV := Lib.hid (validB_all hv)
  have hn4 := validB_len hv
  have HR := Lib.hid hres
  have hl0 := hl
  obtain ⟨ao, cap, rfl⟩ := hl.len
  have hb0 : Below w.heap.size w ((((w.alloc (.cells #[.int .i64 fuel] 3)).alloc (.cells #[.string ⟨#[]⟩] 9)).alloc (.cells #[.int .i64 0] 3)).alloc (.cells #[.int .i64 0] 26)) :=
    ((((Below.refl _ w).alloc (Nat.le_refl _) _).alloc (by simp) _).alloc (by simp; omega) _).alloc (by simp; omega) _
  have kb0 := kb _ ((hl0.below hb0).mono hb0.size)
  obtain ⟨S, hS⟩ : ∃ S, TS t = S := ⟨_, rfl⟩
  rw [hS] at kb0 ⊢
  clear hv hres kb hS hl hl0
  refine (callsIn_wide (n := 5)).1 ?_
  refine callsIn_of_wp_marks Try.func32 rfl trivial ?_ rfl
  simp only [Try.ntmps32, List.size_toArray, List.length_cons, List.length_nil, Nat.reduceAdd, Nat.reduceSub, Array.replicate_succ, Array.replicate_zero, List.push_toArray, List.append_toArray, List.nil_append, List.cons_append]
  gi_wp2_with fail
  refine ⟨trivial, (callsIn_wide.2 kb0).mono ?_⟩
  rintro e w1 ⟨B, g, sv, ps, rfl, hm, hB, hb1⟩
  have hBs : w.heap.size + 1 + 1 + 1 < B := by simp at hB; omega
  have hble := hm.le
  have hglt := hm.lt
  have HM := Lib.hid hm
  clear kb0 hm
  gi_wp2_with fail
  refine ⟨trivial, (callsIn_wide.2 (states_any _ _)).mono ?_⟩
  rintro e w2 ⟨rfl, rfl⟩
  have hb2 : Below w1.heap.size w1 ((w1.alloc (.cells #[.pointer (some ⟨g, 0, none⟩)] 94)).alloc (.cells #[.pointer (some ⟨g, 0, none⟩)] 94)) := ((Below.refl _ _).alloc (Nat.le_refl _) _).alloc (by simp) _
  have hws : w.heap.size + 1 + 1 + 1 < w1.heap.size := by have := hb1.size; simp at this; omega
  have hbw : Below w.heap.size w w1 := hb0.trans (hb1.mono (by simp; omega))
  have hC0 := (run_boxes w fuel).start hb1 hws (.pointer (some ⟨g, 0, none⟩))
  have hA0 : AtK l (startS t) B g (w1.heap.size + 1) (.slice ao l.length cap) sv (RunC w w1.heap.size (.pointer (some ⟨g, 0, none⟩)) fuel ⟨#[]⟩ 0 0) 0 ((w1.alloc (.cells #[.pointer (some ⟨g, 0, none⟩)] 94)).alloc (.cells #[.pointer (some ⟨g, 0, none⟩)] 94)) := by
    refine ⟨Reach.zero _ _, ⟨ps, HM.out.kept hb2⟩, ?_, hC0⟩
    have := heap_alloc_new (w1.alloc (.cells #[.pointer (some ⟨g, 0, none⟩)] 94)) (.cells #[.pointer (some ⟨g, 0, none⟩)] 94)
    rw [World.size_alloc] at this
    exact (block_cells this).1 0
  have HA0 := Lib.hid hA0
  have HB2 := Lib.hid hb2
  clear hA0 hC0 hb2 hb1 hb0
  gi_wp2_with fail
  refine wpIn_rangeFunc_ends (α := Nat × Bool) rfl (by decide) (gf := 115) (lb := #[.pointer (some ⟨w1.heap.size + 1, 0, none⟩)]) rfl trivial (enters_of Try.func115 (by kernel_rfl) rfl)
    (AtK l (startS t) B g (w1.heap.size + 1) (.slice ao l.length cap) sv (RunC w w1.heap.size (.pointer (some ⟨g, 0, none⟩)) fuel ⟨#[]⟩ 0 0) 0)
    (RI fuel l (startS t) B g (w1.heap.size + 1) (.slice ao l.length cap) sv (RunC w w1.heap.size (.pointer (some ⟨g, 0, none⟩)) fuel ⟨#[]⟩ 0 0))
    (RI' fuel l (startS t) B g (w1.heap.size + 1) (.slice ao l.length cap) sv (RunC w w1.heap.size (.pointer (some ⟨g, 0, none⟩)) fuel ⟨#[]⟩ 0 0))
    (fun c W => c = .ret ∧ RunC w w1.heap.size (.pointer (some ⟨g, 0, none⟩)) fuel y k er W)
    (states1_ends _ fuel hk1 l (startS t) B g (w1.heap.size + 1) (by omega) _ sv _ (fun A B h hc => hc.els h (by omega) (by omega)) HG.out HV.out hn4) (fun _ => rfl)
    (fun _ A B row h hg hr => h.grown hg (fun r e => ⟨by have := (hr r e).1; simp at this; omega, (hr r e).2⟩))
    (fun x A B row h hg hr => ⟨h.1, h.2.1.grown hg (fun r e => ⟨by have := (hr r e).1; simp at this; omega, (hr r e).2⟩), h.2.2⟩)
    (fun x A B row h hg hr => ⟨h.1, h.2.1, h.2.2.1, h.2.2.2.grown hg (fun r e => ⟨by have := (hr r e).1; simp at this; omega, (hr r e).2⟩)⟩)
    (fun c _ A B row h hg hr => ⟨h.1, h.2.grown hg (fun r e => ⟨by have := (hr r e).1; simp at this; omega, (hr r e).2⟩)⟩)
    HA0.out
    (fun x => { tmps := #[.slice ao l.length cap, .string S, .int .i64 fuel, undef, undef, .pointer (some ⟨w.heap.size, 0, none⟩), .pointer (some ⟨w.heap.size + 1, 0, none⟩), .pointer (some ⟨w.heap.size + 1 + 1, 0, none⟩), .pointer (some ⟨w.heap.size + 1 + 1 + 1, 0, none⟩), .pointer (some ⟨w1.heap.size, 0, none⟩), .int .i64 0, .int .i64 x.1, .bool x.2,
      .tuple #[.pointer (some ⟨g, 0, none⟩), .int .i64 0], .slice ao l.length cap, .string S, .int .i64 fuel, .tuple #[.pointer (some ⟨g, 0, none⟩), .int .i64 0], .pointer (some ⟨g, 0, none⟩), .int .i64 0, .int .i64 0, .bool false, undef, .pointer (some ⟨g, 0, none⟩), .func (.func 115) #[] #[.pointer (some ⟨w1.heap.size + 1, 0, none⟩)],
      .int .i64 x.1, .bool x.2, undef, undef, undef, undef, undef, undef, undef, undef, undef, undef, undef, undef, undef, undef, undef, undef], defers := [] }) ?assign ?body ?stop
  case assign =>
    intro lr x W K hK
    gi_wp2
    exact hK
  case stop =>
    rintro D c W hD ⟨rfl, hc⟩ hK
    have hc' := hc.grown (grownBy_putObj' W D (.deferred none)) (fun r e => by cases e; exact ⟨by simp at hD; omega, _, hK, rfl⟩)
    have q1 := (block_cells hc'.y).1 0
    have q2 := (block_cells hc'.k).1 0
    have q3 := (block_cells hc'.e).1 0
    simp only [List.getElem?_toArray, List.getElem?_cons_zero] at q1 q2 q3
    gi_wp2
    refine ⟨by simp, .inl ⟨_, _, rfl, run_takeDeferred hK, ?_⟩⟩
    refine ⟨.tuple #[.string y, .int .i64 k, .int .i64 er], ?_, rfl, hc'.b⟩
    simp [results, Try.f32, go_sem, q1, q2, q3]
  case body =>
    rintro lr ⟨k1, b⟩ W hI
    obtain ⟨hk1', ⟨hre, ⟨ps1, hm1⟩, hmb, hC⟩, hbig⟩ := hI
    dsimp only at hk1' hre hm1 hbig
    have c0 := (block_cells hC.f).1 0
    have c1 := (block_cells hC.y).1 0
    have c2 := (block_cells hC.k).1 0
    have c3 := (block_cells hC.e).1 0
    have c4 := (block_cells hC.m).1 0
    have f1 := (block_cells hC.y).2 0
    have f2 := (block_cells hC.k).2 0
    have f3 := (block_cells hC.e).2 0
    simp only [List.getElem?_toArray, List.getElem?_cons_zero] at c0 c1 c2 c3 c4
    have hgk := hre.good HV.out HG.out
    have HRE := Lib.hid hre
    have HC := Lib.hid hC
    have HBIG := Lib.hid hbig
    clear hre hC hbig
    cases b with
    | true =>
      have hfin : Hid (y = ⟨#[]⟩ ∧ k = 0 ∧ er = 3) := by
        obtain ⟨h1, h2, h3⟩ := HBIG.out rfl
        have hr := HR.out
        rw [HRE.out.goF fuel hk1', show fuel - k1 = (fuel - k1 - 1) + 1 by omega, goF_big h2 h3] at hr
        simp only [Res.run, Prod.mk.injEq] at hr
        exact ⟨hr.1.symm, hr.2.1.symm, hr.2.2.symm⟩
      clear hm1 hgk
      obtain ⟨rfl, rfl, rfl⟩ := hfin.out
      gi_wp2
      obtain ⟨z1, z2⟩ := HC.out.put hws ⟨#[]⟩ 0 3
      exact ⟨z1, rfl, z2⟩
    | false =>
      cases hp : ((stN l (startS t) k1).pos : Int) == (l.length : Int) with
      | true =>
        have ke := ended_at _ W B g l _ _ sv ps1 hm1 hgk hp
        have hpos : (stN l (startS t) k1).pos = l.length := by have := eq_of_beq hp; omega
        obtain ⟨tr, htr⟩ : ∃ tr, (stN l (startS t) k1).regs[0]? = some tr := ⟨_, List.getElem?_eq_getElem (by rw [hgk.2.1]; omega)⟩
        have hfin : Hid (y = TS tr ∧ k = k1 ∧ er = 0) := by
          have hr := HR.out
          rw [HRE.out.goF fuel hk1', goF_done hpos] at hr
          simp only [Res.run, Prod.mk.injEq, getR_nat (r := 0) htr] at hr
          exact ⟨by rw [← hr.1]; exact (congrArg TS (getR_nat (r := 0) htr)), hr.2.1.symm, hr.2.2.symm⟩
        obtain ⟨rfl, rfl, rfl⟩ := hfin.out
        obtain ⟨_, _, _, hrg, _⟩ := hm1.cells hgk.2.1
        obtain ⟨q, cq, nq⟩ := hrg 0 tr htr
        have hts := hgk.2.2 tr (List.mem_of_getElem? htr)
        have HQ := Lib.hid nq
        have kt : ∀ w', Below W.heap.size W w' → Calls Try.prog 85 #[.pointer q] w' fun e w'' => e = .returned (.string (TS tr)) ∧ Below W.heap.size W w'' := fun w' hb' =>
          (nodeText_any tr _ w' (HQ.out.kept (Kept.below hb')) hts).mono fun e w'' h => ⟨h.1, hb'.trans (h.2.mono hb'.size)⟩
        have hgl := hm1.lt
        clear hp hpos hrg hm1 hgk nq
        gi_wp2_with fail
        refine ⟨trivial, CallsIn.inRound lr ((callsIn_wide.2 ke).mono ?_)⟩
        rintro e W1 ⟨rfl, hb1⟩
        have HC1 := Lib.hid (HC.out.below hb1)
        have c0 := (block_cells HC1.out.f).1 0
        have c1 := (block_cells HC1.out.y).1 0
        have c2 := (block_cells HC1.out.k).1 0
        have c3 := (block_cells HC1.out.e).1 0
        have c4 := (block_cells HC1.out.m).1 0
        have f1 := (block_cells HC1.out.y).2 0
        have f2 := (block_cells HC1.out.k).2 0
        have f3 := (block_cells HC1.out.e).2 0
        simp only [List.getElem?_toArray, List.getElem?_cons_zero] at c0 c1 c2 c3 c4
        have cq1 := (hb1.cell (p := ⟨g, 2 + 0, none⟩) hgl).trans cq
        have kt1 := kt _ hb1
        clear kt ke cq
        gi_wp2_with fail
        refine ⟨trivial, CallsIn.inRound lr ((callsIn_wide.2 kt1).mono ?_)⟩
        rintro e W2 ⟨rfl, hb2⟩
        have HC2 := Lib.hid (HC.out.below hb2)
        have c0 := (block_cells HC2.out.f).1 0
        have c1 := (block_cells HC2.out.y).1 0
        have c2 := (block_cells HC2.out.k).1 0
        have c3 := (block_cells HC2.out.e).1 0
        have f1 := (block_cells HC2.out.y).2 0
        have f2 := (block_cells HC2.out.k).2 0
        have f3 := (block_cells HC2.out.e).2 0
        simp only [List.getElem?_toArray, List.getElem?_cons_zero] at c0 c1 c2 c3
        have HKO := Lib.hid (below_keeps hb2)
        obtain ⟨Y, hY⟩ : ∃ Y, TS tr = Y := ⟨_, rfl⟩
        rw [hY]
        have HY := Lib.hid hY
        clear hY kt1 c4 hb1 hb2 cq1
        gi_wp2
        obtain ⟨z1, z2⟩ := HC2.out.put hws Y k 0
        exact ⟨HKO.out.trans z1, rfl, by rw [HY.out]; exact z2⟩
      | false =>
        have ke := ended_at _ W B g l _ _ sv ps1 hm1 hgk hp
        have hpos : (stN l (startS t) k1).pos ≠ l.length := by
          intro h
          rw [h] at hp
          simp at hp
        have HP := Lib.hid hpos
        have HM1 := Lib.hid hm1
        by_cases hkf : k1 = fuel
        · have hfin : Hid (y = ⟨#[]⟩ ∧ k = 0 ∧ er = 7) := by
            have hr := HR.out
            rw [HRE.out.goF fuel hk1', hkf, Nat.sub_self, goF_zero (by rw [← hkf]; exact HP.out)] at hr
            simp only [Res.run, Prod.mk.injEq] at hr
            exact ⟨hr.1.symm, hr.2.1.symm, hr.2.2.symm⟩
          obtain ⟨rfl, rfl, rfl⟩ := hfin.out
          have hkk : ((k1 : Int) == (fuel : Int)) = true := by rw [hkf]; simp
          clear hp hpos hgk hm1 hkf
          gi_wp2_with fail
          refine ⟨trivial, CallsIn.inRound lr ((callsIn_wide.2 ke).mono ?_)⟩
          rintro e W1 ⟨rfl, hb1⟩
          have HC1 := Lib.hid (HC.out.below hb1)
          have HKO := Lib.hid (below_keeps hb1)
          have c0 := (block_cells HC1.out.f).1 0
          have c1 := (block_cells HC1.out.y).1 0
          have c2 := (block_cells HC1.out.k).1 0
          have c3 := (block_cells HC1.out.e).1 0
          have f1 := (block_cells HC1.out.y).2 0
          have f2 := (block_cells HC1.out.k).2 0
          have f3 := (block_cells HC1.out.e).2 0
          simp only [List.getElem?_toArray, List.getElem?_cons_zero] at c0 c1 c2 c3
          clear ke hb1
          gi_wp2
          obtain ⟨z1, z2⟩ := HC1.out.put hws ⟨#[]⟩ 0 7
          exact ⟨HKO.out.trans z1, rfl, z2⟩
        · have hkk : ((k1 : Int) == (fuel : Int)) = false := by rw [beq_eq_false_iff_ne]; omega
          have hlt : k1 < fuel := by omega
          clear hp hpos hgk hm1 hkf
          gi_wp2_with fail
          refine ⟨trivial, CallsIn.inRound lr ((callsIn_wide.2 ke).mono ?_)⟩
          rintro e W1 ⟨rfl, hb1⟩
          have HC1 := Lib.hid (HC.out.below hb1)
          have HKO := Lib.hid (below_keeps hb1)
          have HB1 := Lib.hid hb1
          have HMB := Lib.hid hmb
          have c0 := (block_cells HC1.out.f).1 0
          simp only [List.getElem?_toArray, List.getElem?_cons_zero] at c0
          clear ke hb1 hmb
          gi_wp2
          refine ⟨HKO.out, hlt, rfl, HP.out, HRE.out, ⟨ps1, HM1.out.kept HB1.out⟩, ?_, HC1.out⟩
          have : w1.heap.size + 1 < W.heap.size := by
            obtain ⟨o, ho, _⟩ := cells_of_cell HMB.out
            exact (Array.getElem?_eq_some_iff.1 ho).1
          exact (HB1.out.cell (p := ⟨w1.heap.size + 1, 0, none⟩) this).trans HMB.out

set_option maxHeartbeats 1000000 in
theorem run_bad (v : Value) (l : List Ins) (s : ByteArray) (fuel : Int) (w : World) (er : Int) (hl : InsRow w w.heap.size v l) (her : er = 1 ∨ er = 2)
    (kb : ∀ w', InsRow w' w'.heap.size v l → Calls Try.prog 82 #[v, .string s, .int .i64 fuel] w' fun e w'' => e = .returned (.tuple #[.pointer none, .int .i64 er]) ∧ Below w'.heap.size w' w'') :
    Calls Try.prog 32 #[v, .string s, .int .i64 fuel] w (RunOut w ⟨#[]⟩ 0 er) := by
  have hl0 := hl
  obtain ⟨ao, cap, rfl⟩ := hl.len
  have hb0 : Below w.heap.size w ((((w.alloc (.cells #[.int .i64 fuel] 3)).alloc (.cells #[.string ⟨#[]⟩] 9)).alloc (.cells #[.int .i64 0] 3)).alloc (.cells #[.int .i64 0] 26)) :=
    ((((Below.refl _ w).alloc (Nat.le_refl _) _).alloc (by simp) _).alloc (by simp; omega) _).alloc (by simp; omega) _
  have kb0 := kb _ ((hl0.below hb0).mono hb0.size)
  clear kb hl hl0
  have hne : (er != 0) = true := by rw [bne_iff_ne]; omega
  clear her
  go_enter Try.func32, Try.ntmps32
  go_wp2_with fail
  refine kb0.mono ?_
  rintro e w1 ⟨rfl, hb1⟩
  have hws : w.heap.size + 1 + 1 + 1 < w1.heap.size := by have := hb1.size; simp at this; omega
  have HC := Lib.hid ((run_boxes w fuel).start1 hb1 (.pointer none))
  have c0 := (block_cells HC.out.f).1 0
  have c1 := (block_cells HC.out.y).1 0
  have c2 := (block_cells HC.out.k).1 0
  have c3 := (block_cells HC.out.e).1 0
  have f1 := (block_cells HC.out.y).2 0
  have f2 := (block_cells HC.out.k).2 0
  have f3 := (block_cells HC.out.e).2 0
  simp only [List.getElem?_toArray, List.getElem?_cons_zero] at c0 c1 c2 c3
  clear kb0 hb1 hb0
  go_wp2
  obtain ⟨z1, z2⟩ := HC.out.put hws ⟨#[]⟩ 0 er
  have q1 := (block_cells z2.y).1 0
  have q2 := (block_cells z2.k).1 0
  have q3 := (block_cells z2.e).1 0
  simp only [List.getElem?_toArray, List.getElem?_cons_zero] at q1 q2 q3
  refine bodyPost_ret (v := .tuple #[.string ⟨#[]⟩, .int .i64 0, .int .i64 er]) (by simp [results, Try.results32, go_sem, q1, q2, q3]) rfl ?_
  exact ⟨rfl, z2.b⟩

end Go.Proofs.Ytaiomcjopgnfpaa

/- The walk of run.After. -/
import Derived.Test.YtieocihlkpipmaaRunR
namespace Go.Proofs.Ytieocihlkpipmaa
open Go.RowKit Go.Shelf
attribute [local go_sem] Oper.semAt_some

/-- What After hands back. -/
def Res.after : Res → Int × List ByteArray × Nat × Int
  | .done s n => (s.pos, s.regs.map TS, n, 0)
  | .fuel s n => (s.pos, s.regs.map TS, n, 0)
  | .big => (0, [], 0, 3)
def AftOut (w : World) (n : Int) (L : List ByteArray) (k : Nat) (er : Int) (e : Ending) (w' : World) : Prop := ∃ v, e = .returned (.tuple #[.agg #[.int .i64 n, v], .int .i64 k, .int .i64 er]) ∧ StrRow w' w'.heap.size v L ∧ Below w.heap.size w w'

/-- What After's own variables hold. -/
structure AftC (w : World) (bm : Nat) (mv : Value) (fuel : Int) (n : Int) (u : Value) (k er : Int) (W : World) : Prop where
  f : W.heap[w.heap.size]? = some (.cells #[.int .i64 fuel] 3 (0, 0))
  y : W.heap[w.heap.size + 1]? = some (.cells #[.int .i64 n, u] 53 (0, 0))
  k : W.heap[w.heap.size + 1 + 1]? = some (.cells #[.int .i64 k] 3 (0, 0))
  e : W.heap[w.heap.size + 1 + 1 + 1]? = some (.cells #[.int .i64 er] 25 (0, 0))
  m : W.heap[bm]? = some (.cells #[mv] 91 (0, 0))
  b : Below w.heap.size w W
theorem AftC.els {w : World} {bm : Nat} {mv : Value} {fuel : Int} {n : Int} {u : Value} {k er : Int} {A B : World} (h : AftC w bm mv fuel n u k er A) {g : Nat} (hE : Els g A B) (hg : w.heap.size + 1 + 1 + 1 < g) (hm : bm ≠ g) : AftC w bm mv fuel n u k er B :=
  ⟨els_blk hE (by omega) h.f, els_blk hE (by omega) h.y, els_blk hE (by omega) h.k, els_blk hE (by omega) h.e, els_blk hE hm h.m, h.b.trans (hE.below (by omega) h.b.size)⟩
theorem AftC.grown {w : World} {bm : Nat} {mv : Value} {fuel : Int} {n : Int} {u : Value} {k er : Int} {A B : World} {row : Option Nat} (h : AftC w bm mv fuel n u k er A) (hg : A.grownBy B row) (hr : ∀ r, row = some r → w.heap.size ≤ r ∧ ∃ o : Obj, A.heap[r]? = some o ∧ o.isCells = false) : AftC w bm mv fuel n u k er B :=
  have hr' := fun r e => (hr r e).2
  ⟨grown_blk hg hr' h.f, grown_blk hg hr' h.y, grown_blk hg hr' h.k, grown_blk hg hr' h.e, grown_blk hg hr' h.m, h.b.grown hg h.b.size (fun k e => (hr k e).1)⟩

theorem AftC.put {w W : World} {bm : Nat} {mv : Value} {fuel : Int} {n0 : Int} {u0 : Value} {k0 e0 : Int} (h : AftC w bm mv fuel n0 u0 k0 e0 W) (hbm : w.heap.size + 1 + 1 + 1 < bm) (n : Int) (u : Value) (k er : Int) :
    KeepsOthers W ((((W.setCell ⟨w.heap.size + 1, 0, none⟩ (.int .i64 n)).setCell ⟨w.heap.size + 1, 1, none⟩ u).setCell ⟨w.heap.size + 1 + 1, 0, none⟩ (.int .i64 k)).setCell ⟨w.heap.size + 1 + 1 + 1, 0, none⟩ (.int .i64 er)) ∧
    AftC w bm mv fuel n u k er ((((W.setCell ⟨w.heap.size + 1, 0, none⟩ (.int .i64 n)).setCell ⟨w.heap.size + 1, 1, none⟩ u).setCell ⟨w.heap.size + 1 + 1, 0, none⟩ (.int .i64 k)).setCell ⟨w.heap.size + 1 + 1 + 1, 0, none⟩ (.int .i64 er)) := by
  refine ⟨(((KeepsOthers.setCell _ _ _).trans (KeepsOthers.setCell _ _ _)).trans (KeepsOthers.setCell _ _ _)).trans (KeepsOthers.setCell _ _ _), ?_⟩
  have e1 : ∀ (V : World) (b : Nat) (o : Obj) (c j : Nat) (u : Value), b ≠ c → V.heap[b]? = some o → (V.setCell ⟨c, j, none⟩ u).heap[b]? = some o := fun V b o c j u hne h => (Below.heap_setCell _ _ _ _ (by show b ≠ c; exact hne)).trans h
  refine ⟨e1 _ _ _ _ _ _ (by omega) (e1 _ _ _ _ _ _ (by omega) (e1 _ _ _ _ _ _ (by omega) (e1 _ _ _ _ _ _ (by omega) h.f))), e1 _ _ _ _ _ _ (by omega) (e1 _ _ _ _ _ _ (by omega) ?_), e1 _ _ _ _ _ _ (by omega) ?_, ?_, e1 _ _ _ _ _ _ (by omega) (e1 _ _ _ _ _ _ (by omega) (e1 _ _ _ _ _ _ (by omega) (e1 _ _ _ _ _ _ (by omega) h.m))), ?_⟩
  · exact set_blk (set_blk h.y 0 _) 1 _
  · exact set_blk (e1 _ _ _ _ _ _ (by omega) (e1 _ _ _ _ _ _ (by omega) h.k)) 0 _
  · exact set_blk (e1 _ _ _ _ _ _ (by omega) (e1 _ _ _ _ _ _ (by omega) (e1 _ _ _ _ _ _ (by omega) h.e))) 0 _
  · exact (((h.b.setCell (p := ⟨w.heap.size + 1, 0, none⟩) (by show w.heap.size ≤ w.heap.size + 1; omega) _).setCell (p := ⟨w.heap.size + 1, 1, none⟩) (by show w.heap.size ≤ w.heap.size + 1; omega) _).setCell (p := ⟨w.heap.size + 1 + 1, 0, none⟩) (by show w.heap.size ≤ w.heap.size + 1 + 1; omega) _).setCell (p := ⟨w.heap.size + 1 + 1 + 1, 0, none⟩) (by show w.heap.size ≤ w.heap.size + 1 + 1 + 1; omega) _
/-- The row of the registers stands while the results are stored. -/
theorem AftC.putRow {w W : World} {bm : Nat} {mv : Value} {fuel : Int} {n0 : Int} {u0 : Value} {k0 e0 : Int} (h : AftC w bm mv fuel n0 u0 k0 e0 W) (hu0 : ∀ s, u0 ≠ .string s) (n : Int) (v u : Value) (hv : ∀ s, v ≠ .string s) (k er : Int) {L : List ByteArray} (hr : StrRow W W.heap.size u L) :
    StrRow ((((W.setCell ⟨w.heap.size + 1, 0, none⟩ (.int .i64 n)).setCell ⟨w.heap.size + 1, 1, none⟩ v).setCell ⟨w.heap.size + 1 + 1, 0, none⟩ (.int .i64 k)).setCell ⟨w.heap.size + 1 + 1 + 1, 0, none⟩ (.int .i64 er))
      ((((W.setCell ⟨w.heap.size + 1, 0, none⟩ (.int .i64 n)).setCell ⟨w.heap.size + 1, 1, none⟩ v).setCell ⟨w.heap.size + 1 + 1, 0, none⟩ (.int .i64 k)).setCell ⟨w.heap.size + 1 + 1 + 1, 0, none⟩ (.int .i64 er)).heap.size u L := by
  have hs : ((((W.setCell ⟨w.heap.size + 1, 0, none⟩ (.int .i64 n)).setCell ⟨w.heap.size + 1, 1, none⟩ v).setCell ⟨w.heap.size + 1 + 1, 0, none⟩ (.int .i64 k)).setCell ⟨w.heap.size + 1 + 1 + 1, 0, none⟩ (.int .i64 er)).heap.size = W.heap.size := by simp [World.setCell]
  rw [hs]
  have e1 : ∀ (V : World) (b : Nat) (o : Obj) (c j : Nat) (u : Value), b ≠ c → V.heap[b]? = some o → (V.setCell ⟨c, j, none⟩ u).heap[b]? = some o := fun V b o c j u hne h => (Below.heap_setCell _ _ _ _ (by show b ≠ c; exact hne)).trans h
  have two : ∀ (x y : Value), (∀ s, x ≠ .string s) → (∀ s, y ≠ .string s) → ∀ (j : Nat) (s : ByteArray), (#[x, y] : Array Value)[j]? ≠ some (.string s) := by
    intro x y hx hy j s e
    match j with
    | 0 => simp at e; exact hx s e
    | 1 => simp at e; exact hy s e
    | j + 2 => simp at e
  have one : ∀ (x : Value), (∀ s, x ≠ .string s) → ∀ (j : Nat) (s : ByteArray), (#[x] : Array Value)[j]? ≠ some (.string s) := by
    intro x hx j s e
    match j with
    | 0 => simp at e; exact hx s e
    | j + 1 => simp at e
  have b1 := set_blk h.y 0 (.int .i64 n)
  simp only [List.setIfInBounds_toArray, List.set_cons_zero] at b1
  refine (((hr.set h.y (two _ _ (by simp) hu0) 0 _).set b1 (two _ _ (by simp) hu0) 1 _).set (e1 _ _ _ _ _ _ (by omega) (e1 _ _ _ _ _ _ (by omega) h.k)) (one _ (by simp)) 0 _).set (e1 _ _ _ _ _ _ (by omega) (e1 _ _ _ _ _ _ (by omega) (e1 _ _ _ _ _ _ (by omega) h.e))) (one _ (by simp)) 0 _
theorem StrRow.grown {W W' : World} {row : Option Nat} {v : Value} {L : List ByteArray} (h : StrRow W W.heap.size v L) (hg : W.grownBy W' row) (hr : ∀ r, row = some r → ∃ o : Obj, W.heap[r]? = some o ∧ o.isCells = false) : StrRow W' W'.heap.size v L := by
  obtain ⟨h1, h2, h3⟩ := h
  refine ⟨h1, h2, ?_⟩
  rcases h3 with h3 | ⟨g, off, cap, hv, hlt, hc⟩
  · exact .inl h3
  · exact .inr ⟨g, off, cap, hv, by have := hg.size; omega, fun j s hj => cell_kept (hc j s hj) hg hr⟩
theorem AftC.below {w : World} {bm : Nat} {mv : Value} {fuel : Int} {n : Int} {u : Value} {k er : Int} {A B : World} (h : AftC w bm mv fuel n u k er A) (hE : Below A.heap.size A B) : AftC w bm mv fuel n u k er B := by
  have q : ∀ (b : Nat) (o : Obj), A.heap[b]? = some o → B.heap[b]? = some o := fun b o ho => below_blk hE ho (Array.getElem?_eq_some_iff.1 ho).1
  exact ⟨q _ _ h.f, q _ _ h.y, q _ _ h.k, q _ _ h.e, q _ _ h.m, h.b.trans (hE.mono h.b.size)⟩
/-- After's variables, before it begins. -/
def AftB0 (w : World) (fuel : Int) (W : World) : Prop :=
  W.heap[w.heap.size]? = some (.cells #[.int .i64 fuel] 3 (0, 0)) ∧ W.heap[w.heap.size + 1]? = some (.cells #[.int .i64 0, .slice none 0 0] 53 (0, 0)) ∧ W.heap[w.heap.size + 1 + 1]? = some (.cells #[.int .i64 0] 3 (0, 0)) ∧
  W.heap[w.heap.size + 1 + 1 + 1]? = some (.cells #[.int .i64 0] 25 (0, 0)) ∧ Below w.heap.size w W ∧ W.heap.size = w.heap.size + 1 + 1 + 1 + 1
theorem aft_boxes (w : World) (fuel : Int) : AftB0 w fuel ((((w.alloc (.cells #[.int .i64 fuel] 3)).alloc (.cells #[.int .i64 0, .slice none 0 0] 53)).alloc (.cells #[.int .i64 0] 3)).alloc (.cells #[.int .i64 0] 25)) := by
  have x0 := heap_alloc_new w (.cells #[.int .i64 fuel] 3)
  have x1 := heap_alloc_new (w.alloc (.cells #[.int .i64 fuel] 3)) (.cells #[.int .i64 0, .slice none 0 0] 53)
  have x2 := heap_alloc_new ((w.alloc (.cells #[.int .i64 fuel] 3)).alloc (.cells #[.int .i64 0, .slice none 0 0] 53)) (.cells #[.int .i64 0] 3)
  have x3 := heap_alloc_new (((w.alloc (.cells #[.int .i64 fuel] 3)).alloc (.cells #[.int .i64 0, .slice none 0 0] 53)).alloc (.cells #[.int .i64 0] 3)) (.cells #[.int .i64 0] 25)
  have y0 := (Below.heap_alloc _ (.cells #[.int .i64 0] 25) _ (by simp only [World.size_alloc]; omega)).trans ((Below.heap_alloc _ (.cells #[.int .i64 0] 3) _ (by simp only [World.size_alloc]; omega)).trans ((Below.heap_alloc _ (.cells #[.int .i64 0, .slice none 0 0] 53) _ (by simp)).trans x0))
  have y1 := (Below.heap_alloc _ (.cells #[.int .i64 0] 25) _ (by simp only [World.size_alloc]; omega)).trans ((Below.heap_alloc _ (.cells #[.int .i64 0] 3) _ (by simp)).trans x1)
  have y2 := (Below.heap_alloc _ (.cells #[.int .i64 0] 25) _ (by simp)).trans x2
  simp only [World.size_alloc] at y0 y1 y2 x3
  exact ⟨y0, y1, y2, x3, ((((Below.refl _ w).alloc (Nat.le_refl _) _).alloc (by simp) _).alloc (by simp; omega) _).alloc (by simp; omega) _, by simp⟩
theorem AftB0.below {w W W1 : World} {fuel : Int} (h : AftB0 w fuel W) (hb : Below W.heap.size W W1) :
    W1.heap[w.heap.size]? = some (.cells #[.int .i64 fuel] 3 (0, 0)) ∧ W1.heap[w.heap.size + 1]? = some (.cells #[.int .i64 0, .slice none 0 0] 53 (0, 0)) ∧ W1.heap[w.heap.size + 1 + 1]? = some (.cells #[.int .i64 0] 3 (0, 0)) ∧
    W1.heap[w.heap.size + 1 + 1 + 1]? = some (.cells #[.int .i64 0] 25 (0, 0)) ∧ Below w.heap.size w W1 ∧ w.heap.size + 1 + 1 + 1 < W1.heap.size := by
  obtain ⟨y0, y1, y2, y3, hb0, hs⟩ := h
  exact ⟨below_blk hb y0 (by omega), below_blk hb y1 (by omega), below_blk hb y2 (by omega), below_blk hb y3 (by omega), hb0.trans (hb.mono (by omega)), by have := hb.size; omega⟩
theorem AftB0.start {w W w1 : World} {fuel : Int} (h : AftB0 w fuel W) (hb1 : Below W.heap.size W w1) (_ : w.heap.size + 1 + 1 + 1 < w1.heap.size) (mv : Value) :
    AftC w w1.heap.size mv fuel 0 (.slice none 0 0) 0 0 ((w1.alloc (.cells #[mv] 91)).alloc (.cells #[mv] 91)) := by
  obtain ⟨y0, y1, y2, y3, hb0, hs⟩ := h.below hb1
  have hb2 : Below w1.heap.size w1 ((w1.alloc (.cells #[mv] 91)).alloc (.cells #[mv] 91)) := ((Below.refl _ _).alloc (Nat.le_refl _) _).alloc (by simp) _
  exact ⟨below_blk hb2 y0 (by omega), below_blk hb2 y1 (by omega), below_blk hb2 y2 (by omega), below_blk hb2 y3 (by omega), (Below.heap_alloc _ _ _ (by simp)).trans (heap_alloc_new w1 _), hb0.trans (hb2.mono (by omega))⟩
theorem AftB0.start1 {w W w1 : World} {fuel : Int} (h : AftB0 w fuel W) (hb1 : Below W.heap.size W w1) (mv : Value) :
    AftC w w1.heap.size mv fuel 0 (.slice none 0 0) 0 0 (w1.alloc (.cells #[mv] 91)) := by
  obtain ⟨y0, y1, y2, y3, hb0, hs⟩ := h.below hb1
  have hb2 : Below w1.heap.size w1 (w1.alloc (.cells #[mv] 91)) := (Below.refl _ _).alloc (Nat.le_refl _) _
  exact ⟨below_blk hb2 y0 (by omega), below_blk hb2 y1 (by omega), below_blk hb2 y2 (by omega), below_blk hb2 y3 (by omega), heap_alloc_new w1 _, hb0.trans (hb2.mono (by omega))⟩

theorem AtK.grownA {l : List Ins} {s0 : St} {B g mb : Nat} {pv sv : Value} {w : World} {bm : Nat} {mv : Value} {fuel : Int} {n : Int} {u : Value} {k' er : Int} {k : Nat} {W W' : World} {row : Option Nat} (h : AtK l s0 B g mb pv sv (AftC w bm mv fuel n u k' er) k W) (hg : W.grownBy W' row) (hr : ∀ r, row = some r → w.heap.size ≤ r ∧ ∃ o : Obj, W.heap[r]? = some o ∧ o.isCells = false) : AtK l s0 B g mb pv sv (AftC w bm mv fuel n u k' er) k W' := by
  obtain ⟨h1, ⟨ps, h2⟩, h3, h4⟩ := h
  exact ⟨h1, ⟨ps, h2.grown hg (fun r e => (hr r e).2)⟩, cell_kept h3 hg (fun r e => (hr r e).2), h4.grown hg hr⟩

set_option maxRecDepth 100000 in
set_option maxHeartbeats 2000000 in
theorem after_ok (v : Value) (l : List Ins) (t : Tr) (ht : t.size ≤ 2000000) (fuel : Nat) (hk1 : fuel ≤ 10000000) (w : World) (hl : InsRow w w.heap.size v l) (hv : validB l = true) (n : Int) (L : List ByteArray) (k : Nat) (er : Int) (hres : (goF l fuel 0 (startS t)).after = (n, L, k, er)) :
    Calls Try.prog 38 #[v, .string (TS t), .int .i64 fuel] w (AftOut w n L k er) := by
  have kb := fun w' (h : InsRow w' w'.heap.size v l) => begin_ok v l t ht fuel w' h hv (by omega) (by omega)
  have HG := Lib.hid (Good.start l.length t ht)
  have HV := Lib.hid (validB_all hv)
  have hn4 := validB_len hv
  have HR := Lib.hid hres
  have hl0 := hl
  obtain ⟨ao, cap, rfl⟩ := hl.len
  have hb0 : Below w.heap.size w ((((w.alloc (.cells #[.int .i64 fuel] 3)).alloc (.cells #[.int .i64 0, .slice none 0 0] 53)).alloc (.cells #[.int .i64 0] 3)).alloc (.cells #[.int .i64 0] 25)) :=
    ((((Below.refl _ w).alloc (Nat.le_refl _) _).alloc (by simp) _).alloc (by simp; omega) _).alloc (by simp; omega) _
  have kb0 := kb _ ((hl0.below hb0).mono hb0.size)
  obtain ⟨S, hS⟩ : ∃ S, TS t = S := ⟨_, rfl⟩
  rw [hS] at kb0 ⊢
  clear hv hres kb hS hl hl0
  refine (callsIn_wide (n := 5)).1 ?_
  refine callsIn_of_wp_marks Try.func38 rfl trivial ?_ rfl
  simp only [Try.ntmps38, List.size_toArray, List.length_cons, List.length_nil, Nat.reduceAdd, Nat.reduceSub, Array.replicate_succ, Array.replicate_zero, List.push_toArray, List.append_toArray, List.nil_append, List.cons_append]
  gi_wp2_with fail
  refine ⟨trivial, (callsIn_wide.2 kb0).mono ?_⟩
  rintro e w1 ⟨B, g, sv, ps, rfl, hm, hB, hb1⟩
  have hBs : w.heap.size + 1 + 1 + 1 < B := by simp at hB; omega
  have hble := hm.le
  have hglt := hm.lt
  have HM := Lib.hid hm
  clear kb0 hm
  gi_wp2_with fail
  refine ⟨trivial, (callsIn_wide.2 (states_any _ _)).mono ?_⟩
  rintro e w2 ⟨rfl, rfl⟩
  have hb2 : Below w1.heap.size w1 ((w1.alloc (.cells #[.pointer (some ⟨g, 0, none⟩)] 91)).alloc (.cells #[.pointer (some ⟨g, 0, none⟩)] 91)) := ((Below.refl _ _).alloc (Nat.le_refl _) _).alloc (by simp) _
  have hws : w.heap.size + 1 + 1 + 1 < w1.heap.size := by have := hb1.size; simp at this; omega
  have hbw : Below w.heap.size w w1 := hb0.trans (hb1.mono (by simp; omega))
  have hC0 := (aft_boxes w fuel).start hb1 hws (.pointer (some ⟨g, 0, none⟩))
  have hA0 : AtK l (startS t) B g (w1.heap.size + 1) (.slice ao l.length cap) sv (AftC w w1.heap.size (.pointer (some ⟨g, 0, none⟩)) fuel 0 (.slice none 0 0) 0 0) 0 ((w1.alloc (.cells #[.pointer (some ⟨g, 0, none⟩)] 91)).alloc (.cells #[.pointer (some ⟨g, 0, none⟩)] 91)) := by
    refine ⟨Reach.zero _ _, ⟨ps, HM.out.kept hb2⟩, ?_, hC0⟩
    have := heap_alloc_new (w1.alloc (.cells #[.pointer (some ⟨g, 0, none⟩)] 91)) (.cells #[.pointer (some ⟨g, 0, none⟩)] 91)
    rw [World.size_alloc] at this
    exact (block_cells this).1 0
  have HA0 := Lib.hid hA0
  have HB2 := Lib.hid hb2
  clear hA0 hC0 hb2 hb1 hb0
  gi_wp2_with fail
  refine wpIn_rangeFunc_ends (α := Nat × Bool) rfl (by decide) (gf := 93) (lb := #[.pointer (some ⟨w1.heap.size + 1, 0, none⟩)]) rfl trivial (enters_of Try.func93 (by kernel_rfl) rfl)
    (AtK l (startS t) B g (w1.heap.size + 1) (.slice ao l.length cap) sv (AftC w w1.heap.size (.pointer (some ⟨g, 0, none⟩)) fuel 0 (.slice none 0 0) 0 0) 0)
    (RI fuel l (startS t) B g (w1.heap.size + 1) (.slice ao l.length cap) sv (AftC w w1.heap.size (.pointer (some ⟨g, 0, none⟩)) fuel 0 (.slice none 0 0) 0 0))
    (RI' fuel l (startS t) B g (w1.heap.size + 1) (.slice ao l.length cap) sv (AftC w w1.heap.size (.pointer (some ⟨g, 0, none⟩)) fuel 0 (.slice none 0 0) 0 0))
    (fun c W => c = .ret ∧ ∃ u, AftC w w1.heap.size (.pointer (some ⟨g, 0, none⟩)) fuel n u k er W ∧ StrRow W W.heap.size u L)
    (states1_ends _ fuel hk1 l (startS t) B g (w1.heap.size + 1) (by omega) _ sv _ (fun A B h hc => hc.els h (by omega) (by omega)) HG.out HV.out hn4) (fun _ => rfl)
    (fun _ A B row h hg hr => h.grownA hg (fun r e => ⟨by have := (hr r e).1; simp at this; omega, (hr r e).2⟩))
    (fun x A B row h hg hr => ⟨h.1, h.2.1.grownA hg (fun r e => ⟨by have := (hr r e).1; simp at this; omega, (hr r e).2⟩), h.2.2⟩)
    (fun x A B row h hg hr => ⟨h.1, h.2.1, h.2.2.1, h.2.2.2.grownA hg (fun r e => ⟨by have := (hr r e).1; simp at this; omega, (hr r e).2⟩)⟩)
    ?hix
    HA0.out
    (fun x => { tmps := #[.slice ao l.length cap, .string S, .int .i64 fuel, undef, undef, .pointer (some ⟨w.heap.size, 0, none⟩), .pointer (some ⟨w.heap.size + 1, 0, none⟩), .pointer (some ⟨w.heap.size + 1 + 1, 0, none⟩), .pointer (some ⟨w.heap.size + 1 + 1 + 1, 0, none⟩), .pointer (some ⟨w1.heap.size, 0, none⟩), .int .i64 0, .int .i64 x.1, .bool x.2,
      .tuple #[.pointer (some ⟨g, 0, none⟩), .int .i64 0], .slice ao l.length cap, .string S, .int .i64 fuel, .tuple #[.pointer (some ⟨g, 0, none⟩), .int .i64 0], .pointer (some ⟨g, 0, none⟩), .int .i64 0, .int .i64 0, .bool false, undef, undef, .pointer (some ⟨g, 0, none⟩), .func (.func 93) #[] #[.pointer (some ⟨w1.heap.size + 1, 0, none⟩)],
      .int .i64 x.1, .bool x.2, undef, undef, undef, undef, undef, undef, undef, undef, undef, undef, undef, undef, undef, undef, undef], defers := [] }) ?assign ?body ?stop
  case hix =>
    intro c _ A B row h hg hr
    obtain ⟨h1, u, h2, h3⟩ := h
    exact ⟨h1, u, h2.grown hg (fun r e => ⟨by have := (hr r e).1; simp at this; omega, (hr r e).2⟩), h3.grown hg (fun r e => (hr r e).2)⟩
  case assign =>
    intro lr x W K hK
    gi_wp2
    exact hK
  case stop =>
    rintro D c W hD ⟨rfl, u, hc, hu⟩ hK
    have hg' := grownBy_putObj' W D (.deferred none)
    have hc' := hc.grown hg' (fun r e => by cases e; exact ⟨by simp at hD; omega, _, hK, rfl⟩)
    have hu' := hu.grown hg' (fun r e => by cases e; exact ⟨_, hK, rfl⟩)
    have q1 := (block_cells hc'.y).1 0
    have q1' := (block_cells hc'.y).1 1
    have q2 := (block_cells hc'.k).1 0
    have q3 := (block_cells hc'.e).1 0
    simp only [List.getElem?_toArray, List.getElem?_cons_zero, List.getElem?_cons_succ] at q1 q1' q2 q3
    gi_wp2
    refine ⟨by simp, .inl ⟨_, _, rfl, run_takeDeferred hK, ?_⟩⟩
    refine ⟨.tuple #[.agg #[.int .i64 n, u], .int .i64 k, .int .i64 er], ?_, u, rfl, hu', hc'.b⟩
    obtain ⟨ua, uc, rfl⟩ := hu'.len
    simp [results, Try.f38, go_sem, q1, q1', q2, q3]
  case body =>
    rintro lr ⟨k1, b⟩ W hI
    obtain ⟨hk1', ⟨hre, ⟨ps1, hm1⟩, hmb, hC⟩, hbig⟩ := hI
    dsimp only at hk1' hre hm1 hbig
    have c0 := (block_cells hC.f).1 0
    have c1 := (block_cells hC.y).1 0
    have c1' := (block_cells hC.y).1 1
    have c2 := (block_cells hC.k).1 0
    have c3 := (block_cells hC.e).1 0
    have c4 := (block_cells hC.m).1 0
    have f1 := (block_cells hC.y).2 0
    have f1' := (block_cells hC.y).2 1
    have f2 := (block_cells hC.k).2 0
    have f3 := (block_cells hC.e).2 0
    simp only [List.getElem?_toArray, List.getElem?_cons_zero, List.getElem?_cons_succ] at c0 c1 c1' c2 c3 c4
    have hgk := hre.good HV.out HG.out
    have HRE := Lib.hid hre
    have HC := Lib.hid hC
    have HBIG := Lib.hid hbig
    clear hre hC hbig
    cases b with
    | true =>
      have hfin : Hid (n = 0 ∧ L = [] ∧ k = 0 ∧ er = 3) := by
        obtain ⟨h1, h2, h3⟩ := HBIG.out rfl
        have hr := HR.out
        rw [HRE.out.goF fuel hk1', show fuel - k1 = (fuel - k1 - 1) + 1 by omega, goF_big h2 h3] at hr
        simp only [Res.after, Prod.mk.injEq] at hr
        exact ⟨hr.1.symm, hr.2.1.symm, hr.2.2.1.symm, hr.2.2.2.symm⟩
      clear hm1 hgk
      obtain ⟨rfl, rfl, rfl, rfl⟩ := hfin.out
      gi_wp2
      obtain ⟨z1, z2⟩ := HC.out.put hws 0 (.slice none 0 0) 0 3
      exact ⟨z1, rfl, _, z2, by simp, by simp, .inl ⟨rfl, .inl rfl⟩⟩
    | false =>
      have hgd : ∀ z : Bool, ((stN l (startS t) k1).pos = l.length ∨ k1 = fuel) → Hid (n = ((stN l (startS t) k1).pos : Int) ∧ L = (stN l (startS t) k1).regs.map TS ∧ k = k1 ∧ er = 0) := by
        intro z hor
        have hr := HR.out
        rw [HRE.out.goF fuel hk1'] at hr
        by_cases hpos : (stN l (startS t) k1).pos = l.length
        · rw [goF_done hpos] at hr
          simp only [Res.after, Prod.mk.injEq] at hr
          exact ⟨hr.1.symm, hr.2.1.symm, hr.2.2.1.symm, hr.2.2.2.symm⟩
        · have hkf : k1 = fuel := by rcases hor with h | h; exact absurd h hpos; exact h
          rw [hkf, Nat.sub_self, goF_zero (by rw [← hkf]; exact hpos)] at hr
          simp only [Res.after, Prod.mk.injEq] at hr
          rw [hkf]
          exact ⟨hr.1.symm, hr.2.1.symm, hr.2.2.1.symm, hr.2.2.2.symm⟩
      have HGD := Lib.hid (hgd true)
      have HGK := Lib.hid hgk
      clear hgd
      obtain ⟨pe, hp⟩ : ∃ pe, (((stN l (startS t) k1).pos : Int) == (l.length : Int)) = pe := ⟨_, rfl⟩
      obtain ⟨pf, hkk⟩ : ∃ pf, ((k1 : Int) == (fuel : Int)) = pf := ⟨_, rfl⟩
      have ke := ended_at _ W B g l _ _ sv ps1 hm1 hgk hp
      have HP := Lib.hid hp
      have HM1 := Lib.hid hm1
      have HKK := Lib.hid hkk
      clear hp hm1 hgk
      by_cases hgo : pe = true ∨ pf = true
      · have hor : (stN l (startS t) k1).pos = l.length ∨ k1 = fuel := by
          rcases hgo with h | h
          · have h1 := HP.out; rw [h] at h1; have := eq_of_beq h1; left; omega
          · have h1 := HKK.out; rw [h] at h1; have := eq_of_beq h1; right; omega
        obtain ⟨rfl, rfl, rfl, rfl⟩ := (HGD.out hor).out
        clear hor
        rcases (by cases pe <;> simp_all : (pe = true) ∨ (pe = false ∧ pf = true)) with rfl | ⟨rfl, rfl⟩
        all_goals
          clear hgo
          gi_wp2_with fail
          refine ⟨trivial, CallsIn.inRound lr ((callsIn_wide.2 ke).mono ?_)⟩
          rintro e W1 ⟨rfl, hb1⟩
          have HC1 := Lib.hid (HC.out.below hb1)
          have c0 := (block_cells HC1.out.f).1 0
          have c1 := (block_cells HC1.out.y).1 0
          have c1' := (block_cells HC1.out.y).1 1
          have c2 := (block_cells HC1.out.k).1 0
          have c3 := (block_cells HC1.out.e).1 0
          have c4 := (block_cells HC1.out.m).1 0
          have f1 := (block_cells HC1.out.y).2 0
          have f1' := (block_cells HC1.out.y).2 1
          have f2 := (block_cells HC1.out.k).2 0
          have f3 := (block_cells HC1.out.e).2 0
          simp only [List.getElem?_toArray, List.getElem?_cons_zero, List.getElem?_cons_succ] at c0 c1 c1' c2 c3 c4
          have hm2 := HM1.out.kept hb1
          have ks := state_any _ _ _ _ _ _ _ _ hm2 HGK.out
          have HB1 := Lib.hid hb1
          clear ke hm2 hb1
          gi_wp2_with fail
          refine ⟨trivial, CallsIn.inRound lr ((callsIn_wide.2 ks).mono ?_)⟩
          rintro e W2 ⟨vs, rfl, hvs, hb2⟩
          obtain ⟨LL, hLL⟩ : ∃ LL, (stN l (startS t) k).regs.map TS = LL := ⟨_, rfl⟩
          rw [hLL] at hvs
          have HLL := Lib.hid hLL
          obtain ⟨va, vc, rfl⟩ := hvs.len
          have HVS := Lib.hid hvs
          have hb12 := HB1.out.trans (hb2.mono HB1.out.size)
          have HC2 := Lib.hid (HC.out.below hb12)
          have HKO := Lib.hid (below_keeps hb12)
          have c0 := (block_cells HC2.out.f).1 0
          have c1 := (block_cells HC2.out.y).1 0
          have c1' := (block_cells HC2.out.y).1 1
          have c2 := (block_cells HC2.out.k).1 0
          have c3 := (block_cells HC2.out.e).1 0
          have f1 := (block_cells HC2.out.y).2 0
          have f1' := (block_cells HC2.out.y).2 1
          have f2 := (block_cells HC2.out.k).2 0
          have f3 := (block_cells HC2.out.e).2 0
          simp only [List.getElem?_toArray, List.getElem?_cons_zero, List.getElem?_cons_succ] at c0 c1 c1' c2 c3
          clear ks hb2 hb12 hvs hLL
          gi_wp2
          obtain ⟨z1, z2⟩ := HC2.out.put hws (stN l (startS t) k).pos (.slice va LL.length vc) k 0
          exact ⟨HKO.out.trans z1, rfl, _, z2, by rw [HLL.out]; exact HC2.out.putRow (by simp) _ _ _ (by simp) _ _ HVS.out⟩
      · have hpe : pe = false := by cases pe <;> simp_all
        have hpf : pf = false := by cases pf <;> simp_all
        subst hpe hpf
        have hpos : (stN l (startS t) k1).pos ≠ l.length := by
          intro h
          have h1 := HP.out
          rw [h] at h1
          simp at h1
        have hlt : k1 < fuel := by
          have : k1 ≠ fuel := by
            intro h
            have h1 := HKK.out
            rw [h] at h1
            simp at h1
          omega
        have HP2 := Lib.hid hpos
        clear hgo hpos
        gi_wp2_with fail
        refine ⟨trivial, CallsIn.inRound lr ((callsIn_wide.2 ke).mono ?_)⟩
        rintro e W1 ⟨rfl, hb1⟩
        have HC1 := Lib.hid (HC.out.below hb1)
        have HKO := Lib.hid (below_keeps hb1)
        have HB1 := Lib.hid hb1
        have HMB := Lib.hid hmb
        have c0 := (block_cells HC1.out.f).1 0
        simp only [List.getElem?_toArray, List.getElem?_cons_zero] at c0
        clear ke hb1 hmb
        gi_wp2
        refine ⟨HKO.out, hlt, rfl, HP2.out, HRE.out, ⟨ps1, HM1.out.kept HB1.out⟩, ?_, HC1.out⟩
        have : w1.heap.size + 1 < W.heap.size := by
          obtain ⟨o, ho, _⟩ := cells_of_cell HMB.out
          exact (Array.getElem?_eq_some_iff.1 ho).1
        exact (HB1.out.cell (p := ⟨w1.heap.size + 1, 0, none⟩) this).trans HMB.out

set_option maxHeartbeats 1000000 in
theorem after_bad (v : Value) (l : List Ins) (s : ByteArray) (fuel : Int) (w : World) (er : Int) (hl : InsRow w w.heap.size v l) (her : er = 1 ∨ er = 2)
    (kb : ∀ w', InsRow w' w'.heap.size v l → Calls Try.prog 68 #[v, .string s, .int .i64 fuel] w' fun e w'' => e = .returned (.tuple #[.pointer none, .int .i64 er]) ∧ Below w'.heap.size w' w'') :
    Calls Try.prog 38 #[v, .string s, .int .i64 fuel] w (AftOut w 0 [] 0 er) := by
  have hl0 := hl
  obtain ⟨ao, cap, rfl⟩ := hl.len
  have hb0 : Below w.heap.size w ((((w.alloc (.cells #[.int .i64 fuel] 3)).alloc (.cells #[.int .i64 0, .slice none 0 0] 53)).alloc (.cells #[.int .i64 0] 3)).alloc (.cells #[.int .i64 0] 25)) :=
    ((((Below.refl _ w).alloc (Nat.le_refl _) _).alloc (by simp) _).alloc (by simp; omega) _).alloc (by simp; omega) _
  have kb0 := kb _ ((hl0.below hb0).mono hb0.size)
  clear kb hl hl0
  have hne : (er != 0) = true := by rw [bne_iff_ne]; omega
  clear her
  go_enter Try.func38, Try.ntmps38
  go_wp2_with fail
  refine kb0.mono ?_
  rintro e w1 ⟨rfl, hb1⟩
  have hws : w.heap.size + 1 + 1 + 1 < w1.heap.size := by have := hb1.size; simp at this; omega
  have HC := Lib.hid ((aft_boxes w fuel).start1 hb1 (.pointer none))
  have c0 := (block_cells HC.out.f).1 0
  have c1 := (block_cells HC.out.y).1 0
  have c1' := (block_cells HC.out.y).1 1
  have c2 := (block_cells HC.out.k).1 0
  have c3 := (block_cells HC.out.e).1 0
  have f1 := (block_cells HC.out.y).2 0
  have f1' := (block_cells HC.out.y).2 1
  have f2 := (block_cells HC.out.k).2 0
  have f3 := (block_cells HC.out.e).2 0
  simp only [List.getElem?_toArray, List.getElem?_cons_zero, List.getElem?_cons_succ] at c0 c1 c1' c2 c3
  clear kb0 hb1 hb0
  go_wp2
  obtain ⟨z1, z2⟩ := HC.out.put hws 0 (.slice none 0 0) 0 er
  have q1 := (block_cells z2.y).1 0
  have q1' := (block_cells z2.y).1 1
  have q2 := (block_cells z2.k).1 0
  have q3 := (block_cells z2.e).1 0
  simp only [List.getElem?_toArray, List.getElem?_cons_zero, List.getElem?_cons_succ] at q1 q1' q2 q3
  refine bodyPost_ret (v := .tuple #[.agg #[.int .i64 0, .slice none 0 0], .int .i64 0, .int .i64 er]) (by simp [results, Try.results38, go_sem, q1, q1', q2, q3]) rfl ?_
  exact ⟨_, rfl, ⟨by simp, by simp, .inl ⟨rfl, .inl rfl⟩⟩, z2.b⟩

end Go.Proofs.Ytieocihlkpipmaa

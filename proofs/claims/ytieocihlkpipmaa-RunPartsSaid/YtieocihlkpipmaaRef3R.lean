/- The walks of narcissusref03.Text and Read. -/
import Derived.Test.YtieocihlkpipmaaRef3L
import Derived.Test.YtieocihlkpipmaaRunU
namespace Go.Proofs.Ytieocihlkpipmaa
open Go.RowKit

set_option maxRecDepth 20000 in
set_option maxHeartbeats 4000000 in
theorem rtext_any (w : World) (T gs gr cp n : Nat) (s : St) (ps : List Value) (hm : RStP w T gs s (.slice (some ⟨gr, 0, none⟩) s.regs.length cp) ps) (hg : Good n s) :
    Calls Try.prog 42 #[.pointer (some ⟨gs, 0, none⟩)] w fun e w' => ∃ v', e = .returned (.agg #[.int .i64 s.pos, v']) ∧ StrRow w' w'.heap.size v' (s.regs.map TS) ∧ Below w.heap.size w w' := by
  obtain ⟨c0, c1, cf, cr, crf⟩ := hm.cells
  rw [hg.2.1] at c1
  have hgs : gs < w.heap.size := (Array.getElem?_eq_some_iff.1 hm.blk).1
  have hgr : gr < w.heap.size := hm.rlt
  have HM := Lib.hid hm
  have HG := Lib.hid hg
  have HCR := Lib.hid cr
  clear hm hg cr crf cf
  have hb0 : Below w.heap.size w ((w.alloc (.cells #[.int .i64 0, .slice none 0 0] 53)).alloc (.cells #[.int .i64 s.pos, .slice none 0 0] 53)) := ((Below.refl _ w).alloc (Nat.le_refl _) _).alloc (by simp) _
  have hs0 : MakeS w ((w.alloc (.cells #[.int .i64 0, .slice none 0 0] 53)).alloc (.cells #[.int .i64 s.pos, .slice none 0 0] 53)) s.pos (.slice none 0 0) 0 [] := by
    refine ⟨?_, ?_, World.ownsRow_nil _ _ _ _, hb0⟩
    · have := heap_alloc_new (w.alloc (.cells #[.int .i64 0, .slice none 0 0] 53)) (.cells #[.int .i64 s.pos, .slice none 0 0] 53)
      rwa [World.size_alloc] at this
    · exact (Below.heap_alloc _ _ _ (by simp)).trans (heap_alloc_new w _)
  have HS0 := Lib.hid hs0
  clear hb0 hs0
  go_enter Try.func42, Try.ntmps42
  go_wp2
  go_loopg [4] 32 (fun gg i wr => ∃ (k : Nat) (v : Value), k ≤ 32 ∧ gg = 32 - k ∧ i = .int .i64 k ∧ Aside (MakeS w wr s.pos v k ((s.regs.take k).map fun t => .string (TS t))))
  case atStart => exact ⟨0, _, by omega, rfl, rfl, HS0.out⟩
  case round =>
    clear HS0
    obtain ⟨k, v, hk, hgg, rfl, hm⟩ := hrel
    have HGG := Lib.hid hgg; clear hgg
    have hbw := hm.out.2.2.2
    have e1 := (hbw.cell (p := ⟨gs, 1, none⟩) hgs).trans c1
    by_cases hlt2 : k < 32
    · obtain ⟨t, ht⟩ : ∃ t, s.regs[k]? = some t := ⟨_, List.getElem?_eq_getElem (by rw [HG.out.2.1]; exact hlt2)⟩
      have hsz1 := Lib.hid (HG.out.2.2 t (List.mem_of_getElem? ht))
      obtain ⟨q, hq, hny⟩ := HCR.out k t ht
      have eq1 := (hbw.cell (p := ⟨gr, k, none⟩) hgr).trans hq
      have HNY := Lib.hid ((hny.kept (Kept.below (hbw.mono (Nat.le_refl _)))))
      have HT := Lib.hid ht
      clear hny ht
      have kt : ∀ w', Below wr.heap.size wr w' → Calls Try.prog 29 #[.pointer q] w' fun e w'' => e = .returned (.string (TS t)) ∧ Below wr.heap.size wr w'' := fun w' hb' =>
        (rnodeText_any t _ w' (HNY.out.kept (Kept.below hb')) (by have := hsz1.out; omega)).mono fun e w'' h => ⟨h.1, hb'.trans (h.2.mono hb'.size)⟩
      obtain ⟨a2, cp, rfl⟩ := own_len hm.out.2.2.1
      have HO := Lib.hid hm.out.2.2.1
      have hi0 : (0 : Int) ≤ (k : Int) := Int.natCast_nonneg _
      have hi1 : (k : Int) < 32 := by omega
      have d1 := (block_cells hm.out.1).1 1
      simp only [List.getElem?_toArray, List.getElem?_cons_zero, List.getElem?_cons_succ] at d1
      have HS := Lib.hid hbw.size
      have HB := Lib.hid hbw
      have hlb := Lib.hid (Array.getElem?_eq_some_iff.1 hm.out.1).1
      obtain ⟨S, hS⟩ : ∃ S, TS t = S := ⟨_, rfl⟩
      rw [hS] at kt
      have HTS := Lib.hid hS
      have dk : ∀ w', Below wr.heap.size wr w' → w'.cell? ⟨w.heap.size + 1, 1, none⟩ = some (.slice a2 k cp) := fun w' hb' => (hb'.cell (p := ⟨w.heap.size + 1, 1, none⟩) hlb.out).trans d1
      clear hS hq c0 c1 hbw
      go_wp2
      go_region_law ((first
        | (refine step_new el_str (by rfl) _ _ (by rfl) (by rfl) (own_below HO.out (by first | exact hb1.drew | exact hb1)) [.string S] 1 (by rfl) (by rfl) (by decide) (by intro u hu; simp at hu; subst hu; rfl) (by omega) (by unfold maxLen; omega) (by have h1 := hb1.size; have h2 := hlb.out; omega) (HB.out.trans ((by first | exact hb1 | exact hb1.drew : Below wr.heap.size wr _).mono HS.out)) (by omega) ?_; intro g4 cp4 w4 hown4 hb4 hg4; have hst := hm.out.step (by first | exact hb1 | exact hb1.drew) hg4; have x1 := (block_cells hst.1).1 1; have x2 := (block_cells hst.1).2 1; simp only [List.getElem?_toArray, List.getElem?_cons_zero, List.getElem?_cons_succ] at x1)
        | (go_simp; (with_reducible refine (kt _ (by first | exact Below.refl _ _ | exact (Below.refl _ _).drew)).mono ?_); rintro e w1 ⟨rfl, hb1⟩; have dk1 := dk _ hb1; have dk2 := fun o => dk _ (hb1.alloc hb1.size o))))
      all_goals
        have hnew : Hid (MakeS w (w4.setCell ⟨w.heap.size + 1, 1, none⟩ (.slice (some ⟨g4, 0, none⟩) (k + 1) cp4)) s.pos (.slice (some ⟨g4, 0, none⟩) (k + 1) cp4) (k + 1) ((s.regs.take (k + 1)).map fun t => .string (TS t))) := by
          refine ⟨set_blk hst.1 1 _, (Below.heap_setCell _ _ _ _ (by show w.heap.size ≠ w.heap.size + 1; omega)).trans hst.2, ?_, hb4.setCell (p := ⟨w.heap.size + 1, 1, none⟩) (by show w.heap.size ≤ w.heap.size + 1; omega) _⟩
          rw [take_snoc' _ _ _ HT.out, List.map_append, List.map_cons, List.map_nil, HTS.out]
          exact own_kept hown4 ((Kept.refl _ w4).setCell hst.1 (by decide) _)
        clear hst x1 x2 hown4 hb4 hg4
        go_wp2
        go_roundg (32 - (k + 1))
        case measure => rw [HGG.out]; omega
        case rel => exact ⟨k + 1, _, by omega, rfl, by go_num, hnew⟩
    · have hk32 : k = 32 := by omega
      subst hk32
      have htk : Hid (s.regs.take 32 = s.regs) := List.take_of_length_le (by rw [HG.out.2.1]; exact Nat.le_refl _)
      obtain ⟨a2, cp, rfl⟩ := own_len hm.out.2.2.1
      have d0 := (block_cells hm.out.1).1 0
      have d1 := (block_cells hm.out.1).1 1
      have r0 := (block_cells hm.out.2.1).1 0
      have r1 := (block_cells hm.out.2.1).1 1
      have f0 := (block_cells hm.out.2.1).2 0
      have f1 := (block_cells hm.out.2.1).2 1
      simp only [List.getElem?_toArray, List.getElem?_cons_zero, List.getElem?_cons_succ] at d0 d1 r0 r1
      clear c0 c1 hbw
      go_wp2
      have hb1 := set_blk hm.out.2.1 0 (.int .i64 s.pos)
      have hb2 := set_blk hb1 1 (.slice a2 32 cp)
      have q0 := (block_cells hb2).1 0
      have q1 := (block_cells hb2).1 1
      simp only [List.setIfInBounds_toArray, List.set_cons_zero, List.set_cons_succ, List.getElem?_toArray, List.getElem?_cons_zero, List.getElem?_cons_succ] at q0 q1
      refine bodyPost_ret (v := .agg #[.int .i64 s.pos, .slice a2 32 cp]) (by simp [results, Try.results42, go_sem, q0, q1]) rfl ?_
      refine ⟨_, rfl, ?_, (hm.out.2.2.2.setCell (p := ⟨w.heap.size, 0, none⟩) (Nat.le_refl _) _).setCell (p := ⟨w.heap.size, 1, none⟩) (Nat.le_refl _) _⟩
      have ho := hm.out.2.2.1
      rw [htk.out] at ho
      refine StrRow.of_own (n := 32) (e := 9) (base := w.heap.size + 2) ?_ ?_ ?_
      · rw [List.map_map]
        exact own_kept ho (((Kept.refl _ wr).setCell hm.out.2.1 (by decide) _).setCell hb1 (by decide) _)
      · intro y hy
        obtain ⟨t, ht, rfl⟩ := List.mem_map.1 hy
        have := HG.out.2.2 t ht
        rw [TS_size]; omega
      · rw [List.length_map, HG.out.2.1]; omega

/-- A state of the reference that is being made. -/
structure MakeR (w : World) (n : Int) (u : Value) (L : List ByteArray) (v : Value) (k : Nat) (wr : World) : Prop where
  i : wr.heap[w.heap.size]? = some (.cells #[.int .i64 n, u] 53 (0, 0))
  o : wr.heap[w.heap.size + 1]? = some (.cells #[.int .i64 n, v] 109 (0, 0))
  row : ∃ xs, Nodes 114 wr ((L.take k).map toTr) xs ∧ wr.ownsRow (w.heap.size + 2) 32 1 v k xs
  b : Below w.heap.size w wr
theorem MakeR.below {w : World} {n : Int} {u v : Value} {L : List ByteArray} {k : Nat} {A B : World} (h : MakeR w n u L v k A) (hb : Below A.heap.size A B) : MakeR w n u L v k B := by
  obtain ⟨xs, h1, h2⟩ := h.row
  have q : ∀ (b : Nat) (o : Obj), A.heap[b]? = some o → B.heap[b]? = some o := fun b o ho => (hb.block b (Array.getElem?_eq_some_iff.1 ho).1).trans ho
  exact ⟨q _ _ h.i, q _ _ h.o, ⟨xs, h1.kept (Kept.below hb), own_below h2 hb⟩, h.b.trans (hb.mono h.b.size)⟩
/-- A register more. -/
theorem MakeR.more {w : World} {n : Int} {u v v' : Value} {L : List ByteArray} {k : Nat} {A w4 : World} {xs : List Value} {q : Option Addr} {y : ByteArray} (h : MakeR w n u L v k A) (hy : L[k]? = some y) (hq : NodeP 114 A (toTr y) (.pointer q)) (h1 : Nodes 114 A ((L.take k).map toTr) xs) (h2 : A.ownsRow (w.heap.size + 2) 32 1 v k xs)
    (h3 : w4.ownsRow (w.heap.size + 2) 32 1 v' (k + 1) (xs ++ [.pointer q])) (hb : Below w.heap.size w w4) (hg : Grew A w4 v v' 1) : w4.heap[w.heap.size + 1]? = some (.cells #[.int .i64 n, v] 109 (0, 0)) ∧ MakeR w n u L v' (k + 1) (w4.setCell ⟨w.heap.size + 1, 1, none⟩ v') := by
  have ha := (Array.getElem?_eq_some_iff.1 h.i).1
  have ho := (Array.getElem?_eq_some_iff.1 h.o).1
  have e1 : w4.heap[w.heap.size]? = some (.cells #[.int .i64 n, u] 53 (0, 0)) := (hg.old _ ha (fun e => by have := (h2.lt w.heap.size (by rw [← e])).1; omega)).trans h.i
  have e2 : w4.heap[w.heap.size + 1]? = some (.cells #[.int .i64 n, v] 109 (0, 0)) := (hg.old _ ho (fun e => by have := (h2.lt (w.heap.size + 1) (by rw [← e])).1; omega)).trans h.o
  have hk : Kept 114 A w4 := Kept.grew h2 hg (by decide)
  have hK := (Kept.refl 114 w4).setCell e2 (by decide) v' (a := ⟨w.heap.size + 1, 1, none⟩)
  refine ⟨e2, (Below.heap_setCell _ _ _ _ (by show w.heap.size ≠ w.heap.size + 1; omega)).trans e1, set_blk e2 1 _, ⟨xs ++ [.pointer q], ?_, own_kept h3 ((Kept.refl _ w4).setCell e2 (by decide) _)⟩, hb.setCell (p := ⟨w.heap.size + 1, 1, none⟩) (by show w.heap.size ≤ w.heap.size + 1; omega) _⟩
  rw [take_snoc' _ _ _ hy, List.map_append]
  exact ((h1.kept hk).snoc (hq.kept hk)).kept hK

set_option maxRecDepth 20000 in
set_option maxHeartbeats 4000000 in
theorem rread_any (n : Int) (hn0 : 0 ≤ n) (u : Value) (L : List ByteArray) (hL32 : L.length = 32) (hall : L.all isTree = true) (w : World) (hL : StrRow w w.heap.size u L) :
    Calls Try.prog 57 #[.agg #[.int .i64 n, u]] w fun e w' => ∃ gs gr cp ps, e = .returned (.pointer (some ⟨gs, 0, none⟩)) ∧ RStP w' w.heap.size gs ⟨n.toNat, L.map toTr⟩ (.slice (some ⟨gr, 0, none⟩) 32 cp) ps ∧ w.heap.size ≤ gr ∧ Below w.heap.size w w' := by
  obtain ⟨au, cu, rfl⟩ := hL.len
  rw [hL32] at hL ⊢
  have H32 := Lib.hid hL32
  have HALL := Lib.hid hall
  have hs0 : MakeR w n (.slice au 32 cu) L (.slice none 0 0) 0 ((w.alloc (.cells #[.int .i64 n, .slice au 32 cu] 53)).alloc (.cells #[.int .i64 n, .slice none 0 0] 109)) := by
    have h1 := heap_alloc_new (w.alloc (.cells #[.int .i64 n, .slice au 32 cu] 53)) (.cells #[.int .i64 n, .slice none 0 0] 109)
    rw [World.size_alloc] at h1
    exact ⟨(Below.heap_alloc _ _ _ (by simp)).trans (heap_alloc_new w _), h1, ⟨[], trivial, World.ownsRow_nil _ _ _ _⟩, ((Below.refl _ w).alloc (Nat.le_refl _) _).alloc (by simp) _⟩
  have HS := Lib.hid hs0
  clear hs0 hL32 hall
  go_enter Try.func57, Try.ntmps57
  go_wp2
  go_loopg [4] 32 (fun gg i wr => ∃ (k : Nat) (v : Value), k ≤ 32 ∧ gg = 32 - k ∧ i = .int .i64 k ∧ Hid (MakeR w n (.slice au 32 cu) L v k wr))
  case atStart => exact ⟨0, _, by omega, rfl, rfl, HS.out⟩
  case round =>
    clear HS
    obtain ⟨k, v, hk, hgg, rfl, hm⟩ := hrel
    have HGG := Lib.hid hgg
    have hbw := hm.out.b
    have c1 := (block_cells hm.out.i).1 1
    simp only [List.getElem?_toArray, List.getElem?_cons_zero, List.getElem?_cons_succ] at c1
    clear hgg
    by_cases hlt2 : k < 32
    · obtain ⟨y, hy⟩ : ∃ y, L[k]? = some y := ⟨_, List.getElem?_eq_getElem (by rw [H32.out]; exact hlt2)⟩
      have hl2 := hL.below hbw
      obtain ⟨rg, off, rfl, hrg, hcell⟩ := hl2.get hy
      have ht : isTree y = true := List.all_eq_true.1 HALL.out y (List.mem_of_getElem? hy)
      have HY := Lib.hid hy
      have hi0 : (0 : Int) ≤ (k : Int) := Int.natCast_nonneg _
      have hi1 : (k : Int) < 32 := by omega
      have d1 := (block_cells hm.out.o).1 1
      simp only [List.getElem?_toArray, List.getElem?_cons_zero, List.getElem?_cons_succ] at d1
      have hlo := Lib.hid (Array.getElem?_eq_some_iff.1 hm.out.o).1
      obtain ⟨xs, hx1, hx2⟩ := hm.out.row
      have HX1 := Lib.hid hx1
      have HX2 := Lib.hid hx2
      obtain ⟨a2, cp, rfl⟩ := own_len hx2
      have kt : ∀ w', Below wr.heap.size wr w' → Calls Try.prog 28 #[.string y] w' fun e w'' => ∃ p, e = .returned (.pointer p) ∧ Hid (NodeP 114 w'' (toTr y) (.pointer p)) ∧ Below wr.heap.size wr w'' := fun w' hb' => by
        have := read_ok (toTr y) (toTr_size _) w'
        rw [TS_toTr ht] at this
        exact this.mono fun e w'' ⟨p, h1, h2, h3⟩ => ⟨p, h1, h2, hb'.trans (h3.mono hb'.size)⟩
      have dk : ∀ w', Below wr.heap.size wr w' → w'.cell? ⟨w.heap.size + 1, 1, none⟩ = some (.slice a2 k cp) := fun w' hb' => (hb'.cell (p := ⟨w.heap.size + 1, 1, none⟩) hlo.out).trans d1
      have HBW := Lib.hid hbw
      clear hy hl2 ht hx1 hx2 hbw
      go_wp2
      go_region_law ((first
        | (refine step_new el_rnode (by rfl) _ _ (by rfl) (by rfl) (own_below HX2.out (by first | exact hb1.drew | exact hb1)) [.pointer p] 1 (by rfl) (by rfl) (by decide) (by intro u hu; simp at hu; subst hu; rfl) (by omega) (by unfold maxLen; omega) (by have h1 := hb1.size; have h2 := hlo.out; omega) (HBW.out.trans ((by first | exact hb1 | exact hb1.drew : Below wr.heap.size wr _).mono HBW.out.size)) (by omega) ?_; intro g4 cp4 w4 hown4 hb4 hg4; have hmore := MakeR.more (hm.out.below (by first | exact hb1.drew | exact hb1)) HY.out (hnp.out.kept (by first | exact Kept.refl _ _ | exact (Kept.refl _ _).drew)) (HX1.out.kept (Kept.below (by first | exact hb1.drew | exact hb1))) (own_below HX2.out (by first | exact hb1.drew | exact hb1)) hown4 hb4 hg4; have x1 := (block_cells hmore.1).1 1; have x2 := (block_cells hmore.1).2 1; simp only [List.getElem?_toArray, List.getElem?_cons_zero, List.getElem?_cons_succ] at x1)
        | (go_simp; (with_reducible refine (kt _ (by first | exact Below.refl _ _ | exact (Below.refl _ _).drew)).mono ?_); rintro e w1 ⟨p, rfl, hnp, hb1⟩; have dk1 := dk _ hb1; have dk2 := fun o => dk _ (hb1.alloc hb1.size o))))
      all_goals
        have hnew := Lib.hid hmore.2
        clear hmore x1 x2 hown4 hb4 hg4 kt dk hnp hb1 d1 c1
        go_wp2
        go_roundg (32 - (k + 1))
        case measure => rw [HGG.out]; omega
        case rel => exact ⟨k + 1, _, by omega, rfl, by go_num, (by first | exact hnew | exact hnew.out.below (Below.refl _ _).drew)⟩
    · have hk32 : k = 32 := by omega
      subst hk32
      have hfin : Hid (∃ gr cp ps, RStP wr w.heap.size (w.heap.size + 1) ⟨n.toNat, L.map toTr⟩ (.slice (some ⟨gr, 0, none⟩) 32 cp) ps ∧ w.heap.size ≤ gr) := by
        obtain ⟨xs, h1, h2⟩ := hm.out.row
        rw [List.take_of_length_le (by rw [H32.out]; exact Nat.le_refl _)] at h1
        obtain ⟨gr, cp, rfl, hgb, _⟩ := own_cells h2 (by omega)
        refine ⟨gr, cp, xs, ⟨?_, by omega, h1, ?_⟩, by omega⟩
        · have ho := hm.out.o
          rw [show n = ((n.toNat : Nat) : Int) by omega] at ho
          exact ho
        · have hlen : (L.map toTr).length = 32 := by simp [H32.out]
          show wr.ownsRow w.heap.size 32 1 _ (L.map toTr).length xs
          rw [hlen]
          refine ⟨h2.1, ?_⟩
          rcases h2.2 with h | ⟨g', cap', cur, hv, hb, r⟩
          · exact .inl h
          · exact .inr ⟨g', cap', cur, hv, by omega, r⟩
      have HBW := Lib.hid hbw
      clear hbw
      go_wp2
      go_ret
      obtain ⟨gr, cp, ps, h1, h2⟩ := hfin.out
      exact ⟨_, gr, cp, ps, rfl, h1, h2, HBW.out⟩

end Go.Proofs.Ytieocihlkpipmaa

/- The walks of narcissusref03.First and Load. -/
import Derived.Test.YtaiomcjopgnfpaaRef3T
import Derived.Test.YtaiomcjopgnfpaaRunB
import Derived.Laws.MakeOwn
namespace Go.Proofs.Ytaiomcjopgnfpaa
open Go.RowKit

/-- A row of nil pointers. -/
def nilsA (n : Nat) : Array Value := (List.replicate n (.pointer none)).toArray
theorem madeCells_nils (n : Nat) : madeCells (Value.pointer none).cells n = nilsA n := by
  apply Array.ext
  · simp [nilsA, size_madeCells]
  · intro i h1 h2
    simp [madeCells, nilsA, Value.cells, Nat.mod_one]
theorem own_nils {w : World} {e base n : Nat} (hn : n ≤ maxLen) (hb : base ≤ w.heap.size) : (w.alloc (.cells (nilsA n) e)).ownsRow base e 1 (.slice (some ⟨w.heap.size, 0, none⟩) n n) n (List.replicate n (.pointer none)) := by
  refine ⟨by simp, .inr ⟨w.heap.size, n, nilsA n, rfl, hb, heap_alloc_new w _, Nat.le_refl _, hn, by simp [nilsA], ?_⟩⟩
  simp [nilsA]
theorem make_rnodes (n : Nat) (hn : n ≤ 4000) (w : World) : (Instr.makeSlice 113 (.int .i64 (n : Nat)) (.int .i64 (n : Nat))).run Try.prog w = .ok (.slice (some ⟨w.heap.size, 0, none⟩) n n) (w.alloc (.cells (nilsA n) 63)) := by
  obtain ⟨i, hi, hz, hsize, hbytes⟩ := info_parts el_rnode.hi
  have h := run_make (P := Try.prog) w 113 63 i (.pointer none) el_rnode.ht hi hz .i64 .i64 n n (by omega) (by omega) (by rw [hbytes]; omega) (by omega)
  rw [h, hsize]
  simp only [Int.toNat_natCast, Nat.mul_one, madeCells_nils]

set_option maxHeartbeats 1000000 in
theorem rfirst_any (t : Tr) (x : Value) (w : World) (hx : NodeP 69 w t x) :
    Calls Try.prog 128 #[x] w fun e w' => ∃ gs ps, e = .returned (.pointer (some ⟨gs, 0, none⟩)) ∧ RStP w' w.heap.size gs (startS t) (.slice (some ⟨w.heap.size, 0, none⟩) 32 32) ps ∧ Below w.heap.size w w' := by
  obtain ⟨q, rfl⟩ := hx.ptr
  have hmk : ∀ w : World, (Instr.makeSlice 113 (.int .i64 32) (.int .i64 32)).run Try.prog w = .ok (.slice (some ⟨w.heap.size, 0, none⟩) 32 32) (w.alloc (.cells (nilsA 32) 63)) := fun w => make_rnodes 32 (by omega) w
  have hnew : RStP (((w.alloc (.cells (nilsA 32) 63)).alloc (.cells #[.int .i64 0, .slice (some ⟨w.heap.size, 0, none⟩) 32 32] 121)).setCell ⟨w.heap.size, 0, none⟩ (.pointer q)) w.heap.size (w.heap.size + 1) (startS t) (.slice (some ⟨w.heap.size, 0, none⟩) 32 32) (.pointer q :: List.replicate 31 (.pointer none)) ∧ Below w.heap.size w (((w.alloc (.cells (nilsA 32) 63)).alloc (.cells #[.int .i64 0, .slice (some ⟨w.heap.size, 0, none⟩) 32 32] 121)).setCell ⟨w.heap.size, 0, none⟩ (.pointer q)) := by
    have hb0 : Below w.heap.size w ((w.alloc (.cells (nilsA 32) 63)).alloc (.cells #[.int .i64 0, .slice (some ⟨w.heap.size, 0, none⟩) 32 32] 121)) := ((Below.refl _ w).alloc (Nat.le_refl _) _).alloc (by simp) _
    have h1 := heap_alloc_new (w.alloc (.cells (nilsA 32) 63)) (.cells #[.int .i64 0, .slice (some ⟨w.heap.size, 0, none⟩) 32 32] 121)
    rw [World.size_alloc] at h1
    have h2 : ((w.alloc (.cells (nilsA 32) 63)).alloc (.cells #[.int .i64 0, .slice (some ⟨w.heap.size, 0, none⟩) 32 32] 121)).heap[w.heap.size]? = some (.cells (nilsA 32) 63 (0, 0)) := (Below.heap_alloc _ _ _ (by simp)).trans (heap_alloc_new w _)
    have ho := own_below (own_nils (w := w) (e := 63) (base := w.heap.size) (n := 32) (by unfold maxLen; omega) (Nat.le_refl _)) ((Below.refl _ (w.alloc (.cells (nilsA 32) 63))).alloc (Nat.le_refl _) (.cells #[.int .i64 0, .slice (some ⟨w.heap.size, 0, none⟩) 32 32] 121))
    have hK := (Kept.refl 69 ((w.alloc (.cells (nilsA 32) 63)).alloc (.cells #[.int .i64 0, .slice (some ⟨w.heap.size, 0, none⟩) 32 32] 121))).setCell h2 (by decide) (.pointer q) (a := ⟨w.heap.size, 0, none⟩)
    refine ⟨⟨(Below.heap_setCell _ _ _ _ (by show w.heap.size + 1 ≠ w.heap.size; omega)).trans h1, by omega, ⟨(hx.kept (Kept.below hb0)).kept hK, Nodes.nils 31⟩, own_set ho 0 _⟩, hb0.setCell (p := ⟨w.heap.size, 0, none⟩) (Nat.le_refl _) _⟩
  have HNEW := Lib.hid hnew
  have c0 : ((w.alloc (.cells (nilsA 32) 63)).alloc (.cells #[.int .i64 0, .slice (some ⟨w.heap.size, 0, none⟩) 32 32] 121)).cell? ⟨w.heap.size, 0, none⟩ = some (.pointer none) := by
    have h2 : ((w.alloc (.cells (nilsA 32) 63)).alloc (.cells #[.int .i64 0, .slice (some ⟨w.heap.size, 0, none⟩) 32 32] 121)).heap[w.heap.size]? = some (.cells (nilsA 32) 63 (0, 0)) := (Below.heap_alloc _ _ _ (by simp)).trans (heap_alloc_new w _)
    rw [(block_cells h2).1]; rfl
  have f0 : ((w.alloc (.cells (nilsA 32) 63)).alloc (.cells #[.int .i64 0, .slice (some ⟨w.heap.size, 0, none⟩) 32 32] 121)).frozen? ⟨w.heap.size, 0, none⟩ = false := by
    have h2 : ((w.alloc (.cells (nilsA 32) 63)).alloc (.cells #[.int .i64 0, .slice (some ⟨w.heap.size, 0, none⟩) 32 32] 121)).heap[w.heap.size]? = some (.cells (nilsA 32) 63 (0, 0)) := (Below.heap_alloc _ _ _ (by simp)).trans (heap_alloc_new w _)
    exact (block_cells h2).2 0
  clear hnew hx
  go_enter Try.func128, Try.ntmps128
  go_wp2
  go_ret
  have hn := HNEW.out
  rw [World.setCell_alloc_past _ _ _ _ (by simp), World.setCell_alloc_at _ _ _ _ _ rfl] at hn
  exact ⟨_, _, rfl, hn⟩

theorem Els.drew {g : Nat} {w w' : World} (h : Els g w w') : Els g w w'.drew := h.trans (Els.of_below (Below.refl _ _).drew)
/-- The trees of the first k instructions are read. -/
def setsK (l : List Ins) (k : Nat) : List Tr := ((l.take k).map fun x => toTr x.tree) ++ List.replicate (l.length - k) .nil
theorem setsK_succ (l : List Ins) (k : Nat) {x : Ins} (hx : l[k]? = some x) : (setsK l k).set k (toTr x.tree) = setsK l (k + 1) := by
  unfold setsK
  have hkl : k < l.length := (List.getElem?_eq_some_iff.1 hx).1
  have h1 : ((l.take k).map fun x => toTr x.tree).length = k := by simp; omega
  rw [take_snoc' _ _ _ hx, List.map_append, List.set_append_right _ _ (by omega), h1, Nat.sub_self, show l.length - k = (l.length - (k + 1)) + 1 by omega, List.replicate_succ, List.set_cons_zero, List.append_assoc]
  rfl
theorem setsK_none (l : List Ins) (k : Nat) {x : Ins} (hx : l[k]? = some x) (h0 : toTr x.tree = .nil) : setsK l k = setsK l (k + 1) := by
  unfold setsK
  have hkl : k < l.length := (List.getElem?_eq_some_iff.1 hx).1
  rw [take_snoc' _ _ _ hx, List.map_append, show l.length - k = (l.length - (k + 1)) + 1 by omega, List.replicate_succ, List.append_assoc]
  simp only [List.map_cons, List.map_nil, h0]
  rfl
theorem setsK_all (l : List Ins) : setsK l l.length = l.map fun x => toTr x.tree := by unfold setsK; rw [List.take_of_length_le (Nat.le_refl _)]; simp
theorem setsK_length (l : List Ins) (k : Nat) (hk : k ≤ l.length) : (setsK l k).length = l.length := by unfold setsK; simp; omega

/-- A machine of the reference that is being made. -/
structure LoadP (w : World) (l : List Ins) (pv : Value) (n k : Nat) (wr : World) : Prop where
  blk : wr.heap[w.heap.size + 1]? = some (.cells #[pv, .slice (some ⟨w.heap.size, 0, none⟩) n n] 115 (0, 0))
  row : ∃ xs, Nodes 69 wr (setsK l k) xs ∧ wr.ownsRow w.heap.size 63 1 (.slice (some ⟨w.heap.size, 0, none⟩) n n) n xs
  b : Below w.heap.size w wr
theorem LoadP.below {w : World} {l : List Ins} {pv : Value} {n k : Nat} {A B : World} (h : LoadP w l pv n k A) (hb : Below A.heap.size A B) : LoadP w l pv n k B := by
  obtain ⟨xs, h1, h2⟩ := h.row
  exact ⟨(hb.block _ (Array.getElem?_eq_some_iff.1 h.blk).1).trans h.blk, ⟨xs, h1.kept (Kept.below hb), own_below h2 hb⟩, h.b.trans (hb.mono h.b.size)⟩
theorem LoadP.rowblk {w : World} {l : List Ins} {pv : Value} {n k : Nat} {A : World} (h : LoadP w l pv n k A) : ∃ cur, A.heap[w.heap.size]? = some (.cells cur 63 (0, 0)) := by
  obtain ⟨xs, h1, h2⟩ := h.row
  rcases h2.2 with ⟨h0, _⟩ | ⟨g', cap', cur, hv, _, hg, _⟩
  · cases h0
  · simp only [Value.slice.injEq, Option.some.injEq, Addr.mk.injEq] at hv
    obtain ⟨⟨rfl, -, -⟩, -, -⟩ := hv
    exact ⟨cur, hg⟩
theorem LoadP.cellK {w : World} {l : List Ins} {pv : Value} {n k : Nat} {A : World} (h : LoadP w l pv n k A) (j : Nat) (hj : j < n) : (∃ q, A.cell? ⟨w.heap.size, j, none⟩ = some (.pointer q)) ∧ A.frozen? ⟨w.heap.size, j, none⟩ = false := by
  obtain ⟨xs, h1, h2⟩ := h.row
  have hl : xs.length = n := by have := h2.1; simpa using this
  have hx : xs[j]? = some xs[j] := List.getElem?_eq_getElem (by omega)
  have hn : j < (setsK l k).length := by rw [← h1.length]; omega
  obtain ⟨v, hv, hnv⟩ := h1.get (List.getElem?_eq_getElem hn)
  obtain ⟨q, rfl⟩ := hnv.ptr
  exact ⟨⟨q, by rw [World.ownsRow.cellAt h2 j (by omega), hv]⟩, World.ownsRow.frozenAt h2 j⟩
theorem LoadP.set {w : World} {l : List Ins} {pv : Value} {n k : Nat} {A : World} (h : LoadP w l pv n k A) {x : Ins} (hx : l[k]? = some x) {q : Option Addr} (hq : NodeP 69 A (toTr x.tree) (.pointer q)) : LoadP w l pv n (k + 1) (A.setCell ⟨w.heap.size, k, none⟩ (.pointer q)) := by
  obtain ⟨cur, hcur⟩ := h.rowblk
  obtain ⟨xs, h1, h2⟩ := h.row
  have hK := (Kept.refl 69 A).setCell hcur (by decide) (.pointer q) (a := ⟨w.heap.size, k, none⟩)
  refine ⟨(Below.heap_setCell _ _ _ _ (by show w.heap.size + 1 ≠ w.heap.size; omega)).trans h.blk, ⟨_, ?_, own_set h2 k _⟩, h.b.setCell (p := ⟨w.heap.size, k, none⟩) (Nat.le_refl _) _⟩
  rw [← setsK_succ l k hx]
  exact (h1.set k hq).kept hK
theorem LoadP.skip {w : World} {l : List Ins} {pv : Value} {n k : Nat} {A : World} (h : LoadP w l pv n k A) {x : Ins} (hx : l[k]? = some x) (h0 : toTr x.tree = .nil) : LoadP w l pv n (k + 1) A :=
  ⟨h.blk, by rw [← setsK_none l k hx h0]; exact h.row, h.b⟩

set_option maxRecDepth 20000 in
set_option maxHeartbeats 4000000 in
theorem load_any (v : Value) (l : List Ins) (w : World) (hl : InsRow w w.heap.size v l) (hv : validB l = true) :
    Calls Try.prog 55 #[v] w fun e w' => ∃ gm tv, e = .returned (.pointer (some ⟨gm, 0, none⟩)) ∧ RMachP w' w'.heap.size gm l v tv ∧ Below w.heap.size w w' := by
  have hn4 := validB_len hv
  have HV := Lib.hid (validB_all hv)
  obtain ⟨ao, cap, rfl⟩ := hl.len
  obtain ⟨n, hn'⟩ : ∃ n, l.length = n := ⟨_, rfl⟩
  rw [hn'] at hl hn4 ⊢
  have HN := Lib.hid hn'; clear hn' hv
  have hmk := fun w => make_rnodes n hn4 w
  have hs0 : LoadP w l (.slice ao n cap) n 0 ((w.alloc (.cells (nilsA n) 63)).alloc (.cells #[.slice ao n cap, .slice (some ⟨w.heap.size, 0, none⟩) n n] 115)) := by
    have h1 := heap_alloc_new (w.alloc (.cells (nilsA n) 63)) (.cells #[.slice ao n cap, .slice (some ⟨w.heap.size, 0, none⟩) n n] 115)
    rw [World.size_alloc] at h1
    refine ⟨h1, ⟨List.replicate n (.pointer none), ?_, ?_⟩, ((Below.refl _ w).alloc (Nat.le_refl _) _).alloc (by simp) _⟩
    · have : setsK l 0 = List.replicate n .nil := by unfold setsK; simp [HN.out]
      rw [this]; exact Nodes.nils n
    · exact own_below (own_nils (by unfold maxLen; omega) (Nat.le_refl _)) ((Below.refl _ _).alloc (Nat.le_refl _) _)
  have HS := Lib.hid hs0
  clear hs0
  go_enter Try.func55, Try.ntmps55
  go_wp2
  clear hmk
  go_loopg [4] n (fun gg i wr => ∃ k : Nat, k ≤ n ∧ gg = n - k ∧ i = .int .i64 k ∧ Hid (LoadP w l (.slice ao n cap) n k wr))
  case atStart => exact ⟨0, by omega, rfl, rfl, HS.out⟩
  case round =>
    obtain ⟨k, hk, hgg, rfl, hlp⟩ := hrel
    have HGG := Lib.hid hgg
    clear hgg HS
    have hbw := hlp.out.b
    have HBW := Lib.hid hbw
    have hgl : w.heap.size + 1 < wr.heap.size := (Array.getElem?_eq_some_iff.1 hlp.out.blk).1
    by_cases hlt : k < n
    · obtain ⟨y, hy⟩ : ∃ s, l[k]? = some s := ⟨_, List.getElem?_eq_getElem (by rw [HN.out]; exact hlt)⟩
      have hl2 := hl.below hbw
      obtain ⟨pg, off, rfl, hpg, p0, p1, p2, p3, p4⟩ := hl2.get hy
      have hr := rightAll_get HV.out hy
      have HY := Lib.hid hy
      have hi0 : (0 : Int) ≤ (k : Int) := Int.natCast_nonneg _
      have hi1 : (k : Int) < (n : Int) := by omega
      clear hy hl2 hbw p1 p2 p3
      by_cases ho : y.op = 0
      · have hop : (y.op == 0) = true := by rw [ho]; rfl
        have ht : isTree y.tree = true := by
          unfold rightB at hr
          rw [if_pos ho] at hr
          simp only [Bool.and_eq_true] at hr
          exact hr.2.2
        have kr : ∀ w', Calls Try.prog 50 #[.string y.tree] w' fun e w'' => ∃ p, e = .returned (.pointer p) ∧ Hid (NodeP 69 w'' (toTr y.tree) (.pointer p)) ∧ Below w'.heap.size w' w'' := fun w' => by
          have := read_ok (toTr y.tree) (toTr_size _) w'
          rwa [TS_toTr ht] at this
        have c1 := (block_cells hlp.out.blk).1 1
        simp only [List.getElem?_toArray, List.getElem?_cons_zero, List.getElem?_cons_succ] at c1
        have keep : ∀ w', Els w.heap.size wr w' → w'.cell? ⟨w.heap.size + 1, 1, none⟩ = some (.slice (some ⟨w.heap.size, 0, none⟩) n n) ∧ w'.cell? ⟨pg, off + k * 5 + 4, none⟩ = some (.string y.tree) := fun w' hE =>
          ⟨(World.cell?_of_block (hE.block (w.heap.size + 1) hgl (by omega))).trans c1, (World.cell?_of_block (hE.block pg (by omega) (by omega))).trans p4⟩
        clear hr ht ho
        go_wp2
        go_region_held3 (fun w' => w'.cell? ⟨w.heap.size + 1, 1, none⟩ = some (.slice (some ⟨w.heap.size, 0, none⟩) n n) ∧ w'.cell? ⟨pg, off + k * 5 + 4, none⟩ = some (.string y.tree))
          (with_reducible (first | exact keep _ hels | exact keep _ (hels.set _ _) | exact keep _ (hels.set _ _).drew | exact keep _ (Els.refl _ _) | exact keep _ (Els.refl _ _).drew))
          (((with_reducible refine (kr _).mono ?_); rintro e w2 ⟨p, rfl, hnp, hb2⟩; have hb2' : Below wr.heap.size wr w2 := (below_of_drew hb2); have hels : Els w.heap.size wr w2 := Els.of_below hb2'; obtain ⟨⟨qk, ck⟩, fk⟩ := (hlp.out.below hb2').cellK k hlt))
        all_goals
          have hnew : Hid (LoadP w l (.slice (some ⟨pg, off, none⟩) n cap) n (k + 1) (w2.setCell ⟨w.heap.size, k, none⟩ (.pointer p))) := (hlp.out.below hb2').set HY.out hnp.out
          clear keep kr hnp hb2 hb2' hels ck fk c1 p4
          go_wp2
          go_roundg (n - (k + 1))
          case measure => rw [HGG.out]; omega
          case rel => exact ⟨k + 1, by omega, rfl, by go_num, (by first | exact hnew | exact hnew.out.below (Below.refl _ _).drew)⟩
      · have hop : (y.op == 0) = false := by rw [beq_eq_false_iff_ne]; exact ho
        have h0 : toTr y.tree = .nil := by
          unfold rightB at hr
          simp only [Bool.and_eq_true, Bool.or_eq_true, beq_iff_eq] at hr
          rcases hr.1.1.2 with h | h
          · exact absurd h ho
          · exact toTr_empty h
        have hnew : Hid (LoadP w l (.slice (some ⟨pg, off, none⟩) n cap) n (k + 1) wr) := hlp.out.skip HY.out h0
        clear hr ho h0
        go_wp2
        go_roundg (n - (k + 1))
        case measure => rw [HGG.out]; omega
        case rel => exact ⟨k + 1, by omega, rfl, by go_num, hnew⟩
    · have hkn : k = n := by omega
      subst hkn
      have hfin : Hid (RMachP wr wr.heap.size (w.heap.size + 1) l (.slice ao k cap) (.slice (some ⟨w.heap.size, 0, none⟩) k k)) := by
        obtain ⟨xs, h1, h2⟩ := hlp.out.row
        rw [show setsK l k = l.map fun x => toTr x.tree from by rw [← HN.out]; exact setsK_all l] at h1
        refine ⟨hlp.out.blk, hgl, (hl.below hbw).mono hbw.size, xs, w.heap.size, h1, by rw [HN.out]; exact h2, fun k' hk' => ?_⟩
        simp only [Value.ownBlock, Option.some.injEq] at hk'
        omega
      clear hbw
      go_wp2
      go_ret
      exact ⟨_, _, rfl, hfin.out, HBW.out⟩

end Go.Proofs.Ytaiomcjopgnfpaa

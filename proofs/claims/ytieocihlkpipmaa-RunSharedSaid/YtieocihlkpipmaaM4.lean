/- The walks of narcissusref03.First and Load. The walks of narcissusref03.Text and Read. The walks of narcissusref03.After and Run. Plain: the programs of the laws of narcissuslaw03. And programs that are written out. The walks of narcissuslaw03: awake and doubles. The walks of the laws of narcissuslaw03: RunRuns. The walks of the laws of narcissuslaw03: RunMore. The walks of the laws of narcissuslaw03: RunAfters. Contracts at a world, for walks that go from call to call. The walks of narcissuslaw03: RunShared. -/
import Derived.Test.YtieocihlkpipmaaM3
import Derived.Test.YtieocihlkpipmaaM2
import Derived.Laws.MakeOwn
namespace Go.Proofs.Ytieocihlkpipmaa
open Go.RowKit

/-- A row of nil pointers. -/
def nilsA (n : Nat) : Array Value := (List.replicate n (.pointer none)).toArray
theorem madeCells_nils (n : Nat) : madeCells (Value.pointer none).cells n = nilsA n := by
  apply Array.ext
  · simp [nilsA, size_madeCells]
  · intro i h1 h2
    simp [madeCells, nilsA, Value.cells, Nat.mod_one]
theorem own_nils {w : World} {e base n : Nat} (hn : n ≤ maxLen) (hb : base ≤ w.heap.size) : (w.alloc (.cells (nilsA n) e)).ownsRow base e 1 (.slice (some ⟨w.heap.size, 0, none⟩) n n) n (List.replicate n (.pointer none)) := by
  refine ⟨by simp, .inr ⟨w.heap.size, n, nilsA n, rfl, hb, heap_alloc_new w _, Nat.le_refl _, hn, by simp [nilsA], ?_⟩⟩
  simp [nilsA]
theorem make_rnodes (n : Nat) (hn : n ≤ 4000) (w : World) : (Instr.makeSlice 105 (.int .i64 (n : Nat)) (.int .i64 (n : Nat))).run Try.prog w = .ok (.slice (some ⟨w.heap.size, 0, none⟩) n n) (w.alloc (.cells (nilsA n) 32)) := by
  obtain ⟨i, hi, hz, hsize, hbytes⟩ := info_parts el_rnode.hi
  have h := run_make (P := Try.prog) w 105 32 i (.pointer none) el_rnode.ht hi hz .i64 .i64 n n (by omega) (by omega) (by rw [hbytes]; omega) (by omega)
  rw [h, hsize]
  simp only [Int.toNat_natCast, Nat.mul_one, madeCells_nils]

set_option maxHeartbeats 1000000 in
theorem rfirst_any (t : Tr) (x : Value) (w : World) (hx : NodeP 114 w t x) :
    Calls Try.prog 56 #[x] w fun e w' => ∃ gs ps, e = .returned (.pointer (some ⟨gs, 0, none⟩)) ∧ RStP w' w.heap.size gs (startS t) (.slice (some ⟨w.heap.size, 0, none⟩) 32 32) ps ∧ Below w.heap.size w w' := by
  obtain ⟨q, rfl⟩ := hx.ptr
  have hmk : ∀ w : World, (Instr.makeSlice 105 (.int .i64 32) (.int .i64 32)).run Try.prog w = .ok (.slice (some ⟨w.heap.size, 0, none⟩) 32 32) (w.alloc (.cells (nilsA 32) 32)) := fun w => make_rnodes 32 (by omega) w
  have hnew : RStP (((w.alloc (.cells (nilsA 32) 32)).alloc (.cells #[.int .i64 0, .slice (some ⟨w.heap.size, 0, none⟩) 32 32] 109)).setCell ⟨w.heap.size, 0, none⟩ (.pointer q)) w.heap.size (w.heap.size + 1) (startS t) (.slice (some ⟨w.heap.size, 0, none⟩) 32 32) (.pointer q :: List.replicate 31 (.pointer none)) ∧ Below w.heap.size w (((w.alloc (.cells (nilsA 32) 32)).alloc (.cells #[.int .i64 0, .slice (some ⟨w.heap.size, 0, none⟩) 32 32] 109)).setCell ⟨w.heap.size, 0, none⟩ (.pointer q)) := by
    have hb0 : Below w.heap.size w ((w.alloc (.cells (nilsA 32) 32)).alloc (.cells #[.int .i64 0, .slice (some ⟨w.heap.size, 0, none⟩) 32 32] 109)) := ((Below.refl _ w).alloc (Nat.le_refl _) _).alloc (by simp) _
    have h1 := heap_alloc_new (w.alloc (.cells (nilsA 32) 32)) (.cells #[.int .i64 0, .slice (some ⟨w.heap.size, 0, none⟩) 32 32] 109)
    rw [World.size_alloc] at h1
    have h2 : ((w.alloc (.cells (nilsA 32) 32)).alloc (.cells #[.int .i64 0, .slice (some ⟨w.heap.size, 0, none⟩) 32 32] 109)).heap[w.heap.size]? = some (.cells (nilsA 32) 32 (0, 0)) := (Below.heap_alloc _ _ _ (by simp)).trans (heap_alloc_new w _)
    have ho := own_below (own_nils (w := w) (e := 32) (base := w.heap.size) (n := 32) (by unfold maxLen; omega) (Nat.le_refl _)) ((Below.refl _ (w.alloc (.cells (nilsA 32) 32))).alloc (Nat.le_refl _) (.cells #[.int .i64 0, .slice (some ⟨w.heap.size, 0, none⟩) 32 32] 109))
    have hK := (Kept.refl 114 ((w.alloc (.cells (nilsA 32) 32)).alloc (.cells #[.int .i64 0, .slice (some ⟨w.heap.size, 0, none⟩) 32 32] 109))).setCell h2 (by decide) (.pointer q) (a := ⟨w.heap.size, 0, none⟩)
    refine ⟨⟨(Below.heap_setCell _ _ _ _ (by show w.heap.size + 1 ≠ w.heap.size; omega)).trans h1, by omega, ⟨(hx.kept (Kept.below hb0)).kept hK, Nodes.nils 31⟩, own_set ho 0 _⟩, hb0.setCell (p := ⟨w.heap.size, 0, none⟩) (Nat.le_refl _) _⟩
  have HNEW := Lib.hid hnew
  have c0 : ((w.alloc (.cells (nilsA 32) 32)).alloc (.cells #[.int .i64 0, .slice (some ⟨w.heap.size, 0, none⟩) 32 32] 109)).cell? ⟨w.heap.size, 0, none⟩ = some (.pointer none) := by
    have h2 : ((w.alloc (.cells (nilsA 32) 32)).alloc (.cells #[.int .i64 0, .slice (some ⟨w.heap.size, 0, none⟩) 32 32] 109)).heap[w.heap.size]? = some (.cells (nilsA 32) 32 (0, 0)) := (Below.heap_alloc _ _ _ (by simp)).trans (heap_alloc_new w _)
    rw [(block_cells h2).1]; rfl
  have f0 : ((w.alloc (.cells (nilsA 32) 32)).alloc (.cells #[.int .i64 0, .slice (some ⟨w.heap.size, 0, none⟩) 32 32] 109)).frozen? ⟨w.heap.size, 0, none⟩ = false := by
    have h2 : ((w.alloc (.cells (nilsA 32) 32)).alloc (.cells #[.int .i64 0, .slice (some ⟨w.heap.size, 0, none⟩) 32 32] 109)).heap[w.heap.size]? = some (.cells (nilsA 32) 32 (0, 0)) := (Below.heap_alloc _ _ _ (by simp)).trans (heap_alloc_new w _)
    exact (block_cells h2).2 0
  clear hnew hx
  go_enter Try.func56, Try.ntmps56
  go_wp2
  go_ret
  have hn := HNEW.out
  rw [World.setCell_alloc_past _ _ _ _ (by simp), World.setCell_alloc_at _ _ _ _ _ rfl] at hn
  exact ⟨_, _, rfl, hn⟩

theorem Els.drew {g : Nat} {w w' : World} (h : Els g w w') : Els g w w'.drew := h.trans (Els.of_below (Below.refl _ _).drew)
/-- The trees of the first k instructions are read. -/
def setsK (l : List Ins) (k : Nat) : List Tr := ((l.take k).map fun x => toTr x.tree) ++ List.replicate (l.length - k) .nil
theorem setsK_succ (l : List Ins) (k : Nat) {x : Ins} (hx : l[k]? = some x) : (setsK l k).set k (toTr x.tree) = setsK l (k + 1) := by
  unfold setsK
  have hkl : k < l.length := (List.getElem?_eq_some_iff.1 hx).1
  have h1 : ((l.take k).map fun x => toTr x.tree).length = k := by simp; omega
  rw [take_snoc' _ _ _ hx, List.map_append, List.set_append_right _ _ (by omega), h1, Nat.sub_self, show l.length - k = (l.length - (k + 1)) + 1 by omega, List.replicate_succ, List.set_cons_zero, List.append_assoc]
  rfl
theorem setsK_none (l : List Ins) (k : Nat) {x : Ins} (hx : l[k]? = some x) (h0 : toTr x.tree = .nil) : setsK l k = setsK l (k + 1) := by
  unfold setsK
  have hkl : k < l.length := (List.getElem?_eq_some_iff.1 hx).1
  rw [take_snoc' _ _ _ hx, List.map_append, show l.length - k = (l.length - (k + 1)) + 1 by omega, List.replicate_succ, List.append_assoc]
  simp only [List.map_cons, List.map_nil, h0]
  rfl
theorem setsK_all (l : List Ins) : setsK l l.length = l.map fun x => toTr x.tree := by unfold setsK; rw [List.take_of_length_le (Nat.le_refl _)]; simp
theorem setsK_length (l : List Ins) (k : Nat) (hk : k ≤ l.length) : (setsK l k).length = l.length := by unfold setsK; simp; omega

/-- A machine of the reference that is being made. -/
structure LoadP (w : World) (l : List Ins) (pv : Value) (n k : Nat) (wr : World) : Prop where
  blk : wr.heap[w.heap.size + 1]? = some (.cells #[pv, .slice (some ⟨w.heap.size, 0, none⟩) n n] 107 (0, 0))
  row : ∃ xs, Nodes 114 wr (setsK l k) xs ∧ wr.ownsRow w.heap.size 32 1 (.slice (some ⟨w.heap.size, 0, none⟩) n n) n xs
  b : Below w.heap.size w wr
theorem LoadP.below {w : World} {l : List Ins} {pv : Value} {n k : Nat} {A B : World} (h : LoadP w l pv n k A) (hb : Below A.heap.size A B) : LoadP w l pv n k B := by
  obtain ⟨xs, h1, h2⟩ := h.row
  exact ⟨(hb.block _ (Array.getElem?_eq_some_iff.1 h.blk).1).trans h.blk, ⟨xs, h1.kept (Kept.below hb), own_below h2 hb⟩, h.b.trans (hb.mono h.b.size)⟩
theorem LoadP.rowblk {w : World} {l : List Ins} {pv : Value} {n k : Nat} {A : World} (h : LoadP w l pv n k A) : ∃ cur, A.heap[w.heap.size]? = some (.cells cur 32 (0, 0)) := by
  obtain ⟨xs, h1, h2⟩ := h.row
  rcases h2.2 with ⟨h0, _⟩ | ⟨g', cap', cur, hv, _, hg, _⟩
  · cases h0
  · simp only [Value.slice.injEq, Option.some.injEq, Addr.mk.injEq] at hv
    obtain ⟨⟨rfl, -, -⟩, -, -⟩ := hv
    exact ⟨cur, hg⟩
theorem LoadP.cellK {w : World} {l : List Ins} {pv : Value} {n k : Nat} {A : World} (h : LoadP w l pv n k A) (j : Nat) (hj : j < n) : (∃ q, A.cell? ⟨w.heap.size, j, none⟩ = some (.pointer q)) ∧ A.frozen? ⟨w.heap.size, j, none⟩ = false := by
  obtain ⟨xs, h1, h2⟩ := h.row
  have hl : xs.length = n := by have := h2.1; simpa using this
  have hx : xs[j]? = some xs[j] := List.getElem?_eq_getElem (by omega)
  have hn : j < (setsK l k).length := by rw [← h1.length]; omega
  obtain ⟨v, hv, hnv⟩ := h1.get (List.getElem?_eq_getElem hn)
  obtain ⟨q, rfl⟩ := hnv.ptr
  exact ⟨⟨q, by rw [World.ownsRow.cellAt h2 j (by omega), hv]⟩, World.ownsRow.frozenAt h2 j⟩
theorem LoadP.set {w : World} {l : List Ins} {pv : Value} {n k : Nat} {A : World} (h : LoadP w l pv n k A) {x : Ins} (hx : l[k]? = some x) {q : Option Addr} (hq : NodeP 114 A (toTr x.tree) (.pointer q)) : LoadP w l pv n (k + 1) (A.setCell ⟨w.heap.size, k, none⟩ (.pointer q)) := by
  obtain ⟨cur, hcur⟩ := h.rowblk
  obtain ⟨xs, h1, h2⟩ := h.row
  have hK := (Kept.refl 114 A).setCell hcur (by decide) (.pointer q) (a := ⟨w.heap.size, k, none⟩)
  refine ⟨(Below.heap_setCell _ _ _ _ (by show w.heap.size + 1 ≠ w.heap.size; omega)).trans h.blk, ⟨_, ?_, own_set h2 k _⟩, h.b.setCell (p := ⟨w.heap.size, k, none⟩) (Nat.le_refl _) _⟩
  rw [← setsK_succ l k hx]
  exact (h1.set k hq).kept hK
theorem LoadP.skip {w : World} {l : List Ins} {pv : Value} {n k : Nat} {A : World} (h : LoadP w l pv n k A) {x : Ins} (hx : l[k]? = some x) (h0 : toTr x.tree = .nil) : LoadP w l pv n (k + 1) A :=
  ⟨h.blk, by rw [← setsK_none l k hx h0]; exact h.row, h.b⟩

set_option maxRecDepth 20000 in
set_option maxHeartbeats 4000000 in
theorem load_any (v : Value) (l : List Ins) (w : World) (hl : InsRow w w.heap.size v l) (hv : validB l = true) :
    Calls Try.prog 26 #[v] w fun e w' => ∃ gm tv, e = .returned (.pointer (some ⟨gm, 0, none⟩)) ∧ RMachP w' w'.heap.size gm l v tv ∧ Below w.heap.size w w' := by
  have hn4 := validB_len hv
  have HV := Lib.hid (validB_all hv)
  obtain ⟨ao, cap, rfl⟩ := hl.len
  obtain ⟨n, hn'⟩ : ∃ n, l.length = n := ⟨_, rfl⟩
  rw [hn'] at hl hn4 ⊢
  have HN := Lib.hid hn'; clear hn' hv
  have hmk := fun w => make_rnodes n hn4 w
  have hs0 : LoadP w l (.slice ao n cap) n 0 ((w.alloc (.cells (nilsA n) 32)).alloc (.cells #[.slice ao n cap, .slice (some ⟨w.heap.size, 0, none⟩) n n] 107)) := by
    have h1 := heap_alloc_new (w.alloc (.cells (nilsA n) 32)) (.cells #[.slice ao n cap, .slice (some ⟨w.heap.size, 0, none⟩) n n] 107)
    rw [World.size_alloc] at h1
    refine ⟨h1, ⟨List.replicate n (.pointer none), ?_, ?_⟩, ((Below.refl _ w).alloc (Nat.le_refl _) _).alloc (by simp) _⟩
    · have : setsK l 0 = List.replicate n .nil := by unfold setsK; simp [HN.out]
      rw [this]; exact Nodes.nils n
    · exact own_below (own_nils (by unfold maxLen; omega) (Nat.le_refl _)) ((Below.refl _ _).alloc (Nat.le_refl _) _)
  have HS := Lib.hid hs0
  clear hs0
  go_enter Try.func26, Try.ntmps26
  go_wp2
  clear hmk
  go_loopg [4] n (fun gg i wr => ∃ k : Nat, k ≤ n ∧ gg = n - k ∧ i = .int .i64 k ∧ Hid (LoadP w l (.slice ao n cap) n k wr))
  case atStart => exact ⟨0, by omega, rfl, rfl, HS.out⟩
  case round =>
    obtain ⟨k, hk, hgg, rfl, hlp⟩ := hrel
    have HGG := Lib.hid hgg
    clear hgg HS
    have hbw := hlp.out.b
    have HBW := Lib.hid hbw
    have hgl : w.heap.size + 1 < wr.heap.size := (Array.getElem?_eq_some_iff.1 hlp.out.blk).1
    by_cases hlt : k < n
    · obtain ⟨y, hy⟩ : ∃ s, l[k]? = some s := ⟨_, List.getElem?_eq_getElem (by rw [HN.out]; exact hlt)⟩
      have hl2 := hl.below hbw
      obtain ⟨pg, off, rfl, hpg, p0, p1, p2, p3, p4⟩ := hl2.get hy
      have hr := rightAll_get HV.out hy
      have HY := Lib.hid hy
      have hi0 : (0 : Int) ≤ (k : Int) := Int.natCast_nonneg _
      have hi1 : (k : Int) < (n : Int) := by omega
      clear hy hl2 hbw p1 p2 p3
      by_cases ho : y.op = 0
      · have hop : (y.op == 0) = true := by rw [ho]; rfl
        have ht : isTree y.tree = true := by
          unfold rightB at hr
          rw [if_pos ho] at hr
          simp only [Bool.and_eq_true] at hr
          exact hr.2.2
        have kr : ∀ w', Calls Try.prog 28 #[.string y.tree] w' fun e w'' => ∃ p, e = .returned (.pointer p) ∧ Hid (NodeP 114 w'' (toTr y.tree) (.pointer p)) ∧ Below w'.heap.size w' w'' := fun w' => by
          have := read_ok (toTr y.tree) (toTr_size _) w'
          rwa [TS_toTr ht] at this
        have c1 := (block_cells hlp.out.blk).1 1
        simp only [List.getElem?_toArray, List.getElem?_cons_zero, List.getElem?_cons_succ] at c1
        have keep : ∀ w', Els w.heap.size wr w' → w'.cell? ⟨w.heap.size + 1, 1, none⟩ = some (.slice (some ⟨w.heap.size, 0, none⟩) n n) ∧ w'.cell? ⟨pg, off + k * 5 + 4, none⟩ = some (.string y.tree) := fun w' hE =>
          ⟨(World.cell?_of_block (hE.block (w.heap.size + 1) hgl (by omega))).trans c1, (World.cell?_of_block (hE.block pg (by omega) (by omega))).trans p4⟩
        clear hr ht ho
        go_wp2
        go_region_held3 (fun w' => w'.cell? ⟨w.heap.size + 1, 1, none⟩ = some (.slice (some ⟨w.heap.size, 0, none⟩) n n) ∧ w'.cell? ⟨pg, off + k * 5 + 4, none⟩ = some (.string y.tree))
          (with_reducible (first | exact keep _ hels | exact keep _ (hels.set _ _) | exact keep _ (hels.set _ _).drew | exact keep _ (Els.refl _ _) | exact keep _ (Els.refl _ _).drew))
          (((with_reducible refine (kr _).mono ?_); rintro e w2 ⟨p, rfl, hnp, hb2⟩; have hb2' : Below wr.heap.size wr w2 := (below_of_drew hb2); have hels : Els w.heap.size wr w2 := Els.of_below hb2'; obtain ⟨⟨qk, ck⟩, fk⟩ := (hlp.out.below hb2').cellK k hlt))
        all_goals
          have hnew : Hid (LoadP w l (.slice (some ⟨pg, off, none⟩) n cap) n (k + 1) (w2.setCell ⟨w.heap.size, k, none⟩ (.pointer p))) := (hlp.out.below hb2').set HY.out hnp.out
          clear keep kr hnp hb2 hb2' hels ck fk c1 p4
          go_wp2
          go_roundg (n - (k + 1))
          case measure => rw [HGG.out]; omega
          case rel => exact ⟨k + 1, by omega, rfl, by go_num, (by first | exact hnew | exact hnew.out.below (Below.refl _ _).drew)⟩
      · have hop : (y.op == 0) = false := by rw [beq_eq_false_iff_ne]; exact ho
        have h0 : toTr y.tree = .nil := by
          unfold rightB at hr
          simp only [Bool.and_eq_true, Bool.or_eq_true, beq_iff_eq] at hr
          rcases hr.1.1.2 with h | h
          · exact absurd h ho
          · exact toTr_empty h
        have hnew : Hid (LoadP w l (.slice (some ⟨pg, off, none⟩) n cap) n (k + 1) wr) := hlp.out.skip HY.out h0
        clear hr ho h0
        go_wp2
        go_roundg (n - (k + 1))
        case measure => rw [HGG.out]; omega
        case rel => exact ⟨k + 1, by omega, rfl, by go_num, hnew⟩
    · have hkn : k = n := by omega
      subst hkn
      have hfin : Hid (RMachP wr wr.heap.size (w.heap.size + 1) l (.slice ao k cap) (.slice (some ⟨w.heap.size, 0, none⟩) k k)) := by
        obtain ⟨xs, h1, h2⟩ := hlp.out.row
        rw [show setsK l k = l.map fun x => toTr x.tree from by rw [← HN.out]; exact setsK_all l] at h1
        refine ⟨hlp.out.blk, hgl, (hl.below hbw).mono hbw.size, xs, w.heap.size, h1, by rw [HN.out]; exact h2, fun k' hk' => ?_⟩
        simp only [Value.ownBlock, Option.some.injEq] at hk'
        omega
      clear hbw
      go_wp2
      go_ret
      exact ⟨_, _, rfl, hfin.out, HBW.out⟩

end Go.Proofs.Ytieocihlkpipmaa

namespace Go.Proofs.Ytieocihlkpipmaa
open Go.RowKit

set_option maxRecDepth 20000 in
set_option maxHeartbeats 4000000 in
theorem rtext_any (w : World) (T gs gr cp n : Nat) (s : St) (ps : List Value) (hm : RStP w T gs s (.slice (some ⟨gr, 0, none⟩) s.regs.length cp) ps) (hg : Good n s) :
    Calls Try.prog 42 #[.pointer (some ⟨gs, 0, none⟩)] w fun e w' => ∃ v', e = .returned (.agg #[.int .i64 s.pos, v']) ∧ StrRow w' w'.heap.size v' (s.regs.map TS) ∧ Below w.heap.size w w' := by
  obtain ⟨c0, c1, cf, cr, crf⟩ := hm.cells
  rw [hg.2.1] at c1
  have hgs : gs < w.heap.size := (Array.getElem?_eq_some_iff.1 hm.blk).1
  have hgr : gr < w.heap.size := hm.rlt
  have HM := Lib.hid hm
  have HG := Lib.hid hg
  have HCR := Lib.hid cr
  clear hm hg cr crf cf
  have hb0 : Below w.heap.size w ((w.alloc (.cells #[.int .i64 0, .slice none 0 0] 53)).alloc (.cells #[.int .i64 s.pos, .slice none 0 0] 53)) := ((Below.refl _ w).alloc (Nat.le_refl _) _).alloc (by simp) _
  have hs0 : MakeS w ((w.alloc (.cells #[.int .i64 0, .slice none 0 0] 53)).alloc (.cells #[.int .i64 s.pos, .slice none 0 0] 53)) s.pos (.slice none 0 0) 0 [] := by
    refine ⟨?_, ?_, World.ownsRow_nil _ _ _ _, hb0⟩
    · have := heap_alloc_new (w.alloc (.cells #[.int .i64 0, .slice none 0 0] 53)) (.cells #[.int .i64 s.pos, .slice none 0 0] 53)
      rwa [World.size_alloc] at this
    · exact (Below.heap_alloc _ _ _ (by simp)).trans (heap_alloc_new w _)
  have HS0 := Lib.hid hs0
  clear hb0 hs0
  go_enter Try.func42, Try.ntmps42
  go_wp2
  go_loopg [4] 32 (fun gg i wr => ∃ (k : Nat) (v : Value), k ≤ 32 ∧ gg = 32 - k ∧ i = .int .i64 k ∧ Aside (MakeS w wr s.pos v k ((s.regs.take k).map fun t => .string (TS t))))
  case atStart => exact ⟨0, _, by omega, rfl, rfl, HS0.out⟩
  case round =>
    clear HS0
    obtain ⟨k, v, hk, hgg, rfl, hm⟩ := hrel
    have HGG := Lib.hid hgg; clear hgg
    have hbw := hm.out.2.2.2
    have e1 := (hbw.cell (p := ⟨gs, 1, none⟩) hgs).trans c1
    by_cases hlt2 : k < 32
    · obtain ⟨t, ht⟩ : ∃ t, s.regs[k]? = some t := ⟨_, List.getElem?_eq_getElem (by rw [HG.out.2.1]; exact hlt2)⟩
      have hsz1 := Lib.hid (HG.out.2.2 t (List.mem_of_getElem? ht))
      obtain ⟨q, hq, hny⟩ := HCR.out k t ht
      have eq1 := (hbw.cell (p := ⟨gr, k, none⟩) hgr).trans hq
      have HNY := Lib.hid ((hny.kept (Kept.below (hbw.mono (Nat.le_refl _)))))
      have HT := Lib.hid ht
      clear hny ht
      have kt : ∀ w', Below wr.heap.size wr w' → Calls Try.prog 29 #[.pointer q] w' fun e w'' => e = .returned (.string (TS t)) ∧ Below wr.heap.size wr w'' := fun w' hb' =>
        (rnodeText_any t _ w' (HNY.out.kept (Kept.below hb')) (by have := hsz1.out; omega)).mono fun e w'' h => ⟨h.1, hb'.trans (h.2.mono hb'.size)⟩
      obtain ⟨a2, cp, rfl⟩ := own_len hm.out.2.2.1
      have HO := Lib.hid hm.out.2.2.1
      have hi0 : (0 : Int) ≤ (k : Int) := Int.natCast_nonneg _
      have hi1 : (k : Int) < 32 := by omega
      have d1 := (block_cells hm.out.1).1 1
      simp only [List.getElem?_toArray, List.getElem?_cons_zero, List.getElem?_cons_succ] at d1
      have HS := Lib.hid hbw.size
      have HB := Lib.hid hbw
      have hlb := Lib.hid (Array.getElem?_eq_some_iff.1 hm.out.1).1
      obtain ⟨S, hS⟩ : ∃ S, TS t = S := ⟨_, rfl⟩
      rw [hS] at kt
      have HTS := Lib.hid hS
      have dk : ∀ w', Below wr.heap.size wr w' → w'.cell? ⟨w.heap.size + 1, 1, none⟩ = some (.slice a2 k cp) := fun w' hb' => (hb'.cell (p := ⟨w.heap.size + 1, 1, none⟩) hlb.out).trans d1
      clear hS hq c0 c1 hbw
      go_wp2
      go_region_law ((first
        | (refine step_new el_str (by rfl) _ _ (by rfl) (by rfl) (own_below HO.out (by first | exact hb1.drew | exact hb1)) [.string S] 1 (by rfl) (by rfl) (by decide) (by intro u hu; simp at hu; subst hu; rfl) (by omega) (by unfold maxLen; omega) (by have h1 := hb1.size; have h2 := hlb.out; omega) (HB.out.trans ((by first | exact hb1 | exact hb1.drew : Below wr.heap.size wr _).mono HS.out)) (by omega) ?_; intro g4 cp4 w4 hown4 hb4 hg4; have hst := hm.out.step (by first | exact hb1 | exact hb1.drew) hg4; have x1 := (block_cells hst.1).1 1; have x2 := (block_cells hst.1).2 1; simp only [List.getElem?_toArray, List.getElem?_cons_zero, List.getElem?_cons_succ] at x1)
        | (go_simp; (with_reducible refine (kt _ (by first | exact Below.refl _ _ | exact (Below.refl _ _).drew)).mono ?_); rintro e w1 ⟨rfl, hb1⟩; have dk1 := dk _ hb1; have dk2 := fun o => dk _ (hb1.alloc hb1.size o))))
      all_goals
        have hnew : Hid (MakeS w (w4.setCell ⟨w.heap.size + 1, 1, none⟩ (.slice (some ⟨g4, 0, none⟩) (k + 1) cp4)) s.pos (.slice (some ⟨g4, 0, none⟩) (k + 1) cp4) (k + 1) ((s.regs.take (k + 1)).map fun t => .string (TS t))) := by
          refine ⟨set_blk hst.1 1 _, (Below.heap_setCell _ _ _ _ (by show w.heap.size ≠ w.heap.size + 1; omega)).trans hst.2, ?_, hb4.setCell (p := ⟨w.heap.size + 1, 1, none⟩) (by show w.heap.size ≤ w.heap.size + 1; omega) _⟩
          rw [take_snoc' _ _ _ HT.out, List.map_append, List.map_cons, List.map_nil, HTS.out]
          exact own_kept hown4 ((Kept.refl _ w4).setCell hst.1 (by decide) _)
        clear hst x1 x2 hown4 hb4 hg4
        go_wp2
        go_roundg (32 - (k + 1))
        case measure => rw [HGG.out]; omega
        case rel => exact ⟨k + 1, _, by omega, rfl, by go_num, hnew⟩
    · have hk32 : k = 32 := by omega
      subst hk32
      have htk : Hid (s.regs.take 32 = s.regs) := List.take_of_length_le (by rw [HG.out.2.1]; exact Nat.le_refl _)
      obtain ⟨a2, cp, rfl⟩ := own_len hm.out.2.2.1
      have d0 := (block_cells hm.out.1).1 0
      have d1 := (block_cells hm.out.1).1 1
      have r0 := (block_cells hm.out.2.1).1 0
      have r1 := (block_cells hm.out.2.1).1 1
      have f0 := (block_cells hm.out.2.1).2 0
      have f1 := (block_cells hm.out.2.1).2 1
      simp only [List.getElem?_toArray, List.getElem?_cons_zero, List.getElem?_cons_succ] at d0 d1 r0 r1
      clear c0 c1 hbw
      go_wp2
      have hb1 := set_blk hm.out.2.1 0 (.int .i64 s.pos)
      have hb2 := set_blk hb1 1 (.slice a2 32 cp)
      have q0 := (block_cells hb2).1 0
      have q1 := (block_cells hb2).1 1
      simp only [List.setIfInBounds_toArray, List.set_cons_zero, List.set_cons_succ, List.getElem?_toArray, List.getElem?_cons_zero, List.getElem?_cons_succ] at q0 q1
      refine bodyPost_ret (v := .agg #[.int .i64 s.pos, .slice a2 32 cp]) (by simp [results, Try.results42, go_sem, q0, q1]) rfl ?_
      refine ⟨_, rfl, ?_, (hm.out.2.2.2.setCell (p := ⟨w.heap.size, 0, none⟩) (Nat.le_refl _) _).setCell (p := ⟨w.heap.size, 1, none⟩) (Nat.le_refl _) _⟩
      have ho := hm.out.2.2.1
      rw [htk.out] at ho
      refine StrRow.of_own (n := 32) (e := 9) (base := w.heap.size + 2) ?_ ?_ ?_
      · rw [List.map_map]
        exact own_kept ho (((Kept.refl _ wr).setCell hm.out.2.1 (by decide) _).setCell hb1 (by decide) _)
      · intro y hy
        obtain ⟨t, ht, rfl⟩ := List.mem_map.1 hy
        have := HG.out.2.2 t ht
        rw [TS_size]; omega
      · rw [List.length_map, HG.out.2.1]; omega

/-- A state of the reference that is being made. -/
structure MakeR (w : World) (n : Int) (u : Value) (L : List ByteArray) (v : Value) (k : Nat) (wr : World) : Prop where
  i : wr.heap[w.heap.size]? = some (.cells #[.int .i64 n, u] 53 (0, 0))
  o : wr.heap[w.heap.size + 1]? = some (.cells #[.int .i64 n, v] 109 (0, 0))
  row : ∃ xs, Nodes 114 wr ((L.take k).map toTr) xs ∧ wr.ownsRow (w.heap.size + 2) 32 1 v k xs
  b : Below w.heap.size w wr
theorem MakeR.below {w : World} {n : Int} {u v : Value} {L : List ByteArray} {k : Nat} {A B : World} (h : MakeR w n u L v k A) (hb : Below A.heap.size A B) : MakeR w n u L v k B := by
  obtain ⟨xs, h1, h2⟩ := h.row
  have q : ∀ (b : Nat) (o : Obj), A.heap[b]? = some o → B.heap[b]? = some o := fun b o ho => (hb.block b (Array.getElem?_eq_some_iff.1 ho).1).trans ho
  exact ⟨q _ _ h.i, q _ _ h.o, ⟨xs, h1.kept (Kept.below hb), own_below h2 hb⟩, h.b.trans (hb.mono h.b.size)⟩
/-- A register more. -/
theorem MakeR.more {w : World} {n : Int} {u v v' : Value} {L : List ByteArray} {k : Nat} {A w4 : World} {xs : List Value} {q : Option Addr} {y : ByteArray} (h : MakeR w n u L v k A) (hy : L[k]? = some y) (hq : NodeP 114 A (toTr y) (.pointer q)) (h1 : Nodes 114 A ((L.take k).map toTr) xs) (h2 : A.ownsRow (w.heap.size + 2) 32 1 v k xs)
    (h3 : w4.ownsRow (w.heap.size + 2) 32 1 v' (k + 1) (xs ++ [.pointer q])) (hb : Below w.heap.size w w4) (hg : Grew A w4 v v' 1) : w4.heap[w.heap.size + 1]? = some (.cells #[.int .i64 n, v] 109 (0, 0)) ∧ MakeR w n u L v' (k + 1) (w4.setCell ⟨w.heap.size + 1, 1, none⟩ v') := by
  have ha := (Array.getElem?_eq_some_iff.1 h.i).1
  have ho := (Array.getElem?_eq_some_iff.1 h.o).1
  have e1 : w4.heap[w.heap.size]? = some (.cells #[.int .i64 n, u] 53 (0, 0)) := (hg.old _ ha (fun e => by have := (h2.lt w.heap.size (by rw [← e])).1; omega)).trans h.i
  have e2 : w4.heap[w.heap.size + 1]? = some (.cells #[.int .i64 n, v] 109 (0, 0)) := (hg.old _ ho (fun e => by have := (h2.lt (w.heap.size + 1) (by rw [← e])).1; omega)).trans h.o
  have hk : Kept 114 A w4 := Kept.grew h2 hg (by decide)
  have hK := (Kept.refl 114 w4).setCell e2 (by decide) v' (a := ⟨w.heap.size + 1, 1, none⟩)
  refine ⟨e2, (Below.heap_setCell _ _ _ _ (by show w.heap.size ≠ w.heap.size + 1; omega)).trans e1, set_blk e2 1 _, ⟨xs ++ [.pointer q], ?_, own_kept h3 ((Kept.refl _ w4).setCell e2 (by decide) _)⟩, hb.setCell (p := ⟨w.heap.size + 1, 1, none⟩) (by show w.heap.size ≤ w.heap.size + 1; omega) _⟩
  rw [take_snoc' _ _ _ hy, List.map_append]
  exact ((h1.kept hk).snoc (hq.kept hk)).kept hK

set_option maxRecDepth 20000 in
set_option maxHeartbeats 4000000 in
theorem rread_any (n : Int) (hn0 : 0 ≤ n) (u : Value) (L : List ByteArray) (hL32 : L.length = 32) (hall : L.all isTree = true) (w : World) (hL : StrRow w w.heap.size u L) :
    Calls Try.prog 57 #[.agg #[.int .i64 n, u]] w fun e w' => ∃ gs gr cp ps, e = .returned (.pointer (some ⟨gs, 0, none⟩)) ∧ RStP w' w.heap.size gs ⟨n.toNat, L.map toTr⟩ (.slice (some ⟨gr, 0, none⟩) 32 cp) ps ∧ w.heap.size ≤ gr ∧ Below w.heap.size w w' := by
  obtain ⟨au, cu, rfl⟩ := hL.len
  rw [hL32] at hL ⊢
  have H32 := Lib.hid hL32
  have HALL := Lib.hid hall
  have hs0 : MakeR w n (.slice au 32 cu) L (.slice none 0 0) 0 ((w.alloc (.cells #[.int .i64 n, .slice au 32 cu] 53)).alloc (.cells #[.int .i64 n, .slice none 0 0] 109)) := by
    have h1 := heap_alloc_new (w.alloc (.cells #[.int .i64 n, .slice au 32 cu] 53)) (.cells #[.int .i64 n, .slice none 0 0] 109)
    rw [World.size_alloc] at h1
    exact ⟨(Below.heap_alloc _ _ _ (by simp)).trans (heap_alloc_new w _), h1, ⟨[], trivial, World.ownsRow_nil _ _ _ _⟩, ((Below.refl _ w).alloc (Nat.le_refl _) _).alloc (by simp) _⟩
  have HS := Lib.hid hs0
  clear hs0 hL32 hall
  go_enter Try.func57, Try.ntmps57
  go_wp2
  go_loopg [4] 32 (fun gg i wr => ∃ (k : Nat) (v : Value), k ≤ 32 ∧ gg = 32 - k ∧ i = .int .i64 k ∧ Hid (MakeR w n (.slice au 32 cu) L v k wr))
  case atStart => exact ⟨0, _, by omega, rfl, rfl, HS.out⟩
  case round =>
    clear HS
    obtain ⟨k, v, hk, hgg, rfl, hm⟩ := hrel
    have HGG := Lib.hid hgg
    have hbw := hm.out.b
    have c1 := (block_cells hm.out.i).1 1
    simp only [List.getElem?_toArray, List.getElem?_cons_zero, List.getElem?_cons_succ] at c1
    clear hgg
    by_cases hlt2 : k < 32
    · obtain ⟨y, hy⟩ : ∃ y, L[k]? = some y := ⟨_, List.getElem?_eq_getElem (by rw [H32.out]; exact hlt2)⟩
      have hl2 := hL.below hbw
      obtain ⟨rg, off, rfl, hrg, hcell⟩ := hl2.get hy
      have ht : isTree y = true := List.all_eq_true.1 HALL.out y (List.mem_of_getElem? hy)
      have HY := Lib.hid hy
      have hi0 : (0 : Int) ≤ (k : Int) := Int.natCast_nonneg _
      have hi1 : (k : Int) < 32 := by omega
      have d1 := (block_cells hm.out.o).1 1
      simp only [List.getElem?_toArray, List.getElem?_cons_zero, List.getElem?_cons_succ] at d1
      have hlo := Lib.hid (Array.getElem?_eq_some_iff.1 hm.out.o).1
      obtain ⟨xs, hx1, hx2⟩ := hm.out.row
      have HX1 := Lib.hid hx1
      have HX2 := Lib.hid hx2
      obtain ⟨a2, cp, rfl⟩ := own_len hx2
      have kt : ∀ w', Below wr.heap.size wr w' → Calls Try.prog 28 #[.string y] w' fun e w'' => ∃ p, e = .returned (.pointer p) ∧ Hid (NodeP 114 w'' (toTr y) (.pointer p)) ∧ Below wr.heap.size wr w'' := fun w' hb' => by
        have := read_ok (toTr y) (toTr_size _) w'
        rw [TS_toTr ht] at this
        exact this.mono fun e w'' ⟨p, h1, h2, h3⟩ => ⟨p, h1, h2, hb'.trans (h3.mono hb'.size)⟩
      have dk : ∀ w', Below wr.heap.size wr w' → w'.cell? ⟨w.heap.size + 1, 1, none⟩ = some (.slice a2 k cp) := fun w' hb' => (hb'.cell (p := ⟨w.heap.size + 1, 1, none⟩) hlo.out).trans d1
      have HBW := Lib.hid hbw
      clear hy hl2 ht hx1 hx2 hbw
      go_wp2
      go_region_law ((first
        | (refine step_new el_rnode (by rfl) _ _ (by rfl) (by rfl) (own_below HX2.out (by first | exact hb1.drew | exact hb1)) [.pointer p] 1 (by rfl) (by rfl) (by decide) (by intro u hu; simp at hu; subst hu; rfl) (by omega) (by unfold maxLen; omega) (by have h1 := hb1.size; have h2 := hlo.out; omega) (HBW.out.trans ((by first | exact hb1 | exact hb1.drew : Below wr.heap.size wr _).mono HBW.out.size)) (by omega) ?_; intro g4 cp4 w4 hown4 hb4 hg4; have hmore := MakeR.more (hm.out.below (by first | exact hb1.drew | exact hb1)) HY.out (hnp.out.kept (by first | exact Kept.refl _ _ | exact (Kept.refl _ _).drew)) (HX1.out.kept (Kept.below (by first | exact hb1.drew | exact hb1))) (own_below HX2.out (by first | exact hb1.drew | exact hb1)) hown4 hb4 hg4; have x1 := (block_cells hmore.1).1 1; have x2 := (block_cells hmore.1).2 1; simp only [List.getElem?_toArray, List.getElem?_cons_zero, List.getElem?_cons_succ] at x1)
        | (go_simp; (with_reducible refine (kt _ (by first | exact Below.refl _ _ | exact (Below.refl _ _).drew)).mono ?_); rintro e w1 ⟨p, rfl, hnp, hb1⟩; have dk1 := dk _ hb1; have dk2 := fun o => dk _ (hb1.alloc hb1.size o))))
      all_goals
        have hnew := Lib.hid hmore.2
        clear hmore x1 x2 hown4 hb4 hg4 kt dk hnp hb1 d1 c1
        go_wp2
        go_roundg (32 - (k + 1))
        case measure => rw [HGG.out]; omega
        case rel => exact ⟨k + 1, _, by omega, rfl, by go_num, (by first | exact hnew | exact hnew.out.below (Below.refl _ _).drew)⟩
    · have hk32 : k = 32 := by omega
      subst hk32
      have hfin : Hid (∃ gr cp ps, RStP wr w.heap.size (w.heap.size + 1) ⟨n.toNat, L.map toTr⟩ (.slice (some ⟨gr, 0, none⟩) 32 cp) ps ∧ w.heap.size ≤ gr) := by
        obtain ⟨xs, h1, h2⟩ := hm.out.row
        rw [List.take_of_length_le (by rw [H32.out]; exact Nat.le_refl _)] at h1
        obtain ⟨gr, cp, rfl, hgb, _⟩ := own_cells h2 (by omega)
        refine ⟨gr, cp, xs, ⟨?_, by omega, h1, ?_⟩, by omega⟩
        · have ho := hm.out.o
          rw [show n = ((n.toNat : Nat) : Int) by omega] at ho
          exact ho
        · have hlen : (L.map toTr).length = 32 := by simp [H32.out]
          show wr.ownsRow w.heap.size 32 1 _ (L.map toTr).length xs
          rw [hlen]
          refine ⟨h2.1, ?_⟩
          rcases h2.2 with h | ⟨g', cap', cur, hv, hb, r⟩
          · exact .inl h
          · exact .inr ⟨g', cap', cur, hv, by omega, r⟩
      have HBW := Lib.hid hbw
      clear hbw
      go_wp2
      go_ret
      obtain ⟨gr, cp, ps, h1, h2⟩ := hfin.out
      exact ⟨_, gr, cp, ps, rfl, h1, h2, HBW.out⟩

end Go.Proofs.Ytieocihlkpipmaa

namespace Go.Proofs.Ytieocihlkpipmaa
open Go.RowKit

theorem refstep_some {w : World} {T gm gs gr cp : Nat} {l : List Ins} {s s' : St} {pv tv : Value} {ps : List Value} (hm : RMachP w T gm l pv tv) (hs : RStP w T gs s (.slice (some ⟨gr, 0, none⟩) 32 cp) ps) (hgr : T ≤ gr) (hg : Good l.length s) (hn4 : l.length ≤ 4000) (hv : rightAll l = true) (hp : s.pos < l.length) (h : stepP l s = some s') :
    Calls Try.prog 59 #[.pointer (some ⟨gm, 0, none⟩), .pointer (some ⟨gs, 0, none⟩)] w fun e w' => e = .returned (.bool true) ∧ Hid ((∃ ps', RStP w' T gs s' (.slice (some ⟨gr, 0, none⟩) 32 cp) ps') ∧ Below T w w' ∧ Kept 114 w w') := by
  have h32 := hg.2.1
  have := refstep_any w T gm gs gr cp l s pv tv ps hm (by rw [h32]; exact hs) hgr hg hn4 hv hp
  refine this.mono ?_
  intro e w' ho
  unfold RStepOut at ho
  rw [h, h32] at ho
  obtain ⟨ps', h1, h2, h3, h4⟩ := ho
  exact ⟨h1, ⟨ps', h2⟩, h3, h4⟩
theorem refstep_none {w : World} {T gm gs gr cp : Nat} {l : List Ins} {s : St} {pv tv : Value} {ps : List Value} (hm : RMachP w T gm l pv tv) (hs : RStP w T gs s (.slice (some ⟨gr, 0, none⟩) 32 cp) ps) (hgr : T ≤ gr) (hg : Good l.length s) (hn4 : l.length ≤ 4000) (hv : rightAll l = true) (hp : s.pos < l.length) (h : stepP l s = none) :
    Calls Try.prog 59 #[.pointer (some ⟨gm, 0, none⟩), .pointer (some ⟨gs, 0, none⟩)] w fun e w' => e = .returned (.bool false) ∧ Hid ((∃ ps', RStP w' T gs s (.slice (some ⟨gr, 0, none⟩) 32 cp) ps') ∧ Below T w w' ∧ Kept 114 w w') := by
  have h32 := hg.2.1
  have := refstep_any w T gm gs gr cp l s pv tv ps hm (by rw [h32]; exact hs) hgr hg hn4 hv hp
  refine this.mono ?_
  intro e w' ho
  unfold RStepOut at ho
  rw [h, h32] at ho
  exact ⟨ho.1, ho.2⟩
theorem rended_at (b : Bool) (w : World) (B g h : Nat) (l : List Ins) (s : St) (pv tv rv : Value) (T : Nat) (ps : List Value) (hm : RMachP w B g l pv tv) (hs : RStP w T h s rv ps) (hb : ((s.pos : Int) == (l.length : Int)) = b) :
    Calls Try.prog 58 #[.pointer (some ⟨g, 0, none⟩), .pointer (some ⟨h, 0, none⟩)] w fun e w' => e = .returned (.bool b) ∧ Below w.heap.size w w' := by
  refine (rended_any w B g h l s pv tv rv T ps hm hs).mono ?_
  rintro e w' ⟨rfl, nq, rfl⟩
  exact ⟨by rw [hb], below_drewN (Below.refl _ _) nq⟩
/-- The reference's machine and its state. -/
structure RAt (w : World) (gm gs : Nat) (l : List Ins) (pv tv : Value) (s : St) (rv : Value) (wr : World) : Prop where
  m : RMachP wr w.heap.size gm l pv tv
  s : ∃ ps, RStP wr w.heap.size gs s rv ps
  b : Below w.heap.size w wr
theorem RAt.below {w : World} {gm gs : Nat} {l : List Ins} {pv tv rv : Value} {s : St} {A B : World} (h : RAt w gm gs l pv tv s rv A) (hb : Below A.heap.size A B) : RAt w gm gs l pv tv s rv B := by
  obtain ⟨ps, h1⟩ := h.s
  exact ⟨h.m.kept (hb.mono h.b.size) (Kept.below hb), ⟨ps, h1.kept hb⟩, h.b.trans (hb.mono h.b.size)⟩

/-- What After of the reference hands back. -/
def RAftOut (w : World) (s : St) (n : Nat) (e : Ending) (w' : World) : Prop :=
  ∃ gs gr cp ps, e = .returned (.tuple #[.pointer (some ⟨gs, 0, none⟩), .int .i64 n, .bool true]) ∧ RStP w' w.heap.size gs s (.slice (some ⟨gr, 0, none⟩) 32 cp) ps ∧ w.heap.size ≤ gr ∧ Below w.heap.size w w'
def RAftBig (w : World) (e : Ending) (w' : World) : Prop := ∃ p n, e = .returned (.tuple #[.pointer p, .int .i64 n, .bool false]) ∧ Below w.heap.size w w'
def RAft (w : World) : Res → Ending → World → Prop
  | .done s n => RAftOut w s n
  | .fuel s n => RAftOut w s n
  | .big => RAftBig w

set_option maxRecDepth 20000 in
set_option maxHeartbeats 2000000 in
theorem rafter_any (w : World) (gm : Nat) (l : List Ins) (pv tv : Value) (t : Tr) (x : Value) (K : Nat) (hK : K ≤ 100000000) (hm : RMachP w w.heap.size gm l pv tv) (hx : NodeP 114 w t x) (ht : t.size ≤ 2000000) (hv : rightAll l = true) (hn4 : l.length ≤ 4000) :
    Calls Try.prog 40 #[.pointer (some ⟨gm, 0, none⟩), x, .int .i64 K] w (RAft w (goF l K 0 (startS t))) := by
  obtain ⟨R, hR⟩ : ∃ R, goF l K 0 (startS t) = R := ⟨_, rfl⟩
  rw [hR]
  have HR := Lib.hid hR
  have kf := rfirst_any t x w hx
  have HG := Lib.hid (Good.start l.length t ht)
  have HV := Lib.hid hv
  obtain ⟨q, rfl⟩ := hx.ptr
  have HM := Lib.hid hm
  clear hR hx hv hm
  go_enter Try.func40, Try.ntmps40
  go_wp2_with fail
  refine kf.mono ?_
  rintro e w1 ⟨gs, ps, rfl, hs, hb1⟩
  have HA := Lib.hid (show RAt w gm gs l pv tv (startS t) (.slice (some ⟨w.heap.size, 0, none⟩) 32 32) w1 from ⟨HM.out.kept hb1 (Kept.below hb1), ⟨ps, hs⟩, hb1⟩)
  clear kf hs hb1
  go_wp2
  go_loopg [10] K (fun gg i wr => ∃ j : Nat, j ≤ K ∧ gg = K - j ∧ i = .int .i64 j ∧ Hid (Reach l (startS t) j) ∧ Hid (RAt w gm gs l pv tv (stN l (startS t) j) (.slice (some ⟨w.heap.size, 0, none⟩) 32 32) wr))
  case atStart => exact ⟨0, by omega, rfl, rfl, Reach.zero _ _, HA.out⟩
  case round =>
    obtain ⟨j, hj, hgg, rfl, hre, hat⟩ := hrel
    have HGG := Lib.hid hgg
    have HGJ := Lib.hid (hre.out.good HV.out HG.out)
    clear hgg HA
    by_cases hlt : j < K
    · obtain ⟨be, hbe⟩ : ∃ be, (((stN l (startS t) j).pos : Int) == (l.length : Int)) = be := ⟨_, rfl⟩
      obtain ⟨ps1, hs1⟩ := hat.out.s
      have ke := rended_at be wr _ gm gs l _ pv tv _ _ ps1 hat.out.m hs1 hbe
      have HBE := Lib.hid hbe
      clear hbe hs1
      cases be with
      | true =>
        have hfin : Hid (R = .done (stN l (startS t) j) j) := by
          rw [← HR.out, hre.out.goF K hj, goF_done (by have := eq_of_beq HBE.out; omega)]; exact rfl
        go_wp2_with fail
        refine ke.mono ?_
        rintro e w2 ⟨rfl, hb2⟩
        have HA2 := Lib.hid (hat.out.below hb2)
        clear ke hb2
        go_wp2
        go_ret3
        rw [hfin.out]
        obtain ⟨ps2, h2⟩ := HA2.out.s
        exact ⟨gs, _, _, ps2, rfl, h2, Nat.le_refl _, HA2.out.b⟩
      | false =>
        have hpos : (stN l (startS t) j).pos ≠ l.length := by
          intro h
          have h1 := HBE.out
          rw [h] at h1
          simp at h1
        have hpl : (stN l (startS t) j).pos < l.length := by have := HGJ.out.1; omega
        have HP := Lib.hid hpos
        have HPL := Lib.hid hpl
        clear hpos hpl
        go_wp2_with fail
        refine ke.mono ?_
        rintro e w2 ⟨rfl, hb2⟩
        have HA2 := Lib.hid (hat.out.below hb2)
        obtain ⟨ps2, hs2⟩ := HA2.out.s
        cases hst : stepP l (stN l (startS t) j) with
        | none =>
          have ks := refstep_none HA2.out.m hs2 (Nat.le_refl _) HGJ.out hn4 HV.out HPL.out hst
          have hfin : Hid (R = .big) := by
            rw [← HR.out, hre.out.goF K hj, show K - j = (K - j - 1) + 1 by omega, goF_big HP.out hst]; exact rfl
          clear ke hb2 hs2 hst
          go_wp2_with fail
          refine ks.mono ?_
          rintro e w3 ⟨rfl, hE⟩
          have HB3 := Lib.hid (HA2.out.b.trans hE.out.2.1)
          clear ks hE
          go_wp2
          go_ret3
          rw [hfin.out]
          exact ⟨_, _, rfl, HB3.out⟩
        | some s' =>
          have ks := refstep_some HA2.out.m hs2 (Nat.le_refl _) HGJ.out hn4 HV.out HPL.out hst
          have HRE := Lib.hid (hre.out.succ HP.out hst)
          have HST := Lib.hid (stN_succ hst)
          clear ke hb2 hs2 hst
          go_wp2_with fail
          refine ks.mono ?_
          rintro e w3 ⟨rfl, hE⟩
          have HA3 := Lib.hid (show RAt w gm gs l pv tv (stN l (startS t) (j + 1)) (.slice (some ⟨w.heap.size, 0, none⟩) 32 32) w3 from ⟨HA2.out.m.kept hE.out.2.1 hE.out.2.2, by rw [HST.out]; exact hE.out.1, HA2.out.b.trans hE.out.2.1⟩)
          clear ks hE
          go_wp2
          go_roundg (K - (j + 1))
          case measure => rw [HGG.out]; omega
          case rel => exact ⟨j + 1, by omega, rfl, by go_num, HRE, HA3⟩
    · have hjk : j = K := by omega
      have hfin : Hid (R = .done (stN l (startS t) j) j ∨ R = .fuel (stN l (startS t) j) j) := by
        show R = .done (stN l (startS t) j) j ∨ R = .fuel (stN l (startS t) j) j
        rw [← HR.out, hre.out.goF K hj, hjk, Nat.sub_self]
        by_cases h : (stN l (startS t) K).pos = l.length
        · exact .inl (goF_done h)
        · exact .inr (goF_zero h)
      clear hjk
      go_wp2
      go_ret3
      obtain ⟨ps2, h2⟩ := hat.out.s
      rcases hfin.out with h | h
      all_goals
        rw [h]
        exact ⟨gs, _, _, ps2, rfl, h2, Nat.le_refl _, hat.out.b⟩

/-- What Run of the reference hands back. -/
def Res.rrun : Res → Tr × Nat × Int
  | .done s n => (getR s.regs 0, n, 0)
  | .fuel _ _ => (.nil, 0, 7)
  | .big => (.nil, 0, 3)
def RRunOut (w : World) (y : Tr) (n : Nat) (er : Int) (e : Ending) (w' : World) : Prop := ∃ q, e = .returned (.tuple #[.pointer q, .int .i64 n, .int .i64 er]) ∧ NodeP 114 w' y (.pointer q) ∧ Below w.heap.size w w'
theorem goF_done_pos {l : List Ins} : ∀ {f n : Nat} {s s' : St} {k : Nat}, goF l f n s = .done s' k → s'.pos = l.length := by
  intro f
  induction f with
  | zero =>
    intro n s s' k h
    by_cases hp : s.pos = l.length
    · rw [goF_done hp] at h; cases h; exact hp
    · rw [goF_zero hp] at h; cases h
  | succ f ih =>
    intro n s s' k h
    by_cases hp : s.pos = l.length
    · rw [goF_done hp] at h; cases h; exact hp
    · cases hs : stepP l s with
      | none => rw [goF_big hp hs] at h; cases h
      | some s1 => rw [goF_step hp hs] at h; exact ih h
theorem goF_fuel_pos {l : List Ins} : ∀ {f n : Nat} {s s' : St} {k : Nat}, goF l f n s = .fuel s' k → s'.pos ≠ l.length := by
  intro f
  induction f with
  | zero =>
    intro n s s' k h
    by_cases hp : s.pos = l.length
    · rw [goF_done hp] at h; cases h
    · rw [goF_zero hp] at h; cases h; exact hp
  | succ f ih =>
    intro n s s' k h
    by_cases hp : s.pos = l.length
    · rw [goF_done hp] at h; cases h
    · cases hs : stepP l s with
      | none => rw [goF_big hp hs] at h; cases h
      | some s1 => rw [goF_step hp hs] at h; exact ih h
/-- Where a run goes on or ends the state is good. -/
theorem goF_good {l : List Ins} (hv : rightAll l = true) : ∀ {f n : Nat} {s : St}, Good l.length s → (∀ s' k, goF l f n s = .done s' k → Good l.length s') ∧ (∀ s' k, goF l f n s = .fuel s' k → Good l.length s') := by
  intro f
  induction f with
  | zero =>
    intro n s hg
    by_cases hp : s.pos = l.length
    · rw [goF_done hp]; exact ⟨(fun s' k h => by cases h; exact hg), (fun s' k h => by cases h)⟩
    · rw [goF_zero hp]; exact ⟨(fun s' k h => by cases h), (fun s' k h => by cases h; exact hg)⟩
  | succ f ih =>
    intro n s hg
    by_cases hp : s.pos = l.length
    · rw [goF_done hp]; exact ⟨(fun s' k h => by cases h; exact hg), (fun s' k h => by cases h)⟩
    · cases hs : stepP l s with
      | none => rw [goF_big hp hs]; exact ⟨(fun s' k h => by cases h), (fun s' k h => by cases h)⟩
      | some s1 => rw [goF_step hp hs]; exact ih (hg.step hv hs)

set_option maxHeartbeats 2000000 in
theorem rrun_any (w : World) (gm : Nat) (l : List Ins) (pv tv : Value) (t : Tr) (x : Value) (K : Nat) (hK : K ≤ 100000000) (hm : RMachP w w.heap.size gm l pv tv) (hx : NodeP 114 w t x) (ht : t.size ≤ 2000000) (hv : rightAll l = true) (hn4 : l.length ≤ 4000) :
    Calls Try.prog 27 #[.pointer (some ⟨gm, 0, none⟩), x, .int .i64 K] w (RRunOut w (goF l K 0 (startS t)).rrun.1 (goF l K 0 (startS t)).rrun.2.1 (goF l K 0 (startS t)).rrun.2.2) := by
  have ka := rafter_any w gm l pv tv t x K hK hm hx ht hv hn4
  have hgood := goF_good hv (f := K) (n := 0) (Good.start l.length t ht)
  obtain ⟨q, rfl⟩ := hx.ptr
  cases hR : goF l K 0 (startS t) with
  | big =>
    rw [hR] at ka
    clear hm hx hR hgood
    go_enter Try.func27, Try.ntmps27
    go_wp2_with fail
    refine ka.mono ?_
    rintro e w1 ⟨p, n, rfl, hb1⟩
    clear ka
    go_wp2
    go_ret3
    exact ⟨_, rfl, rfl, hb1⟩
  | fuel s n =>
    have hp := goF_fuel_pos hR
    rw [hR] at ka
    have hbe : ((s.pos : Int) == (l.length : Int)) = false := by rw [beq_eq_false_iff_ne]; omega
    have HM := Lib.hid hm
    have HBE := Lib.hid hbe
    clear hm hx hR hgood hp hbe
    go_enter Try.func27, Try.ntmps27
    go_wp2_with fail
    refine ka.mono ?_
    rintro e w1 ⟨gs, gr, cp, ps, rfl, hs, hgr, hb1⟩
    have ke := rended_at false w1 _ gm gs l s pv tv _ _ ps (HM.out.kept hb1 (Kept.below hb1)) hs HBE.out
    clear ka hs
    go_wp2_with fail
    refine ke.mono ?_
    rintro e w2 ⟨rfl, hb2⟩
    clear ke
    go_wp2
    go_ret3
    exact ⟨_, rfl, rfl, hb1.trans (hb2.mono hb1.size)⟩
  | done s n =>
    have hp := goF_done_pos hR
    have hg := hgood.1 s n hR
    rw [hR] at ka
    have hbe : ((s.pos : Int) == (l.length : Int)) = true := by rw [beq_iff_eq]; omega
    have HM := Lib.hid hm
    have HBE := Lib.hid hbe
    have HG := Lib.hid hg
    clear hm hx hR hgood hp hbe hg
    go_enter Try.func27, Try.ntmps27
    go_wp2_with fail
    refine ka.mono ?_
    rintro e w1 ⟨gs, gr, cp, ps, rfl, hs, hgr, hb1⟩
    have ke := rended_at true w1 _ gm gs l s pv tv _ _ ps (HM.out.kept hb1 (Kept.below hb1)) hs HBE.out
    have HS := Lib.hid hs
    clear ka hs
    go_wp2_with fail
    refine ke.mono ?_
    rintro e w2 ⟨rfl, hb2⟩
    have hs2 := HS.out.kept hb2
    rw [← HG.out.2.1] at hs2
    obtain ⟨d0, d1, df, dr, drf⟩ := hs2.cells
    rw [HG.out.2.1] at d1
    obtain ⟨t0, ht0⟩ : ∃ t, s.regs[0]? = some t := ⟨_, List.getElem?_eq_getElem (by rw [HG.out.2.1]; omega)⟩
    obtain ⟨q0, cq0, nq0⟩ := dr 0 t0 ht0
    have HN := Lib.hid nq0
    have HT := Lib.hid ht0
    clear ke hs2 dr drf df nq0 ht0
    go_wp2
    go_ret3
    refine ⟨q0, rfl, ?_, hb1.trans (hb2.mono hb1.size)⟩
    have : getR s.regs 0 = t0 := getR_nat (r := 0) HT.out
    show NodeP _ _ (getR s.regs 0) _
    rw [this]; exact HN.out

end Go.Proofs.Ytieocihlkpipmaa

namespace Go.Proofs.Ytieocihlkpipmaa
open Go.RowKit

theorem InsRow.new {w : World} {T : Nat} (l : List Ins) (hwf : ∀ x ∈ l, x.wf) (hlen : l.length ≤ 4000) : InsRow (w.alloc (.cells (inscells l).toArray T)) (w.alloc (.cells (inscells l).toArray T)).heap.size (.slice (some ⟨w.heap.size, 0, none⟩) l.length l.length) l := by
  refine ⟨hwf, by omega, .inr ⟨w.heap.size, 0, l.length, rfl, by simp, fun j x hj k u hk => ?_⟩⟩
  rw [(block_cells (heap_alloc_new w _)).1, List.getElem?_toArray, Nat.zero_add]
  exact inscells_get l j x hj k u hk
theorem wf_lit (op a b c : Int) (s : ByteArray) (h1 : i64 op) (h2 : i64 a) (h3 : i64 b) (h4 : i64 c) (h5 : s.size ≤ 140737488355328) : (⟨op, a, b, c, s⟩ : Ins).wf := ⟨h1, h2, h3, h4, h5⟩

/-- A state in which a step changes nothing. -/
theorem goF_loop {l : List Ins} {s : St} (hp : s.pos ≠ l.length) (hs : stepP l s = some s) : ∀ f n, ∃ m, goF l f n s = .fuel s m := by
  intro f
  induction f with
  | zero => intro n; exact ⟨n, goF_zero hp⟩
  | succ f ih => intro n; rw [goF_step hp hs]; exact ih _

/-- The program that doubles register 0 again and again. -/
def dblP : List Ins := [⟨2, 0, 0, 0, ⟨#[]⟩⟩, ⟨5, 0, -1, 0, ⟨#[]⟩⟩]
def dblT (t : Tr) : Nat → Tr
  | 0 => t
  | k + 1 => .pair (dblT t k) (dblT t k)
theorem dblT_size (t : Tr) (k : Nat) : (dblT t k).size + 1 = 2 ^ k * (t.size + 1) := by
  induction k with
  | zero => simp [dblT]
  | succ k ih => simp only [dblT, Tr.size]; rw [Nat.pow_succ, Nat.mul_right_comm]; omega
theorem dblT_mono (t : Tr) (j k : Nat) (h : j ≤ k) : (dblT t j).size ≤ (dblT t k).size := by
  have h1 := dblT_size t j
  have h2 := dblT_size t k
  have h3 : 2 ^ j ≤ 2 ^ k := Nat.pow_le_pow_right (by omega) h
  have h4 := Nat.mul_le_mul_right (t.size + 1) h3
  omega
theorem dblT_comm (t : Tr) (k : Nat) : dblT (.pair t t) k = dblT t (k + 1) := by
  induction k with
  | zero => rfl
  | succ k ih => simp only [dblT] at *; rw [ih]
theorem stepX_cons {x : Ins} {s : St} (h2 : x.op = 2) (h : (Tr.pair (getR s.regs x.b) (getR s.regs x.c)).size ≤ 2000000) : stepX x s = some ⟨s.pos + 1, setR s.regs x.a (.pair (getR s.regs x.b) (getR s.regs x.c))⟩ := by
  unfold stepX
  rw [if_neg (by omega), if_neg (by omega), if_pos h2, if_pos h]
theorem stepX_big {x : Ins} {s : St} (h2 : x.op = 2) (h : 2000000 < (Tr.pair (getR s.regs x.b) (getR s.regs x.c)).size) : stepX x s = none := by
  unfold stepX
  rw [if_neg (by omega), if_neg (by omega), if_pos h2, if_neg (by omega)]
theorem stepX_go {x : Ins} {s : St} (h2 : x.op = 5) (h : getR s.regs x.a ≠ .nil) : stepX x s = some ⟨(s.pos + x.b).toNat, s.regs⟩ := by
  unfold stepX
  rw [if_neg (by omega), if_neg (by omega), if_neg (by omega), if_neg (by omega), if_neg (by omega), if_neg h]
theorem dbl_cons (t : Tr) (rs : List Tr) (h : (Tr.pair t t).size ≤ 2000000) : stepP dblP ⟨0, t :: rs⟩ = some ⟨1, .pair t t :: rs⟩ :=
  stepX_cons (x := ⟨2, 0, 0, 0, ⟨#[]⟩⟩) (s := ⟨0, t :: rs⟩) rfl h
theorem dbl_big (t : Tr) (rs : List Tr) (h : 2000000 < (Tr.pair t t).size) : stepP dblP ⟨0, t :: rs⟩ = none :=
  stepX_big (x := ⟨2, 0, 0, 0, ⟨#[]⟩⟩) (s := ⟨0, t :: rs⟩) rfl h
theorem dbl_jump (a b : Tr) (rs : List Tr) : stepP dblP ⟨1, .pair a b :: rs⟩ = some ⟨0, .pair a b :: rs⟩ :=
  stepX_go (x := ⟨5, 0, -1, 0, ⟨#[]⟩⟩) (s := ⟨1, .pair a b :: rs⟩) rfl (by show Tr.pair a b ≠ .nil; exact fun h => by cases h)
theorem dbl_run (rs : List Tr) : ∀ (k f n : Nat) (t : Tr), (dblT t k).size ≤ 2000000 → goF dblP (f + 2 * k) n ⟨0, t :: rs⟩ = goF dblP f (n + 2 * k) ⟨0, dblT t k :: rs⟩ := by
  intro k
  induction k with
  | zero => intro f n t _; rfl
  | succ k ih =>
    intro f n t h
    have h1 : (Tr.pair t t).size ≤ 2000000 := Nat.le_trans (dblT_mono t 1 (k + 1) (by omega)) h
    rw [show f + 2 * (k + 1) = (f + 2 * k) + 1 + 1 by omega, goF_step (by simp [dblP]) (dbl_cons t rs h1), goF_step (by simp [dblP]) (dbl_jump t t rs), ih _ _ _ (by rw [dblT_comm]; exact h), dblT_comm, show n + 1 + 1 + 2 * k = n + 2 * (k + 1) by omega]
theorem dbl_valid : validB dblP = true := by decide +kernel
theorem dbl_aw : (goF dblP 1000 0 (startS .nil)).run = (⟨#[]⟩, 0, 3) := by
  have h1 := dblT_size .nil 19
  have h2 := dblT_size .nil 20
  have h3 := dbl_run (List.replicate 31 .nil) 19 962 0 .nil (by simp only [Tr.size] at h1; omega)
  have h4 : goF dblP 1000 0 (startS .nil) = .big := by
    refine h3.trans (goF_big (by decide) (dbl_big _ _ ?_))
    show 2000000 < (dblT .nil 20).size
    simp only [Tr.size] at h2; omega
  rw [h4]; rfl

def awA : List Ins := [⟨4, 0, 0, 0, ⟨#[]⟩⟩]
def awB : List Ins := [⟨0, 1, 0, 0, ⟨#[49, 48, 48]⟩⟩, ⟨5, 1, 0, 0, ⟨#[]⟩⟩]
theorem awA_run : (goF awA 10 0 (startS (.pair .nil (.pair .nil .nil)))).run = (⟨#[49, 48, 48]⟩, 1, 0) := by rfl
theorem awN_run : (goF [] 0 0 (startS (.pair .nil .nil))).run = (⟨#[49, 48, 48]⟩, 0, 0) := by rfl
theorem awB_run : (goF awB 1000 0 (startS .nil)).run = (⟨#[]⟩, 0, 7) := by
  have h1 : stepP awB (startS .nil) = some ⟨1, .nil :: .pair .nil .nil :: List.replicate 30 .nil⟩ := by rfl
  have h2 : stepP awB ⟨1, .nil :: .pair .nil .nil :: List.replicate 30 .nil⟩ = some ⟨1, .nil :: .pair .nil .nil :: List.replicate 30 .nil⟩ := by rfl
  obtain ⟨m, hm⟩ := goF_loop (l := awB) (by decide) h2 999 1
  rw [show (1000 : Nat) = 999 + 1 from rfl, goF_step (by decide) h1, hm]; rfl
theorem awA_valid : validB awA = true := by decide +kernel
theorem awN_valid : validB [] = true := by decide
theorem awB_valid : validB awB = true := by decide +kernel

end Go.Proofs.Ytieocihlkpipmaa

namespace Go.Proofs.Ytieocihlkpipmaa
open Go.RowKit

/-- A contract relative to a world. -/
def Ct (w : World) (f : Nat) (args : Array Value) (v : Value) : Prop := ∀ w', Below w.heap.size w w' → Calls Try.prog f args w' fun e w'' => e = .returned v ∧ Below w.heap.size w w''
theorem Ct.of {w : World} {f : Nat} {args : Array Value} {v : Value} (h : ∀ w', Below w.heap.size w w' → Calls Try.prog f args w' fun e w'' => e = .returned v ∧ Below w'.heap.size w' w'') : Ct w f args v :=
  fun w' hb => (h w' hb).mono fun e w'' h2 => ⟨h2.1, hb.trans (h2.2.mono hb.size)⟩
theorem Ct.of_any {w : World} {f : Nat} {args : Array Value} {v : Value} (h : ∀ w', Calls Try.prog f args w' fun e w'' => e = .returned v ∧ Below w'.heap.size w' w'') : Ct w f args v := Ct.of fun w' _ => h w'
theorem Ct.of_same {w : World} {f : Nat} {args : Array Value} {v : Value} (h : ∀ w', Calls Try.prog f args w' fun e w'' => e = .returned v ∧ w' = w'') : Ct w f args v :=
  fun w' hb => (h w').mono fun e w'' h2 => ⟨h2.1, by rw [← h2.2]; exact hb⟩
theorem Ct.rebase {w w1 : World} {f : Nat} {args : Array Value} {v : Value} (h : Ct w f args v) (hb1 : Below w.heap.size w w1) : ∀ w', Below w1.heap.size w1 w' → Calls Try.prog f args w' fun e w'' => e = .returned v ∧ Below w.heap.size w w'' := fun w' hb => h w' (hb1.trans (hb.mono hb1.size))

/-- Run, where it may run. -/
theorem run_ct {w : World} {v : Value} {l : List Ins} (hl : InsRow w w.heap.size v l) (hv : validB l = true) (t : Tr) (ht : t.size ≤ 2000000) (fuel : Nat) (hf : fuel ≤ 10000000) (y : ByteArray) (k : Nat) (er : Int) (hres : (goF l fuel 0 (startS t)).run = (y, k, er)) :
    Ct w 21 #[v, .string (TS t), .int .i64 fuel] (.tuple #[.string y, .int .i64 k, .int .i64 er]) :=
  Ct.of fun w' hb => run_ok v l t ht fuel hf w' ((hl.below hb).mono hb.size) hv y k er hres

theorem awA_new (w : World) : InsRow (w.alloc (.cells #[.int .i64 4, .int .i64 0, .int .i64 0, .int .i64 0, .string ⟨#[]⟩] 73)) (w.alloc (.cells #[.int .i64 4, .int .i64 0, .int .i64 0, .int .i64 0, .string ⟨#[]⟩] 73)).heap.size (.slice (some ⟨w.heap.size, 0, none⟩) 1 1) awA :=
  InsRow.new (w := w) (T := 73) awA (by intro x hx; simp [awA] at hx; subst hx; exact wf_lit _ _ _ _ _ (by unfold i64; decide) (by unfold i64; decide) (by unfold i64; decide) (by unfold i64; decide) (by decide)) (by decide)
theorem awB_new (w : World) : InsRow (w.alloc (.cells #[.int .i64 0, .int .i64 1, .int .i64 0, .int .i64 0, .string ⟨#[49, 48, 48]⟩, .int .i64 5, .int .i64 1, .int .i64 0, .int .i64 0, .string ⟨#[]⟩] 73)) (w.alloc (.cells #[.int .i64 0, .int .i64 1, .int .i64 0, .int .i64 0, .string ⟨#[49, 48, 48]⟩, .int .i64 5, .int .i64 1, .int .i64 0, .int .i64 0, .string ⟨#[]⟩] 73)).heap.size (.slice (some ⟨w.heap.size, 0, none⟩) 2 2) awB :=
  InsRow.new (w := w) (T := 73) awB (by intro x hx; simp [awB] at hx; rcases hx with rfl | rfl <;> exact wf_lit _ _ _ _ _ (by unfold i64; decide) (by unfold i64; decide) (by unfold i64; decide) (by unfold i64; decide) (by decide)) (by decide)
theorem dblP_new (w : World) : InsRow (w.alloc (.cells #[.int .i64 2, .int .i64 0, .int .i64 0, .int .i64 0, .string ⟨#[]⟩, .int .i64 5, .int .i64 0, .int .i64 (-1), .int .i64 0, .string ⟨#[]⟩] 73)) (w.alloc (.cells #[.int .i64 2, .int .i64 0, .int .i64 0, .int .i64 0, .string ⟨#[]⟩, .int .i64 5, .int .i64 0, .int .i64 (-1), .int .i64 0, .string ⟨#[]⟩] 73)).heap.size (.slice (some ⟨w.heap.size, 0, none⟩) 2 2) dblP :=
  InsRow.new (w := w) (T := 73) dblP (by intro x hx; simp [dblP] at hx; rcases hx with rfl | rfl <;> exact wf_lit _ _ _ _ _ (by unfold i64; decide) (by unfold i64; decide) (by unfold i64; decide) (by unfold i64; decide) (by decide)) (by decide)
theorem nil_row (w : World) (B : Nat) : InsRow w B (.slice none 0 0) [] := ⟨by simp, by simp, .inl ⟨rfl, .inl rfl⟩⟩

set_option maxHeartbeats 1000000 in
theorem doubles_any (w : World) : Calls Try.prog 43 #[] w fun e w' => e = .returned (.slice (some ⟨w.heap.size, 0, none⟩) 2 2) ∧ InsRow w' w'.heap.size (.slice (some ⟨w.heap.size, 0, none⟩) 2 2) dblP ∧ Below w.heap.size w w' := by
  go_enter Try.func43, Try.ntmps43
  go_wp2
  go_ret
  exact ⟨rfl, dblP_new w, (Below.refl _ _).alloc (Nat.le_refl _) _⟩

theorem aw_run1 (w w' : World) (hb : Below w.heap.size w w') : Calls Try.prog 21 #[.slice (some ⟨w'.heap.size, 0, none⟩) 1 1, .string ⟨#[49, 48, 49, 48, 48]⟩, .int .i64 10] (w'.alloc (.cells #[.int .i64 4, .int .i64 0, .int .i64 0, .int .i64 0, .string ⟨#[]⟩] 73)) fun e w'' => e = .returned (.tuple #[.string ⟨#[49, 48, 48]⟩, .int .i64 1, .int .i64 0]) ∧ Below w.heap.size w w'' :=
  (run_ct (awA_new w') awA_valid (.pair .nil (.pair .nil .nil)) (by decide) 10 (by decide) _ _ _ awA_run _ (Below.refl _ _)).mono fun e w'' h => ⟨h.1, (hb.alloc hb.size _).trans (h.2.mono (by have := hb.size; simp; omega))⟩
theorem aw_run2 (w w' : World) (hb : Below w.heap.size w w') : Calls Try.prog 21 #[.slice none 0 0, .string ⟨#[49, 48, 48]⟩, .int .i64 0] w' fun e w'' => e = .returned (.tuple #[.string ⟨#[49, 48, 48]⟩, .int .i64 0, .int .i64 0]) ∧ Below w.heap.size w w'' :=
  (run_ct (nil_row w' _) awN_valid (.pair .nil .nil) (by decide) 0 (by decide) _ _ _ awN_run _ (Below.refl _ _)).mono fun e w'' h => ⟨h.1, hb.trans (h.2.mono hb.size)⟩
theorem aw_run3 (w w' : World) (hb : Below w.heap.size w w') : Calls Try.prog 21 #[.slice (some ⟨w'.heap.size, 0, none⟩) 2 2, .string ⟨#[48]⟩, .int .i64 1000] (w'.alloc (.cells #[.int .i64 0, .int .i64 1, .int .i64 0, .int .i64 0, .string ⟨#[49, 48, 48]⟩, .int .i64 5, .int .i64 1, .int .i64 0, .int .i64 0, .string ⟨#[]⟩] 73)) fun e w'' => e = .returned (.tuple #[.string ⟨#[]⟩, .int .i64 0, .int .i64 7]) ∧ Below w.heap.size w w'' :=
  (run_ct (awB_new w') awB_valid .nil (by decide) 1000 (by decide) _ _ _ awB_run _ (Below.refl _ _)).mono fun e w'' h => ⟨h.1, (hb.alloc hb.size _).trans (h.2.mono (by have := hb.size; simp; omega))⟩

set_option maxHeartbeats 2000000 in
theorem awake03 (w : World) : Calls Try.prog 25 #[] w fun e w' => e = .returned (.bool true) ∧ Below w.heap.size w w' := by
  go_enter Try.func25, Try.ntmps25
  go_wp2_with fail
  refine (aw_run1 w _ (Below.refl _ _)).mono ?_
  rintro e w1 ⟨rfl, hb1⟩
  go_wp2_with fail
  refine (aw_run2 w _ hb1).mono ?_
  rintro e w2 ⟨rfl, hb2⟩
  clear hb1
  go_wp2_with fail
  refine (aw_run3 w _ hb2).mono ?_
  rintro e w3 ⟨rfl, hb3⟩
  clear hb2
  go_wp2_with fail
  refine ((fun w' (_ : Below w.heap.size w w') => doubles_any w') _ hb3).mono ?_
  rintro e w4 ⟨rfl, hrow, hq⟩
  have hb4 := hb3.trans (hq.mono hb3.size)
  have kd : ∀ w', Below w.heap.size w w' → w' = w4 → Calls Try.prog 21 #[.slice (some ⟨w3.heap.size, 0, none⟩) 2 2, .string ⟨#[48]⟩, .int .i64 1000] w' fun e w'' => e = .returned (.tuple #[.string ⟨#[]⟩, .int .i64 0, .int .i64 3]) ∧ Below w.heap.size w w'' := fun w' hb he => by
    subst he
    exact (run_ct hrow dbl_valid .nil (by decide) 1000 (by decide) _ _ _ dbl_aw _ (Below.refl _ _)).mono fun e w'' h => ⟨h.1, hb.trans (h.2.mono hb.size)⟩
  clear hq hrow
  go_wp2_with fail
  refine (kd _ hb4 rfl).mono ?_
  rintro e w5 ⟨rfl, hb5⟩
  clear hb4
  go_wp2
  go_ret
  exact ⟨rfl, hb5⟩

end Go.Proofs.Ytieocihlkpipmaa

namespace Go.Proofs.Ytieocihlkpipmaa
open Go.RowKit

theorem RMachP.mono {w : World} {T T' g : Nat} {l : List Ins} {pv tv : Value} (h : RMachP w T g l pv tv) (hT : T ≤ T') : RMachP w T' g l pv tv := by
  obtain ⟨xs, base, h1, h2, h3⟩ := h.sets
  exact ⟨h.blk, by have := h.lt; omega, h.prog.mono hT, xs, base, h1, h2, fun k hk => by have := h3 k hk; omega⟩
theorem RMachP.below {w w' : World} {g : Nat} {l : List Ins} {pv tv : Value} (h : RMachP w w.heap.size g l pv tv) (hb : Below w.heap.size w w') : RMachP w' w'.heap.size g l pv tv := (h.kept hb (Kept.below hb)).mono hb.size
theorem run_form_ct {w : World} {v : Value} {l : List Ins} (hl : InsRow w w.heap.size v l) (s : ByteArray) (hs : s.size ≤ 140737488355328) (fuel : Int) (h : validB l = false ∨ isTree s = false) :
    Ct w 21 #[v, .string s, .int .i64 fuel] (.tuple #[.string ⟨#[]⟩, .int .i64 0, .int .i64 1]) :=
  Ct.of fun w' hb => run_bad v l s fuel w' 1 ((hl.below hb).mono hb.size) (.inl rfl) (fun w2 h2 => begin_form v l s fuel w2 h2 hs h)
theorem run_arg_ct {w : World} {v : Value} {l : List Ins} (hl : InsRow w w.heap.size v l) (s : ByteArray) (hs : s.size ≤ 140737488355328) (fuel : Int) (hv : validB l = true) (ht : isTree s = true) (hk : fuel < 0 ∨ 10000000 < fuel) :
    Ct w 21 #[v, .string s, .int .i64 fuel] (.tuple #[.string ⟨#[]⟩, .int .i64 0, .int .i64 2]) :=
  Ct.of fun w' hb => run_bad v l s fuel w' 2 ((hl.below hb).mono hb.size) (.inr rfl) (fun w2 h2 => begin_arg v l s fuel w2 h2 hs hv ht hk)
theorem sameP_self (l : List Ins) : sameP l l = true := by unfold sameP; exact decide_eq_true rfl
theorem same_ct {w : World} {v v' : Value} {l l' : List Ins} (h1 : InsRow w w.heap.size v l) (h2 : InsRow w w.heap.size v' l') (b : Bool) (hb : sameP l l' = b) : Ct w 22 #[v, v'] (.bool b) := fun w' hb' =>
  (sameP_any v v' l l' w' w.heap.size (h1.below hb') (h2.below hb')).mono fun e w'' h => ⟨by rw [← hb]; exact h.1, by obtain ⟨nq, rfl⟩ := h.2; exact below_drewN hb' nq⟩
theorem cvalid_ct {w : World} {v : Value} {l : List Ins} (h1 : InsRow w w.heap.size v l) (b : Bool) (hb : validB l = b) : Ct w 23 #[v] (.bool b) := Ct.of fun w' hb' => by
  rw [← hb]; exact refValidP_any v l w' ((h1.below hb').mono hb'.size)
theorem tvalid_ct {w : World} (s : ByteArray) (hs : s.size ≤ 140737488355328) (b : Bool) (hb : isTree s = b) : Ct w 24 #[.string s] (.bool b) := Ct.of_same fun w' => by
  rw [← hb]; exact refValid_any s (by omega) w'
theorem awake03_ct (w : World) : Ct w 25 #[] (.bool true) := Ct.of_any awake03
/-- The reference's machine, loaded; a tree, read; what it returns. -/
theorem load_ct {w : World} {v : Value} {l : List Ins} (hl : InsRow w w.heap.size v l) (hv : validB l = true) : ∀ w', Below w.heap.size w w' → Calls Try.prog 26 #[v] w' fun e w'' => ∃ gm tv, e = .returned (.pointer (some ⟨gm, 0, none⟩)) ∧ Hid (RMachP w'' w''.heap.size gm l v tv) ∧ Below w.heap.size w w'' := fun w' hb =>
  (load_any v l w' ((hl.below hb).mono hb.size) hv).mono fun e w'' ⟨gm, tv, h1, h2, h3⟩ => ⟨gm, tv, h1, h2, hb.trans (h3.mono hb.size)⟩
theorem read_ct {w : World} (t : Tr) (ht : t.size ≤ 2000000) : ∀ w', Below w.heap.size w w' → Calls Try.prog 28 #[.string (TS t)] w' fun e w'' => ∃ q, e = .returned (.pointer q) ∧ Hid (NodeP 114 w'' t (.pointer q) ∧ Below w'.heap.size w' w'') ∧ Below w.heap.size w w'' := fun w' hb =>
  (read_ok t ht w').mono fun e w'' ⟨q, h1, h2, h3⟩ => ⟨q, h1, ⟨h2, h3⟩, hb.trans (h3.mono hb.size)⟩
theorem rrun_ct {w w' : World} {gm : Nat} {l : List Ins} {pv tv : Value} {t : Tr} {q : Option Addr} {K : Nat} (hK : K ≤ 100000000) (hm : RMachP w' w'.heap.size gm l pv tv) (hx : NodeP 114 w' t (.pointer q)) (ht : t.size ≤ 2000000) (hv : validB l = true) (y : Tr) (n : Nat) (er : Int) (hr : (goF l K 0 (startS t)).rrun = (y, n, er)) (hb : Below w.heap.size w w') :
    Calls Try.prog 27 #[.pointer (some ⟨gm, 0, none⟩), .pointer q, .int .i64 K] w' fun e w'' => ∃ q', e = .returned (.tuple #[.pointer q', .int .i64 n, .int .i64 er]) ∧ Hid (NodeP 114 w'' y (.pointer q')) ∧ Below w.heap.size w w'' := by
  have := rrun_any w' gm l pv tv t _ K hK hm hx ht (validB_all hv) (validB_len hv)
  rw [hr] at this
  exact this.mono fun e w'' ⟨q', h1, h2, h3⟩ => ⟨q', h1, h2, hb.trans (h3.mono hb.size)⟩
theorem text_ct {w w' : World} {t : Tr} {q : Option Addr} (hx : NodeP 114 w' t (.pointer q)) (ht : t.size ≤ 2000000) (hb : Below w.heap.size w w') :
    Calls Try.prog 29 #[.pointer q] w' fun e w'' => e = .returned (.string (TS t)) ∧ Below w.heap.size w w'' :=
  (rnodeText_any t _ w' hx (by omega)).mono fun e w'' h => ⟨h.1, hb.trans (h.2.mono hb.size)⟩

set_option maxRecDepth 100000 in
set_option maxHeartbeats 4000000 in
theorem law_RunRuns {w : World} (v : Value) (l : List Ins) (hl : InsRow w w.heap.size v l) (s : ByteArray) (hs : s.size ≤ 140737488355328) (fuel : Int) (hf : -9223372036854775808 ≤ fuel ∧ fuel ≤ 9223372036854775807) :
    Calls Try.prog 3 #[v, .string s, .int .i64 fuel] w fun e w' => e = .returned (.bool true) ∧ Below w.heap.size w w' := by
  have kt := twin_any v l w hl
  go_enter Try.func3, Try.ntmps3
  go_wp2_with fail
  refine kt.mono ?_
  rintro e wB ⟨v', rfl, hv', hb1⟩
  have HQ := Lib.hid hb1
  have hl1 := (hl.below hb1).mono hb1.size
  have cSame := same_ct hl1 hv' true (sameP_self l)
  have cAw := awake03_ct wB
  clear kt hv' hl hb1
  by_cases hgood : validB l = true ∧ isTree s = true
  · obtain ⟨hv, htr⟩ := hgood
    have cV := cvalid_ct hl1 _ hv
    have cT := tvalid_ct (w := wB) s hs _ htr
    by_cases hf1 : fuel < 0 ∨ 10000000 < fuel
    · have cR := run_arg_ct hl1 s hs fuel hv htr hf1
      clear hv htr hl1
      rcases hf1 with hf1 | hf1
      all_goals
        go_wp2_with fail
        refine (cR _ (Below.refl _ _)).mono ?_
        rintro e w1 ⟨rfl, hb1⟩
        go_wp2_with fail
        refine (cSame _ hb1).mono ?_
        rintro e w2 ⟨rfl, hb2⟩
        clear hb1
        go_wp2_with fail
        refine (cV _ hb2).mono ?_
        rintro e w3 ⟨rfl, hb3⟩
        clear hb2
        go_wp2_with fail
        refine (cT _ hb3).mono ?_
        rintro e w4 ⟨rfl, hb4⟩
        clear hb3
        go_wp2_with fail
        refine (cAw _ hb4).mono ?_
        rintro e w5 ⟨rfl, hb5⟩
        clear hb4
        go_wp2
        go_ret
        exact ⟨rfl, HQ.out.trans (hb5.mono HQ.out.size)⟩
    · obtain ⟨t, rfl, ht⟩ := isTree_get htr
      obtain ⟨K, rfl⟩ := Int.eq_ofNat_of_zero_le (by omega : 0 ≤ fuel)
      have hK : K ≤ 10000000 := by omega
      have hKI : (K : Int) ≤ 10000000 := by omega
      have cLoad := load_ct hl1 hv
      have cRead := read_ct (w := wB) t ht
      have hgd := (goF_good (validB_all hv) (f := K) (n := 0) (Good.start l.length t ht)).1
      cases hR : goF l K 0 (startS t) with
      | big =>
        have cR := run_ct hl1 hv t ht K hK ⟨#[]⟩ 0 3 (by rw [hR]; rfl)
        have hrr : (goF l K 0 (startS t)).rrun = (.nil, 0, 3) := by rw [hR]; rfl
        clear htr hl1 hR hf1 hgd
        generalize TS t = S at *
        go_wp2_with fail
        refine (cR _ (Below.refl _ _)).mono ?_
        rintro e w1 ⟨rfl, hb1⟩
        go_wp2_with fail
        refine (cSame _ hb1).mono ?_
        rintro e w2 ⟨rfl, hb2⟩
        clear hb1
        go_wp2_with fail
        refine (cV _ hb2).mono ?_
        rintro e w3 ⟨rfl, hb3⟩
        clear hb2
        go_wp2_with fail
        refine (cT _ hb3).mono ?_
        rintro e w4 ⟨rfl, hb4⟩
        clear hb3
        go_wp2_with fail
        refine (cLoad _ hb4).mono ?_
        rintro e w5 ⟨gm, tv, rfl, hm, hb5⟩
        clear hb4
        go_wp2_with fail
        refine (cRead _ hb5).mono ?_
        rintro e w6 ⟨q, rfl, hq, hb6⟩
        clear hb5
        have hm2 := hm.out.below hq.out.2
        have kr := fun hb => rrun_ct (w := wB) (by omega) hm2 hq.out.1 ht hv _ _ _ hrr hb
        clear hm2
        go_wp2_with fail
        refine (kr hb6).mono ?_
        rintro e w7 ⟨q2, rfl, hn, hb7⟩
        clear hb6
        go_wp2_with fail
        refine (cAw _ hb7).mono ?_
        rintro e w8 ⟨rfl, hb8⟩
        clear hb7
        go_wp2
        go_ret
        exact ⟨rfl, HQ.out.trans (hb8.mono HQ.out.size)⟩
      | fuel s' n =>
        have cR := run_ct hl1 hv t ht K hK ⟨#[]⟩ 0 7 (by rw [hR]; rfl)
        have hrr : (goF l K 0 (startS t)).rrun = (.nil, 0, 7) := by rw [hR]; rfl
        clear htr hl1 hR hf1 hgd
        generalize TS t = S at *
        go_wp2_with fail
        refine (cR _ (Below.refl _ _)).mono ?_
        rintro e w1 ⟨rfl, hb1⟩
        go_wp2_with fail
        refine (cSame _ hb1).mono ?_
        rintro e w2 ⟨rfl, hb2⟩
        clear hb1
        go_wp2_with fail
        refine (cV _ hb2).mono ?_
        rintro e w3 ⟨rfl, hb3⟩
        clear hb2
        go_wp2_with fail
        refine (cT _ hb3).mono ?_
        rintro e w4 ⟨rfl, hb4⟩
        clear hb3
        go_wp2_with fail
        refine (cLoad _ hb4).mono ?_
        rintro e w5 ⟨gm, tv, rfl, hm, hb5⟩
        clear hb4
        go_wp2_with fail
        refine (cRead _ hb5).mono ?_
        rintro e w6 ⟨q, rfl, hq, hb6⟩
        clear hb5
        have hm2 := hm.out.below hq.out.2
        have kr := fun hb => rrun_ct (w := wB) (by omega) hm2 hq.out.1 ht hv _ _ _ hrr hb
        clear hm2
        go_wp2_with fail
        refine (kr hb6).mono ?_
        rintro e w7 ⟨q2, rfl, hn, hb7⟩
        clear hb6
        go_wp2_with fail
        refine (cAw _ hb7).mono ?_
        rintro e w8 ⟨rfl, hb8⟩
        clear hb7
        go_wp2
        go_ret
        exact ⟨rfl, HQ.out.trans (hb8.mono HQ.out.size)⟩
      | done s' n =>
        have cR := run_ct hl1 hv t ht K hK (TS (getR s'.regs 0)) n 0 (by rw [hR]; rfl)
        have hrr : (goF l K 0 (startS t)).rrun = (getR s'.regs 0, n, 0) := by rw [hR]; rfl
        have hys := getR_size (hgd s' n hR).2.2 0
        have hyy : ((TS (getR s'.regs 0)).toList == (TS (getR s'.regs 0)).toList) = true := by simp
        clear htr hl1 hR hf1 hgd
        generalize getR s'.regs 0 = y at *
        generalize TS t = S at *
        have ky : ∀ w' (q : Option Addr), NodeP 114 w' y (.pointer q) → Below wB.heap.size wB w' → Calls Try.prog 29 #[.pointer q] w' fun e w'' => e = .returned (.string (TS y)) ∧ Below wB.heap.size wB w'' := fun w' q h hb => text_ct h hys hb
        generalize TS y = Y at *
        go_wp2_with fail
        refine (cR _ (Below.refl _ _)).mono ?_
        rintro e w1 ⟨rfl, hb1⟩
        go_wp2_with fail
        refine (cSame _ hb1).mono ?_
        rintro e w2 ⟨rfl, hb2⟩
        clear hb1
        go_wp2_with fail
        refine (cV _ hb2).mono ?_
        rintro e w3 ⟨rfl, hb3⟩
        clear hb2
        go_wp2_with fail
        refine (cT _ hb3).mono ?_
        rintro e w4 ⟨rfl, hb4⟩
        clear hb3
        go_wp2_with fail
        refine (cLoad _ hb4).mono ?_
        rintro e w5 ⟨gm, tv, rfl, hm, hb5⟩
        clear hb4
        go_wp2_with fail
        refine (cRead _ hb5).mono ?_
        rintro e w6 ⟨q, rfl, hq, hb6⟩
        clear hb5
        have hm2 := hm.out.below hq.out.2
        have kr := fun hb => rrun_ct (w := wB) (by omega) hm2 hq.out.1 ht hv _ _ _ hrr hb
        clear hm2
        go_wp2_with fail
        refine (kr hb6).mono ?_
        rintro e w7 ⟨q2, rfl, hn, hb7⟩
        clear hb6
        have kY := ky _ _ hn.out hb7
        go_wp2_with fail
        refine kY.mono ?_
        rintro e w8 ⟨rfl, hb8⟩
        clear hb7
        go_wp2_with fail
        refine (cAw _ hb8).mono ?_
        rintro e w9 ⟨rfl, hb9⟩
        clear hb8
        go_wp2
        go_ret
        exact ⟨rfl, HQ.out.trans (hb9.mono HQ.out.size)⟩
  · have cR := run_form_ct hl1 s hs fuel (by cases h1 : validB l <;> cases h2 : isTree s <;> simp_all)
    obtain ⟨bv, hbv⟩ : ∃ b, validB l = b := ⟨_, rfl⟩
    have cV := cvalid_ct hl1 _ hbv
    cases bv with
    | false =>
      clear hbv hl1 hgood
      go_wp2_with fail
      refine (cR _ (Below.refl _ _)).mono ?_
      rintro e w1 ⟨rfl, hb1⟩
      go_wp2_with fail
      refine (cSame _ hb1).mono ?_
      rintro e w2 ⟨rfl, hb2⟩
      clear hb1
      go_wp2_with fail
      refine (cV _ hb2).mono ?_
      rintro e w3 ⟨rfl, hb3⟩
      clear hb2
      go_wp2_with fail
      refine (cAw _ hb3).mono ?_
      rintro e w4 ⟨rfl, hb4⟩
      clear hb3
      go_wp2
      go_ret
      exact ⟨rfl, HQ.out.trans (hb4.mono HQ.out.size)⟩
    | true =>
      have htr : isTree s = false := by cases h2 : isTree s <;> simp_all
      have cT := tvalid_ct (w := wB) s hs _ htr
      clear hbv hl1 hgood htr
      go_wp2_with fail
      refine (cR _ (Below.refl _ _)).mono ?_
      rintro e w1 ⟨rfl, hb1⟩
      go_wp2_with fail
      refine (cSame _ hb1).mono ?_
      rintro e w2 ⟨rfl, hb2⟩
      clear hb1
      go_wp2_with fail
      refine (cV _ hb2).mono ?_
      rintro e w3 ⟨rfl, hb3⟩
      clear hb2
      go_wp2_with fail
      refine (cT _ hb3).mono ?_
      rintro e w4 ⟨rfl, hb4⟩
      clear hb3
      go_wp2_with fail
      refine (cAw _ hb4).mono ?_
      rintro e w5 ⟨rfl, hb5⟩
      clear hb4
      go_wp2
      go_ret
      exact ⟨rfl, HQ.out.trans (hb5.mono HQ.out.size)⟩

end Go.Proofs.Ytieocihlkpipmaa

namespace Go.Proofs.Ytieocihlkpipmaa
open Go.RowKit

theorem goF_more_done {l : List Ins} : ∀ {f n : Nat} {s s' : St} {k : Nat}, goF l f n s = .done s' k → ∀ m, goF l (f + m) n s = .done s' k := by
  intro f
  induction f with
  | zero =>
    intro n s s' k h m
    by_cases hp : s.pos = l.length
    · rw [goF_done hp] at h ⊢; exact h
    · rw [goF_zero hp] at h; cases h
  | succ f ih =>
    intro n s s' k h m
    by_cases hp : s.pos = l.length
    · rw [goF_done hp] at h ⊢; exact h
    · rw [show f + 1 + m = (f + m) + 1 by omega]
      cases hs : stepP l s with
      | none => rw [goF_big hp hs] at h; cases h
      | some s1 => rw [goF_step hp hs] at h ⊢; exact ih h m
theorem goF_more_big {l : List Ins} : ∀ {f n : Nat} {s : St}, goF l f n s = .big → ∀ m, goF l (f + m) n s = .big := by
  intro f
  induction f with
  | zero =>
    intro n s h m
    by_cases hp : s.pos = l.length
    · rw [goF_done hp] at h; cases h
    · rw [goF_zero hp] at h; cases h
  | succ f ih =>
    intro n s h m
    by_cases hp : s.pos = l.length
    · rw [goF_done hp] at h; cases h
    · rw [show f + 1 + m = (f + m) + 1 by omega]
      cases hs : stepP l s with
      | none => rw [goF_big hp hs]
      | some s1 => rw [goF_step hp hs] at h ⊢; exact ih h m
theorem goF_count {l : List Ins} : ∀ {f n : Nat} {s s' : St} {k : Nat}, goF l f n s = .done s' k → n ≤ k ∧ k ≤ n + f ∧ goF l (k - n) n s = .done s' k ∧ ∀ j, j < k - n → ∃ s2 m, goF l j n s = .fuel s2 m := by
  intro f
  induction f with
  | zero =>
    intro n s s' k h
    by_cases hp : s.pos = l.length
    · rw [goF_done hp] at h; cases h; exact ⟨Nat.le_refl _, by omega, goF_done hp, fun j hj => by omega⟩
    · rw [goF_zero hp] at h; cases h
  | succ f ih =>
    intro n s s' k h
    by_cases hp : s.pos = l.length
    · rw [goF_done hp] at h; cases h; exact ⟨Nat.le_refl _, by omega, goF_done hp, fun j hj => by omega⟩
    · cases hs : stepP l s with
      | none => rw [goF_big hp hs] at h; cases h
      | some s1 =>
        rw [goF_step hp hs] at h
        obtain ⟨h1, h2, h3, h4⟩ := ih h
        refine ⟨by omega, by omega, ?_, fun j hj => ?_⟩
        · rw [show k - n = (k - (n + 1)) + 1 by omega, goF_step hp hs]; exact h3
        · cases j with
          | zero => exact ⟨_, _, goF_zero hp⟩
          | succ j => rw [goF_step hp hs]; exact h4 j (by omega)
theorem twin_ct {w : World} {v : Value} {l : List Ins} (hl : InsRow w w.heap.size v l) : ∀ w', Below w.heap.size w w' → Calls Try.prog 20 #[v] w' fun e w'' => ∃ v', e = .returned v' ∧ Hid (InsRow w'' w''.heap.size v' l) ∧ Below w.heap.size w w'' := fun w' hb =>
  (twin_any v l w' ((hl.below hb).mono hb.size)).mono fun e w'' ⟨v', h1, h2, h3⟩ => ⟨v', h1, h2, hb.trans (h3.mono hb.size)⟩
/-- Run at any place. -/
theorem run_at {w : World} {l : List Ins} (hv : validB l = true) {t : Tr} (ht : t.size ≤ 2000000) {S : ByteArray} (hS : TS t = S) : ∀ (K : Nat) (Ki : Int), Ki = K → K ≤ 10000000 → ∀ y k er, (goF l K 0 (startS t)).run = (y, k, er) → ∀ w' v', InsRow w' w'.heap.size v' l → Below w.heap.size w w' →
    Calls Try.prog 21 #[v', .string S, .int .i64 Ki] w' fun e w'' => e = .returned (.tuple #[.string y, .int .i64 k, .int .i64 er]) ∧ Below w.heap.size w w'' := by
  rintro K _ rfl hK y k er hr w' v' hl hb
  rw [← hS]
  exact (run_ct hl hv t ht K hK y k er hr w' (Below.refl _ _)).mono fun e w'' h => ⟨h.1, hb.trans (h.2.mono hb.size)⟩

set_option maxRecDepth 100000 in
set_option maxHeartbeats 4000000 in
theorem law_RunMore {w : World} (v : Value) (l : List Ins) (hl : InsRow w w.heap.size v l) (s : ByteArray) (hs : s.size ≤ 140737488355328) (fuel : Int) (hf : -9223372036854775808 ≤ fuel ∧ fuel ≤ 9223372036854775807) (more : Int) (hm : -9223372036854775808 ≤ more ∧ more ≤ 9223372036854775807) :
    Calls Try.prog 4 #[v, .string s, .int .i64 fuel, .int .i64 more] w fun e w' => e = .returned (.bool true) ∧ Below w.heap.size w w' := by
  have cTw := twin_ct hl
  have cAw := awake03_ct w
  by_cases hgood : validB l = true ∧ isTree s = true
  · obtain ⟨hv, htr⟩ := hgood
    have cV := cvalid_ct hl _ hv
    have cT := tvalid_ct (w := w) s hs _ htr
    by_cases hout : fuel < 0 ∨ (0 ≤ fuel ∧ more < 0) ∨ (0 ≤ fuel ∧ 0 ≤ more ∧ 10000000 < fuel) ∨ (0 ≤ fuel ∧ 0 ≤ more ∧ fuel ≤ 10000000 ∧ 10000000 - fuel < more)
    · clear hl hv htr cTw
      rcases hout with h1 | ⟨h1, h2⟩ | ⟨h1, h2, h3⟩ | ⟨h1, h2, h3, h4⟩
      all_goals
        go_enter Try.func4, Try.ntmps4
        go_wp2_with fail
        refine (cV _ (Below.refl _ _)).mono ?_
        rintro e w1 ⟨rfl, hb1⟩
        go_wp2_with fail
        refine (cT _ hb1).mono ?_
        rintro e w2 ⟨rfl, hb2⟩
        clear hb1
        go_wp2_with fail
        refine (cAw _ hb2).mono ?_
        rintro e w3 ⟨rfl, hb3⟩
        clear hb2
        go_wp2
        go_ret
        exact ⟨rfl, hb3⟩
    · obtain ⟨F, rfl⟩ := Int.eq_ofNat_of_zero_le (by omega : 0 ≤ fuel)
      obtain ⟨M, rfl⟩ := Int.eq_ofNat_of_zero_le (by omega : 0 ≤ more)
      have hF : (F : Int) ≤ 10000000 := by omega
      have hFM : (M : Int) ≤ 10000000 - F := by omega
      obtain ⟨t, rfl, ht⟩ := isTree_get htr
      have kR := run_at (w := w) hv ht rfl
      cases hR : goF l F 0 (startS t) with
      | fuel s1 n1 =>
        have k1 := kR F F rfl (by omega) ⟨#[]⟩ 0 7 (by rw [hR]; rfl)
        cases hR2 : goF l (F + M) 0 (startS t) with
        | fuel s2 n2 =>
          have k2 := kR (F + M) (F + M) (by omega) (by omega) ⟨#[]⟩ 0 7 (by rw [hR2]; rfl)
          clear hl hv htr hout hR hR2 kR
          generalize TS t = S at *
          go_enter Try.func4, Try.ntmps4
          go_wp2_with fail
          refine (cV _ (Below.refl _ _)).mono ?_
          rintro e w1 ⟨rfl, hb1⟩
          go_wp2_with fail
          refine (cT _ hb1).mono ?_
          rintro e w2 ⟨rfl, hb2⟩
          clear hb1
          go_wp2_with fail
          refine (cTw _ hb2).mono ?_
          rintro e w3 ⟨v1, rfl, hv1, hb3⟩
          clear hb2
          have kk1 := k1 _ _ hv1.out hb3
          clear hv1
          go_wp2_with fail
          refine kk1.mono ?_
          rintro e w4 ⟨rfl, hb4⟩
          clear hb3
          go_wp2_with fail
          refine (cTw _ hb4).mono ?_
          rintro e w5 ⟨v2, rfl, hv2, hb5⟩
          clear hb4
          have kk2 := k2 _ _ hv2.out hb5
          clear hv2
          go_wp2_with fail
          refine kk2.mono ?_
          rintro e w6 ⟨rfl, hb6⟩
          clear hb5
          go_wp2_with fail
          refine (cAw _ hb6).mono ?_
          rintro e w7 ⟨rfl, hb7⟩
          clear hb6
          go_wp2
          go_ret
          exact ⟨rfl, hb7⟩
        | big =>
          have k2 := kR (F + M) (F + M) (by omega) (by omega) ⟨#[]⟩ 0 3 (by rw [hR2]; rfl)
          clear hl hv htr hout hR hR2 kR
          generalize TS t = S at *
          go_enter Try.func4, Try.ntmps4
          go_wp2_with fail
          refine (cV _ (Below.refl _ _)).mono ?_
          rintro e w1 ⟨rfl, hb1⟩
          go_wp2_with fail
          refine (cT _ hb1).mono ?_
          rintro e w2 ⟨rfl, hb2⟩
          clear hb1
          go_wp2_with fail
          refine (cTw _ hb2).mono ?_
          rintro e w3 ⟨v1, rfl, hv1, hb3⟩
          clear hb2
          have kk1 := k1 _ _ hv1.out hb3
          clear hv1
          go_wp2_with fail
          refine kk1.mono ?_
          rintro e w4 ⟨rfl, hb4⟩
          clear hb3
          go_wp2_with fail
          refine (cTw _ hb4).mono ?_
          rintro e w5 ⟨v2, rfl, hv2, hb5⟩
          clear hb4
          have kk2 := k2 _ _ hv2.out hb5
          clear hv2
          go_wp2_with fail
          refine kk2.mono ?_
          rintro e w6 ⟨rfl, hb6⟩
          clear hb5
          go_wp2_with fail
          refine (cAw _ hb6).mono ?_
          rintro e w7 ⟨rfl, hb7⟩
          clear hb6
          go_wp2
          go_ret
          exact ⟨rfl, hb7⟩
        | done s2 n2 =>
          have k2 := kR (F + M) (F + M) (by omega) (by omega) (TS (getR s2.regs 0)) n2 0 (by rw [hR2]; rfl)
          have hgt : (F : Int) < (n2 : Int) := by
            obtain ⟨_, _, h3, _⟩ := goF_count hR2
            by_cases h : F < n2
            · omega
            · have := goF_more_done h3 (F - n2)
              rw [show n2 - 0 + (F - n2) = F by omega, hR] at this
              cases this
          clear hl hv htr hout hR hR2 kR
          generalize TS t = S at *
          generalize TS (getR s2.regs 0) = Y at *
          go_enter Try.func4, Try.ntmps4
          go_wp2_with fail
          refine (cV _ (Below.refl _ _)).mono ?_
          rintro e w1 ⟨rfl, hb1⟩
          go_wp2_with fail
          refine (cT _ hb1).mono ?_
          rintro e w2 ⟨rfl, hb2⟩
          clear hb1
          go_wp2_with fail
          refine (cTw _ hb2).mono ?_
          rintro e w3 ⟨v1, rfl, hv1, hb3⟩
          clear hb2
          have kk1 := k1 _ _ hv1.out hb3
          clear hv1
          go_wp2_with fail
          refine kk1.mono ?_
          rintro e w4 ⟨rfl, hb4⟩
          clear hb3
          go_wp2_with fail
          refine (cTw _ hb4).mono ?_
          rintro e w5 ⟨v2, rfl, hv2, hb5⟩
          clear hb4
          have kk2 := k2 _ _ hv2.out hb5
          clear hv2
          go_wp2_with fail
          refine kk2.mono ?_
          rintro e w6 ⟨rfl, hb6⟩
          clear hb5
          go_wp2_with fail
          refine (cAw _ hb6).mono ?_
          rintro e w7 ⟨rfl, hb7⟩
          clear hb6
          go_wp2
          go_ret
          exact ⟨rfl, hb7⟩
      | big =>
        have k1 := kR F F rfl (by omega) ⟨#[]⟩ 0 3 (by rw [hR]; rfl)
        have hR2 := goF_more_big hR M
        have k2 := kR (F + M) (F + M) (by omega) (by omega) ⟨#[]⟩ 0 3 (by rw [hR2]; rfl)
        clear hl hv htr hout hR hR2 kR
        generalize TS t = S at *
        go_enter Try.func4, Try.ntmps4
        go_wp2_with fail
        refine (cV _ (Below.refl _ _)).mono ?_
        rintro e w1 ⟨rfl, hb1⟩
        go_wp2_with fail
        refine (cT _ hb1).mono ?_
        rintro e w2 ⟨rfl, hb2⟩
        clear hb1
        go_wp2_with fail
        refine (cTw _ hb2).mono ?_
        rintro e w3 ⟨v1, rfl, hv1, hb3⟩
        clear hb2
        have kk1 := k1 _ _ hv1.out hb3
        clear hv1
        go_wp2_with fail
        refine kk1.mono ?_
        rintro e w4 ⟨rfl, hb4⟩
        clear hb3
        go_wp2_with fail
        refine (cTw _ hb4).mono ?_
        rintro e w5 ⟨v2, rfl, hv2, hb5⟩
        clear hb4
        have kk2 := k2 _ _ hv2.out hb5
        clear hv2
        go_wp2_with fail
        refine kk2.mono ?_
        rintro e w6 ⟨rfl, hb6⟩
        clear hb5
        go_wp2_with fail
        refine (cAw _ hb6).mono ?_
        rintro e w7 ⟨rfl, hb7⟩
        clear hb6
        go_wp2
        go_ret
        exact ⟨rfl, hb7⟩
      | done s1 n1 =>
        have k1 := kR F F rfl (by omega) (TS (getR s1.regs 0)) n1 0 (by rw [hR]; rfl)
        have hR2 := goF_more_done hR M
        have k2 := kR (F + M) (F + M) (by omega) (by omega) (TS (getR s1.regs 0)) n1 0 (by rw [hR2]; rfl)
        obtain ⟨_, hn2, hn3, hn4⟩ := goF_count hR
        simp only [Nat.zero_add, Nat.sub_zero] at hn2 hn3 hn4
        have k3 := kR n1 n1 rfl (by omega) (TS (getR s1.regs 0)) n1 0 (by rw [hn3]; rfl)
        have hnI : (n1 : Int) ≤ (F : Int) := by omega
        have hyy : ((TS (getR s1.regs 0)).toList == (TS (getR s1.regs 0)).toList) = true := by simp
        by_cases h0 : n1 = 0
        · subst h0
          clear hl hv htr hout hR hR2 kR hn2 hn3 hn4
          generalize TS t = S at *
          generalize TS (getR s1.regs 0) = Y at *
          go_enter Try.func4, Try.ntmps4
          go_wp2_with fail
          refine (cV _ (Below.refl _ _)).mono ?_
          rintro e w1 ⟨rfl, hb1⟩
          go_wp2_with fail
          refine (cT _ hb1).mono ?_
          rintro e w2 ⟨rfl, hb2⟩
          clear hb1
          go_wp2_with fail
          refine (cTw _ hb2).mono ?_
          rintro e w3 ⟨v1, rfl, hv1, hb3⟩
          clear hb2
          have kk1 := k1 _ _ hv1.out hb3
          clear hv1
          go_wp2_with fail
          refine kk1.mono ?_
          rintro e w4 ⟨rfl, hb4⟩
          clear hb3
          go_wp2_with fail
          refine (cTw _ hb4).mono ?_
          rintro e w5 ⟨v2, rfl, hv2, hb5⟩
          clear hb4
          have kk2 := k2 _ _ hv2.out hb5
          clear hv2
          go_wp2_with fail
          refine kk2.mono ?_
          rintro e w6 ⟨rfl, hb6⟩
          clear hb5
          go_wp2_with fail
          refine (cTw _ hb6).mono ?_
          rintro e w7 ⟨v3, rfl, hv3, hb7⟩
          clear hb6
          have kk3 := k3 _ _ hv3.out hb7
          clear hv3
          go_wp2_with fail
          refine kk3.mono ?_
          rintro e w8 ⟨rfl, hb8⟩
          clear hb7
          go_wp2_with fail
          refine (cAw _ hb8).mono ?_
          rintro e w9 ⟨rfl, hb9⟩
          clear hb8
          go_wp2
          go_ret
          exact ⟨rfl, hb9⟩
        · obtain ⟨s4, m4, h4⟩ := hn4 (n1 - 1) (by omega)
          have k4 := kR (n1 - 1) (n1 - 1) (by omega) (by omega) ⟨#[]⟩ 0 7 (by rw [h4]; rfl)
          have hne : ((n1 : Int) == 0) = false := by rw [beq_eq_false_iff_ne]; omega
          have hpos : (1 : Int) ≤ n1 := by omega
          clear hl hv htr hout hR hR2 kR hn2 hn3 hn4 h4 h0
          generalize TS t = S at *
          generalize TS (getR s1.regs 0) = Y at *
          go_enter Try.func4, Try.ntmps4
          go_wp2_with fail
          refine (cV _ (Below.refl _ _)).mono ?_
          rintro e w1 ⟨rfl, hb1⟩
          go_wp2_with fail
          refine (cT _ hb1).mono ?_
          rintro e w2 ⟨rfl, hb2⟩
          clear hb1
          go_wp2_with fail
          refine (cTw _ hb2).mono ?_
          rintro e w3 ⟨v1, rfl, hv1, hb3⟩
          clear hb2
          have kk1 := k1 _ _ hv1.out hb3
          clear hv1
          go_wp2_with fail
          refine kk1.mono ?_
          rintro e w4 ⟨rfl, hb4⟩
          clear hb3
          go_wp2_with fail
          refine (cTw _ hb4).mono ?_
          rintro e w5 ⟨v2, rfl, hv2, hb5⟩
          clear hb4
          have kk2 := k2 _ _ hv2.out hb5
          clear hv2
          go_wp2_with fail
          refine kk2.mono ?_
          rintro e w6 ⟨rfl, hb6⟩
          clear hb5
          go_wp2_with fail
          refine (cTw _ hb6).mono ?_
          rintro e w7 ⟨v3, rfl, hv3, hb7⟩
          clear hb6
          have kk3 := k3 _ _ hv3.out hb7
          clear hv3
          go_wp2_with fail
          refine kk3.mono ?_
          rintro e w8 ⟨rfl, hb8⟩
          clear hb7
          go_wp2_with fail
          refine (cTw _ hb8).mono ?_
          rintro e w9 ⟨v4, rfl, hv4, hb9⟩
          clear hb8
          have kk4 := k4 _ _ hv4.out hb9
          clear hv4
          go_wp2_with fail
          refine kk4.mono ?_
          rintro e w10 ⟨rfl, hb10⟩
          clear hb9
          go_wp2_with fail
          refine (cAw _ hb10).mono ?_
          rintro e w11 ⟨rfl, hb11⟩
          clear hb10
          go_wp2
          go_ret
          exact ⟨rfl, hb11⟩
  · obtain ⟨bv, hbv⟩ : ∃ b, validB l = b := ⟨_, rfl⟩
    have cV := cvalid_ct hl _ hbv
    cases bv with
    | false =>
      clear hbv hl hgood cTw
      go_enter Try.func4, Try.ntmps4
      go_wp2_with fail
      refine (cV _ (Below.refl _ _)).mono ?_
      rintro e w1 ⟨rfl, hb1⟩
      go_wp2_with fail
      refine (cAw _ hb1).mono ?_
      rintro e w2 ⟨rfl, hb2⟩
      clear hb1
      go_wp2
      go_ret
      exact ⟨rfl, hb2⟩
    | true =>
      have htr : isTree s = false := by cases h2 : isTree s <;> simp_all
      have cT := tvalid_ct (w := w) s hs _ htr
      clear hbv hl hgood htr cTw
      go_enter Try.func4, Try.ntmps4
      go_wp2_with fail
      refine (cV _ (Below.refl _ _)).mono ?_
      rintro e w1 ⟨rfl, hb1⟩
      go_wp2_with fail
      refine (cT _ hb1).mono ?_
      rintro e w2 ⟨rfl, hb2⟩
      clear hb1
      go_wp2_with fail
      refine (cAw _ hb2).mono ?_
      rintro e w3 ⟨rfl, hb3⟩
      clear hb2
      go_wp2
      go_ret
      exact ⟨rfl, hb3⟩

end Go.Proofs.Ytieocihlkpipmaa

namespace Go.Proofs.Ytieocihlkpipmaa
open Go.RowKit

set_option maxHeartbeats 1000000 in
theorem none_any (n : Int) (u : Value) (L : List ByteArray) (b : Bool) (hb : ((n == 0) && ((L.length : Int) == 0)) = b) (w : World) (hu : StrRow w w.heap.size u L) :
    Calls Try.prog 39 #[.agg #[.int .i64 n, u]] w fun e w' => e = .returned (.bool b) ∧ Below w.heap.size w w' := by
  obtain ⟨a, c, rfl⟩ := hu.len
  obtain ⟨m, hm⟩ : ∃ m, L.length = m := ⟨_, rfl⟩
  rw [hm] at hb ⊢
  have HB := Lib.hid hb
  clear hu hm hb
  have hb1 := (Below.refl w.heap.size w).alloc (Nat.le_refl _) (.cells #[.int .i64 n, .slice a m c] 53)
  by_cases h0 : n = 0
  · subst h0
    go_enter Try.func39, Try.ntmps39
    go_wp2
    go_ret
    exact ⟨by rw [← HB.out]; simp, hb1⟩
  · have hn : (n == 0) = false := by rw [beq_eq_false_iff_ne]; exact h0
    have hbf : b = false := by rw [← HB.out, hn]; rfl
    clear h0
    go_enter Try.func39, Try.ntmps39
    go_wp2
    go_ret
    exact ⟨by rw [hbf]; rfl, hb1⟩
theorem none_ct {w : World} {n : Int} {u : Value} {L : List ByteArray} (b : Bool) (hb : ((n == 0) && ((L.length : Int) == 0)) = b) (hu : StrRow w w.heap.size u L) : Ct w 39 #[.agg #[.int .i64 n, u]] (.bool b) :=
  Ct.of fun w' hw => none_any n u L b hb w' ((hu.below hw).mono hw.size)
/-- After, relative to a world. -/
def AftCt (w : World) (v : Value) (s : ByteArray) (k : Int) (n : Int) (L : List ByteArray) (LL : Nat) (m : Nat) (er : Int) : Prop :=
  ∀ w', Below w.heap.size w w' → Calls Try.prog 38 #[v, .string s, .int .i64 k] w' fun e w'' => ∃ ua uc, e = .returned (.tuple #[.agg #[.int .i64 n, .slice ua LL uc], .int .i64 m, .int .i64 er]) ∧ Hid (StrRow w'' w''.heap.size (.slice ua LL uc) L) ∧ Below w.heap.size w w''
theorem aft_ct {w : World} {v : Value} {s : ByteArray} {k n : Int} {L : List ByteArray} {LL m : Nat} {er : Int} (hL : L.length = LL) (h : ∀ w', Below w.heap.size w w' → Calls Try.prog 38 #[v, .string s, .int .i64 k] w' (AftOut w' n L m er)) : AftCt w v s k n L LL m er := fun w' hb =>
  (h w' hb).mono fun e w'' ⟨u, h1, h2, h3⟩ => by
    obtain ⟨ua, uc, rfl⟩ := h2.len
    rw [hL] at h1 h2
    exact ⟨ua, uc, h1, h2, hb.trans (h3.mono hb.size)⟩
theorem aft_form_ct {w : World} {v : Value} {l : List Ins} (hl : InsRow w w.heap.size v l) (s : ByteArray) (hs : s.size ≤ 140737488355328) (k : Int) (h : validB l = false ∨ isTree s = false) : AftCt w v s k 0 [] 0 0 1 :=
  aft_ct rfl fun w' hb => after_bad v l s k w' 1 ((hl.below hb).mono hb.size) (.inl rfl) (fun w2 h2 => begin_form v l s k w2 h2 hs h)
theorem aft_arg_ct {w : World} {v : Value} {l : List Ins} (hl : InsRow w w.heap.size v l) (s : ByteArray) (hs : s.size ≤ 140737488355328) (k : Int) (hv : validB l = true) (ht : isTree s = true) (hk : k < 0 ∨ 10000000 < k) : AftCt w v s k 0 [] 0 0 2 :=
  aft_ct rfl fun w' hb => after_bad v l s k w' 2 ((hl.below hb).mono hb.size) (.inr rfl) (fun w2 h2 => begin_arg v l s k w2 h2 hs hv ht hk)
theorem aft_ok_ct {w : World} {v : Value} {l : List Ins} (hl : InsRow w w.heap.size v l) (hv : validB l = true) (t : Tr) (ht : t.size ≤ 2000000) (K : Nat) (hK : K ≤ 10000000) (n : Int) (L : List ByteArray) (LL : Nat) (hL : L.length = LL) (m : Nat) (er : Int) (hr : (goF l K 0 (startS t)).after = (n, L, m, er)) : AftCt w v (TS t) K n L LL m er :=
  aft_ct hL fun w' hb => after_ok v l t ht K hK w' ((hl.below hb).mono hb.size) hv n L m er hr
theorem raft_ct {w w' : World} {gm : Nat} {l : List Ins} {pv tv : Value} {t : Tr} {q : Option Addr} {K : Nat} (hK : K ≤ 100000000) (hm : RMachP w' w'.heap.size gm l pv tv) (hx : NodeP 114 w' t (.pointer q)) (ht : t.size ≤ 2000000) (hv : validB l = true) (R : Res) (hr : goF l K 0 (startS t) = R) (_ : Below w.heap.size w w') :
    Calls Try.prog 40 #[.pointer (some ⟨gm, 0, none⟩), .pointer q, .int .i64 K] w' (RAft w' R) := by
  rw [← hr]; exact rafter_any w' gm l pv tv t _ K hK hm hx ht (validB_all hv) (validB_len hv)

theorem sameB_self (l : List ByteArray) : sameB l l = true := by unfold sameB; exact decide_eq_true rfl

set_option maxRecDepth 100000 in
set_option maxHeartbeats 4000000 in
theorem law_RunAfters {w : World} (v : Value) (l : List Ins) (hl : InsRow w w.heap.size v l) (s : ByteArray) (hs : s.size ≤ 140737488355328) (fuel : Int) (hf : -9223372036854775808 ≤ fuel ∧ fuel ≤ 9223372036854775807) :
    Calls Try.prog 8 #[v, .string s, .int .i64 fuel] w fun e w' => e = .returned (.bool true) ∧ Below w.heap.size w w' := by
  have kt := twin_any v l w hl
  go_enter Try.func8, Try.ntmps8
  go_wp2_with fail
  refine kt.mono ?_
  rintro e wB ⟨v', rfl, hv', hb1⟩
  have HQ := Lib.hid hb1
  have hl1 := (hl.below hb1).mono hb1.size
  clear kt hl hb1
  by_cases hgood : validB l = true ∧ isTree s = true
  · obtain ⟨hv, htr⟩ := hgood
    by_cases hf1 : fuel < 0 ∨ 10000000 < fuel
    · have cA := aft_arg_ct hl1 s hs fuel hv htr hf1
      go_wp2_with fail
      refine (cA _ (Below.refl _ _)).mono ?_
      rintro e wA ⟨ua, uc, rfl, hu, hb2⟩
      obtain ⟨W, hW⟩ : ∃ W, wA.alloc (.cells #[.int .i64 0, (.slice ua 0 uc)] 53) = W := ⟨_, rfl⟩
      have hq : Below wA.heap.size wA W := by rw [← hW]; exact (Below.refl _ _).alloc (Nat.le_refl _) _
      have d0 : W.cell? ⟨wA.heap.size, 0, none⟩ = some (.int .i64 0) := by rw [← hW]; exact (block_cells (heap_alloc_new wA _)).1 0
      have d1 : W.cell? ⟨wA.heap.size, 1, none⟩ = some (.slice ua 0 uc) := by rw [← hW]; exact (block_cells (heap_alloc_new wA _)).1 1
      have hlt : wA.heap.size < W.heap.size := by rw [← hW]; simp
      have hrow := (hu.out.below hq).mono hq.size
      have hbW := hb2.trans (hq.mono hb2.size)
      have QBW := Lib.hid hbW
      have D0 := Lib.hid d0
      have D1 := Lib.hid d1
      have hlW := (hl1.below hbW).mono hbW.size
      have cSame := same_ct hlW ((hv'.below hbW).mono hbW.size) true (sameP_self l)
      have cAw := awake03_ct W
      have cN := none_ct (n := 0) (L := []) true (by rfl) hrow
      have cV := cvalid_ct hlW _ hv
      have cT := tvalid_ct (w := W) s hs _ htr
      clear hq hb2 hu d0 d1 hbW hlW hl1 hv'
      clear hv htr
      rcases hf1 with hf1 | hf1
      all_goals
        go_wp2_with fail
        refine (cSame _ (Below.refl _ _)).mono ?_
        rintro e w1 ⟨rfl, hb1⟩
        go_wp2_with fail
        refine (cV _ hb1).mono ?_
        rintro e w2 ⟨rfl, hb2⟩
        clear hb1
        go_wp2_with fail
        refine (cT _ hb2).mono ?_
        rintro e w3 ⟨rfl, hb3⟩
        clear hb2
        have e0 := (hb3.cell (p := ⟨wA.heap.size, 0, none⟩) hlt).trans D0.out
        have e1 := (hb3.cell (p := ⟨wA.heap.size, 1, none⟩) hlt).trans D1.out
        go_wp2_with fail
        refine (cN _ hb3).mono ?_
        rintro e w4 ⟨rfl, hb4⟩
        clear hb3
        go_wp2_with fail
        refine (cAw _ hb4).mono ?_
        rintro e w5 ⟨rfl, hb5⟩
        clear hb4
        go_wp2
        go_ret
        exact ⟨rfl, HQ.out.trans ((QBW.out.trans (hb5.mono QBW.out.size)).mono HQ.out.size)⟩
    · obtain ⟨t, rfl, ht⟩ := isTree_get htr
      obtain ⟨K, rfl⟩ := Int.eq_ofNat_of_zero_le (by omega : 0 ≤ fuel)
      have hK : K ≤ 10000000 := by omega
      have hKI : (K : Int) ≤ 10000000 := by omega
      have hgd := goF_good (validB_all hv) (f := K) (n := 0) (Good.start l.length t ht)
      cases hR : goF l K 0 (startS t) with
      | big =>
        have cA := aft_ok_ct hl1 hv t ht K hK 0 [] 0 rfl 0 3 (by rw [hR]; rfl)
        go_wp2_with fail
        refine (cA _ (Below.refl _ _)).mono ?_
        rintro e wA ⟨ua, uc, rfl, hu, hb2⟩
        obtain ⟨W, hW⟩ : ∃ W, wA.alloc (.cells #[.int .i64 0, (.slice ua 0 uc)] 53) = W := ⟨_, rfl⟩
        have hq : Below wA.heap.size wA W := by rw [← hW]; exact (Below.refl _ _).alloc (Nat.le_refl _) _
        have d0 : W.cell? ⟨wA.heap.size, 0, none⟩ = some (.int .i64 0) := by rw [← hW]; exact (block_cells (heap_alloc_new wA _)).1 0
        have d1 : W.cell? ⟨wA.heap.size, 1, none⟩ = some (.slice ua 0 uc) := by rw [← hW]; exact (block_cells (heap_alloc_new wA _)).1 1
        have hlt : wA.heap.size < W.heap.size := by rw [← hW]; simp
        have hrow := (hu.out.below hq).mono hq.size
        have hbW := hb2.trans (hq.mono hb2.size)
        have QBW := Lib.hid hbW
        have D0 := Lib.hid d0
        have D1 := Lib.hid d1
        have hlW := (hl1.below hbW).mono hbW.size
        have cSame := same_ct hlW ((hv'.below hbW).mono hbW.size) true (sameP_self l)
        have cAw := awake03_ct W
        have cN := none_ct (n := 0) (L := []) true (by rfl) hrow
        have cV := cvalid_ct hlW _ hv
        have cT := tvalid_ct (w := W) (TS t) hs _ htr
        have cLoad := load_ct hlW hv
        have cRead := read_ct (w := W) t ht
        clear hq hb2 hu d0 d1 hbW hlW hl1 hv'
        have HR := Lib.hid hR
        have HV := Lib.hid hv
        clear htr hf1 hgd hR hv
        generalize TS t = S at *
        go_wp2_with fail
        refine (cSame _ (Below.refl _ _)).mono ?_
        rintro e w1 ⟨rfl, hb1⟩
        go_wp2_with fail
        refine (cV _ hb1).mono ?_
        rintro e w2 ⟨rfl, hb2⟩
        clear hb1
        go_wp2_with fail
        refine (cT _ hb2).mono ?_
        rintro e w3 ⟨rfl, hb3⟩
        clear hb2
        go_wp2_with fail
        refine (cLoad _ hb3).mono ?_
        rintro e w4 ⟨gm, tv, rfl, hm, hb4⟩
        clear hb3
        go_wp2_with fail
        refine (cRead _ hb4).mono ?_
        rintro e w5 ⟨q, rfl, hq, hb5⟩
        clear hb4
        have hm2 := hm.out.below hq.out.2
        have kr := fun hb => raft_ct (w := W) (by omega) hm2 hq.out.1 ht HV.out _ HR.out hb
        clear hm2
        go_wp2_with fail
        refine (kr hb5).mono ?_
        rintro e w6 ⟨pz, nz, rfl, hq6⟩
        have hb6 := hb5.trans (hq6.mono hb5.size)
        clear hq6
        have e0 := (hb6.cell (p := ⟨wA.heap.size, 0, none⟩) hlt).trans D0.out
        have e1 := (hb6.cell (p := ⟨wA.heap.size, 1, none⟩) hlt).trans D1.out
        go_wp2_with fail
        refine (cN _ hb6).mono ?_
        rintro e w7 ⟨rfl, hb7⟩
        clear hb6
        go_wp2_with fail
        refine (cAw _ hb7).mono ?_
        rintro e w8 ⟨rfl, hb8⟩
        clear hb7
        go_wp2
        go_ret
        exact ⟨rfl, HQ.out.trans ((QBW.out.trans (hb8.mono QBW.out.size)).mono HQ.out.size)⟩
      | fuel s' n =>
        have hgs := hgd.2 s' n hR
        have cA := aft_ok_ct hl1 hv t ht K hK s'.pos (s'.regs.map TS) 32 (by simp [hgs.2.1]) n 0 (by rw [hR]; rfl)
        go_wp2_with fail
        refine (cA _ (Below.refl _ _)).mono ?_
        rintro e wA ⟨ua, uc, rfl, hu, hb2⟩
        obtain ⟨W, hW⟩ : ∃ W, wA.alloc (.cells #[.int .i64 s'.pos, (.slice ua 32 uc)] 53) = W := ⟨_, rfl⟩
        have hq : Below wA.heap.size wA W := by rw [← hW]; exact (Below.refl _ _).alloc (Nat.le_refl _) _
        have d0 : W.cell? ⟨wA.heap.size, 0, none⟩ = some (.int .i64 s'.pos) := by rw [← hW]; exact (block_cells (heap_alloc_new wA _)).1 0
        have d1 : W.cell? ⟨wA.heap.size, 1, none⟩ = some (.slice ua 32 uc) := by rw [← hW]; exact (block_cells (heap_alloc_new wA _)).1 1
        have hlt : wA.heap.size < W.heap.size := by rw [← hW]; simp
        have hrow := (hu.out.below hq).mono hq.size
        have hbW := hb2.trans (hq.mono hb2.size)
        have QBW := Lib.hid hbW
        have D0 := Lib.hid d0
        have D1 := Lib.hid d1
        have hlW := (hl1.below hbW).mono hbW.size
        have cSame := same_ct hlW ((hv'.below hbW).mono hbW.size) true (sameP_self l)
        have cAw := awake03_ct W
        have cV := cvalid_ct hlW _ hv
        have cT := tvalid_ct (w := W) (TS t) hs _ htr
        have cLoad := load_ct hlW hv
        have cRead := read_ct (w := W) t ht
        clear hq hb2 hu d0 d1 hbW hlW hl1 hv'
        clear htr hf1 hgd
        generalize TS t = S at *
        go_wp2_with fail
        refine (cSame _ (Below.refl _ _)).mono ?_
        rintro e w1 ⟨rfl, hb1⟩
        go_wp2_with fail
        refine (cV _ hb1).mono ?_
        rintro e w2 ⟨rfl, hb2⟩
        clear hb1
        go_wp2_with fail
        refine (cT _ hb2).mono ?_
        rintro e w3 ⟨rfl, hb3⟩
        clear hb2
        go_wp2_with fail
        refine (cLoad _ hb3).mono ?_
        rintro e w4 ⟨gm, tv, rfl, hm, hb4⟩
        clear hb3
        go_wp2_with fail
        refine (cRead _ hb4).mono ?_
        rintro e w5 ⟨q, rfl, hq, hb5⟩
        clear hb4
        have hm2 := hm.out.below hq.out.2
        have kr := fun hb => raft_ct (w := W) (by omega) hm2 hq.out.1 ht hv _ hR hb
        clear hm2
        go_wp2_with fail
        refine (kr hb5).mono ?_
        rintro e w6 ⟨gs, gr, cp, ps, rfl, hs, hgr, hb6'⟩
        have hb6 := hb5.trans (hb6'.mono hb5.size)
        have e0 := (hb6.cell (p := ⟨wA.heap.size, 0, none⟩) hlt).trans D0.out
        have e1 := (hb6.cell (p := ⟨wA.heap.size, 1, none⟩) hlt).trans D1.out
        have hlt6 : wA.heap.size < w6.heap.size := by have := hb6.size; omega
        have keep : ∀ w', Below w6.heap.size w6 w' → w'.cell? ⟨wA.heap.size, 0, none⟩ = some (.int .i64 s'.pos) ∧ w'.cell? ⟨wA.heap.size, 1, none⟩ = some (.slice ua 32 uc) := fun w' hb => ⟨(hb.cell (p := ⟨wA.heap.size, 0, none⟩) hlt6).trans e0, (hb.cell (p := ⟨wA.heap.size, 1, none⟩) hlt6).trans e1⟩
        have kT : ∀ w', Below w6.heap.size w6 w' → Calls Try.prog 42 #[.pointer (some ⟨gs, 0, none⟩)] w' fun e w'' => ∃ x, e = .returned (.agg #[.int .i64 s'.pos, x]) ∧ Hid (StrRow w'' w''.heap.size x (s'.regs.map TS)) ∧ Below w6.heap.size w6 w'' := fun w' hb => by
          refine (rtext_any w' _ gs gr cp l.length s' ps (by rw [hgs.2.1]; exact hs.kept hb) hgs).mono ?_
          rintro e w'' ⟨x, h1, h2, h3⟩
          exact ⟨x, h1, h2, hb.trans (h3.mono hb.size)⟩
        have kS : ∀ w' x, StrRow w' w'.heap.size x (s'.regs.map TS) → Below w6.heap.size w6 w' → Calls Try.prog 41 #[.agg #[.int .i64 s'.pos, .slice ua 32 uc], .agg #[.int .i64 s'.pos, x]] w' fun e w'' => e = .returned (.bool true) ∧ Below w6.heap.size w6 w'' := fun w' x hx hb => by
          have hb' := hb6.trans (hb.mono hb6.size)
          refine (sameState_any _ _ _ x _ _ w' ((hrow.below hb').mono hb'.size) hx).mono ?_
          rintro e w'' ⟨rfl, h2⟩
          exact ⟨by simp [sameS, sameB_self], hb.trans (h2.mono hb.size)⟩
        have kA : ∀ w', Below w6.heap.size w6 w' → Calls Try.prog 25 #[] w' fun e w'' => e = .returned (.bool true) ∧ Below w6.heap.size w6 w'' := awake03_ct w6
        have HB6 := Lib.hid hb6
        have HKEEP := Lib.hid keep
        have HKT := Lib.hid kT
        have HKS := Lib.hid kS
        have HKA := Lib.hid kA
        clear kr hb5 hb6 hb6' keep kT kS kA hs hgr hrow
        go_wp2
        go_region_held3 (fun w' => w'.cell? ⟨wA.heap.size, 0, none⟩ = some (.int .i64 s'.pos) ∧ w'.cell? ⟨wA.heap.size, 1, none⟩ = some (.slice ua 32 uc))
          (with_reducible (first | exact HKEEP.out _ hbA | exact HKEEP.out _ hbS | exact HKEEP.out _ hbT | exact HKEEP.out _ (Below.refl _ _) | exact HKEEP.out _ (Below.refl _ _).drew))
          ((first
            | ((with_reducible refine (HKT.out _ (by first | exact Below.refl _ _ | exact (Below.refl _ _).drew)).mono ?_); rintro e wT ⟨x, rfl, hx, hbT⟩)
            | ((with_reducible refine (HKS.out _ _ hx.out hbT).mono ?_); rintro e wS ⟨rfl, hbS⟩)
            | ((with_reducible refine (HKA.out _ hbS).mono ?_); rintro e wZ ⟨rfl, hbA⟩)))
        go_wp2
        go_ret
        have hb7 := HB6.out.trans (hbA.mono HB6.out.size)
        exact ⟨rfl, HQ.out.trans ((QBW.out.trans (hb7.mono QBW.out.size)).mono HQ.out.size)⟩
      | done s' n =>
        have hgs := hgd.1 s' n hR
        have cA := aft_ok_ct hl1 hv t ht K hK s'.pos (s'.regs.map TS) 32 (by simp [hgs.2.1]) n 0 (by rw [hR]; rfl)
        go_wp2_with fail
        refine (cA _ (Below.refl _ _)).mono ?_
        rintro e wA ⟨ua, uc, rfl, hu, hb2⟩
        obtain ⟨W, hW⟩ : ∃ W, wA.alloc (.cells #[.int .i64 s'.pos, (.slice ua 32 uc)] 53) = W := ⟨_, rfl⟩
        have hq : Below wA.heap.size wA W := by rw [← hW]; exact (Below.refl _ _).alloc (Nat.le_refl _) _
        have d0 : W.cell? ⟨wA.heap.size, 0, none⟩ = some (.int .i64 s'.pos) := by rw [← hW]; exact (block_cells (heap_alloc_new wA _)).1 0
        have d1 : W.cell? ⟨wA.heap.size, 1, none⟩ = some (.slice ua 32 uc) := by rw [← hW]; exact (block_cells (heap_alloc_new wA _)).1 1
        have hlt : wA.heap.size < W.heap.size := by rw [← hW]; simp
        have hrow := (hu.out.below hq).mono hq.size
        have hbW := hb2.trans (hq.mono hb2.size)
        have QBW := Lib.hid hbW
        have D0 := Lib.hid d0
        have D1 := Lib.hid d1
        have hlW := (hl1.below hbW).mono hbW.size
        have cSame := same_ct hlW ((hv'.below hbW).mono hbW.size) true (sameP_self l)
        have cAw := awake03_ct W
        have cV := cvalid_ct hlW _ hv
        have cT := tvalid_ct (w := W) (TS t) hs _ htr
        have cLoad := load_ct hlW hv
        have cRead := read_ct (w := W) t ht
        clear hq hb2 hu d0 d1 hbW hlW hl1 hv'
        clear htr hf1 hgd
        generalize TS t = S at *
        go_wp2_with fail
        refine (cSame _ (Below.refl _ _)).mono ?_
        rintro e w1 ⟨rfl, hb1⟩
        go_wp2_with fail
        refine (cV _ hb1).mono ?_
        rintro e w2 ⟨rfl, hb2⟩
        clear hb1
        go_wp2_with fail
        refine (cT _ hb2).mono ?_
        rintro e w3 ⟨rfl, hb3⟩
        clear hb2
        go_wp2_with fail
        refine (cLoad _ hb3).mono ?_
        rintro e w4 ⟨gm, tv, rfl, hm, hb4⟩
        clear hb3
        go_wp2_with fail
        refine (cRead _ hb4).mono ?_
        rintro e w5 ⟨q, rfl, hq, hb5⟩
        clear hb4
        have hm2 := hm.out.below hq.out.2
        have kr := fun hb => raft_ct (w := W) (by omega) hm2 hq.out.1 ht hv _ hR hb
        clear hm2
        go_wp2_with fail
        refine (kr hb5).mono ?_
        rintro e w6 ⟨gs, gr, cp, ps, rfl, hs, hgr, hb6'⟩
        have hb6 := hb5.trans (hb6'.mono hb5.size)
        have e0 := (hb6.cell (p := ⟨wA.heap.size, 0, none⟩) hlt).trans D0.out
        have e1 := (hb6.cell (p := ⟨wA.heap.size, 1, none⟩) hlt).trans D1.out
        have hlt6 : wA.heap.size < w6.heap.size := by have := hb6.size; omega
        have keep : ∀ w', Below w6.heap.size w6 w' → w'.cell? ⟨wA.heap.size, 0, none⟩ = some (.int .i64 s'.pos) ∧ w'.cell? ⟨wA.heap.size, 1, none⟩ = some (.slice ua 32 uc) := fun w' hb => ⟨(hb.cell (p := ⟨wA.heap.size, 0, none⟩) hlt6).trans e0, (hb.cell (p := ⟨wA.heap.size, 1, none⟩) hlt6).trans e1⟩
        have kT : ∀ w', Below w6.heap.size w6 w' → Calls Try.prog 42 #[.pointer (some ⟨gs, 0, none⟩)] w' fun e w'' => ∃ x, e = .returned (.agg #[.int .i64 s'.pos, x]) ∧ Hid (StrRow w'' w''.heap.size x (s'.regs.map TS)) ∧ Below w6.heap.size w6 w'' := fun w' hb => by
          refine (rtext_any w' _ gs gr cp l.length s' ps (by rw [hgs.2.1]; exact hs.kept hb) hgs).mono ?_
          rintro e w'' ⟨x, h1, h2, h3⟩
          exact ⟨x, h1, h2, hb.trans (h3.mono hb.size)⟩
        have kS : ∀ w' x, StrRow w' w'.heap.size x (s'.regs.map TS) → Below w6.heap.size w6 w' → Calls Try.prog 41 #[.agg #[.int .i64 s'.pos, .slice ua 32 uc], .agg #[.int .i64 s'.pos, x]] w' fun e w'' => e = .returned (.bool true) ∧ Below w6.heap.size w6 w'' := fun w' x hx hb => by
          have hb' := hb6.trans (hb.mono hb6.size)
          refine (sameState_any _ _ _ x _ _ w' ((hrow.below hb').mono hb'.size) hx).mono ?_
          rintro e w'' ⟨rfl, h2⟩
          exact ⟨by simp [sameS, sameB_self], hb.trans (h2.mono hb.size)⟩
        have kA : ∀ w', Below w6.heap.size w6 w' → Calls Try.prog 25 #[] w' fun e w'' => e = .returned (.bool true) ∧ Below w6.heap.size w6 w'' := awake03_ct w6
        have HB6 := Lib.hid hb6
        have HKEEP := Lib.hid keep
        have HKT := Lib.hid kT
        have HKS := Lib.hid kS
        have HKA := Lib.hid kA
        clear kr hb5 hb6 hb6' keep kT kS kA hs hgr hrow
        go_wp2
        go_region_held3 (fun w' => w'.cell? ⟨wA.heap.size, 0, none⟩ = some (.int .i64 s'.pos) ∧ w'.cell? ⟨wA.heap.size, 1, none⟩ = some (.slice ua 32 uc))
          (with_reducible (first | exact HKEEP.out _ hbA | exact HKEEP.out _ hbS | exact HKEEP.out _ hbT | exact HKEEP.out _ (Below.refl _ _) | exact HKEEP.out _ (Below.refl _ _).drew))
          ((first
            | ((with_reducible refine (HKT.out _ (by first | exact Below.refl _ _ | exact (Below.refl _ _).drew)).mono ?_); rintro e wT ⟨x, rfl, hx, hbT⟩)
            | ((with_reducible refine (HKS.out _ _ hx.out hbT).mono ?_); rintro e wS ⟨rfl, hbS⟩)
            | ((with_reducible refine (HKA.out _ hbS).mono ?_); rintro e wZ ⟨rfl, hbA⟩)))
        go_wp2
        go_ret
        have hb7 := HB6.out.trans (hbA.mono HB6.out.size)
        exact ⟨rfl, HQ.out.trans ((QBW.out.trans (hb7.mono QBW.out.size)).mono HQ.out.size)⟩
  · have cA := aft_form_ct hl1 s hs fuel (by cases h1 : validB l <;> cases h2 : isTree s <;> simp_all)
    obtain ⟨bv, hbv⟩ : ∃ b, validB l = b := ⟨_, rfl⟩
    cases bv with
    | false =>
      go_wp2_with fail
      refine (cA _ (Below.refl _ _)).mono ?_
      rintro e wA ⟨ua, uc, rfl, hu, hb2⟩
      obtain ⟨W, hW⟩ : ∃ W, wA.alloc (.cells #[.int .i64 0, (.slice ua 0 uc)] 53) = W := ⟨_, rfl⟩
      have hq : Below wA.heap.size wA W := by rw [← hW]; exact (Below.refl _ _).alloc (Nat.le_refl _) _
      have d0 : W.cell? ⟨wA.heap.size, 0, none⟩ = some (.int .i64 0) := by rw [← hW]; exact (block_cells (heap_alloc_new wA _)).1 0
      have d1 : W.cell? ⟨wA.heap.size, 1, none⟩ = some (.slice ua 0 uc) := by rw [← hW]; exact (block_cells (heap_alloc_new wA _)).1 1
      have hlt : wA.heap.size < W.heap.size := by rw [← hW]; simp
      have hrow := (hu.out.below hq).mono hq.size
      have hbW := hb2.trans (hq.mono hb2.size)
      have QBW := Lib.hid hbW
      have D0 := Lib.hid d0
      have D1 := Lib.hid d1
      have hlW := (hl1.below hbW).mono hbW.size
      have cSame := same_ct hlW ((hv'.below hbW).mono hbW.size) true (sameP_self l)
      have cAw := awake03_ct W
      have cN := none_ct (n := 0) (L := []) true (by rfl) hrow
      have cV := cvalid_ct hlW _ hbv
      clear hq hb2 hu d0 d1 hbW hlW hl1 hv'
      clear hbv hgood
      go_wp2_with fail
      refine (cSame _ (Below.refl _ _)).mono ?_
      rintro e w1 ⟨rfl, hb1⟩
      go_wp2_with fail
      refine (cV _ hb1).mono ?_
      rintro e w2 ⟨rfl, hb2⟩
      clear hb1
      have e0 := (hb2.cell (p := ⟨wA.heap.size, 0, none⟩) hlt).trans D0.out
      have e1 := (hb2.cell (p := ⟨wA.heap.size, 1, none⟩) hlt).trans D1.out
      go_wp2_with fail
      refine (cN _ hb2).mono ?_
      rintro e w3 ⟨rfl, hb3⟩
      clear hb2
      go_wp2_with fail
      refine (cAw _ hb3).mono ?_
      rintro e w4 ⟨rfl, hb4⟩
      clear hb3
      go_wp2
      go_ret
      exact ⟨rfl, HQ.out.trans ((QBW.out.trans (hb4.mono QBW.out.size)).mono HQ.out.size)⟩
    | true =>
      have htr : isTree s = false := by cases h2 : isTree s <;> simp_all
      go_wp2_with fail
      refine (cA _ (Below.refl _ _)).mono ?_
      rintro e wA ⟨ua, uc, rfl, hu, hb2⟩
      obtain ⟨W, hW⟩ : ∃ W, wA.alloc (.cells #[.int .i64 0, (.slice ua 0 uc)] 53) = W := ⟨_, rfl⟩
      have hq : Below wA.heap.size wA W := by rw [← hW]; exact (Below.refl _ _).alloc (Nat.le_refl _) _
      have d0 : W.cell? ⟨wA.heap.size, 0, none⟩ = some (.int .i64 0) := by rw [← hW]; exact (block_cells (heap_alloc_new wA _)).1 0
      have d1 : W.cell? ⟨wA.heap.size, 1, none⟩ = some (.slice ua 0 uc) := by rw [← hW]; exact (block_cells (heap_alloc_new wA _)).1 1
      have hlt : wA.heap.size < W.heap.size := by rw [← hW]; simp
      have hrow := (hu.out.below hq).mono hq.size
      have hbW := hb2.trans (hq.mono hb2.size)
      have QBW := Lib.hid hbW
      have D0 := Lib.hid d0
      have D1 := Lib.hid d1
      have hlW := (hl1.below hbW).mono hbW.size
      have cSame := same_ct hlW ((hv'.below hbW).mono hbW.size) true (sameP_self l)
      have cAw := awake03_ct W
      have cN := none_ct (n := 0) (L := []) true (by rfl) hrow
      have cV := cvalid_ct hlW _ hbv
      have cT := tvalid_ct (w := W) s hs _ htr
      clear hq hb2 hu d0 d1 hbW hlW hl1 hv'
      clear hbv hgood htr
      go_wp2_with fail
      refine (cSame _ (Below.refl _ _)).mono ?_
      rintro e w1 ⟨rfl, hb1⟩
      go_wp2_with fail
      refine (cV _ hb1).mono ?_
      rintro e w2 ⟨rfl, hb2⟩
      clear hb1
      go_wp2_with fail
      refine (cT _ hb2).mono ?_
      rintro e w3 ⟨rfl, hb3⟩
      clear hb2
      have e0 := (hb3.cell (p := ⟨wA.heap.size, 0, none⟩) hlt).trans D0.out
      have e1 := (hb3.cell (p := ⟨wA.heap.size, 1, none⟩) hlt).trans D1.out
      go_wp2_with fail
      refine (cN _ hb3).mono ?_
      rintro e w4 ⟨rfl, hb4⟩
      clear hb3
      go_wp2_with fail
      refine (cAw _ hb4).mono ?_
      rintro e w5 ⟨rfl, hb5⟩
      clear hb4
      go_wp2
      go_ret
      exact ⟨rfl, HQ.out.trans ((QBW.out.trans (hb5.mono QBW.out.size)).mono HQ.out.size)⟩

end Go.Proofs.Ytieocihlkpipmaa

namespace Go.Proofs.Ytieocihlkpipmaa
open Go.RowKit

theorem blk_lift {A B : World} {b : Nat} {o : Obj} (hb : Below A.heap.size A B) (h : A.heap[b]? = some o) : B.heap[b]? = some o := below_blk hb h (Array.getElem?_eq_some_iff.1 h).1
theorem same_at {w : World} {v v' : Value} {l l' : List Ins} (b : Bool) (h1 : InsRow w w.heap.size v l) (h2 : InsRow w w.heap.size v' l') (hb : sameP l l' = b) : Calls Try.prog 22 #[v, v'] w fun e w' => e = .returned (.bool b) ∧ Below w.heap.size w w' := same_ct h1 h2 b hb w (Below.refl _ _)
theorem same_self {w : World} {v v' : Value} {l : List Ins} (h1 : InsRow w w.heap.size v l) (h2 : InsRow w w.heap.size v' l) : Calls Try.prog 22 #[v, v'] w fun e w' => e = .returned (.bool true) ∧ Below w.heap.size w w' := same_at true h1 h2 (sameP_self l)
theorem cvalid_at {w : World} {v : Value} {l : List Ins} (b : Bool) (hb : validB l = b) (h1 : InsRow w w.heap.size v l) : Calls Try.prog 23 #[v] w fun e w' => e = .returned (.bool b) ∧ Below w.heap.size w w' := cvalid_ct h1 b hb w (Below.refl _ _)
theorem tvalid_at (s : ByteArray) (hs : s.size ≤ 140737488355328) (b : Bool) (hb : isTree s = b) (w : World) : Calls Try.prog 24 #[.string s] w fun e w' => e = .returned (.bool b) ∧ Below w.heap.size w w' := tvalid_ct s hs b hb w (Below.refl _ _)
/-- Run, where it may run. -/
theorem runOk_at {w : World} {v : Value} {l : List Ins} {t : Tr} {S : ByteArray} (K : Nat) (Ki : Int) (y : ByteArray) (k : Nat) (er : Int) (hr : (goF l K 0 (startS t)).run = (y, k, er)) (hv : validB l = true) (ht : t.size ≤ 2000000) (hS : TS t = S) (hKi : Ki = K) (hK : K ≤ 10000000) (hl : InsRow w w.heap.size v l) :
    Calls Try.prog 21 #[v, .string S, .int .i64 Ki] w fun e w' => e = .returned (.tuple #[.string y, .int .i64 k, .int .i64 er]) ∧ Below w.heap.size w w' := run_at hv ht hS K Ki hKi hK y k er hr w v hl (Below.refl _ _)

end Go.Proofs.Ytieocihlkpipmaa

namespace Go.Proofs.Ytieocihlkpipmaa
open Go.RowKit

theorem least_of {p : Nat → Prop} (n : Nat) (h : p n) : ∃ m, m ≤ n ∧ p m ∧ ∀ j, j < m → ¬ p j := by
  induction n using Nat.strongRecOn with
  | _ n ih =>
    by_cases e : ∃ j, j < n ∧ p j
    · obtain ⟨j, hj, hp⟩ := e
      obtain ⟨m, h1, h2, h3⟩ := ih j hj hp
      exact ⟨m, by omega, h2, h3⟩
    · exact ⟨n, Nat.le_refl _, h, fun j hj hp => e ⟨j, hj, hp⟩⟩
theorem dbl_least (t : Tr) (ht : t.size ≤ 2000000) : ∃ m, 1 ≤ m ∧ m ≤ 20 ∧ 2000000 < (dblT t m).size ∧ ∀ j, j < m → (dblT t j).size ≤ 2000000 := by
  have h20 : 2000000 < (dblT t 20).size := by
    have h1 := dblT_size t 20
    have h2 := t.size_pos
    have h3 : (2 : Nat) ^ 20 = 1048576 := by rfl
    rw [h3] at h1
    omega
  obtain ⟨m, h1, h2, h3⟩ := least_of (p := fun j => 2000000 < (dblT t j).size) 20 h20
  refine ⟨m, ?_, h1, h2, fun j hj => by have := h3 j hj; omega⟩
  cases m with
  | zero => simp only [dblT] at h2; omega
  | succ m => omega
theorem dbl_big_run (t : Tr) (m : Nat) (hm : 1 ≤ m) (hb : 2000000 < (dblT t m).size) (hs : ∀ j, j < m → (dblT t j).size ≤ 2000000) : goF dblP (2 * m - 1) 0 (startS t) = .big := by
  have h := dbl_run (List.replicate 31 .nil) (m - 1) 1 0 t (hs _ (by omega))
  rw [show 1 + 2 * (m - 1) = 2 * m - 1 by omega] at h
  refine h.trans (goF_big (by simp [dblP]) (dbl_big _ _ ?_))
  show 2000000 < (dblT t (m - 1 + 1)).size
  rw [show m - 1 + 1 = m by omega]; exact hb
theorem dbl_even (t : Tr) (q : Nat) (h : (dblT t q).size ≤ 2000000) : goF dblP (2 * q) 0 (startS t) = .fuel ⟨0, dblT t q :: List.replicate 31 .nil⟩ (2 * q) := by
  have := dbl_run (List.replicate 31 .nil) q 0 0 t h
  rw [Nat.zero_add] at this
  exact this.trans (goF_zero (by simp [dblP]))
theorem dbl_odd (t : Tr) (q : Nat) (h : (dblT t (q + 1)).size ≤ 2000000) : goF dblP (2 * q + 1) 0 (startS t) = .fuel ⟨1, dblT t (q + 1) :: List.replicate 31 .nil⟩ (2 * q + 1) := by
  have := dbl_run (List.replicate 31 .nil) q 1 0 t (Nat.le_trans (dblT_mono t q (q + 1) (by omega)) h)
  rw [Nat.zero_add, Nat.add_comm 1] at this
  refine this.trans ?_
  rw [goF_step (by simp [dblP]) (dbl_cons _ _ h)]
  exact goF_zero (by simp [dblP])
theorem dbl_at (t : Tr) (k : Nat) (h : (dblT t ((k + 1) / 2)).size ≤ 2000000) : ∃ p : Nat, goF dblP k 0 (startS t) = .fuel ⟨p, dblT t ((k + 1) / 2) :: List.replicate 31 .nil⟩ k := by
  by_cases he : k % 2 = 0
  · obtain ⟨q, rfl⟩ : ∃ q, k = 2 * q := ⟨k / 2, by omega⟩
    rw [show (2 * q + 1) / 2 = q by omega] at h ⊢
    exact ⟨_, dbl_even t q h⟩
  · obtain ⟨q, rfl⟩ : ∃ q, k = 2 * q + 1 := ⟨k / 2, by omega⟩
    rw [show (2 * q + 1 + 1) / 2 = q + 1 by omega] at h ⊢
    exact ⟨_, dbl_odd t q h⟩
theorem rem_int (c z : Int) (hz : 1 ≤ z) : ∃ d : Int, c.tmod z = d ∧ -z < d ∧ d < z ∧ ∃ k : Nat, (k : Int) < z ∧ (d + z).tmod z = k := by
  have h1 : -z < c.tmod z := by have := Int.tmod_lt_of_pos (-c) (show 0 < z by omega); rw [Int.neg_tmod] at this; omega
  have h2 : c.tmod z < z := Int.tmod_lt_of_pos c (by omega)
  have h3 := Int.tmod_lt_of_pos (c.tmod z + z) (show 0 < z by omega)
  have h4 := Int.tmod_nonneg z (show 0 ≤ c.tmod z + z by omega)
  exact ⟨_, rfl, h1, h2, ((c.tmod z + z).tmod z).toNat, by omega, by omega⟩
theorem afterOk_at {w : World} {v : Value} {l : List Ins} {t : Tr} {S : ByteArray} (K : Nat) (n : Int) (L : List ByteArray) (LL : Nat) (hL : L.length = LL) (m : Nat) (er : Int) (hr : (goF l K 0 (startS t)).after = (n, L, m, er)) (hv : validB l = true) (ht : t.size ≤ 2000000) (hS : TS t = S) (hK : K ≤ 10000000) (hl : InsRow w w.heap.size v l) :
    Calls Try.prog 38 #[v, .string S, .int .i64 K] w fun e w' => ∃ ua uc, e = .returned (.tuple #[.agg #[.int .i64 n, .slice ua LL uc], .int .i64 m, .int .i64 er]) ∧ StrRow w' w'.heap.size (.slice ua LL uc) L ∧ Below w.heap.size w w' := by
  rw [← hS]; exact aft_ok_ct hl hv t ht K hK n L LL hL m er hr w (Below.refl _ _)

set_option maxRecDepth 100000 in
set_option maxHeartbeats 4000000 in
theorem law_RunShared (x : ByteArray) (hx : x.size ≤ 140737488355328) (less : Int) (hl : -9223372036854775808 ≤ less ∧ less ≤ 9223372036854775807) (w : World) :
    Calls Try.prog 9 #[.string x, .int .i64 less] w fun e w' => e = .returned (.bool true) ∧ Below w.heap.size w w' := by
  obtain ⟨bx, hbx⟩ : ∃ b, isTree x = b := ⟨_, rfl⟩
  have HX := Lib.hid hbx
  have kX := fun w => refValid_any x (by omega : x.size ≤ 281474976710656) w
  rw [hbx] at kX
  clear hbx
  cases bx with
  | false =>
    go_enter Try.func9, Try.ntmps9
    go_wp2_with fail
    refine (kX _).mono ?_
    rintro e w1 ⟨rfl, rfl⟩
    go_wp2_with fail
    refine (awake03 _).mono ?_
    rintro e w1 ⟨rfl, hb1⟩
    go_wp2
    go_ret
    exact ⟨rfl, hb1⟩
  | true =>
    obtain ⟨t, htx, ht⟩ := isTree_get HX.out
    obtain ⟨m, hm1, hm2, hm3, hm4⟩ := dbl_least t ht
    obtain ⟨dz, hdz⟩ : ∃ dz : Nat → Nat, ∀ j, dz j = (dblT t j).size := ⟨_, fun _ => rfl⟩
    have HSUC := Lib.hid (show ∀ j, dz (j + 1) = 2 * dz j + 1 from fun j => by rw [hdz, hdz]; simp only [dblT, Tr.size]; omega)
    have hx0 : x.size = dz 0 := by rw [htx, TS_size, hdz]; rfl
    have hxI : (x.size : Int) = (dz 0 : Int) := by omega
    have HZ0 := Lib.hid hxI
    have HS := Lib.hid htx.symm
    have hbig : 2000000 < dz m := by rw [hdz]; exact hm3
    have hsm : ∀ j, j < m → dz j ≤ 2000000 := fun j hj => by rw [hdz]; exact hm4 j hj
    have HSM := Lib.hid hsm
    have HBIG := Lib.hid hbig
    have HM3 := Lib.hid hm3
    have HM4 := Lib.hid hm4
    have HDZ := Lib.hid hdz
    clear htx hx0 hxI hbig hsm hm3 hm4 hdz
    obtain ⟨st, hst⟩ : ∃ st : Nat → Nat, ∀ j, st j = 2 * j := ⟨_, fun _ => rfl⟩
    have HST := Lib.hid hst
    have hst0 : (st 0 : Int) = 0 := by rw [hst]; rfl
    have HST0 := Lib.hid hst0
    clear hst hst0
    go_enter Try.func9, Try.ntmps9
    go_wp2_with fail
    refine (kX _).mono ?_
    rintro e w1 ⟨rfl, rfl⟩
    clear kX
    go_wp2
    go_loopg [5, 6] m (fun gg a b wr => ∃ j : Nat, j ≤ m ∧ gg = m - j ∧ a = .int .i64 (dz j : Nat) ∧ b = .int .i64 (st j : Nat) ∧ w = wr)
    case atStart => exact ⟨0, by omega, rfl, congrArg (Value.int IntKind.i64) HZ0.out, congrArg (Value.int IntKind.i64) HST0.out.symm, rfl⟩
    case round =>
      obtain ⟨j, hj, hgg, rfl, rfl, rfl⟩ := hrel
      have HGG := Lib.hid hgg
      have hs1 := HST.out j
      have hsb : (st j : Int) ≤ 40 := by omega
      clear hgg hs1
      by_cases hlt : j < m
      · have hle : (dz j : Int) ≤ 2000000 := by have := HSM.out j hlt; omega
        go_wp2
        go_roundg (m - (j + 1))
        case measure => rw [HGG.out]; omega
        case rel => exact ⟨j + 1, by omega, rfl, congrArg (Value.int IntKind.i64) (by have := HSUC.out j; omega), congrArg (Value.int IntKind.i64) (by have := HST.out j; have := HST.out (j + 1); omega), rfl⟩
      · obtain rfl : j = m := by omega
        have hle : 2000000 < (dz j : Int) := by have := HBIG.out; omega
        have hS2 : st j = 2 * j := HST.out j
        have HR1 := Lib.hid (show (goF dblP (st j - 1) 0 (startS t)).run = (⟨#[]⟩, 0, 3) by rw [hS2, dbl_big_run t j hm1 HM3.out HM4.out]; rfl)
        have HR2 := Lib.hid (show (goF dblP (st j - 2) 0 (startS t)).run = (⟨#[]⟩, 0, 7) by rw [hS2, show 2 * j - 2 = 2 * (j - 1) by omega, dbl_even t (j - 1) (HM4.out _ (by omega))]; rfl)
        obtain ⟨S, hS⟩ : ∃ S, st j = S := ⟨_, rfl⟩
        rw [hS] at hS2 HR1 HR2 hsb ⊢
        have hSI1 : (2 : Int) ≤ S := by omega
        have hSI2 : (S : Int) ≤ 40 := by omega
        obtain ⟨d, hd, hd1, hd2, k, hk, hdk⟩ := rem_int less ((S : Int) - 1) (by omega)
        rw [show d + ((S : Int) - 1) = d + S - 1 by omega] at hdk
        have hzne : ((S : Int) - 1 == 0) = false := by rw [beq_eq_false_iff_ne]; omega
        obtain ⟨K, hK⟩ : ∃ K : Nat, (S : Int) - 2 - k = K := ⟨((S : Int) - 2 - k).toNat, by omega⟩
        obtain ⟨q, hq⟩ : ∃ q, (K + 1) / 2 = q := ⟨_, rfl⟩
        have hqm : q ≤ j - 1 := by omega
        have HLE := Lib.hid (show ∀ i, i ≤ q → dz i ≤ 2000000 from fun i hi => HSM.out i (by omega))
        have hat := dbl_at t K (by rw [hq]; exact HM4.out _ (by omega))
        rw [hq] at hat
        obtain ⟨p, hp⟩ := hat
        have HR3 := Lib.hid (show (goF dblP K 0 (startS t)).after = ((p : Int), (dblT t q :: List.replicate 31 .nil).map TS, K, 0) by rw [hp]; rfl)
        have hq1 : ((K : Int) + 1) / 2 = (q : Int) := by omega
        have hq2 : ((K : Int) + 1).tdiv 2 = (q : Int) := by rw [Int.tdiv_eq_ediv_of_nonneg (by omega)]; omega
        have hKI : (K : Int) ≤ 40 := by omega
        have hqI : (q : Int) ≤ 40 := by omega
        have hS1 : S = 2 * j := hS2
        have HJ := Lib.hid hS1
        clear hS hp hq hS2 hS1 hj HSM HBIG HM3 HM4 HST HST0 HGG hqm
        go_wp2_with fail
        refine (doubles_any _).mono ?_
        rintro e w1 ⟨rfl, hd1, hb1⟩
        have ch1 := hb1
        clear hb1
        have hd1 := Lib.hid hd1
        go_wp2_with fail
        refine (runOk_at (S - 1) (S - 1) _ _ _ HR1.out dbl_valid ht HS.out (by omega) (by omega) hd1.out).mono ?_
        rintro e w2 ⟨rfl, hb2⟩
        have hd1 := Lib.hid ((hd1.out.below hb2).mono hb2.size)
        have ch2 := (ch1).trans (hb2.mono (ch1).size)
        clear ch1
        clear hb2
        go_wp2_with fail
        refine (doubles_any _).mono ?_
        rintro e w3 ⟨rfl, hd2, hb3⟩
        have hd1 := Lib.hid ((hd1.out.below hb3).mono hb3.size)
        have ch3 := (ch2).trans (hb3.mono (ch2).size)
        clear ch2
        clear hb3
        have hd2 := Lib.hid hd2
        go_wp2_with fail
        refine (runOk_at (S - 2) (S - 2) _ _ _ HR2.out dbl_valid ht HS.out (by omega) (by omega) hd2.out).mono ?_
        rintro e w4 ⟨rfl, hb4⟩
        have hd1 := Lib.hid ((hd1.out.below hb4).mono hb4.size)
        have hd2 := Lib.hid ((hd2.out.below hb4).mono hb4.size)
        have ch4 := (ch3).trans (hb4.mono (ch3).size)
        clear ch3
        clear hb4
        go_wp2_with fail
        refine (doubles_any _).mono ?_
        rintro e w5 ⟨rfl, hd3, hb5⟩
        have hd1 := Lib.hid ((hd1.out.below hb5).mono hb5.size)
        have hd2 := Lib.hid ((hd2.out.below hb5).mono hb5.size)
        have ch5 := (ch4).trans (hb5.mono (ch4).size)
        clear ch4
        clear hb5
        have hd3 := Lib.hid hd3
        go_wp2_with fail
        refine (afterOk_at K _ _ 32 (by simp) _ _ HR3.out dbl_valid ht HS.out (by omega) hd3.out).mono ?_
        rintro e w6 ⟨ua, uc, rfl, hrow, hb6⟩
        have hd1 := Lib.hid ((hd1.out.below hb6).mono hb6.size)
        have hd2 := Lib.hid ((hd2.out.below hb6).mono hb6.size)
        have hd3 := Lib.hid ((hd3.out.below hb6).mono hb6.size)
        have ch6 := (ch5).trans (hb6.mono (ch5).size)
        clear ch5
        clear hb6
        have hrow := Lib.hid hrow
        obtain ⟨W, hW⟩ : ∃ W, w6.alloc (.cells #[.int .i64 p, .slice ua 32 uc] 53) = W := ⟨_, rfl⟩
        have hq : Below w6.heap.size w6 W := by rw [← hW]; exact (Below.refl _ _).alloc (Nat.le_refl _) _
        have hbox : W.heap[w6.heap.size]? = some (.cells #[.int .i64 p, .slice ua 32 uc] 53 (0, 0)) := by rw [← hW]; exact heap_alloc_new w6 _
        have hrw := (hrow.out.below hq).mono hq.size
        have Hch6 := Lib.hid ((ch6).trans (hq.mono (ch6).size))
        obtain ⟨rg, off, hua, hrg, hc0⟩ := hrw.get (k := 0) (s := TS (dblT t q)) rfl
        have d1 := (block_cells hbox).1 1
        simp only [List.getElem?_toArray, List.getElem?_cons_zero, List.getElem?_cons_succ] at d1
        subst hua
        have hb6OX := Lib.hid hbox
        have HRW := Lib.hid hrw
        clear hq hrow hrw hbox
        go_wp2
        go_loopg [17, 18] q (fun gg a b wr => ∃ i : Nat, i ≤ q ∧ gg = q - i ∧ a = .int .i64 (dz i : Nat) ∧ b = .int .i64 i ∧ W = wr)
        case atStart => exact ⟨0, by omega, rfl, by rw [HZ0.out], rfl, rfl⟩
        case round =>
          obtain ⟨i, hi, hgg, rfl, rfl, rfl⟩ := hrel
          have HGG := Lib.hid hgg
          have hdi := HDZ.out i
          have hbi : (dz i : Int) ≤ 2000000 := by have := HLE.out i (by omega); omega
          have HDI := Lib.hid hdi
          clear hgg hdi
          by_cases hlt : i < q
          · have hltI : (i : Int) < (q : Int) := by omega
            go_wp2
            go_roundg (q - (i + 1))
            case measure => rw [HGG.out]; omega
            case rel => exact ⟨i + 1, by omega, rfl, congrArg (Value.int IntKind.i64) (by have := HSUC.out i; omega), by go_num, rfl⟩
          · obtain rfl : i = q := by omega
            have hlen : (TS (dblT t i)).size = dz i := by rw [TS_size, HDZ.out]
            have cT := tvalid_at (TS (dblT t i)) (by rw [hlen]; have := HLE.out i (Nat.le_refl _); omega) true (isTree_TS _ (by rw [← HDZ.out]; have := HLE.out i (Nat.le_refl _); omega))
            obtain ⟨Y, hY⟩ : ∃ Y, TS (dblT t i) = Y := ⟨_, rfl⟩
            rw [hY] at hc0 cT hlen
            rw [Nat.add_zero] at hc0
            clear hY
            go_wp2_with fail
            refine (cT _).mono ?_
            rintro e wX ⟨rfl, hb7⟩
            clear cT
            go_wp2_with fail
            refine (awake03 _).mono ?_
            rintro e wY ⟨rfl, hb8⟩
            have hb9 := hb7.trans (hb8.mono hb7.size)
            clear hb7 hb8
            go_wp2
            go_ret
            exact ⟨rfl, Hch6.out.trans (hb9.mono Hch6.out.size)⟩


end Go.Proofs.Ytieocihlkpipmaa


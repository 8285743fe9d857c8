/- asm: Here, Jump, New. -/
import Derived.Test.YtlaeljkjdfffjaaAsm1
namespace Go.Proofs.Ytlaeljkjdfffjaa
open Go.RowKit Go.Maps

set_option maxRecDepth 20000 in
theorem ahere_any {w : World} {B ba b1 b2 : Nat} {g : AsmG} (h : AsmW w B ba b1 b2 g) (s : ByteArray) (hs : s.size ≤ 1000000) (hg : g.sz ≤ 1000000) :
    Calls Try.prog 68 #[.pointer (some ⟨ba, 0, none⟩), .string s] w (AOut w B ba b1 b2 (g.here s)) := by
  obtain ⟨pa, pc, c0, c1, c2, f2, hblk, hown⟩ := h.cells
  obtain ⟨l1, l2, l3⟩ := h.lt
  obtain ⟨hB1, hB2, hB3, hne⟩ := h.le
  have hcell : ∀ {w' : World}, w'.heap[ba]? = w.heap[ba]? → w'.cell? ⟨ba, 2, none⟩ = some (.slice pa g.p.length pc) := fun hw => (block_cells (hw.trans hblk)).1 2
  have KC := Lib.hid (fun (w' : World) (hb : Below w.heap.size w w') => hcell (hb.block ba l1))
  have KD := Lib.hid (fun (w' : World) (hw : w'.heap[ba]? = w.heap[ba]?) => hcell hw)
  have KN := Lib.hid (fun (w' : World) (hb : Below w.heap.size w w') => (aname_any (h.below hb) s hs hg _ rfl).mono (fun e w'' hh => (show e = .returned (.tuple #[]) ∧ Hid (AsmW w'' B ba b1 b2 (g.here s)) ∧ Hid (AChg B w w'') ∧ Hid (w''.heap[ba]? = w.heap[ba]?) from
    ⟨hh.1.1, Lib.hid hh.1.2.1, Lib.hid ((AChg.of_below hb (by omega)).trans hh.1.2.2), Lib.hid (hh.2.trans (hb.block ba l1))⟩)))
  clear hcell f2 c0 c1 hblk hown hs hg h
  go_enter Try.func68, Try.ntmps68
  go_wp2
  go_region_held3 (fun w' => w'.cell? ⟨ba, 2, none⟩ = some (.slice pa g.p.length pc))
    (with_reducible (first | exact KC.out _ (Below.refl _ _) | exact KC.out _ (Below.refl _ _).drew | exact KD.out _ hK.out | fail "keep"))
    ((first | ((with_reducible refine (KN.out _ (by first | exact Below.refl _ _ | exact (Below.refl _ _).drew)).mono ?_); rintro e w1 ⟨rfl, hA, hC, hK⟩) | (fail "arm")))
  all_goals (
    go_wp2
    refine bodyPost_end (v := .tuple #[]) (by simp [results, Try.results68, go_sem]) rfl ?_
    exact ⟨rfl, hA.out, hC.out⟩)

set_option maxRecDepth 20000 in
theorem ajump_any {w : World} {B ba b1 b2 : Nat} {g : AsmG} (h : AsmW w B ba b1 b2 g) (a : Nat) (ha : a ≤ 1000) (s : ByteArray) (hs : s.size ≤ 1000000) (hg : g.sz ≤ 900000) :
    Calls Try.prog 69 #[.pointer (some ⟨ba, 0, none⟩), .int .i64 a, .string s] w (AOut w B ba b1 b2 (g.jump a s)) := by
  have hg : g.sz ≤ 1000000 := by omega
  obtain ⟨pa, pc, c0, c1, c2, f2, hblk, hown⟩ := h.cells
  obtain ⟨l1, l2, l3⟩ := h.lt
  obtain ⟨hB1, hB2, hB3, hne⟩ := h.le
  have hcell : ∀ {w' : World}, w'.heap[ba]? = w.heap[ba]? → w'.cell? ⟨ba, 2, none⟩ = some (.slice pa g.p.length pc) := fun hw => (block_cells (hw.trans hblk)).1 2
  have KC := Lib.hid (fun (w' : World) (hb : Below w.heap.size w w') => hcell (hb.block ba l1))
  have KD := Lib.hid (fun (w' : World) (hw : w'.heap[ba]? = w.heap[ba]?) => hcell hw)
  have KN := Lib.hid (fun (w' : World) (hb : Below w.heap.size w w') => (awant_any (h.below hb) s hs hg _ rfl).mono (fun e w'' hh => (show e = .returned (.tuple #[]) ∧ Hid (AsmW w'' B ba b1 b2 (g.want s)) ∧ Hid (AChg B w w'') ∧ Hid (w''.heap[ba]? = w.heap[ba]?) from
    ⟨hh.1.1, Lib.hid hh.1.2.1, Lib.hid ((AChg.of_below hb (by omega)).trans hh.1.2.2), Lib.hid (hh.2.trans (hb.block ba l1))⟩)))
  have hlen : g.p.length ≤ 1000000 := by unfold AsmG.sz at hg; omega
  clear hcell f2 c0 c1 hblk hown hs hg h
  go_enter Try.func69, Try.ntmps69
  go_wp2
  go_region_held3 (fun w' => w'.cell? ⟨ba, 2, none⟩ = some (.slice pa g.p.length pc))
    (with_reducible (first | exact KC.out _ (Below.refl _ _) | exact KC.out _ (Below.refl _ _).drew | exact KD.out _ hK.out | fail "keep"))
    ((first | ((with_reducible refine (KN.out _ (by first | exact Below.refl _ _ | exact (Below.refl _ _).drew)).mono ?_); rintro e w1 ⟨rfl, hA, hC, hK⟩) | (fail "arm")))
  all_goals (
    have h := hA.out
    obtain ⟨pa', pc', c0, c1, c2', f2, hblk, hown⟩ := h.cells
    obtain ⟨l1', l2', l3'⟩ := h.lt
    have hle := h.le
    have hpl : (g.want s).p = g.p := rfl
    have n1 : some ba ≠ (Value.slice pa' (g.want s).p.length pc').ownBlock := own_ne' hown.own hblk (fun cs f e => by simp at e)
    rw [hpl] at c2' hblk hown n1
    obtain ⟨rfl, rfl⟩ : pa' = pa ∧ pc' = pc := by
      have e := c2'.symm.trans (KD.out _ hK.out)
      injection e with e
      injection e with e1 e2 e3
      exact ⟨e1, e3⟩
    clear c0 c1 c2
    go_wp2_with (at_builtin; refine app_new el_ins rfl _ _ rfl (v := .slice pa' g.p.length pc') rfl hown.own (inscells [jumpI a 0]) 1 rfl (by rfl) (inscells_one _) (by omega) (by unfold maxLen; omega) (by omega) (B := B) (w0 := w1) (Below.refl _ _) (Nat.le_refl _) ?_)
    intro v' w2 h1 h2 h3
    obtain ⟨a', c', rfl⟩ := own_len h1
    obtain ⟨r1, r2⟩ := h.push hblk hown (jumpI_wf a 0 ha ⟨by omega, by omega⟩) h1 h3 h2
    have f3 := (block_cells ((h3.old ba l1' n1).trans hblk)).2 2
    have f4 : w2.cell? ⟨ba, 2, none⟩ = some (.slice pa' g.p.length pc') := (block_cells ((h3.old ba l1' n1).trans hblk)).1 2
    go_wp2
    refine bodyPost_end (v := .tuple #[]) (by simp [results, Try.results69, go_sem]) rfl ?_
    exact ⟨rfl, r1, hC.out.trans r2⟩)

theorem anew_any (w : World) : Calls Try.prog 62 #[] w fun e w' => ∃ ba b1 b2, e = .returned (.pointer (some ⟨ba, 0, none⟩)) ∧ AsmW w' w.heap.size ba b1 b2 AsmG.new ∧ Below w.heap.size w w' := by
  have hmm := @run_makeMap Try.prog
  go_enter Try.func62, Try.ntmps62
  go_wp2
  go_ret
  have e1 : (w.alloc (.map #[] 0)).heap.size = w.heap.size + 1 := by simp
  have e2 : ((w.alloc (.map #[] 0)).alloc (.map #[] 0)).heap.size = w.heap.size + 1 + 1 := by simp
  refine ⟨w.heap.size + 1 + 1, w.heap.size, w.heap.size + 1, rfl, ⟨⟨_, ?_, OwnI.nil _ _⟩, ?_, ?_, by omega⟩, ?_⟩
  · have h := heap_alloc_new ((w.alloc (.map #[] 0)).alloc (.map #[] 0)) (.cells #[.map (some w.heap.size), .map (some (w.heap.size + 1)), .slice none 0 0] 158)
    rw [e2] at h
    exact h
  · exact ((World.ownsMap_made w Try.prog 9 _).alloc _).alloc _
  · have h := (World.ownsMap_made (H := Unit) (w.alloc (.map #[] 0)) Try.prog 3 (plainElem Try.prog 9)).alloc (.cells #[.map (some w.heap.size), .map (some (w.heap.size + 1)), .slice none 0 0] 158)
    rw [e1] at h
    exact h
  · exact (((Below.refl _ _).alloc (Nat.le_refl _) _).alloc (by omega) _).alloc (by omega) _

end Go.Proofs.Ytlaeljkjdfffjaa


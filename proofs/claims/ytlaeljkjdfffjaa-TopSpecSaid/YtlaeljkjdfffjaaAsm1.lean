/- asm: the methods of a writer. -/
import Derived.StringKeys
import Derived.Test.YtlaeljkjdfffjaaAsmW
namespace Go.Proofs.Ytlaeljkjdfffjaa
open Go.RowKit Go.Maps

theorem law_str : Keyed Try.prog 9 := string_keyed Try.underlying9
theorem law_int : Keyed Try.prog 3 := int_keyed Try.underlying3
theorem aset_any {w : World} {B ba b1 b2 : Nat} {g : AsmG} (h : AsmW w B ba b1 b2 g) (a : Nat) (t : ByteArray) (ha : a ≤ 1000) (ht : t.size ≤ 1000) (hg : g.sz ≤ 1000000) :
    Calls Try.prog 67 #[.pointer (some ⟨ba, 0, none⟩), .int .i64 a, .string t] w (AOut w B ba b1 b2 (g.put (setI a t))) := by
  obtain ⟨pa, pc, c0, c1, c2, f2, hblk, hown⟩ := h.cells
  obtain ⟨l1, l2, l3⟩ := h.lt
  obtain ⟨hB1, hB2, hB3, hne⟩ := h.le
  have hn : g.n ≤ 1000000 ∧ g.p.length ≤ 1000000 := by unfold AsmG.sz at hg; omega
  have n1 : some ba ≠ (Value.slice pa g.p.length pc).ownBlock := own_ne' hown.own hblk (fun cs f e => by simp at e)
  go_enter Try.func67, Try.ntmps67
  go_wp2_with (at_builtin; refine app_new el_ins rfl _ _ rfl (v := .slice pa g.p.length pc) rfl hown.own (inscells [setI a t]) 1 rfl (by rfl) (inscells_one _) (by omega) (by unfold maxLen; omega) (by omega) (B := B) (w0 := w) (Below.refl _ _) (Nat.le_refl _) ?_)
  intro v' w2 h1 h2 h3
  obtain ⟨a', c', rfl⟩ := own_len h1
  obtain ⟨r1, r2⟩ := h.push hblk hown (setI_wf a t (by omega) (by omega)) h1 h3 h2
  have f3 := (block_cells ((h3.old ba l1 n1).trans hblk)).2 2
  have f4 : w2.cell? ⟨ba, 2, none⟩ = some (.slice pa g.p.length pc) := (block_cells ((h3.old ba l1 n1).trans hblk)).1 2
  go_wp2
  refine bodyPost_end (v := .tuple #[]) (by simp [results, Try.results67, go_sem]) rfl ?_
  exact ⟨rfl, r1, r2⟩

theorem acons_any {w : World} {B ba b1 b2 : Nat} {g : AsmG} (h : AsmW w B ba b1 b2 g) (a b c : Nat) (ha : a ≤ 1000) (hb : b ≤ 1000) (hc : c ≤ 1000) (hg : g.sz ≤ 1000000) :
    Calls Try.prog 66 #[.pointer (some ⟨ba, 0, none⟩), .int .i64 a, .int .i64 b, .int .i64 c] w (AOut w B ba b1 b2 (g.put (consI a b c))) := by
  obtain ⟨pa, pc, c0, c1, c2, f2, hblk, hown⟩ := h.cells
  obtain ⟨l1, l2, l3⟩ := h.lt
  obtain ⟨hB1, hB2, hB3, hne⟩ := h.le
  have hn : g.n ≤ 1000000 ∧ g.p.length ≤ 1000000 := by unfold AsmG.sz at hg; omega
  have n1 : some ba ≠ (Value.slice pa g.p.length pc).ownBlock := own_ne' hown.own hblk (fun cs f e => by simp at e)
  go_enter Try.func66, Try.ntmps66
  go_wp2_with (at_builtin; refine app_new el_ins rfl _ _ rfl (v := .slice pa g.p.length pc) rfl hown.own (inscells [consI a b c]) 1 rfl (by rfl) (inscells_one _) (by omega) (by unfold maxLen; omega) (by omega) (B := B) (w0 := w) (Below.refl _ _) (Nat.le_refl _) ?_)
  intro v' w2 h1 h2 h3
  obtain ⟨a', c', rfl⟩ := own_len h1
  obtain ⟨r1, r2⟩ := h.push hblk hown (consI_wf a b c ha hb hc) h1 h3 h2
  have f3 := (block_cells ((h3.old ba l1 n1).trans hblk)).2 2
  have f4 : w2.cell? ⟨ba, 2, none⟩ = some (.slice pa g.p.length pc) := (block_cells ((h3.old ba l1 n1).trans hblk)).1 2
  go_wp2
  refine bodyPost_end (v := .tuple #[]) (by simp [results, Try.results66, go_sem]) rfl ?_
  exact ⟨rfl, r1, r2⟩

theorem ahead_any {w : World} {B ba b1 b2 : Nat} {g : AsmG} (h : AsmW w B ba b1 b2 g) (a b : Nat) (ha : a ≤ 1000) (hb : b ≤ 1000) (hg : g.sz ≤ 1000000) :
    Calls Try.prog 63 #[.pointer (some ⟨ba, 0, none⟩), .int .i64 a, .int .i64 b] w (AOut w B ba b1 b2 (g.put (hdI a b))) := by
  obtain ⟨pa, pc, c0, c1, c2, f2, hblk, hown⟩ := h.cells
  obtain ⟨l1, l2, l3⟩ := h.lt
  obtain ⟨hB1, hB2, hB3, hne⟩ := h.le
  have hn : g.n ≤ 1000000 ∧ g.p.length ≤ 1000000 := by unfold AsmG.sz at hg; omega
  have n1 : some ba ≠ (Value.slice pa g.p.length pc).ownBlock := own_ne' hown.own hblk (fun cs f e => by simp at e)
  go_enter Try.func63, Try.ntmps63
  go_wp2_with (at_builtin; refine app_new el_ins rfl _ _ rfl (v := .slice pa g.p.length pc) rfl hown.own (inscells [hdI a b]) 1 rfl (by rfl) (inscells_one _) (by omega) (by unfold maxLen; omega) (by omega) (B := B) (w0 := w) (Below.refl _ _) (Nat.le_refl _) ?_)
  intro v' w2 h1 h2 h3
  obtain ⟨a', c', rfl⟩ := own_len h1
  obtain ⟨r1, r2⟩ := h.push hblk hown (wf_lit _ _ _ _ _ (by unfold i64; decide) (by unfold i64; omega) (by unfold i64; omega) (by unfold i64; decide) (by decide)) h1 h3 h2
  have f3 := (block_cells ((h3.old ba l1 n1).trans hblk)).2 2
  have f4 : w2.cell? ⟨ba, 2, none⟩ = some (.slice pa g.p.length pc) := (block_cells ((h3.old ba l1 n1).trans hblk)).1 2
  go_wp2
  refine bodyPost_end (v := .tuple #[]) (by simp [results, Try.results63, go_sem]) rfl ?_
  exact ⟨rfl, r1, r2⟩

theorem atail_any {w : World} {B ba b1 b2 : Nat} {g : AsmG} (h : AsmW w B ba b1 b2 g) (a b : Nat) (ha : a ≤ 1000) (hb : b ≤ 1000) (hg : g.sz ≤ 1000000) :
    Calls Try.prog 64 #[.pointer (some ⟨ba, 0, none⟩), .int .i64 a, .int .i64 b] w (AOut w B ba b1 b2 (g.put (tlI a b))) := by
  obtain ⟨pa, pc, c0, c1, c2, f2, hblk, hown⟩ := h.cells
  obtain ⟨l1, l2, l3⟩ := h.lt
  obtain ⟨hB1, hB2, hB3, hne⟩ := h.le
  have hn : g.n ≤ 1000000 ∧ g.p.length ≤ 1000000 := by unfold AsmG.sz at hg; omega
  have n1 : some ba ≠ (Value.slice pa g.p.length pc).ownBlock := own_ne' hown.own hblk (fun cs f e => by simp at e)
  go_enter Try.func64, Try.ntmps64
  go_wp2_with (at_builtin; refine app_new el_ins rfl _ _ rfl (v := .slice pa g.p.length pc) rfl hown.own (inscells [tlI a b]) 1 rfl (by rfl) (inscells_one _) (by omega) (by unfold maxLen; omega) (by omega) (B := B) (w0 := w) (Below.refl _ _) (Nat.le_refl _) ?_)
  intro v' w2 h1 h2 h3
  obtain ⟨a', c', rfl⟩ := own_len h1
  obtain ⟨r1, r2⟩ := h.push hblk hown (wf_lit _ _ _ _ _ (by unfold i64; decide) (by unfold i64; omega) (by unfold i64; omega) (by unfold i64; decide) (by decide)) h1 h3 h2
  have f3 := (block_cells ((h3.old ba l1 n1).trans hblk)).2 2
  have f4 : w2.cell? ⟨ba, 2, none⟩ = some (.slice pa g.p.length pc) := (block_cells ((h3.old ba l1 n1).trans hblk)).1 2
  go_wp2
  refine bodyPost_end (v := .tuple #[]) (by simp [results, Try.results64, go_sem]) rfl ?_
  exact ⟨rfl, r1, r2⟩

end Go.Proofs.Ytlaeljkjdfffjaa


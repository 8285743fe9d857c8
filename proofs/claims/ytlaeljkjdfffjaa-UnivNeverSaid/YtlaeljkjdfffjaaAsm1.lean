/- asm: the methods of a writer. -/
import Derived.StringKeys
import Derived.Test.YtlaeljkjdfffjaaAsmW
namespace Go.Proofs.Ytlaeljkjdfffjaa
open Go.RowKit Go.Maps

theorem law_str : Keyed Try.prog 9 := string_keyed Try.underlying9
theorem law_int : Keyed Try.prog 3 := int_keyed Try.underlying3
theorem key_str {s : ByteArray} (hs : s.size ≤ 1000000) : keyOf Try.prog 9 (.string s) = some (keyS s) := WideMaps.keyOf_string_mk Try.underlying9 (by unfold maxLen; omega)
theorem wf_int {k : Int} (h : 0 ≤ k ∧ k ≤ 1000000000) : (Lit.int .i64 k).wf = true := by
  show (decide (IntKind.min .i64 ≤ k) && decide (k ≤ IntKind.max .i64)) = true
  have h1 : IntKind.min .i64 = -9223372036854775808 := by decide
  have h2 : IntKind.max .i64 = 9223372036854775807 := by decide
  rw [h1, h2]
  simp
  omega

theorem aname_any {w : World} {B ba b1 b2 : Nat} {g : AsmG} (h : AsmW w B ba b1 b2 g) (s : ByteArray) (hs : s.size ≤ 1000000) (hg : g.sz ≤ 1000000) (k : Int) (hk : k = g.p.length) :
    Calls Try.prog 120 #[.pointer (some ⟨ba, 0, none⟩), .string s, .int .i64 k] w (fun e w' => AOut w B ba b1 b2 (g.here s) e w' ∧ w'.heap[ba]? = w.heap[ba]?) := by
  obtain ⟨pa, pc, c0, c1, c2, f2, hblk, hown⟩ := h.cells
  obtain ⟨l1, l2, l3⟩ := h.lt
  obtain ⟨hB1, hB2, hB3, hne⟩ := h.le
  obtain ⟨e1, cl1, m1⟩ := ownsMap_isMap h.pl
  have hn : g.n ≤ 1000000 ∧ g.p.length ≤ 1000000 := by unfold AsmG.sz at hg; omega
  have hfin : ∀ w' : World, w'.ownsMap Try.prog 9 (plainElem Try.prog 3) b1 (g.n + 1) (g.pl.put (keyS s) (.lit (keyI g.p.length))) → w.grownBy w' (some b1) → (AsmW w' B ba b1 b2 (g.here s) ∧ AChg B w w') ∧ w'.heap[ba]? = w.heap[ba]? := by
    intro w' h1 h2
    have hba : ba ≠ b1 := fun e => by rw [e, m1] at hblk; cases hblk
    refine ⟨?_, h2.block ba l1 (by simpa using hba)⟩
    exact ⟨⟨⟨_, (h2.block ba l1 (by simpa using hba)).trans hblk, hown.grownBy m1 h2⟩, h1, (h.fr.kept h2 (by simpa using Ne.symm hne)).mono (by show g.n ≤ g.n + 1; omega), h.le⟩, AChg.map hB2 (by omega) m1 h2⟩
  clear f2 c1 c2
  subst hk
  go_enter Try.func120, Try.ntmps120
  go_wp2_with (first
    | (at_mapUpdate; refine wpList_mapUpdate_own _ rfl _ _ _ 153 rfl 9 3 law_str Try.underlying153 _ b1 g.n _ rfl h.pl (by unfold maxLen; omega) _ _ _ rfl rfl (key_str hs) _ [] (plainElem_int Try.underlying3 (wf_int (by omega))) ?_)
    | go_in)
  intro w2 h1 h2
  obtain ⟨⟨r1, r2⟩, r3⟩ := hfin w2 h1 h2
  go_wp2
  refine bodyPost_end (v := .tuple #[]) (by simp [results, Try.results120, go_sem]) rfl ?_
  exact ⟨⟨rfl, r1, r2⟩, r3⟩

theorem awant_any {w : World} {B ba b1 b2 : Nat} {g : AsmG} (h : AsmW w B ba b1 b2 g) (s : ByteArray) (hs : s.size ≤ 1000000) (hg : g.sz ≤ 1000000) (k : Int) (hk : k = g.p.length) :
    Calls Try.prog 121 #[.pointer (some ⟨ba, 0, none⟩), .int .i64 k, .string s] w (fun e w' => AOut w B ba b1 b2 (g.want s) e w' ∧ w'.heap[ba]? = w.heap[ba]?) := by
  obtain ⟨pa, pc, c0, c1, c2, f2, hblk, hown⟩ := h.cells
  obtain ⟨l1, l2, l3⟩ := h.lt
  obtain ⟨hB1, hB2, hB3, hne⟩ := h.le
  obtain ⟨e1, cl1, m1⟩ := ownsMap_isMap h.fr
  have hn : g.n ≤ 1000000 ∧ g.p.length ≤ 1000000 := by unfold AsmG.sz at hg; omega
  have hfin : ∀ w' : World, w'.ownsMap Try.prog 3 (plainElem Try.prog 9) b2 (g.n + 1) (g.fr.put (keyI g.p.length) (.lit (keyS s))) → w.grownBy w' (some b2) → (AsmW w' B ba b1 b2 (g.want s) ∧ AChg B w w') ∧ w'.heap[ba]? = w.heap[ba]? := by
    intro w' h1 h2
    have hba : ba ≠ b2 := fun e => by rw [e, m1] at hblk; cases hblk
    refine ⟨?_, h2.block ba l1 (by simpa using hba)⟩
    exact ⟨⟨⟨_, (h2.block ba l1 (by simpa using hba)).trans hblk, hown.grownBy m1 h2⟩, (h.pl.kept h2 (by simpa using hne)).mono (by show g.n ≤ g.n + 1; omega), h1, h.le⟩, AChg.map hB3 (by omega) m1 h2⟩
  clear f2 c0 c2
  subst hk
  go_enter Try.func121, Try.ntmps121
  go_wp2_with (first
    | (at_mapUpdate; refine wpList_mapUpdate_own _ rfl _ _ _ 154 rfl 3 9 law_int Try.underlying154 _ b2 g.n _ rfl h.fr (by unfold maxLen; omega) _ _ _ rfl rfl (keyOf_int_mk Try.underlying3 (wf_int (by omega))) _ [] (plainElem_string Try.underlying9 (by unfold maxLen; omega)) ?_)
    | go_in)
  intro w2 h1 h2
  obtain ⟨⟨r1, r2⟩, r3⟩ := hfin w2 h1 h2
  go_wp2
  refine bodyPost_end (v := .tuple #[]) (by simp [results, Try.results121, go_sem]) rfl ?_
  exact ⟨⟨rfl, r1, r2⟩, r3⟩

theorem aset_any {w : World} {B ba b1 b2 : Nat} {g : AsmG} (h : AsmW w B ba b1 b2 g) (a : Nat) (t : ByteArray) (ha : a ≤ 1000) (ht : t.size ≤ 1000) (hg : g.sz ≤ 1000000) :
    Calls Try.prog 67 #[.pointer (some ⟨ba, 0, none⟩), .int .i64 a, .string t] w (AOut w B ba b1 b2 (g.put (setI a t))) := by
  obtain ⟨pa, pc, c0, c1, c2, f2, hblk, hown⟩ := h.cells
  obtain ⟨l1, l2, l3⟩ := h.lt
  obtain ⟨hB1, hB2, hB3, hne⟩ := h.le
  have hn : g.n ≤ 1000000 ∧ g.p.length ≤ 1000000 := by unfold AsmG.sz at hg; omega
  have n1 : some ba ≠ (Value.slice pa g.p.length pc).ownBlock := own_ne' hown.own hblk (fun cs f e => by simp at e)
  go_enter Try.func67, Try.ntmps67
  go_wp2_with (at_builtin; refine app_new el_ins rfl _ _ rfl (v := .slice pa g.p.length pc) rfl hown.own (inscells [setI a t]) 1 rfl (by rfl) (inscells_one _) (by omega) (by unfold maxLen; omega) (by omega) (B := B) (w0 := w) (Below.refl _ _) (Nat.le_refl _) ?_)
  intro v' w2 h1 h2 h3
  obtain ⟨a', c', rfl⟩ := own_len h1
  obtain ⟨r1, r2⟩ := h.push hblk hown (setI_wf a t (by omega) (by omega)) h1 h3 h2
  have f3 := (block_cells ((h3.old ba l1 n1).trans hblk)).2 2
  have f4 : w2.cell? ⟨ba, 2, none⟩ = some (.slice pa g.p.length pc) := (block_cells ((h3.old ba l1 n1).trans hblk)).1 2
  go_wp2
  refine bodyPost_end (v := .tuple #[]) (by simp [results, Try.results67, go_sem]) rfl ?_
  exact ⟨rfl, r1, r2⟩

theorem amove_any {w : World} {B ba b1 b2 : Nat} {g : AsmG} (h : AsmW w B ba b1 b2 g) (a b : Nat) (ha : a ≤ 1000) (hb : b ≤ 1000) (hg : g.sz ≤ 1000000) :
    Calls Try.prog 65 #[.pointer (some ⟨ba, 0, none⟩), .int .i64 a, .int .i64 b] w (AOut w B ba b1 b2 (g.put (moveI a b))) := by
  obtain ⟨pa, pc, c0, c1, c2, f2, hblk, hown⟩ := h.cells
  obtain ⟨l1, l2, l3⟩ := h.lt
  obtain ⟨hB1, hB2, hB3, hne⟩ := h.le
  have hn : g.n ≤ 1000000 ∧ g.p.length ≤ 1000000 := by unfold AsmG.sz at hg; omega
  have n1 : some ba ≠ (Value.slice pa g.p.length pc).ownBlock := own_ne' hown.own hblk (fun cs f e => by simp at e)
  go_enter Try.func65, Try.ntmps65
  go_wp2_with (at_builtin; refine app_new el_ins rfl _ _ rfl (v := .slice pa g.p.length pc) rfl hown.own (inscells [moveI a b]) 1 rfl (by rfl) (inscells_one _) (by omega) (by unfold maxLen; omega) (by omega) (B := B) (w0 := w) (Below.refl _ _) (Nat.le_refl _) ?_)
  intro v' w2 h1 h2 h3
  obtain ⟨a', c', rfl⟩ := own_len h1
  obtain ⟨r1, r2⟩ := h.push hblk hown (moveI_wf a b ha hb) h1 h3 h2
  have f3 := (block_cells ((h3.old ba l1 n1).trans hblk)).2 2
  have f4 : w2.cell? ⟨ba, 2, none⟩ = some (.slice pa g.p.length pc) := (block_cells ((h3.old ba l1 n1).trans hblk)).1 2
  go_wp2
  refine bodyPost_end (v := .tuple #[]) (by simp [results, Try.results65, go_sem]) rfl ?_
  exact ⟨rfl, r1, r2⟩

theorem acons_any {w : World} {B ba b1 b2 : Nat} {g : AsmG} (h : AsmW w B ba b1 b2 g) (a b c : Nat) (ha : a ≤ 1000) (hb : b ≤ 1000) (hc : c ≤ 1000) (hg : g.sz ≤ 1000000) :
    Calls Try.prog 66 #[.pointer (some ⟨ba, 0, none⟩), .int .i64 a, .int .i64 b, .int .i64 c] w (AOut w B ba b1 b2 (g.put (consI a b c))) := by
  obtain ⟨pa, pc, c0, c1, c2, f2, hblk, hown⟩ := h.cells
  obtain ⟨l1, l2, l3⟩ := h.lt
  obtain ⟨hB1, hB2, hB3, hne⟩ := h.le
  have hn : g.n ≤ 1000000 ∧ g.p.length ≤ 1000000 := by unfold AsmG.sz at hg; omega
  have n1 : some ba ≠ (Value.slice pa g.p.length pc).ownBlock := own_ne' hown.own hblk (fun cs f e => by simp at e)
  go_enter Try.func66, Try.ntmps66
  go_wp2_with (at_builtin; refine app_new el_ins rfl _ _ rfl (v := .slice pa g.p.length pc) rfl hown.own (inscells [consI a b c]) 1 rfl (by rfl) (inscells_one _) (by omega) (by unfold maxLen; omega) (by omega) (B := B) (w0 := w) (Below.refl _ _) (Nat.le_refl _) ?_)
  intro v' w2 h1 h2 h3
  obtain ⟨a', c', rfl⟩ := own_len h1
  obtain ⟨r1, r2⟩ := h.push hblk hown (consI_wf a b c ha hb hc) h1 h3 h2
  have f3 := (block_cells ((h3.old ba l1 n1).trans hblk)).2 2
  have f4 : w2.cell? ⟨ba, 2, none⟩ = some (.slice pa g.p.length pc) := (block_cells ((h3.old ba l1 n1).trans hblk)).1 2
  go_wp2
  refine bodyPost_end (v := .tuple #[]) (by simp [results, Try.results66, go_sem]) rfl ?_
  exact ⟨rfl, r1, r2⟩

theorem ahead_any {w : World} {B ba b1 b2 : Nat} {g : AsmG} (h : AsmW w B ba b1 b2 g) (a b : Nat) (ha : a ≤ 1000) (hb : b ≤ 1000) (hg : g.sz ≤ 1000000) :
    Calls Try.prog 63 #[.pointer (some ⟨ba, 0, none⟩), .int .i64 a, .int .i64 b] w (AOut w B ba b1 b2 (g.put (hdI a b))) := by
  obtain ⟨pa, pc, c0, c1, c2, f2, hblk, hown⟩ := h.cells
  obtain ⟨l1, l2, l3⟩ := h.lt
  obtain ⟨hB1, hB2, hB3, hne⟩ := h.le
  have hn : g.n ≤ 1000000 ∧ g.p.length ≤ 1000000 := by unfold AsmG.sz at hg; omega
  have n1 : some ba ≠ (Value.slice pa g.p.length pc).ownBlock := own_ne' hown.own hblk (fun cs f e => by simp at e)
  go_enter Try.func63, Try.ntmps63
  go_wp2_with (at_builtin; refine app_new el_ins rfl _ _ rfl (v := .slice pa g.p.length pc) rfl hown.own (inscells [hdI a b]) 1 rfl (by rfl) (inscells_one _) (by omega) (by unfold maxLen; omega) (by omega) (B := B) (w0 := w) (Below.refl _ _) (Nat.le_refl _) ?_)
  intro v' w2 h1 h2 h3
  obtain ⟨a', c', rfl⟩ := own_len h1
  obtain ⟨r1, r2⟩ := h.push hblk hown (wf_lit _ _ _ _ _ (by unfold i64; decide) (by unfold i64; omega) (by unfold i64; omega) (by unfold i64; decide) (by decide)) h1 h3 h2
  have f3 := (block_cells ((h3.old ba l1 n1).trans hblk)).2 2
  have f4 : w2.cell? ⟨ba, 2, none⟩ = some (.slice pa g.p.length pc) := (block_cells ((h3.old ba l1 n1).trans hblk)).1 2
  go_wp2
  refine bodyPost_end (v := .tuple #[]) (by simp [results, Try.results63, go_sem]) rfl ?_
  exact ⟨rfl, r1, r2⟩

theorem atail_any {w : World} {B ba b1 b2 : Nat} {g : AsmG} (h : AsmW w B ba b1 b2 g) (a b : Nat) (ha : a ≤ 1000) (hb : b ≤ 1000) (hg : g.sz ≤ 1000000) :
    Calls Try.prog 64 #[.pointer (some ⟨ba, 0, none⟩), .int .i64 a, .int .i64 b] w (AOut w B ba b1 b2 (g.put (tlI a b))) := by
  obtain ⟨pa, pc, c0, c1, c2, f2, hblk, hown⟩ := h.cells
  obtain ⟨l1, l2, l3⟩ := h.lt
  obtain ⟨hB1, hB2, hB3, hne⟩ := h.le
  have hn : g.n ≤ 1000000 ∧ g.p.length ≤ 1000000 := by unfold AsmG.sz at hg; omega
  have n1 : some ba ≠ (Value.slice pa g.p.length pc).ownBlock := own_ne' hown.own hblk (fun cs f e => by simp at e)
  go_enter Try.func64, Try.ntmps64
  go_wp2_with (at_builtin; refine app_new el_ins rfl _ _ rfl (v := .slice pa g.p.length pc) rfl hown.own (inscells [tlI a b]) 1 rfl (by rfl) (inscells_one _) (by omega) (by unfold maxLen; omega) (by omega) (B := B) (w0 := w) (Below.refl _ _) (Nat.le_refl _) ?_)
  intro v' w2 h1 h2 h3
  obtain ⟨a', c', rfl⟩ := own_len h1
  obtain ⟨r1, r2⟩ := h.push hblk hown (wf_lit _ _ _ _ _ (by unfold i64; decide) (by unfold i64; omega) (by unfold i64; omega) (by unfold i64; decide) (by decide)) h1 h3 h2
  have f3 := (block_cells ((h3.old ba l1 n1).trans hblk)).2 2
  have f4 : w2.cell? ⟨ba, 2, none⟩ = some (.slice pa g.p.length pc) := (block_cells ((h3.old ba l1 n1).trans hblk)).1 2
  go_wp2
  refine bodyPost_end (v := .tuple #[]) (by simp [results, Try.results64, go_sem]) rfl ?_
  exact ⟨rfl, r1, r2⟩

end Go.Proofs.Ytlaeljkjdfffjaa


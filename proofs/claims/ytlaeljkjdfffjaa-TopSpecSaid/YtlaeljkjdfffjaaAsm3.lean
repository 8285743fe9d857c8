/- asm: Done. -/
import Derived.Test.YtlaeljkjdfffjaaAsm2
namespace Go.Proofs.Ytlaeljkjdfffjaa
open Go.RowKit Go.Maps

theorem inscells_set : ∀ (l : List Ins) (k : Nat) (x : Ins) (b : Int), l[k]? = some x → (inscells l).set (k * 5 + 2) (.int .i64 b) = inscells (l.set k { x with b := b })
  | [], k, x, b, h => by simp at h
  | y :: l, 0, x, b, h => by
    simp only [List.getElem?_cons_zero, Option.some.injEq] at h
    subst h
    rfl
  | y :: l, k + 1, x, b, h => by
    have ih := inscells_set l k x b (by simpa using h)
    have e : ∀ (z : Ins) (m : List Ins), inscells (z :: m) = [.int .i64 z.op, .int .i64 z.a, .int .i64 z.b, .int .i64 z.c, .string z.tree] ++ inscells m := fun z m => rfl
    rw [List.set_cons_succ, e, e, ← ih, List.set_append_right _ _ (by simp; omega)]
    simp only [List.length_cons, List.length_nil]
    congr 2
    omega
/-- A jump's distance, written into a program of one's own. -/
theorem OwnI.setB {w : World} {B : Nat} {v : Value} {l : List Ins} (h : OwnI w B v l) {k : Nat} {x : Ins} (hx : l[k]? = some x) (b : Int) (hb : i64 b) :
    ∃ g cap, v = .slice (some ⟨g, 0, none⟩) l.length cap ∧ B ≤ g ∧ (∃ cur, w.heap[g]? = some (.cells cur 41 (0, 0))) ∧ (∃ u, w.cell? ⟨g, k * 5 + 2, none⟩ = some u) ∧ w.frozen? ⟨g, k * 5 + 2, none⟩ = false ∧ OwnI (w.setCell ⟨g, k * 5 + 2, none⟩ (.int .i64 b)) B (.slice (some ⟨g, 0, none⟩) l.length cap) (l.set k { x with b := b }) := by
  have hk := (List.getElem?_eq_some_iff.1 hx).1
  obtain ⟨h1, h2⟩ := h.own
  rcases h2 with ⟨_, h0⟩ | ⟨g, cap, cur, rfl, hBg, hb0, hc, hm, hsz, htk⟩
  · omega
  · have hlt : k * 5 + 2 < cur.size := by rw [hsz]; omega
    obtain ⟨c1, c2⟩ := block_cells hb0
    refine ⟨g, cap, rfl, hBg, ⟨cur, hb0⟩, ⟨cur[k * 5 + 2], by rw [c1]; exact Array.getElem?_eq_getElem hlt⟩, c2 _, ⟨⟨by rw [← inscells_set l k x b hx, List.length_set, List.length_set]; exact h1, .inr ⟨g, cap, cur.setIfInBounds (k * 5 + 2) (.int .i64 b), by rw [List.length_set], hBg, set_blk hb0 _ _, by rw [List.length_set]; exact hc, hm, by rw [Array.size_setIfInBounds]; exact hsz, ?_⟩⟩, ?_⟩⟩
    · rw [List.length_set, Array.toList_setIfInBounds, List.take_set, htk, inscells_set l k x b hx]
    · intro y hy
      rcases List.mem_or_eq_of_mem_set hy with h3 | h3
      · exact h.wf y h3
      · subst h3
        have hw := h.wf x (List.mem_of_getElem? hx)
        exact ⟨hw.1, hw.2.1, hb, hw.2.2.2⟩
/-- Which jumps and names there are. -/
def okFr (g : AsmG) : Bool := match g.fr with
  | .map es => es.all fun p => (match p.1 with | .int .i64 k => decide (0 ≤ k) && decide (k < g.p.length) | _ => false) && (match p.2 with | .lit (.string _) => true | _ => false)
  | _ => false
def okPl (g : AsmG) : Bool := match g.pl with
  | .map es => es.all fun p => match p.2 with | .lit (.int .i64 k) => decide (0 ≤ k) && decide (k ≤ 1000000) | _ => false
  | _ => false
theorem okFr_has {g : AsmG} (h : okFr g = true) {l : Lit} (hl : has g.fr l = true) : ∃ j : Nat, l = keyI j ∧ j < g.p.length := by
  unfold okFr at h
  cases hf : g.fr with
  | map es =>
    rw [hf] at h hl
    simp only [List.all_eq_true] at h
    rw [has_eq, List.any_eq_true] at hl
    obtain ⟨p, hp, hs⟩ := hl
    have h1 := h p hp
    rw [← WideAt.sameKey_eq hs]
    simp only [Bool.and_eq_true] at h1
    have h2 := h1.1
    split at h2
    · next k hk =>
      simp at h2
      rw [hk]
      exact ⟨k.toNat, by unfold keyI; rw [Int.toNat_of_nonneg h2.1], by omega⟩
    · cases h2
  | _ => rw [hf] at h; cases h
theorem okPl_at {g : AsmG} (h : okPl g = true) (l : Lit) : ∃ c : Nat, g.pl.atKey l (.lit (keyI 0)) = .lit (keyI c) ∧ c ≤ 1000000 := by
  unfold okPl at h
  cases hf : g.pl with
  | map es =>
    rw [hf] at h
    simp only [List.all_eq_true] at h
    unfold DataW.atKey
    simp only
    split
    · next p hp =>
      have h1 := h p (List.mem_of_find?_eq_some hp)
      split at h1
      · next k hk =>
        simp at h1
        rw [hk]
        exact ⟨k.toNat, by unfold keyI; rw [Int.toNat_of_nonneg h1.1], by omega⟩
      · cases h1
    · exact ⟨0, rfl, by omega⟩
  | _ => rw [hf] at h; cases h
theorem zero_int (w : World) : (zeroValue 3).run Try.prog w = .ok (.int .i64 0) w := by kernel_rfl
/-- A writer while its jumps are done. -/
structure AsmD (w : World) (B ba b1 b2 r : Nat) (g : AsmG) (left : Lit → Bool) (cnt : Nat) : Prop where
  blk : ∃ pv, w.heap[ba]? = some (.cells #[.map (some b1), .map (some b2), pv] 158 (0, 0)) ∧ OwnI w B pv (g.part left)
  pl : w.ownsMap Try.prog 9 (plainElem Try.prog 3) b1 g.n g.pl
  rg : w.ranges Try.prog 3 (plainElem Try.prog 9) b2 r g.n g.fr left cnt
  le : B ≤ ba ∧ B ≤ b1 ∧ B ≤ b2 ∧ B ≤ r
  sub : ∀ l, left l = true → has g.fr l = true
theorem AsmD.drew {w : World} {B ba b1 b2 r : Nat} {g : AsmG} {left : Lit → Bool} {cnt : Nat} (h : AsmD w B ba b1 b2 r g left cnt) : AsmD w.drew B ba b1 b2 r g left cnt := by
  obtain ⟨pv, h1, h2⟩ := h.blk
  exact ⟨⟨pv, h1, ⟨h2.own, h2.wf⟩⟩, h.pl, h.rg, h.le, h.sub⟩
theorem elem_string_inv {P : Program} {e : TypeId} (he : P.underlying e = some .string) {v : Value} {z : DataW Unit × List MemPlace} (h : plainElem P e v = some z) : ∃ s : ByteArray, v = .string s ∧ z = (.lit (keyS s), []) ∧ s.size ≤ maxLen := by
  unfold plainElem at h
  rw [he] at h
  cases v <;> simp at h
  obtain ⟨hs, rfl⟩ := h
  exact ⟨_, rfl, rfl, hs⟩
theorem elem_str {v : Value} {y : DataW Unit × List MemPlace} (h : plainElem Try.prog 9 v = some y) : ∃ s : ByteArray, v = .string s ∧ y = (.lit (keyS s), []) ∧ s.size ≤ maxLen := elem_string_inv Try.underlying9 h
set_option maxRecDepth 20000 in
set_option maxHeartbeats 4000000 in
theorem adone_any {w : World} {B ba b1 b2 : Nat} {g : AsmG} (h : AsmW w B ba b1 b2 g) (h1 : okFr g = true) (h2 : okPl g = true) (hg : g.sz ≤ 1000000) :
    Calls Try.prog 83 #[.pointer (some ⟨ba, 0, none⟩)] w fun e w' => ∃ v, e = .returned v ∧ OwnI w' B v g.done ∧ Below B w w' := by
  obtain ⟨l1, l2, l3⟩ := h.lt
  obtain ⟨hB1, hB2, hB3, hne⟩ := h.le
  have hn : g.n ≤ 1000000 ∧ g.p.length ≤ 1000000 := by unfold AsmG.sz at hg; omega
  obtain ⟨pv, hblk, hown⟩ := h.blk
  obtain ⟨q0, q1⟩ := block_cells hblk
  have c1 : w.cell? ⟨ba, 1, none⟩ = some (.map (some b2)) := q0 1
  have hD : ∀ w' : World, w'.ranges Try.prog 3 (plainElem Try.prog 9) b2 w.heap.size g.n g.fr (has g.fr) (size g.fr) → w.grownBy w' none → AsmD w' B ba b1 b2 w.heap.size g (has g.fr) (size g.fr) ∧ Below B w w' := by
    intro w' r1 r2
    refine ⟨⟨⟨pv, (r2.block ba l1 (by simp)).trans hblk, by rw [AsmG.part_start]; exact ⟨own_kept hown.own (fun k cs hk => (r2.block k (Array.getElem?_eq_some_iff.1 hk).1 (by simp)).trans hk), hown.wf⟩⟩, h.pl.kept r2 (by simp), r1, ⟨hB1, hB2, hB3, by omega⟩, fun l hl => hl⟩, (Below.refl B w).grown r2 (by omega) (fun j hj => by cases hj)⟩
  clear q0 q1 hblk
  go_enter Try.func83, Try.ntmps83
  go_wp2_with (first
    | (at_range; refine wpList_range_own _ rfl _ 154 rfl 3 9 law_int Try.underlying154 _ b2 g.n _ rfl h.fr ?_; intro w0 hrg0 hg0 hs0)
    | go_in)
  obtain ⟨d0, d1⟩ := hD w0 hrg0 hg0
  clear hrg0 hg0 hs0 hD
  go_frame
  go_loopw [3] (fun _ wr => ∃ (left : Lit → Bool) (cnt : Nat), AsmD wr B ba b1 b2 w.heap.size g left cnt ∧ Below B w wr)
    (fun _ wr => wr.rangeLeft b2 w.heap.size)
  case atStart => exact ⟨_, _, d0, d1⟩
  case round =>
    obtain ⟨left, cnt, HD, hbl⟩ := hrel
    go_wp2_with (first
      | (at_next; refine wpList_next_ranges (α := Int) (β := ByteArray) _ rfl _ rfl 3 law_int _ (Value.int .i64) Value.string (fun key kl hkey => by obtain ⟨x, rfl, _⟩ := Maps.keyOf_int_inv Try.underlying3 hkey; exact ⟨x, rfl⟩) (fun v y hv => by obtain ⟨c, rfl, _⟩ := elem_str hv; exact ⟨c, rfl⟩) b2 w.heap.size g.n _ _ _ rfl HD.rg ?_ ?_)
      | go_in)
    · intro hc0 hl0
      obtain ⟨pv', hblk, hown⟩ := HD.blk
      rw [AsmG.part_end _ _ hl0] at hown
      have c2 : wr.cell? ⟨ba, 2, none⟩ = some pv' := (block_cells hblk).1 2
      obtain ⟨a', c', rfl⟩ := hown.slice
      clear hblk
      go_wp2
      go_ret
      exact ⟨_, rfl, hown, hbl⟩
    · intro x c kl y yp w1 cnt1 hkey hlk hv hat hrg1 hlt hg1 hs1 hen
      obtain ⟨x', ex, rfl, hwx⟩ := Maps.keyOf_int_inv Try.underlying3 hkey
      cases ex
      obtain ⟨c', ec, hyy, hcs⟩ := elem_str hv
      cases ec
      cases hyy
      obtain ⟨j, ej, hj⟩ := okFr_has h1 (HD.sub _ hlk)
      obtain rfl : x = (j : Int) := by unfold keyI at ej; injection ej
      obtain ⟨m, hm, hm6⟩ := okPl_at h2 (keyS c)
      have hpl1 := HD.pl.kept hg1 (by simp; omega)
      obtain ⟨cc, hlook, hcat, -⟩ := hpl1.lookup_int law_str Try.underlying153 Try.underlying3 (zero_int _) (WideMaps.keyOf_string_mk Try.underlying9 hcs)
      have ecm : cc = (m : Int) := by
        have e := hcat.symm.trans hm
        unfold keyI at e
        injection e with e
        injection e
      subst ecm
      have hgoal : g.goal j = (m : Int) - j := by
        have e1 : g.fr.atKey (keyI j) .nil = .lit (keyS c) := hat _
        unfold AsmG.goal
        rw [e1]
        show intD (g.pl.atKey (keyS c) (.lit (keyI 0))) - _ = _
        rw [hm]
        rfl
      obtain ⟨pv', hblk, hown1⟩ := HD.blk
      have hba : ba ≠ w.heap.size := by omega
      have hblk1 := (hg1.block ba (Array.getElem?_eq_some_iff.1 hblk).1 (by simpa using hba)).trans hblk
      have hown2 : OwnI w1 B pv' (g.part left) := ⟨own_kept hown1.own (fun k cs hk => (hg1.block k (Array.getElem?_eq_some_iff.1 hk).1 (fun e => by
        obtain ⟨es, cl, si, se, c0, q1, q2, q3, q4, q5, q6⟩ := HD.rg
        cases e
        rw [q5] at hk
        cases hk)).trans hk), hown1.wf⟩
      have hlen := AsmG.part_length g left
      obtain ⟨x0, hx0⟩ : ∃ x0, (g.part left)[j]? = some x0 := ⟨_, List.getElem?_eq_getElem (by omega)⟩
      obtain ⟨ga, cap, rfl, hBg, ⟨cur, hcur⟩, ⟨u, hu⟩, hfz, hset⟩ := hown2.setB hx0 ((m : Int) - j) (by unfold i64; omega)
      obtain ⟨c0, c1'⟩ := block_cells hblk1
      have d0 : w1.cell? ⟨ba, 0, none⟩ = some (.map (some b1)) := c0 0
      have d2 : w1.cell? ⟨ba, 2, none⟩ = some (.slice (some ⟨ga, 0, none⟩) (g.part left).length cap) := c0 2
      have hfin : AsmD (w1.setCell ⟨ga, j * 5 + 2, none⟩ (.int .i64 ((m : Int) - j))) B ba b1 b2 w.heap.size g (fun z => left z && !z.sameKey (keyI j)) cnt1 ∧ Below B w (w1.setCell ⟨ga, j * 5 + 2, none⟩ (.int .i64 ((m : Int) - j))) := by
        have hne1 : ∀ {k : Nat} {o : Obj}, w1.heap[k]? = some o → (∀ cs f, o ≠ .cells cs 41 f) → k ≠ ga := fun hk ho e => by
          rw [e, hcur] at hk
          exact ho _ _ (Option.some.inj hk).symm
        obtain ⟨ex, clx, mx⟩ := ownsMap_isMap hpl1
        have nb := hne1 hblk1 (fun cs f e => by simp at e)
        have n1 := hne1 mx (fun cs f e => by cases e)
        obtain ⟨es, cl, si, se, cc0, q1, q2, q3, q4, q5, q6, q7, q8, q9, q10⟩ := hrg1
        have n2 := hne1 q1 (fun cs f e => by cases e)
        have nr := hne1 q5 (fun cs f e => by cases e)
        refine ⟨⟨⟨.slice (some ⟨ga, 0, none⟩) (g.part left).length cap, (Below.heap_setCell _ _ _ _ nb).trans hblk1, ?_⟩, ownsMap_block hpl1 (Below.heap_setCell _ _ _ _ n1), ?_, HD.le, fun l hl => HD.sub l (by simp at hl; exact hl.1)⟩, ?_⟩
        · rw [AsmG.part_step g left j x0 hx0 hlk (HD.sub _ hlk), hgoal]
          exact hset
        · exact ⟨es, cl, si, se, cc0, (Below.heap_setCell _ _ _ _ n2).trans q1, q2, q3, q4, (Below.heap_setCell _ _ _ _ nr).trans q5, q6, q7, q8, q9, q10⟩
        · exact (hbl.grown hg1 (by have := hbl.size; omega) (fun k hk => by cases hk; omega)).setCell (p := ⟨ga, j * 5 + 2, none⟩) hBg _
      have hji : (0 : Int) ≤ (j : Int) := Int.natCast_nonneg _
      have hj2 : (j : Int) < ((g.part left).length : Int) := by omega
      obtain ⟨L, hL⟩ : ∃ L, (g.part left).length = L := ⟨_, rfl⟩
      rw [hL] at d2 hj2
      have HF := Lib.hid hfin
      obtain ⟨cd, hlookd, hcatd, -⟩ := hpl1.drew.lookup_int law_str Try.underlying153 Try.underlying3 (zero_int _) (WideMaps.keyOf_string_mk Try.underlying9 hcs)
      obtain rfl : cd = (m : Int) := by
        have e := hcatd.symm.trans hm
        unfold keyI at e
        injection e with e
        injection e
      have HDr := Lib.hid HD.rg
      have HG1 := Lib.hid hrg1
      have HLT := Lib.hid hlt
      have HWR : Hid (wrap64 ((m : Int) - j) = (m : Int) - j) := Lib.hid (by unfold wrap64; omega)
      clear hfin hgoal hcat hcatd hset hcur hown1 hown2 hblk hblk1 hx0 hlen hL hpl1 hm hat hg1 hs1 hv hlk hkey hwx c0 c1' HD hrg1 hlt ej hn hg d1 hbl hown l1 l2 l3 hB1 hB2 hB3 hne hba hBg
      go_wp2_with fail
      go_region
      all_goals (
        have hwr : wrap64 ((m : Int) - j) = (m : Int) - j := HWR.out
        rw [hwr]
        have r1 : AsmD (w1.setCell ⟨ga, j * 5 + 2, none⟩ (.int .i64 ((m : Int) - j))).drew B ba b1 b2 w.heap.size g (fun z => left z && !z.sameKey (keyI j)) cnt1 := HF.out.1.drew
        go_roundw
        case rel => exact ⟨_, _, _, _, _, _, _, _, _, _, _, _, _, _, _, _, _, _, _, _, _, _, _, ⟨_, cnt1, r1, HF.out.2.drew⟩, rfl⟩
        case measure => rw [r1.rg.left_eq, HDr.out.left_eq]; exact HLT.out)

end Go.Proofs.Ytlaeljkjdfffjaa


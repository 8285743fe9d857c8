/- asm: a writer in memory; what each of its methods does. -/
import Derived.Test.YtlaeljkjdfffjaaAsmP
namespace Go.Proofs.Ytlaeljkjdfffjaa
open Go.RowKit Go.Maps

/-- A writer in memory: its block, its two maps, its program in a row of its own; all from block B on. -/
structure AsmW (w : World) (B ba b1 b2 : Nat) (g : AsmG) : Prop where
  blk : ∃ pv, w.heap[ba]? = some (.cells #[.map (some b1), .map (some b2), pv] 158 (0, 0)) ∧ OwnI w B pv g.p
  pl : w.ownsMap Try.prog 9 (plainElem Try.prog 3) b1 g.n g.pl
  fr : w.ownsMap Try.prog 3 (plainElem Try.prog 9) b2 g.n g.fr
  le : B ≤ ba ∧ B ≤ b1 ∧ B ≤ b2 ∧ b1 ≠ b2
/-- What a writer's methods leave: what lies below, and the cells of all other types. -/
structure AChg (B : Nat) (w w' : World) : Prop where
  below : Below B w w'
  kept : ∀ T, T ≠ 41 → T ≠ 158 → Kept T w w'
theorem AChg.refl (B : Nat) (w : World) : AChg B w w := ⟨Below.refl _ _, fun T _ _ => Kept.refl T w⟩
theorem AChg.trans {B : Nat} {a b c : World} (h : AChg B a b) (k : AChg B b c) : AChg B a c := ⟨h.below.trans k.below, fun T h1 h2 => (h.kept T h1 h2).trans (k.kept T h1 h2)⟩
theorem AChg.of_below {B : Nat} {a b : World} (h : Below a.heap.size a b) (hB : B ≤ a.heap.size) : AChg B a b := ⟨h.mono hB, fun _ _ _ => Kept.below h⟩
def AOut (w : World) (B ba b1 b2 : Nat) (g : AsmG) (e : Ending) (w' : World) : Prop := e = .returned (.tuple #[]) ∧ AsmW w' B ba b1 b2 g ∧ AChg B w w'
theorem AsmW.lt {w : World} {B ba b1 b2 : Nat} {g : AsmG} (h : AsmW w B ba b1 b2 g) : ba < w.heap.size ∧ b1 < w.heap.size ∧ b2 < w.heap.size := by
  obtain ⟨pv, h1, _⟩ := h.blk
  exact ⟨(Array.getElem?_eq_some_iff.1 h1).1, h.pl.lt, h.fr.lt⟩
theorem AsmW.below {w w' : World} {B ba b1 b2 : Nat} {g : AsmG} (h : AsmW w B ba b1 b2 g) (hb : Below w.heap.size w w') : AsmW w' B ba b1 b2 g := by
  obtain ⟨l1, l2, l3⟩ := h.lt
  obtain ⟨pv, h1, h2⟩ := h.blk
  exact ⟨⟨pv, (hb.block _ l1).trans h1, h2.below hb⟩, ownsMap_block h.pl (hb.block _ l2), ownsMap_block h.fr (hb.block _ l3), h.le⟩
theorem AsmW.cells {w : World} {B ba b1 b2 : Nat} {g : AsmG} (h : AsmW w B ba b1 b2 g) : ∃ a c, w.cell? ⟨ba, 0, none⟩ = some (.map (some b1)) ∧ w.cell? ⟨ba, 1, none⟩ = some (.map (some b2)) ∧ w.cell? ⟨ba, 2, none⟩ = some (.slice a g.p.length c) ∧ w.frozen? ⟨ba, 2, none⟩ = false ∧
    w.heap[ba]? = some (.cells #[.map (some b1), .map (some b2), .slice a g.p.length c] 158 (0, 0)) ∧ OwnI w B (.slice a g.p.length c) g.p := by
  obtain ⟨pv, h1, h2⟩ := h.blk
  obtain ⟨a, c, rfl⟩ := h2.slice
  obtain ⟨hc, hf⟩ := block_cells h1
  exact ⟨a, c, by rw [hc]; rfl, by rw [hc]; rfl, by rw [hc]; rfl, hf 2, h1, h2⟩
theorem own_ne {w : World} {e base sz n b T : Nat} {v : Value} {xs : List Value} (h : w.ownsRow base e sz v n xs) {o : Obj} (ho : w.heap[b]? = some o) (hne : ∀ cs f, o ≠ .cells cs e f) : some b ≠ v.ownBlock := by
  rcases h.2 with ⟨rfl, _⟩ | ⟨g, cap, cur, rfl, _, hg, _⟩
  · simp [Value.ownBlock]
  · simp only [Value.ownBlock, ne_eq, Option.some.injEq]
    intro e
    subst e
    rw [hg] at ho
    exact hne _ _ (Option.some.inj ho).symm
theorem own_ne' {w : World} {e base sz n b : Nat} {v : Value} {xs : List Value} (h : w.ownsRow base e sz v n xs) {o : Obj} (ho : w.heap[b]? = some o) (hne : ∀ cs f, o ≠ .cells cs e f) : some b ≠ v.ownBlock := own_ne (T := 0) h ho hne
/-- One instruction more. -/
theorem AsmW.push {w w2 : World} {B ba b1 b2 : Nat} {g : AsmG} {pv v' : Value} {x : Ins} (h : AsmW w B ba b1 b2 g) (hblk : w.heap[ba]? = some (.cells #[.map (some b1), .map (some b2), pv] 158 (0, 0))) (hown : OwnI w B pv g.p) (hx : x.wf)
    (hown2 : w2.ownsRow B 41 5 v' (g.p.length + 1) (inscells g.p ++ inscells [x])) (hg : Grew w w2 pv v' 1) (hbw : Below B w w2) :
    AsmW (w2.setCell ⟨ba, 2, none⟩ v') B ba b1 b2 (g.put x) ∧ AChg B w (w2.setCell ⟨ba, 2, none⟩ v') := by
  obtain ⟨l1, l2, l3⟩ := h.lt
  have n1 : some ba ≠ pv.ownBlock := own_ne' hown.own hblk (fun cs f e => by simp at e)
  obtain ⟨e1, c1, m1⟩ := ownsMap_isMap h.pl
  obtain ⟨e2, c2, m2⟩ := ownsMap_isMap h.fr
  have n2 : some b1 ≠ pv.ownBlock := own_ne' hown.own m1 (fun cs f e => by simp at e)
  have n3 : some b2 ≠ pv.ownBlock := own_ne' hown.own m2 (fun cs f e => by simp at e)
  have k1 : b1 ≠ ba := fun e => by rw [e, hblk] at m1; simp at m1
  have k2 : b2 ≠ ba := fun e => by rw [e, hblk] at m2; simp at m2
  have hblk2 := (hg.old _ l1 n1).trans hblk
  have hK := (Kept.refl 41 w2).setCell hblk2 (by decide) v' (a := ⟨ba, 2, none⟩)
  refine ⟨⟨⟨v', ?_, ⟨?_, ?_⟩⟩, ownsMap_block h.pl ?_, ownsMap_block h.fr ?_, h.le⟩, ⟨hbw.setCell (p := ⟨ba, 2, none⟩) h.le.1 _, fun T t1 t2 => (Kept.grew hown.own hg t1.symm).setCell hblk2 (a := ⟨ba, 2, none⟩) t2.symm _⟩⟩
  · exact set_blk hblk2 2 v'
  · have e : (g.put x).p.length = g.p.length + 1 := by simp [AsmG.put]
    rw [e, show inscells (g.put x).p = inscells g.p ++ inscells [x] from inscells_append _ _]
    exact own_kept hown2 hK
  · exact wf_append hown.wf (by simpa using hx)
  · exact (Below.heap_setCell _ _ _ _ k1).trans (hg.old _ l2 n2)
  · exact (Below.heap_setCell _ _ _ _ k2).trans (hg.old _ l3 n3)
/-- A store into a map. -/
theorem AChg.map {w w' : World} {B b : Nat} (hB : B ≤ b) (hs : B ≤ w.heap.size) {es : Array MapEntry} {c : Nat} (hb : w.heap[b]? = some (.map es c)) (hg : w.grownBy w' (some b)) : AChg B w w' :=
  ⟨(Below.refl B w).grown hg hs (fun k hk => by cases hk; exact hB), fun T _ _ k cs hk => (hg.block k (Array.getElem?_eq_some_iff.1 hk).1 (fun e => by cases e; rw [hb] at hk; cases hk)).trans hk⟩
theorem OwnI.grownBy {w w' : World} {B b : Nat} {v : Value} {l : List Ins} (h : OwnI w B v l) {es : Array MapEntry} {c : Nat} (hb : w.heap[b]? = some (.map es c)) (hg : w.grownBy w' (some b)) : OwnI w' B v l :=
  ⟨own_kept h.own (fun k cs hk => (hg.block k (Array.getElem?_eq_some_iff.1 hk).1 (fun e => by cases e; rw [hb] at hk; cases hk)).trans hk), h.wf⟩

end Go.Proofs.Ytlaeljkjdfffjaa


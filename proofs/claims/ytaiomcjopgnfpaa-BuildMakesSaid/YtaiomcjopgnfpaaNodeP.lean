/- Nodes in memory: a pointer that reads as a tree. Over any element type. -/
import Derived.Test.YtaiomcjopgnfpaaNumP
import Derived.Test.YtaiomcjopgnfpaaOwn
namespace Go.Proofs.Ytaiomcjopgnfpaa
open Go.RowKit

/-- Every block of elements of type T stands. -/
def Kept (T : Nat) (w w' : World) : Prop := ∀ (k : Nat) (cs : Array Value), w.heap[k]? = some (.cells cs T (0, 0)) → w'.heap[k]? = some (.cells cs T (0, 0))
theorem Kept.refl (T : Nat) (w : World) : Kept T w w := fun _ _ h => h
theorem Kept.trans {T : Nat} {a b c : World} (h : Kept T a b) (k : Kept T b c) : Kept T a c := fun i cs hi => k i cs (h i cs hi)
theorem Kept.below {T : Nat} {w w' : World} (h : Below w.heap.size w w') : Kept T w w' := fun k cs hk => (h.block k (Array.getElem?_eq_some_iff.1 hk).1).trans hk
theorem Kept.drewN {T : Nat} {w w' : World} (h : Kept T w w') (n : Nat) : Kept T w (w'.drewN n) := h
theorem Kept.drew {T : Nat} {w w' : World} (h : Kept T w w') : Kept T w w'.drew := h
theorem Kept.of_drew {T : Nat} {w w' : World} (h : Kept T w.drew w') : Kept T w w' := fun k cs hk => h k cs hk
theorem Kept.alloc {T : Nat} {w w' : World} (h : Kept T w w') (o : Obj) : Kept T w (w'.alloc o) := fun k cs hk => (Below.heap_alloc _ _ _ (Array.getElem?_eq_some_iff.1 (h k cs hk)).1).trans (h k cs hk)
theorem Kept.setCell {T : Nat} {w w' : World} (h : Kept T w w') {a : Addr} {cs : Array Value} {T' : Nat} {fr : Nat × Nat} (ha : w'.heap[a.block]? = some (.cells cs T' fr)) (hne : T' ≠ T) (v : Value) : Kept T w (w'.setCell a v) := fun k cs' hk => by
  have h1 := h k cs' hk
  by_cases e : k = a.block
  · subst e; rw [ha] at h1; simp only [Option.some.injEq, Obj.cells.injEq] at h1; exact absurd h1.2.1 hne
  · exact (Below.heap_setCell _ _ _ _ e).trans h1
theorem Kept.grew {T tE base sz n m : Nat} {w w' : World} {v v' : Value} {xs : List Value} (hown : w.ownsRow base tE sz v n xs) (hg : Grew w w' v v' m) (hne : tE ≠ T) : Kept T w w' := fun k cs hk => by
  refine (hg.old k (Array.getElem?_eq_some_iff.1 hk).1 ?_).trans hk
  intro e
  rcases hown.2 with ⟨rfl, _⟩ | ⟨g, cap, cur, rfl, _, hgg, _⟩
  · simp [Value.ownBlock] at e
  · simp only [Value.ownBlock, Option.some.injEq] at e
    subst e
    rw [hgg] at hk; simp only [Option.some.injEq, Obj.cells.injEq] at hk; exact hne hk.2.1
theorem Kept.grown {T tE base sz n : Nat} {w w' : World} {v : Value} {xs : List Value} (hown : w.ownsRow base tE sz v n xs) (hg : w.grownBy w' v.ownBlock) (hne : tE ≠ T) : Kept T w w' := fun k cs hk => by
  refine (hg.block k (Array.getElem?_eq_some_iff.1 hk).1 ?_).trans hk
  intro e
  rcases hown.2 with ⟨rfl, _⟩ | ⟨g, cap, cur, rfl, _, hgg, _⟩
  · simp [Value.ownBlock] at e
  · simp only [Value.ownBlock, Option.some.injEq] at e
    subst e
    rw [hgg] at hk; simp only [Option.some.injEq, Obj.cells.injEq] at hk; exact hne hk.2.1

theorem below_of_drew {n : Nat} {w w' : World} (h : Below n w.drew w') : Below n w w' := ⟨h.os, h.tape, h.output, h.size, h.block⟩

/-- A pointer to nodes of type T that reads as a tree. -/
def NodeP (T : Nat) (w : World) : Tr → Value → Prop
  | .nil, v => v = .pointer none
  | .pair a b, v => ∃ g x y, v = .pointer (some ⟨g, 0, none⟩) ∧ w.heap[g]? = some (.cells #[x, y, .int .i64 ((Tr.pair a b).size : Nat)] T (0, 0)) ∧ NodeP T w a x ∧ NodeP T w b y
theorem NodeP.kept {T : Nat} {w w' : World} (hk : Kept T w w') : ∀ {t : Tr} {v : Value}, NodeP T w t v → NodeP T w' t v := by
  intro t
  induction t with
  | nil => intro v h; exact h
  | pair a b iha ihb =>
    intro v h
    obtain ⟨g, x, y, hv, hg, ha, hb⟩ := h
    exact ⟨g, x, y, hv, hk _ _ hg, iha ha, ihb hb⟩
/-- Every node's value is a pointer. -/
theorem NodeP.ptr {T : Nat} {w : World} {t : Tr} {v : Value} (h : NodeP T w t v) : ∃ a, v = .pointer a := by
  cases t with
  | nil => exact ⟨none, h⟩
  | pair a b => obtain ⟨g, x, y, hv, _⟩ := h; exact ⟨_, hv⟩
theorem block_cells {w : World} {g T : Nat} {cs : Array Value} (h : w.heap[g]? = some (.cells cs T (0, 0))) : (∀ j, w.cell? ⟨g, j, none⟩ = cs[j]?) ∧ (∀ j, w.frozen? ⟨g, j, none⟩ = false) := by
  constructor
  · intro j; unfold World.cell?; rw [show w.heap[(⟨g, j, none⟩ : Addr).block]? = _ from h]; rfl
  · intro j; unfold World.frozen?; rw [show w.heap[(⟨g, j, none⟩ : Addr).block]? = _ from h]; simp
theorem NodeP.cells {T : Nat} {w : World} {a b : Tr} {v : Value} (h : NodeP T w (.pair a b) v) : ∃ g x y, v = .pointer (some ⟨g, 0, none⟩) ∧ g < w.heap.size ∧ w.cell? ⟨g, 0, none⟩ = some (.pointer x) ∧ w.cell? ⟨g, 1, none⟩ = some (.pointer y) ∧
    w.cell? ⟨g, 2, none⟩ = some (.int .i64 ((Tr.pair a b).size : Nat)) ∧ NodeP T w a (.pointer x) ∧ NodeP T w b (.pointer y) := by
  obtain ⟨g, x, y, hv, hg, ha, hb⟩ := h
  obtain ⟨x, rfl⟩ := ha.ptr
  obtain ⟨y, rfl⟩ := hb.ptr
  have hc := (block_cells hg).1
  exact ⟨g, x, y, hv, (Array.getElem?_eq_some_iff.1 hg).1, hc 0, hc 1, hc 2, ha, hb⟩
theorem NodeP.new {T : Nat} {w : World} {a b : Tr} {x y : Value} (ha : NodeP T w a x) (hb : NodeP T w b y) :
    NodeP T (w.alloc (.cells #[x, y, .int .i64 ((Tr.pair a b).size : Nat)] T)) (.pair a b) (.pointer (some ⟨w.heap.size, 0, none⟩)) :=
  ⟨w.heap.size, x, y, rfl, heap_alloc_new w _, ha.kept ((Kept.refl T w).alloc _), hb.kept ((Kept.refl T w).alloc _)⟩

theorem keepS {T : Nat} {w w' : World} {g : Nat} {x y z : Value} (hblk : w.heap[g]? = some (.cells #[x, y, z] T (0, 0))) (hk : Kept T w w') : w'.cell? ⟨g, 0, none⟩ = some x ∧ w'.cell? ⟨g, 1, none⟩ = some y := by
  have h := (block_cells (hk _ _ hblk)).1
  exact ⟨h 0, h 1⟩
/-- A row of another element type stands while something is appended to one. -/
theorem own_other {e1 e2 base sz1 sz2 n1 n2 m : Nat} {w w' : World} {v1 v1' v2 : Value} {xs1 xs2 : List Value} (h1 : w.ownsRow base e1 sz1 v1 n1 xs1) (h2 : w.ownsRow base e2 sz2 v2 n2 xs2) (hg : Grew w w' v1 v1' m) (hne : e1 ≠ e2) : w'.ownsRow base e2 sz2 v2 n2 xs2 := by
  refine ⟨h2.1, ?_⟩
  rcases h2.2 with h | ⟨g, cap, cur, hv, hb, hgg, r⟩
  · exact .inl h
  · exact .inr ⟨g, cap, cur, hv, hb, Kept.grew (T := e2) h1 hg hne _ _ hgg, r⟩
theorem own_below {e base sz n : Nat} {w w' : World} {v : Value} {xs : List Value} (h : w.ownsRow base e sz v n xs) (hb : Below w.heap.size w w') : w'.ownsRow base e sz v n xs := by
  refine ⟨h.1, ?_⟩
  rcases h.2 with h | ⟨g, cap, cur, hv, hbb, hgg, r⟩
  · exact .inl h
  · exact .inr ⟨g, cap, cur, hv, hbb, Kept.below (T := e) hb _ _ hgg, r⟩

/-- Rows of nodes. -/
def Nodes (T : Nat) (w : World) : List Tr → List Value → Prop
  | [], [] => True
  | t :: ts, v :: vs => NodeP T w t v ∧ Nodes T w ts vs
  | _, _ => False
theorem Nodes.kept {T : Nat} {w w' : World} (hk : Kept T w w') : ∀ {ts : List Tr} {vs : List Value}, Nodes T w ts vs → Nodes T w' ts vs := by
  intro ts
  induction ts with
  | nil => intro vs h; cases vs <;> exact h
  | cons t ts ih =>
    intro vs h
    cases vs with
    | nil => exact h
    | cons v vs => exact ⟨h.1.kept hk, ih h.2⟩
theorem Nodes.length {T : Nat} {w : World} : ∀ {ts : List Tr} {vs : List Value}, Nodes T w ts vs → vs.length = ts.length := by
  intro ts
  induction ts with
  | nil => intro vs h; cases vs <;> simp_all [Nodes]
  | cons t ts ih =>
    intro vs h
    cases vs with
    | nil => simp [Nodes] at h
    | cons v vs => simp [ih h.2]
theorem Nodes.uncons {T : Nat} {w : World} {t : Tr} {ts : List Tr} {vs : List Value} (h : Nodes T w (t :: ts) vs) : ∃ v us, vs = v :: us ∧ NodeP T w t v ∧ Nodes T w ts us := by
  cases vs with
  | nil => simp [Nodes] at h
  | cons v vs => exact ⟨v, vs, rfl, h.1, h.2⟩
theorem Nodes.nil_iff {T : Nat} {w : World} {vs : List Value} (h : Nodes T w [] vs) : vs = [] := by cases vs with | nil => rfl | cons v vs => simp [Nodes] at h

def szs (ts : List Tr) : Nat := (ts.map Tr.size).sum
theorem szs_flat (ts : List Tr) : ((ts.map Tr.enc).flatten).length = szs ts := by
  induction ts with
  | nil => rfl
  | cons t ts ih => simp [szs, Tr.enc_length] at *; omega

end Go.Proofs.Ytaiomcjopgnfpaa

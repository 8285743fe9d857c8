/- Instructions and programs in memory; which are valid. -/
import Derived.Test.YtaiomcjopgnfpaaNodeP
import Derived.Test.YtaiomcjopgnfpaaListP
namespace Go.Proofs.Ytaiomcjopgnfpaa
open Go.RowKit

structure Ins where
  op : Int
  a : Int
  b : Int
  c : Int
  tree : ByteArray
  deriving DecidableEq
def Ins.cells (x : Ins) : List Value := [.int .i64 x.op, .int .i64 x.a, .int .i64 x.b, .int .i64 x.c, .string x.tree]
def i64 (n : Int) : Prop := -9223372036854775808 ≤ n ∧ n ≤ 9223372036854775807
def Ins.wf (x : Ins) : Prop := i64 x.op ∧ i64 x.a ∧ i64 x.b ∧ i64 x.c ∧ x.tree.size ≤ 140737488355328

def regB (n : Int) : Bool := decide (0 ≤ n) && decide (n < 32)
/-- Whether an instruction is valid at a place of a program of some length. -/
def rightB (x : Ins) (i n : Int) : Bool :=
  regB x.a && (x.op == 0 || x.tree.toList.isEmpty) && (x.op == 2 || x.c == 0) &&
  (if x.op = 0 then x.b == 0 && isTree x.tree else if x.op = 1 ∨ x.op = 3 ∨ x.op = 4 then regB x.b else if x.op = 2 then regB x.b && regB x.c else if x.op = 5 then decide (-i ≤ x.b) && decide (x.b ≤ n - i) else false)
def trees (l : List Ins) : Nat := (l.map fun x => x.tree.size).sum
def rightAll (l : List Ins) : Bool := (List.range l.length).all fun i => match l[i]? with | some x => rightB x i l.length | none => true
/-- Valid programs. -/
def validB (l : List Ins) : Bool := decide (l.length ≤ 4000) && decide (trees l ≤ 2000000) && rightAll l

theorem trees_snoc (l : List Ins) (x : Ins) : trees (l ++ [x]) = trees l + x.tree.size := by simp [trees]
theorem trees_take (l : List Ins) (k : Nat) : trees (l.take k) ≤ trees l := by
  have h : trees l = trees (l.take k) + trees (l.drop k) := by
    conv => lhs; rw [← List.take_append_drop k l]
    simp only [trees, List.map_append, List.sum_append]
  omega
theorem trees_le (l : List Ins) (h : ∀ x ∈ l, x.tree.size ≤ 140737488355328) : trees l ≤ l.length * 140737488355328 := by
  induction l with
  | nil => simp [trees]
  | cons x l ih =>
    have h1 := ih (fun y hy => h y (List.mem_cons_of_mem _ hy))
    have h2 := h x (List.mem_cons_self ..)
    simp only [trees, List.map_cons, List.sum_cons, List.length_cons] at *; omega
theorem rightAll_get {l : List Ins} (h : rightAll l = true) {i : Nat} {x : Ins} (hx : l[i]? = some x) : rightB x i l.length = true := by
  have hi : i < l.length := (List.getElem?_eq_some_iff.1 hx).1
  have := List.all_eq_true.1 h i (List.mem_range.2 hi)
  simpa [hx] using this
theorem rightAll_false {l : List Ins} {i : Nat} {x : Ins} (hx : l[i]? = some x) (hb : rightB x i l.length = false) : rightAll l = false := by
  rw [Bool.eq_false_iff]; intro h
  rw [rightAll_get h hx] at hb; cases hb

/-- A slice of instructions in memory, below a block. -/
def InsRow (w : World) (B : Nat) (v : Value) (l : List Ins) : Prop :=
  (∀ x ∈ l, x.wf) ∧ l.length ≤ 2932031007402 ∧
  ((l = [] ∧ (v = .slice none 0 0 ∨ ∃ a c, v = .slice (some a) 0 c)) ∨ ∃ g off cap, v = .slice (some ⟨g, off, none⟩) l.length cap ∧ g < B ∧ ∀ j x, l[j]? = some x → ∀ k u, x.cells[k]? = some u → w.cell? ⟨g, off + (5 * j + k), none⟩ = some u)
theorem InsRow.below {w w' : World} {B : Nat} {v : Value} {l : List Ins} (h : InsRow w B v l) (hb : Below B w w') : InsRow w' B v l := by
  obtain ⟨h1, h2, h3⟩ := h
  refine ⟨h1, h2, ?_⟩
  rcases h3 with h3 | ⟨g, off, cap, hv, hg, hc⟩
  · exact .inl h3
  · exact .inr ⟨g, off, cap, hv, hg, fun j x hj k u hk => (hb.cell (p := ⟨g, off + (5 * j + k), none⟩) hg).trans (hc j x hj k u hk)⟩
theorem InsRow.mono {w : World} {B B' : Nat} {v : Value} {l : List Ins} (h : InsRow w B v l) (hb : B ≤ B') : InsRow w B' v l := by
  obtain ⟨h1, h2, h3⟩ := h
  refine ⟨h1, h2, ?_⟩
  rcases h3 with h3 | ⟨g, off, cap, hv, hg, hc⟩
  · exact .inl h3
  · exact .inr ⟨g, off, cap, hv, by omega, hc⟩
theorem InsRow.len {w : World} {B : Nat} {v : Value} {l : List Ins} (h : InsRow w B v l) : ∃ ao cap, v = .slice ao l.length cap := by
  rcases h.2.2 with ⟨rfl, rfl | ⟨a, c, rfl⟩⟩ | ⟨g, off, cap, rfl, _⟩
  · exact ⟨_, _, rfl⟩
  · exact ⟨_, _, rfl⟩
  · exact ⟨_, cap, rfl⟩
theorem InsRow.wf {w : World} {B : Nat} {v : Value} {l : List Ins} (h : InsRow w B v l) {k : Nat} {x : Ins} (hk : l[k]? = some x) : x.wf := h.1 x (List.mem_of_getElem? hk)
/-- The five cells of an element. -/
theorem InsRow.get {w : World} {B : Nat} {ao : Option Addr} {n cap : Nat} {l : List Ins} (h : InsRow w B (.slice ao n cap) l) {k : Nat} {x : Ins} (hk : l[k]? = some x) :
    ∃ g off, ao = some ⟨g, off, none⟩ ∧ g < B ∧ w.cell? ⟨g, off + k * 5, none⟩ = some (.int .i64 x.op) ∧ w.cell? ⟨g, off + k * 5 + 1, none⟩ = some (.int .i64 x.a) ∧ w.cell? ⟨g, off + k * 5 + 2, none⟩ = some (.int .i64 x.b) ∧
      w.cell? ⟨g, off + k * 5 + 3, none⟩ = some (.int .i64 x.c) ∧ w.cell? ⟨g, off + k * 5 + 4, none⟩ = some (.string x.tree) := by
  rcases h.2.2 with ⟨rfl, _⟩ | ⟨g, off, cap', hv, hg, hc⟩
  · simp at hk
  · simp only [Value.slice.injEq] at hv
    have h := fun j u hu => hc k x hk j u hu
    simp only [← Nat.add_assoc, Nat.mul_comm 5 k] at h
    exact ⟨g, off, hv.1, hg, h 0 _ rfl, h 1 _ rfl, h 2 _ rfl, h 3 _ rfl, h 4 _ rfl⟩
def inscells (l : List Ins) : List Value := (l.map Ins.cells).flatten
theorem inscells_length (l : List Ins) : (inscells l).length = l.length * 5 := by
  induction l with
  | nil => rfl
  | cons x l ih => simp only [inscells, List.map_cons, List.flatten_cons, List.length_append, List.length_cons] at *; rw [ih]; simp [Ins.cells]; omega
theorem inscells_get (l : List Ins) : ∀ (j : Nat) (x : Ins), l[j]? = some x → ∀ (k : Nat) (u : Value), x.cells[k]? = some u → (inscells l)[5 * j + k]? = some u := by
  induction l with
  | nil => intro j x h; simp at h
  | cons y l ih =>
    intro j x h k u hk
    have hk5 : k < 5 := by have := (List.getElem?_eq_some_iff.1 hk).1; simpa [Ins.cells] using this
    cases j with
    | zero =>
      simp at h; subst h
      show (y.cells ++ inscells l)[5 * 0 + k]? = some u
      rw [List.getElem?_append_left (by simp [Ins.cells]; omega)]; simpa using hk
    | succ j =>
      show (y.cells ++ inscells l)[5 * (j + 1) + k]? = some u
      rw [List.getElem?_append_right (by simp [Ins.cells]; omega)]
      have := ih j x (by simpa using h) k u hk
      rw [← this]; congr 1; simp [Ins.cells]; omega
theorem inscells_of (l : List Ins) : ∀ (i : Nat) (u : Value), (inscells l)[i]? = some u → ∃ x, l[i / 5]? = some x ∧ x.cells[i % 5]? = some u := by
  intro i u h
  have hi : i < l.length * 5 := by rw [← inscells_length]; exact (List.getElem?_eq_some_iff.1 h).1
  obtain ⟨x, hx⟩ : ∃ x, l[i / 5]? = some x := ⟨_, List.getElem?_eq_getElem (by omega)⟩
  have h5 : i % 5 < x.cells.length := by simp [Ins.cells]; omega
  refine ⟨x, hx, ?_⟩
  have h2 := inscells_get l _ x hx (i % 5) _ (List.getElem?_eq_getElem h5)
  rw [show 5 * (i / 5) + i % 5 = i by omega, h] at h2
  rw [List.getElem?_eq_getElem h5, ← h2]
theorem InsRow.src {w : World} {B : Nat} {v : Value} {l : List Ins} (h : InsRow w B v l) : Src w v l.length 5 (inscells l) := by
  refine ⟨inscells_length l, ?_⟩
  rcases h.2.2 with ⟨rfl, rfl | ⟨a, c, rfl⟩⟩ | ⟨g, off, cap, rfl, hg, hc⟩
  · exact .inl ⟨rfl, rfl⟩
  · exact .inr ⟨a, c, rfl, fun j u hj => by simp [inscells] at hj⟩
  · refine .inr ⟨_, _, rfl, fun j u hj => ?_⟩
    obtain ⟨x, hx, hu⟩ := inscells_of l j u hj
    rw [Addr.add_lit]
    have := hc _ x hx _ u hu
    rwa [show 5 * (j / 5) + j % 5 = j by omega] at this
theorem InsRow.of_own {w : World} {base e : Nat} {v : Value} {n : Nat} {l : List Ins} (h : w.ownsRow base e 5 v n (inscells l)) (hl : ∀ x ∈ l, x.wf) (hn : l.length ≤ 2932031007402) : InsRow w w.heap.size v l := by
  have hn' : l.length = n := by have := h.1; rw [inscells_length] at this; omega
  refine ⟨hl, hn, ?_⟩
  rcases h.2 with ⟨rfl, h0⟩ | ⟨g, cap, cur, rfl, hb, hg, hnc, hcm, hcs, htake⟩
  · exact .inl ⟨List.length_eq_zero_iff.1 (by omega), .inl rfl⟩
  · refine .inr ⟨g, 0, cap, by rw [hn'], (Array.getElem?_eq_some_iff.1 hg).1, fun j x hj k u hk => ?_⟩
    have h1 := inscells_get l j x hj k u hk
    have hlt : 5 * j + k < n * 5 := by rw [← hn', ← inscells_length]; exact (List.getElem?_eq_some_iff.1 h1).1
    rw [Nat.zero_add, World.ownsRow.cellAt h (5 * j + k) hlt, h1]
theorem inscells_one (l : List Ins) : ∀ u ∈ inscells l, u.oneCell' = true := by
  intro u hu
  obtain ⟨c, hc, hu⟩ := List.mem_flatten.1 hu
  obtain ⟨x, _, rfl⟩ := List.mem_map.1 hc
  simp only [Ins.cells, List.mem_cons, List.not_mem_nil, or_false] at hu
  rcases hu with rfl | rfl | rfl | rfl | rfl <;> rfl

end Go.Proofs.Ytaiomcjopgnfpaa

/- Programs out of programs: the makers of single instructions, the cleaning. -/
import Derived.Test.YtaiomcjopgnfpaaRegs
import Derived.Test.YtaiomcjopgnfpaaMB4
namespace Go.Proofs.Ytaiomcjopgnfpaa
open Go.RowKit

def setI (a : Nat) (t : ByteArray) : Ins := ⟨0, a, 0, 0, t⟩
def moveI (a b : Nat) : Ins := ⟨1, a, b, 0, ⟨#[]⟩⟩
def consI (a b c : Nat) : Ins := ⟨2, a, b, c, ⟨#[]⟩⟩
def jumpI (a : Nat) (b : Int) : Ins := ⟨5, a, b, 0, ⟨#[]⟩⟩
def cleanK (k : Nat) : List Ins := (List.range k).map fun j => setI (j + 1) ⟨#[48]⟩
def cleanH (l : List Ins) : List Ins := cleanK (mostN l)
def cleanP (l : List Ins) : List Ins := cleanH l ++ l
def thenL : List (List Ins) → List Ins
  | [] => []
  | l :: ls => l ++ (ls.map cleanP).flatten
def pairL (p q : List Ins) : List Ins :=
  let n := max (regN p) (regN q)
  moveI n 0 :: p ++ [moveI (n + 1) 0, moveI 0 n] ++ cleanP q ++ [consI 0 (n + 1) 0]
def ifL (c p q : List Ins) : List Ins :=
  let n := max (regN c) (max (regN p) (regN q))
  moveI n 0 :: c ++ [jumpI 0 ((cleanP q).length + 4), moveI 0 n] ++ cleanP q ++ [setI n ⟨#[49, 48, 48]⟩, jumpI n ((cleanP p).length + 2), moveI 0 n] ++ cleanP p
def whileH (c p : List Ins) : List Ins :=
  let n := max (regN c) (regN p)
  moveI n 0 :: cleanP c ++ [jumpI 0 4, moveI 0 n, setI n ⟨#[49, 48, 48]⟩, jumpI n ((cleanP p).length + 4), moveI 0 n] ++ cleanP p ++ [setI n ⟨#[49, 48, 48]⟩]
def whileL (c p : List Ins) : List Ins := whileH c p ++ [jumpI (max (regN c) (regN p)) (-((whileH c p).length : Int))]

theorem inscells_append (l m : List Ins) : inscells (l ++ m) = inscells l ++ inscells m := by simp [inscells]
theorem cleanK_succ (k : Nat) : cleanK (k + 1) = cleanK k ++ [setI (k + 1) ⟨#[48]⟩] := by unfold cleanK; rw [List.range_succ, List.map_append]; rfl
theorem cleanK_length (k : Nat) : (cleanK k).length = k := by simp [cleanK]
theorem setI_wf (a : Nat) (t : ByteArray) (ha : a ≤ 1000000) (ht : t.size ≤ 140737488355328) : (setI a t).wf := wf_lit _ _ _ _ _ (by unfold i64; decide) (by unfold i64; omega) (by unfold i64; decide) (by unfold i64; decide) ht
theorem cleanK_wf (k : Nat) (hk : k ≤ 1000) : ∀ x ∈ cleanK k, x.wf := by
  intro x hx
  simp only [cleanK, List.mem_map, List.mem_range] at hx
  obtain ⟨j, hj, rfl⟩ := hx
  exact setI_wf _ _ (by omega) (by decide)
theorem wf_append {l m : List Ins} (h1 : ∀ x ∈ l, x.wf) (h2 : ∀ x ∈ m, x.wf) : ∀ x ∈ l ++ m, x.wf := fun x hx => (List.mem_append.1 hx).elim (h1 x) (h2 x)
/-- A program in a row of one's own. -/
structure OwnI (w : World) (B : Nat) (v : Value) (l : List Ins) : Prop where
  own : w.ownsRow B 52 5 v l.length (inscells l)
  wf : ∀ x ∈ l, x.wf
theorem OwnI.row {w : World} {B : Nat} {v : Value} {l : List Ins} (h : OwnI w B v l) (hn : l.length ≤ 2932031007402) : InsRow w w.heap.size v l := InsRow.of_own h.own h.wf hn
theorem OwnI.nil (w : World) (B : Nat) : OwnI w B (.slice none 0 0) [] := ⟨⟨rfl, .inl ⟨rfl, rfl⟩⟩, by simp⟩
theorem OwnI.below {w w' : World} {B : Nat} {v : Value} {l : List Ins} (h : OwnI w B v l) (hb : Below w.heap.size w w') : OwnI w' B v l := ⟨own_below h.own hb, h.wf⟩
theorem OwnI.slice {w : World} {B : Nat} {v : Value} {l : List Ins} (h : OwnI w B v l) : ∃ a c, v = .slice a l.length c := own_len h.own
theorem OwnI.lit (w : World) (l : List Ins) (hwf : ∀ x ∈ l, x.wf) (hl : l.length ≤ 4611686018427387904) : OwnI (w.alloc (.cells (inscells l).toArray 52)) w.heap.size (.slice (some ⟨w.heap.size, 0, none⟩) l.length l.length) l :=
  ⟨World.ownsRow_lit w (inscells l).toArray l.length (Nat.le_refl _) (by unfold maxLen; omega) (by simp [inscells_length]), hwf⟩

theorem bmove_any (a b : Int) (w : World) :
    Calls Try.prog 79 #[.int .i64 a, .int .i64 b] w fun e w' => e = .returned (.agg #[.int .i64 1, .int .i64 a, .int .i64 b, .int .i64 0, .string ⟨#[]⟩]) ∧ Below w.heap.size w w' := by
  go_enter Try.func79, Try.ntmps79
  go_wp2
  refine bodyPost_ret (v := .agg #[.int .i64 1, .int .i64 a, .int .i64 b, .int .i64 0, .string ⟨#[]⟩]) (by simp [results, Try.results79, go_sem]) rfl ?_
  exact ⟨rfl, (Below.refl _ _).alloc (Nat.le_refl _) _⟩

theorem rmove_any (a b : Int) (w : World) :
    Calls Try.prog 88 #[.int .i64 a, .int .i64 b] w fun e w' => e = .returned (.agg #[.int .i64 1, .int .i64 a, .int .i64 b, .int .i64 0, .string ⟨#[]⟩]) ∧ Below w.heap.size w w' := by
  go_enter Try.func88, Try.ntmps88
  go_wp2
  refine bodyPost_ret (v := .agg #[.int .i64 1, .int .i64 a, .int .i64 b, .int .i64 0, .string ⟨#[]⟩]) (by simp [results, Try.results88, go_sem]) rfl ?_
  exact ⟨rfl, (Below.refl _ _).alloc (Nat.le_refl _) _⟩

theorem rset_any (a : Int) (s : ByteArray) (w : World) :
    Calls Try.prog 87 #[.int .i64 a, .string s] w fun e w' => e = .returned (.agg #[.int .i64 0, .int .i64 a, .int .i64 0, .int .i64 0, .string s]) ∧ Below w.heap.size w w' := by
  go_enter Try.func87, Try.ntmps87
  go_wp2
  refine bodyPost_ret (v := .agg #[.int .i64 0, .int .i64 a, .int .i64 0, .int .i64 0, .string s]) (by simp [results, Try.results87, go_sem]) rfl ?_
  exact ⟨rfl, (Below.refl _ _).alloc (Nat.le_refl _) _⟩

theorem rjump_any (a b : Int) (w : World) :
    Calls Try.prog 89 #[.int .i64 a, .int .i64 b] w fun e w' => e = .returned (.agg #[.int .i64 5, .int .i64 a, .int .i64 b, .int .i64 0, .string ⟨#[]⟩]) ∧ Below w.heap.size w w' := by
  go_enter Try.func89, Try.ntmps89
  go_wp2
  refine bodyPost_ret (v := .agg #[.int .i64 5, .int .i64 a, .int .i64 b, .int .i64 0, .string ⟨#[]⟩]) (by simp [results, Try.results89, go_sem]) rfl ?_
  exact ⟨rfl, (Below.refl _ _).alloc (Nat.le_refl _) _⟩

end Go.Proofs.Ytaiomcjopgnfpaa


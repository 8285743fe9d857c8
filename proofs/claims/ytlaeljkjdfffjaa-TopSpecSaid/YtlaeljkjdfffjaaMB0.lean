/- Slices that a call makes itself: append, reading back, bytes to a string. Over any program. The element types of the slices of this dump. Trees as lists of bytes: the plain part. No program in sight. Plain: numbers as trees, forests from the right, depth. No program in sight. The walks of narcissusref01.End and narcissusref01.Valid. The walks of narcissusref01.Valid and tree.Valid. The walks of tree.parts, Head, Tail, Cons, Pairs, sized. DERIVED: THE SHELF's CONTRACTS AT THIS DUMP, IN PLAIN WORDS (tools/lay-plain.mjs out of 'TryShelf.lean', which tools/lay-shelf.mjs wrote): THE SAME DECLARATIONS UNDER THE SAME NAMES: 'import', 'namespace', 'open', 'def', 'theorem' AND NOTHING ELSE: no command of the shelf's: FOR A HAND-IN. Each laying: the table of numbers ('.._ren') and one theorem, a field a fact of the dump's own or the kernel's comparison; each contract: ONE APPLICATION. The walks of tree.sized, Number, Value and of narcissusref01.Number, Value, Head, Tail, Pairs. The walks of narcissusref01.Number, Value, Head, Tail, Pairs. The walks of narcissusref01.Depth and tree.Depth. Nodes in memory: a pointer that reads as a tree. Over any element type. The walks of narcissusref01's nodes: Size, First, Rest, Text, Cons, Read. Plain: lists of trees as trees. And rows of strings in memory. Instructions and programs in memory; which are valid. The walks of package node: Size, Head, Tail, String. Plain: runs of programs. And a machine in memory. The reference's machine and states in memory. The walk of tree.List. The walks of narcissusref01.List, Items, Same. The walks of narcissusref03.Ended and SameState. The walk of narcissusref03.Fits. -/
import Derived.WalkKit
import Derived.WalkSpells
import Derived.WalkLawsBesides
import Derived.BigQuiet
import Derived.Deep.QuietTactic
import Derived.Lib.Hide
import Derived.Deep.LoopGhost
import Derived.Lib.Strings
import Derived.Lib.UnsafeStr
import Derived.WalkSmall
import Derived.Deep.AppendLies
import Derived.Lib.AppendStr
import Derived.Deep.RegionLaw
import Derived.Deep.RegionHeld3
import Derived.Test.YtlaeljkjdfffjaaRows
import Derived.Lib.Repeat
import Derived.Shelf.Strings.Builder1
import Derived.Shelf.Strings.Builder2
import Derived.Shelf.Strings.BuilderF
import Derived.Shelf.Strings.Prefix
import Derived.Shelf.Bits.Mul64
import Derived.Shelf.Strings.Repeat
import Derived.Test.YtlaeljkjdfffjaaProg
import Derived.StillTailTactics
namespace Go.Proofs.Ytlaeljkjdfffjaa
open Go.RowKit

/-- An element type of slices: the slice's type, the element's, its zero value, its cells, its bytes. -/
structure ElemT (P : Program) (tS tE : Nat) (z : Value) (sz by_ : Nat) : Prop where
  ht : P.underlying tS = some (.slice tE)
  hi : (P.info? tE).map (fun i => (i.zero, i.size, i.bytes)) = some (some z, sz, by_)
  hzs : z.cells.size = sz
  hsz : 0 < sz

theorem grownBy_alloc_trans {w w' : World} {o : Obj} {row : Option Nat} (h : (w.alloc o).grownBy w' row) : w.heap.size < w'.heap.size ∧ ∀ k, k < w.heap.size → some k ≠ row → w'.heap[k]? = w.heap[k]? :=
  ⟨by have := h.size; simp at this; omega, fun k hk hne => (h.block k (by simp; omega) hne).trans (Below.heap_alloc _ _ _ hk)⟩

/-- What an append leaves besides: what is old stands; the value is not nil where something was appended. -/
structure Grew (w w' : World) (v v' : Value) (m : Nat) : Prop where
  lt : w.heap.size < w'.heap.size
  old : ∀ k, k < w.heap.size → some k ≠ v.ownBlock → w'.heap[k]? = w.heap[k]?
  nn : m = 0 ∨ ¬ v' = .slice none 0 0

/-- append of elements that stand in a block of their own, just made. -/
theorem app_new {P : Program} {tS tE : Nat} {z : Value} {sz by_ : Nat} (E : ElemT P tS tE z sz by_) {ops : Array Oper} {rest : List Oper} {o : Oper} {a : Act} {Q : Exit → Act → World → Prop}
    (hgd : o.guard = none) (s x : Operand) (ho : o.op = .call { callee := .builtin .append, args := #[s, x], argTypes := #[tS, tS] }) {w : World} {base : Nat} {v : Value} {n : Nat} {xs : List Value}
    (hs : a.eval s = v) (hown : w.ownsRow base tE sz v n xs) (news : List Value) (m : Nat) (hx : a.eval x = .slice (some ⟨w.heap.size, 0, none⟩) m m) (hl : news.length = m * sz)
    (h1 : ∀ u ∈ news, u.oneCell' = true) (hby : (n + m) * by_ ≤ 140737488355328) (h63 : n + m ≤ maxLen) (hbase : base ≤ w.heap.size) {B : Nat} {w0 : World} (hb : Below B w0 w) (hB : B ≤ base)
    (h : ∀ v' w', w'.ownsRow base tE sz v' (n + m) (xs ++ news) → Below B w0 w' → Grew w w' v v' m → wpList P ops Q rest (a.put o.dst v') w') :
    wpList P ops Q (o :: rest) a (w.alloc (.cells news.toArray tE)) := by
  obtain ⟨i, hi, hz, hsize, hbytes⟩ := info_parts E.hi
  have hlt := hown.lt
  refine wpList_append_own _ hgd s x tS ho base tE i z sz by_ E.ht hi hz hsize hbytes E.hzs E.hsz v n xs hs (hown.alloc _) ⟨w.heap.size, 0, none⟩ m m news hx hl ?_ h1 h63 hby (by simp; omega) ?_
  · intro j u hu
    rw [Addr.add_lit]
    unfold World.cell?
    rw [show (w.alloc (.cells news.toArray tE)).heap[w.heap.size]? = _ from heap_alloc_new w _]
    simp [hu]
  · intro v' w' ho' hg hnil
    refine h v' w' ho' ?_ ⟨(grownBy_alloc_trans hg).1, (grownBy_alloc_trans hg).2, ?_⟩
    · exact (hb.alloc (by omega) _).grown hg (by simp; omega) (fun k hk => by have := (hlt k hk).1; omega)
    · by_cases hm : m = 0
      · exact .inl hm
      · exact .inr fun e => hm (hnil.1 e).2

/-- The same, as a step of a region that draws. -/
theorem step_new {P : Program} {tS tE : Nat} {z : Value} {sz by_ : Nat} (E : ElemT P tS tE z sz by_) {ops : Array Oper} {o : Oper} {a : Act} {K : Act → World → Prop} {Q : Exit → Act → World → Prop} {EE : Prop}
    (hgd : o.guard = none) (s x : Operand) (ho : o.op = .call { callee := .builtin .append, args := #[s, x], argTypes := #[tS, tS] }) {w : World} {base : Nat} {v : Value} {n : Nat} {xs : List Value}
    (hs : a.eval s = v) (hown : w.ownsRow base tE sz v n xs) (news : List Value) (m : Nat) (hx : a.eval x = .slice (some ⟨w.heap.size, 0, none⟩) m m) (hl : news.length = m * sz) (hm : 0 < m)
    (h1 : ∀ u ∈ news, u.oneCell' = true) (hby : (n + m) * by_ ≤ 140737488355328) (h63 : n + m ≤ maxLen) (hbase : base ≤ w.heap.size) {B : Nat} {w0 : World} (hb : Below B w0 w) (hB : B ≤ base)
    (h : ∀ g cap w', w'.ownsRow base tE sz (.slice (some ⟨g, 0, none⟩) (n + m) cap) (n + m) (xs ++ news) → Below B w0 w' → Grew w w' v (.slice (some ⟨g, 0, none⟩) (n + m) cap) m → K (a.put o.dst (.slice (some ⟨g, 0, none⟩) (n + m) cap)) w') :
    if Region.wanted o (yielded ops a.tmps) = true then Oper.wp P o a (w.alloc (.cells news.toArray tE)) K Q else EE := by
  obtain ⟨i, hi, hz, hsize, hbytes⟩ := info_parts E.hi
  have hlt := hown.lt
  refine step_append_lies _ hgd s x tS ho base tE i z sz by_ E.ht hi hz hsize hbytes E.hzs E.hsz v n xs hs (hown.alloc _) ⟨w.heap.size, 0, none⟩ m m news hx hl ?_ h1 hm h63 hby (by simp; omega) _ rfl ?_
  · intro j u hu
    rw [Addr.add_lit]
    unfold World.cell?
    rw [show (w.alloc (.cells news.toArray tE)).heap[w.heap.size]? = _ from heap_alloc_new w _]
    simp [hu]
  · intro g cap w' ho' hg _ _
    refine h g cap w' ho' ?_ ⟨(grownBy_alloc_trans hg).1, (grownBy_alloc_trans hg).2, .inr (by simp)⟩
    exact (hb.alloc (by omega) _).grown hg (by simp; omega) (fun k hk => by have := (hlt k hk).1; omega)

/-- append of a string's bytes, as a step of a region that draws. -/
theorem step_str {P : Program} {tS tE tu : Nat} (E : ElemT P tS tE (.int .u8 0) 1 1) (hu : P.underlying tu = some .string) {ops : Array Oper} {o : Oper} {a : Act} {K : Act → World → Prop} {Q : Exit → Act → World → Prop} {EE : Prop}
    (hgd : o.guard = none) (sl x : Operand) (ho : o.op = .call { callee := .builtin .append, args := #[sl, x], argTypes := #[tS, tu] }) {w : World} {base : Nat} {v : Value} {n : Nat} {xs : List Value}
    (hs : a.eval sl = v) (hown : w.ownsRow base tE 1 v n xs) (s : ByteArray) (hx : a.eval x = .string s) (hby : n + s.size ≤ 140737488355328) (hbase : base ≤ w.heap.size) {B : Nat} {w0 : World} (hb : Below B w0 w) (hB : B ≤ base)
    (h : ∀ v' w', w'.ownsRow base tE 1 v' (n + s.size) (xs ++ Lib.strCells s) → Below B w0 w' → w.grownBy w' v.ownBlock → K (a.put o.dst v') w') :
    if Region.wanted o (yielded ops a.tmps) = true then Oper.wp P o a w K Q else EE := by
  obtain ⟨i, hi, hz, hsize, hbytes⟩ := info_parts E.hi
  have hlt := hown.lt
  have hw : Region.wanted o (yielded ops a.tmps) = true := by simp [Region.wanted, hgd]
  rw [if_pos hw]
  obtain ⟨v', w', hr, h2, h3, _⟩ := Lib.run_append_own_string (P := P) w base tS tu o.type tE i E.ht hu hi hz hsize hbytes v n xs hown s (by unfold maxLen; omega) hby hbase
  unfold Oper.wp execOp
  simp only [ho, resolve, invoke, builtin, Sem.run_bind, Sem.run_pure, Result.andThen_ok, List.map_toArray, List.map_cons, List.map_nil, hs, hx, hr]
  exact h v' w' h2 (hb.grown h3 (by omega) (fun k hk => by have := (hlt k hk).1; omega)) h3

/-- append of a string's bytes. -/
theorem own_bytes {P : Program} {w : World} {base e : Nat} {v : Value} {n : Nat} (l : List UInt8) (h : w.ownsRow base e 1 v n (Lib.byteCells l)) (src : Nat) (hs : P.underlying src = some (.slice e)) (he : P.underlying e = some (.int .u8)) :
    ∀ dst, P.underlying dst = some .string → (convert src dst v).run P w = .ok (.string ⟨l.toArray⟩) w := by
  intro dst hd
  have hn : l.length = n := by have := h.1; simpa [Lib.byteCells] using this
  rcases h.2 with ⟨rfl, h0⟩ | ⟨g, cap, cur, rfl, hb, hg, hnc, hcm, hcs, htake⟩
  · rw [run_convert_bytes_nil w src e hs he 0 0 dst hd]
    have : l = [] := List.length_eq_zero_iff.1 (by omega)
    subst this; rfl
  · have := run_convert_bytes_arg (P := P) w src e hs he g 0 n cap (l.map fun b => (b.toNat : Int)) (by simpa using hn) (fun i hi => by
      have := World.ownsRow.cellAt h i (by omega)
      rw [Nat.zero_add, this]
      simp [Lib.byteCells, hn, hi]) dst hd
    rw [this]
    congr 2
    apply ByteArray.ext
    simp [strOfNums]
    have : (fun n : Int => UInt8.ofNat n.toNat) ∘ (fun b : UInt8 => (b.toNat : Int)) = id := by funext b; simp
    rw [this]; simp

/-- A slice's cells, where something is appended from. -/
def Src (w : World) (v : Value) (n sz : Nat) (xs : List Value) : Prop :=
  xs.length = n * sz ∧ ((v = .slice none 0 0 ∧ n = 0) ∨ ∃ ad c, v = .slice (some ad) n c ∧ ∀ j u, xs[j]? = some u → w.cell? (ad.add j) = some u)

/-- append of another slice's elements. -/
theorem app_src {P : Program} {tS tE : Nat} {z : Value} {sz by_ : Nat} (E : ElemT P tS tE z sz by_) {ops : Array Oper} {rest : List Oper} {o : Oper} {a : Act} {Q : Exit → Act → World → Prop}
    (hgd : o.guard = none) (s x : Operand) (ho : o.op = .call { callee := .builtin .append, args := #[s, x], argTypes := #[tS, tS] }) {w : World} {base : Nat} {v vx : Value} {n m : Nat} {xs news : List Value}
    (hs : a.eval s = v) (hown : w.ownsRow base tE sz v n xs) (hx : a.eval x = vx) (hsrc : Src w vx m sz news)
    (h1 : ∀ u ∈ news, u.oneCell' = true) (hby : (n + m) * by_ ≤ 140737488355328) (h63 : n + m ≤ maxLen) (hbase : base ≤ w.heap.size) {B : Nat} {w0 : World} (hb : Below B w0 w) (hB : B ≤ base)
    (h : ∀ v' w', w'.ownsRow base tE sz v' (n + m) (xs ++ news) → Below B w0 w' → w.grownBy w' v.ownBlock → wpList P ops Q rest (a.put o.dst v') w') :
    wpList P ops Q (o :: rest) a w := by
  obtain ⟨i, hi, hz, hsize, hbytes⟩ := info_parts E.hi
  have hlt := hown.lt
  obtain ⟨hl, hc⟩ := hsrc
  rcases hc with ⟨rfl, rfl⟩ | ⟨ad, c, rfl, hcells⟩
  · have hnews : news = [] := List.eq_nil_of_length_eq_zero (by simpa using hl)
    subst hnews
    refine wpList_plain hgd fun K hK' => ?_
    have hrun := run_append_owned_none (P := P) w base tS o.type tE i sz E.ht hi v n xs hown
    unfold Oper.wp
    simp [execOp, ho, resolve, invoke, builtin, hs, hx, hrun, Result.andThen]
    exact hK' _ _ (h v w (by simpa using hown) hb ⟨rfl, rfl, rfl, Nat.le_refl _, fun _ _ _ => rfl⟩)
  · refine wpList_append_own _ hgd s x tS ho base tE i z sz by_ E.ht hi hz hsize hbytes E.hzs E.hsz v n xs hs hown ad m c news hx hl hcells h1 h63 hby hbase ?_
    intro v' w' ho' hg _
    exact h v' w' ho' (hb.grown hg (by omega) (fun k hk => by have := (hlt k hk).1; omega)) hg

/-- The cells of an owned slice that is not empty. -/
theorem own_cells {w : World} {base e sz : Nat} {v : Value} {n : Nat} {xs : List Value} (h : w.ownsRow base e sz v n xs) (hn : 0 < n) :
    ∃ g cap, v = .slice (some ⟨g, 0, none⟩) n cap ∧ base ≤ g ∧ g < w.heap.size ∧ n ≤ cap ∧ cap ≤ maxLen ∧ (∀ j, j < n * sz → w.cell? ⟨g, j, none⟩ = xs[j]?) ∧ (∀ j, w.frozen? ⟨g, j, none⟩ = false) := by
  rcases h.2 with ⟨rfl, h0⟩ | ⟨g, cap, cur, rfl, hb, hg, hnc, hcm, hcs, htake⟩
  · omega
  · exact ⟨g, cap, rfl, hb, (Array.getElem?_eq_some_iff.1 hg).1, hnc, hcm, fun j hj => World.ownsRow.cellAt h j hj, fun j => World.ownsRow.frozenAt h j⟩

/-- The length of an owned slice's value. -/
theorem own_len {w : World} {base e sz : Nat} {v : Value} {n : Nat} {xs : List Value} (h : w.ownsRow base e sz v n xs) : ∃ a c, v = .slice a n c := by
  rcases h.2 with ⟨rfl, rfl⟩ | ⟨g, cap, cur, rfl, _⟩
  · exact ⟨_, _, rfl⟩
  · exact ⟨_, _, rfl⟩

end Go.Proofs.Ytlaeljkjdfffjaa

namespace Go.Proofs.Ytlaeljkjdfffjaa
open Go.RowKit

theorem el_u8 : ElemT Try.prog 125 5 (.int .u8 0) 1 1 := ⟨Try.underlying125, by kernel_rfl, rfl, by decide⟩
theorem el_str : ElemT Try.prog 104 9 (.string ⟨#[]⟩) 1 16 := ⟨Try.underlying104, by kernel_rfl, rfl, by decide⟩
theorem el_int : ElemT Try.prog 197 3 (.int .i64 0) 1 8 := ⟨Try.underlying197, by kernel_rfl, rfl, by decide⟩
theorem el_node : ElemT Try.prog 168 167 (.pointer none) 1 8 := ⟨Try.underlying168, by kernel_rfl, rfl, by decide⟩
theorem el_rnode : ElemT Try.prog 110 47 (.pointer none) 1 8 := ⟨Try.underlying110, by kernel_rfl, rfl, by decide⟩
theorem el_ins : ElemT Try.prog 23 41 (.agg #[.int .i64 0, .int .i64 0, .int .i64 0, .int .i64 0, .string ⟨#[]⟩]) 5 48 := ⟨Try.underlying23, by kernel_rfl, rfl, by decide⟩

end Go.Proofs.Ytlaeljkjdfffjaa

namespace Go.Proofs.Ytlaeljkjdfffjaa

/-- Trees. -/
inductive Tr where
  | nil
  | pair (h t : Tr)
  deriving DecidableEq, Inhabited

namespace Tr
/-- The characters of a tree. -/
def enc : Tr → List UInt8
  | nil => [48]
  | pair h t => 49 :: (enc h ++ enc t)
def size : Tr → Nat
  | nil => 1
  | pair h t => 1 + size h + size t
theorem enc_length (t : Tr) : t.enc.length = t.size := by
  induction t with
  | nil => rfl
  | pair h t ih1 ih2 => simp [enc, size, ih1, ih2]; omega
theorem size_pos (t : Tr) : 1 ≤ t.size := by cases t <;> simp [size] <;> omega
end Tr

/-- How many bytes the next 'open' trees take; none: they do not end. -/
def endF : List UInt8 → Nat → Option Nat
  | _, 0 => some 0
  | [], _ + 1 => none
  | c :: l, o + 1 => if c = 49 then (endF l (o + 2)).map (· + 1) else if c = 48 then (endF l o).map (· + 1) else none

theorem endF_le (l : List UInt8) : ∀ o k, endF l o = some k → k ≤ l.length := by
  induction l with
  | nil => intro o k h; cases o <;> simp [endF] at h; omega
  | cons c l ih =>
    intro o k h
    cases o with
    | zero => simp [endF] at h; omega
    | succ o =>
      simp only [endF] at h
      split at h
      · cases e : endF l (o + 2) with
        | none => simp [e] at h
        | some j => simp [e] at h; have := ih _ _ e; simp; omega
      · split at h
        · cases e : endF l o with
          | none => simp [e] at h
          | some j => simp [e] at h; have := ih _ _ e; simp; omega
        · simp at h

theorem endF_enc (t : Tr) : ∀ (l : List UInt8) (o : Nat), endF (t.enc ++ l) (o + 1) = (endF l o).map (· + t.size) := by
  induction t with
  | nil => intro l o; simp [Tr.enc, endF, Tr.size]
  | pair h t ih1 ih2 =>
    intro l o
    have e : endF (h.enc ++ (t.enc ++ l)) (o + 2) = (endF (t.enc ++ l) (o + 1)).map (· + h.size) := ih1 _ _
    simp only [Tr.enc, List.cons_append, List.append_assoc, endF, if_true, e, ih2, Tr.size]
    cases endF l o <;> simp; omega

/-- What ends is a row of trees. -/
theorem endF_trees (l : List UInt8) : ∀ o k, endF l o = some k → ∃ ts : List Tr, ts.length = o ∧ l.take k = (ts.map Tr.enc).flatten := by
  induction l with
  | nil => intro o k h; cases o <;> simp [endF] at h; subst h; exact ⟨[], rfl, rfl⟩
  | cons c l ih =>
    intro o k h
    cases o with
    | zero => simp [endF] at h; subst h; exact ⟨[], rfl, rfl⟩
    | succ o =>
      simp only [endF] at h
      split at h
      · rename_i hc
        cases e : endF l (o + 2) with
        | none => simp [e] at h
        | some j =>
          simp [e] at h; subst h
          obtain ⟨ts, hl, ht⟩ := ih _ _ e
          match ts, hl with
          | a :: b :: ts, hl =>
            refine ⟨.pair a b :: ts, by simpa using hl, ?_⟩
            simp [ht, Tr.enc, hc]
      · split at h
        · rename_i hc
          cases e : endF l o with
          | none => simp [e] at h
          | some j =>
            simp [e] at h; subst h
            obtain ⟨ts, hl, ht⟩ := ih _ _ e
            exact ⟨.nil :: ts, by simpa using hl, by simp [ht, Tr.enc, hc]⟩
        · simp at h

theorem endF_one {l : List UInt8} {k : Nat} (h : endF l 1 = some k) : ∃ t : Tr, l.take k = t.enc ∧ k = t.size := by
  obtain ⟨ts, hl, ht⟩ := endF_trees l 1 k h
  match ts, hl with
  | [t], _ =>
    refine ⟨t, by simpa using ht, ?_⟩
    have h1 := congrArg List.length ht
    have h2 := endF_le _ _ _ h
    simp [Tr.enc_length] at h1
    omega

end Go.Proofs.Ytlaeljkjdfffjaa

namespace Go.Proofs.Ytlaeljkjdfffjaa

/-- A number as a tree. -/
def Tr.num : Nat → Tr | 0 => .nil | n + 1 => .pair .nil (Tr.num n)
def rep10 (n : Nat) : List UInt8 := Lib.repeatL [49, 48] n
theorem rep10_succ (n : Nat) : rep10 (n + 1) = rep10 n ++ [49, 48] := by
  induction n with
  | zero => rfl
  | succ n ih => show [49, 48] ++ rep10 (n + 1) = [49, 48] ++ rep10 n ++ [49, 48]; rw [ih, List.append_assoc]
theorem rep10_length (n : Nat) : (rep10 n).length = 2 * n := by unfold rep10; rw [Lib.repeatL_length]; simp; omega
theorem enc_num (n : Nat) : (Tr.num n).enc = rep10 n ++ [48] := by
  induction n with
  | zero => rfl
  | succ n ih => simp only [Tr.num, Tr.enc, ih]; rfl
theorem size_num (n : Nat) : (Tr.num n).size = 2 * n + 1 := by rw [← Tr.enc_length, enc_num]; simp [rep10_length]

theorem enc_cons (t : Tr) : ∃ c l, t.enc = c :: l ∧ (c = 48 ∧ t = .nil ∧ l = [] ∨ c = 49 ∧ ∃ a b, t = .pair a b ∧ l = a.enc ++ b.enc) := by
  cases t with
  | nil => exact ⟨48, [], rfl, .inl ⟨rfl, rfl, rfl⟩⟩
  | pair a b => exact ⟨49, _, rfl, .inr ⟨rfl, a, b, rfl, rfl⟩⟩

/-- What begins with '10' n times and has one character more is the number n. -/
theorem num_of_rep (n : Nat) : ∀ (t : Tr) (c : UInt8), t.enc = rep10 n ++ [c] → t = .num n := by
  induction n with
  | zero =>
    intro t c h
    obtain ⟨d, l, h1, h2⟩ := enc_cons t
    rcases h2 with ⟨_, rfl, _⟩ | ⟨_, a, b, rfl, h3⟩
    · rfl
    · have h4 := congrArg List.length h
      have := a.size_pos
      have := b.size_pos
      simp [Tr.enc, rep10, Lib.repeatL, Tr.enc_length] at h4; omega
  | succ n ih =>
    intro t c h
    have h' : t.enc = 49 :: 48 :: (rep10 n ++ [c]) := h
    obtain ⟨d, l, h1, h2⟩ := enc_cons t
    rcases h2 with ⟨rfl, rfl, rfl⟩ | ⟨rfl, a, b, rfl, h3⟩
    · simp [Tr.enc] at h'
    · simp only [Tr.enc, List.cons.injEq, true_and] at h'
      obtain ⟨d2, l2, h4, h5⟩ := enc_cons a
      rcases h5 with ⟨rfl, rfl, rfl⟩ | ⟨rfl, a1, b1, rfl, h6⟩
      · simp only [Tr.enc, List.cons_append, List.nil_append, List.cons.injEq, true_and] at h'
        rw [ih b c h']; rfl
      · rw [h4] at h'; simp at h'

theorem enc_inj_app (t : Tr) : ∀ (u : Tr) (l m : List UInt8), t.enc ++ l = u.enc ++ m → t = u ∧ l = m := by
  induction t with
  | nil =>
    intro u l m h
    cases u with
    | nil => simpa [Tr.enc] using h
    | pair a b => simp [Tr.enc] at h
  | pair a b iha ihb =>
    intro u l m h
    cases u with
    | nil => simp [Tr.enc] at h
    | pair c d =>
      simp only [Tr.enc, List.cons_append, List.append_assoc, List.cons.injEq, true_and] at h
      obtain ⟨rfl, h2⟩ := iha _ _ _ h
      obtain ⟨rfl, h3⟩ := ihb _ _ _ h2
      exact ⟨rfl, h3⟩
theorem enc_inj {t u : Tr} (h : t.enc = u.enc) : t = u := (enc_inj_app t u [] [] (by rw [h])).1

/-- The trees of which a string is the row, read from the right. -/
def pf : List UInt8 → Option (List Tr)
  | [] => some []
  | c :: l => match pf l with
    | none => none
    | some ts => if c = 48 then some (.nil :: ts) else if c = 49 then (match ts with | a :: b :: r => some (.pair a b :: r) | _ => none) else none
theorem pf_48 {l : List UInt8} {ts : List Tr} (h : pf l = some ts) : pf (48 :: l) = some (.nil :: ts) := by simp [pf, h]
theorem pf_49 {l : List UInt8} {a b : Tr} {ts : List Tr} (h : pf l = some (a :: b :: ts)) : pf (49 :: l) = some (.pair a b :: ts) := by simp [pf, h]
theorem pf_none {l : List UInt8} (c : UInt8) (h : pf l = none) : pf (c :: l) = none := by simp [pf, h]
theorem pf_49_few {l : List UInt8} {ts : List Tr} (h : pf l = some ts) (hl : ts.length < 2) : pf (49 :: l) = none := by
  match ts, hl with
  | [], _ => simp [pf, h]
  | [a], _ => simp [pf, h]
theorem pf_else {l : List UInt8} {c : UInt8} (h8 : c ≠ 48) (h9 : c ≠ 49) : pf (c :: l) = none := by
  cases h : pf l <;> simp [pf, h, h8, h9]
theorem pf_enc (t : Tr) : ∀ l, pf (t.enc ++ l) = (pf l).map (t :: ·) := by
  induction t with
  | nil => intro l; cases h : pf l <;> simp [Tr.enc, pf, h]
  | pair a b iha ihb =>
    intro l
    cases h : pf l with
    | none => simp only [Tr.enc, List.cons_append, List.append_assoc]; rw [pf_none]; rfl; rw [iha, ihb, h]; rfl
    | some ts => simp only [Tr.enc, List.cons_append, List.append_assoc]; rw [pf_49 (a := a) (b := b) (ts := ts)]; rfl; rw [iha, ihb, h]; rfl
theorem pf_one (t : Tr) : pf t.enc = some [t] := by have := pf_enc t []; simpa [pf] using this
theorem pf_flat (l : List UInt8) : ∀ ts, pf l = some ts → l = (ts.map Tr.enc).flatten := by
  induction l with
  | nil => intro ts h; simp [pf] at h; subst h; rfl
  | cons c l ih =>
    intro ts h
    cases hl : pf l with
    | none => simp [pf, hl] at h
    | some us =>
      have e := ih us hl
      by_cases h8 : c = 48
      · subst h8; rw [pf_48 hl] at h; cases h; simp [Tr.enc, ← e]
      · by_cases h9 : c = 49
        · subst h9
          match us, hl, e with
          | a :: b :: r, hl, e => rw [pf_49 hl] at h; cases h; simp [Tr.enc, e]
          | [], hl, e => rw [pf_49_few hl (by simp)] at h; cases h
          | [a], hl, e => rw [pf_49_few hl (by simp)] at h; cases h
        · rw [pf_else h8 h9] at h; cases h
theorem pf_drop (l : List UInt8) (ts : List Tr) (h : pf l = some ts) : ∀ i, ∃ us, pf (l.drop i) = some us := by
  intro i
  induction l generalizing ts i with
  | nil => exact ⟨[], by simp [pf]⟩
  | cons c l ih =>
    cases i with
    | zero => exact ⟨ts, h⟩
    | succ i =>
      cases hl : pf l with
      | none => simp [pf, hl] at h
      | some us => simpa using ih us hl i
/-- How many trees a string's end may be. -/
theorem pf_length (l : List UInt8) : ∀ ts, pf l = some ts → ts.length ≤ l.length := by
  induction l with
  | nil => intro ts h; simp [pf] at h; subst h; simp
  | cons c l ih =>
    intro ts h
    cases hl : pf l with
    | none => simp [pf, hl] at h
    | some us =>
      have e := ih us hl
      by_cases h8 : c = 48
      · subst h8; rw [pf_48 hl] at h; cases h; simp; omega
      · by_cases h9 : c = 49
        · subst h9
          match us, hl, e with
          | a :: b :: r, hl, e => rw [pf_49 hl] at h; cases h; simp at e ⊢; omega
          | [], hl, e => rw [pf_49_few hl (by simp)] at h; cases h
          | [a], hl, e => rw [pf_49_few hl (by simp)] at h; cases h
        · rw [pf_else h8 h9] at h; cases h

/-- The depth of a tree. -/
def Tr.depth : Tr → Nat | .nil => 0 | .pair a b => 1 + max a.depth b.depth
theorem Tr.depth_le (t : Tr) : t.depth ≤ t.size := by
  induction t with
  | nil => simp [depth]
  | pair a b iha ihb => simp only [depth, size]; omega

end Go.Proofs.Ytlaeljkjdfffjaa

namespace Go.Proofs.Ytlaeljkjdfffjaa
open Go.RowKit

theorem drop_cons (s : ByteArray) (k : Nat) (h : k < s.size) : s.data.toList.drop k = s[k] :: s.data.toList.drop (k + 1) := by
  rw [List.drop_eq_getElem_cons (by simpa using h)]; rfl

/-- What End returns, as a place. -/
def endI (s : ByteArray) (p q : Nat) : Int := match endF (s.data.toList.drop p) q with | none => -1 | some k => (p + k : Nat)
def EndRel (s : ByteArray) (p k q : Nat) : Prop := endI s p 1 = endI s k q
theorem endI_zero (s : ByteArray) (k : Nat) : endI s k 0 = k := by
  unfold endI; cases s.data.toList.drop k <;> simp [endF]
theorem endI_out (s : ByteArray) (k q : Nat) (h : s.size ≤ k) : endI s k (q + 1) = -1 := by
  unfold endI; rw [List.drop_eq_nil_of_le (by simpa using h)]; rfl
theorem endI_49 (s : ByteArray) (k q : Nat) (h : k < s.size) (hc : (s[k].toNat : Int) = 49) : endI s k (q + 1) = endI s (k + 1) (q + 2) := by
  have h' : s[k] = 49 := UInt8.toNat_inj.1 (by have : (49 : UInt8).toNat = 49 := rfl; omega)
  unfold endI; rw [drop_cons s k h, endF, if_pos h']
  cases endF (s.data.toList.drop (k + 1)) (q + 2) <;> simp; omega
theorem endI_48 (s : ByteArray) (k q : Nat) (h : k < s.size) (hc : (s[k].toNat : Int) = 48) : endI s k (q + 1) = endI s (k + 1) q := by
  have h' : s[k] = 48 := UInt8.toNat_inj.1 (by have : (48 : UInt8).toNat = 48 := rfl; omega)
  unfold endI; rw [drop_cons s k h, endF, if_neg (by rw [h']; decide), if_pos h']
  cases endF (s.data.toList.drop (k + 1)) q <;> simp; omega
theorem endI_else (s : ByteArray) (k q : Nat) (h : k < s.size) (h9 : ¬ (s[k].toNat : Int) = 49) (h8 : ¬ (s[k].toNat : Int) = 48) : endI s k (q + 1) = -1 := by
  have a9 : ¬ s[k] = 49 := fun e => h9 (by rw [e]; rfl)
  have a8 : ¬ s[k] = 48 := fun e => h8 (by rw [e]; rfl)
  unfold endI; rw [drop_cons s k h, endF, if_neg a9, if_neg a8]

set_option maxHeartbeats 400000 in
theorem refEnd_any (s : ByteArray) (p : Nat) (hp : p ≤ s.size) (hs : s.size ≤ 281474976710656) (w : World) :
    Calls Try.prog 92 #[.string s, .int .i64 p] w fun e w' => e = .returned (.int .i64 (endI s p 1)) ∧ w = w' := by
  go_enter Try.func92, Try.ntmps92
  go_wp2
  go_loop [1, 5] (fun i o => ∃ k q : Nat, k ≤ s.size ∧ q ≤ k + 1 ∧ i = .int .i64 k ∧ o = .int .i64 q ∧ EndRel s p k q) (fun i _ => s.size - (intOf i).toNat)
  case atStart => exact ⟨p, 1, hp, by omega, rfl, rfl, rfl⟩
  case round =>
    obtain ⟨k, q, hk, hq, rfl, rfl, hv⟩ := hrel
    by_cases hq0 : 0 < q
    · obtain ⟨q, rfl⟩ : ∃ m, q = m + 1 := ⟨q - 1, by omega⟩
      by_cases hlt : k < s.size
      · by_cases h9 : (s[k].toNat : Int) = 49
        · have hn := hv.trans (endI_49 s k q hlt h9)
          go_wp2
          go_round
          case rel => exact ⟨k + 1, q + 2, by omega, by omega, by go_num, by go_num, hn⟩
          case measure => simp [intOf]; omega
        · by_cases h8 : (s[k].toNat : Int) = 48
          · have hn := hv.trans (endI_48 s k q hlt h8)
            go_wp2
            go_round
            case rel => exact ⟨k + 1, q, by omega, by omega, by go_num, by go_num, hn⟩
            case measure => simp [intOf]; omega
          · have hn := Lib.hid (hv.trans (endI_else s k q hlt h9 h8))
            have b9 : ((s[k].toNat : Int) != 49) = true := bne_iff_ne.2 h9
            have b8 : ((s[k].toNat : Int) != 48) = true := bne_iff_ne.2 h8
            go_wp2
            go_ret
            exact ⟨by rw [hn.out]; rfl, rfl⟩
      · have hn := Lib.hid (hv.trans (endI_out s k q (by omega)))
        go_wp2
        go_ret
        exact ⟨by rw [hn.out]; rfl, rfl⟩
    · have e : q = 0 := by omega
      subst e
      have hn := Lib.hid (hv.trans (endI_zero s k))
      go_wp2
      go_ret
      exact ⟨by rw [hn.out]; rfl, rfl⟩

/-! ### A range over a string, at whatever bytes -/
theorem decode_high (s : ByteArray) (pos : Nat) (h : pos < s.size) (ha : ¬ (s[pos]'h).toNat < 128) : 128 ≤ (Utf8.decode s pos).1 := by
  have e : s.get! (pos + 0) = s[pos]'h := by
    show s.get! pos = _
    simp [ByteArray.get!, getElem!_pos, h]
    rfl
  simp only [Utf8.decode, e, ha, if_false, Utf8.runeError]
  repeat' split
  all_goals simp_all
  all_goals omega

theorem run_next_any {P : Program} (w : World) (s : ByteArray) (pos : Nat) (ty : TypeId) (h : pos < s.size) :
    (Instr.next (.pointer (some ⟨w.heap.size, 0, none⟩)) true ty).run P (w.iter s pos) =
      .ok (.tuple #[.bool true, .int .i64 pos, .int .i32 (Utf8.decode s pos).1]) (w.iter s (pos + (Utf8.decode s pos).2)) := by
  simp only [Instr.next, getObj, setObj, Sem.run_bind, Sem.run, World.iter_heap, Result.andThen, h, if_true, World.iter_set]
  simp [goInt]

/-- What tree.end returns. -/
def tEndI (s : ByteArray) (p : Nat) : Int := if endI (s.extract p s.size) 0 1 = -1 then 0 else p + endI (s.extract p s.size) 0 1
def tEndB (s : ByteArray) (p : Nat) : Bool := !decide (endI (s.extract p s.size) 0 1 = -1)

theorem below_iter (w : World) (t : ByteArray) (k : Nat) : Below w.heap.size w (w.iter t k) := (Below.refl _ _).alloc (Nat.le_refl _) _

theorem ret_ib {a b : Int} {c d : Bool} (h : a = b) (h' : c = d) : Ending.returned (.tuple #[.int .i64 a, .bool c]) = .returned (.tuple #[.int .i64 b, .bool d]) := by rw [h, h']

set_option maxHeartbeats 400000 in
theorem treeEnd_any (s : ByteArray) (p : Nat) (hp : p ≤ s.size) (hs : s.size ≤ 281474976710656) (w : World) :
    Calls Try.prog 143 #[.string s, .int .i64 p] w fun e w' => e = .returned (.tuple #[.int .i64 (tEndI s p), .bool (tEndB s p)]) ∧ Below w.heap.size w w' := by
  obtain ⟨t, ht⟩ : ∃ t, s.extract p s.size = t := ⟨_, rfl⟩
  have hsz : t.size ≤ s.size := by rw [← ht]; simp
  have hsp : p + t.size ≤ s.size := by rw [← ht]; simp; omega
  obtain ⟨r1, hr1⟩ : ∃ r, tEndI s p = r := ⟨_, rfl⟩
  obtain ⟨r2, hr2⟩ : ∃ r, tEndB s p = r := ⟨_, rfl⟩
  rw [hr1, hr2]
  unfold tEndI at hr1
  unfold tEndB at hr2
  rw [ht] at hr1 hr2
  have H1 := Lib.hid hr1; clear hr1
  have H2 := Lib.hid hr2; clear hr2
  go_enter Try.func143, Try.ntmps143
  go_wp2
  clear ht
  go_loopg [6] t.size (fun g o wr => ∃ k q : Nat, k ≤ t.size ∧ g = t.size - k ∧ 1 ≤ q ∧ q ≤ k + 1 ∧ o = .int .i64 q ∧ EndRel t 0 k q ∧ wr = w.iter t k)
  case atStart => exact ⟨0, 1, by omega, rfl, by omega, by omega, rfl, rfl, rfl⟩
  case round =>
    obtain ⟨k, q, hk, hg, hq1, hq, rfl, hv, rfl⟩ := hrel
    have HG := Lib.hid hg; clear hg
    obtain ⟨q, rfl⟩ : ∃ m, q = m + 1 := ⟨q - 1, by omega⟩
    by_cases hlt : k < t.size
    · by_cases h9 : (t[k].toNat : Int) = 49
      · have hn : EndRel t 0 (k + 1) (q + 2) := hv.trans (endI_49 t k q hlt h9)
        have hnx := fun ty => run_next_ascii (P := Try.prog) w t k ty hlt (by omega)
        have hne : ((q : Int) + 2 == 0) = false := beq_eq_false_iff_ne.2 (by omega)
        go_wp2
        go_roundg (t.size - (k + 1))
        case measure => rw [HG.out]; omega
        case rel => exact ⟨k + 1, q + 2, by omega, rfl, by omega, by omega, by go_num, hn, rfl⟩
      · by_cases h8 : (t[k].toNat : Int) = 48
        · have hnx := fun ty => run_next_ascii (P := Try.prog) w t k ty hlt (by omega)
          have hn := hv.trans (endI_48 t k q hlt h8)
          by_cases hq0 : q = 0
          · subst hq0
            have hz := hn.trans (endI_zero t (k + 1))
            have HZ := Lib.hid hz; clear hz hn
            go_wp2
            go_ret2
            refine ⟨ret_ib ?_ ?_, below_iter _ _ _⟩
            · rw [← H1.out, HZ.out, if_neg (by omega)]; omega
            · rw [← H2.out, HZ.out]; simp; omega
          · have hne : ((q : Int) == 0) = false := beq_eq_false_iff_ne.2 (by omega)
            go_wp2
            go_roundg (t.size - (k + 1))
            case measure => rw [HG.out]; omega
            case rel => exact ⟨k + 1, q, by omega, rfl, by omega, by omega, by go_num, hn, rfl⟩
        · have hn := Lib.hid (hv.trans (endI_else t k q hlt h9 h8))
          have hnx := fun ty => run_next_any (P := Try.prog) w t k ty hlt
          have hd : ¬ (Utf8.decode t k).1 = 49 ∧ ¬ (Utf8.decode t k).1 = 48 := by
            by_cases ha : t[k].toNat < 128
            · rw [decode_ascii t k hlt ha]; omega
            · have := decode_high t k hlt ha; omega
          have d9 : (((Utf8.decode t k).1 : Int) == 49) = false := beq_eq_false_iff_ne.2 (by omega)
          have d8 : (((Utf8.decode t k).1 : Int) == 48) = false := beq_eq_false_iff_ne.2 (by omega)
          clear hd
          go_wp2
          go_ret2
          refine ⟨ret_ib ?_ ?_, below_iter _ _ _⟩
          · rw [← H1.out, hn.out, if_pos rfl]
          · rw [← H2.out, hn.out]; rfl
    · have hn := Lib.hid (hv.trans (endI_out t k q (by omega)))
      have hnx := fun ty => run_next_end (P := Try.prog) w t k ty hlt
      go_wp2
      go_ret2
      refine ⟨ret_ib ?_ ?_, below_iter _ _ _⟩
      · rw [← H1.out, hn.out, if_pos rfl]
      · rw [← H2.out, hn.out]; rfl

end Go.Proofs.Ytlaeljkjdfffjaa

namespace Go.Proofs.Ytlaeljkjdfffjaa
open Go.RowKit

/-- A string is a valid tree. -/
def isTree (s : ByteArray) : Bool := decide (s.size ≤ 2000000) && decide (endI s 0 1 = s.size)

theorem endI_spec (s : ByteArray) : endI s 0 1 = -1 ∨ ∃ t : Tr, ∃ r, s.data.toList = t.enc ++ r ∧ endI s 0 1 = t.size := by
  unfold endI
  cases h : endF (s.data.toList.drop 0) 1 with
  | none => exact .inl rfl
  | some k =>
    obtain ⟨t, h1, h2⟩ := endF_one h
    refine .inr ⟨t, s.data.toList.drop k, ?_, by simp [h2]⟩
    rw [← h1]; simp

/-- A valid tree is the characters of a tree. -/
theorem isTree_iff (s : ByteArray) : isTree s = true ↔ ∃ t : Tr, s = ⟨t.enc.toArray⟩ ∧ t.size ≤ 2000000 := by
  unfold isTree
  simp only [Bool.and_eq_true, decide_eq_true_eq]
  constructor
  · rintro ⟨h1, h2⟩
    rcases endI_spec s with h | ⟨t, r, h3, h4⟩
    · omega
    · have h5 : s.data.toList.length = t.size + r.length := by rw [h3]; simp [Tr.enc_length]
      have h6 : s.data.toList.length = s.size := by simp
      have h7 : r = [] := List.length_eq_zero_iff.1 (by omega)
      subst h7
      have h8 : s.size = t.size := by simp at h5; omega
      exact ⟨t, by cases s; simp at h3; simp [← h3], by omega⟩
  · rintro ⟨t, rfl, h⟩
    have hsz : (⟨t.enc.toArray⟩ : ByteArray).size = t.size := by show t.enc.toArray.size = _; simp [Tr.enc_length]
    refine ⟨by omega, ?_⟩
    have := endF_enc t [] 0
    simp [endF] at this
    simp [endI, this, hsz]

theorem refEnd_0 (s : ByteArray) (hs : s.size ≤ 281474976710656) (w : World) :
    Calls Try.prog 92 #[.string s, .int .i64 0] w fun e w' => e = .returned (.int .i64 (endI s 0 1)) ∧ w = w' := refEnd_any s 0 (Nat.zero_le _) hs w

set_option maxHeartbeats 400000 in
theorem refValid_any (s : ByteArray) (hs : s.size ≤ 281474976710656) (w : World) :
    Calls Try.prog 30 #[.string s] w fun e w' => e = .returned (.bool (isTree s)) ∧ w = w' := by
  by_cases h : s.size ≤ 2000000
  · have hv : isTree s = (endI s 0 1 == (s.size : Int)) := by unfold isTree; rw [decide_eq_true h]; simp [BEq.beq]
    rw [hv]; clear hv
    go_enter Try.func30, Try.ntmps30
    go_wp2_with (go_at_call 92; refine (refEnd_0 s hs _).mono ?_; rintro e w' ⟨rfl, rfl⟩)
    go_ret
    exact ⟨rfl, rfl⟩
  · have hv : isTree s = false := by unfold isTree; rw [decide_eq_false h]; rfl
    rw [hv]; clear hv
    go_enter Try.func30, Try.ntmps30
    go_wp2
    go_ret
    exact ⟨rfl, rfl⟩

theorem treeEnd_0 (s : ByteArray) (hs : s.size ≤ 281474976710656) (w : World) :
    Calls Try.prog 143 #[.string s, .int .i64 0] w fun e w' => e = .returned (.tuple #[.int .i64 (tEndI s 0), .bool (tEndB s 0)]) ∧ Below w.heap.size w w' := treeEnd_any s 0 (Nat.zero_le _) hs w

set_option maxHeartbeats 400000 in
theorem treeValid_any (s : ByteArray) (hs : s.size ≤ 281474976710656) (w : World) :
    Calls Try.prog 109 #[.string s] w fun e w' => e = .returned (.bool (isTree s)) ∧ Below w.heap.size w w' := by
  by_cases h : s.size ≤ 2000000
  · have hex : s.extract 0 s.size = s := by simp
    have hv : isTree s = (tEndB s 0 && (tEndI s 0 == (s.size : Int))) := by
      unfold isTree tEndB tEndI; rw [hex, decide_eq_true h]
      by_cases e : endI s 0 1 = -1
      · simp [e]
      · simp [e, BEq.beq]
    rw [hv]; clear hv hex
    have HH := Lib.hid h; clear h
    cases hb : tEndB s 0 with
    | false =>
      have hl : ¬ (2000000 : Int) < s.size := by have := HH.out; omega
      go_enter Try.func109, Try.ntmps109
      go_wp2_with (go_at_call 143; refine (treeEnd_0 s hs _).mono ?_; rintro e w' ⟨rfl, hb1⟩)
      go_ret
      exact ⟨rfl, hb1⟩
    | true =>
      have hl : ¬ (2000000 : Int) < s.size := by have := HH.out; omega
      go_enter Try.func109, Try.ntmps109
      go_wp2_with (go_at_call 143; refine (treeEnd_0 s hs _).mono ?_; rintro e w' ⟨rfl, hb1⟩)
      go_ret
      exact ⟨rfl, hb1⟩
  · have hv : isTree s = false := by unfold isTree; rw [decide_eq_false h]; rfl
    rw [hv]; clear hv
    have hl : (2000000 : Int) < s.size := by omega
    go_enter Try.func109, Try.ntmps109
    go_wp2
    go_ret
    exact ⟨rfl, Below.refl _ _⟩

end Go.Proofs.Ytlaeljkjdfffjaa

namespace Go.Proofs.Ytlaeljkjdfffjaa
open Go.RowKit

/-- The string of a tree. -/
def TS (t : Tr) : ByteArray := ⟨t.enc.toArray⟩
theorem TS_size (t : Tr) : (TS t).size = t.size := by show t.enc.toArray.size = _; simp [Tr.enc_length]
theorem TS_list (t : Tr) : (TS t).data.toList = t.enc := by simp [TS]
theorem isTree_TS (t : Tr) (h : t.size ≤ 2000000) : isTree (TS t) = true := (isTree_iff _).2 ⟨t, rfl, h⟩
theorem isTree_get {s : ByteArray} (h : isTree s = true) : ∃ t : Tr, s = TS t ∧ t.size ≤ 2000000 := (isTree_iff s).1 h
theorem ba_ext {a b : ByteArray} (h : a.data.toList = b.data.toList) : a = b := by cases a; cases b; simp at h; simp [h]
def Tr.hd : Tr → Tr | .nil => .nil | .pair h _ => h
def Tr.tl : Tr → Tr | .nil => .nil | .pair _ t => t
theorem TS_end1 (h t : Tr) : endI (TS (.pair h t)) 1 1 = 1 + h.size := by
  have e : (TS (.pair h t)).data.toList.drop 1 = h.enc ++ t.enc := by simp [TS_list, Tr.enc]
  have e2 := endF_enc h t.enc 0
  simp [endF] at e2
  unfold endI
  rw [e]
  simp [e2]

theorem TS_eq0 (t : Tr) : ((TS t).toList == [48]) = decide (t = .nil) := by
  rw [Lib.toList_data, TS_list]
  cases t with
  | nil => rfl
  | pair h t => simp [Tr.enc]
theorem TS_nil0 : ((TS .nil).toList == [48]) = true := by rw [TS_eq0]; rfl
theorem TS_pair0 (h t : Tr) : ((TS (.pair h t)).toList == [48]) = false := by rw [TS_eq0]; simp
theorem TS_head (h t : Tr) : (TS (.pair h t)).extract 1 (1 + h.size) = TS h := by
  apply ba_ext
  rw [Lib.extract_data, TS_list, TS_list]
  simp [Tr.enc, Tr.enc_length]
theorem TS_tail (h t : Tr) : (TS (.pair h t)).extract (1 + h.size) (TS (.pair h t)).size = TS t := by
  apply ba_ext
  rw [Lib.extract_data, TS_list, TS_list, TS_size]
  have : (49 :: (h.enc ++ t.enc)).drop (1 + h.size) = t.enc := by
    rw [Nat.add_comm, List.drop_succ_cons, List.drop_append, Tr.enc_length]; simp [← Tr.enc_length]
  simp only [Tr.enc, this]
  rw [List.take_of_length_le]; simp [Tr.enc_length, Tr.size]
theorem ret_ss {a b c d : ByteArray} (h : a = b) (h' : c = d) : Ending.returned (.tuple #[.string a, .string c]) = .returned (.tuple #[.string b, .string d]) := by rw [h, h']
theorem ret_se {a b : ByteArray} {c : Int} (h : a = b) : Ending.returned (.tuple #[.string a, .int .i64 c]) = .returned (.tuple #[.string b, .int .i64 c]) := by rw [h]

theorem treeEnd_pair (h t : Tr) (hs : (Tr.pair h t).size ≤ 2000000) (w : World) :
    Calls Try.prog 143 #[.string (TS (.pair h t)), .int .i64 1] w fun e w' => e = .returned (.tuple #[.int .i64 (1 + h.size), .bool true]) ∧ Below w.heap.size w w' := by
  have h1 : (TS (.pair h t)).size = (Tr.pair h t).size := TS_size _
  refine (treeEnd_any _ 1 (by rw [h1]; exact Tr.size_pos _) (by omega) w).mono fun e w' ⟨he, hb⟩ => ⟨?_, hb⟩
  have h2 := TS_end1 h t
  have h3 : endI ((TS (.pair h t)).extract 1 (TS (.pair h t)).size) 0 1 = h.size := by
    have e2 := endF_enc h t.enc 0
    simp [endF] at e2
    unfold endI
    have e : ((TS (.pair h t)).extract 1 (TS (.pair h t)).size).data.toList = h.enc ++ t.enc := by
      rw [Lib.extract_data, TS_list, h1]; simp only [Tr.enc, List.drop_succ_cons, List.drop_zero]; rw [List.take_of_length_le]; simp [Tr.enc_length, Tr.size]; omega
    rw [e, List.drop_zero, e2]; simp
  rw [he]
  refine ret_ib ?_ ?_
  · unfold tEndI; rw [h3, if_neg (by omega)]; rfl
  · unfold tEndB; rw [h3]; simp

set_option maxHeartbeats 400000 in
theorem parts_nil (w : World) :
    Calls Try.prog 145 #[.string (TS .nil)] w fun e w' => e = .returned (.tuple #[.string (TS .nil), .string (TS .nil)]) ∧ Below w.heap.size w w' := by
  have h0 := TS_nil0
  go_enter Try.func145, Try.ntmps145
  go_wp2
  go_ret2
  exact ⟨rfl, Below.refl _ _⟩

theorem parts_pair (h t : Tr) (hs : (Tr.pair h t).size ≤ 2000000) (w : World) :
    Calls Try.prog 145 #[.string (TS (.pair h t))] w fun e w' => e = .returned (.tuple #[.string (TS h), .string (TS t)]) ∧ Below w.heap.size w w' := by
  have h0 := TS_pair0 h t
  have hz : (1 + h.size : Int) ≤ (TS (.pair h t)).size := by rw [TS_size]; simp [Tr.size]; omega
  have hz2 : 1 + h.size ≤ (TS (.pair h t)).size := by omega
  have ht : ((1 : Int) + h.size).toNat = 1 + h.size := by omega
  go_enter Try.func145, Try.ntmps145
  go_wp2_with (go_at_call 143; refine (treeEnd_pair h t hs _).mono ?_; rintro e w' ⟨rfl, hb1⟩)
  go_quiet (fail)
  go_wp2
  go_ret2
  exact ⟨ret_ss (TS_head h t) (TS_tail h t), below_drewN hb1 _⟩

theorem parts_any (t : Tr) (hs : t.size ≤ 2000000) (w : World) :
    Calls Try.prog 145 #[.string (TS t)] w fun e w' => e = .returned (.tuple #[.string (TS t.hd), .string (TS t.tl)]) ∧ Below w.heap.size w w' := by
  cases t with
  | nil => exact parts_nil w
  | pair h t => exact parts_pair h t hs w

theorem valid_bad (s : ByteArray) (hs : s.size ≤ 281474976710656) (h : isTree s = false) (w : World) :
    Calls Try.prog 109 #[.string s] w fun e w' => e = .returned (.bool false) ∧ Below w.heap.size w w' := by
  have := treeValid_any s hs w; rwa [h] at this
theorem valid_ok (t : Tr) (h : t.size ≤ 2000000) (w : World) :
    Calls Try.prog 109 #[.string (TS t)] w fun e w' => e = .returned (.bool true) ∧ Below w.heap.size w w' := by
  have := treeValid_any (TS t) (by rw [TS_size]; omega) w; rwa [isTree_TS t h] at this

set_option maxHeartbeats 400000 in
theorem head_bad (s : ByteArray) (hs : s.size ≤ 281474976710656) (h : isTree s = false) (w : World) :
    Calls Try.prog 146 #[.string s] w fun e w' => e = .returned (.tuple #[.string ⟨#[]⟩, .int .i64 1]) ∧ Below w.heap.size w w' := by
  go_enter Try.func146, Try.ntmps146
  go_wp2_with (go_at_call 109; refine (valid_bad s hs h _).mono ?_; rintro e w' ⟨rfl, hb1⟩)
  go_ret2
  exact ⟨rfl, hb1⟩
theorem head_ok (t : Tr) (hs : t.size ≤ 2000000) (w : World) :
    Calls Try.prog 146 #[.string (TS t)] w fun e w' => e = .returned (.tuple #[.string (TS t.hd), .int .i64 0]) ∧ Below w.heap.size w w' := by
  go_enter Try.func146, Try.ntmps146
  go_wp2_with (go_at_call 109; refine (valid_ok t hs _).mono ?_; rintro e w1 ⟨rfl, hb1⟩)
  go_wp2_with (go_at_call 145; refine (parts_any t hs _).mono ?_; rintro e w2 ⟨rfl, hb2⟩)
  go_ret2
  exact ⟨rfl, hb1.trans (hb2.mono hb1.size)⟩
theorem tail_bad (s : ByteArray) (hs : s.size ≤ 281474976710656) (h : isTree s = false) (w : World) :
    Calls Try.prog 147 #[.string s] w fun e w' => e = .returned (.tuple #[.string ⟨#[]⟩, .int .i64 1]) ∧ Below w.heap.size w w' := by
  go_enter Try.func147, Try.ntmps147
  go_wp2_with (go_at_call 109; refine (valid_bad s hs h _).mono ?_; rintro e w' ⟨rfl, hb1⟩)
  go_ret2
  exact ⟨rfl, hb1⟩
theorem tail_ok (t : Tr) (hs : t.size ≤ 2000000) (w : World) :
    Calls Try.prog 147 #[.string (TS t)] w fun e w' => e = .returned (.tuple #[.string (TS t.tl), .int .i64 0]) ∧ Below w.heap.size w w' := by
  go_enter Try.func147, Try.ntmps147
  go_wp2_with (go_at_call 109; refine (valid_ok t hs _).mono ?_; rintro e w1 ⟨rfl, hb1⟩)
  go_wp2_with (go_at_call 145; refine (parts_any t hs _).mono ?_; rintro e w2 ⟨rfl, hb2⟩)
  go_ret2
  exact ⟨rfl, hb1.trans (hb2.mono hb1.size)⟩
/-- The number of pairs. -/
def Tr.pairs : Tr → Nat | .nil => 0 | .pair h t => 1 + h.pairs + t.pairs
theorem Tr.size_pairs (t : Tr) : t.size = 2 * t.pairs + 1 := by induction t with | nil => rfl | pair h t a b => simp [Tr.size, Tr.pairs, a, b]; omega
theorem ret_ie {a b : Int} {c : Int} (h : a = b) : Ending.returned (.tuple #[.int .i64 a, .int .i64 c]) = .returned (.tuple #[.int .i64 b, .int .i64 c]) := by rw [h]
theorem valid_or (s : ByteArray) (_hs : s.size ≤ 281474976710656) : (∃ t : Tr, s = TS t ∧ t.size ≤ 2000000) ∨ isTree s = false := by
  cases h : isTree s with
  | false => exact .inr rfl
  | true => exact .inl (isTree_get h)

end Go.Proofs.Ytlaeljkjdfffjaa

namespace Go.Proofs
open Go.Shelf
def Try.lays170_ren : Go.Shelf.Ren := ⟨fun | 170 => 107 | n => n, fun | 70 => 124 | 3 => 3 | 0 => 0 | 72 => 127 | 37 => 125 | 5 => 5 | n => n, fun | n => n⟩
theorem Try.lays170 : Go.Proofs.Lays.n170 Try.prog Try.lays170_ren := {
  mixed := by kernel_rfl
  f170 := Try.func107.trans (congrArg some (by kernel_rfl))
  t0 := Try.underlying0
  a0 := Try.isAgg0
  z0 := Try.sizeOf0
  v0 := Try.zeroValue0
  t3 := Try.underlying3
  a3 := Try.isAgg3
  z3 := Try.sizeOf3
  v3 := Try.zeroValue3
  t37 := Try.underlying125
  a37 := Try.isAgg125
  z37 := Try.sizeOf125
  v37 := Try.zeroValue125
  t70 := Try.underlying124
  a70 := Try.isAgg124
  z70 := Try.sizeOf124
  v70 := Try.zeroValue124
  t72 := Try.underlying127
  a72 := Try.isAgg127
  z72 := Try.sizeOf127
  v72 := Try.zeroValue127 }
open Go.RowKit in
/-- (*strings.Builder).Len: "Len returns the number of accumulated bytes; b.Len() == len(b.String()).": the world is as it was. (LAID: no walk: one application.) -/
theorem Try.Builder_Len (B b : Nat) (bs : List Value) (w : World) (h : Lib.IsBuilder 127 5 B b bs w) :
    Calls Try.prog 107 #[.pointer (some ⟨b, 0, none⟩)] w fun e w' => e = .returned (.int .i64 bs.length) ∧ w' = w := Any.Builder_Len Try.lays170 B b bs w h
def Try.lays169_ren : Go.Shelf.Ren := ⟨fun | 169 => 108 | n => n, fun | 70 => 124 | 9 => 9 | 0 => 0 | 72 => 127 | 37 => 125 | 127 => 175 | 3 => 3 | 5 => 5 | n => n, fun | n => n⟩
theorem Try.lays169 : Go.Proofs.Lays.n169 Try.prog Try.lays169_ren := {
  mixed := by kernel_rfl
  f169 := Try.func108.trans (congrArg some (by kernel_rfl))
  t0 := Try.underlying0
  a0 := Try.isAgg0
  z0 := Try.sizeOf0
  v0 := Try.zeroValue0
  t3 := Try.underlying3
  a3 := Try.isAgg3
  z3 := Try.sizeOf3
  v3 := Try.zeroValue3
  t9 := Try.underlying9
  a9 := Try.isAgg9
  z9 := Try.sizeOf9
  v9 := Try.zeroValue9
  t37 := Try.underlying125
  a37 := Try.isAgg125
  z37 := Try.sizeOf125
  v37 := Try.zeroValue125
  t70 := Try.underlying124
  a70 := Try.isAgg124
  z70 := Try.sizeOf124
  v70 := Try.zeroValue124
  t72 := Try.underlying127
  a72 := Try.isAgg127
  z72 := Try.sizeOf127
  v72 := Try.zeroValue127
  t127 := Try.underlying175
  a127 := Try.isAgg175
  z127 := Try.sizeOf175
  v127 := Try.zeroValue175 }
theorem Try.Builder_Extra_169 : Builder.Extra Try.prog Try.lays169_ren := {
  sizeBuilder := by kernel_rfl
  liesBuilder := by kernel_rfl
  t5 := Try.underlying5
  a5 := Try.isAgg5
  z5 := Try.sizeOf5
  v5 := Try.zeroValue5
  infoByte := by kernel_rfl
  cellsByte := by kernel_rfl
  sizeByte := by kernel_rfl
  neB5 := by decide }
open Go.RowKit in
/-- (*strings.Builder).String: "String returns the accumulated string.": OF A BUILDER THAT HOLDS AT LEAST ONE BYTE. ✋ THE MODEL FREEZES THOSE BYTES IN THE BUFFER (unsafe.String): a later write INTO them ends the model's run without an answer; a later append BEHIND them goes on. The statement's order of evaluation is drawn: one draw. (LAID: no walk: one application.) -/
theorem Try.Builder_String (B b : Nat) (l : List UInt8) (w : World) (h : Lib.IsBuilder 127 5 B b (Lib.byteCells l) w) (h0 : l ≠ []) :
    Calls Try.prog 108 #[.pointer (some ⟨b, 0, none⟩)] w fun e w' => e = .returned (.string ⟨l.toArray⟩) ∧ Below B w w' := Any.Builder_String Try.lays169 Try.Builder_Extra_169 B b l w h h0
open Go.RowKit in
/-- (*strings.Builder).String OF A BUILDER THAT HOLDS NO BYTE: the empty string. (Its buffer is nil, or a row of which it has taken nothing yet; where that row has NO capacity the model lays one new block for unsafe.SliceData's 'some address'.) One draw. (LAID: no walk: one application.) -/
theorem Try.Builder_String_empty (B b : Nat) (w : World) (h : Lib.IsBuilder 127 5 B b [] w) (hBw : B ≤ w.heap.size) :
    Calls Try.prog 108 #[.pointer (some ⟨b, 0, none⟩)] w fun e w' => e = .returned (.string ⟨#[]⟩) ∧ Below B w w' := Any.Builder_String_empty Try.lays169 Try.Builder_Extra_169 B b w h hBw
open Go.RowKit in
/-- (*strings.Builder).String: "String returns the accumulated string.": WHATEVER THE BUILDER HOLDS. (LAID: no walk: one application.) -/
theorem Try.Builder_String_any (B b : Nat) (l : List UInt8) (w : World) (h : Lib.IsBuilder 127 5 B b (Lib.byteCells l) w) (hBw : B ≤ w.heap.size) :
    Calls Try.prog 108 #[.pointer (some ⟨b, 0, none⟩)] w fun e w' => e = .returned (.string ⟨l.toArray⟩) ∧ Below B w w' := Any.Builder_String_any Try.lays169 Try.Builder_Extra_169 B b l w h hBw
def Try.lays241_ren : Go.Shelf.Ren := ⟨fun | 241 => 168 | 277 => 169 | n => n, fun | 70 => 124 | 3 => 3 | 0 => 0 | 72 => 127 | 37 => 125 | 5 => 5 | n => n, fun | n => n⟩
theorem Try.lays241 : Go.Proofs.Lays.n241 Try.prog Try.lays241_ren := {
  mixed := by kernel_rfl
  f241 := Try.func168.trans (congrArg some (by kernel_rfl))
  f277 := Try.func169.trans (congrArg some (by kernel_rfl))
  t0 := Try.underlying0
  a0 := Try.isAgg0
  z0 := Try.sizeOf0
  v0 := Try.zeroValue0
  t3 := Try.underlying3
  a3 := Try.isAgg3
  z3 := Try.sizeOf3
  v3 := Try.zeroValue3
  t37 := Try.underlying125
  a37 := Try.isAgg125
  z37 := Try.sizeOf125
  v37 := Try.zeroValue125
  t70 := Try.underlying124
  a70 := Try.isAgg124
  z70 := Try.sizeOf124
  v70 := Try.zeroValue124
  t72 := Try.underlying127
  a72 := Try.isAgg127
  z72 := Try.sizeOf127
  v72 := Try.zeroValue127 }
theorem Try.Builder_Extra_241 : Builder.Extra Try.prog Try.lays241_ren := {
  sizeBuilder := by kernel_rfl
  liesBuilder := by kernel_rfl
  t5 := Try.underlying5
  a5 := Try.isAgg5
  z5 := Try.sizeOf5
  v5 := Try.zeroValue5
  infoByte := by kernel_rfl
  cellsByte := by kernel_rfl
  sizeByte := by kernel_rfl
  neB5 := by decide }
open Go.RowKit in
/-- (*strings.Builder).grow (no doc but "grow copies the buffer to a new, larger buffer so that there are at least n bytes of capacity beyond len(b.buf)."): AT A BUILDER WITHOUT A BUFFER: a new row of whatever bytes for its buffer, none of them its own yet. Three draws. (LAID: no walk: one application.) -/
theorem Try.Builder_grow_fresh (B b n : Nat) (w : World) (hB : B ≤ b) (hbk : w.heap[b]? = some (.cells #[.pointer (some ⟨b, 0, none⟩), .slice none 0 0] 127 (0, 0))) (hBw : B ≤ w.heap.size) (hn : n ≤ 281474976710656) :
    Calls Try.prog 168 #[.pointer (some ⟨b, 0, none⟩), .int .i64 n] w fun e w' => e = .returned (.tuple #[]) ∧ (Lib.BuilderAt 127 5 B b (.pointer (some ⟨b, 0, none⟩)) [] w' ∧ Below B w w') := Any.Builder_grow_fresh Try.lays241 Try.Builder_Extra_241 B b n w hB hbk hBw hn
def Try.lays165_ren : Go.Shelf.Ren := ⟨fun | 165 => 159 | 240 => 134 | 241 => 168 | 276 => 156 | 277 => 169 | n => n, fun | 70 => 124 | 3 => 3 | 0 => 0 | 4 => 4 | 9 => 9 | 20 => 20 | 72 => 127 | 37 => 125 | 164 => 190 | 5 => 5 | n => n, fun | n => n⟩
theorem Try.lays165 : Go.Proofs.Lays.n165 Try.prog Try.lays165_ren := {
  mixed := by kernel_rfl
  f165 := Try.func159.trans (congrArg some (by kernel_rfl))
  f240 := Try.func134.trans (congrArg some (by kernel_rfl))
  f241 := Try.func168.trans (congrArg some (by kernel_rfl))
  f276 := Try.func156.trans (congrArg some (by kernel_rfl))
  f277 := Try.func169.trans (congrArg some (by kernel_rfl))
  t0 := Try.underlying0
  a0 := Try.isAgg0
  z0 := Try.sizeOf0
  v0 := Try.zeroValue0
  t3 := Try.underlying3
  a3 := Try.isAgg3
  z3 := Try.sizeOf3
  v3 := Try.zeroValue3
  t4 := Try.underlying4
  a4 := Try.isAgg4
  z4 := Try.sizeOf4
  v4 := Try.zeroValue4
  t9 := Try.underlying9
  a9 := Try.isAgg9
  z9 := Try.sizeOf9
  v9 := Try.zeroValue9
  t20 := Try.underlying20
  a20 := Try.isAgg20
  z20 := Try.sizeOf20
  v20 := Try.zeroValue20
  t37 := Try.underlying125
  a37 := Try.isAgg125
  z37 := Try.sizeOf125
  v37 := Try.zeroValue125
  t70 := Try.underlying124
  a70 := Try.isAgg124
  z70 := Try.sizeOf124
  v70 := Try.zeroValue124
  t72 := Try.underlying127
  a72 := Try.isAgg127
  z72 := Try.sizeOf127
  v72 := Try.zeroValue127
  t164 := Try.underlying190
  a164 := Try.isAgg190
  z164 := Try.sizeOf190
  v164 := Try.zeroValue190 }
theorem Try.Builder_Extra_165 : Builder.Extra Try.prog Try.lays165_ren := {
  sizeBuilder := by kernel_rfl
  liesBuilder := by kernel_rfl
  t5 := Try.underlying5
  a5 := Try.isAgg5
  z5 := Try.sizeOf5
  v5 := Try.zeroValue5
  infoByte := by kernel_rfl
  cellsByte := by kernel_rfl
  sizeByte := by kernel_rfl
  neB5 := by decide }
open Go.RowKit in
/-- (*strings.Builder).Grow AT A BUILDER THAT HAS NOT BEEN WRITTEN ('var b strings.Builder; b.Grow(n)'): "Grow grows b's capacity, if necessary, to guarantee space for another n bytes.": it holds no byte behind it as before it. (LAID: no walk: one application.) -/
theorem Try.Builder_Grow_fresh (B b n : Nat) (w : World) (hB : B ≤ b) (hbk : w.heap[b]? = some (.cells #[.pointer none, .slice none 0 0] 127 (0, 0))) (hBw : B ≤ w.heap.size) (hn : n ≤ 281474976710656) :
    Calls Try.prog 159 #[.pointer (some ⟨b, 0, none⟩), .int .i64 n] w fun e w' => e = .returned (.tuple #[]) ∧ (Lib.BuilderAt 127 5 B b (.pointer (some ⟨b, 0, none⟩)) [] w' ∧ Below B w w') := Any.Builder_Grow_fresh Try.lays165 Try.Builder_Extra_165 B b n w hB hbk hBw hn
open Go.RowKit in
/-- (*strings.Builder).Len: "Len returns the number of accumulated bytes; b.Len() == len(b.String()).": the world is as it was. (THE FORM '_f': 'Lib.IsBuilderF'.) (LAID: no walk: one application.) -/
theorem Try.Builder_Len_f (B b : Nat) (bs : List Value) (w : World) (h : Lib.IsBuilderF 127 5 B b bs w) :
    Calls Try.prog 107 #[.pointer (some ⟨b, 0, none⟩)] w fun e w' => e = .returned (.int .i64 bs.length) ∧ w' = w := Any.Builder_Len_f Try.lays170 B b bs w h
open Go.RowKit in
/-- (*strings.Builder).String: "String returns the accumulated string.": OF A BUILDER THAT HOLDS AT LEAST ONE BYTE. ✋ THE MODEL FREEZES THOSE BYTES IN THE BUFFER (unsafe.String): a later write INTO them ends the model's run without an answer; a later append BEHIND them goes on. The statement's order of evaluation is drawn: one draw. THE FORM '_f': IT SAYS BESIDES THAT THE BUILDER IS A BUILDER STILL ('Lib.IsBuilderF', the same bytes): SO IT CAN BE WRITTEN ON: 'b.WriteString(b.String()[:k])'. (LAID: no walk: one application.) -/
theorem Try.Builder_String_f (B b : Nat) (l : List UInt8) (w : World) (h : Lib.IsBuilderF 127 5 B b (Lib.byteCells l) w) (h0 : l ≠ []) :
    Calls Try.prog 108 #[.pointer (some ⟨b, 0, none⟩)] w fun e w' => e = .returned (.string ⟨l.toArray⟩) ∧ (Lib.IsBuilderF 127 5 B b (Lib.byteCells l) w' ∧ Below B w w') := Any.Builder_String_f Try.lays169 Try.Builder_Extra_169 B b l w h h0
open Go.RowKit in
/-- (*strings.Builder).String OF A BUILDER THAT HOLDS NO BYTE: the empty string; THE FORM '_f': a builder still. (LAID: no walk: one application.) -/
theorem Try.Builder_String_empty_f (B b : Nat) (w : World) (h : Lib.IsBuilderF 127 5 B b [] w) (hBw : B ≤ w.heap.size) :
    Calls Try.prog 108 #[.pointer (some ⟨b, 0, none⟩)] w fun e w' => e = .returned (.string ⟨#[]⟩) ∧ (Lib.IsBuilderF 127 5 B b [] w' ∧ Below B w w') := Any.Builder_String_empty_f Try.lays169 Try.Builder_Extra_169 B b w h hBw
open Go.RowKit in
/-- (*strings.Builder).String: "String returns the accumulated string.": WHATEVER THE BUILDER HOLDS; THE FORM '_f': OF A BUILDER THAT MAY HAVE BEEN READ BEFORE; AND IT IS A BUILDER STILL, holding the same bytes: it can be written on. (LAID: no walk: one application.) -/
theorem Try.Builder_String_any_f (B b : Nat) (l : List UInt8) (w : World) (h : Lib.IsBuilderF 127 5 B b (Lib.byteCells l) w) (hBw : B ≤ w.heap.size) :
    Calls Try.prog 108 #[.pointer (some ⟨b, 0, none⟩)] w fun e w' => e = .returned (.string ⟨l.toArray⟩) ∧ (Lib.IsBuilderF 127 5 B b (Lib.byteCells l) w' ∧ Below B w w') := Any.Builder_String_any_f Try.lays169 Try.Builder_Extra_169 B b l w h hBw
def Try.lays206_ren : Go.Shelf.Ren := ⟨fun | 206 => 167 | n => n, fun | 9 => 9 | 4 => 4 | 3 => 3 | n => n, fun | n => n⟩
theorem Try.lays206 : Go.Proofs.Lays.n206 Try.prog Try.lays206_ren := {
  mixed := by kernel_rfl
  f206 := Try.func167.trans (congrArg some (by kernel_rfl))
  t3 := Try.underlying3
  a3 := Try.isAgg3
  z3 := Try.sizeOf3
  v3 := Try.zeroValue3
  t4 := Try.underlying4
  a4 := Try.isAgg4
  z4 := Try.sizeOf4
  v4 := Try.zeroValue4
  t9 := Try.underlying9
  a9 := Try.isAgg9
  z9 := Try.sizeOf9
  v9 := Try.zeroValue9 }
open Go.RowKit Go.Lib in
/-- internal/stringslite.HasPrefix (what strings.HasPrefix calls). (LAID: no walk: one application.) -/
theorem Try.stringslite_HasPrefix (s p : ByteArray) (w : World) :
    Calls Try.prog 167 #[.string s, .string p] w fun e w' => e = .returned (.bool (Lib.hasPrefix s.data.toList p.data.toList)) ∧ w' = w := Any.stringslite_HasPrefix Try.lays206 s p w
def Try.lays99_ren : Go.Shelf.Ren := ⟨fun | 99 => 158 | 206 => 167 | n => n, fun | 9 => 9 | 4 => 4 | 3 => 3 | n => n, fun | n => n⟩
theorem Try.lays99 : Go.Proofs.Lays.n99 Try.prog Try.lays99_ren := {
  mixed := by kernel_rfl
  f99 := Try.func158.trans (congrArg some (by kernel_rfl))
  f206 := Try.func167.trans (congrArg some (by kernel_rfl))
  t3 := Try.underlying3
  a3 := Try.isAgg3
  z3 := Try.sizeOf3
  v3 := Try.zeroValue3
  t4 := Try.underlying4
  a4 := Try.isAgg4
  z4 := Try.sizeOf4
  v4 := Try.zeroValue4
  t9 := Try.underlying9
  a9 := Try.isAgg9
  z9 := Try.sizeOf9
  v9 := Try.zeroValue9 }
open Go.RowKit Go.Lib in
/-- strings.HasPrefix: "HasPrefix reports whether the string s begins with prefix.": IT RETURNS 'Lib.hasPrefix s prefix'; the world is as it was. (LAID: no walk: one application.) -/
theorem Try.strings_HasPrefix (s p : ByteArray) (w : World) :
    Calls Try.prog 158 #[.string s, .string p] w fun e w' => e = .returned (.bool (Lib.hasPrefix s.data.toList p.data.toList)) ∧ w' = w := Any.strings_HasPrefix Try.lays99 s p w
def Try.lays264_ren : Go.Shelf.Ren := ⟨fun | 264 => 166 | n => n, fun | 53 => 201 | 46 => 192 | n => n, fun | n => n⟩
theorem Try.lays264 : Go.Proofs.Lays.n264 Try.prog Try.lays264_ren := {
  mixed := by kernel_rfl
  f264 := Try.func166.trans (congrArg some (by kernel_rfl))
  t46 := Try.underlying192
  a46 := Try.isAgg192
  z46 := Try.sizeOf192
  v46 := Try.zeroValue192
  t53 := Try.underlying201
  a53 := Try.isAgg201
  z53 := Try.sizeOf201
  v53 := Try.zeroValue201 }
open Go.RowKit Go.Lib in
theorem Try.bits_Mul64 (x y : Nat) (hx : x < 18446744073709551616) (hy : y < 18446744073709551616) (w : World) :
    Calls Try.prog 166 #[.int .u64 x, .int .u64 y] w fun e w' => e = .returned (.tuple #[.int .u64 ((x * y / 18446744073709551616 : Nat) : Int), .int .u64 ((x * y % 18446744073709551616 : Nat) : Int)]) ∧ w' = w := Any.bits_Mul64 Try.lays264 x y hx hy w
def Try.lays212_ren : Go.Shelf.Ren := ⟨fun | 212 => 157 | 263 => 165 | 264 => 166 | n => n, fun | 46 => 192 | 51 => 198 | 146 => 199 | 53 => 201 | 148 => 202 | n => n, fun | n => n⟩
theorem Try.lays212 : Go.Proofs.Lays.n212 Try.prog Try.lays212_ren := {
  mixed := by kernel_rfl
  f212 := Try.func157.trans (congrArg some (by kernel_rfl))
  f263 := Try.func165.trans (congrArg some (by kernel_rfl))
  f264 := Try.func166.trans (congrArg some (by kernel_rfl))
  t46 := Try.underlying192
  a46 := Try.isAgg192
  z46 := Try.sizeOf192
  v46 := Try.zeroValue192
  t51 := Try.underlying198
  a51 := Try.isAgg198
  z51 := Try.sizeOf198
  v51 := Try.zeroValue198
  t53 := Try.underlying201
  a53 := Try.isAgg201
  z53 := Try.sizeOf201
  v53 := Try.zeroValue201
  t146 := Try.underlying199
  a146 := Try.isAgg199
  z146 := Try.sizeOf199
  v146 := Try.zeroValue199
  t148 := Try.underlying202
  a148 := Try.isAgg202
  z148 := Try.sizeOf202
  v148 := Try.zeroValue202 }
open Go.RowKit Go.Lib in
/-- math/bits.Mul: "Mul returns the full-width product of x and y": on a machine of 64 bits: Mul64's. (LAID: no walk: one application.) -/
theorem Try.bits_Mul (x y : Nat) (hx : x < 18446744073709551616) (hy : y < 18446744073709551616) (w : World) :
    Calls Try.prog 157 #[.int .u64 x, .int .u64 y] w fun e w' => e = .returned (.tuple #[.int .u64 ((x * y / 18446744073709551616 : Nat) : Int), .int .u64 ((x * y % 18446744073709551616 : Nat) : Int)]) ∧ w' = w := Any.bits_Mul Try.lays212 x y hx hy w
def Try.lays105_ren : Go.Shelf.Ren := ⟨fun | 105 => 135 | 212 => 157 | 99 => 158 | 165 => 159 | 166 => 103 | 170 => 107 | 169 => 108 | 263 => 165 | 264 => 166 | 206 => 167 | 240 => 134 | 241 => 168 | 276 => 156 | 277 => 169 | n => n, fun | 9 => 9 | 3 => 3 | 4 => 4 | 20 => 20 | 0 => 0 | 46 => 192 | 109 => 193 | 5 => 5 | 72 => 127 | 76 => 130 | 51 => 198 | 146 => 199 | 53 => 201 | 148 => 202 | 70 => 124 | 37 => 125 | 75 => 129 | 127 => 175 | 164 => 190 | 80 => 138 | n => n, fun | n => n⟩
theorem Try.lays105 : Go.Proofs.Lays.n105 Try.prog Try.lays105_ren := {
  mixed := by kernel_rfl
  f99 := Try.func158.trans (congrArg some (by kernel_rfl))
  f105 := Try.func135.trans (congrArg some (by kernel_rfl))
  f165 := Try.func159.trans (congrArg some (by kernel_rfl))
  f166 := Try.func103.trans (congrArg some (by kernel_rfl))
  f169 := Try.func108.trans (congrArg some (by kernel_rfl))
  f170 := Try.func107.trans (congrArg some (by kernel_rfl))
  f206 := Try.func167.trans (congrArg some (by kernel_rfl))
  f212 := Try.func157.trans (congrArg some (by kernel_rfl))
  f240 := Try.func134.trans (congrArg some (by kernel_rfl))
  f241 := Try.func168.trans (congrArg some (by kernel_rfl))
  f263 := Try.func165.trans (congrArg some (by kernel_rfl))
  f264 := Try.func166.trans (congrArg some (by kernel_rfl))
  f276 := Try.func156.trans (congrArg some (by kernel_rfl))
  f277 := Try.func169.trans (congrArg some (by kernel_rfl))
  t0 := Try.underlying0
  a0 := Try.isAgg0
  z0 := Try.sizeOf0
  v0 := Try.zeroValue0
  t3 := Try.underlying3
  a3 := Try.isAgg3
  z3 := Try.sizeOf3
  v3 := Try.zeroValue3
  t4 := Try.underlying4
  a4 := Try.isAgg4
  z4 := Try.sizeOf4
  v4 := Try.zeroValue4
  t5 := Try.underlying5
  a5 := Try.isAgg5
  z5 := Try.sizeOf5
  v5 := Try.zeroValue5
  t9 := Try.underlying9
  a9 := Try.isAgg9
  z9 := Try.sizeOf9
  v9 := Try.zeroValue9
  t20 := Try.underlying20
  a20 := Try.isAgg20
  z20 := Try.sizeOf20
  v20 := Try.zeroValue20
  t37 := Try.underlying125
  a37 := Try.isAgg125
  z37 := Try.sizeOf125
  v37 := Try.zeroValue125
  t46 := Try.underlying192
  a46 := Try.isAgg192
  z46 := Try.sizeOf192
  v46 := Try.zeroValue192
  t51 := Try.underlying198
  a51 := Try.isAgg198
  z51 := Try.sizeOf198
  v51 := Try.zeroValue198
  t53 := Try.underlying201
  a53 := Try.isAgg201
  z53 := Try.sizeOf201
  v53 := Try.zeroValue201
  t70 := Try.underlying124
  a70 := Try.isAgg124
  z70 := Try.sizeOf124
  v70 := Try.zeroValue124
  t72 := Try.underlying127
  a72 := Try.isAgg127
  z72 := Try.sizeOf127
  v72 := Try.zeroValue127
  t75 := Try.underlying129
  a75 := Try.isAgg129
  z75 := Try.sizeOf129
  v75 := Try.zeroValue129
  t76 := Try.underlying130
  a76 := Try.isAgg130
  z76 := Try.sizeOf130
  v76 := Try.zeroValue130
  t109 := Try.underlying193
  a109 := Try.isAgg193
  z109 := Try.sizeOf193
  v109 := Try.zeroValue193
  t127 := Try.underlying175
  a127 := Try.isAgg175
  z127 := Try.sizeOf175
  v127 := Try.zeroValue175
  t146 := Try.underlying199
  a146 := Try.isAgg199
  z146 := Try.sizeOf199
  v146 := Try.zeroValue199
  t148 := Try.underlying202
  a148 := Try.isAgg202
  z148 := Try.sizeOf202
  v148 := Try.zeroValue202
  t164 := Try.underlying190
  a164 := Try.isAgg190
  z164 := Try.sizeOf190
  v164 := Try.zeroValue190 }
theorem Try.Builder_Extra_105 : Builder.Extra Try.prog Try.lays105_ren := {
  sizeBuilder := by kernel_rfl
  liesBuilder := by kernel_rfl
  t5 := Try.underlying5
  a5 := Try.isAgg5
  z5 := Try.sizeOf5
  v5 := Try.zeroValue5
  infoByte := by kernel_rfl
  cellsByte := by kernel_rfl
  sizeByte := by kernel_rfl
  neB5 := by decide }
open Go.RowKit Go.Lib in
/-- THE MAIN CASE: at least two copies of a string that is not empty. (LAID: no walk: one application.) -/
theorem Try.strings_Repeat_main (s : ByteArray) (c : Nat) (w : World) (hc2 : 2 ≤ c) (hc : c ≤ 9223372036854775807) (hlen : s.size * c ≤ 140737488355328) (h0 : 0 < s.size) :
    Calls Try.prog 135 #[.string s, .int .i64 c] w fun e w' => e = .returned (.string ⟨(Lib.repeatL s.data.toList c).toArray⟩) ∧ Below w.heap.size w w' := Any.strings_Repeat_main Try.lays105 Try.Builder_Extra_105 s c w hc2 hc hlen h0
open Go.RowKit Go.Lib in
theorem Try.strings_Repeat_zero (s : ByteArray) (w : World) :
    Calls Try.prog 135 #[.string s, .int .i64 0] w fun e w' => e = .returned (.string ⟨#[]⟩) ∧ w' = w := Any.strings_Repeat_zero Try.lays105 s w
open Go.RowKit Go.Lib in
theorem Try.strings_Repeat_one (s : ByteArray) (w : World) :
    Calls Try.prog 135 #[.string s, .int .i64 1] w fun e w' => e = .returned (.string s) ∧ w' = w := Any.strings_Repeat_one Try.lays105 s w
open Go.RowKit Go.Lib in
/-- Copies of the empty string. (LAID: no walk: one application.) -/
theorem Try.strings_Repeat_empty (s : ByteArray) (c : Nat) (w : World) (hc2 : 2 ≤ c) (hc : c ≤ 9223372036854775807) (h0 : s.size = 0) :
    Calls Try.prog 135 #[.string s, .int .i64 c] w fun e w' => e = .returned (.string ⟨#[]⟩) ∧ w' = w := Any.strings_Repeat_empty Try.lays105 s c w hc2 hc h0
open Go.RowKit Go.Lib in
/-- count < 0: "It panics if count is negative". (LAID: no walk: one application.) -/
theorem Try.strings_Repeat_negative (s : ByteArray) (c : Int) (w : World) (hc : c < 0) :
    Calls Try.prog 135 #[.string s, .int .i64 c] w fun e w' => e = .panicked [{ v := repeatPanic Try.lays105_ren "strings: negative Repeat count", recovered := false }] ∧ w' = w := Any.strings_Repeat_negative Try.lays105 s c w hc
open Go.RowKit Go.Lib in
/-- len(s) * count is no int: ".. or if the result of (len(s) * count) overflows". (LAID: no walk: one application.) -/
theorem Try.strings_Repeat_overflow (s : ByteArray) (c : Nat) (w : World) (hc : c ≤ 9223372036854775807) (hs : s.size ≤ 9223372036854775807) (hbig : 9223372036854775807 < s.size * c) :
    Calls Try.prog 135 #[.string s, .int .i64 c] w fun e w' => e = .panicked [{ v := repeatPanic Try.lays105_ren "strings: Repeat output length overflow", recovered := false }] ∧ w' = w := Any.strings_Repeat_overflow Try.lays105 s c w hc hs hbig
open Go.RowKit Go.Lib in
/-- **strings.Repeat: count ≥ 0, the result within one allocation: count copies of s.** (LAID: no walk: one application.) -/
theorem Try.strings_Repeat (s : ByteArray) (c : Nat) (w : World) (hc : c ≤ 9223372036854775807) (hlen : s.size * c ≤ 140737488355328) :
    Calls Try.prog 135 #[.string s, .int .i64 c] w fun e w' => e = .returned (.string ⟨(Lib.repeatL s.data.toList c).toArray⟩) ∧ Below w.heap.size w w' := Any.strings_Repeat Try.lays105 Try.Builder_Extra_105 s c w hc hlen

def Try.laysB_ren : Go.Shelf.Ren :=
⟨fun | 167 => 106 | 105 => 135 | 212 => 157 | 99 => 158 | 165 => 159 | 166 => 103 | 170 => 107 | 169 => 108 | 263 => 165 | 264 => 166 | 206 => 167 | 240 => 134 | 241 => 168 | 276 => 156 | 277 => 169 | n => n, fun | 9 => 9 | 3 => 3 | 4 => 4 | 20 => 20 | 0 => 0 | 46 => 192 | 109 => 193 | 5 => 5 | 72 => 127 | 76 => 130 | 51 => 198 | 146 => 199 | 53 => 201 | 148 => 202 | 70 => 124 | 37 => 125 | 75 => 129 | 127 => 175 | 164 => 190 | 80 => 138 | n => n, fun | n => n⟩
theorem Try.lays240 : Go.Proofs.Lays.n240 Try.prog Try.laysB_ren := {
  mixed := by kernel_rfl
  f240 := Try.func134.trans (congrArg some (by kernel_rfl))
  f276 := Try.func156.trans (congrArg some (by kernel_rfl))
  t0 := Try.underlying0
  a0 := Try.isAgg0
  z0 := Try.sizeOf0
  v0 := Try.zeroValue0
  t4 := Try.underlying4
  a4 := Try.isAgg4
  z4 := Try.sizeOf4
  v4 := Try.zeroValue4
  t9 := Try.underlying9
  a9 := Try.isAgg9
  z9 := Try.sizeOf9
  v9 := Try.zeroValue9
  t20 := Try.underlying20
  a20 := Try.isAgg20
  z20 := Try.sizeOf20
  v20 := Try.zeroValue20
  t70 := Try.underlying124
  a70 := Try.isAgg124
  z70 := Try.sizeOf124
  v70 := Try.zeroValue124
  t72 := Try.underlying127
  a72 := Try.isAgg127
  z72 := Try.sizeOf127
  v72 := Try.zeroValue127
  t164 := Try.underlying190
  a164 := Try.isAgg190
  z164 := Try.sizeOf190
  v164 := Try.zeroValue190 }
theorem Try.Builder_X72_240 : Builder.X72 Try.prog Try.laysB_ren := {
  sizeBuilder := by kernel_rfl
  liesBuilder := by kernel_rfl }
open Go.RowKit in
/-- (*strings.Builder).copyCheck (what every writing method calls first): behind it the builder is 'used': 'addr' holds its own address; its bytes are as they were. (LAID: no walk: one application.) -/
theorem Try.Builder_copyCheck (B b : Nat) (bs : List Value) (w : World) (h : Lib.IsBuilder 127 5 B b bs w) :
    Calls Try.prog 134 #[.pointer (some ⟨b, 0, none⟩)] w fun e w' => e = .returned (.tuple #[]) ∧ (Lib.BuilderAt 127 5 B b (.pointer (some ⟨b, 0, none⟩)) bs w' ∧ Below B w w') := Any.Builder_copyCheck Try.lays240 Try.Builder_X72_240 B b bs w h
open Go.RowKit in
/-- (*strings.Builder).copyCheck (what every writing method calls first): behind it the builder is 'used': 'addr' holds its own address; its bytes are as they were. (THE FORM '_f': OF A BUILDER WHOSE BUFFER's HEAD MAY BE FROZEN: 'Lib.IsBuilderF': one that 'String()' has read.) (LAID: no walk: one application.) -/
theorem Try.Builder_copyCheck_f (B b : Nat) (bs : List Value) (w : World) (h : Lib.IsBuilderF 127 5 B b bs w) :
    Calls Try.prog 134 #[.pointer (some ⟨b, 0, none⟩)] w fun e w' => e = .returned (.tuple #[]) ∧ (Lib.BuilderAtF 127 5 B b (.pointer (some ⟨b, 0, none⟩)) bs w' ∧ Below B w w') := Any.Builder_copyCheck_f Try.lays240 Try.Builder_X72_240 B b bs w h
theorem Try.lays167 : Go.Proofs.Lays.n167 Try.prog Try.laysB_ren := {
  mixed := by kernel_rfl
  f167 := Try.func106.trans (congrArg some (by kernel_rfl))
  f240 := Try.func134.trans (congrArg some (by kernel_rfl))
  f276 := Try.func156.trans (congrArg some (by kernel_rfl))
  t0 := Try.underlying0
  a0 := Try.isAgg0
  z0 := Try.sizeOf0
  v0 := Try.zeroValue0
  t4 := Try.underlying4
  a4 := Try.isAgg4
  z4 := Try.sizeOf4
  v4 := Try.zeroValue4
  t5 := Try.underlying5
  a5 := Try.isAgg5
  z5 := Try.sizeOf5
  v5 := Try.zeroValue5
  t9 := Try.underlying9
  a9 := Try.isAgg9
  z9 := Try.sizeOf9
  v9 := Try.zeroValue9
  t20 := Try.underlying20
  a20 := Try.isAgg20
  z20 := Try.sizeOf20
  v20 := Try.zeroValue20
  t37 := Try.underlying125
  a37 := Try.isAgg125
  z37 := Try.sizeOf125
  v37 := Try.zeroValue125
  t70 := Try.underlying124
  a70 := Try.isAgg124
  z70 := Try.sizeOf124
  v70 := Try.zeroValue124
  t72 := Try.underlying127
  a72 := Try.isAgg127
  z72 := Try.sizeOf127
  v72 := Try.zeroValue127
  t75 := Try.underlying129
  a75 := Try.isAgg129
  z75 := Try.sizeOf129
  v75 := Try.zeroValue129
  t164 := Try.underlying190
  a164 := Try.isAgg190
  z164 := Try.sizeOf190
  v164 := Try.zeroValue190 }
theorem Try.Builder_Extra_167 : Builder.Extra Try.prog Try.laysB_ren := {
  sizeBuilder := by kernel_rfl
  liesBuilder := by kernel_rfl
  t5 := Try.underlying5
  a5 := Try.isAgg5
  z5 := Try.sizeOf5
  v5 := Try.zeroValue5
  infoByte := by kernel_rfl
  cellsByte := by kernel_rfl
  sizeByte := by kernel_rfl
  neB5 := by decide }
open Go.RowKit in
/-- (*strings.Builder).WriteByte: "WriteByte appends the byte c to b's buffer. The returned error is always nil.": UNDER Go's OWN LIMIT: the new length takes at most 2^47 bytes. (LAID: no walk: one application.) -/
theorem Try.Builder_WriteByte (B b : Nat) (bs : List Value) (c : Int) (w : World) (h : Lib.IsBuilder 127 5 B b bs w) (hlen : bs.length + 1 ≤ 140737488355328) (hBw : B ≤ w.heap.size) :
    Calls Try.prog 106 #[.pointer (some ⟨b, 0, none⟩), .int .u8 c] w fun e w' => e = .returned .nilIface ∧ (Lib.BuilderAt 127 5 B b (.pointer (some ⟨b, 0, none⟩)) (bs ++ [.int .u8 c]) w' ∧ Below B w w') := Any.Builder_WriteByte Try.lays167 Try.Builder_Extra_167 B b bs c w h hlen hBw
theorem Try.lays166 : Go.Proofs.Lays.n166 Try.prog Try.laysB_ren := {
  mixed := by kernel_rfl
  f166 := Try.func103.trans (congrArg some (by kernel_rfl))
  f240 := Try.func134.trans (congrArg some (by kernel_rfl))
  f276 := Try.func156.trans (congrArg some (by kernel_rfl))
  t0 := Try.underlying0
  a0 := Try.isAgg0
  z0 := Try.sizeOf0
  v0 := Try.zeroValue0
  t3 := Try.underlying3
  a3 := Try.isAgg3
  z3 := Try.sizeOf3
  v3 := Try.zeroValue3
  t4 := Try.underlying4
  a4 := Try.isAgg4
  z4 := Try.sizeOf4
  v4 := Try.zeroValue4
  t9 := Try.underlying9
  a9 := Try.isAgg9
  z9 := Try.sizeOf9
  v9 := Try.zeroValue9
  t20 := Try.underlying20
  a20 := Try.isAgg20
  z20 := Try.sizeOf20
  v20 := Try.zeroValue20
  t37 := Try.underlying125
  a37 := Try.isAgg125
  z37 := Try.sizeOf125
  v37 := Try.zeroValue125
  t70 := Try.underlying124
  a70 := Try.isAgg124
  z70 := Try.sizeOf124
  v70 := Try.zeroValue124
  t72 := Try.underlying127
  a72 := Try.isAgg127
  z72 := Try.sizeOf127
  v72 := Try.zeroValue127
  t75 := Try.underlying129
  a75 := Try.isAgg129
  z75 := Try.sizeOf129
  v75 := Try.zeroValue129
  t164 := Try.underlying190
  a164 := Try.isAgg190
  z164 := Try.sizeOf190
  v164 := Try.zeroValue190 }
theorem Try.Builder_Extra_166 : Builder.Extra Try.prog Try.laysB_ren := {
  sizeBuilder := by kernel_rfl
  liesBuilder := by kernel_rfl
  t5 := Try.underlying5
  a5 := Try.isAgg5
  z5 := Try.sizeOf5
  v5 := Try.zeroValue5
  infoByte := by kernel_rfl
  cellsByte := by kernel_rfl
  sizeByte := by kernel_rfl
  neB5 := by decide }
open Go.RowKit in
/-- (*strings.Builder).WriteString: "WriteString appends the contents of s to b's buffer. It returns the length of s and a nil error.": UNDER Go's OWN LIMIT: the new length takes at most 2^47 bytes. (LAID: no walk: one application.) -/
theorem Try.Builder_WriteString (B b : Nat) (bs : List Value) (s : ByteArray) (w : World) (h : Lib.IsBuilder 127 5 B b bs w) (hlen : bs.length + s.size ≤ 140737488355328) (hBw : B ≤ w.heap.size) :
    Calls Try.prog 103 #[.pointer (some ⟨b, 0, none⟩), .string s] w fun e w' => e = .returned (.tuple #[.int .i64 s.size, .nilIface]) ∧ (Lib.BuilderAt 127 5 B b (.pointer (some ⟨b, 0, none⟩)) (bs ++ Lib.strCells s) w' ∧ Below B w w') := Any.Builder_WriteString Try.lays166 Try.Builder_Extra_166 B b bs s w h hlen hBw
open Go.RowKit in
/-- (*strings.Builder).WriteString: "WriteString appends the contents of s to b's buffer. It returns the length of s and a nil error.": UNDER Go's OWN LIMIT: the new length takes at most 2^47 bytes. (THE FORM '_f': OF A BUILDER THAT 'String()' HAS READ, TOO: the bytes go in BEHIND what is frozen, or, where there is no room, all goes over into a new row.) (LAID: no walk: one application.) -/
theorem Try.Builder_WriteString_f (B b : Nat) (bs : List Value) (s : ByteArray) (w : World) (h : Lib.IsBuilderF 127 5 B b bs w) (hlen : bs.length + s.size ≤ 140737488355328) (hBw : B ≤ w.heap.size) :
    Calls Try.prog 103 #[.pointer (some ⟨b, 0, none⟩), .string s] w fun e w' => e = .returned (.tuple #[.int .i64 s.size, .nilIface]) ∧ (Lib.BuilderAtF 127 5 B b (.pointer (some ⟨b, 0, none⟩)) (bs ++ Lib.strCells s) w' ∧ Below B w w') := Any.Builder_WriteString_f Try.lays166 Try.Builder_Extra_166 B b bs s w h hlen hBw
end Go.Proofs

namespace Go.Proofs.Ytlaeljkjdfffjaa
open Go.RowKit

theorem TS_inj {t u : Tr} (h : TS t = TS u) : t = u := enc_inj (by rw [← TS_list, ← TS_list, h])
theorem TS_num (n : Nat) : (⟨(Lib.repeatL [49, 48] n).toArray⟩ ++ ⟨#[48]⟩ : ByteArray) = TS (.num n) := by
  apply ba_ext; rw [TS_list, enc_num]; simp [rep10]

theorem repeat10 (n : Nat) (h : n ≤ 1000000) (w : World) :
    Calls Try.prog 135 #[.string ⟨#[49, 48]⟩, .int .i64 n] w fun e w' => e = .returned (.string ⟨(rep10 n).toArray⟩) ∧ Below w.heap.size w w' :=
  Try.strings_Repeat ⟨#[49, 48]⟩ n w (by omega) (by show 2 * n ≤ _; omega)

theorem rep_add0 (n : Nat) (h : n ≤ 1000000) (w : World) : (Op.stringOp .add ⟨(rep10 n).toArray⟩ ⟨#[48]⟩).run Try.prog w = .ok (.string (TS (.num n))) w := by
  rw [run_string_add_sum, show (⟨(rep10 n).toArray⟩ ++ ⟨#[48]⟩ : ByteArray) = TS (.num n) from TS_num n]
  show (rep10 n).toArray.size + 1 ≤ _
  simp [rep10_length]; omega

theorem value_bad (s : ByteArray) (hs : s.size ≤ 281474976710656) (h : isTree s = false) (w : World) :
    Calls Try.prog 148 #[.string s] w fun e w' => e = .returned (.tuple #[.int .i64 0, .int .i64 1]) ∧ Below w.heap.size w w' := by
  go_enter Try.func148, Try.ntmps148
  go_wp2_with (go_at_call 109; refine (valid_bad s hs h _).mono ?_; rintro e w' ⟨rfl, hb1⟩)
  go_ret2
  exact ⟨rfl, hb1⟩
def Tr.isNum (t : Tr) : Bool := decide (t = .num t.pairs)
theorem Tr.isNum_num (n : Nat) : (Tr.num n).isNum = true ∧ (Tr.num n).pairs = n := by
  have : (Tr.num n).pairs = n := by have h1 := (Tr.num n).size_pairs; rw [size_num] at h1; omega
  exact ⟨by unfold Tr.isNum; rw [this]; simp, this⟩
theorem half_size (t : Tr) : ((t.size : Int)) / 2 = (t.pairs : Int) := by have := t.size_pairs; omega
theorem value_num (t : Tr) (hs : t.size ≤ 2000000) (hn : t.isNum = true) (w : World) :
    Calls Try.prog 148 #[.string (TS t)] w fun e w' => e = .returned (.tuple #[.int .i64 t.pairs, .int .i64 0]) ∧ Below w.heap.size w w' := by
  have hz : (TS t).size = t.size := TS_size t
  have hh := half_size t
  have hp := t.size_pairs
  have k1 := fun w => rep_add0 t.pairs (by omega) w
  have hc := fun w => repeat10 t.pairs (by omega) w
  have hv := fun w => valid_ok t hs w
  have e : Tr.num t.pairs = t := (of_decide_eq_true hn).symm
  rw [e] at k1
  have b0 : ((TS t).toList == (TS t).toList) = true := by simp
  have hsz : (t.size : Int) ≤ 2000000 := by omega
  clear hp e hn hs
  generalize rep10 t.pairs = q at k1 hc
  go_enter Try.func148, Try.ntmps148
  go_wp2_with (go_at_call 109; refine (hv _).mono ?_; rintro e w1 ⟨rfl, hb1⟩)
  go_wp2_with (go_at_call 135; refine (hc _).mono ?_; rintro e w2 ⟨rfl, hb2⟩)
  go_ret2
  exact ⟨rfl, hb1.trans (hb2.mono hb1.size)⟩
theorem value_none (t : Tr) (hs : t.size ≤ 2000000) (hn : t.isNum = false) (w : World) :
    Calls Try.prog 148 #[.string (TS t)] w fun e w' => e = .returned (.tuple #[.int .i64 0, .int .i64 4]) ∧ Below w.heap.size w w' := by
  have hz : (TS t).size = t.size := TS_size t
  have hh := half_size t
  have hp := t.size_pairs
  have k1 := fun w => rep_add0 t.pairs (by omega) w
  have hc := fun w => repeat10 t.pairs (by omega) w
  have hv := fun w => valid_ok t hs w
  have b0 : ((TS t).toList == (TS (Tr.num t.pairs)).toList) = false := by
    rw [beq_eq_false_iff_ne]; intro e
    rw [Lib.toList_data, Lib.toList_data, TS_list, TS_list] at e
    exact of_decide_eq_false hn (enc_inj e)
  have hsz : (t.size : Int) ≤ 2000000 := by omega
  clear hp hn hs
  generalize rep10 t.pairs = q at k1 hc
  generalize TS (Tr.num t.pairs) = r at k1 b0
  go_enter Try.func148, Try.ntmps148
  go_wp2_with (go_at_call 109; refine (hv _).mono ?_; rintro e w1 ⟨rfl, hb1⟩)
  go_wp2_with (go_at_call 135; refine (hc _).mono ?_; rintro e w2 ⟨rfl, hb2⟩)
  go_ret2
  exact ⟨rfl, hb1.trans (hb2.mono hb1.size)⟩

end Go.Proofs.Ytlaeljkjdfffjaa

namespace Go.Proofs.Ytlaeljkjdfffjaa
open Go.RowKit

theorem ret_s {a b : ByteArray} (h : a = b) : Ending.returned (.string a) = .returned (.string b) := by rw [h]
theorem ret_i {a b : Int} (h : a = b) : Ending.returned (.int .i64 a) = .returned (.int .i64 b) := by rw [h]
theorem rep10_cells (k : Nat) : Lib.byteCells (rep10 (k + 1)) = Lib.byteCells (rep10 k) ++ [.int .u8 49, .int .u8 48] := by
  rw [rep10_succ]; simp [Lib.byteCells]

set_option maxHeartbeats 400000 in
theorem refNumber_ok (n : Nat) (h : n ≤ 2000000) (w : World) :
    Calls Try.prog 101 #[.int .i64 n] w fun e w' => e = .returned (.string (TS (.num n))) ∧ Below w.heap.size w w' := by
  have hn : (n : Int) ≤ 2000000 := by omega
  have e1 : (2 * (n : Int) + 1) = ((2 * n + 1 : Nat) : Int) := by omega
  have hr : TS (.num n) = ⟨(rep10 n ++ [48]).toArray⟩ := by unfold TS; rw [enc_num]
  have HR := Lib.hid hr; clear hr
  obtain ⟨i0, hi0, hz0, hz1, hz2⟩ := info_parts el_u8.hi
  have HE := Lib.hid e1; clear e1
  go_enter Try.func101, Try.ntmps101
  go_wp2_with (at_make; refine wpList_make_own _ rfl _ _ 125 rfl w.heap.size 5 i0 _ 1 el_u8.ht hi0 hz0 hz1 _ _ _ (2 * n + 1) rfl rfl HE.out ?b1 ?b2 ?b3 ?_)
  case b1 => rw [hz2]; omega
  case b2 => unfold maxLen; omega
  case b3 => exact Nat.le_refl _
  intro w1 hown hg
  have hb : Below w.heap.size w w1 := (Below.refl _ _).grown hg (Nat.le_refl _) (by simp)
  clear hg HE
  go_wp2
  go_loopg [3, 4] n (fun g v i wr => ∃ k : Nat, k ≤ n ∧ g = n - k ∧ i = .int .i64 k ∧ wr.ownsRow w.heap.size 5 1 v (2 * k) (Lib.byteCells (rep10 k)) ∧ Below w.heap.size w wr)
  case atStart => exact ⟨0, by omega, rfl, rfl, hown, hb⟩
  case round =>
    obtain ⟨k, hk, hgk, rfl, hown, hb⟩ := hrel
    have HG := Lib.hid hgk; clear hgk
    have hsz := hb.size
    by_cases hlt : k < n
    · go_wp2_with (at_builtin; refine app_new el_u8 rfl _ _ rfl rfl hown [.int .u8 49, .int .u8 48] 2 rfl rfl ?c1 ?c2 ?c3 hsz hb (Nat.le_refl _) ?_)
      case c1 => intro u hu; simp at hu; rcases hu with rfl | rfl <;> rfl
      case c2 => omega
      case c3 => unfold maxLen; omega
      intro v' w' hown' hb' hgr
      clear hown hb
      go_wp2
      go_roundg (n - (k + 1))
      case measure => rw [HG.out]; omega
      case rel => exact ⟨k + 1, by omega, rfl, by go_num, by rw [rep10_cells]; exact hown', hb'⟩
    · have hkn : k = n := by omega
      have HK := Lib.hid hkn
      clear hkn
      go_wp2_with (at_builtin; refine app_new el_u8 rfl _ _ rfl rfl hown [.int .u8 48] 1 rfl rfl ?c1 ?c2 ?c3 hsz hb (Nat.le_refl _) ?_)
      case c1 => intro u hu; simp at hu; rcases hu with rfl; rfl
      case c2 => omega
      case c3 => unfold maxLen; omega
      intro v' w' hown' hb' hgr
      have hcv := own_bytes (P := Try.prog) (rep10 k ++ [48]) (by simpa [Lib.byteCells] using hown') 125 Try.underlying125 Try.underlying5 9 Try.underlying9
      clear hown hb hown'
      go_wp2
      go_ret
      exact ⟨by rw [HR.out, ← HK.out]; rfl, hb'⟩

/-- The first m characters are '10' again and again. -/
def RV (t : Tr) (m : Nat) : Prop := ∃ k, m = 2 * k ∧ k ≤ t.pairs ∧ t.enc.take m = rep10 k
theorem TS_get (t : Tr) (m : Nat) (h : m < (TS t).size) : (TS t)[m] = t.enc[m]'(by rw [TS_size, ← Tr.enc_length] at h; exact h) := by
  show (TS t).data[m] = _
  simp [TS]
theorem RV_zero (t : Tr) : RV t 0 := ⟨0, rfl, Nat.zero_le _, by simp [rep10, Lib.repeatL]⟩
theorem RV_step {t : Tr} {m : Nat} (h : RV t m) (hm : m + 1 < (TS t).size) (h9 : (((TS t)[m]'(by omega)).toNat : Int) = 49) (h8 : ((TS t)[m + 1].toNat : Int) = 48) : RV t (m + 2) := by
  obtain ⟨k, rfl, hk, ht⟩ := h
  rw [TS_get] at h9 h8
  have hm' : 2 * k + 1 < t.enc.length := by rw [Tr.enc_length, ← TS_size]; exact hm
  have hs := t.size_pairs
  refine ⟨k + 1, by omega, by rw [Tr.enc_length] at hm'; omega, ?_⟩
  rw [show 2 * k + 2 = (2 * k + 1) + 1 from rfl, List.take_succ_eq_append_getElem hm', List.take_succ_eq_append_getElem (by omega), ht, rep10_succ]
  have a9 : t.enc[2 * k] = 49 := UInt8.toNat_inj.1 (by have : (49 : UInt8).toNat = 49 := rfl; omega)
  have a8 : t.enc[2 * k + 1] = 48 := UInt8.toNat_inj.1 (by have : (48 : UInt8).toNat = 48 := rfl; omega)
  rw [a9, a8]; simp
theorem RV_end {t : Tr} {m : Nat} (h : RV t m) (hm : ¬ m + 1 < (TS t).size) : t.isNum = true := by
  obtain ⟨k, rfl, hk, ht⟩ := h
  have hs := t.size_pairs
  rw [TS_size] at hm
  obtain rfl : k = t.pairs := by omega
  have hl : 2 * t.pairs < t.enc.length := by rw [Tr.enc_length]; omega
  have e : t.enc = rep10 t.pairs ++ [t.enc[2 * t.pairs]] := by
    rw [← ht, ← List.take_succ_eq_append_getElem hl, List.take_of_length_le (by rw [Tr.enc_length]; omega)]
  exact decide_eq_true (num_of_rep _ _ _ e)
theorem RV_no {t : Tr} {m : Nat} (h : RV t m) (hm : m + 1 < (TS t).size) (hn : t.isNum = true) : (((TS t)[m]'(by omega)).toNat : Int) = 49 ∧ ((TS t)[m + 1].toNat : Int) = 48 := by
  obtain ⟨k, rfl, hk, ht⟩ := h
  have hs := t.size_pairs
  have hm2 : 2 * k + 1 < t.size := by rw [TS_size] at hm; exact hm
  rw [TS_get, TS_get]
  have e : t = .num t.pairs := of_decide_eq_true hn
  have e2 : t.enc = rep10 (k + 1) ++ (rep10 (t.pairs - (k + 1)) ++ [48]) := by
    have : rep10 t.pairs = rep10 (k + 1) ++ rep10 (t.pairs - (k + 1)) := by
      have hh : ∀ a b, rep10 (a + b) = rep10 a ++ rep10 b := by
        intro a b
        induction a with
        | zero => simp [rep10, Lib.repeatL]
        | succ a ih => rw [Nat.succ_add]; show [49, 48] ++ rep10 (a + b) = ([49, 48] ++ rep10 a) ++ rep10 b; rw [ih, List.append_assoc]
      rw [← hh]; congr 1; omega
    rw [← List.append_assoc, ← this]
    exact (congrArg Tr.enc e).trans (enc_num _)
  have l1 : (rep10 k).length = 2 * k := rep10_length k
  have g9 : t.enc[2 * k]? = some 49 := by rw [e2, rep10_succ]; simp [l1]
  have g8 : t.enc[2 * k + 1]? = some 48 := by rw [e2, rep10_succ]; simp [l1]
  have hl : 2 * k + 1 < t.enc.length := by rw [Tr.enc_length]; omega
  rw [List.getElem?_eq_getElem (by omega)] at g9
  rw [List.getElem?_eq_getElem hl] at g8
  simp only [Option.some.injEq] at g9 g8
  rw [g9, g8]; exact ⟨rfl, rfl⟩
def rVal (t : Tr) : Int := if t.isNum then t.pairs else -1

theorem refEnd_pair (h t : Tr) (hs : (Tr.pair h t).size ≤ 2000000) (w : World) :
    Calls Try.prog 92 #[.string (TS (.pair h t)), .int .i64 1] w fun e w' => e = .returned (.int .i64 (1 + h.size)) ∧ w = w' := by
  have h1 : (TS (.pair h t)).size = (Tr.pair h t).size := TS_size _
  have := refEnd_any (TS (.pair h t)) 1 (by rw [h1]; exact Tr.size_pos _) (by omega) w
  rw [TS_end1] at this; exact this
/-- How many characters are '1' among the first m. -/
def ones (l : List UInt8) : Nat := (l.filter fun c => c == 49).length
theorem ones_app (a b : List UInt8) : ones (a ++ b) = ones a + ones b := by simp [ones]
theorem ones_enc (t : Tr) : ones t.enc = t.pairs := by
  induction t with
  | nil => rfl
  | pair a b iha ihb =>
    have : (Tr.pair a b).enc = [49] ++ (a.enc ++ b.enc) := rfl
    rw [this, ones_app, ones_app, iha, ihb]
    show 1 + _ = _
    simp [Tr.pairs]; omega
theorem ones_le (l : List UInt8) : ones l ≤ l.length := List.length_filter_le _ _
theorem ones_snoc (s : ByteArray) (k : Nat) (h : k < s.size) : ones (s.data.toList.take (k + 1)) = ones (s.data.toList.take k) + if (s[k].toNat : Int) = 49 then 1 else 0 := by
  rw [List.take_succ_eq_append_getElem (by simpa using h), ones_app]
  congr 1
  show ones [s[k]] = _
  by_cases e : (s[k].toNat : Int) = 49
  · rw [if_pos e]
    have a9 : s[k] = 49 := UInt8.toNat_inj.1 (by have : (49 : UInt8).toNat = 49 := rfl; omega)
    rw [a9]; rfl
  · rw [if_neg e]
    have a9 : ¬ s[k] = 49 := fun h => e (by rw [h]; rfl)
    simp [ones, a9]

end Go.Proofs.Ytlaeljkjdfffjaa

namespace Go.Proofs.Ytlaeljkjdfffjaa
open Go.RowKit

/-- The stack of depths. -/
def dstack (ts : List Tr) : List Value := (ts.map fun t => Value.int .i64 t.depth).reverse
theorem dstack_length (ts : List Tr) : (dstack ts).length = ts.length := by simp [dstack]
theorem dstack_cons (t : Tr) (ts : List Tr) : dstack (t :: ts) = dstack ts ++ [.int .i64 t.depth] := by simp [dstack]

theorem pf_at (t : Tr) (q : Nat) (h : q < (TS t).size) : ∃ us ts, pf (t.enc.drop (q + 1)) = some us ∧ pf (t.enc.drop q) = some ts ∧
    ((((TS t)[q].toNat : Int) = 48 ∧ ts = .nil :: us) ∨ (((TS t)[q].toNat : Int) = 49 ∧ ∃ a b r, us = a :: b :: r ∧ ts = .pair a b :: r)) := by
  obtain ⟨us, hu⟩ := pf_drop _ _ (pf_one t) (q + 1)
  obtain ⟨ts, ht⟩ := pf_drop _ _ (pf_one t) q
  have hl : q < t.enc.length := by rw [TS_size, ← Tr.enc_length] at h; exact h
  have e : t.enc.drop q = t.enc[q] :: t.enc.drop (q + 1) := List.drop_eq_getElem_cons hl
  refine ⟨us, ts, hu, ht, ?_⟩
  rw [TS_get]
  rw [e] at ht
  by_cases h8 : t.enc[q] = 48
  · rw [h8, pf_48 hu] at ht
    rw [h8]; exact .inl ⟨rfl, by simpa using ht.symm⟩
  · by_cases h9 : t.enc[q] = 49
    · rw [h9] at ht ⊢
      match us, hu with
      | a :: b :: r, hu => rw [pf_49 hu] at ht; exact .inr ⟨rfl, a, b, r, rfl, by simpa using ht.symm⟩
      | [], hu => rw [pf_49_few hu (by simp)] at ht; cases ht
      | [a], hu => rw [pf_49_few hu (by simp)] at ht; cases ht
    · rw [pf_else h8 h9] at ht; cases ht

end Go.Proofs.Ytlaeljkjdfffjaa

namespace Go.Proofs.Ytlaeljkjdfffjaa
open Go.RowKit

/-- Every block of elements of type T stands. -/
def Kept (T : Nat) (w w' : World) : Prop := ∀ (k : Nat) (cs : Array Value), w.heap[k]? = some (.cells cs T (0, 0)) → w'.heap[k]? = some (.cells cs T (0, 0))
theorem Kept.refl (T : Nat) (w : World) : Kept T w w := fun _ _ h => h
theorem Kept.trans {T : Nat} {a b c : World} (h : Kept T a b) (k : Kept T b c) : Kept T a c := fun i cs hi => k i cs (h i cs hi)
theorem Kept.below {T : Nat} {w w' : World} (h : Below w.heap.size w w') : Kept T w w' := fun k _cs hk => (h.block k (Array.getElem?_eq_some_iff.1 hk).1).trans hk
theorem Kept.drewN {T : Nat} {w w' : World} (h : Kept T w w') (n : Nat) : Kept T w (w'.drewN n) := h
theorem Kept.drew {T : Nat} {w w' : World} (h : Kept T w w') : Kept T w w'.drew := h
theorem Kept.of_drew {T : Nat} {w w' : World} (h : Kept T w.drew w') : Kept T w w' := fun k cs hk => h k cs hk
theorem Kept.alloc {T : Nat} {w w' : World} (h : Kept T w w') (o : Obj) : Kept T w (w'.alloc o) := fun k cs hk => (Below.heap_alloc _ _ _ (Array.getElem?_eq_some_iff.1 (h k cs hk)).1).trans (h k cs hk)
theorem Kept.setCell {T : Nat} {w w' : World} (h : Kept T w w') {a : Addr} {cs : Array Value} {T' : Nat} {fr : Nat × Nat} (ha : w'.heap[a.block]? = some (.cells cs T' fr)) (hne : T' ≠ T) (v : Value) : Kept T w (w'.setCell a v) := fun k cs' hk => by
  have h1 := h k cs' hk
  by_cases e : k = a.block
  · subst e; rw [ha] at h1; simp only [Option.some.injEq, Obj.cells.injEq] at h1; exact absurd h1.2.1 hne
  · exact (Below.heap_setCell _ _ _ _ e).trans h1
theorem Kept.grew {T tE base sz n m : Nat} {w w' : World} {v v' : Value} {xs : List Value} (hown : w.ownsRow base tE sz v n xs) (hg : Grew w w' v v' m) (hne : tE ≠ T) : Kept T w w' := fun k cs hk => by
  refine (hg.old k (Array.getElem?_eq_some_iff.1 hk).1 ?_).trans hk
  intro e
  rcases hown.2 with ⟨rfl, _⟩ | ⟨g, cap, cur, rfl, _, hgg, _⟩
  · simp [Value.ownBlock] at e
  · simp only [Value.ownBlock, Option.some.injEq] at e
    subst e
    rw [hgg] at hk; simp only [Option.some.injEq, Obj.cells.injEq] at hk; exact hne hk.2.1
theorem Kept.grown {T tE base sz n : Nat} {w w' : World} {v : Value} {xs : List Value} (hown : w.ownsRow base tE sz v n xs) (hg : w.grownBy w' v.ownBlock) (hne : tE ≠ T) : Kept T w w' := fun k cs hk => by
  refine (hg.block k (Array.getElem?_eq_some_iff.1 hk).1 ?_).trans hk
  intro e
  rcases hown.2 with ⟨rfl, _⟩ | ⟨g, cap, cur, rfl, _, hgg, _⟩
  · simp [Value.ownBlock] at e
  · simp only [Value.ownBlock, Option.some.injEq] at e
    subst e
    rw [hgg] at hk; simp only [Option.some.injEq, Obj.cells.injEq] at hk; exact hne hk.2.1

theorem below_of_drew {n : Nat} {w w' : World} (h : Below n w.drew w') : Below n w w' := ⟨h.os, h.tape, h.output, h.size, h.block⟩

/-- A pointer to nodes of type T that reads as a tree. -/
def NodeP (T : Nat) (w : World) : Tr → Value → Prop
  | .nil, v => v = .pointer none
  | .pair a b, v => ∃ g x y, v = .pointer (some ⟨g, 0, none⟩) ∧ w.heap[g]? = some (.cells #[x, y, .int .i64 ((Tr.pair a b).size : Nat)] T (0, 0)) ∧ NodeP T w a x ∧ NodeP T w b y
theorem NodeP.kept {T : Nat} {w w' : World} (hk : Kept T w w') : ∀ {t : Tr} {v : Value}, NodeP T w t v → NodeP T w' t v := by
  intro t
  induction t with
  | nil => intro v h; exact h
  | pair a b iha ihb =>
    intro v h
    obtain ⟨g, x, y, hv, hg, ha, hb⟩ := h
    exact ⟨g, x, y, hv, hk _ _ hg, iha ha, ihb hb⟩
/-- Every node's value is a pointer. -/
theorem NodeP.ptr {T : Nat} {w : World} {t : Tr} {v : Value} (h : NodeP T w t v) : ∃ a, v = .pointer a := by
  cases t with
  | nil => exact ⟨none, h⟩
  | pair a b => obtain ⟨g, x, y, hv, _⟩ := h; exact ⟨_, hv⟩
theorem block_cells {w : World} {g T : Nat} {cs : Array Value} (h : w.heap[g]? = some (.cells cs T (0, 0))) : (∀ j, w.cell? ⟨g, j, none⟩ = cs[j]?) ∧ (∀ j, w.frozen? ⟨g, j, none⟩ = false) := by
  constructor
  · intro j; unfold World.cell?; rw [show w.heap[(⟨g, j, none⟩ : Addr).block]? = _ from h]; rfl
  · intro j; unfold World.frozen?; rw [show w.heap[(⟨g, j, none⟩ : Addr).block]? = _ from h]; simp
theorem NodeP.cells {T : Nat} {w : World} {a b : Tr} {v : Value} (h : NodeP T w (.pair a b) v) : ∃ g x y, v = .pointer (some ⟨g, 0, none⟩) ∧ g < w.heap.size ∧ w.cell? ⟨g, 0, none⟩ = some (.pointer x) ∧ w.cell? ⟨g, 1, none⟩ = some (.pointer y) ∧
    w.cell? ⟨g, 2, none⟩ = some (.int .i64 ((Tr.pair a b).size : Nat)) ∧ NodeP T w a (.pointer x) ∧ NodeP T w b (.pointer y) := by
  obtain ⟨g, x, y, hv, hg, ha, hb⟩ := h
  obtain ⟨x, rfl⟩ := ha.ptr
  obtain ⟨y, rfl⟩ := hb.ptr
  have hc := (block_cells hg).1
  exact ⟨g, x, y, hv, (Array.getElem?_eq_some_iff.1 hg).1, hc 0, hc 1, hc 2, ha, hb⟩
theorem NodeP.new {T : Nat} {w : World} {a b : Tr} {x y : Value} (ha : NodeP T w a x) (hb : NodeP T w b y) :
    NodeP T (w.alloc (.cells #[x, y, .int .i64 ((Tr.pair a b).size : Nat)] T)) (.pair a b) (.pointer (some ⟨w.heap.size, 0, none⟩)) :=
  ⟨w.heap.size, x, y, rfl, heap_alloc_new w _, ha.kept ((Kept.refl T w).alloc _), hb.kept ((Kept.refl T w).alloc _)⟩

theorem keepS {T : Nat} {w w' : World} {g : Nat} {x y z : Value} (hblk : w.heap[g]? = some (.cells #[x, y, z] T (0, 0))) (hk : Kept T w w') : w'.cell? ⟨g, 0, none⟩ = some x ∧ w'.cell? ⟨g, 1, none⟩ = some y := by
  have h := (block_cells (hk _ _ hblk)).1
  exact ⟨h 0, h 1⟩
/-- A row of another element type stands while something is appended to one. -/
theorem own_other {e1 e2 base sz1 sz2 n1 n2 m : Nat} {w w' : World} {v1 v1' v2 : Value} {xs1 xs2 : List Value} (h1 : w.ownsRow base e1 sz1 v1 n1 xs1) (h2 : w.ownsRow base e2 sz2 v2 n2 xs2) (hg : Grew w w' v1 v1' m) (hne : e1 ≠ e2) : w'.ownsRow base e2 sz2 v2 n2 xs2 := by
  refine ⟨h2.1, ?_⟩
  rcases h2.2 with h | ⟨g, cap, cur, hv, hb, hgg, r⟩
  · exact .inl h
  · exact .inr ⟨g, cap, cur, hv, hb, Kept.grew (T := e2) h1 hg hne _ _ hgg, r⟩
theorem own_below {e base sz n : Nat} {w w' : World} {v : Value} {xs : List Value} (h : w.ownsRow base e sz v n xs) (hb : Below w.heap.size w w') : w'.ownsRow base e sz v n xs := by
  refine ⟨h.1, ?_⟩
  rcases h.2 with h | ⟨g, cap, cur, hv, hbb, hgg, r⟩
  · exact .inl h
  · exact .inr ⟨g, cap, cur, hv, hbb, Kept.below (T := e) hb _ _ hgg, r⟩

/-- Rows of nodes. -/
def Nodes (T : Nat) (w : World) : List Tr → List Value → Prop
  | [], [] => True
  | t :: ts, v :: vs => NodeP T w t v ∧ Nodes T w ts vs
  | _, _ => False
theorem Nodes.kept {T : Nat} {w w' : World} (hk : Kept T w w') : ∀ {ts : List Tr} {vs : List Value}, Nodes T w ts vs → Nodes T w' ts vs := by
  intro ts
  induction ts with
  | nil => intro vs h; cases vs <;> exact h
  | cons t ts ih =>
    intro vs h
    cases vs with
    | nil => exact h
    | cons v vs => exact ⟨h.1.kept hk, ih h.2⟩
theorem Nodes.length {T : Nat} {w : World} : ∀ {ts : List Tr} {vs : List Value}, Nodes T w ts vs → vs.length = ts.length := by
  intro ts
  induction ts with
  | nil => intro vs h; cases vs <;> simp_all [Nodes]
  | cons t ts ih =>
    intro vs h
    cases vs with
    | nil => simp [Nodes] at h
    | cons v vs => simp [ih h.2]
theorem Nodes.uncons {T : Nat} {w : World} {t : Tr} {ts : List Tr} {vs : List Value} (h : Nodes T w (t :: ts) vs) : ∃ v us, vs = v :: us ∧ NodeP T w t v ∧ Nodes T w ts us := by
  cases vs with
  | nil => simp [Nodes] at h
  | cons v vs => exact ⟨v, vs, rfl, h.1, h.2⟩
theorem Nodes.nil_iff {T : Nat} {w : World} {vs : List Value} (h : Nodes T w [] vs) : vs = [] := by cases vs with | nil => rfl | cons v vs => simp [Nodes] at h

def szs (ts : List Tr) : Nat := (ts.map Tr.size).sum
theorem szs_flat (ts : List Tr) : ((ts.map Tr.enc).flatten).length = szs ts := by
  induction ts with
  | nil => rfl
  | cons t ts ih => simp [szs, Tr.enc_length] at *; omega

end Go.Proofs.Ytlaeljkjdfffjaa

namespace Go.Proofs.Ytlaeljkjdfffjaa
open Go.RowKit

theorem rnodeSize_any (t : Tr) (v : Value) (w : World) (h : NodeP 58 w t v) :
    Calls Try.prog 95 #[v] w fun e w' => e = .returned (.int .i64 t.size) ∧ w = w' := by
  cases t with
  | nil =>
    have hv : v = .pointer none := h
    subst hv
    go_enter Try.func95, Try.ntmps95
    go_wp2
    go_ret
    exact ⟨rfl, rfl⟩
  | pair a b =>
    obtain ⟨g, x, y, rfl, hg, c0, c1, c2, ha, hb⟩ := h.cells
    go_enter Try.func95, Try.ntmps95
    go_wp2
    go_ret
    exact ⟨rfl, rfl⟩
theorem rnodeHead_any (t : Tr) (v : Value) (w : World) (h : NodeP 58 w t v) :
    Calls Try.prog 131 #[v] w fun e w' => ∃ x, e = .returned (.pointer x) ∧ NodeP 58 w t.hd (.pointer x) ∧ w = w' := by
  cases t with
  | nil =>
    have hv : v = .pointer none := h
    subst hv
    go_enter Try.func131, Try.ntmps131
    go_wp2
    go_ret
    exact ⟨none, rfl, rfl, rfl⟩
  | pair a b =>
    obtain ⟨g, x, y, rfl, hg, c0, c1, c2, ha, hb⟩ := h.cells
    go_enter Try.func131, Try.ntmps131
    go_wp2
    go_ret
    exact ⟨x, rfl, ha, rfl⟩
theorem rnodeTail_any (t : Tr) (v : Value) (w : World) (h : NodeP 58 w t v) :
    Calls Try.prog 132 #[v] w fun e w' => ∃ x, e = .returned (.pointer x) ∧ NodeP 58 w t.tl (.pointer x) ∧ w = w' := by
  cases t with
  | nil =>
    have hv : v = .pointer none := h
    subst hv
    go_enter Try.func132, Try.ntmps132
    go_wp2
    go_ret
    exact ⟨none, rfl, rfl, rfl⟩
  | pair a b =>
    obtain ⟨g, x, y, rfl, hg, c0, c1, c2, ha, hb⟩ := h.cells
    go_enter Try.func132, Try.ntmps132
    go_wp2
    go_ret
    exact ⟨y, rfl, hb, rfl⟩

set_option maxHeartbeats 2000000 in
theorem rnodeText_any (t : Tr) (v : Value) (w : World) (h : NodeP 58 w t v) (hs : t.size ≤ 4000001) :
    Calls Try.prog 46 #[v] w fun e w' => e = .returned (.string (TS t)) ∧ Below w.heap.size w w' := by
  have hsI : (t.size : Int) ≤ 4000001 := by omega
  have hs1 : (1 : Int) ≤ t.size := by have := t.size_pos; omega
  obtain ⟨i0, hi0, hz0, hz1, hz2⟩ := info_parts el_u8.hi
  obtain ⟨pv, rfl⟩ := h.ptr
  obtain ⟨S, hS⟩ : ∃ S, TS t = S := ⟨_, rfl⟩
  rw [hS]
  have HS := Lib.hid hS; clear hS
  have hsize := rnodeSize_any t _ w h
  go_enter Try.func46, Try.ntmps46
  go_wp2_with fail
  refine hsize.mono ?_
  rintro e w1 ⟨rfl, rfl⟩
  clear hsize
  go_wp2_with (at_make; refine wpList_make_own _ rfl _ _ 125 rfl w.heap.size 5 i0 _ 1 el_u8.ht hi0 hz0 hz1 _ _ _ t.size rfl rfl rfl ?b1 ?b2 ?b3 ?_)
  case b1 => rw [hz2]; omega
  case b2 => unfold maxLen; omega
  case b3 => exact Nat.le_refl _
  intro w1 hown hg
  have hb : Below w.heap.size w w1 := (Below.refl _ _).grown hg (Nat.le_refl _) (by simp)
  have hsz1 := hb.size
  have hk1 : Kept 58 w w1 := Kept.below hb
  have hN : NodeP 58 w1 t (.pointer pv) := h.kept hk1
  clear hg hk1 h
  go_wp2
  have hst : (w1.alloc (.cells #[.pointer pv] 47)).ownsRow w.heap.size 47 1 (.slice (some ⟨w1.heap.size, 0, none⟩) 1 1) 1 [.pointer pv] := World.ownsRow_lit w1 _ 1 hsz1 (by decide) rfl
  have hown2 := hown.alloc (.cells #[.pointer pv] 47)
  have hN2 : NodeP 58 (w1.alloc (.cells #[.pointer pv] 47)) t (.pointer pv) := hN.kept ((Kept.refl _ _).alloc _)
  have hb2 : Below w.heap.size w (w1.alloc (.cells #[.pointer pv] 47)) := hb.alloc hsz1 _
  clear hown hb hN
  generalize w1.alloc (.cells #[.pointer pv] 47) = w2 at *
  go_loopg [3, 4] t.size (fun g ov sv wr => ∃ (us : List Tr) (vals : List Value) (done : List UInt8) (n m : Nat), Aside (g = szs us) ∧ n ≤ t.size ∧ m ≤ t.size ∧ Aside (t.enc = done ++ (us.map Tr.enc).flatten) ∧ Nodes 58 wr us vals ∧ Aside (m = us.length) ∧
      wr.ownsRow w.heap.size 5 1 ov n (Lib.byteCells done) ∧ wr.ownsRow w.heap.size 47 1 sv m vals.reverse ∧ Below w.heap.size w wr)
  case atStart => exact ⟨[t], [.pointer pv], [], 0, 1, (by show _ = _; simp [szs]), by omega, by omega, (by show _ = _; simp), ⟨hN2, trivial⟩, rfl, hown2, hst, hb2⟩
  case round =>
    clear hst hown2 hN2 hb2
    obtain ⟨us, vals, done, n, m, hg, hn, hm, he, hNs, hml, hown, hst, hb⟩ := hrel
    have hsz := hb.size
    have hnd : n = done.length := by have := hown.1; simpa [Lib.byteCells] using this.symm
    have hlen : done.length + szs us = t.size := by
      have h3 := congrArg List.length he.out
      rw [List.length_append, szs_flat, Tr.enc_length] at h3; omega
    cases us with
    | nil =>
      have hm0 : m = 0 := hml.out
      subst hm0
      obtain ⟨sa, sc, rfl⟩ := own_len hst
      have hed : t.enc = done := by have := he.out; simpa using this
      have hcv := own_bytes (P := Try.prog) done hown 125 Try.underlying125 Try.underlying5 9 Try.underlying9
      have HE := Lib.hid hed
      clear hed hg he hml hlen hnd hown
      go_wp2
      go_ret
      exact ⟨by rw [← HS.out]; unfold TS; rw [HE.out]; rfl, hb⟩
    | cons u us =>
      obtain ⟨v, vals, rfl, hv, hvs⟩ := hNs.uncons
      obtain ⟨m, rfl⟩ : ∃ q, m = q + 1 := ⟨us.length, hml.out⟩
      have hul := u.size_pos
      have hszs : szs (u :: us) = u.size + szs us := by simp [szs]
      have hus : us.length ≤ szs us := by
        have : ∀ l : List Tr, l.length ≤ szs l := fun l => by
          induction l with
          | nil => simp [szs]
          | cons a l ih => have := a.size_pos; simp [szs] at *; omega
        exact this us
      have hmu : m = us.length := by have := hml.out; simpa using this
      obtain ⟨sg, cap, rfl, hg1, hg2, hnc, hcm, hcell, hfz⟩ := own_cells hst (by omega)
      have hvl := hvs.length
      have c1 : wr.cell? ⟨sg, m, none⟩ = some v := by
        rw [hcell _ (by omega), List.reverse_cons, List.getElem?_append_right (by simp; omega)]; simp [hvl, hmu]
      have hpop : wr.ownsRow w.heap.size 47 1 (.slice (some ⟨sg, 0, none⟩) m cap) m vals.reverse := ownsRow_pop (last := [v]) (by simp [hvl, hmu]) (by rw [List.reverse_cons] at hst; exact hst)
      have hmI : (m : Int) ≤ (cap : Int) := by omega
      have hm2 : (m : Int) ≤ 4000001 := by omega
      have hn2 : (n : Int) ≤ 4000001 := by omega
      have HND := Lib.hid hnd; have HL := Lib.hid hlen; have HZ := Lib.hid hszs; have HU := Lib.hid hus; have HMU := Lib.hid hmu
      clear hnd hlen hszs hus hmu hcell hfz hst hvl hNs hml
      cases u with
      | nil =>
        have hv0 : v = .pointer none := hv
        subst hv0
        have hb1 : n + 1 ≤ t.size := by have := HL.out; have := HZ.out; have := HND.out; omega
        go_wp2_with (at_builtin; refine app_new el_u8 rfl _ _ rfl rfl hown [.int .u8 48] 1 rfl rfl ?c1 ?c2 ?c3 hsz hb (Nat.le_refl _) ?_)
        case c1 => intro u hu; simp at hu; rcases hu with rfl; rfl
        case c2 => omega
        case c3 => unfold maxLen; omega
        intro ov' w3 hown' hb' hgr
        have hN' := hvs.kept (Kept.grew hown hgr (by decide))
        have hst' := own_other hown hpop hgr (by decide)
        clear hown hpop hb hvs hv c1
        go_wp2
        go_roundg (szs us)
        case measure => rw [hg.out, HZ.out]; omega
        case rel =>
          refine ⟨us, vals, done ++ [48], n + 1, m, rfl, hb1, by omega, ?_, hN', HMU.out, ?_, hst', hb'⟩
          · show _ = _; rw [he.out]; simp [Tr.enc]
          · simpa [Lib.byteCells] using hown'
      | pair a b =>
        obtain ⟨ng, x, y, rfl, hng, d0, d1, d2, ha, hb9⟩ := hv.cells
        obtain ⟨ng', x', y', hvv, hblk, _, _⟩ := hv
        obtain rfl : ng = ng' := by simpa using hvv
        have hx' : x' = .pointer x := by have h3 := (block_cells hblk).1 0; rw [d0] at h3; simpa using h3.symm
        have hy' : y' = .pointer y := by have h3 := (block_cells hblk).1 1; rw [d1] at h3; simpa using h3.symm
        subst hx'; subst hy'
        have hab : (Tr.pair a b).size = 1 + a.size + b.size := rfl
        have ha1 := a.size_pos
        have hb1' := b.size_pos
        have hb1 : n + 1 ≤ t.size := by have := HL.out; have := HZ.out; have := HND.out; omega
        have hm3 : m + 2 ≤ t.size := by have := HL.out; have := HZ.out; have := HU.out; have := HMU.out; omega
        go_wp2_with (at_builtin; refine app_new el_u8 rfl _ _ rfl rfl hown [.int .u8 49] 1 rfl rfl ?c1 ?c2 ?c3 hsz hb (Nat.le_refl _) ?_)
        case c1 => intro u hu; simp at hu; rcases hu with rfl; rfl
        case c2 => omega
        case c3 => unfold maxLen; omega
        intro ov' w3 hown' hb' hgr
        have hkk : Kept 58 wr w3 := Kept.grew hown hgr (by decide)
        have hblk3 := hkk _ _ hblk
        have hvs3 := hvs.kept hkk
        have ha3 := ha.kept hkk
        have hb3 := hb9.kept hkk
        have hst' := own_other hown hpop hgr (by decide)
        have hsz3 := hb'.size
        have hab' := hab
        have HAB := Lib.hid hab
        clear hab hab' hown hpop hb hvs c1 d0 d1 d2 ha hb9 hblk hkk hgr
        have e0 := (block_cells hblk3).1 0
        have e1 := (block_cells hblk3).1 1
        have HB3 := Lib.hid hblk3; clear hblk3
        go_wp2
        go_region_held3 (fun w' => w'.cell? ⟨ng, 0, none⟩ = some (.pointer x) ∧ w'.cell? ⟨ng, 1, none⟩ = some (.pointer y))
          (first | exact keepS HB3.out (Kept.drew (Kept.refl _ _)) | exact keepS HB3.out (Kept.drew ((Kept.refl _ _).alloc _)) | exact keepS HB3.out (Kept.of_drew (Kept.grew hst'.drew hgr4 (by decide))))
          ((refine step_new el_rnode (by rfl) _ _ (by rfl) (by rfl) (hst'.drew) [.pointer y, .pointer x] 2 (by rfl) (by rfl) (by decide) (by intro u hu; simp at hu; rcases hu with rfl | rfl <;> rfl) (by omega) (by unfold maxLen; omega) hsz3 hb'.drew (Nat.le_refl _) ?_; intro g4 cap4 w4 hst4 hb4 hgr4))
        all_goals
          have hkk4 : Kept 58 w3 w4 := Kept.of_drew (Kept.grew hst'.drew hgr4 (by decide))
          have hN4 := hvs3.kept hkk4
          have ha4 := ha3.kept hkk4
          have hb44 := hb3.kept hkk4
          have hown4 := own_other hst'.drew hown'.drew hgr4 (by decide)
          clear hvs3 ha3 hb3 hown' hst' e0 e1
          go_wp2
          go_roundg (szs (a :: b :: us))
          case measure => rw [hg.out, HZ.out, HAB.out]; simp [szs]; omega
          case rel =>
            refine ⟨a :: b :: us, .pointer x :: .pointer y :: vals, done ++ [49], n + 1, m + 2, rfl, hb1, hm3, ?_, ⟨ha4, hb44, hN4⟩, ?_, ?_, ?_, hb4⟩
            · show _ = _; rw [he.out]; simp [Tr.enc]
            · show _ = _; rw [HMU.out]; simp
            · simpa [Lib.byteCells] using hown4
            · simpa using hst4

theorem rnodeCons_ok (a b : Tr) (x y : Value) (w : World) (ha : NodeP 58 w a x) (hb : NodeP 58 w b y) (h1 : a.size ≤ 4000001) (h2 : b.size ≤ 4000001) :
    Calls Try.prog 93 #[x, y] w fun e w' => ∃ p, e = .returned (.pointer (some p)) ∧ NodeP 58 w' (.pair a b) (.pointer (some p)) ∧ Below w.heap.size w w' := by
  have s1 := rnodeSize_any a x w ha
  have s2 := rnodeSize_any b y w hb
  have hn := NodeP.new ha hb
  obtain ⟨x, rfl⟩ := ha.ptr
  obtain ⟨y, rfl⟩ := hb.ptr
  obtain ⟨sz, hsz⟩ : ∃ q, (Tr.pair a b).size = q := ⟨_, rfl⟩
  rw [hsz] at hn
  have ht : ((1 + a.size + b.size : Nat) : Int) = sz := by rw [← hsz]; rfl
  have e1 : (1 : Int) + a.size + b.size = sz := by omega
  have a1 : (a.size : Int) ≤ 4000001 := by omega
  have a2 : (b.size : Int) ≤ 4000001 := by omega
  clear hsz ht h1 h2
  go_enter Try.func93, Try.ntmps93
  go_wp2_with fail
  refine s1.mono ?_
  rintro e w1 ⟨rfl, rfl⟩
  go_wp2_with fail
  refine s2.mono ?_
  rintro e w1 ⟨rfl, rfl⟩
  clear s1 s2
  go_wp2
  go_ret
  exact ⟨_, rfl, hn, (Below.refl _ _).alloc (Nat.le_refl _) _⟩

set_option maxHeartbeats 4000000 in
theorem read_ok (t : Tr) (hs : t.size ≤ 2000000) (w : World) :
    Calls Try.prog 33 #[.string (TS t)] w fun e w' => ∃ p, e = .returned (.pointer p) ∧ NodeP 58 w' t (.pointer p) ∧ Below w.heap.size w w' := by
  have hz : (TS t).size = t.size := TS_size t
  have h1 : (1 : Int) ≤ t.size := by have := t.size_pos; omega
  have h2 : (t.size : Int) ≤ 2000000 := by omega
  have hf : pf (t.enc.drop t.size) = some [] := by rw [List.drop_eq_nil_of_le (by rw [Tr.enc_length]; exact Nat.le_refl _)]; rfl
  have HF := Lib.hid hf; clear hf hs
  go_enter Try.func33, Try.ntmps33
  go_wp2
  go_loopg [3, 4] t.size (fun g v i wr => ∃ (j n : Nat) (ts : List Tr) (vals : List Value), j ≤ t.size ∧ g = j ∧ i = .int .i64 ((j : Int) - 1) ∧ Aside (pf (t.enc.drop j) = some ts) ∧ Aside (n = ts.length) ∧ Nodes 58 wr ts vals ∧
    wr.ownsRow w.heap.size 47 1 v n vals.reverse ∧ Below w.heap.size w wr)
  case atStart => exact ⟨t.size, 0, [], [], Nat.le_refl _, rfl, rfl, HF.out, rfl, trivial, World.ownsRow_nil _ _ _ _, Below.refl _ _⟩
  case round =>
    obtain ⟨j, n, ts, vals, hj, hg, hi, hp, hnl, hNs, hown, hb⟩ := hrel
    have HG := Lib.hid hg; clear hg
    have hsz := hb.size
    have hlen := pf_length _ _ hp.out
    rw [List.length_drop, Tr.enc_length] at hlen
    have hnn : n ≤ t.size - j := by rw [hnl.out]; exact hlen
    clear hlen
    obtain ⟨sa, sc, rfl⟩ := own_len hown
    cases j with
    | succ q =>
      rw [show (((q + 1 : Nat) : Int) - 1) = (q : Int) from by omega] at hi
      subst hi
      have hq : q < (TS t).size := by omega
      have hnI : (n : Int) ≤ 2000000 := by omega
      obtain ⟨us, ts', hu, ht, hcase⟩ := pf_at t q hq
      obtain rfl : us = ts := by have := hp.out; rw [hu] at this; simpa using this
      clear hp hu
      have HT : Aside (pf (t.enc.drop q) = some ts') := ht
      clear ht
      rcases hcase with ⟨h8, rfl⟩ | ⟨h9, a, b, r, rfl, rfl⟩
      · go_wp2_with (at_builtin; refine app_new el_rnode rfl _ _ rfl rfl hown [.pointer none] 1 rfl rfl ?c1 ?c2 ?c3 hsz hb (Nat.le_refl _) ?_)
        case c1 => intro u hu; simp at hu; rcases hu with rfl; rfl
        case c2 => omega
        case c3 => unfold maxLen; omega
        intro v' w' hown' hb' hgr
        have hN' := hNs.kept (Kept.grew hown hgr (by decide))
        clear hown hb hNs
        go_wp2
        go_roundg q
        case measure => rw [HG.out]; omega
        case rel => exact ⟨q, n + 1, .nil :: us, .pointer none :: vals, by omega, rfl, rfl, HT, (by show _ = _; rw [hnl.out]; rfl), ⟨rfl, hN'⟩, by simpa using hown', hb'⟩
      · have b8 : (((TS t)[q].toNat : Int) == 48) = false := beq_eq_false_iff_ne.2 (by omega)
        have hn2 : n = r.length + 2 := by have := hnl.out; simpa using this
        obtain ⟨m, hm⟩ : ∃ m, r.length = m := ⟨_, rfl⟩
        rw [hm] at hn2
        subst hn2
        obtain ⟨va, vals, rfl, ha, hNq⟩ := hNs.uncons
        obtain ⟨vb, vals, rfl, hbb, hNr⟩ := hNq.uncons
        clear hNs hNq
        have hvl := hNr.length
        obtain ⟨sg, cap, hsv, hg1, hg2, hnc, hcm, hcell, hfz⟩ := own_cells hown (by omega)
        simp only [Value.slice.injEq] at hsv
        obtain ⟨rfl, -, rfl⟩ := hsv
        have c1 : wr.cell? ⟨sg, m + 1, none⟩ = some va := by
          rw [hcell _ (by omega), List.reverse_cons, List.getElem?_append_right (by simp; omega)]; simp [hvl, hm]
        have c2 : wr.cell? ⟨sg, m, none⟩ = some vb := by
          rw [hcell _ (by omega), List.reverse_cons, List.reverse_cons, List.append_assoc, List.getElem?_append_right (by simp; omega)]; simp [hvl, hm]
        have hpop : wr.ownsRow w.heap.size 47 1 (.slice (some ⟨sg, 0, none⟩) m sc) m vals.reverse :=
          ownsRow_pop (last := [vb]) (by simp [hvl, hm]) (ownsRow_pop (last := [va]) (by simp [hvl, hm]) (by rw [List.reverse_cons, List.reverse_cons] at hown; exact hown))
        have hzab : (Tr.pair a b).size ≤ t.size := by
          have h3 := congrArg List.length (pf_flat _ _ HT.out)
          simp [Tr.enc_length] at h3; omega
        have hzz : (Tr.pair a b).size = 1 + a.size + b.size := rfl
        obtain ⟨va, rfl⟩ := ha.ptr
        obtain ⟨vb, rfl⟩ := hbb.ptr
        have e1 : ((m : Int) + 2 - 1).toNat = m + 1 := by omega
        have e3 : ((m : Int) + 1).toNat = m + 1 := by omega
        have o1 : (0 : Int) ≤ (m : Int) + 1 := by omega
        have o2 : (m : Int) + 1 < (m : Int) + 2 := by omega
        have o3 : (m : Int) < (m : Int) + 2 := by omega
        have o8 : (m : Int) ≤ (sc : Int) := by omega
        have hc0 := rnodeCons_ok a b _ _ wr.drew (ha.kept (Kept.drew (Kept.refl _ _))) (hbb.kept (Kept.drew (Kept.refl _ _))) (by omega) (by omega)
        have HC := Lib.hid hc0
        have HV := Lib.hid hvl; have HR := Lib.hid hm
        clear hc0 hzab hzz hcell hfz hown hvl hm ha hbb
        go_wp2
        have W1 : IntKind.i64.wrap (m : Int) = m := IntWalk.i64_in _ (by omega)
        have W2 : IntKind.i64.wrap ((m : Int) + 2 - 1) = (m : Int) + 1 := by rw [IntWalk.i64_in _ (by omega)]; omega
        go_region_held3 (fun w' => w'.cell? ⟨sg, m + 1, none⟩ = some (.pointer va) ∧ w'.cell? ⟨sg, m, none⟩ = some (.pointer vb))
          (first | exact ⟨c1, c2⟩ | exact ⟨(k5.cell (p := ⟨sg, m + 1, none⟩) hg2).trans c1, (k5.cell (p := ⟨sg, m, none⟩) hg2).trans c2⟩)
          ((go_at_call 93; refine HC.out.mono ?_; rintro e w5 ⟨p5, rfl, hp5, k5⟩))
        all_goals
          have k6 : Below wr.heap.size wr w5 := below_of_drew k5
          have hb5 : Below w.heap.size w w5 := hb.trans (k6.mono hsz)
          have hN5 := hNr.kept (Kept.below k6)
          have hpop5 := own_below hpop k6
          have hs5 := hb5.size
          clear hNr hpop c1 c2 k5 k6 hb HC W1 W2
          go_wp2_with (at_builtin; refine app_new el_rnode rfl _ _ rfl rfl hpop5 [.pointer (some p5)] 1 rfl rfl ?c1 ?c2 ?c3 hs5 hb5 (Nat.le_refl _) ?_)
          case c1 => intro u hu; simp at hu; rcases hu with rfl; rfl
          case c2 => omega
          case c3 => unfold maxLen; omega
          intro v' w' hown' hb' hgr
          have hkk := Kept.grew (T := 58) hpop5 hgr (by decide)
          have hN' := hN5.kept hkk
          have hp' := hp5.kept hkk
          clear hpop5 hb5 hN5 hp5 hkk
          go_wp2
          go_roundg q
          case measure => rw [HG.out]; omega
          case rel => exact ⟨q, m + 1, .pair a b :: r, .pointer (some p5) :: vals, by omega, rfl, rfl, HT, (by show _ = _; rw [List.length_cons, HR.out]), ⟨hp', hN'⟩, by simpa using hown', hb'⟩
    | zero =>
      rw [show (((0 : Nat) : Int) - 1) = -1 from rfl] at hi
      subst hi
      have hp' := hp.out
      rw [List.drop_zero, pf_one] at hp'
      obtain rfl : [t] = ts := by simpa using hp'
      have hn1 : n = 1 := hnl.out
      subst hn1
      obtain ⟨v, us, rfl, hv, hus⟩ := hNs.uncons
      obtain rfl := hus.nil_iff
      obtain ⟨sg, cap, hsv, hg1, hg2, hnc, hcm, hcell, hfz⟩ := own_cells hown (by omega)
      simp only [Value.slice.injEq] at hsv
      obtain ⟨rfl, -, rfl⟩ := hsv
      obtain ⟨pv, rfl⟩ := hv.ptr
      have c1 : wr.cell? ⟨sg, 0, none⟩ = some (.pointer pv) := by rw [hcell _ (by omega)]; rfl
      clear hcell hfz hown hp' hp
      go_wp2
      go_ret
      exact ⟨pv, rfl, hv, hb⟩

end Go.Proofs.Ytlaeljkjdfffjaa

namespace Go.Proofs.Ytlaeljkjdfffjaa
open Go.RowKit

/-- A list of trees as a tree. -/
def Tr.ofList : List Tr → Tr | [] => .nil | t :: ts => .pair t (Tr.ofList ts)
def Tr.items : Tr → List Tr | .nil => [] | .pair a b => a :: b.items
theorem Tr.ofList_items (t : Tr) : Tr.ofList t.items = t := by induction t with | nil => rfl | pair a b _ ih => simp [items, ofList, ih]
theorem Tr.items_ofList (l : List Tr) : (Tr.ofList l).items = l := by induction l with | nil => rfl | cons a l ih => simp [items, ofList, ih]
def lsum (l : List Tr) : Nat := (l.map fun t => t.size + 1).sum
theorem size_ofList (l : List Tr) : (Tr.ofList l).size = 1 + lsum l := by induction l with | nil => rfl | cons a l ih => simp [Tr.ofList, Tr.size, ih, lsum]; omega
theorem lsum_append (a b : List Tr) : lsum (a ++ b) = lsum a + lsum b := by simp [lsum]
def lenc (l : List Tr) : List UInt8 := (l.map fun t => 49 :: t.enc).flatten
theorem enc_ofList (l : List Tr) : (Tr.ofList l).enc = lenc l ++ [48] := by induction l with | nil => rfl | cons a l ih => simp [Tr.ofList, Tr.enc, ih, lenc]
theorem lenc_length (l : List Tr) : (lenc l).length = lsum l := by
  have h1 := congrArg List.length (enc_ofList l)
  have h2 := size_ofList l
  rw [Tr.enc_length] at h1; simp at h1; omega
theorem lenc_append (a b : List Tr) : lenc (a ++ b) = lenc a ++ lenc b := by simp [lenc]
theorem items_size_le (t : Tr) : ∀ u ∈ t.items, u.size ≤ t.size := by
  induction t with
  | nil => intro u h; simp [Tr.items] at h
  | pair a b _ ih =>
    intro u h
    simp only [Tr.items, List.mem_cons] at h
    rcases h with rfl | h
    · simp only [Tr.size]; omega
    · have := ih u h; simp only [Tr.size]; omega
theorem items_length_le (t : Tr) : t.items.length ≤ t.size := by
  induction t with
  | nil => simp [Tr.items]
  | pair a b _ ih => simp only [Tr.items, List.length_cons, Tr.size]; omega

/-- A slice of strings in memory, below a block. -/
def StrRow (w : World) (B : Nat) (v : Value) (l : List ByteArray) : Prop :=
  (∀ s ∈ l, s.size ≤ 281474976710656) ∧ l.length ≤ 281474976710656 ∧
  ((l = [] ∧ (v = .slice none 0 0 ∨ ∃ a c, v = .slice (some a) 0 c)) ∨ ∃ g off cap, v = .slice (some ⟨g, off, none⟩) l.length cap ∧ g < B ∧ ∀ j s, l[j]? = some s → w.cell? ⟨g, off + j, none⟩ = some (.string s))
theorem StrRow.below {w w' : World} {B : Nat} {v : Value} {l : List ByteArray} (h : StrRow w B v l) (hb : Below B w w') : StrRow w' B v l := by
  obtain ⟨h1, h2, h3⟩ := h
  refine ⟨h1, h2, ?_⟩
  rcases h3 with h3 | ⟨g, off, cap, hv, hg, hc⟩
  · exact .inl h3
  · exact .inr ⟨g, off, cap, hv, hg, fun j s hj => (hb.cell (p := ⟨g, off + j, none⟩) hg).trans (hc j s hj)⟩
theorem StrRow.mono {w : World} {B B' : Nat} {v : Value} {l : List ByteArray} (h : StrRow w B v l) (hb : B ≤ B') : StrRow w B' v l := by
  obtain ⟨h1, h2, h3⟩ := h
  refine ⟨h1, h2, ?_⟩
  rcases h3 with h3 | ⟨g, off, cap, hv, hg, hc⟩
  · exact .inl h3
  · exact .inr ⟨g, off, cap, hv, by omega, hc⟩
theorem StrRow.of_own {w : World} {base e : Nat} {v : Value} {n : Nat} {l : List ByteArray} (h : w.ownsRow base e 1 v n (l.map Value.string)) (hl : ∀ s ∈ l, s.size ≤ 281474976710656) (hn : l.length ≤ 281474976710656) : StrRow w w.heap.size v l := by
  have hn' : l.length = n := by have := h.1; simpa using this
  refine ⟨hl, hn, ?_⟩
  rcases h.2 with ⟨rfl, h0⟩ | ⟨g, cap, cur, rfl, hb, hg, hnc, hcm, hcs, htake⟩
  · exact .inl ⟨List.length_eq_zero_iff.1 (by omega), .inl rfl⟩
  · refine .inr ⟨g, 0, cap, by rw [hn'], (Array.getElem?_eq_some_iff.1 hg).1, fun j s hj => ?_⟩
    have hlt : j < n := by rw [← hn']; exact (List.getElem?_eq_some_iff.1 hj).1
    rw [Nat.zero_add, World.ownsRow.cellAt h j (by omega)]
    simp [hj]

theorem StrRow.len {w : World} {B : Nat} {v : Value} {l : List ByteArray} (h : StrRow w B v l) : ∃ ao cap, v = .slice ao l.length cap := by
  rcases h.2.2 with ⟨rfl, rfl | ⟨a, c, rfl⟩⟩ | ⟨g, off, cap, rfl, _⟩
  · exact ⟨_, _, rfl⟩
  · exact ⟨_, _, rfl⟩
  · exact ⟨_, cap, rfl⟩
theorem StrRow.get {w : World} {B : Nat} {ao : Option Addr} {n cap : Nat} {l : List ByteArray} (h : StrRow w B (.slice ao n cap) l) {k : Nat} {s : ByteArray} (hk : l[k]? = some s) :
    ∃ g off, ao = some ⟨g, off, none⟩ ∧ g < B ∧ w.cell? ⟨g, off + k, none⟩ = some (.string s) := by
  rcases h.2.2 with ⟨rfl, _⟩ | ⟨g, off, cap', hv, hg, hc⟩
  · simp at hk
  · simp only [Value.slice.injEq] at hv
    exact ⟨g, off, hv.1, hg, hc k s hk⟩
theorem StrRow.size {w : World} {B : Nat} {v : Value} {l : List ByteArray} (h : StrRow w B v l) {k : Nat} {s : ByteArray} (hk : l[k]? = some s) : s.size ≤ 281474976710656 := h.1 s (List.mem_of_getElem? hk)

theorem StrRow.src {w : World} {B : Nat} {v : Value} {l : List ByteArray} (h : StrRow w B v l) : Src w v l.length 1 (l.map Value.string) := by
  refine ⟨by simp, ?_⟩
  rcases h.2.2 with ⟨rfl, rfl | ⟨a, c, rfl⟩⟩ | ⟨g, off, cap, rfl, hg, hc⟩
  · exact .inl ⟨rfl, rfl⟩
  · exact .inr ⟨a, c, rfl, fun j u hj => by simp at hj⟩
  · refine .inr ⟨_, _, rfl, fun j u hj => ?_⟩
    rw [List.getElem?_map] at hj
    obtain ⟨s, hs, rfl⟩ := Option.map_eq_some_iff.1 hj
    rw [Addr.add_lit]
    exact hc j s hs

/-- What tree.List counts. -/
def lcount (l : List ByteArray) : Nat := 1 + (l.map fun s => min s.size 2000000 + 1).sum
theorem lcount_snoc (l : List ByteArray) (s : ByteArray) : lcount (l ++ [s]) = lcount l + (min s.size 2000000 + 1) := by simp [lcount]; omega
theorem lcount_le (l : List ByteArray) : lcount l ≤ 1 + l.length * 2000001 := by
  induction l with
  | nil => simp [lcount]
  | cons a l ih => simp only [lcount, List.map_cons, List.sum_cons, List.length_cons] at *; omega
def allTree (l : List ByteArray) : Bool := l.all isTree
theorem allTree_get {l : List ByteArray} (h : allTree l = true) : ∃ ts : List Tr, l = ts.map TS ∧ ∀ t ∈ ts, t.size ≤ 2000000 := by
  induction l with
  | nil => exact ⟨[], rfl, by simp⟩
  | cons s l ih =>
    simp only [allTree, List.all_cons, Bool.and_eq_true] at h
    obtain ⟨t, rfl, ht⟩ := isTree_get h.1
    obtain ⟨ts, rfl, hts⟩ := ih h.2
    exact ⟨t :: ts, rfl, by intro u hu; rcases List.mem_cons.1 hu with rfl | hu; exact ht; exact hts u hu⟩
theorem lcount_TS (ts : List Tr) (h : ∀ t ∈ ts, t.size ≤ 2000000) : lcount (ts.map TS) = (Tr.ofList ts).size := by
  rw [size_ofList]
  induction ts with
  | nil => rfl
  | cons t ts ih =>
    have h1 := ih (fun u hu => h u (List.mem_cons_of_mem _ hu))
    have h2 := h t (List.mem_cons_self ..)
    have h3 := TS_size t
    simp only [lcount, List.map_cons, List.sum_cons, lsum] at *
    omega
/-- The error of tree.List, and its string. -/
def listE (l : List ByteArray) : Int := if allTree l then (if lcount l ≤ 2000000 then 0 else 3) else 1
def listS (l : List ByteArray) : ByteArray := if allTree l && decide (lcount l ≤ 2000000) then ⟨(((l.map fun s : ByteArray => (49 : UInt8) :: s.data.toList).flatten) ++ [48]).toArray⟩ else ⟨#[]⟩
theorem listS_TS (ts : List Tr) (h : ∀ t ∈ ts, t.size ≤ 2000000) (hs : (Tr.ofList ts).size ≤ 2000000) : listS (ts.map TS) = TS (Tr.ofList ts) ∧ listE (ts.map TS) = 0 := by
  have h1 : allTree (ts.map TS) = true := by simp [allTree]; exact fun t ht => isTree_TS t (h t ht)
  have h2 := lcount_TS ts h
  refine ⟨?_, by unfold listE; rw [h1, h2, if_pos rfl, if_pos hs]⟩
  unfold listS; rw [h1, h2, decide_eq_true hs]
  apply ba_ext
  rw [TS_list, enc_ofList]
  simp [lenc, Function.comp_def, TS_list]

end Go.Proofs.Ytlaeljkjdfffjaa

namespace Go.Proofs.Ytlaeljkjdfffjaa
open Go.RowKit

structure Ins where
  op : Int
  a : Int
  b : Int
  c : Int
  tree : ByteArray
  deriving DecidableEq
def Ins.cells (x : Ins) : List Value := [.int .i64 x.op, .int .i64 x.a, .int .i64 x.b, .int .i64 x.c, .string x.tree]
def i64 (n : Int) : Prop := -9223372036854775808 ≤ n ∧ n ≤ 9223372036854775807
def Ins.wf (x : Ins) : Prop := i64 x.op ∧ i64 x.a ∧ i64 x.b ∧ i64 x.c ∧ x.tree.size ≤ 140737488355328

def regB (n : Int) : Bool := decide (0 ≤ n) && decide (n < 32)
/-- Whether an instruction is valid at a place of a program of some length. -/
def rightB (x : Ins) (i n : Int) : Bool :=
  regB x.a && (x.op == 0 || x.tree.toList.isEmpty) && (x.op == 2 || x.c == 0) &&
  (if x.op = 0 then x.b == 0 && isTree x.tree else if x.op = 1 ∨ x.op = 3 ∨ x.op = 4 then regB x.b else if x.op = 2 then regB x.b && regB x.c else if x.op = 5 then decide (-i ≤ x.b) && decide (x.b ≤ n - i) else false)
def trees (l : List Ins) : Nat := (l.map fun x => x.tree.size).sum
def rightAll (l : List Ins) : Bool := (List.range l.length).all fun i => match l[i]? with | some x => rightB x i l.length | none => true
/-- Valid programs. -/
def validB (l : List Ins) : Bool := decide (l.length ≤ 4000) && decide (trees l ≤ 2000000) && rightAll l

theorem trees_snoc (l : List Ins) (x : Ins) : trees (l ++ [x]) = trees l + x.tree.size := by simp [trees]
theorem trees_take (l : List Ins) (k : Nat) : trees (l.take k) ≤ trees l := by
  have h : trees l = trees (l.take k) + trees (l.drop k) := by
    conv => lhs; rw [← List.take_append_drop k l]
    simp only [trees, List.map_append, List.sum_append]
  omega
theorem trees_le (l : List Ins) (h : ∀ x ∈ l, x.tree.size ≤ 140737488355328) : trees l ≤ l.length * 140737488355328 := by
  induction l with
  | nil => simp [trees]
  | cons x l ih =>
    have h1 := ih (fun y hy => h y (List.mem_cons_of_mem _ hy))
    have h2 := h x (List.mem_cons_self ..)
    simp only [trees, List.map_cons, List.sum_cons, List.length_cons] at *; omega
theorem rightAll_get {l : List Ins} (h : rightAll l = true) {i : Nat} {x : Ins} (hx : l[i]? = some x) : rightB x i l.length = true := by
  have hi : i < l.length := (List.getElem?_eq_some_iff.1 hx).1
  have := List.all_eq_true.1 h i (List.mem_range.2 hi)
  simpa [hx] using this
theorem rightAll_false {l : List Ins} {i : Nat} {x : Ins} (hx : l[i]? = some x) (hb : rightB x i l.length = false) : rightAll l = false := by
  rw [Bool.eq_false_iff]; intro h
  rw [rightAll_get h hx] at hb; cases hb

/-- A slice of instructions in memory, below a block. -/
def InsRow (w : World) (B : Nat) (v : Value) (l : List Ins) : Prop :=
  (∀ x ∈ l, x.wf) ∧ l.length ≤ 2932031007402 ∧
  ((l = [] ∧ (v = .slice none 0 0 ∨ ∃ a c, v = .slice (some a) 0 c)) ∨ ∃ g off cap, v = .slice (some ⟨g, off, none⟩) l.length cap ∧ g < B ∧ ∀ j x, l[j]? = some x → ∀ k u, x.cells[k]? = some u → w.cell? ⟨g, off + (5 * j + k), none⟩ = some u)
theorem InsRow.below {w w' : World} {B : Nat} {v : Value} {l : List Ins} (h : InsRow w B v l) (hb : Below B w w') : InsRow w' B v l := by
  obtain ⟨h1, h2, h3⟩ := h
  refine ⟨h1, h2, ?_⟩
  rcases h3 with h3 | ⟨g, off, cap, hv, hg, hc⟩
  · exact .inl h3
  · exact .inr ⟨g, off, cap, hv, hg, fun j x hj k u hk => (hb.cell (p := ⟨g, off + (5 * j + k), none⟩) hg).trans (hc j x hj k u hk)⟩
theorem InsRow.mono {w : World} {B B' : Nat} {v : Value} {l : List Ins} (h : InsRow w B v l) (hb : B ≤ B') : InsRow w B' v l := by
  obtain ⟨h1, h2, h3⟩ := h
  refine ⟨h1, h2, ?_⟩
  rcases h3 with h3 | ⟨g, off, cap, hv, hg, hc⟩
  · exact .inl h3
  · exact .inr ⟨g, off, cap, hv, by omega, hc⟩
theorem InsRow.len {w : World} {B : Nat} {v : Value} {l : List Ins} (h : InsRow w B v l) : ∃ ao cap, v = .slice ao l.length cap := by
  rcases h.2.2 with ⟨rfl, rfl | ⟨a, c, rfl⟩⟩ | ⟨g, off, cap, rfl, _⟩
  · exact ⟨_, _, rfl⟩
  · exact ⟨_, _, rfl⟩
  · exact ⟨_, cap, rfl⟩
theorem InsRow.wf {w : World} {B : Nat} {v : Value} {l : List Ins} (h : InsRow w B v l) {k : Nat} {x : Ins} (hk : l[k]? = some x) : x.wf := h.1 x (List.mem_of_getElem? hk)
/-- The five cells of an element. -/
theorem InsRow.get {w : World} {B : Nat} {ao : Option Addr} {n cap : Nat} {l : List Ins} (h : InsRow w B (.slice ao n cap) l) {k : Nat} {x : Ins} (hk : l[k]? = some x) :
    ∃ g off, ao = some ⟨g, off, none⟩ ∧ g < B ∧ w.cell? ⟨g, off + k * 5, none⟩ = some (.int .i64 x.op) ∧ w.cell? ⟨g, off + k * 5 + 1, none⟩ = some (.int .i64 x.a) ∧ w.cell? ⟨g, off + k * 5 + 2, none⟩ = some (.int .i64 x.b) ∧
      w.cell? ⟨g, off + k * 5 + 3, none⟩ = some (.int .i64 x.c) ∧ w.cell? ⟨g, off + k * 5 + 4, none⟩ = some (.string x.tree) := by
  rcases h.2.2 with ⟨rfl, _⟩ | ⟨g, off, cap', hv, hg, hc⟩
  · simp at hk
  · simp only [Value.slice.injEq] at hv
    have h := fun j u hu => hc k x hk j u hu
    simp only [← Nat.add_assoc, Nat.mul_comm 5 k] at h
    exact ⟨g, off, hv.1, hg, h 0 _ rfl, h 1 _ rfl, h 2 _ rfl, h 3 _ rfl, h 4 _ rfl⟩
def inscells (l : List Ins) : List Value := (l.map Ins.cells).flatten
theorem inscells_length (l : List Ins) : (inscells l).length = l.length * 5 := by
  induction l with
  | nil => rfl
  | cons x l ih => simp only [inscells, List.map_cons, List.flatten_cons, List.length_append, List.length_cons] at *; rw [ih]; simp [Ins.cells]; omega
theorem inscells_get (l : List Ins) : ∀ (j : Nat) (x : Ins), l[j]? = some x → ∀ (k : Nat) (u : Value), x.cells[k]? = some u → (inscells l)[5 * j + k]? = some u := by
  induction l with
  | nil => intro j x h; simp at h
  | cons y l ih =>
    intro j x h k u hk
    have hk5 : k < 5 := by have := (List.getElem?_eq_some_iff.1 hk).1; simpa [Ins.cells] using this
    cases j with
    | zero =>
      simp at h; subst h
      show (y.cells ++ inscells l)[5 * 0 + k]? = some u
      rw [List.getElem?_append_left (by simp [Ins.cells]; omega)]; simpa using hk
    | succ j =>
      show (y.cells ++ inscells l)[5 * (j + 1) + k]? = some u
      rw [List.getElem?_append_right (by simp [Ins.cells]; omega)]
      have := ih j x (by simpa using h) k u hk
      rw [← this]; congr 1; simp [Ins.cells]; omega
theorem inscells_of (l : List Ins) : ∀ (i : Nat) (u : Value), (inscells l)[i]? = some u → ∃ x, l[i / 5]? = some x ∧ x.cells[i % 5]? = some u := by
  intro i u h
  have hi : i < l.length * 5 := by rw [← inscells_length]; exact (List.getElem?_eq_some_iff.1 h).1
  obtain ⟨x, hx⟩ : ∃ x, l[i / 5]? = some x := ⟨_, List.getElem?_eq_getElem (by omega)⟩
  have h5 : i % 5 < x.cells.length := by simp [Ins.cells]; omega
  refine ⟨x, hx, ?_⟩
  have h2 := inscells_get l _ x hx (i % 5) _ (List.getElem?_eq_getElem h5)
  rw [show 5 * (i / 5) + i % 5 = i by omega, h] at h2
  rw [List.getElem?_eq_getElem h5, ← h2]
theorem InsRow.src {w : World} {B : Nat} {v : Value} {l : List Ins} (h : InsRow w B v l) : Src w v l.length 5 (inscells l) := by
  refine ⟨inscells_length l, ?_⟩
  rcases h.2.2 with ⟨rfl, rfl | ⟨a, c, rfl⟩⟩ | ⟨g, off, cap, rfl, hg, hc⟩
  · exact .inl ⟨rfl, rfl⟩
  · exact .inr ⟨a, c, rfl, fun j u hj => by simp [inscells] at hj⟩
  · refine .inr ⟨_, _, rfl, fun j u hj => ?_⟩
    obtain ⟨x, hx, hu⟩ := inscells_of l j u hj
    rw [Addr.add_lit]
    have := hc _ x hx _ u hu
    rwa [show 5 * (j / 5) + j % 5 = j by omega] at this
theorem InsRow.of_own {w : World} {base e : Nat} {v : Value} {n : Nat} {l : List Ins} (h : w.ownsRow base e 5 v n (inscells l)) (hl : ∀ x ∈ l, x.wf) (hn : l.length ≤ 2932031007402) : InsRow w w.heap.size v l := by
  have hn' : l.length = n := by have := h.1; rw [inscells_length] at this; omega
  refine ⟨hl, hn, ?_⟩
  rcases h.2 with ⟨rfl, h0⟩ | ⟨g, cap, cur, rfl, hb, hg, hnc, hcm, hcs, htake⟩
  · exact .inl ⟨List.length_eq_zero_iff.1 (by omega), .inl rfl⟩
  · refine .inr ⟨g, 0, cap, by rw [hn'], (Array.getElem?_eq_some_iff.1 hg).1, fun j x hj k u hk => ?_⟩
    have h1 := inscells_get l j x hj k u hk
    have hlt : 5 * j + k < n * 5 := by rw [← hn', ← inscells_length]; exact (List.getElem?_eq_some_iff.1 h1).1
    rw [Nat.zero_add, World.ownsRow.cellAt h (5 * j + k) hlt, h1]
theorem inscells_one (l : List Ins) : ∀ u ∈ inscells l, u.oneCell' = true := by
  intro u hu
  obtain ⟨c, hc, hu⟩ := List.mem_flatten.1 hu
  obtain ⟨x, _, rfl⟩ := List.mem_map.1 hc
  simp only [Ins.cells, List.mem_cons, List.not_mem_nil, or_false] at hu
  rcases hu with rfl | rfl | rfl | rfl | rfl <;> rfl

end Go.Proofs.Ytlaeljkjdfffjaa

namespace Go.Proofs.Ytlaeljkjdfffjaa
open Go.RowKit

theorem nodeSize_any (t : Tr) (v : Value) (w : World) (h : NodeP 188 w t v) :
    Calls Try.prog 154 #[v] w fun e w' => e = .returned (.int .i64 t.size) ∧ w = w' := by
  cases t with
  | nil =>
    have hv : v = .pointer none := h
    subst hv
    go_enter Try.func154, Try.ntmps154
    go_wp2
    go_ret
    exact ⟨rfl, rfl⟩
  | pair a b =>
    obtain ⟨g, x, y, rfl, hg, c0, c1, c2, ha, hb⟩ := h.cells
    go_enter Try.func154, Try.ntmps154
    go_wp2
    go_ret
    exact ⟨rfl, rfl⟩
theorem nodeHead_any (t : Tr) (v : Value) (w : World) (h : NodeP 188 w t v) :
    Calls Try.prog 163 #[v] w fun e w' => ∃ x, e = .returned (.pointer x) ∧ NodeP 188 w t.hd (.pointer x) ∧ w = w' := by
  cases t with
  | nil =>
    have hv : v = .pointer none := h
    subst hv
    go_enter Try.func163, Try.ntmps163
    go_wp2
    go_ret
    exact ⟨none, rfl, rfl, rfl⟩
  | pair a b =>
    obtain ⟨g, x, y, rfl, hg, c0, c1, c2, ha, hb⟩ := h.cells
    go_enter Try.func163, Try.ntmps163
    go_wp2
    go_ret
    exact ⟨x, rfl, ha, rfl⟩
theorem nodeTail_any (t : Tr) (v : Value) (w : World) (h : NodeP 188 w t v) :
    Calls Try.prog 164 #[v] w fun e w' => ∃ x, e = .returned (.pointer x) ∧ NodeP 188 w t.tl (.pointer x) ∧ w = w' := by
  cases t with
  | nil =>
    have hv : v = .pointer none := h
    subst hv
    go_enter Try.func164, Try.ntmps164
    go_wp2
    go_ret
    exact ⟨none, rfl, rfl, rfl⟩
  | pair a b =>
    obtain ⟨g, x, y, rfl, hg, c0, c1, c2, ha, hb⟩ := h.cells
    go_enter Try.func164, Try.ntmps164
    go_wp2
    go_ret
    exact ⟨y, rfl, hb, rfl⟩

set_option maxHeartbeats 2000000 in
theorem nodeText_any (t : Tr) (v : Value) (w : World) (h : NodeP 188 w t v) (hs : t.size ≤ 2000000) :
    Calls Try.prog 130 #[v] w fun e w' => e = .returned (.string (TS t)) ∧ Below w.heap.size w w' := by
  have hsI : (t.size : Int) ≤ 2000000 := by omega
  have hs1 : (1 : Int) ≤ t.size := by have := t.size_pos; omega
  obtain ⟨i0, hi0, hz0, hz1, hz2⟩ := info_parts el_u8.hi
  obtain ⟨pv, rfl⟩ := h.ptr
  obtain ⟨S, hS⟩ : ∃ S, TS t = S := ⟨_, rfl⟩
  rw [hS]
  have HS := Lib.hid hS; clear hS
  have hsize := nodeSize_any t _ w h
  go_enter Try.func130, Try.ntmps130
  go_wp2_with fail
  refine hsize.mono ?_
  rintro e w1 ⟨rfl, rfl⟩
  clear hsize
  go_wp2_with (at_make; refine wpList_make_own _ rfl _ _ 125 rfl w.heap.size 5 i0 _ 1 el_u8.ht hi0 hz0 hz1 _ _ _ t.size rfl rfl rfl ?b1 ?b2 ?b3 ?_)
  case b1 => rw [hz2]; omega
  case b2 => unfold maxLen; omega
  case b3 => exact Nat.le_refl _
  intro w1 hown hg
  have hb : Below w.heap.size w w1 := (Below.refl _ _).grown hg (Nat.le_refl _) (by simp)
  have hsz1 := hb.size
  have hk1 : Kept 188 w w1 := Kept.below hb
  have hN : NodeP 188 w1 t (.pointer pv) := h.kept hk1
  clear hg hk1 h
  go_wp2
  have hst : (w1.alloc (.cells #[.pointer pv] 167)).ownsRow w.heap.size 167 1 (.slice (some ⟨w1.heap.size, 0, none⟩) 1 1) 1 [.pointer pv] := World.ownsRow_lit w1 _ 1 hsz1 (by decide) rfl
  have hown2 := hown.alloc (.cells #[.pointer pv] 167)
  have hN2 : NodeP 188 (w1.alloc (.cells #[.pointer pv] 167)) t (.pointer pv) := hN.kept ((Kept.refl _ _).alloc _)
  have hb2 : Below w.heap.size w (w1.alloc (.cells #[.pointer pv] 167)) := hb.alloc hsz1 _
  clear hown hb hN
  generalize w1.alloc (.cells #[.pointer pv] 167) = w2 at *
  go_loopg [3, 4] t.size (fun g ov sv wr => ∃ (us : List Tr) (vals : List Value) (done : List UInt8) (n m : Nat), Aside (g = szs us) ∧ n ≤ t.size ∧ m ≤ t.size ∧ Aside (t.enc = done ++ (us.map Tr.enc).flatten) ∧ Nodes 188 wr us vals ∧ Aside (m = us.length) ∧
      wr.ownsRow w.heap.size 5 1 ov n (Lib.byteCells done) ∧ wr.ownsRow w.heap.size 167 1 sv m vals.reverse ∧ Below w.heap.size w wr)
  case atStart => exact ⟨[t], [.pointer pv], [], 0, 1, (by show _ = _; simp [szs]), by omega, by omega, (by show _ = _; simp), ⟨hN2, trivial⟩, rfl, hown2, hst, hb2⟩
  case round =>
    clear hst hown2 hN2 hb2
    obtain ⟨us, vals, done, n, m, hg, hn, hm, he, hNs, hml, hown, hst, hb⟩ := hrel
    have hsz := hb.size
    have hnd : n = done.length := by have := hown.1; simpa [Lib.byteCells] using this.symm
    have hlen : done.length + szs us = t.size := by
      have h3 := congrArg List.length he.out
      rw [List.length_append, szs_flat, Tr.enc_length] at h3; omega
    cases us with
    | nil =>
      have hm0 : m = 0 := hml.out
      subst hm0
      obtain ⟨sa, sc, rfl⟩ := own_len hst
      have hed : t.enc = done := by have := he.out; simpa using this
      have hcv := own_bytes (P := Try.prog) done hown 125 Try.underlying125 Try.underlying5 9 Try.underlying9
      have HE := Lib.hid hed
      clear hed hg he hml hlen hnd hown
      go_wp2
      go_ret
      exact ⟨by rw [← HS.out]; unfold TS; rw [HE.out]; rfl, hb⟩
    | cons u us =>
      obtain ⟨v, vals, rfl, hv, hvs⟩ := hNs.uncons
      obtain ⟨m, rfl⟩ : ∃ q, m = q + 1 := ⟨us.length, hml.out⟩
      have hul := u.size_pos
      have hszs : szs (u :: us) = u.size + szs us := by simp [szs]
      have hus : us.length ≤ szs us := by
        have : ∀ l : List Tr, l.length ≤ szs l := fun l => by
          induction l with
          | nil => simp [szs]
          | cons a l ih => have := a.size_pos; simp [szs] at *; omega
        exact this us
      have hmu : m = us.length := by have := hml.out; simpa using this
      obtain ⟨sg, cap, rfl, hg1, hg2, hnc, hcm, hcell, hfz⟩ := own_cells hst (by omega)
      have hvl := hvs.length
      have c1 : wr.cell? ⟨sg, m, none⟩ = some v := by
        rw [hcell _ (by omega), List.reverse_cons, List.getElem?_append_right (by simp; omega)]; simp [hvl, hmu]
      have hpop : wr.ownsRow w.heap.size 167 1 (.slice (some ⟨sg, 0, none⟩) m cap) m vals.reverse := ownsRow_pop (last := [v]) (by simp [hvl, hmu]) (by rw [List.reverse_cons] at hst; exact hst)
      have hmI : (m : Int) ≤ (cap : Int) := by omega
      have hm2 : (m : Int) ≤ 2000000 := by omega
      have hn2 : (n : Int) ≤ 2000000 := by omega
      have HND := Lib.hid hnd; have HL := Lib.hid hlen; have HZ := Lib.hid hszs; have HU := Lib.hid hus; have HMU := Lib.hid hmu
      clear hnd hlen hszs hus hmu hcell hfz hst hvl hNs hml
      cases u with
      | nil =>
        have hv0 : v = .pointer none := hv
        subst hv0
        have hb1 : n + 1 ≤ t.size := by have := HL.out; have := HZ.out; have := HND.out; omega
        go_wp2_with (at_builtin; refine app_new el_u8 rfl _ _ rfl rfl hown [.int .u8 48] 1 rfl rfl ?c1 ?c2 ?c3 hsz hb (Nat.le_refl _) ?_)
        case c1 => intro u hu; simp at hu; rcases hu with rfl; rfl
        case c2 => omega
        case c3 => unfold maxLen; omega
        intro ov' w3 hown' hb' hgr
        have hN' := hvs.kept (Kept.grew hown hgr (by decide))
        have hst' := own_other hown hpop hgr (by decide)
        clear hown hpop hb hvs hv c1
        go_wp2
        go_roundg (szs us)
        case measure => rw [hg.out, HZ.out]; omega
        case rel =>
          refine ⟨us, vals, done ++ [48], n + 1, m, rfl, hb1, by omega, ?_, hN', HMU.out, ?_, hst', hb'⟩
          · show _ = _; rw [he.out]; simp [Tr.enc]
          · simpa [Lib.byteCells] using hown'
      | pair a b =>
        obtain ⟨ng, x, y, rfl, hng, d0, d1, d2, ha, hb9⟩ := hv.cells
        obtain ⟨ng', x', y', hvv, hblk, _, _⟩ := hv
        obtain rfl : ng = ng' := by simpa using hvv
        have hx' : x' = .pointer x := by have h3 := (block_cells hblk).1 0; rw [d0] at h3; simpa using h3.symm
        have hy' : y' = .pointer y := by have h3 := (block_cells hblk).1 1; rw [d1] at h3; simpa using h3.symm
        subst hx'; subst hy'
        have hab : (Tr.pair a b).size = 1 + a.size + b.size := rfl
        have ha1 := a.size_pos
        have hb1' := b.size_pos
        have hb1 : n + 1 ≤ t.size := by have := HL.out; have := HZ.out; have := HND.out; omega
        have hm3 : m + 2 ≤ t.size := by have := HL.out; have := HZ.out; have := HU.out; have := HMU.out; omega
        go_wp2_with (at_builtin; refine app_new el_u8 rfl _ _ rfl rfl hown [.int .u8 49] 1 rfl rfl ?c1 ?c2 ?c3 hsz hb (Nat.le_refl _) ?_)
        case c1 => intro u hu; simp at hu; rcases hu with rfl; rfl
        case c2 => omega
        case c3 => unfold maxLen; omega
        intro ov' w3 hown' hb' hgr
        have hkk : Kept 188 wr w3 := Kept.grew hown hgr (by decide)
        have hblk3 := hkk _ _ hblk
        have hvs3 := hvs.kept hkk
        have ha3 := ha.kept hkk
        have hb3 := hb9.kept hkk
        have hst' := own_other hown hpop hgr (by decide)
        have hsz3 := hb'.size
        have hab' := hab
        have HAB := Lib.hid hab
        clear hab hab' hown hpop hb hvs c1 d0 d1 d2 ha hb9 hblk hkk hgr
        have e0 := (block_cells hblk3).1 0
        have e1 := (block_cells hblk3).1 1
        have HB3 := Lib.hid hblk3; clear hblk3
        go_wp2
        go_region_held3 (fun w' => w'.cell? ⟨ng, 0, none⟩ = some (.pointer x) ∧ w'.cell? ⟨ng, 1, none⟩ = some (.pointer y))
          (first | exact keepS HB3.out (Kept.drew (Kept.refl _ _)) | exact keepS HB3.out (Kept.drew ((Kept.refl _ _).alloc _)) | exact keepS HB3.out (Kept.of_drew (Kept.grew hst'.drew hgr4 (by decide))))
          ((refine step_new el_node (by rfl) _ _ (by rfl) (by rfl) (hst'.drew) [.pointer y, .pointer x] 2 (by rfl) (by rfl) (by decide) (by intro u hu; simp at hu; rcases hu with rfl | rfl <;> rfl) (by omega) (by unfold maxLen; omega) hsz3 hb'.drew (Nat.le_refl _) ?_; intro g4 cap4 w4 hst4 hb4 hgr4))
        all_goals
          have hkk4 : Kept 188 w3 w4 := Kept.of_drew (Kept.grew hst'.drew hgr4 (by decide))
          have hN4 := hvs3.kept hkk4
          have ha4 := ha3.kept hkk4
          have hb44 := hb3.kept hkk4
          have hown4 := own_other hst'.drew hown'.drew hgr4 (by decide)
          clear hvs3 ha3 hb3 hown' hst' e0 e1
          go_wp2
          go_roundg (szs (a :: b :: us))
          case measure => rw [hg.out, HZ.out, HAB.out]; simp [szs]; omega
          case rel =>
            refine ⟨a :: b :: us, .pointer x :: .pointer y :: vals, done ++ [49], n + 1, m + 2, rfl, hb1, hm3, ?_, ⟨ha4, hb44, hN4⟩, ?_, ?_, ?_, hb4⟩
            · show _ = _; rw [he.out]; simp [Tr.enc]
            · show _ = _; rw [HMU.out]; simp
            · simpa [Lib.byteCells] using hown4
            · simpa using hst4

/-- What node.Cons hands back. -/
theorem nodeCons_ok (a b : Tr) (x y : Value) (w : World) (ha : NodeP 188 w a x) (hb : NodeP 188 w b y) (hs : (Tr.pair a b).size ≤ 2000000) :
    Calls Try.prog 162 #[x, y] w fun e w' => ∃ p, e = .returned (.tuple #[.pointer p, .bool true]) ∧ NodeP 188 w' (.pair a b) (.pointer p) ∧ Below w.heap.size w w' := by
  have s1 := nodeSize_any a x w ha
  have s2 := nodeSize_any b y w hb
  have hn := NodeP.new ha hb
  obtain ⟨x, rfl⟩ := ha.ptr
  obtain ⟨y, rfl⟩ := hb.ptr
  obtain ⟨sz, hsz⟩ : ∃ q, (Tr.pair a b).size = q := ⟨_, rfl⟩
  rw [hsz] at hn hs
  have hd : (sz : Int) ≤ 2000000 := by omega
  have ht : ((1 + a.size + b.size : Nat) : Int) = sz := by rw [← hsz]; rfl
  have e1 : (1 : Int) + a.size + b.size = sz := by omega
  have a1 : (a.size : Int) ≤ 2000000 := by omega
  have hdd : decide ((2000000 : Int) < sz) = false := decide_eq_false (by omega)
  clear hsz ht hs
  go_enter Try.func162, Try.ntmps162
  go_wp2_with fail
  refine s1.mono ?_
  rintro e w1 ⟨rfl, rfl⟩
  go_wp2_with fail
  refine s2.mono ?_
  rintro e w1 ⟨rfl, rfl⟩
  clear s1 s2
  go_wp2
  go_ret2
  exact ⟨_, rfl, hn, (Below.refl _ _).alloc (Nat.le_refl _) _⟩
theorem nodeCons_big (a b : Tr) (x y : Value) (w : World) (ha : NodeP 188 w a x) (hb : NodeP 188 w b y) (h1 : a.size ≤ 2000000) (h2 : b.size ≤ 2000000) (hs : 2000000 < (Tr.pair a b).size) :
    Calls Try.prog 162 #[x, y] w fun e w' => e = .returned (.tuple #[.pointer none, .bool false]) ∧ w = w' := by
  have s1 := nodeSize_any a x w ha
  have s2 := nodeSize_any b y w hb
  obtain ⟨x, rfl⟩ := ha.ptr
  obtain ⟨y, rfl⟩ := hb.ptr
  obtain ⟨sz, hsz⟩ : ∃ q, (Tr.pair a b).size = q := ⟨_, rfl⟩
  rw [hsz] at hs
  have ht : ((1 + a.size + b.size : Nat) : Int) = sz := by rw [← hsz]; rfl
  have e1 : (1 : Int) + a.size + b.size = sz := by omega
  have a1 : (a.size : Int) ≤ 2000000 := by omega
  have a2 : (b.size : Int) ≤ 2000000 := by omega
  have hdd : decide ((2000000 : Int) < sz) = true := decide_eq_true (by omega)
  clear hsz ht hs
  go_enter Try.func162, Try.ntmps162
  go_wp2_with fail
  refine s1.mono ?_
  rintro e w1 ⟨rfl, rfl⟩
  go_wp2_with fail
  refine s2.mono ?_
  rintro e w1 ⟨rfl, rfl⟩
  clear s1 s2
  go_wp2
  go_ret2
  exact ⟨rfl, rfl⟩

theorem pf_step_48 {s : ByteArray} {q : Nat} {ts : List Tr} (h : q < s.size) (hc : (s[q].toNat : Int) = 48) (hp : pf (s.data.toList.drop (q + 1)) = some ts) : pf (s.data.toList.drop q) = some (.nil :: ts) := by
  have h' : s[q] = 48 := UInt8.toNat_inj.1 (by have : (48 : UInt8).toNat = 48 := rfl; omega)
  rw [drop_cons s q h, h']; exact pf_48 hp
theorem pf_step_49 {s : ByteArray} {q : Nat} {a b : Tr} {ts : List Tr} (h : q < s.size) (hc : (s[q].toNat : Int) = 49) (hp : pf (s.data.toList.drop (q + 1)) = some (a :: b :: ts)) : pf (s.data.toList.drop q) = some (.pair a b :: ts) := by
  have h' : s[q] = 49 := UInt8.toNat_inj.1 (by have : (49 : UInt8).toNat = 49 := rfl; omega)
  rw [drop_cons s q h, h']; exact pf_49 hp
theorem not_tree_of {s : ByteArray} {q : Nat} (hp : pf (s.data.toList.drop q) = none) : isTree s = false := by
  rw [Bool.eq_false_iff]; intro h
  obtain ⟨t, rfl, _⟩ := isTree_get h
  obtain ⟨us, hu⟩ := pf_drop (TS t).data.toList [t] (by rw [TS_list]; exact pf_one t) q
  rw [hp] at hu; cases hu
theorem pf_step_few {s : ByteArray} {q : Nat} {ts : List Tr} (h : q < s.size) (hc : (s[q].toNat : Int) = 49) (hp : pf (s.data.toList.drop (q + 1)) = some ts) (hl : ts.length < 2) : isTree s = false := by
  have h' : s[q] = 49 := UInt8.toNat_inj.1 (by have : (49 : UInt8).toNat = 49 := rfl; omega)
  exact not_tree_of (q := q) (by rw [drop_cons s q h, h']; exact pf_49_few hp hl)
theorem pf_step_else {s : ByteArray} {q : Nat} (h : q < s.size) (h8 : ¬ (s[q].toNat : Int) = 48) (h9 : ¬ (s[q].toNat : Int) = 49) : isTree s = false :=
  not_tree_of (q := q) (by rw [drop_cons s q h]; exact pf_else (fun e => h8 (by rw [e]; rfl)) (fun e => h9 (by rw [e]; rfl)))
theorem pf_len_tree {s : ByteArray} {ts : List Tr} (hp : pf s.data.toList = some ts) (hs : s.size ≤ 2000000) : isTree s = decide (ts.length = 1) := by
  by_cases h : ts.length = 1
  · rw [decide_eq_true h]
    match ts, h with
    | [t], _ =>
      have e := pf_flat _ _ hp
      have e2 : s = TS t := ba_ext (by rw [TS_list, e]; simp)
      subst e2
      exact isTree_TS t (by rw [TS_size] at hs; exact hs)
  · rw [decide_eq_false h, Bool.eq_false_iff]; intro ht
    obtain ⟨t, rfl, _⟩ := isTree_get ht
    rw [TS_list, pf_one] at hp
    simp only [Option.some.injEq] at hp; subst hp; exact h rfl

/-- What node.Parse hands back. -/
def ParseOut (w : World) (s : ByteArray) (e : Ending) (w' : World) : Prop :=
  ∃ p, e = .returned (.tuple #[.pointer p, .bool (isTree s)]) ∧ Below w.heap.size w w' ∧ (∀ t, s = TS t → isTree s = true → NodeP 188 w' t (.pointer p)) ∧ (isTree s = false → p = none)
theorem ParseOut.bad {w w' : World} {s : ByteArray} {e : Ending} (h : isTree s = false) (he : e = .returned (.tuple #[.pointer none, .bool false])) (hb : Below w.heap.size w w') : ParseOut w s e w' := by
  refine ⟨none, by rw [he, h], hb, ?_, fun _ => rfl⟩
  intro t _ ht; rw [h] at ht; cases ht

set_option maxHeartbeats 4000000 in
theorem parse_any (s : ByteArray) (hs : s.size ≤ 281474976710656) (w : World) :
    Calls Try.prog 150 #[.string s] w (ParseOut w s) := by
  by_cases hbig : 2000000 < s.size
  · have hbad : isTree s = false := by unfold isTree; rw [decide_eq_false (by omega)]; rfl
    have hd : (2000000 : Int) < s.size := by omega
    have HB := Lib.hid hbad
    clear hbig hbad
    go_enter Try.func150, Try.ntmps150
    go_wp2
    go_ret2
    exact ParseOut.bad HB.out rfl (Below.refl _ _)
  · have hs2 : (s.size : Int) ≤ 2000000 := by omega
    have hf : pf (s.data.toList.drop s.size) = some [] := by rw [List.drop_eq_nil_of_le (by simp)]; rfl
    have HF := Lib.hid hf; clear hf hbig
    go_enter Try.func150, Try.ntmps150
    go_wp2
    go_loopg [4, 5] s.size (fun g v i wr => ∃ (j n : Nat) (ts : List Tr) (vals : List Value), j ≤ s.size ∧ g = j ∧ i = .int .i64 ((j : Int) - 1) ∧ Aside (pf (s.data.toList.drop j) = some ts) ∧ Aside (n = ts.length) ∧ Nodes 188 wr ts vals ∧
      wr.ownsRow w.heap.size 167 1 v n vals.reverse ∧ Below w.heap.size w wr)
    case atStart => exact ⟨s.size, 0, [], [], Nat.le_refl _, rfl, rfl, HF.out, rfl, trivial, World.ownsRow_nil _ _ _ _, Below.refl _ _⟩
    case round =>
      obtain ⟨j, n, ts, vals, hj, hg, hi, hp, hnl, hNs, hown, hb⟩ := hrel
      have HG := Lib.hid hg; clear hg
      have hsz := hb.size
      have hlen := pf_length _ _ hp.out
      have hnn : n ≤ s.size - j := by rw [hnl.out]; simpa using hlen
      clear hlen
      obtain ⟨sa, sc, rfl⟩ := own_len hown
      cases j with
      | succ q =>
        rw [show (((q + 1 : Nat) : Int) - 1) = (q : Int) from by omega] at hi
        subst hi
        have hq : q < s.size := by omega
        have hnI : (n : Int) ≤ 2000000 := by omega
        by_cases h8 : (s[q].toNat : Int) = 48
        · have HT : Aside (pf (s.data.toList.drop q) = some (.nil :: ts)) := pf_step_48 hq h8 hp.out
          go_wp2_with (at_builtin; refine app_new el_node rfl _ _ rfl rfl hown [.pointer none] 1 rfl rfl ?c1 ?c2 ?c3 hsz hb (Nat.le_refl _) ?_)
          case c1 => intro u hu; simp at hu; rcases hu with rfl; rfl
          case c2 => omega
          case c3 => unfold maxLen; omega
          intro v' w' hown' hb' hgr
          have hN' := hNs.kept (Kept.grew hown hgr (by decide))
          clear hown hb hNs
          go_wp2
          go_roundg q
          case measure => rw [HG.out]; omega
          case rel => exact ⟨q, n + 1, .nil :: ts, .pointer none :: vals, by omega, rfl, rfl, HT, (by show _ = _; rw [hnl.out]; rfl), ⟨rfl, hN'⟩, by simpa using hown', hb'⟩
        · have b8 : ((s[q].toNat : Int) == 48) = false := beq_eq_false_iff_ne.2 h8
          by_cases h9 : (s[q].toNat : Int) = 49
          · by_cases h2 : 2 ≤ n
            · obtain ⟨n, rfl⟩ : ∃ m, n = m + 2 := ⟨n - 2, by omega⟩
              have hts : ∃ a b r, ts = a :: b :: r := by
                have h3 := hnl.out
                match ts, h3 with
                | a :: b :: r, _ => exact ⟨a, b, r, rfl⟩
                | [], h3 => simp at h3
                | [a], h3 => simp at h3
              obtain ⟨a, b, r, rfl⟩ := hts
              obtain ⟨va, vals, rfl, ha, hNq⟩ := hNs.uncons
              obtain ⟨vb, vals, rfl, hbb, hNr⟩ := hNq.uncons
              clear hNs hNq
              have hnr : n = r.length := by have := hnl.out; simpa using this
              have hvl := hNr.length
              have HT : Aside (pf (s.data.toList.drop q) = some (.pair a b :: r)) := pf_step_49 hq h9 hp.out
              obtain ⟨sg, cap, hsv, hg1, hg2, hnc, hcm, hcell, hfz⟩ := own_cells hown (by omega)
              simp only [Value.slice.injEq] at hsv
              obtain ⟨rfl, -, rfl⟩ := hsv
              have c1 : wr.cell? ⟨sg, n + 1, none⟩ = some va := by
                rw [hcell _ (by omega), List.reverse_cons, List.getElem?_append_right (by simp; omega)]; simp [hvl, hnr]
              have c2 : wr.cell? ⟨sg, n, none⟩ = some vb := by
                rw [hcell _ (by omega), List.reverse_cons, List.reverse_cons, List.append_assoc, List.getElem?_append_right (by simp; omega)]; simp [hvl, hnr]
              have hpop : wr.ownsRow w.heap.size 167 1 (.slice (some ⟨sg, 0, none⟩) n sc) n vals.reverse :=
                ownsRow_pop (last := [vb]) (by simp [hvl, hnr]) (ownsRow_pop (last := [va]) (by simp [hvl, hnr]) (by rw [List.reverse_cons, List.reverse_cons] at hown; exact hown))
              have hzab : (Tr.pair a b).size ≤ 2000000 := by
                have h3 := congrArg List.length (pf_flat _ _ HT.out)
                simp [Tr.enc_length] at h3; omega
              obtain ⟨va, rfl⟩ := ha.ptr
              obtain ⟨vb, rfl⟩ := hbb.ptr
              have e1 : ((n : Int) + 2 - 1).toNat = n + 1 := by omega
              have e3 : ((n : Int) + 1).toNat = n + 1 := by omega
              have o1 : (0 : Int) ≤ (n : Int) + 1 := by omega
              have o2 : (n : Int) + 1 < (n : Int) + 2 := by omega
              have o3 : (n : Int) < (n : Int) + 2 := by omega
              have o8 : (n : Int) ≤ (sc : Int) := by omega
              have d2 : decide ((2 : Int) ≤ (n : Int) + 2) = true := decide_eq_true (by omega)
              have d3 : (2 : Int) ≤ (n : Int) + 2 := by omega
              clear h2
              have hc0 := nodeCons_ok a b _ _ wr.drew (ha.kept (Kept.drew (Kept.refl _ _))) (hbb.kept (Kept.drew (Kept.refl _ _))) hzab
              have HC := Lib.hid hc0
              have HV := Lib.hid hvl; have HR := Lib.hid hnr
              clear hc0 hzab hcell hfz hown hvl hnr ha hbb
              go_wp2
              have W1 : IntKind.i64.wrap (n : Int) = n := IntWalk.i64_in _ (by omega)
              have W2 : IntKind.i64.wrap ((n : Int) + 2 - 1) = (n : Int) + 1 := by rw [IntWalk.i64_in _ (by omega)]; omega
              go_region_held3 (fun w' => w'.cell? ⟨sg, n + 1, none⟩ = some (.pointer va) ∧ w'.cell? ⟨sg, n, none⟩ = some (.pointer vb))
                (first | exact ⟨c1, c2⟩ | exact ⟨(k5.cell (p := ⟨sg, n + 1, none⟩) hg2).trans c1, (k5.cell (p := ⟨sg, n, none⟩) hg2).trans c2⟩)
                ((go_at_call 162; refine HC.out.mono ?_; rintro e w5 ⟨p5, rfl, hp5, k5⟩))
              all_goals
                have k6 : Below wr.heap.size wr w5 := below_of_drew k5
                have hb5 : Below w.heap.size w w5 := hb.trans (k6.mono hsz)
                have hN5 := hNr.kept (Kept.below k6)
                have hpop5 := own_below hpop k6
                have hs5 := hb5.size
                clear hNr hpop c1 c2 k5 k6 hb HC
                go_wp2_with (at_builtin; refine app_new el_node rfl _ _ rfl rfl hpop5 [.pointer p5] 1 rfl rfl ?c1 ?c2 ?c3 hs5 hb5 (Nat.le_refl _) ?_)
                case c1 => intro u hu; simp at hu; rcases hu with rfl; rfl
                case c2 => omega
                case c3 => unfold maxLen; omega
                intro v' w' hown' hb' hgr
                have hkk := Kept.grew (T := 188) hpop5 hgr (by decide)
                have hN' := hN5.kept hkk
                have hp' := hp5.kept hkk
                clear hpop5 hb5 hN5 hp5 hkk
                go_wp2
                go_roundg q
                case measure => rw [HG.out]; omega
                case rel => exact ⟨q, n + 1, .pair a b :: r, .pointer p5 :: vals, by omega, rfl, rfl, HT, (by show _ = _; rw [HR.out]; rfl), ⟨hp', hN'⟩, by simpa using hown', hb'⟩
            · have hbad := Lib.hid (pf_step_few hq h9 hp.out (by rw [← hnl.out]; omega))
              have h2I : ¬ (2 : Int) ≤ n := by omega
              clear h2
              go_wp2
              go_ret2
              exact ParseOut.bad hbad.out rfl hb
          · have hbad := Lib.hid (pf_step_else hq h8 h9)
            have b9 : ((s[q].toNat : Int) == 49) = false := beq_eq_false_iff_ne.2 h9
            go_wp2
            go_ret2
            exact ParseOut.bad hbad.out rfl hb
      | zero =>
        rw [show (((0 : Nat) : Int) - 1) = -1 from rfl] at hi
        subst hi
        have hp' := hp.out
        rw [List.drop_zero] at hp'
        have ht := pf_len_tree hp' (by omega)
        by_cases h1 : n = 1
        · subst h1
          have hts : ∃ t, ts = [t] := by
            have h3 := hnl.out
            match ts, h3 with
            | [t], _ => exact ⟨t, rfl⟩
            | [], h3 => simp at h3
            | a :: b :: r, h3 => simp at h3
          obtain ⟨t, rfl⟩ := hts
          obtain ⟨v, us, rfl, hv, hus⟩ := hNs.uncons
          obtain rfl := hus.nil_iff
          obtain ⟨sg, cap, hsv, hg1, hg2, hnc, hcm, hcell, hfz⟩ := own_cells hown (by omega)
          simp only [Value.slice.injEq] at hsv
          obtain ⟨rfl, -, rfl⟩ := hsv
          obtain ⟨pv, rfl⟩ := hv.ptr
          have c1 : wr.cell? ⟨sg, 0, none⟩ = some (.pointer pv) := by rw [hcell _ (by omega)]; rfl
          have hst : s = TS t := ba_ext (by rw [TS_list, pf_flat _ _ hp']; simp)
          have HS := Lib.hid hst
          have HT := Lib.hid ht
          clear hcell hfz hown ht hp' hp hst
          go_wp2
          go_ret2
          refine ⟨pv, by rw [HT.out]; rfl, hb, fun t' e _ => ?_, fun h => by rw [HT.out] at h; cases h⟩
          rw [HS.out] at e
          rw [← TS_inj e]; exact hv
        · have hbad : isTree s = false := by rw [ht, ← hnl.out]; exact decide_eq_false h1
          have HB := Lib.hid hbad
          have h1b : ((n : Int) != 1) = true := by rw [bne_iff_ne]; omega
          clear hbad ht hp' hp h1
          go_wp2
          go_ret2
          exact ParseOut.bad HB.out rfl hb

end Go.Proofs.Ytlaeljkjdfffjaa

namespace Go.Proofs.Ytlaeljkjdfffjaa
open Go.RowKit

/-- The tree of a string; none: nil. -/
def toTr (s : ByteArray) : Tr := if isTree s then (match pf s.data.toList with | some [t] => t | _ => .nil) else .nil
theorem toTr_TS (t : Tr) (h : t.size ≤ 2000000) : toTr (TS t) = t := by
  unfold toTr; rw [isTree_TS t h, if_pos rfl, TS_list, pf_one]
theorem toTr_bad {s : ByteArray} (h : isTree s = false) : toTr s = .nil := by unfold toTr; rw [h]; rfl
theorem toTr_size (s : ByteArray) : (toTr s).size ≤ 2000000 := by
  cases h : isTree s with
  | false => rw [toTr_bad h]; decide
  | true => obtain ⟨t, rfl, ht⟩ := isTree_get h; rw [toTr_TS t ht]; exact ht
theorem TS_toTr {s : ByteArray} (h : isTree s = true) : TS (toTr s) = s := by obtain ⟨t, rfl, ht⟩ := isTree_get h; rw [toTr_TS t ht]
theorem toTr_empty {s : ByteArray} (h : s.toList.isEmpty = true) : toTr s = .nil := by
  refine toTr_bad ?_
  rw [Bool.eq_false_iff]; intro ht
  obtain ⟨t, rfl, _⟩ := isTree_get ht
  rw [Lib.toList_data, TS_list] at h
  cases t <;> simp [Tr.enc] at h

/-- A place and the contents of the registers. -/
structure St where
  pos : Nat
  regs : List Tr
  deriving DecidableEq
def getR (rs : List Tr) (a : Int) : Tr := rs[a.toNat]?.getD .nil
def setR (rs : List Tr) (a : Int) (t : Tr) : List Tr := rs.set a.toNat t
/-- A step of an instruction; none: it is too large. -/
def stepX (x : Ins) (s : St) : Option St :=
  if x.op = 0 then some ⟨s.pos + 1, setR s.regs x.a (toTr x.tree)⟩
  else if x.op = 1 then some ⟨s.pos + 1, setR s.regs x.a (getR s.regs x.b)⟩
  else if x.op = 2 then (if (Tr.pair (getR s.regs x.b) (getR s.regs x.c)).size ≤ 2000000 then some ⟨s.pos + 1, setR s.regs x.a (.pair (getR s.regs x.b) (getR s.regs x.c))⟩ else none)
  else if x.op = 3 then some ⟨s.pos + 1, setR s.regs x.a (getR s.regs x.b).hd⟩
  else if x.op = 4 then some ⟨s.pos + 1, setR s.regs x.a (getR s.regs x.b).tl⟩
  else if getR s.regs x.a = .nil then some ⟨s.pos + 1, s.regs⟩ else some ⟨(s.pos + x.b).toNat, s.regs⟩
/-- A step of a program in a state in which it has not ended. -/
def stepP (l : List Ins) (s : St) : Option St := match l[s.pos]? with | some x => stepX x s | none => none
/-- A state of a program. -/
def Good (n : Nat) (s : St) : Prop := s.pos ≤ n ∧ s.regs.length = 32 ∧ ∀ t ∈ s.regs, t.size ≤ 2000000
def startS (t : Tr) : St := ⟨0, t :: List.replicate 31 .nil⟩
theorem Good.start (n : Nat) (t : Tr) (ht : t.size ≤ 2000000) : Good n (startS t) := by
  refine ⟨Nat.zero_le _, rfl, fun u hu => ?_⟩
  rcases List.mem_cons.1 hu with rfl | h
  · exact ht
  · rw [(List.mem_replicate.1 h).2]; decide
theorem getR_size {rs : List Tr} (h : ∀ t ∈ rs, t.size ≤ 2000000) (a : Int) : (getR rs a).size ≤ 2000000 := by
  unfold getR
  cases e : rs[a.toNat]? with
  | none => decide
  | some t => exact h t (List.mem_of_getElem? e)
theorem hd_size (t : Tr) : t.hd.size ≤ t.size := by cases t <;> simp [Tr.hd, Tr.size]; omega
theorem tl_size (t : Tr) : t.tl.size ≤ t.size := by cases t <;> simp [Tr.tl, Tr.size]
theorem Good.set {n : Nat} {s : St} (h : Good n s) (hp : s.pos < n) (a : Int) (t : Tr) (ht : t.size ≤ 2000000) : Good n ⟨s.pos + 1, setR s.regs a t⟩ := by
  refine ⟨hp, by simp [setR, h.2.1], fun u hu => ?_⟩
  rcases List.mem_or_eq_of_mem_set hu with h1 | rfl
  · exact h.2.2 u h1
  · exact ht
theorem Good.step {l : List Ins} {s s' : St} (hv : rightAll l = true) (h : Good l.length s) (hs : stepP l s = some s') : Good l.length s' := by
  unfold stepP at hs
  cases hx : l[s.pos]? with
  | none => rw [hx] at hs; cases hs
  | some x =>
    rw [hx] at hs
    simp only at hs
    have hp : s.pos < l.length := (List.getElem?_eq_some_iff.1 hx).1
    have hr := rightAll_get hv hx
    unfold stepX at hs
    split at hs
    · cases hs; exact h.set hp _ _ (toTr_size _)
    · split at hs
      · cases hs; exact h.set hp _ _ (getR_size h.2.2 _)
      · split at hs
        · split at hs
          · cases hs; exact h.set hp _ _ (by assumption)
          · cases hs
        · split at hs
          · cases hs; exact h.set hp _ _ (Nat.le_trans (hd_size _) (getR_size h.2.2 _))
          · split at hs
            · cases hs; exact h.set hp _ _ (Nat.le_trans (tl_size _) (getR_size h.2.2 _))
            · split at hs
              · cases hs; exact ⟨hp, h.2⟩
              · cases hs
                refine ⟨?_, h.2⟩
                unfold rightB at hr
                rename_i h0 h1 h2 h3 h4 h5
                rw [if_neg h0, if_neg (by omega), if_neg h2] at hr
                split at hr
                · simp only [Bool.and_eq_true, decide_eq_true_eq] at hr
                  show ((s.pos : Int) + x.b).toNat ≤ l.length
                  omega
                · simp at hr

theorem Nodes.set {T : Nat} {w : World} : ∀ {ts : List Tr} {vs : List Value} (j : Nat) {t : Tr} {v : Value}, Nodes T w ts vs → NodeP T w t v → Nodes T w (ts.set j t) (vs.set j v) := by
  intro ts
  induction ts with
  | nil => intro vs j t v h _; rw [h.nil_iff]; exact trivial
  | cons a ts ih =>
    intro vs j t v h hn
    obtain ⟨u, us, rfl, h1, h2⟩ := h.uncons
    cases j with
    | zero => exact ⟨hn, h2⟩
    | succ j => exact ⟨h1, ih j h2 hn⟩
theorem Nodes.get {T : Nat} {w : World} : ∀ {ts : List Tr} {vs : List Value} {j : Nat} {t : Tr}, Nodes T w ts vs → ts[j]? = some t → ∃ v, vs[j]? = some v ∧ NodeP T w t v := by
  intro ts
  induction ts with
  | nil => intro vs j t _ h; simp at h
  | cons a ts ih =>
    intro vs j t h hj
    obtain ⟨u, us, rfl, h1, h2⟩ := h.uncons
    cases j with
    | zero => simp at hj; subst hj; exact ⟨u, rfl, h1⟩
    | succ j =>
      obtain ⟨v, hv, hn⟩ := ih (j := j) h2 (by simpa using hj)
      exact ⟨v, by simpa using hv, hn⟩
theorem Nodes.snoc {T : Nat} {w : World} : ∀ {ts : List Tr} {vs : List Value} {t : Tr} {v : Value}, Nodes T w ts vs → NodeP T w t v → Nodes T w (ts ++ [t]) (vs ++ [v]) := by
  intro ts
  induction ts with
  | nil => intro vs t v h hn; rw [h.nil_iff]; exact ⟨hn, trivial⟩
  | cons a ts ih =>
    intro vs t v h hn
    obtain ⟨u, us, rfl, h1, h2⟩ := h.uncons
    exact ⟨h1, ih h2 hn⟩
theorem Nodes.nils {T : Nat} {w : World} (n : Nat) : Nodes T w (List.replicate n .nil) (List.replicate n (.pointer none)) := by
  induction n with
  | zero => exact trivial
  | succ n ih => exact ⟨rfl, ih⟩
theorem own_kept {e base sz n : Nat} {w w' : World} {v : Value} {xs : List Value} (h : w.ownsRow base e sz v n xs) (hk : Kept e w w') : w'.ownsRow base e sz v n xs := by
  refine ⟨h.1, ?_⟩
  rcases h.2 with h | ⟨g, cap, cur, hv, hbb, hgg, r⟩
  · exact .inl h
  · exact .inr ⟨g, cap, cur, hv, hbb, hk _ _ hgg, r⟩

/-- The cells of a machine. -/
def mcells (pv sv : Value) (ps : List Value) (pos : Nat) : Array Value := (pv :: sv :: (ps ++ [.int .i64 pos])).toArray
/-- A machine in memory. -/
structure MachP (w : World) (B g : Nat) (l : List Ins) (s : St) (pv sv : Value) (ps : List Value) : Prop where
  blk : w.heap[g]? = some (.cells (mcells pv sv ps s.pos) 171 (0, 0))
  regs : Nodes 188 w s.regs ps
  prog : InsRow w B pv l
  le : B ≤ g
  sets : ∃ xs, Nodes 188 w (l.map fun x => toTr x.tree) xs ∧ w.ownsRow (g + 1) 167 1 sv l.length xs
section
variable {w w' : World} {B g : Nat} {l : List Ins} {s : St} {pv sv : Value} {ps : List Value}
theorem MachP.lt (h : MachP w B g l s pv sv ps) : g < w.heap.size := (Array.getElem?_eq_some_iff.1 h.blk).1
theorem MachP.kept (h : MachP w B g l s pv sv ps) (hb : Below w.heap.size w w') : MachP w' B g l s pv sv ps := by
  obtain ⟨xs, h1, h2⟩ := h.sets
  have hlt := h.lt
  have hle := h.le
  exact ⟨(hb.block g hlt).trans h.blk, h.regs.kept (Kept.below hb), h.prog.below (hb.mono (by omega)), h.le, xs, h1.kept (Kept.below hb), own_below h2 hb⟩
theorem MachP.cells (h : MachP w B g l s pv sv ps) (h32 : s.regs.length = 32) : w.cell? ⟨g, 0, none⟩ = some pv ∧ w.cell? ⟨g, 1, none⟩ = some sv ∧ w.cell? ⟨g, 34, none⟩ = some (.int .i64 s.pos) ∧
    (∀ j t, s.regs[j]? = some t → ∃ q, w.cell? ⟨g, 2 + j, none⟩ = some (.pointer q) ∧ NodeP 188 w t (.pointer q)) ∧ ∀ j, w.frozen? ⟨g, j, none⟩ = false := by
  obtain ⟨hc, hf⟩ := block_cells h.blk
  have hl := h.regs.length
  refine ⟨by rw [hc]; rfl, by rw [hc]; rfl, ?_, ?_, hf⟩
  · rw [hc]
    unfold mcells
    rw [List.getElem?_toArray]
    simp only [List.getElem?_cons_succ]
    rw [List.getElem?_append_right (by omega), hl, h32]; rfl
  · intro j t hj
    obtain ⟨v, hv, hn⟩ := h.regs.get hj
    obtain ⟨q, rfl⟩ := hn.ptr
    refine ⟨q, ?_, hn⟩
    rw [hc]
    unfold mcells
    rw [List.getElem?_toArray, show 2 + j = j + 1 + 1 by omega]
    simp only [List.getElem?_cons_succ]
    have hlt := (List.getElem?_eq_some_iff.1 hv).1
    rw [List.getElem?_append_left hlt, hv]
theorem set_blk {T : Nat} {cs : Array Value} (h : w.heap[g]? = some (.cells cs T (0, 0))) (j : Nat) (u : Value) : (w.setCell ⟨g, j, none⟩ u).heap[g]? = some (.cells (cs.setIfInBounds j u) T (0, 0)) := by
  show (w.heap.modify g _)[g]? = _
  rw [Array.getElem?_modify, if_pos rfl, h]; rfl
theorem MachP.setReg (h : MachP w B g l s pv sv ps) (j : Nat) (hj : j < s.regs.length) {t : Tr} {v : Value} (hn : NodeP 188 w t v) : MachP (w.setCell ⟨g, 2 + j, none⟩ v) B g l ⟨s.pos, s.regs.set j t⟩ pv sv (ps.set j v) := by
  obtain ⟨xs, h1, h2⟩ := h.sets
  have hk : Kept 188 w (w.setCell ⟨g, 2 + j, none⟩ v) := (Kept.refl _ w).setCell h.blk (by decide) _
  have hk2 : Kept 167 w (w.setCell ⟨g, 2 + j, none⟩ v) := (Kept.refl _ w).setCell h.blk (by decide) _
  refine ⟨?_, (h.regs.set j hn).kept hk, h.prog.below ((Below.refl B w).setCell (p := ⟨g, 2 + j, none⟩) h.le _), h.le, xs, h1.kept hk, own_kept h2 hk2⟩
  rw [set_blk h.blk]
  have hl := h.regs.length
  have e : (mcells pv sv ps s.pos).setIfInBounds (2 + j) v = mcells pv sv (ps.set j v) s.pos := by
    unfold mcells
    rw [List.setIfInBounds_toArray, show 2 + j = j + 1 + 1 by omega, List.set_cons_succ, List.set_cons_succ, List.set_append_left _ _ (by omega)]
  rw [e]
theorem MachP.setPos (h : MachP w B g l s pv sv ps) (h32 : s.regs.length = 32) (p : Nat) : MachP (w.setCell ⟨g, 34, none⟩ (.int .i64 p)) B g l ⟨p, s.regs⟩ pv sv ps := by
  obtain ⟨xs, h1, h2⟩ := h.sets
  have hk : Kept 188 w (w.setCell ⟨g, 34, none⟩ (.int .i64 p)) := (Kept.refl _ w).setCell h.blk (by decide) _
  have hk2 : Kept 167 w (w.setCell ⟨g, 34, none⟩ (.int .i64 p)) := (Kept.refl _ w).setCell h.blk (by decide) _
  refine ⟨?_, h.regs.kept hk, h.prog.below ((Below.refl B w).setCell (p := ⟨g, 34, none⟩) h.le _), h.le, xs, h1.kept hk, own_kept h2 hk2⟩
  rw [set_blk h.blk]
  have hl := h.regs.length
  have e : (mcells pv sv ps s.pos).setIfInBounds 34 (.int .i64 p) = mcells pv sv ps p := by
    unfold mcells
    rw [List.setIfInBounds_toArray, List.set_cons_succ, List.set_cons_succ, List.set_append_right _ _ (by omega), hl, h32]; rfl
  rw [e]
end

end Go.Proofs.Ytlaeljkjdfffjaa

namespace Go.Proofs.Ytlaeljkjdfffjaa
open Go.RowKit

/-- The reference's machine at block g; all of it lies below block T. -/
structure RMachP (w : World) (T g : Nat) (l : List Ins) (pv tv : Value) : Prop where
  blk : w.heap[g]? = some (.cells #[pv, tv] 118 (0, 0))
  lt : g < T
  prog : InsRow w T pv l
  sets : ∃ xs base, Nodes 58 w (l.map fun x => toTr x.tree) xs ∧ w.ownsRow base 47 1 tv l.length xs ∧ ∀ k, tv.ownBlock = some k → k < T
/-- A state of the reference at block g, from block T on. -/
structure RStP (w : World) (T g : Nat) (s : St) (rv : Value) (ps : List Value) : Prop where
  blk : w.heap[g]? = some (.cells #[.int .i64 s.pos, rv] 114 (0, 0))
  le : T ≤ g
  regs : Nodes 58 w s.regs ps
  own : w.ownsRow T 47 1 rv s.regs.length ps
theorem RMachP.kept {w w' : World} {T g : Nat} {l : List Ins} {pv tv : Value} (h : RMachP w T g l pv tv) (hb : Below T w w') (hk : Kept 58 w w') : RMachP w' T g l pv tv := by
  obtain ⟨xs, base, h1, h2, h3⟩ := h.sets
  refine ⟨(hb.block g h.lt).trans h.blk, h.lt, h.prog.below hb, xs, base, h1.kept hk, ⟨h2.1, ?_⟩, h3⟩
  rcases h2.2 with h4 | ⟨g', cap, cur, hv, hbb, hgg, r⟩
  · exact .inl h4
  · exact .inr ⟨g', cap, cur, hv, hbb, (hb.block g' (h3 g' (by rw [hv]; rfl))).trans hgg, r⟩
theorem RStP.kept {w w' : World} {T g : Nat} {s : St} {rv : Value} {ps : List Value} (h : RStP w T g s rv ps) (hb : Below w.heap.size w w') : RStP w' T g s rv ps :=
  ⟨(hb.block g (Array.getElem?_eq_some_iff.1 h.blk).1).trans h.blk, h.le, h.regs.kept (Kept.below hb), own_below h.own hb⟩

/-- An element of an owned row, written. -/
theorem own_set {w : World} {base e : Nat} {g n cap : Nat} {xs : List Value} (h : w.ownsRow base e 1 (.slice (some ⟨g, 0, none⟩) n cap) n xs) (j : Nat) (v : Value) : (w.setCell ⟨g, j, none⟩ v).ownsRow base e 1 (.slice (some ⟨g, 0, none⟩) n cap) n (xs.set j v) := by
  refine ⟨by rw [List.length_set]; exact h.1, ?_⟩
  rcases h.2 with ⟨h0, _⟩ | ⟨g', cap', cur, hv, hb, hg, hnc, hcm, hcs, htake⟩
  · cases h0
  · simp only [Value.slice.injEq, Option.some.injEq, Addr.mk.injEq] at hv
    obtain ⟨⟨rfl, -, -⟩, -, rfl⟩ := hv
    refine .inr ⟨g, cap, cur.setIfInBounds j v, rfl, hb, set_blk hg j v, hnc, hcm, by simpa using hcs, ?_⟩
    rw [Array.toList_setIfInBounds, List.take_set, htake]

end Go.Proofs.Ytlaeljkjdfffjaa

namespace Go.Proofs.Ytlaeljkjdfffjaa
open Go.RowKit

theorem ret_se2 {a b : ByteArray} {c d : Int} (h : a = b) (h' : c = d) : Ending.returned (.tuple #[.string a, .int .i64 c]) = .returned (.tuple #[.string b, .int .i64 d]) := by rw [h, h']

theorem take_snoc' {α : Type} (l : List α) (k : Nat) (s : α) (h : l[k]? = some s) : l.take (k + 1) = l.take k ++ [s] := by
  rw [List.take_add_one, h]; rfl
theorem allTree_bad {l : List ByteArray} {k : Nat} {s : ByteArray} (h : l[k]? = some s) (hb : isTree s = false) : listE l = 1 ∧ listS l = ⟨#[]⟩ := by
  have : allTree l = false := by
    rw [Bool.eq_false_iff]; intro ha
    have := List.all_eq_true.1 ha s (List.mem_of_getElem? h)
    rw [hb] at this; cases this
  exact ⟨by unfold listE; rw [this]; rfl, by unfold listS; rw [this]; rfl⟩
/-- The bytes that are written for some strings. -/
def lwr (l : List ByteArray) : List UInt8 := (l.map fun s : ByteArray => (49 : UInt8) :: s.data.toList).flatten
theorem lwr_snoc (l : List ByteArray) (s : ByteArray) : lwr (l ++ [s]) = lwr l ++ (49 :: s.data.toList) := by simp [lwr]
theorem lwr_length (l : List ByteArray) (h : allTree l = true) : (lwr l).length + 1 = lcount l := by
  obtain ⟨ts, rfl, hts⟩ := allTree_get h
  rw [lcount_TS ts hts, size_ofList, ← lenc_length]
  simp [lwr, lenc, Function.comp_def, TS_list]; omega
theorem lcount_take (l : List ByteArray) (k : Nat) : lcount (l.take k) ≤ lcount l := by
  conv => rhs; rw [← List.take_append_drop k l]
  simp only [lcount, List.map_append, List.sum_append]; omega
theorem allTree_take {l : List ByteArray} (h : allTree l = true) (k : Nat) : allTree (l.take k) = true := by
  unfold allTree at *; rw [List.all_eq_true] at *; exact fun x hx => h x (List.mem_of_mem_take hx)

end Go.Proofs.Ytlaeljkjdfffjaa

namespace Go.Proofs.Ytlaeljkjdfffjaa
open Go.RowKit

theorem lwr_take_le (l : List ByteArray) (k : Nat) : (lwr (l.take k)).length ≤ (lwr l).length := by
  have h : lwr l = lwr (l.take k) ++ lwr (l.drop k) := by
    conv => lhs; rw [← List.take_append_drop k l]
    unfold lwr; rw [List.map_append, List.flatten_append]
  rw [h]; simp

set_option maxHeartbeats 2000000 in
theorem refList_any (v : Value) (l : List ByteArray) (w : World) (hl : StrRow w w.heap.size v l) (hn : l.length ≤ 4000000000) (htot : (lwr l).length ≤ 4000000000) :
    Calls Try.prog 90 #[v] w fun e w' => e = .returned (.string ⟨(lwr l ++ [48]).toArray⟩) ∧ Below w.heap.size w w' := by
  obtain ⟨ao, cap, rfl⟩ := hl.len
  obtain ⟨n, hn'⟩ : ∃ n, l.length = n := ⟨_, rfl⟩
  rw [hn'] at hn hl ⊢
  have HN := Lib.hid hn'; clear hn'
  have HT := Lib.hid htot; clear htot
  obtain ⟨r1, hr1⟩ : ∃ r, (⟨(lwr l ++ [48]).toArray⟩ : ByteArray) = r := ⟨_, rfl⟩
  rw [hr1]
  have H1 := Lib.hid hr1; clear hr1
  go_enter Try.func90, Try.ntmps90
  go_wp2
  go_loopg [3, 4] n (fun g v i wr => ∃ k m : Nat, k ≤ n ∧ g = n - k ∧ i = .int .i64 k ∧ Aside (m = (lwr (l.take k)).length) ∧ wr.ownsRow w.heap.size 5 1 v m (Lib.byteCells (lwr (l.take k))) ∧ Below w.heap.size w wr)
  case atStart => exact ⟨0, 0, Nat.zero_le _, rfl, rfl, rfl, World.ownsRow_nil _ _ _ _, Below.refl _ _⟩
  case round =>
    obtain ⟨k, m, hk, hg, rfl, hm, hown, hb⟩ := hrel
    have HG := Lib.hid hg; clear hg
    have hmb : m ≤ 4000000000 := by rw [hm.out]; exact Nat.le_trans (lwr_take_le l k) HT.out
    have hsz := hb.size
    by_cases hlt : k < n
    · obtain ⟨s, hs⟩ : ∃ s, l[k]? = some s := ⟨_, List.getElem?_eq_getElem (by rw [HN.out]; exact hlt)⟩
      have hlr := hl.below hb
      obtain ⟨g, off, rfl, hg, hcell⟩ := hlr.get hs
      have hm2 : m + 1 + s.size ≤ 4000000000 := by
        have h1 := Nat.le_trans (lwr_take_le l (k + 1)) HT.out
        rw [take_snoc' l k s hs, lwr_snoc] at h1
        have hss : s.data.toList.length = s.size := by simp
        simp only [List.length_append, List.length_cons, hss] at h1
        rw [hm.out]; omega
      have HS := Lib.hid hs; clear hs
      obtain ⟨av, cv, rfl⟩ := own_len hown
      have hi0 : (0 : Int) ≤ (k : Int) := Int.natCast_nonneg _
      have hi1 : (k : Int) < (n : Int) := by omega
      have hlr' := Lib.hid hl
      clear hlr
      go_wp2
      go_region_held3 (fun w' => w'.cell? ⟨g, off + k, none⟩ = some (.string s))
        (first | assumption | exact hcell | exact (hb1.cell (p := ⟨g, off + k, none⟩) hg).trans ((hb.cell (p := ⟨g, off + k, none⟩) hg).symm.trans hcell) | exact (hb2.cell (p := ⟨g, off + k, none⟩) hg).trans ((hb.cell (p := ⟨g, off + k, none⟩) hg).symm.trans hcell) | exact ((hb.alloc hsz _).drew.cell (p := ⟨g, off + k, none⟩) hg).trans ((hb.cell (p := ⟨g, off + k, none⟩) hg).symm.trans hcell))
        ((first | (refine step_str el_u8 Try.underlying9 (by rfl) _ _ (by rfl) (by rfl) hown1 s (by rfl) (by omega) hb1.size hb1 (Nat.le_refl _) ?_; intro v2 w2 hown2 hb2 hgr2) | (refine step_new el_u8 (by rfl) _ _ (by rfl) (by rfl) (hown.drew) [.int .u8 49] 1 (by rfl) (by rfl) (by decide) (by intro u hu; simp at hu; rcases hu with rfl; rfl) (by omega) (by unfold maxLen; omega) hsz hb.drew (Nat.le_refl _) ?_; intro g1 cap1 w1 hown1 hb1 hgr1)))
      all_goals
        go_wp2
        go_roundg (n - (k + 1))
        case measure => rw [HG.out]; omega
        case rel =>
          refine ⟨k + 1, m + 1 + s.size, by omega, rfl, by go_num, ?_, ?_, hb2⟩
          · show _ = _; rw [take_snoc' l k s HS.out, lwr_snoc, List.length_append, ← hm.out]; simp; omega
          · have : Lib.byteCells (lwr (l.take (k + 1))) = Lib.byteCells (lwr (l.take k)) ++ [.int .u8 49] ++ Lib.strCells s := by
              rw [take_snoc' l k s HS.out, lwr_snoc]; simp [Lib.byteCells, Lib.strCells]
            rw [this]; exact hown2
    · have hta : l.take k = l := List.take_of_length_le (by rw [HN.out]; omega)
      rw [hta] at hown
      clear hta hm
      go_wp2_with (at_builtin; refine app_new el_u8 rfl _ _ rfl rfl hown [.int .u8 48] 1 rfl rfl ?c1 ?c2 ?c3 hsz hb (Nat.le_refl _) ?_)
      case c1 => intro u hu; simp at hu; rcases hu with rfl; rfl
      case c2 => omega
      case c3 => unfold maxLen; omega
      intro v' w' hown' hb' hgr
      have hcv := own_bytes (P := Try.prog) (lwr l ++ [48]) (by simpa [Lib.byteCells] using hown') 125 Try.underlying125 Try.underlying5 9 Try.underlying9
      clear hown hb hown'
      go_wp2
      go_ret
      exact ⟨by rw [← H1.out]; rfl, hb'⟩

/-- Two lists of strings are equal. -/
def sameB (a b : List ByteArray) : Bool := decide (a = b)
theorem same_take {a b : List ByteArray} {k : Nat} {s u : ByteArray} (h : a.take k = b.take k) (h1 : a[k]? = some s) (h2 : b[k]? = some u) (he : s = u) : a.take (k + 1) = b.take (k + 1) := by
  rw [take_snoc' _ _ _ h1, take_snoc' _ _ _ h2, h, he]

/-- Where the rest of a tree, as a list, begins. -/
def ITail (t u : Tr) (p : Nat) : Prop := p + u.size = t.size ∧ t.enc.drop p = u.enc
theorem ITail.get {t u : Tr} {p : Nat} (h : ITail t u p) (hp : p < (TS t).size) : ((TS t)[p].toNat : Int) = (if u = .nil then 48 else 49 : Int) := by
  rw [TS_get]
  have e : t.enc.drop p = t.enc[p]'(by rw [TS_size, ← Tr.enc_length] at hp; exact hp) :: t.enc.drop (p + 1) := List.drop_eq_getElem_cons _
  rw [h.2] at e
  cases u with
  | nil => simp only [Tr.enc, List.cons.injEq] at e; rw [← e.1]; rfl
  | pair a b => simp only [Tr.enc, List.cons.injEq] at e; rw [← e.1]; rfl
theorem ITail.next {t a b : Tr} {p : Nat} (h : ITail t (.pair a b) p) : ITail t b (p + 1 + a.size) ∧ endI (TS t) (p + 1) 1 = (p + 1 + a.size : Nat) ∧ (TS t).extract (p + 1) (p + 1 + a.size) = TS a := by
  have e1 : t.enc.drop (p + 1) = a.enc ++ b.enc := by
    have : t.enc.drop (p + 1) = (t.enc.drop p).drop 1 := by rw [List.drop_drop]
    rw [this, h.2]; rfl
  have hs := h.1
  simp only [Tr.size] at hs
  refine ⟨⟨by omega, ?_⟩, ?_, ?_⟩
  · have : t.enc.drop (p + 1 + a.size) = (t.enc.drop (p + 1)).drop a.size := by rw [List.drop_drop]
    rw [this, e1, List.drop_append, Tr.enc_length]; simp [← Tr.enc_length]
  · unfold endI
    rw [TS_list, e1]
    have := endF_enc a b.enc 0
    rw [this]; simp [endF]
  · apply ba_ext
    rw [Lib.extract_data, TS_list, TS_list, e1]
    simp [Tr.enc_length]

end Go.Proofs.Ytlaeljkjdfffjaa

namespace Go.Proofs.Ytlaeljkjdfffjaa
open Go.RowKit

set_option maxHeartbeats 1000000 in
theorem rended_any (w : World) (B g h : Nat) (l : List Ins) (s : St) (pv tv rv : Value) (T : Nat) (ps : List Value) (hm : RMachP w B g l pv tv) (hs : RStP w T h s rv ps) :
    Calls Try.prog 96 #[.pointer (some ⟨g, 0, none⟩), .pointer (some ⟨h, 0, none⟩)] w fun e w' => e = .returned (.bool ((s.pos : Int) == (l.length : Int))) ∧ ∃ nq, w' = w.drewN nq := by
  obtain ⟨ao, cap, rfl⟩ := hm.prog.len
  have c0 := (block_cells hm.blk).1 0
  have d0 := (block_cells hs.blk).1 0
  simp only [List.getElem?_toArray, List.getElem?_cons_zero] at c0 d0
  obtain ⟨n, hn'⟩ : ∃ n, l.length = n := ⟨_, rfl⟩
  rw [hn'] at c0 ⊢
  clear hm hs hn'
  go_enter Try.func96, Try.ntmps96
  go_wp2
  go_quiet (fail)
  go_wp2
  go_ret
  exact ⟨rfl, _, rfl⟩

/-- Two states with trees as strings are equal. -/
def sameS (n m : Int) (l1 l2 : List ByteArray) : Bool := (n == m) && sameB l1 l2
end Go.Proofs.Ytlaeljkjdfffjaa

namespace Go.Proofs.Ytlaeljkjdfffjaa
open Go.RowKit

/-- A state that is one of a program of some length. -/
def fitsB (n : Int) (len : Nat) (l : List ByteArray) : Bool := decide (0 ≤ n) && decide (n ≤ len) && decide (l.length = 32) && l.all isTree

end Go.Proofs.Ytlaeljkjdfffjaa


/- Slices that a call makes itself: append, reading back, bytes to a string. Over any program. The element types of the slices of this dump. Trees as lists of bytes: the plain part. No program in sight. Plain: numbers as trees, forests from the right, depth. No program in sight. The walks of narcissusref01.End and narcissusref01.Valid. The walks of narcissusref01.Valid and tree.Valid. The walks of tree.parts, Head, Tail, Cons, Pairs, sized. DERIVED: THE SHELF's CONTRACTS AT THIS DUMP, IN PLAIN WORDS (tools/lay-plain.mjs out of 'TryShelf.lean', which tools/lay-shelf.mjs wrote): THE SAME DECLARATIONS UNDER THE SAME NAMES: 'import', 'namespace', 'open', 'def', 'theorem' AND NOTHING ELSE: no command of the shelf's: FOR A HAND-IN. Each laying: the table of numbers ('.._ren') and one theorem, a field a fact of the dump's own or the kernel's comparison; each contract: ONE APPLICATION. The walks of tree.sized, Number, Value and of narcissusref01.Number, Value, Head, Tail, Pairs. The walks of narcissusref01.Number, Value, Head, Tail, Pairs. -/
import Derived.WalkKit
import Derived.WalkSpells
import Derived.WalkLawsBesides
import Derived.BigQuiet
import Derived.Deep.QuietTactic
import Derived.Lib.Hide
import Derived.Deep.LoopGhost
import Derived.Lib.Strings
import Derived.Lib.UnsafeStr
import Derived.WalkSmall
import Derived.Deep.AppendLies
import Derived.Lib.AppendStr
import Derived.Deep.RegionLaw
import Derived.Deep.RegionHeld3
import Derived.Test.YtaiomcjopgnfpaaRows
import Derived.Lib.Repeat
import Derived.Shelf.Strings.Builder1
import Derived.Shelf.Strings.Builder2
import Derived.Shelf.Strings.BuilderF
import Derived.Shelf.Strings.BuilderK
import Derived.Shelf.Strings.Prefix
import Derived.Shelf.Bits.Mul64
import Derived.Shelf.Strings.Repeat
import Derived.Test.YtaiomcjopgnfpaaProg
namespace Go.Proofs.Ytaiomcjopgnfpaa
open Go.RowKit

/-- An element type of slices: the slice's type, the element's, its zero value, its cells, its bytes. -/
structure ElemT (P : Program) (tS tE : Nat) (z : Value) (sz by_ : Nat) : Prop where
  ht : P.underlying tS = some (.slice tE)
  hi : (P.info? tE).map (fun i => (i.zero, i.size, i.bytes)) = some (some z, sz, by_)
  hzs : z.cells.size = sz
  hsz : 0 < sz

theorem grownBy_alloc_trans {w w' : World} {o : Obj} {row : Option Nat} (h : (w.alloc o).grownBy w' row) : w.heap.size < w'.heap.size ∧ ∀ k, k < w.heap.size → some k ≠ row → w'.heap[k]? = w.heap[k]? :=
  ⟨by have := h.size; simp at this; omega, fun k hk hne => (h.block k (by simp; omega) hne).trans (Below.heap_alloc _ _ _ hk)⟩

/-- What an append leaves besides: what is old stands; the value is not nil where something was appended. -/
structure Grew (w w' : World) (v v' : Value) (m : Nat) : Prop where
  lt : w.heap.size < w'.heap.size
  old : ∀ k, k < w.heap.size → some k ≠ v.ownBlock → w'.heap[k]? = w.heap[k]?
  nn : m = 0 ∨ ¬ v' = .slice none 0 0

/-- append of elements that stand in a block of their own, just made. -/
theorem app_new {P : Program} {tS tE : Nat} {z : Value} {sz by_ : Nat} (E : ElemT P tS tE z sz by_) {ops : Array Oper} {rest : List Oper} {o : Oper} {a : Act} {Q : Exit → Act → World → Prop}
    (hgd : o.guard = none) (s x : Operand) (ho : o.op = .call { callee := .builtin .append, args := #[s, x], argTypes := #[tS, tS] }) {w : World} {base : Nat} {v : Value} {n : Nat} {xs : List Value}
    (hs : a.eval s = v) (hown : w.ownsRow base tE sz v n xs) (news : List Value) (m : Nat) (hx : a.eval x = .slice (some ⟨w.heap.size, 0, none⟩) m m) (hl : news.length = m * sz)
    (h1 : ∀ u ∈ news, u.oneCell' = true) (hby : (n + m) * by_ ≤ 140737488355328) (h63 : n + m ≤ maxLen) (hbase : base ≤ w.heap.size) {B : Nat} {w0 : World} (hb : Below B w0 w) (hB : B ≤ base)
    (h : ∀ v' w', w'.ownsRow base tE sz v' (n + m) (xs ++ news) → Below B w0 w' → Grew w w' v v' m → wpList P ops Q rest (a.put o.dst v') w') :
    wpList P ops Q (o :: rest) a (w.alloc (.cells news.toArray tE)) := by
  obtain ⟨i, hi, hz, hsize, hbytes⟩ := info_parts E.hi
  have hlt := hown.lt
  refine wpList_append_own _ hgd s x tS ho base tE i z sz by_ E.ht hi hz hsize hbytes E.hzs E.hsz v n xs hs (hown.alloc _) ⟨w.heap.size, 0, none⟩ m m news hx hl ?_ h1 h63 hby (by simp; omega) ?_
  · intro j u hu
    rw [Addr.add_lit]
    unfold World.cell?
    rw [show (w.alloc (.cells news.toArray tE)).heap[w.heap.size]? = _ from heap_alloc_new w _]
    simp [hu]
  · intro v' w' ho' hg hnil
    refine h v' w' ho' ?_ ⟨(grownBy_alloc_trans hg).1, (grownBy_alloc_trans hg).2, ?_⟩
    · exact (hb.alloc (by omega) _).grown hg (by simp; omega) (fun k hk => by have := (hlt k hk).1; omega)
    · by_cases hm : m = 0
      · exact .inl hm
      · exact .inr fun e => hm (hnil.1 e).2

/-- The same, as a step of a region that draws. -/
theorem step_new {P : Program} {tS tE : Nat} {z : Value} {sz by_ : Nat} (E : ElemT P tS tE z sz by_) {ops : Array Oper} {o : Oper} {a : Act} {K : Act → World → Prop} {Q : Exit → Act → World → Prop} {EE : Prop}
    (hgd : o.guard = none) (s x : Operand) (ho : o.op = .call { callee := .builtin .append, args := #[s, x], argTypes := #[tS, tS] }) {w : World} {base : Nat} {v : Value} {n : Nat} {xs : List Value}
    (hs : a.eval s = v) (hown : w.ownsRow base tE sz v n xs) (news : List Value) (m : Nat) (hx : a.eval x = .slice (some ⟨w.heap.size, 0, none⟩) m m) (hl : news.length = m * sz) (hm : 0 < m)
    (h1 : ∀ u ∈ news, u.oneCell' = true) (hby : (n + m) * by_ ≤ 140737488355328) (h63 : n + m ≤ maxLen) (hbase : base ≤ w.heap.size) {B : Nat} {w0 : World} (hb : Below B w0 w) (hB : B ≤ base)
    (h : ∀ g cap w', w'.ownsRow base tE sz (.slice (some ⟨g, 0, none⟩) (n + m) cap) (n + m) (xs ++ news) → Below B w0 w' → Grew w w' v (.slice (some ⟨g, 0, none⟩) (n + m) cap) m → K (a.put o.dst (.slice (some ⟨g, 0, none⟩) (n + m) cap)) w') :
    if Region.wanted o (yielded ops a.tmps) = true then Oper.wp P o a (w.alloc (.cells news.toArray tE)) K Q else EE := by
  obtain ⟨i, hi, hz, hsize, hbytes⟩ := info_parts E.hi
  have hlt := hown.lt
  refine step_append_lies _ hgd s x tS ho base tE i z sz by_ E.ht hi hz hsize hbytes E.hzs E.hsz v n xs hs (hown.alloc _) ⟨w.heap.size, 0, none⟩ m m news hx hl ?_ h1 hm h63 hby (by simp; omega) _ rfl ?_
  · intro j u hu
    rw [Addr.add_lit]
    unfold World.cell?
    rw [show (w.alloc (.cells news.toArray tE)).heap[w.heap.size]? = _ from heap_alloc_new w _]
    simp [hu]
  · intro g cap w' ho' hg _ _
    refine h g cap w' ho' ?_ ⟨(grownBy_alloc_trans hg).1, (grownBy_alloc_trans hg).2, .inr (by simp)⟩
    exact (hb.alloc (by omega) _).grown hg (by simp; omega) (fun k hk => by have := (hlt k hk).1; omega)

/-- append of a string's bytes, as a step of a region that draws. -/
theorem step_str {P : Program} {tS tE tu : Nat} (E : ElemT P tS tE (.int .u8 0) 1 1) (hu : P.underlying tu = some .string) {ops : Array Oper} {o : Oper} {a : Act} {K : Act → World → Prop} {Q : Exit → Act → World → Prop} {EE : Prop}
    (hgd : o.guard = none) (sl x : Operand) (ho : o.op = .call { callee := .builtin .append, args := #[sl, x], argTypes := #[tS, tu] }) {w : World} {base : Nat} {v : Value} {n : Nat} {xs : List Value}
    (hs : a.eval sl = v) (hown : w.ownsRow base tE 1 v n xs) (s : ByteArray) (hx : a.eval x = .string s) (hby : n + s.size ≤ 140737488355328) (hbase : base ≤ w.heap.size) {B : Nat} {w0 : World} (hb : Below B w0 w) (hB : B ≤ base)
    (h : ∀ v' w', w'.ownsRow base tE 1 v' (n + s.size) (xs ++ Lib.strCells s) → Below B w0 w' → w.grownBy w' v.ownBlock → K (a.put o.dst v') w') :
    if Region.wanted o (yielded ops a.tmps) = true then Oper.wp P o a w K Q else EE := by
  obtain ⟨i, hi, hz, hsize, hbytes⟩ := info_parts E.hi
  have hlt := hown.lt
  have hw : Region.wanted o (yielded ops a.tmps) = true := by simp [Region.wanted, hgd]
  rw [if_pos hw]
  obtain ⟨v', w', hr, h2, h3, _⟩ := Lib.run_append_own_string (P := P) w base tS tu o.type tE i E.ht hu hi hz hsize hbytes v n xs hown s (by unfold maxLen; omega) hby hbase
  unfold Oper.wp execOp
  simp only [ho, resolve, invoke, builtin, Sem.run_bind, Sem.run_pure, Result.andThen_ok, List.map_toArray, List.map_cons, List.map_nil, hs, hx, hr]
  exact h v' w' h2 (hb.grown h3 (by omega) (fun k hk => by have := (hlt k hk).1; omega)) h3

/-- append of a string's bytes. -/
theorem own_bytes {P : Program} {w : World} {base e : Nat} {v : Value} {n : Nat} (l : List UInt8) (h : w.ownsRow base e 1 v n (Lib.byteCells l)) (src : Nat) (hs : P.underlying src = some (.slice e)) (he : P.underlying e = some (.int .u8)) :
    ∀ dst, P.underlying dst = some .string → (convert src dst v).run P w = .ok (.string ⟨l.toArray⟩) w := by
  intro dst hd
  have hn : l.length = n := by have := h.1; simpa [Lib.byteCells] using this
  rcases h.2 with ⟨rfl, h0⟩ | ⟨g, cap, cur, rfl, hb, hg, hnc, hcm, hcs, htake⟩
  · rw [run_convert_bytes_nil w src e hs he 0 0 dst hd]
    have : l = [] := List.length_eq_zero_iff.1 (by omega)
    subst this; rfl
  · have := run_convert_bytes_arg (P := P) w src e hs he g 0 n cap (l.map fun b => (b.toNat : Int)) (by simpa using hn) (fun i hi => by
      have := World.ownsRow.cellAt h i (by omega)
      rw [Nat.zero_add, this]
      simp [Lib.byteCells, hn, hi]) dst hd
    rw [this]
    congr 2
    apply ByteArray.ext
    simp [strOfNums]
    have : (fun n : Int => UInt8.ofNat n.toNat) ∘ (fun b : UInt8 => (b.toNat : Int)) = id := by funext b; simp
    rw [this]; simp

/-- A slice's cells, where something is appended from. -/
def Src (w : World) (v : Value) (n sz : Nat) (xs : List Value) : Prop :=
  xs.length = n * sz ∧ ((v = .slice none 0 0 ∧ n = 0) ∨ ∃ ad c, v = .slice (some ad) n c ∧ ∀ j u, xs[j]? = some u → w.cell? (ad.add j) = some u)

/-- append of another slice's elements. -/
theorem app_src {P : Program} {tS tE : Nat} {z : Value} {sz by_ : Nat} (E : ElemT P tS tE z sz by_) {ops : Array Oper} {rest : List Oper} {o : Oper} {a : Act} {Q : Exit → Act → World → Prop}
    (hgd : o.guard = none) (s x : Operand) (ho : o.op = .call { callee := .builtin .append, args := #[s, x], argTypes := #[tS, tS] }) {w : World} {base : Nat} {v vx : Value} {n m : Nat} {xs news : List Value}
    (hs : a.eval s = v) (hown : w.ownsRow base tE sz v n xs) (hx : a.eval x = vx) (hsrc : Src w vx m sz news)
    (h1 : ∀ u ∈ news, u.oneCell' = true) (hby : (n + m) * by_ ≤ 140737488355328) (h63 : n + m ≤ maxLen) (hbase : base ≤ w.heap.size) {B : Nat} {w0 : World} (hb : Below B w0 w) (hB : B ≤ base)
    (h : ∀ v' w', w'.ownsRow base tE sz v' (n + m) (xs ++ news) → Below B w0 w' → w.grownBy w' v.ownBlock → wpList P ops Q rest (a.put o.dst v') w') :
    wpList P ops Q (o :: rest) a w := by
  obtain ⟨i, hi, hz, hsize, hbytes⟩ := info_parts E.hi
  have hlt := hown.lt
  obtain ⟨hl, hc⟩ := hsrc
  rcases hc with ⟨rfl, rfl⟩ | ⟨ad, c, rfl, hcells⟩
  · have hnews : news = [] := List.eq_nil_of_length_eq_zero (by simpa using hl)
    subst hnews
    refine wpList_plain hgd fun K hK' => ?_
    have hrun := run_append_owned_none (P := P) w base tS o.type tE i sz E.ht hi v n xs hown
    unfold Oper.wp
    simp [execOp, ho, resolve, invoke, builtin, hs, hx, hrun, Result.andThen]
    exact hK' _ _ (h v w (by simpa using hown) hb ⟨rfl, rfl, rfl, Nat.le_refl _, fun _ _ _ => rfl⟩)
  · refine wpList_append_own _ hgd s x tS ho base tE i z sz by_ E.ht hi hz hsize hbytes E.hzs E.hsz v n xs hs hown ad m c news hx hl hcells h1 h63 hby hbase ?_
    intro v' w' ho' hg _
    exact h v' w' ho' (hb.grown hg (by omega) (fun k hk => by have := (hlt k hk).1; omega)) hg

/-- The cells of an owned slice that is not empty. -/
theorem own_cells {w : World} {base e sz : Nat} {v : Value} {n : Nat} {xs : List Value} (h : w.ownsRow base e sz v n xs) (hn : 0 < n) :
    ∃ g cap, v = .slice (some ⟨g, 0, none⟩) n cap ∧ base ≤ g ∧ g < w.heap.size ∧ n ≤ cap ∧ cap ≤ maxLen ∧ (∀ j, j < n * sz → w.cell? ⟨g, j, none⟩ = xs[j]?) ∧ (∀ j, w.frozen? ⟨g, j, none⟩ = false) := by
  rcases h.2 with ⟨rfl, h0⟩ | ⟨g, cap, cur, rfl, hb, hg, hnc, hcm, hcs, htake⟩
  · omega
  · exact ⟨g, cap, rfl, hb, (Array.getElem?_eq_some_iff.1 hg).1, hnc, hcm, fun j hj => World.ownsRow.cellAt h j hj, fun j => World.ownsRow.frozenAt h j⟩

/-- The length of an owned slice's value. -/
theorem own_len {w : World} {base e sz : Nat} {v : Value} {n : Nat} {xs : List Value} (h : w.ownsRow base e sz v n xs) : ∃ a c, v = .slice a n c := by
  rcases h.2 with ⟨rfl, rfl⟩ | ⟨g, cap, cur, rfl, _⟩
  · exact ⟨_, _, rfl⟩
  · exact ⟨_, _, rfl⟩

end Go.Proofs.Ytaiomcjopgnfpaa

namespace Go.Proofs.Ytaiomcjopgnfpaa
open Go.RowKit

theorem el_u8 : ElemT Try.prog 126 5 (.int .u8 0) 1 1 := ⟨Try.underlying126, by kernel_rfl, rfl, by decide⟩
theorem el_str : ElemT Try.prog 153 9 (.string ⟨#[]⟩) 1 16 := ⟨Try.underlying153, by kernel_rfl, rfl, by decide⟩
theorem el_int : ElemT Try.prog 169 3 (.int .i64 0) 1 8 := ⟨Try.underlying169, by kernel_rfl, rfl, by decide⟩
theorem el_node : ElemT Try.prog 100 99 (.pointer none) 1 8 := ⟨Try.underlying100, by kernel_rfl, rfl, by decide⟩
theorem el_rnode : ElemT Try.prog 113 63 (.pointer none) 1 8 := ⟨Try.underlying113, by kernel_rfl, rfl, by decide⟩
theorem el_ins : ElemT Try.prog 25 52 (.agg #[.int .i64 0, .int .i64 0, .int .i64 0, .int .i64 0, .string ⟨#[]⟩]) 5 48 := ⟨Try.underlying25, by kernel_rfl, rfl, by decide⟩

end Go.Proofs.Ytaiomcjopgnfpaa

namespace Go.Proofs.Ytaiomcjopgnfpaa

/-- Trees. -/
inductive Tr where
  | nil
  | pair (h t : Tr)
  deriving DecidableEq, Inhabited

namespace Tr
/-- The characters of a tree. -/
def enc : Tr → List UInt8
  | nil => [48]
  | pair h t => 49 :: (enc h ++ enc t)
def size : Tr → Nat
  | nil => 1
  | pair h t => 1 + size h + size t
theorem enc_length (t : Tr) : t.enc.length = t.size := by
  induction t with
  | nil => rfl
  | pair h t ih1 ih2 => simp [enc, size, ih1, ih2]; omega
theorem size_pos (t : Tr) : 1 ≤ t.size := by cases t <;> simp [size] <;> omega
end Tr

/-- How many bytes the next 'open' trees take; none: they do not end. -/
def endF : List UInt8 → Nat → Option Nat
  | _, 0 => some 0
  | [], _ + 1 => none
  | c :: l, o + 1 => if c = 49 then (endF l (o + 2)).map (· + 1) else if c = 48 then (endF l o).map (· + 1) else none

theorem endF_le (l : List UInt8) : ∀ o k, endF l o = some k → k ≤ l.length := by
  induction l with
  | nil => intro o k h; cases o <;> simp [endF] at h; omega
  | cons c l ih =>
    intro o k h
    cases o with
    | zero => simp [endF] at h; omega
    | succ o =>
      simp only [endF] at h
      split at h
      · cases e : endF l (o + 2) with
        | none => simp [e] at h
        | some j => simp [e] at h; have := ih _ _ e; simp; omega
      · split at h
        · cases e : endF l o with
          | none => simp [e] at h
          | some j => simp [e] at h; have := ih _ _ e; simp; omega
        · simp at h

theorem endF_enc (t : Tr) : ∀ (l : List UInt8) (o : Nat), endF (t.enc ++ l) (o + 1) = (endF l o).map (· + t.size) := by
  induction t with
  | nil => intro l o; simp [Tr.enc, endF, Tr.size]
  | pair h t ih1 ih2 =>
    intro l o
    have e : endF (h.enc ++ (t.enc ++ l)) (o + 2) = (endF (t.enc ++ l) (o + 1)).map (· + h.size) := ih1 _ _
    simp only [Tr.enc, List.cons_append, List.append_assoc, endF, if_true, e, ih2, Tr.size]
    cases endF l o <;> simp; omega

/-- What ends is a row of trees. -/
theorem endF_trees (l : List UInt8) : ∀ o k, endF l o = some k → ∃ ts : List Tr, ts.length = o ∧ l.take k = (ts.map Tr.enc).flatten := by
  induction l with
  | nil => intro o k h; cases o <;> simp [endF] at h; subst h; exact ⟨[], rfl, rfl⟩
  | cons c l ih =>
    intro o k h
    cases o with
    | zero => simp [endF] at h; subst h; exact ⟨[], rfl, rfl⟩
    | succ o =>
      simp only [endF] at h
      split at h
      · rename_i hc
        cases e : endF l (o + 2) with
        | none => simp [e] at h
        | some j =>
          simp [e] at h; subst h
          obtain ⟨ts, hl, ht⟩ := ih _ _ e
          match ts, hl with
          | a :: b :: ts, hl =>
            refine ⟨.pair a b :: ts, by simpa using hl, ?_⟩
            simp [ht, Tr.enc, hc]
      · split at h
        · rename_i hc
          cases e : endF l o with
          | none => simp [e] at h
          | some j =>
            simp [e] at h; subst h
            obtain ⟨ts, hl, ht⟩ := ih _ _ e
            exact ⟨.nil :: ts, by simpa using hl, by simp [ht, Tr.enc, hc]⟩
        · simp at h

theorem endF_one {l : List UInt8} {k : Nat} (h : endF l 1 = some k) : ∃ t : Tr, l.take k = t.enc ∧ k = t.size := by
  obtain ⟨ts, hl, ht⟩ := endF_trees l 1 k h
  match ts, hl with
  | [t], _ =>
    refine ⟨t, by simpa using ht, ?_⟩
    have h1 := congrArg List.length ht
    have h2 := endF_le _ _ _ h
    simp [Tr.enc_length] at h1
    omega

end Go.Proofs.Ytaiomcjopgnfpaa

namespace Go.Proofs.Ytaiomcjopgnfpaa

/-- A number as a tree. -/
def Tr.num : Nat → Tr | 0 => .nil | n + 1 => .pair .nil (Tr.num n)
def rep10 (n : Nat) : List UInt8 := Lib.repeatL [49, 48] n
theorem rep10_succ (n : Nat) : rep10 (n + 1) = rep10 n ++ [49, 48] := by
  induction n with
  | zero => rfl
  | succ n ih => show [49, 48] ++ rep10 (n + 1) = [49, 48] ++ rep10 n ++ [49, 48]; rw [ih, List.append_assoc]
theorem rep10_length (n : Nat) : (rep10 n).length = 2 * n := by unfold rep10; rw [Lib.repeatL_length]; simp; omega
theorem enc_num (n : Nat) : (Tr.num n).enc = rep10 n ++ [48] := by
  induction n with
  | zero => rfl
  | succ n ih => simp only [Tr.num, Tr.enc, ih]; rfl
theorem size_num (n : Nat) : (Tr.num n).size = 2 * n + 1 := by rw [← Tr.enc_length, enc_num]; simp [rep10_length]

theorem enc_cons (t : Tr) : ∃ c l, t.enc = c :: l ∧ (c = 48 ∧ t = .nil ∧ l = [] ∨ c = 49 ∧ ∃ a b, t = .pair a b ∧ l = a.enc ++ b.enc) := by
  cases t with
  | nil => exact ⟨48, [], rfl, .inl ⟨rfl, rfl, rfl⟩⟩
  | pair a b => exact ⟨49, _, rfl, .inr ⟨rfl, a, b, rfl, rfl⟩⟩

/-- What begins with '10' n times and has one character more is the number n. -/
theorem num_of_rep (n : Nat) : ∀ (t : Tr) (c : UInt8), t.enc = rep10 n ++ [c] → t = .num n := by
  induction n with
  | zero =>
    intro t c h
    obtain ⟨d, l, h1, h2⟩ := enc_cons t
    rcases h2 with ⟨_, rfl, _⟩ | ⟨_, a, b, rfl, h3⟩
    · rfl
    · have h4 := congrArg List.length h
      have := a.size_pos
      have := b.size_pos
      simp [Tr.enc, rep10, Lib.repeatL, Tr.enc_length] at h4; omega
  | succ n ih =>
    intro t c h
    have h' : t.enc = 49 :: 48 :: (rep10 n ++ [c]) := h
    obtain ⟨d, l, h1, h2⟩ := enc_cons t
    rcases h2 with ⟨rfl, rfl, rfl⟩ | ⟨rfl, a, b, rfl, h3⟩
    · simp [Tr.enc] at h'
    · simp only [Tr.enc, List.cons.injEq, true_and] at h'
      obtain ⟨d2, l2, h4, h5⟩ := enc_cons a
      rcases h5 with ⟨rfl, rfl, rfl⟩ | ⟨rfl, a1, b1, rfl, h6⟩
      · simp only [Tr.enc, List.cons_append, List.nil_append, List.cons.injEq, true_and] at h'
        rw [ih b c h']; rfl
      · rw [h4] at h'; simp at h'

theorem enc_inj_app (t : Tr) : ∀ (u : Tr) (l m : List UInt8), t.enc ++ l = u.enc ++ m → t = u ∧ l = m := by
  induction t with
  | nil =>
    intro u l m h
    cases u with
    | nil => simpa [Tr.enc] using h
    | pair a b => simp [Tr.enc] at h
  | pair a b iha ihb =>
    intro u l m h
    cases u with
    | nil => simp [Tr.enc] at h
    | pair c d =>
      simp only [Tr.enc, List.cons_append, List.append_assoc, List.cons.injEq, true_and] at h
      obtain ⟨rfl, h2⟩ := iha _ _ _ h
      obtain ⟨rfl, h3⟩ := ihb _ _ _ h2
      exact ⟨rfl, h3⟩
theorem enc_inj {t u : Tr} (h : t.enc = u.enc) : t = u := (enc_inj_app t u [] [] (by rw [h])).1

/-- The trees of which a string is the row, read from the right. -/
def pf : List UInt8 → Option (List Tr)
  | [] => some []
  | c :: l => match pf l with
    | none => none
    | some ts => if c = 48 then some (.nil :: ts) else if c = 49 then (match ts with | a :: b :: r => some (.pair a b :: r) | _ => none) else none
theorem pf_48 {l : List UInt8} {ts : List Tr} (h : pf l = some ts) : pf (48 :: l) = some (.nil :: ts) := by simp [pf, h]
theorem pf_49 {l : List UInt8} {a b : Tr} {ts : List Tr} (h : pf l = some (a :: b :: ts)) : pf (49 :: l) = some (.pair a b :: ts) := by simp [pf, h]
theorem pf_none {l : List UInt8} (c : UInt8) (h : pf l = none) : pf (c :: l) = none := by simp [pf, h]
theorem pf_49_few {l : List UInt8} {ts : List Tr} (h : pf l = some ts) (hl : ts.length < 2) : pf (49 :: l) = none := by
  match ts, hl with
  | [], _ => simp [pf, h]
  | [a], _ => simp [pf, h]
theorem pf_else {l : List UInt8} {c : UInt8} (h8 : c ≠ 48) (h9 : c ≠ 49) : pf (c :: l) = none := by
  cases h : pf l <;> simp [pf, h, h8, h9]
theorem pf_enc (t : Tr) : ∀ l, pf (t.enc ++ l) = (pf l).map (t :: ·) := by
  induction t with
  | nil => intro l; cases h : pf l <;> simp [Tr.enc, pf, h]
  | pair a b iha ihb =>
    intro l
    cases h : pf l with
    | none => simp only [Tr.enc, List.cons_append, List.append_assoc]; rw [pf_none]; rfl; rw [iha, ihb, h]; rfl
    | some ts => simp only [Tr.enc, List.cons_append, List.append_assoc]; rw [pf_49 (a := a) (b := b) (ts := ts)]; rfl; rw [iha, ihb, h]; rfl
theorem pf_one (t : Tr) : pf t.enc = some [t] := by have := pf_enc t []; simpa [pf] using this
theorem pf_flat (l : List UInt8) : ∀ ts, pf l = some ts → l = (ts.map Tr.enc).flatten := by
  induction l with
  | nil => intro ts h; simp [pf] at h; subst h; rfl
  | cons c l ih =>
    intro ts h
    cases hl : pf l with
    | none => simp [pf, hl] at h
    | some us =>
      have e := ih us hl
      by_cases h8 : c = 48
      · subst h8; rw [pf_48 hl] at h; cases h; simp [Tr.enc, ← e]
      · by_cases h9 : c = 49
        · subst h9
          match us, hl, e with
          | a :: b :: r, hl, e => rw [pf_49 hl] at h; cases h; simp [Tr.enc, e]
          | [], hl, e => rw [pf_49_few hl (by simp)] at h; cases h
          | [a], hl, e => rw [pf_49_few hl (by simp)] at h; cases h
        · rw [pf_else h8 h9] at h; cases h
theorem pf_drop (l : List UInt8) (ts : List Tr) (h : pf l = some ts) : ∀ i, ∃ us, pf (l.drop i) = some us := by
  intro i
  induction l generalizing ts i with
  | nil => exact ⟨[], by simp [pf]⟩
  | cons c l ih =>
    cases i with
    | zero => exact ⟨ts, h⟩
    | succ i =>
      cases hl : pf l with
      | none => simp [pf, hl] at h
      | some us => simpa using ih us hl i
/-- How many trees a string's end may be. -/
theorem pf_length (l : List UInt8) : ∀ ts, pf l = some ts → ts.length ≤ l.length := by
  induction l with
  | nil => intro ts h; simp [pf] at h; subst h; simp
  | cons c l ih =>
    intro ts h
    cases hl : pf l with
    | none => simp [pf, hl] at h
    | some us =>
      have e := ih us hl
      by_cases h8 : c = 48
      · subst h8; rw [pf_48 hl] at h; cases h; simp; omega
      · by_cases h9 : c = 49
        · subst h9
          match us, hl, e with
          | a :: b :: r, hl, e => rw [pf_49 hl] at h; cases h; simp at e ⊢; omega
          | [], hl, e => rw [pf_49_few hl (by simp)] at h; cases h
          | [a], hl, e => rw [pf_49_few hl (by simp)] at h; cases h
        · rw [pf_else h8 h9] at h; cases h

/-- The depth of a tree. -/
def Tr.depth : Tr → Nat | .nil => 0 | .pair a b => 1 + max a.depth b.depth
theorem Tr.depth_le (t : Tr) : t.depth ≤ t.size := by
  induction t with
  | nil => simp [depth]
  | pair a b iha ihb => simp only [depth, size]; omega

end Go.Proofs.Ytaiomcjopgnfpaa

namespace Go.Proofs.Ytaiomcjopgnfpaa
open Go.RowKit

theorem drop_cons (s : ByteArray) (k : Nat) (h : k < s.size) : s.data.toList.drop k = s[k] :: s.data.toList.drop (k + 1) := by
  rw [List.drop_eq_getElem_cons (by simpa using h)]; rfl

/-- What End returns, as a place. -/
def endI (s : ByteArray) (p q : Nat) : Int := match endF (s.data.toList.drop p) q with | none => -1 | some k => (p + k : Nat)
def EndRel (s : ByteArray) (p k q : Nat) : Prop := endI s p 1 = endI s k q
theorem endI_zero (s : ByteArray) (k : Nat) : endI s k 0 = k := by
  unfold endI; cases s.data.toList.drop k <;> simp [endF]
theorem endI_out (s : ByteArray) (k q : Nat) (h : s.size ≤ k) : endI s k (q + 1) = -1 := by
  unfold endI; rw [List.drop_eq_nil_of_le (by simpa using h)]; rfl
theorem endI_49 (s : ByteArray) (k q : Nat) (h : k < s.size) (hc : (s[k].toNat : Int) = 49) : endI s k (q + 1) = endI s (k + 1) (q + 2) := by
  have h' : s[k] = 49 := UInt8.toNat_inj.1 (by have : (49 : UInt8).toNat = 49 := rfl; omega)
  unfold endI; rw [drop_cons s k h, endF, if_pos h']
  cases endF (s.data.toList.drop (k + 1)) (q + 2) <;> simp; omega
theorem endI_48 (s : ByteArray) (k q : Nat) (h : k < s.size) (hc : (s[k].toNat : Int) = 48) : endI s k (q + 1) = endI s (k + 1) q := by
  have h' : s[k] = 48 := UInt8.toNat_inj.1 (by have : (48 : UInt8).toNat = 48 := rfl; omega)
  unfold endI; rw [drop_cons s k h, endF, if_neg (by rw [h']; decide), if_pos h']
  cases endF (s.data.toList.drop (k + 1)) q <;> simp; omega
theorem endI_else (s : ByteArray) (k q : Nat) (h : k < s.size) (h9 : ¬ (s[k].toNat : Int) = 49) (h8 : ¬ (s[k].toNat : Int) = 48) : endI s k (q + 1) = -1 := by
  have a9 : ¬ s[k] = 49 := fun e => h9 (by rw [e]; rfl)
  have a8 : ¬ s[k] = 48 := fun e => h8 (by rw [e]; rfl)
  unfold endI; rw [drop_cons s k h, endF, if_neg a9, if_neg a8]

set_option maxHeartbeats 400000 in
theorem refEnd_any (s : ByteArray) (p : Nat) (hp : p ≤ s.size) (hs : s.size ≤ 281474976710656) (w : World) :
    Calls Try.prog 78 #[.string s, .int .i64 p] w fun e w' => e = .returned (.int .i64 (endI s p 1)) ∧ w = w' := by
  go_enter Try.func78, Try.ntmps78
  go_wp2
  go_loop [1, 5] (fun i o => ∃ k q : Nat, k ≤ s.size ∧ q ≤ k + 1 ∧ i = .int .i64 k ∧ o = .int .i64 q ∧ EndRel s p k q) (fun i _ => s.size - (intOf i).toNat)
  case atStart => exact ⟨p, 1, hp, by omega, rfl, rfl, rfl⟩
  case round =>
    obtain ⟨k, q, hk, hq, rfl, rfl, hv⟩ := hrel
    by_cases hq0 : 0 < q
    · obtain ⟨q, rfl⟩ : ∃ m, q = m + 1 := ⟨q - 1, by omega⟩
      by_cases hlt : k < s.size
      · by_cases h9 : (s[k].toNat : Int) = 49
        · have hn := hv.trans (endI_49 s k q hlt h9)
          go_wp2
          go_round
          case rel => exact ⟨k + 1, q + 2, by omega, by omega, by go_num, by go_num, hn⟩
          case measure => simp [intOf]; omega
        · by_cases h8 : (s[k].toNat : Int) = 48
          · have hn := hv.trans (endI_48 s k q hlt h8)
            go_wp2
            go_round
            case rel => exact ⟨k + 1, q, by omega, by omega, by go_num, by go_num, hn⟩
            case measure => simp [intOf]; omega
          · have hn := Lib.hid (hv.trans (endI_else s k q hlt h9 h8))
            have b9 : ((s[k].toNat : Int) != 49) = true := bne_iff_ne.2 h9
            have b8 : ((s[k].toNat : Int) != 48) = true := bne_iff_ne.2 h8
            go_wp2
            go_ret
            exact ⟨by rw [hn.out]; rfl, rfl⟩
      · have hn := Lib.hid (hv.trans (endI_out s k q (by omega)))
        go_wp2
        go_ret
        exact ⟨by rw [hn.out]; rfl, rfl⟩
    · have e : q = 0 := by omega
      subst e
      have hn := Lib.hid (hv.trans (endI_zero s k))
      go_wp2
      go_ret
      exact ⟨by rw [hn.out]; rfl, rfl⟩

/-! ### A range over a string, at whatever bytes -/
theorem decode_high (s : ByteArray) (pos : Nat) (h : pos < s.size) (ha : ¬ (s[pos]'h).toNat < 128) : 128 ≤ (Utf8.decode s pos).1 := by
  have e : s.get! (pos + 0) = s[pos]'h := by
    show s.get! pos = _
    simp [ByteArray.get!, getElem!_pos, h]
    rfl
  simp only [Utf8.decode, e, ha, if_false, Utf8.runeError]
  repeat' split
  all_goals simp_all
  all_goals omega

theorem run_next_any {P : Program} (w : World) (s : ByteArray) (pos : Nat) (ty : TypeId) (h : pos < s.size) :
    (Instr.next (.pointer (some ⟨w.heap.size, 0, none⟩)) true ty).run P (w.iter s pos) =
      .ok (.tuple #[.bool true, .int .i64 pos, .int .i32 (Utf8.decode s pos).1]) (w.iter s (pos + (Utf8.decode s pos).2)) := by
  simp only [Instr.next, getObj, setObj, Sem.run_bind, Sem.run, World.iter_heap, Result.andThen, h, if_true, World.iter_set]
  simp [goInt]

/-- What tree.end returns. -/
def tEndI (s : ByteArray) (p : Nat) : Int := if endI (s.extract p s.size) 0 1 = -1 then 0 else p + endI (s.extract p s.size) 0 1
def tEndB (s : ByteArray) (p : Nat) : Bool := !decide (endI (s.extract p s.size) 0 1 = -1)

theorem below_iter (w : World) (t : ByteArray) (k : Nat) : Below w.heap.size w (w.iter t k) := (Below.refl _ _).alloc (Nat.le_refl _) _

theorem ret_ib {a b : Int} {c d : Bool} (h : a = b) (h' : c = d) : Ending.returned (.tuple #[.int .i64 a, .bool c]) = .returned (.tuple #[.int .i64 b, .bool d]) := by rw [h, h']

set_option maxHeartbeats 400000 in
theorem treeEnd_any (s : ByteArray) (p : Nat) (hp : p ≤ s.size) (hs : s.size ≤ 281474976710656) (w : World) :
    Calls Try.prog 118 #[.string s, .int .i64 p] w fun e w' => e = .returned (.tuple #[.int .i64 (tEndI s p), .bool (tEndB s p)]) ∧ Below w.heap.size w w' := by
  obtain ⟨t, ht⟩ : ∃ t, s.extract p s.size = t := ⟨_, rfl⟩
  have hsz : t.size ≤ s.size := by rw [← ht]; simp
  have hsp : p + t.size ≤ s.size := by rw [← ht]; simp; omega
  obtain ⟨r1, hr1⟩ : ∃ r, tEndI s p = r := ⟨_, rfl⟩
  obtain ⟨r2, hr2⟩ : ∃ r, tEndB s p = r := ⟨_, rfl⟩
  rw [hr1, hr2]
  unfold tEndI at hr1
  unfold tEndB at hr2
  rw [ht] at hr1 hr2
  have H1 := Lib.hid hr1; clear hr1
  have H2 := Lib.hid hr2; clear hr2
  go_enter Try.func118, Try.ntmps118
  go_wp2
  clear ht
  go_loopg [6] t.size (fun g o wr => ∃ k q : Nat, k ≤ t.size ∧ g = t.size - k ∧ 1 ≤ q ∧ q ≤ k + 1 ∧ o = .int .i64 q ∧ EndRel t 0 k q ∧ wr = w.iter t k)
  case atStart => exact ⟨0, 1, by omega, rfl, by omega, by omega, rfl, rfl, rfl⟩
  case round =>
    obtain ⟨k, q, hk, hg, hq1, hq, rfl, hv, rfl⟩ := hrel
    have HG := Lib.hid hg; clear hg
    obtain ⟨q, rfl⟩ : ∃ m, q = m + 1 := ⟨q - 1, by omega⟩
    by_cases hlt : k < t.size
    · by_cases h9 : (t[k].toNat : Int) = 49
      · have hn : EndRel t 0 (k + 1) (q + 2) := hv.trans (endI_49 t k q hlt h9)
        have hnx := fun ty => run_next_ascii (P := Try.prog) w t k ty hlt (by omega)
        have hne : ((q : Int) + 2 == 0) = false := beq_eq_false_iff_ne.2 (by omega)
        go_wp2
        go_roundg (t.size - (k + 1))
        case measure => rw [HG.out]; omega
        case rel => exact ⟨k + 1, q + 2, by omega, rfl, by omega, by omega, by go_num, hn, rfl⟩
      · by_cases h8 : (t[k].toNat : Int) = 48
        · have hnx := fun ty => run_next_ascii (P := Try.prog) w t k ty hlt (by omega)
          have hn := hv.trans (endI_48 t k q hlt h8)
          by_cases hq0 : q = 0
          · subst hq0
            have hz := hn.trans (endI_zero t (k + 1))
            have HZ := Lib.hid hz; clear hz hn
            go_wp2
            go_ret2
            refine ⟨ret_ib ?_ ?_, below_iter _ _ _⟩
            · rw [← H1.out, HZ.out, if_neg (by omega)]; omega
            · rw [← H2.out, HZ.out]; simp; omega
          · have hne : ((q : Int) == 0) = false := beq_eq_false_iff_ne.2 (by omega)
            go_wp2
            go_roundg (t.size - (k + 1))
            case measure => rw [HG.out]; omega
            case rel => exact ⟨k + 1, q, by omega, rfl, by omega, by omega, by go_num, hn, rfl⟩
        · have hn := Lib.hid (hv.trans (endI_else t k q hlt h9 h8))
          have hnx := fun ty => run_next_any (P := Try.prog) w t k ty hlt
          have hd : ¬ (Utf8.decode t k).1 = 49 ∧ ¬ (Utf8.decode t k).1 = 48 := by
            by_cases ha : t[k].toNat < 128
            · rw [decode_ascii t k hlt ha]; omega
            · have := decode_high t k hlt ha; omega
          have d9 : (((Utf8.decode t k).1 : Int) == 49) = false := beq_eq_false_iff_ne.2 (by omega)
          have d8 : (((Utf8.decode t k).1 : Int) == 48) = false := beq_eq_false_iff_ne.2 (by omega)
          clear hd
          go_wp2
          go_ret2
          refine ⟨ret_ib ?_ ?_, below_iter _ _ _⟩
          · rw [← H1.out, hn.out, if_pos rfl]
          · rw [← H2.out, hn.out]; rfl
    · have hn := Lib.hid (hv.trans (endI_out t k q (by omega)))
      have hnx := fun ty => run_next_end (P := Try.prog) w t k ty hlt
      go_wp2
      go_ret2
      refine ⟨ret_ib ?_ ?_, below_iter _ _ _⟩
      · rw [← H1.out, hn.out, if_pos rfl]
      · rw [← H2.out, hn.out]; rfl

end Go.Proofs.Ytaiomcjopgnfpaa

namespace Go.Proofs.Ytaiomcjopgnfpaa
open Go.RowKit

/-- A string is a valid tree. -/
def isTree (s : ByteArray) : Bool := decide (s.size ≤ 2000000) && decide (endI s 0 1 = s.size)

theorem endI_spec (s : ByteArray) : endI s 0 1 = -1 ∨ ∃ t : Tr, ∃ r, s.data.toList = t.enc ++ r ∧ endI s 0 1 = t.size := by
  unfold endI
  cases h : endF (s.data.toList.drop 0) 1 with
  | none => exact .inl rfl
  | some k =>
    obtain ⟨t, h1, h2⟩ := endF_one h
    refine .inr ⟨t, s.data.toList.drop k, ?_, by simp [h2]⟩
    rw [← h1]; simp

/-- A valid tree is the characters of a tree. -/
theorem isTree_iff (s : ByteArray) : isTree s = true ↔ ∃ t : Tr, s = ⟨t.enc.toArray⟩ ∧ t.size ≤ 2000000 := by
  unfold isTree
  simp only [Bool.and_eq_true, decide_eq_true_eq]
  constructor
  · rintro ⟨h1, h2⟩
    rcases endI_spec s with h | ⟨t, r, h3, h4⟩
    · omega
    · have h5 : s.data.toList.length = t.size + r.length := by rw [h3]; simp [Tr.enc_length]
      have h6 : s.data.toList.length = s.size := by simp
      have h7 : r = [] := List.length_eq_zero_iff.1 (by omega)
      subst h7
      have h8 : s.size = t.size := by simp at h5; omega
      exact ⟨t, by cases s; simp at h3; simp [← h3], by omega⟩
  · rintro ⟨t, rfl, h⟩
    have hsz : (⟨t.enc.toArray⟩ : ByteArray).size = t.size := by show t.enc.toArray.size = _; simp [Tr.enc_length]
    refine ⟨by omega, ?_⟩
    have := endF_enc t [] 0
    simp [endF] at this
    simp [endI, this, hsz]

theorem refEnd_0 (s : ByteArray) (hs : s.size ≤ 281474976710656) (w : World) :
    Calls Try.prog 78 #[.string s, .int .i64 0] w fun e w' => e = .returned (.int .i64 (endI s 0 1)) ∧ w = w' := refEnd_any s 0 (Nat.zero_le _) hs w

set_option maxHeartbeats 400000 in
theorem refValid_any (s : ByteArray) (hs : s.size ≤ 281474976710656) (w : World) :
    Calls Try.prog 27 #[.string s] w fun e w' => e = .returned (.bool (isTree s)) ∧ w = w' := by
  by_cases h : s.size ≤ 2000000
  · have hv : isTree s = (endI s 0 1 == (s.size : Int)) := by unfold isTree; rw [decide_eq_true h]; simp [BEq.beq]
    rw [hv]; clear hv
    go_enter Try.func27, Try.ntmps27
    go_wp2_with (go_at_call 78; refine (refEnd_0 s hs _).mono ?_; rintro e w' ⟨rfl, rfl⟩)
    go_ret
    exact ⟨rfl, rfl⟩
  · have hv : isTree s = false := by unfold isTree; rw [decide_eq_false h]; rfl
    rw [hv]; clear hv
    go_enter Try.func27, Try.ntmps27
    go_wp2
    go_ret
    exact ⟨rfl, rfl⟩

theorem treeEnd_0 (s : ByteArray) (hs : s.size ≤ 281474976710656) (w : World) :
    Calls Try.prog 118 #[.string s, .int .i64 0] w fun e w' => e = .returned (.tuple #[.int .i64 (tEndI s 0), .bool (tEndB s 0)]) ∧ Below w.heap.size w w' := treeEnd_any s 0 (Nat.zero_le _) hs w

set_option maxHeartbeats 400000 in
theorem treeValid_any (s : ByteArray) (hs : s.size ≤ 281474976710656) (w : World) :
    Calls Try.prog 86 #[.string s] w fun e w' => e = .returned (.bool (isTree s)) ∧ Below w.heap.size w w' := by
  by_cases h : s.size ≤ 2000000
  · have hex : s.extract 0 s.size = s := by simp
    have hv : isTree s = (tEndB s 0 && (tEndI s 0 == (s.size : Int))) := by
      unfold isTree tEndB tEndI; rw [hex, decide_eq_true h]
      by_cases e : endI s 0 1 = -1
      · simp [e]
      · simp [e, BEq.beq]
    rw [hv]; clear hv hex
    have HH := Lib.hid h; clear h
    cases hb : tEndB s 0 with
    | false =>
      have hl : ¬ (2000000 : Int) < s.size := by have := HH.out; omega
      go_enter Try.func86, Try.ntmps86
      go_wp2_with (go_at_call 118; refine (treeEnd_0 s hs _).mono ?_; rintro e w' ⟨rfl, hb1⟩)
      go_ret
      exact ⟨rfl, hb1⟩
    | true =>
      have hl : ¬ (2000000 : Int) < s.size := by have := HH.out; omega
      go_enter Try.func86, Try.ntmps86
      go_wp2_with (go_at_call 118; refine (treeEnd_0 s hs _).mono ?_; rintro e w' ⟨rfl, hb1⟩)
      go_ret
      exact ⟨rfl, hb1⟩
  · have hv : isTree s = false := by unfold isTree; rw [decide_eq_false h]; rfl
    rw [hv]; clear hv
    have hl : (2000000 : Int) < s.size := by omega
    go_enter Try.func86, Try.ntmps86
    go_wp2
    go_ret
    exact ⟨rfl, Below.refl _ _⟩

end Go.Proofs.Ytaiomcjopgnfpaa

namespace Go.Proofs.Ytaiomcjopgnfpaa
open Go.RowKit

/-- The string of a tree. -/
def TS (t : Tr) : ByteArray := ⟨t.enc.toArray⟩
theorem TS_size (t : Tr) : (TS t).size = t.size := by show t.enc.toArray.size = _; simp [Tr.enc_length]
theorem TS_list (t : Tr) : (TS t).data.toList = t.enc := by simp [TS]
theorem isTree_TS (t : Tr) (h : t.size ≤ 2000000) : isTree (TS t) = true := (isTree_iff _).2 ⟨t, rfl, h⟩
theorem isTree_get {s : ByteArray} (h : isTree s = true) : ∃ t : Tr, s = TS t ∧ t.size ≤ 2000000 := (isTree_iff s).1 h
theorem ba_ext {a b : ByteArray} (h : a.data.toList = b.data.toList) : a = b := by cases a; cases b; simp at h; simp [h]
def Tr.hd : Tr → Tr | .nil => .nil | .pair h _ => h
def Tr.tl : Tr → Tr | .nil => .nil | .pair _ t => t
theorem TS_end1 (h t : Tr) : endI (TS (.pair h t)) 1 1 = 1 + h.size := by
  have e : (TS (.pair h t)).data.toList.drop 1 = h.enc ++ t.enc := by simp [TS_list, Tr.enc]
  have e2 := endF_enc h t.enc 0
  simp [endF] at e2
  unfold endI
  rw [e]
  simp [e2]

theorem TS_eq0 (t : Tr) : ((TS t).toList == [48]) = decide (t = .nil) := by
  rw [Lib.toList_data, TS_list]
  cases t with
  | nil => rfl
  | pair h t => simp [Tr.enc]
theorem TS_nil0 : ((TS .nil).toList == [48]) = true := by rw [TS_eq0]; rfl
theorem TS_pair0 (h t : Tr) : ((TS (.pair h t)).toList == [48]) = false := by rw [TS_eq0]; simp
theorem TS_head (h t : Tr) : (TS (.pair h t)).extract 1 (1 + h.size) = TS h := by
  apply ba_ext
  rw [Lib.extract_data, TS_list, TS_list]
  simp [Tr.enc, Tr.enc_length]
theorem TS_tail (h t : Tr) : (TS (.pair h t)).extract (1 + h.size) (TS (.pair h t)).size = TS t := by
  apply ba_ext
  rw [Lib.extract_data, TS_list, TS_list, TS_size]
  have : (49 :: (h.enc ++ t.enc)).drop (1 + h.size) = t.enc := by
    rw [Nat.add_comm, List.drop_succ_cons, List.drop_append, Tr.enc_length]; simp [← Tr.enc_length]
  simp only [Tr.enc, this]
  rw [List.take_of_length_le]; simp [Tr.enc_length, Tr.size]
theorem ret_ss {a b c d : ByteArray} (h : a = b) (h' : c = d) : Ending.returned (.tuple #[.string a, .string c]) = .returned (.tuple #[.string b, .string d]) := by rw [h, h']
theorem ret_se {a b : ByteArray} {c : Int} (h : a = b) : Ending.returned (.tuple #[.string a, .int .i64 c]) = .returned (.tuple #[.string b, .int .i64 c]) := by rw [h]

theorem treeEnd_pair (h t : Tr) (hs : (Tr.pair h t).size ≤ 2000000) (w : World) :
    Calls Try.prog 118 #[.string (TS (.pair h t)), .int .i64 1] w fun e w' => e = .returned (.tuple #[.int .i64 (1 + h.size), .bool true]) ∧ Below w.heap.size w w' := by
  have h1 : (TS (.pair h t)).size = (Tr.pair h t).size := TS_size _
  refine (treeEnd_any _ 1 (by rw [h1]; exact Tr.size_pos _) (by omega) w).mono fun e w' ⟨he, hb⟩ => ⟨?_, hb⟩
  have h2 := TS_end1 h t
  have h3 : endI ((TS (.pair h t)).extract 1 (TS (.pair h t)).size) 0 1 = h.size := by
    have e2 := endF_enc h t.enc 0
    simp [endF] at e2
    unfold endI
    have e : ((TS (.pair h t)).extract 1 (TS (.pair h t)).size).data.toList = h.enc ++ t.enc := by
      rw [Lib.extract_data, TS_list, h1]; simp only [Tr.enc, List.drop_succ_cons, List.drop_zero]; rw [List.take_of_length_le]; simp [Tr.enc_length, Tr.size]; omega
    rw [e, List.drop_zero, e2]; simp
  rw [he]
  refine ret_ib ?_ ?_
  · unfold tEndI; rw [h3, if_neg (by omega)]; rfl
  · unfold tEndB; rw [h3]; simp

set_option maxHeartbeats 400000 in
theorem parts_nil (w : World) :
    Calls Try.prog 170 #[.string (TS .nil)] w fun e w' => e = .returned (.tuple #[.string (TS .nil), .string (TS .nil)]) ∧ Below w.heap.size w w' := by
  have h0 := TS_nil0
  go_enter Try.func170, Try.ntmps170
  go_wp2
  go_ret2
  exact ⟨rfl, Below.refl _ _⟩

theorem parts_pair (h t : Tr) (hs : (Tr.pair h t).size ≤ 2000000) (w : World) :
    Calls Try.prog 170 #[.string (TS (.pair h t))] w fun e w' => e = .returned (.tuple #[.string (TS h), .string (TS t)]) ∧ Below w.heap.size w w' := by
  have h0 := TS_pair0 h t
  have hz : (1 + h.size : Int) ≤ (TS (.pair h t)).size := by rw [TS_size]; simp [Tr.size]; omega
  have hz2 : 1 + h.size ≤ (TS (.pair h t)).size := by omega
  have ht : ((1 : Int) + h.size).toNat = 1 + h.size := by omega
  go_enter Try.func170, Try.ntmps170
  go_wp2_with (go_at_call 118; refine (treeEnd_pair h t hs _).mono ?_; rintro e w' ⟨rfl, hb1⟩)
  go_quiet (fail)
  go_wp2
  go_ret2
  exact ⟨ret_ss (TS_head h t) (TS_tail h t), below_drewN hb1 _⟩

theorem parts_any (t : Tr) (hs : t.size ≤ 2000000) (w : World) :
    Calls Try.prog 170 #[.string (TS t)] w fun e w' => e = .returned (.tuple #[.string (TS t.hd), .string (TS t.tl)]) ∧ Below w.heap.size w w' := by
  cases t with
  | nil => exact parts_nil w
  | pair h t => exact parts_pair h t hs w

theorem valid_bad (s : ByteArray) (hs : s.size ≤ 281474976710656) (h : isTree s = false) (w : World) :
    Calls Try.prog 86 #[.string s] w fun e w' => e = .returned (.bool false) ∧ Below w.heap.size w w' := by
  have := treeValid_any s hs w; rwa [h] at this
theorem valid_ok (t : Tr) (h : t.size ≤ 2000000) (w : World) :
    Calls Try.prog 86 #[.string (TS t)] w fun e w' => e = .returned (.bool true) ∧ Below w.heap.size w w' := by
  have := treeValid_any (TS t) (by rw [TS_size]; omega) w; rwa [isTree_TS t h] at this

set_option maxHeartbeats 400000 in
theorem head_bad (s : ByteArray) (hs : s.size ≤ 281474976710656) (h : isTree s = false) (w : World) :
    Calls Try.prog 161 #[.string s] w fun e w' => e = .returned (.tuple #[.string ⟨#[]⟩, .int .i64 1]) ∧ Below w.heap.size w w' := by
  go_enter Try.func161, Try.ntmps161
  go_wp2_with (go_at_call 86; refine (valid_bad s hs h _).mono ?_; rintro e w' ⟨rfl, hb1⟩)
  go_ret2
  exact ⟨rfl, hb1⟩
theorem head_ok (t : Tr) (hs : t.size ≤ 2000000) (w : World) :
    Calls Try.prog 161 #[.string (TS t)] w fun e w' => e = .returned (.tuple #[.string (TS t.hd), .int .i64 0]) ∧ Below w.heap.size w w' := by
  go_enter Try.func161, Try.ntmps161
  go_wp2_with (go_at_call 86; refine (valid_ok t hs _).mono ?_; rintro e w1 ⟨rfl, hb1⟩)
  go_wp2_with (go_at_call 170; refine (parts_any t hs _).mono ?_; rintro e w2 ⟨rfl, hb2⟩)
  go_ret2
  exact ⟨rfl, hb1.trans (hb2.mono hb1.size)⟩
theorem tail_bad (s : ByteArray) (hs : s.size ≤ 281474976710656) (h : isTree s = false) (w : World) :
    Calls Try.prog 162 #[.string s] w fun e w' => e = .returned (.tuple #[.string ⟨#[]⟩, .int .i64 1]) ∧ Below w.heap.size w w' := by
  go_enter Try.func162, Try.ntmps162
  go_wp2_with (go_at_call 86; refine (valid_bad s hs h _).mono ?_; rintro e w' ⟨rfl, hb1⟩)
  go_ret2
  exact ⟨rfl, hb1⟩
theorem tail_ok (t : Tr) (hs : t.size ≤ 2000000) (w : World) :
    Calls Try.prog 162 #[.string (TS t)] w fun e w' => e = .returned (.tuple #[.string (TS t.tl), .int .i64 0]) ∧ Below w.heap.size w w' := by
  go_enter Try.func162, Try.ntmps162
  go_wp2_with (go_at_call 86; refine (valid_ok t hs _).mono ?_; rintro e w1 ⟨rfl, hb1⟩)
  go_wp2_with (go_at_call 170; refine (parts_any t hs _).mono ?_; rintro e w2 ⟨rfl, hb2⟩)
  go_ret2
  exact ⟨rfl, hb1.trans (hb2.mono hb1.size)⟩
/-- The number of pairs. -/
def Tr.pairs : Tr → Nat | .nil => 0 | .pair h t => 1 + h.pairs + t.pairs
theorem Tr.size_pairs (t : Tr) : t.size = 2 * t.pairs + 1 := by induction t with | nil => rfl | pair h t a b => simp [Tr.size, Tr.pairs, a, b]; omega
theorem ret_ie {a b : Int} {c : Int} (h : a = b) : Ending.returned (.tuple #[.int .i64 a, .int .i64 c]) = .returned (.tuple #[.int .i64 b, .int .i64 c]) := by rw [h]
theorem valid_or (s : ByteArray) (_hs : s.size ≤ 281474976710656) : (∃ t : Tr, s = TS t ∧ t.size ≤ 2000000) ∨ isTree s = false := by
  cases h : isTree s with
  | false => exact .inr rfl
  | true => exact .inl (isTree_get h)

end Go.Proofs.Ytaiomcjopgnfpaa

namespace Go.Proofs
open Go.Shelf
def Try.lays170_ren : Go.Shelf.Ren := ⟨fun | 170 => 126 | n => n, fun | 70 => 139 | 3 => 3 | 0 => 0 | 72 => 141 | 37 => 126 | 5 => 5 | n => n, fun | n => n⟩
theorem Try.lays170 : Go.Proofs.Lays.n170 Try.prog Try.lays170_ren := {
  mixed := by kernel_rfl
  f170 := Try.func126.trans (congrArg some (by kernel_rfl))
  t0 := Try.underlying0
  a0 := Try.isAgg0
  z0 := Try.sizeOf0
  v0 := Try.zeroValue0
  t3 := Try.underlying3
  a3 := Try.isAgg3
  z3 := Try.sizeOf3
  v3 := Try.zeroValue3
  t37 := Try.underlying126
  a37 := Try.isAgg126
  z37 := Try.sizeOf126
  v37 := Try.zeroValue126
  t70 := Try.underlying139
  a70 := Try.isAgg139
  z70 := Try.sizeOf139
  v70 := Try.zeroValue139
  t72 := Try.underlying141
  a72 := Try.isAgg141
  z72 := Try.sizeOf141
  v72 := Try.zeroValue141 }
open Go.RowKit in
/-- (*strings.Builder).Len: "Len returns the number of accumulated bytes; b.Len() == len(b.String()).": the world is as it was. (LAID: no walk: one application.) -/
theorem Try.Builder_Len (B b : Nat) (bs : List Value) (w : World) (h : Lib.IsBuilder 141 5 B b bs w) :
    Calls Try.prog 126 #[.pointer (some ⟨b, 0, none⟩)] w fun e w' => e = .returned (.int .i64 bs.length) ∧ w' = w := Any.Builder_Len Try.lays170 B b bs w h
def Try.lays169_ren : Go.Shelf.Ren := ⟨fun | 169 => 127 | n => n, fun | 70 => 139 | 9 => 9 | 0 => 0 | 72 => 141 | 37 => 126 | 127 => 166 | 3 => 3 | 5 => 5 | n => n, fun | n => n⟩
theorem Try.lays169 : Go.Proofs.Lays.n169 Try.prog Try.lays169_ren := {
  mixed := by kernel_rfl
  f169 := Try.func127.trans (congrArg some (by kernel_rfl))
  t0 := Try.underlying0
  a0 := Try.isAgg0
  z0 := Try.sizeOf0
  v0 := Try.zeroValue0
  t3 := Try.underlying3
  a3 := Try.isAgg3
  z3 := Try.sizeOf3
  v3 := Try.zeroValue3
  t9 := Try.underlying9
  a9 := Try.isAgg9
  z9 := Try.sizeOf9
  v9 := Try.zeroValue9
  t37 := Try.underlying126
  a37 := Try.isAgg126
  z37 := Try.sizeOf126
  v37 := Try.zeroValue126
  t70 := Try.underlying139
  a70 := Try.isAgg139
  z70 := Try.sizeOf139
  v70 := Try.zeroValue139
  t72 := Try.underlying141
  a72 := Try.isAgg141
  z72 := Try.sizeOf141
  v72 := Try.zeroValue141
  t127 := Try.underlying166
  a127 := Try.isAgg166
  z127 := Try.sizeOf166
  v127 := Try.zeroValue166 }
theorem Try.Builder_Extra_169 : Builder.Extra Try.prog Try.lays169_ren := {
  sizeBuilder := by kernel_rfl
  liesBuilder := by kernel_rfl
  t5 := Try.underlying5
  a5 := Try.isAgg5
  z5 := Try.sizeOf5
  v5 := Try.zeroValue5
  infoByte := by kernel_rfl
  cellsByte := by kernel_rfl
  sizeByte := by kernel_rfl
  neB5 := by decide }
open Go.RowKit in
/-- (*strings.Builder).String: "String returns the accumulated string.": OF A BUILDER THAT HOLDS AT LEAST ONE BYTE. ✋ THE MODEL FREEZES THOSE BYTES IN THE BUFFER (unsafe.String): a later write INTO them ends the model's run without an answer; a later append BEHIND them goes on. The statement's order of evaluation is drawn: one draw. (LAID: no walk: one application.) -/
theorem Try.Builder_String (B b : Nat) (l : List UInt8) (w : World) (h : Lib.IsBuilder 141 5 B b (Lib.byteCells l) w) (h0 : l ≠ []) :
    Calls Try.prog 127 #[.pointer (some ⟨b, 0, none⟩)] w fun e w' => e = .returned (.string ⟨l.toArray⟩) ∧ Below B w w' := Any.Builder_String Try.lays169 Try.Builder_Extra_169 B b l w h h0
open Go.RowKit in
/-- (*strings.Builder).String OF A BUILDER THAT HOLDS NO BYTE: the empty string. (Its buffer is nil, or a row of which it has taken nothing yet; where that row has NO capacity the model lays one new block for unsafe.SliceData's 'some address'.) One draw. (LAID: no walk: one application.) -/
theorem Try.Builder_String_empty (B b : Nat) (w : World) (h : Lib.IsBuilder 141 5 B b [] w) (hBw : B ≤ w.heap.size) :
    Calls Try.prog 127 #[.pointer (some ⟨b, 0, none⟩)] w fun e w' => e = .returned (.string ⟨#[]⟩) ∧ Below B w w' := Any.Builder_String_empty Try.lays169 Try.Builder_Extra_169 B b w h hBw
open Go.RowKit in
/-- (*strings.Builder).String: "String returns the accumulated string.": WHATEVER THE BUILDER HOLDS. (LAID: no walk: one application.) -/
theorem Try.Builder_String_any (B b : Nat) (l : List UInt8) (w : World) (h : Lib.IsBuilder 141 5 B b (Lib.byteCells l) w) (hBw : B ≤ w.heap.size) :
    Calls Try.prog 127 #[.pointer (some ⟨b, 0, none⟩)] w fun e w' => e = .returned (.string ⟨l.toArray⟩) ∧ Below B w w' := Any.Builder_String_any Try.lays169 Try.Builder_Extra_169 B b l w h hBw
def Try.lays241_ren : Go.Shelf.Ren := ⟨fun | 241 => 169 | 277 => 171 | n => n, fun | 70 => 139 | 3 => 3 | 0 => 0 | 72 => 141 | 37 => 126 | 5 => 5 | n => n, fun | n => n⟩
theorem Try.lays241 : Go.Proofs.Lays.n241 Try.prog Try.lays241_ren := {
  mixed := by kernel_rfl
  f241 := Try.func169.trans (congrArg some (by kernel_rfl))
  f277 := Try.func171.trans (congrArg some (by kernel_rfl))
  t0 := Try.underlying0
  a0 := Try.isAgg0
  z0 := Try.sizeOf0
  v0 := Try.zeroValue0
  t3 := Try.underlying3
  a3 := Try.isAgg3
  z3 := Try.sizeOf3
  v3 := Try.zeroValue3
  t37 := Try.underlying126
  a37 := Try.isAgg126
  z37 := Try.sizeOf126
  v37 := Try.zeroValue126
  t70 := Try.underlying139
  a70 := Try.isAgg139
  z70 := Try.sizeOf139
  v70 := Try.zeroValue139
  t72 := Try.underlying141
  a72 := Try.isAgg141
  z72 := Try.sizeOf141
  v72 := Try.zeroValue141 }
theorem Try.Builder_Extra_241 : Builder.Extra Try.prog Try.lays241_ren := {
  sizeBuilder := by kernel_rfl
  liesBuilder := by kernel_rfl
  t5 := Try.underlying5
  a5 := Try.isAgg5
  z5 := Try.sizeOf5
  v5 := Try.zeroValue5
  infoByte := by kernel_rfl
  cellsByte := by kernel_rfl
  sizeByte := by kernel_rfl
  neB5 := by decide }
open Go.RowKit in
/-- (*strings.Builder).grow (no doc but "grow copies the buffer to a new, larger buffer so that there are at least n bytes of capacity beyond len(b.buf)."): AT A BUILDER WITHOUT A BUFFER: a new row of whatever bytes for its buffer, none of them its own yet. Three draws. (LAID: no walk: one application.) -/
theorem Try.Builder_grow_fresh (B b n : Nat) (w : World) (hB : B ≤ b) (hbk : w.heap[b]? = some (.cells #[.pointer (some ⟨b, 0, none⟩), .slice none 0 0] 141 (0, 0))) (hBw : B ≤ w.heap.size) (hn : n ≤ 281474976710656) :
    Calls Try.prog 169 #[.pointer (some ⟨b, 0, none⟩), .int .i64 n] w fun e w' => e = .returned (.tuple #[]) ∧ (Lib.BuilderAt 141 5 B b (.pointer (some ⟨b, 0, none⟩)) [] w' ∧ Below B w w') := Any.Builder_grow_fresh Try.lays241 Try.Builder_Extra_241 B b n w hB hbk hBw hn
def Try.lays165_ren : Go.Shelf.Ren := ⟨fun | 165 => 160 | 240 => 142 | 241 => 169 | 276 => 157 | 277 => 171 | n => n, fun | 70 => 139 | 3 => 3 | 0 => 0 | 4 => 4 | 9 => 9 | 20 => 20 | 72 => 141 | 37 => 126 | 164 => 170 | 5 => 5 | n => n, fun | n => n⟩
theorem Try.lays165 : Go.Proofs.Lays.n165 Try.prog Try.lays165_ren := {
  mixed := by kernel_rfl
  f165 := Try.func160.trans (congrArg some (by kernel_rfl))
  f240 := Try.func142.trans (congrArg some (by kernel_rfl))
  f241 := Try.func169.trans (congrArg some (by kernel_rfl))
  f276 := Try.func157.trans (congrArg some (by kernel_rfl))
  f277 := Try.func171.trans (congrArg some (by kernel_rfl))
  t0 := Try.underlying0
  a0 := Try.isAgg0
  z0 := Try.sizeOf0
  v0 := Try.zeroValue0
  t3 := Try.underlying3
  a3 := Try.isAgg3
  z3 := Try.sizeOf3
  v3 := Try.zeroValue3
  t4 := Try.underlying4
  a4 := Try.isAgg4
  z4 := Try.sizeOf4
  v4 := Try.zeroValue4
  t9 := Try.underlying9
  a9 := Try.isAgg9
  z9 := Try.sizeOf9
  v9 := Try.zeroValue9
  t20 := Try.underlying20
  a20 := Try.isAgg20
  z20 := Try.sizeOf20
  v20 := Try.zeroValue20
  t37 := Try.underlying126
  a37 := Try.isAgg126
  z37 := Try.sizeOf126
  v37 := Try.zeroValue126
  t70 := Try.underlying139
  a70 := Try.isAgg139
  z70 := Try.sizeOf139
  v70 := Try.zeroValue139
  t72 := Try.underlying141
  a72 := Try.isAgg141
  z72 := Try.sizeOf141
  v72 := Try.zeroValue141
  t164 := Try.underlying170
  a164 := Try.isAgg170
  z164 := Try.sizeOf170
  v164 := Try.zeroValue170 }
theorem Try.Builder_Extra_165 : Builder.Extra Try.prog Try.lays165_ren := {
  sizeBuilder := by kernel_rfl
  liesBuilder := by kernel_rfl
  t5 := Try.underlying5
  a5 := Try.isAgg5
  z5 := Try.sizeOf5
  v5 := Try.zeroValue5
  infoByte := by kernel_rfl
  cellsByte := by kernel_rfl
  sizeByte := by kernel_rfl
  neB5 := by decide }
open Go.RowKit in
/-- (*strings.Builder).Grow AT A BUILDER THAT HAS NOT BEEN WRITTEN ('var b strings.Builder; b.Grow(n)'): "Grow grows b's capacity, if necessary, to guarantee space for another n bytes.": it holds no byte behind it as before it. (LAID: no walk: one application.) -/
theorem Try.Builder_Grow_fresh (B b n : Nat) (w : World) (hB : B ≤ b) (hbk : w.heap[b]? = some (.cells #[.pointer none, .slice none 0 0] 141 (0, 0))) (hBw : B ≤ w.heap.size) (hn : n ≤ 281474976710656) :
    Calls Try.prog 160 #[.pointer (some ⟨b, 0, none⟩), .int .i64 n] w fun e w' => e = .returned (.tuple #[]) ∧ (Lib.BuilderAt 141 5 B b (.pointer (some ⟨b, 0, none⟩)) [] w' ∧ Below B w w') := Any.Builder_Grow_fresh Try.lays165 Try.Builder_Extra_165 B b n w hB hbk hBw hn
open Go.RowKit in
/-- (*strings.Builder).Len: "Len returns the number of accumulated bytes; b.Len() == len(b.String()).": the world is as it was. (THE FORM '_f': 'Lib.IsBuilderF'.) (LAID: no walk: one application.) -/
theorem Try.Builder_Len_f (B b : Nat) (bs : List Value) (w : World) (h : Lib.IsBuilderF 141 5 B b bs w) :
    Calls Try.prog 126 #[.pointer (some ⟨b, 0, none⟩)] w fun e w' => e = .returned (.int .i64 bs.length) ∧ w' = w := Any.Builder_Len_f Try.lays170 B b bs w h
open Go.RowKit in
/-- (*strings.Builder).String: "String returns the accumulated string.": OF A BUILDER THAT HOLDS AT LEAST ONE BYTE. ✋ THE MODEL FREEZES THOSE BYTES IN THE BUFFER (unsafe.String): a later write INTO them ends the model's run without an answer; a later append BEHIND them goes on. The statement's order of evaluation is drawn: one draw. THE FORM '_f': IT SAYS BESIDES THAT THE BUILDER IS A BUILDER STILL ('Lib.IsBuilderF', the same bytes): SO IT CAN BE WRITTEN ON: 'b.WriteString(b.String()[:k])'. (LAID: no walk: one application.) -/
theorem Try.Builder_String_f (B b : Nat) (l : List UInt8) (w : World) (h : Lib.IsBuilderF 141 5 B b (Lib.byteCells l) w) (h0 : l ≠ []) :
    Calls Try.prog 127 #[.pointer (some ⟨b, 0, none⟩)] w fun e w' => e = .returned (.string ⟨l.toArray⟩) ∧ (Lib.IsBuilderF 141 5 B b (Lib.byteCells l) w' ∧ Below B w w') := Any.Builder_String_f Try.lays169 Try.Builder_Extra_169 B b l w h h0
open Go.RowKit in
/-- (*strings.Builder).String OF A BUILDER THAT HOLDS NO BYTE: the empty string; THE FORM '_f': a builder still. (LAID: no walk: one application.) -/
theorem Try.Builder_String_empty_f (B b : Nat) (w : World) (h : Lib.IsBuilderF 141 5 B b [] w) (hBw : B ≤ w.heap.size) :
    Calls Try.prog 127 #[.pointer (some ⟨b, 0, none⟩)] w fun e w' => e = .returned (.string ⟨#[]⟩) ∧ (Lib.IsBuilderF 141 5 B b [] w' ∧ Below B w w') := Any.Builder_String_empty_f Try.lays169 Try.Builder_Extra_169 B b w h hBw
open Go.RowKit in
/-- (*strings.Builder).String: "String returns the accumulated string.": WHATEVER THE BUILDER HOLDS; THE FORM '_f': OF A BUILDER THAT MAY HAVE BEEN READ BEFORE; AND IT IS A BUILDER STILL, holding the same bytes: it can be written on. (LAID: no walk: one application.) -/
theorem Try.Builder_String_any_f (B b : Nat) (l : List UInt8) (w : World) (h : Lib.IsBuilderF 141 5 B b (Lib.byteCells l) w) (hBw : B ≤ w.heap.size) :
    Calls Try.prog 127 #[.pointer (some ⟨b, 0, none⟩)] w fun e w' => e = .returned (.string ⟨l.toArray⟩) ∧ (Lib.IsBuilderF 141 5 B b (Lib.byteCells l) w' ∧ Below B w w') := Any.Builder_String_any_f Try.lays169 Try.Builder_Extra_169 B b l w h hBw
open Go.RowKit in
/-- (*strings.Builder).String: "String returns the accumulated string.": OF A BUILDER THAT HOLDS AT LEAST ONE BYTE. ✋ THE MODEL FREEZES THOSE BYTES IN THE BUFFER (unsafe.String): a later write INTO them ends the model's run without an answer; a later append BEHIND them goes on. The statement's order of evaluation is drawn: one draw. THE FORM '_k': OVER 'Lib.IsBuilderF' (a builder that 'String()' may have read), AND WITH THE FRAME THAT REACHES ABOVE THE BUILDER: 'Lib.OthersKept': every block that is not b and is no row of uint8's stands as it stood: the iterator of a range among them. (LAID: no walk: one application.) -/
theorem Try.Builder_String_k (B b : Nat) (l : List UInt8) (w : World) (h : Lib.IsBuilderF 141 5 B b (Lib.byteCells l) w) (h0 : l ≠ []) :
    Calls Try.prog 127 #[.pointer (some ⟨b, 0, none⟩)] w fun e w' => e = .returned (.string ⟨l.toArray⟩) ∧ (Lib.IsBuilderF 141 5 B b (Lib.byteCells l) w' ∧ Below B w w' ∧ Lib.OthersKept 5 (some b) w w') := Any.Builder_String_k Try.lays169 Try.Builder_Extra_169 B b l w h h0
open Go.RowKit in
/-- (*strings.Builder).String OF A BUILDER THAT HOLDS NO BYTE: the empty string; THE FORM '_k': OVER 'Lib.IsBuilderF' (a builder that 'String()' may have read), AND WITH THE FRAME THAT REACHES ABOVE THE BUILDER: 'Lib.OthersKept': every block that is not b and is no row of uint8's stands as it stood: the iterator of a range among them. (LAID: no walk: one application.) -/
theorem Try.Builder_String_empty_k (B b : Nat) (w : World) (h : Lib.IsBuilderF 141 5 B b [] w) (hBw : B ≤ w.heap.size) :
    Calls Try.prog 127 #[.pointer (some ⟨b, 0, none⟩)] w fun e w' => e = .returned (.string ⟨#[]⟩) ∧ (Lib.IsBuilderF 141 5 B b [] w' ∧ Below B w w' ∧ Lib.OthersKept 5 (some b) w w') := Any.Builder_String_empty_k Try.lays169 Try.Builder_Extra_169 B b w h hBw
open Go.RowKit in
/-- (*strings.Builder).String: "String returns the accumulated string.": WHATEVER THE BUILDER HOLDS; THE FORM '_k': OVER 'Lib.IsBuilderF' (a builder that 'String()' may have read), AND WITH THE FRAME THAT REACHES ABOVE THE BUILDER: 'Lib.OthersKept': every block that is not b and is no row of uint8's stands as it stood: the iterator of a range among them. (LAID: no walk: one application.) -/
theorem Try.Builder_String_any_k (B b : Nat) (l : List UInt8) (w : World) (h : Lib.IsBuilderF 141 5 B b (Lib.byteCells l) w) (hBw : B ≤ w.heap.size) :
    Calls Try.prog 127 #[.pointer (some ⟨b, 0, none⟩)] w fun e w' => e = .returned (.string ⟨l.toArray⟩) ∧ (Lib.IsBuilderF 141 5 B b (Lib.byteCells l) w' ∧ Below B w w' ∧ Lib.OthersKept 5 (some b) w w') := Any.Builder_String_any_k Try.lays169 Try.Builder_Extra_169 B b l w h hBw
def Try.lays206_ren : Go.Shelf.Ren := ⟨fun | 206 => 168 | n => n, fun | 9 => 9 | 4 => 4 | 3 => 3 | n => n, fun | n => n⟩
theorem Try.lays206 : Go.Proofs.Lays.n206 Try.prog Try.lays206_ren := {
  mixed := by kernel_rfl
  f206 := Try.func168.trans (congrArg some (by kernel_rfl))
  t3 := Try.underlying3
  a3 := Try.isAgg3
  z3 := Try.sizeOf3
  v3 := Try.zeroValue3
  t4 := Try.underlying4
  a4 := Try.isAgg4
  z4 := Try.sizeOf4
  v4 := Try.zeroValue4
  t9 := Try.underlying9
  a9 := Try.isAgg9
  z9 := Try.sizeOf9
  v9 := Try.zeroValue9 }
open Go.RowKit Go.Lib in
/-- internal/stringslite.HasPrefix (what strings.HasPrefix calls). (LAID: no walk: one application.) -/
theorem Try.stringslite_HasPrefix (s p : ByteArray) (w : World) :
    Calls Try.prog 168 #[.string s, .string p] w fun e w' => e = .returned (.bool (Lib.hasPrefix s.data.toList p.data.toList)) ∧ w' = w := Any.stringslite_HasPrefix Try.lays206 s p w
def Try.lays99_ren : Go.Shelf.Ren := ⟨fun | 99 => 159 | 206 => 168 | n => n, fun | 9 => 9 | 4 => 4 | 3 => 3 | n => n, fun | n => n⟩
theorem Try.lays99 : Go.Proofs.Lays.n99 Try.prog Try.lays99_ren := {
  mixed := by kernel_rfl
  f99 := Try.func159.trans (congrArg some (by kernel_rfl))
  f206 := Try.func168.trans (congrArg some (by kernel_rfl))
  t3 := Try.underlying3
  a3 := Try.isAgg3
  z3 := Try.sizeOf3
  v3 := Try.zeroValue3
  t4 := Try.underlying4
  a4 := Try.isAgg4
  z4 := Try.sizeOf4
  v4 := Try.zeroValue4
  t9 := Try.underlying9
  a9 := Try.isAgg9
  z9 := Try.sizeOf9
  v9 := Try.zeroValue9 }
open Go.RowKit Go.Lib in
/-- strings.HasPrefix: "HasPrefix reports whether the string s begins with prefix.": IT RETURNS 'Lib.hasPrefix s prefix'; the world is as it was. (LAID: no walk: one application.) -/
theorem Try.strings_HasPrefix (s p : ByteArray) (w : World) :
    Calls Try.prog 159 #[.string s, .string p] w fun e w' => e = .returned (.bool (Lib.hasPrefix s.data.toList p.data.toList)) ∧ w' = w := Any.strings_HasPrefix Try.lays99 s p w
def Try.lays264_ren : Go.Shelf.Ren := ⟨fun | 264 => 167 | n => n, fun | 53 => 181 | 46 => 172 | n => n, fun | n => n⟩
theorem Try.lays264 : Go.Proofs.Lays.n264 Try.prog Try.lays264_ren := {
  mixed := by kernel_rfl
  f264 := Try.func167.trans (congrArg some (by kernel_rfl))
  t46 := Try.underlying172
  a46 := Try.isAgg172
  z46 := Try.sizeOf172
  v46 := Try.zeroValue172
  t53 := Try.underlying181
  a53 := Try.isAgg181
  z53 := Try.sizeOf181
  v53 := Try.zeroValue181 }
open Go.RowKit Go.Lib in
theorem Try.bits_Mul64 (x y : Nat) (hx : x < 18446744073709551616) (hy : y < 18446744073709551616) (w : World) :
    Calls Try.prog 167 #[.int .u64 x, .int .u64 y] w fun e w' => e = .returned (.tuple #[.int .u64 ((x * y / 18446744073709551616 : Nat) : Int), .int .u64 ((x * y % 18446744073709551616 : Nat) : Int)]) ∧ w' = w := Any.bits_Mul64 Try.lays264 x y hx hy w
def Try.lays212_ren : Go.Shelf.Ren := ⟨fun | 212 => 158 | 263 => 166 | 264 => 167 | n => n, fun | 46 => 172 | 51 => 178 | 146 => 179 | 53 => 181 | 148 => 182 | n => n, fun | n => n⟩
theorem Try.lays212 : Go.Proofs.Lays.n212 Try.prog Try.lays212_ren := {
  mixed := by kernel_rfl
  f212 := Try.func158.trans (congrArg some (by kernel_rfl))
  f263 := Try.func166.trans (congrArg some (by kernel_rfl))
  f264 := Try.func167.trans (congrArg some (by kernel_rfl))
  t46 := Try.underlying172
  a46 := Try.isAgg172
  z46 := Try.sizeOf172
  v46 := Try.zeroValue172
  t51 := Try.underlying178
  a51 := Try.isAgg178
  z51 := Try.sizeOf178
  v51 := Try.zeroValue178
  t53 := Try.underlying181
  a53 := Try.isAgg181
  z53 := Try.sizeOf181
  v53 := Try.zeroValue181
  t146 := Try.underlying179
  a146 := Try.isAgg179
  z146 := Try.sizeOf179
  v146 := Try.zeroValue179
  t148 := Try.underlying182
  a148 := Try.isAgg182
  z148 := Try.sizeOf182
  v148 := Try.zeroValue182 }
open Go.RowKit Go.Lib in
/-- math/bits.Mul: "Mul returns the full-width product of x and y": on a machine of 64 bits: Mul64's. (LAID: no walk: one application.) -/
theorem Try.bits_Mul (x y : Nat) (hx : x < 18446744073709551616) (hy : y < 18446744073709551616) (w : World) :
    Calls Try.prog 158 #[.int .u64 x, .int .u64 y] w fun e w' => e = .returned (.tuple #[.int .u64 ((x * y / 18446744073709551616 : Nat) : Int), .int .u64 ((x * y % 18446744073709551616 : Nat) : Int)]) ∧ w' = w := Any.bits_Mul Try.lays212 x y hx hy w
def Try.lays105_ren : Go.Shelf.Ren := ⟨fun | 105 => 143 | 212 => 158 | 99 => 159 | 165 => 160 | 166 => 122 | 170 => 126 | 169 => 127 | 263 => 166 | 264 => 167 | 206 => 168 | 240 => 142 | 241 => 169 | 276 => 157 | 277 => 171 | n => n, fun | 9 => 9 | 3 => 3 | 4 => 4 | 20 => 20 | 0 => 0 | 46 => 172 | 109 => 173 | 5 => 5 | 72 => 141 | 76 => 144 | 51 => 178 | 146 => 179 | 53 => 181 | 148 => 182 | 70 => 139 | 37 => 126 | 75 => 143 | 127 => 166 | 164 => 170 | 80 => 104 | n => n, fun | n => n⟩
theorem Try.lays105 : Go.Proofs.Lays.n105 Try.prog Try.lays105_ren := {
  mixed := by kernel_rfl
  f99 := Try.func159.trans (congrArg some (by kernel_rfl))
  f105 := Try.func143.trans (congrArg some (by kernel_rfl))
  f165 := Try.func160.trans (congrArg some (by kernel_rfl))
  f166 := Try.func122.trans (congrArg some (by kernel_rfl))
  f169 := Try.func127.trans (congrArg some (by kernel_rfl))
  f170 := Try.func126.trans (congrArg some (by kernel_rfl))
  f206 := Try.func168.trans (congrArg some (by kernel_rfl))
  f212 := Try.func158.trans (congrArg some (by kernel_rfl))
  f240 := Try.func142.trans (congrArg some (by kernel_rfl))
  f241 := Try.func169.trans (congrArg some (by kernel_rfl))
  f263 := Try.func166.trans (congrArg some (by kernel_rfl))
  f264 := Try.func167.trans (congrArg some (by kernel_rfl))
  f276 := Try.func157.trans (congrArg some (by kernel_rfl))
  f277 := Try.func171.trans (congrArg some (by kernel_rfl))
  t0 := Try.underlying0
  a0 := Try.isAgg0
  z0 := Try.sizeOf0
  v0 := Try.zeroValue0
  t3 := Try.underlying3
  a3 := Try.isAgg3
  z3 := Try.sizeOf3
  v3 := Try.zeroValue3
  t4 := Try.underlying4
  a4 := Try.isAgg4
  z4 := Try.sizeOf4
  v4 := Try.zeroValue4
  t5 := Try.underlying5
  a5 := Try.isAgg5
  z5 := Try.sizeOf5
  v5 := Try.zeroValue5
  t9 := Try.underlying9
  a9 := Try.isAgg9
  z9 := Try.sizeOf9
  v9 := Try.zeroValue9
  t20 := Try.underlying20
  a20 := Try.isAgg20
  z20 := Try.sizeOf20
  v20 := Try.zeroValue20
  t37 := Try.underlying126
  a37 := Try.isAgg126
  z37 := Try.sizeOf126
  v37 := Try.zeroValue126
  t46 := Try.underlying172
  a46 := Try.isAgg172
  z46 := Try.sizeOf172
  v46 := Try.zeroValue172
  t51 := Try.underlying178
  a51 := Try.isAgg178
  z51 := Try.sizeOf178
  v51 := Try.zeroValue178
  t53 := Try.underlying181
  a53 := Try.isAgg181
  z53 := Try.sizeOf181
  v53 := Try.zeroValue181
  t70 := Try.underlying139
  a70 := Try.isAgg139
  z70 := Try.sizeOf139
  v70 := Try.zeroValue139
  t72 := Try.underlying141
  a72 := Try.isAgg141
  z72 := Try.sizeOf141
  v72 := Try.zeroValue141
  t75 := Try.underlying143
  a75 := Try.isAgg143
  z75 := Try.sizeOf143
  v75 := Try.zeroValue143
  t76 := Try.underlying144
  a76 := Try.isAgg144
  z76 := Try.sizeOf144
  v76 := Try.zeroValue144
  t109 := Try.underlying173
  a109 := Try.isAgg173
  z109 := Try.sizeOf173
  v109 := Try.zeroValue173
  t127 := Try.underlying166
  a127 := Try.isAgg166
  z127 := Try.sizeOf166
  v127 := Try.zeroValue166
  t146 := Try.underlying179
  a146 := Try.isAgg179
  z146 := Try.sizeOf179
  v146 := Try.zeroValue179
  t148 := Try.underlying182
  a148 := Try.isAgg182
  z148 := Try.sizeOf182
  v148 := Try.zeroValue182
  t164 := Try.underlying170
  a164 := Try.isAgg170
  z164 := Try.sizeOf170
  v164 := Try.zeroValue170 }
theorem Try.Builder_Extra_105 : Builder.Extra Try.prog Try.lays105_ren := {
  sizeBuilder := by kernel_rfl
  liesBuilder := by kernel_rfl
  t5 := Try.underlying5
  a5 := Try.isAgg5
  z5 := Try.sizeOf5
  v5 := Try.zeroValue5
  infoByte := by kernel_rfl
  cellsByte := by kernel_rfl
  sizeByte := by kernel_rfl
  neB5 := by decide }
open Go.RowKit Go.Lib in
/-- THE MAIN CASE: at least two copies of a string that is not empty. (LAID: no walk: one application.) -/
theorem Try.strings_Repeat_main (s : ByteArray) (c : Nat) (w : World) (hc2 : 2 ≤ c) (hc : c ≤ 9223372036854775807) (hlen : s.size * c ≤ 140737488355328) (h0 : 0 < s.size) :
    Calls Try.prog 143 #[.string s, .int .i64 c] w fun e w' => e = .returned (.string ⟨(Lib.repeatL s.data.toList c).toArray⟩) ∧ Below w.heap.size w w' := Any.strings_Repeat_main Try.lays105 Try.Builder_Extra_105 s c w hc2 hc hlen h0
open Go.RowKit Go.Lib in
theorem Try.strings_Repeat_zero (s : ByteArray) (w : World) :
    Calls Try.prog 143 #[.string s, .int .i64 0] w fun e w' => e = .returned (.string ⟨#[]⟩) ∧ w' = w := Any.strings_Repeat_zero Try.lays105 s w
open Go.RowKit Go.Lib in
theorem Try.strings_Repeat_one (s : ByteArray) (w : World) :
    Calls Try.prog 143 #[.string s, .int .i64 1] w fun e w' => e = .returned (.string s) ∧ w' = w := Any.strings_Repeat_one Try.lays105 s w
open Go.RowKit Go.Lib in
/-- Copies of the empty string. (LAID: no walk: one application.) -/
theorem Try.strings_Repeat_empty (s : ByteArray) (c : Nat) (w : World) (hc2 : 2 ≤ c) (hc : c ≤ 9223372036854775807) (h0 : s.size = 0) :
    Calls Try.prog 143 #[.string s, .int .i64 c] w fun e w' => e = .returned (.string ⟨#[]⟩) ∧ w' = w := Any.strings_Repeat_empty Try.lays105 s c w hc2 hc h0
open Go.RowKit Go.Lib in
/-- count < 0: "It panics if count is negative". (LAID: no walk: one application.) -/
theorem Try.strings_Repeat_negative (s : ByteArray) (c : Int) (w : World) (hc : c < 0) :
    Calls Try.prog 143 #[.string s, .int .i64 c] w fun e w' => e = .panicked [{ v := repeatPanic Try.lays105_ren "strings: negative Repeat count", recovered := false }] ∧ w' = w := Any.strings_Repeat_negative Try.lays105 s c w hc
open Go.RowKit Go.Lib in
/-- len(s) * count is no int: ".. or if the result of (len(s) * count) overflows". (LAID: no walk: one application.) -/
theorem Try.strings_Repeat_overflow (s : ByteArray) (c : Nat) (w : World) (hc : c ≤ 9223372036854775807) (hs : s.size ≤ 9223372036854775807) (hbig : 9223372036854775807 < s.size * c) :
    Calls Try.prog 143 #[.string s, .int .i64 c] w fun e w' => e = .panicked [{ v := repeatPanic Try.lays105_ren "strings: Repeat output length overflow", recovered := false }] ∧ w' = w := Any.strings_Repeat_overflow Try.lays105 s c w hc hs hbig
open Go.RowKit Go.Lib in
/-- **strings.Repeat: count ≥ 0, the result within one allocation: count copies of s.** (LAID: no walk: one application.) -/
theorem Try.strings_Repeat (s : ByteArray) (c : Nat) (w : World) (hc : c ≤ 9223372036854775807) (hlen : s.size * c ≤ 140737488355328) :
    Calls Try.prog 143 #[.string s, .int .i64 c] w fun e w' => e = .returned (.string ⟨(Lib.repeatL s.data.toList c).toArray⟩) ∧ Below w.heap.size w w' := Any.strings_Repeat Try.lays105 Try.Builder_Extra_105 s c w hc hlen

def Try.laysB_ren : Go.Shelf.Ren :=
⟨fun | 167 => 125 | 105 => 143 | 212 => 158 | 99 => 159 | 165 => 160 | 166 => 122 | 170 => 126 | 169 => 127 | 263 => 166 | 264 => 167 | 206 => 168 | 240 => 142 | 241 => 169 | 276 => 157 | 277 => 171 | n => n, fun | 9 => 9 | 3 => 3 | 4 => 4 | 20 => 20 | 0 => 0 | 46 => 172 | 109 => 173 | 5 => 5 | 72 => 141 | 76 => 144 | 51 => 178 | 146 => 179 | 53 => 181 | 148 => 182 | 70 => 139 | 37 => 126 | 75 => 143 | 127 => 166 | 164 => 170 | 80 => 104 | n => n, fun | n => n⟩
theorem Try.lays240 : Go.Proofs.Lays.n240 Try.prog Try.laysB_ren := {
  mixed := by kernel_rfl
  f240 := Try.func142.trans (congrArg some (by kernel_rfl))
  f276 := Try.func157.trans (congrArg some (by kernel_rfl))
  t0 := Try.underlying0
  a0 := Try.isAgg0
  z0 := Try.sizeOf0
  v0 := Try.zeroValue0
  t4 := Try.underlying4
  a4 := Try.isAgg4
  z4 := Try.sizeOf4
  v4 := Try.zeroValue4
  t9 := Try.underlying9
  a9 := Try.isAgg9
  z9 := Try.sizeOf9
  v9 := Try.zeroValue9
  t20 := Try.underlying20
  a20 := Try.isAgg20
  z20 := Try.sizeOf20
  v20 := Try.zeroValue20
  t70 := Try.underlying139
  a70 := Try.isAgg139
  z70 := Try.sizeOf139
  v70 := Try.zeroValue139
  t72 := Try.underlying141
  a72 := Try.isAgg141
  z72 := Try.sizeOf141
  v72 := Try.zeroValue141
  t164 := Try.underlying170
  a164 := Try.isAgg170
  z164 := Try.sizeOf170
  v164 := Try.zeroValue170 }
theorem Try.Builder_X72_240 : Builder.X72 Try.prog Try.laysB_ren := {
  sizeBuilder := by kernel_rfl
  liesBuilder := by kernel_rfl }
open Go.RowKit in
/-- (*strings.Builder).copyCheck (what every writing method calls first): behind it the builder is 'used': 'addr' holds its own address; its bytes are as they were. (LAID: no walk: one application.) -/
theorem Try.Builder_copyCheck (B b : Nat) (bs : List Value) (w : World) (h : Lib.IsBuilder 141 5 B b bs w) :
    Calls Try.prog 142 #[.pointer (some ⟨b, 0, none⟩)] w fun e w' => e = .returned (.tuple #[]) ∧ (Lib.BuilderAt 141 5 B b (.pointer (some ⟨b, 0, none⟩)) bs w' ∧ Below B w w') := Any.Builder_copyCheck Try.lays240 Try.Builder_X72_240 B b bs w h
open Go.RowKit in
/-- (*strings.Builder).copyCheck (what every writing method calls first): behind it the builder is 'used': 'addr' holds its own address; its bytes are as they were. (THE FORM '_f': OF A BUILDER WHOSE BUFFER's HEAD MAY BE FROZEN: 'Lib.IsBuilderF': one that 'String()' has read.) (LAID: no walk: one application.) -/
theorem Try.Builder_copyCheck_f (B b : Nat) (bs : List Value) (w : World) (h : Lib.IsBuilderF 141 5 B b bs w) :
    Calls Try.prog 142 #[.pointer (some ⟨b, 0, none⟩)] w fun e w' => e = .returned (.tuple #[]) ∧ (Lib.BuilderAtF 141 5 B b (.pointer (some ⟨b, 0, none⟩)) bs w' ∧ Below B w w') := Any.Builder_copyCheck_f Try.lays240 Try.Builder_X72_240 B b bs w h
open Go.RowKit in
/-- (*strings.Builder).copyCheck (what every writing method calls first): behind it the builder is 'used': 'addr' holds its own address; its bytes are as they were. THE FORM '_k': OVER 'Lib.IsBuilderF' (a builder that 'String()' may have read), AND WITH THE FRAME THAT REACHES ABOVE THE BUILDER: 'Lib.OthersKept': every block that is not b and is no row of uint8's stands as it stood: the iterator of a range among them.' has read.) (LAID: no walk: one application.) -/
theorem Try.Builder_copyCheck_k (B b : Nat) (bs : List Value) (w : World) (h : Lib.IsBuilderF 141 5 B b bs w) :
    Calls Try.prog 142 #[.pointer (some ⟨b, 0, none⟩)] w fun e w' => e = .returned (.tuple #[]) ∧ (Lib.BuilderAtF 141 5 B b (.pointer (some ⟨b, 0, none⟩)) bs w' ∧ Below B w w' ∧ Lib.OthersKept 5 (some b) w w') := Any.Builder_copyCheck_k Try.lays240 Try.Builder_X72_240 B b bs w h
theorem Try.lays167 : Go.Proofs.Lays.n167 Try.prog Try.laysB_ren := {
  mixed := by kernel_rfl
  f167 := Try.func125.trans (congrArg some (by kernel_rfl))
  f240 := Try.func142.trans (congrArg some (by kernel_rfl))
  f276 := Try.func157.trans (congrArg some (by kernel_rfl))
  t0 := Try.underlying0
  a0 := Try.isAgg0
  z0 := Try.sizeOf0
  v0 := Try.zeroValue0
  t4 := Try.underlying4
  a4 := Try.isAgg4
  z4 := Try.sizeOf4
  v4 := Try.zeroValue4
  t5 := Try.underlying5
  a5 := Try.isAgg5
  z5 := Try.sizeOf5
  v5 := Try.zeroValue5
  t9 := Try.underlying9
  a9 := Try.isAgg9
  z9 := Try.sizeOf9
  v9 := Try.zeroValue9
  t20 := Try.underlying20
  a20 := Try.isAgg20
  z20 := Try.sizeOf20
  v20 := Try.zeroValue20
  t37 := Try.underlying126
  a37 := Try.isAgg126
  z37 := Try.sizeOf126
  v37 := Try.zeroValue126
  t70 := Try.underlying139
  a70 := Try.isAgg139
  z70 := Try.sizeOf139
  v70 := Try.zeroValue139
  t72 := Try.underlying141
  a72 := Try.isAgg141
  z72 := Try.sizeOf141
  v72 := Try.zeroValue141
  t75 := Try.underlying143
  a75 := Try.isAgg143
  z75 := Try.sizeOf143
  v75 := Try.zeroValue143
  t164 := Try.underlying170
  a164 := Try.isAgg170
  z164 := Try.sizeOf170
  v164 := Try.zeroValue170 }
theorem Try.Builder_Extra_167 : Builder.Extra Try.prog Try.laysB_ren := {
  sizeBuilder := by kernel_rfl
  liesBuilder := by kernel_rfl
  t5 := Try.underlying5
  a5 := Try.isAgg5
  z5 := Try.sizeOf5
  v5 := Try.zeroValue5
  infoByte := by kernel_rfl
  cellsByte := by kernel_rfl
  sizeByte := by kernel_rfl
  neB5 := by decide }
open Go.RowKit in
/-- (*strings.Builder).WriteByte: "WriteByte appends the byte c to b's buffer. The returned error is always nil.": UNDER Go's OWN LIMIT: the new length takes at most 2^47 bytes. (LAID: no walk: one application.) -/
theorem Try.Builder_WriteByte (B b : Nat) (bs : List Value) (c : Int) (w : World) (h : Lib.IsBuilder 141 5 B b bs w) (hlen : bs.length + 1 ≤ 140737488355328) (hBw : B ≤ w.heap.size) :
    Calls Try.prog 125 #[.pointer (some ⟨b, 0, none⟩), .int .u8 c] w fun e w' => e = .returned .nilIface ∧ (Lib.BuilderAt 141 5 B b (.pointer (some ⟨b, 0, none⟩)) (bs ++ [.int .u8 c]) w' ∧ Below B w w') := Any.Builder_WriteByte Try.lays167 Try.Builder_Extra_167 B b bs c w h hlen hBw
open Go.RowKit in
/-- (*strings.Builder).WriteByte: "WriteByte appends the byte c to b's buffer. The returned error is always nil.": UNDER Go's OWN LIMIT: the new length takes at most 2^47 bytes. (LAID: no walk: one application.) -/
theorem Try.Builder_WriteByte_k (B b : Nat) (bs : List Value) (c : Int) (w : World) (h : Lib.IsBuilderF 141 5 B b bs w) (hlen : bs.length + 1 ≤ 140737488355328) (hBw : B ≤ w.heap.size) :
    Calls Try.prog 125 #[.pointer (some ⟨b, 0, none⟩), .int .u8 c] w fun e w' => e = .returned .nilIface ∧ (Lib.BuilderAtF 141 5 B b (.pointer (some ⟨b, 0, none⟩)) (bs ++ [.int .u8 c]) w' ∧ Below B w w' ∧ Lib.OthersKept 5 (some b) w w') := Any.Builder_WriteByte_k Try.lays167 Try.Builder_Extra_167 B b bs c w h hlen hBw
theorem Try.lays166 : Go.Proofs.Lays.n166 Try.prog Try.laysB_ren := {
  mixed := by kernel_rfl
  f166 := Try.func122.trans (congrArg some (by kernel_rfl))
  f240 := Try.func142.trans (congrArg some (by kernel_rfl))
  f276 := Try.func157.trans (congrArg some (by kernel_rfl))
  t0 := Try.underlying0
  a0 := Try.isAgg0
  z0 := Try.sizeOf0
  v0 := Try.zeroValue0
  t3 := Try.underlying3
  a3 := Try.isAgg3
  z3 := Try.sizeOf3
  v3 := Try.zeroValue3
  t4 := Try.underlying4
  a4 := Try.isAgg4
  z4 := Try.sizeOf4
  v4 := Try.zeroValue4
  t9 := Try.underlying9
  a9 := Try.isAgg9
  z9 := Try.sizeOf9
  v9 := Try.zeroValue9
  t20 := Try.underlying20
  a20 := Try.isAgg20
  z20 := Try.sizeOf20
  v20 := Try.zeroValue20
  t37 := Try.underlying126
  a37 := Try.isAgg126
  z37 := Try.sizeOf126
  v37 := Try.zeroValue126
  t70 := Try.underlying139
  a70 := Try.isAgg139
  z70 := Try.sizeOf139
  v70 := Try.zeroValue139
  t72 := Try.underlying141
  a72 := Try.isAgg141
  z72 := Try.sizeOf141
  v72 := Try.zeroValue141
  t75 := Try.underlying143
  a75 := Try.isAgg143
  z75 := Try.sizeOf143
  v75 := Try.zeroValue143
  t164 := Try.underlying170
  a164 := Try.isAgg170
  z164 := Try.sizeOf170
  v164 := Try.zeroValue170 }
theorem Try.Builder_Extra_166 : Builder.Extra Try.prog Try.laysB_ren := {
  sizeBuilder := by kernel_rfl
  liesBuilder := by kernel_rfl
  t5 := Try.underlying5
  a5 := Try.isAgg5
  z5 := Try.sizeOf5
  v5 := Try.zeroValue5
  infoByte := by kernel_rfl
  cellsByte := by kernel_rfl
  sizeByte := by kernel_rfl
  neB5 := by decide }
open Go.RowKit in
/-- (*strings.Builder).WriteString: "WriteString appends the contents of s to b's buffer. It returns the length of s and a nil error.": UNDER Go's OWN LIMIT: the new length takes at most 2^47 bytes. (LAID: no walk: one application.) -/
theorem Try.Builder_WriteString (B b : Nat) (bs : List Value) (s : ByteArray) (w : World) (h : Lib.IsBuilder 141 5 B b bs w) (hlen : bs.length + s.size ≤ 140737488355328) (hBw : B ≤ w.heap.size) :
    Calls Try.prog 122 #[.pointer (some ⟨b, 0, none⟩), .string s] w fun e w' => e = .returned (.tuple #[.int .i64 s.size, .nilIface]) ∧ (Lib.BuilderAt 141 5 B b (.pointer (some ⟨b, 0, none⟩)) (bs ++ Lib.strCells s) w' ∧ Below B w w') := Any.Builder_WriteString Try.lays166 Try.Builder_Extra_166 B b bs s w h hlen hBw
open Go.RowKit in
/-- (*strings.Builder).WriteString: "WriteString appends the contents of s to b's buffer. It returns the length of s and a nil error.": UNDER Go's OWN LIMIT: the new length takes at most 2^47 bytes. (THE FORM '_f': OF A BUILDER THAT 'String()' HAS READ, TOO: the bytes go in BEHIND what is frozen, or, where there is no room, all goes over into a new row.) (LAID: no walk: one application.) -/
theorem Try.Builder_WriteString_f (B b : Nat) (bs : List Value) (s : ByteArray) (w : World) (h : Lib.IsBuilderF 141 5 B b bs w) (hlen : bs.length + s.size ≤ 140737488355328) (hBw : B ≤ w.heap.size) :
    Calls Try.prog 122 #[.pointer (some ⟨b, 0, none⟩), .string s] w fun e w' => e = .returned (.tuple #[.int .i64 s.size, .nilIface]) ∧ (Lib.BuilderAtF 141 5 B b (.pointer (some ⟨b, 0, none⟩)) (bs ++ Lib.strCells s) w' ∧ Below B w w') := Any.Builder_WriteString_f Try.lays166 Try.Builder_Extra_166 B b bs s w h hlen hBw
open Go.RowKit in
/-- (*strings.Builder).WriteString: "WriteString appends the contents of s to b's buffer. It returns the length of s and a nil error.": UNDER Go's OWN LIMIT: the new length takes at most 2^47 bytes. THE FORM '_k': OVER 'Lib.IsBuilderF' (a builder that 'String()' may have read), AND WITH THE FRAME THAT REACHES ABOVE THE BUILDER: 'Lib.OthersKept': every block that is not b and is no row of uint8's stands as it stood: the iterator of a range among them.' HAS READ, TOO: the bytes go in BEHIND what is frozen, or, where there is no room, all goes over into a new row.) (LAID: no walk: one application.) -/
theorem Try.Builder_WriteString_k (B b : Nat) (bs : List Value) (s : ByteArray) (w : World) (h : Lib.IsBuilderF 141 5 B b bs w) (hlen : bs.length + s.size ≤ 140737488355328) (hBw : B ≤ w.heap.size) :
    Calls Try.prog 122 #[.pointer (some ⟨b, 0, none⟩), .string s] w fun e w' => e = .returned (.tuple #[.int .i64 s.size, .nilIface]) ∧ (Lib.BuilderAtF 141 5 B b (.pointer (some ⟨b, 0, none⟩)) (bs ++ Lib.strCells s) w' ∧ Below B w w' ∧ Lib.OthersKept 5 (some b) w w') := Any.Builder_WriteString_k Try.lays166 Try.Builder_Extra_166 B b bs s w h hlen hBw
end Go.Proofs

namespace Go.Proofs.Ytaiomcjopgnfpaa
open Go.RowKit

theorem TS_inj {t u : Tr} (h : TS t = TS u) : t = u := enc_inj (by rw [← TS_list, ← TS_list, h])
theorem TS_num (n : Nat) : (⟨(Lib.repeatL [49, 48] n).toArray⟩ ++ ⟨#[48]⟩ : ByteArray) = TS (.num n) := by
  apply ba_ext; rw [TS_list, enc_num]; simp [rep10]

theorem repeat10 (n : Nat) (h : n ≤ 1000000) (w : World) :
    Calls Try.prog 143 #[.string ⟨#[49, 48]⟩, .int .i64 n] w fun e w' => e = .returned (.string ⟨(rep10 n).toArray⟩) ∧ Below w.heap.size w w' :=
  Try.strings_Repeat ⟨#[49, 48]⟩ n w (by omega) (by show 2 * n ≤ _; omega)

theorem rep_add0 (n : Nat) (h : n ≤ 1000000) (w : World) : (Op.stringOp .add ⟨(rep10 n).toArray⟩ ⟨#[48]⟩).run Try.prog w = .ok (.string (TS (.num n))) w := by
  rw [run_string_add_sum, show (⟨(rep10 n).toArray⟩ ++ ⟨#[48]⟩ : ByteArray) = TS (.num n) from TS_num n]
  show (rep10 n).toArray.size + 1 ≤ _
  simp [rep10_length]; omega

theorem value_bad (s : ByteArray) (hs : s.size ≤ 281474976710656) (h : isTree s = false) (w : World) :
    Calls Try.prog 163 #[.string s] w fun e w' => e = .returned (.tuple #[.int .i64 0, .int .i64 1]) ∧ Below w.heap.size w w' := by
  go_enter Try.func163, Try.ntmps163
  go_wp2_with (go_at_call 86; refine (valid_bad s hs h _).mono ?_; rintro e w' ⟨rfl, hb1⟩)
  go_ret2
  exact ⟨rfl, hb1⟩
def Tr.isNum (t : Tr) : Bool := decide (t = .num t.pairs)
theorem Tr.isNum_num (n : Nat) : (Tr.num n).isNum = true ∧ (Tr.num n).pairs = n := by
  have : (Tr.num n).pairs = n := by have h1 := (Tr.num n).size_pairs; rw [size_num] at h1; omega
  exact ⟨by unfold Tr.isNum; rw [this]; simp, this⟩
theorem half_size (t : Tr) : ((t.size : Int)) / 2 = (t.pairs : Int) := by have := t.size_pairs; omega
theorem value_num (t : Tr) (hs : t.size ≤ 2000000) (hn : t.isNum = true) (w : World) :
    Calls Try.prog 163 #[.string (TS t)] w fun e w' => e = .returned (.tuple #[.int .i64 t.pairs, .int .i64 0]) ∧ Below w.heap.size w w' := by
  have hz : (TS t).size = t.size := TS_size t
  have hh := half_size t
  have hp := t.size_pairs
  have k1 := fun w => rep_add0 t.pairs (by omega) w
  have hc := fun w => repeat10 t.pairs (by omega) w
  have hv := fun w => valid_ok t hs w
  have e : Tr.num t.pairs = t := (of_decide_eq_true hn).symm
  rw [e] at k1
  have b0 : ((TS t).toList == (TS t).toList) = true := by simp
  have hsz : (t.size : Int) ≤ 2000000 := by omega
  clear hp e hn hs
  generalize rep10 t.pairs = q at k1 hc
  go_enter Try.func163, Try.ntmps163
  go_wp2_with (go_at_call 86; refine (hv _).mono ?_; rintro e w1 ⟨rfl, hb1⟩)
  go_wp2_with (go_at_call 143; refine (hc _).mono ?_; rintro e w2 ⟨rfl, hb2⟩)
  go_ret2
  exact ⟨rfl, hb1.trans (hb2.mono hb1.size)⟩
theorem value_none (t : Tr) (hs : t.size ≤ 2000000) (hn : t.isNum = false) (w : World) :
    Calls Try.prog 163 #[.string (TS t)] w fun e w' => e = .returned (.tuple #[.int .i64 0, .int .i64 4]) ∧ Below w.heap.size w w' := by
  have hz : (TS t).size = t.size := TS_size t
  have hh := half_size t
  have hp := t.size_pairs
  have k1 := fun w => rep_add0 t.pairs (by omega) w
  have hc := fun w => repeat10 t.pairs (by omega) w
  have hv := fun w => valid_ok t hs w
  have b0 : ((TS t).toList == (TS (Tr.num t.pairs)).toList) = false := by
    rw [beq_eq_false_iff_ne]; intro e
    rw [Lib.toList_data, Lib.toList_data, TS_list, TS_list] at e
    exact of_decide_eq_false hn (enc_inj e)
  have hsz : (t.size : Int) ≤ 2000000 := by omega
  clear hp hn hs
  generalize rep10 t.pairs = q at k1 hc
  generalize TS (Tr.num t.pairs) = r at k1 b0
  go_enter Try.func163, Try.ntmps163
  go_wp2_with (go_at_call 86; refine (hv _).mono ?_; rintro e w1 ⟨rfl, hb1⟩)
  go_wp2_with (go_at_call 143; refine (hc _).mono ?_; rintro e w2 ⟨rfl, hb2⟩)
  go_ret2
  exact ⟨rfl, hb1.trans (hb2.mono hb1.size)⟩

end Go.Proofs.Ytaiomcjopgnfpaa

namespace Go.Proofs.Ytaiomcjopgnfpaa
open Go.RowKit

theorem ret_s {a b : ByteArray} (h : a = b) : Ending.returned (.string a) = .returned (.string b) := by rw [h]
theorem ret_i {a b : Int} (h : a = b) : Ending.returned (.int .i64 a) = .returned (.int .i64 b) := by rw [h]
theorem rep10_cells (k : Nat) : Lib.byteCells (rep10 (k + 1)) = Lib.byteCells (rep10 k) ++ [.int .u8 49, .int .u8 48] := by
  rw [rep10_succ]; simp [Lib.byteCells]

set_option maxHeartbeats 400000 in
theorem refNumber_ok (n : Nat) (h : n ≤ 2000000) (w : World) :
    Calls Try.prog 155 #[.int .i64 n] w fun e w' => e = .returned (.string (TS (.num n))) ∧ Below w.heap.size w w' := by
  have hn : (n : Int) ≤ 2000000 := by omega
  have e1 : (2 * (n : Int) + 1) = ((2 * n + 1 : Nat) : Int) := by omega
  have hr : TS (.num n) = ⟨(rep10 n ++ [48]).toArray⟩ := by unfold TS; rw [enc_num]
  have HR := Lib.hid hr; clear hr
  obtain ⟨i0, hi0, hz0, hz1, hz2⟩ := info_parts el_u8.hi
  have HE := Lib.hid e1; clear e1
  go_enter Try.func155, Try.ntmps155
  go_wp2_with (at_make; refine wpList_make_own _ rfl _ _ 126 rfl w.heap.size 5 i0 _ 1 el_u8.ht hi0 hz0 hz1 _ _ _ (2 * n + 1) rfl rfl HE.out ?b1 ?b2 ?b3 ?_)
  case b1 => rw [hz2]; omega
  case b2 => unfold maxLen; omega
  case b3 => exact Nat.le_refl _
  intro w1 hown hg
  have hb : Below w.heap.size w w1 := (Below.refl _ _).grown hg (Nat.le_refl _) (by simp)
  clear hg HE
  go_wp2
  go_loopg [3, 4] n (fun g v i wr => ∃ k : Nat, k ≤ n ∧ g = n - k ∧ i = .int .i64 k ∧ wr.ownsRow w.heap.size 5 1 v (2 * k) (Lib.byteCells (rep10 k)) ∧ Below w.heap.size w wr)
  case atStart => exact ⟨0, by omega, rfl, rfl, hown, hb⟩
  case round =>
    obtain ⟨k, hk, hgk, rfl, hown, hb⟩ := hrel
    have HG := Lib.hid hgk; clear hgk
    have hsz := hb.size
    by_cases hlt : k < n
    · go_wp2_with (at_builtin; refine app_new el_u8 rfl _ _ rfl rfl hown [.int .u8 49, .int .u8 48] 2 rfl rfl ?c1 ?c2 ?c3 hsz hb (Nat.le_refl _) ?_)
      case c1 => intro u hu; simp at hu; rcases hu with rfl | rfl <;> rfl
      case c2 => omega
      case c3 => unfold maxLen; omega
      intro v' w' hown' hb' hgr
      clear hown hb
      go_wp2
      go_roundg (n - (k + 1))
      case measure => rw [HG.out]; omega
      case rel => exact ⟨k + 1, by omega, rfl, by go_num, by rw [rep10_cells]; exact hown', hb'⟩
    · have hkn : k = n := by omega
      have HK := Lib.hid hkn
      clear hkn
      go_wp2_with (at_builtin; refine app_new el_u8 rfl _ _ rfl rfl hown [.int .u8 48] 1 rfl rfl ?c1 ?c2 ?c3 hsz hb (Nat.le_refl _) ?_)
      case c1 => intro u hu; simp at hu; rcases hu with rfl; rfl
      case c2 => omega
      case c3 => unfold maxLen; omega
      intro v' w' hown' hb' hgr
      have hcv := own_bytes (P := Try.prog) (rep10 k ++ [48]) (by simpa [Lib.byteCells] using hown') 126 Try.underlying126 Try.underlying5 9 Try.underlying9
      clear hown hb hown'
      go_wp2
      go_ret
      exact ⟨by rw [HR.out, ← HK.out]; rfl, hb'⟩

/-- The first m characters are '10' again and again. -/
def RV (t : Tr) (m : Nat) : Prop := ∃ k, m = 2 * k ∧ k ≤ t.pairs ∧ t.enc.take m = rep10 k
theorem TS_get (t : Tr) (m : Nat) (h : m < (TS t).size) : (TS t)[m] = t.enc[m]'(by rw [TS_size, ← Tr.enc_length] at h; exact h) := by
  show (TS t).data[m] = _
  simp [TS]
theorem RV_zero (t : Tr) : RV t 0 := ⟨0, rfl, Nat.zero_le _, by simp [rep10, Lib.repeatL]⟩
theorem RV_step {t : Tr} {m : Nat} (h : RV t m) (hm : m + 1 < (TS t).size) (h9 : (((TS t)[m]'(by omega)).toNat : Int) = 49) (h8 : ((TS t)[m + 1].toNat : Int) = 48) : RV t (m + 2) := by
  obtain ⟨k, rfl, hk, ht⟩ := h
  rw [TS_get] at h9 h8
  have hm' : 2 * k + 1 < t.enc.length := by rw [Tr.enc_length, ← TS_size]; exact hm
  have hs := t.size_pairs
  refine ⟨k + 1, by omega, by rw [Tr.enc_length] at hm'; omega, ?_⟩
  rw [show 2 * k + 2 = (2 * k + 1) + 1 from rfl, List.take_succ_eq_append_getElem hm', List.take_succ_eq_append_getElem (by omega), ht, rep10_succ]
  have a9 : t.enc[2 * k] = 49 := UInt8.toNat_inj.1 (by have : (49 : UInt8).toNat = 49 := rfl; omega)
  have a8 : t.enc[2 * k + 1] = 48 := UInt8.toNat_inj.1 (by have : (48 : UInt8).toNat = 48 := rfl; omega)
  rw [a9, a8]; simp
theorem RV_end {t : Tr} {m : Nat} (h : RV t m) (hm : ¬ m + 1 < (TS t).size) : t.isNum = true := by
  obtain ⟨k, rfl, hk, ht⟩ := h
  have hs := t.size_pairs
  rw [TS_size] at hm
  obtain rfl : k = t.pairs := by omega
  have hl : 2 * t.pairs < t.enc.length := by rw [Tr.enc_length]; omega
  have e : t.enc = rep10 t.pairs ++ [t.enc[2 * t.pairs]] := by
    rw [← ht, ← List.take_succ_eq_append_getElem hl, List.take_of_length_le (by rw [Tr.enc_length]; omega)]
  exact decide_eq_true (num_of_rep _ _ _ e)
theorem RV_no {t : Tr} {m : Nat} (h : RV t m) (hm : m + 1 < (TS t).size) (hn : t.isNum = true) : (((TS t)[m]'(by omega)).toNat : Int) = 49 ∧ ((TS t)[m + 1].toNat : Int) = 48 := by
  obtain ⟨k, rfl, hk, ht⟩ := h
  have hs := t.size_pairs
  have hm2 : 2 * k + 1 < t.size := by rw [TS_size] at hm; exact hm
  rw [TS_get, TS_get]
  have e : t = .num t.pairs := of_decide_eq_true hn
  have e2 : t.enc = rep10 (k + 1) ++ (rep10 (t.pairs - (k + 1)) ++ [48]) := by
    have : rep10 t.pairs = rep10 (k + 1) ++ rep10 (t.pairs - (k + 1)) := by
      have hh : ∀ a b, rep10 (a + b) = rep10 a ++ rep10 b := by
        intro a b
        induction a with
        | zero => simp [rep10, Lib.repeatL]
        | succ a ih => rw [Nat.succ_add]; show [49, 48] ++ rep10 (a + b) = ([49, 48] ++ rep10 a) ++ rep10 b; rw [ih, List.append_assoc]
      rw [← hh]; congr 1; omega
    rw [← List.append_assoc, ← this]
    exact (congrArg Tr.enc e).trans (enc_num _)
  have l1 : (rep10 k).length = 2 * k := rep10_length k
  have g9 : t.enc[2 * k]? = some 49 := by rw [e2, rep10_succ]; simp [l1]
  have g8 : t.enc[2 * k + 1]? = some 48 := by rw [e2, rep10_succ]; simp [l1]
  have hl : 2 * k + 1 < t.enc.length := by rw [Tr.enc_length]; omega
  rw [List.getElem?_eq_getElem (by omega)] at g9
  rw [List.getElem?_eq_getElem hl] at g8
  simp only [Option.some.injEq] at g9 g8
  rw [g9, g8]; exact ⟨rfl, rfl⟩
def rVal (t : Tr) : Int := if t.isNum then t.pairs else -1

theorem refEnd_pair (h t : Tr) (hs : (Tr.pair h t).size ≤ 2000000) (w : World) :
    Calls Try.prog 78 #[.string (TS (.pair h t)), .int .i64 1] w fun e w' => e = .returned (.int .i64 (1 + h.size)) ∧ w = w' := by
  have h1 : (TS (.pair h t)).size = (Tr.pair h t).size := TS_size _
  have := refEnd_any (TS (.pair h t)) 1 (by rw [h1]; exact Tr.size_pos _) (by omega) w
  rw [TS_end1] at this; exact this
/-- How many characters are '1' among the first m. -/
def ones (l : List UInt8) : Nat := (l.filter fun c => c == 49).length
theorem ones_app (a b : List UInt8) : ones (a ++ b) = ones a + ones b := by simp [ones]
theorem ones_enc (t : Tr) : ones t.enc = t.pairs := by
  induction t with
  | nil => rfl
  | pair a b iha ihb =>
    have : (Tr.pair a b).enc = [49] ++ (a.enc ++ b.enc) := rfl
    rw [this, ones_app, ones_app, iha, ihb]
    show 1 + _ = _
    simp [Tr.pairs]; omega
theorem ones_le (l : List UInt8) : ones l ≤ l.length := List.length_filter_le _ _
theorem ones_snoc (s : ByteArray) (k : Nat) (h : k < s.size) : ones (s.data.toList.take (k + 1)) = ones (s.data.toList.take k) + if (s[k].toNat : Int) = 49 then 1 else 0 := by
  rw [List.take_succ_eq_append_getElem (by simpa using h), ones_app]
  congr 1
  show ones [s[k]] = _
  by_cases e : (s[k].toNat : Int) = 49
  · rw [if_pos e]
    have a9 : s[k] = 49 := UInt8.toNat_inj.1 (by have : (49 : UInt8).toNat = 49 := rfl; omega)
    rw [a9]; rfl
  · rw [if_neg e]
    have a9 : ¬ s[k] = 49 := fun h => e (by rw [h]; rfl)
    simp [ones, a9]

end Go.Proofs.Ytaiomcjopgnfpaa


/- Slices that a call makes itself: append, reading back, bytes to a string. Over any program. -/
import Derived.WalkKit
import Derived.WalkSpells
import Derived.WalkLawsBesides
import Derived.BigQuiet
import Derived.Deep.QuietTactic
import Derived.Lib.Hide
import Derived.Deep.LoopGhost
import Derived.Lib.Strings
import Derived.Lib.UnsafeStr
import Derived.WalkSmall
import Derived.Deep.AppendLies
import Derived.Lib.AppendStr
import Derived.Deep.RegionLaw
import Derived.Deep.RegionHeld3
namespace Go.Proofs.Ytaiomcjopgnfpaa
open Go.RowKit

/-- An element type of slices: the slice's type, the element's, its zero value, its cells, its bytes. -/
structure ElemT (P : Program) (tS tE : Nat) (z : Value) (sz by_ : Nat) : Prop where
  ht : P.underlying tS = some (.slice tE)
  hi : (P.info? tE).map (fun i => (i.zero, i.size, i.bytes)) = some (some z, sz, by_)
  hzs : z.cells.size = sz
  hsz : 0 < sz

theorem grownBy_alloc_trans {w w' : World} {o : Obj} {row : Option Nat} (h : (w.alloc o).grownBy w' row) : w.heap.size < w'.heap.size ∧ ∀ k, k < w.heap.size → some k ≠ row → w'.heap[k]? = w.heap[k]? :=
  ⟨by have := h.size; simp at this; omega, fun k hk hne => (h.block k (by simp; omega) hne).trans (Below.heap_alloc _ _ _ hk)⟩

/-- What an append leaves besides: what is old stands; the value is not nil where something was appended. -/
structure Grew (w w' : World) (v v' : Value) (m : Nat) : Prop where
  lt : w.heap.size < w'.heap.size
  old : ∀ k, k < w.heap.size → some k ≠ v.ownBlock → w'.heap[k]? = w.heap[k]?
  nn : m = 0 ∨ ¬ v' = .slice none 0 0

/-- append of elements that stand in a block of their own, just made. -/
theorem app_new {P : Program} {tS tE : Nat} {z : Value} {sz by_ : Nat} (E : ElemT P tS tE z sz by_) {ops : Array Oper} {rest : List Oper} {o : Oper} {a : Act} {Q : Exit → Act → World → Prop}
    (hgd : o.guard = none) (s x : Operand) (ho : o.op = .call { callee := .builtin .append, args := #[s, x], argTypes := #[tS, tS] }) {w : World} {base : Nat} {v : Value} {n : Nat} {xs : List Value}
    (hs : a.eval s = v) (hown : w.ownsRow base tE sz v n xs) (news : List Value) (m : Nat) (hx : a.eval x = .slice (some ⟨w.heap.size, 0, none⟩) m m) (hl : news.length = m * sz)
    (h1 : ∀ u ∈ news, u.oneCell' = true) (hby : (n + m) * by_ ≤ 140737488355328) (h63 : n + m ≤ maxLen) (hbase : base ≤ w.heap.size) {B : Nat} {w0 : World} (hb : Below B w0 w) (hB : B ≤ base)
    (h : ∀ v' w', w'.ownsRow base tE sz v' (n + m) (xs ++ news) → Below B w0 w' → Grew w w' v v' m → wpList P ops Q rest (a.put o.dst v') w') :
    wpList P ops Q (o :: rest) a (w.alloc (.cells news.toArray tE)) := by
  obtain ⟨i, hi, hz, hsize, hbytes⟩ := info_parts E.hi
  have hlt := hown.lt
  refine wpList_append_own _ hgd s x tS ho base tE i z sz by_ E.ht hi hz hsize hbytes E.hzs E.hsz v n xs hs (hown.alloc _) ⟨w.heap.size, 0, none⟩ m m news hx hl ?_ h1 h63 hby (by simp; omega) ?_
  · intro j u hu
    rw [Addr.add_lit]
    unfold World.cell?
    rw [show (w.alloc (.cells news.toArray tE)).heap[w.heap.size]? = _ from heap_alloc_new w _]
    simp [hu]
  · intro v' w' ho' hg hnil
    refine h v' w' ho' ?_ ⟨(grownBy_alloc_trans hg).1, (grownBy_alloc_trans hg).2, ?_⟩
    · exact (hb.alloc (by omega) _).grown hg (by simp; omega) (fun k hk => by have := (hlt k hk).1; omega)
    · by_cases hm : m = 0
      · exact .inl hm
      · exact .inr fun e => hm (hnil.1 e).2

/-- The same, as a step of a region that draws. -/
theorem step_new {P : Program} {tS tE : Nat} {z : Value} {sz by_ : Nat} (E : ElemT P tS tE z sz by_) {ops : Array Oper} {o : Oper} {a : Act} {K : Act → World → Prop} {Q : Exit → Act → World → Prop} {EE : Prop}
    (hgd : o.guard = none) (s x : Operand) (ho : o.op = .call { callee := .builtin .append, args := #[s, x], argTypes := #[tS, tS] }) {w : World} {base : Nat} {v : Value} {n : Nat} {xs : List Value}
    (hs : a.eval s = v) (hown : w.ownsRow base tE sz v n xs) (news : List Value) (m : Nat) (hx : a.eval x = .slice (some ⟨w.heap.size, 0, none⟩) m m) (hl : news.length = m * sz) (hm : 0 < m)
    (h1 : ∀ u ∈ news, u.oneCell' = true) (hby : (n + m) * by_ ≤ 140737488355328) (h63 : n + m ≤ maxLen) (hbase : base ≤ w.heap.size) {B : Nat} {w0 : World} (hb : Below B w0 w) (hB : B ≤ base)
    (h : ∀ g cap w', w'.ownsRow base tE sz (.slice (some ⟨g, 0, none⟩) (n + m) cap) (n + m) (xs ++ news) → Below B w0 w' → Grew w w' v (.slice (some ⟨g, 0, none⟩) (n + m) cap) m → K (a.put o.dst (.slice (some ⟨g, 0, none⟩) (n + m) cap)) w') :
    if Region.wanted o (yielded ops a.tmps) = true then Oper.wp P o a (w.alloc (.cells news.toArray tE)) K Q else EE := by
  obtain ⟨i, hi, hz, hsize, hbytes⟩ := info_parts E.hi
  have hlt := hown.lt
  refine step_append_lies _ hgd s x tS ho base tE i z sz by_ E.ht hi hz hsize hbytes E.hzs E.hsz v n xs hs (hown.alloc _) ⟨w.heap.size, 0, none⟩ m m news hx hl ?_ h1 hm h63 hby (by simp; omega) _ rfl ?_
  · intro j u hu
    rw [Addr.add_lit]
    unfold World.cell?
    rw [show (w.alloc (.cells news.toArray tE)).heap[w.heap.size]? = _ from heap_alloc_new w _]
    simp [hu]
  · intro g cap w' ho' hg _ _
    refine h g cap w' ho' ?_ ⟨(grownBy_alloc_trans hg).1, (grownBy_alloc_trans hg).2, .inr (by simp)⟩
    exact (hb.alloc (by omega) _).grown hg (by simp; omega) (fun k hk => by have := (hlt k hk).1; omega)

/-- append of a string's bytes, as a step of a region that draws. -/
theorem step_str {P : Program} {tS tE tu : Nat} (E : ElemT P tS tE (.int .u8 0) 1 1) (hu : P.underlying tu = some .string) {ops : Array Oper} {o : Oper} {a : Act} {K : Act → World → Prop} {Q : Exit → Act → World → Prop} {EE : Prop}
    (hgd : o.guard = none) (sl x : Operand) (ho : o.op = .call { callee := .builtin .append, args := #[sl, x], argTypes := #[tS, tu] }) {w : World} {base : Nat} {v : Value} {n : Nat} {xs : List Value}
    (hs : a.eval sl = v) (hown : w.ownsRow base tE 1 v n xs) (s : ByteArray) (hx : a.eval x = .string s) (hby : n + s.size ≤ 140737488355328) (hbase : base ≤ w.heap.size) {B : Nat} {w0 : World} (hb : Below B w0 w) (hB : B ≤ base)
    (h : ∀ v' w', w'.ownsRow base tE 1 v' (n + s.size) (xs ++ Lib.strCells s) → Below B w0 w' → w.grownBy w' v.ownBlock → K (a.put o.dst v') w') :
    if Region.wanted o (yielded ops a.tmps) = true then Oper.wp P o a w K Q else EE := by
  obtain ⟨i, hi, hz, hsize, hbytes⟩ := info_parts E.hi
  have hlt := hown.lt
  have hw : Region.wanted o (yielded ops a.tmps) = true := by simp [Region.wanted, hgd]
  rw [if_pos hw]
  obtain ⟨v', w', hr, h2, h3, _⟩ := Lib.run_append_own_string (P := P) w base tS tu o.type tE i E.ht hu hi hz hsize hbytes v n xs hown s (by unfold maxLen; omega) hby hbase
  unfold Oper.wp execOp
  simp only [ho, resolve, invoke, builtin, Sem.run_bind, Sem.run_pure, Result.andThen_ok, List.map_toArray, List.map_cons, List.map_nil, hs, hx, hr]
  exact h v' w' h2 (hb.grown h3 (by omega) (fun k hk => by have := (hlt k hk).1; omega)) h3

/-- append of a string's bytes. -/
theorem own_bytes {P : Program} {w : World} {base e : Nat} {v : Value} {n : Nat} (l : List UInt8) (h : w.ownsRow base e 1 v n (Lib.byteCells l)) (src : Nat) (hs : P.underlying src = some (.slice e)) (he : P.underlying e = some (.int .u8)) :
    ∀ dst, P.underlying dst = some .string → (convert src dst v).run P w = .ok (.string ⟨l.toArray⟩) w := by
  intro dst hd
  have hn : l.length = n := by have := h.1; simpa [Lib.byteCells] using this
  rcases h.2 with ⟨rfl, h0⟩ | ⟨g, cap, cur, rfl, hb, hg, hnc, hcm, hcs, htake⟩
  · rw [run_convert_bytes_nil w src e hs he 0 0 dst hd]
    have : l = [] := List.length_eq_zero_iff.1 (by omega)
    subst this; rfl
  · have := run_convert_bytes_arg (P := P) w src e hs he g 0 n cap (l.map fun b => (b.toNat : Int)) (by simpa using hn) (fun i hi => by
      have := World.ownsRow.cellAt h i (by omega)
      rw [Nat.zero_add, this]
      simp [Lib.byteCells, hn, hi]) dst hd
    rw [this]
    congr 2
    apply ByteArray.ext
    simp [strOfNums]
    have : (fun n : Int => UInt8.ofNat n.toNat) ∘ (fun b : UInt8 => (b.toNat : Int)) = id := by funext b; simp
    rw [this]; simp

/-- A slice's cells, where something is appended from. -/
def Src (w : World) (v : Value) (n sz : Nat) (xs : List Value) : Prop :=
  xs.length = n * sz ∧ ((v = .slice none 0 0 ∧ n = 0) ∨ ∃ ad c, v = .slice (some ad) n c ∧ ∀ j u, xs[j]? = some u → w.cell? (ad.add j) = some u)

/-- append of another slice's elements. -/
theorem app_src {P : Program} {tS tE : Nat} {z : Value} {sz by_ : Nat} (E : ElemT P tS tE z sz by_) {ops : Array Oper} {rest : List Oper} {o : Oper} {a : Act} {Q : Exit → Act → World → Prop}
    (hgd : o.guard = none) (s x : Operand) (ho : o.op = .call { callee := .builtin .append, args := #[s, x], argTypes := #[tS, tS] }) {w : World} {base : Nat} {v vx : Value} {n m : Nat} {xs news : List Value}
    (hs : a.eval s = v) (hown : w.ownsRow base tE sz v n xs) (hx : a.eval x = vx) (hsrc : Src w vx m sz news)
    (h1 : ∀ u ∈ news, u.oneCell' = true) (hby : (n + m) * by_ ≤ 140737488355328) (h63 : n + m ≤ maxLen) (hbase : base ≤ w.heap.size) {B : Nat} {w0 : World} (hb : Below B w0 w) (hB : B ≤ base)
    (h : ∀ v' w', w'.ownsRow base tE sz v' (n + m) (xs ++ news) → Below B w0 w' → w.grownBy w' v.ownBlock → wpList P ops Q rest (a.put o.dst v') w') :
    wpList P ops Q (o :: rest) a w := by
  obtain ⟨i, hi, hz, hsize, hbytes⟩ := info_parts E.hi
  have hlt := hown.lt
  obtain ⟨hl, hc⟩ := hsrc
  rcases hc with ⟨rfl, rfl⟩ | ⟨ad, c, rfl, hcells⟩
  · have hnews : news = [] := List.eq_nil_of_length_eq_zero (by simpa using hl)
    subst hnews
    refine wpList_plain hgd fun K hK' => ?_
    have hrun := run_append_owned_none (P := P) w base tS o.type tE i sz E.ht hi v n xs hown
    unfold Oper.wp
    simp [execOp, ho, resolve, invoke, builtin, hs, hx, hrun, Result.andThen]
    exact hK' _ _ (h v w (by simpa using hown) hb ⟨rfl, rfl, rfl, Nat.le_refl _, fun _ _ _ => rfl⟩)
  · refine wpList_append_own _ hgd s x tS ho base tE i z sz by_ E.ht hi hz hsize hbytes E.hzs E.hsz v n xs hs hown ad m c news hx hl hcells h1 h63 hby hbase ?_
    intro v' w' ho' hg _
    exact h v' w' ho' (hb.grown hg (by omega) (fun k hk => by have := (hlt k hk).1; omega)) hg

/-- The cells of an owned slice that is not empty. -/
theorem own_cells {w : World} {base e sz : Nat} {v : Value} {n : Nat} {xs : List Value} (h : w.ownsRow base e sz v n xs) (hn : 0 < n) :
    ∃ g cap, v = .slice (some ⟨g, 0, none⟩) n cap ∧ base ≤ g ∧ g < w.heap.size ∧ n ≤ cap ∧ cap ≤ maxLen ∧ (∀ j, j < n * sz → w.cell? ⟨g, j, none⟩ = xs[j]?) ∧ (∀ j, w.frozen? ⟨g, j, none⟩ = false) := by
  rcases h.2 with ⟨rfl, h0⟩ | ⟨g, cap, cur, rfl, hb, hg, hnc, hcm, hcs, htake⟩
  · omega
  · exact ⟨g, cap, rfl, hb, (Array.getElem?_eq_some_iff.1 hg).1, hnc, hcm, fun j hj => World.ownsRow.cellAt h j hj, fun j => World.ownsRow.frozenAt h j⟩

/-- The length of an owned slice's value. -/
theorem own_len {w : World} {base e sz : Nat} {v : Value} {n : Nat} {xs : List Value} (h : w.ownsRow base e sz v n xs) : ∃ a c, v = .slice a n c := by
  rcases h.2 with ⟨rfl, rfl⟩ | ⟨g, cap, cur, rfl, _⟩
  · exact ⟨_, _, rfl⟩
  · exact ⟨_, _, rfl⟩

end Go.Proofs.Ytaiomcjopgnfpaa

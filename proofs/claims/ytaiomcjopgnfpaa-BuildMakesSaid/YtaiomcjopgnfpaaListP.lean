/- Plain: lists of trees as trees. And rows of strings in memory. -/
import Derived.Test.YtaiomcjopgnfpaaParts
import Derived.Test.YtaiomcjopgnfpaaNumP
import Derived.Test.YtaiomcjopgnfpaaOwn
namespace Go.Proofs.Ytaiomcjopgnfpaa
open Go.RowKit

/-- A list of trees as a tree. -/
def Tr.ofList : List Tr → Tr | [] => .nil | t :: ts => .pair t (Tr.ofList ts)
def Tr.items : Tr → List Tr | .nil => [] | .pair a b => a :: b.items
theorem Tr.ofList_items (t : Tr) : Tr.ofList t.items = t := by induction t with | nil => rfl | pair a b _ ih => simp [items, ofList, ih]
theorem Tr.items_ofList (l : List Tr) : (Tr.ofList l).items = l := by induction l with | nil => rfl | cons a l ih => simp [items, ofList, ih]
def lsum (l : List Tr) : Nat := (l.map fun t => t.size + 1).sum
theorem size_ofList (l : List Tr) : (Tr.ofList l).size = 1 + lsum l := by induction l with | nil => rfl | cons a l ih => simp [Tr.ofList, Tr.size, ih, lsum]; omega
theorem lsum_append (a b : List Tr) : lsum (a ++ b) = lsum a + lsum b := by simp [lsum]
def lenc (l : List Tr) : List UInt8 := (l.map fun t => 49 :: t.enc).flatten
theorem enc_ofList (l : List Tr) : (Tr.ofList l).enc = lenc l ++ [48] := by induction l with | nil => rfl | cons a l ih => simp [Tr.ofList, Tr.enc, ih, lenc]
theorem lenc_length (l : List Tr) : (lenc l).length = lsum l := by
  have h1 := congrArg List.length (enc_ofList l)
  have h2 := size_ofList l
  rw [Tr.enc_length] at h1; simp at h1; omega
theorem lenc_append (a b : List Tr) : lenc (a ++ b) = lenc a ++ lenc b := by simp [lenc]
theorem items_size_le (t : Tr) : ∀ u ∈ t.items, u.size ≤ t.size := by
  induction t with
  | nil => intro u h; simp [Tr.items] at h
  | pair a b _ ih =>
    intro u h
    simp only [Tr.items, List.mem_cons] at h
    rcases h with rfl | h
    · simp only [Tr.size]; omega
    · have := ih u h; simp only [Tr.size]; omega
theorem items_length_le (t : Tr) : t.items.length ≤ t.size := by
  induction t with
  | nil => simp [Tr.items]
  | pair a b _ ih => simp only [Tr.items, List.length_cons, Tr.size]; omega

/-- A slice of strings in memory, below a block. -/
def StrRow (w : World) (B : Nat) (v : Value) (l : List ByteArray) : Prop :=
  (∀ s ∈ l, s.size ≤ 281474976710656) ∧ l.length ≤ 281474976710656 ∧
  ((l = [] ∧ (v = .slice none 0 0 ∨ ∃ a c, v = .slice (some a) 0 c)) ∨ ∃ g off cap, v = .slice (some ⟨g, off, none⟩) l.length cap ∧ g < B ∧ ∀ j s, l[j]? = some s → w.cell? ⟨g, off + j, none⟩ = some (.string s))
theorem StrRow.below {w w' : World} {B : Nat} {v : Value} {l : List ByteArray} (h : StrRow w B v l) (hb : Below B w w') : StrRow w' B v l := by
  obtain ⟨h1, h2, h3⟩ := h
  refine ⟨h1, h2, ?_⟩
  rcases h3 with h3 | ⟨g, off, cap, hv, hg, hc⟩
  · exact .inl h3
  · exact .inr ⟨g, off, cap, hv, hg, fun j s hj => (hb.cell (p := ⟨g, off + j, none⟩) hg).trans (hc j s hj)⟩
theorem StrRow.mono {w : World} {B B' : Nat} {v : Value} {l : List ByteArray} (h : StrRow w B v l) (hb : B ≤ B') : StrRow w B' v l := by
  obtain ⟨h1, h2, h3⟩ := h
  refine ⟨h1, h2, ?_⟩
  rcases h3 with h3 | ⟨g, off, cap, hv, hg, hc⟩
  · exact .inl h3
  · exact .inr ⟨g, off, cap, hv, by omega, hc⟩
theorem StrRow.of_own {w : World} {base e : Nat} {v : Value} {n : Nat} {l : List ByteArray} (h : w.ownsRow base e 1 v n (l.map Value.string)) (hl : ∀ s ∈ l, s.size ≤ 281474976710656) (hn : l.length ≤ 281474976710656) : StrRow w w.heap.size v l := by
  have hn' : l.length = n := by have := h.1; simpa using this
  refine ⟨hl, hn, ?_⟩
  rcases h.2 with ⟨rfl, h0⟩ | ⟨g, cap, cur, rfl, hb, hg, hnc, hcm, hcs, htake⟩
  · exact .inl ⟨List.length_eq_zero_iff.1 (by omega), .inl rfl⟩
  · refine .inr ⟨g, 0, cap, by rw [hn'], (Array.getElem?_eq_some_iff.1 hg).1, fun j s hj => ?_⟩
    have hlt : j < n := by rw [← hn']; exact (List.getElem?_eq_some_iff.1 hj).1
    rw [Nat.zero_add, World.ownsRow.cellAt h j (by omega)]
    simp [hj]

theorem StrRow.len {w : World} {B : Nat} {v : Value} {l : List ByteArray} (h : StrRow w B v l) : ∃ ao cap, v = .slice ao l.length cap := by
  rcases h.2.2 with ⟨rfl, rfl | ⟨a, c, rfl⟩⟩ | ⟨g, off, cap, rfl, _⟩
  · exact ⟨_, _, rfl⟩
  · exact ⟨_, _, rfl⟩
  · exact ⟨_, cap, rfl⟩
theorem StrRow.get {w : World} {B : Nat} {ao : Option Addr} {n cap : Nat} {l : List ByteArray} (h : StrRow w B (.slice ao n cap) l) {k : Nat} {s : ByteArray} (hk : l[k]? = some s) :
    ∃ g off, ao = some ⟨g, off, none⟩ ∧ g < B ∧ w.cell? ⟨g, off + k, none⟩ = some (.string s) := by
  rcases h.2.2 with ⟨rfl, _⟩ | ⟨g, off, cap', hv, hg, hc⟩
  · simp at hk
  · simp only [Value.slice.injEq] at hv
    exact ⟨g, off, hv.1, hg, hc k s hk⟩
theorem StrRow.size {w : World} {B : Nat} {v : Value} {l : List ByteArray} (h : StrRow w B v l) {k : Nat} {s : ByteArray} (hk : l[k]? = some s) : s.size ≤ 281474976710656 := h.1 s (List.mem_of_getElem? hk)

theorem StrRow.src {w : World} {B : Nat} {v : Value} {l : List ByteArray} (h : StrRow w B v l) : Src w v l.length 1 (l.map Value.string) := by
  refine ⟨by simp, ?_⟩
  rcases h.2.2 with ⟨rfl, rfl | ⟨a, c, rfl⟩⟩ | ⟨g, off, cap, rfl, hg, hc⟩
  · exact .inl ⟨rfl, rfl⟩
  · exact .inr ⟨a, c, rfl, fun j u hj => by simp at hj⟩
  · refine .inr ⟨_, _, rfl, fun j u hj => ?_⟩
    rw [List.getElem?_map] at hj
    obtain ⟨s, hs, rfl⟩ := Option.map_eq_some_iff.1 hj
    rw [Addr.add_lit]
    exact hc j s hs

/-- What tree.List counts. -/
def lcount (l : List ByteArray) : Nat := 1 + (l.map fun s => min s.size 2000000 + 1).sum
theorem lcount_snoc (l : List ByteArray) (s : ByteArray) : lcount (l ++ [s]) = lcount l + (min s.size 2000000 + 1) := by simp [lcount]; omega
theorem lcount_le (l : List ByteArray) : lcount l ≤ 1 + l.length * 2000001 := by
  induction l with
  | nil => simp [lcount]
  | cons a l ih => simp only [lcount, List.map_cons, List.sum_cons, List.length_cons] at *; omega
def allTree (l : List ByteArray) : Bool := l.all isTree
theorem allTree_get {l : List ByteArray} (h : allTree l = true) : ∃ ts : List Tr, l = ts.map TS ∧ ∀ t ∈ ts, t.size ≤ 2000000 := by
  induction l with
  | nil => exact ⟨[], rfl, by simp⟩
  | cons s l ih =>
    simp only [allTree, List.all_cons, Bool.and_eq_true] at h
    obtain ⟨t, rfl, ht⟩ := isTree_get h.1
    obtain ⟨ts, rfl, hts⟩ := ih h.2
    exact ⟨t :: ts, rfl, by intro u hu; rcases List.mem_cons.1 hu with rfl | hu; exact ht; exact hts u hu⟩
theorem lcount_TS (ts : List Tr) (h : ∀ t ∈ ts, t.size ≤ 2000000) : lcount (ts.map TS) = (Tr.ofList ts).size := by
  rw [size_ofList]
  induction ts with
  | nil => rfl
  | cons t ts ih =>
    have h1 := ih (fun u hu => h u (List.mem_cons_of_mem _ hu))
    have h2 := h t (List.mem_cons_self ..)
    have h3 := TS_size t
    simp only [lcount, List.map_cons, List.sum_cons, lsum] at *
    omega
/-- The error of tree.List, and its string. -/
def listE (l : List ByteArray) : Int := if allTree l then (if lcount l ≤ 2000000 then 0 else 3) else 1
def listS (l : List ByteArray) : ByteArray := if allTree l && decide (lcount l ≤ 2000000) then ⟨(((l.map fun s : ByteArray => (49 : UInt8) :: s.data.toList).flatten) ++ [48]).toArray⟩ else ⟨#[]⟩
theorem listS_TS (ts : List Tr) (h : ∀ t ∈ ts, t.size ≤ 2000000) (hs : (Tr.ofList ts).size ≤ 2000000) : listS (ts.map TS) = TS (Tr.ofList ts) ∧ listE (ts.map TS) = 0 := by
  have h1 : allTree (ts.map TS) = true := by simp [allTree]; exact fun t ht => isTree_TS t (h t ht)
  have h2 := lcount_TS ts h
  refine ⟨?_, by unfold listE; rw [h1, h2, if_pos rfl, if_pos hs]⟩
  unfold listS; rw [h1, h2, decide_eq_true hs]
  apply ba_ext
  rw [TS_list, enc_ofList]
  simp [lenc, Function.comp_def, TS_list]

end Go.Proofs.Ytaiomcjopgnfpaa

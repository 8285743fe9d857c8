/- Plain: the universal program does one step of a program. -/
import Derived.Test.YtlaeljkjdfffjaaUnivR
namespace Go.Proofs.Ytlaeljkjdfffjaa
open Go.RowKit

theorem ofList_tl (l : List Tr) : (Tr.ofList l).tl = Tr.ofList l.tail := by cases l <;> rfl
theorem ofList_hd (l : List Tr) : (Tr.ofList l).hd = l.head?.getD .nil := by cases l <;> rfl
theorem tlN_list : ∀ (n : Nat) (l : List Tr), tlN n (Tr.ofList l) = Tr.ofList (l.drop n)
  | 0, _ => rfl
  | n + 1, l => by
    show tlN n (Tr.ofList l).tl = _
    rw [ofList_tl, tlN_list n l.tail]
    cases l <;> simp
theorem tlN_get (n : Nat) (l : List Tr) : (tlN n (Tr.ofList l)).hd = l[n]?.getD .nil := by
  rw [tlN_list, ofList_hd, List.head?_drop]
theorem tlN_num : ∀ (n m : Nat), tlN n (.num (m + n)) = .num m
  | 0, _ => rfl
  | n + 1, m => by
    show tlN n (Tr.num (m + n + 1)).tl = _
    exact tlN_num n m
theorem tlN_code : ∀ (n : Nat) (p : List Ins), tlN n (codeT p) = codeT (p.drop n)
  | 0, _ => rfl
  | n + 1, [] => by
    show tlN n (.nil) = _
    have := tlN_code n []
    rw [List.drop_nil] at this
    rw [List.drop_nil]
    exact this
  | n + 1, x :: p => tlN_code n p
/-- The first elements, nil where there are none. -/
def padH : Nat → List Tr → List Tr | 0, _ => [] | n + 1, l => l.head?.getD .nil :: padH n l.tail
theorem padH_len : ∀ (n : Nat) (l : List Tr), (padH n l).length = n
  | 0, _ => rfl
  | n + 1, l => by simp [padH, padH_len n]
theorem padH_get : ∀ (n : Nat) (l : List Tr) (i : Nat), i < n → (padH n l)[i]? = some (l[i]?.getD .nil)
  | n + 1, l, 0, _ => by cases l <;> simp [padH]
  | n + 1, l, i + 1, h => by
    have := padH_get n l.tail i (by omega)
    cases l <;> simpa [padH] using this
theorem un_push : ∀ (n : Nat) (l : List Tr) (tu : Tr) (x : List Tr), unT (pushN n (Tr.ofList l) tu) (Tr.ofList x) = unT tu (Tr.ofList (padH n l ++ x))
  | 0, _, _, _ => rfl
  | n + 1, l, tu, x => by
    show unT (pushN n (Tr.ofList l).tl (.pair (Tr.ofList l).hd tu)) _ = _
    rw [ofList_tl, ofList_hd, un_push n l.tail]
    rfl
theorem lenT_push : ∀ (n : Nat) (li tu : Tr), lenT (pushN n li tu) = n + lenT tu
  | 0, _, _ => by simp [pushN]
  | n + 1, li, tu => by
    show lenT (pushN n li.tl (.pair li.hd tu)) = _
    rw [lenT_push n]
    simp only [lenT]
    omega
/-- The characters of some trees. -/
def sumS (l : List Tr) : Nat := (l.map Tr.size).sum
theorem sumS_cons (t : Tr) (l : List Tr) : sumS (t :: l) = t.size + sumS l := by simp [sumS]
theorem sumS_append (a b : List Tr) : sumS (a ++ b) = sumS a + sumS b := by simp [sumS]
theorem ofList_size : ∀ l : List Tr, (Tr.ofList l).size = 1 + l.length + sumS l
  | [] => rfl
  | t :: l => by
    show (Tr.pair t (Tr.ofList l)).size = _
    rw [sumS_cons]
    simp only [Tr.size, ofList_size l, List.length_cons]
    omega
theorem push_size : ∀ (n : Nat) (l : List Tr) (tu : Tr), (pushN n (Tr.ofList l) tu).size = n + sumS (padH n l) + tu.size
  | 0, _, _ => by simp [pushN, padH, sumS]
  | n + 1, l, tu => by
    show (pushN n (Tr.ofList l).tl (.pair (Tr.ofList l).hd tu)).size = _
    rw [ofList_tl, ofList_hd, push_size n l.tail]
    simp only [padH, sumS_cons, Tr.size]
    omega
/-- A list that says the contents of the registers. -/
structure RepL (l rs : List Tr) : Prop where
  len : rs.length = 32
  short : l.length ≤ 32
  get : ∀ i, i < 32 → rs[i]? = some (l[i]?.getD .nil)
theorem RepL.reg {l rs : List Tr} (h : RepL l rs) {a : Nat} (ha : a < 32) : l[a]?.getD .nil = getR rs (a : Int) := by
  unfold getR
  rw [Int.toNat_natCast, h.get a ha]
  rfl
/-- The list behind a store. -/
def putL (a : Nat) (v : Tr) (l : List Tr) : List Tr := padH a l ++ v :: l.drop (a + 1)
theorem RepL.put {l rs : List Tr} (h : RepL l rs) {a : Nat} (ha : a < 32) (v : Tr) : RepL (putL a v l) (setR rs (a : Int) v) := by
  have hlen := padH_len a l
  refine ⟨?_, ?_, fun i hi => ?_⟩
  · unfold setR
    rw [List.length_set]
    exact h.len
  · have := h.short
    simp [putL, hlen]
    omega
  · unfold setR putL
    rw [Int.toNat_natCast, List.getElem?_set]
    by_cases h1 : a = i
    · subst h1
      rw [if_pos rfl, if_pos (by rw [h.len]; exact ha), List.getElem?_append_right (by omega), hlen, Nat.sub_self]
      rfl
    · rw [if_neg h1, h.get i hi]
      by_cases h2 : i < a
      · rw [List.getElem?_append_left (by omega), padH_get a l i h2]
        rfl
      · rw [List.getElem?_append_right (by omega), hlen]
        obtain ⟨j, rfl⟩ : ∃ j, i = a + 1 + j := ⟨i - (a + 1), by omega⟩
        rw [show a + 1 + j - a = j + 1 by omega, List.getElem?_cons_succ, List.getElem?_drop]
theorem sumS_take : ∀ (l : List Tr) (n : Nat), sumS (l.take n) ≤ sumS l := fun l n => by
  conv => rhs; rw [← List.take_append_drop n l, sumS_append]
  omega
theorem RepL.sum {l rs : List Tr} (h : RepL l rs) : sumS l ≤ sumS rs := by
  have h1 : l = rs.take l.length := by
    apply List.ext_getElem?
    intro i
    rw [List.getElem?_take]
    by_cases hi : i < l.length
    · rw [if_pos hi, h.get i (by have := h.short; omega), List.getElem?_eq_getElem hi]
      rfl
    · rw [if_neg hi, List.getElem?_eq_none (by omega)]
  rw [h1]
  exact sumS_take _ _
/-- The list in which the registers lie, behind a store. -/
theorem un_all (a : Nat) (v : Tr) (l : List Tr) : unT (pushN a (Tr.ofList l) .nil) (.pair v (tlN a (Tr.ofList l)).tl) = Tr.ofList (putL a v l) := by
  have h1 : Tr.pair v (tlN a (Tr.ofList l)).tl = Tr.ofList (v :: l.drop (a + 1)) := by
    show Tr.pair v (tlN a (Tr.ofList l)).tl = Tr.pair v (Tr.ofList (l.drop (a + 1)))
    rw [tlN_list, ofList_tl, List.tail_drop]
  rw [h1, un_push]
  rfl
/-- A place of the universal program, what matters of its registers. -/
def AtU (k : Nat) (c r p g fi va : Tr) (s : St) : Prop := ∃ o op ar ot le li tu pa, s = ⟨k, UF o c r p g op ar fi va ot le li tu pa⟩
def AtH (c r p g : Tr) (s : St) : Prop := ∃ fi va, AtU 5 c r p g fi va s
theorem ust_store {c r g va : Tr} {a n : Nat} {l rs : List Tr} (hg : g = Tr.ofList l) (hl : RepL l rs) (ha : a < 32) (hs : sumS (putL a va l) ≤ 1000000) (hn : n ≤ 900000) {s : St} (h : AtU 85 c r (.num n) g (.num a) va s) :
    ∃ s', Runs univL (11 * a + 15) s s' ∧ AtH c r.tl (.num (n + 1)) (Tr.ofList (putL a va l)) s' := by
  obtain ⟨o, op, ar, ot, le, li, tu, pa, rfl⟩ := h
  subst hg
  have hlen := padH_len a l
  have hsz : sumS (putL a va l) = sumS (padH a l) + (va.size + sumS (l.drop (a + 1))) := by unfold putL; rw [sumS_append, sumS_cons]
  have hll : (putL a va l).length ≤ 32 := (hl.put ha va).short
  have z1 : (pushN a (Tr.ofList l) .nil).size ≤ 2000000 := by rw [push_size]; simp only [Tr.size]; omega
  have z3 : (unT (pushN a (Tr.ofList l) .nil) (.pair va (tlN a (Tr.ofList l)).tl)).size ≤ 2000000 := by rw [un_all, ofList_size]; omega
  have z2 : (Tr.pair va (tlN a (Tr.ofList l)).tl).size ≤ 2000000 := Nat.le_trans (unT_size (pushN a (Tr.ofList l) .nil) _) z3
  have z4 : (Tr.pair .nil (Tr.num n)).size ≤ 2000000 := by simp only [Tr.size, size_num]; omega
  have h1 := up_85 o c r (.num n) (Tr.ofList l) op ar va ot le li tu pa a
  obtain ⟨pa1, h2⟩ := us_88 o c r (.num n) (Tr.ofList l) op ar (.num a) va ot a (Tr.ofList l) .nil pa z1
  have h3 := up_95 o c r (.num n) (Tr.ofList l) op ar (.num a) va ot .nil (tlN a (Tr.ofList l)) (pushN a (Tr.ofList l) .nil) pa1 z2
  obtain ⟨pa2, h4⟩ := us_97 o c r (.num n) (Tr.ofList l) op ar (.num a) va ot .nil (pushN a (Tr.ofList l) .nil) (.pair va (tlN a (Tr.ofList l)).tl) pa1 z3
  rw [un_all, lenT_push] at h4
  have h5 := up_103 o c r (.num n) (Tr.ofList l) op ar (.num a) va ot .nil (Tr.ofList (putL a va l)) .nil pa2
  have h6 := up_next o c r (.num n) (Tr.ofList (putL a va l)) op ar (.num a) va ot .nil (Tr.ofList (putL a va l)) .nil pa2 z4
  have h7 := ((((h1.trans h2).trans h3).trans h4).trans h5).trans h6
  refine ⟨_, ?_, .num a, va, o, op, ar, ot, .nil, .ofList (putL a va l), .nil, .nil, rfl⟩
  have e : 1 + 1 + 1 + (6 * a + 2) + (1 + 1) + (5 * (a + lenT .nil) + 2) + (1 + 1) + (1 + 1 + 1 + 1) = 11 * a + 15 := by simp only [lenT]; omega
  rw [e] at h7
  exact h7

end Go.Proofs.Ytlaeljkjdfffjaa


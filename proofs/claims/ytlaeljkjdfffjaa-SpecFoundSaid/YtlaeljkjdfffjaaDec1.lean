/- code.value, code.pair: on a tree, or on no tree. -/
import Derived.Test.YtlaeljkjdfffjaaDecP
import Derived.Test.YtlaeljkjdfffjaaMB0
import Derived.Test.YtlaeljkjdfffjaaMB2
namespace Go.Proofs.Ytlaeljkjdfffjaa
open Go.RowKit

/-- A tree as a string, or the empty string. -/
def OT : Option Tr → ByteArray | none => ⟨#[]⟩ | some t => TS t
def vN : Option Tr → Nat | some t => if t.isNum then t.pairs else 0 | none => 0
def vB : Option Tr → Bool | some t => t.isNum | none => false
def pH : Option Tr → Option Tr | some (.pair a _) => some a | _ => none
def pT : Option Tr → Option Tr | some (.pair _ b) => some b | _ => none
def pB : Option Tr → Bool | some .nil => false | _ => true
def SmallO (o : Option Tr) : Prop := ∀ t, o = some t → t.size ≤ 2000000
theorem SmallO.hd {o : Option Tr} (h : SmallO o) : SmallO (pH o) := by
  intro t ht
  match o, ht with
  | some (.pair a b), ht =>
    injection ht with ht
    subst ht
    have := h _ rfl
    simp only [Tr.size] at this
    omega
theorem SmallO.tl {o : Option Tr} (h : SmallO o) : SmallO (pT o) := by
  intro t ht
  match o, ht with
  | some (.pair a b), ht =>
    injection ht with ht
    subst ht
    have := h _ rfl
    simp only [Tr.size] at this
    omega
theorem isTree_none : isTree ⟨#[]⟩ = false := by
  rw [Bool.eq_false_iff]
  intro h
  obtain ⟨t, h1, _⟩ := isTree_get h
  have h2 : (⟨#[]⟩ : ByteArray).size = (TS t).size := by rw [← h1]
  rw [TS_size, t.size_pairs] at h2
  have h3 : (⟨#[]⟩ : ByteArray).size = 0 := rfl
  omega
theorem cvalue_go (s : ByteArray) (n e : Int) (b : Bool) (hb : b = (e == 0)) (kv : ∀ w, Calls Try.prog 148 #[.string s] w fun x w' => x = .returned (.tuple #[.int .i64 n, .int .i64 e]) ∧ Below w.heap.size w w') (w : World) :
    Calls Try.prog 112 #[.string s] w fun x w' => x = .returned (.tuple #[.int .i64 n, .bool b]) ∧ Below w.heap.size w w' := by
  have KV := Lib.hid kv
  clear kv
  subst hb
  go_enter Try.func112, Try.ntmps112
  go_wp2_with fail
  refine (KV.out _).mono ?_
  rintro x w1 ⟨rfl, hb⟩
  go_wp2
  go_ret2
  exact ⟨rfl, hb⟩
theorem cvalue_any (o : Option Tr) (h : SmallO o) (w : World) :
    Calls Try.prog 112 #[.string (OT o)] w fun x w' => x = .returned (.tuple #[.int .i64 (vN o), .bool (vB o)]) ∧ Below w.heap.size w w' := by
  cases o with
  | none => exact cvalue_go _ 0 1 false rfl (fun w => value_bad ⟨#[]⟩ (by decide) isTree_none w) w
  | some t =>
    have ht := h t rfl
    cases hn : t.isNum with
    | true =>
      have := cvalue_go (TS t) t.pairs 0 true rfl (fun w => value_num t ht hn w) w
      simpa [OT, vN, vB, hn] using this
    | false =>
      have := cvalue_go (TS t) 0 4 false rfl (fun w => value_none t ht hn w) w
      simpa [OT, vN, vB, hn] using this
theorem cpair_go (s a b : ByteArray) (e f : Int) (hs : (s.toList == [48]) = false)
    (kh : ∀ w, Calls Try.prog 146 #[.string s] w fun x w' => x = .returned (.tuple #[.string a, .int .i64 e]) ∧ Below w.heap.size w w')
    (kt : ∀ w, Calls Try.prog 147 #[.string s] w fun x w' => x = .returned (.tuple #[.string b, .int .i64 f]) ∧ Below w.heap.size w w') (w : World) :
    Calls Try.prog 111 #[.string s] w fun x w' => x = .returned (.tuple #[.string a, .string b, .bool true]) ∧ Below w.heap.size w w' := by
  have KH := Lib.hid kh
  have KT := Lib.hid kt
  clear kh kt
  go_enter Try.func111, Try.ntmps111
  go_wp2_with fail
  refine (KH.out _).mono ?_
  rintro x w1 ⟨rfl, hb1⟩
  go_wp2_with fail
  refine (KT.out _).mono ?_
  rintro x w2 ⟨rfl, hb2⟩
  have HB := Lib.hid (hb1.trans (hb2.mono hb1.size))
  clear hb1 hb2
  go_wp2
  refine bodyPost_ret (v := .tuple #[.string a, .string b, .bool true]) (by simp [results, Try.results111, go_sem]) rfl ?_
  exact ⟨rfl, HB.out⟩
theorem cpair_nil (w : World) :
    Calls Try.prog 111 #[.string ⟨#[48]⟩] w fun x w' => x = .returned (.tuple #[.string ⟨#[]⟩, .string ⟨#[]⟩, .bool false]) ∧ Below w.heap.size w w' := by
  go_enter Try.func111, Try.ntmps111
  go_wp2
  refine bodyPost_ret (v := .tuple #[.string ⟨#[]⟩, .string ⟨#[]⟩, .bool false]) (by simp [results, Try.results111, go_sem]) rfl ?_
  exact ⟨rfl, Below.refl _ _⟩
theorem pair_not0 (a b : Tr) : ((TS (.pair a b)).toList == [48]) = false := by
  rw [ByteArray.toList_eq, TS_list]
  rfl
theorem cpair_any (o : Option Tr) (h : SmallO o) (w : World) :
    Calls Try.prog 111 #[.string (OT o)] w fun x w' => x = .returned (.tuple #[.string (OT (pH o)), .string (OT (pT o)), .bool (pB o)]) ∧ Below w.heap.size w w' := by
  match o, h with
  | none, h => exact cpair_go ⟨#[]⟩ ⟨#[]⟩ ⟨#[]⟩ 1 1 (by rw [ByteArray.toList_eq]; rfl) (fun w => head_bad _ (by decide) isTree_none w) (fun w => tail_bad _ (by decide) isTree_none w) w
  | some .nil, h => exact cpair_nil w
  | some (.pair a b), h =>
    have hs := h _ rfl
    exact cpair_go (TS (.pair a b)) (TS a) (TS b) 0 0 (pair_not0 a b) (fun w => head_ok (.pair a b) hs w) (fun w => tail_ok (.pair a b) hs w) w
end Go.Proofs.Ytlaeljkjdfffjaa


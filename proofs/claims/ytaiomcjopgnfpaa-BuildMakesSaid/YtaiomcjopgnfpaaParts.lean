/- The walks of tree.parts, Head, Tail, Cons, Pairs, sized. -/
import Derived.Test.YtaiomcjopgnfpaaValid
import Derived.Lib.Strings
import Derived.WalkSmall
namespace Go.Proofs.Ytaiomcjopgnfpaa
open Go.RowKit

/-- The string of a tree. -/
def TS (t : Tr) : ByteArray := ⟨t.enc.toArray⟩
theorem TS_size (t : Tr) : (TS t).size = t.size := by show t.enc.toArray.size = _; simp [Tr.enc_length]
theorem TS_list (t : Tr) : (TS t).data.toList = t.enc := by simp [TS]
theorem isTree_TS (t : Tr) (h : t.size ≤ 2000000) : isTree (TS t) = true := (isTree_iff _).2 ⟨t, rfl, h⟩
theorem isTree_get {s : ByteArray} (h : isTree s = true) : ∃ t : Tr, s = TS t ∧ t.size ≤ 2000000 := (isTree_iff s).1 h
theorem ba_ext {a b : ByteArray} (h : a.data.toList = b.data.toList) : a = b := by cases a; cases b; simp at h; simp [h]
def Tr.hd : Tr → Tr | .nil => .nil | .pair h _ => h
def Tr.tl : Tr → Tr | .nil => .nil | .pair _ t => t
theorem TS_end1 (h t : Tr) : endI (TS (.pair h t)) 1 1 = 1 + h.size := by
  have e : (TS (.pair h t)).data.toList.drop 1 = h.enc ++ t.enc := by simp [TS_list, Tr.enc]
  have e2 := endF_enc h t.enc 0
  simp [endF] at e2
  unfold endI
  rw [e]
  simp [e2]

theorem TS_eq0 (t : Tr) : ((TS t).toList == [48]) = decide (t = .nil) := by
  rw [Lib.toList_data, TS_list]
  cases t with
  | nil => rfl
  | pair h t => simp [Tr.enc]
theorem TS_nil0 : ((TS .nil).toList == [48]) = true := by rw [TS_eq0]; rfl
theorem TS_pair0 (h t : Tr) : ((TS (.pair h t)).toList == [48]) = false := by rw [TS_eq0]; simp
theorem TS_head (h t : Tr) : (TS (.pair h t)).extract 1 (1 + h.size) = TS h := by
  apply ba_ext
  rw [Lib.extract_data, TS_list, TS_list]
  simp [Tr.enc, List.take_append, Tr.enc_length]
theorem TS_tail (h t : Tr) : (TS (.pair h t)).extract (1 + h.size) (TS (.pair h t)).size = TS t := by
  apply ba_ext
  rw [Lib.extract_data, TS_list, TS_list, TS_size]
  have : (49 :: (h.enc ++ t.enc)).drop (1 + h.size) = t.enc := by
    rw [Nat.add_comm, List.drop_succ_cons, List.drop_append, Tr.enc_length]; simp [← Tr.enc_length]
  simp only [Tr.enc, this]
  rw [List.take_of_length_le]; simp [Tr.enc_length, Tr.size]
theorem ret_ss {a b c d : ByteArray} (h : a = b) (h' : c = d) : Ending.returned (.tuple #[.string a, .string c]) = .returned (.tuple #[.string b, .string d]) := by rw [h, h']
theorem ret_se {a b : ByteArray} {c : Int} (h : a = b) : Ending.returned (.tuple #[.string a, .int .i64 c]) = .returned (.tuple #[.string b, .int .i64 c]) := by rw [h]

theorem treeEnd_pair (h t : Tr) (hs : (Tr.pair h t).size ≤ 2000000) (w : World) :
    Calls Try.prog 118 #[.string (TS (.pair h t)), .int .i64 1] w fun e w' => e = .returned (.tuple #[.int .i64 (1 + h.size), .bool true]) ∧ Below w.heap.size w w' := by
  have h1 : (TS (.pair h t)).size = (Tr.pair h t).size := TS_size _
  refine (treeEnd_any _ 1 (by rw [h1]; exact Tr.size_pos _) (by omega) w).mono fun e w' ⟨he, hb⟩ => ⟨?_, hb⟩
  have h2 := TS_end1 h t
  have h3 : endI ((TS (.pair h t)).extract 1 (TS (.pair h t)).size) 0 1 = h.size := by
    have e2 := endF_enc h t.enc 0
    simp [endF] at e2
    unfold endI
    have e : ((TS (.pair h t)).extract 1 (TS (.pair h t)).size).data.toList = h.enc ++ t.enc := by
      rw [Lib.extract_data, TS_list, h1]; simp only [Tr.enc, List.drop_succ_cons, List.drop_zero]; rw [List.take_of_length_le]; simp [Tr.enc_length, Tr.size]; omega
    rw [e, List.drop_zero, e2]; simp
  rw [he]
  refine ret_ib ?_ ?_
  · unfold tEndI; rw [h3, if_neg (by omega)]; rfl
  · unfold tEndB; rw [h3]; simp

set_option maxHeartbeats 400000 in
theorem parts_nil (w : World) :
    Calls Try.prog 170 #[.string (TS .nil)] w fun e w' => e = .returned (.tuple #[.string (TS .nil), .string (TS .nil)]) ∧ Below w.heap.size w w' := by
  have h0 := TS_nil0
  go_enter Try.func170, Try.ntmps170
  go_wp2
  go_ret2
  exact ⟨rfl, Below.refl _ _⟩

theorem parts_pair (h t : Tr) (hs : (Tr.pair h t).size ≤ 2000000) (w : World) :
    Calls Try.prog 170 #[.string (TS (.pair h t))] w fun e w' => e = .returned (.tuple #[.string (TS h), .string (TS t)]) ∧ Below w.heap.size w w' := by
  have h0 := TS_pair0 h t
  have hz : (1 + h.size : Int) ≤ (TS (.pair h t)).size := by rw [TS_size]; simp [Tr.size]; omega
  have hz2 : 1 + h.size ≤ (TS (.pair h t)).size := by omega
  have ht : ((1 : Int) + h.size).toNat = 1 + h.size := by omega
  go_enter Try.func170, Try.ntmps170
  go_wp2_with (go_at_call 118; refine (treeEnd_pair h t hs _).mono ?_; rintro e w' ⟨rfl, hb1⟩)
  go_quiet (fail)
  go_wp2
  go_ret2
  exact ⟨ret_ss (TS_head h t) (TS_tail h t), below_drewN hb1 _⟩

theorem parts_any (t : Tr) (hs : t.size ≤ 2000000) (w : World) :
    Calls Try.prog 170 #[.string (TS t)] w fun e w' => e = .returned (.tuple #[.string (TS t.hd), .string (TS t.tl)]) ∧ Below w.heap.size w w' := by
  cases t with
  | nil => exact parts_nil w
  | pair h t => exact parts_pair h t hs w

theorem valid_bad (s : ByteArray) (hs : s.size ≤ 281474976710656) (h : isTree s = false) (w : World) :
    Calls Try.prog 86 #[.string s] w fun e w' => e = .returned (.bool false) ∧ Below w.heap.size w w' := by
  have := treeValid_any s hs w; rwa [h] at this
theorem valid_ok (t : Tr) (h : t.size ≤ 2000000) (w : World) :
    Calls Try.prog 86 #[.string (TS t)] w fun e w' => e = .returned (.bool true) ∧ Below w.heap.size w w' := by
  have := treeValid_any (TS t) (by rw [TS_size]; omega) w; rwa [isTree_TS t h] at this

set_option maxHeartbeats 400000 in
theorem head_bad (s : ByteArray) (hs : s.size ≤ 281474976710656) (h : isTree s = false) (w : World) :
    Calls Try.prog 161 #[.string s] w fun e w' => e = .returned (.tuple #[.string ⟨#[]⟩, .int .i64 1]) ∧ Below w.heap.size w w' := by
  go_enter Try.func161, Try.ntmps161
  go_wp2_with (go_at_call 86; refine (valid_bad s hs h _).mono ?_; rintro e w' ⟨rfl, hb1⟩)
  go_ret2
  exact ⟨rfl, hb1⟩
theorem head_ok (t : Tr) (hs : t.size ≤ 2000000) (w : World) :
    Calls Try.prog 161 #[.string (TS t)] w fun e w' => e = .returned (.tuple #[.string (TS t.hd), .int .i64 0]) ∧ Below w.heap.size w w' := by
  go_enter Try.func161, Try.ntmps161
  go_wp2_with (go_at_call 86; refine (valid_ok t hs _).mono ?_; rintro e w1 ⟨rfl, hb1⟩)
  go_wp2_with (go_at_call 170; refine (parts_any t hs _).mono ?_; rintro e w2 ⟨rfl, hb2⟩)
  go_ret2
  exact ⟨rfl, hb1.trans (hb2.mono hb1.size)⟩
theorem tail_bad (s : ByteArray) (hs : s.size ≤ 281474976710656) (h : isTree s = false) (w : World) :
    Calls Try.prog 162 #[.string s] w fun e w' => e = .returned (.tuple #[.string ⟨#[]⟩, .int .i64 1]) ∧ Below w.heap.size w w' := by
  go_enter Try.func162, Try.ntmps162
  go_wp2_with (go_at_call 86; refine (valid_bad s hs h _).mono ?_; rintro e w' ⟨rfl, hb1⟩)
  go_ret2
  exact ⟨rfl, hb1⟩
theorem tail_ok (t : Tr) (hs : t.size ≤ 2000000) (w : World) :
    Calls Try.prog 162 #[.string (TS t)] w fun e w' => e = .returned (.tuple #[.string (TS t.tl), .int .i64 0]) ∧ Below w.heap.size w w' := by
  go_enter Try.func162, Try.ntmps162
  go_wp2_with (go_at_call 86; refine (valid_ok t hs _).mono ?_; rintro e w1 ⟨rfl, hb1⟩)
  go_wp2_with (go_at_call 170; refine (parts_any t hs _).mono ?_; rintro e w2 ⟨rfl, hb2⟩)
  go_ret2
  exact ⟨rfl, hb1.trans (hb2.mono hb1.size)⟩
/-- The number of pairs. -/
def Tr.pairs : Tr → Nat | .nil => 0 | .pair h t => 1 + h.pairs + t.pairs
theorem Tr.size_pairs (t : Tr) : t.size = 2 * t.pairs + 1 := by induction t with | nil => rfl | pair h t a b => simp [Tr.size, Tr.pairs, a, b]; omega
theorem ret_ie {a b : Int} {c : Int} (h : a = b) : Ending.returned (.tuple #[.int .i64 a, .int .i64 c]) = .returned (.tuple #[.int .i64 b, .int .i64 c]) := by rw [h]
theorem valid_or (s : ByteArray) (hs : s.size ≤ 281474976710656) : (∃ t : Tr, s = TS t ∧ t.size ≤ 2000000) ∨ isTree s = false := by
  cases h : isTree s with
  | false => exact .inr rfl
  | true => exact .inl (isTree_get h)

end Go.Proofs.Ytaiomcjopgnfpaa

/- The walks of tree.sized, Number, Value and of narcissusref01.Number, Value, Head, Tail, Pairs. -/
import Derived.Test.YtaiomcjopgnfpaaParts
import Derived.Test.YtaiomcjopgnfpaaNumP
import Derived.Test.YtaiomcjopgnfpaaEl
import Derived.Test.YtaiomcjopgnfpaaShelf
namespace Go.Proofs.Ytaiomcjopgnfpaa
open Go.RowKit

theorem TS_inj {t u : Tr} (h : TS t = TS u) : t = u := enc_inj (by rw [← TS_list, ← TS_list, h])
theorem TS_num (n : Nat) : (⟨(Lib.repeatL [49, 48] n).toArray⟩ ++ ⟨#[48]⟩ : ByteArray) = TS (.num n) := by
  apply ba_ext; rw [TS_list, enc_num]; simp [rep10]

theorem repeat10 (n : Nat) (h : n ≤ 1000000) (w : World) :
    Calls Try.prog 143 #[.string ⟨#[49, 48]⟩, .int .i64 n] w fun e w' => e = .returned (.string ⟨(rep10 n).toArray⟩) ∧ Below w.heap.size w w' :=
  Try.strings_Repeat ⟨#[49, 48]⟩ n w (by omega) (by show 2 * n ≤ _; omega)

theorem rep_add0 (n : Nat) (h : n ≤ 1000000) (w : World) : (Op.stringOp .add ⟨(rep10 n).toArray⟩ ⟨#[48]⟩).run Try.prog w = .ok (.string (TS (.num n))) w := by
  rw [run_string_add_sum, show (⟨(rep10 n).toArray⟩ ++ ⟨#[48]⟩ : ByteArray) = TS (.num n) from TS_num n]
  show (rep10 n).toArray.size + 1 ≤ _
  simp [rep10_length]; omega

theorem value_bad (s : ByteArray) (hs : s.size ≤ 281474976710656) (h : isTree s = false) (w : World) :
    Calls Try.prog 163 #[.string s] w fun e w' => e = .returned (.tuple #[.int .i64 0, .int .i64 1]) ∧ Below w.heap.size w w' := by
  go_enter Try.func163, Try.ntmps163
  go_wp2_with (go_at_call 86; refine (valid_bad s hs h _).mono ?_; rintro e w' ⟨rfl, hb1⟩)
  go_ret2
  exact ⟨rfl, hb1⟩
def Tr.isNum (t : Tr) : Bool := decide (t = .num t.pairs)
theorem Tr.isNum_num (n : Nat) : (Tr.num n).isNum = true ∧ (Tr.num n).pairs = n := by
  have : (Tr.num n).pairs = n := by have h1 := (Tr.num n).size_pairs; rw [size_num] at h1; omega
  exact ⟨by unfold Tr.isNum; rw [this]; simp, this⟩
theorem half_size (t : Tr) : ((t.size : Int)) / 2 = (t.pairs : Int) := by have := t.size_pairs; omega
theorem value_num (t : Tr) (hs : t.size ≤ 2000000) (hn : t.isNum = true) (w : World) :
    Calls Try.prog 163 #[.string (TS t)] w fun e w' => e = .returned (.tuple #[.int .i64 t.pairs, .int .i64 0]) ∧ Below w.heap.size w w' := by
  have hz : (TS t).size = t.size := TS_size t
  have hh := half_size t
  have hp := t.size_pairs
  have k1 := fun w => rep_add0 t.pairs (by omega) w
  have hc := fun w => repeat10 t.pairs (by omega) w
  have hv := fun w => valid_ok t hs w
  have e : Tr.num t.pairs = t := (of_decide_eq_true hn).symm
  rw [e] at k1
  have b0 : ((TS t).toList == (TS t).toList) = true := by simp
  have hsz : (t.size : Int) ≤ 2000000 := by omega
  clear hp e hn hs
  generalize rep10 t.pairs = q at k1 hc
  go_enter Try.func163, Try.ntmps163
  go_wp2_with (go_at_call 86; refine (hv _).mono ?_; rintro e w1 ⟨rfl, hb1⟩)
  go_wp2_with (go_at_call 143; refine (hc _).mono ?_; rintro e w2 ⟨rfl, hb2⟩)
  go_ret2
  exact ⟨rfl, hb1.trans (hb2.mono hb1.size)⟩
theorem value_none (t : Tr) (hs : t.size ≤ 2000000) (hn : t.isNum = false) (w : World) :
    Calls Try.prog 163 #[.string (TS t)] w fun e w' => e = .returned (.tuple #[.int .i64 0, .int .i64 4]) ∧ Below w.heap.size w w' := by
  have hz : (TS t).size = t.size := TS_size t
  have hh := half_size t
  have hp := t.size_pairs
  have k1 := fun w => rep_add0 t.pairs (by omega) w
  have hc := fun w => repeat10 t.pairs (by omega) w
  have hv := fun w => valid_ok t hs w
  have b0 : ((TS t).toList == (TS (Tr.num t.pairs)).toList) = false := by
    rw [beq_eq_false_iff_ne]; intro e
    rw [Lib.toList_data, Lib.toList_data, TS_list, TS_list] at e
    exact of_decide_eq_false hn (enc_inj e)
  have hsz : (t.size : Int) ≤ 2000000 := by omega
  clear hp hn hs
  generalize rep10 t.pairs = q at k1 hc
  generalize TS (Tr.num t.pairs) = r at k1 b0
  go_enter Try.func163, Try.ntmps163
  go_wp2_with (go_at_call 86; refine (hv _).mono ?_; rintro e w1 ⟨rfl, hb1⟩)
  go_wp2_with (go_at_call 143; refine (hc _).mono ?_; rintro e w2 ⟨rfl, hb2⟩)
  go_ret2
  exact ⟨rfl, hb1.trans (hb2.mono hb1.size)⟩

end Go.Proofs.Ytaiomcjopgnfpaa

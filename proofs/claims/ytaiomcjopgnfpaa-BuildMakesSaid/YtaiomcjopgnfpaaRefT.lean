/- The walks of narcissusref01.Number, Value, Head, Tail, Pairs. -/
import Derived.Test.YtaiomcjopgnfpaaNum
namespace Go.Proofs.Ytaiomcjopgnfpaa
open Go.RowKit

theorem ret_s {a b : ByteArray} (h : a = b) : Ending.returned (.string a) = .returned (.string b) := by rw [h]
theorem ret_i {a b : Int} (h : a = b) : Ending.returned (.int .i64 a) = .returned (.int .i64 b) := by rw [h]
theorem rep10_cells (k : Nat) : Lib.byteCells (rep10 (k + 1)) = Lib.byteCells (rep10 k) ++ [.int .u8 49, .int .u8 48] := by
  rw [rep10_succ]; simp [Lib.byteCells]

set_option maxHeartbeats 400000 in
theorem refNumber_ok (n : Nat) (h : n ≤ 2000000) (w : World) :
    Calls Try.prog 155 #[.int .i64 n] w fun e w' => e = .returned (.string (TS (.num n))) ∧ Below w.heap.size w w' := by
  have hn : (n : Int) ≤ 2000000 := by omega
  have e1 : (2 * (n : Int) + 1) = ((2 * n + 1 : Nat) : Int) := by omega
  have hr : TS (.num n) = ⟨(rep10 n ++ [48]).toArray⟩ := by unfold TS; rw [enc_num]
  have HR := Lib.hid hr; clear hr
  obtain ⟨i0, hi0, hz0, hz1, hz2⟩ := info_parts el_u8.hi
  have HE := Lib.hid e1; clear e1
  go_enter Try.func155, Try.ntmps155
  go_wp2_with (at_make; refine wpList_make_own _ rfl _ _ 126 rfl w.heap.size 5 i0 _ 1 el_u8.ht hi0 hz0 hz1 _ _ _ (2 * n + 1) rfl rfl HE.out ?b1 ?b2 ?b3 ?_)
  case b1 => rw [hz2]; omega
  case b2 => unfold maxLen; omega
  case b3 => exact Nat.le_refl _
  intro w1 hown hg
  have hb : Below w.heap.size w w1 := (Below.refl _ _).grown hg (Nat.le_refl _) (by simp)
  clear hg HE
  go_wp2
  go_loopg [3, 4] n (fun g v i wr => ∃ k : Nat, k ≤ n ∧ g = n - k ∧ i = .int .i64 k ∧ wr.ownsRow w.heap.size 5 1 v (2 * k) (Lib.byteCells (rep10 k)) ∧ Below w.heap.size w wr)
  case atStart => exact ⟨0, by omega, rfl, rfl, hown, hb⟩
  case round =>
    obtain ⟨k, hk, hgk, rfl, hown, hb⟩ := hrel
    have HG := Lib.hid hgk; clear hgk
    have hsz := hb.size
    by_cases hlt : k < n
    · go_wp2_with (at_builtin; refine app_new el_u8 rfl _ _ rfl rfl hown [.int .u8 49, .int .u8 48] 2 rfl rfl ?c1 ?c2 ?c3 hsz hb (Nat.le_refl _) ?_)
      case c1 => intro u hu; simp at hu; rcases hu with rfl | rfl <;> rfl
      case c2 => omega
      case c3 => unfold maxLen; omega
      intro v' w' hown' hb' hgr
      clear hown hb
      go_wp2
      go_roundg (n - (k + 1))
      case measure => rw [HG.out]; omega
      case rel => exact ⟨k + 1, by omega, rfl, by go_num, by rw [rep10_cells]; exact hown', hb'⟩
    · have hkn : k = n := by omega
      have HK := Lib.hid hkn
      clear hkn
      go_wp2_with (at_builtin; refine app_new el_u8 rfl _ _ rfl rfl hown [.int .u8 48] 1 rfl rfl ?c1 ?c2 ?c3 hsz hb (Nat.le_refl _) ?_)
      case c1 => intro u hu; simp at hu; rcases hu with rfl; rfl
      case c2 => omega
      case c3 => unfold maxLen; omega
      intro v' w' hown' hb' hgr
      have hcv := own_bytes (P := Try.prog) (rep10 k ++ [48]) (by simpa [Lib.byteCells] using hown') 126 Try.underlying126 Try.underlying5 9 Try.underlying9
      clear hown hb hown'
      go_wp2
      go_ret
      exact ⟨by rw [HR.out, ← HK.out]; rfl, hb'⟩

/-- The first m characters are '10' again and again. -/
def RV (t : Tr) (m : Nat) : Prop := ∃ k, m = 2 * k ∧ k ≤ t.pairs ∧ t.enc.take m = rep10 k
theorem TS_get (t : Tr) (m : Nat) (h : m < (TS t).size) : (TS t)[m] = t.enc[m]'(by rw [TS_size, ← Tr.enc_length] at h; exact h) := by
  show (TS t).data[m] = _
  simp [TS]
theorem RV_zero (t : Tr) : RV t 0 := ⟨0, rfl, Nat.zero_le _, by simp [rep10, Lib.repeatL]⟩
theorem RV_step {t : Tr} {m : Nat} (h : RV t m) (hm : m + 1 < (TS t).size) (h9 : (((TS t)[m]'(by omega)).toNat : Int) = 49) (h8 : ((TS t)[m + 1].toNat : Int) = 48) : RV t (m + 2) := by
  obtain ⟨k, rfl, hk, ht⟩ := h
  rw [TS_get] at h9 h8
  have hm' : 2 * k + 1 < t.enc.length := by rw [Tr.enc_length, ← TS_size]; exact hm
  have hs := t.size_pairs
  refine ⟨k + 1, by omega, by rw [Tr.enc_length] at hm'; omega, ?_⟩
  rw [show 2 * k + 2 = (2 * k + 1) + 1 from rfl, List.take_succ_eq_append_getElem hm', List.take_succ_eq_append_getElem (by omega), ht, rep10_succ]
  have a9 : t.enc[2 * k] = 49 := UInt8.toNat_inj.1 (by have : (49 : UInt8).toNat = 49 := rfl; omega)
  have a8 : t.enc[2 * k + 1] = 48 := UInt8.toNat_inj.1 (by have : (48 : UInt8).toNat = 48 := rfl; omega)
  rw [a9, a8]; simp
theorem RV_end {t : Tr} {m : Nat} (h : RV t m) (hm : ¬ m + 1 < (TS t).size) : t.isNum = true := by
  obtain ⟨k, rfl, hk, ht⟩ := h
  have hs := t.size_pairs
  rw [TS_size] at hm
  obtain rfl : k = t.pairs := by omega
  have hl : 2 * t.pairs < t.enc.length := by rw [Tr.enc_length]; omega
  have e : t.enc = rep10 t.pairs ++ [t.enc[2 * t.pairs]] := by
    rw [← ht, ← List.take_succ_eq_append_getElem hl, List.take_of_length_le (by rw [Tr.enc_length]; omega)]
  exact decide_eq_true (num_of_rep _ _ _ e)
theorem RV_no {t : Tr} {m : Nat} (h : RV t m) (hm : m + 1 < (TS t).size) (hn : t.isNum = true) : (((TS t)[m]'(by omega)).toNat : Int) = 49 ∧ ((TS t)[m + 1].toNat : Int) = 48 := by
  obtain ⟨k, rfl, hk, ht⟩ := h
  have hs := t.size_pairs
  have hm2 : 2 * k + 1 < t.size := by rw [TS_size] at hm; exact hm
  rw [TS_get, TS_get]
  have e : t = .num t.pairs := of_decide_eq_true hn
  have e2 : t.enc = rep10 (k + 1) ++ (rep10 (t.pairs - (k + 1)) ++ [48]) := by
    have : rep10 t.pairs = rep10 (k + 1) ++ rep10 (t.pairs - (k + 1)) := by
      have hh : ∀ a b, rep10 (a + b) = rep10 a ++ rep10 b := by
        intro a b
        induction a with
        | zero => simp [rep10, Lib.repeatL]
        | succ a ih => rw [Nat.succ_add]; show [49, 48] ++ rep10 (a + b) = ([49, 48] ++ rep10 a) ++ rep10 b; rw [ih, List.append_assoc]
      rw [← hh]; congr 1; omega
    rw [← List.append_assoc, ← this]
    exact (congrArg Tr.enc e).trans (enc_num _)
  have l1 : (rep10 k).length = 2 * k := rep10_length k
  have g9 : t.enc[2 * k]? = some 49 := by rw [e2, rep10_succ]; simp [List.getElem?_append, l1]
  have g8 : t.enc[2 * k + 1]? = some 48 := by rw [e2, rep10_succ]; simp [List.getElem?_append, l1]
  have hl : 2 * k + 1 < t.enc.length := by rw [Tr.enc_length]; omega
  rw [List.getElem?_eq_getElem (by omega)] at g9
  rw [List.getElem?_eq_getElem hl] at g8
  simp only [Option.some.injEq] at g9 g8
  rw [g9, g8]; exact ⟨rfl, rfl⟩
def rVal (t : Tr) : Int := if t.isNum then t.pairs else -1

theorem refEnd_pair (h t : Tr) (hs : (Tr.pair h t).size ≤ 2000000) (w : World) :
    Calls Try.prog 78 #[.string (TS (.pair h t)), .int .i64 1] w fun e w' => e = .returned (.int .i64 (1 + h.size)) ∧ w = w' := by
  have h1 : (TS (.pair h t)).size = (Tr.pair h t).size := TS_size _
  have := refEnd_any (TS (.pair h t)) 1 (by rw [h1]; exact Tr.size_pos _) (by omega) w
  rw [TS_end1] at this; exact this
/-- How many characters are '1' among the first m. -/
def ones (l : List UInt8) : Nat := (l.filter fun c => c == 49).length
theorem ones_app (a b : List UInt8) : ones (a ++ b) = ones a + ones b := by simp [ones]
theorem ones_enc (t : Tr) : ones t.enc = t.pairs := by
  induction t with
  | nil => rfl
  | pair a b iha ihb =>
    have : (Tr.pair a b).enc = [49] ++ (a.enc ++ b.enc) := rfl
    rw [this, ones_app, ones_app, iha, ihb]
    show 1 + _ = _
    simp [Tr.pairs]; omega
theorem ones_le (l : List UInt8) : ones l ≤ l.length := List.length_filter_le _ _
theorem ones_snoc (s : ByteArray) (k : Nat) (h : k < s.size) : ones (s.data.toList.take (k + 1)) = ones (s.data.toList.take k) + if (s[k].toNat : Int) = 49 then 1 else 0 := by
  rw [List.take_succ_eq_append_getElem (by simpa using h), ones_app]
  congr 1
  show ones [s[k]] = _
  by_cases e : (s[k].toNat : Int) = 49
  · rw [if_pos e]
    have a9 : s[k] = 49 := UInt8.toNat_inj.1 (by have : (49 : UInt8).toNat = 49 := rfl; omega)
    rw [a9]; rfl
  · rw [if_neg e]
    have a9 : ¬ s[k] = 49 := fun h => e (by rw [h]; rfl)
    simp [ones, a9]

end Go.Proofs.Ytaiomcjopgnfpaa

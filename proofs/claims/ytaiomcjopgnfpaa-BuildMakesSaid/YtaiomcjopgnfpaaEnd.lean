/- The walks of narcissusref01.End and narcissusref01.Valid. -/
import Derived.Test.YtaiomcjopgnfpaaRows
import Derived.Test.YtaiomcjopgnfpaaTree
import Derived.WalkKit
import Derived.WalkSpells
import Derived.WalkLawsBesides
import Derived.BigQuiet
import Derived.Deep.QuietTactic
import Derived.Lib.Hide
import Derived.Deep.LoopGhost
namespace Go.Proofs.Ytaiomcjopgnfpaa
open Go.RowKit

theorem drop_cons (s : ByteArray) (k : Nat) (h : k < s.size) : s.data.toList.drop k = s[k] :: s.data.toList.drop (k + 1) := by
  rw [List.drop_eq_getElem_cons (by simpa using h)]; rfl

/-- What End returns, as a place. -/
def endI (s : ByteArray) (p q : Nat) : Int := match endF (s.data.toList.drop p) q with | none => -1 | some k => (p + k : Nat)
def EndRel (s : ByteArray) (p k q : Nat) : Prop := endI s p 1 = endI s k q
theorem endI_zero (s : ByteArray) (k : Nat) : endI s k 0 = k := by
  unfold endI; cases s.data.toList.drop k <;> simp [endF]
theorem endI_out (s : ByteArray) (k q : Nat) (h : s.size ≤ k) : endI s k (q + 1) = -1 := by
  unfold endI; rw [List.drop_eq_nil_of_le (by simpa using h)]; rfl
theorem endI_49 (s : ByteArray) (k q : Nat) (h : k < s.size) (hc : (s[k].toNat : Int) = 49) : endI s k (q + 1) = endI s (k + 1) (q + 2) := by
  have h' : s[k] = 49 := UInt8.toNat_inj.1 (by have : (49 : UInt8).toNat = 49 := rfl; omega)
  unfold endI; rw [drop_cons s k h, endF, if_pos h']
  cases endF (s.data.toList.drop (k + 1)) (q + 2) <;> simp; omega
theorem endI_48 (s : ByteArray) (k q : Nat) (h : k < s.size) (hc : (s[k].toNat : Int) = 48) : endI s k (q + 1) = endI s (k + 1) q := by
  have h' : s[k] = 48 := UInt8.toNat_inj.1 (by have : (48 : UInt8).toNat = 48 := rfl; omega)
  unfold endI; rw [drop_cons s k h, endF, if_neg (by rw [h']; decide), if_pos h']
  cases endF (s.data.toList.drop (k + 1)) q <;> simp; omega
theorem endI_else (s : ByteArray) (k q : Nat) (h : k < s.size) (h9 : ¬ (s[k].toNat : Int) = 49) (h8 : ¬ (s[k].toNat : Int) = 48) : endI s k (q + 1) = -1 := by
  have a9 : ¬ s[k] = 49 := fun e => h9 (by rw [e]; rfl)
  have a8 : ¬ s[k] = 48 := fun e => h8 (by rw [e]; rfl)
  unfold endI; rw [drop_cons s k h, endF, if_neg a9, if_neg a8]

set_option maxHeartbeats 400000 in
theorem refEnd_any (s : ByteArray) (p : Nat) (hp : p ≤ s.size) (hs : s.size ≤ 281474976710656) (w : World) :
    Calls Try.prog 78 #[.string s, .int .i64 p] w fun e w' => e = .returned (.int .i64 (endI s p 1)) ∧ w = w' := by
  go_enter Try.func78, Try.ntmps78
  go_wp2
  go_loop [1, 5] (fun i o => ∃ k q : Nat, k ≤ s.size ∧ q ≤ k + 1 ∧ i = .int .i64 k ∧ o = .int .i64 q ∧ EndRel s p k q) (fun i _ => s.size - (intOf i).toNat)
  case atStart => exact ⟨p, 1, hp, by omega, rfl, rfl, rfl⟩
  case round =>
    obtain ⟨k, q, hk, hq, rfl, rfl, hv⟩ := hrel
    by_cases hq0 : 0 < q
    · obtain ⟨q, rfl⟩ : ∃ m, q = m + 1 := ⟨q - 1, by omega⟩
      by_cases hlt : k < s.size
      · by_cases h9 : (s[k].toNat : Int) = 49
        · have hn := hv.trans (endI_49 s k q hlt h9)
          go_wp2
          go_round
          case rel => exact ⟨k + 1, q + 2, by omega, by omega, by go_num, by go_num, hn⟩
          case measure => simp [intOf]; omega
        · by_cases h8 : (s[k].toNat : Int) = 48
          · have hn := hv.trans (endI_48 s k q hlt h8)
            go_wp2
            go_round
            case rel => exact ⟨k + 1, q, by omega, by omega, by go_num, by go_num, hn⟩
            case measure => simp [intOf]; omega
          · have hn := Lib.hid (hv.trans (endI_else s k q hlt h9 h8))
            have b9 : ((s[k].toNat : Int) != 49) = true := bne_iff_ne.2 h9
            have b8 : ((s[k].toNat : Int) != 48) = true := bne_iff_ne.2 h8
            go_wp2
            go_ret
            exact ⟨by rw [hn.out]; rfl, rfl⟩
      · have hn := Lib.hid (hv.trans (endI_out s k q (by omega)))
        go_wp2
        go_ret
        exact ⟨by rw [hn.out]; rfl, rfl⟩
    · have e : q = 0 := by omega
      subst e
      have hn := Lib.hid (hv.trans (endI_zero s k))
      go_wp2
      go_ret
      exact ⟨by rw [hn.out]; rfl, rfl⟩

/-! ### A range over a string, at whatever bytes -/
theorem decode_high (s : ByteArray) (pos : Nat) (h : pos < s.size) (ha : ¬ (s[pos]'h).toNat < 128) : 128 ≤ (Utf8.decode s pos).1 := by
  have e : s.get! (pos + 0) = s[pos]'h := by
    show s.get! pos = _
    simp [ByteArray.get!, getElem!_pos, h]
    rfl
  simp only [Utf8.decode, e, ha, if_false, Utf8.runeError]
  repeat' split
  all_goals simp_all
  all_goals omega

theorem run_next_any {P : Program} (w : World) (s : ByteArray) (pos : Nat) (ty : TypeId) (h : pos < s.size) :
    (Instr.next (.pointer (some ⟨w.heap.size, 0, none⟩)) true ty).run P (w.iter s pos) =
      .ok (.tuple #[.bool true, .int .i64 pos, .int .i32 (Utf8.decode s pos).1]) (w.iter s (pos + (Utf8.decode s pos).2)) := by
  simp only [Instr.next, getObj, setObj, Sem.run_bind, Sem.run, World.iter_heap, Result.andThen, h, if_true, World.iter_set]
  simp [goInt, Sem.run, World.iter_heap, World.iter_set]

/-- What tree.end returns. -/
def tEndI (s : ByteArray) (p : Nat) : Int := if endI (s.extract p s.size) 0 1 = -1 then 0 else p + endI (s.extract p s.size) 0 1
def tEndB (s : ByteArray) (p : Nat) : Bool := !decide (endI (s.extract p s.size) 0 1 = -1)

theorem below_iter (w : World) (t : ByteArray) (k : Nat) : Below w.heap.size w (w.iter t k) := (Below.refl _ _).alloc (Nat.le_refl _) _

theorem ret_ib {a b : Int} {c d : Bool} (h : a = b) (h' : c = d) : Ending.returned (.tuple #[.int .i64 a, .bool c]) = .returned (.tuple #[.int .i64 b, .bool d]) := by rw [h, h']

set_option maxHeartbeats 400000 in
theorem treeEnd_any (s : ByteArray) (p : Nat) (hp : p ≤ s.size) (hs : s.size ≤ 281474976710656) (w : World) :
    Calls Try.prog 118 #[.string s, .int .i64 p] w fun e w' => e = .returned (.tuple #[.int .i64 (tEndI s p), .bool (tEndB s p)]) ∧ Below w.heap.size w w' := by
  obtain ⟨t, ht⟩ : ∃ t, s.extract p s.size = t := ⟨_, rfl⟩
  have hsz : t.size ≤ s.size := by rw [← ht]; simp
  have hsp : p + t.size ≤ s.size := by rw [← ht]; simp; omega
  obtain ⟨r1, hr1⟩ : ∃ r, tEndI s p = r := ⟨_, rfl⟩
  obtain ⟨r2, hr2⟩ : ∃ r, tEndB s p = r := ⟨_, rfl⟩
  rw [hr1, hr2]
  unfold tEndI at hr1
  unfold tEndB at hr2
  rw [ht] at hr1 hr2
  have H1 := Lib.hid hr1; clear hr1
  have H2 := Lib.hid hr2; clear hr2
  go_enter Try.func118, Try.ntmps118
  go_wp2
  clear ht
  go_loopg [6] t.size (fun g o wr => ∃ k q : Nat, k ≤ t.size ∧ g = t.size - k ∧ 1 ≤ q ∧ q ≤ k + 1 ∧ o = .int .i64 q ∧ EndRel t 0 k q ∧ wr = w.iter t k)
  case atStart => exact ⟨0, 1, by omega, rfl, by omega, by omega, rfl, rfl, rfl⟩
  case round =>
    obtain ⟨k, q, hk, hg, hq1, hq, rfl, hv, rfl⟩ := hrel
    have HG := Lib.hid hg; clear hg
    obtain ⟨q, rfl⟩ : ∃ m, q = m + 1 := ⟨q - 1, by omega⟩
    by_cases hlt : k < t.size
    · by_cases h9 : (t[k].toNat : Int) = 49
      · have hn : EndRel t 0 (k + 1) (q + 2) := hv.trans (endI_49 t k q hlt h9)
        have hnx := fun ty => run_next_ascii (P := Try.prog) w t k ty hlt (by omega)
        have hne : ((q : Int) + 2 == 0) = false := beq_eq_false_iff_ne.2 (by omega)
        go_wp2
        go_roundg (t.size - (k + 1))
        case measure => rw [HG.out]; omega
        case rel => exact ⟨k + 1, q + 2, by omega, rfl, by omega, by omega, by go_num, hn, rfl⟩
      · by_cases h8 : (t[k].toNat : Int) = 48
        · have hnx := fun ty => run_next_ascii (P := Try.prog) w t k ty hlt (by omega)
          have hn := hv.trans (endI_48 t k q hlt h8)
          by_cases hq0 : q = 0
          · subst hq0
            have hz := hn.trans (endI_zero t (k + 1))
            have HZ := Lib.hid hz; clear hz hn
            go_wp2
            go_ret2
            refine ⟨ret_ib ?_ ?_, below_iter _ _ _⟩
            · rw [← H1.out, HZ.out, if_neg (by omega)]; omega
            · rw [← H2.out, HZ.out]; simp; omega
          · have hne : ((q : Int) == 0) = false := beq_eq_false_iff_ne.2 (by omega)
            go_wp2
            go_roundg (t.size - (k + 1))
            case measure => rw [HG.out]; omega
            case rel => exact ⟨k + 1, q, by omega, rfl, by omega, by omega, by go_num, hn, rfl⟩
        · have hn := Lib.hid (hv.trans (endI_else t k q hlt h9 h8))
          have hnx := fun ty => run_next_any (P := Try.prog) w t k ty hlt
          have hd : ¬ (Utf8.decode t k).1 = 49 ∧ ¬ (Utf8.decode t k).1 = 48 := by
            by_cases ha : t[k].toNat < 128
            · rw [decode_ascii t k hlt ha]; omega
            · have := decode_high t k hlt ha; omega
          have d9 : (((Utf8.decode t k).1 : Int) == 49) = false := beq_eq_false_iff_ne.2 (by omega)
          have d8 : (((Utf8.decode t k).1 : Int) == 48) = false := beq_eq_false_iff_ne.2 (by omega)
          clear hd
          go_wp2
          go_ret2
          refine ⟨ret_ib ?_ ?_, below_iter _ _ _⟩
          · rw [← H1.out, hn.out, if_pos rfl]
          · rw [← H2.out, hn.out]; rfl
    · have hn := Lib.hid (hv.trans (endI_out t k q (by omega)))
      have hnx := fun ty => run_next_end (P := Try.prog) w t k ty hlt
      go_wp2
      go_ret2
      refine ⟨ret_ib ?_ ?_, below_iter _ _ _⟩
      · rw [← H1.out, hn.out, if_pos rfl]
      · rw [← H2.out, hn.out]; rfl

end Go.Proofs.Ytaiomcjopgnfpaa

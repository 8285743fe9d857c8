/- The walk of narcissusref03.Fits. -/
import Derived.Test.YtieocihlkpipmaaRef3E
namespace Go.Proofs.Ytieocihlkpipmaa
open Go.RowKit

/-- A state that is one of a program of some length. -/
def fitsB (n : Int) (len : Nat) (l : List ByteArray) : Bool := decide (0 ≤ n) && decide (n ≤ len) && decide (l.length = 32) && l.all isTree

set_option maxHeartbeats 2000000 in
theorem fits_any (pv : Value) (pl : List Ins) (n : Int) (u : Value) (l : List ByteArray) (w : World) (hp : InsRow w w.heap.size pv pl) (hn : i64 n) (hl : StrRow w w.heap.size u l) :
    Calls Try.prog 46 #[pv, .agg #[.int .i64 n, u]] w fun e w' => e = .returned (.bool (fitsB n pl.length l)) ∧ Below w.heap.size w w' := by
  obtain ⟨r, hr⟩ : ∃ r, fitsB n pl.length l = r := ⟨_, rfl⟩
  rw [hr]
  unfold fitsB at hr
  obtain ⟨ap, cp, rfl⟩ := hp.len
  have hpn := hp.2.1
  obtain ⟨au, cu, rfl⟩ := hl.len
  obtain ⟨z, hz⟩ : ∃ z, pl.length = z := ⟨_, rfl⟩
  obtain ⟨m, hm⟩ : ∃ m, l.length = m := ⟨_, rfl⟩
  have hml := hl.2.1
  rw [hz] at hr hpn ⊢
  rw [hm] at hr hl hml ⊢
  have HM := Lib.hid hm
  unfold i64 at hn
  have hb : Below w.heap.size w (w.alloc (.cells #[.int .i64 n, .slice au m cu] 53)) := (Below.refl _ w).alloc (Nat.le_refl _) _
  clear hz hm hp
  by_cases h0 : 0 ≤ n
  · by_cases h1 : n ≤ z
    · by_cases h2 : m = 32
      · subst h2
        simp only [h0, h1, decide_true, Bool.true_and] at hr
        have HR := Lib.hid hr
        clear hr
        go_enter Try.func46, Try.ntmps46
        go_wp2
        go_loopg [5] 32 (fun g i wr => ∃ k : Nat, k ≤ 32 ∧ g = 32 - k ∧ i = .int .i64 k ∧ Aside (∀ s ∈ l.take k, isTree s = true) ∧ (w.alloc (.cells #[.int .i64 n, .slice au 32 cu] 53)) = wr)
        case atStart => exact ⟨0, by omega, rfl, rfl, (fun s hs => by simp at hs), rfl⟩
        case round =>
          obtain ⟨k, hk, hg, rfl, hv, rfl⟩ := hrel
          have HG := Lib.hid hg; clear hg
          by_cases hlt : k < 32
          · obtain ⟨s, hs⟩ : ∃ s, l[k]? = some s := ⟨_, List.getElem?_eq_getElem (by rw [HM.out]; exact hlt)⟩
            have hl2 := hl.below hb
            obtain ⟨g, off, rfl, hg, hcell⟩ := hl2.get hs
            have hz := hl.size hs
            have kv := fun w => refValid_any s hz w
            have HS := Lib.hid hs
            clear hs hl2
            have hi0 : (0 : Int) ≤ (k : Int) := Int.natCast_nonneg _
            have hi1 : (k : Int) < 32 := by omega
            cases ht : isTree s with
            | true =>
              rw [ht] at kv
              have HT := Lib.hid ht
              clear ht
              go_wp2_with fail
              refine (kv _).mono ?_
              rintro e w' ⟨rfl, rfl⟩
              go_wp2
              go_roundg (32 - (k + 1))
              case measure => rw [HG.out]; omega
              case rel => exact ⟨k + 1, by omega, rfl, by go_num, (by intro y hy; rw [take_snoc' _ _ _ HS.out] at hy; rcases List.mem_append.1 hy with h | h; exact hv.out y h; simp at h; subst h; exact HT.out), rfl⟩
            | false =>
              rw [ht] at kv
              have hf : Hid (r = false) := HR.out.symm.trans (by
                rw [Bool.eq_false_iff]; intro h
                have := List.all_eq_true.1 h s (List.mem_of_getElem? HS.out)
                rw [ht] at this; cases this)
              go_wp2_with fail
              refine (kv _).mono ?_
              rintro e w' ⟨rfl, rfl⟩
              go_wp2
              go_ret
              exact ⟨by rw [hf.out]; rfl, hb⟩
          · have hf : Hid (r = true) := HR.out.symm.trans (List.all_eq_true.2 (by have := hv.out; rwa [List.take_of_length_le (by rw [HM.out]; omega)] at this))
            go_wp2
            go_ret
            exact ⟨by rw [hf.out]; rfl, hb⟩
      · have hne : ((m : Int) != 32) = true := by rw [bne_iff_ne]; omega
        simp only [h2, decide_false, Bool.and_false, Bool.false_and] at hr
        subst hr
        clear h2 hl
        go_enter Try.func46, Try.ntmps46
        go_wp2
        go_ret
        exact ⟨rfl, hb⟩
    · simp only [h1, decide_false, Bool.and_false, Bool.false_and] at hr
      subst hr
      clear hl
      go_enter Try.func46, Try.ntmps46
      go_wp2
      go_ret
      exact ⟨rfl, hb⟩
  · simp only [h0, decide_false, Bool.false_and] at hr
    subst hr
    clear hl
    go_enter Try.func46, Try.ntmps46
    go_wp2
    go_ret
    exact ⟨rfl, hb⟩

end Go.Proofs.Ytieocihlkpipmaa

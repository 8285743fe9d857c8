/- The walks of narcissusref03.Ended and SameState. -/
import Derived.Test.YtieocihlkpipmaaRef3P
import Derived.Test.YtieocihlkpipmaaRefL
namespace Go.Proofs.Ytieocihlkpipmaa
open Go.RowKit

set_option maxHeartbeats 1000000 in
theorem rended_any (w : World) (B g h : Nat) (l : List Ins) (s : St) (pv tv rv : Value) (T : Nat) (ps : List Value) (hm : RMachP w B g l pv tv) (hs : RStP w T h s rv ps) :
    Calls Try.prog 58 #[.pointer (some ⟨g, 0, none⟩), .pointer (some ⟨h, 0, none⟩)] w fun e w' => e = .returned (.bool ((s.pos : Int) == (l.length : Int))) ∧ ∃ nq, w' = w.drewN nq := by
  obtain ⟨ao, cap, rfl⟩ := hm.prog.len
  have c0 := (block_cells hm.blk).1 0
  have d0 := (block_cells hs.blk).1 0
  simp only [List.getElem?_toArray, List.getElem?_cons_zero] at c0 d0
  obtain ⟨n, hn'⟩ : ∃ n, l.length = n := ⟨_, rfl⟩
  rw [hn'] at c0 ⊢
  clear hm hs hn'
  go_enter Try.func58, Try.ntmps58
  go_wp2
  go_quiet (fail)
  go_wp2
  go_ret
  exact ⟨rfl, _, rfl⟩

/-- Two states with trees as strings are equal. -/
def sameS (n m : Int) (l1 l2 : List ByteArray) : Bool := (n == m) && sameB l1 l2
set_option maxHeartbeats 1000000 in
theorem sameState_any (n m : Int) (u v : Value) (l1 l2 : List ByteArray) (w : World) (h1 : StrRow w w.heap.size u l1) (h2 : StrRow w w.heap.size v l2) :
    Calls Try.prog 41 #[.agg #[.int .i64 n, u], .agg #[.int .i64 m, v]] w fun e w' => e = .returned (.bool (sameS n m l1 l2)) ∧ Below w.heap.size w w' := by
  have k := fun w' (h1 : StrRow w' w.heap.size u l1) (h2 : StrRow w' w.heap.size v l2) => same_any u v l1 l2 w' w.heap.size h1 h2
  obtain ⟨r, hr⟩ : ∃ r, sameB l1 l2 = r := ⟨_, rfl⟩
  unfold sameS
  rw [hr] at k ⊢
  clear hr
  obtain ⟨a1, c1, rfl⟩ := h1.len
  obtain ⟨a2, c2, rfl⟩ := h2.len
  have hb : Below w.heap.size w ((w.alloc (.cells #[.int .i64 n, .slice a1 l1.length c1] 53)).alloc (.cells #[.int .i64 m, .slice a2 l2.length c2] 53)) := ((Below.refl _ w).alloc (Nat.le_refl _) _).alloc (by simp) _
  have k1 := k _ (h1.below hb) (h2.below hb)
  clear k h1 h2
  generalize l1.length = n1 at *
  generalize l2.length = n2 at *
  cases hnm : (n == m) with
  | true =>
    go_enter Try.func41, Try.ntmps41
    go_wp2_with fail
    refine k1.mono ?_
    rintro e w1 ⟨rfl, nq, rfl⟩
    go_wp2
    go_ret
    exact ⟨by simp, below_drewN hb nq⟩
  | false =>
    go_enter Try.func41, Try.ntmps41
    go_wp2
    go_ret
    exact ⟨rfl, hb⟩

end Go.Proofs.Ytieocihlkpipmaa

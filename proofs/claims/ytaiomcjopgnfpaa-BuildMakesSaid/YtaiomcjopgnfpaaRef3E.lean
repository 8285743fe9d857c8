/- The walks of narcissusref03.Ended and SameState. -/
import Derived.Test.YtaiomcjopgnfpaaRef3P
import Derived.Test.YtaiomcjopgnfpaaRefL
namespace Go.Proofs.Ytaiomcjopgnfpaa
open Go.RowKit

set_option maxHeartbeats 1000000 in
theorem rended_any (w : World) (B g h : Nat) (l : List Ins) (s : St) (pv tv rv : Value) (T : Nat) (ps : List Value) (hm : RMachP w B g l pv tv) (hs : RStP w T h s rv ps) :
    Calls Try.prog 99 #[.pointer (some ⟨g, 0, none⟩), .pointer (some ⟨h, 0, none⟩)] w fun e w' => e = .returned (.bool ((s.pos : Int) == (l.length : Int))) ∧ ∃ nq, w' = w.drewN nq := by
  obtain ⟨ao, cap, rfl⟩ := hm.prog.len
  have c0 := (block_cells hm.blk).1 0
  have d0 := (block_cells hs.blk).1 0
  simp only [List.getElem?_toArray, List.getElem?_cons_zero] at c0 d0
  obtain ⟨n, hn'⟩ : ∃ n, l.length = n := ⟨_, rfl⟩
  rw [hn'] at c0 ⊢
  clear hm hs hn'
  go_enter Try.func99, Try.ntmps99
  go_wp2
  go_quiet (fail)
  go_wp2
  go_ret
  exact ⟨rfl, _, rfl⟩

/-- Two states with trees as strings are equal. -/
def sameS (n m : Int) (l1 l2 : List ByteArray) : Bool := (n == m) && sameB l1 l2
end Go.Proofs.Ytaiomcjopgnfpaa

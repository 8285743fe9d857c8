/- The walk of (*machine).state. -/
import Derived.Test.YtaiomcjopgnfpaaRunT
import Derived.Deep.MidRow
namespace Go.Proofs.Ytaiomcjopgnfpaa
open Go.RowKit

theorem MachP.range {w : World} {B g : Nat} {l : List Ins} {s : St} {pv sv : Value} {ps : List Value} (h : MachP w B g l s pv sv ps) : w.rangeAt g 2 ps := by
  intro j v hj
  rw [(block_cells h.blk).1]
  unfold mcells
  rw [List.getElem?_toArray, show 2 + j = j + 1 + 1 by omega]
  simp only [List.getElem?_cons_succ]
  rw [List.getElem?_append_left (List.getElem?_eq_some_iff.1 hj).1, hj]

theorem run_index_ptr (w : World) (ps : List Value) (k : Nat) (hk : k < 32) (v : Value) (hv : ps[k]? = some v) :
    (Instr.index 101 (.agg ps.toArray) (.int .i64 (k : Nat))).run Try.prog w = .ok v w := by
  have hu : Try.prog.underlying 101 = some (.array 32 99) := Try.underlying101
  have hs : (Try.prog.info? 99).map (·.size) = some 1 := by kernel_rfl
  have hu2 : ∃ e, Try.prog.underlying 99 = some (.pointer e) := ⟨_, Try.underlying99⟩
  obtain ⟨e, hu2⟩ := hu2
  cases hq : Try.prog.info? 99 with
  | none => simp [hq] at hs
  | some i =>
    have hi : i.size = 1 := by simpa [hq] using hs
    have hag : ∀ w, (isAgg 99).run Try.prog w = .ok false w := fun w => by
      unfold isAgg; rw [Sem.run_bind, run_underlying hu2 w]; rfl
    have hk2 : (0 : Int) ≤ (k : Int) ∧ (k : Int) < 32 := by omega
    simp [Instr.index, asIntOf, Sem.run_bind, run_underlying hu, sizeOf, typeInfo, hq, hi, part, hag, hk2, hv, hk]

end Go.Proofs.Ytaiomcjopgnfpaa

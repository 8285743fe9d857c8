/- slices.Grow at api.Program, from the shelf. -/
import Derived.Test.YtaiomcjopgnfpaaBuild2
import Derived.Shelf.Spec.SlicesGrow
namespace Go.Proofs.Ytaiomcjopgnfpaa
open Go.RowKit Go.Shelf

def growRen : Go.Shelf.Ren := ⟨fun | 4 => 112 | n => n, fun | 22 => 25 | 25 => 52 | 0 => 0 | 3 => 3 | 4 => 4 | 9 => 9 | 20 => 20 | n => n, fun | n => n⟩
theorem growLays : Go.Proofs.Lays8.n4 Try.prog growRen := {
  mixed := by kernel_rfl
  f4 := ⟨Try.f112.name, by kernel_rfl, Try.func112.trans (congrArg some (by kernel_rfl))⟩
  t0 := Try.underlying0
  a0 := Try.isAgg0
  z0 := Try.sizeOf0
  v0 := Try.zeroValue0
  t3 := Try.underlying3
  a3 := Try.isAgg3
  z3 := Try.sizeOf3
  v3 := Try.zeroValue3
  t4 := Try.underlying4
  a4 := Try.isAgg4
  z4 := Try.sizeOf4
  v4 := Try.zeroValue4
  t9 := Try.underlying9
  a9 := Try.isAgg9
  z9 := Try.sizeOf9
  v9 := Try.zeroValue9
  t20 := Try.underlying20
  a20 := Try.isAgg20
  z20 := Try.sizeOf20
  v20 := Try.zeroValue20
  t22 := Try.underlying25
  a22 := Try.isAgg25
  z22 := Try.sizeOf25
  v22 := Try.zeroValue25 }
theorem grow_any (T : Nat) (hT : T ≤ 1000000000) (w : World) :
    Calls Try.prog 112 #[.slice none 0 0, .int .i64 T] w fun e w' => ∃ v', e = .returned v' ∧ OwnI w' w.heap.size v' [] ∧ Below w.heap.size w w' := by
  by_cases h0 : T = 0
  · subst h0
    refine (Any8.slices_Grow_room growLays none 0 0 0 w (Nat.le_refl _) (by omega) (by omega) (by omega)).mono ?_
    rintro e w' ⟨rfl, rfl⟩
    exact ⟨_, rfl, OwnI.nil _ _, Below.refl _ _⟩
  · obtain ⟨i, hi, hz, hsize, hbytes⟩ := info_parts el_ins.hi
    refine (Any8.slices_Grow_grow growLays i _ hi hz (by omega) none 0 0 T [] w (Nat.le_refl _) (by omega) (by rw [hbytes]; omega) (by omega) (by simp) (fun _ => rfl) (fun a h => by cases h)).mono ?_
    rintro e w' ⟨rfl, rfl⟩
    have hc1 := grownCap_ge w (0 + T) 0 52
    have hc2 := grownCap_le_maxLen w (0 + T) 0 52 (by unfold maxLen; omega)
    refine ⟨_, rfl, ⟨⟨rfl, .inr ⟨w.heap.size, _, _, rfl, Nat.le_refl _, heap_alloc_new w.drew _, Nat.zero_le _, hc2, ?_, ?_⟩⟩, by simp⟩, (Below.refl _ w).drew.alloc (by simp) _⟩
    · have hc3 : 0 + T ≤ grownCap w (0 + T) 0 (growRen.t 25) := hc1
      have hzz : ∀ n, (Builtin.zeroCells (Value.agg #[.int .i64 0, .int .i64 0, .int .i64 0, .int .i64 0, .string ⟨#[]⟩]).cells n).size = n * 5 := fun n => by simp [Builtin.zeroCells, Value.cells]
      simp only [Array.size_append, hzz, List.size_toArray, List.length_nil]
      omega
    · rfl

end Go.Proofs.Ytaiomcjopgnfpaa


/- The walks of run.begin and run.First. -/
import Derived.Test.YtaiomcjopgnfpaaRunU
import Derived.Test.YtaiomcjopgnfpaaCValid
namespace Go.Proofs.Ytaiomcjopgnfpaa
open Go.RowKit

theorem codeValidP_at (v : Value) (l : List Ins) (w : World) (hl : InsRow w w.heap.size v l) (b : Bool) (hb : validB l = b) :
    Calls Try.prog 92 #[v] w fun e w' => e = .returned (.bool b) ∧ Below w.heap.size w w' := by
  rw [← hb]; exact codeValidP_any v l w hl
theorem treeValid_at (s : ByteArray) (hs : s.size ≤ 140737488355328) (b : Bool) (hb : isTree s = b) (w : World) :
    Calls Try.prog 86 #[.string s] w fun e w' => e = .returned (.bool b) ∧ Below w.heap.size w w' := by
  rw [← hb]; exact treeValid_any s (by omega) w
theorem validB_len {l : List Ins} (h : validB l = true) : l.length ≤ 4000 := by
  unfold validB at h; simp only [Bool.and_eq_true, decide_eq_true_eq] at h; exact h.1.1
theorem validB_all {l : List Ins} (h : validB l = true) : rightAll l = true := by
  unfold validB at h; simp only [Bool.and_eq_true] at h; exact h.2

set_option maxHeartbeats 1000000 in
theorem begin_form (v : Value) (l : List Ins) (s : ByteArray) (k : Int) (w : World) (hl : InsRow w w.heap.size v l) (hs : s.size ≤ 140737488355328) (h : validB l = false ∨ isTree s = false) :
    Calls Try.prog 82 #[v, .string s, .int .i64 k] w fun e w' => e = .returned (.tuple #[.pointer none, .int .i64 1]) ∧ Below w.heap.size w w' := by
  cases hv : validB l with
  | false =>
    have kv := codeValidP_at v l w hl _ hv
    clear h hv
    obtain ⟨ao, cap, rfl⟩ := hl.len
    go_enter Try.func82, Try.ntmps82
    go_wp2_with fail
    refine kv.mono ?_
    rintro e w1 ⟨rfl, k1⟩
    go_wp2
    go_ret2
    exact ⟨rfl, k1⟩
  | true =>
    have ht : isTree s = false := by rcases h with h | h; rw [hv] at h; cases h; exact h
    have kv := codeValidP_at v l w hl _ hv
    have kt := treeValid_at s hs _ ht
    clear h hv
    obtain ⟨ao, cap, rfl⟩ := hl.len
    go_enter Try.func82, Try.ntmps82
    go_wp2_with fail
    refine kv.mono ?_
    rintro e w1 ⟨rfl, k1⟩
    go_wp2_with fail
    refine (kt _).mono ?_
    rintro e w2 ⟨rfl, k2⟩
    go_wp2
    go_ret2
    exact ⟨rfl, k1.trans (k2.mono k1.size)⟩

set_option maxHeartbeats 1000000 in
theorem begin_arg (v : Value) (l : List Ins) (s : ByteArray) (k : Int) (w : World) (hl : InsRow w w.heap.size v l) (hs : s.size ≤ 140737488355328) (hv : validB l = true) (ht : isTree s = true) (hk : k < 0 ∨ 10000000 < k) :
    Calls Try.prog 82 #[v, .string s, .int .i64 k] w fun e w' => e = .returned (.tuple #[.pointer none, .int .i64 2]) ∧ Below w.heap.size w w' := by
  have kv := codeValidP_at v l w hl _ hv
  have kt := treeValid_at s hs _ ht
  clear hv ht
  obtain ⟨ao, cap, rfl⟩ := hl.len
  rcases hk with hk | hk
  all_goals
    go_enter Try.func82, Try.ntmps82
    go_wp2_with fail
    refine kv.mono ?_
    rintro e w1 ⟨rfl, k1⟩
    go_wp2_with fail
    refine (kt _).mono ?_
    rintro e w2 ⟨rfl, k2⟩
    go_wp2
    go_ret2
    exact ⟨rfl, k1.trans (k2.mono k1.size)⟩

set_option maxHeartbeats 1000000 in
theorem begin_ok (v : Value) (l : List Ins) (t : Tr) (ht : t.size ≤ 2000000) (k : Int) (w : World) (hl : InsRow w w.heap.size v l) (hv : validB l = true) (hk0 : 0 ≤ k) (hk1 : k ≤ 10000000) :
    Calls Try.prog 82 #[v, .string (TS t), .int .i64 k] w fun e w' => ∃ B g sv ps, e = .returned (.tuple #[.pointer (some ⟨g, 0, none⟩), .int .i64 0]) ∧ MachP w' B g l (startS t) v sv ps ∧ w.heap.size ≤ B ∧ Below w.heap.size w w' := by
  have kv := codeValidP_at v l w hl _ hv
  have kt := treeValid_at (TS t) (by rw [TS_size]; omega) _ (isTree_TS t ht)
  have kp := fun w => parse_tr (TS t) (by rw [TS_size]; omega) w
  rw [toTr_TS t ht, isTree_TS t ht] at kp
  have h4 := validB_len hv
  have kn := fun x w' (h : InsRow w' w'.heap.size v l) (hx : NodeP 135 w' t x) => newMachine_any v l t x w' h h4 hx
  have hl0 := hl
  obtain ⟨ao, cap, rfl⟩ := hl.len
  clear hv ht h4
  generalize TS t = S at *
  go_enter Try.func82, Try.ntmps82
  go_wp2_with fail
  refine kv.mono ?_
  rintro e w1 ⟨rfl, k1⟩
  go_wp2_with fail
  refine (kt _).mono ?_
  rintro e w2 ⟨rfl, k2⟩
  have c2 := k1.trans (k2.mono k1.size)
  clear k1 k2
  go_wp2_with fail
  refine (kp _).mono ?_
  rintro e w3 ⟨p, rfl, k3, hn⟩
  have c3 := c2.trans (k3.mono c2.size)
  have hl3 := (hl0.below c3).mono c3.size
  clear c2 k3
  go_wp2_with fail
  refine (kn _ _ hl3 hn).mono ?_
  rintro e w4 ⟨g, sv, ps, rfl, hm, k4⟩
  have c4 := c3.trans (k4.mono c3.size)
  go_wp2
  go_ret2
  exact ⟨_, _, _, _, rfl, hm, c3.size, c4⟩

end Go.Proofs.Ytaiomcjopgnfpaa

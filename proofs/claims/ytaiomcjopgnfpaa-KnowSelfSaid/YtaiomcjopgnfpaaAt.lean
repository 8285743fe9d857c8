/- Contracts at a world, for walks that go from call to call. -/
import Derived.Test.YtaiomcjopgnfpaaLaw03d
namespace Go.Proofs.Ytaiomcjopgnfpaa
open Go.RowKit

theorem blk_lift {A B : World} {b : Nat} {o : Obj} (hb : Below A.heap.size A B) (h : A.heap[b]? = some o) : B.heap[b]? = some o := below_blk hb h (Array.getElem?_eq_some_iff.1 h).1
theorem same_at {w : World} {v v' : Value} {l l' : List Ins} (b : Bool) (h1 : InsRow w w.heap.size v l) (h2 : InsRow w w.heap.size v' l') (hb : sameP l l' = b) : Calls Try.prog 35 #[v, v'] w fun e w' => e = .returned (.bool b) ∧ Below w.heap.size w w' := same_ct h1 h2 b hb w (Below.refl _ _)
theorem same_self {w : World} {v v' : Value} {l : List Ins} (h1 : InsRow w w.heap.size v l) (h2 : InsRow w w.heap.size v' l) : Calls Try.prog 35 #[v, v'] w fun e w' => e = .returned (.bool true) ∧ Below w.heap.size w w' := same_at true h1 h2 (sameP_self l)
theorem cvalid_at {w : World} {v : Value} {l : List Ins} (b : Bool) (hb : validB l = b) (h1 : InsRow w w.heap.size v l) : Calls Try.prog 22 #[v] w fun e w' => e = .returned (.bool b) ∧ Below w.heap.size w w' := cvalid_ct h1 b hb w (Below.refl _ _)
theorem tvalid_at (s : ByteArray) (hs : s.size ≤ 140737488355328) (b : Bool) (hb : isTree s = b) (w : World) : Calls Try.prog 27 #[.string s] w fun e w' => e = .returned (.bool b) ∧ Below w.heap.size w w' := tvalid_ct s hs b hb w (Below.refl _ _)
/-- Run, where it may run. -/
theorem runOk_at {w : World} {v : Value} {l : List Ins} {t : Tr} {S : ByteArray} (K : Nat) (Ki : Int) (y : ByteArray) (k : Nat) (er : Int) (hr : (goF l K 0 (startS t)).run = (y, k, er)) (hv : validB l = true) (ht : t.size ≤ 2000000) (hS : TS t = S) (hKi : Ki = K) (hK : K ≤ 10000000) (hl : InsRow w w.heap.size v l) :
    Calls Try.prog 32 #[v, .string S, .int .i64 Ki] w fun e w' => e = .returned (.tuple #[.string y, .int .i64 k, .int .i64 er]) ∧ Below w.heap.size w w' := run_at hv ht hS K Ki hKi hK y k er hr w v hl (Below.refl _ _)

end Go.Proofs.Ytaiomcjopgnfpaa


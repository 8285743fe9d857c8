/- The arguments of the laws, opened: what lies in memory. -/
import Derived.Test.YtlaeljkjdfffjaaRowG
import Derived.Test.YtlaeljkjdfffjaaMB0
import Derived.SliceStrings
namespace Go.Proofs.Ytlaeljkjdfffjaa
open Go.ChangeShapes Go.WideShapes Go.ChangeAt Go.RowKit Go.WideMaps Go.WideElems

theorem bd_int {a : Int} (h : (Lit.int .i64 a).wf = true) : -9223372036854775808 ≤ a ∧ a ≤ 9223372036854775807 := by
  simpa [Lit.wf, IntKind.min, IntKind.max, IntKind.signed, IntKind.bits] using h

theorem cell_plain {w : World} {a : Addr} {v : Value} (h : w.cell? a = some v) : a = ⟨a.block, a.off, none⟩ := by
  obtain ⟨b, o, s⟩ := a
  cases s with
  | none => rfl
  | some s =>
    exfalso
    unfold World.cell? at h
    cases hh : w.heap[b]? with
    | none => simp [hh] at h
    | some ob => cases ob <;> simp [hh] at h
section
variable {H : Type} {enc : TypeId × Value → H} {W : World} {base : Nat}
theorem weights_of {ts : List TypeId} {ds : List (DataW H)} (h : (DataW.weightsEach Try.prog ts ds).all (· ≤ reachBytes) = true) {j : Nat} {t : TypeId} {d : DataW H} (ht : ts[j]? = some t) (hd : ds[j]? = some d) : ∀ n ∈ d.weights Try.prog t, n ≤ 140737488355328 := by
  intro n hn
  have := List.all_eq_true.1 h n (DataW.weights_mem_each ht hd n hn)
  have h2 : reachBytes ≤ 140737488355328 := by decide
  have h3 : n ≤ reachBytes := by simpa using this
  omega
theorem weightsAll_mem {t : TypeId} {l : List (DataW H)} {d : DataW H} (hd : d ∈ l) {n : Nat} (hn : n ∈ d.weights Try.prog t) : n ∈ DataW.weightsAll Try.prog t l := by
  induction l with
  | nil => cases hd
  | cons a l ih =>
    simp only [DataW.weightsAll, List.mem_append]
    rcases List.mem_cons.1 hd with rfl | h
    · exact .inl hn
    · exact .inr (ih h)

end

end Go.Proofs.Ytlaeljkjdfffjaa


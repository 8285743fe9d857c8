/- The arguments of the laws, opened: what lies in memory. -/
import Derived.Test.YtdjbcmfjlfkcjaaRowG
import Derived.Test.YtdjbcmfjlfkcjaaMB0
import Derived.SliceStrings
namespace Go.Proofs.Ytdjbcmfjlfkcjaa
open Go.ChangeShapes Go.WideShapes Go.ChangeAt Go.RowKit Go.WideMaps Go.WideElems

theorem bd_int {a : Int} (h : (Lit.int .i64 a).wf = true) : -9223372036854775808 ≤ a ∧ a ≤ 9223372036854775807 := by
  simpa [Lit.wf, IntKind.min, IntKind.max, IntKind.signed, IntKind.bits] using h

theorem cell_plain {w : World} {a : Addr} {v : Value} (h : w.cell? a = some v) : a = ⟨a.block, a.off, none⟩ := by
  obtain ⟨b, o, s⟩ := a
  cases s with
  | none => rfl
  | some s =>
    exfalso
    unfold World.cell? at h
    cases hh : w.heap[b]? with
    | none => simp [hh] at h
    | some ob => cases ob <;> simp [hh] at h
theorem add_off (a : Addr) (n : Nat) : (a.add n).block = a.block ∧ (a.add n).off = a.off + n := by
  unfold Addr.add; split
  · subst_vars; exact ⟨rfl, rfl⟩
  · exact ⟨rfl, rfl⟩

/-- The letters of some strings, and one more each. -/
def letters (l : List ByteArray) : Nat := (l.map fun s => s.size + 1).sum
theorem bulk_strs {H : Type} (l : List ByteArray) : Rows.uptoBulkAll (strs l : List (DataW H)) = letters l := by
  induction l with
  | nil => rfl
  | cons s l ih =>
    show Rows.uptoBulk (DataW.lit (.string s.data.toList) : DataW H) + Rows.uptoBulkAll (strs l) = _
    rw [ih]
    simp [Rows.uptoBulk, letters]

section
variable {H : Type} {enc : TypeId × Value → H} {W : World} {base : Nat}
theorem strs_bulk {d : DataW H} {l k : List ByteArray} (hd : d = .slice (strs l) (strs k)) : letters l ≤ Rows.uptoBulk d := by
  subst hd
  show _ ≤ Rows.uptoBulkAll (strs l) + Rows.uptoBulkAll (strs k) + 1
  rw [bulk_strs, bulk_strs]; omega

theorem weights_of {ts : List TypeId} {ds : List (DataW H)} (h : (DataW.weightsEach Try.prog ts ds).all (· ≤ reachBytes) = true) {j : Nat} {t : TypeId} {d : DataW H} (ht : ts[j]? = some t) (hd : ds[j]? = some d) : ∀ n ∈ d.weights Try.prog t, n ≤ 140737488355328 := by
  intro n hn
  have := List.all_eq_true.1 h n (DataW.weights_mem_each ht hd n hn)
  have h2 : reachBytes ≤ 140737488355328 := by decide
  have h3 : n ≤ reachBytes := by simpa using this
  omega
theorem weightsAll_mem {t : TypeId} {l : List (DataW H)} {d : DataW H} (hd : d ∈ l) {n : Nat} (hn : n ∈ d.weights Try.prog t) : n ∈ DataW.weightsAll Try.prog t l := by
  induction l with
  | nil => cases hd
  | cons a l ih =>
    simp only [DataW.weightsAll, List.mem_append]
    rcases List.mem_cons.1 hd with rfl | h
    · exact .inl hn
    · exact .inr (ih h)

set_option maxRecDepth 100000 in
/-- A slice of strings among the arguments. -/
theorem open_strs {v : Value} {d : DataW H} {p : List MemPlace} (hv : Value.okWide Try.prog W .any base 147 v) (h : DataW.Trod enc Try.prog W 0 (fun _ => true) true 147 v d p) (hlt : ∀ x ∈ p, x.block < W.heap.size) (hw : ∀ n ∈ d.weights Try.prog 147, n ≤ 140737488355328) :
    ∃ l, StrRow W W.heap.size v l ∧ letters l ≤ Rows.uptoBulk d := by
  obtain ⟨a0, len, cap, rfl⟩ := okWide_slice Try.underlying147 hv
  obtain ⟨fuel, hf⟩ := h
  rcases open_strings Try.underlying147 Try.underlying9 (by kernel_rfl) hf with ⟨hcs, hx⟩ | ⟨a, len', cap', ss, hcs, _, hl, hm, hz, hx, hcell, hsz⟩
  · simp only [Value.cells, List.cons.injEq, Value.slice.injEq, and_true] at hcs
    obtain ⟨rfl, rfl, rfl⟩ := hcs
    exact ⟨[], ⟨by simp, by simp, .inl ⟨rfl, .inl rfl⟩⟩, by simp [letters]⟩
  · simp only [Value.cells, List.cons.injEq, Value.slice.injEq, and_true] at hcs
    obtain ⟨rfl, rfl, rfl⟩ := hcs
    simp only [if_true] at hz
    simp only [Prod.mk.injEq] at hx
    obtain ⟨rfl, rfl⟩ := hx
    simp only [DataW.weights, Try.underlying147, List.mem_cons, List.mem_append] at hw
    have hwl : ss.length ≤ 140737488355328 := by
      have h1 := hw _ (.inl rfl)
      have h2 : 1 ≤ Try.prog.bytesOf 9 := by decide
      simp only [strs, List.length_map] at h1
      rw [← List.length_append, List.take_append_drop] at h1
      exact Nat.le_trans (Nat.le_mul_of_pos_right _ h2) h1
    refine ⟨ss.take len, ⟨fun s hs => ?_, ?_, ?_⟩, strs_bulk rfl⟩
    · have := hw s.data.toList.length (.inr (.inl (weightsAll_mem (d := .lit (.string s.data.toList)) (List.mem_map.2 ⟨s, hs, rfl⟩) (by simp [DataW.weights]))))
      have h2 : s.data.toList.length = s.size := by simp
      omega
    · rw [List.length_take]; omega
    · by_cases h0 : len = 0
      · subst h0; exact .inl ⟨rfl, .inr ⟨a, _, rfl⟩⟩
      · have hc0 := hcell 0 (by omega)
        rw [Addr.add_zero'] at hc0
        have ha := cell_plain hc0
        refine .inr ⟨a.block, a.off, cap, by rw [List.length_take, show min len ss.length = len by omega, ← ha], ?_, ?_⟩
        · exact hlt (.cell a.block (a.off + 0)) (List.mem_map.2 ⟨0, List.mem_range.2 (by omega), rfl⟩)
        · intro j s hj
          have hjl : j < len := by
            have := (List.getElem?_eq_some_iff.1 hj).1
            rw [List.length_take] at this; omega
          have h1 := hcell j (by omega)
          rw [ha, Addr.add_lit] at h1
          rw [h1]
          rw [List.getElem?_take, if_pos hjl] at hj
          rw [List.getD_eq_getElem?_getD, hj]; rfl
end

end Go.Proofs.Ytdjbcmfjlfkcjaa


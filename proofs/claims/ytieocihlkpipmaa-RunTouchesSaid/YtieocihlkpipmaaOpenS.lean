/- States among the arguments, opened. -/
import Derived.Test.YtieocihlkpipmaaOpenP
namespace Go.Proofs.Ytieocihlkpipmaa
open Go.ChangeShapes Go.WideShapes Go.ChangeAt Go.RowKit Go.WideMaps Go.WideElems Go.Deep

section
variable {H : Type} {enc : TypeId × Value → H} {W : World} {base : Nat}

set_option maxRecDepth 100000 in
/-- A state among the arguments. -/
theorem open_state {v : Value} {d : DataW H} {p : List MemPlace} (hv : Value.okWide Try.prog W .any base 53 v) (h : DataW.Trod enc Try.prog W 0 (fun _ => true) true 53 v d p) (hlt : ∀ x ∈ p, x.block < W.heap.size) (hw : ∀ n ∈ d.weights Try.prog 53, n ≤ 140737488355328) :
    ∃ n u l, v = .agg #[.int .i64 n, u] ∧ i64 n ∧ StrRow W W.heap.size u l ∧ l.length ≤ 8796093022208 := by
  have hu : Try.prog.underlying 53 = some (.struct (Try.prog.fieldsOf 53)) := by kernel_rfl
  obtain ⟨cs, rfl, hsz⟩ := okWide_struct hu hv
  obtain ⟨fuel, hf⟩ := h
  obtain ⟨xs, n, _, hx, hcl, hlen, hg⟩ := DataW.trod_struct hu hf
  obtain ⟨f0, f1, hff, o0, o1, t0, t1⟩ : ∃ f0 f1 : Field, Try.prog.fieldsOf 53 = #[f0, f1] ∧ f0.offset = 0 ∧ f1.offset = 1 ∧ f0.type = 3 ∧ f1.type = 46 :=
    ⟨(Try.prog.fieldsOf 53)[0]!, (Try.prog.fieldsOf 53)[1]!, by kernel_rfl, by kernel_rfl, by kernel_rfl, by kernel_rfl, by kernel_rfl⟩
  rw [hff] at hg hlen
  have h2 : cs.size = 2 := hsz.trans (by kernel_rfl)
  have ci : Try.prog.cellsOf 3 = 1 := by kernel_rfl
  have cl : Try.prog.cellsOf 46 = 1 := by kernel_rfl
  obtain ⟨cs⟩ := cs
  match cs, h2, xs, hlen with
  | [c0, c1], _, [y0, y1], _ =>
    have g0 := hg 0 f0 rfl
    have g1 := hg 1 f1 rfl
    rw [o0, t0, ci] at g0
    rw [o1, t1, cl] at g1
    simp only [Value.cells, List.drop_zero, List.drop_succ_cons, List.take_succ_cons, List.take_zero, List.getElem?_cons_zero, List.getElem?_cons_succ] at g0 g1
    obtain ⟨n0, e0, r0, w0⟩ := DataW.trod_int Try.underlying3 g0
    simp only [List.cons.injEq, and_true] at e0
    subst e0 r0
    simp only [Prod.mk.injEq] at hx
    obtain ⟨rfl, rfl⟩ := hx
    obtain ⟨l, hl, _, hz⟩ := open_strs_cell (d := y1.1) (p := y1.2) g1 (fun x hx => hlt x (by simp [hx])) (fun n hn => hw n (by
      rw [DataW.weights.eq_def]
      simp only [hu, hff, List.map_cons, List.map_nil, DataW.weightsEach, List.mem_append, t1]
      exact .inr (.inl hn)))
    exact ⟨n0, c1, l, rfl, bd_int w0, hl, hz⟩
end

end Go.Proofs.Ytieocihlkpipmaa

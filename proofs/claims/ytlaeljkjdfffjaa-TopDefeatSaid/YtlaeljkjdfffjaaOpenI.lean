/- Structures and arrays of programs among the arguments, opened. -/
import Derived.Test.YtlaeljkjdfffjaaOpenP
import Derived.OpenShut
namespace Go.Proofs.Ytlaeljkjdfffjaa
open Go.ChangeShapes Go.WideShapes Go.ChangeAt Go.RowKit Go.WideMaps Go.WideElems Go.Deep

section
variable {H : Type} {enc : TypeId × Value → H} {W : World} {base : Nat}

set_option maxRecDepth 100000 in
theorem open_prog_core {fuel : Nat} {a0 : Option Addr} {len cap : Nat} {d : DataW H} {p : List MemPlace} (hf : DataW.trod enc Try.prog W 0 (fun _ => true) true fuel 23 [.slice a0 len cap] = some (d, p)) (hlt : ∀ x ∈ p, x.block < W.heap.size) (hw : ∀ n ∈ d.weights Try.prog 23, n ≤ 140737488355328) :
    ∃ l, InsRow W W.heap.size (.slice a0 len cap) l := by
  have hC : Try.prog.cellsOf 41 = 5 := by kernel_rfl
  rcases open_slice Try.underlying23 hf with ⟨hcs, hx⟩ | ⟨a, len', cap', m, n, D, Pl, hcs, _, hl, hm, hmm, hx, hi⟩
  · simp only [List.cons.injEq, Value.slice.injEq, and_true] at hcs
    obtain ⟨rfl, rfl, rfl⟩ := hcs
    exact ⟨[], by simp, by simp, .inl ⟨rfl, .inl rfl⟩⟩
  · simp only [List.cons.injEq, Value.slice.injEq, and_true] at hcs
    obtain ⟨rfl, rfl, rfl⟩ := hcs
    simp only [if_true] at hmm
    subst hmm
    rw [hC] at hx hi
    simp only [Prod.mk.injEq] at hx
    obtain ⟨rfl, rfl⟩ := hx
    simp only [DataW.weights, Try.underlying23, List.mem_cons, List.mem_append] at hw
    have hwl : len ≤ 2932031007402 := by
      have h1 := hw _ (.inl rfl)
      have h2 : Try.prog.bytesOf 41 = 48 := by kernel_rfl
      rw [h2] at h1
      simp only [List.length_map, List.length_range] at h1
      omega
    have hrow : ∀ k, k ≤ len → ∃ l : List Ins, l.length = k ∧ (∀ x ∈ l, x.wf) ∧ ∀ j x, l[j]? = some x → ∀ i u, x.cells[i]? = some u → W.cell? (a.add (j * 5 + i)) = some u := by
      intro k
      induction k with
      | zero => intro _; exact ⟨[], rfl, by simp, by simp⟩
      | succ k ih =>
        intro hk
        obtain ⟨l, h1, h2, h3⟩ := ih (by omega)
        obtain ⟨cs', hc, ht⟩ := hi k (by omega)
        obtain ⟨x, rfl, hD, w0, w1, w2, w3⟩ := open_ins ht
        have hD : D k = insD x := hD
        obtain ⟨_, _, hat⟩ := World.cells?_some hc
        refine ⟨l ++ [x], by simp [h1], ?_, ?_⟩
        · intro y hy
          rcases List.mem_append.1 hy with hy | hy
          · exact h2 y hy
          · simp only [List.mem_singleton] at hy
            subst hy
            refine ⟨w0, w1, w2, w3, ?_⟩
            have := hw _ (.inr (.inl (weightsAll_mem (d := D k) (List.mem_map.2 ⟨k, List.mem_range.2 (by omega), rfl⟩) (by rw [hD]; exact ins_weight y))))
            have h2 : y.tree.data.toList.length = y.tree.size := by simp
            omega
        · intro j y hj i u hu
          by_cases hjk : j < k
          · rw [List.getElem?_append_left (by omega)] at hj
            exact h3 j y hj i u hu
          · have hj2 := (List.getElem?_eq_some_iff.1 hj).1
            simp only [List.length_append, List.length_cons, List.length_nil] at hj2
            obtain rfl : j = k := by omega
            rw [List.getElem?_append_right (by omega), h1, Nat.sub_self] at hj
            simp only [List.getElem?_cons_zero, Option.some.injEq] at hj
            subst hj
            have hi5 : i < 5 := by have := (List.getElem?_eq_some_iff.1 hu).1; simpa [Ins.cells] using this
            have := hat i hi5
            rw [Addr.add_add] at this
            rw [this, hu]
    obtain ⟨l, h1, h2, h3⟩ := hrow len (Nat.le_refl _)
    refine ⟨l, h2, by omega, ?_⟩
    by_cases h0 : len = 0
    · subst h0; exact .inl ⟨List.length_eq_zero_iff.1 h1, .inr ⟨a, _, rfl⟩⟩
    · obtain ⟨x, hx⟩ : ∃ x, l[0]? = some x := ⟨_, List.getElem?_eq_getElem (by omega)⟩
      have hc0 := h3 0 x hx 0 _ rfl
      rw [Nat.zero_mul, Nat.zero_add, Addr.add_zero'] at hc0
      have ha := cell_plain hc0
      refine .inr ⟨a.block, a.off, m, by rw [h1, ← ha], ?_, ?_⟩
      · exact hlt (.cell a.block (a.off + 0)) (List.mem_append_left _ (List.mem_map.2 ⟨0, List.mem_range.2 (by omega), rfl⟩))
      · intro j x hj k u hu
        have := h3 j x hj k u hu
        rw [ha, Addr.add_lit, Nat.mul_comm j 5] at this
        exact this

set_option maxRecDepth 100000 in
/-- A program in a cell. -/
theorem open_prog_cell {fuel : Nat} {v : Value} {d : DataW H} {p : List MemPlace} (hf : DataW.trod enc Try.prog W 0 (fun _ => true) true fuel 23 [v] = some (d, p)) (hlt : ∀ x ∈ p, x.block < W.heap.size) (hw : ∀ n ∈ d.weights Try.prog 23, n ≤ 140737488355328) :
    ∃ l, InsRow W W.heap.size v l := by
  have hsl : ∃ a n c, v = .slice a n c := by
    rcases open_slice Try.underlying23 hf with ⟨hcs, hx⟩ | ⟨a, len', cap', m, n, D, Pl, hcs, _, hl, hm, hmm, hx, hi⟩
    · simp only [List.cons.injEq, and_true] at hcs
      exact ⟨_, _, _, hcs⟩
    · simp only [List.cons.injEq, and_true] at hcs
      exact ⟨_, _, _, hcs⟩
  obtain ⟨a, n, c, rfl⟩ := hsl
  exact open_prog_core hf hlt hw

set_option maxRecDepth 100000 in
/-- Two programs. -/
theorem open_two {v : Value} {d : DataW H} {p : List MemPlace} (hv : Value.okWide Try.prog W .any base 77 v) (h : DataW.Trod enc Try.prog W 0 (fun _ => true) true 77 v d p) (hlt : ∀ x ∈ p, x.block < W.heap.size) (hw : ∀ n ∈ d.weights Try.prog 77, n ≤ 140737488355328) :
    ∃ u l u' l', v = .agg #[u, u'] ∧ InsRow W W.heap.size u l ∧ InsRow W W.heap.size u' l' := by
  have hu : Try.prog.underlying 77 = some (.array 2 23) := by kernel_rfl
  obtain ⟨cs, rfl, hsz, _⟩ : ∃ cs, v = .agg cs ∧ cs.size = Try.prog.cellsOf 77 ∧ Row.okWide Try.prog W .any base 77 cs := by
    simpa [Value.okWide, hu] using hv
  obtain ⟨fuel, hf⟩ := h
  obtain ⟨xs, n, _, hx, hcl, hlen, hg⟩ := DataW.trod_array hu hf
  have h2 : cs.size = 2 := hsz.trans (by kernel_rfl)
  have ci : Try.prog.cellsOf 23 = 1 := by kernel_rfl
  obtain ⟨cs⟩ := cs
  match cs, h2, xs, hlen with
  | [c0, c1], _, [y0, y1], _ =>
    have g0 := hg 0 (by omega)
    have g1 := hg 1 (by omega)
    rw [ci] at g0 g1
    simp only [Value.cells, Nat.zero_mul, Nat.one_mul, List.drop_zero, List.drop_succ_cons, List.take_succ_cons, List.take_zero, List.getElem?_cons_zero, List.getElem?_cons_succ] at g0 g1
    simp only [Prod.mk.injEq] at hx
    obtain ⟨rfl, rfl⟩ := hx
    obtain ⟨l, hl⟩ := open_prog_cell (d := y0.1) (p := y0.2) g0 (fun x hx => hlt x (by simp [hx])) (fun n hn => hw n (by
      rw [DataW.weights.eq_def]
      simp only [hu, List.map_cons, List.map_nil]
      exact weightsAll_mem (d := y0.1) (by simp) hn))
    obtain ⟨l', hl'⟩ := open_prog_cell (d := y1.1) (p := y1.2) g1 (fun x hx => hlt x (by simp [hx])) (fun n hn => hw n (by
      rw [DataW.weights.eq_def]
      simp only [hu, List.map_cons, List.map_nil]
      exact weightsAll_mem (d := y1.1) (by simp) hn))
    exact ⟨c0, l, c1, l', rfl, hl, hl'⟩
end

end Go.Proofs.Ytlaeljkjdfffjaa


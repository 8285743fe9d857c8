/- Programs among the arguments, opened. -/
import Derived.Test.YtlaeljkjdfffjaaOpen
import Derived.Test.YtlaeljkjdfffjaaMB0
import Derived.Deep.Slices
import Derived.Deep.Fields
namespace Go.Proofs.Ytlaeljkjdfffjaa
open Go.ChangeShapes Go.WideShapes Go.ChangeAt Go.RowKit Go.WideMaps Go.WideElems Go.Deep

/-- An instruction as data. -/
def insD {H : Type} (x : Ins) : DataW H := .agg [.lit (.int .i64 x.op), .lit (.int .i64 x.a), .lit (.int .i64 x.b), .lit (.int .i64 x.c), .lit (.string x.tree.data.toList)]
section
variable {H : Type} {enc : TypeId × Value → H} {W : World} {base : Nat}

set_option maxRecDepth 100000 in
theorem open_ins {b : Nat} {sp : Nat → Bool} {held : Bool} {fuel : Nat} {cs : List Value} {y : DataW H × List MemPlace} (h : DataW.trod enc Try.prog W b sp held fuel 41 cs = some y) :
    ∃ x : Ins, cs = x.cells ∧ y.1 = insD x ∧ i64 x.op ∧ i64 x.a ∧ i64 x.b ∧ i64 x.c := by
  obtain ⟨xs, n, _, hx, hcl, hlen, hg⟩ := DataW.trod_struct (show Try.prog.underlying 41 = some (.struct (Try.prog.fieldsOf 41)) by kernel_rfl) h
  obtain ⟨f0, f1, f2, f3, f4, hf, o0, o1, o2, o3, o4, t0, t1, t2, t3, t4⟩ : ∃ f0 f1 f2 f3 f4 : Field, Try.prog.fieldsOf 41 = #[f0, f1, f2, f3, f4] ∧
      f0.offset = 0 ∧ f1.offset = 1 ∧ f2.offset = 2 ∧ f3.offset = 3 ∧ f4.offset = 4 ∧ f0.type = 3 ∧ f1.type = 3 ∧ f2.type = 3 ∧ f3.type = 3 ∧ f4.type = 9 :=
    ⟨(Try.prog.fieldsOf 41)[0]!, (Try.prog.fieldsOf 41)[1]!, (Try.prog.fieldsOf 41)[2]!, (Try.prog.fieldsOf 41)[3]!, (Try.prog.fieldsOf 41)[4]!, by kernel_rfl, by kernel_rfl, by kernel_rfl, by kernel_rfl, by kernel_rfl, by kernel_rfl, by kernel_rfl, by kernel_rfl, by kernel_rfl, by kernel_rfl, by kernel_rfl⟩
  rw [hf] at hg hlen
  have h5 : cs.length = 5 := hcl.trans (by kernel_rfl)
  have ci : Try.prog.cellsOf 3 = 1 := by kernel_rfl
  have cg : Try.prog.cellsOf 9 = 1 := by kernel_rfl
  match cs, h5, xs, hlen with
  | [c0, c1, c2, c3, c4], _, [y0, y1, y2, y3, y4], _ =>
    have g0 := hg 0 f0 rfl
    have g1 := hg 1 f1 rfl
    have g2 := hg 2 f2 rfl
    have g3 := hg 3 f3 rfl
    have g4 := hg 4 f4 rfl
    rw [o0, t0, ci] at g0
    rw [o1, t1, ci] at g1
    rw [o2, t2, ci] at g2
    rw [o3, t3, ci] at g3
    rw [o4, t4, cg] at g4
    simp only [List.drop_zero, List.drop_succ_cons, List.take_succ_cons, List.take_zero, List.getElem?_cons_zero, List.getElem?_cons_succ] at g0 g1 g2 g3 g4
    obtain ⟨n0, e0, r0, w0⟩ := DataW.trod_int Try.underlying3 g0
    obtain ⟨n1, e1, r1, w1⟩ := DataW.trod_int Try.underlying3 g1
    obtain ⟨n2, e2, r2, w2⟩ := DataW.trod_int Try.underlying3 g2
    obtain ⟨n3, e3, r3, w3⟩ := DataW.trod_int Try.underlying3 g3
    obtain ⟨s4, e4, r4, w4⟩ := DataW.trod_string Try.underlying9 g4
    simp only [List.cons.injEq, and_true] at e0 e1 e2 e3 e4
    subst e0 e1 e2 e3 e4 r0 r1 r2 r3 r4
    refine ⟨⟨n0, n1, n2, n3, s4⟩, rfl, ?_, bd_int w0, bd_int w1, bd_int w2, bd_int w3⟩
    rw [hx]; rfl

theorem ins_weight (x : Ins) : x.tree.data.toList.length ∈ (insD x : DataW H).weights Try.prog 41 := by
  have hu : Try.prog.underlying 41 = some (.struct (Try.prog.fieldsOf 41)) := by kernel_rfl
  obtain ⟨f0, f1, f2, f3, f4, hf⟩ : ∃ f0 f1 f2 f3 f4 : Field, (Try.prog.fieldsOf 41).toList = [f0, f1, f2, f3, f4] :=
    ⟨(Try.prog.fieldsOf 41)[0]!, (Try.prog.fieldsOf 41)[1]!, (Try.prog.fieldsOf 41)[2]!, (Try.prog.fieldsOf 41)[3]!, (Try.prog.fieldsOf 41)[4]!, by kernel_rfl⟩
  unfold insD
  rw [DataW.weights, hu]
  simp only [hf, List.map_cons, List.map_nil, DataW.weightsEach, DataW.weights, List.nil_append, List.append_nil, List.mem_singleton]

set_option maxRecDepth 100000 in
/-- A program among the arguments. -/
theorem open_prog {v : Value} {d : DataW H} {p : List MemPlace} (hv : Value.okWide Try.prog W .any base 23 v) (h : DataW.Trod enc Try.prog W 0 (fun _ => true) true 23 v d p) (hlt : ∀ x ∈ p, x.block < W.heap.size) (hw : ∀ n ∈ d.weights Try.prog 23, n ≤ 140737488355328) :
    ∃ l, InsRow W W.heap.size v l := by
  obtain ⟨a0, len, cap, rfl⟩ := okWide_slice Try.underlying23 hv
  obtain ⟨fuel, hf⟩ := h
  have hC : Try.prog.cellsOf 41 = 5 := by kernel_rfl
  rcases open_slice Try.underlying23 hf with ⟨hcs, hx⟩ | ⟨a, len', cap', m, n, D, Pl, hcs, _, hl, hm, hmm, hx, hi⟩
  · simp only [Value.cells, List.cons.injEq, Value.slice.injEq, and_true] at hcs
    obtain ⟨rfl, rfl, rfl⟩ := hcs
    exact ⟨[], by simp, by simp, .inl ⟨rfl, .inl rfl⟩⟩
  · simp only [Value.cells, List.cons.injEq, Value.slice.injEq, and_true] at hcs
    obtain ⟨rfl, rfl, rfl⟩ := hcs
    simp only [if_true] at hmm
    subst hmm
    rw [hC] at hx hi
    simp only [Prod.mk.injEq] at hx
    obtain ⟨rfl, rfl⟩ := hx
    simp only [DataW.weights, Try.underlying23, List.mem_cons, List.mem_append] at hw
    have hwl : len ≤ 2932031007402 := by
      have h1 := hw _ (.inl rfl)
      have h2 : Try.prog.bytesOf 41 = 48 := by kernel_rfl
      rw [h2] at h1
      simp only [List.length_map, List.length_range] at h1
      omega
    have hrow : ∀ k, k ≤ len → ∃ l : List Ins, l.length = k ∧ (∀ x ∈ l, x.wf) ∧ ∀ j x, l[j]? = some x → ∀ i u, x.cells[i]? = some u → W.cell? (a.add (j * 5 + i)) = some u := by
      intro k
      induction k with
      | zero => intro _; exact ⟨[], rfl, by simp, by simp⟩
      | succ k ih =>
        intro hk
        obtain ⟨l, h1, h2, h3⟩ := ih (by omega)
        obtain ⟨cs', hc, ht⟩ := hi k (by omega)
        obtain ⟨x, rfl, hD, w0, w1, w2, w3⟩ := open_ins ht
        have hD : D k = insD x := hD
        obtain ⟨_, _, hat⟩ := World.cells?_some hc
        refine ⟨l ++ [x], by simp [h1], ?_, ?_⟩
        · intro y hy
          rcases List.mem_append.1 hy with hy | hy
          · exact h2 y hy
          · simp only [List.mem_singleton] at hy
            subst hy
            refine ⟨w0, w1, w2, w3, ?_⟩
            have := hw _ (.inr (.inl (weightsAll_mem (d := D k) (List.mem_map.2 ⟨k, List.mem_range.2 (by omega), rfl⟩) (by rw [hD]; exact ins_weight y))))
            have h2 : y.tree.data.toList.length = y.tree.size := by simp
            omega
        · intro j y hj i u hu
          by_cases hjk : j < k
          · rw [List.getElem?_append_left (by omega)] at hj
            exact h3 j y hj i u hu
          · have hj2 := (List.getElem?_eq_some_iff.1 hj).1
            simp only [List.length_append, List.length_cons, List.length_nil] at hj2
            obtain rfl : j = k := by omega
            rw [List.getElem?_append_right (by omega), h1, Nat.sub_self] at hj
            simp only [List.getElem?_cons_zero, Option.some.injEq] at hj
            subst hj
            have hi5 : i < 5 := by have := (List.getElem?_eq_some_iff.1 hu).1; simpa [Ins.cells] using this
            have := hat i hi5
            rw [Addr.add_add] at this
            rw [this, hu]
    obtain ⟨l, h1, h2, h3⟩ := hrow len (Nat.le_refl _)
    refine ⟨l, h2, by omega, ?_⟩
    by_cases h0 : len = 0
    · subst h0; exact .inl ⟨List.length_eq_zero_iff.1 h1, .inr ⟨a, _, rfl⟩⟩
    · obtain ⟨x, hx⟩ : ∃ x, l[0]? = some x := ⟨_, List.getElem?_eq_getElem (by omega)⟩
      have hc0 := h3 0 x hx 0 _ rfl
      rw [Nat.zero_mul, Nat.zero_add, Addr.add_zero'] at hc0
      have ha := cell_plain hc0
      refine .inr ⟨a.block, a.off, m, by rw [h1, ← ha], ?_, ?_⟩
      · exact hlt (.cell a.block (a.off + 0)) (List.mem_append_left _ (List.mem_map.2 ⟨0, List.mem_range.2 (by omega), rfl⟩))
      · intro j x hj k u hu
        have := h3 j x hj k u hu
        rw [ha, Addr.add_lit, Nat.mul_comm j 5] at this
        exact this

end

end Go.Proofs.Ytlaeljkjdfffjaa


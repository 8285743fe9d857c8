/- law09: Small of several programs; a closure that appends; spoil. -/
import Derived.Test.YtlaeljkjdfffjaaMB4
namespace Go.Proofs.Ytlaeljkjdfffjaa
open Go.RowKit

theorem append_types {P : Go.Program} {t u e e' : TypeId} (ht : P.underlying t = some (.slice e)) (hu : P.underlying u = some (.slice e')) (ty : TypeId) (b : Option Addr) (n c : Nat) (x : Value) (w : World) : (Builtin.append_ #[t, u] ty #[.slice b n c, x]).run P w = (Builtin.append_ #[t, t] ty #[.slice b n c, x]).run P w := by
  simp [Builtin.append_, run_underlying ht, run_underlying hu]
/-- append of instructions to a row of one's own. -/
theorem app_in {ops : Array Oper} {rest : List Oper} {o : Oper} {a : Act} {Q : Exit → Act → World → Prop} (hgd : o.guard = none) (s x : Operand)
    (ho : o.op = .call { callee := .builtin .append, args := #[s, x], argTypes := #[23, 22] }) {w : World} {va : Option Addr} {vn vc : Nat} {vx : Value} {m l : List Ins} {B C : Nat}
    (hs : a.eval s = .slice va vn vc) (hown : OwnI w B (.slice va vn vc) m) (hx : a.eval x = vx) (hsrc : InsRow w C vx l) (hlen : m.length + l.length ≤ 1000000000) (hB : B ≤ w.heap.size)
    (h : ∀ v' w', Hid (OwnI w' B v' (m ++ l)) → Hid (Below B w w') → wpList Try.prog ops Q rest (a.put o.dst v') w') :
    wpList Try.prog ops Q (o :: rest) a w := by
  refine wpList_plain hgd fun K hK => ?_
  obtain ⟨v', w', hr, h2, h3⟩ : ∃ v' w', (Builtin.append_ #[23, 23] o.type #[.slice va vn vc, vx]).run Try.prog w = .ok v' w' ∧ w'.ownsRow B 41 5 v' (m.length + l.length) (inscells m ++ inscells l) ∧ Below B w w' := by
    have E := el_ins
    obtain ⟨i, hi, hz, hsize, hbytes⟩ := info_parts E.hi
    have hlt := hown.own.lt
    obtain ⟨hl, hc⟩ := hsrc.src
    rcases hc with ⟨rfl, h0⟩ | ⟨ad, c, rfl, hcells⟩
    · have hnews : l = [] := List.eq_nil_of_length_eq_zero h0
      subst hnews
      exact ⟨_, w, run_append_owned_none w B _ o.type _ i 5 E.ht hi _ _ _ hown.own, by rw [show inscells ([] : List Ins) = [] from rfl, List.append_nil]; exact hown.own, Below.refl _ _⟩
    · obtain ⟨v', w', hr, h2, h3, -⟩ := run_append_own (P := Try.prog) w B _ o.type _ i _ 5 48 E.ht hi hz hsize hbytes E.hzs E.hsz _ _ _ hown.own ad _ c _ hl hcells (inscells_one l) (by unfold maxLen; omega) (by omega) hB
      exact ⟨v', w', hr, h2, (Below.refl B w).grown h3 hB (fun k hk => (hlt k hk).1)⟩
  have hr2 := (append_types (u := 22) el_ins.ht Try.underlying22 o.type va vn vc vx w).trans hr
  unfold Oper.wp execOp
  simp only [ho, resolve, invoke, builtin, Sem.run_bind, Sem.run_pure, Result.andThen_ok, List.map_toArray, List.map_cons, List.map_nil, hs, hx, hr2]
  exact hK _ _ (h v' w' (Lib.hid (OwnI.app h2 rfl hown.wf hsrc.1)) (Lib.hid h3))
/-- A program in a variable that a closure captures. -/
def BoxQ (w : World) (b : Nat) (l : List Ins) : Prop := ∃ v, w.heap[b]? = some (.cells #[v] 23 (0, 0)) ∧ OwnI w (b + 1) v l
theorem BoxQ.lt {w : World} {b : Nat} {l : List Ins} (h : BoxQ w b l) : b < w.heap.size := by obtain ⟨v, h1, _⟩ := h; exact lt_of_block h1
theorem BoxQ.below {w w' : World} {b : Nat} {l : List Ins} (h : BoxQ w b l) (hb : Below w.heap.size w w') : BoxQ w' b l := by
  have hl := h.lt
  obtain ⟨v, h1, h2⟩ := h
  exact ⟨v, (hb.block b hl).trans h1, h2.below hb⟩
theorem BoxQ.new (w : World) : BoxQ (w.alloc (.cells #[.slice none 0 0] 23)) w.heap.size [] := ⟨_, heap_alloc_new _ _, OwnI.nil _ _⟩
theorem add_any (w : World) (b : Nat) (m l : List Ins) (vx : Value) (hq : BoxQ w b m) (hx : InsRow w w.heap.size vx l) (hlen : m.length + l.length ≤ 1000000) :
    Calls Try.prog 115 #[vx, .pointer (some ⟨b, 0, none⟩)] w fun e w' => e = .returned (.tuple #[]) ∧ BoxQ w' b (m ++ l) ∧ Below b w w' := by
  have hlt := Lib.hid hq.lt
  obtain ⟨v, h1, hown⟩ := hq
  obtain ⟨xa, xc, rfl⟩ := hx.len
  obtain ⟨va, vc, rfl⟩ := hown.slice
  have c0 := cell_of_one h1
  have f0 := free_of_one h1
  have HB := Lib.hid h1
  have HO := Lib.hid hown
  have HX := Lib.hid hx
  have HLN := Lib.hid hlen
  clear h1 hown hx hlen
  go_enter Try.func115, Try.ntmps115
  go_wp2_with (at_builtin; refine app_in rfl _ _ rfl rfl HO.out rfl HX.out (by have := HLN.out; omega) (by have := hlt.out; omega) ?_)
  intro v' w1 ho hb
  obtain ⟨va', vc', rfl⟩ := ho.out.slice
  have hbk := (hb.out.block b (by omega)).trans HB.out
  have f1 := free_of_one hbk
  have c1 := cell_of_one hbk
  have HB1 := Lib.hid hbk
  clear c0 f0 hbk
  go_wp2
  refine bodyPost_end (v := .tuple #[]) (by simp [results, Try.results115, go_sem]) rfl ?_
  refine ⟨rfl, ⟨_, one_setCell HB1.out, ⟨?_, ho.out.wf⟩⟩, ?_⟩
  · have hcast : (m ++ l).length = m.length + l.length := List.length_append
    rw [hcast]
    have hoo := ho.out.own
    rw [hcast] at hoo
    refine ownsRow_setCell_other hoo (a := ⟨b, 0, none⟩) ?_ _
    intro e
    rcases hoo.2 with ⟨h2, _⟩ | ⟨g, cap, cur, hv, hg, _⟩
    · rw [h2] at e; cases e
    · rw [hv] at e
      simp only [Value.ownBlock, Option.some.injEq] at e
      omega
  · exact (show Below b w w1 from hb.out.mono (Nat.le_succ _)).setCell (p := ⟨b, 0, none⟩) (Nat.le_refl _) _
end Go.Proofs.Ytlaeljkjdfffjaa


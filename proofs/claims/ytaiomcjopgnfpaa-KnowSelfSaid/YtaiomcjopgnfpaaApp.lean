/- append, said of programs. -/
import Derived.Test.YtaiomcjopgnfpaaProgs
namespace Go.Proofs.Ytaiomcjopgnfpaa
open Go.RowKit

/-- append of a program to a row of one's own. -/
theorem app_row {ops : Array Oper} {rest : List Oper} {o : Oper} {a : Act} {Q : Exit → Act → World → Prop} (hgd : o.guard = none) (s x : Operand)
    (ho : o.op = .call { callee := .builtin .append, args := #[s, x], argTypes := #[25, 25] }) {w w0 : World} {v vx : Value} {m l : List Ins} {B : Nat}
    (hs : a.eval s = v) (hown : OwnI w w0.heap.size v m) (hx : a.eval x = vx) (hsrc : InsRow w B vx l) (hlen : m.length + l.length ≤ 1000000000) (hb : Below w0.heap.size w0 w)
    (h : ∀ a' k c' w', Hid (k = m.length + l.length) → Hid (OwnI w' w0.heap.size (.slice a' k c') (m ++ l)) → Hid (Below w0.heap.size w0 w') → wpList Try.prog ops Q rest (a.put o.dst (.slice a' k c')) w') :
    wpList Try.prog ops Q (o :: rest) a w := by
  refine app_src el_ins hgd s x ho hs hown.own hx hsrc.src (inscells_one l) (by omega) (by unfold maxLen; omega) hb.size hb (Nat.le_refl _) ?_
  intro v' w' h1 h2 _
  obtain ⟨a', c', rfl⟩ := own_len h1
  exact h a' _ c' w' (Lib.hid rfl) (Lib.hid (OwnI.app h1 rfl hown.wf hsrc.1)) (Lib.hid h2)
/-- append of single instructions to a row of one's own. -/
theorem app_lit {ops : Array Oper} {rest : List Oper} {o : Oper} {a : Act} {Q : Exit → Act → World → Prop} (hgd : o.guard = none) (s x : Operand)
    (ho : o.op = .call { callee := .builtin .append, args := #[s, x], argTypes := #[25, 25] }) {w w0 : World} {v : Value} {m : List Ins} (l : List Ins) {n : Nat}
    (hs : a.eval s = v) (hown : OwnI w w0.heap.size v m) (hx : a.eval x = .slice (some ⟨w.heap.size, 0, none⟩) n n) (hn : l.length = n) (hwf : ∀ y ∈ l, y.wf) (hlen : m.length + n ≤ 1000000000) (hb : Below w0.heap.size w0 w)
    (h : ∀ a' k c' w', Hid (k = m.length + n) → Hid (OwnI w' w0.heap.size (.slice a' k c') (m ++ l)) → Hid (Below w0.heap.size w0 w') → wpList Try.prog ops Q rest (a.put o.dst (.slice a' k c')) w') :
    wpList Try.prog ops Q (o :: rest) a (w.alloc (.cells (inscells l).toArray 52)) := by
  refine app_new el_ins hgd s x ho hs hown.own (inscells l) n hx (by rw [inscells_length, hn]) (inscells_one l) (by omega) (by unfold maxLen; omega) hb.size hb (Nat.le_refl _) ?_
  intro v' w' h1 h2 _
  obtain ⟨a', c', rfl⟩ := own_len h1
  exact h a' _ c' w' (Lib.hid rfl) (Lib.hid (OwnI.app h1 (by rw [hn]) hown.wf hwf)) (Lib.hid h2)
/-- append of a program to single instructions. -/
theorem lit_row {ops : Array Oper} {rest : List Oper} {o : Oper} {a : Act} {Q : Exit → Act → World → Prop} (hgd : o.guard = none) (s x : Operand)
    (ho : o.op = .call { callee := .builtin .append, args := #[s, x], argTypes := #[25, 25] }) {w : World} {vx : Value} (m : List Ins) {l : List Ins} {n : Nat}
    (hs : a.eval s = .slice (some ⟨w.heap.size, 0, none⟩) n n) (hn : m.length = n) (hwf : ∀ y ∈ m, y.wf) (hx : a.eval x = vx) (hsrc : InsRow w w.heap.size vx l) (hlen : n + l.length ≤ 1000000000)
    (h : ∀ a' k c' w', Hid (k = n + l.length) → Hid (OwnI w' w.heap.size (.slice a' k c') (m ++ l)) → Hid (Below w.heap.size w w') → wpList Try.prog ops Q rest (a.put o.dst (.slice a' k c')) w') :
    wpList Try.prog ops Q (o :: rest) a (w.alloc (.cells (inscells m).toArray 52)) := by
  have hb : Below w.heap.size w (w.alloc (.cells (inscells m).toArray 52)) := (Below.refl _ _).alloc (Nat.le_refl _) _
  have ho' := OwnI.lit w m hwf (by omega)
  rw [hn] at ho'
  refine app_row hgd s x ho hs ho' hx (hsrc.below hb) (by rw [hn]; exact hlen) hb ?_
  rw [hn]; exact h
theorem OwnI.lower {w : World} {B B' : Nat} {v : Value} {l : List Ins} (h : OwnI w B v l) (hB : B' ≤ B) : OwnI w B' v l := by
  refine ⟨⟨h.own.1, ?_⟩, h.wf⟩
  rcases h.own.2 with h1 | ⟨g, cap, cur, h1, h2, h3⟩
  · exact .inl h1
  · exact .inr ⟨g, cap, cur, h1, by omega, h3⟩
theorem moveI_wf (a b : Nat) (ha : a ≤ 1000) (hb : b ≤ 1000) : (moveI a b).wf := wf_lit _ _ _ _ _ (by unfold i64; decide) (by unfold i64; omega) (by unfold i64; omega) (by unfold i64; decide) (by decide)
theorem consI_wf (a b c : Nat) (ha : a ≤ 1000) (hb : b ≤ 1000) (hc : c ≤ 1000) : (consI a b c).wf := wf_lit _ _ _ _ _ (by unfold i64; decide) (by unfold i64; omega) (by unfold i64; omega) (by unfold i64; omega) (by decide)
theorem jumpI_wf (a : Nat) (b : Int) (ha : a ≤ 1000) (hb : -1000000000 ≤ b ∧ b ≤ 1000000000) : (jumpI a b).wf := wf_lit _ _ _ _ _ (by unfold i64; decide) (by unfold i64; omega) (by unfold i64; omega) (by unfold i64; decide) (by decide)
theorem cleanP_length (l : List Ins) : (cleanP l).length = mostN l + l.length := by unfold cleanP cleanH; rw [List.length_append, cleanK_length]

end Go.Proofs.Ytaiomcjopgnfpaa


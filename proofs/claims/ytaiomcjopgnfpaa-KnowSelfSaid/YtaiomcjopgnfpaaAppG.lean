/- append to a row while later rows live. -/
import Derived.Test.YtaiomcjopgnfpaaBuild4
namespace Go.Proofs.Ytaiomcjopgnfpaa
open Go.RowKit

theorem InsRow.grew {w w' : World} {v v' vx : Value} {m : Nat} {l : List Ins} (h : InsRow w w.heap.size vx l) (hg : Grew w w' v v' m) (hne : ∀ g, vx.ownBlock = some g → v.ownBlock ≠ some g) : InsRow w' w'.heap.size vx l := by
  refine ⟨h.1, h.2.1, ?_⟩
  rcases h.2.2 with h3 | ⟨g, off, cap, rfl, hgl, hc⟩
  · exact .inl h3
  · exact .inr ⟨g, off, cap, rfl, by have := hg.lt; omega, fun j x hj k u hk => (World.cell?_of_block (hg.old g hgl (fun e => hne g rfl e.symm))).trans (hc j x hj k u hk)⟩
theorem app_litG {ops : Array Oper} {rest : List Oper} {o : Oper} {a : Act} {Q : Exit → Act → World → Prop} (hgd : o.guard = none) (s x : Operand)
    (ho : o.op = .call { callee := .builtin .append, args := #[s, x], argTypes := #[25, 25] }) {w w0 : World} {v : Value} {m : List Ins} (l : List Ins) {n : Nat}
    (hs : a.eval s = v) (hown : OwnI w w0.heap.size v m) (hx : a.eval x = .slice (some ⟨w.heap.size, 0, none⟩) n n) (hn : l.length = n) (hwf : ∀ y ∈ l, y.wf) (hlen : m.length + n ≤ 1000000000) (hb : Below w0.heap.size w0 w)
    (h : ∀ a' k c' w', Hid (k = m.length + n) → Hid (OwnI w' w0.heap.size (.slice a' k c') (m ++ l)) → Hid (Below w0.heap.size w0 w') → Hid (Grew w w' v (.slice a' k c') n) → wpList Try.prog ops Q rest (a.put o.dst (.slice a' k c')) w') :
    wpList Try.prog ops Q (o :: rest) a (w.alloc (.cells (inscells l).toArray 52)) := by
  refine app_new el_ins hgd s x ho hs hown.own (inscells l) n hx (by rw [inscells_length, hn]) (inscells_one l) (by omega) (by unfold maxLen; omega) hb.size hb (Nat.le_refl _) ?_
  intro v' w' h1 h2 h3
  obtain ⟨a', c', rfl⟩ := own_len h1
  exact h a' _ c' w' (Lib.hid rfl) (Lib.hid (OwnI.app h1 (by rw [hn]) hown.wf hwf)) (Lib.hid h2) (Lib.hid h3)

end Go.Proofs.Ytaiomcjopgnfpaa


/- The walks of tree.Items and its closure. -/
import Derived.Test.YtlaeljkjdfffjaaMB0
namespace Go.Proofs.Ytlaeljkjdfffjaa
open Go.RowKit

/-- A block of one cell. -/
theorem one_cell {w : World} {b t : Nat} {v : Value} (h : w.heap[b]? = some (.cells #[v] t (0, 0))) : w.cell? ⟨b, 0, none⟩ = some v ∧ w.frozen? ⟨b, 0, none⟩ = false := by
  constructor
  · unfold World.cell?; rw [show w.heap[(⟨b, 0, none⟩ : Addr).block]? = _ from h]; rfl
  · unfold World.frozen?; rw [show w.heap[(⟨b, 0, none⟩ : Addr).block]? = _ from h]; rfl
theorem one_set {w : World} {b t : Nat} {v u : Value} (h : w.heap[b]? = some (.cells #[v] t (0, 0))) : (w.setCell ⟨b, 0, none⟩ u).heap[b]? = some (.cells #[u] t (0, 0)) := by
  show (w.heap.modify b _)[b]? = _
  rw [Array.getElem?_modify, if_pos rfl, h]; rfl

set_option maxHeartbeats 1000000 in
theorem itemsNext (t : Tr) (ht : t.size ≤ 2000000) (b : Nat) (v : Value) (n : Nat) (xs : List Value) (w w0 : World) (hv : w.heap[b]? = some (.cells #[v] 104 (0, 0))) (hown : w.ownsRow (b + 1) 9 1 v n xs) (hn : n ≤ 4000000)
    (B : Nat) (hb : Below B w0 w) (hB : B ≤ b) :
    Calls Try.prog 144 #[.string (TS t), .pointer (some ⟨b, 0, none⟩)] w fun e w' => e = .returned (.string (TS t.tl)) ∧
      (∃ v', w'.heap[b]? = some (.cells #[v'] 104 (0, 0)) ∧ w'.ownsRow (b + 1) 9 1 v' (n + 1) (xs ++ [.string (TS t.hd)])) ∧ Below B w0 w' := by
  have hbl : b < w.heap.size := (Array.getElem?_eq_some_iff.1 hv).1
  have hp := fun w => parts_any t ht w
  go_enter Try.func144, Try.ntmps144
  go_wp2_with fail
  refine (hp _).mono ?_
  rintro e w1 ⟨rfl, hb1⟩
  have hv1 : w1.heap[b]? = some (.cells #[v] 104 (0, 0)) := (hb1.block b hbl).trans hv
  have hown1 : w1.ownsRow (b + 1) 9 1 v n xs := by
    refine hown.kept (row := none) ⟨hb1.os, hb1.tape, hb1.output, hb1.size, fun k hk _ => hb1.block k hk⟩ ?_
    cases h : v.ownBlock with
    | none => exact .inl rfl
    | some k => exact .inr (by simp)
  have hbb : Below B w0 w1 := hb.trans (hb1.mono (by omega))
  have hbl1 : b < w1.heap.size := Nat.lt_of_lt_of_le hbl hb1.size
  clear hb1 hb hown hv hbl hp
  have hc := (one_cell hv1).1
  have hlt1 := hown1.lt
  have HL := Lib.hid hlt1; clear hlt1
  have HV := Lib.hid hv1; clear hv1
  go_wp2_with (at_builtin; refine app_new el_str rfl _ _ rfl rfl hown1 [.string (TS t.hd)] 1 rfl rfl ?c1 ?c2 ?c3 ?c4 hbb ?c5 ?_)
  case c1 => intro u hu; simp at hu; rcases hu with rfl; rfl
  case c2 => omega
  case c3 => unfold maxLen; omega
  case c4 => omega
  case c5 => omega
  intro v' w2 hown' hb' hgr
  have hv2 : w2.heap[b]? = some (.cells #[v] 104 (0, 0)) := (hgr.old b hbl1 (fun e => by have := (HL.out b e.symm).1; omega)).trans HV.out
  have hf := (one_cell hv2).2
  have hc2 := (one_cell hv2).1
  have HV2 := Lib.hid hv2
  obtain ⟨ao, cc, rfl⟩ := own_len hown'
  clear hv2 hown1 hc hgr
  go_wp2
  go_ret
  refine ⟨rfl, ⟨_, one_set HV2.out, ?_⟩, hb'.setCell hB _⟩
  exact ownsRow_setCell_below hown' (by simp) _

/-- A result that is a new slice of strings. -/
def StrsOut (B : Nat) (w0 : World) (er : Int) (l : List ByteArray) (e : Ending) (w' : World) : Prop :=
  ∃ v n, e = .returned (.tuple #[v, .int .i64 er]) ∧ w'.ownsRow B 9 1 v n (l.map Value.string) ∧ Below w0.heap.size w0 w'

set_option maxHeartbeats 1000000 in
theorem items_ok (t : Tr) (ht : t.size ≤ 2000000) (w : World) :
    Calls Try.prog 110 #[.string (TS t)] w (StrsOut w.heap.size w 0 (t.items.map TS)) := by
  have hv := fun w => valid_ok t ht w
  go_enter Try.func110, Try.ntmps110
  go_wp2_with (go_at_call 109; refine (hv _).mono ?_; rintro e w1 ⟨rfl, hb1⟩)
  clear hv
  have hv2 : (w1.alloc (.cells #[.slice none 0 0] 104)).heap[w1.heap.size]? = some (.cells #[.slice none 0 0] 104 (0, 0)) := heap_alloc_new w1 _
  have hb2 : Below w.heap.size w (w1.alloc (.cells #[.slice none 0 0] 104)) := hb1.alloc hb1.size _
  have hs2 := hb1.size
  have hx : w1.heap.size < (w1.alloc (.cells #[.slice none 0 0] 104)).heap.size := by simp
  generalize w1.alloc (.cells #[.slice none 0 0] 104) = w2 at *
  generalize w1.heap.size = b at *
  clear hb1
  have HV := Lib.hid hv2; clear hv2
  go_loopg [0] t.size (fun g s wr => ∃ (u : Tr) (done : List Tr) (v : Value) (n : Nat), s = .string (TS u) ∧ u.size ≤ t.size ∧ g = u.size ∧ n + u.size ≤ t.size ∧ Aside (t.items = done ++ u.items) ∧ Aside (wr.heap[b]? = some (.cells #[v] 104 (0, 0))) ∧ wr.ownsRow (b + 1) 9 1 v n ((done.map TS).map Value.string) ∧ Below w.heap.size w wr)
  case atStart => exact ⟨t, [], .slice none 0 0, 0, rfl, Nat.le_refl _, rfl, by omega, rfl, HV.out, World.ownsRow_nil _ _ _ _, hb2⟩
  case round =>
    obtain ⟨u, done, v, n, rfl, hu, hg, hn, hi, hv, hown, hb⟩ := hrel
    have HG := Lib.hid hg; clear hg
    clear hb2
    cases u with
    | nil =>
      have h0 := TS_nil0
      obtain ⟨ao, cc, rfl⟩ := own_len hown
      have hc := (one_cell hv.out).1
      go_wp2
      refine bodyPost_ret (v := .tuple #[.slice ao n cc, .int .i64 0]) (by simp [results, Try.results110, go_sem]) rfl ?_
      refine ⟨_, n, rfl, ?_, hb⟩
      have e : t.items = done := by rw [hi.out]; simp [Tr.items]
      rw [e]
      obtain ⟨h1, h2⟩ := hown
      refine ⟨h1, ?_⟩
      rcases h2 with h2 | ⟨g, cap, cur, h3, h4, h5⟩
      · exact .inl h2
      · exact .inr ⟨g, cap, cur, h3, by omega, h5⟩
    | pair a c =>
      have h0 := TS_pair0 a c
      have hsz : (Tr.pair a c).size = 1 + a.size + c.size := rfl
      have ha := a.size_pos
      have hp := itemsNext (.pair a c) (by omega) b v n _ wr w hv.out hown (by omega) w.heap.size hb hs2
      have hi' := hi.out
      go_wp2_with fail
      refine hp.mono ?_
      rintro e w3 ⟨rfl, ⟨v', hv', hown'⟩, hb'⟩
      have HV' : Aside (w3.heap[b]? = some (.cells #[v'] 104 (0, 0))) := hv'
      clear hv' hp hown hb hi'
      go_wp2
      go_roundg c.size
      case measure => rw [HG.out]; omega
      case rel => exact ⟨c, done ++ [a], v', n + 1, rfl, by omega, rfl, by omega, by show _ = _; rw [hi.out]; simp [Tr.items], HV', by have h9 := hown'; simp [Tr.hd] at h9 ⊢; exact h9, hb'⟩

end Go.Proofs.Ytlaeljkjdfffjaa


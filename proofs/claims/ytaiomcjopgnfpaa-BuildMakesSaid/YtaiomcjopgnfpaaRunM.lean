/- The walks of run.newMachine and (*machine).ended. -/
import Derived.Test.YtaiomcjopgnfpaaRunP
import Derived.Test.YtaiomcjopgnfpaaRefT
import Derived.Test.YtaiomcjopgnfpaaCode
namespace Go.Proofs.Ytaiomcjopgnfpaa
open Go.RowKit

theorem parse_tr (s : ByteArray) (hs : s.size ≤ 281474976710656) (w : World) :
    Calls Try.prog 113 #[.string s] w fun e w' => ∃ p, e = .returned (.tuple #[.pointer p, .bool (isTree s)]) ∧ Below w.heap.size w w' ∧ NodeP 135 w' (toTr s) (.pointer p) := by
  refine (parse_any s hs w).mono ?_
  rintro e w' ⟨p, he, hb, h1, h2⟩
  refine ⟨p, he, hb, ?_⟩
  cases h : isTree s with
  | true => exact h1 _ (TS_toTr h).symm h
  | false => rw [toTr_bad h, h2 h]; exact rfl

/-- A machine that is being made: some of the trees are read. -/
def MakeP (w : World) (g k : Nat) (l : List Ins) (pv sv : Value) : Prop :=
  w.heap[g]? = some (.cells (mcells pv sv (List.replicate 32 (.pointer none)) 0) 103 (0, 0)) ∧ ∃ xs, Nodes 135 w ((l.take k).map fun x => toTr x.tree) xs ∧ w.ownsRow (g + 1) 99 1 sv k xs
theorem MakeP.kept {w w' : World} {g k : Nat} {l : List Ins} {pv sv : Value} (h : MakeP w g k l pv sv) (hb : Below w.heap.size w w') : MakeP w' g k l pv sv := by
  obtain ⟨h0, xs, h1, h2⟩ := h
  exact ⟨(hb.block g (Array.getElem?_eq_some_iff.1 h0).1).trans h0, xs, h1.kept (Kept.below hb), own_below h2 hb⟩
theorem MakeP.cells {w : World} {g k : Nat} {l : List Ins} {pv sv : Value} (h : MakeP w g k l pv sv) : w.cell? ⟨g, 1, none⟩ = some sv ∧ w.frozen? ⟨g, 1, none⟩ = false ∧ w.cell? ⟨g, 2, none⟩ = some (.pointer none) ∧ w.frozen? ⟨g, 2, none⟩ = false := by
  obtain ⟨hc, hf⟩ := block_cells h.1
  exact ⟨by rw [hc]; rfl, hf _, by rw [hc]; rfl, hf _⟩

set_option maxHeartbeats 4000000 in
theorem newMachine_any (v : Value) (l : List Ins) (t : Tr) (x : Value) (w : World) (hl : InsRow w w.heap.size v l) (hn4 : l.length ≤ 4000) (hx : NodeP 135 w t x) :
    Calls Try.prog 114 #[v, x] w fun e w' => ∃ g sv ps, e = .returned (.pointer (some ⟨g, 0, none⟩)) ∧ MachP w' w.heap.size g l (startS t) v sv ps ∧ Below w.heap.size w w' := by
  obtain ⟨x, rfl⟩ := hx.ptr
  obtain ⟨ao, cap, rfl⟩ := hl.len
  obtain ⟨n, hn'⟩ : ∃ n, l.length = n := ⟨_, rfl⟩
  rw [hn'] at hl hn4 ⊢
  have HN := Lib.hid hn'; clear hn'
  have hb0 : Below w.heap.size w (w.alloc (.cells (mcells (.slice ao n cap) (.slice none 0 0) (List.replicate 32 (.pointer none)) 0) 103)) := (Below.refl _ _).alloc (Nat.le_refl _) _
  have hm0 : MakeP (w.alloc (.cells (mcells (.slice ao n cap) (.slice none 0 0) (List.replicate 32 (.pointer none)) 0) 103)) w.heap.size 0 l (.slice ao n cap) (.slice none 0 0) := ⟨heap_alloc_new w _, [], trivial, World.ownsRow_nil _ _ _ _⟩
  go_enter Try.func114, Try.ntmps114
  go_wp2
  go_loopg [15] n (fun g i wr => ∃ (k : Nat) (sv : Value), k ≤ n ∧ g = n - k ∧ i = .int .i64 k ∧ Aside (MakeP wr w.heap.size k l (.slice ao n cap) sv) ∧ Below w.heap.size w wr)
  case atStart => exact ⟨0, _, Nat.zero_le _, rfl, rfl, hm0, hb0⟩
  case round =>
    clear hb0 hm0
    obtain ⟨k, sv, hk, hg, rfl, hm, hbw⟩ := hrel
    have HG := Lib.hid hg; clear hg
    by_cases hlt : k < n
    · obtain ⟨y, hy⟩ : ∃ s, l[k]? = some s := ⟨_, List.getElem?_eq_getElem (by rw [HN.out]; exact hlt)⟩
      have hl2 := hl.below hbw
      obtain ⟨g, off, rfl, hg, c0, c1, c2, c3, c4⟩ := hl2.get hy
      have hz := (hl.wf hy).2.2.2.2
      have HY := Lib.hid hy; clear hy hl2
      have kp := fun w => parse_tr y.tree (by omega) w
      have hi0 : (0 : Int) ≤ (k : Int) := Int.natCast_nonneg _
      have hi1 : (k : Int) < (n : Int) := by omega
      have hb1 : Below wr.heap.size wr (wr.alloc (.cells #[.int .i64 y.op, .int .i64 y.a, .int .i64 y.b, .int .i64 y.c, .string y.tree] 52)) := (Below.refl _ _).alloc (Nat.le_refl _) _
      go_wp2_with fail
      refine (kp _).mono ?_
      rintro e w1 ⟨p, rfl, k1, hnp⟩
      have hb2 := hb1.trans (k1.mono hb1.size)
      have hm1 := hm.out.kept hb2
      have c1 := hbw.trans (hb2.mono hbw.size)
      have hcl := hm1.cells
      obtain ⟨hblk, xs, hns, hown⟩ := hm1
      obtain ⟨q1, q2, q3, q4⟩ := hcl
      have HB := Lib.hid hblk
      have HNS := Lib.hid hns
      have hGl : w.heap.size < w1.heap.size := (Array.getElem?_eq_some_iff.1 hblk).1
      have hsz1 := c1.size
      have HNP := Lib.hid hnp
      clear k1 hb1 hb2 kp hm hnp hblk hns q3 q4
      go_wp2_with (at_builtin; refine app_new el_node rfl _ _ rfl rfl hown [.pointer p] 1 rfl rfl ?c1 ?c2 ?c3 ?c4 c1 ?c5 ?_)
      case c1 => intro u hu; simp at hu; subst hu; rfl
      case c2 => omega
      case c3 => unfold maxLen; omega
      case c4 => omega
      case c5 => omega
      intro v' w2 hown2 hbw2 hg2
      obtain ⟨a2, cp2, rfl⟩ := own_len hown2
      have hne : some w.heap.size ≠ sv.ownBlock := fun e => by have := (hown.lt w.heap.size (by rw [e])).1; omega
      have hblk2 : w2.heap[w.heap.size]? = some (.cells (mcells _ sv (List.replicate 32 (.pointer none)) 0) 103 (0, 0)) := (hg2.old _ hGl hne).trans HB.out
      have hkn : Kept 135 w1 w2 := Kept.grew hown hg2 (by decide)
      have hf2 := (block_cells hblk2).2 1
      have hc2 : w2.cell? ⟨w.heap.size, 1, none⟩ = some sv := by rw [(block_cells hblk2).1]; rfl
      have hmk : Hid (MakeP (w2.setCell ⟨w.heap.size, 1, none⟩ (.slice a2 (k + 1) cp2)) w.heap.size (k + 1) l (.slice (some ⟨g, off, none⟩) n cap) (.slice a2 (k + 1) cp2)) := by
        refine ⟨set_blk hblk2 1 _, xs ++ [.pointer p], ?_, own_kept hown2 ((Kept.refl _ w2).setCell hblk2 (by decide) _)⟩
        rw [take_snoc' _ _ _ HY.out, List.map_append]
        exact ((HNS.out.kept hkn).snoc (HNP.out.kept hkn)).kept ((Kept.refl _ w2).setCell hblk2 (by decide) _)
      have c2 : Below w.heap.size w (w2.setCell ⟨w.heap.size, 1, none⟩ (.slice a2 (k + 1) cp2)) := hbw2.setCell (p := ⟨w.heap.size, 1, none⟩) (Nat.le_refl _) _
      clear hown hown2 hbw2 hg2 hblk2 hkn HNS HNP HB hne c1
      go_wp2
      go_roundg (n - (k + 1))
      case measure => rw [HG.out]; omega
      case rel => exact ⟨k + 1, _, by omega, rfl, by go_num, hmk, c2⟩
    · have hkn : k = n := by omega
      subst hkn
      obtain ⟨q1, q2, q3, q4⟩ := hm.out.cells
      have hfin : Hid (MachP (wr.setCell ⟨w.heap.size, 2, none⟩ (.pointer x)) w.heap.size w.heap.size l (startS t) (.slice ao k cap) sv (.pointer x :: List.replicate 31 (.pointer none))) := by
        obtain ⟨hblk, xs, hns, hown⟩ := hm.out
        rw [List.take_of_length_le (by rw [HN.out]; exact Nat.le_refl _)] at hns
        have hK := (Kept.refl 135 wr).setCell hblk (by decide) (.pointer x) (a := ⟨w.heap.size, 2, none⟩)
        have hK2 := (Kept.refl 99 wr).setCell hblk (by decide) (.pointer x) (a := ⟨w.heap.size, 2, none⟩)
        refine ⟨?_, ⟨(hx.kept (Kept.below (hbw.mono (Nat.le_refl _)))).kept hK, Nodes.nils 31⟩, hl.below (hbw.setCell (p := ⟨w.heap.size, 2, none⟩) (Nat.le_refl _) _), Nat.le_refl _, xs, hns.kept hK, by rw [HN.out]; exact own_kept hown hK2⟩
        exact set_blk hblk 2 _
      have c2 : Below w.heap.size w (wr.setCell ⟨w.heap.size, 2, none⟩ (.pointer x)) := hbw.setCell (p := ⟨w.heap.size, 2, none⟩) (Nat.le_refl _) _
      clear hl hx
      go_wp2
      go_ret
      exact ⟨_, _, _, rfl, hfin.out, c2⟩

end Go.Proofs.Ytaiomcjopgnfpaa

/- law07: spoil. -/
import Derived.Test.YtaiomcjopgnfpaaKnow7
namespace Go.Proofs.Ytaiomcjopgnfpaa
open Go.RowKit

set_option maxRecDepth 20000 in
set_option maxHeartbeats 4000000 in
theorem spoil_any (v : Value) (l : List Ins) (w : World) (B : Nat) (hl : OwnI w B v l) (hn9 : l.length ≤ 1000000) :
    Calls Try.prog 48 #[v] w fun e w' => e = .returned (.tuple #[]) ∧ Below B w w' := by
  obtain ⟨ao, cap, rfl⟩ := hl.slice
  have hcells := hl.own.1
  have hown := hl.own.2
  obtain ⟨n, hn'⟩ : ∃ n, l.length = n := ⟨_, rfl⟩
  rw [hn'] at hl hown hcells hn9 ⊢
  clear hn'
  rcases hown with ⟨h0, h1⟩ | ⟨g, cap', cur, hv, hBg, hg, hnc, hcm, hcs, htake⟩
  · subst h1
    clear hl hcells h0
    go_enter Try.func48, Try.ntmps48
    go_wp2
    go_loopg [2] 0 (fun gg i wr => i = .int .i64 0 ∧ w = wr)
    case atStart => exact ⟨rfl, rfl⟩
    case round =>
      obtain ⟨rfl, rfl⟩ := hrel
      go_wp2
      refine bodyPost_end (v := .tuple #[]) (by simp [results, Try.results48, go_sem]) rfl ?_
      exact ⟨rfl, Below.refl _ _⟩
  · simp only [Value.slice.injEq] at hv
    obtain ⟨rfl, -, rfl⟩ := hv
    have HG0 := Lib.hid hg
    have HBG := Lib.hid hBg
    have HCS := Lib.hid (show n * 5 ≤ cur.size by rw [hcs]; exact Nat.mul_le_mul_right _ hnc)
    clear hl hcells hg hBg hnc hcm hcs htake
    go_enter Try.func48, Try.ntmps48
    go_wp2
    go_loopg [2] n (fun gg i wr => ∃ (k : Nat) (cs : Array Value), k ≤ n ∧ gg = n - k ∧ i = .int .i64 k ∧ Hid (wr.heap[g]? = some (.cells cs 52 (0, 0)) ∧ n * 5 ≤ cs.size) ∧ Below B w wr)
    case atStart => exact ⟨0, cur, by omega, rfl, rfl, Lib.hid ⟨HG0.out, HCS.out⟩, Below.refl _ _⟩
    case round =>
      obtain ⟨k, cs, hk, hgg, rfl, hP, hb⟩ := hrel
      have HG := Lib.hid hgg
      clear hgg
      by_cases hlt : k < n
      · have hi0 : (0 : Int) ≤ (k : Int) := Int.natCast_nonneg _
        have hi1 : (k : Int) < (n : Int) := by omega
        have hsz := hP.out.2
        have cc := fun j => (block_cells hP.out.1).1 j
        have ff := fun j => (block_cells hP.out.1).2 j
        obtain ⟨x0, hx0⟩ : ∃ x, cs[k * 5]? = some x := ⟨_, Array.getElem?_eq_getElem (by omega)⟩
        obtain ⟨x1, hx1⟩ : ∃ x, cs[k * 5 + 1]? = some x := ⟨_, Array.getElem?_eq_getElem (by omega)⟩
        obtain ⟨x2, hx2⟩ : ∃ x, cs[k * 5 + 2]? = some x := ⟨_, Array.getElem?_eq_getElem (by omega)⟩
        obtain ⟨x3, hx3⟩ : ∃ x, cs[k * 5 + 3]? = some x := ⟨_, Array.getElem?_eq_getElem (by omega)⟩
        obtain ⟨x4, hx4⟩ : ∃ x, cs[k * 5 + 4]? = some x := ⟨_, Array.getElem?_eq_getElem (by omega)⟩
        have c0 := (cc (k * 5)).trans hx0
        have c1 := (cc (k * 5 + 1)).trans hx1
        have c2 := (cc (k * 5 + 2)).trans hx2
        have c3 := (cc (k * 5 + 3)).trans hx3
        have c4 := (cc (k * 5 + 4)).trans hx4
        have f0 := ff (k * 5)
        have f1 := ff (k * 5 + 1)
        have f2 := ff (k * 5 + 2)
        have f3 := ff (k * 5 + 3)
        have f4 := ff (k * 5 + 4)
        clear cc ff hx0 hx1 hx2 hx3 hx4 hsz
        go_wp2
        go_roundg (n - (k + 1))
        case measure => have := HG.out; omega
        case rel =>
         have hs := set_blk (set_blk (set_blk (set_blk (set_blk hP.out.1 (k * 5) (.int .i64 (-1))) (k * 5 + 1) (.int .i64 (-1))) (k * 5 + 2) (.int .i64 0)) (k * 5 + 3) (.int .i64 0)) (k * 5 + 4) (.string ⟨#[]⟩)
         refine ⟨k + 1, _, by omega, rfl, by go_num, Lib.hid ⟨hs, by simp only [Array.size_setIfInBounds]; exact hP.out.2⟩, ?_⟩
         exact ((((hb.setCell HBG.out _).setCell HBG.out _).setCell HBG.out _).setCell HBG.out _).setCell HBG.out _
      · have hkn : k = n := by omega
        subst hkn
        go_wp2
        refine bodyPost_end (v := .tuple #[]) (by simp [results, Try.results48, go_sem]) rfl ?_
        exact ⟨rfl, hb⟩

end Go.Proofs.Ytaiomcjopgnfpaa


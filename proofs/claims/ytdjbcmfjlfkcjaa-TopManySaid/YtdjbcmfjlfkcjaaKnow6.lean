/- law07: Small, awake. -/
import Derived.Test.YtdjbcmfjlfkcjaaKnow5
namespace Go.Proofs.Ytdjbcmfjlfkcjaa
open Go.RowKit

/-- However large: a number. -/
theorem trees_some (v : Value) (l : List Ins) (w : World) (B : Nat) (hl : InsRow w B v l) :
    Calls Try.prog 90 #[v] w fun e w' => ∃ z : Int, e = .returned (.int .i64 z) ∧ w = w' := by
  obtain ⟨ao, cap, rfl⟩ := hl.len
  have hn := hl.2.1
  obtain ⟨n, hn'⟩ : ∃ n, l.length = n := ⟨_, rfl⟩
  rw [hn'] at hl hn ⊢
  have HN := Lib.hid hn'; clear hn'
  go_enter Try.func90, Try.ntmps90
  go_wp2
  go_loopg [3, 4] n (fun g s i wr => ∃ (k : Nat) (m : Int), k ≤ n ∧ g = n - k ∧ i = .int .i64 k ∧ s = .int .i64 m ∧ w = wr)
  case atStart => exact ⟨0, 0, Nat.zero_le _, rfl, rfl, rfl, rfl⟩
  case round =>
    obtain ⟨k, m, hk, hg, rfl, rfl, rfl⟩ := hrel
    have HG := Lib.hid hg; clear hg
    by_cases hlt : k < n
    · obtain ⟨x, hx⟩ : ∃ s, l[k]? = some s := ⟨_, List.getElem?_eq_getElem (by rw [HN.out]; exact hlt)⟩
      obtain ⟨g, off, rfl, hg, c0, c1, c2, c3, c4⟩ := hl.get hx
      clear hx c0 c1 c2 c3
      go_wp2
      go_roundg (n - (k + 1))
      case measure => rw [HG.out]; omega
      case rel => exact ⟨k + 1, _, by omega, rfl, by go_num, rfl, rfl⟩
    · go_wp2
      go_ret
      exact ⟨_, rfl, rfl⟩
set_option maxHeartbeats 4000000 in
theorem small_one (most : Int) (v : Value) (l : List Ins) (w : World) (hl : ProgsRow w w.heap.size v [l]) :
    Calls Try.prog 49 #[.int .i64 most, v] w fun e w' => ∃ b, e = .returned (.bool b) ∧ Below w.heap.size w w' := by
  obtain ⟨ao, cap, rfl⟩ := hl.len
  have hn : ([l] : List (List Ins)).length = 1 := rfl
  rw [hn] at hl ⊢
  have HL := Lib.hid hl; clear hl hn
  go_enter Try.func49, Try.ntmps49
  go_wp2
  go_loopg [5, 6] 1 (fun g s i wr => ∃ (k : Nat) (m : Int), k ≤ 1 ∧ g = 1 - k ∧ i = .int .i64 k ∧ s = .int .i64 m ∧ Below w.heap.size w wr)
  case atStart => exact ⟨0, 0, by omega, rfl, rfl, rfl, Below.refl _ _⟩
  case round =>
    obtain ⟨k, m, hk, hg, rfl, rfl, hb⟩ := hrel
    have HG := Lib.hid hg; clear hg
    by_cases hlt : k < 1
    · obtain rfl : k = 0 := by omega
      have hl2 := HL.out.step hb
      obtain ⟨g, off, u, rfl, hg, c0, hu⟩ := hl2.get (k := 0) (l := l) rfl
      obtain ⟨ua, uc, rfl⟩ := hu.len
      have kt := Lib.hid (trees_some _ l _ _ hu)
      have c0 : wr.cell? ⟨g, off, none⟩ = some (.slice ua l.length uc) := by simpa using c0
      clear hl2 hu
      by_cases hbig : most < wrap64 (wrap64 (m + 1) + (l.length : Int))
      · go_wp2
        go_ret
        exact ⟨false, rfl, hb⟩
      · go_wp2_with fail
        refine kt.out.mono ?_
        rintro e w1 ⟨z, rfl, rfl⟩
        go_wp2
        go_roundg (1 - 1)
        case measure => rw [HG.out]; omega
        case rel => exact ⟨1, _, by omega, rfl, by first | rfl | simp, rfl, hb⟩
    · obtain rfl : k = 1 := by omega
      go_wp2
      go_ret
      exact ⟨_, rfl, hb⟩
theorem know0_at (v : Value) (q : List Ins) (w : World) (hq : InsRow w w.heap.size v q) (hk : knowE q = 0) : Calls Try.prog 67 #[v] w fun e w' => ∃ v', e = .returned (.tuple #[v', .int .i64 0]) ∧ InsRow w' w'.heap.size v' (knowL q) ∧ Below w.heap.size w w' := by
  refine (know_any v q w hq).mono ?_
  rintro e w' ⟨v', h1, h2, h3⟩
  rw [hk] at h1 h2
  exact ⟨v', h1, h2.1 rfl, h3⟩
theorem knowE_nil : knowE [] = 0 := by decide +kernel
theorem knowE_tail : knowE [tailI] = 0 := by decide +kernel
end Go.Proofs.Ytdjbcmfjlfkcjaa


/- Lists of programs in memory; build's check, done, leap; slices.Concat. -/
import Derived.Test.YtaiomcjopgnfpaaGrow
namespace Go.Proofs.Ytaiomcjopgnfpaa
open Go.RowKit

/-- A list of programs in memory, all below block B. -/
def ProgsRow (w : World) (B : Nat) (v : Value) (ls : List (List Ins)) : Prop :=
  ls.length ≤ 5864062014805 ∧ ((ls = [] ∧ (v = .slice none 0 0 ∨ ∃ a c, v = .slice (some a) 0 c)) ∨ ∃ g off cap, v = .slice (some ⟨g, off, none⟩) ls.length cap ∧ g < B ∧ ∀ j l, ls[j]? = some l → ∃ u, w.cell? ⟨g, off + j, none⟩ = some u ∧ InsRow w B u l)
theorem ProgsRow.below {w w' : World} {B : Nat} {v : Value} {ls : List (List Ins)} (h : ProgsRow w B v ls) (hb : Below B w w') : ProgsRow w' B v ls := by
  refine ⟨h.1, h.2.elim .inl fun ⟨g, off, cap, h1, h2, h3⟩ => .inr ⟨g, off, cap, h1, h2, fun j l hj => ?_⟩⟩
  obtain ⟨u, h4, h5⟩ := h3 j l hj
  exact ⟨u, (hb.cell (p := ⟨g, off + j, none⟩) h2).trans h4, h5.below hb⟩
theorem ProgsRow.mono {w : World} {B B' : Nat} {v : Value} {ls : List (List Ins)} (h : ProgsRow w B v ls) (hB : B ≤ B') : ProgsRow w B' v ls := by
  refine ⟨h.1, h.2.elim .inl fun ⟨g, off, cap, h1, h2, h3⟩ => .inr ⟨g, off, cap, h1, by omega, fun j l hj => ?_⟩⟩
  obtain ⟨u, h4, h5⟩ := h3 j l hj
  exact ⟨u, h4, h5.mono hB⟩
theorem ProgsRow.step {A B : World} {v : Value} {ls : List (List Ins)} (h : ProgsRow A A.heap.size v ls) (hb : Below A.heap.size A B) : ProgsRow B B.heap.size v ls := (h.below hb).mono hb.size
theorem ProgsRow.len {w : World} {B : Nat} {v : Value} {ls : List (List Ins)} (h : ProgsRow w B v ls) : ∃ a c, v = .slice a ls.length c := by
  rcases h.2 with ⟨rfl, rfl | ⟨a, c, rfl⟩⟩ | ⟨g, off, cap, rfl, _⟩
  · exact ⟨_, _, rfl⟩
  · exact ⟨_, _, rfl⟩
  · exact ⟨_, _, rfl⟩
theorem ProgsRow.get {w : World} {B : Nat} {ao : Option Addr} {n cap : Nat} {ls : List (List Ins)} (h : ProgsRow w B (.slice ao n cap) ls) {k : Nat} {l : List Ins} (hk : ls[k]? = some l) :
    ∃ g off u, ao = some ⟨g, off, none⟩ ∧ g < B ∧ w.cell? ⟨g, off + k, none⟩ = some u ∧ InsRow w B u l := by
  rcases h.2 with ⟨rfl, _⟩ | ⟨g, off, cap', hv, hg, hc⟩
  · simp at hk
  · simp only [Value.slice.injEq] at hv
    obtain ⟨rfl, -, -⟩ := hv
    obtain ⟨u, h1, h2⟩ := hc k l hk
    exact ⟨g, off, u, rfl, hg, h1, h2⟩
/-- A list of programs that was just laid. -/
theorem ProgsRow.lit {w : World} (us : List Value) (ls : List (List Ins)) (hn : us.length = ls.length) (hb : ls.length ≤ 1000) (h : ∀ (j : Nat) (u : Value) (l : List Ins), us[j]? = some u → ls[j]? = some l → InsRow w w.heap.size u l) :
    ProgsRow (w.alloc (.cells us.toArray 25)) (w.alloc (.cells us.toArray 25)).heap.size (.slice (some ⟨w.heap.size, 0, none⟩) us.length us.length) ls := by
  have hb0 : Below w.heap.size w (w.alloc (.cells us.toArray 25)) := (Below.refl _ _).alloc (Nat.le_refl _) _
  refine ⟨by omega, .inr ⟨w.heap.size, 0, us.length, by rw [hn], by simp, fun j l hj => ?_⟩⟩
  have hlt := (List.getElem?_eq_some_iff.1 hj).1
  obtain ⟨u, hu⟩ : ∃ u, us[j]? = some u := ⟨_, List.getElem?_eq_getElem (by omega)⟩
  refine ⟨u, ?_, ((h j u l hu hj).below hb0).mono hb0.size⟩
  have h1 := block_cells (heap_alloc_new w (.cells us.toArray 25))
  have h2 := h1.1 (0 + j)
  rw [h2, Nat.zero_add, List.getElem?_toArray]
  exact hu

/-- How many registers a list of programs uses; their joint length. -/
def mostR (ls : List (List Ins)) : Nat := (ls.map regN).foldr max 1
def allV (ls : List (List Ins)) : Bool := ls.all validB
theorem foldr_max1_snoc (l : List Nat) (n : Nat) : (l ++ [n]).foldr max 1 = max (l.foldr max 1) n := by
  induction l with
  | nil => simp; omega
  | cons a l ih => simp only [List.cons_append, List.foldr_cons, ih]; omega
theorem mostR_succ (ls : List (List Ins)) (k : Nat) {l : List Ins} (hl : ls[k]? = some l) : mostR (ls.take (k + 1)) = max (mostR (ls.take k)) (regN l) := by
  rw [take_snoc' _ _ _ hl]; unfold mostR; rw [List.map_append, List.map_cons, List.map_nil, foldr_max1_snoc]
theorem allV_succ (ls : List (List Ins)) (k : Nat) {l : List Ins} (hl : ls[k]? = some l) : allV (ls.take (k + 1)) = (allV (ls.take k) && validB l) := by
  rw [take_snoc' _ _ _ hl]; unfold allV; rw [List.all_append]; simp
theorem allV_get {ls : List (List Ins)} (h : allV ls = true) {k : Nat} {l : List Ins} (hl : ls[k]? = some l) : validB l = true := List.all_eq_true.1 h l (List.mem_of_getElem? hl)
theorem allV_false {ls : List (List Ins)} {k : Nat} {l : List Ins} (hl : ls[k]? = some l) (h : validB l = false) : allV ls = false := by
  rw [← Bool.not_eq_true]; intro h2; rw [allV_get h2 hl] at h; cases h
theorem allV_of_take {ls : List (List Ins)} {k : Nat} (h : allV (ls.take k) = true) (hk : ls.length ≤ k) : allV ls = true := by rwa [List.take_of_length_le hk] at h

def CheckOut (ls : List (List Ins)) : Value := if allV ls = false then .tuple #[.int .i64 0, .int .i64 1] else if 28 < mostR ls then .tuple #[.int .i64 0, .int .i64 8] else .tuple #[.int .i64 (mostR ls : Nat), .int .i64 0]

set_option maxHeartbeats 4000000 in
theorem check_any (v : Value) (ls : List (List Ins)) (w : World) (hl : ProgsRow w w.heap.size v ls) :
    Calls Try.prog 68 #[v] w fun e w' => e = .returned (CheckOut ls) ∧ Below w.heap.size w w' := by
  obtain ⟨ao, cap, rfl⟩ := hl.len
  have hn5 := hl.1
  obtain ⟨n, hn'⟩ : ∃ n, ls.length = n := ⟨_, rfl⟩
  rw [hn'] at hl hn5 ⊢
  have HN := Lib.hid hn'; clear hn'
  have HL := Lib.hid hl; clear hl
  obtain ⟨R, hR⟩ : ∃ R, CheckOut ls = R := ⟨_, rfl⟩
  rw [hR]
  have HR := Lib.hid hR; clear hR
  go_enter Try.func68, Try.ntmps68
  go_wp2
  go_loopg [4, 11] n (fun gg m i wr => ∃ k q : Nat, k ≤ n ∧ gg = n - k ∧ i = .int .i64 k ∧ m = .int .i64 q ∧ q ≤ 32 ∧ Aside (q = mostR (ls.take k)) ∧ Aside (allV (ls.take k) = true) ∧ Below w.heap.size w wr)
  case atStart => exact ⟨0, 1, by omega, rfl, rfl, rfl, by omega, rfl, rfl, Below.refl _ _⟩
  case round =>
    obtain ⟨k, q, hk, hg, rfl, rfl, hq, hs, hva, hbw⟩ := hrel
    have HG := Lib.hid hg; clear hg
    by_cases hlt : k < n
    · obtain ⟨l, hx⟩ : ∃ s, ls[k]? = some s := ⟨_, List.getElem?_eq_getElem (by rw [HN.out]; exact hlt)⟩
      have hl2 := HL.out.step hbw
      obtain ⟨g, off, u, rfl, hg, c0, hu⟩ := hl2.get hx
      have hi0 : (0 : Int) ≤ (k : Int) := Int.natCast_nonneg _
      have hi1 : (k : Int) < (n : Int) := by omega
      have HX := Lib.hid hx
      have hva := Lib.hid hva
      have hs := Lib.hid hs
      clear hx hl2
      cases hv : validB l with
      | true =>
        have kr := codeRegs_ok u l wr hu hv
        have hrn := regN_le (validB_all hv)
        obtain ⟨r, hr⟩ : ∃ r, regN l = r := ⟨_, rfl⟩
        rw [hr] at kr hrn
        have HRR := Lib.hid hr
        have HVV := Lib.hid hv
        clear hr hv hu
        go_wp2_with fail
        refine kr.mono ?_
        rintro e w1 ⟨rfl, hb1⟩
        have hb2 := hbw.trans (hb1.mono hbw.size)
        clear hb1 kr hbw
        go_wp2
        all_goals (
        go_roundg (n - (k + 1))
        case measure => rw [HG.out]; omega
        case rel => exact ⟨k + 1, max q r, by omega, rfl, by go_num, by congr 1; omega, by omega, by show _ = _; rw [mostR_succ ls k HX.out, ← hs.out, HRR.out], by show _ = _; rw [allV_succ ls k HX.out, hva.out, HVV.out]; rfl, hb2⟩)
      | false =>
        have kr := codeRegs_bad u l wr hu hv
        have hf : Hid (CheckOut ls = .tuple #[.int .i64 0, .int .i64 1]) := Lib.hid (by unfold CheckOut; rw [if_pos (allV_false HX.out hv)])
        clear hv hu
        go_wp2_with fail
        refine kr.mono ?_
        rintro e w1 ⟨rfl, hb1⟩
        have hb2 := hbw.trans (hb1.mono hbw.size)
        clear hb1 kr hbw
        go_wp2
        refine bodyPost_ret (v := .tuple #[.int .i64 0, .int .i64 1]) (by simp [results, Try.results68, go_sem]) rfl ?_
        exact ⟨by rw [← HR.out, hf.out], hb2⟩
    · have hkn : k = n := by omega
      subst hkn
      have hqm : Hid (mostR ls = q) := Lib.hid (by have h2 := hs.out; rw [List.take_of_length_le (by rw [HN.out]; omega)] at h2; exact h2.symm)
      have hav : Hid (allV ls = true) := Lib.hid (allV_of_take hva.out (by rw [HN.out]; omega))
      clear hs hva hlt hk
      by_cases hbig : 28 < q
      · have hf : Hid (CheckOut ls = .tuple #[.int .i64 0, .int .i64 8]) := Lib.hid (by unfold CheckOut; rw [if_neg (by rw [hav.out]; simp), if_pos (by rw [hqm.out]; exact hbig)])
        have hbI : (28 : Int) < (q : Int) := by omega
        go_wp2
        refine bodyPost_ret (v := .tuple #[.int .i64 0, .int .i64 8]) (by simp [results, Try.results68, go_sem]) rfl ?_
        exact ⟨by rw [← HR.out, hf.out], hbw⟩
      · have hf : Hid (CheckOut ls = .tuple #[.int .i64 (q : Nat), .int .i64 0]) := Lib.hid (by unfold CheckOut; rw [if_neg (by rw [hav.out]; simp), if_neg (by rw [hqm.out]; exact hbig), hqm.out])
        have hbI : (q : Int) ≤ (28 : Int) := by omega
        go_wp2
        refine bodyPost_ret (v := .tuple #[.int .i64 (q : Nat), .int .i64 0]) (by simp [results, Try.results68, go_sem]) rfl ?_
        exact ⟨by rw [← HR.out, hf.out], hbw⟩

/-- What done hands back. -/
def DoneOut (l : List Ins) (v : Value) : Value := if validB l = true then .tuple #[v, .int .i64 0] else .tuple #[.slice none 0 0, .int .i64 3]
theorem done_any (a : Option Addr) (n c : Nat) (l : List Ins) (w : World) (hl : InsRow w w.heap.size (.slice a n c) l) :
    Calls Try.prog 70 #[.slice a n c] w fun e w' => e = .returned (DoneOut l (.slice a n c)) ∧ Below w.heap.size w w' := by
  unfold DoneOut
  cases hv : validB l with
  | true =>
    have kv := codeValidP_at _ l w hl _ hv
    clear hv
    rw [if_pos rfl]
    go_enter Try.func70, Try.ntmps70
    go_wp2_with fail
    refine kv.mono ?_
    rintro e w1 ⟨rfl, hb1⟩
    go_wp2
    refine bodyPost_ret (v := .tuple #[.slice a n c, .int .i64 0]) (by simp [results, Try.results70, go_sem]) rfl ?_
    exact ⟨rfl, hb1⟩
  | false =>
    have kv := codeValidP_at _ l w hl _ hv
    clear hv
    rw [if_neg (by simp)]
    go_enter Try.func70, Try.ntmps70
    go_wp2_with fail
    refine kv.mono ?_
    rintro e w1 ⟨rfl, hb1⟩
    go_wp2
    refine bodyPost_ret (v := .tuple #[.slice none 0 0, .int .i64 3]) (by simp [results, Try.results70, go_sem]) rfl ?_
    exact ⟨rfl, hb1⟩

theorem leap_any (r : Nat) (hr : r ≤ 1000) (p : Int) (hp : i64 p) (w : World) :
    Calls Try.prog 80 #[.int .i64 r, .int .i64 p] w fun e w' => ∃ v', e = .returned v' ∧ InsRow w' w'.heap.size v' [setI r ⟨#[49, 48, 48]⟩, jumpI r p] ∧ Below w.heap.size w w' := by
  have hwf : ∀ x ∈ [setI r ⟨#[49, 48, 48]⟩, jumpI r p], x.wf := by
    intro x hx
    simp only [List.mem_cons, List.not_mem_nil, or_false] at hx
    rcases hx with rfl | rfl
    · exact setI_wf _ _ (by omega) (by decide)
    · exact wf_lit _ _ _ _ _ (by unfold i64; decide) (by unfold i64; omega) hp (by unfold i64; decide) (by decide)
  have hrow := (OwnI.lit w _ hwf (by simp)).row (by simp)
  go_enter Try.func80, Try.ntmps80
  go_wp2
  go_ret
  exact ⟨_, rfl, hrow, (Below.refl _ _).alloc (Nat.le_refl _) _⟩

/-- slices.Concat: one row of one's own. -/
def lenS (ls : List (List Ins)) : Nat := (ls.map List.length).sum
theorem lenS_flatten (ls : List (List Ins)) : ls.flatten.length = lenS ls := by unfold lenS; rw [List.length_flatten]
theorem lenS_succ (ls : List (List Ins)) (k : Nat) {l : List Ins} (hl : ls[k]? = some l) : lenS (ls.take (k + 1)) = lenS (ls.take k) + l.length := by rw [take_snoc' _ _ _ hl]; unfold lenS; simp
theorem lenS_take (ls : List (List Ins)) (k : Nat) : lenS (ls.take k) ≤ lenS ls := by
  conv => rhs; rw [← List.take_append_drop k ls]
  unfold lenS; rw [List.map_append, List.sum_append]; omega
theorem flat_succ (ls : List (List Ins)) (k : Nat) {l : List Ins} (hl : ls[k]? = some l) : (ls.take (k + 1)).flatten = (ls.take k).flatten ++ l := by rw [take_snoc' _ _ _ hl]; simp

set_option maxHeartbeats 4000000 in
theorem concat_any (v : Value) (ls : List (List Ins)) (w : World) (hl : ProgsRow w w.heap.size v ls) (hT : lenS ls ≤ 1000000000) :
    Calls Try.prog 81 #[v] w fun e w' => ∃ v', e = .returned v' ∧ OwnI w' w.heap.size v' ls.flatten ∧ Below w.heap.size w w' := by
  obtain ⟨ao, cap, rfl⟩ := hl.len
  have hn5 := hl.1
  obtain ⟨n, hn'⟩ : ∃ n, ls.length = n := ⟨_, rfl⟩
  rw [hn'] at hl hn5 ⊢
  have HN := Lib.hid hn'; clear hn'
  have HL := Lib.hid hl; clear hl
  obtain ⟨T, hTT⟩ : ∃ T, lenS ls = T := ⟨_, rfl⟩
  rw [hTT] at hT
  have HT := Lib.hid hTT; clear hTT
  go_enter Try.func81, Try.ntmps81
  go_wp2
  go_loopg [3, 11] n (fun gg m i wr => ∃ k q : Nat, k ≤ n ∧ gg = n - k ∧ i = .int .i64 k ∧ m = .int .i64 q ∧ q ≤ T ∧ Aside (q = lenS (ls.take k)) ∧ wr = w)
  case atStart => exact ⟨0, 0, by omega, rfl, rfl, rfl, by omega, rfl, rfl⟩
  case round =>
    obtain ⟨k, q, hk, hg, rfl, rfl, hq, hs, rfl⟩ := hrel
    rename World => wA
    have HG := Lib.hid hg; clear hg
    by_cases hlt : k < n
    · obtain ⟨l, hx⟩ : ∃ s, ls[k]? = some s := ⟨_, List.getElem?_eq_getElem (by rw [HN.out]; exact hlt)⟩
      obtain ⟨g, off, u, rfl, hg, c0, hu⟩ := HL.out.get hx
      obtain ⟨ua, uc, rfl⟩ := hu.len
      have hi0 : (0 : Int) ≤ (k : Int) := Int.natCast_nonneg _
      have hi1 : (k : Int) < (n : Int) := by omega
      have hsn := lenS_succ ls k hx
      have hle := lenS_take ls (k + 1)
      have hqI : (q : Int) + (l.length : Int) ≤ 1000000000 := by have h1 := hs.out; have h2 := HT.out; omega
      have hq' : Hid (q + l.length ≤ T ∧ q + l.length = lenS (ls.take (k + 1))) := Lib.hid (by have h1 := hs.out; have h2 := HT.out; omega)
      have hq0 : (0 : Int) ≤ (q : Int) := Int.natCast_nonneg _
      have hl0 : (0 : Int) ≤ (l.length : Int) := Int.natCast_nonneg _
      clear hx hu hsn hle
      go_wp2
      go_roundg (n - (k + 1))
      case measure => rw [HG.out]; omega
      case rel => exact ⟨k + 1, q + l.length, by omega, rfl, by go_num, by go_num, hq'.out.1, hq'.out.2, rfl⟩
    · have hkn : k = n := by omega
      subst hkn
      have hqT : q = T := by have h1 := hs.out; have h2 := HT.out; rw [List.take_of_length_le (by rw [HN.out]; omega)] at h1; omega
      subst hqT
      clear hs hlt hk HG
      go_wp2_with fail
      refine (grow_any q hT _).mono ?_
      rintro e w1 ⟨v1, rfl, ho, hb1⟩
      have HO := Lib.hid ho
      have HB1 := Lib.hid hb1
      clear ho hb1
      go_wp2
      go_loopg [6, 27] k (fun gg o i wr2 => ∃ j : Nat, j ≤ k ∧ gg = k - j ∧ i = .int .i64 j ∧ Hid (OwnI wr2 wA.heap.size o (ls.take j).flatten ∧ Below wA.heap.size wA wr2))
      case atStart => exact ⟨0, by omega, rfl, rfl, HO.out, HB1.out⟩
      case round =>
        obtain ⟨j, hj, hg, rfl, hP⟩ := hrel
        have HG := Lib.hid hg; clear hg
        by_cases hlt : j < k
        · obtain ⟨l, hx⟩ : ∃ s, ls[j]? = some s := ⟨_, List.getElem?_eq_getElem (by rw [HN.out]; exact hlt)⟩
          have hl2 := HL.out.below hP.out.2
          obtain ⟨g, off, u, rfl, hg, c0, hu⟩ := hl2.get hx
          have hi0 : (0 : Int) ≤ (j : Int) := Int.natCast_nonneg _
          have hi1 : (j : Int) < (k : Int) := by omega
          have hsn := lenS_succ ls j hx
          have hle := lenS_take ls (j + 1)
          have hfl : (ls.take j).flatten.length = lenS (ls.take j) := lenS_flatten _
          have hown := hP.out.1.own
          have hb := hP.out.2
          have hsz := hb.size
          have hs2 := hu.src
          have HUW := Lib.hid hu.1
          have HX := Lib.hid hx
          obtain ⟨A, hA⟩ : ∃ A, (ls.take j).flatten.length = A := ⟨_, rfl⟩
          rw [hA] at hown hfl
          have HA := Lib.hid hA
          have hAl : A + l.length ≤ 1000000000 := by have h2 := HT.out; omega
          clear hx hu hsn hle hfl hA hl2
          go_wp2_with (at_builtin; refine app_src el_ins (vx := u) rfl _ _ rfl rfl hown rfl hs2 (inscells_one l) ?c2 ?c3 hsz hb (Nat.le_refl _) ?_)
          case c2 => omega
          case c3 => unfold maxLen; omega
          intro v' w' hown' hb' hgr
          have hnew : Hid (OwnI w' wA.heap.size v' (ls.take (j + 1)).flatten ∧ Below wA.heap.size wA w') := Lib.hid ⟨by rw [flat_succ ls j HX.out]; exact OwnI.app hown' (by rw [HA.out]) hP.out.1.wf HUW.out, hb'⟩
          clear hown hown' hb hb' hgr hs2 hP c0
          go_wp2
          go_roundg (k - (j + 1))
          case measure => rw [HG.out]; omega
          case rel => exact ⟨j + 1, by omega, rfl, by go_num, hnew⟩
        · have hjk : j = k := by omega
          subst hjk
          have hfin : Hid (OwnI wr wA.heap.size _ ls.flatten) := Lib.hid (by have := hP.out.1; rw [List.take_of_length_le (by rw [HN.out]; omega)] at this; exact this)
          go_wp2
          go_ret
          exact ⟨_, rfl, hfin.out, hP.out.2⟩

end Go.Proofs.Ytaiomcjopgnfpaa


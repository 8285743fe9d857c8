/- How many registers a program uses: code.Regs, the reference's Regs. -/
import Derived.Test.YtaiomcjopgnfpaaAt
namespace Go.Proofs.Ytaiomcjopgnfpaa
open Go.RowKit

/-- The greatest register of an instruction, of a program. -/
def rX (x : Ins) : Nat := if x.op = 5 then x.a.toNat else max x.a.toNat (max x.b.toNat x.c.toNat)
def mostN (l : List Ins) : Nat := (l.map rX).foldr max 0
def regN (l : List Ins) : Nat := mostN l + 1
theorem foldr_max_snoc (l : List Nat) (n : Nat) : (l ++ [n]).foldr max 0 = max (l.foldr max 0) n := by
  induction l with
  | nil => simp
  | cons a l ih => simp only [List.cons_append, List.foldr_cons, ih]; omega
theorem mostN_snoc (l : List Ins) (x : Ins) : mostN (l ++ [x]) = max (mostN l) (rX x) := by unfold mostN; rw [List.map_append, List.map_cons, List.map_nil, foldr_max_snoc]
theorem mostN_append (l m : List Ins) : mostN (l ++ m) = max (mostN l) (mostN m) := by
  unfold mostN
  rw [List.map_append]
  induction l with
  | nil => simp
  | cons a l ih => simp only [List.map_cons, List.cons_append, List.foldr_cons, ih]; omega
theorem mostN_succ (l : List Ins) (k : Nat) {x : Ins} (hx : l[k]? = some x) : mostN (l.take (k + 1)) = max (mostN (l.take k)) (rX x) := by rw [take_snoc' _ _ _ hx, mostN_snoc]
theorem mostN_all (l : List Ins) : mostN (l.take l.length) = mostN l := by rw [List.take_of_length_le (Nat.le_refl _)]
/-- The numbers of a valid instruction. -/
theorem right_nats {x : Ins} {i n : Int} (h : rightB x i n = true) : ∃ a : Nat, x.a = a ∧ a < 32 ∧ (x.op ≠ 5 → ∃ b c : Nat, x.b = b ∧ x.c = c ∧ b < 32 ∧ c < 32) := by
  unfold rightB at h
  simp only [Bool.and_eq_true, Bool.or_eq_true, beq_iff_eq] at h
  obtain ⟨⟨⟨h1, h2⟩, h3⟩, h4⟩ := h
  obtain ⟨a, ha, ha2⟩ := regB_nat h1
  refine ⟨a, ha, ha2, fun ho => ?_⟩
  by_cases o0 : x.op = 0
  · rw [if_pos o0] at h4
    simp only [Bool.and_eq_true, beq_iff_eq] at h4
    refine ⟨0, 0, h4.1, ?_, by omega, by omega⟩
    rcases h3 with h3 | h3
    · omega
    · exact h3
  rw [if_neg o0] at h4
  by_cases o1 : x.op = 1 ∨ x.op = 3 ∨ x.op = 4
  · rw [if_pos o1] at h4
    obtain ⟨b, hb, hb2⟩ := regB_nat h4
    refine ⟨b, 0, hb, ?_, hb2, by omega⟩
    rcases h3 with h3 | h3
    · omega
    · exact h3
  rw [if_neg o1] at h4
  by_cases o2 : x.op = 2
  · rw [if_pos o2] at h4
    simp only [Bool.and_eq_true] at h4
    obtain ⟨b, hb, hb2⟩ := regB_nat h4.1
    obtain ⟨c, hc, hc2⟩ := regB_nat h4.2
    exact ⟨b, c, hb, hc, hb2, hc2⟩
  rw [if_neg o2, if_neg ho] at h4
  cases h4
theorem rX_lt {x : Ins} {i n : Int} (h : rightB x i n = true) : rX x < 32 := by
  obtain ⟨a, ha, ha2, h2⟩ := right_nats h
  unfold rX
  split
  · omega
  · obtain ⟨b, c, hb, hc, hb2, hc2⟩ := h2 (by assumption)
    omega
theorem mostN_lt {l : List Ins} (hv : rightAll l = true) (k : Nat) (hk : k ≤ l.length) : mostN (l.take k) < 32 := by
  induction k with
  | zero => simp [mostN]
  | succ k ih =>
    obtain ⟨x, hx⟩ : ∃ x, l[k]? = some x := ⟨_, List.getElem?_eq_getElem (by omega)⟩
    rw [mostN_succ l k hx]
    have := ih (by omega)
    have := rX_lt (rightAll_get hv hx)
    omega
theorem regN_le {l : List Ins} (hv : rightAll l = true) : 1 ≤ regN l ∧ regN l ≤ 32 := by
  have := mostN_lt hv l.length (Nat.le_refl _)
  rw [mostN_all] at this
  unfold regN; omega

set_option maxHeartbeats 4000000 in
theorem codeRegs_ok (v : Value) (l : List Ins) (w : World) (hl : InsRow w w.heap.size v l) (hv : validB l = true) :
    Calls Try.prog 105 #[v] w fun e w' => e = .returned (.tuple #[.int .i64 (regN l : Nat), .int .i64 0]) ∧ Below w.heap.size w w' := by
  have kv := codeValidP_at v l w hl _ hv
  have hn4 := validB_len hv
  have HV := Lib.hid (validB_all hv)
  obtain ⟨ao, cap, rfl⟩ := hl.len
  obtain ⟨n, hn'⟩ : ∃ n, l.length = n := ⟨_, rfl⟩
  rw [hn'] at hl hn4 kv ⊢
  have HN := Lib.hid hn'; clear hn' hv
  obtain ⟨R, hR⟩ : ∃ R, regN l = R := ⟨_, rfl⟩
  rw [hR]
  have HR := Lib.hid hR; clear hR
  have hlw := Lib.hid hl
  go_enter Try.func105, Try.ntmps105
  go_wp2_with fail
  refine kv.mono ?_
  rintro e w1 ⟨rfl, hb1⟩
  have hl1 := Lib.hid ((hl.below hb1).mono hb1.size)
  have HB1 := Lib.hid hb1
  clear kv hl hb1
  go_wp2
  go_loopg [4, 12] n (fun gg m i wr => ∃ k q : Nat, k ≤ n ∧ gg = n - k ∧ i = .int .i64 k ∧ m = .int .i64 q ∧ q < 32 ∧ Aside (q = mostN (l.take k)) ∧ Below w1.heap.size w1 wr)
  case atStart => exact ⟨0, 0, by omega, rfl, rfl, rfl, by omega, rfl, Below.refl _ _⟩
  case round =>
    obtain ⟨k, q, hk, hg, rfl, rfl, hq, hs, hbw⟩ := hrel
    have HG := Lib.hid hg; clear hg
    by_cases hlt : k < n
    · obtain ⟨x, hx⟩ : ∃ s, l[k]? = some s := ⟨_, List.getElem?_eq_getElem (by rw [HN.out]; exact hlt)⟩
      have hl2 := hl1.out.below hbw
      obtain ⟨g, off, rfl, hg, c0, c1, c2, c3, c4⟩ := hl2.get hx
      have hr := rightAll_get HV.out hx
      obtain ⟨a, ha, ha2, hbc⟩ := right_nats hr
      have hsn : Hid (mostN (l.take (k + 1)) = max q (rX x)) := by show _ = _; rw [mostN_succ l k hx, hs.out]
      have hi0 : (0 : Int) ≤ (k : Int) := Int.natCast_nonneg _
      have hi1 : (k : Int) < (n : Int) := by omega
      have hb2 := hbw.alloc hbw.size (.cells #[.int .i64 x.op, .int .i64 x.a, .int .i64 x.b, .int .i64 x.c, .string x.tree] 52)
      by_cases ho : x.op = 5
      · have hop : (x.op == 5) = true := by rw [ho]; rfl
        have hrx : Hid (rX x = a) := by show _ = _; unfold rX; rw [if_pos ho, ha]; simp
        clear ho hr hx hl2 hbc
        rw [ha] at c1 hb2
        clear ha
        go_wp2
        go_roundg (n - (k + 1))
        case measure => rw [HG.out]; omega
        case rel => exact ⟨k + 1, max q a, by omega, rfl, by go_num, by congr 1; omega, by omega, by show _ = _; rw [hsn.out, hrx.out], hb2⟩
      · have hop : (x.op == 5) = false := by rw [beq_eq_false_iff_ne]; exact ho
        obtain ⟨b, c, hb, hc, hb32, hc32⟩ := hbc ho
        have hrx : Hid (rX x = max a (max b c)) := by show _ = _; unfold rX; rw [if_neg ho, ha, hb, hc]; simp
        clear ho hr hx hl2 hbc
        rw [ha, hb, hc] at hb2
        rw [ha] at c1
        rw [hb] at c2
        rw [hc] at c3
        clear ha hb hc
        go_wp2
        all_goals (
        go_roundg (n - (k + 1))
        case measure => rw [HG.out]; omega
        case rel => exact ⟨k + 1, max q (max a (max b c)), by omega, rfl, by go_num, by congr 1; omega, by omega, by show _ = _; rw [hsn.out, hrx.out], hb2⟩)
    · have hkn : k = n := by omega
      subst hkn
      have hR1 : Hid ((q : Int) + 1 = (R : Nat)) := Lib.hid (by have h1 := HR.out; have h2 := hs.out; unfold regN at h1; rw [← HN.out, mostN_all] at h2; omega)
      have HBW := Lib.hid (HB1.out.trans (hbw.mono HB1.out.size))
      clear hlt hk hs HG
      go_wp2
      refine bodyPost_ret (v := .tuple #[.int .i64 ((q : Int) + 1), .int .i64 0]) (by simp [results, Try.results105, go_sem]) rfl ?_
      exact ⟨by rw [hR1.out], HBW.out⟩

theorem codeRegs_bad (v : Value) (l : List Ins) (w : World) (hl : InsRow w w.heap.size v l) (hv : validB l = false) :
    Calls Try.prog 105 #[v] w fun e w' => e = .returned (.tuple #[.int .i64 0, .int .i64 1]) ∧ Below w.heap.size w w' := by
  have kv := codeValidP_at v l w hl _ hv
  go_enter Try.func105, Try.ntmps105
  go_wp2_with fail
  refine kv.mono ?_
  rintro e w1 ⟨rfl, hb1⟩
  go_wp2
  refine bodyPost_ret (v := .tuple #[.int .i64 0, .int .i64 1]) (by simp [results, Try.results105, go_sem]) rfl ?_
  exact ⟨rfl, hb1⟩

set_option maxHeartbeats 4000000 in
theorem refRegs_ok (v : Value) (l : List Ins) (w : World) (hl : InsRow w w.heap.size v l) (hv : validB l = true) :
    Calls Try.prog 34 #[v] w fun e w' => e = .returned (.int .i64 (regN l : Nat)) ∧ Below w.heap.size w w' := by
  have hn4 := validB_len hv
  have HV := Lib.hid (validB_all hv)
  obtain ⟨ao, cap, rfl⟩ := hl.len
  obtain ⟨n, hn'⟩ : ∃ n, l.length = n := ⟨_, rfl⟩
  rw [hn'] at hl hn4 ⊢
  have HN := Lib.hid hn'; clear hn' hv
  obtain ⟨R, hR⟩ : ∃ R, regN l = R := ⟨_, rfl⟩
  rw [hR]
  have HR := Lib.hid hR; clear hR
  have hl1 := Lib.hid hl
  clear hl
  go_enter Try.func34, Try.ntmps34
  go_wp2
  go_loopg [3, 4] n (fun gg m i wr => ∃ k q : Nat, k ≤ n ∧ gg = n - k ∧ i = .int .i64 k ∧ m = .int .i64 ((q : Int) + 1) ∧ q < 32 ∧ Aside (q = mostN (l.take k)) ∧ Below w.heap.size w wr)
  case atStart => exact ⟨0, 0, by omega, rfl, rfl, rfl, by omega, rfl, Below.refl _ _⟩
  case round =>
    obtain ⟨k, q, hk, hg, rfl, rfl, hq, hs, hbw⟩ := hrel
    have HG := Lib.hid hg; clear hg
    by_cases hlt : k < n
    · obtain ⟨x, hx⟩ : ∃ s, l[k]? = some s := ⟨_, List.getElem?_eq_getElem (by rw [HN.out]; exact hlt)⟩
      have hl2 := hl1.out.below hbw
      obtain ⟨g, off, rfl, hg, c0, c1, c2, c3, c4⟩ := hl2.get hx
      have hr := rightAll_get HV.out hx
      obtain ⟨a, ha, ha2, hbc⟩ := right_nats hr
      have hsn : Hid (mostN (l.take (k + 1)) = max q (rX x)) := by show _ = _; rw [mostN_succ l k hx, hs.out]
      have hi0 : (0 : Int) ≤ (k : Int) := Int.natCast_nonneg _
      have hi1 : (k : Int) < (n : Int) := by omega
      have s0 : IntKind.i64.wrap ((a : Int) + 1) = (a : Int) + 1 := IntWalk.i64_in _ (by omega)
      by_cases ho : x.op = 5
      · have hop : (x.op == 5) = true := by rw [ho]; rfl
        have hrx : Hid (rX x = a) := by show _ = _; unfold rX; rw [if_pos ho, ha]; simp
        clear ho hr hx hl2 hbc
        rw [ha] at c1
        clear ha
        go_wp2
        all_goals (
        go_roundg (n - (k + 1))
        case measure => rw [HG.out]; omega
        case rel => exact ⟨k + 1, max q a, by omega, rfl, by go_num, by congr 1; omega, by omega, by show _ = _; rw [hsn.out, hrx.out], hbw⟩)
      · have hop : (x.op == 5) = false := by rw [beq_eq_false_iff_ne]; exact ho
        obtain ⟨b, c, hb, hc, hb32, hc32⟩ := hbc ho
        have hrx : Hid (rX x = max a (max b c)) := by show _ = _; unfold rX; rw [if_neg ho, ha, hb, hc]; simp
        have s1 : IntKind.i64.wrap ((b : Int) + 1) = (b : Int) + 1 := IntWalk.i64_in _ (by omega)
        have s2 : IntKind.i64.wrap ((c : Int) + 1) = (c : Int) + 1 := IntWalk.i64_in _ (by omega)
        clear ho hr hx hl2 hbc
        rw [ha] at c1
        rw [hb] at c2
        rw [hc] at c3
        clear ha hb hc
        go_wp2
        go_quiet (fail)
        go_wp2
        all_goals (
        go_roundg (n - (k + 1))
        case measure => rw [HG.out]; omega
        case rel => exact ⟨k + 1, max q (max a (max b c)), by omega, rfl, by go_num, by congr 1; omega, by omega, by show _ = _; rw [hsn.out, hrx.out], below_drewN hbw _⟩)
    · have hkn : k = n := by omega
      subst hkn
      have hR1 : Hid ((q : Int) + 1 = (R : Nat)) := Lib.hid (by have h1 := HR.out; have h2 := hs.out; unfold regN at h1; rw [← HN.out, mostN_all] at h2; omega)
      have HBW := Lib.hid hbw
      clear hlt hk hs HG hbw
      go_wp2
      go_ret
      exact ⟨by rw [hR1.out]; rfl, HBW.out⟩

end Go.Proofs.Ytaiomcjopgnfpaa


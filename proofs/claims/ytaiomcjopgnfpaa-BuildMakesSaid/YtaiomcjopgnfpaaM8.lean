/- The walks of the laws of narcissuslaw03: RunMore. The walks of the laws of narcissuslaw03: RunAfters. Contracts at a world, for walks that go from call to call. How many registers a program uses: code.Regs, the reference's Regs. Programs out of programs: the makers of single instructions, the cleaning. Programs out of programs: a program behind its cleaning. slices.Grow at api.Program, from the shelf. Lists of programs in memory; build's check, done, leap; slices.Concat. append, said of programs. Programs out of programs: the reference's Pair, If, While. Programs out of programs: build's Pair, If, While. append to a row while later rows live. Programs out of programs: build.While. Programs out of programs: Const, Then. Programs out of programs: build.Then. Plain: a program that stands within another one; which programs are valid. The reference's Fits of layer 4. law04's tail. law04's copied and alike: copies of a list of programs. -/
import Derived.Test.YtaiomcjopgnfpaaLaw03b
import Derived.Test.YtaiomcjopgnfpaaLaw03P
import Derived.Shelf.Spec.SlicesGrow
import Derived.Test.YtaiomcjopgnfpaaRunG
namespace Go.Proofs.Ytaiomcjopgnfpaa
open Go.RowKit

theorem goF_more_done {l : List Ins} : ∀ {f n : Nat} {s s' : St} {k : Nat}, goF l f n s = .done s' k → ∀ m, goF l (f + m) n s = .done s' k := by
  intro f
  induction f with
  | zero =>
    intro n s s' k h m
    by_cases hp : s.pos = l.length
    · rw [goF_done hp] at h ⊢; exact h
    · rw [goF_zero hp] at h; cases h
  | succ f ih =>
    intro n s s' k h m
    by_cases hp : s.pos = l.length
    · rw [goF_done hp] at h ⊢; exact h
    · rw [show f + 1 + m = (f + m) + 1 by omega]
      cases hs : stepP l s with
      | none => rw [goF_big hp hs] at h; cases h
      | some s1 => rw [goF_step hp hs] at h ⊢; exact ih h m
theorem goF_more_big {l : List Ins} : ∀ {f n : Nat} {s : St}, goF l f n s = .big → ∀ m, goF l (f + m) n s = .big := by
  intro f
  induction f with
  | zero =>
    intro n s h m
    by_cases hp : s.pos = l.length
    · rw [goF_done hp] at h; cases h
    · rw [goF_zero hp] at h; cases h
  | succ f ih =>
    intro n s h m
    by_cases hp : s.pos = l.length
    · rw [goF_done hp] at h; cases h
    · rw [show f + 1 + m = (f + m) + 1 by omega]
      cases hs : stepP l s with
      | none => rw [goF_big hp hs]
      | some s1 => rw [goF_step hp hs] at h ⊢; exact ih h m
theorem goF_count {l : List Ins} : ∀ {f n : Nat} {s s' : St} {k : Nat}, goF l f n s = .done s' k → n ≤ k ∧ k ≤ n + f ∧ goF l (k - n) n s = .done s' k ∧ ∀ j, j < k - n → ∃ s2 m, goF l j n s = .fuel s2 m := by
  intro f
  induction f with
  | zero =>
    intro n s s' k h
    by_cases hp : s.pos = l.length
    · rw [goF_done hp] at h; cases h; exact ⟨Nat.le_refl _, by omega, goF_done hp, fun j hj => by omega⟩
    · rw [goF_zero hp] at h; cases h
  | succ f ih =>
    intro n s s' k h
    by_cases hp : s.pos = l.length
    · rw [goF_done hp] at h; cases h; exact ⟨Nat.le_refl _, by omega, goF_done hp, fun j hj => by omega⟩
    · cases hs : stepP l s with
      | none => rw [goF_big hp hs] at h; cases h
      | some s1 =>
        rw [goF_step hp hs] at h
        obtain ⟨h1, h2, h3, h4⟩ := ih h
        refine ⟨by omega, by omega, ?_, fun j hj => ?_⟩
        · rw [show k - n = (k - (n + 1)) + 1 by omega, goF_step hp hs]; exact h3
        · cases j with
          | zero => exact ⟨_, _, goF_zero hp⟩
          | succ j => rw [goF_step hp hs]; exact h4 j (by omega)
theorem twin_ct {w : World} {v : Value} {l : List Ins} (hl : InsRow w w.heap.size v l) : ∀ w', Below w.heap.size w w' → Calls Try.prog 33 #[v] w' fun e w'' => ∃ v', e = .returned v' ∧ Hid (InsRow w'' w''.heap.size v' l) ∧ Below w.heap.size w w'' := fun w' hb =>
  (twin_any v l w' ((hl.below hb).mono hb.size)).mono fun e w'' ⟨v', h1, h2, h3⟩ => ⟨v', h1, h2, hb.trans (h3.mono hb.size)⟩
/-- Run at any place. -/
theorem run_at {w : World} {l : List Ins} (hv : validB l = true) {t : Tr} (ht : t.size ≤ 2000000) {S : ByteArray} (hS : TS t = S) : ∀ (K : Nat) (Ki : Int), Ki = K → K ≤ 10000000 → ∀ y k er, (goF l K 0 (startS t)).run = (y, k, er) → ∀ w' v', InsRow w' w'.heap.size v' l → Below w.heap.size w w' →
    Calls Try.prog 32 #[v', .string S, .int .i64 Ki] w' fun e w'' => e = .returned (.tuple #[.string y, .int .i64 k, .int .i64 er]) ∧ Below w.heap.size w w'' := by
  rintro K _ rfl hK y k er hr w' v' hl hb
  rw [← hS]
  exact (run_ct hl hv t ht K hK y k er hr w' (Below.refl _ _)).mono fun e w'' h => ⟨h.1, hb.trans (h.2.mono hb.size)⟩

end Go.Proofs.Ytaiomcjopgnfpaa

namespace Go.Proofs.Ytaiomcjopgnfpaa
open Go.RowKit

theorem raft_ct {w w' : World} {gm : Nat} {l : List Ins} {pv tv : Value} {t : Tr} {q : Option Addr} {K : Nat} (hK : K ≤ 100000000) (hm : RMachP w' w'.heap.size gm l pv tv) (hx : NodeP 69 w' t (.pointer q)) (ht : t.size ≤ 2000000) (hv : validB l = true) (R : Res) (hr : goF l K 0 (startS t) = R) (_ : Below w.heap.size w w') :
    Calls Try.prog 98 #[.pointer (some ⟨gm, 0, none⟩), .pointer q, .int .i64 K] w' (RAft w' R) := by
  rw [← hr]; exact rafter_any w' gm l pv tv t _ K hK hm hx ht (validB_all hv) (validB_len hv)

theorem sameB_self (l : List ByteArray) : sameB l l = true := by unfold sameB; exact decide_eq_true rfl

end Go.Proofs.Ytaiomcjopgnfpaa

namespace Go.Proofs.Ytaiomcjopgnfpaa
open Go.RowKit

theorem blk_lift {A B : World} {b : Nat} {o : Obj} (hb : Below A.heap.size A B) (h : A.heap[b]? = some o) : B.heap[b]? = some o := below_blk hb h (Array.getElem?_eq_some_iff.1 h).1
theorem same_at {w : World} {v v' : Value} {l l' : List Ins} (b : Bool) (h1 : InsRow w w.heap.size v l) (h2 : InsRow w w.heap.size v' l') (hb : sameP l l' = b) : Calls Try.prog 35 #[v, v'] w fun e w' => e = .returned (.bool b) ∧ Below w.heap.size w w' := same_ct h1 h2 b hb w (Below.refl _ _)
theorem same_self {w : World} {v v' : Value} {l : List Ins} (h1 : InsRow w w.heap.size v l) (h2 : InsRow w w.heap.size v' l) : Calls Try.prog 35 #[v, v'] w fun e w' => e = .returned (.bool true) ∧ Below w.heap.size w w' := same_at true h1 h2 (sameP_self l)
theorem cvalid_at {w : World} {v : Value} {l : List Ins} (b : Bool) (hb : validB l = b) (h1 : InsRow w w.heap.size v l) : Calls Try.prog 22 #[v] w fun e w' => e = .returned (.bool b) ∧ Below w.heap.size w w' := cvalid_ct h1 b hb w (Below.refl _ _)
theorem tvalid_at (s : ByteArray) (hs : s.size ≤ 140737488355328) (b : Bool) (hb : isTree s = b) (w : World) : Calls Try.prog 27 #[.string s] w fun e w' => e = .returned (.bool b) ∧ Below w.heap.size w w' := tvalid_ct s hs b hb w (Below.refl _ _)
/-- Run, where it may run. -/
theorem runOk_at {w : World} {v : Value} {l : List Ins} {t : Tr} {S : ByteArray} (K : Nat) (Ki : Int) (y : ByteArray) (k : Nat) (er : Int) (hr : (goF l K 0 (startS t)).run = (y, k, er)) (hv : validB l = true) (ht : t.size ≤ 2000000) (hS : TS t = S) (hKi : Ki = K) (hK : K ≤ 10000000) (hl : InsRow w w.heap.size v l) :
    Calls Try.prog 32 #[v, .string S, .int .i64 Ki] w fun e w' => e = .returned (.tuple #[.string y, .int .i64 k, .int .i64 er]) ∧ Below w.heap.size w w' := run_at hv ht hS K Ki hKi hK y k er hr w v hl (Below.refl _ _)

end Go.Proofs.Ytaiomcjopgnfpaa

namespace Go.Proofs.Ytaiomcjopgnfpaa
open Go.RowKit

/-- The greatest register of an instruction, of a program. -/
def rX (x : Ins) : Nat := if x.op = 5 then x.a.toNat else max x.a.toNat (max x.b.toNat x.c.toNat)
def mostN (l : List Ins) : Nat := (l.map rX).foldr max 0
def regN (l : List Ins) : Nat := mostN l + 1
theorem foldr_max_snoc (l : List Nat) (n : Nat) : (l ++ [n]).foldr max 0 = max (l.foldr max 0) n := by
  induction l with
  | nil => simp
  | cons a l ih => simp only [List.cons_append, List.foldr_cons, ih]; omega
theorem mostN_snoc (l : List Ins) (x : Ins) : mostN (l ++ [x]) = max (mostN l) (rX x) := by unfold mostN; rw [List.map_append, List.map_cons, List.map_nil, foldr_max_snoc]
theorem mostN_append (l m : List Ins) : mostN (l ++ m) = max (mostN l) (mostN m) := by
  unfold mostN
  rw [List.map_append]
  induction l with
  | nil => simp
  | cons a l ih => simp only [List.map_cons, List.cons_append, List.foldr_cons, ih]; omega
theorem mostN_succ (l : List Ins) (k : Nat) {x : Ins} (hx : l[k]? = some x) : mostN (l.take (k + 1)) = max (mostN (l.take k)) (rX x) := by rw [take_snoc' _ _ _ hx, mostN_snoc]
theorem mostN_all (l : List Ins) : mostN (l.take l.length) = mostN l := by rw [List.take_of_length_le (Nat.le_refl _)]
/-- The numbers of a valid instruction. -/
theorem right_nats {x : Ins} {i n : Int} (h : rightB x i n = true) : ∃ a : Nat, x.a = a ∧ a < 32 ∧ (x.op ≠ 5 → ∃ b c : Nat, x.b = b ∧ x.c = c ∧ b < 32 ∧ c < 32) := by
  unfold rightB at h
  simp only [Bool.and_eq_true, Bool.or_eq_true, beq_iff_eq] at h
  obtain ⟨⟨⟨h1, h2⟩, h3⟩, h4⟩ := h
  obtain ⟨a, ha, ha2⟩ := regB_nat h1
  refine ⟨a, ha, ha2, fun ho => ?_⟩
  by_cases o0 : x.op = 0
  · rw [if_pos o0] at h4
    simp only [Bool.and_eq_true, beq_iff_eq] at h4
    refine ⟨0, 0, h4.1, ?_, by omega, by omega⟩
    rcases h3 with h3 | h3
    · omega
    · exact h3
  rw [if_neg o0] at h4
  by_cases o1 : x.op = 1 ∨ x.op = 3 ∨ x.op = 4
  · rw [if_pos o1] at h4
    obtain ⟨b, hb, hb2⟩ := regB_nat h4
    refine ⟨b, 0, hb, ?_, hb2, by omega⟩
    rcases h3 with h3 | h3
    · omega
    · exact h3
  rw [if_neg o1] at h4
  by_cases o2 : x.op = 2
  · rw [if_pos o2] at h4
    simp only [Bool.and_eq_true] at h4
    obtain ⟨b, hb, hb2⟩ := regB_nat h4.1
    obtain ⟨c, hc, hc2⟩ := regB_nat h4.2
    exact ⟨b, c, hb, hc, hb2, hc2⟩
  rw [if_neg o2, if_neg ho] at h4
  cases h4
theorem rX_lt {x : Ins} {i n : Int} (h : rightB x i n = true) : rX x < 32 := by
  obtain ⟨a, ha, ha2, h2⟩ := right_nats h
  unfold rX
  split
  · omega
  · obtain ⟨b, c, hb, hc, hb2, hc2⟩ := h2 (by assumption)
    omega
theorem mostN_lt {l : List Ins} (hv : rightAll l = true) (k : Nat) (hk : k ≤ l.length) : mostN (l.take k) < 32 := by
  induction k with
  | zero => simp [mostN]
  | succ k ih =>
    obtain ⟨x, hx⟩ : ∃ x, l[k]? = some x := ⟨_, List.getElem?_eq_getElem (by omega)⟩
    rw [mostN_succ l k hx]
    have := ih (by omega)
    have := rX_lt (rightAll_get hv hx)
    omega
theorem regN_le {l : List Ins} (hv : rightAll l = true) : 1 ≤ regN l ∧ regN l ≤ 32 := by
  have := mostN_lt hv l.length (Nat.le_refl _)
  rw [mostN_all] at this
  unfold regN; omega

set_option maxHeartbeats 4000000 in
theorem codeRegs_ok (v : Value) (l : List Ins) (w : World) (hl : InsRow w w.heap.size v l) (hv : validB l = true) :
    Calls Try.prog 105 #[v] w fun e w' => e = .returned (.tuple #[.int .i64 (regN l : Nat), .int .i64 0]) ∧ Below w.heap.size w w' := by
  have kv := codeValidP_at v l w hl _ hv
  have hn4 := validB_len hv
  have HV := Lib.hid (validB_all hv)
  obtain ⟨ao, cap, rfl⟩ := hl.len
  obtain ⟨n, hn'⟩ : ∃ n, l.length = n := ⟨_, rfl⟩
  rw [hn'] at hl hn4 kv ⊢
  have HN := Lib.hid hn'; clear hn' hv
  obtain ⟨R, hR⟩ : ∃ R, regN l = R := ⟨_, rfl⟩
  rw [hR]
  have HR := Lib.hid hR; clear hR
  have hlw := Lib.hid hl
  go_enter Try.func105, Try.ntmps105
  go_wp2_with fail
  refine kv.mono ?_
  rintro e w1 ⟨rfl, hb1⟩
  have hl1 := Lib.hid ((hl.below hb1).mono hb1.size)
  have HB1 := Lib.hid hb1
  clear kv hl hb1
  go_wp2
  go_loopg [4, 12] n (fun gg m i wr => ∃ k q : Nat, k ≤ n ∧ gg = n - k ∧ i = .int .i64 k ∧ m = .int .i64 q ∧ q < 32 ∧ Aside (q = mostN (l.take k)) ∧ Below w1.heap.size w1 wr)
  case atStart => exact ⟨0, 0, by omega, rfl, rfl, rfl, by omega, rfl, Below.refl _ _⟩
  case round =>
    obtain ⟨k, q, hk, hg, rfl, rfl, hq, hs, hbw⟩ := hrel
    have HG := Lib.hid hg; clear hg
    by_cases hlt : k < n
    · obtain ⟨x, hx⟩ : ∃ s, l[k]? = some s := ⟨_, List.getElem?_eq_getElem (by rw [HN.out]; exact hlt)⟩
      have hl2 := hl1.out.below hbw
      obtain ⟨g, off, rfl, hg, c0, c1, c2, c3, c4⟩ := hl2.get hx
      have hr := rightAll_get HV.out hx
      obtain ⟨a, ha, ha2, hbc⟩ := right_nats hr
      have hsn : Hid (mostN (l.take (k + 1)) = max q (rX x)) := by show _ = _; rw [mostN_succ l k hx, hs.out]
      have hi0 : (0 : Int) ≤ (k : Int) := Int.natCast_nonneg _
      have hi1 : (k : Int) < (n : Int) := by omega
      have hb2 := hbw.alloc hbw.size (.cells #[.int .i64 x.op, .int .i64 x.a, .int .i64 x.b, .int .i64 x.c, .string x.tree] 52)
      by_cases ho : x.op = 5
      · have hop : (x.op == 5) = true := by rw [ho]; rfl
        have hrx : Hid (rX x = a) := by show _ = _; unfold rX; rw [if_pos ho, ha]; simp
        clear ho hr hx hl2 hbc
        rw [ha] at c1 hb2
        clear ha
        go_wp2
        go_roundg (n - (k + 1))
        case measure => rw [HG.out]; omega
        case rel => exact ⟨k + 1, max q a, by omega, rfl, by go_num, by congr 1; omega, by omega, by show _ = _; rw [hsn.out, hrx.out], hb2⟩
      · have hop : (x.op == 5) = false := by rw [beq_eq_false_iff_ne]; exact ho
        obtain ⟨b, c, hb, hc, hb32, hc32⟩ := hbc ho
        have hrx : Hid (rX x = max a (max b c)) := by show _ = _; unfold rX; rw [if_neg ho, ha, hb, hc]; simp
        clear ho hr hx hl2 hbc
        rw [ha, hb, hc] at hb2
        rw [ha] at c1
        rw [hb] at c2
        rw [hc] at c3
        clear ha hb hc
        go_wp2
        all_goals (
        go_roundg (n - (k + 1))
        case measure => rw [HG.out]; omega
        case rel => exact ⟨k + 1, max q (max a (max b c)), by omega, rfl, by go_num, by congr 1; omega, by omega, by show _ = _; rw [hsn.out, hrx.out], hb2⟩)
    · have hkn : k = n := by omega
      subst hkn
      have hR1 : Hid ((q : Int) + 1 = (R : Nat)) := Lib.hid (by have h1 := HR.out; have h2 := hs.out; unfold regN at h1; rw [← HN.out, mostN_all] at h2; omega)
      have HBW := Lib.hid (HB1.out.trans (hbw.mono HB1.out.size))
      clear hlt hk hs HG
      go_wp2
      refine bodyPost_ret (v := .tuple #[.int .i64 ((q : Int) + 1), .int .i64 0]) (by simp [results, Try.results105, go_sem]) rfl ?_
      exact ⟨by rw [hR1.out], HBW.out⟩

theorem codeRegs_bad (v : Value) (l : List Ins) (w : World) (hl : InsRow w w.heap.size v l) (hv : validB l = false) :
    Calls Try.prog 105 #[v] w fun e w' => e = .returned (.tuple #[.int .i64 0, .int .i64 1]) ∧ Below w.heap.size w w' := by
  have kv := codeValidP_at v l w hl _ hv
  go_enter Try.func105, Try.ntmps105
  go_wp2_with fail
  refine kv.mono ?_
  rintro e w1 ⟨rfl, hb1⟩
  go_wp2
  refine bodyPost_ret (v := .tuple #[.int .i64 0, .int .i64 1]) (by simp [results, Try.results105, go_sem]) rfl ?_
  exact ⟨rfl, hb1⟩

set_option maxHeartbeats 4000000 in
theorem refRegs_ok (v : Value) (l : List Ins) (w : World) (hl : InsRow w w.heap.size v l) (hv : validB l = true) :
    Calls Try.prog 34 #[v] w fun e w' => e = .returned (.int .i64 (regN l : Nat)) ∧ Below w.heap.size w w' := by
  have hn4 := validB_len hv
  have HV := Lib.hid (validB_all hv)
  obtain ⟨ao, cap, rfl⟩ := hl.len
  obtain ⟨n, hn'⟩ : ∃ n, l.length = n := ⟨_, rfl⟩
  rw [hn'] at hl hn4 ⊢
  have HN := Lib.hid hn'; clear hn' hv
  obtain ⟨R, hR⟩ : ∃ R, regN l = R := ⟨_, rfl⟩
  rw [hR]
  have HR := Lib.hid hR; clear hR
  have hl1 := Lib.hid hl
  clear hl
  go_enter Try.func34, Try.ntmps34
  go_wp2
  go_loopg [3, 4] n (fun gg m i wr => ∃ k q : Nat, k ≤ n ∧ gg = n - k ∧ i = .int .i64 k ∧ m = .int .i64 ((q : Int) + 1) ∧ q < 32 ∧ Aside (q = mostN (l.take k)) ∧ Below w.heap.size w wr)
  case atStart => exact ⟨0, 0, by omega, rfl, rfl, rfl, by omega, rfl, Below.refl _ _⟩
  case round =>
    obtain ⟨k, q, hk, hg, rfl, rfl, hq, hs, hbw⟩ := hrel
    have HG := Lib.hid hg; clear hg
    by_cases hlt : k < n
    · obtain ⟨x, hx⟩ : ∃ s, l[k]? = some s := ⟨_, List.getElem?_eq_getElem (by rw [HN.out]; exact hlt)⟩
      have hl2 := hl1.out.below hbw
      obtain ⟨g, off, rfl, hg, c0, c1, c2, c3, c4⟩ := hl2.get hx
      have hr := rightAll_get HV.out hx
      obtain ⟨a, ha, ha2, hbc⟩ := right_nats hr
      have hsn : Hid (mostN (l.take (k + 1)) = max q (rX x)) := by show _ = _; rw [mostN_succ l k hx, hs.out]
      have hi0 : (0 : Int) ≤ (k : Int) := Int.natCast_nonneg _
      have hi1 : (k : Int) < (n : Int) := by omega
      have s0 : IntKind.i64.wrap ((a : Int) + 1) = (a : Int) + 1 := IntWalk.i64_in _ (by omega)
      by_cases ho : x.op = 5
      · have hop : (x.op == 5) = true := by rw [ho]; rfl
        have hrx : Hid (rX x = a) := by show _ = _; unfold rX; rw [if_pos ho, ha]; simp
        clear ho hr hx hl2 hbc
        rw [ha] at c1
        clear ha
        go_wp2
        all_goals (
        go_roundg (n - (k + 1))
        case measure => rw [HG.out]; omega
        case rel => exact ⟨k + 1, max q a, by omega, rfl, by go_num, by congr 1; omega, by omega, by show _ = _; rw [hsn.out, hrx.out], hbw⟩)
      · have hop : (x.op == 5) = false := by rw [beq_eq_false_iff_ne]; exact ho
        obtain ⟨b, c, hb, hc, hb32, hc32⟩ := hbc ho
        have hrx : Hid (rX x = max a (max b c)) := by show _ = _; unfold rX; rw [if_neg ho, ha, hb, hc]; simp
        have s1 : IntKind.i64.wrap ((b : Int) + 1) = (b : Int) + 1 := IntWalk.i64_in _ (by omega)
        have s2 : IntKind.i64.wrap ((c : Int) + 1) = (c : Int) + 1 := IntWalk.i64_in _ (by omega)
        clear ho hr hx hl2 hbc
        rw [ha] at c1
        rw [hb] at c2
        rw [hc] at c3
        clear ha hb hc
        go_wp2
        go_quiet (fail)
        go_wp2
        all_goals (
        go_roundg (n - (k + 1))
        case measure => rw [HG.out]; omega
        case rel => exact ⟨k + 1, max q (max a (max b c)), by omega, rfl, by go_num, by congr 1; omega, by omega, by show _ = _; rw [hsn.out, hrx.out], below_drewN hbw _⟩)
    · have hkn : k = n := by omega
      subst hkn
      have hR1 : Hid ((q : Int) + 1 = (R : Nat)) := Lib.hid (by have h1 := HR.out; have h2 := hs.out; unfold regN at h1; rw [← HN.out, mostN_all] at h2; omega)
      have HBW := Lib.hid hbw
      clear hlt hk hs HG hbw
      go_wp2
      go_ret
      exact ⟨by rw [hR1.out]; rfl, HBW.out⟩

end Go.Proofs.Ytaiomcjopgnfpaa

namespace Go.Proofs.Ytaiomcjopgnfpaa
open Go.RowKit

def setI (a : Nat) (t : ByteArray) : Ins := ⟨0, a, 0, 0, t⟩
def moveI (a b : Nat) : Ins := ⟨1, a, b, 0, ⟨#[]⟩⟩
def consI (a b c : Nat) : Ins := ⟨2, a, b, c, ⟨#[]⟩⟩
def jumpI (a : Nat) (b : Int) : Ins := ⟨5, a, b, 0, ⟨#[]⟩⟩
def cleanK (k : Nat) : List Ins := (List.range k).map fun j => setI (j + 1) ⟨#[48]⟩
def cleanH (l : List Ins) : List Ins := cleanK (mostN l)
def cleanP (l : List Ins) : List Ins := cleanH l ++ l
def thenL : List (List Ins) → List Ins
  | [] => []
  | l :: ls => l ++ (ls.map cleanP).flatten
def pairL (p q : List Ins) : List Ins :=
  let n := max (regN p) (regN q)
  moveI n 0 :: p ++ [moveI (n + 1) 0, moveI 0 n] ++ cleanP q ++ [consI 0 (n + 1) 0]
def ifL (c p q : List Ins) : List Ins :=
  let n := max (regN c) (max (regN p) (regN q))
  moveI n 0 :: c ++ [jumpI 0 ((cleanP q).length + 4), moveI 0 n] ++ cleanP q ++ [setI n ⟨#[49, 48, 48]⟩, jumpI n ((cleanP p).length + 2), moveI 0 n] ++ cleanP p
def whileH (c p : List Ins) : List Ins :=
  let n := max (regN c) (regN p)
  moveI n 0 :: cleanP c ++ [jumpI 0 4, moveI 0 n, setI n ⟨#[49, 48, 48]⟩, jumpI n ((cleanP p).length + 4), moveI 0 n] ++ cleanP p ++ [setI n ⟨#[49, 48, 48]⟩]
def whileL (c p : List Ins) : List Ins := whileH c p ++ [jumpI (max (regN c) (regN p)) (-((whileH c p).length : Int))]

theorem inscells_append (l m : List Ins) : inscells (l ++ m) = inscells l ++ inscells m := by simp [inscells]
theorem cleanK_succ (k : Nat) : cleanK (k + 1) = cleanK k ++ [setI (k + 1) ⟨#[48]⟩] := by unfold cleanK; rw [List.range_succ, List.map_append]; rfl
theorem cleanK_length (k : Nat) : (cleanK k).length = k := by simp [cleanK]
theorem setI_wf (a : Nat) (t : ByteArray) (ha : a ≤ 1000000) (ht : t.size ≤ 140737488355328) : (setI a t).wf := wf_lit _ _ _ _ _ (by unfold i64; decide) (by unfold i64; omega) (by unfold i64; decide) (by unfold i64; decide) ht
theorem cleanK_wf (k : Nat) (hk : k ≤ 1000) : ∀ x ∈ cleanK k, x.wf := by
  intro x hx
  simp only [cleanK, List.mem_map, List.mem_range] at hx
  obtain ⟨j, hj, rfl⟩ := hx
  exact setI_wf _ _ (by omega) (by decide)
theorem wf_append {l m : List Ins} (h1 : ∀ x ∈ l, x.wf) (h2 : ∀ x ∈ m, x.wf) : ∀ x ∈ l ++ m, x.wf := fun x hx => (List.mem_append.1 hx).elim (h1 x) (h2 x)
/-- A program in a row of one's own. -/
structure OwnI (w : World) (B : Nat) (v : Value) (l : List Ins) : Prop where
  own : w.ownsRow B 52 5 v l.length (inscells l)
  wf : ∀ x ∈ l, x.wf
theorem OwnI.row {w : World} {B : Nat} {v : Value} {l : List Ins} (h : OwnI w B v l) (hn : l.length ≤ 2932031007402) : InsRow w w.heap.size v l := InsRow.of_own h.own h.wf hn
theorem OwnI.nil (w : World) (B : Nat) : OwnI w B (.slice none 0 0) [] := ⟨⟨rfl, .inl ⟨rfl, rfl⟩⟩, by simp⟩
theorem OwnI.below {w w' : World} {B : Nat} {v : Value} {l : List Ins} (h : OwnI w B v l) (hb : Below w.heap.size w w') : OwnI w' B v l := ⟨own_below h.own hb, h.wf⟩
theorem OwnI.slice {w : World} {B : Nat} {v : Value} {l : List Ins} (h : OwnI w B v l) : ∃ a c, v = .slice a l.length c := own_len h.own
theorem OwnI.lit (w : World) (l : List Ins) (hwf : ∀ x ∈ l, x.wf) (hl : l.length ≤ 4611686018427387904) : OwnI (w.alloc (.cells (inscells l).toArray 52)) w.heap.size (.slice (some ⟨w.heap.size, 0, none⟩) l.length l.length) l :=
  ⟨World.ownsRow_lit w (inscells l).toArray l.length (Nat.le_refl _) (by unfold maxLen; omega) (by simp [inscells_length]), hwf⟩

theorem bmove_any (a b : Int) (w : World) :
    Calls Try.prog 79 #[.int .i64 a, .int .i64 b] w fun e w' => e = .returned (.agg #[.int .i64 1, .int .i64 a, .int .i64 b, .int .i64 0, .string ⟨#[]⟩]) ∧ Below w.heap.size w w' := by
  go_enter Try.func79, Try.ntmps79
  go_wp2
  refine bodyPost_ret (v := .agg #[.int .i64 1, .int .i64 a, .int .i64 b, .int .i64 0, .string ⟨#[]⟩]) (by simp [results, Try.results79, go_sem]) rfl ?_
  exact ⟨rfl, (Below.refl _ _).alloc (Nat.le_refl _) _⟩

theorem rmove_any (a b : Int) (w : World) :
    Calls Try.prog 88 #[.int .i64 a, .int .i64 b] w fun e w' => e = .returned (.agg #[.int .i64 1, .int .i64 a, .int .i64 b, .int .i64 0, .string ⟨#[]⟩]) ∧ Below w.heap.size w w' := by
  go_enter Try.func88, Try.ntmps88
  go_wp2
  refine bodyPost_ret (v := .agg #[.int .i64 1, .int .i64 a, .int .i64 b, .int .i64 0, .string ⟨#[]⟩]) (by simp [results, Try.results88, go_sem]) rfl ?_
  exact ⟨rfl, (Below.refl _ _).alloc (Nat.le_refl _) _⟩

theorem rset_any (a : Int) (s : ByteArray) (w : World) :
    Calls Try.prog 87 #[.int .i64 a, .string s] w fun e w' => e = .returned (.agg #[.int .i64 0, .int .i64 a, .int .i64 0, .int .i64 0, .string s]) ∧ Below w.heap.size w w' := by
  go_enter Try.func87, Try.ntmps87
  go_wp2
  refine bodyPost_ret (v := .agg #[.int .i64 0, .int .i64 a, .int .i64 0, .int .i64 0, .string s]) (by simp [results, Try.results87, go_sem]) rfl ?_
  exact ⟨rfl, (Below.refl _ _).alloc (Nat.le_refl _) _⟩

theorem rjump_any (a b : Int) (w : World) :
    Calls Try.prog 89 #[.int .i64 a, .int .i64 b] w fun e w' => e = .returned (.agg #[.int .i64 5, .int .i64 a, .int .i64 b, .int .i64 0, .string ⟨#[]⟩]) ∧ Below w.heap.size w w' := by
  go_enter Try.func89, Try.ntmps89
  go_wp2
  refine bodyPost_ret (v := .agg #[.int .i64 5, .int .i64 a, .int .i64 b, .int .i64 0, .string ⟨#[]⟩]) (by simp [results, Try.results89, go_sem]) rfl ?_
  exact ⟨rfl, (Below.refl _ _).alloc (Nat.le_refl _) _⟩

end Go.Proofs.Ytaiomcjopgnfpaa

namespace Go.Proofs.Ytaiomcjopgnfpaa
open Go.RowKit

theorem OwnI.snoc {w : World} {B : Nat} {v : Value} {l : List Ins} {x : Ins} (h : w.ownsRow B 52 5 v (l.length + 1) (inscells l ++ inscells [x])) (hw : ∀ y ∈ l, y.wf) (hx : x.wf) : OwnI w B v (l ++ [x]) :=
  ⟨by rw [inscells_append, List.length_append]; exact h, wf_append hw (by simpa using hx)⟩
theorem OwnI.app {w : World} {B n : Nat} {v : Value} {l m : List Ins} (h : w.ownsRow B 52 5 v n (inscells l ++ inscells m)) (hn : n = l.length + m.length) (hw : ∀ y ∈ l, y.wf) (hx : ∀ y ∈ m, y.wf) : OwnI w B v (l ++ m) :=
  ⟨by rw [inscells_append, List.length_append, ← hn]; exact h, wf_append hw hx⟩
theorem InsRow.slice_src {w : World} {B : Nat} {v : Value} {l : List Ins} (h : InsRow w B v l) : Src w v l.length 5 (inscells l) := h.src

set_option maxHeartbeats 4000000 in
theorem fresh_ok (v : Value) (l : List Ins) (w : World) (hl : InsRow w w.heap.size v l) (hv : validB l = true) :
    Calls Try.prog 69 #[v] w fun e w' => ∃ v', e = .returned v' ∧ InsRow w' w'.heap.size v' (cleanP l) ∧ Below w.heap.size w w' := by
  have kv := codeRegs_ok v l w hl hv
  have hn4 := validB_len hv
  have hm := mostN_lt (validB_all hv) l.length (Nat.le_refl _)
  rw [mostN_all] at hm
  obtain ⟨M, hM⟩ : ∃ M, mostN l = M := ⟨_, rfl⟩
  have hR : ((regN l : Nat) : Int) = (M : Int) + 1 := by unfold regN; omega
  rw [hR] at kv
  rw [hM] at hm
  have HM := Lib.hid hM
  clear hR hM hv
  have HL0 := Lib.hid hl
  go_enter Try.func69, Try.ntmps69
  go_wp2_with fail
  refine kv.mono ?_
  rintro e w1 ⟨rfl, hb1⟩
  have hl1 := Lib.hid ((HL0.out.below hb1).mono hb1.size)
  have HB1 := Lib.hid hb1
  clear kv hl hb1
  go_wp2
  go_loopg [5, 6] M (fun gg o i wr => ∃ k : Nat, k ≤ M ∧ gg = M - k ∧ i = .int .i64 ((k : Int) + 1) ∧ Hid (OwnI wr w1.heap.size o (cleanK k) ∧ Below w1.heap.size w1 wr))
  case atStart => exact ⟨0, by omega, rfl, rfl, OwnI.nil _ _, Below.refl _ _⟩
  case round =>
    obtain ⟨k, hk, hg, rfl, hP⟩ := hrel
    have HG := Lib.hid hg; clear hg
    have hsz := hP.out.2.size
    by_cases hlt : k < M
    · have hlt1 : (k : Int) + 1 < (M : Int) + 1 := by omega
      have hown := hP.out.1.own
      rw [cleanK_length] at hown
      have hb := hP.out.2
      go_wp2_with (at_builtin; refine app_new el_ins rfl _ _ rfl rfl hown (inscells [setI (k + 1) ⟨#[48]⟩]) 1 rfl rfl ?c1 ?c2 ?c3 hsz hb (Nat.le_refl _) ?_)
      case c1 => exact inscells_one _
      case c2 => omega
      case c3 => unfold maxLen; omega
      intro v' w' hown' hb' hgr
      have hnew : Hid (OwnI w' w1.heap.size v' (cleanK (k + 1)) ∧ Below w1.heap.size w1 w') := Lib.hid ⟨by rw [cleanK_succ]; exact OwnI.snoc (by rw [cleanK_length]; exact hown') (cleanK_wf k (by omega)) (setI_wf _ _ (by omega) (by decide)), hb'⟩
      clear hown hown' hb hb' hgr hP
      go_wp2
      go_roundg (M - (k + 1))
      case measure => rw [HG.out]; omega
      case rel => exact ⟨k + 1, by omega, rfl, by go_num, hnew⟩
    · have hkM : k = M := by omega
      subst hkM
      have hown := hP.out.1.own
      rw [cleanK_length] at hown
      have hb := hP.out.2
      have hs2 := (hl1.out.below hb).src
      have hnl : l.length ≤ 4000 := hn4
      go_wp2_with (at_builtin; refine app_src el_ins (vx := v) rfl _ _ rfl rfl hown rfl hs2 (inscells_one l) ?c2 ?c3 hsz hb (Nat.le_refl _) ?_)
      case c2 => omega
      case c3 => unfold maxLen; omega
      intro v' w' hown' hb' hgr
      have hnew : Hid (OwnI w' w1.heap.size v' (cleanP l)) := Lib.hid (by unfold cleanP cleanH; rw [HM.out]; exact OwnI.app hown' (by rw [cleanK_length]) (cleanK_wf k (by omega)) HL0.out.1)
      have hrow : Hid (InsRow w' w'.heap.size v' (cleanP l)) := Lib.hid (hnew.out.row (by unfold cleanP cleanH; rw [List.length_append, cleanK_length, HM.out]; omega))
      have HB2 := Lib.hid (HB1.out.trans (hb'.mono HB1.out.size))
      clear hown hown' hb hb' hgr hP hs2
      go_wp2
      go_ret
      exact ⟨_, rfl, hrow.out, HB2.out⟩

set_option maxHeartbeats 4000000 in
theorem refClean_ok (v : Value) (l : List Ins) (w : World) (hl : InsRow w w.heap.size v l) (hv : validB l = true) :
    Calls Try.prog 110 #[v] w fun e w' => ∃ v', e = .returned v' ∧ OwnI w' w.heap.size v' (cleanH l) ∧ Below w.heap.size w w' := by
  have hm := mostN_lt (validB_all hv) l.length (Nat.le_refl _)
  rw [mostN_all] at hm
  obtain ⟨M, hM⟩ : ∃ M, mostN l = M := ⟨_, rfl⟩
  have kv : Hid (∀ w', Below w.heap.size w w' → Calls Try.prog 34 #[v] w' fun e w'' => e = .returned (.int .i64 ((M : Int) + 1)) ∧ Below w'.heap.size w' w'') := Lib.hid fun w' hb => by
    have := refRegs_ok v l w' ((hl.below hb).mono hb.size) hv
    have hR : ((regN l : Nat) : Int) = (M : Int) + 1 := by unfold regN; omega
    rwa [hR] at this
  rw [hM] at hm
  have HM := Lib.hid hM
  clear hM hv hl
  go_enter Try.func110, Try.ntmps110
  go_wp2
  go_loopg [3, 4] M (fun gg o i wr => ∃ k : Nat, k ≤ M ∧ gg = M - k ∧ i = .int .i64 ((k : Int) + 1) ∧ Hid (OwnI wr w.heap.size o (cleanK k) ∧ Below w.heap.size w wr))
  case atStart => exact ⟨0, by omega, rfl, rfl, OwnI.nil _ _, Below.refl _ _⟩
  case round =>
    obtain ⟨k, hk, hg, rfl, hP⟩ := hrel
    have HG := Lib.hid hg; clear hg
    go_wp2_with fail
    refine (kv.out _ hP.out.2).mono ?_
    rintro e w1 ⟨rfl, hb1⟩
    have hP := Lib.hid (show OwnI w1 w.heap.size _ (cleanK k) ∧ Below w.heap.size w w1 from ⟨hP.out.1.below hb1, hP.out.2.trans (hb1.mono hP.out.2.size)⟩)
    clear hb1
    by_cases hlt : k < M
    · have hlt1 : (k : Int) + 1 < (M : Int) + 1 := by omega
      go_wp2_with fail
      refine (rset_any _ _ _).mono ?_
      rintro e w2 ⟨rfl, hb2⟩
      have hP := Lib.hid (show OwnI w2 w.heap.size _ (cleanK k) ∧ Below w.heap.size w w2 from ⟨hP.out.1.below hb2, hP.out.2.trans (hb2.mono hP.out.2.size)⟩)
      clear hb2
      have hown := hP.out.1.own
      rw [cleanK_length] at hown
      have hb := hP.out.2
      have hsz := hb.size
      go_wp2_with (at_builtin; refine app_new el_ins rfl _ _ rfl rfl hown (inscells [setI (k + 1) ⟨#[48]⟩]) 1 rfl rfl ?c1 ?c2 ?c3 hsz hb (Nat.le_refl _) ?_)
      case c1 => exact inscells_one _
      case c2 => omega
      case c3 => unfold maxLen; omega
      intro v' w' hown' hb' hgr
      have hnew : Hid (OwnI w' w.heap.size v' (cleanK (k + 1)) ∧ Below w.heap.size w w') := Lib.hid ⟨by rw [cleanK_succ]; exact OwnI.snoc (by rw [cleanK_length]; exact hown') (cleanK_wf k (by omega)) (setI_wf _ _ (by omega) (by decide)), hb'⟩
      clear hown hown' hb hb' hgr hP
      go_wp2
      go_roundg (M - (k + 1))
      case measure => rw [HG.out]; omega
      case rel => exact ⟨k + 1, by omega, rfl, by go_num, hnew⟩
    · have hkM : k = M := by omega
      subst hkM
      go_wp2
      go_ret
      exact ⟨_, rfl, by unfold cleanH; rw [HM.out]; exact hP.out.1, hP.out.2⟩

set_option maxHeartbeats 4000000 in
theorem refclean_ok (v : Value) (l : List Ins) (w : World) (hl : InsRow w w.heap.size v l) (hv : validB l = true) :
    Calls Try.prog 73 #[v] w fun e w' => ∃ v', e = .returned v' ∧ OwnI w' w.heap.size v' (cleanP l) ∧ Below w.heap.size w w' := by
  have kv := refClean_ok v l w hl hv
  have hn4 := validB_len hv
  have hm := mostN_lt (validB_all hv) l.length (Nat.le_refl _)
  rw [mostN_all] at hm
  have HL0 := Lib.hid hl
  clear hl
  go_enter Try.func73, Try.ntmps73
  go_wp2_with fail
  refine kv.mono ?_
  rintro e w1 ⟨v1, rfl, ho, hb⟩
  have hs2 := (HL0.out.below hb).src
  have hsz := hb.size
  have hown := ho.own
  have hlen : (cleanH l).length = mostN l := cleanK_length _
  rw [hlen] at hown
  have HO := Lib.hid ho
  clear kv ho
  go_wp2_with (at_builtin; refine app_src el_ins (vx := v) rfl _ _ rfl rfl hown rfl hs2 (inscells_one l) ?c2 ?c3 hsz hb (Nat.le_refl _) ?_)
  case c2 => omega
  case c3 => unfold maxLen; omega
  intro v' w' hown' hb' hgr
  have hnew : Hid (OwnI w' w.heap.size v' (cleanP l)) := Lib.hid (by unfold cleanP; exact OwnI.app hown' (by rw [hlen]) HO.out.wf HL0.out.1)
  have HB2 := Lib.hid hb'
  clear hown hown' hb hb' hgr hs2
  go_wp2
  go_ret
  exact ⟨_, rfl, hnew.out, HB2.out⟩

end Go.Proofs.Ytaiomcjopgnfpaa

namespace Go.Proofs.Ytaiomcjopgnfpaa
open Go.RowKit Go.Shelf

def growRen : Go.Shelf.Ren := ⟨fun | 4 => 112 | n => n, fun | 22 => 25 | 25 => 52 | 0 => 0 | 3 => 3 | 4 => 4 | 9 => 9 | 20 => 20 | n => n, fun | n => n⟩
theorem growLays : Go.Proofs.Lays8.n4 Try.prog growRen := {
  mixed := by kernel_rfl
  f4 := ⟨Try.f112.name, by kernel_rfl, Try.func112.trans (congrArg some (by kernel_rfl))⟩
  t0 := Try.underlying0
  a0 := Try.isAgg0
  z0 := Try.sizeOf0
  v0 := Try.zeroValue0
  t3 := Try.underlying3
  a3 := Try.isAgg3
  z3 := Try.sizeOf3
  v3 := Try.zeroValue3
  t4 := Try.underlying4
  a4 := Try.isAgg4
  z4 := Try.sizeOf4
  v4 := Try.zeroValue4
  t9 := Try.underlying9
  a9 := Try.isAgg9
  z9 := Try.sizeOf9
  v9 := Try.zeroValue9
  t20 := Try.underlying20
  a20 := Try.isAgg20
  z20 := Try.sizeOf20
  v20 := Try.zeroValue20
  t22 := Try.underlying25
  a22 := Try.isAgg25
  z22 := Try.sizeOf25
  v22 := Try.zeroValue25 }
theorem grow_any (T : Nat) (hT : T ≤ 1000000000) (w : World) :
    Calls Try.prog 112 #[.slice none 0 0, .int .i64 T] w fun e w' => ∃ v', e = .returned v' ∧ OwnI w' w.heap.size v' [] ∧ Below w.heap.size w w' := by
  by_cases h0 : T = 0
  · subst h0
    refine (Any8.slices_Grow_room growLays none 0 0 0 w (Nat.le_refl _) (by omega) (by omega) (by omega)).mono ?_
    rintro e w' ⟨rfl, rfl⟩
    exact ⟨_, rfl, OwnI.nil _ _, Below.refl _ _⟩
  · obtain ⟨i, hi, hz, hsize, hbytes⟩ := info_parts el_ins.hi
    refine (Any8.slices_Grow_grow growLays i _ hi hz (by omega) none 0 0 T [] w (Nat.le_refl _) (by omega) (by rw [hbytes]; omega) (by omega) (by simp) (fun _ => rfl) (fun a h => by cases h)).mono ?_
    rintro e w' ⟨rfl, rfl⟩
    have hc1 := grownCap_ge w (0 + T) 0 52
    have hc2 := grownCap_le_maxLen w (0 + T) 0 52 (by unfold maxLen; omega)
    refine ⟨_, rfl, ⟨⟨rfl, .inr ⟨w.heap.size, _, _, rfl, Nat.le_refl _, heap_alloc_new w.drew _, Nat.zero_le _, hc2, ?_, ?_⟩⟩, by simp⟩, (Below.refl _ w).drew.alloc (by simp) _⟩
    · have hc3 : 0 + T ≤ grownCap w (0 + T) 0 (growRen.t 25) := hc1
      have hzz : ∀ n, (Builtin.zeroCells (Value.agg #[.int .i64 0, .int .i64 0, .int .i64 0, .int .i64 0, .string ⟨#[]⟩]).cells n).size = n * 5 := fun n => by simp [Builtin.zeroCells, Value.cells]
      simp only [Array.size_append, hzz, List.size_toArray, List.length_nil]
      omega
    · rfl

end Go.Proofs.Ytaiomcjopgnfpaa

namespace Go.Proofs.Ytaiomcjopgnfpaa
open Go.RowKit

/-- A list of programs in memory, all below block B. -/
def ProgsRow (w : World) (B : Nat) (v : Value) (ls : List (List Ins)) : Prop :=
  ls.length ≤ 5864062014805 ∧ ((ls = [] ∧ (v = .slice none 0 0 ∨ ∃ a c, v = .slice (some a) 0 c)) ∨ ∃ g off cap, v = .slice (some ⟨g, off, none⟩) ls.length cap ∧ g < B ∧ ∀ j l, ls[j]? = some l → ∃ u, w.cell? ⟨g, off + j, none⟩ = some u ∧ InsRow w B u l)
theorem ProgsRow.below {w w' : World} {B : Nat} {v : Value} {ls : List (List Ins)} (h : ProgsRow w B v ls) (hb : Below B w w') : ProgsRow w' B v ls := by
  refine ⟨h.1, h.2.elim .inl fun ⟨g, off, cap, h1, h2, h3⟩ => .inr ⟨g, off, cap, h1, h2, fun j l hj => ?_⟩⟩
  obtain ⟨u, h4, h5⟩ := h3 j l hj
  exact ⟨u, (hb.cell (p := ⟨g, off + j, none⟩) h2).trans h4, h5.below hb⟩
theorem ProgsRow.mono {w : World} {B B' : Nat} {v : Value} {ls : List (List Ins)} (h : ProgsRow w B v ls) (hB : B ≤ B') : ProgsRow w B' v ls := by
  refine ⟨h.1, h.2.elim .inl fun ⟨g, off, cap, h1, h2, h3⟩ => .inr ⟨g, off, cap, h1, by omega, fun j l hj => ?_⟩⟩
  obtain ⟨u, h4, h5⟩ := h3 j l hj
  exact ⟨u, h4, h5.mono hB⟩
theorem ProgsRow.step {A B : World} {v : Value} {ls : List (List Ins)} (h : ProgsRow A A.heap.size v ls) (hb : Below A.heap.size A B) : ProgsRow B B.heap.size v ls := (h.below hb).mono hb.size
theorem ProgsRow.len {w : World} {B : Nat} {v : Value} {ls : List (List Ins)} (h : ProgsRow w B v ls) : ∃ a c, v = .slice a ls.length c := by
  rcases h.2 with ⟨rfl, rfl | ⟨a, c, rfl⟩⟩ | ⟨g, off, cap, rfl, _⟩
  · exact ⟨_, _, rfl⟩
  · exact ⟨_, _, rfl⟩
  · exact ⟨_, _, rfl⟩
theorem ProgsRow.get {w : World} {B : Nat} {ao : Option Addr} {n cap : Nat} {ls : List (List Ins)} (h : ProgsRow w B (.slice ao n cap) ls) {k : Nat} {l : List Ins} (hk : ls[k]? = some l) :
    ∃ g off u, ao = some ⟨g, off, none⟩ ∧ g < B ∧ w.cell? ⟨g, off + k, none⟩ = some u ∧ InsRow w B u l := by
  rcases h.2 with ⟨rfl, _⟩ | ⟨g, off, cap', hv, hg, hc⟩
  · simp at hk
  · simp only [Value.slice.injEq] at hv
    obtain ⟨rfl, -, -⟩ := hv
    obtain ⟨u, h1, h2⟩ := hc k l hk
    exact ⟨g, off, u, rfl, hg, h1, h2⟩
/-- A list of programs that was just laid. -/
theorem ProgsRow.lit {w : World} (us : List Value) (ls : List (List Ins)) (hn : us.length = ls.length) (hb : ls.length ≤ 1000) (h : ∀ (j : Nat) (u : Value) (l : List Ins), us[j]? = some u → ls[j]? = some l → InsRow w w.heap.size u l) :
    ProgsRow (w.alloc (.cells us.toArray 25)) (w.alloc (.cells us.toArray 25)).heap.size (.slice (some ⟨w.heap.size, 0, none⟩) us.length us.length) ls := by
  have hb0 : Below w.heap.size w (w.alloc (.cells us.toArray 25)) := (Below.refl _ _).alloc (Nat.le_refl _) _
  refine ⟨by omega, .inr ⟨w.heap.size, 0, us.length, by rw [hn], by simp, fun j l hj => ?_⟩⟩
  have hlt := (List.getElem?_eq_some_iff.1 hj).1
  obtain ⟨u, hu⟩ : ∃ u, us[j]? = some u := ⟨_, List.getElem?_eq_getElem (by omega)⟩
  refine ⟨u, ?_, ((h j u l hu hj).below hb0).mono hb0.size⟩
  have h1 := block_cells (heap_alloc_new w (.cells us.toArray 25))
  have h2 := h1.1 (0 + j)
  rw [h2, Nat.zero_add, List.getElem?_toArray]
  exact hu

/-- How many registers a list of programs uses; their joint length. -/
def mostR (ls : List (List Ins)) : Nat := (ls.map regN).foldr max 1
def allV (ls : List (List Ins)) : Bool := ls.all validB
theorem foldr_max1_snoc (l : List Nat) (n : Nat) : (l ++ [n]).foldr max 1 = max (l.foldr max 1) n := by
  induction l with
  | nil => simp; omega
  | cons a l ih => simp only [List.cons_append, List.foldr_cons, ih]; omega
theorem mostR_succ (ls : List (List Ins)) (k : Nat) {l : List Ins} (hl : ls[k]? = some l) : mostR (ls.take (k + 1)) = max (mostR (ls.take k)) (regN l) := by
  rw [take_snoc' _ _ _ hl]; unfold mostR; rw [List.map_append, List.map_cons, List.map_nil, foldr_max1_snoc]
theorem allV_succ (ls : List (List Ins)) (k : Nat) {l : List Ins} (hl : ls[k]? = some l) : allV (ls.take (k + 1)) = (allV (ls.take k) && validB l) := by
  rw [take_snoc' _ _ _ hl]; unfold allV; rw [List.all_append]; simp
theorem allV_get {ls : List (List Ins)} (h : allV ls = true) {k : Nat} {l : List Ins} (hl : ls[k]? = some l) : validB l = true := List.all_eq_true.1 h l (List.mem_of_getElem? hl)
theorem allV_false {ls : List (List Ins)} {k : Nat} {l : List Ins} (hl : ls[k]? = some l) (h : validB l = false) : allV ls = false := by
  rw [← Bool.not_eq_true]; intro h2; rw [allV_get h2 hl] at h; cases h
theorem allV_of_take {ls : List (List Ins)} {k : Nat} (h : allV (ls.take k) = true) (hk : ls.length ≤ k) : allV ls = true := by rwa [List.take_of_length_le hk] at h

def CheckOut (ls : List (List Ins)) : Value := if allV ls = false then .tuple #[.int .i64 0, .int .i64 1] else if 28 < mostR ls then .tuple #[.int .i64 0, .int .i64 8] else .tuple #[.int .i64 (mostR ls : Nat), .int .i64 0]

set_option maxHeartbeats 4000000 in
theorem check_any (v : Value) (ls : List (List Ins)) (w : World) (hl : ProgsRow w w.heap.size v ls) :
    Calls Try.prog 68 #[v] w fun e w' => e = .returned (CheckOut ls) ∧ Below w.heap.size w w' := by
  obtain ⟨ao, cap, rfl⟩ := hl.len
  have hn5 := hl.1
  obtain ⟨n, hn'⟩ : ∃ n, ls.length = n := ⟨_, rfl⟩
  rw [hn'] at hl hn5 ⊢
  have HN := Lib.hid hn'; clear hn'
  have HL := Lib.hid hl; clear hl
  obtain ⟨R, hR⟩ : ∃ R, CheckOut ls = R := ⟨_, rfl⟩
  rw [hR]
  have HR := Lib.hid hR; clear hR
  go_enter Try.func68, Try.ntmps68
  go_wp2
  go_loopg [4, 11] n (fun gg m i wr => ∃ k q : Nat, k ≤ n ∧ gg = n - k ∧ i = .int .i64 k ∧ m = .int .i64 q ∧ q ≤ 32 ∧ Aside (q = mostR (ls.take k)) ∧ Aside (allV (ls.take k) = true) ∧ Below w.heap.size w wr)
  case atStart => exact ⟨0, 1, by omega, rfl, rfl, rfl, by omega, rfl, rfl, Below.refl _ _⟩
  case round =>
    obtain ⟨k, q, hk, hg, rfl, rfl, hq, hs, hva, hbw⟩ := hrel
    have HG := Lib.hid hg; clear hg
    by_cases hlt : k < n
    · obtain ⟨l, hx⟩ : ∃ s, ls[k]? = some s := ⟨_, List.getElem?_eq_getElem (by rw [HN.out]; exact hlt)⟩
      have hl2 := HL.out.step hbw
      obtain ⟨g, off, u, rfl, hg, c0, hu⟩ := hl2.get hx
      have hi0 : (0 : Int) ≤ (k : Int) := Int.natCast_nonneg _
      have hi1 : (k : Int) < (n : Int) := by omega
      have HX := Lib.hid hx
      have hva := Lib.hid hva
      have hs := Lib.hid hs
      clear hx hl2
      cases hv : validB l with
      | true =>
        have kr := codeRegs_ok u l wr hu hv
        have hrn := regN_le (validB_all hv)
        obtain ⟨r, hr⟩ : ∃ r, regN l = r := ⟨_, rfl⟩
        rw [hr] at kr hrn
        have HRR := Lib.hid hr
        have HVV := Lib.hid hv
        clear hr hv hu
        go_wp2_with fail
        refine kr.mono ?_
        rintro e w1 ⟨rfl, hb1⟩
        have hb2 := hbw.trans (hb1.mono hbw.size)
        clear hb1 kr hbw
        go_wp2
        all_goals (
        go_roundg (n - (k + 1))
        case measure => rw [HG.out]; omega
        case rel => exact ⟨k + 1, max q r, by omega, rfl, by go_num, by congr 1; omega, by omega, by show _ = _; rw [mostR_succ ls k HX.out, ← hs.out, HRR.out], by show _ = _; rw [allV_succ ls k HX.out, hva.out, HVV.out]; rfl, hb2⟩)
      | false =>
        have kr := codeRegs_bad u l wr hu hv
        have hf : Hid (CheckOut ls = .tuple #[.int .i64 0, .int .i64 1]) := Lib.hid (by unfold CheckOut; rw [if_pos (allV_false HX.out hv)])
        clear hv hu
        go_wp2_with fail
        refine kr.mono ?_
        rintro e w1 ⟨rfl, hb1⟩
        have hb2 := hbw.trans (hb1.mono hbw.size)
        clear hb1 kr hbw
        go_wp2
        refine bodyPost_ret (v := .tuple #[.int .i64 0, .int .i64 1]) (by simp [results, Try.results68, go_sem]) rfl ?_
        exact ⟨by rw [← HR.out, hf.out], hb2⟩
    · have hkn : k = n := by omega
      subst hkn
      have hqm : Hid (mostR ls = q) := Lib.hid (by have h2 := hs.out; rw [List.take_of_length_le (by rw [HN.out]; omega)] at h2; exact h2.symm)
      have hav : Hid (allV ls = true) := Lib.hid (allV_of_take hva.out (by rw [HN.out]; omega))
      clear hs hva hlt hk
      by_cases hbig : 28 < q
      · have hf : Hid (CheckOut ls = .tuple #[.int .i64 0, .int .i64 8]) := Lib.hid (by unfold CheckOut; rw [if_neg (by rw [hav.out]; simp), if_pos (by rw [hqm.out]; exact hbig)])
        have hbI : (28 : Int) < (q : Int) := by omega
        go_wp2
        refine bodyPost_ret (v := .tuple #[.int .i64 0, .int .i64 8]) (by simp [results, Try.results68, go_sem]) rfl ?_
        exact ⟨by rw [← HR.out, hf.out], hbw⟩
      · have hf : Hid (CheckOut ls = .tuple #[.int .i64 (q : Nat), .int .i64 0]) := Lib.hid (by unfold CheckOut; rw [if_neg (by rw [hav.out]; simp), if_neg (by rw [hqm.out]; exact hbig), hqm.out])
        have hbI : (q : Int) ≤ (28 : Int) := by omega
        go_wp2
        refine bodyPost_ret (v := .tuple #[.int .i64 (q : Nat), .int .i64 0]) (by simp [results, Try.results68, go_sem]) rfl ?_
        exact ⟨by rw [← HR.out, hf.out], hbw⟩

/-- What done hands back. -/
def DoneOut (l : List Ins) (v : Value) : Value := if validB l = true then .tuple #[v, .int .i64 0] else .tuple #[.slice none 0 0, .int .i64 3]
theorem done_any (a : Option Addr) (n c : Nat) (l : List Ins) (w : World) (hl : InsRow w w.heap.size (.slice a n c) l) :
    Calls Try.prog 70 #[.slice a n c] w fun e w' => e = .returned (DoneOut l (.slice a n c)) ∧ Below w.heap.size w w' := by
  unfold DoneOut
  cases hv : validB l with
  | true =>
    have kv := codeValidP_at _ l w hl _ hv
    clear hv
    rw [if_pos rfl]
    go_enter Try.func70, Try.ntmps70
    go_wp2_with fail
    refine kv.mono ?_
    rintro e w1 ⟨rfl, hb1⟩
    go_wp2
    refine bodyPost_ret (v := .tuple #[.slice a n c, .int .i64 0]) (by simp [results, Try.results70, go_sem]) rfl ?_
    exact ⟨rfl, hb1⟩
  | false =>
    have kv := codeValidP_at _ l w hl _ hv
    clear hv
    rw [if_neg (by simp)]
    go_enter Try.func70, Try.ntmps70
    go_wp2_with fail
    refine kv.mono ?_
    rintro e w1 ⟨rfl, hb1⟩
    go_wp2
    refine bodyPost_ret (v := .tuple #[.slice none 0 0, .int .i64 3]) (by simp [results, Try.results70, go_sem]) rfl ?_
    exact ⟨rfl, hb1⟩

theorem leap_any (r : Nat) (hr : r ≤ 1000) (p : Int) (hp : i64 p) (w : World) :
    Calls Try.prog 80 #[.int .i64 r, .int .i64 p] w fun e w' => ∃ v', e = .returned v' ∧ InsRow w' w'.heap.size v' [setI r ⟨#[49, 48, 48]⟩, jumpI r p] ∧ Below w.heap.size w w' := by
  have hwf : ∀ x ∈ [setI r ⟨#[49, 48, 48]⟩, jumpI r p], x.wf := by
    intro x hx
    simp only [List.mem_cons, List.not_mem_nil, or_false] at hx
    rcases hx with rfl | rfl
    · exact setI_wf _ _ (by omega) (by decide)
    · exact wf_lit _ _ _ _ _ (by unfold i64; decide) (by unfold i64; omega) hp (by unfold i64; decide) (by decide)
  have hrow := (OwnI.lit w _ hwf (by simp)).row (by simp)
  go_enter Try.func80, Try.ntmps80
  go_wp2
  go_ret
  exact ⟨_, rfl, hrow, (Below.refl _ _).alloc (Nat.le_refl _) _⟩

/-- slices.Concat: one row of one's own. -/
def lenS (ls : List (List Ins)) : Nat := (ls.map List.length).sum
theorem lenS_flatten (ls : List (List Ins)) : ls.flatten.length = lenS ls := by unfold lenS; rw [List.length_flatten]
theorem lenS_succ (ls : List (List Ins)) (k : Nat) {l : List Ins} (hl : ls[k]? = some l) : lenS (ls.take (k + 1)) = lenS (ls.take k) + l.length := by rw [take_snoc' _ _ _ hl]; unfold lenS; simp
theorem lenS_take (ls : List (List Ins)) (k : Nat) : lenS (ls.take k) ≤ lenS ls := by
  conv => rhs; rw [← List.take_append_drop k ls]
  unfold lenS; rw [List.map_append, List.sum_append]; omega
theorem flat_succ (ls : List (List Ins)) (k : Nat) {l : List Ins} (hl : ls[k]? = some l) : (ls.take (k + 1)).flatten = (ls.take k).flatten ++ l := by rw [take_snoc' _ _ _ hl]; simp

set_option maxHeartbeats 4000000 in
theorem concat_any (v : Value) (ls : List (List Ins)) (w : World) (hl : ProgsRow w w.heap.size v ls) (hT : lenS ls ≤ 1000000000) :
    Calls Try.prog 81 #[v] w fun e w' => ∃ v', e = .returned v' ∧ OwnI w' w.heap.size v' ls.flatten ∧ Below w.heap.size w w' := by
  obtain ⟨ao, cap, rfl⟩ := hl.len
  have hn5 := hl.1
  obtain ⟨n, hn'⟩ : ∃ n, ls.length = n := ⟨_, rfl⟩
  rw [hn'] at hl hn5 ⊢
  have HN := Lib.hid hn'; clear hn'
  have HL := Lib.hid hl; clear hl
  obtain ⟨T, hTT⟩ : ∃ T, lenS ls = T := ⟨_, rfl⟩
  rw [hTT] at hT
  have HT := Lib.hid hTT; clear hTT
  go_enter Try.func81, Try.ntmps81
  go_wp2
  go_loopg [3, 11] n (fun gg m i wr => ∃ k q : Nat, k ≤ n ∧ gg = n - k ∧ i = .int .i64 k ∧ m = .int .i64 q ∧ q ≤ T ∧ Aside (q = lenS (ls.take k)) ∧ wr = w)
  case atStart => exact ⟨0, 0, by omega, rfl, rfl, rfl, by omega, rfl, rfl⟩
  case round =>
    obtain ⟨k, q, hk, hg, rfl, rfl, hq, hs, rfl⟩ := hrel
    rename World => wA
    have HG := Lib.hid hg; clear hg
    by_cases hlt : k < n
    · obtain ⟨l, hx⟩ : ∃ s, ls[k]? = some s := ⟨_, List.getElem?_eq_getElem (by rw [HN.out]; exact hlt)⟩
      obtain ⟨g, off, u, rfl, hg, c0, hu⟩ := HL.out.get hx
      obtain ⟨ua, uc, rfl⟩ := hu.len
      have hi0 : (0 : Int) ≤ (k : Int) := Int.natCast_nonneg _
      have hi1 : (k : Int) < (n : Int) := by omega
      have hsn := lenS_succ ls k hx
      have hle := lenS_take ls (k + 1)
      have hqI : (q : Int) + (l.length : Int) ≤ 1000000000 := by have h1 := hs.out; have h2 := HT.out; omega
      have hq' : Hid (q + l.length ≤ T ∧ q + l.length = lenS (ls.take (k + 1))) := Lib.hid (by have h1 := hs.out; have h2 := HT.out; omega)
      have hq0 : (0 : Int) ≤ (q : Int) := Int.natCast_nonneg _
      have hl0 : (0 : Int) ≤ (l.length : Int) := Int.natCast_nonneg _
      clear hx hu hsn hle
      go_wp2
      go_roundg (n - (k + 1))
      case measure => rw [HG.out]; omega
      case rel => exact ⟨k + 1, q + l.length, by omega, rfl, by go_num, by go_num, hq'.out.1, hq'.out.2, rfl⟩
    · have hkn : k = n := by omega
      subst hkn
      have hqT : q = T := by have h1 := hs.out; have h2 := HT.out; rw [List.take_of_length_le (by rw [HN.out]; omega)] at h1; omega
      subst hqT
      clear hs hlt hk HG
      go_wp2_with fail
      refine (grow_any q hT _).mono ?_
      rintro e w1 ⟨v1, rfl, ho, hb1⟩
      have HO := Lib.hid ho
      have HB1 := Lib.hid hb1
      clear ho hb1
      go_wp2
      go_loopg [6, 27] k (fun gg o i wr2 => ∃ j : Nat, j ≤ k ∧ gg = k - j ∧ i = .int .i64 j ∧ Hid (OwnI wr2 wA.heap.size o (ls.take j).flatten ∧ Below wA.heap.size wA wr2))
      case atStart => exact ⟨0, by omega, rfl, rfl, HO.out, HB1.out⟩
      case round =>
        obtain ⟨j, hj, hg, rfl, hP⟩ := hrel
        have HG := Lib.hid hg; clear hg
        by_cases hlt : j < k
        · obtain ⟨l, hx⟩ : ∃ s, ls[j]? = some s := ⟨_, List.getElem?_eq_getElem (by rw [HN.out]; exact hlt)⟩
          have hl2 := HL.out.below hP.out.2
          obtain ⟨g, off, u, rfl, hg, c0, hu⟩ := hl2.get hx
          have hi0 : (0 : Int) ≤ (j : Int) := Int.natCast_nonneg _
          have hi1 : (j : Int) < (k : Int) := by omega
          have hsn := lenS_succ ls j hx
          have hle := lenS_take ls (j + 1)
          have hfl : (ls.take j).flatten.length = lenS (ls.take j) := lenS_flatten _
          have hown := hP.out.1.own
          have hb := hP.out.2
          have hsz := hb.size
          have hs2 := hu.src
          have HUW := Lib.hid hu.1
          have HX := Lib.hid hx
          obtain ⟨A, hA⟩ : ∃ A, (ls.take j).flatten.length = A := ⟨_, rfl⟩
          rw [hA] at hown hfl
          have HA := Lib.hid hA
          have hAl : A + l.length ≤ 1000000000 := by have h2 := HT.out; omega
          clear hx hu hsn hle hfl hA hl2
          go_wp2_with (at_builtin; refine app_src el_ins (vx := u) rfl _ _ rfl rfl hown rfl hs2 (inscells_one l) ?c2 ?c3 hsz hb (Nat.le_refl _) ?_)
          case c2 => omega
          case c3 => unfold maxLen; omega
          intro v' w' hown' hb' hgr
          have hnew : Hid (OwnI w' wA.heap.size v' (ls.take (j + 1)).flatten ∧ Below wA.heap.size wA w') := Lib.hid ⟨by rw [flat_succ ls j HX.out]; exact OwnI.app hown' (by rw [HA.out]) hP.out.1.wf HUW.out, hb'⟩
          clear hown hown' hb hb' hgr hs2 hP c0
          go_wp2
          go_roundg (k - (j + 1))
          case measure => rw [HG.out]; omega
          case rel => exact ⟨j + 1, by omega, rfl, by go_num, hnew⟩
        · have hjk : j = k := by omega
          subst hjk
          have hfin : Hid (OwnI wr wA.heap.size _ ls.flatten) := Lib.hid (by have := hP.out.1; rw [List.take_of_length_le (by rw [HN.out]; omega)] at this; exact this)
          go_wp2
          go_ret
          exact ⟨_, rfl, hfin.out, hP.out.2⟩

end Go.Proofs.Ytaiomcjopgnfpaa

namespace Go.Proofs.Ytaiomcjopgnfpaa
open Go.RowKit

/-- append of a program to a row of one's own. -/
theorem app_row {ops : Array Oper} {rest : List Oper} {o : Oper} {a : Act} {Q : Exit → Act → World → Prop} (hgd : o.guard = none) (s x : Operand)
    (ho : o.op = .call { callee := .builtin .append, args := #[s, x], argTypes := #[25, 25] }) {w w0 : World} {v vx : Value} {m l : List Ins} {B : Nat}
    (hs : a.eval s = v) (hown : OwnI w w0.heap.size v m) (hx : a.eval x = vx) (hsrc : InsRow w B vx l) (hlen : m.length + l.length ≤ 1000000000) (hb : Below w0.heap.size w0 w)
    (h : ∀ a' k c' w', Hid (k = m.length + l.length) → Hid (OwnI w' w0.heap.size (.slice a' k c') (m ++ l)) → Hid (Below w0.heap.size w0 w') → wpList Try.prog ops Q rest (a.put o.dst (.slice a' k c')) w') :
    wpList Try.prog ops Q (o :: rest) a w := by
  refine app_src el_ins hgd s x ho hs hown.own hx hsrc.src (inscells_one l) (by omega) (by unfold maxLen; omega) hb.size hb (Nat.le_refl _) ?_
  intro v' w' h1 h2 _
  obtain ⟨a', c', rfl⟩ := own_len h1
  exact h a' _ c' w' (Lib.hid rfl) (Lib.hid (OwnI.app h1 rfl hown.wf hsrc.1)) (Lib.hid h2)
/-- append of single instructions to a row of one's own. -/
theorem app_lit {ops : Array Oper} {rest : List Oper} {o : Oper} {a : Act} {Q : Exit → Act → World → Prop} (hgd : o.guard = none) (s x : Operand)
    (ho : o.op = .call { callee := .builtin .append, args := #[s, x], argTypes := #[25, 25] }) {w w0 : World} {v : Value} {m : List Ins} (l : List Ins) {n : Nat}
    (hs : a.eval s = v) (hown : OwnI w w0.heap.size v m) (hx : a.eval x = .slice (some ⟨w.heap.size, 0, none⟩) n n) (hn : l.length = n) (hwf : ∀ y ∈ l, y.wf) (hlen : m.length + n ≤ 1000000000) (hb : Below w0.heap.size w0 w)
    (h : ∀ a' k c' w', Hid (k = m.length + n) → Hid (OwnI w' w0.heap.size (.slice a' k c') (m ++ l)) → Hid (Below w0.heap.size w0 w') → wpList Try.prog ops Q rest (a.put o.dst (.slice a' k c')) w') :
    wpList Try.prog ops Q (o :: rest) a (w.alloc (.cells (inscells l).toArray 52)) := by
  refine app_new el_ins hgd s x ho hs hown.own (inscells l) n hx (by rw [inscells_length, hn]) (inscells_one l) (by omega) (by unfold maxLen; omega) hb.size hb (Nat.le_refl _) ?_
  intro v' w' h1 h2 _
  obtain ⟨a', c', rfl⟩ := own_len h1
  exact h a' _ c' w' (Lib.hid rfl) (Lib.hid (OwnI.app h1 (by rw [hn]) hown.wf hwf)) (Lib.hid h2)
/-- append of a program to single instructions. -/
theorem lit_row {ops : Array Oper} {rest : List Oper} {o : Oper} {a : Act} {Q : Exit → Act → World → Prop} (hgd : o.guard = none) (s x : Operand)
    (ho : o.op = .call { callee := .builtin .append, args := #[s, x], argTypes := #[25, 25] }) {w : World} {vx : Value} (m : List Ins) {l : List Ins} {n : Nat}
    (hs : a.eval s = .slice (some ⟨w.heap.size, 0, none⟩) n n) (hn : m.length = n) (hwf : ∀ y ∈ m, y.wf) (hx : a.eval x = vx) (hsrc : InsRow w w.heap.size vx l) (hlen : n + l.length ≤ 1000000000)
    (h : ∀ a' k c' w', Hid (k = n + l.length) → Hid (OwnI w' w.heap.size (.slice a' k c') (m ++ l)) → Hid (Below w.heap.size w w') → wpList Try.prog ops Q rest (a.put o.dst (.slice a' k c')) w') :
    wpList Try.prog ops Q (o :: rest) a (w.alloc (.cells (inscells m).toArray 52)) := by
  have hb : Below w.heap.size w (w.alloc (.cells (inscells m).toArray 52)) := (Below.refl _ _).alloc (Nat.le_refl _) _
  have ho' := OwnI.lit w m hwf (by omega)
  rw [hn] at ho'
  refine app_row hgd s x ho hs ho' hx (hsrc.below hb) (by rw [hn]; exact hlen) hb ?_
  rw [hn]; exact h
theorem OwnI.lower {w : World} {B B' : Nat} {v : Value} {l : List Ins} (h : OwnI w B v l) (hB : B' ≤ B) : OwnI w B' v l := by
  refine ⟨⟨h.own.1, ?_⟩, h.wf⟩
  rcases h.own.2 with h1 | ⟨g, cap, cur, h1, h2, h3⟩
  · exact .inl h1
  · exact .inr ⟨g, cap, cur, h1, by omega, h3⟩
theorem moveI_wf (a b : Nat) (ha : a ≤ 1000) (hb : b ≤ 1000) : (moveI a b).wf := wf_lit _ _ _ _ _ (by unfold i64; decide) (by unfold i64; omega) (by unfold i64; omega) (by unfold i64; decide) (by decide)
theorem consI_wf (a b c : Nat) (ha : a ≤ 1000) (hb : b ≤ 1000) (hc : c ≤ 1000) : (consI a b c).wf := wf_lit _ _ _ _ _ (by unfold i64; decide) (by unfold i64; omega) (by unfold i64; omega) (by unfold i64; omega) (by decide)
theorem jumpI_wf (a : Nat) (b : Int) (ha : a ≤ 1000) (hb : -1000000000 ≤ b ∧ b ≤ 1000000000) : (jumpI a b).wf := wf_lit _ _ _ _ _ (by unfold i64; decide) (by unfold i64; omega) (by unfold i64; omega) (by unfold i64; decide) (by decide)
theorem cleanP_length (l : List Ins) : (cleanP l).length = mostN l + l.length := by unfold cleanP cleanH; rw [List.length_append, cleanK_length]

end Go.Proofs.Ytaiomcjopgnfpaa

namespace Go.Proofs.Ytaiomcjopgnfpaa
open Go.RowKit

set_option maxHeartbeats 4000000 in
theorem refPair_ok (v u : Value) (p q : List Ins) (w : World) (hp : InsRow w w.heap.size v p) (hq : InsRow w w.heap.size u q) (hvp : validB p = true) (hvq : validB q = true) :
    Calls Try.prog 41 #[v, u] w fun e w' => ∃ v', e = .returned v' ∧ OwnI w' w.heap.size v' (pairL p q) ∧ Below w.heap.size w w' := by
  have hp4 := validB_len hvp
  have hq4 := validB_len hvq
  have hrp := regN_le (validB_all hvp)
  have hrq := regN_le (validB_all hvq)
  have hP := Lib.hid hp
  have hQ := Lib.hid hq
  have kp := refRegs_ok v p w hp hvp
  clear hp hq
  obtain ⟨a, ha⟩ : ∃ a, regN p = a := ⟨_, rfl⟩
  obtain ⟨b, hb⟩ : ∃ b, regN q = b := ⟨_, rfl⟩
  have HA := Lib.hid ha
  have HB := Lib.hid hb
  rw [ha] at kp hrp
  rw [hb] at hrq
  have hmq := mostN_lt (validB_all hvq) q.length (Nat.le_refl _)
  rw [mostN_all] at hmq
  obtain ⟨n, hn⟩ : ∃ n, max a b = n := ⟨_, rfl⟩
  have hnI : max (a : Int) (b : Int) = (n : Int) := by omega
  have hn32 : n ≤ 32 := by omega
  have HN := Lib.hid hn
  have hlen := cleanP_length q
  have HLC := Lib.hid hlen
  clear ha hb hn hlen
  have ch := Lib.hid (Below.refl w.heap.size w)
  go_enter Try.func41, Try.ntmps41
  go_wp2_with fail
  refine (kp).mono ?_
  rintro e w1 ⟨rfl, hq⟩
  have hP := Lib.hid ((hP.out.below hq).mono hq.size)
  have hQ := Lib.hid ((hQ.out.below hq).mono hq.size)
  have ch := Lib.hid (ch.out.trans (hq.mono ch.out.size))
  clear hq
  clear kp
  have kq := refRegs_ok u q _ hQ.out hvq
  rw [HB.out] at kq
  go_wp2_with fail
  refine (kq).mono ?_
  rintro e w2 ⟨rfl, hq⟩
  have hP := Lib.hid ((hP.out.below hq).mono hq.size)
  have hQ := Lib.hid ((hQ.out.below hq).mono hq.size)
  have ch := Lib.hid (ch.out.trans (hq.mono ch.out.size))
  clear hq
  clear kq
  go_wp2_with fail
  refine (rmove_any (n : Nat) 0 _).mono ?_
  rintro e w3 ⟨rfl, hq⟩
  have hP := Lib.hid ((hP.out.below hq).mono hq.size)
  have hQ := Lib.hid ((hQ.out.below hq).mono hq.size)
  have ch := Lib.hid (ch.out.trans (hq.mono ch.out.size))
  clear hq
  have q_hP := hP
  have q_hQ := hQ
  have rl := Lib.hid (Below.refl w3.heap.size w3)
  have hs0 := hP.out
  go_wp2_with (at_builtin; refine lit_row rfl _ _ rfl (vx := v) (n := 1) [moveI n 0] rfl rfl ?c1 rfl hs0 ?c2 ?_)
  case c1 => simp; exact moveI_wf _ _ (by omega) (by omega)
  case c2 => omega
  clear hs0
  intro a4 k4 s4 w4 hk4 ho hb
  have rl := hb
  clear hb
  have hP := Lib.hid ((q_hP.out.below rl.out).mono rl.out.size)
  have hQ := Lib.hid ((q_hQ.out.below rl.out).mono rl.out.size)
  have hl1 : ([moveI n 0] ++ p).length = 1 + p.length := by simp; omega
  have ho := Lib.hid ho.out
  have s1 : IntKind.i64.wrap ((n : Int) + 1) = (n : Int) + 1 := IntWalk.i64_in _ (by omega)
  go_wp2_with fail
  refine (rmove_any ((n : Int) + 1) 0 _).mono ?_
  rintro e w5 ⟨rfl, hq⟩
  have hP := Lib.hid ((hP.out.below hq).mono hq.size)
  have hQ := Lib.hid ((hQ.out.below hq).mono hq.size)
  have ho := Lib.hid (ho.out.below hq)
  have rl := Lib.hid (rl.out.trans (hq.mono rl.out.size))
  clear hq
  go_wp2_with fail
  refine (rmove_any 0 (n : Nat) _).mono ?_
  rintro e w6 ⟨rfl, hq⟩
  have hP := Lib.hid ((hP.out.below hq).mono hq.size)
  have hQ := Lib.hid ((hQ.out.below hq).mono hq.size)
  have ho := Lib.hid (ho.out.below hq)
  have rl := Lib.hid (rl.out.trans (hq.mono rl.out.size))
  clear hq
  have ho0 := ho.out
  have hb0 := rl.out
  go_wp2_with (at_builtin; refine app_lit rfl _ _ rfl (v := .slice a4 k4 s4) (n := 2) [moveI (n + 1) 0, moveI 0 n] rfl ho0 rfl rfl ?c1 ?c2 hb0 ?_)
  case c1 => simp; exact ⟨moveI_wf _ _ (by omega) (by omega), moveI_wf _ _ (by omega) (by omega)⟩
  case c2 => simp; omega
  clear ho0 hb0 ho
  intro a7 k7 s7 w7 hk7 ho hb
  have rl := hb
  clear hb
  have hP := Lib.hid ((q_hP.out.below rl.out).mono rl.out.size)
  have hQ := Lib.hid ((q_hQ.out.below rl.out).mono rl.out.size)
  have hl2 : ([moveI n 0] ++ p ++ [moveI (n + 1) 0, moveI 0 n]).length = 3 + p.length := by simp; omega
  go_wp2_with fail
  refine (refclean_ok u q _ hQ.out hvq).mono ?_
  rintro e w8 ⟨vc, rfl, hC0, hq⟩
  have hP := Lib.hid ((hP.out.below hq).mono hq.size)
  have hQ := Lib.hid ((hQ.out.below hq).mono hq.size)
  have ho := Lib.hid (ho.out.below hq)
  have rl := Lib.hid (rl.out.trans (hq.mono rl.out.size))
  clear hq
  have hC := Lib.hid (hC0.row (by rw [HLC.out]; omega))
  clear hC0
  have ho0 := ho.out
  have hb0 := rl.out
  have hs0 := hC.out
  go_wp2_with (at_builtin; refine app_row rfl _ _ rfl (v := .slice a7 k7 s7) (vx := vc) rfl ho0 rfl hs0 ?c2 hb0 ?_)
  case c2 => simp [HLC.out]; omega
  clear ho0 hb0 hs0 ho
  intro a9 k9 s9 w9 hk9 ho hb
  have rl := hb
  clear hb
  have hP := Lib.hid ((q_hP.out.below rl.out).mono rl.out.size)
  have hQ := Lib.hid ((q_hQ.out.below rl.out).mono rl.out.size)
  clear hC
  have hl3 : ([moveI n 0] ++ p ++ [moveI (n + 1) 0, moveI 0 n] ++ cleanP q).length = 3 + p.length + (mostN q + q.length) := by rw [List.length_append, hl2, HLC.out]
  have ho0 := ho.out
  have hb0 := rl.out
  go_wp2_with (at_builtin; refine app_lit rfl _ _ rfl (v := .slice a9 k9 s9) (n := 1) [consI 0 (n + 1) 0] rfl ho0 rfl rfl ?c1 ?c2 hb0 ?_)
  case c1 => simp; exact consI_wf _ _ _ (by omega) (by omega) (by omega)
  case c2 => simp [HLC.out]; omega
  clear ho0 hb0 ho
  intro a10 k10 s10 w10 hk10 ho hb
  have rl := hb
  clear hb
  have hP := Lib.hid ((q_hP.out.below rl.out).mono rl.out.size)
  have hQ := Lib.hid ((q_hQ.out.below rl.out).mono rl.out.size)
  go_wp2
  go_ret
  have hch := ch.out.trans (rl.out.mono ch.out.size)
  have heq : pairL p q = [moveI n 0] ++ p ++ [moveI (n + 1) 0, moveI 0 n] ++ cleanP q ++ [consI 0 (n + 1) 0] := by unfold pairL; simp only [HA.out, HB.out, HN.out]; rfl
  exact ⟨.slice a10 k10 s10, rfl, by rw [heq]; have h9 := ho.out.lower ch.out.size; simpa using h9, hch⟩
theorem refclean_len (v : Value) (l : List Ins) (w : World) (hl : InsRow w w.heap.size v l) (hv : validB l = true) :
    Calls Try.prog 73 #[v] w fun e w' => ∃ a k c, e = .returned (.slice a k c) ∧ Hid (k = mostN l + l.length ∧ mostN l < 32) ∧ InsRow w' w'.heap.size (.slice a k c) (cleanP l) ∧ Below w.heap.size w w' := by
  have hn4 := validB_len hv
  have hm := mostN_lt (validB_all hv) l.length (Nat.le_refl _)
  rw [mostN_all] at hm
  refine (refclean_ok v l w hl hv).mono ?_
  rintro e w' ⟨v', rfl, h1, h2⟩
  have h3 := h1.row (by rw [cleanP_length]; omega)
  obtain ⟨a, c, rfl⟩ := h3.len
  rw [cleanP_length] at h3 ⊢
  exact ⟨a, _, c, rfl, Lib.hid ⟨rfl, hm⟩, h3, h2⟩

set_option maxHeartbeats 4000000 in
theorem refIf_ok (x v u : Value) (c p q : List Ins) (w : World) (hc : InsRow w w.heap.size x c) (hp : InsRow w w.heap.size v p) (hq : InsRow w w.heap.size u q) (hvc : validB c = true) (hvp : validB p = true) (hvq : validB q = true) :
    Calls Try.prog 43 #[x, v, u] w fun e w' => ∃ v', e = .returned v' ∧ OwnI w' w.heap.size v' (ifL c p q) ∧ Below w.heap.size w w' := by
  have hc4 := validB_len hvc
  have hp4 := validB_len hvp
  have hq4 := validB_len hvq
  have hrc := regN_le (validB_all hvc)
  have hrp := regN_le (validB_all hvp)
  have hrq := regN_le (validB_all hvq)
  have hC := Lib.hid hc
  have hP := Lib.hid hp
  have hQ := Lib.hid hq
  clear hc hp hq
  obtain ⟨a, ha⟩ : ∃ a, regN c = a := ⟨_, rfl⟩
  obtain ⟨b, hb⟩ : ∃ b, regN p = b := ⟨_, rfl⟩
  obtain ⟨d, hd⟩ : ∃ d, regN q = d := ⟨_, rfl⟩
  rw [ha] at hrc
  rw [hb] at hrp
  rw [hd] at hrq
  have HA := Lib.hid ha
  have HB := Lib.hid hb
  have HD := Lib.hid hd
  obtain ⟨n, hn⟩ : ∃ n, max a (max b d) = n := ⟨_, rfl⟩
  have hn32 : n ≤ 32 := by omega
  have HN := Lib.hid hn
  clear ha hb hd hn
  have ch := Lib.hid (Below.refl w.heap.size w)
  go_enter Try.func43, Try.ntmps43
  have kr := refRegs_ok x c _ hC.out hvc
  rw [HA.out] at kr
  go_wp2_with fail
  refine (kr).mono ?_
  rintro e w1 ⟨rfl, hq⟩
  have hC := Lib.hid ((hC.out.below hq).mono hq.size)
  have hP := Lib.hid ((hP.out.below hq).mono hq.size)
  have hQ := Lib.hid ((hQ.out.below hq).mono hq.size)
  have ch := Lib.hid (ch.out.trans (hq.mono ch.out.size))
  clear hq
  clear kr
  have kr := refRegs_ok v p _ hP.out hvp
  rw [HB.out] at kr
  go_wp2_with fail
  refine (kr).mono ?_
  rintro e w2 ⟨rfl, hq⟩
  have hC := Lib.hid ((hC.out.below hq).mono hq.size)
  have hP := Lib.hid ((hP.out.below hq).mono hq.size)
  have hQ := Lib.hid ((hQ.out.below hq).mono hq.size)
  have ch := Lib.hid (ch.out.trans (hq.mono ch.out.size))
  clear hq
  clear kr
  have kr := refRegs_ok u q _ hQ.out hvq
  rw [HD.out] at kr
  go_wp2_with fail
  refine (kr).mono ?_
  rintro e w3 ⟨rfl, hq⟩
  have hC := Lib.hid ((hC.out.below hq).mono hq.size)
  have hP := Lib.hid ((hP.out.below hq).mono hq.size)
  have hQ := Lib.hid ((hQ.out.below hq).mono hq.size)
  have ch := Lib.hid (ch.out.trans (hq.mono ch.out.size))
  clear hq
  clear kr
  go_wp2_with fail
  all_goals (
    first | (have e9 : (d : Int) = (n : Int) := (by have := HN.out; first | omega | (simp_all; omega)); rw [e9]) | (have e9 : (b : Int) = (n : Int) := (by have := HN.out; first | omega | (simp_all; omega)); rw [e9]) | (have e9 : (a : Int) = (n : Int) := (by have := HN.out; first | omega | (simp_all; omega)); rw [e9])
    clear e9
    refine (refclean_len v p _ hP.out hvp).mono ?_
    rintro e w4 ⟨ya, ky, yc, rfl, hky, hY, hq⟩
    have hC := Lib.hid ((hC.out.below hq).mono hq.size)
    have hP := Lib.hid ((hP.out.below hq).mono hq.size)
    have hQ := Lib.hid ((hQ.out.below hq).mono hq.size)
    have ch := Lib.hid (ch.out.trans (hq.mono ch.out.size))
    clear hq
    have hY := Lib.hid hY
    go_wp2_with fail
    refine (refclean_len u q _ hQ.out hvq).mono ?_
    rintro e w5 ⟨na, kn, nc, rfl, hkn, hNo, hq⟩
    have hC := Lib.hid ((hC.out.below hq).mono hq.size)
    have hP := Lib.hid ((hP.out.below hq).mono hq.size)
    have hQ := Lib.hid ((hQ.out.below hq).mono hq.size)
    have hY := Lib.hid ((hY.out.below hq).mono hq.size)
    have ch := Lib.hid (ch.out.trans (hq.mono ch.out.size))
    clear hq
    have hNo := Lib.hid hNo
    have hkyI : (ky : Int) ≤ 5000 := by have := hky.out; omega
    have hknI : (kn : Int) ≤ 5000 := by have := hkn.out; omega
    have hky0 : (0 : Int) ≤ (ky : Int) := Int.natCast_nonneg _
    have hkn0 : (0 : Int) ≤ (kn : Int) := Int.natCast_nonneg _
    go_wp2_with fail
    refine (rmove_any (n : Nat) 0 _).mono ?_
    rintro e w6 ⟨rfl, hq⟩
    have hC := Lib.hid ((hC.out.below hq).mono hq.size)
    have hP := Lib.hid ((hP.out.below hq).mono hq.size)
    have hQ := Lib.hid ((hQ.out.below hq).mono hq.size)
    have hY := Lib.hid ((hY.out.below hq).mono hq.size)
    have hNo := Lib.hid ((hNo.out.below hq).mono hq.size)
    have ch := Lib.hid (ch.out.trans (hq.mono ch.out.size))
    clear hq
    have q_hC := hC
    have q_hP := hP
    have q_hQ := hQ
    have q_hY := hY
    have q_hNo := hNo
    have rl := Lib.hid (Below.refl w6.heap.size w6)
    have hs0 := hC.out
    go_wp2_with (at_builtin; refine lit_row rfl _ _ rfl (vx := x) (n := 1) [moveI n 0] rfl rfl ?c1 rfl hs0 ?c2 ?_)
    case c1 => simp; exact moveI_wf _ _ (by omega) (by omega)
    case c2 => omega
    clear hs0
    intro a7 k7 s7 w7 hk7 ho hb
    have rl := hb
    clear hb
    have hC := Lib.hid ((q_hC.out.below rl.out).mono rl.out.size)
    have hP := Lib.hid ((q_hP.out.below rl.out).mono rl.out.size)
    have hQ := Lib.hid ((q_hQ.out.below rl.out).mono rl.out.size)
    have hY := Lib.hid ((q_hY.out.below rl.out).mono rl.out.size)
    have hNo := Lib.hid ((q_hNo.out.below rl.out).mono rl.out.size)
    go_wp2_with fail
    refine (rjump_any 0 ((kn : Int) + 4) _).mono ?_
    rintro e w8 ⟨rfl, hq⟩
    have hC := Lib.hid ((hC.out.below hq).mono hq.size)
    have hP := Lib.hid ((hP.out.below hq).mono hq.size)
    have hQ := Lib.hid ((hQ.out.below hq).mono hq.size)
    have hY := Lib.hid ((hY.out.below hq).mono hq.size)
    have hNo := Lib.hid ((hNo.out.below hq).mono hq.size)
    have ho := Lib.hid (ho.out.below hq)
    have rl := Lib.hid (rl.out.trans (hq.mono rl.out.size))
    clear hq
    go_wp2_with fail
    refine (rmove_any 0 (n : Nat) _).mono ?_
    rintro e w9 ⟨rfl, hq⟩
    have hC := Lib.hid ((hC.out.below hq).mono hq.size)
    have hP := Lib.hid ((hP.out.below hq).mono hq.size)
    have hQ := Lib.hid ((hQ.out.below hq).mono hq.size)
    have hY := Lib.hid ((hY.out.below hq).mono hq.size)
    have hNo := Lib.hid ((hNo.out.below hq).mono hq.size)
    have ho := Lib.hid (ho.out.below hq)
    have rl := Lib.hid (rl.out.trans (hq.mono rl.out.size))
    clear hq
    have ho0 := ho.out
    have hb0 := rl.out
    go_wp2_with (at_builtin; refine app_lit rfl _ _ rfl (v := .slice a7 k7 s7) (n := 2) [jumpI 0 ((kn : Int) + 4), moveI 0 n] rfl ho0 rfl rfl ?c1 ?c2 hb0 ?_)
    case c1 => simp; exact ⟨jumpI_wf _ _ (by omega) (by omega), moveI_wf _ _ (by omega) (by omega)⟩
    case c2 => simp; omega
    clear ho0 hb0 ho
    intro a10 k10 s10 w10 hk10 ho hb
    have rl := hb
    clear hb
    have hC := Lib.hid ((q_hC.out.below rl.out).mono rl.out.size)
    have hP := Lib.hid ((q_hP.out.below rl.out).mono rl.out.size)
    have hQ := Lib.hid ((q_hQ.out.below rl.out).mono rl.out.size)
    have hY := Lib.hid ((q_hY.out.below rl.out).mono rl.out.size)
    have hNo := Lib.hid ((q_hNo.out.below rl.out).mono rl.out.size)
    have ho0 := ho.out
    have hb0 := rl.out
    have hs0 := hNo.out
    go_wp2_with (at_builtin; refine app_row rfl _ _ rfl (v := .slice a10 k10 s10) (vx := .slice na kn nc) rfl ho0 rfl hs0 ?c2 hb0 ?_)
    case c2 => simp [cleanP_length]; have := hkn.out; omega
    clear ho0 hb0 hs0 ho
    intro a11 k11 s11 w11 hk11 ho hb
    have rl := hb
    clear hb
    have hC := Lib.hid ((q_hC.out.below rl.out).mono rl.out.size)
    have hP := Lib.hid ((q_hP.out.below rl.out).mono rl.out.size)
    have hQ := Lib.hid ((q_hQ.out.below rl.out).mono rl.out.size)
    have hY := Lib.hid ((q_hY.out.below rl.out).mono rl.out.size)
    have hNo := Lib.hid ((q_hNo.out.below rl.out).mono rl.out.size)
    go_wp2_with fail
    refine (rset_any (n : Nat) ⟨#[49, 48, 48]⟩ _).mono ?_
    rintro e w12 ⟨rfl, hq⟩
    have hC := Lib.hid ((hC.out.below hq).mono hq.size)
    have hP := Lib.hid ((hP.out.below hq).mono hq.size)
    have hQ := Lib.hid ((hQ.out.below hq).mono hq.size)
    have hY := Lib.hid ((hY.out.below hq).mono hq.size)
    have hNo := Lib.hid ((hNo.out.below hq).mono hq.size)
    have ho := Lib.hid (ho.out.below hq)
    have rl := Lib.hid (rl.out.trans (hq.mono rl.out.size))
    clear hq
    go_wp2_with fail
    refine (rjump_any (n : Nat) ((ky : Int) + 2) _).mono ?_
    rintro e w13 ⟨rfl, hq⟩
    have hC := Lib.hid ((hC.out.below hq).mono hq.size)
    have hP := Lib.hid ((hP.out.below hq).mono hq.size)
    have hQ := Lib.hid ((hQ.out.below hq).mono hq.size)
    have hY := Lib.hid ((hY.out.below hq).mono hq.size)
    have hNo := Lib.hid ((hNo.out.below hq).mono hq.size)
    have ho := Lib.hid (ho.out.below hq)
    have rl := Lib.hid (rl.out.trans (hq.mono rl.out.size))
    clear hq
    go_wp2_with fail
    refine (rmove_any 0 (n : Nat) _).mono ?_
    rintro e w14 ⟨rfl, hq⟩
    have hC := Lib.hid ((hC.out.below hq).mono hq.size)
    have hP := Lib.hid ((hP.out.below hq).mono hq.size)
    have hQ := Lib.hid ((hQ.out.below hq).mono hq.size)
    have hY := Lib.hid ((hY.out.below hq).mono hq.size)
    have hNo := Lib.hid ((hNo.out.below hq).mono hq.size)
    have ho := Lib.hid (ho.out.below hq)
    have rl := Lib.hid (rl.out.trans (hq.mono rl.out.size))
    clear hq
    have ho0 := ho.out
    have hb0 := rl.out
    go_wp2_with (at_builtin; refine app_lit rfl _ _ rfl (v := .slice a11 k11 s11) (n := 3) [setI n ⟨#[49, 48, 48]⟩, jumpI n ((ky : Int) + 2), moveI 0 n] rfl ho0 rfl rfl ?c1 ?c2 hb0 ?_)
    case c1 => simp; exact ⟨setI_wf _ _ (by omega) (by decide), jumpI_wf _ _ (by omega) (by omega), moveI_wf _ _ (by omega) (by omega)⟩
    case c2 => simp [cleanP_length]; have := hkn.out; omega
    clear ho0 hb0 ho
    intro a15 k15 s15 w15 hk15 ho hb
    have rl := hb
    clear hb
    have hC := Lib.hid ((q_hC.out.below rl.out).mono rl.out.size)
    have hP := Lib.hid ((q_hP.out.below rl.out).mono rl.out.size)
    have hQ := Lib.hid ((q_hQ.out.below rl.out).mono rl.out.size)
    have hY := Lib.hid ((q_hY.out.below rl.out).mono rl.out.size)
    have hNo := Lib.hid ((q_hNo.out.below rl.out).mono rl.out.size)
    have ho0 := ho.out
    have hb0 := rl.out
    have hs0 := hY.out
    go_wp2_with (at_builtin; refine app_row rfl _ _ rfl (v := .slice a15 k15 s15) (vx := .slice ya ky yc) rfl ho0 rfl hs0 ?c2 hb0 ?_)
    case c2 => simp [cleanP_length]; have := hkn.out; have := hky.out; omega
    clear ho0 hb0 hs0 ho
    intro a16 k16 s16 w16 hk16 ho hb
    have rl := hb
    clear hb
    have hC := Lib.hid ((q_hC.out.below rl.out).mono rl.out.size)
    have hP := Lib.hid ((q_hP.out.below rl.out).mono rl.out.size)
    have hQ := Lib.hid ((q_hQ.out.below rl.out).mono rl.out.size)
    have hY := Lib.hid ((q_hY.out.below rl.out).mono rl.out.size)
    have hNo := Lib.hid ((q_hNo.out.below rl.out).mono rl.out.size)
    go_wp2
    go_ret
    have hch := ch.out.trans (rl.out.mono ch.out.size)
    have heq : ifL c p q = [moveI n 0] ++ c ++ [jumpI 0 ((kn : Int) + 4), moveI 0 n] ++ cleanP q ++ [setI n ⟨#[49, 48, 48]⟩, jumpI n ((ky : Int) + 2), moveI 0 n] ++ cleanP p := by unfold ifL; simp only [HA.out, HB.out, HD.out, HN.out, cleanP_length, hky.out.1, hkn.out.1]; rfl
    exact ⟨.slice a16 k16 s16, rfl, by rw [heq]; have h9 := ho.out.lower ch.out.size; simpa using h9, hch⟩)
set_option maxHeartbeats 4000000 in
theorem refWhile_ok (x v : Value) (c p : List Ins) (w : World) (hc : InsRow w w.heap.size x c) (hp : InsRow w w.heap.size v p) (hvc : validB c = true) (hvp : validB p = true) :
    Calls Try.prog 42 #[x, v] w fun e w' => ∃ v', e = .returned v' ∧ OwnI w' w.heap.size v' (whileL c p) ∧ Below w.heap.size w w' := by
  have hc4 := validB_len hvc
  have hp4 := validB_len hvp
  have hrc := regN_le (validB_all hvc)
  have hrp := regN_le (validB_all hvp)
  have hC := Lib.hid hc
  have hP := Lib.hid hp
  clear hc hp
  obtain ⟨a, ha⟩ : ∃ a, regN c = a := ⟨_, rfl⟩
  obtain ⟨b, hb⟩ : ∃ b, regN p = b := ⟨_, rfl⟩
  rw [ha] at hrc
  rw [hb] at hrp
  have HA := Lib.hid ha
  have HB := Lib.hid hb
  obtain ⟨n, hn⟩ : ∃ n, max a b = n := ⟨_, rfl⟩
  have hnI : max (a : Int) (b : Int) = (n : Int) := by omega
  have hn32 : n ≤ 32 := by omega
  have HN := Lib.hid hn
  clear ha hb hn
  have ch := Lib.hid (Below.refl w.heap.size w)
  go_enter Try.func42, Try.ntmps42
  have kr := refRegs_ok x c _ hC.out hvc
  rw [HA.out] at kr
  go_wp2_with fail
  refine (kr).mono ?_
  rintro e w1 ⟨rfl, hq⟩
  have hC := Lib.hid ((hC.out.below hq).mono hq.size)
  have hP := Lib.hid ((hP.out.below hq).mono hq.size)
  have ch := Lib.hid (ch.out.trans (hq.mono ch.out.size))
  clear hq
  clear kr
  have kr := refRegs_ok v p _ hP.out hvp
  rw [HB.out] at kr
  go_wp2_with fail
  refine (kr).mono ?_
  rintro e w2 ⟨rfl, hq⟩
  have hC := Lib.hid ((hC.out.below hq).mono hq.size)
  have hP := Lib.hid ((hP.out.below hq).mono hq.size)
  have ch := Lib.hid (ch.out.trans (hq.mono ch.out.size))
  clear hq
  clear kr
  go_wp2_with fail
  refine (refclean_len v p _ hP.out hvp).mono ?_
  rintro e w3 ⟨ya, ky, yc, rfl, hky, hY, hq⟩
  have hC := Lib.hid ((hC.out.below hq).mono hq.size)
  have hP := Lib.hid ((hP.out.below hq).mono hq.size)
  have ch := Lib.hid (ch.out.trans (hq.mono ch.out.size))
  clear hq
  have hY := Lib.hid hY
  have hkyI : (ky : Int) ≤ 5000 := by have := hky.out; omega
  have hky0 : (0 : Int) ≤ (ky : Int) := Int.natCast_nonneg _
  go_wp2_with fail
  refine (rmove_any (n : Nat) 0 _).mono ?_
  rintro e w4 ⟨rfl, hq⟩
  have hC := Lib.hid ((hC.out.below hq).mono hq.size)
  have hP := Lib.hid ((hP.out.below hq).mono hq.size)
  have hY := Lib.hid ((hY.out.below hq).mono hq.size)
  have ch := Lib.hid (ch.out.trans (hq.mono ch.out.size))
  clear hq
  go_wp2_with fail
  have q_hC := hC
  have q_hP := hP
  have q_hY := hY
  have rl := Lib.hid (Below.refl w4.heap.size w4)
  obtain ⟨w5, hW⟩ : ∃ B, w4.alloc (.cells #[.int .i64 1, .int .i64 (n : Nat), .int .i64 0, .int .i64 0, .string ⟨#[]⟩] 52) = B := ⟨_, rfl⟩
  rw [hW]
  have hq : Below w4.heap.size w4 w5 := by rw [← hW]; exact (Below.refl _ _).alloc (Nat.le_refl _) _
  have ho := Lib.hid (show OwnI w5 w4.heap.size (.slice (some ⟨w4.heap.size, 0, none⟩) 1 1) [moveI n 0] by rw [← hW]; exact OwnI.lit w4 [moveI n 0] (by simp; exact moveI_wf _ _ (by omega) (by omega)) (by simp))
  clear hW
  have hC := Lib.hid ((hC.out.below hq).mono hq.size)
  have hP := Lib.hid ((hP.out.below hq).mono hq.size)
  have hY := Lib.hid ((hY.out.below hq).mono hq.size)
  have rl := Lib.hid (rl.out.trans (hq.mono rl.out.size))
  clear hq
  refine (refclean_len x c _ hC.out hvc).mono ?_
  rintro e w6 ⟨na, kn, nc, rfl, hkn, hNo, hq⟩
  have hC := Lib.hid ((hC.out.below hq).mono hq.size)
  have hP := Lib.hid ((hP.out.below hq).mono hq.size)
  have hY := Lib.hid ((hY.out.below hq).mono hq.size)
  have ho := Lib.hid (ho.out.below hq)
  have rl := Lib.hid (rl.out.trans (hq.mono rl.out.size))
  clear hq
  have hNo := Lib.hid hNo
  have ho0 := ho.out
  have hb0 := rl.out
  have hs0 := hNo.out
  go_wp2_with (at_builtin; refine app_row rfl _ _ rfl (v := .slice (some ⟨w4.heap.size, 0, none⟩) 1 1) (vx := .slice na kn nc) rfl ho0 rfl hs0 ?c2 hb0 ?_)
  case c2 => simp [cleanP_length]; have := hkn.out; omega
  clear ho0 hb0 hs0 ho
  intro a7 k7 s7 w7 hk7 ho hb
  have rl := hb
  clear hb
  have hC := Lib.hid ((q_hC.out.below rl.out).mono rl.out.size)
  have hP := Lib.hid ((q_hP.out.below rl.out).mono rl.out.size)
  have hY := Lib.hid ((q_hY.out.below rl.out).mono rl.out.size)
  clear hNo
  go_wp2_with fail
  refine (rjump_any 0 4 _).mono ?_
  rintro e w8 ⟨rfl, hq⟩
  have hC := Lib.hid ((hC.out.below hq).mono hq.size)
  have hP := Lib.hid ((hP.out.below hq).mono hq.size)
  have hY := Lib.hid ((hY.out.below hq).mono hq.size)
  have ho := Lib.hid (ho.out.below hq)
  have rl := Lib.hid (rl.out.trans (hq.mono rl.out.size))
  clear hq
  go_wp2_with fail
  refine (rmove_any 0 (n : Nat) _).mono ?_
  rintro e w9 ⟨rfl, hq⟩
  have hC := Lib.hid ((hC.out.below hq).mono hq.size)
  have hP := Lib.hid ((hP.out.below hq).mono hq.size)
  have hY := Lib.hid ((hY.out.below hq).mono hq.size)
  have ho := Lib.hid (ho.out.below hq)
  have rl := Lib.hid (rl.out.trans (hq.mono rl.out.size))
  clear hq
  go_wp2_with fail
  refine (rset_any (n : Nat) ⟨#[49, 48, 48]⟩ _).mono ?_
  rintro e w10 ⟨rfl, hq⟩
  have hC := Lib.hid ((hC.out.below hq).mono hq.size)
  have hP := Lib.hid ((hP.out.below hq).mono hq.size)
  have hY := Lib.hid ((hY.out.below hq).mono hq.size)
  have ho := Lib.hid (ho.out.below hq)
  have rl := Lib.hid (rl.out.trans (hq.mono rl.out.size))
  clear hq
  have ho0 := ho.out
  have hb0 := rl.out
  go_wp2_with (at_builtin; refine app_lit rfl _ _ rfl (v := .slice a7 k7 s7) (n := 3) [jumpI 0 4, moveI 0 n, setI n ⟨#[49, 48, 48]⟩] rfl ho0 rfl rfl ?c1 ?c2 hb0 ?_)
  case c1 => simp; exact ⟨jumpI_wf _ _ (by omega) (by omega), moveI_wf _ _ (by omega) (by omega), setI_wf _ _ (by omega) (by decide)⟩
  case c2 => simp [cleanP_length]; have := hkn.out; omega
  clear ho0 hb0 ho
  intro a11 k11 s11 w11 hk11 ho hb
  have rl := hb
  clear hb
  have hC := Lib.hid ((q_hC.out.below rl.out).mono rl.out.size)
  have hP := Lib.hid ((q_hP.out.below rl.out).mono rl.out.size)
  have hY := Lib.hid ((q_hY.out.below rl.out).mono rl.out.size)
  go_wp2_with fail
  refine (rjump_any (n : Nat) ((ky : Int) + 4) _).mono ?_
  rintro e w12 ⟨rfl, hq⟩
  have hC := Lib.hid ((hC.out.below hq).mono hq.size)
  have hP := Lib.hid ((hP.out.below hq).mono hq.size)
  have hY := Lib.hid ((hY.out.below hq).mono hq.size)
  have ho := Lib.hid (ho.out.below hq)
  have rl := Lib.hid (rl.out.trans (hq.mono rl.out.size))
  clear hq
  go_wp2_with fail
  refine (rmove_any 0 (n : Nat) _).mono ?_
  rintro e w13 ⟨rfl, hq⟩
  have hC := Lib.hid ((hC.out.below hq).mono hq.size)
  have hP := Lib.hid ((hP.out.below hq).mono hq.size)
  have hY := Lib.hid ((hY.out.below hq).mono hq.size)
  have ho := Lib.hid (ho.out.below hq)
  have rl := Lib.hid (rl.out.trans (hq.mono rl.out.size))
  clear hq
  have ho0 := ho.out
  have hb0 := rl.out
  go_wp2_with (at_builtin; refine app_lit rfl _ _ rfl (v := .slice a11 k11 s11) (n := 2) [jumpI n ((ky : Int) + 4), moveI 0 n] rfl ho0 rfl rfl ?c1 ?c2 hb0 ?_)
  case c1 => simp; exact ⟨jumpI_wf _ _ (by omega) (by omega), moveI_wf _ _ (by omega) (by omega)⟩
  case c2 => simp [cleanP_length]; have := hkn.out; omega
  clear ho0 hb0 ho
  intro a14 k14 s14 w14 hk14 ho hb
  have rl := hb
  clear hb
  have hC := Lib.hid ((q_hC.out.below rl.out).mono rl.out.size)
  have hP := Lib.hid ((q_hP.out.below rl.out).mono rl.out.size)
  have hY := Lib.hid ((q_hY.out.below rl.out).mono rl.out.size)
  have ho0 := ho.out
  have hb0 := rl.out
  have hs0 := hY.out
  go_wp2_with (at_builtin; refine app_row rfl _ _ rfl (v := .slice a14 k14 s14) (vx := .slice ya ky yc) rfl ho0 rfl hs0 ?c2 hb0 ?_)
  case c2 => simp [cleanP_length]; have := hkn.out; have := hky.out; omega
  clear ho0 hb0 hs0 ho
  intro a15 k15 s15 w15 hk15 ho hb
  have rl := hb
  clear hb
  have hC := Lib.hid ((q_hC.out.below rl.out).mono rl.out.size)
  have hP := Lib.hid ((q_hP.out.below rl.out).mono rl.out.size)
  have hY := Lib.hid ((q_hY.out.below rl.out).mono rl.out.size)
  go_wp2_with fail
  refine (rset_any (n : Nat) ⟨#[49, 48, 48]⟩ _).mono ?_
  rintro e w16 ⟨rfl, hq⟩
  have hC := Lib.hid ((hC.out.below hq).mono hq.size)
  have hP := Lib.hid ((hP.out.below hq).mono hq.size)
  have hY := Lib.hid ((hY.out.below hq).mono hq.size)
  have ho := Lib.hid (ho.out.below hq)
  have rl := Lib.hid (rl.out.trans (hq.mono rl.out.size))
  clear hq
  have ho0 := ho.out
  have hb0 := rl.out
  go_wp2_with (at_builtin; refine app_lit rfl _ _ rfl (v := .slice a15 k15 s15) (n := 1) [setI n ⟨#[49, 48, 48]⟩] rfl ho0 rfl rfl ?c1 ?c2 hb0 ?_)
  case c1 => simp; exact setI_wf _ _ (by omega) (by decide)
  case c2 => simp [cleanP_length]; have := hkn.out; have := hky.out; omega
  clear ho0 hb0 ho
  intro a17 k17 s17 w17 hk17 ho hb
  have rl := hb
  clear hb
  have hC := Lib.hid ((q_hC.out.below rl.out).mono rl.out.size)
  have hP := Lib.hid ((q_hP.out.below rl.out).mono rl.out.size)
  have hY := Lib.hid ((q_hY.out.below rl.out).mono rl.out.size)
  have hwh : whileH c p = [moveI n 0] ++ cleanP c ++ [jumpI 0 4, moveI 0 n, setI n ⟨#[49, 48, 48]⟩] ++ [jumpI n ((ky : Int) + 4), moveI 0 n] ++ cleanP p ++ [setI n ⟨#[49, 48, 48]⟩] := by unfold whileH; simp only [HA.out, HB.out, HN.out, cleanP_length, hky.out.1]; simp
  have hlw : Hid ((whileH c p).length = k17) := Lib.hid (by rw [hwh]; have h8 := hk17.out; simp [cleanP_length] at h8 ⊢; have := hkn.out; omega)
  have hkw : (k17 : Int) ≤ 20000 := by have h8 := hk17.out; simp [cleanP_length] at h8; have := hkn.out; have := hky.out; omega
  have hkw0 : (0 : Int) ≤ (k17 : Int) := Int.natCast_nonneg _
  have ho := Lib.hid (show OwnI _ _ _ (whileH c p) by rw [hwh]; have h9 := ho.out; simpa using h9)
  clear hwh
  go_wp2_with fail
  refine (rjump_any (n : Nat) (-(k17 : Int)) _).mono ?_
  rintro e w18 ⟨rfl, hq⟩
  have hC := Lib.hid ((hC.out.below hq).mono hq.size)
  have hP := Lib.hid ((hP.out.below hq).mono hq.size)
  have hY := Lib.hid ((hY.out.below hq).mono hq.size)
  have ho := Lib.hid (ho.out.below hq)
  have rl := Lib.hid (rl.out.trans (hq.mono rl.out.size))
  clear hq
  have ho0 := ho.out
  have hb0 := rl.out
  go_wp2_with (at_builtin; refine app_lit rfl _ _ rfl (v := .slice a17 k17 s17) (n := 1) [jumpI n (-(k17 : Int))] rfl ho0 rfl rfl ?c1 ?c2 hb0 ?_)
  case c1 => simp; exact jumpI_wf _ _ (by omega) (by omega)
  case c2 => rw [hlw.out]; omega
  clear ho0 hb0 ho
  intro a19 k19 s19 w19 hk19 ho hb
  have rl := hb
  clear hb
  have hC := Lib.hid ((q_hC.out.below rl.out).mono rl.out.size)
  have hP := Lib.hid ((q_hP.out.below rl.out).mono rl.out.size)
  have hY := Lib.hid ((q_hY.out.below rl.out).mono rl.out.size)
  go_wp2
  go_ret
  have hch := ch.out.trans (rl.out.mono ch.out.size)
  have heq : whileL c p = whileH c p ++ [jumpI n (-(k17 : Int))] := by unfold whileL; rw [HA.out, HB.out, HN.out, hlw.out]
  exact ⟨.slice a19 k19 s19, rfl, by rw [heq]; have h9 := ho.out.lower ch.out.size; simpa using h9, hch⟩
end Go.Proofs.Ytaiomcjopgnfpaa

namespace Go.Proofs.Ytaiomcjopgnfpaa
open Go.RowKit

/-- The error that is due for programs and for what is made of them; what is handed back. -/
def dueN (ls : List (List Ins)) (m : List Ins) : Int := if allV ls = false then 1 else if 28 < mostR ls then 8 else if validB m = true then 0 else 3
def MadeOut (w : World) (d : Int) (m : List Ins) (e : Ending) (w' : World) : Prop := (if d = 0 then ∃ v', e = .returned (.tuple #[v', .int .i64 0]) ∧ InsRow w' w'.heap.size v' m else e = .returned (.tuple #[.slice none 0 0, .int .i64 d])) ∧ Below w.heap.size w w'
theorem MadeOut.bad {w w' : World} {d : Int} {m : List Ins} {e : Ending} (hd : d ≠ 0) (he : e = .returned (.tuple #[.slice none 0 0, .int .i64 d])) (hb : Below w.heap.size w w') : MadeOut w d m e w' := ⟨by rw [if_neg hd]; exact he, hb⟩
theorem MadeOut.ok {w w' : World} {d : Int} {m : List Ins} {e : Ending} {v' : Value} (hd : d = 0) (he : e = .returned (.tuple #[v', .int .i64 0])) (hr : InsRow w' w'.heap.size v' m) (hb : Below w.heap.size w w') : MadeOut w d m e w' := ⟨by rw [if_pos hd]; exact ⟨v', he, hr⟩, hb⟩
theorem concat_len (v : Value) (ls : List (List Ins)) (w : World) (hl : ProgsRow w w.heap.size v ls) (hT : lenS ls ≤ 1000000000) :
    Calls Try.prog 81 #[v] w fun e w' => ∃ a k c, e = .returned (.slice a k c) ∧ Hid (k = lenS ls) ∧ OwnI w' w.heap.size (.slice a k c) ls.flatten ∧ Below w.heap.size w w' := by
  refine (concat_any v ls w hl hT).mono ?_
  rintro e w' ⟨v', rfl, h1, h2⟩
  obtain ⟨a, c, rfl⟩ := h1.slice
  rw [lenS_flatten] at h1 ⊢
  exact ⟨a, _, c, rfl, Lib.hid rfl, h1, h2⟩
theorem fresh_len (v : Value) (l : List Ins) (w : World) (hl : InsRow w w.heap.size v l) (hv : validB l = true) :
    Calls Try.prog 69 #[v] w fun e w' => ∃ a k c, e = .returned (.slice a k c) ∧ Hid (k = mostN l + l.length ∧ mostN l < 32) ∧ InsRow w' w'.heap.size (.slice a k c) (cleanP l) ∧ Below w.heap.size w w' := by
  have hm := mostN_lt (validB_all hv) l.length (Nat.le_refl _)
  rw [mostN_all] at hm
  refine (fresh_ok v l w hl hv).mono ?_
  rintro e w' ⟨v', rfl, h1, h2⟩
  obtain ⟨a, c, rfl⟩ := h1.len
  rw [cleanP_length] at h1 ⊢
  exact ⟨a, _, c, rfl, Lib.hid ⟨rfl, hm⟩, h1, h2⟩
theorem done_ok (a : Option Addr) (n c : Nat) (l : List Ins) (w : World) (hl : InsRow w w.heap.size (.slice a n c) l) (hv : validB l = true) :
    Calls Try.prog 70 #[.slice a n c] w fun e w' => e = .returned (.tuple #[.slice a n c, .int .i64 0]) ∧ Below w.heap.size w w' := by
  refine (done_any a n c l w hl).mono ?_
  rintro e w' ⟨rfl, h⟩
  exact ⟨by unfold DoneOut; rw [if_pos hv], h⟩
theorem done_bad (a : Option Addr) (n c : Nat) (l : List Ins) (w : World) (hl : InsRow w w.heap.size (.slice a n c) l) (hv : validB l = false) :
    Calls Try.prog 70 #[.slice a n c] w fun e w' => e = .returned (.tuple #[.slice none 0 0, .int .i64 3]) ∧ Below w.heap.size w w' := by
  refine (done_any a n c l w hl).mono ?_
  rintro e w' ⟨rfl, h⟩
  exact ⟨by unfold DoneOut; rw [if_neg (by rw [hv]; simp)], h⟩

set_option maxHeartbeats 4000000 in
theorem bPair_form (pa : Option Addr) (pn pc : Nat) (qa : Option Addr) (qn qc : Nat) (p q : List Ins) (w : World) (hhP : InsRow w w.heap.size (.slice pa pn pc) p) (hhQ : InsRow w w.heap.size (.slice qa qn qc) q) (HV : Hid (allV [p, q] = false)) :
    Calls Try.prog 37 #[.slice pa pn pc, .slice qa qn qc] w (MadeOut w 1 (pairL p q)) := by
  have hP := Lib.hid hhP
  clear hhP
  have hQ := Lib.hid hhQ
  clear hhQ
  have ch := Lib.hid (Below.refl w.heap.size w)
  go_enter Try.func37, Try.ntmps37
  go_wp2_with fail
  have hL0 := ProgsRow.lit (w := w) [.slice pa pn pc, .slice qa qn qc] [p, q] rfl (by simp) (fun j u l hu hl => match j, u, l, hu, hl with | 0, _, _, hu, hl => by cases hu; cases hl; exact hP.out | 1, _, _, hu, hl => by cases hu; cases hl; exact hQ.out)
  obtain ⟨w1, hW⟩ : ∃ B, w.alloc (.cells #[.slice pa pn pc, .slice qa qn qc] 25) = B := ⟨_, rfl⟩
  rw [hW]
  have hq : Below w.heap.size w w1 := by rw [← hW]; exact (Below.refl _ _).alloc (Nat.le_refl _) _
  have hL := Lib.hid (show ProgsRow w1 w1.heap.size (.slice (some ⟨w.heap.size, 0, none⟩) 2 2) [p, q] by rw [← hW]; exact hL0)
  clear hW hL0
  have hP := Lib.hid ((hP.out.below hq).mono hq.size)
  have hQ := Lib.hid ((hQ.out.below hq).mono hq.size)
  have ch := Lib.hid (ch.out.trans (hq.mono ch.out.size))
  clear hq
  have kc := check_any _ _ _ hL.out
  rw [show CheckOut [p, q] = .tuple #[.int .i64 0, .int .i64 1] by unfold CheckOut; rw [if_pos HV.out]] at kc
  refine (kc).mono ?_
  rintro e w2 ⟨rfl, hq⟩
  have hP := Lib.hid ((hP.out.below hq).mono hq.size)
  have hQ := Lib.hid ((hQ.out.below hq).mono hq.size)
  have ch := Lib.hid (ch.out.trans (hq.mono ch.out.size))
  clear hq
  clear kc hL
  go_wp2
  refine bodyPost_ret (v := .tuple #[.slice none 0 0, .int .i64 1]) (by simp [results, Try.results37, go_sem]) rfl ?_
  exact MadeOut.bad (by decide) rfl ch.out

set_option maxHeartbeats 4000000 in
theorem bPair_regs (pa : Option Addr) (pn pc : Nat) (qa : Option Addr) (qn qc : Nat) (p q : List Ins) (w : World) (hhP : InsRow w w.heap.size (.slice pa pn pc) p) (hhQ : InsRow w w.heap.size (.slice qa qn qc) q) (HV : Hid (allV [p, q] = true)) (HR : Hid (28 < mostR [p, q])) :
    Calls Try.prog 37 #[.slice pa pn pc, .slice qa qn qc] w (MadeOut w 8 (pairL p q)) := by
  have hP := Lib.hid hhP
  clear hhP
  have hQ := Lib.hid hhQ
  clear hhQ
  have ch := Lib.hid (Below.refl w.heap.size w)
  go_enter Try.func37, Try.ntmps37
  go_wp2_with fail
  have hL0 := ProgsRow.lit (w := w) [.slice pa pn pc, .slice qa qn qc] [p, q] rfl (by simp) (fun j u l hu hl => match j, u, l, hu, hl with | 0, _, _, hu, hl => by cases hu; cases hl; exact hP.out | 1, _, _, hu, hl => by cases hu; cases hl; exact hQ.out)
  obtain ⟨w1, hW⟩ : ∃ B, w.alloc (.cells #[.slice pa pn pc, .slice qa qn qc] 25) = B := ⟨_, rfl⟩
  rw [hW]
  have hq : Below w.heap.size w w1 := by rw [← hW]; exact (Below.refl _ _).alloc (Nat.le_refl _) _
  have hL := Lib.hid (show ProgsRow w1 w1.heap.size (.slice (some ⟨w.heap.size, 0, none⟩) 2 2) [p, q] by rw [← hW]; exact hL0)
  clear hW hL0
  have hP := Lib.hid ((hP.out.below hq).mono hq.size)
  have hQ := Lib.hid ((hQ.out.below hq).mono hq.size)
  have ch := Lib.hid (ch.out.trans (hq.mono ch.out.size))
  clear hq
  have kc := check_any _ _ _ hL.out
  rw [show CheckOut [p, q] = .tuple #[.int .i64 0, .int .i64 8] by unfold CheckOut; rw [if_neg (by rw [HV.out]; simp), if_pos HR.out]] at kc
  refine (kc).mono ?_
  rintro e w2 ⟨rfl, hq⟩
  have hP := Lib.hid ((hP.out.below hq).mono hq.size)
  have hQ := Lib.hid ((hQ.out.below hq).mono hq.size)
  have ch := Lib.hid (ch.out.trans (hq.mono ch.out.size))
  clear hq
  clear kc hL
  go_wp2
  refine bodyPost_ret (v := .tuple #[.slice none 0 0, .int .i64 8]) (by simp [results, Try.results37, go_sem]) rfl ?_
  exact MadeOut.bad (by decide) rfl ch.out

set_option maxHeartbeats 4000000 in
theorem bPair_ok (pa : Option Addr) (pn pc : Nat) (qa : Option Addr) (qn qc : Nat) (p q : List Ins) (w : World) (hhP : InsRow w w.heap.size (.slice pa pn pc) p) (hhQ : InsRow w w.heap.size (.slice qa qn qc) q) (HV : Hid (allV [p, q] = true)) (n : Nat) (HN : Hid (mostR [p, q] = n)) (hn28 : n ≤ 28) (d : Int) (HD : Hid ((if validB (pairL p q) = true then 0 else 3) = d)) :
    Calls Try.prog 37 #[.slice pa pn pc, .slice qa qn qc] w (MadeOut w d (pairL p q)) := by
  have hP := Lib.hid hhP
  clear hhP
  have hQ := Lib.hid hhQ
  clear hhQ
  have ch := Lib.hid (Below.refl w.heap.size w)
  go_enter Try.func37, Try.ntmps37
  go_wp2_with fail
  have hL0 := ProgsRow.lit (w := w) [.slice pa pn pc, .slice qa qn qc] [p, q] rfl (by simp) (fun j u l hu hl => match j, u, l, hu, hl with | 0, _, _, hu, hl => by cases hu; cases hl; exact hP.out | 1, _, _, hu, hl => by cases hu; cases hl; exact hQ.out)
  obtain ⟨w1, hW⟩ : ∃ B, w.alloc (.cells #[.slice pa pn pc, .slice qa qn qc] 25) = B := ⟨_, rfl⟩
  rw [hW]
  have hq : Below w.heap.size w w1 := by rw [← hW]; exact (Below.refl _ _).alloc (Nat.le_refl _) _
  have hL := Lib.hid (show ProgsRow w1 w1.heap.size (.slice (some ⟨w.heap.size, 0, none⟩) 2 2) [p, q] by rw [← hW]; exact hL0)
  clear hW hL0
  have hP := Lib.hid ((hP.out.below hq).mono hq.size)
  have hQ := Lib.hid ((hQ.out.below hq).mono hq.size)
  have ch := Lib.hid (ch.out.trans (hq.mono ch.out.size))
  clear hq
  have kc := check_any _ _ _ hL.out
  rw [show CheckOut [p, q] = .tuple #[.int .i64 (n : Nat), .int .i64 0] by unfold CheckOut; rw [if_neg (by rw [HV.out]; simp), if_neg (by rw [HN.out]; omega), HN.out]] at kc
  refine (kc).mono ?_
  rintro e w2 ⟨rfl, hq⟩
  have hP := Lib.hid ((hP.out.below hq).mono hq.size)
  have hQ := Lib.hid ((hQ.out.below hq).mono hq.size)
  have ch := Lib.hid (ch.out.trans (hq.mono ch.out.size))
  clear hq
  clear kc hL
  have hvp := allV_get HV.out (k := 0) (l := p) rfl
  have hvq := allV_get HV.out (k := 1) (l := q) rfl
  have hp4 := validB_len hvp
  have hq4 := validB_len hvq
  have hmax : Hid (max (regN p) (regN q) = n) := Lib.hid (by have h1 := HN.out; have h2 := regN_le (validB_all hvp); unfold mostR at h1; simp at h1; omega)
  have s1 : IntKind.i64.wrap ((n : Int) + 1) = (n : Int) + 1 := IntWalk.i64_in _ (by omega)
  go_wp2_with fail
  refine (bmove_any (n : Nat) 0 _).mono ?_
  rintro e w3 ⟨rfl, hq⟩
  have hP := Lib.hid ((hP.out.below hq).mono hq.size)
  have hQ := Lib.hid ((hQ.out.below hq).mono hq.size)
  have ch := Lib.hid (ch.out.trans (hq.mono ch.out.size))
  clear hq
  go_wp2_with fail
  obtain ⟨w4, hW⟩ : ∃ B, w3.alloc (.cells #[.int .i64 1, .int .i64 (n : Nat), .int .i64 0, .int .i64 0, .string ⟨#[]⟩] 52) = B := ⟨_, rfl⟩
  rw [hW]
  have hq : Below w3.heap.size w3 w4 := by rw [← hW]; exact (Below.refl _ _).alloc (Nat.le_refl _) _
  have hM1 := Lib.hid (show InsRow w4 w4.heap.size (.slice (some ⟨w3.heap.size, 0, none⟩) 1 1) [moveI n 0] by rw [← hW]; exact (OwnI.lit w3 [moveI n 0] (by simp; exact moveI_wf _ _ (by omega) (by omega)) (by simp)).row (by simp))
  clear hW
  have hP := Lib.hid ((hP.out.below hq).mono hq.size)
  have hQ := Lib.hid ((hQ.out.below hq).mono hq.size)
  have ch := Lib.hid (ch.out.trans (hq.mono ch.out.size))
  clear hq
  refine (bmove_any ((n : Int) + 1) 0 _).mono ?_
  rintro e w5 ⟨rfl, hq⟩
  have hP := Lib.hid ((hP.out.below hq).mono hq.size)
  have hQ := Lib.hid ((hQ.out.below hq).mono hq.size)
  have hM1 := Lib.hid ((hM1.out.below hq).mono hq.size)
  have ch := Lib.hid (ch.out.trans (hq.mono ch.out.size))
  clear hq
  go_wp2_with fail
  refine (bmove_any 0 (n : Nat) _).mono ?_
  rintro e w6 ⟨rfl, hq⟩
  have hP := Lib.hid ((hP.out.below hq).mono hq.size)
  have hQ := Lib.hid ((hQ.out.below hq).mono hq.size)
  have hM1 := Lib.hid ((hM1.out.below hq).mono hq.size)
  have ch := Lib.hid (ch.out.trans (hq.mono ch.out.size))
  clear hq
  go_wp2_with fail
  obtain ⟨w7, hW⟩ : ∃ B, w6.alloc (.cells #[.int .i64 1, .int .i64 ((n : Int) + 1), .int .i64 0, .int .i64 0, .string ⟨#[]⟩, .int .i64 1, .int .i64 0, .int .i64 (n : Nat), .int .i64 0, .string ⟨#[]⟩] 52) = B := ⟨_, rfl⟩
  rw [hW]
  have hq : Below w6.heap.size w6 w7 := by rw [← hW]; exact (Below.refl _ _).alloc (Nat.le_refl _) _
  have hM2 := Lib.hid (show InsRow w7 w7.heap.size (.slice (some ⟨w6.heap.size, 0, none⟩) 2 2) [moveI (n + 1) 0, moveI 0 n] by rw [← hW]; exact (OwnI.lit w6 [moveI (n + 1) 0, moveI 0 n] (by simp; exact ⟨moveI_wf _ _ (by omega) (by omega), moveI_wf _ _ (by omega) (by omega)⟩) (by simp)).row (by simp))
  clear hW
  have hP := Lib.hid ((hP.out.below hq).mono hq.size)
  have hQ := Lib.hid ((hQ.out.below hq).mono hq.size)
  have hM1 := Lib.hid ((hM1.out.below hq).mono hq.size)
  have ch := Lib.hid (ch.out.trans (hq.mono ch.out.size))
  clear hq
  refine (fresh_len _ q _ hQ.out hvq).mono ?_
  rintro e w8 ⟨fa, fk, fc, rfl, hfk, hF, hq⟩
  have hP := Lib.hid ((hP.out.below hq).mono hq.size)
  have hQ := Lib.hid ((hQ.out.below hq).mono hq.size)
  have hM1 := Lib.hid ((hM1.out.below hq).mono hq.size)
  have hM2 := Lib.hid ((hM2.out.below hq).mono hq.size)
  have ch := Lib.hid (ch.out.trans (hq.mono ch.out.size))
  clear hq
  have hF := Lib.hid hF
  go_wp2_with fail
  have hL0 := ProgsRow.lit (w := w8) [.slice (some ⟨w3.heap.size, 0, none⟩) 1 1, .slice pa pn pc, .slice (some ⟨w6.heap.size, 0, none⟩) 2 2, .slice fa fk fc] [[moveI n 0], p, [moveI (n + 1) 0, moveI 0 n], cleanP q] rfl (by simp) (fun j u l hu hl => match j, u, l, hu, hl with | 0, _, _, hu, hl => by cases hu; cases hl; exact hM1.out | 1, _, _, hu, hl => by cases hu; cases hl; exact hP.out | 2, _, _, hu, hl => by cases hu; cases hl; exact hM2.out | 3, _, _, hu, hl => by cases hu; cases hl; exact hF.out)
  obtain ⟨w9, hW⟩ : ∃ B, w8.alloc (.cells #[.slice (some ⟨w3.heap.size, 0, none⟩) 1 1, .slice pa pn pc, .slice (some ⟨w6.heap.size, 0, none⟩) 2 2, .slice fa fk fc] 25) = B := ⟨_, rfl⟩
  rw [hW]
  have hq : Below w8.heap.size w8 w9 := by rw [← hW]; exact (Below.refl _ _).alloc (Nat.le_refl _) _
  have hL := Lib.hid (show ProgsRow w9 w9.heap.size (.slice (some ⟨w8.heap.size, 0, none⟩) 4 4) [[moveI n 0], p, [moveI (n + 1) 0, moveI 0 n], cleanP q] by rw [← hW]; exact hL0)
  clear hW hL0
  have hP := Lib.hid ((hP.out.below hq).mono hq.size)
  have hQ := Lib.hid ((hQ.out.below hq).mono hq.size)
  have hM1 := Lib.hid ((hM1.out.below hq).mono hq.size)
  have hM2 := Lib.hid ((hM2.out.below hq).mono hq.size)
  have hF := Lib.hid ((hF.out.below hq).mono hq.size)
  have ch := Lib.hid (ch.out.trans (hq.mono ch.out.size))
  clear hq
  have q_hP := hP
  have q_hQ := hQ
  have q_hM1 := hM1
  have q_hM2 := hM2
  have q_hF := hF
  have rl := Lib.hid (Below.refl w9.heap.size w9)
  refine (concat_len _ _ _ hL.out (by simp [lenS, cleanP_length]; have := hfk.out; omega)).mono ?_
  rintro e w10 ⟨ca, ck, cc, rfl, hck, ho, hq⟩
  have hP := Lib.hid ((hP.out.below hq).mono hq.size)
  have hQ := Lib.hid ((hQ.out.below hq).mono hq.size)
  have hM1 := Lib.hid ((hM1.out.below hq).mono hq.size)
  have hM2 := Lib.hid ((hM2.out.below hq).mono hq.size)
  have hF := Lib.hid ((hF.out.below hq).mono hq.size)
  have rl := Lib.hid (rl.out.trans (hq.mono rl.out.size))
  clear hq
  have ho := Lib.hid ho
  have ho0 := ho.out
  have hb0 := rl.out
  go_wp2_with (at_builtin; refine app_lit rfl _ _ rfl (v := .slice ca ck cc) (n := 1) [consI 0 (n + 1) 0] rfl ho0 rfl rfl ?c1 ?c2 hb0 ?_)
  case c1 => simp; exact consI_wf _ _ _ (by omega) (by omega) (by omega)
  case c2 => simp [cleanP_length]; have := hfk.out; omega
  clear ho0 hb0 ho
  intro a11 k11 s11 w11 hk11 ho hb
  have rl := hb
  clear hb
  have hP := Lib.hid ((q_hP.out.below rl.out).mono rl.out.size)
  have hQ := Lib.hid ((q_hQ.out.below rl.out).mono rl.out.size)
  have hM1 := Lib.hid ((q_hM1.out.below rl.out).mono rl.out.size)
  have hM2 := Lib.hid ((q_hM2.out.below rl.out).mono rl.out.size)
  have hF := Lib.hid ((q_hF.out.below rl.out).mono rl.out.size)
  have heq : pairL p q = [[moveI n 0], p, [moveI (n + 1) 0, moveI 0 n], cleanP q].flatten ++ [consI 0 (n + 1) 0] := by unfold pairL; simp only [hmax.out]; simp
  have hrow := Lib.hid (show InsRow _ _ (.slice a11 k11 s11) (pairL p q) by rw [heq]; have h9 := ho.out.row (by simp [cleanP_length]; have := hfk.out; omega); simpa using h9)
  clear heq
  cases hvm : validB (pairL p q)
  · have HM := Lib.hid (hrow.out)
    go_wp2_with fail
    refine (done_bad _ _ _ _ _ HM.out hvm).mono ?_
    rintro e w12 ⟨rfl, hq⟩
    have hP := Lib.hid ((hP.out.below hq).mono hq.size)
    have hQ := Lib.hid ((hQ.out.below hq).mono hq.size)
    have hM1 := Lib.hid ((hM1.out.below hq).mono hq.size)
    have hM2 := Lib.hid ((hM2.out.below hq).mono hq.size)
    have hF := Lib.hid ((hF.out.below hq).mono hq.size)
    have HM := Lib.hid ((HM.out.below hq).mono hq.size)
    have rl := Lib.hid (rl.out.trans (hq.mono rl.out.size))
    clear hq
    go_wp2
    have hch := ch.out.trans (rl.out.mono ch.out.size)
    refine bodyPost_ret (v := .tuple #[.slice none 0 0, .int .i64 3]) (by simp [results, Try.results37, go_sem]) rfl ?_
    rw [← HD.out, hvm, if_neg (by simp)]
    exact MadeOut.bad (by decide) rfl hch
  · have HM := Lib.hid (hrow.out)
    go_wp2_with fail
    refine (done_ok _ _ _ _ _ HM.out hvm).mono ?_
    rintro e w12 ⟨rfl, hq⟩
    have hP := Lib.hid ((hP.out.below hq).mono hq.size)
    have hQ := Lib.hid ((hQ.out.below hq).mono hq.size)
    have hM1 := Lib.hid ((hM1.out.below hq).mono hq.size)
    have hM2 := Lib.hid ((hM2.out.below hq).mono hq.size)
    have hF := Lib.hid ((hF.out.below hq).mono hq.size)
    have HM := Lib.hid ((HM.out.below hq).mono hq.size)
    have rl := Lib.hid (rl.out.trans (hq.mono rl.out.size))
    clear hq
    go_wp2
    have hch := ch.out.trans (rl.out.mono ch.out.size)
    refine bodyPost_ret (v := .tuple #[.slice a11 k11 s11, .int .i64 0]) (by simp [results, Try.results37, go_sem]) rfl ?_
    rw [← HD.out, hvm, if_pos rfl]
    exact MadeOut.ok rfl rfl HM.out hch

theorem bPair_any (pa : Option Addr) (pn pc : Nat) (qa : Option Addr) (qn qc : Nat) (p q : List Ins) (w : World) (hhP : InsRow w w.heap.size (.slice pa pn pc) p) (hhQ : InsRow w w.heap.size (.slice qa qn qc) q) : Calls Try.prog 37 #[.slice pa pn pc, .slice qa qn qc] w (MadeOut w (dueN [p, q] (pairL p q)) (pairL p q)) := by
  unfold dueN
  cases hv : allV [p, q] with
  | false => rw [if_pos rfl]; exact bPair_form pa pn pc qa qn qc p q w hhP hhQ (Lib.hid hv)
  | true =>
    rw [if_neg (by simp)]
    by_cases hr : 28 < mostR [p, q]
    · rw [if_pos hr]; exact bPair_regs pa pn pc qa qn qc p q w hhP hhQ (Lib.hid hv) (Lib.hid hr)
    · rw [if_neg hr]; exact bPair_ok pa pn pc qa qn qc p q w hhP hhQ (Lib.hid hv) _ (Lib.hid rfl) (by omega) _ (Lib.hid rfl)

theorem leap_len (r : Nat) (hr : r ≤ 1000) (p : Int) (hp : i64 p) (w : World) :
    Calls Try.prog 80 #[.int .i64 r, .int .i64 p] w fun e w' => ∃ a c, e = .returned (.slice a 2 c) ∧ InsRow w' w'.heap.size (.slice a 2 c) [setI r ⟨#[49, 48, 48]⟩, jumpI r p] ∧ Below w.heap.size w w' := by
  refine (leap_any r hr p hp w).mono ?_
  rintro e w' ⟨v', rfl, h1, h2⟩
  obtain ⟨a, c, rfl⟩ := h1.len
  exact ⟨a, c, rfl, h1, h2⟩

set_option maxHeartbeats 4000000 in
theorem bIf_form (ca0 : Option Addr) (cn0 cc0 : Nat) (pa : Option Addr) (pn pc : Nat) (qa : Option Addr) (qn qc : Nat) (c p q : List Ins) (w : World) (hhC : InsRow w w.heap.size (.slice ca0 cn0 cc0) c) (hhP : InsRow w w.heap.size (.slice pa pn pc) p) (hhQ : InsRow w w.heap.size (.slice qa qn qc) q) (HV : Hid (allV [c, p, q] = false)) :
    Calls Try.prog 39 #[.slice ca0 cn0 cc0, .slice pa pn pc, .slice qa qn qc] w (MadeOut w 1 (ifL c p q)) := by
  have hC := Lib.hid hhC
  clear hhC
  have hP := Lib.hid hhP
  clear hhP
  have hQ := Lib.hid hhQ
  clear hhQ
  have ch := Lib.hid (Below.refl w.heap.size w)
  go_enter Try.func39, Try.ntmps39
  go_wp2_with fail
  have hL0 := ProgsRow.lit (w := w) [.slice ca0 cn0 cc0, .slice pa pn pc, .slice qa qn qc] [c, p, q] rfl (by simp) (fun j u l hu hl => match j, u, l, hu, hl with | 0, _, _, hu, hl => by cases hu; cases hl; exact hC.out | 1, _, _, hu, hl => by cases hu; cases hl; exact hP.out | 2, _, _, hu, hl => by cases hu; cases hl; exact hQ.out)
  obtain ⟨w1, hW⟩ : ∃ B, w.alloc (.cells #[.slice ca0 cn0 cc0, .slice pa pn pc, .slice qa qn qc] 25) = B := ⟨_, rfl⟩
  rw [hW]
  have hq : Below w.heap.size w w1 := by rw [← hW]; exact (Below.refl _ _).alloc (Nat.le_refl _) _
  have hL := Lib.hid (show ProgsRow w1 w1.heap.size (.slice (some ⟨w.heap.size, 0, none⟩) 3 3) [c, p, q] by rw [← hW]; exact hL0)
  clear hW hL0
  have hC := Lib.hid ((hC.out.below hq).mono hq.size)
  have hP := Lib.hid ((hP.out.below hq).mono hq.size)
  have hQ := Lib.hid ((hQ.out.below hq).mono hq.size)
  have ch := Lib.hid (ch.out.trans (hq.mono ch.out.size))
  clear hq
  have kc := check_any _ _ _ hL.out
  rw [show CheckOut [c, p, q] = .tuple #[.int .i64 0, .int .i64 1] by unfold CheckOut; rw [if_pos HV.out]] at kc
  refine (kc).mono ?_
  rintro e w2 ⟨rfl, hq⟩
  have hC := Lib.hid ((hC.out.below hq).mono hq.size)
  have hP := Lib.hid ((hP.out.below hq).mono hq.size)
  have hQ := Lib.hid ((hQ.out.below hq).mono hq.size)
  have ch := Lib.hid (ch.out.trans (hq.mono ch.out.size))
  clear hq
  clear kc hL
  go_wp2
  refine bodyPost_ret (v := .tuple #[.slice none 0 0, .int .i64 1]) (by simp [results, Try.results39, go_sem]) rfl ?_
  exact MadeOut.bad (by decide) rfl ch.out

set_option maxHeartbeats 4000000 in
theorem bIf_regs (ca0 : Option Addr) (cn0 cc0 : Nat) (pa : Option Addr) (pn pc : Nat) (qa : Option Addr) (qn qc : Nat) (c p q : List Ins) (w : World) (hhC : InsRow w w.heap.size (.slice ca0 cn0 cc0) c) (hhP : InsRow w w.heap.size (.slice pa pn pc) p) (hhQ : InsRow w w.heap.size (.slice qa qn qc) q) (HV : Hid (allV [c, p, q] = true)) (HR : Hid (28 < mostR [c, p, q])) :
    Calls Try.prog 39 #[.slice ca0 cn0 cc0, .slice pa pn pc, .slice qa qn qc] w (MadeOut w 8 (ifL c p q)) := by
  have hC := Lib.hid hhC
  clear hhC
  have hP := Lib.hid hhP
  clear hhP
  have hQ := Lib.hid hhQ
  clear hhQ
  have ch := Lib.hid (Below.refl w.heap.size w)
  go_enter Try.func39, Try.ntmps39
  go_wp2_with fail
  have hL0 := ProgsRow.lit (w := w) [.slice ca0 cn0 cc0, .slice pa pn pc, .slice qa qn qc] [c, p, q] rfl (by simp) (fun j u l hu hl => match j, u, l, hu, hl with | 0, _, _, hu, hl => by cases hu; cases hl; exact hC.out | 1, _, _, hu, hl => by cases hu; cases hl; exact hP.out | 2, _, _, hu, hl => by cases hu; cases hl; exact hQ.out)
  obtain ⟨w1, hW⟩ : ∃ B, w.alloc (.cells #[.slice ca0 cn0 cc0, .slice pa pn pc, .slice qa qn qc] 25) = B := ⟨_, rfl⟩
  rw [hW]
  have hq : Below w.heap.size w w1 := by rw [← hW]; exact (Below.refl _ _).alloc (Nat.le_refl _) _
  have hL := Lib.hid (show ProgsRow w1 w1.heap.size (.slice (some ⟨w.heap.size, 0, none⟩) 3 3) [c, p, q] by rw [← hW]; exact hL0)
  clear hW hL0
  have hC := Lib.hid ((hC.out.below hq).mono hq.size)
  have hP := Lib.hid ((hP.out.below hq).mono hq.size)
  have hQ := Lib.hid ((hQ.out.below hq).mono hq.size)
  have ch := Lib.hid (ch.out.trans (hq.mono ch.out.size))
  clear hq
  have kc := check_any _ _ _ hL.out
  rw [show CheckOut [c, p, q] = .tuple #[.int .i64 0, .int .i64 8] by unfold CheckOut; rw [if_neg (by rw [HV.out]; simp), if_pos HR.out]] at kc
  refine (kc).mono ?_
  rintro e w2 ⟨rfl, hq⟩
  have hC := Lib.hid ((hC.out.below hq).mono hq.size)
  have hP := Lib.hid ((hP.out.below hq).mono hq.size)
  have hQ := Lib.hid ((hQ.out.below hq).mono hq.size)
  have ch := Lib.hid (ch.out.trans (hq.mono ch.out.size))
  clear hq
  clear kc hL
  go_wp2
  refine bodyPost_ret (v := .tuple #[.slice none 0 0, .int .i64 8]) (by simp [results, Try.results39, go_sem]) rfl ?_
  exact MadeOut.bad (by decide) rfl ch.out

set_option maxHeartbeats 4000000 in
theorem bIf_ok (ca0 : Option Addr) (cn0 cc0 : Nat) (pa : Option Addr) (pn pc : Nat) (qa : Option Addr) (qn qc : Nat) (c p q : List Ins) (w : World) (hhC : InsRow w w.heap.size (.slice ca0 cn0 cc0) c) (hhP : InsRow w w.heap.size (.slice pa pn pc) p) (hhQ : InsRow w w.heap.size (.slice qa qn qc) q) (HV : Hid (allV [c, p, q] = true)) (n : Nat) (HN : Hid (mostR [c, p, q] = n)) (hn28 : n ≤ 28) (d : Int) (HD : Hid ((if validB (ifL c p q) = true then 0 else 3) = d)) :
    Calls Try.prog 39 #[.slice ca0 cn0 cc0, .slice pa pn pc, .slice qa qn qc] w (MadeOut w d (ifL c p q)) := by
  have hC := Lib.hid hhC
  clear hhC
  have hP := Lib.hid hhP
  clear hhP
  have hQ := Lib.hid hhQ
  clear hhQ
  have ch := Lib.hid (Below.refl w.heap.size w)
  go_enter Try.func39, Try.ntmps39
  go_wp2_with fail
  have hL0 := ProgsRow.lit (w := w) [.slice ca0 cn0 cc0, .slice pa pn pc, .slice qa qn qc] [c, p, q] rfl (by simp) (fun j u l hu hl => match j, u, l, hu, hl with | 0, _, _, hu, hl => by cases hu; cases hl; exact hC.out | 1, _, _, hu, hl => by cases hu; cases hl; exact hP.out | 2, _, _, hu, hl => by cases hu; cases hl; exact hQ.out)
  obtain ⟨w1, hW⟩ : ∃ B, w.alloc (.cells #[.slice ca0 cn0 cc0, .slice pa pn pc, .slice qa qn qc] 25) = B := ⟨_, rfl⟩
  rw [hW]
  have hq : Below w.heap.size w w1 := by rw [← hW]; exact (Below.refl _ _).alloc (Nat.le_refl _) _
  have hL := Lib.hid (show ProgsRow w1 w1.heap.size (.slice (some ⟨w.heap.size, 0, none⟩) 3 3) [c, p, q] by rw [← hW]; exact hL0)
  clear hW hL0
  have hC := Lib.hid ((hC.out.below hq).mono hq.size)
  have hP := Lib.hid ((hP.out.below hq).mono hq.size)
  have hQ := Lib.hid ((hQ.out.below hq).mono hq.size)
  have ch := Lib.hid (ch.out.trans (hq.mono ch.out.size))
  clear hq
  have kc := check_any _ _ _ hL.out
  rw [show CheckOut [c, p, q] = .tuple #[.int .i64 (n : Nat), .int .i64 0] by unfold CheckOut; rw [if_neg (by rw [HV.out]; simp), if_neg (by rw [HN.out]; omega), HN.out]] at kc
  refine (kc).mono ?_
  rintro e w2 ⟨rfl, hq⟩
  have hC := Lib.hid ((hC.out.below hq).mono hq.size)
  have hP := Lib.hid ((hP.out.below hq).mono hq.size)
  have hQ := Lib.hid ((hQ.out.below hq).mono hq.size)
  have ch := Lib.hid (ch.out.trans (hq.mono ch.out.size))
  clear hq
  clear kc hL
  have hvc := allV_get HV.out (k := 0) (l := c) rfl
  have hvp := allV_get HV.out (k := 1) (l := p) rfl
  have hvq := allV_get HV.out (k := 2) (l := q) rfl
  have hc4 := validB_len hvc
  have hp4 := validB_len hvp
  have hq4 := validB_len hvq
  have hmax : Hid (max (regN c) (max (regN p) (regN q)) = n) := Lib.hid (by have h1 := HN.out; have h2 := regN_le (validB_all hvp); unfold mostR at h1; simp at h1; omega)
  go_wp2_with fail
  refine (bmove_any 0 (n : Nat) _).mono ?_
  rintro e w3 ⟨rfl, hq⟩
  have hC := Lib.hid ((hC.out.below hq).mono hq.size)
  have hP := Lib.hid ((hP.out.below hq).mono hq.size)
  have hQ := Lib.hid ((hQ.out.below hq).mono hq.size)
  have ch := Lib.hid (ch.out.trans (hq.mono ch.out.size))
  clear hq
  go_wp2_with fail
  have q_hC := hC
  have q_hP := hP
  have q_hQ := hQ
  have rl := Lib.hid (Below.refl w3.heap.size w3)
  obtain ⟨w4, hW⟩ : ∃ B, w3.alloc (.cells #[.int .i64 1, .int .i64 0, .int .i64 (n : Nat), .int .i64 0, .string ⟨#[]⟩] 52) = B := ⟨_, rfl⟩
  rw [hW]
  have hq : Below w3.heap.size w3 w4 := by rw [← hW]; exact (Below.refl _ _).alloc (Nat.le_refl _) _
  have hy := Lib.hid (show OwnI w4 w3.heap.size (.slice (some ⟨w3.heap.size, 0, none⟩) 1 1) [moveI 0 n] by rw [← hW]; exact OwnI.lit w3 [moveI 0 n] (by simp; exact moveI_wf _ _ (by omega) (by omega)) (by simp))
  clear hW
  have hC := Lib.hid ((hC.out.below hq).mono hq.size)
  have hP := Lib.hid ((hP.out.below hq).mono hq.size)
  have hQ := Lib.hid ((hQ.out.below hq).mono hq.size)
  have rl := Lib.hid (rl.out.trans (hq.mono rl.out.size))
  clear hq
  refine (fresh_len _ p _ hP.out hvp).mono ?_
  rintro e w5 ⟨fa, fk, fc, rfl, hfk, hF, hq⟩
  have hC := Lib.hid ((hC.out.below hq).mono hq.size)
  have hP := Lib.hid ((hP.out.below hq).mono hq.size)
  have hQ := Lib.hid ((hQ.out.below hq).mono hq.size)
  have hy := Lib.hid (hy.out.below hq)
  have rl := Lib.hid (rl.out.trans (hq.mono rl.out.size))
  clear hq
  have hF := Lib.hid hF
  have ho0 := hy.out
  have hb0 := rl.out
  have hs0 := hF.out
  go_wp2_with (at_builtin; refine app_row rfl _ _ rfl (v := .slice (some ⟨w3.heap.size, 0, none⟩) 1 1) (vx := .slice fa fk fc) rfl ho0 rfl hs0 ?c2 hb0 ?_)
  case c2 => have := hfk.out; simp [cleanP_length]; omega
  clear ho0 hb0 hs0 hy
  intro a6 k6 s6 w6 hk6 hy hb
  have rl := hb
  clear hb
  have hC := Lib.hid ((q_hC.out.below rl.out).mono rl.out.size)
  have hP := Lib.hid ((q_hP.out.below rl.out).mono rl.out.size)
  have hQ := Lib.hid ((q_hQ.out.below rl.out).mono rl.out.size)
  clear hF
  have ch := Lib.hid (ch.out.trans (rl.out.mono ch.out.size))
  have hYes := Lib.hid (hy.out.row (by have := hfk.out; simp [cleanP_length]; omega))
  have hky : Hid (k6 = 1 + (mostN p + p.length)) := Lib.hid (by have h8 := hk6.out; simp [cleanP_length] at h8; omega)
  have hkyI : (k6 : Int) ≤ 5000 := by have := hky.out; have := hfk.out; omega
  have hky0 : (0 : Int) ≤ (k6 : Int) := Int.natCast_nonneg _
  go_wp2_with fail
  refine (bmove_any 0 (n : Nat) _).mono ?_
  rintro e w7 ⟨rfl, hq⟩
  have hC := Lib.hid ((hC.out.below hq).mono hq.size)
  have hP := Lib.hid ((hP.out.below hq).mono hq.size)
  have hQ := Lib.hid ((hQ.out.below hq).mono hq.size)
  have hYes := Lib.hid ((hYes.out.below hq).mono hq.size)
  have ch := Lib.hid (ch.out.trans (hq.mono ch.out.size))
  clear hq
  go_wp2_with fail
  obtain ⟨w8, hW⟩ : ∃ B, w7.alloc (.cells #[.int .i64 1, .int .i64 0, .int .i64 (n : Nat), .int .i64 0, .string ⟨#[]⟩] 52) = B := ⟨_, rfl⟩
  rw [hW]
  have hq : Below w7.heap.size w7 w8 := by rw [← hW]; exact (Below.refl _ _).alloc (Nat.le_refl _) _
  have hM1 := Lib.hid (show InsRow w8 w8.heap.size (.slice (some ⟨w7.heap.size, 0, none⟩) 1 1) [moveI 0 n] by rw [← hW]; exact (OwnI.lit w7 [moveI 0 n] (by simp; exact moveI_wf _ _ (by omega) (by omega)) (by simp)).row (by simp))
  clear hW
  have hC := Lib.hid ((hC.out.below hq).mono hq.size)
  have hP := Lib.hid ((hP.out.below hq).mono hq.size)
  have hQ := Lib.hid ((hQ.out.below hq).mono hq.size)
  have hYes := Lib.hid ((hYes.out.below hq).mono hq.size)
  have ch := Lib.hid (ch.out.trans (hq.mono ch.out.size))
  clear hq
  refine (fresh_len _ q _ hQ.out hvq).mono ?_
  rintro e w9 ⟨ga, gk, gc, rfl, hgk, hG, hq⟩
  have hC := Lib.hid ((hC.out.below hq).mono hq.size)
  have hP := Lib.hid ((hP.out.below hq).mono hq.size)
  have hQ := Lib.hid ((hQ.out.below hq).mono hq.size)
  have hYes := Lib.hid ((hYes.out.below hq).mono hq.size)
  have hM1 := Lib.hid ((hM1.out.below hq).mono hq.size)
  have ch := Lib.hid (ch.out.trans (hq.mono ch.out.size))
  clear hq
  have hG := Lib.hid hG
  go_wp2_with fail
  refine (leap_len (n : Nat) (by omega) (1 + (k6 : Int)) (by unfold i64; omega) _).mono ?_
  rintro e w10 ⟨la, lc, rfl, hLp, hq⟩
  have hC := Lib.hid ((hC.out.below hq).mono hq.size)
  have hP := Lib.hid ((hP.out.below hq).mono hq.size)
  have hQ := Lib.hid ((hQ.out.below hq).mono hq.size)
  have hYes := Lib.hid ((hYes.out.below hq).mono hq.size)
  have hM1 := Lib.hid ((hM1.out.below hq).mono hq.size)
  have hG := Lib.hid ((hG.out.below hq).mono hq.size)
  have ch := Lib.hid (ch.out.trans (hq.mono ch.out.size))
  clear hq
  have hLp := Lib.hid hLp
  go_wp2_with fail
  have hL0 := ProgsRow.lit (w := w10) [.slice (some ⟨w7.heap.size, 0, none⟩) 1 1, .slice ga gk gc, .slice la 2 lc] [[moveI 0 n], cleanP q, [setI n ⟨#[49, 48, 48]⟩, jumpI n (1 + (k6 : Int))]] rfl (by simp) (fun j u l hu hl => match j, u, l, hu, hl with | 0, _, _, hu, hl => by cases hu; cases hl; exact hM1.out | 1, _, _, hu, hl => by cases hu; cases hl; exact hG.out | 2, _, _, hu, hl => by cases hu; cases hl; exact hLp.out)
  obtain ⟨w11, hW⟩ : ∃ B, w10.alloc (.cells #[.slice (some ⟨w7.heap.size, 0, none⟩) 1 1, .slice ga gk gc, .slice la 2 lc] 25) = B := ⟨_, rfl⟩
  rw [hW]
  have hq : Below w10.heap.size w10 w11 := by rw [← hW]; exact (Below.refl _ _).alloc (Nat.le_refl _) _
  have hL := Lib.hid (show ProgsRow w11 w11.heap.size (.slice (some ⟨w10.heap.size, 0, none⟩) 3 3) [[moveI 0 n], cleanP q, [setI n ⟨#[49, 48, 48]⟩, jumpI n (1 + (k6 : Int))]] by rw [← hW]; exact hL0)
  clear hW hL0
  have hC := Lib.hid ((hC.out.below hq).mono hq.size)
  have hP := Lib.hid ((hP.out.below hq).mono hq.size)
  have hQ := Lib.hid ((hQ.out.below hq).mono hq.size)
  have hYes := Lib.hid ((hYes.out.below hq).mono hq.size)
  have hM1 := Lib.hid ((hM1.out.below hq).mono hq.size)
  have hG := Lib.hid ((hG.out.below hq).mono hq.size)
  have hLp := Lib.hid ((hLp.out.below hq).mono hq.size)
  have ch := Lib.hid (ch.out.trans (hq.mono ch.out.size))
  clear hq
  have q_hC := hC
  have q_hP := hP
  have q_hQ := hQ
  have q_hYes := hYes
  have q_hM1 := hM1
  have q_hG := hG
  have q_hLp := hLp
  have rl := Lib.hid (Below.refl w11.heap.size w11)
  refine (concat_len _ _ _ hL.out (by simp [lenS, cleanP_length]; have := hgk.out; omega)).mono ?_
  rintro e w12 ⟨ca, ck, cc, rfl, hck, ho, hq⟩
  have hC := Lib.hid ((hC.out.below hq).mono hq.size)
  have hP := Lib.hid ((hP.out.below hq).mono hq.size)
  have hQ := Lib.hid ((hQ.out.below hq).mono hq.size)
  have hYes := Lib.hid ((hYes.out.below hq).mono hq.size)
  have hM1 := Lib.hid ((hM1.out.below hq).mono hq.size)
  have hG := Lib.hid ((hG.out.below hq).mono hq.size)
  have hLp := Lib.hid ((hLp.out.below hq).mono hq.size)
  have rl := Lib.hid (rl.out.trans (hq.mono rl.out.size))
  clear hq
  have ho := Lib.hid ho
  have ch := Lib.hid (ch.out.trans (rl.out.mono ch.out.size))
  have hkn : Hid (ck = 3 + (mostN q + q.length)) := Lib.hid (by have h8 := hck.out; simp [lenS, cleanP_length] at h8; omega)
  have hknI : (ck : Int) ≤ 5000 := by have := hkn.out; have := hgk.out; omega
  have hkn0 : (0 : Int) ≤ (ck : Int) := Int.natCast_nonneg _
  have hNo := Lib.hid (ho.out.row (by simp [cleanP_length]; have := hgk.out; omega))
  go_wp2_with fail
  refine (bmove_any (n : Nat) 0 _).mono ?_
  rintro e w13 ⟨rfl, hq⟩
  have hC := Lib.hid ((hC.out.below hq).mono hq.size)
  have hP := Lib.hid ((hP.out.below hq).mono hq.size)
  have hQ := Lib.hid ((hQ.out.below hq).mono hq.size)
  have hYes := Lib.hid ((hYes.out.below hq).mono hq.size)
  have hM1 := Lib.hid ((hM1.out.below hq).mono hq.size)
  have hG := Lib.hid ((hG.out.below hq).mono hq.size)
  have hLp := Lib.hid ((hLp.out.below hq).mono hq.size)
  have hNo := Lib.hid ((hNo.out.below hq).mono hq.size)
  have ch := Lib.hid (ch.out.trans (hq.mono ch.out.size))
  clear hq
  go_wp2_with fail
  obtain ⟨w14, hW⟩ : ∃ B, w13.alloc (.cells #[.int .i64 1, .int .i64 (n : Nat), .int .i64 0, .int .i64 0, .string ⟨#[]⟩] 52) = B := ⟨_, rfl⟩
  rw [hW]
  have hq : Below w13.heap.size w13 w14 := by rw [← hW]; exact (Below.refl _ _).alloc (Nat.le_refl _) _
  have hA1 := Lib.hid (show InsRow w14 w14.heap.size (.slice (some ⟨w13.heap.size, 0, none⟩) 1 1) [moveI n 0] by rw [← hW]; exact (OwnI.lit w13 [moveI n 0] (by simp; exact moveI_wf _ _ (by omega) (by omega)) (by simp)).row (by simp))
  have hz_w14 : w14.heap.size = w13.heap.size + 1 := by rw [← hW]; simp
  clear hW
  have hC := Lib.hid ((hC.out.below hq).mono hq.size)
  have hP := Lib.hid ((hP.out.below hq).mono hq.size)
  have hQ := Lib.hid ((hQ.out.below hq).mono hq.size)
  have hYes := Lib.hid ((hYes.out.below hq).mono hq.size)
  have hM1 := Lib.hid ((hM1.out.below hq).mono hq.size)
  have hG := Lib.hid ((hG.out.below hq).mono hq.size)
  have hLp := Lib.hid ((hLp.out.below hq).mono hq.size)
  have hNo := Lib.hid ((hNo.out.below hq).mono hq.size)
  have ch := Lib.hid (ch.out.trans (hq.mono ch.out.size))
  clear hq
  obtain ⟨w15, hW⟩ : ∃ B, w14.alloc (.cells #[.int .i64 5, .int .i64 0, .int .i64 (1 + (ck : Int)), .int .i64 0, .string ⟨#[]⟩] 52) = B := ⟨_, rfl⟩
  rw [hW]
  have hq : Below w14.heap.size w14 w15 := by rw [← hW]; exact (Below.refl _ _).alloc (Nat.le_refl _) _
  have hJ := Lib.hid (show InsRow w15 w15.heap.size (.slice (some ⟨w13.heap.size + 1, 0, none⟩) 1 1) [jumpI 0 (1 + (ck : Int))] by rw [← hz_w14, ← hW]; exact (OwnI.lit w14 [jumpI 0 (1 + (ck : Int))] (by simp; exact jumpI_wf _ _ (by omega) (by omega)) (by simp)).row (by simp))
  have hz_w15 : w15.heap.size = w13.heap.size + 1 + 1 := by rw [← hW]; simp [hz_w14]
  clear hW
  have hC := Lib.hid ((hC.out.below hq).mono hq.size)
  have hP := Lib.hid ((hP.out.below hq).mono hq.size)
  have hQ := Lib.hid ((hQ.out.below hq).mono hq.size)
  have hYes := Lib.hid ((hYes.out.below hq).mono hq.size)
  have hM1 := Lib.hid ((hM1.out.below hq).mono hq.size)
  have hG := Lib.hid ((hG.out.below hq).mono hq.size)
  have hLp := Lib.hid ((hLp.out.below hq).mono hq.size)
  have hNo := Lib.hid ((hNo.out.below hq).mono hq.size)
  have hA1 := Lib.hid ((hA1.out.below hq).mono hq.size)
  have ch := Lib.hid (ch.out.trans (hq.mono ch.out.size))
  clear hq
  have hL20 := ProgsRow.lit (w := w15) [.slice (some ⟨w13.heap.size, 0, none⟩) 1 1, .slice ca0 cn0 cc0, .slice (some ⟨w13.heap.size + 1, 0, none⟩) 1 1, .slice ca ck cc, .slice a6 k6 s6] [[moveI n 0], c, [jumpI 0 (1 + (ck : Int))], [[moveI 0 n], cleanP q, [setI n ⟨#[49, 48, 48]⟩, jumpI n (1 + (k6 : Int))]].flatten, ([moveI 0 n] ++ cleanP p)] rfl (by simp) (fun j u l hu hl => match j, u, l, hu, hl with | 0, _, _, hu, hl => by cases hu; cases hl; exact hA1.out | 1, _, _, hu, hl => by cases hu; cases hl; exact hC.out | 2, _, _, hu, hl => by cases hu; cases hl; exact hJ.out | 3, _, _, hu, hl => by cases hu; cases hl; exact hNo.out | 4, _, _, hu, hl => by cases hu; cases hl; exact hYes.out)
  obtain ⟨w16, hW⟩ : ∃ B, w15.alloc (.cells #[.slice (some ⟨w13.heap.size, 0, none⟩) 1 1, .slice ca0 cn0 cc0, .slice (some ⟨w13.heap.size + 1, 0, none⟩) 1 1, .slice ca ck cc, .slice a6 k6 s6] 25) = B := ⟨_, rfl⟩
  rw [hW]
  have hq : Below w15.heap.size w15 w16 := by rw [← hW]; exact (Below.refl _ _).alloc (Nat.le_refl _) _
  have hL2 := Lib.hid (show ProgsRow w16 w16.heap.size (.slice (some ⟨w15.heap.size, 0, none⟩) 5 5) [[moveI n 0], c, [jumpI 0 (1 + (ck : Int))], [[moveI 0 n], cleanP q, [setI n ⟨#[49, 48, 48]⟩, jumpI n (1 + (k6 : Int))]].flatten, ([moveI 0 n] ++ cleanP p)] by rw [← hW]; exact hL20)
  rw [hz_w15] at hL2
  clear hW hL20
  have hC := Lib.hid ((hC.out.below hq).mono hq.size)
  have hP := Lib.hid ((hP.out.below hq).mono hq.size)
  have hQ := Lib.hid ((hQ.out.below hq).mono hq.size)
  have hYes := Lib.hid ((hYes.out.below hq).mono hq.size)
  have hM1 := Lib.hid ((hM1.out.below hq).mono hq.size)
  have hG := Lib.hid ((hG.out.below hq).mono hq.size)
  have hLp := Lib.hid ((hLp.out.below hq).mono hq.size)
  have hNo := Lib.hid ((hNo.out.below hq).mono hq.size)
  have hA1 := Lib.hid ((hA1.out.below hq).mono hq.size)
  have hJ := Lib.hid ((hJ.out.below hq).mono hq.size)
  have ch := Lib.hid (ch.out.trans (hq.mono ch.out.size))
  clear hq
  have q_hC := hC
  have q_hP := hP
  have q_hQ := hQ
  have q_hYes := hYes
  have q_hM1 := hM1
  have q_hG := hG
  have q_hLp := hLp
  have q_hNo := hNo
  have q_hA1 := hA1
  have q_hJ := hJ
  have rl := Lib.hid (Below.refl w16.heap.size w16)
  refine (concat_len _ _ _ hL2.out (by simp [lenS, cleanP_length]; have := hgk.out; have := hfk.out; omega)).mono ?_
  rintro e w17 ⟨da, dk, dc, rfl, hdk, ho2, hq⟩
  have hC := Lib.hid ((hC.out.below hq).mono hq.size)
  have hP := Lib.hid ((hP.out.below hq).mono hq.size)
  have hQ := Lib.hid ((hQ.out.below hq).mono hq.size)
  have hYes := Lib.hid ((hYes.out.below hq).mono hq.size)
  have hM1 := Lib.hid ((hM1.out.below hq).mono hq.size)
  have hG := Lib.hid ((hG.out.below hq).mono hq.size)
  have hLp := Lib.hid ((hLp.out.below hq).mono hq.size)
  have hNo := Lib.hid ((hNo.out.below hq).mono hq.size)
  have hA1 := Lib.hid ((hA1.out.below hq).mono hq.size)
  have hJ := Lib.hid ((hJ.out.below hq).mono hq.size)
  have rl := Lib.hid (rl.out.trans (hq.mono rl.out.size))
  clear hq
  have ho2 := Lib.hid ho2
  have e1 : ((cleanP q).length : Int) + 4 = 1 + (ck : Int) := by rw [cleanP_length]; have := hkn.out; omega
  have e2 : ((cleanP p).length : Int) + 2 = 1 + (k6 : Int) := by rw [cleanP_length]; have := hky.out; omega
  have heq : ifL c p q = [[moveI n 0], c, [jumpI 0 (1 + (ck : Int))], [[moveI 0 n], cleanP q, [setI n ⟨#[49, 48, 48]⟩, jumpI n (1 + (k6 : Int))]].flatten, [moveI 0 n] ++ cleanP p].flatten := by unfold ifL; simp only [hmax.out, e1, e2]; simp
  have hrow := Lib.hid (show InsRow _ _ (.slice da dk dc) (ifL c p q) by rw [heq]; have h9 := ho2.out.row (by simp [cleanP_length]; have := hgk.out; have := hfk.out; omega); simpa using h9)
  clear heq e1 e2
  cases hvm : validB (ifL c p q)
  · have HM := Lib.hid (hrow.out)
    go_wp2_with fail
    refine (done_bad _ _ _ _ _ HM.out hvm).mono ?_
    rintro e w18 ⟨rfl, hq⟩
    have hC := Lib.hid ((hC.out.below hq).mono hq.size)
    have hP := Lib.hid ((hP.out.below hq).mono hq.size)
    have hQ := Lib.hid ((hQ.out.below hq).mono hq.size)
    have hYes := Lib.hid ((hYes.out.below hq).mono hq.size)
    have hM1 := Lib.hid ((hM1.out.below hq).mono hq.size)
    have hG := Lib.hid ((hG.out.below hq).mono hq.size)
    have hLp := Lib.hid ((hLp.out.below hq).mono hq.size)
    have hNo := Lib.hid ((hNo.out.below hq).mono hq.size)
    have hA1 := Lib.hid ((hA1.out.below hq).mono hq.size)
    have hJ := Lib.hid ((hJ.out.below hq).mono hq.size)
    have HM := Lib.hid ((HM.out.below hq).mono hq.size)
    have rl := Lib.hid (rl.out.trans (hq.mono rl.out.size))
    clear hq
    go_wp2
    have hch := ch.out.trans (rl.out.mono ch.out.size)
    refine bodyPost_ret (v := .tuple #[.slice none 0 0, .int .i64 3]) (by simp [results, Try.results39, go_sem]) rfl ?_
    rw [← HD.out, hvm, if_neg (by simp)]
    exact MadeOut.bad (by decide) rfl hch
  · have HM := Lib.hid (hrow.out)
    go_wp2_with fail
    refine (done_ok _ _ _ _ _ HM.out hvm).mono ?_
    rintro e w18 ⟨rfl, hq⟩
    have hC := Lib.hid ((hC.out.below hq).mono hq.size)
    have hP := Lib.hid ((hP.out.below hq).mono hq.size)
    have hQ := Lib.hid ((hQ.out.below hq).mono hq.size)
    have hYes := Lib.hid ((hYes.out.below hq).mono hq.size)
    have hM1 := Lib.hid ((hM1.out.below hq).mono hq.size)
    have hG := Lib.hid ((hG.out.below hq).mono hq.size)
    have hLp := Lib.hid ((hLp.out.below hq).mono hq.size)
    have hNo := Lib.hid ((hNo.out.below hq).mono hq.size)
    have hA1 := Lib.hid ((hA1.out.below hq).mono hq.size)
    have hJ := Lib.hid ((hJ.out.below hq).mono hq.size)
    have HM := Lib.hid ((HM.out.below hq).mono hq.size)
    have rl := Lib.hid (rl.out.trans (hq.mono rl.out.size))
    clear hq
    go_wp2
    have hch := ch.out.trans (rl.out.mono ch.out.size)
    refine bodyPost_ret (v := .tuple #[.slice da dk dc, .int .i64 0]) (by simp [results, Try.results39, go_sem]) rfl ?_
    rw [← HD.out, hvm, if_pos rfl]
    exact MadeOut.ok rfl rfl HM.out hch

theorem bIf_any (ca0 : Option Addr) (cn0 cc0 : Nat) (pa : Option Addr) (pn pc : Nat) (qa : Option Addr) (qn qc : Nat) (c p q : List Ins) (w : World) (hhC : InsRow w w.heap.size (.slice ca0 cn0 cc0) c) (hhP : InsRow w w.heap.size (.slice pa pn pc) p) (hhQ : InsRow w w.heap.size (.slice qa qn qc) q) : Calls Try.prog 39 #[.slice ca0 cn0 cc0, .slice pa pn pc, .slice qa qn qc] w (MadeOut w (dueN [c, p, q] (ifL c p q)) (ifL c p q)) := by
  unfold dueN
  cases hv : allV [c, p, q] with
  | false => rw [if_pos rfl]; exact bIf_form ca0 cn0 cc0 pa pn pc qa qn qc c p q w hhC hhP hhQ (Lib.hid hv)
  | true =>
    rw [if_neg (by simp)]
    by_cases hr : 28 < mostR [c, p, q]
    · rw [if_pos hr]; exact bIf_regs ca0 cn0 cc0 pa pn pc qa qn qc c p q w hhC hhP hhQ (Lib.hid hv) (Lib.hid hr)
    · rw [if_neg hr]; exact bIf_ok ca0 cn0 cc0 pa pn pc qa qn qc c p q w hhC hhP hhQ (Lib.hid hv) _ (Lib.hid rfl) (by omega) _ (Lib.hid rfl)

end Go.Proofs.Ytaiomcjopgnfpaa

namespace Go.Proofs.Ytaiomcjopgnfpaa
open Go.RowKit

theorem InsRow.grew {w w' : World} {v v' vx : Value} {m : Nat} {l : List Ins} (h : InsRow w w.heap.size vx l) (hg : Grew w w' v v' m) (hne : ∀ g, vx.ownBlock = some g → v.ownBlock ≠ some g) : InsRow w' w'.heap.size vx l := by
  refine ⟨h.1, h.2.1, ?_⟩
  rcases h.2.2 with h3 | ⟨g, off, cap, rfl, hgl, hc⟩
  · exact .inl h3
  · exact .inr ⟨g, off, cap, rfl, by have := hg.lt; omega, fun j x hj k u hk => (World.cell?_of_block (hg.old g hgl (fun e => hne g rfl e.symm))).trans (hc j x hj k u hk)⟩
theorem app_litG {ops : Array Oper} {rest : List Oper} {o : Oper} {a : Act} {Q : Exit → Act → World → Prop} (hgd : o.guard = none) (s x : Operand)
    (ho : o.op = .call { callee := .builtin .append, args := #[s, x], argTypes := #[25, 25] }) {w w0 : World} {v : Value} {m : List Ins} (l : List Ins) {n : Nat}
    (hs : a.eval s = v) (hown : OwnI w w0.heap.size v m) (hx : a.eval x = .slice (some ⟨w.heap.size, 0, none⟩) n n) (hn : l.length = n) (hwf : ∀ y ∈ l, y.wf) (hlen : m.length + n ≤ 1000000000) (hb : Below w0.heap.size w0 w)
    (h : ∀ a' k c' w', Hid (k = m.length + n) → Hid (OwnI w' w0.heap.size (.slice a' k c') (m ++ l)) → Hid (Below w0.heap.size w0 w') → Hid (Grew w w' v (.slice a' k c') n) → wpList Try.prog ops Q rest (a.put o.dst (.slice a' k c')) w') :
    wpList Try.prog ops Q (o :: rest) a (w.alloc (.cells (inscells l).toArray 52)) := by
  refine app_new el_ins hgd s x ho hs hown.own (inscells l) n hx (by rw [inscells_length, hn]) (inscells_one l) (by omega) (by unfold maxLen; omega) hb.size hb (Nat.le_refl _) ?_
  intro v' w' h1 h2 h3
  obtain ⟨a', c', rfl⟩ := own_len h1
  exact h a' _ c' w' (Lib.hid rfl) (Lib.hid (OwnI.app h1 (by rw [hn]) hown.wf hwf)) (Lib.hid h2) (Lib.hid h3)

end Go.Proofs.Ytaiomcjopgnfpaa

namespace Go.Proofs.Ytaiomcjopgnfpaa
open Go.RowKit

set_option maxHeartbeats 4000000 in
theorem bWhile_form (ca0 : Option Addr) (cn0 cc0 : Nat) (pa : Option Addr) (pn pc : Nat) (c p : List Ins) (w : World) (hhC : InsRow w w.heap.size (.slice ca0 cn0 cc0) c) (hhP : InsRow w w.heap.size (.slice pa pn pc) p) (HV : Hid (allV [c, p] = false)) :
    Calls Try.prog 28 #[.slice ca0 cn0 cc0, .slice pa pn pc] w (MadeOut w 1 (whileL c p)) := by
  have hC := Lib.hid hhC
  clear hhC
  have hP := Lib.hid hhP
  clear hhP
  have ch := Lib.hid (Below.refl w.heap.size w)
  go_enter Try.func28, Try.ntmps28
  go_wp2_with fail
  have hL0 := ProgsRow.lit (w := w) [.slice ca0 cn0 cc0, .slice pa pn pc] [c, p] rfl (by simp) (fun j u l hu hl => match j, u, l, hu, hl with | 0, _, _, hu, hl => by cases hu; cases hl; exact hC.out | 1, _, _, hu, hl => by cases hu; cases hl; exact hP.out)
  obtain ⟨w1, hW⟩ : ∃ B, w.alloc (.cells #[.slice ca0 cn0 cc0, .slice pa pn pc] 25) = B := ⟨_, rfl⟩
  rw [hW]
  have hq : Below w.heap.size w w1 := by rw [← hW]; exact (Below.refl _ _).alloc (Nat.le_refl _) _
  have hL := Lib.hid (show ProgsRow w1 w1.heap.size (.slice (some ⟨w.heap.size, 0, none⟩) 2 2) [c, p] by rw [← hW]; exact hL0)
  clear hW hL0
  have hC := Lib.hid ((hC.out.below hq).mono hq.size)
  have hP := Lib.hid ((hP.out.below hq).mono hq.size)
  have ch := Lib.hid (ch.out.trans (hq.mono ch.out.size))
  clear hq
  have kc := check_any _ _ _ hL.out
  rw [show CheckOut [c, p] = .tuple #[.int .i64 0, .int .i64 1] by unfold CheckOut; rw [if_pos HV.out]] at kc
  refine (kc).mono ?_
  rintro e w2 ⟨rfl, hq⟩
  have hC := Lib.hid ((hC.out.below hq).mono hq.size)
  have hP := Lib.hid ((hP.out.below hq).mono hq.size)
  have ch := Lib.hid (ch.out.trans (hq.mono ch.out.size))
  clear hq
  clear kc hL
  go_wp2
  refine bodyPost_ret (v := .tuple #[.slice none 0 0, .int .i64 1]) (by simp [results, Try.results28, go_sem]) rfl ?_
  exact MadeOut.bad (by decide) rfl ch.out

set_option maxHeartbeats 4000000 in
theorem bWhile_regs (ca0 : Option Addr) (cn0 cc0 : Nat) (pa : Option Addr) (pn pc : Nat) (c p : List Ins) (w : World) (hhC : InsRow w w.heap.size (.slice ca0 cn0 cc0) c) (hhP : InsRow w w.heap.size (.slice pa pn pc) p) (HV : Hid (allV [c, p] = true)) (HR : Hid (28 < mostR [c, p])) :
    Calls Try.prog 28 #[.slice ca0 cn0 cc0, .slice pa pn pc] w (MadeOut w 8 (whileL c p)) := by
  have hC := Lib.hid hhC
  clear hhC
  have hP := Lib.hid hhP
  clear hhP
  have ch := Lib.hid (Below.refl w.heap.size w)
  go_enter Try.func28, Try.ntmps28
  go_wp2_with fail
  have hL0 := ProgsRow.lit (w := w) [.slice ca0 cn0 cc0, .slice pa pn pc] [c, p] rfl (by simp) (fun j u l hu hl => match j, u, l, hu, hl with | 0, _, _, hu, hl => by cases hu; cases hl; exact hC.out | 1, _, _, hu, hl => by cases hu; cases hl; exact hP.out)
  obtain ⟨w1, hW⟩ : ∃ B, w.alloc (.cells #[.slice ca0 cn0 cc0, .slice pa pn pc] 25) = B := ⟨_, rfl⟩
  rw [hW]
  have hq : Below w.heap.size w w1 := by rw [← hW]; exact (Below.refl _ _).alloc (Nat.le_refl _) _
  have hL := Lib.hid (show ProgsRow w1 w1.heap.size (.slice (some ⟨w.heap.size, 0, none⟩) 2 2) [c, p] by rw [← hW]; exact hL0)
  clear hW hL0
  have hC := Lib.hid ((hC.out.below hq).mono hq.size)
  have hP := Lib.hid ((hP.out.below hq).mono hq.size)
  have ch := Lib.hid (ch.out.trans (hq.mono ch.out.size))
  clear hq
  have kc := check_any _ _ _ hL.out
  rw [show CheckOut [c, p] = .tuple #[.int .i64 0, .int .i64 8] by unfold CheckOut; rw [if_neg (by rw [HV.out]; simp), if_pos HR.out]] at kc
  refine (kc).mono ?_
  rintro e w2 ⟨rfl, hq⟩
  have hC := Lib.hid ((hC.out.below hq).mono hq.size)
  have hP := Lib.hid ((hP.out.below hq).mono hq.size)
  have ch := Lib.hid (ch.out.trans (hq.mono ch.out.size))
  clear hq
  clear kc hL
  go_wp2
  refine bodyPost_ret (v := .tuple #[.slice none 0 0, .int .i64 8]) (by simp [results, Try.results28, go_sem]) rfl ?_
  exact MadeOut.bad (by decide) rfl ch.out

set_option maxHeartbeats 4000000 in
theorem bWhile_ok (ca0 : Option Addr) (cn0 cc0 : Nat) (pa : Option Addr) (pn pc : Nat) (c p : List Ins) (w : World) (hhC : InsRow w w.heap.size (.slice ca0 cn0 cc0) c) (hhP : InsRow w w.heap.size (.slice pa pn pc) p) (HV : Hid (allV [c, p] = true)) (n : Nat) (HN : Hid (mostR [c, p] = n)) (hn28 : n ≤ 28) (d : Int) (HD : Hid ((if validB (whileL c p) = true then 0 else 3) = d)) :
    Calls Try.prog 28 #[.slice ca0 cn0 cc0, .slice pa pn pc] w (MadeOut w d (whileL c p)) := by
  have hC := Lib.hid hhC
  clear hhC
  have hP := Lib.hid hhP
  clear hhP
  have ch := Lib.hid (Below.refl w.heap.size w)
  go_enter Try.func28, Try.ntmps28
  go_wp2_with fail
  have hL0 := ProgsRow.lit (w := w) [.slice ca0 cn0 cc0, .slice pa pn pc] [c, p] rfl (by simp) (fun j u l hu hl => match j, u, l, hu, hl with | 0, _, _, hu, hl => by cases hu; cases hl; exact hC.out | 1, _, _, hu, hl => by cases hu; cases hl; exact hP.out)
  obtain ⟨w1, hW⟩ : ∃ B, w.alloc (.cells #[.slice ca0 cn0 cc0, .slice pa pn pc] 25) = B := ⟨_, rfl⟩
  rw [hW]
  have hq : Below w.heap.size w w1 := by rw [← hW]; exact (Below.refl _ _).alloc (Nat.le_refl _) _
  have hL := Lib.hid (show ProgsRow w1 w1.heap.size (.slice (some ⟨w.heap.size, 0, none⟩) 2 2) [c, p] by rw [← hW]; exact hL0)
  clear hW hL0
  have hC := Lib.hid ((hC.out.below hq).mono hq.size)
  have hP := Lib.hid ((hP.out.below hq).mono hq.size)
  have ch := Lib.hid (ch.out.trans (hq.mono ch.out.size))
  clear hq
  have kc := check_any _ _ _ hL.out
  rw [show CheckOut [c, p] = .tuple #[.int .i64 (n : Nat), .int .i64 0] by unfold CheckOut; rw [if_neg (by rw [HV.out]; simp), if_neg (by rw [HN.out]; omega), HN.out]] at kc
  refine (kc).mono ?_
  rintro e w2 ⟨rfl, hq⟩
  have hC := Lib.hid ((hC.out.below hq).mono hq.size)
  have hP := Lib.hid ((hP.out.below hq).mono hq.size)
  have ch := Lib.hid (ch.out.trans (hq.mono ch.out.size))
  clear hq
  clear kc hL
  have hvc := allV_get HV.out (k := 0) (l := c) rfl
  have hvp := allV_get HV.out (k := 1) (l := p) rfl
  have hc4 := validB_len hvc
  have hp4 := validB_len hvp
  have hmax : Hid (max (regN c) (regN p) = n) := Lib.hid (by have h1 := HN.out; have h2 := regN_le (validB_all hvp); unfold mostR at h1; simp at h1; omega)
  go_wp2_with fail
  refine (bmove_any (n : Nat) 0 _).mono ?_
  rintro e w3 ⟨rfl, hq⟩
  have hC := Lib.hid ((hC.out.below hq).mono hq.size)
  have hP := Lib.hid ((hP.out.below hq).mono hq.size)
  have ch := Lib.hid (ch.out.trans (hq.mono ch.out.size))
  clear hq
  go_wp2_with fail
  have q_hC := hC
  have q_hP := hP
  have rl := Lib.hid (Below.refl w3.heap.size w3)
  obtain ⟨w4, hW⟩ : ∃ B, w3.alloc (.cells #[.int .i64 1, .int .i64 (n : Nat), .int .i64 0, .int .i64 0, .string ⟨#[]⟩] 52) = B := ⟨_, rfl⟩
  rw [hW]
  have hq : Below w3.heap.size w3 w4 := by rw [← hW]; exact (Below.refl _ _).alloc (Nat.le_refl _) _
  have hask := Lib.hid (show OwnI w4 w3.heap.size (.slice (some ⟨w3.heap.size, 0, none⟩) 1 1) [moveI n 0] by rw [← hW]; exact OwnI.lit w3 [moveI n 0] (by simp; exact moveI_wf _ _ (by omega) (by omega)) (by simp))
  clear hW
  have hC := Lib.hid ((hC.out.below hq).mono hq.size)
  have hP := Lib.hid ((hP.out.below hq).mono hq.size)
  have rl := Lib.hid (rl.out.trans (hq.mono rl.out.size))
  clear hq
  have hbA := Lib.hid ch.out.size
  refine (fresh_len _ c _ hC.out hvc).mono ?_
  rintro e w5 ⟨fa, fk, fc, rfl, hfk, hF, hq⟩
  have hC := Lib.hid ((hC.out.below hq).mono hq.size)
  have hP := Lib.hid ((hP.out.below hq).mono hq.size)
  have hask := Lib.hid (hask.out.below hq)
  have rl := Lib.hid (rl.out.trans (hq.mono rl.out.size))
  clear hq
  have hF := Lib.hid hF
  have ho0 := hask.out
  have hb0 := rl.out
  have hs0 := hF.out
  go_wp2_with (at_builtin; refine app_row rfl _ _ rfl (v := .slice (some ⟨w3.heap.size, 0, none⟩) 1 1) (vx := .slice fa fk fc) rfl ho0 rfl hs0 ?c2 hb0 ?_)
  case c2 => have := hfk.out; simp [cleanP_length]; omega
  clear ho0 hb0 hs0 hask
  intro a6 k6 s6 w6 hk6 hask hb
  have rl := hb
  clear hb
  have hC := Lib.hid ((q_hC.out.below rl.out).mono rl.out.size)
  have hP := Lib.hid ((q_hP.out.below rl.out).mono rl.out.size)
  clear hF
  have ch := Lib.hid (ch.out.trans (rl.out.mono ch.out.size))
  go_wp2_with fail
  refine (bmove_any 0 (n : Nat) _).mono ?_
  rintro e w7 ⟨rfl, hq⟩
  have hC := Lib.hid ((hC.out.below hq).mono hq.size)
  have hP := Lib.hid ((hP.out.below hq).mono hq.size)
  have hask := Lib.hid (hask.out.below hq)
  have ch := Lib.hid (ch.out.trans (hq.mono ch.out.size))
  clear hq
  go_wp2_with fail
  have q_hC := hC
  have q_hP := hP
  have q_hask := hask
  have rl := Lib.hid (Below.refl w7.heap.size w7)
  obtain ⟨w8, hW⟩ : ∃ B, w7.alloc (.cells #[.int .i64 1, .int .i64 0, .int .i64 (n : Nat), .int .i64 0, .string ⟨#[]⟩] 52) = B := ⟨_, rfl⟩
  rw [hW]
  have hq : Below w7.heap.size w7 w8 := by rw [← hW]; exact (Below.refl _ _).alloc (Nat.le_refl _) _
  have hwork := Lib.hid (show OwnI w8 w7.heap.size (.slice (some ⟨w7.heap.size, 0, none⟩) 1 1) [moveI 0 n] by rw [← hW]; exact OwnI.lit w7 [moveI 0 n] (by simp; exact moveI_wf _ _ (by omega) (by omega)) (by simp))
  clear hW
  have hC := Lib.hid ((hC.out.below hq).mono hq.size)
  have hP := Lib.hid ((hP.out.below hq).mono hq.size)
  have hask := Lib.hid (hask.out.below hq)
  have rl := Lib.hid (rl.out.trans (hq.mono rl.out.size))
  clear hq
  have hAb := Lib.hid (fun g hg => (q_hask.out.own.lt g hg).2)
  refine (fresh_len _ p _ hP.out hvp).mono ?_
  rintro e w9 ⟨ga, gk, gc, rfl, hgk, hG, hq⟩
  have hC := Lib.hid ((hC.out.below hq).mono hq.size)
  have hP := Lib.hid ((hP.out.below hq).mono hq.size)
  have hask := Lib.hid (hask.out.below hq)
  have hwork := Lib.hid (hwork.out.below hq)
  have rl := Lib.hid (rl.out.trans (hq.mono rl.out.size))
  clear hq
  have hG := Lib.hid hG
  have ho0 := hwork.out
  have hb0 := rl.out
  have hs0 := hG.out
  go_wp2_with (at_builtin; refine app_row rfl _ _ rfl (v := .slice (some ⟨w7.heap.size, 0, none⟩) 1 1) (vx := .slice ga gk gc) rfl ho0 rfl hs0 ?c2 hb0 ?_)
  case c2 => have := hgk.out; simp [cleanP_length]; omega
  clear ho0 hb0 hs0 hwork
  intro a10 k10 s10 w10 hk10 hwork hb
  have rl := hb
  clear hb
  have hC := Lib.hid ((q_hC.out.below rl.out).mono rl.out.size)
  have hP := Lib.hid ((q_hP.out.below rl.out).mono rl.out.size)
  clear hG
  have hask := Lib.hid (q_hask.out.below rl.out)
  have ch := Lib.hid (ch.out.trans (rl.out.mono ch.out.size))
  have hWb := Lib.hid (fun g hg => (hwork.out.own.lt g hg).1)
  have hWork := Lib.hid (hwork.out.row (by have := hgk.out; simp [cleanP_length]; omega))
  have hkw : Hid (k10 = 1 + (mostN p + p.length)) := Lib.hid (by have h8 := hk10.out; simp [cleanP_length] at h8; omega)
  have hkwI : (k10 : Int) ≤ 5000 := by have := hkw.out; have := hgk.out; omega
  have hkw0 : (0 : Int) ≤ (k10 : Int) := Int.natCast_nonneg _
  go_wp2_with fail
  refine (bmove_any 0 (n : Nat) _).mono ?_
  rintro e w11 ⟨rfl, hq⟩
  have hC := Lib.hid ((hC.out.below hq).mono hq.size)
  have hP := Lib.hid ((hP.out.below hq).mono hq.size)
  have hWork := Lib.hid ((hWork.out.below hq).mono hq.size)
  have hask := Lib.hid (hask.out.below hq)
  have ch := Lib.hid (ch.out.trans (hq.mono ch.out.size))
  clear hq
  go_wp2_with fail
  have q_hC := hC
  have q_hP := hP
  have q_hWork := hWork
  have q_hask := hask
  have rl := Lib.hid (Below.refl w11.heap.size w11)
  obtain ⟨w12, hW⟩ : ∃ B, w11.alloc (.cells #[.int .i64 1, .int .i64 0, .int .i64 (n : Nat), .int .i64 0, .string ⟨#[]⟩] 52) = B := ⟨_, rfl⟩
  rw [hW]
  have hq : Below w11.heap.size w11 w12 := by rw [← hW]; exact (Below.refl _ _).alloc (Nat.le_refl _) _
  have hlv := Lib.hid (show OwnI w12 w11.heap.size (.slice (some ⟨w11.heap.size, 0, none⟩) 1 1) [moveI 0 n] by rw [← hW]; exact OwnI.lit w11 [moveI 0 n] (by simp; exact moveI_wf _ _ (by omega) (by omega)) (by simp))
  clear hW
  have hC := Lib.hid ((hC.out.below hq).mono hq.size)
  have hP := Lib.hid ((hP.out.below hq).mono hq.size)
  have hWork := Lib.hid ((hWork.out.below hq).mono hq.size)
  have hask := Lib.hid (hask.out.below hq)
  have rl := Lib.hid (rl.out.trans (hq.mono rl.out.size))
  clear hq
  have hAb2 := Lib.hid (fun g hg => (q_hask.out.own.lt g hg).2)
  refine (leap_len (n : Nat) (by omega) ((k10 : Int) + 3) (by unfold i64; omega) _).mono ?_
  rintro e w13 ⟨la, lc, rfl, hLp, hq⟩
  have hC := Lib.hid ((hC.out.below hq).mono hq.size)
  have hP := Lib.hid ((hP.out.below hq).mono hq.size)
  have hWork := Lib.hid ((hWork.out.below hq).mono hq.size)
  have hask := Lib.hid (hask.out.below hq)
  have hlv := Lib.hid (hlv.out.below hq)
  have rl := Lib.hid (rl.out.trans (hq.mono rl.out.size))
  clear hq
  have hLp := Lib.hid hLp
  have ho0 := hlv.out
  have hb0 := rl.out
  have hs0 := hLp.out
  go_wp2_with (at_builtin; refine app_row rfl _ _ rfl (v := .slice (some ⟨w11.heap.size, 0, none⟩) 1 1) (vx := .slice la 2 lc) rfl ho0 rfl hs0 ?c2 hb0 ?_)
  case c2 => simp
  clear ho0 hb0 hs0 hlv
  intro a14 k14 s14 w14 hk14 hlv hb
  have rl := hb
  clear hb
  have hC := Lib.hid ((q_hC.out.below rl.out).mono rl.out.size)
  have hP := Lib.hid ((q_hP.out.below rl.out).mono rl.out.size)
  have hWork := Lib.hid ((q_hWork.out.below rl.out).mono rl.out.size)
  clear hLp
  have hask := Lib.hid (q_hask.out.below rl.out)
  have ch := Lib.hid (ch.out.trans (rl.out.mono ch.out.size))
  have hLb := Lib.hid (fun g hg => (hlv.out.own.lt g hg).1)
  have hLeave := Lib.hid (hlv.out.row (by simp))
  have hkl : Hid (k14 = 3) := Lib.hid (by have h8 := hk14.out; first | omega | (simp at h8; omega))
  have hklI : (k14 : Int) ≤ 5000 := by have := hkl.out; omega
  have hkl0 : (0 : Int) ≤ (k14 : Int) := Int.natCast_nonneg _
  have ho0 := hask.out.lower hbA.out
  have hb0 := ch.out
  go_wp2_with (at_builtin; refine app_litG rfl _ _ rfl (w0 := w) (v := .slice a6 k6 s6) (n := 1) [jumpI 0 (1 + (k14 : Int))] rfl ho0 rfl rfl ?c1 ?c2 hb0 ?_)
  case c1 => simp; exact jumpI_wf _ _ (by omega) (by omega)
  case c2 => have := hfk.out; simp [cleanP_length]; omega
  clear ho0 hb0
  intro a15 k15 s15 w15 hk15 hask2 hbn hgr
  have hWork := Lib.hid (hWork.out.grew hgr.out (fun g h1 h2 => by have h3 := hWb.out g h1; have h4 := hAb.out g h2; omega))
  have hLeave := Lib.hid (hLeave.out.grew hgr.out (fun g h1 h2 => by have h3 := hLb.out g h1; have h4 := hAb2.out g h2; omega))
  have ch := hbn
  have hAsk := Lib.hid (hask2.out.row (by have := hfk.out; simp [cleanP_length]; omega))
  clear hgr hbn hask2
  go_wp2_with fail
  have hL0 := ProgsRow.lit (w := w15) [.slice a15 k15 s15, .slice a14 k14 s14, .slice a10 k10 s10] [([moveI n 0] ++ cleanP c ++ [jumpI 0 (1 + (k14 : Int))]), ([moveI 0 n] ++ [setI n ⟨#[49, 48, 48]⟩, jumpI n ((k10 : Int) + 3)]), ([moveI 0 n] ++ cleanP p)] rfl (by simp) (fun j u l hu hl => match j, u, l, hu, hl with | 0, _, _, hu, hl => by cases hu; cases hl; exact hAsk.out | 1, _, _, hu, hl => by cases hu; cases hl; exact hLeave.out | 2, _, _, hu, hl => by cases hu; cases hl; exact hWork.out)
  obtain ⟨w16, hW⟩ : ∃ B, w15.alloc (.cells #[.slice a15 k15 s15, .slice a14 k14 s14, .slice a10 k10 s10] 25) = B := ⟨_, rfl⟩
  rw [hW]
  have hq : Below w15.heap.size w15 w16 := by rw [← hW]; exact (Below.refl _ _).alloc (Nat.le_refl _) _
  have hL := Lib.hid (show ProgsRow w16 w16.heap.size (.slice (some ⟨w15.heap.size, 0, none⟩) 3 3) [([moveI n 0] ++ cleanP c ++ [jumpI 0 (1 + (k14 : Int))]), ([moveI 0 n] ++ [setI n ⟨#[49, 48, 48]⟩, jumpI n ((k10 : Int) + 3)]), ([moveI 0 n] ++ cleanP p)] by rw [← hW]; exact hL0)
  clear hW hL0
  have hWork := Lib.hid ((hWork.out.below hq).mono hq.size)
  have hLeave := Lib.hid ((hLeave.out.below hq).mono hq.size)
  have hAsk := Lib.hid ((hAsk.out.below hq).mono hq.size)
  have ch := Lib.hid (ch.out.trans (hq.mono ch.out.size))
  clear hq
  have q_hWork := hWork
  have q_hLeave := hLeave
  have q_hAsk := hAsk
  have rl := Lib.hid (Below.refl w16.heap.size w16)
  refine (concat_len _ _ _ hL.out (by simp [lenS, cleanP_length]; have := hfk.out; have := hgk.out; omega)).mono ?_
  rintro e w17 ⟨xa, xk, xc, rfl, hxk, ho, hq⟩
  have hWork := Lib.hid ((hWork.out.below hq).mono hq.size)
  have hLeave := Lib.hid ((hLeave.out.below hq).mono hq.size)
  have hAsk := Lib.hid ((hAsk.out.below hq).mono hq.size)
  have rl := Lib.hid (rl.out.trans (hq.mono rl.out.size))
  clear hq
  have ho := Lib.hid ho
  have hxk2 : Hid (xk = 6 + (mostN c + c.length) + (mostN p + p.length)) := Lib.hid (by have h8 := hxk.out; simp [lenS, cleanP_length] at h8; omega)
  have hxI : (xk : Int) ≤ 20000 := by have := hxk2.out; have := hfk.out; have := hgk.out; omega
  have hx0 : (0 : Int) ≤ (xk : Int) := Int.natCast_nonneg _
  go_wp2_with fail
  refine (leap_len (n : Nat) (by omega) (-(xk : Int) - 1) (by unfold i64; omega) _).mono ?_
  rintro e w18 ⟨ma, mc, rfl, hLq, hq⟩
  have hWork := Lib.hid ((hWork.out.below hq).mono hq.size)
  have hLeave := Lib.hid ((hLeave.out.below hq).mono hq.size)
  have hAsk := Lib.hid ((hAsk.out.below hq).mono hq.size)
  have ho := Lib.hid (ho.out.below hq)
  have rl := Lib.hid (rl.out.trans (hq.mono rl.out.size))
  clear hq
  have hLq := Lib.hid hLq
  have ho0 := ho.out
  have hb0 := rl.out
  have hs0 := hLq.out
  go_wp2_with (at_builtin; refine app_row rfl _ _ rfl (v := .slice xa xk xc) (vx := .slice ma 2 mc) rfl ho0 rfl hs0 ?c2 hb0 ?_)
  case c2 => have := hfk.out; have := hgk.out; simp [cleanP_length]; omega
  clear ho0 hb0 hs0 ho
  intro a19 k19 s19 w19 hk19 ho hb
  have rl := hb
  clear hb
  have hWork := Lib.hid ((q_hWork.out.below rl.out).mono rl.out.size)
  have hLeave := Lib.hid ((q_hLeave.out.below rl.out).mono rl.out.size)
  have hAsk := Lib.hid ((q_hAsk.out.below rl.out).mono rl.out.size)
  clear hLq
  have e1 : ((cleanP p).length : Int) + 4 = (k10 : Int) + 3 := by rw [cleanP_length]; have := hkw.out; omega
  have e2 : (4 : Int) = 1 + (k14 : Int) := by have := hkl.out; omega
  have e3 : (-((whileH c p).length : Int)) = -(xk : Int) - 1 := by have h8 := hxk2.out; unfold whileH; simp [cleanP_length]; omega
  have heq : whileL c p = [[moveI n 0] ++ cleanP c ++ [jumpI 0 (1 + (k14 : Int))], [moveI 0 n] ++ [setI n ⟨#[49, 48, 48]⟩, jumpI n ((k10 : Int) + 3)], [moveI 0 n] ++ cleanP p].flatten ++ [setI n ⟨#[49, 48, 48]⟩, jumpI n (-(xk : Int) - 1)] := by unfold whileL; rw [e3]; unfold whileH; simp only [hmax.out, e1]; simp [← e2]
  have hrow := Lib.hid (show InsRow _ _ (.slice a19 k19 s19) (whileL c p) by rw [heq]; have h9 := ho.out.row (by simp [cleanP_length]; have := hfk.out; have := hgk.out; omega); simpa using h9)
  clear heq e1 e2 e3
  cases hvm : validB (whileL c p)
  · have HM := Lib.hid (hrow.out)
    go_wp2_with fail
    refine (done_bad _ _ _ _ _ HM.out hvm).mono ?_
    rintro e w20 ⟨rfl, hq⟩
    have hWork := Lib.hid ((hWork.out.below hq).mono hq.size)
    have hLeave := Lib.hid ((hLeave.out.below hq).mono hq.size)
    have hAsk := Lib.hid ((hAsk.out.below hq).mono hq.size)
    have HM := Lib.hid ((HM.out.below hq).mono hq.size)
    have rl := Lib.hid (rl.out.trans (hq.mono rl.out.size))
    clear hq
    go_wp2
    have hch := ch.out.trans (rl.out.mono ch.out.size)
    refine bodyPost_ret (v := .tuple #[.slice none 0 0, .int .i64 3]) (by simp [results, Try.results28, go_sem]) rfl ?_
    rw [← HD.out, hvm, if_neg (by simp)]
    exact MadeOut.bad (by decide) rfl hch
  · have HM := Lib.hid (hrow.out)
    go_wp2_with fail
    refine (done_ok _ _ _ _ _ HM.out hvm).mono ?_
    rintro e w20 ⟨rfl, hq⟩
    have hWork := Lib.hid ((hWork.out.below hq).mono hq.size)
    have hLeave := Lib.hid ((hLeave.out.below hq).mono hq.size)
    have hAsk := Lib.hid ((hAsk.out.below hq).mono hq.size)
    have HM := Lib.hid ((HM.out.below hq).mono hq.size)
    have rl := Lib.hid (rl.out.trans (hq.mono rl.out.size))
    clear hq
    go_wp2
    have hch := ch.out.trans (rl.out.mono ch.out.size)
    refine bodyPost_ret (v := .tuple #[.slice a19 k19 s19, .int .i64 0]) (by simp [results, Try.results28, go_sem]) rfl ?_
    rw [← HD.out, hvm, if_pos rfl]
    exact MadeOut.ok rfl rfl HM.out hch

theorem bWhile_any (ca0 : Option Addr) (cn0 cc0 : Nat) (pa : Option Addr) (pn pc : Nat) (c p : List Ins) (w : World) (hhC : InsRow w w.heap.size (.slice ca0 cn0 cc0) c) (hhP : InsRow w w.heap.size (.slice pa pn pc) p) : Calls Try.prog 28 #[.slice ca0 cn0 cc0, .slice pa pn pc] w (MadeOut w (dueN [c, p] (whileL c p)) (whileL c p)) := by
  unfold dueN
  cases hv : allV [c, p] with
  | false => rw [if_pos rfl]; exact bWhile_form ca0 cn0 cc0 pa pn pc c p w hhC hhP (Lib.hid hv)
  | true =>
    rw [if_neg (by simp)]
    by_cases hr : 28 < mostR [c, p]
    · rw [if_pos hr]; exact bWhile_regs ca0 cn0 cc0 pa pn pc c p w hhC hhP (Lib.hid hv) (Lib.hid hr)
    · rw [if_neg hr]; exact bWhile_ok ca0 cn0 cc0 pa pn pc c p w hhC hhP (Lib.hid hv) _ (Lib.hid rfl) (by omega) _ (Lib.hid rfl)

end Go.Proofs.Ytaiomcjopgnfpaa

namespace Go.Proofs.Ytaiomcjopgnfpaa
open Go.RowKit

theorem bConst_ok (d : ByteArray) (hs : d.size ≤ 140737488355328) (hd : isTree d = true) (w : World) :
    Calls Try.prog 36 #[.string d] w fun e w' => ∃ a c, e = .returned (.tuple #[.slice a 1 c, .int .i64 0]) ∧ InsRow w' w'.heap.size (.slice a 1 c) [setI 0 d] ∧ Below w.heap.size w w' := by
  have kt := treeValid_at d hs _ hd
  have hwf : ∀ x ∈ [setI 0 d], x.wf := by simp; exact setI_wf _ _ (by omega) hs
  go_enter Try.func36, Try.ntmps36
  go_wp2_with fail
  refine (kt _).mono ?_
  rintro e w1 ⟨rfl, hb⟩
  have hrow := (OwnI.lit w1 [setI 0 d] hwf (by simp)).row (by simp)
  have hb2 := hb.alloc hb.size (.cells (inscells [setI 0 d]).toArray 52)
  go_wp2
  refine bodyPost_ret (v := .tuple #[.slice (some ⟨w1.heap.size, 0, none⟩) 1 1, .int .i64 0]) (by simp [results, Try.results36, go_sem]) rfl ?_
  exact ⟨_, _, rfl, hrow, hb2⟩
theorem bConst_bad (d : ByteArray) (hs : d.size ≤ 140737488355328) (hd : isTree d = false) (w : World) :
    Calls Try.prog 36 #[.string d] w fun e w' => e = .returned (.tuple #[.slice none 0 0, .int .i64 1]) ∧ Below w.heap.size w w' := by
  have kt := treeValid_at d hs _ hd
  go_enter Try.func36, Try.ntmps36
  go_wp2_with fail
  refine (kt _).mono ?_
  rintro e w1 ⟨rfl, hb⟩
  go_wp2
  refine bodyPost_ret (v := .tuple #[.slice none 0 0, .int .i64 1]) (by simp [results, Try.results36, go_sem]) rfl ?_
  exact ⟨rfl, hb⟩
theorem refConst_ok (d : ByteArray) (hs : d.size ≤ 140737488355328) (w : World) :
    Calls Try.prog 40 #[.string d] w fun e w' => ∃ a c, e = .returned (.slice a 1 c) ∧ InsRow w' w'.heap.size (.slice a 1 c) [setI 0 d] ∧ Below w.heap.size w w' := by
  have hwf : ∀ x ∈ [setI 0 d], x.wf := by simp; exact setI_wf _ _ (by omega) hs
  go_enter Try.func40, Try.ntmps40
  go_wp2_with fail
  refine (rset_any 0 d _).mono ?_
  rintro e w1 ⟨rfl, hb⟩
  have hrow := (OwnI.lit w1 [setI 0 d] hwf (by simp)).row (by simp)
  have hb2 := hb.alloc hb.size (.cells (inscells [setI 0 d]).toArray 52)
  go_wp2
  go_ret
  exact ⟨_, _, rfl, hrow, hb2⟩

theorem thenL_succ (ls : List (List Ins)) (k : Nat) {l : List Ins} (hl : ls[k]? = some l) : thenL (ls.take (k + 1)) = thenL (ls.take k) ++ (if k = 0 then l else cleanP l) := by
  rw [take_snoc' _ _ _ hl]
  cases k with
  | zero => simp [thenL]
  | succ k =>
    cases ls with
    | nil => simp at hl
    | cons x xs => simp [thenL, List.take_succ_cons]
theorem thenL_len (ls : List (List Ins)) (hv : allV ls = true) : (thenL ls).length ≤ lenS ls + 32 * ls.length := by
  cases ls with
  | nil => simp [thenL]
  | cons x xs =>
    have : ∀ ys : List (List Ins), allV ys = true → ((ys.map cleanP).flatten).length ≤ lenS ys + 32 * ys.length := by
      intro ys
      induction ys with
      | nil => intro _; simp
      | cons y ys ih =>
        intro h
        simp only [allV, List.all_cons, Bool.and_eq_true] at h
        have h1 := ih h.2
        have h2 := mostN_lt (validB_all h.1) y.length (Nat.le_refl _)
        rw [mostN_all] at h2
        simp only [List.map_cons, List.flatten_cons, List.length_append, cleanP_length, List.length_cons, lenS, List.sum_cons] at h1 ⊢
        omega
    simp only [allV, List.all_cons, Bool.and_eq_true] at hv
    have h1 := this xs hv.2
    simp only [thenL, List.length_append, lenS, List.map_cons, List.sum_cons, List.length_cons] at h1 ⊢
    omega
theorem allV_take {ls : List (List Ins)} (h : allV ls = true) (k : Nat) : allV (ls.take k) = true := List.all_eq_true.2 fun x hx => List.all_eq_true.1 h x (List.mem_of_mem_take hx)

set_option maxHeartbeats 4000000 in
theorem refThen_ok (v : Value) (ls : List (List Ins)) (w : World) (hl : ProgsRow w w.heap.size v ls) (hv : allV ls = true) (hT : lenS ls + 32 * ls.length ≤ 500000000) :
    Calls Try.prog 23 #[v] w fun e w' => ∃ v', e = .returned v' ∧ OwnI w' w.heap.size v' (thenL ls) ∧ Below w.heap.size w w' := by
  obtain ⟨ao, cap, rfl⟩ := hl.len
  obtain ⟨n, hn'⟩ : ∃ n, ls.length = n := ⟨_, rfl⟩
  rw [hn'] at hl hT ⊢
  have HN := Lib.hid hn'; clear hn'
  have HL := Lib.hid hl; clear hl
  have HV := Lib.hid hv; clear hv
  go_enter Try.func23, Try.ntmps23
  go_wp2
  go_loopg [3, 4] n (fun gg o i wr => ∃ k : Nat, k ≤ n ∧ gg = n - k ∧ i = .int .i64 k ∧ Hid (OwnI wr w.heap.size o (thenL (ls.take k)) ∧ Below w.heap.size w wr))
  case atStart => exact ⟨0, by omega, rfl, rfl, OwnI.nil _ _, Below.refl _ _⟩
  case round =>
    obtain ⟨k, hk, hg, rfl, hP⟩ := hrel
    have HG := Lib.hid hg; clear hg
    by_cases hlt : k < n
    · obtain ⟨l, hx⟩ : ∃ s, ls[k]? = some s := ⟨_, List.getElem?_eq_getElem (by rw [HN.out]; exact hlt)⟩
      have hl2 := HL.out.step hP.out.2
      obtain ⟨g, off, u, rfl, hg, c0, hu⟩ := hl2.get hx
      have hi0 : (0 : Int) ≤ (k : Int) := Int.natCast_nonneg _
      have hi1 : (k : Int) < (n : Int) := by omega
      have hvl := allV_get HV.out hx
      have hn4 := validB_len hvl
      have hA : Hid ((thenL (ls.take k)).length ≤ 500000000) := Lib.hid (by
        have h1 := thenL_len (ls.take k) (allV_take HV.out k)
        have h2 := lenS_take ls k
        have h3 : (ls.take k).length ≤ n := by rw [List.length_take]; omega
        omega)
      have HX := Lib.hid hx
      clear hx hl2
      by_cases hk0 : k = 0
      · subst hk0
        have ho0 := hP.out.1
        have hb0 := hP.out.2
        have hc0 : wr.cell? ⟨g, off, none⟩ = some u := by simpa using c0
        go_wp2_with (at_builtin; refine app_row rfl _ _ rfl (vx := u) rfl ho0 rfl hu ?c2 hb0 ?_)
        case c2 => have := hA.out; omega
        intro a' k' c' w' hk' ho' hb'
        have hnew : Hid (OwnI w' w.heap.size (.slice a' k' c') (thenL (ls.take (0 + 1))) ∧ Below w.heap.size w w') := Lib.hid ⟨by rw [thenL_succ ls 0 HX.out, if_pos rfl]; exact ho'.out, hb'.out⟩
        clear ho0 hb0 hP hu hc0 c0
        go_wp2
        go_roundg (n - (0 + 1))
        case measure => rw [HG.out]; omega
        case rel => exact ⟨0 + 1, by omega, rfl, by go_num, hnew⟩
      · have hkI : ¬ (k : Int) = 0 := by omega
        go_wp2_with fail
        refine (refclean_len u l _ hu hvl).mono ?_
        rintro e w1 ⟨ya, ky, yc, rfl, hky, hY, hb1⟩
        have ho0 := hP.out.1.below hb1
        have hb0 := hP.out.2.trans (hb1.mono hP.out.2.size)
        go_wp2_with (at_builtin; refine app_row rfl _ _ rfl (vx := .slice ya ky yc) rfl ho0 rfl hY ?c2 hb0 ?_)
        case c2 => have h1 := hA.out; have h2 := hky.out; rw [cleanP_length]; omega
        intro a' k' c' w' hk' ho' hb'
        have hnew : Hid (OwnI w' w.heap.size (.slice a' k' c') (thenL (ls.take (k + 1))) ∧ Below w.heap.size w w') := Lib.hid ⟨by rw [thenL_succ ls k HX.out, if_neg hk0]; exact ho'.out, hb'.out⟩
        clear ho0 hb0 hP hu c0 hY hb1
        go_wp2
        go_roundg (n - (k + 1))
        case measure => rw [HG.out]; omega
        case rel => exact ⟨k + 1, by omega, rfl, by go_num, hnew⟩
    · have hkn : k = n := by omega
      subst hkn
      have hfin : Hid (OwnI wr w.heap.size _ (thenL ls)) := Lib.hid (by have := hP.out.1; rw [List.take_of_length_le (by rw [HN.out]; omega)] at this; exact this)
      go_wp2
      go_ret
      exact ⟨_, rfl, hfin.out, hP.out.2⟩

end Go.Proofs.Ytaiomcjopgnfpaa

namespace Go.Proofs.Ytaiomcjopgnfpaa
open Go.RowKit

theorem thenL_mono (ls : List (List Ins)) (k : Nat) : (thenL (ls.take k)).length ≤ (thenL ls).length := by
  cases ls with
  | nil => simp
  | cons x xs =>
    cases k with
    | zero => simp [thenL]
    | succ k =>
      simp only [List.take_succ_cons, thenL, List.length_append]
      have h : ((xs.take k).map cleanP).flatten.length ≤ (xs.map cleanP).flatten.length := by
        conv => rhs; rw [← List.take_append_drop k xs]
        rw [List.map_append, List.flatten_append, List.length_append]; omega
      omega
theorem valid_large {l : List Ins} (h : 4000 < l.length) : validB l = false := by
  cases hv : validB l with
  | false => rfl
  | true => have := validB_len hv; omega

set_option maxHeartbeats 4000000 in
theorem bThen_main (ao : Option Addr) (n cap : Nat) (ls : List (List Ins)) (w : World) (HL : Hid (ProgsRow w w.heap.size (.slice ao n cap) ls)) (HN : Hid (ls.length = n)) (HV : Hid (allV ls = true)) (m : Nat) (HM : Hid (mostR ls = m)) (hm : m ≤ 28) (d : Int) (HD : Hid ((if validB (thenL ls) = true then 0 else 3) = d)) (hn : n ≤ 5864062014805) :
    Calls Try.prog 20 #[.slice ao n cap] w (MadeOut w d (thenL ls)) := by
  have kc := check_any _ _ _ HL.out
  rw [show CheckOut ls = .tuple #[.int .i64 (m : Nat), .int .i64 0] by unfold CheckOut; rw [if_neg (by rw [HV.out]; simp), if_neg (by rw [HM.out]; omega), HM.out]] at kc
  go_enter Try.func20, Try.ntmps20
  go_wp2_with fail
  refine kc.mono ?_
  rintro e w1 ⟨rfl, hb1⟩
  have HL1 := Lib.hid (HL.out.step hb1)
  have HB1 := Lib.hid hb1
  clear kc hb1 HL
  go_wp2
  go_loopg [6, 19] n (fun gg o i wr => ∃ k : Nat, k ≤ n ∧ gg = n - k ∧ i = .int .i64 k ∧ Hid (OwnI wr w1.heap.size o (thenL (ls.take k)) ∧ Below w1.heap.size w1 wr ∧ (thenL (ls.take k)).length ≤ 4000))
  case atStart => exact ⟨0, by omega, rfl, rfl, OwnI.nil _ _, Below.refl _ _, by simp [thenL]⟩
  case round =>
    obtain ⟨k, hk, hg, rfl, hP⟩ := hrel
    have HG := Lib.hid hg; clear hg
    by_cases hlt : k < n
    · obtain ⟨l, hx⟩ : ∃ s, ls[k]? = some s := ⟨_, List.getElem?_eq_getElem (by rw [HN.out]; exact hlt)⟩
      have hl2 := HL1.out.step hP.out.2.1
      obtain ⟨g, off, u, rfl, hg, c0, hu⟩ := hl2.get hx
      have hi0 : (0 : Int) ≤ (k : Int) := Int.natCast_nonneg _
      have hi1 : (k : Int) < (n : Int) := by omega
      have hvl := allV_get HV.out hx
      have hn4 := validB_len hvl
      have HX := Lib.hid hx
      clear hx hl2
      by_cases hk0 : k = 0
      · subst hk0
        have ho0 := hP.out.1
        have hb0 := hP.out.2.1
        have hc0 : wr.cell? ⟨g, off, none⟩ = some u := by simpa using c0
        have hA := Lib.hid hP.out.2.2
        go_wp2_with (at_builtin; refine app_row rfl _ _ rfl (vx := u) rfl ho0 rfl hu ?c2 hb0 ?_)
        case c2 => have := hA.out; omega
        intro a' k' c' w' hk' ho' hb'
        have hnew : Hid (OwnI w' w1.heap.size (.slice a' k' c') (thenL (ls.take (0 + 1))) ∧ Below w1.heap.size w1 w' ∧ (thenL (ls.take (0 + 1))).length ≤ 4000) := Lib.hid ⟨by rw [thenL_succ ls 0 HX.out, if_pos rfl]; exact ho'.out, hb'.out, by rw [thenL_succ ls 0 HX.out, if_pos rfl]; simp [thenL]; omega⟩
        clear ho0 hb0 hP hu hc0 c0
        go_wp2
        go_roundg (n - (0 + 1))
        case measure => rw [HG.out]; omega
        case rel => exact ⟨0 + 1, by omega, rfl, by go_num, hnew⟩
      · have hkI : ¬ (k : Int) = 0 := by omega
        obtain ⟨ua, uc, rfl⟩ := hu.len
        go_wp2_with fail
        refine (fresh_len _ l _ hu hvl).mono ?_
        rintro e w2 ⟨ya, ky, yc, rfl, hky, hY, hb1⟩
        have ho0 := hP.out.1.below hb1
        have hb0 := hP.out.2.1.trans (hb1.mono hP.out.2.1.size)
        have hA := Lib.hid hP.out.2.2
        go_wp2_with (at_builtin; refine app_row rfl _ _ rfl (vx := .slice ya ky yc) rfl ho0 rfl hY ?c2 hb0 ?_)
        case c2 => have h1 := hA.out; have h2 := hky.out; rw [cleanP_length]; omega
        intro a' k' c' w' hk' ho' hb'
        have ho2 : Hid (OwnI w' w1.heap.size (.slice a' k' c') (thenL (ls.take (k + 1)))) := Lib.hid (by rw [thenL_succ ls k HX.out, if_neg hk0]; exact ho'.out)
        have hlen : Hid (k' = (thenL (ls.take (k + 1))).length) := Lib.hid (by rw [thenL_succ ls k HX.out, if_neg hk0, List.length_append]; exact hk'.out)
        have hk'0 : (0 : Int) ≤ (k' : Int) := Int.natCast_nonneg _
        clear ho0 hb0 hP hu c0 hY hb1 ho' hk'
        by_cases hbig : 4000 < k'
        · have hbI : (4000 : Int) < (k' : Int) := by omega
          have hd3 : Hid (d = 3) := Lib.hid (by rw [← HD.out, valid_large (by have := thenL_mono ls (k + 1); have := hlen.out; omega)]; rfl)
          have hch := HB1.out.trans (hb'.out.mono HB1.out.size)
          go_wp2
          refine bodyPost_ret (v := .tuple #[.slice none 0 0, .int .i64 3]) (by simp [results, Try.results20, go_sem]) rfl ?_
          rw [hd3.out]
          exact MadeOut.bad (by decide) rfl hch
        · have hbI : (k' : Int) ≤ (4000 : Int) := by omega
          have hnew : Hid (OwnI w' w1.heap.size (.slice a' k' c') (thenL (ls.take (k + 1))) ∧ Below w1.heap.size w1 w' ∧ (thenL (ls.take (k + 1))).length ≤ 4000) := Lib.hid ⟨ho2.out, hb'.out, by have := hlen.out; omega⟩
          go_wp2
          go_roundg (n - (k + 1))
          case measure => rw [HG.out]; omega
          case rel => exact ⟨k + 1, by omega, rfl, by go_num, hnew⟩
    · have hkn : k = n := by omega
      subst hkn
      have hfin := hP.out.1
      have hb0 := hP.out.2.1
      have hA := hP.out.2.2
      rw [List.take_of_length_le (by rw [HN.out]; omega)] at hfin hA
      have HROW := Lib.hid (hfin.row (by omega))
      have HB2 := Lib.hid (HB1.out.trans (hb0.mono HB1.out.size))
      obtain ⟨fa, fc, hv'⟩ := hfin.slice
      have HVV := Lib.hid hv'
      clear hfin hb0 hA hP hv'
      cases hvm : validB (thenL ls) with
      | false =>
        have hd3 : Hid (d = 3) := Lib.hid (by rw [← HD.out, hvm]; rfl)
        rw [HVV.out] at HROW ⊢
        have kd := done_bad fa _ fc _ wr HROW.out hvm
        clear hvm
        go_wp2_with fail
        refine kd.mono ?_
        rintro e w2 ⟨rfl, hb2⟩
        have hch := HB2.out.trans (hb2.mono HB2.out.size)
        go_wp2
        refine bodyPost_ret (v := .tuple #[.slice none 0 0, .int .i64 3]) (by simp [results, Try.results20, go_sem]) rfl ?_
        rw [hd3.out]
        exact MadeOut.bad (by decide) rfl hch
      | true =>
        have hd0 : Hid (d = 0) := Lib.hid (by rw [← HD.out, hvm]; rfl)
        rw [HVV.out] at HROW ⊢
        have kd := done_ok fa _ fc _ wr HROW.out hvm
        clear hvm
        go_wp2_with fail
        refine kd.mono ?_
        rintro e w2 ⟨rfl, hb2⟩
        have hch := HB2.out.trans (hb2.mono HB2.out.size)
        have HR2 := (HROW.out.below hb2).mono hb2.size
        go_wp2
        refine bodyPost_ret (v := .tuple #[.slice fa (thenL ls).length fc, .int .i64 0]) (by simp [results, Try.results20, go_sem]) rfl ?_
        rw [hd0.out]
        exact MadeOut.ok rfl rfl HR2 hch

theorem bThen_any (ao : Option Addr) (n cap : Nat) (ls : List (List Ins)) (w : World) (hl : ProgsRow w w.heap.size (.slice ao n cap) ls) :
    Calls Try.prog 20 #[.slice ao n cap] w (MadeOut w (dueN ls (thenL ls)) (thenL ls)) := by
  have hn : ls.length = n := by obtain ⟨a, c, h⟩ := hl.len; simp only [Value.slice.injEq] at h; exact h.2.1.symm
  have hn5 := hl.1
  have kc := check_any _ _ _ hl
  unfold dueN
  cases hv : allV ls with
  | false =>
    rw [if_pos rfl]
    rw [show CheckOut ls = .tuple #[.int .i64 0, .int .i64 1] by unfold CheckOut; rw [if_pos hv]] at kc
    clear hv hl hn hn5
    go_enter Try.func20, Try.ntmps20
    go_wp2_with fail
    refine kc.mono ?_
    rintro e w1 ⟨rfl, hb1⟩
    go_wp2
    refine bodyPost_ret (v := .tuple #[.slice none 0 0, .int .i64 1]) (by simp [results, Try.results20, go_sem]) rfl ?_
    exact MadeOut.bad (by decide) rfl hb1
  | true =>
    rw [if_neg (by simp)]
    by_cases hr : 28 < mostR ls
    · rw [if_pos hr]
      rw [show CheckOut ls = .tuple #[.int .i64 0, .int .i64 8] by unfold CheckOut; rw [if_neg (by rw [hv]; simp), if_pos hr]] at kc
      clear hv hl hn hn5 hr
      go_enter Try.func20, Try.ntmps20
      go_wp2_with fail
      refine kc.mono ?_
      rintro e w1 ⟨rfl, hb1⟩
      go_wp2
      refine bodyPost_ret (v := .tuple #[.slice none 0 0, .int .i64 8]) (by simp [results, Try.results20, go_sem]) rfl ?_
      exact MadeOut.bad (by decide) rfl hb1
    · rw [if_neg hr]
      exact bThen_main ao n cap ls w (Lib.hid hl) (Lib.hid hn) (Lib.hid hv) _ (Lib.hid rfl) (by omega) _ (Lib.hid rfl) (by omega)

end Go.Proofs.Ytaiomcjopgnfpaa

namespace Go.Proofs.Ytaiomcjopgnfpaa
open Go.RowKit

theorem rightB_mono {x : Ins} {i n i' n' : Int} (h : rightB x i n = true) (h1 : i ≤ i') (h2 : n - i ≤ n' - i') : rightB x i' n' = true := by
  unfold rightB at h ⊢
  simp only [Bool.and_eq_true] at h ⊢
  refine ⟨h.1, ?_⟩
  have h3 := h.2
  split at h3
  · rename_i e; rw [if_pos e]; exact h3
  · rename_i e
    rw [if_neg e]
    split at h3
    · rename_i e; rw [if_pos e]; exact h3
    · rename_i e
      rw [if_neg e]
      split at h3
      · rename_i e; rw [if_pos e]; exact h3
      · rename_i e
        rw [if_neg e]
        split at h3
        · rename_i e
          rw [if_pos e]
          simp only [Bool.and_eq_true, decide_eq_true_eq] at h3 ⊢
          omega
        · cases h3
theorem rightAll_iff {l : List Ins} : rightAll l = true ↔ ∀ (i : Nat) x, l[i]? = some x → rightB x i l.length = true := by
  constructor
  · intro h i x hx; exact rightAll_get h hx
  · intro h
    unfold rightAll
    rw [List.all_eq_true]
    intro i hi
    cases hx : l[i]? with
    | none => rfl
    | some x => exact h i x hx
/-- A valid program, at another place. -/
theorem rightAll_at {l : List Ins} (h : rightAll l = true) {i : Nat} {x : Ins} (hx : l[i]? = some x) {k n : Nat} (hn : k + l.length ≤ n) : rightB x ((k + i : Nat) : Int) n = true :=
  rightB_mono (rightAll_get h hx) (by omega) (by omega)
theorem rightAll_append {a b : List Ins} (ha : ∀ (i : Nat) x, a[i]? = some x → rightB x i (a ++ b).length = true) (hb : ∀ (i : Nat) x, b[i]? = some x → rightB x ((a.length + i : Nat) : Int) (a ++ b).length = true) : rightAll (a ++ b) = true := by
  rw [rightAll_iff]
  intro i x hx
  by_cases h : i < a.length
  · rw [List.getElem?_append_left h] at hx; exact ha i x hx
  · rw [List.getElem?_append_right (by omega)] at hx
    have := hb (i - a.length) x hx
    rwa [show a.length + (i - a.length) = i by omega] at this
/-- Within the limits. -/
def fitsP (l : List Ins) : Bool := decide (l.length ≤ 4000) && decide (trees l ≤ 2000000)
theorem validB_fits {l : List Ins} (h : rightAll l = true) : validB l = fitsP l := by unfold validB fitsP; rw [h, Bool.and_true]
theorem trees_append (a b : List Ins) : trees (a ++ b) = trees a + trees b := by simp [trees]

/-- A program stands within another one. -/
def Seg (P : List Ins) (k : Nat) (l : List Ins) : Prop := ∀ (i : Nat) x, l[i]? = some x → P[k + i]? = some x
theorem Seg.len {P l : List Ins} {k : Nat} (h : Seg P k l) (hl : 0 < l.length) : k + l.length ≤ P.length := by
  have := h (l.length - 1) l[l.length - 1] (List.getElem?_eq_getElem (by omega))
  have := (List.getElem?_eq_some_iff.1 this).1
  omega
theorem Seg.mid (a l b : List Ins) : Seg (a ++ l ++ b) a.length l := by
  intro i x hx
  have hi := (List.getElem?_eq_some_iff.1 hx).1
  rw [List.getElem?_append_left (by simp; omega), List.getElem?_append_right (by omega), show a.length + i - a.length = i by omega, hx]
theorem Seg.right (a l : List Ins) : Seg (a ++ l) a.length l := by have := Seg.mid a l []; rwa [List.append_nil] at this

/-- A step within. -/
theorem Seg.step {P l : List Ins} {k : Nat} (h : Seg P k l) (hv : rightAll l = true) {s : St} (hp : s.pos < l.length) :
    stepP P ⟨k + s.pos, s.regs⟩ = (stepP l s).map fun s' => ⟨k + s'.pos, s'.regs⟩ := by
  obtain ⟨x, hx⟩ : ∃ x, l[s.pos]? = some x := ⟨_, List.getElem?_eq_getElem hp⟩
  have hr := rightAll_get hv hx
  unfold stepP
  rw [hx]
  simp only [h _ _ hx]
  unfold rightB at hr
  simp only [Bool.and_eq_true] at hr
  have h3 := hr.2
  unfold stepX
  split
  · simp [Nat.add_assoc]
  · split
    · simp [Nat.add_assoc]
    · split
      · split <;> simp [Nat.add_assoc]
      · split
        · simp [Nat.add_assoc]
        · split
          · simp [Nat.add_assoc]
          · rename_i h0 h1 h2 h4 h5
            rw [if_neg h0, if_neg (by omega), if_neg h2] at h3
            split
            · simp [Nat.add_assoc]
            · split at h3
              · simp only [Bool.and_eq_true, decide_eq_true_eq] at h3
                simp only [Option.map_some, Option.some.injEq, St.mk.injEq, and_true]
                omega
              · simp at h3
/-- How a run within another one goes. -/
theorem Seg.run {P l : List Ins} {k : Nat} (h : Seg P k l) (hv : rightAll l = true) (hkl : k + l.length ≤ P.length) : ∀ (f n : Nat) (s : St), Good l.length s →
    (∀ s' m, goF l f n s = .done s' m → n ≤ m ∧ m ≤ n + f ∧ goF P f n ⟨k + s.pos, s.regs⟩ = goF P (f - (m - n)) m ⟨k + l.length, s'.regs⟩) ∧
    (∀ s' m, goF l f n s = .fuel s' m → goF P f n ⟨k + s.pos, s.regs⟩ = .fuel ⟨k + s'.pos, s'.regs⟩ m) ∧
    (goF l f n s = .big → goF P f n ⟨k + s.pos, s.regs⟩ = .big) := by
  intro f
  induction f with
  | zero =>
    intro n s hg
    by_cases hp : s.pos = l.length
    · rw [goF_done hp]
      refine ⟨?_, ?_, ?_⟩
      · intro s' m e; cases e; exact ⟨Nat.le_refl _, by omega, by rw [hp, Nat.sub_self]⟩
      · intro s' m e; cases e
      · intro e; cases e
    · rw [goF_zero hp]
      have hP : k + s.pos ≠ P.length := by have := hg.1; omega
      refine ⟨?_, ?_, ?_⟩
      · intro s' m e; cases e
      · intro s' m e; cases e; exact goF_zero hP
      · intro e; cases e
  | succ f ih =>
    intro n s hg
    by_cases hp : s.pos = l.length
    · rw [goF_done hp]
      refine ⟨?_, ?_, ?_⟩
      · intro s' m e; cases e; exact ⟨Nat.le_refl _, by omega, by rw [hp, Nat.sub_self]; rfl⟩
      · intro s' m e; cases e
      · intro e; cases e
    · have hpl : s.pos < l.length := by have := hg.1; omega
      have hP : k + s.pos ≠ P.length := by omega
      have hst := h.step hv hpl
      cases hs : stepP l s with
      | none =>
        rw [goF_big hp hs]
        rw [hs] at hst
        refine ⟨?_, ?_, ?_⟩
        · intro s' m e; cases e
        · intro s' m e; cases e
        · intro _; exact goF_big hP hst
      | some s1 =>
        rw [hs] at hst
        rw [goF_step hp hs, goF_step hP hst]
        obtain ⟨i1, i2, i3⟩ := ih (n + 1) s1 (hg.step hv hs)
        refine ⟨?_, i2, i3⟩
        intro s' m e
        obtain ⟨j1, j2, j3⟩ := i1 s' m e
        exact ⟨by omega, by omega, by rw [j3, show f - (m - (n + 1)) = f + 1 - (m - n) by omega]⟩

end Go.Proofs.Ytaiomcjopgnfpaa

namespace Go.Proofs.Ytaiomcjopgnfpaa
open Go.RowKit

theorem fits4_ok (v : Value) (l : List Ins) (w : World) (hl : InsRow w w.heap.size v l) :
    Calls Try.prog 74 #[v] w fun e w' => e = .returned (.bool (fitsP l)) ∧ Below w.heap.size w w' := by
  have kt := trees_any v l w _ hl
  obtain ⟨a, c, rfl⟩ := hl.len
  obtain ⟨n, hn⟩ : ∃ n, l.length = n := ⟨_, rfl⟩
  obtain ⟨t, ht⟩ : ∃ t, trees l = t := ⟨_, rfl⟩
  unfold fitsP
  rw [hn, ht]
  rw [hn, ht] at kt
  clear hn ht hl
  by_cases h1 : n ≤ 4000
  · have h1I : (n : Int) ≤ 4000 := by omega
    have kt := kt h1
    by_cases h2 : t ≤ 2000000
    · have h2I : (t : Int) ≤ 2000000 := by omega
      go_enter Try.func74, Try.ntmps74
      go_wp2_with fail
      refine kt.mono ?_
      rintro e w1 ⟨rfl, rfl⟩
      go_wp2
      go_ret
      exact ⟨by simp [h1, h2], Below.refl _ _⟩
    · have h2I : ¬ (t : Int) ≤ 2000000 := by omega
      go_enter Try.func74, Try.ntmps74
      go_wp2_with fail
      refine kt.mono ?_
      rintro e w1 ⟨rfl, rfl⟩
      go_wp2
      go_ret
      exact ⟨by simp [h1]; omega, Below.refl _ _⟩
  · have h1I : ¬ (n : Int) ≤ 4000 := by omega
    go_enter Try.func74, Try.ntmps74
    go_wp2
    go_ret
    exact ⟨by simp [h1], Below.refl _ _⟩

end Go.Proofs.Ytaiomcjopgnfpaa

namespace Go.Proofs.Ytaiomcjopgnfpaa
open Go.RowKit

def tailI : Ins := ⟨4, 0, 0, 0, ⟨#[]⟩⟩
theorem tailI_wf : tailI.wf := wf_lit _ _ _ _ _ (by unfold i64; decide) (by unfold i64; decide) (by unfold i64; decide) (by unfold i64; decide) (by decide)
theorem tail4_any (w : World) : Calls Try.prog 75 #[] w fun e w' => ∃ a c, e = .returned (.slice a 1 c) ∧ InsRow w' w'.heap.size (.slice a 1 c) [tailI] ∧ Below w.heap.size w w' := by
  have hrow := (OwnI.lit w [tailI] (by simp; exact tailI_wf) (by simp)).row (by simp)
  go_enter Try.func75, Try.ntmps75
  go_wp2
  go_ret
  exact ⟨_, _, rfl, hrow, (Below.refl _ _).alloc (Nat.le_refl _) _⟩

end Go.Proofs.Ytaiomcjopgnfpaa

namespace Go.Proofs.Ytaiomcjopgnfpaa
open Go.RowKit

theorem el_progs : ElemT Try.prog 22 25 (.slice none 0 0) 1 24 := ⟨Try.underlying22, by kernel_rfl, rfl, by decide⟩

set_option maxHeartbeats 1000000 in
theorem twin_own (v : Value) (l : List Ins) (w : World) (hl : InsRow w w.heap.size v l) :
    Calls Try.prog 33 #[v] w fun e w' => ∃ a c, e = .returned (.slice a l.length c) ∧ OwnI w' w.heap.size (.slice a l.length c) l ∧ Below w.heap.size w w' := by
  have hn := hl.2.1
  have hwf := hl.1
  have hs := hl.src
  obtain ⟨n, hn'⟩ : ∃ n, l.length = n := ⟨_, rfl⟩
  rw [hn'] at hn hs
  have HN := Lib.hid hn'; clear hn'
  have HW := Lib.hid hwf; clear hwf
  obtain ⟨ao, cap, rfl⟩ := hl.len
  rw [HN.out] at hl hs ⊢
  have hown : (w.alloc (.cells #[] 52)).ownsRow w.heap.size 52 5 (.slice (some ⟨w.heap.size, 0, none⟩) 0 0) 0 [] := World.ownsRow_lit w #[] 0 (Nat.le_refl _) (by decide) rfl
  have hs2 : Src (w.alloc (.cells #[] 52)) (.slice ao n cap) n 5 (inscells l) := by
    have := (hl.below ((Below.refl _ w).alloc (Nat.le_refl _) (.cells #[] 52))).src
    rwa [HN.out] at this
  have hb : Below w.heap.size w (w.alloc (.cells #[] 52)) := (Below.refl _ _).alloc (Nat.le_refl _) _
  go_enter Try.func33, Try.ntmps33
  go_wp2_with (at_builtin; refine app_src el_ins (vx := .slice ao n cap) rfl _ _ rfl rfl hown rfl hs2 (inscells_one l) ?c2 ?c3 (by simp) hb (Nat.le_refl _) ?_)
  case c2 => omega
  case c3 => unfold maxLen; omega
  intro v' w' hown' hb' hg
  have hown2 : OwnI w' w.heap.size v' l := ⟨by rw [HN.out]; simpa using hown', HW.out⟩
  obtain ⟨a2, c2, rfl⟩ := own_len hown'
  clear hown hs hs2 hb hown' hg
  go_wp2
  refine bodyPost_ret (v := .slice a2 n c2) (by simp [results, Try.results33, go_sem]) rfl ?_
  exact ⟨_, _, rfl, hown2, hb'⟩

/-- A row of one's own of programs, each in a block besides. -/
def OwnP (w : World) (B : Nat) (v : Value) (ls : List (List Ins)) : Prop :=
  ∃ us, w.ownsRow B 25 1 v ls.length us ∧ ∀ (j : Nat) (u : Value) (l : List Ins), us[j]? = some u → ls[j]? = some l → InsRow w w.heap.size u l ∧ ∀ g, u.ownBlock = some g → g < w.heap.size ∧ v.ownBlock ≠ some g
theorem OwnP.nil (w : World) (B : Nat) : OwnP w B (.slice none 0 0) [] := ⟨[], World.ownsRow_nil _ _ _ _, fun j u l h => by simp at h⟩
theorem OwnP.lt {w : World} {B : Nat} {v : Value} {ls : List (List Ins)} (h : OwnP w B v ls) {g : Nat} (hg : v.ownBlock = some g) : B ≤ g ∧ g < w.heap.size := by
  obtain ⟨us, h1, _⟩ := h
  rcases h1.2 with ⟨rfl, _⟩ | ⟨k, cap, cur, rfl, hb, hc, _⟩
  · simp [Value.ownBlock] at hg
  · simp only [Value.ownBlock, Option.some.injEq] at hg; subst hg; exact ⟨hb, (Array.getElem?_eq_some_iff.1 hc).1⟩
theorem OwnP.below {w w' : World} {B : Nat} {v : Value} {ls : List (List Ins)} (h : OwnP w B v ls) (hb : Below w.heap.size w w') : OwnP w' B v ls := by
  obtain ⟨us, h1, h2⟩ := h
  refine ⟨us, own_below h1 hb, fun j u l hu hl => ?_⟩
  obtain ⟨h3, h4⟩ := h2 j u l hu hl
  exact ⟨(h3.below hb).mono hb.size, fun g hg => ⟨Nat.lt_of_lt_of_le (h4 g hg).1 hb.size, (h4 g hg).2⟩⟩
theorem OwnP.len {w : World} {B : Nat} {v : Value} {ls : List (List Ins)} (h : OwnP w B v ls) : ∃ a c, v = .slice a ls.length c := by
  obtain ⟨us, h1, _⟩ := h; exact own_len h1
theorem OwnP.row {w : World} {B : Nat} {v : Value} {ls : List (List Ins)} (h : OwnP w B v ls) (hn : ls.length ≤ 5864062014805) : ProgsRow w w.heap.size v ls := by
  obtain ⟨us, h1, h2⟩ := h
  have hlen : us.length = ls.length := by have := h1.1; omega
  refine ⟨hn, ?_⟩
  rcases h1.2 with ⟨rfl, h0⟩ | ⟨g, cap, cur, rfl, hb, hg, hnc, hcm, hcs, htake⟩
  · exact .inl ⟨List.length_eq_zero_iff.1 h0, .inl rfl⟩
  · refine .inr ⟨g, 0, cap, rfl, (Array.getElem?_eq_some_iff.1 hg).1, fun j l hl => ?_⟩
    have hlt := (List.getElem?_eq_some_iff.1 hl).1
    obtain ⟨u, hu⟩ : ∃ u, us[j]? = some u := ⟨_, List.getElem?_eq_getElem (by omega)⟩
    refine ⟨u, ?_, (h2 j u l hu hl).1⟩
    rw [Nat.zero_add, World.ownsRow.cellAt h1 j (by omega), hu]
theorem OwnI.block {w : World} {B : Nat} {v : Value} {l : List Ins} (h : OwnI w B v l) {g : Nat} (hg : v.ownBlock = some g) : B ≤ g ∧ g < w.heap.size := by
  rcases h.own.2 with ⟨rfl, _⟩ | ⟨k, cap, cur, rfl, hb, hc, _⟩
  · simp [Value.ownBlock] at hg
  · simp only [Value.ownBlock, Option.some.injEq] at hg; subst hg; exact ⟨hb, (Array.getElem?_eq_some_iff.1 hc).1⟩
theorem InsRow.far {w w' : World} {vx : Value} {l : List Ins} (h : InsRow w w.heap.size vx l) (hs : w.heap.size ≤ w'.heap.size) (hold : ∀ g, vx.ownBlock = some g → g < w.heap.size → w'.heap[g]? = w.heap[g]?) : InsRow w' w'.heap.size vx l := by
  refine ⟨h.1, h.2.1, ?_⟩
  rcases h.2.2 with h3 | ⟨g, off, cap, rfl, hgl, hc⟩
  · exact .inl h3
  · exact .inr ⟨g, off, cap, rfl, by omega, fun j x hj k u hk => (World.cell?_of_block (hold g rfl hgl)).trans (hc j x hj k u hk)⟩

/-- append of a program to such a row. -/
theorem app_prog {ops : Array Oper} {rest : List Oper} {o : Oper} {a : Act} {Q : Exit → Act → World → Prop} (hgd : o.guard = none) (s x : Operand)
    (ho : o.op = .call { callee := .builtin .append, args := #[s, x], argTypes := #[22, 22] }) {w w0 : World} {v u : Value} {ls : List (List Ins)} {l : List Ins}
    (hs : a.eval s = v) (hown : OwnP w w0.heap.size v ls) (hx : a.eval x = .slice (some ⟨w.heap.size, 0, none⟩) 1 1) (hu : InsRow w w.heap.size u l) (hu1 : u.oneCell' = true) (hue : ∀ g, u.ownBlock = some g → g < w.heap.size ∧ v.ownBlock ≠ some g) (hlen : ls.length + 1 ≤ 5864062014805) (hb : Below w0.heap.size w0 w)
    (h : ∀ a' k c' w', Hid (k = ls.length + 1) → Hid (OwnP w' w0.heap.size (.slice a' k c') (ls ++ [l])) → Hid (Below w0.heap.size w0 w') → wpList Try.prog ops Q rest (a.put o.dst (.slice a' k c')) w') :
    wpList Try.prog ops Q (o :: rest) a (w.alloc (.cells #[u] 25)) := by
  have hlt := fun (g : Nat) (hg : v.ownBlock = some g) => hown.lt hg
  obtain ⟨us, h1, h2⟩ := hown
  have hus : us.length = ls.length := by have := h1.1; omega
  obtain ⟨i, hi, hz, hsize, hbytes⟩ := info_parts el_progs.hi
  refine wpList_append_lies _ hgd s x _ ho w0.heap.size _ i _ 1 24 el_progs.ht hi hz hsize hbytes el_progs.hzs el_progs.hsz v ls.length us hs (h1.alloc _) ⟨w.heap.size, 0, none⟩ 1 1 [u] hx rfl ?_ ?_ (by decide) (by unfold maxLen; omega) (by omega) (by have := hb.size; simp; omega) (w.heap.size + 1) (by simp) ?_
  · intro j y hy
    rw [Addr.add_lit]
    unfold World.cell?
    rw [heap_alloc_new w _]
    simpa using hy
  · intro y hy; rw [List.mem_singleton.1 hy]; exact hu1
  · intro g cap w' ho' hg hblk hgl
    have hsz : w.heap.size < w'.heap.size := (grownBy_alloc_trans hg).1
    have hold := (grownBy_alloc_trans hg).2
    refine h _ _ _ w' (Lib.hid rfl) (Lib.hid ⟨us ++ [u], by rw [List.length_append]; exact ho', ?_⟩) (Lib.hid ((hb.alloc hb.size _).grown hg (by have := hb.size; simp; omega) (fun k hk => (hlt _ hk).1)))
    have hnew : ∀ (y : Value) (m : List Ins), InsRow w w.heap.size y m → (∀ g', y.ownBlock = some g' → g' < w.heap.size ∧ v.ownBlock ≠ some g') → InsRow w' w'.heap.size y m ∧ ∀ g', y.ownBlock = some g' → g' < w'.heap.size ∧ Value.ownBlock (.slice (some ⟨g, 0, none⟩) (ls.length + 1) cap) ≠ some g' := by
      intro y m hy hye
      refine ⟨hy.far (by omega) fun g' hg' hgl' => hold g' hgl' (fun e => (hye g' hg').2 e.symm), fun g' hg' => ⟨by have := (hye g' hg').1; omega, fun e => ?_⟩⟩
      simp only [Value.ownBlock, Option.some.injEq] at e
      subst e
      rcases hblk with h3 | h3
      · exact (hye g hg').2 h3
      · have := (hye g hg').1; omega
    intro j y m hy hm
    rw [List.getElem?_append] at hy hm
    by_cases hj : j < ls.length
    · rw [if_pos (by omega)] at hy
      rw [if_pos hj] at hm
      exact hnew y m (h2 j y m hy hm).1 (h2 j y m hy hm).2
    · rw [if_neg (by omega)] at hy
      rw [if_neg hj] at hm
      have hy1 := List.mem_singleton.1 (List.mem_of_getElem? hy)
      have hm1 := List.mem_singleton.1 (List.mem_of_getElem? hm)
      subst hy1; subst hm1
      exact hnew y m hu hue

set_option maxRecDepth 20000 in
set_option maxHeartbeats 4000000 in
theorem copied_any (v : Value) (ls : List (List Ins)) (w : World) (hl : ProgsRow w w.heap.size v ls) :
    Calls Try.prog 19 #[v] w fun e w' => ∃ v', e = .returned v' ∧ ProgsRow w' w'.heap.size v' ls ∧ Below w.heap.size w w' := by
  obtain ⟨ao, cap, rfl⟩ := hl.len
  have hn5 := hl.1
  obtain ⟨n, hn'⟩ : ∃ n, ls.length = n := ⟨_, rfl⟩
  rw [hn'] at hl hn5 ⊢
  have HN := Lib.hid hn'; clear hn'
  have HL := Lib.hid hl; clear hl
  go_enter Try.func19, Try.ntmps19
  go_wp2
  go_loopg [3, 4] n (fun gg o i wr => ∃ k : Nat, k ≤ n ∧ gg = n - k ∧ i = .int .i64 k ∧ Hid (OwnP wr w.heap.size o (ls.take k) ∧ Below w.heap.size w wr))
  case atStart => exact ⟨0, by omega, rfl, rfl, OwnP.nil _ _, Below.refl _ _⟩
  case round =>
    obtain ⟨k, hk, hg, rfl, hP⟩ := hrel
    have HG := Lib.hid hg; clear hg
    by_cases hlt : k < n
    · obtain ⟨l, hx⟩ : ∃ s, ls[k]? = some s := ⟨_, List.getElem?_eq_getElem (by rw [HN.out]; exact hlt)⟩
      have hl2 := HL.out.step hP.out.2
      obtain ⟨g, off, u, rfl, hg, c0, hu⟩ := hl2.get hx
      have hi0 : (0 : Int) ≤ (k : Int) := Int.natCast_nonneg _
      have hi1 : (k : Int) < (n : Int) := by omega
      have HX := Lib.hid hx
      have kr := twin_own u l wr hu
      obtain ⟨r, hr⟩ : ∃ r, l.length = r := ⟨_, rfl⟩
      rw [hr] at kr
      have HR := Lib.hid hr
      clear hx hl2 hr
      go_wp2_with fail
      refine kr.mono ?_
      rintro e w1 ⟨a1, c1, rfl, ho1, hb1⟩
      have hP1 := hP.out.1.below hb1
      have hb2 := hP.out.2.trans (hb1.mono hP.out.2.size)
      have hue : ∀ g, (Value.slice a1 r c1).ownBlock = some g → g < w1.heap.size ∧ _ ≠ some g := fun g hg => ⟨(ho1.block hg).2, fun e => by have h1 := (hP.out.1.lt e).2; have h2 := (ho1.block hg).1; omega⟩
      have hrow := ho1.row hu.2.1
      clear hb1 kr ho1 hu c0 hg hP
      go_wp2_with (at_builtin; refine app_prog rfl _ _ rfl rfl hP1 rfl hrow rfl ?c1 ?c2 hb2 ?_)
      case c1 => exact hue
      case c2 => rw [List.length_take]; omega
      intro a' k' c' w' hk' hown' hb'
      have hkk : k' = k + 1 := by rw [hk'.out, HN.out]; omega
      subst hkk
      have hnew : Hid (OwnP w' w.heap.size (.slice a' (k + 1) c') (ls.take (k + 1)) ∧ Below w.heap.size w w') := Lib.hid ⟨by rw [take_snoc' _ _ _ HX.out]; exact hown'.out, hb'.out⟩
      clear hown' hb' hP1 hb2 hrow hue hk'
      go_wp2
      go_roundg (n - (k + 1))
      case measure => rw [HG.out]; omega
      case rel => exact ⟨k + 1, by omega, rfl, by go_num, hnew⟩
    · have hkn : k = n := by omega
      subst hkn
      have hP := Lib.hid (show OwnP wr w.heap.size _ ls ∧ Below w.heap.size w wr from ⟨by have h2 := hP.out.1; rwa [List.take_of_length_le (by rw [HN.out]; omega)] at h2, hP.out.2⟩)
      obtain ⟨a2, c2, rfl⟩ := hP.out.1.len
      go_wp2
      refine bodyPost_ret (v := .slice a2 ls.length c2) (by simp [results, Try.results19, go_sem]) rfl ?_
      exact ⟨_, rfl, hP.out.1.row (by rw [HN.out]; exact hn5), hP.out.2⟩

set_option maxHeartbeats 4000000 in
theorem alike_self (v v' : Value) (ls : List (List Ins)) (w : World) (hl : ProgsRow w w.heap.size v ls) (hl' : ProgsRow w w.heap.size v' ls) :
    Calls Try.prog 21 #[v, v'] w fun e w' => e = .returned (.bool true) ∧ Below w.heap.size w w' := by
  obtain ⟨ao, cap, rfl⟩ := hl.len
  obtain ⟨ao', cap', rfl⟩ := hl'.len
  have hn5 := hl.1
  obtain ⟨n, hn'⟩ : ∃ n, ls.length = n := ⟨_, rfl⟩
  rw [hn'] at hl hl' hn5 ⊢
  have HN := Lib.hid hn'; clear hn'
  have HL := Lib.hid hl; clear hl
  have HL' := Lib.hid hl'; clear hl'
  go_enter Try.func21, Try.ntmps21
  go_wp2
  go_loopg [5] n (fun gg i wr => ∃ k : Nat, k ≤ n ∧ gg = n - k ∧ i = .int .i64 k ∧ Below w.heap.size w wr)
  case atStart => exact ⟨0, by omega, rfl, rfl, Below.refl _ _⟩
  case round =>
    obtain ⟨k, hk, hg, rfl, hb⟩ := hrel
    have HG := Lib.hid hg; clear hg
    by_cases hlt : k < n
    · obtain ⟨l, hx⟩ : ∃ s, ls[k]? = some s := ⟨_, List.getElem?_eq_getElem (by rw [HN.out]; exact hlt)⟩
      have hl2 := HL.out.step hb
      have hl2' := HL'.out.step hb
      obtain ⟨g, off, u, rfl, hg, c0, hu⟩ := hl2.get hx
      obtain ⟨g', off', u', rfl, hg', c0', hu'⟩ := hl2'.get hx
      have hi0 : (0 : Int) ≤ (k : Int) := Int.natCast_nonneg _
      have hi1 : (k : Int) < (n : Int) := by omega
      have KS : Hid (∀ w', Below wr.heap.size wr w' → Calls Try.prog 35 #[u, u'] w' fun e w'' => e = .returned (.bool true) ∧ Below wr.heap.size wr w'') := Lib.hid fun w' hb' => (same_self ((hu.below hb').mono hb'.size) ((hu'.below hb').mono hb'.size)).mono fun e w'' h => ⟨h.1, hb'.trans (h.2.mono hb'.size)⟩
      have KK : Hid (∀ w', Below wr.heap.size wr w' → w'.cell? ⟨g, off + k, none⟩ = some u ∧ w'.cell? ⟨g', off' + k, none⟩ = some u') := Lib.hid fun w' hb' => ⟨(hb'.cell (p := ⟨g, off + k, none⟩) hg).trans c0, (hb'.cell (p := ⟨g', off' + k, none⟩) hg').trans c0'⟩
      have HBW := Lib.hid hb
      clear hx hl2 hl2' hb hu hu' hg hg'
      go_wp2
      go_region_held3 (fun w' => w'.cell? ⟨g, off + k, none⟩ = some u ∧ w'.cell? ⟨g', off' + k, none⟩ = some u')
        (with_reducible (first | exact KK.out _ hbS | exact KK.out _ (Below.refl _ _) | exact KK.out _ (Below.refl _ _).drew | fail "keep"))
        ((first | ((with_reducible refine (KS.out _ (by first | exact Below.refl _ _ | exact (Below.refl _ _).drew)).mono ?_); rintro e wS ⟨rfl, hbS⟩) | (fail "arm")))
      all_goals (
      have hb2 := HBW.out.trans (hbS.mono HBW.out.size)
      clear c0 c0' hbS
      go_wp2
      go_roundg (n - (k + 1)))
      case measure => rw [HG.out]; omega
      case rel => exact ⟨k + 1, by omega, rfl, by go_num, hb2⟩
    · have hkn : k = n := by omega
      subst hkn
      go_wp2
      go_ret
      exact ⟨rfl, hb⟩

end Go.Proofs.Ytaiomcjopgnfpaa


/- narcissustop: register, number, regs, twin, tail, set, good, whole, few. -/
import Derived.Test.YtdjbcmfjlfkcjaaTop1
import Derived.Test.YtdjbcmfjlfkcjaaMB2
import Derived.Test.YtdjbcmfjlfkcjaaBuildV
namespace Go.Proofs.Ytdjbcmfjlfkcjaa
open Go.RowKit

theorem treg_any (n : Int) (b : Bool) (h : regB n = b) (w : World) : Calls Try.prog 99 #[.int .i64 n] w fun e w' => e = .returned (.bool b) ∧ w = w' := by
  unfold regB at h
  by_cases h0 : 0 ≤ n
  · by_cases h1 : n < 32
    · have hb : b = true := by rw [← h]; simp; omega
      subst hb
      clear h
      go_enter Try.func99, Try.ntmps99
      go_wp2
      go_ret
      exact ⟨rfl, rfl⟩
    · have hb : b = false := by rw [← h]; simp; omega
      subst hb
      clear h
      go_enter Try.func99, Try.ntmps99
      go_wp2
      go_ret
      exact ⟨rfl, rfl⟩
  · have hb : b = false := by rw [← h]; simp; omega
    subst hb
    clear h
    go_enter Try.func99, Try.ntmps99
    go_wp2
    go_ret
    exact ⟨rfl, rfl⟩
theorem tnumber_any (n : Nat) (hn : n ≤ 100000) (w : World) : Calls Try.prog 100 #[.int .i64 n] w fun e w' => ∃ p, e = .returned (.pointer p) ∧ NodeP 101 w' (.num n) (.pointer p) ∧ Below w.heap.size w w' := by
  have hnI : (n : Int) ≤ 100000 := by omega
  go_enter Try.func100, Try.ntmps100
  go_wp2
  go_loopg [3, 4] n (fun gg c i wr => ∃ (k : Nat) (p : Option Addr), k ≤ n ∧ gg = n - k ∧ c = .pointer p ∧ i = .int .i64 k ∧ Hid (NodeP 101 wr (.num k) (.pointer p)) ∧ Below w.heap.size w wr)
  case atStart => exact ⟨0, none, by omega, rfl, rfl, rfl, Lib.hid rfl, Below.refl _ _⟩
  case round =>
    obtain ⟨k, p, hk, hg, rfl, rfl, hp, hb⟩ := hrel
    have HG := Lib.hid hg; clear hg
    by_cases hlt : k < n
    · have hi : (k : Int) < n := by omega
      go_wp2_with fail
      refine (tpair_ok .nil (.num k) _ _ _ rfl hp.out (by decide) (by rw [size_num]; omega)).mono ?_
      rintro e w1 ⟨q, rfl, hq, hb1⟩
      have hP := Lib.hid (show NodeP 101 w1 (.num (k + 1)) (.pointer (some q)) from hq)
      have HB := Lib.hid (hb.trans (hb1.mono hb.size))
      clear hq hb1 hb hp
      go_wp2
      go_roundg (n - (k + 1))
      case measure => rw [HG.out]; omega
      case rel => exact ⟨k + 1, some q, by omega, rfl, rfl, by go_num, hP, HB.out⟩
    · have hkn : k = n := by omega
      subst hkn
      go_wp2
      go_ret
      exact ⟨p, rfl, hp.out, hb⟩
theorem tnum_at (i : Int) (n : Nat) (hi : i = n) (hn : n ≤ 100000) (w : World) : Calls Try.prog 100 #[.int .i64 i] w fun e w' => ∃ p, e = .returned (.pointer p) ∧ NodeP 101 w' (.num n) (.pointer p) ∧ Below w.heap.size w w' := by
  subst hi; exact tnumber_any n hn w
theorem ttwin_any (v : Value) (l : List Ins) (hn : l.length ≤ 1000000) (w : World) (hl : InsRow w w.heap.size v l) : Calls Try.prog 24 #[v] w fun e w' => ∃ a c, e = .returned (.slice a l.length c) ∧ OwnI w' w.heap.size (.slice a l.length c) l ∧ Below w.heap.size w w' := by
  obtain ⟨la, lc, rfl⟩ := hl.len
  have hL := Lib.hid hl
  have HN := Lib.hid hn
  clear hl hn
  have ch := Lib.hid (Below.refl w.heap.size w)
  go_enter Try.func24, Try.ntmps24
  have q_hL := hL
  have rl := Lib.hid (Below.refl w.heap.size w)
  have hs0 := hL.out
  go_wp2_with (at_builtin; refine lit_row rfl _ _ rfl (vx := .slice la l.length lc) (n := 0) [] rfl rfl ?c1 rfl hs0 ?c2 ?_)
  case c1 => simp
  case c2 => have := HN.out; omega
  clear hs0
  intro a1 k1 s1 w1 hk1 hO hb
  have rl := hb
  clear hb
  have hL := Lib.hid ((q_hL.out.below rl.out).mono rl.out.size)
  have hk := hk1.out
  subst hk
  have hO2 := Lib.hid (show OwnI _ w.heap.size _ l from (hO.out).lower (Nat.le_refl _))
  have ch := Lib.hid (ch.out.trans (rl.out.mono ch.out.size))
  clear hO rl
  go_wp2
  go_ret
  exact ⟨_, _, rfl, hO2.out, ch.out⟩
theorem ttail_any (w : World) : Calls Try.prog 72 #[] w fun e w' => ∃ v, e = .returned v ∧ InsRow w' w'.heap.size v [⟨4, 0, 0, 0, ⟨#[]⟩⟩] ∧ Below w.heap.size w w' := by
  go_enter Try.func72, Try.ntmps72
  go_wp2
  go_ret
  exact ⟨_, rfl, (OwnI.lit w [⟨4, 0, 0, 0, ⟨#[]⟩⟩] (by simp only [List.forall_mem_cons, List.not_mem_nil, false_imp_iff, implies_true, and_true]; exact wf_lit _ _ _ _ _ (by unfold i64; decide) (by unfold i64; decide) (by unfold i64; decide) (by unfold i64; decide) (by decide)) (by simp)).row (by simp), (Below.refl _ _).alloc (Nat.le_refl _) _⟩
theorem tset_any (t : ByteArray) (ht : t.size ≤ 1000000) (w : World) : Calls Try.prog 106 #[.string t] w fun e w' => ∃ v, e = .returned v ∧ InsRow w' w'.heap.size v [setI 0 t] ∧ Below w.heap.size w w' := by
  have hT := Lib.hid ht
  clear ht
  go_enter Try.func106, Try.ntmps106
  go_wp2
  go_ret
  exact ⟨_, rfl, (OwnI.lit w [setI 0 t] (by simp only [List.forall_mem_cons, List.not_mem_nil, false_imp_iff, implies_true, and_true]; exact setI_wf _ _ (by omega) (by have := hT.out; omega)) (by simp)).row (by simp), (Below.refl _ _).alloc (Nat.le_refl _) _⟩
set_option maxHeartbeats 4000000 in
theorem tregs_ok (v : Value) (l : List Ins) (w : World) (hl : InsRow w w.heap.size v l) (hv : validB l = true) :
    Calls Try.prog 26 #[v] w fun e w' => e = .returned (.int .i64 (regN l : Nat)) ∧ Below w.heap.size w w' := by
  have hn4 := validB_len hv
  have HV := Lib.hid (validB_all hv)
  obtain ⟨ao, cap, rfl⟩ := hl.len
  obtain ⟨n, hn'⟩ : ∃ n, l.length = n := ⟨_, rfl⟩
  rw [hn'] at hl hn4 ⊢
  have HN := Lib.hid hn'; clear hn' hv
  obtain ⟨R, hR⟩ : ∃ R, regN l = R := ⟨_, rfl⟩
  rw [hR]
  have HR := Lib.hid hR; clear hR
  have hl1 := Lib.hid hl
  clear hl
  go_enter Try.func26, Try.ntmps26
  go_wp2
  go_loopg [3, 4] n (fun gg m i wr => ∃ k q : Nat, k ≤ n ∧ gg = n - k ∧ i = .int .i64 k ∧ m = .int .i64 q ∧ q < 32 ∧ Aside (q = mostN (l.take k)) ∧ Below w.heap.size w wr)
  case atStart => exact ⟨0, 0, by omega, rfl, rfl, rfl, by omega, rfl, Below.refl _ _⟩
  case round =>
    obtain ⟨k, q, hk, hg, rfl, rfl, hq, hs, hbw⟩ := hrel
    have HG := Lib.hid hg; clear hg
    by_cases hlt : k < n
    · obtain ⟨x, hx⟩ : ∃ s, l[k]? = some s := ⟨_, List.getElem?_eq_getElem (by rw [HN.out]; exact hlt)⟩
      have hl2 := hl1.out.below hbw
      obtain ⟨g, off, rfl, hg, c0, c1, c2, c3, c4⟩ := hl2.get hx
      have hr := rightAll_get HV.out hx
      obtain ⟨a, ha, ha2, hbc⟩ := right_nats hr
      have hsn : Hid (mostN (l.take (k + 1)) = max q (rX x)) := by show _ = _; rw [mostN_succ l k hx, hs.out]
      have hi0 : (0 : Int) ≤ (k : Int) := Int.natCast_nonneg _
      have hi1 : (k : Int) < (n : Int) := by omega
      by_cases ho : x.op = 5
      · have hop : (x.op == 5) = true := by rw [ho]; rfl
        have hrx : Hid (rX x = a) := by show _ = _; unfold rX; rw [if_pos ho, ha]; simp
        clear ho hr hx hl2 hbc
        rw [ha] at c1
        clear ha
        go_wp2
        all_goals (
        go_roundg (n - (k + 1))
        case measure => rw [HG.out]; omega
        case rel => exact ⟨k + 1, max q a, by omega, rfl, by go_num, by congr 1; omega, by omega, by show _ = _; rw [hsn.out, hrx.out], hbw⟩)
      · have hop : (x.op == 5) = false := by rw [beq_eq_false_iff_ne]; exact ho
        obtain ⟨b, c, hb, hc, hb32, hc32⟩ := hbc ho
        have hrx : Hid (rX x = max a (max b c)) := by show _ = _; unfold rX; rw [if_neg ho, ha, hb, hc]; simp
        clear ho hr hx hl2 hbc
        rw [ha] at c1
        rw [hb] at c2
        rw [hc] at c3
        clear ha hb hc
        go_wp2
        go_quiet (fail)
        go_wp2
        all_goals (
        go_roundg (n - (k + 1))
        case measure => rw [HG.out]; omega
        case rel => exact ⟨k + 1, max q (max a (max b c)), by omega, rfl, by go_num, by congr 1; omega, by omega, by show _ = _; rw [hsn.out, hrx.out], below_drewN hbw _⟩)
    · have hkn : k = n := by omega
      subst hkn
      have hR1 : Hid ((q : Int) + 1 = (R : Nat)) := Lib.hid (by have h1 := HR.out; have h2 := hs.out; unfold regN at h1; rw [← HN.out, mostN_all] at h2; omega)
      have HBW := Lib.hid hbw
      clear hlt hk hs HG hbw
      go_wp2
      go_ret
      exact ⟨by rw [hR1.out]; rfl, HBW.out⟩


/-- What good takes. -/
def goodB (l : List Ins) (most chars : Nat) : Bool := decide (l.length ≤ most) && decide (trees l ≤ chars) && rightAll l
theorem goodB_valid {l : List Ins} {most chars : Nat} (h : goodB l most chars = true) (h1 : most ≤ 4000) (h2 : chars ≤ 2000000) : validB l = true := by
  unfold goodB at h
  unfold validB
  simp only [Bool.and_eq_true, decide_eq_true_eq] at h ⊢
  exact ⟨⟨by omega, by omega⟩, h.2⟩
theorem goodB_whole (l : List Ins) : goodB l 4000 2000000 = validB l := rfl
theorem goodB_right {l : List Ins} {most chars : Nat} {k : Nat} {x : Ins} (hx : l[k]? = some x) (h : rightB x k l.length = false) : goodB l most chars = false := by
  unfold goodB
  rw [Bool.and_eq_false_iff]
  refine .inr ?_
  rw [Bool.eq_false_iff]
  intro hr
  have := rightAll_get hr hx
  rw [this] at h; cases h
theorem goodB_chars {l : List Ins} {most chars : Nat} (k : Nat) (h : chars < trees (l.take k)) : goodB l most chars = false := by
  unfold goodB
  rw [decide_eq_false (p := trees l ≤ chars) (by have := trees_take l k; omega), Bool.and_false, Bool.false_and]
set_option maxRecDepth 20000 in
set_option maxHeartbeats 16000000 in
theorem tgood_any (v : Value) (l : List Ins) (most chars : Nat) (hmost : most ≤ 4000) (hchars : chars ≤ 2000000) (w : World) (hl : InsRow w w.heap.size v l) :
    Calls Try.prog 61 #[v, .int .i64 most, .int .i64 chars] w fun e w' => e = .returned (.bool (goodB l most chars)) ∧ Below w.heap.size w w' := by
  obtain ⟨ao, cap, rfl⟩ := hl.len
  have hl63 := hl.2.1
  obtain ⟨n, hn'⟩ : ∃ n, l.length = n := ⟨_, rfl⟩
  rw [hn'] at hl hl63 ⊢
  have HN := Lib.hid hn'
  have hlw := Lib.hid hl
  obtain ⟨G, hG⟩ : ∃ G, goodB l most chars = G := ⟨_, rfl⟩
  rw [hG]
  have HGB := Lib.hid hG
  have hmI : (most : Int) ≤ 4000 := by omega
  have hcI : (chars : Int) ≤ 2000000 := by omega
  have hcN := Lib.hid hchars
  clear hl hn' hG hmost hchars
  by_cases hlong : (most : Int) < n
  · have hF : G = false := by rw [← HGB.out]; unfold goodB; rw [decide_eq_false (p := l.length ≤ most) (by rw [HN.out]; omega), Bool.false_and, Bool.false_and]
    subst hF
    go_enter Try.func61, Try.ntmps61
    go_wp2
    go_ret
    exact ⟨rfl, Below.refl _ _⟩
  · have hlong2 : ¬ most < n := by omega
    have hn4 : (n : Int) ≤ 4000 := by omega
    clear hl63
    go_enter Try.func61, Try.ntmps61
    go_wp2
    go_loopg [7, 8] n (fun gg m i wr => ∃ k q : Nat, k ≤ n ∧ gg = n - k ∧ m = .int .i64 q ∧ i = .int .i64 k ∧ q ≤ chars ∧ Hid (q = trees (l.take k) ∧ ∀ (j : Nat) x, j < k → l[j]? = some x → rightB x j n = true) ∧ Below w.heap.size w wr)
    case atStart => exact ⟨0, 0, by omega, rfl, rfl, rfl, by omega, Lib.hid ⟨rfl, fun j x h => by omega⟩, Below.refl _ _⟩
    case round =>
      obtain ⟨k, q, hk, hg, rfl, rfl, hq, hs, hbw⟩ := hrel
      have HG := Lib.hid hg
      clear hg
      by_cases hlt : k < n
      · obtain ⟨⟨op, a, b, c, tree⟩, hx⟩ : ∃ s, l[k]? = some s := ⟨_, List.getElem?_eq_getElem (by rw [HN.out]; exact hlt)⟩
        have hl2 := hlw.out.below hbw
        obtain ⟨g, off, rfl, hg, c0, c1, c2, c3, c4⟩ := hl2.get hx
        obtain ⟨w1, w2, w3, w4, w5⟩ := hl2.wf hx
        simp only at w1 w2 w3 w4 w5 c0 c1 c2 c3 c4
        unfold i64 at w1 w2 w3 w4
        have hi0 : (0 : Int) ≤ (k : Int) := Int.natCast_nonneg _
        have hi1 : (k : Int) < (n : Int) := by omega
        have hqI : (q : Int) ≤ 2000000 := by omega
        have htI : (tree.size : Int) ≤ 140737488355328 := by omega
        have HX := Lib.hid hx
        have hsn := Lib.hid (show trees (l.take (k + 1)) = q + tree.size by rw [take_snoc' _ _ _ hx, trees_snoc, ← hs.out.1])
        obtain ⟨r, hr⟩ : ∃ r, rightB ⟨op, a, b, c, tree⟩ k n = r := ⟨_, rfl⟩
        have HR := Lib.hid hr
        have HB0 := Lib.hid (hbw.alloc hbw.size (.cells #[.int .i64 op, .int .i64 a, .int .i64 b, .int .i64 c, .string tree] 75))
        have hblk := Lib.hid (heap_alloc_new wr (.cells #[.int .i64 op, .int .i64 a, .int .i64 b, .int .i64 c, .string tree] 75))
        have Kfail := Lib.hid (fun (h : r = false) => show G = false by rw [← HGB.out]; exact goodB_right HX.out (by rw [HN.out, HR.out]; exact h))
        have Kok := Lib.hid (fun (h : r = true) => show (q + tree.size = trees (l.take (k + 1)) ∧ ∀ (j : Nat) x, j < k + 1 → l[j]? = some x → rightB x j n = true) from ⟨hsn.out.symm, fun j x hj hjx => by
          by_cases e : j = k
          · subst e
            rw [HX.out] at hjx
            injection hjx with hjx
            subst hjx
            rw [HR.out]; exact h
          · exact hs.out.2 j x (by omega) hjx⟩)
        clear hx hl2 hs
        by_cases hbig : (chars : Int) < (q : Int) + tree.size
        · have hF : G = false := by rw [← HGB.out]; exact goodB_chars (k + 1) (by rw [hsn.out]; omega)
          subst hF
          clear hr
          go_wp2
          go_ret
          exact ⟨rfl, HB0.out⟩
        have hbig2 : q + tree.size ≤ chars := by omega
        have hbig3 : ¬ chars < q + tree.size := by omega
        unfold rightB at hr
        simp only at hr
        cases hra : regB a with
        | false =>
          have ka := treg_any a _ hra
          rw [hra] at hr
          simp only [Bool.false_and] at hr
          subst hr
          go_wp2_with fail
          refine (ka _).mono ?_
          rintro e w' ⟨rfl, rfl⟩
          go_wp2
          have hF := Kfail.out (by first | trivial | rfl)
          subst hF
          go_ret
          exact ⟨rfl, HB0.out⟩
        | true =>
          have ka := treg_any a _ hra
          rw [hra] at hr
          simp only [Bool.true_and] at hr
          by_cases o0 : op = 0
          · subst o0
            simp only [show ((0 : Int) == 0) = true from rfl, show ((0 : Int) == 2) = false from rfl, Bool.true_or, Bool.true_and, Bool.false_or, if_pos] at hr
            cases hc : (c == 0) with
            | false =>
              rw [hc] at hr
              simp only [Bool.false_and] at hr
              subst hr
              have hc' : (c != 0) = true := by show (!(c == 0)) = true; rw [hc]; rfl
              go_wp2_with fail
              refine (ka _).mono ?_
              rintro e w' ⟨rfl, rfl⟩
              go_wp2
              have hF := Kfail.out (by first | trivial | rfl)
              subst hF
              go_ret
              exact ⟨rfl, HB0.out⟩
            | true =>
              rw [hc] at hr
              simp only [Bool.true_and] at hr
              have hc' : (c != 0) = false := by show (!(c == 0)) = false; rw [hc]; rfl
              have kg := tgrow_any tree (by omega) chars hcN.out
              have hgb : growB tree chars = isTree tree := by unfold growB; rw [decide_eq_true (by omega), Bool.and_true]
              obtain ⟨bt, hbt⟩ : ∃ b, isTree tree = b := ⟨_, rfl⟩
              rw [hbt] at hr hgb
              have HGT := Lib.hid hgb
              clear hbt hgb
              go_wp2_with fail
              refine (ka _).mono ?_
              rintro e w' ⟨rfl, rfl⟩
              go_wp2_with fail
              refine (kg _).mono ?_
              rintro e w5 ⟨p5, rfl, -, -, hb5⟩
              rw [HGT.out]
              have HB0 := Lib.hid (HB0.out.trans (hb5.mono HB0.out.size))
              have hblk5 := (hb5.block wr.heap.size (by simp)).trans hblk.out
              have c0 := (block_cells hblk5).1 0
              have c1 := (block_cells hblk5).1 1
              have c2 := (block_cells hblk5).1 2
              have c3 := (block_cells hblk5).1 3
              have c4 := (block_cells hblk5).1 4
              simp only [List.getElem?_toArray, List.getElem?_cons_zero, List.getElem?_cons_succ] at c0 c1 c2 c3 c4
              clear hblk5 hb5
              cases hb : (b == 0) <;> rw [hb] at hr <;> cases bt <;> simp only [Bool.false_and, Bool.true_and] at hr <;> subst hr
              all_goals
                have hb' : (b != 0) = !(b == 0) := rfl
                rw [hb] at hb'
                go_wp2
                first
                  | (
                    have hF := Kfail.out (by first | trivial | rfl)
                    subst hF
                    go_ret
                    exact ⟨rfl, HB0.out⟩
                    )
                  | (
                    have hok := Kok.out (by first | trivial | rfl)
                    go_roundg (n - (k + 1))
                    case measure => rw [HG.out]; omega
                    case rel => exact ⟨k + 1, q + tree.size, by omega, rfl, by go_num, by go_num, by omega, Lib.hid hok, HB0.out⟩
                    )
          · have o0' : (op == 0) = false := by simpa using o0
            have o0n : (op != 0) = true := by simpa using o0
            rw [o0', if_neg o0] at hr
            simp only [Bool.false_or] at hr
            cases he : tree.toList.isEmpty with
            | false =>
              rw [he] at hr
              simp only [Bool.false_and] at hr
              subst hr
              have hen : (!tree.toList.isEmpty) = true := by rw [he]; rfl
              go_wp2_with fail
              refine (ka _).mono ?_
              rintro e w' ⟨rfl, rfl⟩
              go_wp2
              have hF := Kfail.out (by first | trivial | rfl)
              subst hF
              go_ret
              exact ⟨rfl, HB0.out⟩
            | true =>
              have hen : (!tree.toList.isEmpty) = false := by rw [he]; rfl
              rw [he] at hr
              simp only [Bool.true_and] at hr
              by_cases o2 : op = 2
              · subst o2
                rw [if_neg (by decide), if_pos rfl] at hr
                simp only [show ((2 : Int) == 2) = true from rfl, Bool.true_or, Bool.true_and] at hr
                have kb := treg_any b _ rfl
                have kc := treg_any c _ rfl
                cases hb : regB b <;> cases hcc : regB c <;> rw [hb] at hr kb <;> rw [hcc] at hr kc <;> simp only [Bool.false_and, Bool.true_and] at hr <;> subst hr
                all_goals
                  go_wp2_with fail
                  refine (ka _).mono ?_
                  rintro e w' ⟨rfl, rfl⟩
                  go_wp2_with fail
                  refine (kb _).mono ?_
                  rintro e w' ⟨rfl, rfl⟩
                  go_wp2_with fail
                  try (refine (kc _).mono ?_; rintro e w' ⟨rfl, rfl⟩; go_wp2)
                  first
                    | (
                      have hF := Kfail.out (by first | trivial | rfl)
                      subst hF
                      go_ret
                      exact ⟨rfl, HB0.out⟩
                      )
                    | (
                      have hok := Kok.out (by first | trivial | rfl)
                      go_roundg (n - (k + 1))
                      case measure => rw [HG.out]; omega
                      case rel => exact ⟨k + 1, q + tree.size, by omega, rfl, by go_num, by go_num, by omega, Lib.hid hok, HB0.out⟩
                      )
              · have o2' : (op == 2) = false := by simpa using o2
                have o2n : (op != 2) = true := by simpa using o2
                rw [o2'] at hr
                simp only [Bool.false_or] at hr
                cases hc : (c == 0) with
                | false =>
                  have hc' : (c != 0) = true := by show (!(c == 0)) = true; rw [hc]; rfl
                  rw [hc] at hr
                  simp only [Bool.false_and] at hr
                  subst hr
                  go_wp2_with fail
                  refine (ka _).mono ?_
                  rintro e w' ⟨rfl, rfl⟩
                  go_wp2
                  have hF := Kfail.out (by first | trivial | rfl)
                  subst hF
                  go_ret
                  exact ⟨rfl, HB0.out⟩
                | true =>
                  have hc' : (c != 0) = false := by show (!(c == 0)) = false; rw [hc]; rfl
                  rw [hc] at hr
                  simp only [Bool.true_and] at hr
                  by_cases o134 : op = 1 ∨ op = 3 ∨ op = 4
                  · rw [if_pos o134] at hr
                    have kb := treg_any b _ hr
                    rcases o134 with rfl | rfl | rfl
                    all_goals
                      cases r
                      all_goals
                        go_wp2_with fail
                        refine (ka _).mono ?_
                        rintro e w' ⟨rfl, rfl⟩
                        go_wp2_with fail
                        refine (kb _).mono ?_
                        rintro e w' ⟨rfl, rfl⟩
                        go_wp2
                        first
                          | (
                            have hF := Kfail.out (by first | trivial | rfl)
                            subst hF
                            go_ret
                            exact ⟨rfl, HB0.out⟩
                            )
                          | (
                            have hok := Kok.out (by first | trivial | rfl)
                            go_roundg (n - (k + 1))
                            case measure => rw [HG.out]; omega
                            case rel => exact ⟨k + 1, q + tree.size, by omega, rfl, by go_num, by go_num, by omega, Lib.hid hok, HB0.out⟩
                            )
                  · rw [if_neg o134, if_neg o2] at hr
                    by_cases o5 : op = 5
                    · subst o5
                      rw [if_pos rfl] at hr
                      cases d1 : decide (-(k : Int) ≤ b) <;> cases d2 : decide (b ≤ (n : Int) - k) <;> rw [d1, d2] at hr
                      · exfalso
                        simp only [decide_eq_false_iff_not] at d1 d2
                        omega
                      all_goals
                        simp only [Bool.and_true, Bool.and_false, Bool.and_self] at hr
                        subst hr
                        have e1 := d1
                        have e2 := d2
                        simp only [decide_eq_true_eq, decide_eq_false_iff_not, Int.not_le] at e1 e2
                        go_wp2_with fail
                        refine (ka _).mono ?_
                        rintro e w' ⟨rfl, rfl⟩
                        go_wp2
                        first
                          | (
                            have hF := Kfail.out (by first | trivial | rfl)
                            subst hF
                            go_ret
                            exact ⟨rfl, HB0.out⟩
                            )
                          | (
                            have hok := Kok.out (by first | trivial | rfl)
                            go_roundg (n - (k + 1))
                            case measure => rw [HG.out]; omega
                            case rel => exact ⟨k + 1, q + tree.size, by omega, rfl, by go_num, by go_num, by omega, Lib.hid hok, HB0.out⟩
                            )
                    · rw [if_neg o5] at hr
                      subst hr
                      have b1 : (op == 1) = false := by simp; omega
                      have b3 : (op == 3) = false := by simp; omega
                      have b4 : (op == 4) = false := by simp; omega
                      have b5 : (op == 5) = false := by simp; omega
                      go_wp2_with fail
                      refine (ka _).mono ?_
                      rintro e w' ⟨rfl, rfl⟩
                      go_wp2
                      have hF := Kfail.out (by first | trivial | rfl)
                      subst hF
                      go_ret
                      exact ⟨rfl, HB0.out⟩
      · have hkn : k = n := by omega
        subst hkn
        have hT : G = true := by
          rw [← HGB.out]
          unfold goodB
          simp only [Bool.and_eq_true, decide_eq_true_eq]
          refine ⟨⟨by rw [HN.out]; omega, ?_⟩, rightAll_iff.2 fun i x hx => by rw [HN.out]; exact hs.out.2 i x (by rw [← HN.out]; exact (List.getElem?_eq_some_iff.1 hx).1) hx⟩
          have h1 := hs.out.1
          rw [List.take_of_length_le (by rw [HN.out]; exact Nat.le_refl _)] at h1
          omega
        subst hT
        go_wp2
        go_ret
        exact ⟨rfl, hbw⟩
theorem twhole_any (v : Value) (l : List Ins) (b : Bool) (hb : validB l = b) (w : World) (hl : InsRow w w.heap.size v l) : Calls Try.prog 29 #[v] w fun e w' => e = .returned (.bool b) ∧ Below w.heap.size w w' := by
  have kg := Lib.hid (tgood_any v l 4000 2000000 (by omega) (by omega) w hl)
  rw [goodB_whole, hb] at kg
  obtain ⟨la, lc, rfl⟩ := hl.len
  clear hl hb
  go_enter Try.func29, Try.ntmps29
  go_wp2_with fail
  refine kg.out.mono ?_
  rintro e w1 ⟨rfl, hb1⟩
  go_wp2
  go_ret
  exact ⟨rfl, hb1⟩
/-- What few takes. -/
def fewB (ls : List (List Ins)) : Bool := ls.all fun l => goodB l 60 2000 && decide (regN l ≤ 28)
theorem fewB_get {ls : List (List Ins)} (h : fewB ls = true) {l : List Ins} (hl : l ∈ ls) : validB l = true ∧ regN l ≤ 28 ∧ l.length ≤ 60 ∧ trees l ≤ 2000 := by
  unfold fewB at h
  rw [List.all_eq_true] at h
  have h1 := h l hl
  simp only [Bool.and_eq_true, decide_eq_true_eq] at h1
  have h2 := h1.1
  unfold goodB at h2
  simp only [Bool.and_eq_true, decide_eq_true_eq] at h2
  exact ⟨goodB_valid h1.1 (by omega) (by omega), h1.2, h2.1.1, h2.1.2⟩
set_option maxRecDepth 20000 in
set_option maxHeartbeats 4000000 in
theorem tfew_any (v : Value) (ls : List (List Ins)) (hls : ls.length ≤ 10) (w : World) (hl : ProgsRow w w.heap.size v ls) :
    Calls Try.prog 21 #[v] w fun e w' => e = .returned (.bool (fewB ls)) ∧ Below w.heap.size w w' := by
  obtain ⟨ao, cap, rfl⟩ := hl.len
  obtain ⟨n, hn⟩ : ∃ n, ls.length = n := ⟨_, rfl⟩
  rw [hn] at hl hls ⊢
  have HN := Lib.hid hn
  have hL := Lib.hid hl
  obtain ⟨FB, hFB⟩ : ∃ F, fewB ls = F := ⟨_, rfl⟩
  rw [hFB]
  have HFB := Lib.hid hFB
  have ch := Lib.hid (Below.refl w.heap.size w)
  clear hl hn hFB
  go_enter Try.func21, Try.ntmps21
  go_wp2
  go_loopg [3] n (fun g i wr => ∃ (k : Nat), k ≤ n ∧ g = n - k ∧ i = .int .i64 k ∧ Hid (fewB (ls.take k) = true) ∧ Below w.heap.size w wr)
  case atStart => exact ⟨0, by omega, rfl, rfl, Lib.hid rfl, Below.refl _ _⟩
  case round =>
    obtain ⟨k, hk, hg, rfl, hVk, hq⟩ := hrel
    have HG := Lib.hid hg
    have hL := Lib.hid (hL.out.step hq)
    have ch := Lib.hid (ch.out.trans (hq.mono ch.out.size))
    clear hg hq
    by_cases hlt : k < n
    · obtain ⟨l, hlk⟩ : ∃ l, ls[k]? = some l := ⟨_, List.getElem?_eq_getElem (by rw [HN.out]; exact hlt)⟩
      obtain ⟨g, off, u, rfl, hg, c0, hu⟩ := hL.out.get hlk
      obtain ⟨ua, uc, rfl⟩ := hu.len
      have HLK := Lib.hid hlk
      have hU := Lib.hid hu
      have hsn := Lib.hid (show fewB (ls.take (k + 1)) = (goodB l 60 2000 && decide (regN l ≤ 28)) by
        have h1 := hVk.out
        unfold fewB at h1 ⊢
        rw [take_snoc' _ _ _ hlk, List.all_append, h1]; simp)
      have hbad := Lib.hid (fun (h : (goodB l 60 2000 && decide (regN l ≤ 28)) = false) => show FB = false by
        rw [← HFB.out, Bool.eq_false_iff]
        intro hall
        unfold fewB at hall
        rw [List.all_eq_true] at hall
        have := hall l (List.mem_of_getElem? hlk)
        rw [h] at this; cases this)
      obtain ⟨bg, hbg⟩ : ∃ b, goodB l 60 2000 = b := ⟨_, rfl⟩
      have HG1 := Lib.hid hbg
      have kg := Lib.hid (fun v w hl => tgood_any v l 60 2000 (by omega) (by omega) w hl)
      rw [hbg] at kg hsn hbad
      clear hu hlk hbg
      go_wp2_with fail
      refine (kg.out _ _ hU.out).mono ?_
      rintro e w1 ⟨rfl, hq⟩
      have hL := Lib.hid (hL.out.step hq)
      have ch := Lib.hid (ch.out.trans (hq.mono ch.out.size))
      clear hq c0
      cases bg with
      | false =>
        have hF := hbad.out (by simp)
        subst hF
        go_wp2
        go_ret
        exact ⟨rfl, ch.out⟩
      | true =>
        obtain ⟨g2, off2, u2, hgo2, hg2, c0, hu⟩ := hL.out.get HLK.out
        injection hgo2 with hgo2
        injection hgo2 with hgo3 hgo4
        subst hgo3
        have hoo : off = off2 := by omega
        subst hoo
        obtain ⟨ua2, uc2, rfl⟩ := hu.len
        have hv := goodB_valid HG1.out (by omega) (by omega)
        have kr := Lib.hid (tregs_ok _ l _ hu hv)
        obtain ⟨R, hR⟩ : ∃ R, regN l = R := ⟨_, rfl⟩
        have hR32 := (regN_le (validB_all hv)).2
        rw [hR] at kr hsn hbad hR32
        clear hu hgo4 hR hv
        have hRI : (R : Int) ≤ 32 := by omega
        go_wp2_with fail
        refine kr.out.mono ?_
        rintro e wz ⟨rfl, hq⟩
        have ch := Lib.hid (ch.out.trans (hq.mono ch.out.size))
        clear hq kr
        by_cases hr : (28 : Int) < R
        · have hF := hbad.out (by simp; omega)
          subst hF
          go_wp2
          go_ret
          exact ⟨rfl, ch.out⟩
        · have HVS := Lib.hid (show fewB (ls.take (k + 1)) = true by rw [hsn.out]; simp; omega)
          clear hVk hsn hbad
          go_wp2
          go_roundg (n - (k + 1))
          case measure => rw [HG.out]; omega
          case rel => exact ⟨k + 1, by omega, rfl, by go_num, HVS, ch.out⟩
    · obtain rfl : k = n := by omega
      have hT : FB = true := by have h := hVk.out; rw [List.take_of_length_le (by rw [HN.out]; exact Nat.le_refl _), HFB.out] at h; exact h
      subst hT
      go_wp2
      go_ret
      exact ⟨rfl, ch.out⟩
end Go.Proofs.Ytdjbcmfjlfkcjaa

